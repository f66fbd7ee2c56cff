/- Part of a proof that a law returns true for every input. No condition. -/
import Derived.Test.YtobljppjkklojaaUL1
namespace Go.fH
open Go Go.cM
def od {α : Type} (ls : List (List α)) : Nat := ef List.length ls
theorem Zv (n : Int) (bp : 0 ≤ n) (h : n ≤ 1099511627776) : vq n = some [] := by
 unfold vq y1 vp
 have fE : IntKind.i64.wrap 0 = 0 := gH 0 (by omega)
 have aJ : IntKind.i64.wrap (n - 0) = n := by rw [gH (n - 0) (by omega)]; omega
 have d : decide (n < 0) = false := by simp only [decide_eq_false_iff_not]; omega
 rw [d, fE, aJ, show lQ 24 n = some () by unfold lQ; rw [if_pos ⟨by omega, by omega, by omega⟩]]
 cases decide (0 < n) <;> rfl
theorem Zw (ls : List (List (List a2))) (h : ls.length ≤ 1048576) (U : od ls ≤ 1099511627776) : vu ls = some ls.flatten := by
 have y3 : lim (fun n => nW ls n [] 0) = some ls.flatten := by
  have key : ∀ i, i ≤ ls.length → ∀ (v : List (List a2)) m, v.length + od (ls.drop i) ≤ 1099511627776 → ls.length - i < m → nW ls m v (i : Int) = some (v ++ (ls.drop i).flatten) := by
   refine down ls.length ?_ ?_
   ·intro v m _ hm
    obtain ⟨m, rfl⟩ : ∃ ar, m = ar + 1 := ⟨m - 1, by omega⟩
    simp only [nW, vr]
    rw [gI (Nat.le_refl _), List.drop_of_length_le (Nat.le_refl _)]; simp
   ·intro i az ih v m aG hm
    obtain ⟨m, rfl⟩ : ∃ ar, m = ar + 1 := ⟨m - 1, by omega⟩
    rw [drop_cons ls i az] at aG ⊢
    simp only [od, ef] at aG
    simp only [nW, vr]
    rw [h0 az, gT _ i az, hZ i _ az (by omega)]
    simp only [cond_true, Option.bind_some]
    rw [rq (by omega) (by omega)]
    simp only [Option.bind_some]
    rw [ih _ m (by simp only [List.length_append, od]; omega) (by omega)]
    simp only [List.flatten_cons, List.append_assoc]
  refine h1 (ls.length + 1) fun m hm => ?_
  have := key 0 (by omega) [] m (by simpa using U) (by omega)
  simpa using this
 unfold vu
 have key : ∀ i, i ≤ ls.length → ∀ (v : Int) m, 0 ≤ v → v + od (ls.drop i) ≤ 1099511627776 → ls.length - i < m → nX ls m v (i : Int) = some ls.flatten := by
  refine down ls.length ?_ ?_
  ·intro v m bp aG hm
   obtain ⟨m, rfl⟩ : ∃ ar, m = ar + 1 := ⟨m - 1, by omega⟩
   simp only [nX, vt]
   rw [gI (Nat.le_refl _), Zv v bp (by omega)]
   simp only [cond_false, Option.bind_some]
   exact y3
  ·intro i az ih v m bp aG hm
   obtain ⟨m, rfl⟩ : ∃ ar, m = ar + 1 := ⟨m - 1, by omega⟩
   rw [drop_cons ls i az] at aG
   simp only [od, ef] at aG
   simp only [nX, vt, y2]
   rw [h0 az, gT _ i az, hZ i _ az (by omega)]
   simp only [cond_true, Option.bind_some]
   have e : IntKind.i64.wrap (v + (ls[i].length : Int)) = v + (ls[i].length : Int) := gH (v + (ls[i].length : Int)) ⟨by omega, by omega⟩
   have d : decide (v + (ls[i].length : Int) < 0) = false := by simp only [decide_eq_false_iff_not]; omega
   rw [e, d, cond_false]
   exact ih _ m (by omega) (by simp only [od]; omega) (by omega)
 refine h1 (ls.length + 1) fun m hm => ?_
 exact key 0 (by omega) 0 m (by omega) (by rw [List.drop_zero]; omega) (by omega)
theorem Zx (x : bu) (ai : wF x) : q5 x = some (x.Guard :: (x.bK ++ x.Next)) := by
 unfold q5
 have aZ := ai.2.2.2.1.1
 have bG := ai.2.2.2.2.1
 rw [Zw _ (by simp) (by simp only [od, ef, List.length_cons, List.length_nil]; omega)]
 simp
theorem Zy (x : bu) (p : Int) (ao : 0 ≤ p ∧ p ≤ 21) (dG : x.bz.length ≤ 8) (es : List (List a2)) (h : es.length ≤ 1099511627776) (he : ∀ e ∈ es, e.length ≤ 1048576) :
  pj es p x = some (!lO es (p + x.bz.length)) := by
 unfold pj y6
 rw [zI (f := fun e => vy e p x) es (fun e => !j_ e (p + x.bz.length) 60) (fun m i => by simp only [sQ, y5]) (fun e hm => by
  unfold vy
  have hw : IntKind.i64.wrap (p + (x.bz.length : Int)) = p + (x.bz.length : Int) := gH (p + (x.bz.length : Int)) ⟨by omega, by omega⟩
  rw [hw, Zh e _ 60 (by omega) (by omega) (he e hm)]; rfl) h]
 simp only [Option.bind_some, tt, zJ]
 rfl
theorem Zz (x : bu) (p : Int) (ao : 0 ≤ p ∧ p ≤ 21) (ai : wF x) : vz x p = some (oc x p) := by
 have rV := ai
 obtain ⟨aa, ab, aE, aZ, bG⟩ := ai
 unfold vz oc
 rw [Zp x aa]
 simp only [Option.bind_some]
 cases U : mT x.bz
 ·rfl
 ·have dG : x.bz.length ≤ 8 := by simp only [mT, Bool.and_eq_true, decide_eq_true_eq] at U; exact U.1
  have x7 : pj (x.Guard :: (x.bK ++ x.Next)) p x = some (!(j_ x.Guard (p + x.bz.length) 60 && (lO x.bK (p + x.bz.length) && lO x.Next (p + x.bz.length)))) := by
   have ab_ := aZ.1
   have aca := bG.1
   rw [Zy x p ao dG _ (by simp only [List.length_cons, List.length_append]; omega) (fun e he => by
    rcases List.mem_cons.1 he with rfl | he
    ·exact ab
    ·rcases List.mem_append.1 he with he | he
     ·exact aZ.2 e he
     ·exact bG.2 e he)]
   simp only [lO, List.all_cons, List.all_append]
  rw [Zx x rV, Zr _ (by omega)]
  simp only [Option.bind_some, x7, Bool.not_true, Bool.false_or, Bool.true_and, Bool.not_not]
  cases bh : (x.Next.length : Int) == p
  ·have : ((x.Next.length : Int) != p) = true := by simp only [bne, bh]; rfl
   rw [this]
   cases j_ x.Guard (p + (x.bz.length : Int)) 60 <;> rfl
  ·have : ((x.Next.length : Int) != p) = false := by simp only [bne, bh]; rfl
   rw [this]
   simp only [cond_false, Bool.true_and]
   by_cases aP : x.Name = ob
   ·rw [FQ aP, if_pos aP]
    simp only [cond_true, Bool.not_true, cond_false]
    by_cases b1 : x.bK.length = 0
    ·have d1 : decide ((0 : Int) < (x.bK.length : Int)) = false := by simp only [decide_eq_false_iff_not]; omega
     have d3 : decide (x.bK.length = 0) = true := by simpa using b1
     rw [d1, d3]; simp
    ·have d1 : decide ((0 : Int) < (x.bK.length : Int)) = true := by simp only [decide_eq_true_eq]; omega
     have d3 : decide (x.bK.length = 0) = false := by simpa using b1
     rw [d1, d3]
     cases j_ x.Guard (p + (x.bz.length : Int)) 60 <;> rfl
   ·rw [FR aP, if_neg aP]
    simp only [Bool.not_false, cond_true, cond_false]
    by_cases b1 : x.bK.length ≤ 2
    ·have d2 : decide ((2 : Int) < (x.bK.length : Int)) = false := by simp only [decide_eq_false_iff_not]; omega
     have d3 : decide (x.bK.length ≤ 2) = true := by simpa using b1
     rw [d2, d3]
     cases decide ((0 : Int) < (x.bK.length : Int)) <;> cases pI x.Name <;> cases j_ x.Guard (p + (x.bz.length : Int)) 60 <;> simp
    ·have d1 : decide ((0 : Int) < (x.bK.length : Int)) = true := by simp only [decide_eq_true_eq]; omega
     have d2 : decide ((2 : Int) < (x.bK.length : Int)) = true := by simp only [decide_eq_true_eq]; omega
     have d3 : decide (x.bK.length ≤ 2) = false := by simpa using b1
     rw [d1, d2, d3]
     cases pI x.Name <;> cases j_ x.Guard (p + (x.bz.length : Int)) 60 <;> rfl
theorem ZA (l : dM) (s : List Int) (h : s.length ≤ 1048576) : vl l s = some (pJ s l.dK) := by
 unfold vl yZ yY yX
 rw [zI (f := yV) s (fun n => !g7 n 0 63) (fun m i => by simp only [sN, yW]) (fun n _ => rfl) (by omega)]
 simp only [Option.bind_some, tt, zJ, Bool.not_not]
 unfold pJ
 cases (s.length : Int) == l.dK <;> rfl
theorem ZB (l : dM) (h : zL l) : vB l = some (tw l) := by
 unfold vB tw kW
 simp only [Option.bind_some, tx]
 rw [ZA _ _ h.1]
 simp only [Option.bind_some]
 cases ao : g7 l.dK 0 21
 ·rfl
 ·cases pJ l.Start l.dK
  ·rfl
  ·simp only [Bool.not_true, cond_false, Bool.false_or, Bool.true_and]
   have dj : 0 ≤ l.dK ∧ l.dK ≤ 21 := by simpa [g7] using ao
   by_cases tz : l.cG.length ≤ 60
   ·have d1 : decide ((60 : Int) < (l.cG.length : Int)) = false := by simp only [decide_eq_false_iff_not]; omega
    have d2 : decide (l.cG.length ≤ 60) = true := by simpa using tz
    rw [d1, d2, cond_false, Bool.true_and]
    unfold y9 y8
    rw [zI (f := fun x => vA x l) l.cG (fun x => !oc x l.dK) (fun m i => by simp only [sR, y7]) (fun x ai => by
     unfold vA
     rw [Zz x _ dj (h.2.2 x ai)]; rfl) (by omega)]
    simp only [Option.bind_some, tt, zJ, Bool.not_not]
   ·have d1 : decide ((60 : Int) < (l.cG.length : Int)) = true := by simp only [decide_eq_true_eq]; omega
    have d2 : decide (l.cG.length ≤ 60) = false := by simpa using tz
    rw [d1, d2]; rfl
end Go.fH
