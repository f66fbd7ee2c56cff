/- Part of a proof that a law returns true for every input. No condition. -/
import Derived.Test.YtjedocbdhlppdaaUL1
namespace Go.gV
open Go Go.dp
def iW {α : Type} (ls : List (List α)) : Nat := e4 List.length ls
theorem Kt (n : Int) (bM : 0 ≤ n) (h : n ≤ 1099511627776) : vm n = some () := by
 unfold vm Cr yr
 have gd : IntKind.i64.wrap 0 = 0 := hi 0 (by omega)
 have a1 : IntKind.i64.wrap (n - 0) = n := by rw [hi (n - 0) (by omega)]; omega
 have d : decide (n < 0) = false := by simp only [decide_eq_false_iff_not]; omega
 rw [d, gd, a1, show lG 24 n = some () by unfold lG; rw [if_pos ⟨by omega, by omega, by omega⟩]]
 cases decide (0 < n) <;> rfl
theorem aiD (ls : List (List (List aA))) (h : ls.length ≤ 1048576) (ab : iW ls ≤ 1099511627776) : yu ls = some ls.flatten := by
 have nD : cX (fun n => pZ ls n [] 0) = some ls.flatten := by
  have key : ∀ i, i ≤ ls.length → ∀ (v : List (List aA)) m, v.length + iW (ls.drop i) ≤ 1099511627776 → ls.length - i < m → pZ ls m v (i : Int) = some (v ++ (ls.drop i).flatten) := by
   refine down ls.length ?_ ?_
   ·intro v m _ hm
    obtain ⟨m, rfl⟩ : ∃ aK, m = aK + 1 := ⟨m - 1, by omega⟩
    simp only [pZ, ys]
    rw [fe (Nat.le_refl _), List.drop_of_length_le (Nat.le_refl _)]; simp
   ·intro i au ih v m aQ hm
    obtain ⟨m, rfl⟩ : ∃ aK, m = aK + 1 := ⟨m - 1, by omega⟩
    rw [drop_cons ls i au] at aQ ⊢
    simp only [iW, e4] at aQ
    simp only [pZ, ys]
    rw [gj au, gE _ i au, gi i _ au (by omega)]
    simp only [cond_true, Option.bind_some]
    rw [iV (by omega) (by omega)]
    simp only [Option.bind_some]
    rw [ih _ m (by simp only [List.length_append, iW]; omega) (by omega)]
    simp only [List.flatten_cons, List.append_assoc]
  refine i7 (ls.length + 1) fun m hm => ?_
  have := key 0 (by omega) [] m (by simpa using ab) (by omega)
  simpa using this
 unfold yu
 have key : ∀ i, i ≤ ls.length → ∀ (v : Int) m, 0 ≤ v → v + iW (ls.drop i) ≤ 1099511627776 → ls.length - i < m → p0 ls m v (i : Int) = some ls.flatten := by
  refine down ls.length ?_ ?_
  ·intro v m bM aQ hm
   obtain ⟨m, rfl⟩ : ∃ aK, m = aK + 1 := ⟨m - 1, by omega⟩
   simp only [p0, yt]
   rw [fe (Nat.le_refl _), Kt v bM (by omega)]
   simp only [cond_false, Option.bind_some]
   exact nD
  ·intro i au ih v m bM aQ hm
   obtain ⟨m, rfl⟩ : ∃ aK, m = aK + 1 := ⟨m - 1, by omega⟩
   rw [drop_cons ls i au] at aQ
   simp only [iW, e4] at aQ
   simp only [p0, yt, Cs]
   rw [gj au, gE _ i au, gi i _ au (by omega)]
   simp only [cond_true, Option.bind_some]
   have e : IntKind.i64.wrap (v + (ls[i].length : Int)) = v + (ls[i].length : Int) := hi (v + (ls[i].length : Int)) ⟨by omega, by omega⟩
   have d : decide (v + (ls[i].length : Int) < 0) = false := by simp only [decide_eq_false_iff_not]; omega
   rw [e, d, cond_false]
   exact ih _ m (by omega) (by simp only [iW]; omega) (by omega)
 refine i7 (ls.length + 1) fun m hm => ?_
 exact key 0 (by omega) 0 m (by omega) (by rw [List.drop_zero]; omega) (by omega)
theorem aiE (x : aY) (aw : wK x) : tq x = some (x.Guard :: (x.bH ++ x.Next)) := by
 unfold tq
 have bd := aw.2.2.2.1.1
 have bI := aw.2.2.2.2.1
 rw [aiD _ (by simp) (by simp only [iW, e4, List.length_cons, List.length_nil]; omega)]
 simp
theorem aiF (x : aY) (p : Int) (ay : 0 ≤ p ∧ p ≤ 21) (eB : x.bo.length ≤ 8) (es : List (List aA)) (h : es.length ≤ 1099511627776) (he : ∀ e ∈ es, e.length ≤ 1048576) :
  rp es p x = some (!l6 es (p + x.bo.length)) := by
 unfold rp Cv
 rw [Dp (f := fun e => yy e p x) es (fun e => !kH e (p + x.bo.length) 60) (fun m i => by simp only [vn, Cu]) (fun e hm => by
  unfold yy
  have hw : IntKind.i64.wrap (p + (x.bo.length : Int)) = p + (x.bo.length : Int) := hi (p + (x.bo.length : Int)) ⟨by omega, by omega⟩
  rw [hw, aip e _ 60 (by omega) (by omega) (he e hm)]; rfl) h]
 simp only [Option.bind_some, zQ, Dq]
 rfl
theorem aiG (x : aY) (p : Int) (ay : 0 ≤ p ∧ p ≤ 21) (aw : wK x) : yz x p = some (mA x p) := by
 have pg := aw
 obtain ⟨ag, ah, aM, bd, bI⟩ := aw
 unfold yz mA
 rw [aiy x ag]
 simp only [Option.bind_some]
 cases ab : nQ x.bo
 ·rfl
 ·have eB : x.bo.length ≤ 8 := by simp only [nQ, Bool.and_eq_true, decide_eq_true_eq] at ab; exact ab.1
  have Bp : rp (x.Guard :: (x.bH ++ x.Next)) p x = some (!(kH x.Guard (p + x.bo.length) 60 && (l6 x.bH (p + x.bo.length) && l6 x.Next (p + x.bo.length)))) := by
   have alk := bd.1
   have alm := bI.1
   rw [aiF x p ay eB _ (by simp only [List.length_cons, List.length_append]; omega) (fun e he => by
    rcases List.mem_cons.1 he with rfl | he
    ·exact ah
    ·rcases List.mem_append.1 he with he | he
     ·exact bd.2 e he
     ·exact bI.2 e he)]
   simp only [l6, List.all_cons, List.all_append]
  rw [aiE x pg, aiA _ (by omega)]
  simp only [Option.bind_some, Bp, Bool.not_true, Bool.false_or, Bool.true_and, Bool.not_not]
  cases bh : (x.Next.length : Int) == p
  ·have : ((x.Next.length : Int) != p) = true := by simp only [bne, bh]; rfl
   rw [this]
   cases kH x.Guard (p + (x.bo.length : Int)) 60 <;> rfl
  ·have : ((x.Next.length : Int) != p) = false := by simp only [bne, bh]; rfl
   rw [this]
   simp only [cond_false, Bool.true_and]
   by_cases a3 : x.Name = o_
   ·rw [Kr a3, if_pos a3]
    simp only [cond_true, Bool.not_true, cond_false]
    by_cases bX : x.bH.length = 0
    ·have d1 : decide ((0 : Int) < (x.bH.length : Int)) = false := by simp only [decide_eq_false_iff_not]; omega
     have d3 : decide (x.bH.length = 0) = true := by simpa using bX
     rw [d1, d3]; simp
    ·have d1 : decide ((0 : Int) < (x.bH.length : Int)) = true := by simp only [decide_eq_true_eq]; omega
     have d3 : decide (x.bH.length = 0) = false := by simpa using bX
     rw [d1, d3]
     cases kH x.Guard (p + (x.bo.length : Int)) 60 <;> rfl
   ·rw [Ks a3, if_neg a3]
    simp only [Bool.not_false, cond_true, cond_false]
    by_cases bX : x.bH.length ≤ 2
    ·have d2 : decide ((2 : Int) < (x.bH.length : Int)) = false := by simp only [decide_eq_false_iff_not]; omega
     have d3 : decide (x.bH.length ≤ 2) = true := by simpa using bX
     rw [d2, d3]
     cases decide ((0 : Int) < (x.bH.length : Int)) <;> cases qq x.Name <;> cases kH x.Guard (p + (x.bo.length : Int)) 60 <;> simp
    ·have d1 : decide ((0 : Int) < (x.bH.length : Int)) = true := by simp only [decide_eq_true_eq]; omega
     have d2 : decide ((2 : Int) < (x.bH.length : Int)) = true := by simp only [decide_eq_true_eq]; omega
     have d3 : decide (x.bH.length ≤ 2) = false := by simpa using bX
     rw [d1, d2, d3]
     cases qq x.Name <;> cases kH x.Guard (p + (x.bo.length : Int)) 60 <;> rfl
theorem aiH (l : bc) (s : List Int) (h : s.length ≤ 1048576) : yn l s = some (qs s l.aV) := by
 unfold yn Cp Co Cn
 rw [Dp (f := Cl) s (fun n => !h7 n 0 63) (fun m i => by simp only [vj, Cm]) (fun n _ => rfl) (by omega)]
 simp only [Option.bind_some, zQ, Dq, Bool.not_not]
 unfold qs
 cases (s.length : Int) == l.aV <;> rfl
theorem Ds (l : bc) (h : k5 l) : tr l = some (jC l) := by
 unfold tr jC mn
 simp only [Option.bind_some, wJ]
 rw [aiH _ _ h.1]
 simp only [Option.bind_some]
 cases ay : h7 l.aV 0 21
 ·rfl
 ·cases qs l.Start l.aV
  ·rfl
  ·simp only [Bool.not_true, cond_false, Bool.false_or, Bool.true_and]
   have dP : 0 ≤ l.aV ∧ l.aV ≤ 21 := by simpa [h7] using ay
   by_cases wL : l.bG.length ≤ 60
   ·have d1 : decide ((60 : Int) < (l.bG.length : Int)) = false := by simp only [decide_eq_false_iff_not]; omega
    have d2 : decide (l.bG.length ≤ 60) = true := by simpa using wL
    rw [d1, d2, cond_false, Bool.true_and]
    unfold Cy Cx
    rw [Dp (f := fun x => yA x l) l.bG (fun x => !mA x l.aV) (fun m i => by simp only [vo, Cw]) (fun x aw => by
     unfold yA
     rw [aiG x _ dP (h.2.2 x aw)]; rfl) (by omega)]
    simp only [Option.bind_some, zQ, Dq, Bool.not_not]
   ·have d1 : decide ((60 : Int) < (l.bG.length : Int)) = true := by simp only [decide_eq_true_eq]; omega
    have d2 : decide (l.bG.length ≤ 60) = false := by simpa using wL
    rw [d1, d2]; rfl
end Go.gV
