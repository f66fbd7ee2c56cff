/- Part of a proof that a law returns true for every input. No condition. -/
import Derived.Test.YtobljppjkklojaaUA
import Derived.Test.YtobljppjkklojaaUB
import Derived.Test.YtobljppjkklojaaUL0
namespace Go.fH
open Go Go.cM
def mn (p : Int) (s : List Int) : Int := s.foldl (fun p n => IntKind.i64.wrap (p * IntKind.i64.wrap (n + 1))) p
def pH (v : Int) : Bool := decide (v ≤ 4096)
def mT (s : List Int) : Bool := decide (s.length ≤ 8) && (s.all (fun n => g7 n 1 7) && pH (mn 1 s))
def ob : List UInt8 := [116, 97, 117]
def pI (s : List UInt8) : Bool := rz s && !(s == ob)
def lO (es : List (List a2)) (v : Int) : Bool := es.all fun e => j_ e v 60
def oc (x : bu) (p : Int) : Bool :=
 mT x.bz && (j_ x.Guard (p + x.bz.length) 60 && ((x.Next.length : Int) == p && ((if x.Name = ob then decide (x.bK.length = 0) else pI x.Name && decide (x.bK.length ≤ 2)) &&
  (lO x.bK (p + x.bz.length) && lO x.Next (p + x.bz.length)))))
def pJ (s : List Int) (p : Int) : Bool := (s.length : Int) == p && s.all (fun n => g7 n 0 63)
def tw (l : dM) : Bool := g7 l.dK 0 21 && (pJ l.Start l.dK && (decide (l.cG.length ≤ 60) && l.cG.all fun x => oc x l.dK))
theorem FM (p : Int) : mn p [] = p := rfl
theorem FN (p n : Int) (s : List Int) : mn p (n :: s) = mn (IntKind.i64.wrap (p * IntKind.i64.wrap (n + 1))) s := rfl
theorem tx (n cy az : Int) : (decide (cy ≤ n) && decide (n ≤ az)) = g7 n cy az := rfl
theorem FO : ∀ (s : List Int) (p : Int), s.all (fun n => g7 n 1 7) = true → 1 ≤ p → p * 8 ^ s.length ≤ 1099511627776 → 1 ≤ mn p s
 | [], p, _, h, _ => h
 | n :: s, p, b1, h, J => by
   simp only [List.all_cons, Bool.and_eq_true, g7, decide_eq_true_eq] at b1
   obtain ⟨⟨aa, ab⟩, aE⟩ := b1
   have aJ : IntKind.i64.wrap (n + 1) = n + 1 := gH _ (by omega)
   have Zl : (1 : Int) ≤ 8 ^ s.length := by
    have : (0 : Int) < 8 ^ s.length := Int.pow_pos (by decide)
    omega
   have Zm : p * 8 * 8 ^ s.length ≤ 1099511627776 := by
    have : p * 8 * 8 ^ s.length = p * 8 ^ (n :: s).length := by rw [List.length_cons, Int.pow_succ, Int.mul_assoc, Int.mul_comm 8]
    rw [this]; exact J
   have hle : p * (n + 1) ≤ p * 8 := Int.mul_le_mul_of_nonneg_left (by omega) (by omega)
   have ab8 : p * 8 * 1 ≤ p * 8 * 8 ^ s.length := Int.mul_le_mul_of_nonneg_left Zl (by omega)
   have pT : p * 1 ≤ p * (n + 1) := Int.mul_le_mul_of_nonneg_left (by omega) (by omega)
   have aT : IntKind.i64.wrap (p * (n + 1)) = p * (n + 1) := gH _ (by omega)
   simp only [mn, List.foldl_cons, aJ, aT]
   refine FO s (p * (n + 1)) (by simpa [g7] using aE) (by omega) ?_
   exact Int.le_trans (Int.mul_le_mul_of_nonneg_right hle (by omega)) Zm
def wE (v : Int) (s : List Int) : Int := cond (s.all fun n => g7 n 1 7) (cond (pH (mn v s)) (mn v s) 0) 0
theorem Zn (v : Int) : decide (4096 < v) = !pH v := by
 unfold pH
 by_cases h : v ≤ 4096
 ·have : ¬ 4096 < v := by omega
  simp [h, this]
 ·have : 4096 < v := by omega
  simp [h, this]
theorem Zo (s : List Int) (h : s.length ≤ 1048576) : ∃ n, u3 s = some n ∧ (n == 0) = !mT s := by
 unfold u3
 by_cases dG : s.length ≤ 8
 ·have d : decide ((8 : Int) < (s.length : Int)) = false := by simp only [decide_eq_false_iff_not]; omega
  rw [d, cond_false]
  have key : ∀ i, i ≤ s.length → ∀ (v : Int) m, s.length - i < m → pc s m v (i : Int) = some (wE v (s.drop i)) := by
   refine down s.length ?_ ?_
   ·intro v m hm
    obtain ⟨m, rfl⟩ : ∃ ar, m = ar + 1 := ⟨m - 1, by omega⟩
    simp only [pc, u2]
    rw [gI (Nat.le_refl _), List.drop_of_length_le (Nat.le_refl _), Zn]
    simp only [wE, List.all_nil, cond_true, cond_false, FM]
    cases pH v <;> rfl
   ·intro i az ih v m hm
    obtain ⟨m, rfl⟩ : ∃ ar, m = ar + 1 := ⟨m - 1, by omega⟩
    simp only [pc, u2, mg]
    rw [h0 az, gT _ i az, hZ i _ az (by omega), drop_cons s i az]
    simp only [cond_true, Option.bind_some]
    rw [ih _ m (by omega)]
    simp only [tx, wE, List.all_cons, FN]
    cases g7 s[i] 1 7
    ·rfl
    ·rfl
  refine ⟨_, h1 (s.length + 1) fun m hm => by have := key 0 (by omega) 1 m (by omega); simpa using this, ?_⟩
  unfold mT wE
  have d8 : decide (s.length ≤ 8) = true := by simpa using dG
  rw [d8, Bool.true_and]
  cases b1 : s.all (fun n => g7 n 1 7)
  ·rfl
  ·have ao := FO s 1 b1 (by omega) (by
    have : ∀ k : Nat, k ≤ 8 → (8 : Int) ^ k ≤ 16777216 := by decide
    have := this s.length dG
    omega)
   cases hw : pH (mn 1 s)
   ·rfl
   ·have : (mn 1 s == 0) = false := by simp; omega
    simpa using this
 ·have d : decide ((8 : Int) < (s.length : Int)) = true := by simp only [decide_eq_true_eq]; omega
  rw [d, cond_true]
  refine ⟨0, rfl, ?_⟩
  unfold mT
  have d8 : decide (s.length ≤ 8) = false := by simpa using dG
  rw [d8]; rfl
theorem Zp (x : bu) (h : x.bz.length ≤ 1048576) : vn x = some (mT x.bz) := by
 unfold vn
 have key : ∀ i, i ≤ x.bz.length → ∀ (v : Int) m, x.bz.length - i < m → pg x m v (i : Int) = some ((x.bz.drop i).all (fun n => g7 n 1 7) && (decide (x.bz.length ≤ 8) && pH (mn v (x.bz.drop i)))) := by
  refine down x.bz.length ?_ ?_
  ·intro v m hm
   obtain ⟨m, rfl⟩ : ∃ ar, m = ar + 1 := ⟨m - 1, by omega⟩
   simp only [pg, vm]
   rw [gI (Nat.le_refl _), List.drop_of_length_le (Nat.le_refl _)]
   have : decide ((x.bz.length : Int) ≤ 8) = decide (x.bz.length ≤ 8) := by
    by_cases h : x.bz.length ≤ 8
    ·have bq : (x.bz.length : Int) ≤ 8 := by omega
     simp [h, bq]
    ·have bq : ¬ (x.bz.length : Int) ≤ 8 := by omega
     simp [h, bq]
   rw [this]
   simp only [cond_false, List.all_nil, Bool.true_and, FM]
   rfl
  ·intro i az ih v m hm
   obtain ⟨m, rfl⟩ : ∃ ar, m = ar + 1 := ⟨m - 1, by omega⟩
   simp only [pg, vm, kW]
   rw [h0 az, gT _ i az, hZ i _ az (by omega), drop_cons x.bz i az]
   simp only [cond_true, Option.bind_some, List.all_cons]
   rw [ih _ m (by omega)]
   simp only [tx, FN]
   cases g7 x.bz[i] 1 7 <;> simp
 refine h1 (x.bz.length + 1) fun m hm => ?_
 have := key 0 (by omega) 1 m (by omega)
 rw [List.drop_zero] at this
 refine this.trans ?_
 unfold mT
 cases x.bz.all (fun n => g7 n 1 7) <;> simp
theorem FP (es : List (List a2)) (v : Int) (aG : -1000000 ≤ v ∧ v ≤ 1000000) (h : es.length ≤ 1048576) (he : ∀ e ∈ es, e.length ≤ 1048576) : pe es v = some (lO es v) := by
 unfold pe lO
 refine zH es (fun e => j_ e v 60) (fun m => ?_) fun i az m => ?_
 ·simp only [qX, u6]; rw [gI (Nat.le_refl _)]; rfl
 ·simp only [qX, u6]
  rw [h0 az, gT _ i az, hZ i _ az (by omega)]
  simp only [cond_true, Option.bind_some, FK _ v 60 aG (he _ (List.getElem_mem az))]
  cases j_ es[i] v 60 <;> rfl
theorem Zq (s : List UInt8) : u_ s = some (pI s) := by
 unfold u_; rw [Zi]; rfl
theorem Zr (s : List UInt8) (U : s.length ≤ 140737488355328) : sP s = some (pI s) := by
 unfold sP; rw [Zj s U]; rfl
def zK (e : List (List a2)) : Prop := e.length ≤ 1048576 ∧ ∀ t ∈ e, t.length ≤ 1048576
def wF (x : bu) : Prop := x.bz.length ≤ 1048576 ∧ x.Guard.length ≤ 1048576 ∧ x.Name.length ≤ 1048576 ∧ zK x.bK ∧ zK x.Next
def zL (l : dM) : Prop := l.Start.length ≤ 1048576 ∧ l.cG.length ≤ 1048576 ∧ ∀ x ∈ l.cG, wF x
def ab9 (x : bu) : Bool := if x.Name = ob then decide (x.bK.length = 0) else pI x.Name && decide (x.bK.length ≤ 2)
theorem FQ {s : List UInt8} (h : s = ob) : (s == ([116, 97, 117] : List UInt8)) = true := by subst h; rfl
theorem FR {s : List UInt8} (h : s ≠ ob) : (s == ([116, 97, 117] : List UInt8)) = false := by simpa [ob] using h
theorem Zs (x : bu) (p : Int) (ao : 0 ≤ p ∧ p ≤ 21) (ai : wF x) : va x p = some (oc x p) := by
 obtain ⟨aa, ab, aE, aZ, bG⟩ := ai
 unfold va oc
 obtain ⟨n, aJ, aT⟩ := Zo x.bz aa
 rw [aJ]
 simp only [Option.bind_some, aT]
 cases U : mT x.bz
 ·rfl
 ·have dG : x.bz.length ≤ 8 := by simp only [mT, Bool.and_eq_true, decide_eq_true_eq] at U; exact U.1
  have hw : IntKind.i64.wrap (p + (x.bz.length : Int)) = p + (x.bz.length : Int) := gH (p + (x.bz.length : Int)) ⟨by omega, by omega⟩
  simp only [hw, FK x.Guard (p + (x.bz.length : Int)) 60 (by omega) ab, FP x.bK (p + (x.bz.length : Int)) (by omega) aZ.1 aZ.2, FP x.Next (p + (x.bz.length : Int)) (by omega) bG.1 bG.2, Zq, Option.bind_some, Bool.not_true, cond_false, Bool.true_and]
  cases j_ x.Guard (p + (x.bz.length : Int)) 60
  ·rfl
  ·cases bh : (x.Next.length : Int) == p
   ·have : ((x.Next.length : Int) != p) = true := by simp only [bne, bh]; rfl
    rw [this]; rfl
   ·have : ((x.Next.length : Int) != p) = false := by simp only [bne, bh]; rfl
    rw [this]
    simp only [Bool.not_true, Bool.or_self, cond_false, Bool.true_and]
    by_cases aP : x.Name = ob
    ·rw [FQ aP, if_pos aP]
     simp only [cond_true, Bool.not_true, cond_false]
     by_cases b1 : x.bK.length = 0
     ·have d1 : decide ((0 : Int) < (x.bK.length : Int)) = false := by simp only [decide_eq_false_iff_not]; omega
      have d2 : decide ((2 : Int) < (x.bK.length : Int)) = false := by simp only [decide_eq_false_iff_not]; omega
      have d3 : decide (x.bK.length = 0) = true := by simpa using b1
      rw [d1, d2, d3]
      cases lO x.bK (p + (x.bz.length : Int)) <;> cases lO x.Next (p + (x.bz.length : Int)) <;> rfl
     ·have d1 : decide ((0 : Int) < (x.bK.length : Int)) = true := by simp only [decide_eq_true_eq]; omega
      have d3 : decide (x.bK.length = 0) = false := by simpa using b1
      rw [d1, d3]; rfl
    ·rw [FR aP, if_neg aP]
     simp only [Bool.not_false, cond_true, cond_false]
     cases pI x.Name
     ·rfl
     ·by_cases b1 : x.bK.length ≤ 2
      ·have d2 : decide ((2 : Int) < (x.bK.length : Int)) = false := by simp only [decide_eq_false_iff_not]; omega
       have d3 : decide (x.bK.length ≤ 2) = true := by simpa using b1
       rw [d2, d3]
       cases lO x.bK (p + (x.bz.length : Int)) <;> cases lO x.Next (p + (x.bz.length : Int)) <;> rfl
      ·have d2 : decide ((2 : Int) < (x.bK.length : Int)) = true := by simp only [decide_eq_true_eq]; omega
       have d3 : decide (x.bK.length ≤ 2) = false := by simpa using b1
       rw [d2, d3]; rfl
theorem Zt (s : List Int) (p : Int) (h : s.length ≤ 1048576) : u1 s p = some (pJ s p) := by
 unfold u1 pJ
 have e : u0 s = some (s.all fun n => g7 n 0 63) := by
  unfold u0
  refine zH s (fun n => g7 n 0 63) (fun m => ?_) fun i az m => ?_
  ·simp only [qW, uZ]; rw [gI (Nat.le_refl _)]; rfl
  ·simp only [qW, uZ, mg]
   rw [h0 az, gT _ i az, hZ i _ az (by omega)]
   simp only [cond_true, Option.bind_some, tx]
   cases g7 s[i] 0 63 <;> rfl
 rw [e]
 cases (s.length : Int) == p <;> rfl
theorem Zu (l : dM) (h : zL l) : vc l = some (tw l) := by
 unfold vc tw mg
 simp only [Option.bind_some, tx]
 rw [Zt _ _ h.1]
 simp only [Option.bind_some]
 cases ao : g7 l.dK 0 21
 ·rfl
 ·cases pJ l.Start l.dK
  ·rfl
  ·simp only [Bool.not_true, cond_false, Bool.false_or, Bool.true_and]
   have dj : 0 ≤ l.dK ∧ l.dK ≤ 21 := by simpa [g7] using ao
   by_cases tz : l.cG.length ≤ 60
   ·have d1 : decide ((60 : Int) < (l.cG.length : Int)) = false := by simp only [decide_eq_false_iff_not]; omega
    have d2 : decide (l.cG.length ≤ 60) = true := by simpa using tz
    rw [d1, d2, cond_false, Bool.true_and]
    refine zH l.cG (fun x => oc x l.dK) (fun m => ?_) fun i az m => ?_
    ·simp only [qZ, vb]; rw [gI (Nat.le_refl _)]; rfl
    ·simp only [qZ, vb]
     rw [h0 az, gT _ i az, hZ i _ az (by omega)]
     simp only [cond_true, Option.bind_some, Zs _ _ dj (h.2.2 _ (List.getElem_mem az))]
     cases oc l.cG[i] l.dK <;> rfl
   ·have d1 : decide ((60 : Int) < (l.cG.length : Int)) = true := by simp only [decide_eq_true_eq]; omega
    have d2 : decide (l.cG.length ≤ 60) = false := by simpa using tz
    rw [d1, d2]; rfl
end Go.fH
