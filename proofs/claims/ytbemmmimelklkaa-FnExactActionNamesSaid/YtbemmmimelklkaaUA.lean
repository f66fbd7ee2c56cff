/- Part of a proof that a law returns true for every input. No condition. -/
import Derived.Test.YtbemmmimelklkaaUG
import Derived.Test.YtbemmmimelklkaaP4
namespace Go.eJ
open Go Go.cB
def qS (t : bz) : Nat := if t.Kind = 2 then 2 else if t.Kind = 3 then 1 else 0
theorem ID (t : bz) : qS t ≤ 2 := by unfold qS; split <;> (try split) <;> omega
theorem IE (t : bz) : cond (t.Kind == 2) (some 2) (cond (t.Kind == 3) (some 1) (some 0)) = some (qS t : Int) := by
 unfold qS
 by_cases af : t.Kind = 2
 ·simp [af]
 ·by_cases aF : t.Kind = 3
  ·simp [aF]
  ·have aP : (t.Kind == 2) = false := by simpa using af
   have a_ : (t.Kind == 3) = false := by simpa using aF
   rw [aP, a_, if_neg af, if_neg aF]; rfl
def vC (n cF ak : Int) : Bool := decide (cF ≤ n) && decide (n ≤ ak)
def qT (t : bz) (v : Int) : Bool := cond (t.Kind == 0) (vC t.Value 0 63) (cond (t.Kind == 1) (vC t.Value 0 (v - 1)) (cond (t.Kind == 2) (vC t.Value 0 8) (cond (t.Kind == 3) (t.Value == 0) false)))
def o9 (v : Int) : List bz → Nat → Bool
 | [], k => k == 0
 | t :: r, k => !(k == 0) && (qT t v && o9 v r (k + qS t - 1))
def qU (e : List bz) (v most : Int) : Bool := decide ((e.length : Int) ≤ most) && o9 v e 1
theorem afM (t : bz) (v : Int) (aK : -1000000 ≤ v ∧ v ≤ 1000000) : xt t v = some (qT t v) := by
 unfold xt kT qT vC
 rw [gh (v - 1) (by omega)]
 cases t.Kind == 0 <;> cases t.Kind == 1 <;> cases t.Kind == 2 <;> cases t.Kind == 3 <;> rfl
theorem afN (t : bz) (v : Int) (aK : -1000000 ≤ v ∧ v ≤ 1000000) : xW t v = some (qT t v) := by
 unfold xW BK iS qT vC
 rw [gh (v - 1) (by omega)]
 cases t.Kind == 0 <;> cases t.Kind == 1 <;> cases t.Kind == 2 <;> cases t.Kind == 3 <;> rfl
theorem afO (t : bz) : BA t = some (qS t : Int) := IE t
theorem afP (t : bz) : BL t = some (qS t : Int) := IE t
theorem IF {k a : Nat} (ay : 1 ≤ k) (pt : k ≤ 100000000) (b7 : a ≤ 2) : IntKind.i64.wrap ((k : Int) + IntKind.i64.wrap ((a : Int) - 1)) = ((k + a - 1 : Nat) : Int) := by
 rw [gh ((a : Int) - 1) (by omega), gh _ (by omega)]; omega
theorem sM (k : Nat) : ((k : Int) == 0) = (k == 0) := by
 by_cases h : k = 0
 ·subst h; rfl
 ·have ab : ((k : Int) == 0) = false := by simp; omega
  have af : (k == 0) = false := by simpa using h
  rw [ab, af]
theorem afQ (e : List bz) (v most : Int) (aK : -1000000 ≤ v ∧ v ≤ 1000000) (he : e.length ≤ 1048576) : xv e v most = some (qU e v most) := by
 unfold xv qU
 by_cases hm : (e.length : Int) ≤ most
 ·have d1 : decide (most < (e.length : Int)) = false := by simp; omega
  have d2 : decide ((e.length : Int) ≤ most) = true := by simpa using hm
  rw [d1, d2, cond_false, Bool.true_and]
  have key : ∀ i, i ≤ e.length → ∀ (k : Nat) m, k ≤ 1 + 2 * i → e.length - i < m → qi e v m (k : Int) (i : Int) = some (o9 v (e.drop i) k) := by
   refine down e.length ?_ ?_
   ·intro k m _ hm
    obtain ⟨m, rfl⟩ : ∃ j, m = j + 1 := ⟨m - 1, by omega⟩
    simp only [qi, xu]
    rw [fQ (Nat.le_refl _), List.drop_of_length_le (Nat.le_refl _), sM]; rfl
   ·intro i ak ih k m ay hm
    obtain ⟨m, rfl⟩ : ∃ j, m = j + 1 := ⟨m - 1, by omega⟩
    simp only [qi, xu]
    rw [gA ak, fa _ i ak, gz i _ ak (by omega), drop_cons e i ak, sM]
    simp only [cond_true, Option.bind_some, afM _ v aK, afO, o9]
    by_cases bh : k = 0
    ·subst bh; rfl
    ·have U : (k == 0) = false := by simpa using bh
     have b7 := ID e[i]
     rw [U, IF (by omega) (by omega) b7, ih _ m (by omega) (by omega)]
     simp only [cond_false, Bool.not_false, Bool.true_and]
     cases qT e[i] v <;> rfl
  refine ho (e.length + 1) fun m hm => ?_
  have := key 0 (by omega) 1 m (by omega) (by omega)
  simpa using this
 ·have d1 : decide (most < (e.length : Int)) = true := by simp; omega
  have d2 : decide ((e.length : Int) ≤ most) = false := by simpa using hm
  rw [d1, d2]; rfl
theorem aiP (v : Int) : o9 v [] 1 = false := rfl
theorem afR (e : List bz) (v most : Int) (aK : 0 ≤ v ∧ v ≤ 29) (aiQ : 1 ≤ most ∧ most ≤ 60) (he : e.length ≤ 1048576) : xY e v most = some (qU e v most) := by
 unfold xY iS qU
 have d1 : (!(decide (0 ≤ v) && decide (v ≤ 29))) = false := by simp; omega
 have d2 : (!(decide (1 ≤ most) && decide (most ≤ 60))) = false := by simp; omega
 simp only [Option.bind_some, d1, d2, cond_false]
 by_cases ab : e.length = 0
 ·have : e = [] := List.length_eq_zero_iff.1 ab
  subst this
  simp [o9]
 ·by_cases hm : (e.length : Int) ≤ most
  ·have d3 : (!(decide ((1 : Int) ≤ (e.length : Int)) && decide ((e.length : Int) ≤ most))) = false := by simp; omega
   have d4 : decide ((e.length : Int) ≤ most) = true := by simpa using hm
   rw [d3, d4, cond_false, Bool.true_and]
   have key : ∀ i, i ≤ e.length → ∀ (k : Nat) m, k ≤ 1 + 2 * i → e.length - i < m → qq e v m (k : Int) (i : Int) = some (o9 v (e.drop i) k) := by
    refine down e.length ?_ ?_
    ·intro k m _ hm
     obtain ⟨m, rfl⟩ : ∃ j, m = j + 1 := ⟨m - 1, by omega⟩
     simp only [qq, xX]
     rw [fQ (Nat.le_refl _), List.drop_of_length_le (Nat.le_refl _), sM]; rfl
    ·intro i ak ih k m ay hm
     obtain ⟨m, rfl⟩ : ∃ j, m = j + 1 := ⟨m - 1, by omega⟩
     simp only [qq, xX]
     rw [gA ak, fa _ i ak, gz i _ ak (by omega), drop_cons e i ak, sM]
     simp only [cond_true, Option.bind_some, afN _ v (by omega), afP, o9]
     by_cases bh : k = 0
     ·subst bh; rfl
     ·have U : (k == 0) = false := by simpa using bh
      have b7 := ID e[i]
      rw [U, IF (by omega) (by omega) b7, ih _ m (by omega) (by omega)]
      simp only [cond_false, Bool.not_false, Bool.true_and]
      cases qT e[i] v <;> rfl
   refine ho (e.length + 1) fun m hm => ?_
   have := key 0 (by omega) 1 m (by omega) (by omega)
   simpa using this
  ·have d3 : (!(decide ((1 : Int) ≤ (e.length : Int)) && decide ((e.length : Int) ≤ most))) = true := by simp; omega
   have d4 : decide ((e.length : Int) ≤ most) = false := by simpa using hm
   rw [d3, d4]; rfl
end Go.eJ
