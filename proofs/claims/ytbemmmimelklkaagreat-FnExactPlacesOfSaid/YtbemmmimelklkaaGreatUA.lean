/- Part of a proof that a law returns true for every input. No condition. -/
import Derived.Test.YtbemmmimelklkaaGreatUG
import Derived.Test.YtbemmmimelklkaaGreatP3
namespace Go.fJ
open Go Go.dg
def s6 (t : bO) : Nat := if t.Kind = 2 then 2 else if t.Kind = 3 then 1 else 0
theorem MX (t : bO) : s6 t ≤ 2 := by unfold s6; split <;> (try split) <;> omega
theorem MY (t : bO) : cond (t.Kind == 2) (some 2) (cond (t.Kind == 3) (some 1) (some 0)) = some (s6 t : Int) := by
 unfold s6
 by_cases aj : t.Kind = 2
 ·simp [aj]
 ·by_cases aP : t.Kind = 3
  ·simp [aP]
  ·have a_ : (t.Kind == 2) = false := by simpa using aj
   have a3 : (t.Kind == 3) = false := by simpa using aP
   rw [a_, a3, if_neg aj, if_neg aP]; rfl
def p0 (n de ar : Int) : Bool := decide (de ≤ n) && decide (n ≤ ar)
def s7 (t : bO) (v : Int) : Bool := cond (t.Kind == 0) (p0 t.Value 0 63) (cond (t.Kind == 1) (p0 t.Value 0 (v - 1)) (cond (t.Kind == 2) (p0 t.Value 0 8) (cond (t.Kind == 3) (t.Value == 0) false)))
def q3 (v : Int) : List bO → Nat → Bool
 | [], k => k == 0
 | t :: r, k => !(k == 0) && (s7 t v && q3 v r (k + s6 t - 1))
def s8 (e : List bO) (v most : Int) : Bool := decide ((e.length : Int) ≤ most) && q3 v e 1
theorem atl (t : bO) (v : Int) (a2 : -1000000 ≤ v ∧ v ≤ 1000000) : As t v = some (s7 t v) := by
 unfold As lL s7 p0
 rw [fY (v - 1) (by omega)]
 cases t.Kind == 0 <;> cases t.Kind == 1 <;> cases t.Kind == 2 <;> cases t.Kind == 3 <;> rfl
theorem atm (t : bO) (v : Int) (a2 : -1000000 ≤ v ∧ v ≤ 1000000) : A1 t v = some (s7 t v) := by
 unfold A1 xt jf s7 p0
 rw [fY (v - 1) (by omega)]
 cases t.Kind == 0 <;> cases t.Kind == 1 <;> cases t.Kind == 2 <;> cases t.Kind == 3 <;> rfl
theorem atn (t : bO) : EW t = some (s6 t : Int) := MY t
theorem ato (t : bO) : E6 t = some (s6 t : Int) := MY t
theorem MZ {k a : Nat} (aE : 1 ≤ k) (rh : k ≤ 100000000) (cw : a ≤ 2) : IntKind.i64.wrap ((k : Int) + IntKind.i64.wrap ((a : Int) - 1)) = ((k + a - 1 : Nat) : Int) := by
 rw [fY ((a : Int) - 1) (by omega), fY _ (by omega)]; omega
theorem vv (k : Nat) : ((k : Int) == 0) = (k == 0) := by
 by_cases h : k = 0
 ·subst h; rfl
 ·have ai : ((k : Int) == 0) = false := by simp; omega
  have aj : (k == 0) = false := by simpa using h
  rw [ai, aj]
theorem atp (e : List bO) (v most : Int) (a2 : -1000000 ≤ v ∧ v ≤ 1000000) (he : e.length ≤ 1048576) : Au e v most = some (s8 e v most) := by
 unfold Au s8
 by_cases hm : (e.length : Int) ≤ most
 ·have d1 : decide (most < (e.length : Int)) = false := by simp; omega
  have d2 : decide ((e.length : Int) ≤ most) = true := by simpa using hm
  rw [d1, d2, cond_false, Bool.true_and]
  have key : ∀ i, i ≤ e.length → ∀ (k : Nat) m, k ≤ 1 + 2 * i → e.length - i < m → r9 e v m (k : Int) (i : Int) = some (q3 v (e.drop i) k) := by
   refine down e.length ?_ ?_
   ·intro k m _ hm
    obtain ⟨m, rfl⟩ : ∃ j, m = j + 1 := ⟨m - 1, by omega⟩
    simp only [r9, At]
    rw [fw (Nat.le_refl _), List.drop_of_length_le (Nat.le_refl _), vv]; rfl
   ·intro i ar ih k m aE hm
    obtain ⟨m, rfl⟩ : ∃ j, m = j + 1 := ⟨m - 1, by omega⟩
    simp only [r9, At]
    rw [gz ar, hD _ i ar, gy i _ ar (by omega), drop_cons e i ar, vv]
    simp only [cond_true, Option.bind_some, atl _ v a2, atn, q3]
    by_cases ba : k = 0
    ·subst ba; rfl
    ·have ae : (k == 0) = false := by simpa using ba
     have cw := MX e[i]
     rw [ae, MZ (by omega) (by omega) cw, ih _ m (by omega) (by omega)]
     simp only [cond_false, Bool.not_false, Bool.true_and]
     cases s7 e[i] v <;> rfl
  refine ir (e.length + 1) fun m hm => ?_
  have := key 0 (by omega) 1 m (by omega) (by omega)
  simpa using this
 ·have d1 : decide (most < (e.length : Int)) = true := by simp; omega
  have d2 : decide ((e.length : Int) ≤ most) = false := by simpa using hm
  rw [d1, d2]; rfl
theorem awN (v : Int) : q3 v [] 1 = false := rfl
theorem atq (e : List bO) (v most : Int) (a2 : 0 ≤ v ∧ v ≤ 29) (awO : 1 ≤ most ∧ most ≤ 60) (he : e.length ≤ 1048576) : A3 e v most = some (s8 e v most) := by
 unfold A3 jf s8
 have d1 : (!(decide (0 ≤ v) && decide (v ≤ 29))) = false := by simp; omega
 have d2 : (!(decide (1 ≤ most) && decide (most ≤ 60))) = false := by simp; omega
 simp only [Option.bind_some, d1, d2, cond_false]
 by_cases ai : e.length = 0
 ·have : e = [] := List.length_eq_zero_iff.1 ai
  subst this
  simp [q3]
 ·by_cases hm : (e.length : Int) ≤ most
  ·have d3 : (!(decide ((1 : Int) ≤ (e.length : Int)) && decide ((e.length : Int) ≤ most))) = false := by simp; omega
   have d4 : decide ((e.length : Int) ≤ most) = true := by simpa using hm
   rw [d3, d4, cond_false, Bool.true_and]
   have key : ∀ i, i ≤ e.length → ∀ (k : Nat) m, k ≤ 1 + 2 * i → e.length - i < m → sk e v m (k : Int) (i : Int) = some (q3 v (e.drop i) k) := by
    refine down e.length ?_ ?_
    ·intro k m _ hm
     obtain ⟨m, rfl⟩ : ∃ j, m = j + 1 := ⟨m - 1, by omega⟩
     simp only [sk, A2]
     rw [fw (Nat.le_refl _), List.drop_of_length_le (Nat.le_refl _), vv]; rfl
    ·intro i ar ih k m aE hm
     obtain ⟨m, rfl⟩ : ∃ j, m = j + 1 := ⟨m - 1, by omega⟩
     simp only [sk, A2]
     rw [gz ar, hD _ i ar, gy i _ ar (by omega), drop_cons e i ar, vv]
     simp only [cond_true, Option.bind_some, atm _ v (by omega), ato, q3]
     by_cases ba : k = 0
     ·subst ba; rfl
     ·have ae : (k == 0) = false := by simpa using ba
      have cw := MX e[i]
      rw [ae, MZ (by omega) (by omega) cw, ih _ m (by omega) (by omega)]
      simp only [cond_false, Bool.not_false, Bool.true_and]
      cases s7 e[i] v <;> rfl
   refine ir (e.length + 1) fun m hm => ?_
   have := key 0 (by omega) 1 m (by omega) (by omega)
   simpa using this
  ·have d3 : (!(decide ((1 : Int) ≤ (e.length : Int)) && decide ((e.length : Int) ≤ most))) = true := by simp; omega
   have d4 : decide ((e.length : Int) ≤ most) = false := by simpa using hm
   rw [d3, d4]; rfl
end Go.fJ
