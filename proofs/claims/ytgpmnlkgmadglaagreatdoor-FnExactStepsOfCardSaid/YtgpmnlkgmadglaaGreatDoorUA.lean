/- Part of a proof that a law returns true for every input. No condition. -/
import Derived.Test.YtgpmnlkgmadglaaGreatDoorUG
import Derived.Test.YtgpmnlkgmadglaaGreatDoorP9
namespace Go.eR
open Go Go.cY
def kZ (t : ba) : Nat := if t.Kind = 2 then 2 else if t.Kind = 3 then 1 else 0
theorem Et (t : ba) : kZ t ≤ 2 := by unfold kZ; split <;> (try split) <;> omega
theorem QA (t : ba) : cond (t.Kind == 2) (some 2) (cond (t.Kind == 3) (some 1) (some 0)) = some (kZ t : Int) := by
 unfold kZ
 by_cases ag : t.Kind = 2
 ·simp [ag]
 ·by_cases aF : t.Kind = 3
  ·simp [aF]
  ·have aZ : (t.Kind == 2) = false := by simpa using ag
   have aT : (t.Kind == 3) = false := by simpa using aF
   rw [aZ, aT, if_neg ag, if_neg aF]; rfl
def oX (n df an : Int) : Bool := decide (df ≤ n) && decide (n ≤ an)
def mu (t : ba) (v : Int) : Bool := cond (t.Kind == 0) (oX t.Value 0 63) (cond (t.Kind == 1) (oX t.Value 0 (v - 1)) (cond (t.Kind == 2) (oX t.Value 0 8) (cond (t.Kind == 3) (t.Value == 0) false)))
def oY (v : Int) : List ba → Nat → Bool
 | [], k => k == 0
 | t :: r, k => !(k == 0) && (mu t v && oY v r (k + kZ t - 1))
def mY (e : List ba) (v most : Int) : Bool := decide ((e.length : Int) ≤ most) && oY v e 1
theorem aw4 (t : ba) (v : Int) (aK : -1000000 ≤ v ∧ v ≤ 1000000) : Cs t v = some (mu t v) := by
 unfold Cs lF mu oX
 rw [fW (v - 1) (by omega)]
 cases t.Kind == 0 <;> cases t.Kind == 1 <;> cases t.Kind == 2 <;> cases t.Kind == 3 <;> rfl
theorem aw5 (t : ba) (v : Int) (aK : -1000000 ≤ v ∧ v ≤ 1000000) : C3 t v = some (mu t v) := by
 unfold C3 zw j4 mu oX
 rw [fW (v - 1) (by omega)]
 cases t.Kind == 0 <;> cases t.Kind == 1 <;> cases t.Kind == 2 <;> cases t.Kind == 3 <;> rfl
theorem QB (t : ba) : Ct t = some (kZ t : Int) := QA t
theorem QC (t : ba) : C4 t = some (kZ t : Int) := QA t
theorem I8 {k a : Nat} (ar : 1 ≤ k) (pe : k ≤ 100000000) (bF : a ≤ 2) : IntKind.i64.wrap ((k : Int) + IntKind.i64.wrap ((a : Int) - 1)) = ((k + a - 1 : Nat) : Int) := by
 rw [fW ((a : Int) - 1) (by omega), fW _ (by omega)]; omega
theorem xz (k : Nat) : ((k : Int) == 0) = (k == 0) := by
 by_cases h : k = 0
 ·subst h; rfl
 ·have af : ((k : Int) == 0) = false := by simp; omega
  have ag : (k == 0) = false := by simpa using h
  rw [af, ag]
theorem aw6 (e : List ba) (v most : Int) (aK : -1000000 ≤ v ∧ v ≤ 1000000) (he : e.length ≤ 1048576) : Cv e v most = some (mY e v most) := by
 unfold Cv mY
 by_cases hm : (e.length : Int) ≤ most
 ·have d1 : decide (most < (e.length : Int)) = false := by simp; omega
  have d2 : decide ((e.length : Int) ≤ most) = true := by simpa using hm
  rw [d1, d2, cond_false, Bool.true_and]
  have key : ∀ i, i ≤ e.length → ∀ (k : Nat) m, k ≤ 1 + 2 * i → e.length - i < m → ud e v m (k : Int) (i : Int) = some (oY v (e.drop i) k) := by
   refine down e.length ?_ ?_
   ·intro k m _ hm
    obtain ⟨m, rfl⟩ : ∃ j, m = j + 1 := ⟨m - 1, by omega⟩
    simp only [ud, Cu]
    rw [gI (Nat.le_refl _), List.drop_of_length_le (Nat.le_refl _), xz]; rfl
   ·intro i an ih k m ar hm
    obtain ⟨m, rfl⟩ : ∃ j, m = j + 1 := ⟨m - 1, by omega⟩
    simp only [ud, Cu]
    rw [hx an, fp _ i an, hg i _ an (by omega), drop_cons e i an, xz]
    simp only [cond_true, Option.bind_some, aw4 _ v aK, QB, oY]
    by_cases bn : k = 0
    ·subst bn; rfl
    ·have aa : (k == 0) = false := by simpa using bn
     have bF := Et e[i]
     rw [aa, I8 (by omega) (by omega) bF, ih _ m (by omega) (by omega)]
     simp only [cond_false, Bool.not_false, Bool.true_and]
     cases mu e[i] v <;> rfl
  refine hE (e.length + 1) fun m hm => ?_
  have := key 0 (by omega) 1 m (by omega) (by omega)
  simpa using this
 ·have d1 : decide (most < (e.length : Int)) = true := by simp; omega
  have d2 : decide ((e.length : Int) ≤ most) = false := by simpa using hm
  rw [d1, d2]; rfl
theorem aw7 (e : List ba) (v most : Int) (aK : 0 ≤ v ∧ v ≤ 29) (aAz : 1 ≤ most ∧ most ≤ 60) (he : e.length ≤ 1048576) : C6 e v most = some (mY e v most) := by
 unfold C6 j4 mY
 have d1 : (!(decide (0 ≤ v) && decide (v ≤ 29))) = false := by simp; omega
 have d2 : (!(decide (1 ≤ most) && decide (most ≤ 60))) = false := by simp; omega
 simp only [Option.bind_some, d1, d2, cond_false]
 by_cases af : e.length = 0
 ·have : e = [] := List.length_eq_zero_iff.1 af
  subst this
  simp [oY]
 ·by_cases hm : (e.length : Int) ≤ most
  ·have d3 : (!(decide ((1 : Int) ≤ (e.length : Int)) && decide ((e.length : Int) ≤ most))) = false := by simp; omega
   have d4 : decide ((e.length : Int) ≤ most) = true := by simpa using hm
   rw [d3, d4, cond_false, Bool.true_and]
   have key : ∀ i, i ≤ e.length → ∀ (k : Nat) m, k ≤ 1 + 2 * i → e.length - i < m → uz e v m (k : Int) (i : Int) = some (oY v (e.drop i) k) := by
    refine down e.length ?_ ?_
    ·intro k m _ hm
     obtain ⟨m, rfl⟩ : ∃ j, m = j + 1 := ⟨m - 1, by omega⟩
     simp only [uz, C5]
     rw [gI (Nat.le_refl _), List.drop_of_length_le (Nat.le_refl _), xz]; rfl
    ·intro i an ih k m ar hm
     obtain ⟨m, rfl⟩ : ∃ j, m = j + 1 := ⟨m - 1, by omega⟩
     simp only [uz, C5]
     rw [hx an, fp _ i an, hg i _ an (by omega), drop_cons e i an, xz]
     simp only [cond_true, Option.bind_some, aw5 _ v (by omega), QC, oY]
     by_cases bn : k = 0
     ·subst bn; rfl
     ·have aa : (k == 0) = false := by simpa using bn
      have bF := Et e[i]
      rw [aa, I8 (by omega) (by omega) bF, ih _ m (by omega) (by omega)]
      simp only [cond_false, Bool.not_false, Bool.true_and]
      cases mu e[i] v <;> rfl
   refine hE (e.length + 1) fun m hm => ?_
   have := key 0 (by omega) 1 m (by omega) (by omega)
   simpa using this
  ·have d3 : (!(decide ((1 : Int) ≤ (e.length : Int)) && decide ((e.length : Int) ≤ most))) = true := by simp; omega
   have d4 : decide ((e.length : Int) ≤ most) = false := by simpa using hm
   rw [d3, d4]; rfl
end Go.eR
