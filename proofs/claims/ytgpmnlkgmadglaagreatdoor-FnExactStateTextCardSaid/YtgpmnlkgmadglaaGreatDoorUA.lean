/- Part of a proof that a law returns true for every input. No condition. -/
import Derived.Test.YtgpmnlkgmadglaaGreatDoorUG
import Derived.Test.YtgpmnlkgmadglaaGreatDoorP10
namespace Go.eV
open Go Go.c0
def sZ (t : cA) : Nat := if t.Kind = 2 then 2 else if t.Kind = 3 then 1 else 0
theorem NX (t : cA) : sZ t ≤ 2 := by unfold sZ; split <;> (try split) <;> omega
theorem NY (t : cA) : cond (t.Kind == 2) (some 2) (cond (t.Kind == 3) (some 1) (some 0)) = some (sZ t : Int) := by
 unfold sZ
 by_cases ah : t.Kind = 2
 ·simp [ah]
 ·by_cases aI : t.Kind = 3
  ·simp [aI]
  ·have aX : (t.Kind == 2) = false := by simpa using ah
   have aQ : (t.Kind == 3) = false := by simpa using aI
   rw [aX, aQ, if_neg ah, if_neg aI]; rfl
def po (n dc al : Int) : Bool := decide (dc ≤ n) && decide (n ≤ al)
def s0 (t : cA) (v : Int) : Bool := cond (t.Kind == 0) (po t.Value 0 63) (cond (t.Kind == 1) (po t.Value 0 (v - 1)) (cond (t.Kind == 2) (po t.Value 0 8) (cond (t.Kind == 3) (t.Value == 0) false)))
def q_ (v : Int) : List cA → Nat → Bool
 | [], k => k == 0
 | t :: r, k => !(k == 0) && (s0 t v && q_ v r (k + sZ t - 1))
def s3 (e : List cA) (v most : Int) : Bool := decide ((e.length : Int) ≤ most) && q_ v e 1
theorem au9 (t : cA) (v : Int) (aN : -1000000 ≤ v ∧ v ≤ 1000000) : z_ t v = some (s0 t v) := by
 unfold z_ ky s0 po
 rw [hg (v - 1) (by omega)]
 cases t.Kind == 0 <;> cases t.Kind == 1 <;> cases t.Kind == 2 <;> cases t.Kind == 3 <;> rfl
theorem au_ (t : cA) (v : Int) (aN : -1000000 ≤ v ∧ v ≤ 1000000) : AO t v = some (s0 t v) := by
 unfold AO xq je s0 po
 rw [hg (v - 1) (by omega)]
 cases t.Kind == 0 <;> cases t.Kind == 1 <;> cases t.Kind == 2 <;> cases t.Kind == 3 <;> rfl
theorem ava (t : cA) : EJ t = some (sZ t : Int) := NY t
theorem avb (t : cA) : EV t = some (sZ t : Int) := NY t
theorem NZ {k a : Nat} (az : 1 ≤ k) (nV : k ≤ 100000000) (b_ : a ≤ 2) : IntKind.i64.wrap ((k : Int) + IntKind.i64.wrap ((a : Int) - 1)) = ((k + a - 1 : Nat) : Int) := by
 rw [hg ((a : Int) - 1) (by omega), hg _ (by omega)]; omega
theorem ve (k : Nat) : ((k : Int) == 0) = (k == 0) := by
 by_cases h : k = 0
 ·subst h; rfl
 ·have ag : ((k : Int) == 0) = false := by simp; omega
  have ah : (k == 0) = false := by simpa using h
  rw [ag, ah]
theorem avc (e : List cA) (v most : Int) (aN : -1000000 ≤ v ∧ v ≤ 1000000) (he : e.length ≤ 1048576) : Ab e v most = some (s3 e v most) := by
 unfold Ab s3
 by_cases hm : (e.length : Int) ≤ most
 ·have d1 : decide (most < (e.length : Int)) = false := by simp; omega
  have d2 : decide ((e.length : Int) ≤ most) = true := by simpa using hm
  rw [d1, d2, cond_false, Bool.true_and]
  have key : ∀ i, i ≤ e.length → ∀ (k : Nat) m, k ≤ 1 + 2 * i → e.length - i < m → sc e v m (k : Int) (i : Int) = some (q_ v (e.drop i) k) := by
   refine down e.length ?_ ?_
   ·intro k m _ hm
    obtain ⟨m, rfl⟩ : ∃ j, m = j + 1 := ⟨m - 1, by omega⟩
    simp only [sc, Aa]
    rw [gr (Nat.le_refl _), List.drop_of_length_le (Nat.le_refl _), ve]; rfl
   ·intro i al ih k m az hm
    obtain ⟨m, rfl⟩ : ∃ j, m = j + 1 := ⟨m - 1, by omega⟩
    simp only [sc, Aa]
    rw [gb al, gG _ i al, ga i _ al (by omega), drop_cons e i al, ve]
    simp only [cond_true, Option.bind_some, au9 _ v aN, ava, q_]
    by_cases bc : k = 0
    ·subst bc; rfl
    ·have ab : (k == 0) = false := by simpa using bc
     have b_ := NX e[i]
     rw [ab, NZ (by omega) (by omega) b_, ih _ m (by omega) (by omega)]
     simp only [cond_false, Bool.not_false, Bool.true_and]
     cases s0 e[i] v <;> rfl
  refine iH (e.length + 1) fun m hm => ?_
  have := key 0 (by omega) 1 m (by omega) (by omega)
  simpa using this
 ·have d1 : decide (most < (e.length : Int)) = true := by simp; omega
  have d2 : decide ((e.length : Int) ≤ most) = false := by simpa using hm
  rw [d1, d2]; rfl
theorem ayG (v : Int) : q_ v [] 1 = false := rfl
theorem avd (e : List cA) (v most : Int) (aN : 0 ≤ v ∧ v ≤ 29) (ayH : 1 ≤ most ∧ most ≤ 60) (he : e.length ≤ 1048576) : AQ e v most = some (s3 e v most) := by
 unfold AQ je s3
 have d1 : (!(decide (0 ≤ v) && decide (v ≤ 29))) = false := by simp; omega
 have d2 : (!(decide (1 ≤ most) && decide (most ≤ 60))) = false := by simp; omega
 simp only [Option.bind_some, d1, d2, cond_false]
 by_cases ag : e.length = 0
 ·have : e = [] := List.length_eq_zero_iff.1 ag
  subst this
  simp [q_]
 ·by_cases hm : (e.length : Int) ≤ most
  ·have d3 : (!(decide ((1 : Int) ≤ (e.length : Int)) && decide ((e.length : Int) ≤ most))) = false := by simp; omega
   have d4 : decide ((e.length : Int) ≤ most) = true := by simpa using hm
   rw [d3, d4, cond_false, Bool.true_and]
   have key : ∀ i, i ≤ e.length → ∀ (k : Nat) m, k ≤ 1 + 2 * i → e.length - i < m → ss e v m (k : Int) (i : Int) = some (q_ v (e.drop i) k) := by
    refine down e.length ?_ ?_
    ·intro k m _ hm
     obtain ⟨m, rfl⟩ : ∃ j, m = j + 1 := ⟨m - 1, by omega⟩
     simp only [ss, AP]
     rw [gr (Nat.le_refl _), List.drop_of_length_le (Nat.le_refl _), ve]; rfl
    ·intro i al ih k m az hm
     obtain ⟨m, rfl⟩ : ∃ j, m = j + 1 := ⟨m - 1, by omega⟩
     simp only [ss, AP]
     rw [gb al, gG _ i al, ga i _ al (by omega), drop_cons e i al, ve]
     simp only [cond_true, Option.bind_some, au_ _ v (by omega), avb, q_]
     by_cases bc : k = 0
     ·subst bc; rfl
     ·have ab : (k == 0) = false := by simpa using bc
      have b_ := NX e[i]
      rw [ab, NZ (by omega) (by omega) b_, ih _ m (by omega) (by omega)]
      simp only [cond_false, Bool.not_false, Bool.true_and]
      cases s0 e[i] v <;> rfl
   refine iH (e.length + 1) fun m hm => ?_
   have := key 0 (by omega) 1 m (by omega) (by omega)
   simpa using this
  ·have d3 : (!(decide ((1 : Int) ≤ (e.length : Int)) && decide ((e.length : Int) ≤ most))) = true := by simp; omega
   have d4 : decide ((e.length : Int) ≤ most) = false := by simpa using hm
   rw [d3, d4]; rfl
end Go.eV
