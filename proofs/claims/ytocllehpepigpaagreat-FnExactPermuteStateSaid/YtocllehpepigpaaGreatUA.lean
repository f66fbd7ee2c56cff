/- Part of a proof that a law returns true for every input. No condition. -/
import Derived.Test.YtocllehpepigpaaGreatUG
import Derived.Test.YtocllehpepigpaaGreatP5
namespace Go.e1
open Go Go.dg
def uk (t : b6) : Nat := if t.Kind = 2 then 2 else if t.Kind = 3 then 1 else 0
theorem PM (t : b6) : uk t ≤ 2 := by unfold uk; split <;> (try split) <;> omega
theorem PN (t : b6) : cond (t.Kind == 2) (some 2) (cond (t.Kind == 3) (some 1) (some 0)) = some (uk t : Int) := by
 unfold uk
 by_cases ah : t.Kind = 2
 ·simp [ah]
 ·by_cases aH : t.Kind = 3
  ·simp [aH]
  ·have ba : (t.Kind == 2) = false := by simpa using ah
   have aW : (t.Kind == 3) = false := by simpa using aH
   rw [ba, aW, if_neg ah, if_neg aH]; rfl
def q2 (n dB au : Int) : Bool := decide (dB ≤ n) && decide (n ≤ au)
def um (t : b6) (v : Int) : Bool := cond (t.Kind == 0) (q2 t.Value 0 63) (cond (t.Kind == 1) (q2 t.Value 0 (v - 1)) (cond (t.Kind == 2) (q2 t.Value 0 8) (cond (t.Kind == 3) (t.Value == 0) false)))
def r5 (v : Int) : List b6 → Nat → Bool
 | [], k => k == 0
 | t :: r, k => !(k == 0) && (um t v && r5 v r (k + uk t - 1))
def uo (e : List b6) (v most : Int) : Bool := decide ((e.length : Int) ≤ most) && r5 v e 1
theorem azB (t : b6) (v : Int) (aQ : -1000000 ≤ v ∧ v ≤ 1000000) : BN t v = some (um t v) := by
 unfold BN kF um q2
 rw [fK (v - 1) (by omega)]
 cases t.Kind == 0 <;> cases t.Kind == 1 <;> cases t.Kind == 2 <;> cases t.Kind == 3 <;> rfl
theorem azC (t : b6) (v : Int) (aQ : -1000000 ≤ v ∧ v ≤ 1000000) : Ck t v = some (um t v) := by
 unfold Ck yQ jQ um q2
 rw [fK (v - 1) (by omega)]
 cases t.Kind == 0 <;> cases t.Kind == 1 <;> cases t.Kind == 2 <;> cases t.Kind == 3 <;> rfl
theorem azD (t : b6) : GB t = some (uk t : Int) := PN t
theorem azE (t : b6) : GN t = some (uk t : Int) := PN t
theorem PO {k a : Nat} (aA : 1 ≤ k) (oG : k ≤ 100000000) (cJ : a ≤ 2) : IntKind.i64.wrap ((k : Int) + IntKind.i64.wrap ((a : Int) - 1)) = ((k + a - 1 : Nat) : Int) := by
 rw [fK ((a : Int) - 1) (by omega), fK _ (by omega)]; omega
theorem wO (k : Nat) : ((k : Int) == 0) = (k == 0) := by
 by_cases h : k = 0
 ·subst h; rfl
 ·have ae : ((k : Int) == 0) = false := by simp; omega
  have ah : (k == 0) = false := by simpa using h
  rw [ae, ah]
theorem azF (e : List b6) (v most : Int) (aQ : -1000000 ≤ v ∧ v ≤ 1000000) (he : e.length ≤ 1048576) : BP e v most = some (uo e v most) := by
 unfold BP uo
 by_cases hm : (e.length : Int) ≤ most
 ·have d1 : decide (most < (e.length : Int)) = false := by simp; omega
  have d2 : decide ((e.length : Int) ≤ most) = true := by simpa using hm
  rw [d1, d2, cond_false, Bool.true_and]
  have key : ∀ i, i ≤ e.length → ∀ (k : Nat) m, k ≤ 1 + 2 * i → e.length - i < m → s8 e v m (k : Int) (i : Int) = some (r5 v (e.drop i) k) := by
   refine down e.length ?_ ?_
   ·intro k m _ hm
    obtain ⟨m, rfl⟩ : ∃ j, m = j + 1 := ⟨m - 1, by omega⟩
    simp only [s8, BO]
    rw [fD (Nat.le_refl _), List.drop_of_length_le (Nat.le_refl _), wO]; rfl
   ·intro i au ih k m aA hm
    obtain ⟨m, rfl⟩ : ∃ j, m = j + 1 := ⟨m - 1, by omega⟩
    simp only [s8, BO]
    rw [gT au, hW _ i au, gS i _ au (by omega), drop_cons e i au, wO]
    simp only [cond_true, Option.bind_some, azB _ v aQ, azD, r5]
    by_cases bf : k = 0
    ·subst bf; rfl
    ·have ad : (k == 0) = false := by simpa using bf
     have cJ := PM e[i]
     rw [ad, PO (by omega) (by omega) cJ, ih _ m (by omega) (by omega)]
     simp only [cond_false, Bool.not_false, Bool.true_and]
     cases um e[i] v <;> rfl
  refine i1 (e.length + 1) fun m hm => ?_
  have := key 0 (by omega) 1 m (by omega) (by omega)
  simpa using this
 ·have d1 : decide (most < (e.length : Int)) = true := by simp; omega
  have d2 : decide ((e.length : Int) ≤ most) = false := by simpa using hm
  rw [d1, d2]; rfl
theorem aDk (v : Int) : r5 v [] 1 = false := rfl
theorem azG (e : List b6) (v most : Int) (aQ : 0 ≤ v ∧ v ≤ 29) (aDl : 1 ≤ most ∧ most ≤ 60) (he : e.length ≤ 1048576) : Cm e v most = some (uo e v most) := by
 unfold Cm jQ uo
 have d1 : (!(decide (0 ≤ v) && decide (v ≤ 29))) = false := by simp; omega
 have d2 : (!(decide (1 ≤ most) && decide (most ≤ 60))) = false := by simp; omega
 simp only [Option.bind_some, d1, d2, cond_false]
 by_cases ae : e.length = 0
 ·have : e = [] := List.length_eq_zero_iff.1 ae
  subst this
  simp [r5]
 ·by_cases hm : (e.length : Int) ≤ most
  ·have d3 : (!(decide ((1 : Int) ≤ (e.length : Int)) && decide ((e.length : Int) ≤ most))) = false := by simp; omega
   have d4 : decide ((e.length : Int) ≤ most) = true := by simpa using hm
   rw [d3, d4, cond_false, Bool.true_and]
   have key : ∀ i, i ≤ e.length → ∀ (k : Nat) m, k ≤ 1 + 2 * i → e.length - i < m → tk e v m (k : Int) (i : Int) = some (r5 v (e.drop i) k) := by
    refine down e.length ?_ ?_
    ·intro k m _ hm
     obtain ⟨m, rfl⟩ : ∃ j, m = j + 1 := ⟨m - 1, by omega⟩
     simp only [tk, Cl]
     rw [fD (Nat.le_refl _), List.drop_of_length_le (Nat.le_refl _), wO]; rfl
    ·intro i au ih k m aA hm
     obtain ⟨m, rfl⟩ : ∃ j, m = j + 1 := ⟨m - 1, by omega⟩
     simp only [tk, Cl]
     rw [gT au, hW _ i au, gS i _ au (by omega), drop_cons e i au, wO]
     simp only [cond_true, Option.bind_some, azC _ v (by omega), azE, r5]
     by_cases bf : k = 0
     ·subst bf; rfl
     ·have ad : (k == 0) = false := by simpa using bf
      have cJ := PM e[i]
      rw [ad, PO (by omega) (by omega) cJ, ih _ m (by omega) (by omega)]
      simp only [cond_false, Bool.not_false, Bool.true_and]
      cases um e[i] v <;> rfl
   refine i1 (e.length + 1) fun m hm => ?_
   have := key 0 (by omega) 1 m (by omega) (by omega)
   simpa using this
  ·have d3 : (!(decide ((1 : Int) ≤ (e.length : Int)) && decide ((e.length : Int) ≤ most))) = true := by simp; omega
   have d4 : decide ((e.length : Int) ≤ most) = false := by simpa using hm
   rw [d3, d4]; rfl
end Go.e1
