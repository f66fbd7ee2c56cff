/- Part of a proof that a law returns true for every input. No condition. -/
import Derived.Test.YtobljppjkklojaaUG
import Derived.Test.YtobljppjkklojaaP20
namespace Go.Sh
open Go Go.Fw
def small (c : UInt8) : Bool := decide (97 ≤ (c.toNat : Int)) && decide ((c.toNat : Int) ≤ 122)
def digit (c : UInt8) : Bool := decide (48 ≤ (c.toNat : Int)) && decide ((c.toNat : Int) ≤ 57)
def nameOk (s : List UInt8) : Bool := decide (s.length ≤ 10) && (match s with | [] => false | c :: r => small c && r.all fun c => small c || digit c)
theorem spec_name (s : List UInt8) : spec_l01Name s = some (nameOk s) := by
 unfold spec_l01Name
 cases s with
 | nil => rfl
 | cons c r =>
   have e0 : ((c :: r) == ([] : List UInt8)) = false := rfl
   rw [e0]
   simp only [cond_false]
   by_cases h10 : 10 < (c :: r).length
   ·have : decide ((10 : Int) < ((c :: r).length : Int)) = true := by simp at h10 ⊢; omega
    rw [this]
    have h2 : decide ((c :: r).length ≤ 10) = false := by simp at h10 ⊢; omega
    simp only [nameOk, h2]; rfl
   ·have : decide ((10 : Int) < ((c :: r).length : Int)) = false := by simp at h10 ⊢; omega
    rw [this]
    have h2 : decide ((c :: r).length ≤ 10) = true := by simp at h10 ⊢; omega
    rw [getI_zero]
    simp only [cond_false, Option.bind_some, spec_l01Small]
    simp only [nameOk, h2, Bool.true_and]
    show cond (!small c) _ _ = _
    cases hs : small c with
    | false => rfl
    | true =>
      simp only [Bool.not_true, cond_false]
      rw [up_lim (n := (c :: r).length) (fun i => some (((c :: r).drop i).all fun c => small c || digit c))]
      ·simp [hs]
      ·intro m
       simp only [spec_l01Name_l14, spec_l01Name_b14]
       rw [ltF (Nat.le_refl _)]; simp
      ·intro i hi m ih
       simp only [spec_l01Name_l14, spec_l01Name_b14]
       rw [ltT hi, getI_lt _ i hi, wsucc i _ hi (by omega), ih, drop_cons _ i hi]
       simp only [cond_true, Option.bind_some, spec_l01Small, spec_l01Digit, List.all_cons]
       show cond (!small _) (cond (!digit _) _ _) _ = _
       cases small (c :: r)[i] <;> cases digit (c :: r)[i] <;> rfl
theorem impl_name (s : List UInt8) (hs : s.length ≤ 140737488355328) : impl_IsName s = some (nameOk s) := by
 unfold impl_IsName
 have hF : ∀ m, s.length - 1 < m → 1 ≤ s.length → impl_IsName_l6 s m ((1 : Nat) : Int) = some (((s.drop 1).all fun c => small c || digit c) && (decide (1 ≤ (s.length : Int)) && decide ((s.length : Int) ≤ 10))) := by
  intro m hm h1
  refine down s.length (P := fun i => 1 ≤ i → ∀ m, s.length - i < m → impl_IsName_l6 s m (i : Int) = some (((s.drop i).all fun c => small c || digit c) && (decide (1 ≤ (s.length : Int)) && decide ((s.length : Int) ≤ 10)))) ?_ ?_ 1 h1 (Nat.le_refl _) m hm
  ·intro _ m hm
   obtain ⟨k, rfl⟩ : ∃ k, m = k + 1 := ⟨m - 1, by omega⟩
   simp only [impl_IsName_l6, impl_IsName_b6]
   rw [ltF (Nat.le_refl _)]; simp
  ·intro i hi ih hi1 m hm
   obtain ⟨k, rfl⟩ : ∃ k, m = k + 1 := ⟨m - 1, by omega⟩
   simp only [impl_IsName_l6, impl_IsName_b6]
   rw [ltT hi, getI_lt _ i hi, wsucc i _ hi (by omega), ih (by omega) k (by omega), drop_cons _ i hi]
   have e : ((i : Int) == 0) = false := by simp; omega
   rw [e]
   simp only [cond_true, cond_false, Option.bind_some, impl_isDigit, List.all_cons]
   show cond (!small _) (cond (!digit _) _ _) _ = _
   cases small s[i] <;> cases digit s[i] <;> rfl
 refine lim_of (s.length + 1) fun m hm => ?_
 obtain ⟨k, rfl⟩ : ∃ k, m = k + 1 := ⟨m - 1, by omega⟩
 simp only [impl_IsName_l6, impl_IsName_b6]
 cases s with
 | nil => rfl
 | cons c r =>
   have hk := hF k (by simp at hm ⊢; omega) (by simp)
   rw [show ((1 : Nat) : Int) = 1 from rfl] at hk
   rw [lt0 (by simp), getI_zero, w01, hk]
   have e : ((0 : Int) == 0) = true := rfl
   rw [e]
   simp only [cond_true, nameOk]
   show cond (!small c) _ _ = _
   have h1 : decide (1 ≤ ((c :: r).length : Int)) = true := by simp; omega
   have h2 : decide (((c :: r).length : Int) ≤ 10) = decide ((c :: r).length ≤ 10) := by
    by_cases h : (c :: r).length ≤ 10 <;> simp at h ⊢ <;> omega
   rw [h1, h2]
   cases small c with
   | false => simp
   | true => simp [Bool.and_comm]
end Go.Sh
