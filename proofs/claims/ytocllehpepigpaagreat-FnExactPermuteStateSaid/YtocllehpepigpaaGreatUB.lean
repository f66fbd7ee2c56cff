/- Part of a proof that a law returns true for every input. No condition. -/
import Derived.Test.YtocllehpepigpaaGreatUG
import Derived.Test.YtocllehpepigpaaGreatP5
namespace Go.e1
open Go Go.dg
def small (c : UInt8) : Bool := decide (97 ≤ (c.toNat : Int)) && decide ((c.toNat : Int) ≤ 122)
def digit (c : UInt8) : Bool := decide (48 ≤ (c.toNat : Int)) && decide ((c.toNat : Int) ≤ 57)
def kO (s : List UInt8) : Bool := decide (s.length ≤ 10) && (match s with | [] => false | c :: r => small c && r.all fun c => small c || digit c)
theorem Ib (s : List UInt8) : vT s = some (kO s) := by
 unfold vT
 cases s with
 | nil => rfl
 | cons c r =>
   have g4 : ((c :: r) == ([] : List UInt8)) = false := rfl
   rw [g4]
   simp only [cond_false]
   by_cases h5 : 10 < (c :: r).length
   ·have : decide ((10 : Int) < ((c :: r).length : Int)) = true := by simp at h5 ⊢; omega
    rw [this]
    have ah : decide ((c :: r).length ≤ 10) = false := by simp at h5 ⊢; omega
    simp only [kO, ah]; rfl
   ·have : decide ((10 : Int) < ((c :: r).length : Int)) = false := by simp at h5 ⊢; omega
    rw [this]
    have ah : decide ((c :: r).length ≤ 10) = true := by simp at h5 ⊢; omega
    rw [Ps]
    simp only [cond_false, Option.bind_some, yw]
    simp only [kO, ah, Bool.true_and]
    show cond (!small c) _ _ = _
    cases af : small c with
    | false => rfl
    | true =>
      simp only [Bool.not_true, cond_false]
      rw [uc (n := (c :: r).length) (fun i => some (((c :: r).drop i).all fun c => small c || digit c))]
      ·simp [af]
      ·intro m
       simp only [vS, BG]
       rw [fD (Nat.le_refl _)]; simp
      ·intro i au m ih
       simp only [vS, BG]
       rw [gT au, hW _ i au, gS i _ au (by omega), ih, drop_cons _ i au]
       simp only [cond_true, Option.bind_some, yw, Gz, List.all_cons]
       show cond (!small _) (cond (!digit _) _ _) _ = _
       cases small (c :: r)[i] <;> cases digit (c :: r)[i] <;> rfl
theorem PQ (s : List UInt8) (af : s.length ≤ 140737488355328) : yN s = some (kO s) := by
 unfold yN
 have bI : ∀ m, s.length - 1 < m → 1 ≤ s.length → qG s m ((1 : Nat) : Int) = some (((s.drop 1).all fun c => small c || digit c) && (decide (1 ≤ (s.length : Int)) && decide ((s.length : Int) ≤ 10))) := by
  intro m hm ae
  refine down s.length (P := fun i => 1 ≤ i → ∀ m, s.length - i < m → qG s m (i : Int) = some (((s.drop i).all fun c => small c || digit c) && (decide (1 ≤ (s.length : Int)) && decide ((s.length : Int) ≤ 10)))) ?_ ?_ 1 ae (Nat.le_refl _) m hm
  ·intro _ m hm
   obtain ⟨k, rfl⟩ : ∃ k, m = k + 1 := ⟨m - 1, by omega⟩
   simp only [qG, yM]
   rw [fD (Nat.le_refl _)]; simp
  ·intro i au ih Fy m hm
   obtain ⟨k, rfl⟩ : ∃ k, m = k + 1 := ⟨m - 1, by omega⟩
   simp only [qG, yM]
   rw [gT au, hW _ i au, gS i _ au (by omega), ih (by omega) k (by omega), drop_cons _ i au]
   have e : ((i : Int) == 0) = false := by simp; omega
   rw [e]
   simp only [cond_true, cond_false, Option.bind_some, GH, List.all_cons]
   show cond (!small _) (cond (!digit _) _ _) _ = _
   cases small s[i] <;> cases digit s[i] <;> rfl
 refine i1 (s.length + 1) fun m hm => ?_
 obtain ⟨k, rfl⟩ : ∃ k, m = k + 1 := ⟨m - 1, by omega⟩
 simp only [qG, yM]
 cases s with
 | nil => rfl
 | cons c r =>
   have aA := bI k (by simp at hm ⊢; omega) (by simp)
   rw [show ((1 : Nat) : Int) = 1 from rfl] at aA
   rw [wG (by simp), Ps, ayL, aA]
   have e : ((0 : Int) == 0) = true := rfl
   rw [e]
   simp only [cond_true, kO]
   show cond (!small c) _ _ = _
   have ae : decide (1 ≤ ((c :: r).length : Int)) = true := by simp; omega
   have ah : decide (((c :: r).length : Int) ≤ 10) = decide ((c :: r).length ≤ 10) := by
    by_cases h : (c :: r).length ≤ 10 <;> simp at h ⊢ <;> omega
   rw [ae, ah]
   cases small c with
   | false => simp
   | true => simp [Bool.and_comm]
end Go.e1
