/- Part of a proof that a law returns true for every input. No condition. -/
import Derived.Test.YtbemmmimelklkaaGreatUG
import Derived.Test.YtbemmmimelklkaaGreatP6
namespace Go.eR
open Go Go.c5
def small (c : UInt8) : Bool := decide (97 ≤ (c.toNat : Int)) && decide ((c.toNat : Int) ≤ 122)
def digit (c : UInt8) : Bool := decide (48 ≤ (c.toNat : Int)) && decide ((c.toNat : Int) ≤ 57)
def ke (s : List UInt8) : Bool := decide (s.length ≤ 10) && (match s with | [] => false | c :: r => small c && r.all fun c => small c || digit c)
theorem Hv (s : List UInt8) : vg s = some (ke s) := by
 unfold vg
 cases s with
 | nil => rfl
 | cons c r =>
   have gB : ((c :: r) == ([] : List UInt8)) = false := rfl
   rw [gB]
   simp only [cond_false]
   by_cases hE : 10 < (c :: r).length
   ·have : decide ((10 : Int) < ((c :: r).length : Int)) = true := by simp at hE ⊢; omega
    rw [this]
    have ai : decide ((c :: r).length ≤ 10) = false := by simp at hE ⊢; omega
    simp only [ke, ai]; rfl
   ·have : decide ((10 : Int) < ((c :: r).length : Int)) = false := by simp at hE ⊢; omega
    rw [this]
    have ai : decide ((c :: r).length ≤ 10) = true := by simp at hE ⊢; omega
    rw [Ot]
    simp only [cond_false, Option.bind_some, xX]
    simp only [ke, ai, Bool.true_and]
    show cond (!small c) _ _ = _
    cases ah : small c with
    | false => rfl
    | true =>
      simp only [Bool.not_true, cond_false]
      rw [rD (n := (c :: r).length) (fun i => some (((c :: r).drop i).all fun c => small c || digit c))]
      ·simp [ah]
      ·intro m
       simp only [vf, Bi]
       rw [fa (Nat.le_refl _)]; simp
      ·intro i ao m ih
       simp only [vf, Bi]
       rw [fB ao, gx _ i ao, fA i _ ao (by omega), ih, drop_cons _ i ao]
       simp only [cond_true, Option.bind_some, xX, Ga, List.all_cons]
       show cond (!small _) (cond (!digit _) _ _) _ = _
       cases small (c :: r)[i] <;> cases digit (c :: r)[i] <;> rfl
theorem OQ (s : List UInt8) (ah : s.length ≤ 140737488355328) : yc s = some (ke s) := by
 unfold yc
 have bH : ∀ m, s.length - 1 < m → 1 ≤ s.length → qf s m ((1 : Nat) : Int) = some (((s.drop 1).all fun c => small c || digit c) && (decide (1 ≤ (s.length : Int)) && decide ((s.length : Int) ≤ 10))) := by
  intro m hm af
  refine down s.length (P := fun i => 1 ≤ i → ∀ m, s.length - i < m → qf s m (i : Int) = some (((s.drop i).all fun c => small c || digit c) && (decide (1 ≤ (s.length : Int)) && decide ((s.length : Int) ≤ 10)))) ?_ ?_ 1 af (Nat.le_refl _) m hm
  ·intro _ m hm
   obtain ⟨k, rfl⟩ : ∃ k, m = k + 1 := ⟨m - 1, by omega⟩
   simp only [qf, yb]
   rw [fa (Nat.le_refl _)]; simp
  ·intro i ao ih Fe m hm
   obtain ⟨k, rfl⟩ : ∃ k, m = k + 1 := ⟨m - 1, by omega⟩
   simp only [qf, yb]
   rw [fB ao, gx _ i ao, fA i _ ao (by omega), ih (by omega) k (by omega), drop_cons _ i ao]
   have e : ((i : Int) == 0) = false := by simp; omega
   rw [e]
   simp only [cond_true, cond_false, Option.bind_some, Gf, List.all_cons]
   show cond (!small _) (cond (!digit _) _ _) _ = _
   cases small s[i] <;> cases digit s[i] <;> rfl
 refine hP (s.length + 1) fun m hm => ?_
 obtain ⟨k, rfl⟩ : ∃ k, m = k + 1 := ⟨m - 1, by omega⟩
 simp only [qf, yb]
 cases s with
 | nil => rfl
 | cons c r =>
   have aD := bH k (by simp at hm ⊢; omega) (by simp)
   rw [show ((1 : Nat) : Int) = 1 from rfl] at aD
   rw [v_ (by simp), Ot, au3, aD]
   have e : ((0 : Int) == 0) = true := rfl
   rw [e]
   simp only [cond_true, ke]
   show cond (!small c) _ _ = _
   have af : decide (1 ≤ ((c :: r).length : Int)) = true := by simp; omega
   have ai : decide (((c :: r).length : Int) ≤ 10) = decide ((c :: r).length ≤ 10) := by
    by_cases h : (c :: r).length ≤ 10 <;> simp at h ⊢ <;> omega
   rw [af, ai]
   cases small c with
   | false => simp
   | true => simp [Bool.and_comm]
end Go.eR
