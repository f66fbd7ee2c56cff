/- Part of a proof that a law returns true for every input. No condition. -/
import Derived.Test.YtjedocbdhlppdaaUG
import Derived.Test.YtjedocbdhlppdaaP8
namespace Go.gV
open Go Go.dp
def small (c : UInt8) : Bool := decide (97 ≤ (c.toNat : Int)) && decide ((c.toNat : Int) ≤ 122)
def digit (c : UInt8) : Bool := decide (48 ≤ (c.toNat : Int)) && decide ((c.toNat : Int) ≤ 57)
def rZ (s : List UInt8) : Bool := decide (s.length ≤ 10) && (match s with | [] => false | c :: r => small c && r.all fun c => small c || digit c)
theorem aiq (s : List UInt8) : x9 s = some (rZ s) := by
 unfold x9
 cases s with
 | nil => rfl
 | cons c r =>
   have gd : ((c :: r) == ([] : List UInt8)) = false := rfl
   rw [gd]
   simp only [cond_false]
   by_cases hk : 10 < (c :: r).length
   ·have : decide ((10 : Int) < ((c :: r).length : Int)) = true := by simp at hk ⊢; omega
    rw [this]
    have ah : decide ((c :: r).length ≤ 10) = false := by simp at hk ⊢; omega
    simp only [rZ, ah]; rfl
   ·have : decide ((10 : Int) < ((c :: r).length : Int)) = false := by simp at hk ⊢; omega
    rw [this]
    have ah : decide ((c :: r).length ≤ 10) = true := by simp at hk ⊢; omega
    rw [JW]
    simp only [cond_false, Option.bind_some, ve]
    simp only [rZ, ah, Bool.true_and]
    show cond (!small c) _ _ = _
    cases ab : small c with
    | false => rfl
    | true =>
      simp only [Bool.not_true, cond_false]
      rw [tD (n := (c :: r).length) (fun i => some (((c :: r).drop i).all fun c => small c || digit c))]
      ·simp [ab]
      ·intro m
       simp only [ti, x8]
       rw [fe (Nat.le_refl _)]; simp
      ·intro i au m ih
       simp only [ti, x8]
       rw [gj au, gE _ i au, gi i _ au (by omega), ih, drop_cons _ i au]
       simp only [cond_true, Option.bind_some, ve, Ch, List.all_cons]
       show cond (!small _) (cond (!digit _) _ _) _ = _
       cases small (c :: r)[i] <;> cases digit (c :: r)[i] <;> rfl
theorem air (s : List UInt8) (ab : s.length ≤ 140737488355328) : yq s = some (rZ s) := by
 unfold yq
 have bE : ∀ m, s.length - 1 < m → 1 ≤ s.length → oT s m ((1 : Nat) : Int) = some (((s.drop 1).all fun c => small c || digit c) && (decide (1 ≤ (s.length : Int)) && decide ((s.length : Int) ≤ 10))) := by
  intro m hm ag
  refine down s.length (P := fun i => 1 ≤ i → ∀ m, s.length - i < m → oT s m (i : Int) = some (((s.drop i).all fun c => small c || digit c) && (decide (1 ≤ (s.length : Int)) && decide ((s.length : Int) ≤ 10)))) ?_ ?_ 1 ag (Nat.le_refl _) m hm
  ·intro _ m hm
   obtain ⟨k, rfl⟩ : ∃ k, m = k + 1 := ⟨m - 1, by omega⟩
   simp only [oT, vk]
   rw [fe (Nat.le_refl _)]; simp
  ·intro i au ih Bn m hm
   obtain ⟨k, rfl⟩ : ∃ k, m = k + 1 := ⟨m - 1, by omega⟩
   simp only [oT, vk]
   rw [gj au, gE _ i au, gi i _ au (by omega), ih (by omega) k (by omega), drop_cons _ i au]
   have e : ((i : Int) == 0) = false := by simp; omega
   rw [e]
   simp only [cond_true, cond_false, Option.bind_some, Cq, List.all_cons]
   show cond (!small _) (cond (!digit _) _ _) _ = _
   cases small s[i] <;> cases digit s[i] <;> rfl
 refine i7 (s.length + 1) fun m hm => ?_
 obtain ⟨k, rfl⟩ : ∃ k, m = k + 1 := ⟨m - 1, by omega⟩
 simp only [oT, vk]
 cases s with
 | nil => rfl
 | cons c r =>
   have aB := bE k (by simp at hm ⊢; omega) (by simp)
   rw [show ((1 : Nat) : Int) = 1 from rfl] at aB
   rw [Dd (by simp), JW, ah5, aB]
   have e : ((0 : Int) == 0) = true := rfl
   rw [e]
   simp only [cond_true, rZ]
   show cond (!small c) _ _ = _
   have ag : decide (1 ≤ ((c :: r).length : Int)) = true := by simp; omega
   have ah : decide (((c :: r).length : Int) ≤ 10) = decide ((c :: r).length ≤ 10) := by
    by_cases h : (c :: r).length ≤ 10 <;> simp at h ⊢ <;> omega
   rw [ag, ah]
   cases small c with
   | false => simp
   | true => simp [Bool.and_comm]
end Go.gV
