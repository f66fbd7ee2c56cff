/- Part of a proof that a law returns true for every input. No condition. -/
import Derived.Test.YtobljppjkklojaaUG
import Derived.Test.YtobljppjkklojaaP19
namespace Go.fH
open Go Go.cM
def small (c : UInt8) : Bool := decide (97 ≤ (c.toNat : Int)) && decide ((c.toNat : Int) ≤ 122)
def digit (c : UInt8) : Bool := decide (48 ≤ (c.toNat : Int)) && decide ((c.toNat : Int) ≤ 57)
def rz (s : List UInt8) : Bool := decide (s.length ≤ 10) && (match s with | [] => false | c :: r => small c && r.all fun c => small c || digit c)
theorem Zi (s : List UInt8) : u9 s = some (rz s) := by
 unfold u9
 cases s with
 | nil => rfl
 | cons c r =>
   have fE : ((c :: r) == ([] : List UInt8)) = false := rfl
   rw [fE]
   simp only [cond_false]
   by_cases fO : 10 < (c :: r).length
   ·have : decide ((10 : Int) < ((c :: r).length : Int)) = true := by simp at fO ⊢; omega
    rw [this]
    have ab : decide ((c :: r).length ≤ 10) = false := by simp at fO ⊢; omega
    simp only [rz, ab]; rfl
   ·have : decide ((10 : Int) < ((c :: r).length : Int)) = false := by simp at fO ⊢; omega
    rw [this]
    have ab : decide ((c :: r).length ≤ 10) = true := by simp at fO ⊢; omega
    rw [Fh]
    simp only [cond_false, Option.bind_some, sK]
    simp only [rz, ab, Bool.true_and]
    show cond (!small c) _ _ = _
    cases U : small c with
    | false => rfl
    | true =>
      simp only [Bool.not_true, cond_false]
      rw [rm (n := (c :: r).length) (fun i => some (((c :: r).drop i).all fun c => small c || digit c))]
      ·simp [U]
      ·intro m
       simp only [qY, u7]
       rw [gI (Nat.le_refl _)]; simp
      ·intro i az m ih
       simp only [qY, u7]
       rw [h0 az, gT _ i az, hZ i _ az (by omega), ih, drop_cons _ i az]
       simp only [cond_true, Option.bind_some, sK, yU, List.all_cons]
       show cond (!small _) (cond (!digit _) _ _) _ = _
       cases small (c :: r)[i] <;> cases digit (c :: r)[i] <;> rfl
theorem Zj (s : List UInt8) (U : s.length ≤ 140737488355328) : vo s = some (rz s) := by
 unfold vo
 have bg : ∀ m, s.length - 1 < m → 1 ≤ s.length → nj s m ((1 : Nat) : Int) = some (((s.drop 1).all fun c => small c || digit c) && (decide (1 ≤ (s.length : Int)) && decide ((s.length : Int) ≤ 10))) := by
  intro m hm aa
  refine down s.length (P := fun i => 1 ≤ i → ∀ m, s.length - i < m → nj s m (i : Int) = some (((s.drop i).all fun c => small c || digit c) && (decide (1 ≤ (s.length : Int)) && decide ((s.length : Int) ≤ 10)))) ?_ ?_ 1 aa (Nat.le_refl _) m hm
  ·intro _ m hm
   obtain ⟨k, rfl⟩ : ∃ k, m = k + 1 := ⟨m - 1, by omega⟩
   simp only [nj, sO]
   rw [gI (Nat.le_refl _)]; simp
  ·intro i az ih x5 m hm
   obtain ⟨k, rfl⟩ : ∃ k, m = k + 1 := ⟨m - 1, by omega⟩
   simp only [nj, sO]
   rw [h0 az, gT _ i az, hZ i _ az (by omega), ih (by omega) k (by omega), drop_cons _ i az]
   have e : ((i : Int) == 0) = false := by simp; omega
   rw [e]
   simp only [cond_true, cond_false, Option.bind_some, y0, List.all_cons]
   show cond (!small _) (cond (!digit _) _ _) _ = _
   cases small s[i] <;> cases digit s[i] <;> rfl
 refine h1 (s.length + 1) fun m hm => ?_
 obtain ⟨k, rfl⟩ : ∃ k, m = k + 1 := ⟨m - 1, by omega⟩
 simp only [nj, sO]
 cases s with
 | nil => rfl
 | cons c r =>
   have aw := bg k (by simp at hm ⊢; omega) (by simp)
   rw [show ((1 : Nat) : Int) = 1 from rfl] at aw
   rw [zB (by simp), Fh, YQ, aw]
   have e : ((0 : Int) == 0) = true := rfl
   rw [e]
   simp only [cond_true, rz]
   show cond (!small c) _ _ = _
   have aa : decide (1 ≤ ((c :: r).length : Int)) = true := by simp; omega
   have ab : decide (((c :: r).length : Int) ≤ 10) = decide ((c :: r).length ≤ 10) := by
    by_cases h : (c :: r).length ≤ 10 <;> simp at h ⊢ <;> omega
   rw [aa, ab]
   cases small c with
   | false => simp
   | true => simp [Bool.and_comm]
end Go.fH
