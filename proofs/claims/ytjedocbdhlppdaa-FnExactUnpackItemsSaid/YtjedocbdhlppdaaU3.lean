/- Part of a proof that a law returns true for every input. No condition. -/
import Derived.Test.YtjedocbdhlppdaaU2
namespace Go.fi
open Go Go.b7
def small (c : UInt8) : Bool := decide (97 ≤ (c.toNat : Int)) && decide ((c.toNat : Int) ≤ 122)
def digit (c : UInt8) : Bool := decide (48 ≤ (c.toNat : Int)) && decide ((c.toNat : Int) ≤ 57)
def iC (s : List UInt8) : Bool := decide (s.length ≤ 10) && (match s with | [] => false | c :: r => small c && r.all fun c => small c || digit c)
theorem Bv (s : List UInt8) : qP s = some (iC s) := by
 unfold qP
 cases s with
 | nil => rfl
 | cons c r =>
   have eO : ((c :: r) == ([] : List UInt8)) = false := rfl
   rw [eO]
   simp only [cond_false]
   by_cases eK : 10 < (c :: r).length
   ·have : decide ((10 : Int) < ((c :: r).length : Int)) = true := by simp at eK ⊢; omega
    rw [this]
    have aa : decide ((c :: r).length ≤ 10) = false := by simp at eK ⊢; omega
    simp only [iC, aa]; rfl
   ·have : decide ((10 : Int) < ((c :: r).length : Int)) = false := by simp at eK ⊢; omega
    rw [this]
    have aa : decide ((c :: r).length ≤ 10) = true := by simp at eK ⊢; omega
    rw [wq]
    simp only [cond_false, Option.bind_some, qO]
    simp only [iC, aa, Bool.true_and]
    show cond (!small c) _ _ = _
    cases R : small c with
    | false => rfl
    | true =>
      simp only [Bool.not_true, cond_false]
      rw [nZ (n := (c :: r).length) (fun i => some (((c :: r).drop i).all fun c => small c || digit c))]
      ·simp [R]
      ·intro m
       simp only [o_, sy]
       rw [j0 (Nat.le_refl _)]; simp
      ·intro i ax m ih
       simp only [o_, sy]
       rw [k1 ax, mL _ i ax, mM i _ ax (by omega), ih, drop_cons _ i ax]
       simp only [cond_true, Option.bind_some, qO, vJ, List.all_cons]
       show cond (!small _) (cond (!digit _) _ _) _ = _
       cases small (c :: r)[i] <;> cases digit (c :: r)[i] <;> rfl
theorem Bw (s : List UInt8) (R : s.length ≤ 140737488355328) : qU s = some (iC s) := by
 unfold qU
 have aN : ∀ m, s.length - 1 < m → 1 ≤ s.length → lE s m ((1 : Nat) : Int) = some (((s.drop 1).all fun c => small c || digit c) && (decide (1 ≤ (s.length : Int)) && decide ((s.length : Int) ≤ 10))) := by
  intro m hm U
  refine down s.length (P := fun i => 1 ≤ i → ∀ m, s.length - i < m → lE s m (i : Int) = some (((s.drop i).all fun c => small c || digit c) && (decide (1 ≤ (s.length : Int)) && decide ((s.length : Int) ≤ 10)))) ?_ ?_ 1 U (Nat.le_refl _) m hm
  ·intro _ m hm
   obtain ⟨k, rfl⟩ : ∃ k, m = k + 1 := ⟨m - 1, by omega⟩
   simp only [lE, qT]
   rw [j0 (Nat.le_refl _)]; simp
  ·intro i ax ih uT m hm
   obtain ⟨k, rfl⟩ : ∃ k, m = k + 1 := ⟨m - 1, by omega⟩
   simp only [lE, qT]
   rw [k1 ax, mL _ i ax, mM i _ ax (by omega), ih (by omega) k (by omega), drop_cons _ i ax]
   have e : ((i : Int) == 0) = false := by simp; omega
   rw [e]
   simp only [cond_true, cond_false, Option.bind_some, vL, List.all_cons]
   show cond (!small _) (cond (!digit _) _ _) _ = _
   cases small s[i] <;> cases digit s[i] <;> rfl
 refine i1 (s.length + 1) fun m hm => ?_
 obtain ⟨k, rfl⟩ : ∃ k, m = k + 1 := ⟨m - 1, by omega⟩
 simp only [lE, qT]
 cases s with
 | nil => rfl
 | cons c r =>
   have ah := aN k (by simp at hm ⊢; omega) (by simp)
   rw [show ((1 : Nat) : Int) = 1 from rfl] at ah
   rw [wm (by simp), wq, Np, ah]
   have e : ((0 : Int) == 0) = true := rfl
   rw [e]
   simp only [cond_true, iC]
   show cond (!small c) _ _ = _
   have U : decide (1 ≤ ((c :: r).length : Int)) = true := by simp; omega
   have aa : decide (((c :: r).length : Int) ≤ 10) = decide ((c :: r).length ≤ 10) := by
    by_cases h : (c :: r).length ≤ 10 <;> simp at h ⊢ <;> omega
   rw [U, aa]
   cases small c with
   | false => simp
   | true => simp [Bool.and_comm]
end Go.fi
