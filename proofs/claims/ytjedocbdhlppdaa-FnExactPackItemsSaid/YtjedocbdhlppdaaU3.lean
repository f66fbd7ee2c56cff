/- Part of a proof that a law returns true for every input. No condition. -/
import Derived.Test.YtjedocbdhlppdaaU2
namespace Go.fg
open Go Go.b1
def small (c : UInt8) : Bool := decide (97 ≤ (c.toNat : Int)) && decide ((c.toNat : Int) ≤ 122)
def digit (c : UInt8) : Bool := decide (48 ≤ (c.toNat : Int)) && decide ((c.toNat : Int) ≤ 57)
def ks (s : List UInt8) : Bool := decide (s.length ≤ 10) && (match s with | [] => false | c :: r => small c && r.all fun c => small c || digit c)
theorem La (s : List UInt8) : rS s = some (ks s) := by
 unfold rS
 cases s with
 | nil => rfl
 | cons c r =>
   have ev : ((c :: r) == ([] : List UInt8)) = false := rfl
   rw [ev]
   simp only [cond_false]
   by_cases eB : 10 < (c :: r).length
   ·have : decide ((10 : Int) < ((c :: r).length : Int)) = true := by simp at eB ⊢; omega
    rw [this]
    have aa : decide ((c :: r).length ≤ 10) = false := by simp at eB ⊢; omega
    simp only [ks, aa]; rfl
   ·have : decide ((10 : Int) < ((c :: r).length : Int)) = false := by simp at eB ⊢; omega
    rw [this]
    have aa : decide ((c :: r).length ≤ 10) = true := by simp at eB ⊢; omega
    rw [Ac]
    simp only [cond_false, Option.bind_some, qh]
    simp only [ks, aa, Bool.true_and]
    show cond (!small c) _ _ = _
    cases R : small c with
    | false => rfl
    | true =>
      simp only [Bool.not_true, cond_false]
      rw [lU (n := (c :: r).length) (fun i => some (((c :: r).drop i).all fun c => small c || digit c))]
      ·simp [R]
      ·intro m
       simp only [oA, rR]
       rw [jV (Nat.le_refl _)]; simp
      ·intro i ax m ih
       simp only [oA, rR]
       rw [jg ax, jf _ i ax, jU i _ ax (by omega), ih, drop_cons _ i ax]
       simp only [cond_true, Option.bind_some, qh, uZ, List.all_cons]
       show cond (!small _) (cond (!digit _) _ _) _ = _
       cases small (c :: r)[i] <;> cases digit (c :: r)[i] <;> rfl
theorem Lb (s : List UInt8) (R : s.length ≤ 140737488355328) : r1 s = some (ks s) := by
 unfold r1
 have aK : ∀ m, s.length - 1 < m → 1 ≤ s.length → k4 s m ((1 : Nat) : Int) = some (((s.drop 1).all fun c => small c || digit c) && (decide (1 ≤ (s.length : Int)) && decide ((s.length : Int) ≤ 10))) := by
  intro m hm U
  refine down s.length (P := fun i => 1 ≤ i → ∀ m, s.length - i < m → k4 s m (i : Int) = some (((s.drop i).all fun c => small c || digit c) && (decide (1 ≤ (s.length : Int)) && decide ((s.length : Int) ≤ 10)))) ?_ ?_ 1 U (Nat.le_refl _) m hm
  ·intro _ m hm
   obtain ⟨k, rfl⟩ : ∃ k, m = k + 1 := ⟨m - 1, by omega⟩
   simp only [k4, ql]
   rw [jV (Nat.le_refl _)]; simp
  ·intro i ax ih tU m hm
   obtain ⟨k, rfl⟩ : ∃ k, m = k + 1 := ⟨m - 1, by omega⟩
   simp only [k4, ql]
   rw [jg ax, jf _ i ax, jU i _ ax (by omega), ih (by omega) k (by omega), drop_cons _ i ax]
   have e : ((i : Int) == 0) = false := by simp; omega
   rw [e]
   simp only [cond_true, cond_false, Option.bind_some, u0, List.all_cons]
   show cond (!small _) (cond (!digit _) _ _) _ = _
   cases small s[i] <;> cases digit s[i] <;> rfl
 refine kt (s.length + 1) fun m hm => ?_
 obtain ⟨k, rfl⟩ : ∃ k, m = k + 1 := ⟨m - 1, by omega⟩
 simp only [k4, ql]
 cases s with
 | nil => rfl
 | cons c r =>
   have ai := aK k (by simp at hm ⊢; omega) (by simp)
   rw [show ((1 : Nat) : Int) = 1 from rfl] at ai
   rw [vw (by simp), Ac, KR, ai]
   have e : ((0 : Int) == 0) = true := rfl
   rw [e]
   simp only [cond_true, ks]
   show cond (!small c) _ _ = _
   have U : decide (1 ≤ ((c :: r).length : Int)) = true := by simp; omega
   have aa : decide (((c :: r).length : Int) ≤ 10) = decide ((c :: r).length ≤ 10) := by
    by_cases h : (c :: r).length ≤ 10 <;> simp at h ⊢ <;> omega
   rw [U, aa]
   cases small c with
   | false => simp
   | true => simp [Bool.and_comm]
end Go.fg
