/- Part of a proof that a law returns true for every input. No condition. -/
import Derived.Test.YtbemmmimelklkaaUG
import Derived.Test.YtbemmmimelklkaaP4
namespace Go.eJ
open Go Go.cB
def small (c : UInt8) : Bool := decide (97 ≤ (c.toNat : Int)) && decide ((c.toNat : Int) ≤ 122)
def digit (c : UInt8) : Bool := decide (48 ≤ (c.toNat : Int)) && decide ((c.toNat : Int) ≤ 57)
def jb (s : List UInt8) : Bool := decide (s.length ≤ 10) && (match s with | [] => false | c :: r => small c && r.all fun c => small c || digit c)
theorem IG (s : List UInt8) : uf s = some (jb s) := by
 unfold uf
 cases s with
 | nil => rfl
 | cons c r =>
   have fC : ((c :: r) == ([] : List UInt8)) = false := rfl
   rw [fC]
   simp only [cond_false]
   by_cases gp : 10 < (c :: r).length
   ·have : decide ((10 : Int) < ((c :: r).length : Int)) = true := by simp at gp ⊢; omega
    rw [this]
    have af : decide ((c :: r).length ≤ 10) = false := by simp at gp ⊢; omega
    simp only [jb, af]; rfl
   ·have : decide ((10 : Int) < ((c :: r).length : Int)) = false := by simp at gp ⊢; omega
    rw [this]
    have af : decide ((c :: r).length ≤ 10) = true := by simp at gp ⊢; omega
    rw [Ip]
    simp only [cond_false, Option.bind_some, ue]
    simp only [jb, af, Bool.true_and]
    show cond (!small c) _ _ = _
    cases aa : small c with
    | false => rfl
    | true =>
      simp only [Bool.not_true, cond_false]
      rw [o8 (n := (c :: r).length) (fun i => some (((c :: r).drop i).all fun c => small c || digit c))]
      ·simp [aa]
      ·intro m
       simp only [r_, xl]
       rw [fQ (Nat.le_refl _)]; simp
      ·intro i ak m ih
       simp only [r_, xl]
       rw [gA ak, fa _ i ak, gz i _ ak (by omega), ih, drop_cons _ i ak]
       simp only [cond_true, Option.bind_some, ue, Bx, List.all_cons]
       show cond (!small _) (cond (!digit _) _ _) _ = _
       cases small (c :: r)[i] <;> cases digit (c :: r)[i] <;> rfl
theorem IH (s : List UInt8) (aa : s.length ≤ 140737488355328) : ux s = some (jb s) := by
 unfold ux
 have bo : ∀ m, s.length - 1 < m → 1 ≤ s.length → n2 s m ((1 : Nat) : Int) = some (((s.drop 1).all fun c => small c || digit c) && (decide (1 ≤ (s.length : Int)) && decide ((s.length : Int) ≤ 10))) := by
  intro m hm ab
  refine down s.length (P := fun i => 1 ≤ i → ∀ m, s.length - i < m → n2 s m (i : Int) = some (((s.drop i).all fun c => small c || digit c) && (decide (1 ≤ (s.length : Int)) && decide ((s.length : Int) ≤ 10)))) ?_ ?_ 1 ab (Nat.le_refl _) m hm
  ·intro _ m hm
   obtain ⟨k, rfl⟩ : ∃ k, m = k + 1 := ⟨m - 1, by omega⟩
   simp only [n2, uw]
   rw [fQ (Nat.le_refl _)]; simp
  ·intro i ak ih Ay m hm
   obtain ⟨k, rfl⟩ : ∃ k, m = k + 1 := ⟨m - 1, by omega⟩
   simp only [n2, uw]
   rw [gA ak, fa _ i ak, gz i _ ak (by omega), ih (by omega) k (by omega), drop_cons _ i ak]
   have e : ((i : Int) == 0) = false := by simp; omega
   rw [e]
   simp only [cond_true, cond_false, Option.bind_some, BE, List.all_cons]
   show cond (!small _) (cond (!digit _) _ _) _ = _
   cases small s[i] <;> cases digit s[i] <;> rfl
 refine ho (s.length + 1) fun m hm => ?_
 obtain ⟨k, rfl⟩ : ∃ k, m = k + 1 := ⟨m - 1, by omega⟩
 simp only [n2, uw]
 cases s with
 | nil => rfl
 | cons c r =>
   have ay := bo k (by simp at hm ⊢; omega) (by simp)
   rw [show ((1 : Nat) : Int) = 1 from rfl] at ay
   rw [sG (by simp), Ip, afh, ay]
   have e : ((0 : Int) == 0) = true := rfl
   rw [e]
   simp only [cond_true, jb]
   show cond (!small c) _ _ = _
   have ab : decide (1 ≤ ((c :: r).length : Int)) = true := by simp; omega
   have af : decide (((c :: r).length : Int) ≤ 10) = decide ((c :: r).length ≤ 10) := by
    by_cases h : (c :: r).length ≤ 10 <;> simp at h ⊢ <;> omega
   rw [ab, af]
   cases small c with
   | false => simp
   | true => simp [Bool.and_comm]
end Go.eJ
