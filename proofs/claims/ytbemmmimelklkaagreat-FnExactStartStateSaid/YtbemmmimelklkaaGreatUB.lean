/- Part of a proof that a law returns true for every input. No condition. -/
import Derived.Test.YtbemmmimelklkaaGreatUG
import Derived.Test.YtbemmmimelklkaaGreatP5
namespace Go.f_
open Go Go.dk
def small (c : UInt8) : Bool := decide (97 ≤ (c.toNat : Int)) && decide ((c.toNat : Int) ≤ 122)
def digit (c : UInt8) : Bool := decide (48 ≤ (c.toNat : Int)) && decide ((c.toNat : Int) ≤ 57)
def j6 (s : List UInt8) : Bool := decide (s.length ≤ 10) && (match s with | [] => false | c :: r => small c && r.all fun c => small c || digit c)
theorem FO (s : List UInt8) : uj s = some (j6 s) := by
 unfold uj
 cases s with
 | nil => rfl
 | cons c r =>
   have gu : ((c :: r) == ([] : List UInt8)) = false := rfl
   rw [gu]
   simp only [cond_false]
   by_cases hL : 10 < (c :: r).length
   ·have : decide ((10 : Int) < ((c :: r).length : Int)) = true := by simp at hL ⊢; omega
    rw [this]
    have aj : decide ((c :: r).length ≤ 10) = false := by simp at hL ⊢; omega
    simp only [j6, aj]; rfl
   ·have : decide ((10 : Int) < ((c :: r).length : Int)) = false := by simp at hL ⊢; omega
    rw [this]
    have aj : decide ((c :: r).length ≤ 10) = true := by simp at hL ⊢; omega
    rw [Mc]
    simp only [cond_false, Option.bind_some, wG]
    simp only [j6, aj, Bool.true_and]
    show cond (!small c) _ _ = _
    cases ah : small c with
    | false => rfl
    | true =>
      simp only [Bool.not_true, cond_false]
      rw [sE (n := (c :: r).length) (fun i => some (((c :: r).drop i).all fun c => small c || digit c))]
      ·simp [ah]
      ·intro m
       simp only [ui, zU]
       rw [fH (Nat.le_refl _)]; simp
      ·intro i au m ih
       simp only [ui, zU]
       rw [gM au, h2 _ i au, gL i _ au (by omega), ih, drop_cons _ i au]
       simp only [cond_true, Option.bind_some, wG, Et, List.all_cons]
       show cond (!small _) (cond (!digit _) _ _) _ = _
       cases small (c :: r)[i] <;> cases digit (c :: r)[i] <;> rfl
theorem Mz (s : List UInt8) (ah : s.length ≤ 140737488355328) : wU s = some (j6 s) := by
 unfold wU
 have bE : ∀ m, s.length - 1 < m → 1 ≤ s.length → py s m ((1 : Nat) : Int) = some (((s.drop 1).all fun c => small c || digit c) && (decide (1 ≤ (s.length : Int)) && decide ((s.length : Int) ≤ 10))) := by
  intro m hm ai
  refine down s.length (P := fun i => 1 ≤ i → ∀ m, s.length - i < m → py s m (i : Int) = some (((s.drop i).all fun c => small c || digit c) && (decide (1 ≤ (s.length : Int)) && decide ((s.length : Int) ≤ 10)))) ?_ ?_ 1 ai (Nat.le_refl _) m hm
  ·intro _ m hm
   obtain ⟨k, rfl⟩ : ∃ k, m = k + 1 := ⟨m - 1, by omega⟩
   simp only [py, wT]
   rw [fH (Nat.le_refl _)]; simp
  ·intro i au ih DA m hm
   obtain ⟨k, rfl⟩ : ∃ k, m = k + 1 := ⟨m - 1, by omega⟩
   simp only [py, wT]
   rw [gM au, h2 _ i au, gL i _ au (by omega), ih (by omega) k (by omega), drop_cons _ i au]
   have e : ((i : Int) == 0) = false := by simp; omega
   rw [e]
   simp only [cond_true, cond_false, Option.bind_some, Ez, List.all_cons]
   show cond (!small _) (cond (!digit _) _ _) _ = _
   cases small s[i] <;> cases digit s[i] <;> rfl
 refine iS (s.length + 1) fun m hm => ?_
 obtain ⟨k, rfl⟩ : ∃ k, m = k + 1 := ⟨m - 1, by omega⟩
 simp only [py, wT]
 cases s with
 | nil => rfl
 | cons c r =>
   have aE := bE k (by simp at hm ⊢; omega) (by simp)
   rw [show ((1 : Nat) : Int) = 1 from rfl] at aE
   rw [uT (by simp), Mc, ast, aE]
   have e : ((0 : Int) == 0) = true := rfl
   rw [e]
   simp only [cond_true, j6]
   show cond (!small c) _ _ = _
   have ai : decide (1 ≤ ((c :: r).length : Int)) = true := by simp; omega
   have aj : decide (((c :: r).length : Int) ≤ 10) = decide ((c :: r).length ≤ 10) := by
    by_cases h : (c :: r).length ≤ 10 <;> simp at h ⊢ <;> omega
   rw [ai, aj]
   cases small c with
   | false => simp
   | true => simp [Bool.and_comm]
end Go.f_
