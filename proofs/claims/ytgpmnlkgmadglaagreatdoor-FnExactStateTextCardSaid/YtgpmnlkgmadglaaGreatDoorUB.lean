/- Part of a proof that a law returns true for every input. No condition. -/
import Derived.Test.YtgpmnlkgmadglaaGreatDoorUG
import Derived.Test.YtgpmnlkgmadglaaGreatDoorP10
namespace Go.eV
open Go Go.c0
def small (c : UInt8) : Bool := decide (97 ≤ (c.toNat : Int)) && decide ((c.toNat : Int) ≤ 122)
def digit (c : UInt8) : Bool := decide (48 ≤ (c.toNat : Int)) && decide ((c.toNat : Int) ≤ 57)
def j7 (s : List UInt8) : Bool := decide (s.length ≤ 10) && (match s with | [] => false | c :: r => small c && r.all fun c => small c || digit c)
theorem Gt (s : List UInt8) : uE s = some (j7 s) := by
 unfold uE
 cases s with
 | nil => rfl
 | cons c r =>
   have gv : ((c :: r) == ([] : List UInt8)) = false := rfl
   rw [gv]
   simp only [cond_false]
   by_cases h1 : 10 < (c :: r).length
   ·have : decide ((10 : Int) < ((c :: r).length : Int)) = true := by simp at h1 ⊢; omega
    rw [this]
    have ah : decide ((c :: r).length ≤ 10) = false := by simp at h1 ⊢; omega
    simp only [j7, ah]; rfl
   ·have : decide ((10 : Int) < ((c :: r).length : Int)) = false := by simp at h1 ⊢; omega
    rw [this]
    have ah : decide ((c :: r).length ≤ 10) = true := by simp at h1 ⊢; omega
    rw [ND]
    simp only [cond_false, Option.bind_some, w9]
    simp only [j7, ah, Bool.true_and]
    show cond (!small c) _ _ = _
    cases ad : small c with
    | false => rfl
    | true =>
      simp only [Bool.not_true, cond_false]
      rw [sT (n := (c :: r).length) (fun i => some (((c :: r).drop i).all fun c => small c || digit c))]
      ·simp [ad]
      ·intro m
       simp only [uD, zX]
       rw [gr (Nat.le_refl _)]; simp
      ·intro i al m ih
       simp only [uD, zX]
       rw [gb al, gG _ i al, ga i _ al (by omega), ih, drop_cons _ i al]
       simp only [cond_true, Option.bind_some, w9, EH, List.all_cons]
       show cond (!small _) (cond (!digit _) _ _) _ = _
       cases small (c :: r)[i] <;> cases digit (c :: r)[i] <;> rfl
theorem N0 (s : List UInt8) (ad : s.length ≤ 140737488355328) : xn s = some (j7 s) := by
 unfold xn
 have bu : ∀ m, s.length - 1 < m → 1 ≤ s.length → p0 s m ((1 : Nat) : Int) = some (((s.drop 1).all fun c => small c || digit c) && (decide (1 ≤ (s.length : Int)) && decide ((s.length : Int) ≤ 10))) := by
  intro m hm ag
  refine down s.length (P := fun i => 1 ≤ i → ∀ m, s.length - i < m → p0 s m (i : Int) = some (((s.drop i).all fun c => small c || digit c) && (decide (1 ≤ (s.length : Int)) && decide ((s.length : Int) ≤ 10)))) ?_ ?_ 1 ag (Nat.le_refl _) m hm
  ·intro _ m hm
   obtain ⟨k, rfl⟩ : ∃ k, m = k + 1 := ⟨m - 1, by omega⟩
   simp only [p0, xm]
   rw [gr (Nat.le_refl _)]; simp
  ·intro i al ih DK m hm
   obtain ⟨k, rfl⟩ : ∃ k, m = k + 1 := ⟨m - 1, by omega⟩
   simp only [p0, xm]
   rw [gb al, gG _ i al, ga i _ al (by omega), ih (by omega) k (by omega), drop_cons _ i al]
   have e : ((i : Int) == 0) = false := by simp; omega
   rw [e]
   simp only [cond_true, cond_false, Option.bind_some, EO, List.all_cons]
   show cond (!small _) (cond (!digit _) _ _) _ = _
   cases small s[i] <;> cases digit s[i] <;> rfl
 refine iH (s.length + 1) fun m hm => ?_
 obtain ⟨k, rfl⟩ : ∃ k, m = k + 1 := ⟨m - 1, by omega⟩
 simp only [p0, xm]
 cases s with
 | nil => rfl
 | cons c r =>
   have az := bu k (by simp at hm ⊢; omega) (by simp)
   rw [show ((1 : Nat) : Int) = 1 from rfl] at az
   rw [u7 (by simp), ND, aul, az]
   have e : ((0 : Int) == 0) = true := rfl
   rw [e]
   simp only [cond_true, j7]
   show cond (!small c) _ _ = _
   have ag : decide (1 ≤ ((c :: r).length : Int)) = true := by simp; omega
   have ah : decide (((c :: r).length : Int) ≤ 10) = decide ((c :: r).length ≤ 10) := by
    by_cases h : (c :: r).length ≤ 10 <;> simp at h ⊢ <;> omega
   rw [ag, ah]
   cases small c with
   | false => simp
   | true => simp [Bool.and_comm]
end Go.eV
