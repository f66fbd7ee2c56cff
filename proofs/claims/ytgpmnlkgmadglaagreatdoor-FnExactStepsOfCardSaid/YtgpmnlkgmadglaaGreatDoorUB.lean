/- Part of a proof that a law returns true for every input. No condition. -/
import Derived.Test.YtgpmnlkgmadglaaGreatDoorUG
import Derived.Test.YtgpmnlkgmadglaaGreatDoorP9
namespace Go.eR
open Go Go.cY
def small (c : UInt8) : Bool := decide (97 ≤ (c.toNat : Int)) && decide ((c.toNat : Int) ≤ 122)
def digit (c : UInt8) : Bool := decide (48 ≤ (c.toNat : Int)) && decide ((c.toNat : Int) ≤ 57)
def iS (s : List UInt8) : Bool := decide (s.length ≤ 10) && (match s with | [] => false | c :: r => small c && r.all fun c => small c || digit c)
theorem I9 (s : List UInt8) : wL s = some (iS s) := by
 unfold wL
 cases s with
 | nil => rfl
 | cons c r =>
   have gh : ((c :: r) == ([] : List UInt8)) = false := rfl
   rw [gh]
   simp only [cond_false]
   by_cases h6 : 10 < (c :: r).length
   ·have : decide ((10 : Int) < ((c :: r).length : Int)) = true := by simp at h6 ⊢; omega
    rw [this]
    have ag : decide ((c :: r).length ≤ 10) = false := by simp at h6 ⊢; omega
    simp only [iS, ag]; rfl
   ·have : decide ((10 : Int) < ((c :: r).length : Int)) = false := by simp at h6 ⊢; omega
    rw [this]
    have ag : decide ((c :: r).length ≤ 10) = true := by simp at h6 ⊢; omega
    rw [I3]
    simp only [cond_false, Option.bind_some, zd]
    simp only [iS, ag, Bool.true_and]
    show cond (!small c) _ _ = _
    cases ab : small c with
    | false => rfl
    | true =>
      simp only [Bool.not_true, cond_false]
      rw [rL (n := (c :: r).length) (fun i => some (((c :: r).drop i).all fun c => small c || digit c))]
      ·simp [ab]
      ·intro m
       simp only [wK, Cm]
       rw [gI (Nat.le_refl _)]; simp
      ·intro i an m ih
       simp only [wK, Cm]
       rw [hx an, fp _ i an, hg i _ an (by omega), ih, drop_cons _ i an]
       simp only [cond_true, Option.bind_some, zd, Hp, List.all_cons]
       show cond (!small _) (cond (!digit _) _ _) _ = _
       cases small (c :: r)[i] <;> cases digit (c :: r)[i] <;> rfl
theorem QD (s : List UInt8) (ab : s.length ≤ 140737488355328) : zr s = some (iS s) := by
 unfold zr
 have bG : ∀ m, s.length - 1 < m → 1 ≤ s.length → rC s m ((1 : Nat) : Int) = some (((s.drop 1).all fun c => small c || digit c) && (decide (1 ≤ (s.length : Int)) && decide ((s.length : Int) ≤ 10))) := by
  intro m hm af
  refine down s.length (P := fun i => 1 ≤ i → ∀ m, s.length - i < m → rC s m (i : Int) = some (((s.drop i).all fun c => small c || digit c) && (decide (1 ≤ (s.length : Int)) && decide ((s.length : Int) ≤ 10)))) ?_ ?_ 1 af (Nat.le_refl _) m hm
  ·intro _ m hm
   obtain ⟨k, rfl⟩ : ∃ k, m = k + 1 := ⟨m - 1, by omega⟩
   simp only [rC, zq]
   rw [gI (Nat.le_refl _)]; simp
  ·intro i an ih Gh m hm
   obtain ⟨k, rfl⟩ : ∃ k, m = k + 1 := ⟨m - 1, by omega⟩
   simp only [rC, zq]
   rw [hx an, fp _ i an, hg i _ an (by omega), ih (by omega) k (by omega), drop_cons _ i an]
   have e : ((i : Int) == 0) = false := by simp; omega
   rw [e]
   simp only [cond_true, cond_false, Option.bind_some, Hz, List.all_cons]
   show cond (!small _) (cond (!digit _) _ _) _ = _
   cases small s[i] <;> cases digit s[i] <;> rfl
 refine hE (s.length + 1) fun m hm => ?_
 obtain ⟨k, rfl⟩ : ∃ k, m = k + 1 := ⟨m - 1, by omega⟩
 simp only [rC, zq]
 cases s with
 | nil => rfl
 | cons c r =>
   have ar := bG k (by simp at hm ⊢; omega) (by simp)
   rw [show ((1 : Nat) : Int) = 1 from rfl] at ar
   rw [xq (by simp), I3, awm, ar]
   have e : ((0 : Int) == 0) = true := rfl
   rw [e]
   simp only [cond_true, iS]
   show cond (!small c) _ _ = _
   have af : decide (1 ≤ ((c :: r).length : Int)) = true := by simp; omega
   have ag : decide (((c :: r).length : Int) ≤ 10) = decide ((c :: r).length ≤ 10) := by
    by_cases h : (c :: r).length ≤ 10 <;> simp at h ⊢ <;> omega
   rw [af, ag]
   cases small c with
   | false => simp
   | true => simp [Bool.and_comm]
end Go.eR
