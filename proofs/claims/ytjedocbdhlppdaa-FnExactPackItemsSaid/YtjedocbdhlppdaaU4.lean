/- Part of a proof that a law returns true for every input. No condition. -/
import Derived.Test.YtjedocbdhlppdaaU3
namespace Go.fg
open Go Go.b1
set_option linter.unusedSimpArgs false
theorem Lc (a b : List UInt8) : (!(Op.bytesLess a b)) = (Op.bytesLess b a || b == a) := by
 induction a generalizing b with
 | nil => cases b <;> simp [Op.bytesLess]
 | cons x a ih =>
   cases b with
   | nil => simp [Op.bytesLess]
   | cons y b =>
     simp only [Op.bytesLess]
     have := ih b
     by_cases U : x < y
     ·have aa : ¬ y < x := fun h => by have := UInt8.lt_asymm U h; exact this
      have aw : y ≠ x := fun h => by subst h; exact absurd U (UInt8.lt_irrefl _)
      simp [U, aa, aw]
     ·by_cases aa : y < x
      ·have aw : x ≠ y := fun h => by subst h; exact absurd aa (UInt8.lt_irrefl _)
       simp [U, aa, aw]
      ·have aw : x = y := by
        have aC := UInt8.not_lt.1 U
        have aF := UInt8.not_lt.1 aa
        exact UInt8.le_antisymm aF aC
       subst aw
       simp [U, this]
def qE (x : bS) : Bool := ks x.Name && ((lW x.bp).2 == 0)
def o0 (a : List bS) (i : Nat) : Bool := qE (a.getD i ⟨[], []⟩) && (decide (i = 0) || Op.bytesLess (a.getD (i - 1) ⟨[], []⟩).Name (a.getD i ⟨[], []⟩).Name)
def allI (a : List bS) (i : Nat) : Bool := (List.range' i (a.length - i)).all (o0 a)
def lX (a : List bS) : Bool := decide (a.length ≤ 16) && allI a 0
theorem Aq (a : List bS) : allI a a.length = true := by simp [allI]
theorem Ar (a : List bS) (i : Nat) (h : i < a.length) : allI a i = (o0 a i && allI a (i + 1)) := by
 unfold allI
 rw [show a.length - i = (a.length - (i + 1)) + 1 by omega, List.range'_succ]
 simp
def lY (a : List bS) : Prop := a.length ≤ 1048576 ∧ ∀ x ∈ a, x.Name.length ≤ 1048576 ∧ x.bp.length ≤ 1048576
theorem vA {a : List bS} (h : lY a) (i : Nat) : (a.getD i ⟨[], []⟩).Name.length ≤ 1048576 ∧ (a.getD i ⟨[], []⟩).bp.length ≤ 1048576 := by
 by_cases ax : i < a.length
 ·have : a.getD i ⟨[], []⟩ = a[i] := by simp [List.getD, ax]
  rw [this]; exact h.2 _ (List.getElem_mem ax)
 ·have : a.getD i ⟨[], []⟩ = ⟨[], []⟩ := by simp [List.getD, List.getElem?_eq_none (by omega : a.length ≤ i)]
  rw [this]; simp
theorem As (i : Nat) (h : 0 < i) (aL : i ≤ 4611686018427387904) : IntKind.i64.wrap ((i : Int) - 1) = ((i - 1 : Nat) : Int) := by
 rw [gl _ (by omega)]; omega
theorem Ld (a : List bS) (h : lY a) : rW a = some (lX a) := by
 unfold rW lX
 by_cases MM : 16 < a.length
 ·have aC : decide ((16 : Int) < a.length) = true := by simp; omega
  have aF : decide (a.length ≤ 16) = false := by simp; omega
  rw [aC, aF]; rfl
 ·have aC : decide ((16 : Int) < a.length) = false := by simp; omega
  have aF : decide (a.length ≤ 16) = true := by simp; omega
  rw [aC, aF, lU (n := a.length) (fun i => some (allI a i))]
  ·rfl
  ·intro m
   simp only [oG, rV]
   rw [jV (Nat.le_refl _), Aq]; rfl
  ·intro i ax m ih
   simp only [oG, rV]
   rw [jg ax, kp _ i ⟨[], []⟩ ax, jU i _ ax (by omega), ih, Ar _ _ ax]
   simp only [cond_true, Option.bind_some, La]
   have ai := Ap (a.getD i ⟨[], []⟩).bp (by have := (vA h i).2; omega)
   rw [ai]
   simp only [Option.bind_some]
   by_cases bk : i = 0
   ·subst bk
    have e : decide ((0 : Int) < ((0 : Nat) : Int)) = false := by decide
    rw [e]
    simp only [cond_false, o0, qE]
    cases ks (a.getD 0 ⟨[], []⟩).Name with
    | false => rfl
    | true =>
      generalize lW (a.getD 0 ⟨[], []⟩).bp = z
      obtain ⟨p_, z2⟩ := z
      cases J : (z2 == 0) <;> simp [bne, J]
   ·have e : decide ((0 : Int) < (i : Int)) = true := by simp; omega
    rw [e, As i (by omega) (by have := h.1; omega), kp _ (i - 1) ⟨[], []⟩ (by omega)]
    simp only [cond_true, Option.bind_some, o0, qE, bk, decide_false, Bool.false_or]
    cases ks (a.getD i ⟨[], []⟩).Name with
    | false => rfl
    | true =>
      generalize lW (a.getD i ⟨[], []⟩).bp = z
      obtain ⟨p_, z2⟩ := z
      cases J : (z2 == 0) <;> cases Op.bytesLess (a.getD (i - 1) ⟨[], []⟩).Name (a.getD i ⟨[], []⟩).Name <;> simp [bne, J]
theorem Le (a : List bS) (h : lY a) : r6 a = some (lX a) := by
 unfold r6 lX
 have gZ : decide ((a.length : Int) ≤ 16) = decide (a.length ≤ 16) := by
  by_cases h : a.length ≤ 16 <;> simp <;> omega
 rw [lU (n := a.length) (fun i => some (decide (a.length ≤ 16) && allI a i))]
 ·intro m
  simp only [oK, r5]
  rw [jV (Nat.le_refl _), Aq, gZ]; simp
 ·intro i ax m ih
  simp only [oK, r5]
  rw [jg ax, kp _ i ⟨[], []⟩ ax, jU i _ ax (by have := h.1; omega), ih, Ar _ _ ax]
  simp only [cond_true, Option.bind_some, u3]
  have aL := Lb (a.getD i ⟨[], []⟩).Name (by have := (vA h i).1; omega)
  have ai := K_ (a.getD i ⟨[], []⟩).bp (by have := (vA h i).2; omega)
  rw [aL, ai]
  simp only [Option.bind_some]
  by_cases bk : i = 0
  ·subst bk
   have e : decide ((0 : Int) < ((0 : Nat) : Int)) = false := by decide
   rw [e]
   simp only [cond_false, o0, qE]
   cases ks (a.getD 0 ⟨[], []⟩).Name with
   | false => simp
   | true =>
     generalize lW (a.getD 0 ⟨[], []⟩).bp = z
     obtain ⟨p_, z2⟩ := z
     cases J : (z2 == 0) <;> simp [bne, J]
  ·have e : decide ((0 : Int) < (i : Int)) = true := by simp; omega
   rw [e, As i (by omega) (by have := h.1; omega), kp _ (i - 1) ⟨[], []⟩ (by omega)]
   simp only [cond_true, Option.bind_some, o0, qE, bk, decide_false, Bool.false_or, ← Lc]
   cases ks (a.getD i ⟨[], []⟩).Name with
   | false => simp
   | true =>
     generalize lW (a.getD i ⟨[], []⟩).bp = z
     obtain ⟨p_, z2⟩ := z
     cases J : (z2 == 0) <;> cases Op.bytesLess (a.getD (i - 1) ⟨[], []⟩).Name (a.getD i ⟨[], []⟩).Name <;> simp [bne, J]
end Go.fg
