/- Part of a proof that a law returns true for every input. No condition. -/
import Derived.Test.YtjedocbdhlppdaaU3
namespace Go.fi
open Go Go.b7
set_option linter.unusedSimpArgs false
theorem NL (a b : List UInt8) : (!(Op.bytesLess a b)) = (Op.bytesLess b a || b == a) := by
 induction a generalizing b with
 | nil => cases b <;> simp [Op.bytesLess]
 | cons x a ih =>
   cases b with
   | nil => simp [Op.bytesLess]
   | cons y b =>
     simp only [Op.bytesLess]
     have := ih b
     by_cases U : x < y
     ·have aa : ¬ y < x := fun h => by have := UInt8.lt_asymm U h; exact this
      have au : y ≠ x := fun h => by subst h; exact absurd U (UInt8.lt_irrefl _)
      simp [U, aa, au]
     ·by_cases aa : y < x
      ·have au : x ≠ y := fun h => by subst h; exact absurd aa (UInt8.lt_irrefl _)
       simp [U, aa, au]
      ·have au : x = y := by
        have aE := UInt8.not_lt.1 U
        have aI := UInt8.not_lt.1 aa
        exact UInt8.le_antisymm aI aE
       subst au
       simp [U, this]
def rl (x : a6) : Bool := iC x.Name && ((j1 x.bx).2 == 0)
def pD (a : List a6) (i : Nat) : Bool := rl (a.getD i ⟨[], []⟩) && (decide (i = 0) || Op.bytesLess (a.getD (i - 1) ⟨[], []⟩).Name (a.getD i ⟨[], []⟩).Name)
def allI (a : List a6) (i : Nat) : Bool := (List.range' i (a.length - i)).all (pD a)
def lR (a : List a6) : Bool := decide (a.length ≤ 16) && allI a 0
theorem Bx (a : List a6) : allI a a.length = true := by simp [allI]
theorem Bz (a : List a6) (i : Nat) (h : i < a.length) : allI a i = (pD a i && allI a (i + 1)) := by
 unfold allI
 rw [show a.length - i = (a.length - (i + 1)) + 1 by omega, List.range'_succ]
 simp
def ky (a : List a6) : Prop := a.length ≤ 1048576 ∧ ∀ x ∈ a, x.Name.length ≤ 1048576 ∧ x.bx.length ≤ 1048576
theorem wx {a : List a6} (h : ky a) (i : Nat) : (a.getD i ⟨[], []⟩).Name.length ≤ 1048576 ∧ (a.getD i ⟨[], []⟩).bx.length ≤ 1048576 := by
 by_cases ax : i < a.length
 ·have : a.getD i ⟨[], []⟩ = a[i] := by simp [List.getD, ax]
  rw [this]; exact h.2 _ (List.getElem_mem ax)
 ·have : a.getD i ⟨[], []⟩ = ⟨[], []⟩ := by simp [List.getD, List.getElem?_eq_none (by omega : a.length ≤ i)]
  rw [this]; simp
theorem BA (i : Nat) (h : 0 < i) (aO : i ≤ 4611686018427387904) : IntKind.i64.wrap ((i : Int) - 1) = ((i - 1 : Nat) : Int) := by
 rw [eT _ (by omega)]; omega
theorem NM (a : List a6) (h : ky a) : sE a = some (lR a) := by
 unfold sE lR
 by_cases mN : 16 < a.length
 ·have aE : decide ((16 : Int) < a.length) = true := by simp; omega
  have aI : decide (a.length ≤ 16) = false := by simp; omega
  rw [aE, aI]; rfl
 ·have aE : decide ((16 : Int) < a.length) = false := by simp; omega
  have aI : decide (a.length ≤ 16) = true := by simp; omega
  rw [aE, aI, nZ (n := a.length) (fun i => some (allI a i))]
  ·rfl
  ·intro m
   simp only [pe, sD]
   rw [j0 (Nat.le_refl _), Bx]; rfl
  ·intro i ax m ih
   simp only [pe, sD]
   rw [k1 ax, kZ _ i ⟨[], []⟩ ax, mM i _ ax (by omega), ih, Bz _ _ ax]
   simp only [cond_true, Option.bind_some, Bv]
   have ah := wv (a.getD i ⟨[], []⟩).bx (by have := (wx h i).2; omega)
   rw [ah]
   simp only [Option.bind_some]
   by_cases bz : i = 0
   ·subst bz
    have e : decide ((0 : Int) < ((0 : Nat) : Int)) = false := by decide
    rw [e]
    simp only [cond_false, pD, rl]
    cases iC (a.getD 0 ⟨[], []⟩).Name with
    | false => rfl
    | true =>
      generalize j1 (a.getD 0 ⟨[], []⟩).bx = z
      obtain ⟨qI, z2⟩ := z
      cases J : (z2 == 0) <;> simp [bne, J]
   ·have e : decide ((0 : Int) < (i : Int)) = true := by simp; omega
    rw [e, BA i (by omega) (by have := h.1; omega), kZ _ (i - 1) ⟨[], []⟩ (by omega)]
    simp only [cond_true, Option.bind_some, pD, rl, bz, decide_false, Bool.false_or]
    cases iC (a.getD i ⟨[], []⟩).Name with
    | false => rfl
    | true =>
      generalize j1 (a.getD i ⟨[], []⟩).bx = z
      obtain ⟨qI, z2⟩ := z
      cases J : (z2 == 0) <;> cases Op.bytesLess (a.getD (i - 1) ⟨[], []⟩).Name (a.getD i ⟨[], []⟩).Name <;> simp [bne, J]
theorem NN (a : List a6) (h : ky a) : sP a = some (lR a) := by
 unfold sP lR
 have hY : decide ((a.length : Int) ≤ 16) = decide (a.length ≤ 16) := by
  by_cases h : a.length ≤ 16 <;> simp <;> omega
 rw [nZ (n := a.length) (fun i => some (decide (a.length ≤ 16) && allI a i))]
 ·intro m
  simp only [pn, sO]
  rw [j0 (Nat.le_refl _), Bx, hY]; simp
 ·intro i ax m ih
  simp only [pn, sO]
  rw [k1 ax, kZ _ i ⟨[], []⟩ ax, mM i _ ax (by have := h.1; omega), ih, Bz _ _ ax]
  simp only [cond_true, Option.bind_some, pk]
  have aO := Bw (a.getD i ⟨[], []⟩).Name (by have := (wx h i).1; omega)
  have ah := Bu (a.getD i ⟨[], []⟩).bx (by have := (wx h i).2; omega)
  rw [aO, ah]
  simp only [Option.bind_some]
  by_cases bz : i = 0
  ·subst bz
   have e : decide ((0 : Int) < ((0 : Nat) : Int)) = false := by decide
   rw [e]
   simp only [cond_false, pD, rl]
   cases iC (a.getD 0 ⟨[], []⟩).Name with
   | false => simp
   | true =>
     generalize j1 (a.getD 0 ⟨[], []⟩).bx = z
     obtain ⟨qI, z2⟩ := z
     cases J : (z2 == 0) <;> simp [bne, J]
  ·have e : decide ((0 : Int) < (i : Int)) = true := by simp; omega
   rw [e, BA i (by omega) (by have := h.1; omega), kZ _ (i - 1) ⟨[], []⟩ (by omega)]
   simp only [cond_true, Option.bind_some, pD, rl, bz, decide_false, Bool.false_or, ← NL]
   cases iC (a.getD i ⟨[], []⟩).Name with
   | false => simp
   | true =>
     generalize j1 (a.getD i ⟨[], []⟩).bx = z
     obtain ⟨qI, z2⟩ := z
     cases J : (z2 == 0) <;> cases Op.bytesLess (a.getD (i - 1) ⟨[], []⟩).Name (a.getD i ⟨[], []⟩).Name <;> simp [bne, J]
end Go.fi
