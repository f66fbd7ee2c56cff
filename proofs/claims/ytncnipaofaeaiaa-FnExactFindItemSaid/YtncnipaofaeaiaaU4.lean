/- Part of a proof that a law returns true for every input. No condition. -/
import Derived.Test.YtncnipaofaeaiaaU3
namespace Go.Sh
open Go Go.Fw
set_option linter.unusedSimpArgs false

theorem less_total (a b : List UInt8) : (!(Op.bytesLess a b)) = (Op.bytesLess b a || b == a) := by
  induction a generalizing b with
  | nil => cases b <;> simp [Op.bytesLess]
  | cons x a ih =>
    cases b with
    | nil => simp [Op.bytesLess]
    | cons y b =>
      simp only [Op.bytesLess]
      have := ih b
      by_cases h1 : x < y
      · have h2 : ¬ y < x := fun h => by have := UInt8.lt_asymm h1 h; exact this
        have h3 : y ≠ x := fun h => by subst h; exact absurd h1 (UInt8.lt_irrefl _)
        simp [h1, h2, h3]
      · by_cases h2 : y < x
        · have h3 : x ≠ y := fun h => by subst h; exact absurd h2 (UInt8.lt_irrefl _)
          simp [h1, h2, h3]
        · have h3 : x = y := by
            have e1 := UInt8.not_lt.1 h1
            have e2 := UInt8.not_lt.1 h2
            exact UInt8.le_antisymm e2 e1
          subst h3
          simp [h1, this]

/-! Items. -/
def okItem (x : impl_Item) : Bool := nameOk x.Name && ((imageKind x.Image).2 == 0)
def stepI (a : List impl_Item) (i : Nat) : Bool := okItem (a.getD i ⟨[], []⟩) && (decide (i = 0) || Op.bytesLess (a.getD (i - 1) ⟨[], []⟩).Name (a.getD i ⟨[], []⟩).Name)
def allI (a : List impl_Item) (i : Nat) : Bool := (List.range' i (a.length - i)).all (stepI a)
def itemsOk (a : List impl_Item) : Bool := decide (a.length ≤ 16) && allI a 0

theorem allI_end (a : List impl_Item) : allI a a.length = true := by simp [allI]
theorem allI_step (a : List impl_Item) (i : Nat) (h : i < a.length) : allI a i = (stepI a i && allI a (i + 1)) := by
  unfold allI
  rw [show a.length - i = (a.length - (i + 1)) + 1 by omega, List.range'_succ]
  simp

/-- Items that are not too large. -/
def smallI (a : List impl_Item) : Prop := a.length ≤ 1048576 ∧ ∀ x ∈ a, x.Name.length ≤ 1048576 ∧ x.Image.length ≤ 1048576

theorem smallI_get {a : List impl_Item} (h : smallI a) (i : Nat) : (a.getD i ⟨[], []⟩).Name.length ≤ 1048576 ∧ (a.getD i ⟨[], []⟩).Image.length ≤ 1048576 := by
  by_cases hi : i < a.length
  · have : a.getD i ⟨[], []⟩ = a[i] := by simp [List.getD, hi]
    rw [this]; exact h.2 _ (List.getElem_mem hi)
  · have : a.getD i ⟨[], []⟩ = ⟨[], []⟩ := by simp [List.getD, List.getElem?_eq_none (by omega : a.length ≤ i)]
    rw [this]; simp

theorem wpred (i : Nat) (h : 0 < i) (hn : i ≤ 4611686018427387904) : IntKind.i64.wrap ((i : Int) - 1) = ((i - 1 : Nat) : Int) := by
  rw [w64 _ (by omega)]; omega

theorem spec_items (a : List impl_Item) (h : smallI a) : spec_l32Items a = some (itemsOk a) := by
  unfold spec_l32Items itemsOk
  by_cases h16 : 16 < a.length
  · have e1 : decide ((16 : Int) < a.length) = true := by simp; omega
    have e2 : decide (a.length ≤ 16) = false := by simp; omega
    rw [e1, e2]; rfl
  · have e1 : decide ((16 : Int) < a.length) = false := by simp; omega
    have e2 : decide (a.length ≤ 16) = true := by simp; omega
    rw [e1, e2, up_lim (n := a.length) (fun i => some (allI a i))]
    · rfl
    · intro m
      simp only [spec_l32Items_l14, spec_l32Items_b14]
      rw [ltF (Nat.le_refl _), allI_end]; rfl
    · intro i hi m ih
      simp only [spec_l32Items_l14, spec_l32Items_b14]
      rw [ltT hi, getI_nat _ i ⟨[], []⟩ hi, wsucc i _ hi (by omega), ih, allI_step _ _ hi]
      simp only [cond_true, Option.bind_some, spec_name]
      have hk := spec_kind (a.getD i ⟨[], []⟩).Image (by have := (smallI_get h i).2; omega)
      rw [hk]
      simp only [Option.bind_some]
      by_cases h0 : i = 0
      · subst h0
        have e : decide ((0 : Int) < ((0 : Nat) : Int)) = false := by decide
        rw [e]
        simp only [cond_false, stepI, okItem]
        cases nameOk (a.getD 0 ⟨[], []⟩).Name with
        | false => rfl
        | true =>
          generalize imageKind (a.getD 0 ⟨[], []⟩).Image = z
          obtain ⟨z1, z2⟩ := z
          cases hb : (z2 == 0) <;> simp [bne, hb]
      · have e : decide ((0 : Int) < (i : Int)) = true := by simp; omega
        rw [e, wpred i (by omega) (by have := h.1; omega), getI_nat _ (i - 1) ⟨[], []⟩ (by omega)]
        simp only [cond_true, Option.bind_some, stepI, okItem, h0, decide_false, Bool.false_or]
        cases nameOk (a.getD i ⟨[], []⟩).Name with
        | false => rfl
        | true =>
          generalize imageKind (a.getD i ⟨[], []⟩).Image = z
          obtain ⟨z1, z2⟩ := z
          cases hb : (z2 == 0) <;> cases Op.bytesLess (a.getD (i - 1) ⟨[], []⟩).Name (a.getD i ⟨[], []⟩).Name <;> simp [bne, hb]

theorem impl_items (a : List impl_Item) (h : smallI a) : impl_ValidItems a = some (itemsOk a) := by
  unfold impl_ValidItems itemsOk
  have e16 : decide ((a.length : Int) ≤ 16) = decide (a.length ≤ 16) := by
    by_cases h : a.length ≤ 16 <;> simp <;> omega
  rw [up_lim (n := a.length) (fun i => some (decide (a.length ≤ 16) && allI a i))]
  · intro m
    simp only [impl_ValidItems_l6, impl_ValidItems_b6]
    rw [ltF (Nat.le_refl _), allI_end, e16]; simp
  · intro i hi m ih
    simp only [impl_ValidItems_l6, impl_ValidItems_b6]
    rw [ltT hi, getI_nat _ i ⟨[], []⟩ hi, wsucc i _ hi (by have := h.1; omega), ih, allI_step _ _ hi]
    simp only [cond_true, Option.bind_some, impl_isImage]
    have hn := impl_name (a.getD i ⟨[], []⟩).Name (by have := (smallI_get h i).1; omega)
    have hk := impl_kind (a.getD i ⟨[], []⟩).Image (by have := (smallI_get h i).2; omega)
    rw [hn, hk]
    simp only [Option.bind_some]
    by_cases h0 : i = 0
    · subst h0
      have e : decide ((0 : Int) < ((0 : Nat) : Int)) = false := by decide
      rw [e]
      simp only [cond_false, stepI, okItem]
      cases nameOk (a.getD 0 ⟨[], []⟩).Name with
      | false => simp
      | true =>
        generalize imageKind (a.getD 0 ⟨[], []⟩).Image = z
        obtain ⟨z1, z2⟩ := z
        cases hb : (z2 == 0) <;> simp [bne, hb]
    · have e : decide ((0 : Int) < (i : Int)) = true := by simp; omega
      rw [e, wpred i (by omega) (by have := h.1; omega), getI_nat _ (i - 1) ⟨[], []⟩ (by omega)]
      simp only [cond_true, Option.bind_some, stepI, okItem, h0, decide_false, Bool.false_or, ← less_total]
      cases nameOk (a.getD i ⟨[], []⟩).Name with
      | false => simp
      | true =>
        generalize imageKind (a.getD i ⟨[], []⟩).Image = z
        obtain ⟨z1, z2⟩ := z
        cases hb : (z2 == 0) <;> cases Op.bytesLess (a.getD (i - 1) ⟨[], []⟩).Name (a.getD i ⟨[], []⟩).Name <;> simp [bne, hb]

end Go.Sh
