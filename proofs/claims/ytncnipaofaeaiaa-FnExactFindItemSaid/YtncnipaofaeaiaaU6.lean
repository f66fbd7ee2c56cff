/- Part of a proof that a law returns true for every input. No condition. -/
import Derived.Test.YtncnipaofaeaiaaU5
namespace Go.Sh
open Go Go.Fw

/-! The order of strings. -/
theorem cmpS_lt (a b : List UInt8) : cmpS a b < 0 ↔ Op.bytesLess a b = true := by
  induction a generalizing b with
  | nil => cases b <;> simp [cmpS, Op.bytesLess]
  | cons x a ih =>
    cases b with
    | nil => simp [cmpS, Op.bytesLess]
    | cons y b =>
      simp only [cmpS, Op.bytesLess]
      by_cases h1 : x < y
      · simp [h1]
      · by_cases h2 : y < x
        · have h3 : x ≠ y := fun h => by subst h; exact absurd h2 (UInt8.lt_irrefl _)
          simp [h1, h2, h3]
        · have h3 : x = y := UInt8.le_antisymm (UInt8.not_lt.1 h2) (UInt8.not_lt.1 h1)
          subst h3
          simp [ih b]
theorem cmpS_eq0 (a b : List UInt8) : cmpS a b = 0 ↔ a = b := by
  induction a generalizing b with
  | nil => cases b <;> simp [cmpS]
  | cons x a ih =>
    cases b with
    | nil => simp [cmpS]
    | cons y b =>
      simp only [cmpS]
      by_cases h1 : x < y
      · have h3 : x ≠ y := fun h => by subst h; exact absurd h1 (UInt8.lt_irrefl _)
        simp [h1, h3]
      · by_cases h2 : y < x
        · have h3 : x ≠ y := fun h => by subst h; exact absurd h2 (UInt8.lt_irrefl _)
          simp [h1, h2, h3]
        · have h3 : x = y := UInt8.le_antisymm (UInt8.not_lt.1 h2) (UInt8.not_lt.1 h1)
          subst h3
          simp [ih b]
theorem less_trans (a b c : List UInt8) (h1 : Op.bytesLess a b = true) (h2 : Op.bytesLess b c = true) : Op.bytesLess a c = true := by
  induction a generalizing b c with
  | nil =>
    cases c with
    | nil => cases b <;> simp [Op.bytesLess] at h1 h2
    | cons z c => rfl
  | cons x a ih =>
    cases b with
    | nil => simp [Op.bytesLess] at h1
    | cons y b =>
      cases c with
      | nil => simp [Op.bytesLess] at h2
      | cons z c =>
        simp only [Op.bytesLess, Bool.or_eq_true, decide_eq_true_eq, Bool.and_eq_true, beq_iff_eq] at h1 h2 ⊢
        rcases h1 with h1 | ⟨rfl, h1⟩ <;> rcases h2 with h2 | ⟨rfl, h2⟩
        · exact .inl (UInt8.lt_trans h1 h2)
        · exact .inl h1
        · exact .inl h2
        · exact .inr ⟨rfl, ih _ _ h1 h2⟩

end Go.Sh
