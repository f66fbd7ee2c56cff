/- Part of a proof that a law returns true for every input. No condition. -/
import Derived.Test.YtobljppjkklojaaUG
import GoSem.Op.String
namespace Go.fH
open Go Go.cM
set_option linter.unusedSimpArgs false
theorem FZ (a b : List UInt8) : (!(Op.bytesLess a b)) = (Op.bytesLess b a || b == a) := by
 induction a generalizing b with
 | nil => cases b <;> simp [Op.bytesLess]
 | cons x a ih =>
   cases b with
   | nil => simp [Op.bytesLess]
   | cons y b =>
     simp only [Op.bytesLess]
     have := ih b
     by_cases aa : x < y
     ·have ab : ¬ y < x := fun h => by have := UInt8.lt_asymm aa h; exact this
      have aE : y ≠ x := fun h => by subst h; exact absurd aa (UInt8.lt_irrefl _)
      simp [aa, ab, aE]
     ·by_cases ab : y < x
      ·have aE : x ≠ y := fun h => by subst h; exact absurd ab (UInt8.lt_irrefl _)
       simp [aa, ab, aE]
      ·have aE : x = y := by
        have aJ := UInt8.not_lt.1 aa
        have aT := UInt8.not_lt.1 ab
        exact UInt8.le_antisymm aT aJ
       subst aE
       simp [aa, this]
theorem ZG (a : List UInt8) : Op.bytesLess a a = false := by
 have := FZ a a
 cases h : Op.bytesLess a a with
 | false => rfl
 | true => rw [h] at this; simp at this
end Go.fH
