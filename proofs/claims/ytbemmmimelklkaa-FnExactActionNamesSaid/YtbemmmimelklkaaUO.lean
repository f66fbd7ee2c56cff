/- Part of a proof that a law returns true for every input. No condition. -/
import Derived.Test.YtbemmmimelklkaaUG
import GoSem.Op.String
namespace Go.eJ
open Go Go.cB
set_option linter.unusedSimpArgs false
theorem Jd (a b : List UInt8) : (!(Op.bytesLess a b)) = (Op.bytesLess b a || b == a) := by
 induction a generalizing b with
 | nil => cases b <;> simp [Op.bytesLess]
 | cons x a ih =>
   cases b with
   | nil => simp [Op.bytesLess]
   | cons y b =>
     simp only [Op.bytesLess]
     have := ih b
     by_cases ab : x < y
     ·have af : ¬ y < x := fun h => by have := UInt8.lt_asymm ab h; exact this
      have aF : y ≠ x := fun h => by subst h; exact absurd ab (UInt8.lt_irrefl _)
      simp [ab, af, aF]
     ·by_cases af : y < x
      ·have aF : x ≠ y := fun h => by subst h; exact absurd af (UInt8.lt_irrefl _)
       simp [ab, af, aF]
      ·have aF : x = y := by
        have aJ := UInt8.not_lt.1 ab
        have aP := UInt8.not_lt.1 af
        exact UInt8.le_antisymm aP aJ
       subst aF
       simp [ab, this]
theorem agC (a : List UInt8) : Op.bytesLess a a = false := by
 have := Jd a a
 cases h : Op.bytesLess a a with
 | false => rfl
 | true => rw [h] at this; simp at this
end Go.eJ
