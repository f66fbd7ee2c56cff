/- Part of a proof that a law returns true for every input. No condition. -/
import Derived.Test.YtocllehpepigpaaGreatUG
import GoSem.Op.String
namespace Go.e1
open Go Go.dg
set_option linter.unusedSimpArgs false
theorem Qf (a b : List UInt8) : (!(Op.bytesLess a b)) = (Op.bytesLess b a || b == a) := by
 induction a generalizing b with
 | nil => cases b <;> simp [Op.bytesLess]
 | cons x a ih =>
   cases b with
   | nil => simp [Op.bytesLess]
   | cons y b =>
     simp only [Op.bytesLess]
     have := ih b
     by_cases ae : x < y
     ·have ah : ¬ y < x := fun h => by have := UInt8.lt_asymm ae h; exact this
      have aH : y ≠ x := fun h => by subst h; exact absurd ae (UInt8.lt_irrefl _)
      simp [ae, ah, aH]
     ·by_cases ah : y < x
      ·have aH : x ≠ y := fun h => by subst h; exact absurd ah (UInt8.lt_irrefl _)
       simp [ae, ah, aH]
      ·have aH : x = y := by
        have aU := UInt8.not_lt.1 ae
        have ba := UInt8.not_lt.1 ah
        exact UInt8.le_antisymm ba aU
       subst aH
       simp [ae, this]
theorem aAm (a : List UInt8) : Op.bytesLess a a = false := by
 have := Qf a a
 cases h : Op.bytesLess a a with
 | false => rfl
 | true => rw [h] at this; simp at this
end Go.e1
