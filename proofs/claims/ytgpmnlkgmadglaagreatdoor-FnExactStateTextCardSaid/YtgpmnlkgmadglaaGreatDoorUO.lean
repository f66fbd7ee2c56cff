/- Part of a proof that a law returns true for every input. No condition. -/
import Derived.Test.YtgpmnlkgmadglaaGreatDoorUG
import GoSem.Op.String
namespace Go.eV
open Go Go.c0
set_option linter.unusedSimpArgs false
theorem Oq (a b : List UInt8) : (!(Op.bytesLess a b)) = (Op.bytesLess b a || b == a) := by
 induction a generalizing b with
 | nil => cases b <;> simp [Op.bytesLess]
 | cons x a ih =>
   cases b with
   | nil => simp [Op.bytesLess]
   | cons y b =>
     simp only [Op.bytesLess]
     have := ih b
     by_cases ag : x < y
     ·have ah : ¬ y < x := fun h => by have := UInt8.lt_asymm ag h; exact this
      have aI : y ≠ x := fun h => by subst h; exact absurd ag (UInt8.lt_irrefl _)
      simp [ag, ah, aI]
     ·by_cases ah : y < x
      ·have aI : x ≠ y := fun h => by subst h; exact absurd ah (UInt8.lt_irrefl _)
       simp [ag, ah, aI]
      ·have aI : x = y := by
        have aS := UInt8.not_lt.1 ag
        have aX := UInt8.not_lt.1 ah
        exact UInt8.le_antisymm aX aS
       subst aI
       simp [ag, this]
theorem avQ (a : List UInt8) : Op.bytesLess a a = false := by
 have := Oq a a
 cases h : Op.bytesLess a a with
 | false => rfl
 | true => rw [h] at this; simp at this
end Go.eV
