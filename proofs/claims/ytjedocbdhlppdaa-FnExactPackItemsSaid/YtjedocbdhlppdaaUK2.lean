/- Part of a proof that a law returns true for every input. No condition. -/
import Derived.Test.YtjedocbdhlppdaaUK1
namespace Go.fg
open Go Go.b1
theorem KI (a : List dL) (bs : a.length ≤ 9223372036854775807 ∧ ∀ y ∈ a, lL y) : u5 a = some true := by
 obtain ⟨r, c5, cr⟩ := Lg a bs
 unfold u5
 rw [c5]
 simp only [Option.bind_some]
 by_cases aB : r < 0
 ·have : decide (r < 0) = true := by simpa using aB
  rw [this]; rfl
 ·have ab : decide (r < 0) = false := by simpa using aB
  have R := cr (by omega)
  rw [ab, Lh a R.1]
  simp only [cond_false, Option.bind_some]
  rw [Lo _ (vB R), Ln _ (vB R), Lj _ (vB R).1]
  simp
end Go.fg
