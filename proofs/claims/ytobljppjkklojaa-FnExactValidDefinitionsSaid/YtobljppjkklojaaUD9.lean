/- Part of a proof that a law returns true for every input. No condition. -/
import Derived.Test.YtobljppjkklojaaUD8
namespace Go.Sh
open Go Go.Fw

theorem eqBB (b : Bool) : (!(b == b)) = false := by cases b <;> rfl
theorem ValidDefinitions_true (a : List laws_Definition) (ha : a.length ≤ 9223372036854775807 ∧ ∀ y ∈ a, wf_laws_Definition y) : laws_FnExactValidDefinitions a = some true := by
  unfold laws_FnExactValidDefinitions spec_ValidDefinitions
  obtain ⟨r, h1, h2⟩ := law_defs a ha
  rw [h1]
  simp only [Option.bind_some]
  cases hr : decide (r < 0)
  · obtain ⟨h3, h4, h5, _⟩ := h2 hr
    simp only [cond_false, h3, Option.bind_some, spec_defs _ h5, impl_defs _ h5, eqBB, h4, Bool.not_true]
  · rfl

end Go.Sh
