/- Part of a proof that a law returns true for every input. No condition. -/
import Derived.Test.YtobljppjkklojaaUD6
namespace Go.Sh
open Go Go.Fw

theorem BodyFault_true (a : List laws_Definition) (k : Int) (ha : a.length ≤ 9223372036854775807 ∧ ∀ y ∈ a, wf_laws_Definition y) : laws_FnExactBodyFault a k = some true := by
  unfold laws_FnExactBodyFault
  obtain ⟨r, h1, h2⟩ := law_defs a ha
  rw [h1]
  simp only [Option.bind_some]
  cases hr : decide (r < 0)
  · obtain ⟨h3, h4, h5, _⟩ := h2 hr
    obtain ⟨v, v1, v2⟩ := BodyFault_key _ h5 k
    simp only [cond_false, h3, Option.bind_some, v1, v2, neI3, h4, Bool.not_true]
  · rfl

end Go.Sh
