/- Part of a proof that a law returns true for every input. No condition. -/
import Derived.Test.YtobljppjkklojaaGreatUY5
namespace Go.Sh
open Go Go.Fw

theorem eqBBy (b : Bool) : (!(b == b)) = false := by cases b <;> rfl
theorem ValidSystem_true (a : laws_System) (ha : wf_laws_System a) : laws_FnExactValidSystem a = some true := by
  unfold laws_FnExactValidSystem spec_ValidSystem
  obtain ⟨r, h1, h2⟩ := law_sys a ha
  rw [h1]
  simp only [Option.bind_some]
  cases hr : decide (r < 0)
  · obtain ⟨h3, h4, h5, _⟩ := h2 hr
    simp only [cond_false, h3, Option.bind_some, spec_valid _ h5, impl_valid_sys _ h5, eqBBy, h4, Bool.not_true]
  · rfl

end Go.Sh
