/- Part of a proof that a law returns true for every input. No condition. -/
import Derived.Test.YtobljppjkklojaaGreatUY3
namespace Go.Sh
open Go Go.Fw

theorem SystemFault_true (a : laws_System) (ha : wf_laws_System a) : laws_FnExactSystemFault a = some true := by
  unfold laws_FnExactSystemFault spec_SystemFault
  obtain ⟨r, h1, h2⟩ := law_sys a ha
  rw [h1]
  simp only [Option.bind_some]
  cases hr : decide (r < 0)
  · obtain ⟨h3, h4, h5, _⟩ := h2 hr
    simp only [cond_false, h3, Option.bind_some, spec_fault _ h5, impl_fault _ h5, neI, h4, Bool.not_true]
  · rfl

end Go.Sh
