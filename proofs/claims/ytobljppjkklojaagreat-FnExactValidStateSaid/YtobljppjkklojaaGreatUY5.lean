/- Part of a proof that a law returns true for every input. No condition. -/
import Derived.Test.YtobljppjkklojaaGreatUY3
namespace Go.Sh
open Go Go.Fw
theorem spec_valid (s : impl_System) (h : smallY s) : spec_l05Is s = some (faultV s == 0) := by unfold spec_l05Is; rw [spec_fault s h]; rfl
theorem impl_valid_sys (s : impl_System) (h : smallY s) : impl_ValidSystem s = some (faultV s == 0) := by unfold impl_ValidSystem; rw [impl_fault s h]; rfl
end Go.Sh
