/- Part of a proof that a law returns true for every input. No condition. -/
import Derived.Test.YtbemmmimelklkaaGreatUY3
namespace Go.f_
open Go Go.dk
theorem aum (s : ev) (h : sU s) : Ai s = some (pT s == 0) := by unfold Ai; rw [aui s h]; rfl
theorem aun (s : ev) (h : sU s) : AV s = some (pT s == 0) := by unfold AV; rw [auj s h]; rfl
theorem awK {s : ev} (h : (pT s == 0) = true) : ov s.e8 = true := by
 cases al : ov s.e8
 ·unfold pT at h; rw [al] at h; simp at h
 ·rfl
end Go.f_
