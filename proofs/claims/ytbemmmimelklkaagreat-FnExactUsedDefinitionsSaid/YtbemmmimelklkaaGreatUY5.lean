/- Part of a proof that a law returns true for every input. No condition. -/
import Derived.Test.YtbemmmimelklkaaGreatUY3
namespace Go.eR
open Go Go.c5
theorem awS (s : dv) (h : rP s) : BH s = some (o3 s == 0) := by unfold BH; rw [awO s h]; rfl
theorem awT (s : dv) (h : rP s) : Cm s = some (o3 s == 0) := by unfold Cm; rw [awP s h]; rfl
theorem awU {s : dv} (h : (o3 s == 0) = true) : o2 s.b3 = true := by
 cases ak : o2 s.b3
 ·unfold o3 at h; rw [ak] at h; simp at h
 ·rfl
end Go.eR
