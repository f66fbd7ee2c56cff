/- Part of a proof that a law returns true for every input. No condition. -/
import Derived.Test.YtbemmmimelklkaaGreatUY3
namespace Go.fJ
open Go Go.dg
theorem aun (s : dU) (h : tg s) : AM s = some (p8 s == 0) := by unfold AM; rw [auj s h]; rfl
theorem auo (s : dU) (h : tg s) : Bl s = some (p8 s == 0) := by unfold Bl; rw [auk s h]; rfl
theorem aup {s : dU} (h : (p8 s == 0) = true) : nG s.bQ = true := by
 cases al : nG s.bQ
 ·unfold p8 at h; rw [al] at h; simp at h
 ·rfl
end Go.fJ
