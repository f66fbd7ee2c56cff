/- Part of a proof that a law returns true for every input. No condition. -/
import Derived.Test.YtocllehpepigpaaGreatUY3
namespace Go.e1
open Go Go.dg
theorem aAD (s : eo) (h : uy s) : B5 s = some (q_ s == 0) := by unfold B5; rw [aAz s h]; rfl
theorem aAE (s : eo) (h : uy s) : CD s = some (q_ s == 0) := by unfold CD; rw [aAA s h]; rfl
theorem aAF {s : eo} (h : (q_ s == 0) = true) : me s.eH = true := by
 cases aj : me s.eH
 ·unfold q_ at h; rw [aj] at h; simp at h
 ·rfl
end Go.e1
