/- Part of a proof that a law returns true for every input. No condition. -/
import Derived.Test.YtocllehpepigpaaGreatUY3
namespace Go.eN
open Go Go.cZ
theorem aCS (s:ea) (h:u4 s):CR s=some (pO s==0):=by unfold CR;rw[aCO s h];rfl
theorem aCT (s:ea) (h:u4 s):Du s=some (pO s==0):=by unfold Du;rw[aCP s h];rfl
theorem aCU {s:ea} (h:(pO s==0)=true):lX s.ew=true:=by
 cases aj:lX s.ew
 ·unfold pO at h;rw[aj]at h;simp at h
 ·rfl
end Go.eN
