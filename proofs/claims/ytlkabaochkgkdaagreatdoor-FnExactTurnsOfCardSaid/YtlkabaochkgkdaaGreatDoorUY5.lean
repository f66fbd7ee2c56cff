/- Part of a proof that a law returns true for every input. No condition. -/
import Derived.Test.YtlkabaochkgkdaaGreatDoorUY3
namespace Go.eU
open Go Go.c_
theorem aGI (s:eI) (h:we s):DT s=some (wg s==0):=by unfold DT;rw[aGE s h];rfl
theorem aGJ (s:eI) (h:we s):ED s=some (wg s==0):=by unfold ED;rw[aGF s h];rfl
end Go.eU
