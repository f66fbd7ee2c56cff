/- Part of a proof that a law returns true for every input. No condition. -/
import Derived.Test.YtcmimclaknmnbaaGreatDoorFwM
import Derived.Deep.Draws
namespace Go.cC
open Go.Sort
end Go.cC
