/- Part of a proof that a law returns true for every input. No condition. -/
import Derived.Test.YtjedocbdhlppdaaFwI
import Derived.Sort.Grow
import Derived.Lib.SlicesCompact
import Derived.Below
namespace Go.b7
open Go.Sort
section
variable {α : Type} {e : α → j} {enc : α → Value}
def One (e : α → j) (enc : α → Value) : Prop := (∀ x, (e x).wd = 1) ∧ ∀ (w : World) (F : Nat → Prop) (x : α) (cs : List Value) (S : Nat → Prop), ai w F (e x) cs S ↔ cs = [enc x]
variable [Inhabited α]
end
end Go.b7
