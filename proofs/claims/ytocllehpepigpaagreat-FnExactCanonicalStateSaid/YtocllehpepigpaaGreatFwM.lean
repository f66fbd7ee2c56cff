/- Part of a proof that a law returns true for every input. No condition. -/
import Derived.Test.YtocllehpepigpaaGreatFwI
import Derived.Sort.Grow
import Derived.Lib.SlicesCompact
import Derived.Below
namespace Go.cZ
open Go.Sort
section
variable {α:Type} {e:α→I} {enc:α→Value}
def One (e:α→I) (enc:α→Value):Prop:=(∀x,(e x).wd=1)∧∀(w:World) (F:Nat→Prop) (x:α) (cs:List Value) (S:Nat→Prop),ax w F (e x) cs S↔cs=[enc x]
theorem Hh (w:World) (os:Array Obj) {c:Nat} (h:c<w.heap.size):(Sort.grow w os).heap[c]? =w.heap[c]? :=by
 simp only[Sort.grow,Array.getElem?_append,h,if_true]
variable [Inhabited α]
end
end Go.cZ
