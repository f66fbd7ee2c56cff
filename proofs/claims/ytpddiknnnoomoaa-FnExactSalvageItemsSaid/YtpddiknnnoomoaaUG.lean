/- Part of a proof that a law returns true for every input. No condition. -/
import Derived.Test.YtpddiknnnoomoaaU0
namespace Go.eF
open Go Go.bV
def jg {α:Type} (f:α→Nat):List α→Nat
 |[]=>0
 |x::r=>f x+jg f r
def kB {α:Type} (f:α→Nat) (l:List α):Nat:=l.length+jg f l
theorem OP {α:Type} (f:α→Nat) (l:List α):l.length≤kB f l:=Nat.le_add_right _ _
theorem xe {b n:Nat} (h:n*b≤140737488355328) (aa:n≤9223372036854775807):room b n=some ():=by unfold room;rw[if_pos ⟨h,aa⟩]
end Go.eF
