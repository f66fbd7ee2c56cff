/- Part of a proof that a law returns true for every input. No condition. -/
import Derived.Test.YtpddiknnnoomoaaFwI
import Derived.Sort.Grow
import Derived.Lib.SlicesCompact
import Derived.Below
namespace Go.bZ
open Go.Sort
section
variable {α:Type} {e:α→j} {enc:α→Value}
def One (e:α→j) (enc:α→Value):Prop:=(∀x,(e x).wd=1)∧∀(w:World) (F:Nat→Prop) (x:α) (cs:List Value) (S:Nat→Prop),ai w F (e x) cs S↔cs=[enc x]
variable [Inhabited α]
end
theorem b8.below {C:bo} {f:FuncId} {as:List j} {r:j} {v:Value} (ab:x8=false) (oQ:∀args w,(callFunc f args).run C.P w= .ok (.enter f args) w) (aM:r.tree=true) (je:ct r v) (dP:∀w F,ai w F r (ba v) (fun _=>False))
  (h:∀(w:World) (F X:Nat→Prop) (S:Nat→Nat→Prop) (vs:List Value),vs.length=as.length→aX w F X F S (dh as) (dW vs) w→Calls C.P f vs.toArray w fun ex aq=>ex= .returned v∧RowKit.Below w.heap.size w aq):b8 C f as r []:=by
 intro w F X S vs hl aB
 refine .inl ⟨oQ _ _,(h w F X S vs hl aB).mono ?_⟩
 rintro ex aq ⟨rfl,I⟩
 refine⟨_,rfl,F,fun _ _=>False,?_⟩
 exact {
  er:=fun _ h=>h
  eL:=fun _ aS=>.inl aS
  db:=fun c ae=>Nat.lt_of_lt_of_le (aB.db c ae) I.size
  cT:=fun _ _ h=>h.elim
  dp:=fun _ _ h=>h.elim
  c8:=fun _ _ _ _ h=>h.elim
  cl:=fun _ _ h=>h.elim
  b5:=fun u=>by
   rcases u with _|u
   ·exact(ar.bx aM).2 ⟨je,dP _ _⟩
   ·show ar _ _ _ _ .hole _ _
    rw[ar];trivial
  old:=fun c ae _=>I.block c ae
  size:=I.size
  os:=I.os
  tape:=I.tape
  output:=⟨I.output,fun d=>by rw[ab]at d;cases d⟩
  et:=aB.et}
end Go.bZ
