/- Part of a proof that a law returns true for every input. No condition. -/
import Derived.Test.YtpddiknnnoomoaaFwI
import Derived.Sort.Grow
import Derived.Lib.SlicesCompact
import Derived.Below
namespace Go.bV
open Go.Sort
section
variable {α:Type} {e:α→j} {enc:α→Value}
def One (e:α→j) (enc:α→Value):Prop:=(∀x,(e x).wd=1)∧∀(w:World) (F:Nat→Prop) (x:α) (cs:List Value) (S:Nat→Prop),al w F (e x) cs S↔cs=[enc x]
variable [Inhabited α]
end
theorem cb.below {C:bq} {f:FuncId} {as:List j} {r:j} {v:Value} (ab:xp=false) (n0:∀args w,(callFunc f args).run C.P w= .ok (.enter f args) w) (aG:r.tree=true) (iF:cl r v) (dN:∀w F,al w F r (bd v) (fun _=>False))
  (h:∀(w:World) (F X:Nat→Prop) (S:Nat→Nat→Prop) (vs:List Value),vs.length=as.length→aY w F X F S (df as) (dX vs) w→Calls C.P f vs.toArray w fun ex aq=>ex= .returned v∧RowKit.Below w.heap.size w aq):cb C f as r []:=by
 intro w F X S vs hl aA
 refine .inl ⟨n0 _ _,(h w F X S vs hl aA).mono ?_⟩
 rintro ex aq ⟨rfl,I⟩
 refine⟨_,rfl,F,fun _ _=>False,?_⟩
 exact {
  ep:=fun _ h=>h
  eC:=fun _ aR=>.inl aR
  c_:=fun c ae=>Nat.lt_of_lt_of_le (aA.c_ c ae) I.size
  cP:=fun _ _ h=>h.elim
  dj:=fun _ _ h=>h.elim
  c8:=fun _ _ _ _ h=>h.elim
  cf:=fun _ _ h=>h.elim
  b0:=fun u=>by
   rcases u with _|u
   ·exact(ar.bx aG).2 ⟨iF,dN _ _⟩
   ·show ar _ _ _ _ .hole _ _
    rw[ar];trivial
  old:=fun c ae _=>I.block c ae
  size:=I.size
  os:=I.os
  tape:=I.tape
  output:=⟨I.output,fun d=>by rw[ab]at d;cases d⟩
  er:=aA.er}
end Go.bV
