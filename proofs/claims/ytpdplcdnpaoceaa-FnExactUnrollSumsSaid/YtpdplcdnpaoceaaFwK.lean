/- Part of a proof that a law returns true for every input. No condition. -/
import Derived.Test.YtpdplcdnpaoceaaFwJ
namespace Go.cV
open List Option Go.IntKind Nat Or
section
variable {C:bI} {w0 w:World} {F0 X F ba:Nat->Prop} {S aB:Nat->Nat->Prop} {n:Fr} {ρ:Nat->Value} {s au:af} {an h_:Nat->Value} {a:Act} {av:j} {Q:Exit->Act->World->Prop} {aw:World}
theorem bg.off (h:bg w0 F0 X F S s an w) {b:Nat} (bt:w0.heap.size<=b) (a3:¬F b) (bB:∀u,¬S u b) (hw:∀c,c≠b->aw.heap[c]? =w.heap[c]?) (R:aw.heap.size=w.heap.size)
  (U:aw.os=w.os) (aa:aw.tape=w.tape) (ax:Out aw w):bg w0 F0 X F S s an aw where
 fl:=h.fl
 fA:=h.fA
 eg:=λc ai=>by rw[R];exact h.eg c ai
 dw:=λt c ai=>by rw[R];exact h.dw t c ai
 ew:=h.ew
 dS:=h.dS
 cU:=h.cU
 cG:=λt=>az.frame (Sx:=S) (λc ai=>hw c (λe=>a3 (e▸ai))) (λ_ h=>h) (λx c ai=>hw c (λe=>bB x (e▸ai))) h.cG _ _ _ (λc ai=>hw c (λe=>bB t (e▸ai))) (h.cG t)
 old:=λc ai hX=>(hw c (by omega)).trans (h.old c ai hX)
 size:=by rw[R];exact h.size
 os:=U.trans h.os
 tape:=aa.trans h.tape
 output:=ax.trans h.output
 fB:=h.fB
theorem wG {ops:Array Oper} {r:bE} {o:Oper} (bm:r.guard=none) (h:mA n ops o=some r.un):r.dst=o.dst/\o.guard=none/\n7 o.op=r.bb.base/\jE n o.dst=true:=by
 unfold mA at h;split at h
 .rename_i ad;split at h
  .rename_i qS ga;simp only[bE.un,some.injEq,bE.mk.injEq]at h;obtain⟨aI,aR,aX⟩:=h;refine⟨aI.symm,?_,aR,ad⟩;rw[aX,bm]at ga;cases bk:o.guard with
   |none=>rfl
   |some zr=>
    rw[bk]at ga;simp only[tL]at ga;split at ga<;>cases ga
  .cases h
 .cases h
theorem NN {ops:Array Oper} {i:Nat} {o:Oper} {l:Vm} (bk:ops[i]? =some o) (bm:o.guard=none) (h:o.wp C.P a w (wpOps C.P ops Q l) Q):wpOps C.P ops Q (i::l) a w:=by
 simp only[wpOps,bk];show(if Region.wanted o (yielded ops a.tmps)=true then o.wp C.P a w _ Q\/(o.asks C.P a w/\LetsOut Q)else _);rw[if_pos (wg bm)];exact .inl h
end
end Go.cV
