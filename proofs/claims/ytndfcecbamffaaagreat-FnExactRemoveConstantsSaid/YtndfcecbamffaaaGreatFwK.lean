/- Part of a proof that a law returns true for every input. No condition. -/
import Derived.Test.YtndfcecbamffaaaGreatFwJ
namespace Go.c3
open List Option Go.IntKind Nat Or
section
variable {C:bH} {w0 w:World} {F0 X F bC:Nat->Prop} {S aO:Nat->Nat->Prop} {n:Fr} {ρ:Nat->Value} {s az:ak} {aw jy:Nat->Value} {a:Act} {av:I} {Q:Exit->Act->World->Prop} {aB:World}
theorem bw.off (h:bw w0 F0 X F S s aw w) {b:Nat} (bo:w0.heap.size<=b) (bb:¬F b) (bs:∀u,¬S u b) (hw:∀c,c≠b->aB.heap[c]? =w.heap[c]?) (aa:aB.heap.size=w.heap.size)
  (ae:aB.os=w.os) (af:aB.tape=w.tape) (aF:Out aB w):bw w0 F0 X F S s aw aB where
 g2:=h.g2
 hk:=h.hk
 fu:=λc an=>by rw[aa];exact h.fu c an
 ek:=λt c an=>by rw[aa];exact h.ek t c an
 fC:=h.fC
 e9:=h.e9
 c7:=h.c7
 cV:=λt=>aG.frame (Sx:=S) (λc an=>hw c (λe=>bb (e▸an))) (λ_ h=>h) (λx c an=>hw c (λe=>bs x (e▸an))) h.cV _ _ _ (λc an=>hw c (λe=>bs t (e▸an))) (h.cV t)
 old:=λc an jR=>(hw c (by omega)).trans (h.old c an jR)
 size:=by rw[aa];exact h.size
 os:=ae.trans h.os
 tape:=af.trans h.tape
 output:=aF.trans h.output
 hn:=h.hn
theorem xK {ops:Array Oper} {r:bJ} {o:Oper} (bl:r.guard=none) (h:lq n ops o=some r.un):r.dst=o.dst/\o.guard=none/\pP o.op=r.bq.base/\kV n o.dst=true:=by
 unfold lq at h;split at h
 .rename_i ai;split at h
  .rename_i LA gl;simp only[bJ.un,some.injEq,bJ.mk.injEq]at h;obtain⟨aT,a3,aY⟩:=h;refine⟨aT.symm,?_,a3,ai⟩;rw[aY,bl]at gl;cases bO:o.guard with
   |none=>rfl
   |some z5=>
    rw[bO]at gl;simp only[uH]at gl;split at gl<;>cases gl
  .cases h
 .cases h
theorem LK {ops:Array Oper} {i:Nat} {o:Oper} {l:afc} (bO:ops[i]? =some o) (bl:o.guard=none) (h:o.wp C.P a w (wpOps C.P ops Q l) Q):wpOps C.P ops Q (i::l) a w:=by
 simp only[wpOps,bO];show(if Region.wanted o (yielded ops a.tmps)=true then o.wp C.P a w _ Q\/(o.asks C.P a w/\LetsOut Q)else _);rw[if_pos (xg bl)];exact .inl h
end
end Go.c3
