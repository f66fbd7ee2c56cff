/- Part of a proof that a law returns true for every input. No condition. -/
import Derived.Test.YtpdplcdnpaoceaaFwJ
namespace Go.cM
open List Option Go.IntKind Nat Or
section
variable {C:bA} {w0 w:World} {F0 X F bo:Nat->Prop} {S aF:Nat->Nat->Prop} {n:Fr} {ρ:Nat->Value} {s ax:ah} {aq iA:Nat->Value} {a:Act} {av:I} {Q:Exit->Act->World->Prop} {az:World}
theorem bg.off (h:bg w0 F0 X F S s aq w) {b:Nat} (ba:w0.heap.size<=b) (a1:¬F b) (bm:∀u,¬S u b) (hw:∀c,c≠b->az.heap[c]? =w.heap[c]?) (aa:az.heap.size=w.heap.size)
  (ab:az.os=w.os) (ad:az.tape=w.tape) (aB:Out az w):bg w0 F0 X F S s aq az where
 fN:=h.fN
 gm:=h.gm
 eu:=λc aj=>by rw[aa];exact h.eu c aj
 dA:=λt c aj=>by rw[aa];exact h.dA t c aj
 eH:=h.eH
 ej:=h.ej
 cW:=h.cW
 cE:=λt=>aA.frame (Sx:=S) (λc aj=>hw c (λe=>a1 (e▸aj))) (λ_ h=>h) (λx c aj=>hw c (λe=>bm x (e▸aj))) h.cE _ _ _ (λc aj=>hw c (λe=>bm t (e▸aj))) (h.cE t)
 old:=λc aj iB=>(hw c (by omega)).trans (h.old c aj iB)
 size:=by rw[aa];exact h.size
 os:=ab.trans h.os
 tape:=ad.trans h.tape
 output:=aB.trans h.output
 gn:=h.gn
theorem uz {ops:Array Oper} {r:bW} {o:Oper} (bf:r.guard=none) (h:nw n ops o=some r.un):r.dst=o.dst/\o.guard=none/\pn o.op=r.a9.base/\jZ n o.dst=true:=by
 unfold nw at h;split at h
 .rename_i af;split at h
  .rename_i Oc ga;simp only[bW.un,some.injEq,bW.mk.injEq]at h;obtain⟨aM,aS,aV⟩:=h;refine⟨aM.symm,?_,aS,af⟩;rw[aV,bf]at ga;cases bG:o.guard with
   |none=>rfl
   |some zZ=>
    rw[bG]at ga;simp only[tV]at ga;split at ga<;>cases ga
  .cases h
 .cases h
theorem G1 {ops:Array Oper} {i:Nat} {o:Oper} {l:Xt} (bG:ops[i]? =some o) (bf:o.guard=none) (h:o.wp C.P a w (wpOps C.P ops Q l) Q):wpOps C.P ops Q (i::l) a w:=by
 simp only[wpOps,bG];show(if Region.wanted o (yielded ops a.tmps)=true then o.wp C.P a w _ Q\/(o.asks C.P a w/\LetsOut Q)else _);rw[if_pos (wu bf)];exact .inl h
end
end Go.cM
