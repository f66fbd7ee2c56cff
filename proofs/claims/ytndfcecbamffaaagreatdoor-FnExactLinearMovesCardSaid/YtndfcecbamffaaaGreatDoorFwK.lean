/- Part of a proof that a law returns true for every input. No condition. -/
import Derived.Test.YtndfcecbamffaaaGreatDoorFwJ
namespace Go.cG
open List Option Go.IntKind Nat Or
section
variable {C:bz} {w0 w:World} {F0 X F bh:Nat->Prop} {S aG:Nat->Nat->Prop} {n:Fr} {ρ:Nat->Value} {s aq:ag} {an gP:Nat->Value} {a:Act} {av:j} {Q:Exit->Act->World->Prop} {au:World}
theorem bm.off (h:bm w0 F0 X F S s an w) {b:Nat} (bg:w0.heap.size<=b) (aZ:¬F b) (bI:∀u,¬S u b) (hw:∀c,c≠b->au.heap[c]? =w.heap[c]?) (J:au.heap.size=w.heap.size)
  (R:au.os=w.os) (U:au.tape=w.tape) (aw:Out au w):bm w0 F0 X F S s an au where
 ff:=h.ff
 fI:=h.fI
 dP:=λc aj=>by rw[J];exact h.dP c aj
 dt:=λt c aj=>by rw[J];exact h.dt t c aj
 eh:=h.eh
 dW:=h.dW
 cS:=h.cS
 cz:=λt=>az.frame (Sx:=S) (λc aj=>hw c (λe=>aZ (e▸aj))) (λ_ h=>h) (λx c aj=>hw c (λe=>bI x (e▸aj))) h.cz _ _ _ (λc aj=>hw c (λe=>bI t (e▸aj))) (h.cz t)
 old:=λc aj ib=>(hw c (by omega)).trans (h.old c aj ib)
 size:=by rw[J];exact h.size
 os:=R.trans h.os
 tape:=U.trans h.tape
 output:=aw.trans h.output
 fu:=h.fu
theorem bm.St (h:bm w0 F0 X F S s an w) {t:Nat} {v:Value}:bm w0 F0 X F (fg S t (λ_=>False)) (cG.fin s (some t) .hole) (cw an t v) w:=by
 have:cG.fin s (some t) .hole=cw s t .hole:=by simp[cG.fin,j.plain]
 rw[this];exact h.qT rfl (by rw[az];trivial)
theorem uI {ops:Array Oper} {r:bn} {o:Oper} (bo:r.guard=none) (h:jT n ops o=some r.un):r.dst=o.dst/\o.guard=none/\oj o.op=r.bq.base/\jB n o.dst=true:=by
 unfold jT at h;split at h
 .rename_i ad;split at h
  .rename_i iE gR;simp only[bn.un,some.injEq,bn.mk.injEq]at h;obtain⟨aH,aN,aP⟩:=h;refine⟨aH.symm,?_,aN,ad⟩;rw[aP,bo]at gR;cases a_:o.guard with
   |none=>rfl
   |some CH=>
    rw[a_]at gR;simp only[wD]at gR;split at gR<;>cases gR
  .cases h
 .cases h
theorem Ku {ops:Array Oper} {i:Nat} {o:Oper} {l:ace} (a_:ops[i]? =some o) (bo:o.guard=none) (h:o.wp C.P a w (wpOps C.P ops Q l) Q):wpOps C.P ops Q (i::l) a w:=by
 simp only[wpOps,a_];show(if Region.wanted o (yielded ops a.tmps)=true then o.wp C.P a w _ Q\/(o.asks C.P a w/\LetsOut Q)else _);rw[if_pos (wH bo)];exact .inl h
end
end Go.cG
