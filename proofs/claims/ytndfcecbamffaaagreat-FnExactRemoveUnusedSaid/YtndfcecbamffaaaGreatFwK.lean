/- Part of a proof that a law returns true for every input. No condition. -/
import Derived.Test.YtndfcecbamffaaaGreatFwJ
namespace Go.cW
open List Option Go.IntKind Nat Or
section
variable {C:bI} {w0 w:World} {F0 X F bC:Nat->Prop} {S aF:Nat->Nat->Prop} {n:Fr} {ρ:Nat->Value} {s aq:ah} {ao gT:Nat->Value} {a:Act} {av:j} {Q:Exit->Act->World->Prop} {ax:World}
theorem bu.off (h:bu w0 F0 X F S s ao w) {b:Nat} (bq:w0.heap.size<=b) (aY:¬F b) (bg:∀u,¬S u b) (hw:∀c,c≠b->ax.heap[c]? =w.heap[c]?) (I:ax.heap.size=w.heap.size)
  (R:ax.os=w.os) (U:ax.tape=w.tape) (aA:Out ax w):bu w0 F0 X F S s ao ax where
 fR:=h.fR
 gl:=h.gl
 eu:=λc aj=>by rw[I];exact h.eu c aj
 dD:=λt c aj=>by rw[I];exact h.dD t c aj
 eW:=h.eW
 ev:=h.ev
 cN:=h.cN
 cK:=λt=>aB.frame (Sx:=S) (λc aj=>hw c (λe=>aY (e▸aj))) (λ_ h=>h) (λx c aj=>hw c (λe=>bg x (e▸aj))) h.cK _ _ _ (λc aj=>hw c (λe=>bg t (e▸aj))) (h.cK t)
 old:=λc aj ix=>(hw c (by omega)).trans (h.old c aj ix)
 size:=by rw[I];exact h.size
 os:=R.trans h.os
 tape:=U.trans h.tape
 output:=aA.trans h.output
 fL:=h.fL
theorem Dq {ops:Array Oper} {r:bG} {o:Oper} (bm:r.guard=none) (h:kz n ops o=some r.un):r.dst=o.dst/\o.guard=none/\o2 o.op=r.bp.base/\ky n o.dst=true:=by
 unfold kz at h;split at h
 .rename_i ae;split at h
  .rename_i Ku fF;simp only[bG.un,some.injEq,bG.mk.injEq]at h;obtain⟨aK,aV,a1⟩:=h;refine⟨aK.symm,?_,aV,ae⟩;rw[a1,bm]at fF;cases br:o.guard with
   |none=>rfl
   |some zf=>
    rw[br]at fF;simp only[tZ]at fF;split at fF<;>cases fF
  .cases h
 .cases h
end
end Go.cW
