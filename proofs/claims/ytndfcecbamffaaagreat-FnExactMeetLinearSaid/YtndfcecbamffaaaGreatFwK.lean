/- Part of a proof that a law returns true for every input. No condition. -/
import Derived.Test.YtndfcecbamffaaaGreatFwJ
namespace Go.dD
open List Option Go.IntKind Nat Or
section
variable {C:bV} {w0 w:World} {F0 X F bJ:Nat->Prop} {S aS:Nat->Nat->Prop} {n:Fr} {ρ:Nat->Value} {s aH:ao} {aF iO:Nat->Value} {a:Act} {av:I} {Q:Exit->Act->World->Prop} {aK:World}
theorem bK.off (h:bK w0 F0 X F S s aF w) {b:Nat} (bA:w0.heap.size<=b) (bm:¬F b) (bN:∀u,¬S u b) (hw:∀c,c≠b->aK.heap[c]? =w.heap[c]?) (ae:aK.heap.size=w.heap.size)
  (af:aK.os=w.os) (ag:aK.tape=w.tape) (aJ:Out aK w):bK w0 F0 X F S s aF aK where
 g5:=h.g5
 ho:=h.ho
 fR:=λc aC=>by rw[ae];exact h.fR c aC
 et:=λt c aC=>by rw[ae];exact h.et t c aC
 fS:=h.fS
 fe:=h.fe
 dI:=h.dI
 dz:=λt=>aO.frame (Sx:=S) (λc aC=>hw c (λe=>bm (e▸aC))) (λ_ h=>h) (λx c aC=>hw c (λe=>bN x (e▸aC))) h.dz _ _ _ (λc aC=>hw c (λe=>bN t (e▸aC))) (h.dz t)
 old:=λc aC j1=>(hw c (by omega)).trans (h.old c aC j1)
 size:=by rw[ae];exact h.size
 os:=af.trans h.os
 tape:=ag.trans h.tape
 output:=aJ.trans h.output
 hG:=h.hG
theorem y9 {ops:Array Oper} {r:bW} {o:Oper} (bP:r.guard=none) (h:lb n ops o=some r.un):r.dst=o.dst/\o.guard=none/\rO o.op=r.bE.base/\lE n o.dst=true:=by
 unfold lb at h;split at h
 .rename_i al;split at h
  .rename_i M9 hY;simp only[bW.un,some.injEq,bW.mk.injEq]at h;obtain⟨a1,bc,bb⟩:=h;refine⟨a1.symm,?_,bc,al⟩;rw[bb,bP]at hY;cases b_:o.guard with
   |none=>rfl
   |some yF=>
    rw[b_]at hY;simp only[uy]at hY;split at hY<;>cases hY
  .cases h
 .cases h
end
end Go.dD
