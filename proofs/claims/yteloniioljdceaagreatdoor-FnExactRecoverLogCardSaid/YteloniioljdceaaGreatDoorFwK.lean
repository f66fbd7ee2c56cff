/- Part of a proof that a law returns true for every input. No condition. -/
import Derived.Test.YteloniioljdceaaGreatDoorFwJ
namespace Go.ca
open List Option Go.IntKind Nat Or
section
variable {C:bl} {w0 w:World} {F0 X F a8:Nat->Prop} {S aB:Nat->Nat->Prop} {n:Fr} {ρ:Nat->Value} {s aq:aj} {ao gO:Nat->Value} {a:Act} {av:I} {Q:Exit->Act->World->Prop} {an:World}
theorem aZ.off (h:aZ w0 F0 X F S s ao w) {b:Nat} (bj:w0.heap.size<=b) (aL:¬F b) (a_:∀u,¬S u b) (hw:∀c,c≠b->an.heap[c]? =w.heap[c]?) (R:an.heap.size=w.heap.size)
  (U:an.os=w.os) (ab:an.tape=w.tape) (ay:Out an w):aZ w0 F0 X F S s ao an where
 eK:=h.eK
 eY:=h.eY
 dk:=λc ae=>by rw[R];exact h.dk c ae
 c1:=λt c ae=>by rw[R];exact h.c1 t c ae
 dN:=h.dN
 du:=h.du
 ck:=h.ck
 b9:=λt=>ar.frame (Sx:=S) (λc ae=>hw c (λe=>aL (e▸ae))) (λ_ h=>h) (λx c ae=>hw c (λe=>a_ x (e▸ae))) h.b9 _ _ _ (λc ae=>hw c (λe=>a_ t (e▸ae))) (h.b9 t)
 old:=λc ae gQ=>(hw c (by omega)).trans (h.old c ae gQ)
 size:=by rw[R];exact h.size
 os:=U.trans h.os
 tape:=ab.trans h.tape
 output:=ay.trans h.output
 ef:=h.ef
theorem x5 {ops:Array Oper} {r:bs} {o:Oper} (hg:r.guard=none) (h:lR n ops o=some r.un):r.dst=o.dst/\o.guard=none/\nJ o.op=r.a6.base/\iY n o.dst=true:=by
 unfold lR at h;split at h
 .rename_i ad;split at h
  .rename_i x6 er;simp only[bs.un,some.injEq,bs.mk.injEq]at h;obtain⟨aD,aG,aJ⟩:=h;refine⟨aD.symm,?_,aG,ad⟩;rw[aJ,hg]at er;cases ba:o.guard with
   |none=>rfl
   |some xz=>
    rw[ba]at er;simp only[rS]at er;split at er<;>cases er
  .cases h
 .cases h
end
end Go.ca
