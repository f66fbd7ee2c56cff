/- Part of a proof that a law returns true for every input. No condition. -/
import Derived.Test.YtpddiknnnoomoaaFwJ
namespace Go.bV
section
variable {C:bq} {w0 w:World} {F0 X F a_:Nat→Prop} {S ay:Nat→Nat→Prop} {n:Fr} {ρ:Nat→Value} {s aj:af} {ak gC:Nat→Value} {a:Act} {av:j} {Q:Exit→Act→World→Prop} {aq:World}
theorem aY.off (h:aY w0 F0 X F S s ak w) {b:Nat} (bI:w0.heap.size≤b) (aR:¬F b) (ba:∀u,¬S u b) (hw:∀c,c≠b→aq.heap[c]? =w.heap[c]?) (R:aq.heap.size=w.heap.size)
  (U:aq.os=w.os) (aa:aq.tape=w.tape) (aw:Out aq w):aY w0 F0 X F S s ak aq where
 ep:=h.ep
 eC:=h.eC
 c_:=fun c ae=>by rw[R];exact h.c_ c ae
 cP:=fun t c ae=>by rw[R];exact h.cP t c ae
 dj:=h.dj
 c8:=h.c8
 cf:=h.cf
 b0:=fun t=>ar.frame (Sx:=S) (fun c ae=>hw c (fun e=>aR (e▸ae))) (fun _ h=>h) (fun x c ae=>hw c (fun e=>ba x (e▸ae))) h.b0 _ _ _ (fun c ae=>hw c (fun e=>ba t (e▸ae))) (h.b0 t)
 old:=fun c ae ga=>(hw c (by omega)).trans (h.old c ae ga)
 size:=by rw[R];exact h.size
 os:=U.trans h.os
 tape:=aa.trans h.tape
 output:=aw.trans h.output
 er:=h.er
theorem wb {ops:Array Oper} {r:bm} {o:Oper} (aZ:r.guard=none) (h:k2 n ops o=some r.un):r.dst=o.dst∧o.guard=none∧mD o.op=r.a7.base∧ia n o.dst=true:=by
 unfold k2 at h
 split at h
 ·rename_i ab
  split at h
  ·rename_i G1 eV
   simp only[bm.un,Option.some.injEq,bm.mk.injEq]at h
   obtain⟨aE,aL,bb⟩:=h
   refine⟨aE.symm,?_,aL,ab⟩
   rw[bb,aZ]at eV
   cases bs:o.guard with
   |none=>rfl
   |some vp=>
    rw[bs]at eV;simp only[qP]at eV;split at eV<;>cases eV
  ·cases h
 ·cases h
end
end Go.bV
