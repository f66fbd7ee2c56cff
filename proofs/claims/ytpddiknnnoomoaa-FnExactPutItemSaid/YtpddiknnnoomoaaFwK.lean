/- Part of a proof that a law returns true for every input. No condition. -/
import Derived.Test.YtpddiknnnoomoaaFwJ
namespace Go.bZ
section
variable {C:bo} {w0 w:World} {F0 X F a7:Nat→Prop} {S az:Nat→Nat→Prop} {n:Fr} {ρ:Nat→Value} {s aj:ag} {ak gZ:Nat→Value} {a:Act} {av:j} {Q:Exit→Act→World→Prop} {aq:World}
theorem aX.off (h:aX w0 F0 X F S s ak w) {b:Nat} (bu:w0.heap.size≤b) (aS:¬F b) (a_:∀u,¬S u b) (hw:∀c,c≠b→aq.heap[c]? =w.heap[c]?) (R:aq.heap.size=w.heap.size)
  (U:aq.os=w.os) (aa:aq.tape=w.tape) (aw:Out aq w):aX w0 F0 X F S s ak aq where
 er:=h.er
 eL:=h.eL
 db:=fun c ae=>by rw[R];exact h.db c ae
 cT:=fun t c ae=>by rw[R];exact h.cT t c ae
 dp:=h.dp
 c8:=h.c8
 cl:=h.cl
 b5:=fun t=>ar.frame (Sx:=S) (fun c ae=>hw c (fun e=>aS (e▸ae))) (fun _ h=>h) (fun x c ae=>hw c (fun e=>a_ x (e▸ae))) h.b5 _ _ _ (fun c ae=>hw c (fun e=>a_ t (e▸ae))) (h.b5 t)
 old:=fun c ae gC=>(hw c (by omega)).trans (h.old c ae gC)
 size:=by rw[R];exact h.size
 os:=U.trans h.os
 tape:=aa.trans h.tape
 output:=aw.trans h.output
 et:=h.et
theorem w1 {ops:Array Oper} {r:bh} {o:Oper} (aY:r.guard=none) (h:lM n ops o=some r.un):r.dst=o.dst∧o.guard=none∧nu o.op=r.a6.base∧iS n o.dst=true:=by
 unfold lM at h
 split at h
 ·rename_i ab
  split at h
  ·rename_i Ij e3
   simp only[bh.un,Option.some.injEq,bh.mk.injEq]at h
   obtain⟨aG,aL,a1⟩:=h
   refine⟨aG.symm,?_,aL,ab⟩
   rw[a1,aY]at e3
   cases bs:o.guard with
   |none=>rfl
   |some wh=>
    rw[bs]at e3;simp only[rG]at e3;split at e3<;>cases e3
  ·cases h
 ·cases h
end
end Go.bZ
