/- Part of a proof that a law returns true for every input. No condition. -/
import Derived.Test.YtipllbfpaepajaaGreatDoorFwJ
namespace Go.b9
section
variable {C:bq} {w0 w:World} {F0 X F bc:Nat→Prop} {S aD:Nat→Nat→Prop} {n:Fr} {ρ:Nat→Value} {s aq:aj} {an hs:Nat→Value} {a:Act} {av:I} {Q:Exit→Act→World→Prop} {aw:World}
theorem a7.off (h:a7 w0 F0 X F S s an w) {b:Nat} (bz:w0.heap.size≤b) (aX:¬F b) (bd:∀u,¬S u b) (hw:∀c,c≠b→aw.heap[c]? =w.heap[c]?) (U:aw.heap.size=w.heap.size)
  (aa:aw.os=w.os) (ad:aw.tape=w.tape) (aB:Out aw w):a7 w0 F0 X F S s an aw where
 eU:=h.eU
 e4:=h.e4
 dw:=fun c ai=>by rw[U];exact h.dw c ai
 c6:=fun t c ai=>by rw[U];exact h.c6 t c ai
 dP:=h.dP
 dq:=h.dq
 cz:=h.cz
 cd:=fun t=>ax.frame (Sx:=S) (fun c ai=>hw c (fun e=>aX (e▸ai))) (fun _ h=>h) (fun x c ai=>hw c (fun e=>bd x (e▸ai))) h.cd _ _ _ (fun c ai=>hw c (fun e=>bd t (e▸ai))) (h.cd t)
 old:=fun c ai ht=>(hw c (by omega)).trans (h.old c ai ht)
 size:=by rw[U];exact h.size
 os:=aa.trans h.os
 tape:=ad.trans h.tape
 output:=aB.trans h.output
 eN:=h.eN
theorem yS {ops:Array Oper} {r:bm} {o:Oper} (hg:r.guard=none) (h:mm n ops o=some r.un):r.dst=o.dst∧o.guard=none∧oa o.op=r.a_.base∧jv n o.dst=true:=by
 unfold mm at h
 split at h
 ·rename_i ae
  split at h
  ·rename_i DN e1
   simp only[bm.un,Option.some.injEq,bm.mk.injEq]at h
   obtain⟨aF,aI,aL⟩:=h
   refine⟨aF.symm,?_,aI,ae⟩
   rw[aL,hg]at e1
   cases bI:o.guard with
   |none=>rfl
   |some yf=>
    rw[bI]at e1;simp only[sP]at e1;split at e1<;>cases e1
  ·cases h
 ·cases h
end
end Go.b9
