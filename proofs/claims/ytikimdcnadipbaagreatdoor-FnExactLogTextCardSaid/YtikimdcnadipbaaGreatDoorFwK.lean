/- Part of a proof that a law returns true for every input. No condition. -/
import Derived.Test.YtikimdcnadipbaaGreatDoorFwJ
namespace Go.bZ
section
variable {C:bm} {w0 w:World} {F0 X F a8:Nat→Prop} {S aE:Nat→Nat→Prop} {n:Fr} {ρ:Nat→Value} {s ao:ag} {an hk:Nat→Value} {a:Act} {av:I} {Q:Exit→Act→World→Prop} {ar:World}
theorem a1.off (h:a1 w0 F0 X F S s an w) {b:Nat} (bl:w0.heap.size≤b) (aW:¬F b) (a_:∀u,¬S u b) (hw:∀c,c≠b→ar.heap[c]? =w.heap[c]?) (U:ar.heap.size=w.heap.size)
  (aa:ar.os=w.os) (ab:ar.tape=w.tape) (aB:Out ar w):a1 w0 F0 X F S s an ar where
 eB:=h.eB
 eQ:=h.eQ
 de:=fun c af=>by rw[U];exact h.de c af
 cV:=fun t c af=>by rw[U];exact h.cV t c af
 dy:=h.dy
 dm:=h.dm
 cp:=h.cp
 b2:=fun t=>au.frame (Sx:=S) (fun c af=>hw c (fun e=>aW (e▸af))) (fun _ h=>h) (fun x c af=>hw c (fun e=>a_ x (e▸af))) h.b2 _ _ _ (fun c af=>hw c (fun e=>a_ t (e▸af))) (h.b2 t)
 old:=fun c af gn=>(hw c (by omega)).trans (h.old c af gn)
 size:=by rw[U];exact h.size
 os:=aa.trans h.os
 tape:=ab.trans h.tape
 output:=aB.trans h.output
 dW:=h.dW
theorem yH {ops:Array Oper} {r:bn} {o:Oper} (hg:r.guard=none) (h:me n ops o=some r.un):r.dst=o.dst∧o.guard=none∧n7 o.op=r.a7.base∧jt n o.dst=true:=by
 unfold me at h
 split at h
 ·rename_i ae
  split at h
  ·rename_i qZ ev
   simp only[bn.un,Option.some.injEq,bn.mk.injEq]at h
   obtain⟨aF,aJ,aN⟩:=h
   refine⟨aF.symm,?_,aJ,ae⟩
   rw[aN,hg]at ev
   cases bH:o.guard with
   |none=>rfl
   |some x6=>
    rw[bH]at ev;simp only[sw]at ev;split at ev<;>cases ev
  ·cases h
 ·cases h
end
end Go.bZ
