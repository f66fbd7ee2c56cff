/- Part of a proof that a law returns true for every input. No condition. -/
import Derived.Test.YtocllehpepigpaaGreatDoorFwJ
namespace Go.cI
section
variable {C:bS} {w0 w:World} {F0 X F bC:Nat→Prop} {S aG:Nat→Nat→Prop} {n:Fr} {ρ:Nat→Value} {s aw:an} {au jP:Nat→Value} {a:Act} {av:I} {Q:Exit→Act→World→Prop} {aA:World}
theorem bw.off (h:bw w0 F0 X F S s au w) {b:Nat} (bm:w0.heap.size≤b) (bl:¬F b) (bI:∀u,¬S u b) (hw:∀c,c≠b→aA.heap[c]? =w.heap[c]?) (aa:aA.heap.size=w.heap.size)
  (ad:aA.os=w.os) (ag:aA.tape=w.tape) (aF:Out aA w):bw w0 F0 X F S s au aA where
 gF:=h.gF
 gS:=h.gS
 eT:=fun c aj=>by rw[aa];exact h.eT c aj
 eg:=fun t c aj=>by rw[aa];exact h.eg t c aj
 fa:=h.fa
 eN:=h.eN
 dp:=h.dp
 cN:=fun t=>aB.frame (Sx:=S) (fun c aj=>hw c (fun e=>bl (e▸aj))) (fun _ h=>h) (fun x c aj=>hw c (fun e=>bI x (e▸aj))) h.cN _ _ _ (fun c aj=>hw c (fun e=>bI t (e▸aj))) (h.cN t)
 old:=fun c aj jQ=>(hw c (by omega)).trans (h.old c aj jQ)
 size:=by rw[aa];exact h.size
 os:=ad.trans h.os
 tape:=ag.trans h.tape
 output:=aF.trans h.output
 gn:=h.gn
theorem Cr {ops:Array Oper} {r:bO} {o:Oper} (hg:r.guard=none) (h:oL n ops o=some r.un):r.dst=o.dst∧o.guard=none∧p_ o.op=r.bA.base∧lM n o.dst=true:=by
 unfold oL at h
 split at h
 ·rename_i ah
  split at h
  ·rename_i Hp gN
   simp only[bO.un,Option.some.injEq,bO.mk.injEq]at h
   obtain⟨aT,aX,aS⟩:=h
   refine⟨aT.symm,?_,aX,ah⟩
   rw[aS,hg]at gN
   cases cd:o.guard with
   |none=>rfl
   |some BO=>
    rw[cd]at gN;simp only[u2]at gN;split at gN<;>cases gN
  ·cases h
 ·cases h
end
end Go.cI
