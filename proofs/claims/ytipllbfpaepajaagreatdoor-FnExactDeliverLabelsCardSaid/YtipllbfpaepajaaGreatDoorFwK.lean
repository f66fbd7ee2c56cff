/- Part of a proof that a law returns true for every input. No condition. -/
import Derived.Test.YtipllbfpaepajaaGreatDoorFwJ
namespace Go.ca
section
variable {C:bt} {w0 w:World} {F0 X F bf:Nat→Prop} {S aF:Nat→Nat→Prop} {n:Fr} {ρ:Nat→Value} {s ar:aj} {ao hP:Nat→Value} {a:Act} {av:I} {Q:Exit→Act→World→Prop} {aw:World}
theorem bb.off (h:bb w0 F0 X F S s ao w) {b:Nat} (bm:w0.heap.size≤b) (a1:¬F b) (bg:∀u,¬S u b) (hw:∀c,c≠b→aw.heap[c]? =w.heap[c]?) (U:aw.heap.size=w.heap.size)
  (ab:aw.os=w.os) (ad:aw.tape=w.tape) (aB:Out aw w):bb w0 F0 X F S s ao aw where
 e3:=h.e3
 fh:=h.fh
 dH:=fun c ai=>by rw[U];exact h.dH c ai
 de:=fun t c ai=>by rw[U];exact h.de t c ai
 dY:=h.dY
 dA:=h.dA
 cE:=h.cE
 cj:=fun t=>ay.frame (Sx:=S) (fun c ai=>hw c (fun e=>a1 (e▸ai))) (fun _ h=>h) (fun x c ai=>hw c (fun e=>bg x (e▸ai))) h.cj _ _ _ (fun c ai=>hw c (fun e=>bg t (e▸ai))) (h.cj t)
 old:=fun c ai hQ=>(hw c (by omega)).trans (h.old c ai hQ)
 size:=by rw[U];exact h.size
 os:=ab.trans h.os
 tape:=ad.trans h.tape
 output:=aB.trans h.output
 eT:=h.eT
theorem zx {ops:Array Oper} {r:br} {o:Oper} (hg:r.guard=none) (h:mY n ops o=some r.un):r.dst=o.dst∧o.guard=none∧oL o.op=r.bd.base∧jW n o.dst=true:=by
 unfold mY at h
 split at h
 ·rename_i ae
  split at h
  ·rename_i EC fa
   simp only[br.un,Option.some.injEq,br.mk.injEq]at h
   obtain⟨aH,aJ,aK⟩:=h
   refine⟨aH.symm,?_,aJ,ae⟩
   rw[aK,hg]at fa
   cases bL:o.guard with
   |none=>rfl
   |some yW=>
    rw[bL]at fa;simp only[tl]at fa;split at fa<;>cases fa
  ·cases h
 ·cases h
end
end Go.ca
