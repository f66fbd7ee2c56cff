/- Part of a proof that a law returns true for every input. No condition. -/
import Derived.Test.YtcmimclaknmnbaaGreatDoorFwJ
namespace Go.cC
open List Option Go.IntKind Nat Or
section
variable {C:bx} {w0 w:World} {F0 X F br:Nat->Prop} {S aJ:Nat->Nat->Prop} {n:Fr} {ρ:Nat->Value} {s aA:an} {au fJ:Nat->Value} {a:Act} {av:I} {Q:Exit->Act->World->Prop} {aq:World}
theorem bq.off (h:bq w0 F0 X F S s au w) {b:Nat} (ba:w0.heap.size<=b) (a8:¬F b) (bE:∀u,¬S u b) (hw:∀c,c≠b->aq.heap[c]? =w.heap[c]?) (U:aq.heap.size=w.heap.size)
  (h1:aq.os=w.os) (ab:aq.tape=w.tape) (ay:Out aq w):bq w0 F0 X F S s au aq where
 fl:=h.fl
 fL:=h.fL
 dV:=λc ai=>by rw[U];exact h.dV c ai
 dh:=λt c ai=>by rw[U];exact h.dh t c ai
 ep:=h.ep
 ev:=h.ev
 cR:=h.cR
 cD:=λt=>aF.frame (Sx:=S) (λc ai=>hw c (λe=>a8 (e▸ai))) (λ_ h=>h) (λx c ai=>hw c (λe=>bE x (e▸ai))) h.cD _ _ _ (λc ai=>hw c (λe=>bE t (e▸ai))) (h.cD t)
 old:=λc ai iQ=>(hw c (by omega)).trans (h.old c ai iQ)
 size:=by rw[U];exact h.size
 os:=h1.trans h.os
 tape:=ab.trans h.tape
 output:=ay.trans h.output
 e4:=h.e4
theorem bq.aal (h:bq w0 F0 X F S s au w) {t:Nat} {v:Value}:bq w0 F0 X F (fY S t (λ_=>False)) (cC.fin s (some t) .hole) (cK au t v) w:=by
 have:cC.fin s (some t) .hole=cK s t .hole:=by simp[cC.fin,I.plain]
 rw[this];exact h.tB rfl (by rw[aF];trivial)
theorem x2 {ops:Array Oper} {r:bt} {o:Oper} (hg:r.guard=none) (h:lh n ops o=some r.un):r.dst=o.dst/\o.guard=none/\qw o.op=r.bz.base/\kM n o.dst=true:=by
 unfold lh at h;split at h
 .rename_i ae;split at h
  .rename_i jG hc;simp only[bt.un,some.injEq,bt.mk.injEq]at h;obtain⟨aI,aM,aP⟩:=h;refine⟨aI.symm,?_,aM,ae⟩;rw[aP,hg]at hc;cases a1:o.guard with
   |none=>rfl
   |some HC=>
    rw[a1]at hc;simp only[An]at hc;split at hc<;>cases hc
  .cases h
 .cases h
theorem Qv {ops:Array Oper} {i:Nat} {o:Oper} {l:anU} (a1:ops[i]? =some o) (hg:o.guard=none) (h:o.wp C.P a w (wpOps C.P ops Q l) Q):wpOps C.P ops Q (i::l) a w:=by
 simp only[wpOps,a1];show(if Region.wanted o (yielded ops a.tmps)=true then o.wp C.P a w _ Q\/(o.asks C.P a w/\LetsOut Q)else _);rw[if_pos (Ar hg)];exact .inl h
end
end Go.cC
