/- Part of a proof that a law returns true for every input. No condition. -/
import Derived.Test.YtocllehpepigpaaGreatFwM
import Derived.Deep.Draws
namespace Go.cZ
open Go.Sort
theorem WI {w aG:World} (h1:∀b,b<w.heap.size→aG.heap[b]? =w.heap[b]?) (ah:w.heap.size≤aG.heap.size) (aC:aG.os=w.os) (a8:aG.tape=w.tape) (bK:aG.output=w.output) (cU:w.drawn≤aG.drawn):
  ∃q os,aG=grow (w.drewN q) os:=by
 refine⟨aG.drawn-w.drawn,aG.heap.extract w.heap.size aG.heap.size,?_⟩
 have aS:w.drawn+(aG.drawn-w.drawn)=aG.drawn:=by omega
 have aZ:w.heap++aG.heap.extract w.heap.size aG.heap.size=aG.heap:=by
  apply Array.ext_getElem?
  intro i
  by_cases ao:i<w.heap.size
  ·rw[Array.getElem?_append_left ao,h1 i ao]
  ·rw[Array.getElem?_append_right (by omega)]
   by_cases b_:i<aG.heap.size
   ·rw[Array.getElem?_eq_getElem b_,Array.getElem?_eq_getElem (by simp;omega)]
    simp only[Array.getElem_extract]
    congr 2;omega
   ·rw[Array.getElem?_eq_none (by simp;omega),Array.getElem?_eq_none (by omega)]
 obtain⟨au,aDY,aDZ,o,aD0⟩:=aG
 simp only at aC a8 bK aS aZ
 subst aC a8 bK
 simp only[grow,World.drewN,aS,aZ]
theorem WJ {C:cw} (yG:AS=true) {g:FuncId} (WK:∀args w,(callFunc g args).run C.P w= .ok (.enter g args) w) {aa:List I} {vs:List Value} {w:World} {F:Nat→Prop} (bI:∀b,F b→b<w.heap.size) (hlen:vs.length=aa.length)
  (jd:∀(i:Nat) (a:I) (v:Value),aa[i]? =some a→vs[i]? =some v→a.tree=true∧ei a v∧ax w F a (cC v) (fun _=>False)) {n:Int} (cr:bl C g aa (.int .i64 n) []) (WL:Jh=[]:=by rfl):
  ∀W:World,(∀b,F b→W.heap[b]? =w.heap[b]?)→w.heap.size≤W.heap.size→Calls C.P g vs.toArray W fun e aG=>e= .returned (.int .i64 n)∧∃q os,aG=grow (W.drewN q) os:=by
 intro W wm dR
 have nH:bQ W F (fun _=>False) F (fun _ _=>False) (fI aa) (hs vs) W:={
  ho:=fun _ h=>h
  hO:=fun _ h=>.inl h
  fm:=fun b h=>Nat.lt_of_lt_of_le (bI b h) dR
  eD:=fun _ _ h=>h.elim
  fz:=fun _ _ h=>h.elim
  fs:=fun _ _ _ _ h=>h.elim
  dZ:=fun _ _ h=>h.elim
  dF:=fun t=>by
   by_cases ba:t<aa.length
   ·have aS:aa[t]? =some aa[t]:=List.getElem?_eq_getElem ba
    have aZ:vs[t]? =some (vs[t]'(by omega)):=List.getElem?_eq_getElem (by omega)
    obtain⟨g1,g2,g3⟩:=jd t _ _ aS aZ
    have aQ:fI aa t=aa[t]:=by simp[fI,List.getD,aS]
    have cF:hs vs t=vs[t]'(by omega):=by simp[hs,List.getD,aZ]
    rw[aQ,cF]
    exact(aL.cV g1).2 ⟨g2,ax.frame wm _ _ _ (fun _ h=>h.elim) g3⟩
   ·have aQ:fI aa t= .hole:=by simp[fI,List.getD,List.getElem?_eq_none (show aa.length≤t by omega)]
    rw[aQ,aL];trivial
  old:=fun _ _ _=>rfl
  size:=Nat.le_refl _
  os:=rfl
  tape:=rfl
  output:=Out.refl _
  hD:=fun p h=>absurd h (by rw[WL];exact List.not_mem_nil)}
 rcases cr W F (fun _=>False) (fun _ _=>False) vs hlen nH with⟨_,aq⟩|⟨v,aG,h1,_⟩
 ·refine aq.mono ?_
  rintro e aG ⟨v,rfl,b2,aR,aX⟩
  have aM:v= .int .i64 n:=ob (aX.dF 0)
  subst aM
  exact⟨rfl,WI (fun b ae=>aX.old b ae (fun h=>h)) aX.size aX.os aX.tape aX.output.1 (aX.output.2 yG)⟩
 ·rw[WK]at h1;cases h1
end Go.cZ
