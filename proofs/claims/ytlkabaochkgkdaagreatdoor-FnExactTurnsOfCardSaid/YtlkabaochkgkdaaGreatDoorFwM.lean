/- Part of a proof that a law returns true for every input. No condition. -/
import Derived.Test.YtlkabaochkgkdaaGreatDoorFwI
import Derived.Sort.Grow
import Derived.Lib.SlicesCompact
import Derived.Below
namespace Go.c_
open Go.Sort
section
variable {α:Type} {e:α->I} {enc:α->Value}
def One (e:α->I) (enc:α->Value):Prop:=(∀x,(e x).wd=1)/\∀(w:World) (F:Nat->Prop) (x:α) (cs:List Value) (S:Nat->Prop),ax w F (e x) cs S↔cs=[enc x]
theorem YD (he:One e enc) {w:World} {F:Nat->Prop}:∀(xs:List α) (cs:List Value) (S:Nat->Prop),bm w F (xs.map e) cs S->cs=xs.map enc:=by
 intro xs;induction xs with
 |nil=>intro cs S h;simpa [bm]using h
 |cons x xs ih=>
  intro cs S h;simp only[List.map_cons,bm]at h;obtain⟨cv,c2,ck,eo,rfl,ag,ah,_⟩:=h;rw[(he.2 _ _ _ _ _).1 ag,ih _ _ ah];rfl
variable [Inhabited α]
end
theorem bk.below {C:cl} {f:FuncId} {as:List I} {r:I} {v:Value} (aj:GQ=false) (I9:∀args w,(callFunc f args).run C.P w= .ok (.enter f args) w) (bj:r.tree=true) (nH:eA r v) (hc:∀w F,ax w F r (cz v) (λ_=>False))
  (h:∀(w:World) (F X:Nat->Prop) (S:Nat->Nat->Prop) (vs:List Value),vs.length=as.length->bU w F X F S (gu as) (hW vs) w->Calls C.P f vs.toArray w λex aL=>ex= .returned v/\RowKit.Below w.heap.size w aL):bk C f as r []:=by
 intro w F X S vs hl aS;refine .inl ⟨I9 _ _,(h w F X S vs hl aS).mono ?_⟩;rintro ex aL ⟨rfl,ad⟩;refine⟨_,rfl,F,λ_ _=>False,?_⟩;exact {
  hG:=λ_ h=>h
  h4:=λ_ bL=>.inl bL
  fy:=λc aq=>Nat.lt_of_lt_of_le (aS.fy c aq) ad.size
  e7:=λ_ _ h=>h.elim
  gf:=λ_ _ h=>h.elim
  fz:=λ_ _ _ _ h=>h.elim
  ey:=λ_ _ h=>h.elim
  dF:=λu=>by
   rcases u with _|u
   .exact(aO.cT bj).2 ⟨nH,hc _ _⟩
   .show aO _ _ _ _ .hole _ _;rw[aO];trivial
  old:=λc aq _=>ad.block c aq
  size:=ad.size
  os:=ad.os
  tape:=ad.tape
  output:=⟨ad.output,λd=>by rw[aj]at d;cases d⟩
  hj:=aS.hj}
theorem bk.strs {C:cl} {f:FuncId} {as:List I} {b:List UInt8} (aj:GQ=false) (I9:∀args w,(callFunc f args).run C.P w= .ok (.enter f args) w)
  (h:∀(w:World) (F X:Nat->Prop) (S:Nat->Nat->Prop) (vs:List Value),vs.length=as.length->bU w F X F S (gu as) (hW vs) w->Calls C.P f vs.toArray w λex aL=>ex= .returned (.string ⟨⟨b⟩⟩)/\RowKit.Below w.heap.size w aL):bk C f as (.str b) []:=
 bk.below (v:=.string ⟨⟨b⟩⟩) aj I9 rfl rfl (λ_ _=>by simp only[cz,iv];rw[ax]) h
theorem YE {w:World} {F X:Nat->Prop} {S:Nat->Nat->Prop} {s:ar} {aC:Nat->Value} (h:bU w F X F S s aC w) {u:Nat} {xs:List (List UInt8)} {e:List UInt8->I} (he:One e λx=>.string ⟨⟨x⟩⟩) (hu:s u= .slice (xs.map e)):
  (xs=[]/\∃a c,aC u= .slice a 0 c)\/∃b o cap,aC u= .slice (some ⟨b,o,none⟩) xs.length cap/\b<w.heap.size/\xs.length<=cap/\∀(j:Nat) x,xs[j]? =some x->w.cell? ⟨b,o+j,none⟩=some (.string ⟨⟨x⟩⟩):=by
 have ae:=h.dF u;rw[hu]at ae;obtain⟨ag,ah⟩:=(aO.cT rfl).1 ae;have aT:cz (aC u)=[aC u]:=by
  revert ag;cases aC u<;>intro ag<;>first|rfl|(cases ag)
 rw[aT,ax]at ah;rcases ah with⟨aN,a,c,bg,_⟩|⟨b,o,cap,eT,sz,aN,bg,bR,cW,cE,fJ,hT⟩
 .left;exact⟨by simpa using aN,a,c,by simpa using bg⟩
 .right;refine⟨b,o,cap,by simpa using aN,h.fy b bg,by simpa using bR,λj x aw=>?_⟩;have aX:=YD he _ _ _ hT;refine fJ j _ ?_;rw[aX,List.getElem?_map,aw];rfl
end Go.c_
