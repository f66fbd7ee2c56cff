/- Part of a proof that a law returns true for every input. No condition. -/
import Derived.Test.YtmaepbgkcmjcjahGreatDoorFwI
import Derived.Sort.Grow
import Derived.Lib.SlicesCompact
import Derived.Below
namespace Go.ei
open List Option Go.IntKind Nat Or
open Go.Sort
section
variable {α:Type} {e:α->I} {enc:α->Value}
def One (e:α->I) (enc:α->Value):Prop:=(∀x,(e x).wd=1)/\∀(w:World) (F:Nat->Prop) (x:α) (cs:azi) (S:Nat->Prop),az w F (e x) cs S↔cs=[enc x]
theorem ah3 (he:One e enc) {w:World} {F:Nat->Prop}:∀(xs:List α) (cs:azi) (S:Nat->Prop),bA w F (xs.map e) cs S->cs=xs.map enc:=by
 intro xs;induction xs with
 |nil=>intro cs S h;simpa [bA]using h
 |cons x xs ih=>
  intro cs S h;simp only[map_cons,bA]at h;obtain⟨cx,c2,cO,eJ,rfl,ad,ag,_⟩:=h;rw[(he.2 _ _ _ _ _).1 ad,ih _ _ ag];rfl
variable [Inhabited α]
end
theorem aX.below {C:cy} {f:FuncId} {as:azk} {r:I} {v:Value} (ao:MK=false) (OZ:∀args w,(callFunc f args).run C.P w= .ok (.enter f args) w) (bb:r.tree=true) (nT:eY r v) (ie:∀w F,az w F r (c_ v) (λ_=>False))
  (h:∀(w:World) (F X:Nat->Prop) (S:Nat->Nat->Prop) (vs:azi),vs.length=as.length->cj w F X F S (gl as) (iz vs) w->Calls C.P f vs.toArray w λex aP=>ex= .returned v/\RowKit.Below w.heap.size w aP):aX C f as r []:=by
 intro w F X S vs hl aS;refine .inl ⟨OZ _ _,(h w F X S vs hl aS).mono ?_⟩;rintro ex aP ⟨rfl,ab⟩;refine⟨_,rfl,F,λ_ _=>False,?_⟩;exact {
  h_:=λ_ h=>h
  iL:=λ_ bJ=>.inl bJ
  gg:=λc au=>Nat.lt_of_lt_of_le (aS.gg c au) ab.size
  fB:=λ_ _ h=>h.elim
  gN:=λ_ _ h=>h.elim
  gh:=λ_ _ _ _ h=>h.elim
  eX:=λ_ _ h=>h.elim
  eu:=λu=>by
   rcases u with _|u
   .exact(aQ.dx bb).2 ⟨nT,ie _ _⟩
   .show aQ _ _ _ _ .hole _ _;rw[aQ];trivial
  old:=λc au _=>ab.block c au
  size:=ab.size
  os:=ab.os
  tape:=ab.tape
  output:=⟨ab.output,λd=>by rw[ao]at d;cases d⟩
  gw:=aS.gw}
theorem aX.strs {C:cy} {f:FuncId} {as:azk} {b:azc} (ao:MK=false) (OZ:∀args w,(callFunc f args).run C.P w= .ok (.enter f args) w)
  (h:∀(w:World) (F X:Nat->Prop) (S:Nat->Nat->Prop) (vs:azi),vs.length=as.length->cj w F X F S (gl as) (iz vs) w->Calls C.P f vs.toArray w λex aP=>ex= .returned (.string ⟨⟨b⟩⟩)/\RowKit.Below w.heap.size w aP):aX C f as (.str b) []:=
 aX.below (v:=.string ⟨⟨b⟩⟩) ao OZ rfl rfl (λ_ _=>by simp only[c_,jF];rw[az]) h
theorem ah4 {w:World} {F X:Nat->Prop} {S:Nat->Nat->Prop} {s:al} {aH:Nat->Value} (h:cj w F X F S s aH w) {u:Nat} {xs:azb} {e:azc->I} (he:One e λx=>.string ⟨⟨x⟩⟩) (hu:s u= .slice (xs.map e)):
  (xs=[]/\∃a c,aH u= .slice a 0 c)\/∃b o cap,aH u= .slice (some ⟨b,o,none⟩) xs.length cap/\b<w.heap.size/\xs.length<=cap/\∀(j:Nat) x,xs[j]? =some x->w.cell? ⟨b,o+j,none⟩=some (.string ⟨⟨x⟩⟩):=by
 have aa:=h.eu u;rw[hu]at aa;obtain⟨ad,ag⟩:=(aQ.dx rfl).1 aa;have aF:c_ (aH u)=[aH u]:=by
  revert ad;cases aH u<;>intro ad<;>first|rfl|(cases ad)
 rw[aF,az]at ag;rcases ag with⟨aD,a,c,bh,_⟩|⟨b,o,cap,fp,sz,aD,bh,b1,du,di,hi,iV⟩
 .left;exact⟨by simpa using aD,a,c,by simpa using bh⟩
 .right;refine⟨b,o,cap,by simpa using aD,h.gg b bh,by simpa using b1,λj x aq=>?_⟩;have aR:=ah3 he _ _ _ iV;refine hi j _ ?_;rw[aR,getElem?_map,aq];rfl
end Go.ei
