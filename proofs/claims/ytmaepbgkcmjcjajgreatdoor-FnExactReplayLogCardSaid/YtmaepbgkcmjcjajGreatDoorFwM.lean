/- Part of a proof that a law returns true for every input. No condition. -/
import Derived.Test.YtmaepbgkcmjcjajGreatDoorFwI
import Derived.Sort.Grow
import Derived.Lib.SlicesCompact
import Derived.Below
namespace Go.ep
open List Option Go.IntKind Nat Or
open Go.Sort
section
variable {α:Type} {e:α->I} {enc:α->Value}
def One (e:α->I) (enc:α->Value):Prop:=(∀x,(e x).wd=1)/\∀(w:World) (F:Nat->Prop) (x:α) (cs:azw) (S:Nat->Prop),aB w F (e x) cs S↔cs=[enc x]
theorem ah3 (he:One e enc) {w:World} {F:Nat->Prop}:∀(xs:List α) (cs:azw) (S:Nat->Prop),bz w F (xs.map e) cs S->cs=xs.map enc:=by
 intro xs;induction xs with
 |nil=>intro cs S h;simpa [bz]using h
 |cons x xs ih=>
  intro cs S h;simp only[map_cons,bz]at h;obtain⟨ct,c2,cT,eM,rfl,ad,af,_⟩:=h;rw[(he.2 _ _ _ _ _).1 ad,ih _ _ af];rfl
variable [Inhabited α]
end
theorem aZ.below {C:cx} {f:FuncId} {as:azy} {r:I} {v:Value} (aq:MO=false) (O0:∀args w,(callFunc f args).run C.P w= .ok (.enter f args) w) (a8:r.tree=true) (na:e2 r v) (iu:∀w F,aB w F r (dd v) (λ_=>False))
  (h:∀(w:World) (F X:Nat->Prop) (S:Nat->Nat->Prop) (vs:azw),vs.length=as.length->ch w F X F S (gl as) (iG vs) w->Calls C.P f vs.toArray w λex aO=>ex= .returned v/\RowKit.Below w.heap.size w aO):aZ C f as r []:=by
 intro w F X S vs hl aR;refine .inl ⟨O0 _ _,(h w F X S vs hl aR).mono ?_⟩;rintro ex aO ⟨rfl,ab⟩;refine⟨_,rfl,F,λ_ _=>False,?_⟩;exact {
  iq:=λ_ h=>h
  iS:=λ_ bM=>.inl bM
  gi:=λc au=>Nat.lt_of_lt_of_le (aR.gi c au) ab.size
  fG:=λ_ _ h=>h.elim
  gL:=λ_ _ h=>h.elim
  gj:=λ_ _ _ _ h=>h.elim
  e1:=λ_ _ h=>h.elim
  eB:=λu=>by
   rcases u with _|u
   .exact(aQ.du a8).2 ⟨na,iu _ _⟩
   .show aQ _ _ _ _ .hole _ _;rw[aQ];trivial
  old:=λc au _=>ab.block c au
  size:=ab.size
  os:=ab.os
  tape:=ab.tape
  output:=⟨ab.output,λd=>by rw[aq]at d;cases d⟩
  gz:=aR.gz}
theorem aZ.strs {C:cx} {f:FuncId} {as:azy} {b:azq} (aq:MO=false) (O0:∀args w,(callFunc f args).run C.P w= .ok (.enter f args) w)
  (h:∀(w:World) (F X:Nat->Prop) (S:Nat->Nat->Prop) (vs:azw),vs.length=as.length->ch w F X F S (gl as) (iG vs) w->Calls C.P f vs.toArray w λex aO=>ex= .returned (.string ⟨⟨b⟩⟩)/\RowKit.Below w.heap.size w aO):aZ C f as (.str b) []:=
 aZ.below (v:=.string ⟨⟨b⟩⟩) aq O0 rfl rfl (λ_ _=>by simp only[dd,jO];rw[aB]) h
theorem ah4 {w:World} {F X:Nat->Prop} {S:Nat->Nat->Prop} {s:al} {aI:Nat->Value} (h:ch w F X F S s aI w) {u:Nat} {xs:azp} {e:azq->I} (he:One e λx=>.string ⟨⟨x⟩⟩) (hu:s u= .slice (xs.map e)):
  (xs=[]/\∃a c,aI u= .slice a 0 c)\/∃b o cap,aI u= .slice (some ⟨b,o,none⟩) xs.length cap/\b<w.heap.size/\xs.length<=cap/\∀(j:Nat) x,xs[j]? =some x->w.cell? ⟨b,o+j,none⟩=some (.string ⟨⟨x⟩⟩):=by
 have aa:=h.eB u;rw[hu]at aa;obtain⟨ad,af⟩:=(aQ.du rfl).1 aa;have aJ:dd (aI u)=[aI u]:=by
  revert ad;cases aI u<;>intro ad<;>first|rfl|(cases ad)
 rw[aJ,aB]at af;rcases af with⟨aG,a,c,bh,_⟩|⟨b,o,cap,fv,sz,aG,bh,b6,dt,dj,ho,i6⟩
 .left;exact⟨by simpa using aG,a,c,by simpa using bh⟩
 .right;refine⟨b,o,cap,by simpa using aG,h.gi b bh,by simpa using b6,λj x ao=>?_⟩;have aP:=ah3 he _ _ _ i6;refine ho j _ ?_;rw[aP,getElem?_map,ao];rfl
end Go.ep
