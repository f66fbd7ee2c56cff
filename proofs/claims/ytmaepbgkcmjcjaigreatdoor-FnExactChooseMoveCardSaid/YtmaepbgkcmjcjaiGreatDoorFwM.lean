/- Part of a proof that a law returns true for every input. No condition. -/
import Derived.Test.YtmaepbgkcmjcjaiGreatDoorFwI
import Derived.Sort.Grow
import Derived.Lib.SlicesCompact
import Derived.Below
namespace Go.eg
open List Option Go.IntKind Nat
open Go.Sort
section
variable {α:Type} {e:α->I} {enc:α->Value}
def One (e:α->I) (enc:α->Value):Prop:=(∀x,(e x).wd=1)/\∀(w:World) (F:Nat->Prop) (x:α) (cs:azi) (S:Nat->Prop),aA w F (e x) cs S↔cs=[enc x]
theorem ahK (he:One e enc) {w:World} {F:Nat->Prop}:∀(xs:List α) (cs:azi) (S:Nat->Prop),bA w F (xs.map e) cs S->cs=xs.map enc:=by
 intro xs;induction xs with
 |nil=>intro cs S h;simpa [bA]using h
 |cons x xs ih=>
  intro cs S h;simp only[map_cons,bA]at h;obtain⟨cA,c2,cD,eH,rfl,ad,ae,_⟩:=h;rw[(he.2 _ _ _ _ _).1 ad,ih _ _ ae];rfl
variable [Inhabited α]
end
theorem aV.below {C:cl} {f:FuncId} {as:azk} {r:I} {v:Value} (ao:Mm=false) (Oq:∀args w,(callFunc f args).run C.P w= .ok (.enter f args) w) (aY:r.tree=true) (oD:eK r v) (hT:∀w F,aA w F r (dd v) (λ_=>False))
  (h:∀(w:World) (F X:Nat->Prop) (S:Nat->Nat->Prop) (vs:azi),vs.length=as.length->cd w F X F S (gq as) (h5 vs) w->Calls C.P f vs.toArray w λex aL=>ex= .returned v/\RowKit.Below w.heap.size w aL):aV C f as r []:=by
 intro w F X S vs aC aT;refine .inl ⟨Oq _ _,(h w F X S vs aC aT).mono ?_⟩;rintro ex aL ⟨rfl,ab⟩;refine⟨_,rfl,F,λ_ _=>False,?_⟩;exact {
  iQ:=λ_ h=>h
  jv:=λ_ bK=>.inl bK
  gP:=λc ar=>Nat.lt_of_lt_of_le (aT.gP c ar) ab.size
  fS:=λ_ _ h=>h.elim
  hj:=λ_ _ h=>h.elim
  gD:=λ_ _ _ _ h=>h.elim
  eR:=λ_ _ h=>h.elim
  ey:=λu=>by
   rcases u with _|u
   .exact(aS.dr aY).2 ⟨oD,hT _ _⟩
   .show aS _ _ _ _ .hole _ _;rw[aS];trivial
  old:=λc ar _=>ab.block c ar
  size:=ab.size
  os:=ab.os
  tape:=ab.tape
  output:=⟨ab.output,λd=>by rw[ao]at d;cases d⟩
  gU:=aT.gU}
theorem aV.strs {C:cl} {f:FuncId} {as:azk} {b:azc} (ao:Mm=false) (Oq:∀args w,(callFunc f args).run C.P w= .ok (.enter f args) w)
  (h:∀(w:World) (F X:Nat->Prop) (S:Nat->Nat->Prop) (vs:azi),vs.length=as.length->cd w F X F S (gq as) (h5 vs) w->Calls C.P f vs.toArray w λex aL=>ex= .returned (.string ⟨⟨b⟩⟩)/\RowKit.Below w.heap.size w aL):aV C f as (.str b) []:=
 aV.below (v:=.string ⟨⟨b⟩⟩) ao Oq rfl rfl (λ_ _=>by simp only[dd,jb];rw[aA]) h
theorem ahL {w:World} {F X:Nat->Prop} {S:Nat->Nat->Prop} {s:al} {aG:Nat->Value} (h:cd w F X F S s aG w) {u:Nat} {xs:azb} {e:azc->I} (he:One e λx=>.string ⟨⟨x⟩⟩) (hu:s u= .slice (xs.map e)):
  (xs=[]/\∃a c,aG u= .slice a 0 c)\/∃b o cap,aG u= .slice (some ⟨b,o,none⟩) xs.length cap/\b<w.heap.size/\xs.length<=cap/\∀(j:Nat) x,xs[j]? =some x->w.cell? ⟨b,o+j,none⟩=some (.string ⟨⟨x⟩⟩):=by
 have aa:=h.ey u;rw[hu]at aa;obtain⟨ad,ae⟩:=(aS.dr rfl).1 aa;have aF:dd (aG u)=[aG u]:=by
  revert ad;cases aG u<;>intro ad<;>first|rfl|(cases ad)
 rw[aF,aA]at ae;rcases ae with⟨aJ,a,c,bh,_⟩|⟨b,o,cap,e9,sz,aJ,bh,b2,dA,dC,hI,jF⟩
 .left;exact⟨by simpa using aJ,a,c,by simpa using bh⟩
 .right;refine⟨b,o,cap,by simpa using aJ,h.gP b bh,by simpa using b2,λj x an=>?_⟩;have aO:=ahK he _ _ _ jF;refine hI j _ ?_;rw[aO,getElem?_map,an];rfl
end Go.eg
