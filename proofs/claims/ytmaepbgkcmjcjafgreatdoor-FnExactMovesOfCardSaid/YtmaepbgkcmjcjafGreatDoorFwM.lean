/- Part of a proof that a law returns true for every input. No condition. -/
import Derived.Test.YtmaepbgkcmjcjafGreatDoorFwI
import Derived.Sort.Grow
import Derived.Lib.SlicesCompact
import Derived.Below
namespace Go.eg
open List Option Go.IntKind Nat
open Go.Sort
section
variable {α:Type} {e:α->I} {enc:α->Value}
def One (e:α->I) (enc:α->Value):Prop:=(∀x,(e x).wd=1)/\∀(w:World) (F:Nat->Prop) (x:α) (cs:ayi) (S:Nat->Prop),aB w F (e x) cs S↔cs=[enc x]
theorem ahv (he:One e enc) {w:World} {F:Nat->Prop}:∀(xs:List α) (cs:ayi) (S:Nat->Prop),bt w F (xs.map e) cs S->cs=xs.map enc:=by
 intro xs;induction xs with
 |nil=>intro cs S h;simpa [bt]using h
 |cons x xs ih=>
  intro cs S h;simp only[map_cons,bt]at h;obtain⟨cr,c2,cI,eF,rfl,ad,af,_⟩:=h;rw[(he.2 _ _ _ _ _).1 ad,ih _ _ af];rfl
variable [Inhabited α]
end
theorem aW.below {C:cm} {f:FuncId} {as:ayk} {r:I} {v:Value} (an:L6=false) (Og:∀args w,(callFunc f args).run C.P w= .ok (.enter f args) w) (ba:r.tree=true) (oE:eY r v) (h6:∀w F,aB w F r (cT v) (λ_=>False))
  (h:∀(w:World) (F X:Nat->Prop) (S:Nat->Nat->Prop) (vs:ayi),vs.length=as.length->cb w F X F S (gf as) (ik vs) w->Calls C.P f vs.toArray w λex aN=>ex= .returned v/\RowKit.Below w.heap.size w aN):aW C f as r []:=by
 intro w F X S vs hl aQ;refine .inl ⟨Og _ _,(h w F X S vs hl aQ).mono ?_⟩;rintro ex aN ⟨rfl,aa⟩;refine⟨_,rfl,F,λ_ _=>False,?_⟩;exact {
  h3:=λ_ h=>h
  iB:=λ_ bE=>.inl bE
  f_:=λc ar=>Nat.lt_of_lt_of_le (aQ.f_ c ar) aa.size
  fz:=λ_ _ h=>h.elim
  gD:=λ_ _ h=>h.elim
  ga:=λ_ _ _ _ h=>h.elim
  eU:=λ_ _ h=>h.elim
  el:=λu=>by
   rcases u with _|u
   .exact(aO.dh ba).2 ⟨oE,h6 _ _⟩
   .show aO _ _ _ _ .hole _ _;rw[aO];trivial
  old:=λc ar _=>aa.block c ar
  size:=aa.size
  os:=aa.os
  tape:=aa.tape
  output:=⟨aa.output,λd=>by rw[an]at d;cases d⟩
  gq:=aQ.gq}
theorem aW.strs {C:cm} {f:FuncId} {as:ayk} {b:ayc} (an:L6=false) (Og:∀args w,(callFunc f args).run C.P w= .ok (.enter f args) w)
  (h:∀(w:World) (F X:Nat->Prop) (S:Nat->Nat->Prop) (vs:ayi),vs.length=as.length->cb w F X F S (gf as) (ik vs) w->Calls C.P f vs.toArray w λex aN=>ex= .returned (.string ⟨⟨b⟩⟩)/\RowKit.Below w.heap.size w aN):aW C f as (.str b) []:=
 aW.below (v:=.string ⟨⟨b⟩⟩) an Og rfl rfl (λ_ _=>by simp only[cT,jx];rw[aB]) h
theorem ahw {w:World} {F X:Nat->Prop} {S:Nat->Nat->Prop} {s:ak} {aI:Nat->Value} (h:cb w F X F S s aI w) {u:Nat} {xs:ayb} {e:ayc->I} (he:One e λx=>.string ⟨⟨x⟩⟩) (hu:s u= .slice (xs.map e)):
  (xs=[]/\∃a c,aI u= .slice a 0 c)\/∃b o cap,aI u= .slice (some ⟨b,o,none⟩) xs.length cap/\b<w.heap.size/\xs.length<=cap/\∀(j:Nat) x,xs[j]? =some x->w.cell? ⟨b,o+j,none⟩=some (.string ⟨⟨x⟩⟩):=by
 have ab:=h.el u;rw[hu]at ab;obtain⟨ad,af⟩:=(aO.dh rfl).1 ab;have aJ:cT (aI u)=[aI u]:=by
  revert ad;cases aI u<;>intro ad<;>first|rfl|(cases ad)
 rw[aJ,aB]at af;rcases af with⟨aG,a,c,bf,_⟩|⟨b,o,cap,fo,sz,aG,bf,bU,dc,c1,g_,iN⟩
 .left;exact⟨by simpa using aG,a,c,by simpa using bf⟩
 .right;refine⟨b,o,cap,by simpa using aG,h.f_ b bf,by simpa using bU,λj x ao=>?_⟩;have aP:=ahv he _ _ _ iN;refine g_ j _ ?_;rw[aP,getElem?_map,ao];rfl
end Go.eg
