/- Part of a proof that a law returns true for every input. No condition. -/
import Derived.Test.YtmaepbgkcmjcjagGreatDoorFwI
import Derived.Sort.Grow
import Derived.Lib.SlicesCompact
import Derived.Below
namespace Go.ef
open List Option Go.IntKind Nat
open Go.Sort
section
variable {α:Type} {e:α->I} {enc:α->Value}
def One (e:α->I) (enc:α->Value):Prop:=(∀x,(e x).wd=1)/\∀(w:World) (F:Nat->Prop) (x:α) (cs:axg) (S:Nat->Prop),aA w F (e x) cs S↔cs=[enc x]
theorem agc (he:One e enc) {w:World} {F:Nat->Prop}:∀(xs:List α) (cs:axg) (S:Nat->Prop),bx w F (xs.map e) cs S->cs=xs.map enc:=by
 intro xs;induction xs with
 |nil=>intro cs S h;simpa [bx]using h
 |cons x xs ih=>
  intro cs S h;simp only[map_cons,bx]at h;obtain⟨cz,c2,cA,eI,rfl,ad,ae,_⟩:=h;rw[(he.2 _ _ _ _ _).1 ad,ih _ _ ae];rfl
variable [Inhabited α]
end
theorem aV.below {C:cj} {f:FuncId} {as:axi} {r:I} {v:Value} (al:Lm=false) (Ns:∀args w,(callFunc f args).run C.P w= .ok (.enter f args) w) (aZ:r.tree=true) (ot:eM r v) (hQ:∀w F,aA w F r (c8 v) (λ_=>False))
  (h:∀(w:World) (F X:Nat->Prop) (S:Nat->Nat->Prop) (vs:axg),vs.length=as.length->b8 w F X F S (gp as) (h3 vs) w->Calls C.P f vs.toArray w λex aL=>ex= .returned v/\RowKit.Below w.heap.size w aL):aV C f as r []:=by
 intro w F X S vs aC aQ;refine .inl ⟨Ns _ _,(h w F X S vs aC aQ).mono ?_⟩;rintro ex aL ⟨rfl,ab⟩;refine⟨_,rfl,F,λ_ _=>False,?_⟩;exact {
  iI:=λ_ h=>h
  jg:=λ_ bG=>.inl bG
  gN:=λc ar=>Nat.lt_of_lt_of_le (aQ.gN c ar) ab.size
  fN:=λ_ _ h=>h.elim
  hf:=λ_ _ h=>h.elim
  gE:=λ_ _ _ _ h=>h.elim
  eS:=λ_ _ h=>h.elim
  ew:=λu=>by
   rcases u with _|u
   .exact(aO.dk aZ).2 ⟨ot,hQ _ _⟩
   .show aO _ _ _ _ .hole _ _;rw[aO];trivial
  old:=λc ar _=>ab.block c ar
  size:=ab.size
  os:=ab.os
  tape:=ab.tape
  output:=⟨ab.output,λd=>by rw[al]at d;cases d⟩
  gS:=aQ.gS}
theorem aV.strs {C:cj} {f:FuncId} {as:axi} {b:axa} (al:Lm=false) (Ns:∀args w,(callFunc f args).run C.P w= .ok (.enter f args) w)
  (h:∀(w:World) (F X:Nat->Prop) (S:Nat->Nat->Prop) (vs:axg),vs.length=as.length->b8 w F X F S (gp as) (h3 vs) w->Calls C.P f vs.toArray w λex aL=>ex= .returned (.string ⟨⟨b⟩⟩)/\RowKit.Below w.heap.size w aL):aV C f as (.str b) []:=
 aV.below (v:=.string ⟨⟨b⟩⟩) al Ns rfl rfl (λ_ _=>by simp only[c8,je];rw[aA]) h
theorem agd {w:World} {F X:Nat->Prop} {S:Nat->Nat->Prop} {s:ak} {aG:Nat->Value} (h:b8 w F X F S s aG w) {u:Nat} {xs:awZ} {e:axa->I} (he:One e λx=>.string ⟨⟨x⟩⟩) (hu:s u= .slice (xs.map e)):
  (xs=[]/\∃a c,aG u= .slice a 0 c)\/∃b o cap,aG u= .slice (some ⟨b,o,none⟩) xs.length cap/\b<w.heap.size/\xs.length<=cap/\∀(j:Nat) x,xs[j]? =some x->w.cell? ⟨b,o+j,none⟩=some (.string ⟨⟨x⟩⟩):=by
 have aa:=h.ew u;rw[hu]at aa;obtain⟨ad,ae⟩:=(aO.dk rfl).1 aa;have aE:c8 (aG u)=[aG u]:=by
  revert ad;cases aG u<;>intro ad<;>first|rfl|(cases ad)
 rw[aE,aA]at ae;rcases ae with⟨aI,a,c,bc,_⟩|⟨b,o,cap,e9,sz,aI,bc,bY,dt,dv,hN,j3⟩
 .left;exact⟨by simpa using aI,a,c,by simpa using bc⟩
 .right;refine⟨b,o,cap,by simpa using aI,h.gN b bc,by simpa using bY,λj x an=>?_⟩;have aN:=agc he _ _ _ j3;refine hN j _ ?_;rw[aN,getElem?_map,an];rfl
end Go.ef
