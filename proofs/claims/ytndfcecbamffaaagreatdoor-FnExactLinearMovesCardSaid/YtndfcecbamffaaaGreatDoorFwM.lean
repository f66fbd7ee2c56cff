/- Part of a proof that a law returns true for every input. No condition. -/
import Derived.Test.YtndfcecbamffaaaGreatDoorFwI
import Derived.Sort.Grow
import Derived.Lib.SlicesCompact
import Derived.Below
namespace Go.cG
open List Option Go.IntKind Nat Or
open Go.Sort
section
variable {α:Type} {e:α->j} {enc:α->Value}
def One (e:α->j) (enc:α->Value):Prop:=(∀x,(e x).wd=1)/\∀(w:World) (F:Nat->Prop) (x:α) (cs:ach) (S:Nat->Prop),al w F (e x) cs S↔cs=[enc x]
theorem SA (he:One e enc) {w:World} {F:Nat->Prop}:∀(xs:List α) (cs:ach) (S:Nat->Prop),aT w F (xs.map e) cs S->cs=xs.map enc:=by
 intro xs;induction xs with
 |nil=>intro cs S h;simpa [aT]using h
 |cons x xs ih=>
  intro cs S h;simp only[map_cons,aT]at h;obtain⟨bK,bJ,bT,cI,rfl,R,U,_⟩:=h;rw[(he.2 _ _ _ _ _).1 R,ih _ _ U];rfl
variable [Inhabited α]
end
theorem bb.below {C:bz} {f:FuncId} {as:acj} {r:j} {v:Value} (ad:BE=false) (Dw:∀args w,(callFunc f args).run C.P w= .ok (.enter f args) w) (aK:r.tree=true) (k6:cU r v) (eO:∀w F,al w F r (bZ v) (λ_=>False))
  (h:∀(w:World) (F X:Nat->Prop) (S:Nat->Nat->Prop) (vs:ach),vs.length=as.length->bm w F X F S (eo as) (fi vs) w->Calls C.P f vs.toArray w λex au=>ex= .returned v/\RowKit.Below w.heap.size w au):bb C f as r []:=by
 intro w F X S vs hl aD;refine .inl ⟨Dw _ _,(h w F X S vs hl aD).mono ?_⟩;rintro ex au ⟨rfl,I⟩;refine⟨_,rfl,F,λ_ _=>False,?_⟩;exact {
  ff:=λ_ h=>h
  fI:=λ_ aZ=>.inl aZ
  dP:=λc aj=>Nat.lt_of_lt_of_le (aD.dP c aj) I.size
  dt:=λ_ _ h=>h.elim
  eh:=λ_ _ h=>h.elim
  dW:=λ_ _ _ _ h=>h.elim
  cS:=λ_ _ h=>h.elim
  cz:=λu=>by
   rcases u with _|u
   .exact(az.b8 aK).2 ⟨k6,eO _ _⟩
   .show az _ _ _ _ .hole _ _;rw[az];trivial
  old:=λc aj _=>I.block c aj
  size:=I.size
  os:=I.os
  tape:=I.tape
  output:=⟨I.output,λd=>by rw[ad]at d;cases d⟩
  fu:=aD.fu}
theorem bb.strs {C:bz} {f:FuncId} {as:acj} {b:aca} (ad:BE=false) (Dw:∀args w,(callFunc f args).run C.P w= .ok (.enter f args) w)
  (h:∀(w:World) (F X:Nat->Prop) (S:Nat->Nat->Prop) (vs:ach),vs.length=as.length->bm w F X F S (eo as) (fi vs) w->Calls C.P f vs.toArray w λex au=>ex= .returned (.string ⟨⟨b⟩⟩)/\RowKit.Below w.heap.size w au):bb C f as (.str b) []:=
 bb.below (v:=.string ⟨⟨b⟩⟩) ad Dw rfl rfl (λ_ _=>by simp only[bZ,gM];rw[al]) h
theorem SB {w:World} {F X:Nat->Prop} {S:Nat->Nat->Prop} {s:ag} {an:Nat->Value} (h:bm w F X F S s an w) {u:Nat} {xs:nq} {e:aca->j} (he:One e λx=>.string ⟨⟨x⟩⟩) (hu:s u= .slice (xs.map e)):
  (xs=[]/\∃a c,an u= .slice a 0 c)\/∃b o cap,an u= .slice (some ⟨b,o,none⟩) xs.length cap/\b<w.heap.size/\xs.length<=cap/\∀(aB:Nat) x,xs[aB]? =some x->w.cell? ⟨b,o+aB,none⟩=some (.string ⟨⟨x⟩⟩):=by
 have J:=h.cz u;rw[hu]at J;obtain⟨R,U⟩:=(az.b8 rfl).1 J;have aE:bZ (an u)=[an u]:=by
  revert R;cases an u<;>intro R<;>first|rfl|(cases R)
 rw[aE,al]at U;rcases U with⟨aw,a,c,aQ,_⟩|⟨b,o,cap,dC,sz,aw,aQ,bk,bS,bL,da,hR⟩
 .left;exact⟨by simpa using aw,a,c,by simpa using aQ⟩
 .right;refine⟨b,o,cap,by simpa using aw,h.dP b aQ,by simpa using bk,λaB x ae=>?_⟩;have aH:=SA he _ _ _ hR;refine da aB _ ?_;rw[aH,getElem?_map,ae];rfl
end Go.cG
