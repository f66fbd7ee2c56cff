/- Part of a proof that a law returns true for every input. No condition. -/
import Derived.Test.YteloniioljdceaaGreatDoorFwI
import Derived.Sort.Grow
import Derived.Lib.SlicesCompact
import Derived.Below
namespace Go.ca
open List Option Go.IntKind Nat Or
open Go.Sort
section
variable {α:Type} {e:α->I} {enc:α->Value}
def One (e:α->I) (enc:α->Value):Prop:=(∀x,(e x).wd=1)/\∀(w:World) (F:Nat->Prop) (x:α) (cs:RJ) (S:Nat->Prop),ah w F (e x) cs S↔cs=[enc x]
theorem Ld (he:One e enc) {w:World} {F:Nat->Prop}:∀(xs:List α) (cs:RJ) (S:Nat->Prop),aH w F (xs.map e) cs S->cs=xs.map enc:=by
 intro xs;induction xs with
 |nil=>intro cs S h;simpa [aH]using h
 |cons x xs ih=>
  intro cs S h;simp only[map_cons,aH]at h;obtain⟨bb,c2,bg,b0,rfl,U,ab,_⟩:=h;rw[(he.2 _ _ _ _ _).1 U,ih _ _ ab];rfl
variable [Inhabited α]
end
theorem bf.below {C:bl} {f:FuncId} {as:RL} {r:I} {v:Value} (ad:wq=false) (sn:∀args w,(callFunc f args).run C.P w= .ok (.enter f args) w) (aI:r.tree=true) (jg:b7 r v) (eC:∀w F,ah w F r (bn v) (λ_=>False))
  (h:∀(w:World) (F X:Nat->Prop) (S:Nat->Nat->Prop) (vs:RJ),vs.length=as.length->aZ w F X F S (cM as) (dJ vs) w->Calls C.P f vs.toArray w λex an=>ex= .returned v/\RowKit.Below w.heap.size w an):bf C f as r []:=by
 intro w F X S vs hl ax;refine .inl ⟨sn _ _,(h w F X S vs hl ax).mono ?_⟩;rintro ex an ⟨rfl,J⟩;refine⟨_,rfl,F,λ_ _=>False,?_⟩;exact {
  eK:=λ_ h=>h
  eY:=λ_ aL=>.inl aL
  dk:=λc ae=>Nat.lt_of_lt_of_le (ax.dk c ae) J.size
  c1:=λ_ _ h=>h.elim
  dN:=λ_ _ h=>h.elim
  du:=λ_ _ _ _ h=>h.elim
  ck:=λ_ _ h=>h.elim
  b9:=λu=>by
   rcases u with _|u
   .exact(ar.bx aI).2 ⟨jg,eC _ _⟩
   .show ar _ _ _ _ .hole _ _;rw[ar];trivial
  old:=λc ae _=>J.block c ae
  size:=J.size
  os:=J.os
  tape:=J.tape
  output:=⟨J.output,λd=>by rw[ad]at d;cases d⟩
  ef:=ax.ef}
theorem bf.strs {C:bl} {f:FuncId} {as:RL} {b:RD} (ad:wq=false) (sn:∀args w,(callFunc f args).run C.P w= .ok (.enter f args) w)
  (h:∀(w:World) (F X:Nat->Prop) (S:Nat->Nat->Prop) (vs:RJ),vs.length=as.length->aZ w F X F S (cM as) (dJ vs) w->Calls C.P f vs.toArray w λex an=>ex= .returned (.string ⟨⟨b⟩⟩)/\RowKit.Below w.heap.size w an):bf C f as (.str b) []:=
 bf.below (v:=.string ⟨⟨b⟩⟩) ad sn rfl rfl (λ_ _=>by simp only[bn,eG];rw[ah]) h
theorem Le {w:World} {F X:Nat->Prop} {S:Nat->Nat->Prop} {s:aj} {ao:Nat->Value} (h:aZ w F X F S s ao w) {u:Nat} {xs:RC} {e:RD->I} (he:One e λx=>.string ⟨⟨x⟩⟩) (hu:s u= .slice (xs.map e)):
  (xs=[]/\∃a c,ao u= .slice a 0 c)\/∃b o cap,ao u= .slice (some ⟨b,o,none⟩) xs.length cap/\b<w.heap.size/\xs.length<=cap/\∀(j:Nat) x,xs[j]? =some x->w.cell? ⟨b,o+j,none⟩=some (.string ⟨⟨x⟩⟩):=by
 have R:=h.b9 u;rw[hu]at R;obtain⟨U,ab⟩:=(ar.bx rfl).1 R;have az:bn (ao u)=[ao u]:=by
  revert U;cases ao u<;>intro U<;>first|rfl|(cases U)
 rw[az,ah]at ab;rcases ab with⟨ay,a,c,aQ,_⟩|⟨b,o,cap,cV,sz,ay,aQ,bc,bW,b4,cP,fD⟩
 .left;exact⟨by simpa using ay,a,c,by simpa using aQ⟩
 .right;refine⟨b,o,cap,by simpa using ay,h.dk b aQ,by simpa using bc,λj x ak=>?_⟩;have aD:=Ld he _ _ _ fD;refine cP j _ ?_;rw[aD,getElem?_map,ak];rfl
end Go.ca
