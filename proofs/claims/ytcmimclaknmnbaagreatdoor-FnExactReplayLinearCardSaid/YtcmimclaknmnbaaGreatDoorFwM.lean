/- Part of a proof that a law returns true for every input. No condition. -/
import Derived.Test.YtcmimclaknmnbaaGreatDoorFwI
import Derived.Sort.Grow
import Derived.Lib.SlicesCompact
import Derived.Below
namespace Go.cC
open List Option Go.IntKind Nat Or
open Go.Sort
section
variable {α:Type} {e:α->I} {enc:α->Value}
def One (e:α->I) (enc:α->Value):Prop:=(∀x,(e x).wd=1)/\∀(w:World) (F:Nat->Prop) (x:α) (cs:anX) (S:Nat->Prop),ar w F (e x) cs S↔cs=[enc x]
theorem QI (he:One e enc) {w:World} {F:Nat->Prop}:∀(xs:List α) (cs:anX) (S:Nat->Prop),aW w F (xs.map e) cs S->cs=xs.map enc:=by
 intro xs;induction xs with
 |nil=>intro cs S h;simpa [aW]using h
 |cons x xs ih=>
  intro cs S h;simp only[map_cons,aW]at h;obtain⟨c1,c2,bR,cH,rfl,h1,ab,_⟩:=h;rw[(he.2 _ _ _ _ _).1 h1,ih _ _ ab];rfl
theorem Iu (w:World) (os:Array Obj) {c:Nat} (h:c<w.heap.size):(Sort.grow w os).heap[c]? =w.heap[c]? :=by
 simp only[Sort.grow,Array.getElem?_append,h,if_true]
variable [Inhabited α]
end
theorem aY.below {C:bx} {f:FuncId} {as:anZ} {r:I} {v:Value} (ae:GA=false) (Iv:∀args w,(callFunc f args).run C.P w= .ok (.enter f args) w) (aL:r.tree=true) (k_:c7 r v) (eC:∀w F,ar w F r (bZ v) (λ_=>False))
  (h:∀(w:World) (F X:Nat->Prop) (S:Nat->Nat->Prop) (vs:anX),vs.length=as.length->bq w F X F S (eb as) (fs vs) w->Calls C.P f vs.toArray w λex aq=>ex= .returned v/\RowKit.Below w.heap.size w aq):aY C f as r []:=by
 intro w F X S vs hl ax;refine .inl ⟨Iv _ _,(h w F X S vs hl ax).mono ?_⟩;rintro ex aq ⟨rfl,R⟩;refine⟨_,rfl,F,λ_ _=>False,?_⟩;exact {
  fl:=λ_ h=>h
  fL:=λ_ a8=>.inl a8
  dV:=λc ai=>Nat.lt_of_lt_of_le (ax.dV c ai) R.size
  dh:=λ_ _ h=>h.elim
  ep:=λ_ _ h=>h.elim
  ev:=λ_ _ _ _ h=>h.elim
  cR:=λ_ _ h=>h.elim
  cD:=λu=>by
   rcases u with _|u
   .exact(aF.b_ aL).2 ⟨k_,eC _ _⟩
   .show aF _ _ _ _ .hole _ _;rw[aF];trivial
  old:=λc ai _=>R.block c ai
  size:=R.size
  os:=R.os
  tape:=R.tape
  output:=⟨R.output,λd=>by rw[ae]at d;cases d⟩
  e4:=ax.e4}
theorem aY.strs {C:bx} {f:FuncId} {as:anZ} {b:anR} (ae:GA=false) (Iv:∀args w,(callFunc f args).run C.P w= .ok (.enter f args) w)
  (h:∀(w:World) (F X:Nat->Prop) (S:Nat->Nat->Prop) (vs:anX),vs.length=as.length->bq w F X F S (eb as) (fs vs) w->Calls C.P f vs.toArray w λex aq=>ex= .returned (.string ⟨⟨b⟩⟩)/\RowKit.Below w.heap.size w aq):aY C f as (.str b) []:=
 aY.below (v:=.string ⟨⟨b⟩⟩) ae Iv rfl rfl (λ_ _=>by simp only[bZ,gX];rw[ar]) h
theorem aar {w:World} {F X:Nat->Prop} {S:Nat->Nat->Prop} {s:an} {au:Nat->Value} (h:bq w F X F S s au w) {u:Nat} {xs:anQ} {e:anR->I} (he:One e λx=>.string ⟨⟨x⟩⟩) (hu:s u= .slice (xs.map e)):
  (xs=[]/\∃a c,au u= .slice a 0 c)\/∃b o cap,au u= .slice (some ⟨b,o,none⟩) xs.length cap/\b<w.heap.size/\xs.length<=cap/\∀(j:Nat) x,xs[j]? =some x->w.cell? ⟨b,o+j,none⟩=some (.string ⟨⟨x⟩⟩):=by
 have U:=h.cD u;rw[hu]at U;obtain⟨h1,ab⟩:=(aF.b_ rfl).1 U;have aD:bZ (au u)=[au u]:=by
  revert h1;cases au u<;>intro h1<;>first|rfl|(cases h1)
 rw[aD,ar]at ab;rcases ab with⟨ay,a,c,aT,_⟩|⟨b,o,cap,eh,sz,ay,aT,bp,bX,bM,dy,hG⟩
 .left;exact⟨by simpa using ay,a,c,by simpa using aT⟩
 .right;refine⟨b,o,cap,by simpa using ay,h.dV b aT,by simpa using bp,λj x ag=>?_⟩;have aI:=QI he _ _ _ hG;refine dy j _ ?_;rw[aI,getElem?_map,ag];rfl
end Go.cC
