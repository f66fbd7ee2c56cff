/- Part of a proof that a law returns true for every input. No condition. -/
import Derived.Test.YtngohoaiimbacabGreatDoorFwI
import Derived.Sort.Grow
import Derived.Lib.SlicesCompact
import Derived.Below
namespace Go.c_
open List Option Go.IntKind Nat Or
open Go.Sort
section
variable {α:Type} {e:α->I} {enc:α->Value}
def One (e:α->I) (enc:α->Value):Prop:=(∀x,(e x).wd=1)/\∀(w:World) (F:Nat->Prop) (x:α) (cs:ahz) (S:Nat->Prop),au w F (e x) cs S↔cs=[enc x]
theorem Vk (he:One e enc) {w:World} {F:Nat->Prop}:∀(xs:List α) (cs:ahz) (S:Nat->Prop),aZ w F (xs.map e) cs S->cs=xs.map enc:=by
 intro xs;induction xs with
 |nil=>intro cs S h;simpa [aZ]using h
 |cons x xs ih=>
  intro cs S h;simp only[map_cons,aZ]at h;obtain⟨b2,c2,b3,dh,rfl,ab,ad,_⟩:=h;rw[(he.2 _ _ _ _ _).1 ab,ih _ _ ad];rfl
variable [Inhabited α]
end
theorem aX.below {C:bW} {f:FuncId} {as:ahB} {r:I} {v:Value} (ae:wi=false) (s_:∀args w,(callFunc f args).run C.P w= .ok (.enter f args) w) (aY:r.tree=true) (ky:dz r v) (gp:∀w F,au w F r (b8 v) (λ_=>False))
  (h:∀(w:World) (F X:Nat->Prop) (S:Nat->Nat->Prop) (vs:ahz),vs.length=as.length->bx w F X F S (eU as) (gj vs) w->Calls C.P f vs.toArray w λex aD=>ex= .returned v/\RowKit.Below w.heap.size w aD):aX C f as r []:=by
 intro w F X S vs hl aH;refine .inl ⟨s_ _ _,(h w F X S vs hl aH).mono ?_⟩;rintro ex aD ⟨rfl,R⟩;refine⟨_,rfl,F,λ_ _=>False,?_⟩;exact {
  gq:=λ_ h=>h
  gK:=λ_ a8=>.inl a8
  eK:=λc ai=>Nat.lt_of_lt_of_le (aH.eK c ai) R.size
  et:=λ_ _ h=>h.elim
  fg:=λ_ _ h=>h.elim
  eT:=λ_ _ _ _ h=>h.elim
  dy:=λ_ _ h=>h.elim
  cW:=λu=>by
   rcases u with _|u
   .exact(aF.cr aY).2 ⟨ky,gp _ _⟩
   .show aF _ _ _ _ .hole _ _;rw[aF];trivial
  old:=λc ai _=>R.block c ai
  size:=R.size
  os:=R.os
  tape:=R.tape
  output:=⟨R.output,λd=>by rw[ae]at d;cases d⟩
  fW:=aH.fW}
theorem aX.strs {C:bW} {f:FuncId} {as:ahB} {b:aht} (ae:wi=false) (s_:∀args w,(callFunc f args).run C.P w= .ok (.enter f args) w)
  (h:∀(w:World) (F X:Nat->Prop) (S:Nat->Nat->Prop) (vs:ahz),vs.length=as.length->bx w F X F S (eU as) (gj vs) w->Calls C.P f vs.toArray w λex aD=>ex= .returned (.string ⟨⟨b⟩⟩)/\RowKit.Below w.heap.size w aD):aX C f as (.str b) []:=
 aX.below (v:=.string ⟨⟨b⟩⟩) ae s_ rfl rfl (λ_ _=>by simp only[b8,hs];rw[au]) h
theorem Vl {w:World} {F X:Nat->Prop} {S:Nat->Nat->Prop} {s:aw} {ay:Nat->Value} (h:bx w F X F S s ay w) {u:Nat} {xs:nq} {e:aht->I} (he:One e λx=>.string ⟨⟨x⟩⟩) (hu:s u= .slice (xs.map e)):
  (xs=[]/\∃a c,ay u= .slice a 0 c)\/∃b o cap,ay u= .slice (some ⟨b,o,none⟩) xs.length cap/\b<w.heap.size/\xs.length<=cap/\∀(j:Nat) x,xs[j]? =some x->w.cell? ⟨b,o+j,none⟩=some (.string ⟨⟨x⟩⟩):=by
 have U:=h.cW u;rw[hu]at U;obtain⟨ab,ad⟩:=(aF.cr rfl).1 U;have aI:b8 (ay u)=[ay u]:=by
  revert ab;cases ay u<;>intro ab<;>first|rfl|(cases ab)
 rw[aI,au]at ad;rcases ad with⟨aC,a,c,aW,_⟩|⟨b,o,cap,eh,sz,aC,aW,bu,cy,cl,fM,h9⟩
 .left;exact⟨by simpa using aC,a,c,by simpa using aW⟩
 .right;refine⟨b,o,cap,by simpa using aC,h.eK b aW,by simpa using bu,λj x ar=>?_⟩;have aP:=Vk he _ _ _ h9;refine fM j _ ?_;rw[aP,getElem?_map,ar];rfl
end Go.c_
