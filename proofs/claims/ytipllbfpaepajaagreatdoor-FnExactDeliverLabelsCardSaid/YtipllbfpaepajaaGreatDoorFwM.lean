/- Part of a proof that a law returns true for every input. No condition. -/
import Derived.Test.YtipllbfpaepajaaGreatDoorFwI
import Derived.Sort.Grow
import Derived.Lib.SlicesCompact
import Derived.Below
namespace Go.ca
open Go.Sort
section
variable {α:Type} {e:α→I} {enc:α→Value}
def One (e:α→I) (enc:α→Value):Prop:=(∀x,(e x).wd=1)∧∀(w:World) (F:Nat→Prop) (x:α) (cs:List Value) (S:Nat→Prop),an w F (e x) cs S↔cs=[enc x]
theorem MC (he:One e enc) {w:World} {F:Nat→Prop}:∀(xs:List α) (cs:List Value) (S:Nat→Prop),aN w F (xs.map e) cs S→cs=xs.map enc:=by
 intro xs
 induction xs with
 |nil=>intro cs S h;simpa [aN]using h
 |cons x xs ih=>
  intro cs S h
  simp only[List.map_cons,aN]at h
  obtain⟨bJ,c2,bo,cu,rfl,ab,ad,_⟩:=h
  rw[(he.2 _ _ _ _ _).1 ab,ih _ _ ad];rfl
variable [Inhabited α]
end
theorem bq.below {C:bt} {f:FuncId} {as:List I} {r:I} {v:Value} (ae:xN=false) (zK:∀args w,(callFunc f args).run C.P w= .ok (.enter f args) w) (aO:r.tree=true) (kl:cA r v) (eP:∀w F,an w F r (bx v) (fun _=>False))
  (h:∀(w:World) (F X:Nat→Prop) (S:Nat→Nat→Prop) (vs:List Value),vs.length=as.length→bb w F X F S (dT as) (e0 vs) w→Calls C.P f vs.toArray w fun ex aw=>ex= .returned v∧RowKit.Below w.heap.size w aw):bq C f as r []:=by
 intro w F X S vs hl aD
 refine .inl ⟨zK _ _,(h w F X S vs hl aD).mono ?_⟩
 rintro ex aw ⟨rfl,R⟩
 refine⟨_,rfl,F,fun _ _=>False,?_⟩
 exact {
  e3:=fun _ h=>h
  fh:=fun _ a1=>.inl a1
  dH:=fun c ai=>Nat.lt_of_lt_of_le (aD.dH c ai) R.size
  de:=fun _ _ h=>h.elim
  dY:=fun _ _ h=>h.elim
  dA:=fun _ _ _ _ h=>h.elim
  cE:=fun _ _ h=>h.elim
  cj:=fun u=>by
   rcases u with _|u
   ·exact(ay.bM aO).2 ⟨kl,eP _ _⟩
   ·show ay _ _ _ _ .hole _ _
    rw[ay];trivial
  old:=fun c ai _=>R.block c ai
  size:=R.size
  os:=R.os
  tape:=R.tape
  output:=⟨R.output,fun d=>by rw[ae]at d;cases d⟩
  eT:=aD.eT}
theorem bq.strs {C:bt} {f:FuncId} {as:List I} {b:List UInt8} (ae:xN=false) (zK:∀args w,(callFunc f args).run C.P w= .ok (.enter f args) w)
  (h:∀(w:World) (F X:Nat→Prop) (S:Nat→Nat→Prop) (vs:List Value),vs.length=as.length→bb w F X F S (dT as) (e0 vs) w→Calls C.P f vs.toArray w fun ex aw=>ex= .returned (.string ⟨⟨b⟩⟩)∧RowKit.Below w.heap.size w aw):bq C f as (.str b) []:=
 bq.below (v:=.string ⟨⟨b⟩⟩) ae zK rfl rfl (fun _ _=>by simp only[bx,fD];rw[an]) h
theorem MD {w:World} {F X:Nat→Prop} {S:Nat→Nat→Prop} {s:aj} {ao:Nat→Value} (h:bb w F X F S s ao w) {u:Nat} {xs:List (List UInt8)} {e:List UInt8→I} (he:One e fun x=>.string ⟨⟨x⟩⟩) (hu:s u= .slice (xs.map e)):
  (xs=[]∧∃a c,ao u= .slice a 0 c)∨∃b o cap,ao u= .slice (some ⟨b,o,none⟩) xs.length cap∧b<w.heap.size∧xs.length≤cap∧∀(j:Nat) x,xs[j]? =some x→w.cell? ⟨b,o+j,none⟩=some (.string ⟨⟨x⟩⟩):=by
 have U:=h.cj u
 rw[hu]at U
 obtain⟨ab,ad⟩:=(ay.bM rfl).1 U
 have aG:bx (ao u)=[ao u]:=by
  revert ab
  cases ao u<;>intro ab<;>first|rfl|(cases ab)
 rw[aG,an]at ad
 rcases ad with⟨aB,a,c,aR,_⟩|⟨b,o,cap,cU,sz,aB,aR,ba,bu,bE,cK,eR⟩
 ·left;exact⟨by simpa using aB,a,c,by simpa using aR⟩
 ·right
  refine⟨b,o,cap,by simpa using aB,h.dH b aR,by simpa using ba,fun j x aq=> ?_⟩
  have aH:=MC he _ _ _ eR
  refine cK j _ ?_
  rw[aH,List.getElem?_map,aq];rfl
end Go.ca
