/- Part of a proof that a law returns true for every input. No condition. -/
import Derived.Test.YtocllehpepigpaaGreatDoorFwI
import Derived.Sort.Grow
import Derived.Lib.SlicesCompact
import Derived.Below
namespace Go.cI
open Go.Sort
section
variable {α:Type} {e:α→I} {enc:α→Value}
def One (e:α→I) (enc:α→Value):Prop:=(∀x,(e x).wd=1)∧∀(w:World) (F:Nat→Prop) (x:α) (cs:List Value) (S:Nat→Prop),ak w F (e x) cs S↔cs=[enc x]
theorem PT (he:One e enc) {w:World} {F:Nat→Prop}:∀(xs:List α) (cs:List Value) (S:Nat→Prop),aW w F (xs.map e) cs S→cs=xs.map enc:=by
 intro xs
 induction xs with
 |nil=>intro cs S h;simpa [aW]using h
 |cons x xs ih=>
  intro cs S h
  simp only[List.map_cons,aW]at h
  obtain⟨b5,c2,bN,dc,rfl,ad,ag,_⟩:=h
  rw[(he.2 _ _ _ _ _).1 ad,ih _ _ ag];rfl
variable [Inhabited α]
end
theorem bh.below {C:bS} {f:FuncId} {as:List I} {r:I} {v:Value} (ah:Ay=false) (CC:∀args w,(callFunc f args).run C.P w= .ok (.enter f args) w) (aY:r.tree=true) (l8:ck r v) (gg:∀w F,ak w F r (bU v) (fun _=>False))
  (h:∀(w:World) (F X:Nat→Prop) (S:Nat→Nat→Prop) (vs:List Value),vs.length=as.length→bw w F X F S (e9 as) (gA vs) w→Calls C.P f vs.toArray w fun ex aA=>ex= .returned v∧RowKit.Below w.heap.size w aA):bh C f as r []:=by
 intro w F X S vs aO aH
 refine .inl ⟨CC _ _,(h w F X S vs aO aH).mono ?_⟩
 rintro ex aA ⟨rfl,U⟩
 refine⟨_,rfl,F,fun _ _=>False,?_⟩
 exact {
  gF:=fun _ h=>h
  gS:=fun _ bl=>.inl bl
  eT:=fun c aj=>Nat.lt_of_lt_of_le (aH.eT c aj) U.size
  eg:=fun _ _ h=>h.elim
  fa:=fun _ _ h=>h.elim
  eN:=fun _ _ _ _ h=>h.elim
  dp:=fun _ _ h=>h.elim
  cN:=fun u=>by
   rcases u with _|u
   ·exact(aB.b9 aY).2 ⟨l8,gg _ _⟩
   ·show aB _ _ _ _ .hole _ _
    rw[aB];trivial
  old:=fun c aj _=>U.block c aj
  size:=U.size
  os:=U.os
  tape:=U.tape
  output:=⟨U.output,fun d=>by rw[ah]at d;cases d⟩
  gn:=aH.gn}
theorem bh.strs {C:bS} {f:FuncId} {as:List I} {b:List UInt8} (ah:Ay=false) (CC:∀args w,(callFunc f args).run C.P w= .ok (.enter f args) w)
  (h:∀(w:World) (F X:Nat→Prop) (S:Nat→Nat→Prop) (vs:List Value),vs.length=as.length→bw w F X F S (e9 as) (gA vs) w→Calls C.P f vs.toArray w fun ex aA=>ex= .returned (.string ⟨⟨b⟩⟩)∧RowKit.Below w.heap.size w aA):bh C f as (.str b) []:=
 bh.below (v:=.string ⟨⟨b⟩⟩) ah CC rfl rfl (fun _ _=>by simp only[bU,hp];rw[ak]) h
theorem PU {w:World} {F X:Nat→Prop} {S:Nat→Nat→Prop} {s:an} {au:Nat→Value} (h:bw w F X F S s au w) {u:Nat} {xs:List (List UInt8)} {e:List UInt8→I} (he:One e fun x=>.string ⟨⟨x⟩⟩) (hu:s u= .slice (xs.map e)):
  (xs=[]∧∃a c,au u= .slice a 0 c)∨∃b o cap,au u= .slice (some ⟨b,o,none⟩) xs.length cap∧b<w.heap.size∧xs.length≤cap∧∀(j:Nat) x,xs[j]? =some x→w.cell? ⟨b,o+j,none⟩=some (.string ⟨⟨x⟩⟩):=by
 have aa:=h.cN u
 rw[hu]at aa
 obtain⟨ad,ag⟩:=(aB.b9 rfl).1 aa
 have aI:bU (au u)=[au u]:=by
  revert ad
  cases au u<;>intro ad<;>first|rfl|(cases ad)
 rw[aI,ak]at ag
 rcases ag with⟨aF,a,c,a8,_⟩|⟨b,o,cap,dI,sz,aF,a8,bF,cn,cD,eu,gK⟩
 ·left;exact⟨by simpa using aF,a,c,by simpa using a8⟩
 ·right
  refine⟨b,o,cap,by simpa using aF,h.eT b a8,by simpa using bF,fun j x ai=> ?_⟩
  have aT:=PT he _ _ _ gK
  refine eu j _ ?_
  rw[aT,List.getElem?_map,ai];rfl
end Go.cI
