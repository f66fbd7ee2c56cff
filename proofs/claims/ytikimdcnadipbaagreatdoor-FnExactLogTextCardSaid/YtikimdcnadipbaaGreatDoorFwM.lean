/- Part of a proof that a law returns true for every input. No condition. -/
import Derived.Test.YtikimdcnadipbaaGreatDoorFwI
import Derived.Sort.Grow
import Derived.Lib.SlicesCompact
import Derived.Below
namespace Go.bZ
open Go.Sort
section
variable {α:Type} {e:α→I} {enc:α→Value}
def One (e:α→I) (enc:α→Value):Prop:=(∀x,(e x).wd=1)∧∀(w:World) (F:Nat→Prop) (x:α) (cs:List Value) (S:Nat→Prop),ak w F (e x) cs S↔cs=[enc x]
theorem Lt (he:One e enc) {w:World} {F:Nat→Prop}:∀(xs:List α) (cs:List Value) (S:Nat→Prop),aL w F (xs.map e) cs S→cs=xs.map enc:=by
 intro xs
 induction xs with
 |nil=>intro cs S h;simpa [aL]using h
 |cons x xs ih=>
  intro cs S h
  simp only[List.map_cons,aL]at h
  obtain⟨bD,c2,bk,cx,rfl,aa,ab,_⟩:=h
  rw[(he.2 _ _ _ _ _).1 aa,ih _ _ ab];rfl
variable [Inhabited α]
end
theorem bj.below {C:bm} {f:FuncId} {as:List I} {r:I} {v:Value} (ae:rO=false) (pD:∀args w,(callFunc f args).run C.P w= .ok (.enter f args) w) (aK:r.tree=true) (jM:cA r v) (eu:∀w F,ak w F r (bs v) (fun _=>False))
  (h:∀(w:World) (F X:Nat→Prop) (S:Nat→Nat→Prop) (vs:List Value),vs.length=as.length→a1 w F X F S (dL as) (eJ vs) w→Calls C.P f vs.toArray w fun ex ar=>ex= .returned v∧RowKit.Below w.heap.size w ar):bj C f as r []:=by
 intro w F X S vs aI aC
 refine .inl ⟨pD _ _,(h w F X S vs aI aC).mono ?_⟩
 rintro ex ar ⟨rfl,J⟩
 refine⟨_,rfl,F,fun _ _=>False,?_⟩
 exact {
  eB:=fun _ h=>h
  eQ:=fun _ aW=>.inl aW
  de:=fun c af=>Nat.lt_of_lt_of_le (aC.de c af) J.size
  cV:=fun _ _ h=>h.elim
  dy:=fun _ _ h=>h.elim
  dm:=fun _ _ _ _ h=>h.elim
  cp:=fun _ _ h=>h.elim
  b2:=fun u=>by
   rcases u with _|u
   ·exact(au.bB aK).2 ⟨jM,eu _ _⟩
   ·show au _ _ _ _ .hole _ _
    rw[au];trivial
  old:=fun c af _=>J.block c af
  size:=J.size
  os:=J.os
  tape:=J.tape
  output:=⟨J.output,fun d=>by rw[ae]at d;cases d⟩
  dW:=aC.dW}
theorem bj.strs {C:bm} {f:FuncId} {as:List I} {b:List UInt8} (ae:rO=false) (pD:∀args w,(callFunc f args).run C.P w= .ok (.enter f args) w)
  (h:∀(w:World) (F X:Nat→Prop) (S:Nat→Nat→Prop) (vs:List Value),vs.length=as.length→a1 w F X F S (dL as) (eJ vs) w→Calls C.P f vs.toArray w fun ex ar=>ex= .returned (.string ⟨⟨b⟩⟩)∧RowKit.Below w.heap.size w ar):bj C f as (.str b) []:=
 bj.below (v:=.string ⟨⟨b⟩⟩) ae pD rfl rfl (fun _ _=>by simp only[bs,ff];rw[ak]) h
theorem Lu {w:World} {F X:Nat→Prop} {S:Nat→Nat→Prop} {s:ag} {an:Nat→Value} (h:a1 w F X F S s an w) {u:Nat} {xs:List (List UInt8)} {e:List UInt8→I} (he:One e fun x=>.string ⟨⟨x⟩⟩) (hu:s u= .slice (xs.map e)):
  (xs=[]∧∃a c,an u= .slice a 0 c)∨∃b o cap,an u= .slice (some ⟨b,o,none⟩) xs.length cap∧b<w.heap.size∧xs.length≤cap∧∀(j:Nat) x,xs[j]? =some x→w.cell? ⟨b,o+j,none⟩=some (.string ⟨⟨x⟩⟩):=by
 have U:=h.b2 u
 rw[hu]at U
 obtain⟨aa,ab⟩:=(au.bB rfl).1 U
 have aD:bs (an u)=[an u]:=by
  revert aa
  cases an u<;>intro aa<;>first|rfl|(cases aa)
 rw[aD,ak]at ab
 rcases ab with⟨aB,a,c,aP,_⟩|⟨b,o,cap,cN,sz,aB,aP,bb,bQ,bT,dt,eF⟩
 ·left;exact⟨by simpa using aB,a,c,by simpa using aP⟩
 ·right
  refine⟨b,o,cap,by simpa using aB,h.de b aP,by simpa using bb,fun j x ai=> ?_⟩
  have aF:=Lt he _ _ _ eF
  refine dt j _ ?_
  rw[aF,List.getElem?_map,ai];rfl
end Go.bZ
