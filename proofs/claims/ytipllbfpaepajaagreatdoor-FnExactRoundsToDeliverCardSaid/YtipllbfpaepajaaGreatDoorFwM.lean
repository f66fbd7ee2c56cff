/- Part of a proof that a law returns true for every input. No condition. -/
import Derived.Test.YtipllbfpaepajaaGreatDoorFwI
import Derived.Sort.Grow
import Derived.Lib.SlicesCompact
import Derived.Below
namespace Go.b9
open Go.Sort
section
variable {α:Type} {e:α→I} {enc:α→Value}
def One (e:α→I) (enc:α→Value):Prop:=(∀x,(e x).wd=1)∧∀(w:World) (F:Nat→Prop) (x:α) (cs:List Value) (S:Nat→Prop),al w F (e x) cs S↔cs=[enc x]
theorem Lw (he:One e enc) {w:World} {F:Nat→Prop}:∀(xs:List α) (cs:List Value) (S:Nat→Prop),aM w F (xs.map e) cs S→cs=xs.map enc:=by
 intro xs
 induction xs with
 |nil=>intro cs S h;simpa [aM]using h
 |cons x xs ih=>
  intro cs S h
  simp only[List.map_cons,aM]at h
  obtain⟨bN,c2,bk,cp,rfl,aa,ad,_⟩:=h
  rw[(he.2 _ _ _ _ _).1 aa,ih _ _ ad];rfl
variable [Inhabited α]
end
theorem br.below {C:bq} {f:FuncId} {as:List I} {r:I} {v:Value} (ae:w4=false) (y4:∀args w,(callFunc f args).run C.P w= .ok (.enter f args) w) (aN:r.tree=true) (jT:cx r v) (eG:∀w F,al w F r (bw v) (fun _=>False))
  (h:∀(w:World) (F X:Nat→Prop) (S:Nat→Nat→Prop) (vs:List Value),vs.length=as.length→a7 w F X F S (dJ as) (eT vs) w→Calls C.P f vs.toArray w fun ex aw=>ex= .returned v∧RowKit.Below w.heap.size w aw):br C f as r []:=by
 intro w F X S vs aJ aC
 refine .inl ⟨y4 _ _,(h w F X S vs aJ aC).mono ?_⟩
 rintro ex aw ⟨rfl,R⟩
 refine⟨_,rfl,F,fun _ _=>False,?_⟩
 exact {
  eU:=fun _ h=>h
  e4:=fun _ aX=>.inl aX
  dw:=fun c ai=>Nat.lt_of_lt_of_le (aC.dw c ai) R.size
  c6:=fun _ _ h=>h.elim
  dP:=fun _ _ h=>h.elim
  dq:=fun _ _ _ _ h=>h.elim
  cz:=fun _ _ h=>h.elim
  cd:=fun u=>by
   rcases u with _|u
   ·exact(ax.bJ aN).2 ⟨jT,eG _ _⟩
   ·show ax _ _ _ _ .hole _ _
    rw[ax];trivial
  old:=fun c ai _=>R.block c ai
  size:=R.size
  os:=R.os
  tape:=R.tape
  output:=⟨R.output,fun d=>by rw[ae]at d;cases d⟩
  eN:=aC.eN}
theorem br.strs {C:bq} {f:FuncId} {as:List I} {b:List UInt8} (ae:w4=false) (y4:∀args w,(callFunc f args).run C.P w= .ok (.enter f args) w)
  (h:∀(w:World) (F X:Nat→Prop) (S:Nat→Nat→Prop) (vs:List Value),vs.length=as.length→a7 w F X F S (dJ as) (eT vs) w→Calls C.P f vs.toArray w fun ex aw=>ex= .returned (.string ⟨⟨b⟩⟩)∧RowKit.Below w.heap.size w aw):br C f as (.str b) []:=
 br.below (v:=.string ⟨⟨b⟩⟩) ae y4 rfl rfl (fun _ _=>by simp only[bw,fl];rw[al]) h
theorem Lx {w:World} {F X:Nat→Prop} {S:Nat→Nat→Prop} {s:aj} {an:Nat→Value} (h:a7 w F X F S s an w) {u:Nat} {xs:List (List UInt8)} {e:List UInt8→I} (he:One e fun x=>.string ⟨⟨x⟩⟩) (hu:s u= .slice (xs.map e)):
  (xs=[]∧∃a c,an u= .slice a 0 c)∨∃b o cap,an u= .slice (some ⟨b,o,none⟩) xs.length cap∧b<w.heap.size∧xs.length≤cap∧∀(j:Nat) x,xs[j]? =some x→w.cell? ⟨b,o+j,none⟩=some (.string ⟨⟨x⟩⟩):=by
 have U:=h.cd u
 rw[hu]at U
 obtain⟨aa,ad⟩:=(ax.bJ rfl).1 U
 have aE:bw (an u)=[an u]:=by
  revert aa
  cases an u<;>intro aa<;>first|rfl|(cases aa)
 rw[aE,al]at ad
 rcases ad with⟨aB,a,c,aO,_⟩|⟨b,o,cap,cO,sz,aB,aO,a6,bp,bB,cE,eL⟩
 ·left;exact⟨by simpa using aB,a,c,by simpa using aO⟩
 ·right
  refine⟨b,o,cap,by simpa using aB,h.dw b aO,by simpa using a6,fun j x ao=> ?_⟩
  have aF:=Lw he _ _ _ eL
  refine cE j _ ?_
  rw[aF,List.getElem?_map,ao];rfl
end Go.b9
