/- Part of a proof that a law returns true for every input. No condition. -/
import Derived.Test.YtpddiknnnoomoaaFwF
import Derived.Below
import Derived.ChangeShapes
import Derived.ChangeMaps5
namespace Go.bZ
def F0 (w:World):Nat→Prop:=fun b=>b<w.heap.size
def Arg (w:World) (a:j) (v:Value):Prop:=a.tree=true∧ct a v∧ai w (F0 w) a (ba v) (fun _=>False)
inductive oM (w:World):List j→List Value→Prop
 |nil:oM w [] []
 |cons {a:j} {v:Value} {as:List j} {vs:List Value}:Arg w a v→oM w as vs→oM w (a::as) (v::vs)
theorem oM.get {w:World} {as:List j} {vs:List Value} (h:oM w as vs):vs.length=as.length∧∀i,as.getD i .hole= .hole∨Arg w (as.getD i .hole) (vs.getD i undef):=by
 induction h with
 |nil=>exact⟨rfl,fun i=>.inl rfl⟩
 |cons h _ ih=>
  refine⟨by simp[ih.1],fun i=> ?_⟩
  cases i with
  |zero=>exact .inr h
  |succ i=>simpa using ih.2 i
theorem HR {w:World} {as:List j} {vs:List Value} (aY:pk w fun _=>False) (h:oM w as vs):aX w (F0 w) (fun _=>False) (F0 w) (fun _ _=>False) (dh as) (dW vs) w:=by
 refine⟨fun _ h=>h,fun _ h=>.inl h,fun _ h=>h,fun _ _ h=>h.elim,fun _ _ h=>h.elim,fun _ _ _ _ h=>h.elim,fun _ _ h=>h.elim,fun t=> ?_,fun _ _ _=>rfl,Nat.le_refl _,rfl,rfl,Out.refl _,aY⟩
 show ar w (F0 w) (dh as) (dW vs) (as.getD t .hole) (vs.getD t undef) (fun _=>False)
 rcases h.get.2 t with e|⟨U,aa,aw⟩
 ·rw[e,ar];trivial
 ·exact(ar.bx U).2 ⟨aa,aw⟩
theorem b8.law {C:bo} {f:FuncId} {fn:Func} {c:Code} {as:List j} {vs:List Value} {w:World} (h:b8 C f as (.bool true) []) (bc:C.P.funcs[f]? =some fn) (I:fn.body=some c)
  (h3:(fn.name== "runtime.NumGoroutine")=false) (bN:oM w as vs) (aY:pk w fun _=>False:=by exact fun _ h=>absurd h List.not_mem_nil):Calls C.P f vs.toArray w fun e aq=>e= .returned (.bool true)∧RowKit.Below w.heap.size w aq:=by
 have wt:fn.name≠ "runtime.NumGoroutine" :=by simpa using h3
 rcases h w _ _ _ vs bN.get.1 (HR aY bN)with⟨_,aa⟩|⟨v,aq,U,_⟩
 ·refine aa.mono ?_
  rintro e aq ⟨v,rfl,a7,az,aB⟩
  have aC:=aB.b5 0
  have:ar aq a7 (dh [j.bool true]) (dW (v::vs)) (.bool true) v (az 0):=aC
  have I:=nc this
  subst I
  exact⟨rfl,aB.os,aB.tape,aB.output.1,aB.size,fun k al=>aB.old k al (fun h=>h)⟩
 ·simp[callFunc,bc,wt,I]at U
section
variable {H:Type} {enc:TypeId×Value→H} {P:Program} {w:World} {t:TypeId} {v:Value} {d:DataW H} {ps:List MemPlace} {base gq:Nat} {sp:Nat→Bool} {held:Bool} {r:Reach}
end
end Go.bZ
