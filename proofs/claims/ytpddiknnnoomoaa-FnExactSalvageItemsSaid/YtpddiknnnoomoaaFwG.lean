/- Part of a proof that a law returns true for every input. No condition. -/
import Derived.Test.YtpddiknnnoomoaaFwF
import Derived.Below
import Derived.ChangeShapes
import Derived.ChangeMaps5
namespace Go.bV
def F0 (w:World):Nat→Prop:=fun b=>b<w.heap.size
def Arg (w:World) (a:j) (v:Value):Prop:=a.tree=true∧cl a v∧al w (F0 w) a (bd v) (fun _=>False)
inductive nW (w:World):List j→List Value→Prop
 |nil:nW w [] []
 |cons {a:j} {v:Value} {as:List j} {vs:List Value}:Arg w a v→nW w as vs→nW w (a::as) (v::vs)
theorem nW.get {w:World} {as:List j} {vs:List Value} (h:nW w as vs):vs.length=as.length∧∀i,as.getD i .hole= .hole∨Arg w (as.getD i .hole) (vs.getD i undef):=by
 induction h with
 |nil=>exact⟨rfl,fun i=>.inl rfl⟩
 |cons h _ ih=>
  refine⟨by simp[ih.1],fun i=> ?_⟩
  cases i with
  |zero=>exact .inr h
  |succ i=>simpa using ih.2 i
theorem GM {w:World} {as:List j} {vs:List Value} (aZ:om w fun _=>False) (h:nW w as vs):aY w (F0 w) (fun _=>False) (F0 w) (fun _ _=>False) (df as) (dX vs) w:=by
 refine⟨fun _ h=>h,fun _ h=>.inl h,fun _ h=>h,fun _ _ h=>h.elim,fun _ _ h=>h.elim,fun _ _ _ _ h=>h.elim,fun _ _ h=>h.elim,fun t=> ?_,fun _ _ _=>rfl,Nat.le_refl _,rfl,rfl,Out.refl _,aZ⟩
 show ar w (F0 w) (df as) (dX vs) (as.getD t .hole) (vs.getD t undef) (fun _=>False)
 rcases h.get.2 t with e|⟨U,aa,aw⟩
 ·rw[e,ar];trivial
 ·exact(ar.bx U).2 ⟨aa,aw⟩
theorem cb.law {C:bq} {f:FuncId} {fn:Func} {c:Code} {as:List j} {vs:List Value} {w:World} (h:cb C f as (.bool true) []) (bk:C.P.funcs[f]? =some fn) (I:fn.body=some c)
  (ht:(fn.name== "runtime.NumGoroutine")=false) (bU:nW w as vs) (aZ:om w fun _=>False:=by exact fun _ h=>absurd h List.not_mem_nil):Calls C.P f vs.toArray w fun e aq=>e= .returned (.bool true)∧RowKit.Below w.heap.size w aq:=by
 have vA:fn.name≠ "runtime.NumGoroutine" :=by simpa using ht
 rcases h w _ _ _ vs bU.get.1 (GM aZ bU)with⟨_,aa⟩|⟨v,aq,U,_⟩
 ·refine aa.mono ?_
  rintro e aq ⟨v,rfl,a_,ay,aA⟩
  have aC:=aA.b0 0
  have:ar aq a_ (df [j.bool true]) (dX (v::vs)) (.bool true) v (ay 0):=aC
  have I:=mq this
  subst I
  exact⟨rfl,aA.os,aA.tape,aA.output.1,aA.size,fun k ai=>aA.old k ai (fun h=>h)⟩
 ·simp[callFunc,bk,vA,I]at U
section
variable {H:Type} {enc:TypeId×Value→H} {P:Program} {w:World} {t:TypeId} {v:Value} {d:DataW H} {ps:List MemPlace} {base gF:Nat} {sp:Nat→Bool} {held:Bool} {r:Reach}
theorem arg_str (aG:P.underlying t=some .string) (nM:Value.okWide P w r gF t v) (ab:DataW.Trod enc P w base sp held t v d ps):∃s:List UInt8,Arg w (.str s) v∧s.length≤maxLen:=by
 obtain⟨s,rfl,_,_,R⟩:=ChangeMaps.open_string aG nM ab
 exact⟨s.data.toList,⟨rfl,rfl,by simp only[bd,e9];rw[al]⟩,R⟩
end
end Go.bV
