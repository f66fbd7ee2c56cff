/- Part of a proof that a law returns true for every input. No condition. -/
import Derived.Test.YtipllbfpaepajaaGreatDoorFwF
import Derived.Below
import Derived.ChangeShapes
import Derived.ChangeMaps5
namespace Go.ca
def F0 (w:World):Nat→Prop:=fun b=>b<w.heap.size
def Arg (w:World) (a:I) (v:Value):Prop:=a.tree=true∧cA a v∧an w (F0 w) a (bx v) (fun _=>False)
inductive p8 (w:World):List I→List Value→Prop
 |nil:p8 w [] []
 |cons {a:I} {v:Value} {as:List I} {vs:List Value}:Arg w a v→p8 w as vs→p8 w (a::as) (v::vs)
theorem p8.get {w:World} {as:List I} {vs:List Value} (h:p8 w as vs):vs.length=as.length∧∀i,as.getD i .hole= .hole∨Arg w (as.getD i .hole) (vs.getD i undef):=by
 induction h with
 |nil=>exact⟨rfl,fun i=>.inl rfl⟩
 |cons h _ ih=>
  refine⟨by simp[ih.1],fun i=> ?_⟩
  cases i with
  |zero=>exact .inr h
  |succ i=>simpa using ih.2 i
theorem LQ {w:World} {as:List I} {vs:List Value} (hg:nH w fun _=>False) (h:p8 w as vs):bb w (F0 w) (fun _=>False) (F0 w) (fun _ _=>False) (dT as) (e0 vs) w:=by
 refine⟨fun _ h=>h,fun _ h=>.inl h,fun _ h=>h,fun _ _ h=>h.elim,fun _ _ h=>h.elim,fun _ _ _ _ h=>h.elim,fun _ _ h=>h.elim,fun t=> ?_,fun _ _ _=>rfl,Nat.le_refl _,rfl,rfl,Out.refl _,hg⟩
 show ay w (F0 w) (dT as) (e0 vs) (as.getD t .hole) (vs.getD t undef) (fun _=>False)
 rcases h.get.2 t with e|⟨ab,ad,aB⟩
 ·rw[e,ay];trivial
 ·exact(ay.bM ab).2 ⟨ad,aB⟩
theorem bq.law {C:bt} {f:FuncId} {fn:Func} {c:Code} {as:List I} {vs:List Value} {w:World} (h:bq C f as (.bool true) []) (bk:C.P.funcs[f]? =some fn) (R:fn.body=some c)
  (jc:(fn.name== "runtime.NumGoroutine")=false) (bT:p8 w as vs) (hg:nH w fun _=>False:=by exact fun _ h=>absurd h List.not_mem_nil):Calls C.P f vs.toArray w fun e aw=>e= .returned (.bool true)∧RowKit.Below w.heap.size w aw:=by
 have y5:fn.name≠ "runtime.NumGoroutine" :=by simpa using jc
 rcases h w _ _ _ vs bT.get.1 (LQ hg bT)with⟨_,ad⟩|⟨v,aw,ab,_⟩
 ·refine ad.mono ?_
  rintro e aw ⟨v,rfl,bf,aF,aD⟩
  have aG:=aD.cj 0
  have:ay aw bf (dT [I.bool true]) (e0 (v::vs)) (.bool true) v (aF 0):=aG
  have R:=oz this
  subst R
  exact⟨rfl,aD.os,aD.tape,aD.output.1,aD.size,fun k al=>aD.old k al (fun h=>h)⟩
 ·simp[callFunc,bk,y5,R]at ab
section
variable {H:Type} {enc:TypeId×Value→H} {P:Program} {w:World} {t:TypeId} {v:Value} {d:DataW H} {ps:List MemPlace} {base hz:Nat} {sp:Nat→Bool} {held:Bool} {r:Reach}
theorem wf_i64 {n:Int} (h:(Lit.int .i64 n).wf=true): -9223372036854775808≤n∧n≤9223372036854775807:=by
 simp[Lit.wf,IntKind.min,IntKind.max,IntKind.signed,IntKind.bits]at h;omega
end
end Go.ca
