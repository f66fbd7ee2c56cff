/- Part of a proof that a law returns true for every input. No condition. -/
import Derived.Test.YtipllbfpaepajaaGreatDoorFwF
import Derived.Below
import Derived.ChangeShapes
import Derived.ChangeMaps5
namespace Go.b9
def F0 (w:World):Nat→Prop:=fun b=>b<w.heap.size
def Arg (w:World) (a:I) (v:Value):Prop:=a.tree=true∧cx a v∧al w (F0 w) a (bw v) (fun _=>False)
inductive pL (w:World):List I→List Value→Prop
 |nil:pL w [] []
 |cons {a:I} {v:Value} {as:List I} {vs:List Value}:Arg w a v→pL w as vs→pL w (a::as) (v::vs)
theorem pL.get {w:World} {as:List I} {vs:List Value} (h:pL w as vs):vs.length=as.length∧∀i,as.getD i .hole= .hole∨Arg w (as.getD i .hole) (vs.getD i undef):=by
 induction h with
 |nil=>exact⟨rfl,fun i=>.inl rfl⟩
 |cons h _ ih=>
  refine⟨by simp[ih.1],fun i=> ?_⟩
  cases i with
  |zero=>exact .inr h
  |succ i=>simpa using ih.2 i
theorem KL {w:World} {as:List I} {vs:List Value} (hg:mZ w fun _=>False) (h:pL w as vs):a7 w (F0 w) (fun _=>False) (F0 w) (fun _ _=>False) (dJ as) (eT vs) w:=by
 refine⟨fun _ h=>h,fun _ h=>.inl h,fun _ h=>h,fun _ _ h=>h.elim,fun _ _ h=>h.elim,fun _ _ _ _ h=>h.elim,fun _ _ h=>h.elim,fun t=> ?_,fun _ _ _=>rfl,Nat.le_refl _,rfl,rfl,Out.refl _,hg⟩
 show ax w (F0 w) (dJ as) (eT vs) (as.getD t .hole) (vs.getD t undef) (fun _=>False)
 rcases h.get.2 t with e|⟨aa,ad,aB⟩
 ·rw[e,ax];trivial
 ·exact(ax.bJ aa).2 ⟨ad,aB⟩
theorem br.law {C:bq} {f:FuncId} {fn:Func} {c:Code} {as:List I} {vs:List Value} {w:World} (h:br C f as (.bool true) []) (bh:C.P.funcs[f]? =some fn) (R:fn.body=some c)
  (iI:(fn.name== "runtime.NumGoroutine")=false) (bQ:pL w as vs) (hg:mZ w fun _=>False:=by exact fun _ h=>absurd h List.not_mem_nil):Calls C.P f vs.toArray w fun e aw=>e= .returned (.bool true)∧RowKit.Below w.heap.size w aw:=by
 have yo:fn.name≠ "runtime.NumGoroutine" :=by simpa using iI
 rcases h w _ _ _ vs bQ.get.1 (KL hg bQ)with⟨_,ad⟩|⟨v,aw,aa,_⟩
 ·refine ad.mono ?_
  rintro e aw ⟨v,rfl,bc,aD,aC⟩
  have aE:=aC.cd 0
  have:ax aw bc (dJ [I.bool true]) (eT (v::vs)) (.bool true) v (aD 0):=aE
  have R:=nY this
  subst R
  exact⟨rfl,aC.os,aC.tape,aC.output.1,aC.size,fun k ar=>aC.old k ar (fun h=>h)⟩
 ·simp[callFunc,bh,yo,R]at aa
section
variable {H:Type} {enc:TypeId×Value→H} {P:Program} {w:World} {t:TypeId} {v:Value} {d:DataW H} {ps:List MemPlace} {base g_:Nat} {sp:Nat→Bool} {held:Bool} {r:Reach}
theorem wf_i64 {n:Int} (h:(Lit.int .i64 n).wf=true): -9223372036854775808≤n∧n≤9223372036854775807:=by
 simp[Lit.wf,IntKind.min,IntKind.max,IntKind.signed,IntKind.bits]at h;omega
end
end Go.b9
