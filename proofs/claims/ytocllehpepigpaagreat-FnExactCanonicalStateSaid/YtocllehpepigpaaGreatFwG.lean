/- Part of a proof that a law returns true for every input. No condition. -/
import Derived.Test.YtocllehpepigpaaGreatFwF
import Derived.Below
import Derived.ChangeShapes
import Derived.ChangeMaps5
namespace Go.cZ
def F0 (w:World):Nat→Prop:=fun b=>b<w.heap.size
def Arg (w:World) (a:I) (v:Value):Prop:=a.tree=true∧ei a v∧ax w (F0 w) a (cC v) (fun _=>False)
inductive ts (w:World):List I→List Value→Prop
 |nil:ts w [] []
 |cons {a:I} {v:Value} {as:List I} {vs:List Value}:Arg w a v→ts w as vs→ts w (a::as) (v::vs)
theorem ts.get {w:World} {as:List I} {vs:List Value} (h:ts w as vs):vs.length=as.length∧∀i,as.getD i .hole= .hole∨Arg w (as.getD i .hole) (vs.getD i undef):=by
 induction h with
 |nil=>exact⟨rfl,fun i=>.inl rfl⟩
 |cons h _ ih=>
  refine⟨by simp[ih.1],fun i=> ?_⟩
  cases i with
  |zero=>exact .inr h
  |succ i=>simpa using ih.2 i
theorem Vk {w:World} {as:List I} {vs:List Value} (b9:u9 w fun _=>False) (h:ts w as vs):bQ w (F0 w) (fun _=>False) (F0 w) (fun _ _=>False) (fI as) (hs vs) w:=by
 refine⟨fun _ h=>h,fun _ h=>.inl h,fun _ h=>h,fun _ _ h=>h.elim,fun _ _ h=>h.elim,fun _ _ _ _ h=>h.elim,fun _ _ h=>h.elim,fun t=> ?_,fun _ _ _=>rfl,Nat.le_refl _,rfl,rfl,Out.refl _,b9⟩
 show aL w (F0 w) (fI as) (hs vs) (as.getD t .hole) (vs.getD t undef) (fun _=>False)
 rcases h.get.2 t with e|⟨h1,ah,aC⟩
 ·rw[e,aL];trivial
 ·exact(aL.cV h1).2 ⟨ah,aC⟩
theorem bl.law {C:cw} {f:FuncId} {fn:Func} {c:Code} {as:List I} {vs:List Value} {w:World} (h:bl C f as (.bool true) []) (bC:C.P.funcs[f]? =some fn) (ae:fn.body=some c)
  (k1:(fn.name== "runtime.NumGoroutine")=false) (cE:ts w as vs) (b9:u9 w fun _=>False:=by exact fun _ h=>absurd h List.not_mem_nil):Calls C.P f vs.toArray w fun e aG=>e= .returned (.bool true)∧RowKit.Below w.heap.size w aG:=by
 have Gv:fn.name≠ "runtime.NumGoroutine" :=by simpa using k1
 rcases h w _ _ _ vs cE.get.1 (Vk b9 cE)with⟨_,ah⟩|⟨v,aG,h1,_⟩
 ·refine ah.mono ?_
  rintro e aG ⟨v,rfl,b2,aR,aX⟩
  have aM:=aX.dF 0
  have:aL aG b2 (fI [I.bool true]) (hs (v::vs)) (.bool true) v (aR 0):=aM
  have ae:=rF this
  subst ae
  exact⟨rfl,aX.os,aX.tape,aX.output.1,aX.size,fun k hk=>aX.old k hk (fun h=>h)⟩
 ·simp[callFunc,bC,Gv,ae]at h1
section
variable {H:Type} {enc:TypeId×Value→H} {P:Program} {w:World} {t:TypeId} {v:Value} {d:DataW H} {ps:List MemPlace} {base jR:Nat} {sp:Nat→Bool} {held:Bool} {r:Reach}
theorem wf_i64 {n:Int} (h:(Lit.int .i64 n).wf=true): -9223372036854775808≤n∧n≤9223372036854775807:=by
 simp[Lit.wf,IntKind.min,IntKind.max,IntKind.signed,IntKind.bits]at h;omega
end
end Go.cZ
