/- Part of a proof that a law returns true for every input. No condition. -/
import Derived.Test.YtklcmlnabkfneaaGreatFwF
import Derived.Below
import Derived.ChangeShapes
import Derived.ChangeMaps5
namespace Go.de
open List Option Go.IntKind Nat Or
def F0 (w:World):Nat->Prop:=λb=>b<w.heap.size
def Arg (w:World) (a:I) (v:Value):Prop:=a.tree=true/\dD a v/\ar w (F0 w) a (cj v) (λ_=>False)
inductive tE (w:World):alW->alU->Prop
 |nil:tE w [] []
 |cons {a:I} {v:Value} {as:alW} {vs:alU}:Arg w a v->tE w as vs->tE w (a::as) (v::vs)
theorem tE.get {w:World} {as:alW} {vs:alU} (h:tE w as vs):vs.length=as.length/\∀i,as.getD i .hole= .hole\/Arg w (as.getD i .hole) (vs.getD i undef):=by
 induction h with
 |nil=>exact⟨rfl,λi=>.inl rfl⟩
 |cons h _ ih=>
  refine⟨by simp[ih.1],λi=>?_⟩;cases i with
  |zero=>exact .inr h
  |succ i=>simpa using ih.2 i
theorem VD {w:World} {as:alW} {vs:alU} (bR:uI w λ_=>False) (h:tE w as vs):bD w (F0 w) (λ_=>False) (F0 w) (λ_ _=>False) (eW as) (gb vs) w:=by
 refine⟨λ_ h=>h,λ_ h=>.inl h,λ_ h=>h,λ_ _ h=>h.elim,λ_ _ h=>h.elim,λ_ _ _ _ h=>h.elim,λ_ _ h=>h.elim,λt=>?_,λ_ _ _=>rfl,Nat.le_refl _,rfl,rfl,Out.refl _,bR⟩;show aH w (F0 w) (eW as) (gb vs) (as.getD t .hole) (vs.getD t undef) (λ_=>False);rcases h.get.2 t with e|⟨ab,ae,az⟩
 .rw[e,aH];trivial
 .exact(aH.cv ab).2 ⟨ae,az⟩
theorem aY.law {C:ca} {f:FuncId} {fn:Func} {c:Code} {as:alW} {vs:alU} {w:World} (h:aY C f as (.bool true) []) (bo:C.P.funcs[f]? =some fn) (R:fn.body=some c)
  (kP:(fn.name== "runtime.NumGoroutine")=false) (cg:tE w as vs) (bR:uI w λ_=>False:=by exact λ_ h=>absurd h not_mem_nil):Calls C.P f vs.toArray w λe aF=>e= .returned (.bool true)/\RowKit.Below w.heap.size w aF:=by
 have FF:fn.name≠ "runtime.NumGoroutine" :=by simpa using kP
 rcases h w _ _ _ vs cg.get.1 (VD bR cg)with⟨_,ae⟩|⟨v,aF,ab,_⟩
 .refine ae.mono ?_;rintro e aF ⟨v,rfl,bO,aN,aM⟩;have aJ:=aM.dp 0;have:aH aF bO (eW [I.bool true]) (gb (v::vs)) (.bool true) v (aN 0):=aJ;have R:=rV this;subst R;exact⟨rfl,aM.os,aM.tape,aM.output.1,aM.size,λk ax=>aM.old k ax (λh=>h)⟩
 .simp[callFunc,bo,FF,R]at ab
section
variable {H:Type} {enc:TypeId×Value->H} {P:Program} {w:World} {t:TypeId} {v:Value} {d:DataW H} {ps:List MemPlace} {base jy:Nat} {sp:Nat->Bool} {held:Bool} {r:Reach}
theorem wf_i64 {n:Int} (h:(Lit.int .i64 n).wf=true): -9223372036854775808<=n/\n<=9223372036854775807:=by
 simp[Lit.wf,IntKind.min,IntKind.max,signed,IntKind.bits]at h;omega
end
end Go.de
