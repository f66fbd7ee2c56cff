/- Part of a proof that a law returns true for every input. No condition. -/
import Derived.Test.YtpdplcdnpaoceaaFwF
import Derived.Below
import Derived.ChangeShapes
import Derived.ChangeMaps5
namespace Go.cM
open List Option Go.IntKind Nat Or
def F0 (w:World):Nat->Prop:=λb=>b<w.heap.size
def Arg (w:World) (a:I) (v:Value):Prop:=a.tree=true/\cO a v/\al w (F0 w) a (bL v) (λ_=>False)
inductive qN (w:World):Xy->Xw->Prop
 |nil:qN w [] []
 |cons {a:I} {v:Value} {as:Xy} {vs:Xw}:Arg w a v->qN w as vs->qN w (a::as) (v::vs)
theorem qN.get {w:World} {as:Xy} {vs:Xw} (h:qN w as vs):vs.length=as.length/\∀i,as.getD i .hole= .hole\/Arg w (as.getD i .hole) (vs.getD i undef):=by
 induction h with
 |nil=>exact⟨rfl,λi=>.inl rfl⟩
 |cons h _ ih=>
  refine⟨by simp[ih.1],λi=>?_⟩;cases i with
  |zero=>exact .inr h
  |succ i=>simpa using ih.2 i
theorem NF {w:World} {as:Xy} {vs:Xw} (bf:rB w λ_=>False) (h:qN w as vs):bg w (F0 w) (λ_=>False) (F0 w) (λ_ _=>False) (ez as) (fA vs) w:=by
 refine⟨λ_ h=>h,λ_ h=>.inl h,λ_ h=>h,λ_ _ h=>h.elim,λ_ _ h=>h.elim,λ_ _ _ _ h=>h.elim,λ_ _ h=>h.elim,λt=>?_,λ_ _ _=>rfl,Nat.le_refl _,rfl,rfl,Out.refl _,bf⟩;show aA w (F0 w) (ez as) (fA vs) (as.getD t .hole) (vs.getD t undef) (λ_=>False);rcases h.get.2 t with e|⟨ab,ad,aB⟩
 .rw[e,aA];trivial
 .exact(aA.bY ab).2 ⟨ad,aB⟩
theorem bb.law {C:bA} {f:FuncId} {fn:Func} {c:Code} {as:Xy} {vs:Xw} {w:World} (h:bb C f as (.bool true) []) (bk:C.P.funcs[f]? =some fn) (U:fn.body=some c)
  (jF:(fn.name== "runtime.NumGoroutine")=false) (bQ:qN w as vs) (bf:rB w λ_=>False:=by exact λ_ h=>absurd h not_mem_nil):Calls C.P f vs.toArray w λe az=>e= .returned (.bool true)/\RowKit.Below w.heap.size w az:=by
 have Ae:fn.name≠ "runtime.NumGoroutine" :=by simpa using jF
 rcases h w _ _ _ vs bQ.get.1 (NF bf bQ)with⟨_,ad⟩|⟨v,az,ab,_⟩
 .refine ad.mono ?_;rintro e az ⟨v,rfl,bo,aF,aI⟩;have aD:=aI.cE 0;have:aA az bo (ez [I.bool true]) (fA (v::vs)) (.bool true) v (aF 0):=aD;have U:=o_ this;subst U;exact⟨rfl,aI.os,aI.tape,aI.output.1,aI.size,λk ai=>aI.old k ai (λh=>h)⟩
 .simp[callFunc,bk,Ae,U]at ab
section
variable {H:Type} {enc:TypeId×Value->H} {P:Program} {w:World} {t:TypeId} {v:Value} {d:DataW H} {ps:List MemPlace} {base gY:Nat} {sp:Nat->Bool} {held:Bool} {r:Reach}
theorem wf_i64 {n:Int} (h:(Lit.int .i64 n).wf=true): -9223372036854775808<=n/\n<=9223372036854775807:=by
 simp[Lit.wf,IntKind.min,IntKind.max,signed,IntKind.bits]at h;omega
end
end Go.cM
