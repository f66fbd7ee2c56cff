/- Part of a proof that a law returns true for every input. No condition. -/
import Derived.Test.YtklcmlnabkfneaaGreatFwF
import Derived.Below
import Derived.ChangeShapes
import Derived.ChangeMaps5
namespace Go.cU
open List Option Go.IntKind Nat Or
def F0 (w:World):Nat->Prop:=λb=>b<w.heap.size
def Arg (w:World) (a:I) (v:Value):Prop:=a.tree=true/\dd a v/\aq w (F0 w) a (b9 v) (λ_=>False)
inductive sB (w:World):aiF->aiD->Prop
 |nil:sB w [] []
 |cons {a:I} {v:Value} {as:aiF} {vs:aiD}:Arg w a v->sB w as vs->sB w (a::as) (v::vs)
theorem sB.get {w:World} {as:aiF} {vs:aiD} (h:sB w as vs):vs.length=as.length/\∀i,as.getD i .hole= .hole\/Arg w (as.getD i .hole) (vs.getD i undef):=by
 induction h with
 |nil=>exact⟨rfl,λi=>.inl rfl⟩
 |cons h _ ih=>
  refine⟨by simp[ih.1],λi=>?_⟩;cases i with
  |zero=>exact .inr h
  |succ i=>simpa using ih.2 i
theorem S7 {w:World} {as:aiF} {vs:aiD} (bB:ts w λ_=>False) (h:sB w as vs):bs w (F0 w) (λ_=>False) (F0 w) (λ_ _=>False) (eA as) (fI vs) w:=by
 refine⟨λ_ h=>h,λ_ h=>.inl h,λ_ h=>h,λ_ _ h=>h.elim,λ_ _ h=>h.elim,λ_ _ _ _ h=>h.elim,λ_ _ h=>h.elim,λt=>?_,λ_ _ _=>rfl,Nat.le_refl _,rfl,rfl,Out.refl _,bB⟩;show aG w (F0 w) (eA as) (fI vs) (as.getD t .hole) (vs.getD t undef) (λ_=>False);rcases h.get.2 t with e|⟨ab,ad,aA⟩
 .rw[e,aG];trivial
 .exact(aG.ca ab).2 ⟨ad,aA⟩
theorem aW.law {C:bY} {f:FuncId} {fn:Func} {c:Code} {as:aiF} {vs:aiD} {w:World} (h:aW C f as (.bool true) []) (bn:C.P.funcs[f]? =some fn) (R:fn.body=some c)
  (kg:(fn.name== "runtime.NumGoroutine")=false) (bU:sB w as vs) (bB:ts w λ_=>False:=by exact λ_ h=>absurd h not_mem_nil):Calls C.P f vs.toArray w λe aB=>e= .returned (.bool true)/\RowKit.Below w.heap.size w aB:=by
 have DX:fn.name≠ "runtime.NumGoroutine" :=by simpa using kg
 rcases h w _ _ _ vs bU.get.1 (S7 bB bU)with⟨_,ad⟩|⟨v,aB,ab,_⟩
 .refine ad.mono ?_;rintro e aB ⟨v,rfl,bF,aL,aK⟩;have aH:=aK.df 0;have:aG aB bF (eA [I.bool true]) (fI (v::vs)) (.bool true) v (aL 0):=aH;have R:=qS this;subst R;exact⟨rfl,aK.os,aK.tape,aK.output.1,aK.size,λk aw=>aK.old k aw (λh=>h)⟩
 .simp[callFunc,bn,DX,R]at ab
section
variable {H:Type} {enc:TypeId×Value->H} {P:Program} {w:World} {t:TypeId} {v:Value} {d:DataW H} {ps:List MemPlace} {base i7:Nat} {sp:Nat->Bool} {held:Bool} {r:Reach}
theorem wf_i64 {n:Int} (h:(Lit.int .i64 n).wf=true): -9223372036854775808<=n/\n<=9223372036854775807:=by
 simp[Lit.wf,IntKind.min,IntKind.max,signed,IntKind.bits]at h;omega
end
end Go.cU
