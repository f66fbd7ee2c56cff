/- Part of a proof that a law returns true for every input. No condition. -/
import Derived.Test.YtcmimclaknmnbaaGreatDoorFwF
import Derived.Below
import Derived.ChangeShapes
import Derived.ChangeMaps5
namespace Go.cC
open List Option Go.IntKind Nat Or
def F0 (w:World):Nat->Prop:=λb=>b<w.heap.size
def Arg (w:World) (a:I) (v:Value):Prop:=a.tree=true/\c7 a v/\ar w (F0 w) a (bZ v) (λ_=>False)
inductive vN (w:World):anZ->anX->Prop
 |nil:vN w [] []
 |cons {a:I} {v:Value} {as:anZ} {vs:anX}:Arg w a v->vN w as vs->vN w (a::as) (v::vs)
theorem vN.get {w:World} {as:anZ} {vs:anX} (h:vN w as vs):vs.length=as.length/\∀i,as.getD i .hole= .hole\/Arg w (as.getD i .hole) (vs.getD i undef):=by
 induction h with
 |nil=>exact⟨rfl,λi=>.inl rfl⟩
 |cons h _ ih=>
  refine⟨by simp[ih.1],λi=>?_⟩;cases i with
  |zero=>exact .inr h
  |succ i=>simpa using ih.2 i
theorem ZE {w:World} {as:anZ} {vs:anX} (hg:rf w λ_=>False) (h:vN w as vs):bq w (F0 w) (λ_=>False) (F0 w) (λ_ _=>False) (eb as) (fs vs) w:=by
 refine⟨λ_ h=>h,λ_ h=>.inl h,λ_ h=>h,λ_ _ h=>h.elim,λ_ _ h=>h.elim,λ_ _ _ _ h=>h.elim,λ_ _ h=>h.elim,λt=>?_,λ_ _ _=>rfl,Nat.le_refl _,rfl,rfl,Out.refl _,hg⟩;show aF w (F0 w) (eb as) (fs vs) (as.getD t .hole) (vs.getD t undef) (λ_=>False);rcases h.get.2 t with e|⟨h1,ab,ay⟩
 .rw[e,aF];trivial
 .exact(aF.b_ h1).2 ⟨ab,ay⟩
theorem aY.law {C:bx} {f:FuncId} {fn:Func} {c:Code} {as:anZ} {vs:anX} {w:World} (h:aY C f as (.bool true) []) (bc:C.P.funcs[f]? =some fn) (R:fn.body=some c)
  (jV:(fn.name== "runtime.NumGoroutine")=false) (bg:vN w as vs) (hg:rf w λ_=>False:=by exact λ_ h=>absurd h not_mem_nil):Calls C.P f vs.toArray w λe aq=>e= .returned (.bool true)/\RowKit.Below w.heap.size w aq:=by
 have HM:fn.name≠ "runtime.NumGoroutine" :=by simpa using jV
 rcases h w _ _ _ vs bg.get.1 (ZE hg bg)with⟨_,ab⟩|⟨v,aq,h1,_⟩
 .refine ab.mono ?_;rintro e aq ⟨v,rfl,br,aJ,ax⟩;have aD:=ax.cD 0;have:aF aq br (eb [I.bool true]) (fs (v::vs)) (.bool true) v (aJ 0):=aD;have R:=tF this;subst R;exact⟨rfl,ax.os,ax.tape,ax.output.1,ax.size,λk hk=>ax.old k hk (λh=>h)⟩
 .simp[callFunc,bc,HM,R]at h1
section
variable {H:Type} {enc:TypeId×Value->H} {P:Program} {w:World} {t:TypeId} {v:Value} {d:DataW H} {ps:List MemPlace} {base jS:Nat} {sp:Nat->Bool} {held:Bool} {r:Reach}
theorem wf_i64 {n:Int} (h:(Lit.int .i64 n).wf=true): -9223372036854775808<=n/\n<=9223372036854775807:=by
 simp[Lit.wf,IntKind.min,IntKind.max,signed,IntKind.bits]at h;omega
end
end Go.cC
