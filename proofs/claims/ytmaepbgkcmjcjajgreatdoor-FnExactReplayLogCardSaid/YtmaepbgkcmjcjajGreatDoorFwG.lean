/- Part of a proof that a law returns true for every input. No condition. -/
import Derived.Test.YtmaepbgkcmjcjajGreatDoorFwF
import Derived.Below
import Derived.ChangeShapes
import Derived.ChangeMaps5
namespace Go.ep
open List Option Go.IntKind Nat Or
def F0 (w:World):Nat->Prop:=λb=>b<w.heap.size
def Arg (w:World) (a:I) (v:Value):Prop:=a.tree=true/\e2 a v/\aB w (F0 w) a (dd v) (λ_=>False)
inductive zE (w:World):azy->azw->Prop
 |nil:zE w [] []
 |cons {a:I} {v:Value} {as:azy} {vs:azw}:Arg w a v->zE w as vs->zE w (a::as) (v::vs)
theorem zE.get {w:World} {as:azy} {vs:azw} (h:zE w as vs):vs.length=as.length/\∀i,as.getD i .hole= .hole\/Arg w (as.getD i .hole) (vs.getD i undef):=by
 induction h with
 |nil=>exact⟨rfl,λi=>.inl rfl⟩
 |cons h _ ih=>
  refine⟨by simp[ih.1],λi=>?_⟩;cases i with
  |zero=>exact .inr h
  |succ i=>simpa using ih.2 i
theorem agv {w:World} {as:azy} {vs:azw} (hg:ua w λ_=>False) (h:zE w as vs):ch w (F0 w) (λ_=>False) (F0 w) (λ_ _=>False) (gl as) (iG vs) w:=by
 refine⟨λ_ h=>h,λ_ h=>.inl h,λ_ h=>h,λ_ _ h=>h.elim,λ_ _ h=>h.elim,λ_ _ _ _ h=>h.elim,λ_ _ h=>h.elim,λt=>?_,λ_ _ _=>rfl,Nat.le_refl _,rfl,rfl,Out.refl _,hg⟩;show aQ w (F0 w) (gl as) (iG vs) (as.getD t .hole) (vs.getD t undef) (λ_=>False);rcases h.get.2 t with e|⟨ad,af,aG⟩
 .rw[e,aQ];trivial
 .exact(aQ.du ad).2 ⟨af,aG⟩
theorem aZ.law {C:cx} {f:FuncId} {fn:Func} {c:Code} {as:azy} {vs:azw} {w:World} (h:aZ C f as (.bool true) []) (bK:C.P.funcs[f]? =some fn) (ab:fn.body=some c)
  (mI:(fn.name== "runtime.NumGoroutine")=false) (bq:zE w as vs) (hg:ua w λ_=>False:=by exact λ_ h=>absurd h not_mem_nil):Calls C.P f vs.toArray w λe aO=>e= .returned (.bool true)/\RowKit.Below w.heap.size w aO:=by
 have N6:fn.name≠ "runtime.NumGoroutine" :=by simpa using mI
 rcases h w _ _ _ vs bq.get.1 (agv hg bq)with⟨_,af⟩|⟨v,aO,ad,_⟩
 .refine af.mono ?_;rintro e aO ⟨v,rfl,cq,a7,aR⟩;have aJ:=aR.eB 0;have:aQ aO cq (gl [I.bool true]) (iG (v::vs)) (.bool true) v (a7 0):=aJ;have ab:=xD this;subst ab;exact⟨rfl,aR.os,aR.tape,aR.output.1,aR.size,λk aw=>aR.old k aw (λh=>h)⟩
 .simp[callFunc,bK,N6,ab]at ad
section
variable {H:Type} {enc:TypeId×Value->H} {P:Program} {w:World} {t:TypeId} {v:Value} {d:DataW H} {ps:List MemPlace} {base lU:Nat} {sp:Nat->Bool} {held:Bool} {r:Reach}
theorem wf_i64 {n:Int} (h:(Lit.int .i64 n).wf=true): -9223372036854775808<=n/\n<=9223372036854775807:=by
 simp[Lit.wf,IntKind.min,IntKind.max,signed,IntKind.bits]at h;omega
end
end Go.ep
