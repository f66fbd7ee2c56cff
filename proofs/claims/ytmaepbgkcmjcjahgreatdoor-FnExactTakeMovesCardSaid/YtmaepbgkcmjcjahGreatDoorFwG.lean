/- Part of a proof that a law returns true for every input. No condition. -/
import Derived.Test.YtmaepbgkcmjcjahGreatDoorFwF
import Derived.Below
import Derived.ChangeShapes
import Derived.ChangeMaps5
namespace Go.ei
open List Option Go.IntKind Nat Or
def F0 (w:World):Nat->Prop:=λb=>b<w.heap.size
def Arg (w:World) (a:I) (v:Value):Prop:=a.tree=true/\eY a v/\az w (F0 w) a (c_ v) (λ_=>False)
inductive zI (w:World):azk->azi->Prop
 |nil:zI w [] []
 |cons {a:I} {v:Value} {as:azk} {vs:azi}:Arg w a v->zI w as vs->zI w (a::as) (v::vs)
theorem zI.get {w:World} {as:azk} {vs:azi} (h:zI w as vs):vs.length=as.length/\∀i,as.getD i .hole= .hole\/Arg w (as.getD i .hole) (vs.getD i undef):=by
 induction h with
 |nil=>exact⟨rfl,λi=>.inl rfl⟩
 |cons h _ ih=>
  refine⟨by simp[ih.1],λi=>?_⟩;cases i with
  |zero=>exact .inr h
  |succ i=>simpa using ih.2 i
theorem agw {w:World} {as:azk} {vs:azi} (hg:uf w λ_=>False) (h:zI w as vs):cj w (F0 w) (λ_=>False) (F0 w) (λ_ _=>False) (gl as) (iz vs) w:=by
 refine⟨λ_ h=>h,λ_ h=>.inl h,λ_ h=>h,λ_ _ h=>h.elim,λ_ _ h=>h.elim,λ_ _ _ _ h=>h.elim,λ_ _ h=>h.elim,λt=>?_,λ_ _ _=>rfl,Nat.le_refl _,rfl,rfl,Out.refl _,hg⟩;show aQ w (F0 w) (gl as) (iz vs) (as.getD t .hole) (vs.getD t undef) (λ_=>False);rcases h.get.2 t with e|⟨ad,ag,aD⟩
 .rw[e,aQ];trivial
 .exact(aQ.dx ad).2 ⟨ag,aD⟩
theorem aX.law {C:cy} {f:FuncId} {fn:Func} {c:Code} {as:azk} {vs:azi} {w:World} (h:aX C f as (.bool true) []) (bH:C.P.funcs[f]? =some fn) (ab:fn.body=some c)
  (mH:(fn.name== "runtime.NumGoroutine")=false) (bo:zI w as vs) (hg:uf w λ_=>False:=by exact λ_ h=>absurd h not_mem_nil):Calls C.P f vs.toArray w λe aP=>e= .returned (.bool true)/\RowKit.Below w.heap.size w aP:=by
 have N5:fn.name≠ "runtime.NumGoroutine" :=by simpa using mH
 rcases h w _ _ _ vs bo.get.1 (agw hg bo)with⟨_,ag⟩|⟨v,aP,ad,_⟩
 .refine ag.mono ?_;rintro e aP ⟨v,rfl,cn,a_,aS⟩;have aF:=aS.eu 0;have:aQ aP cn (gl [I.bool true]) (iz (v::vs)) (.bool true) v (a_ 0):=aF;have ab:=xD this;subst ab;exact⟨rfl,aS.os,aS.tape,aS.output.1,aS.size,λk aw=>aS.old k aw (λh=>h)⟩
 .simp[callFunc,bH,N5,ab]at ad
section
variable {H:Type} {enc:TypeId×Value->H} {P:Program} {w:World} {t:TypeId} {v:Value} {d:DataW H} {ps:List MemPlace} {base lR:Nat} {sp:Nat->Bool} {held:Bool} {r:Reach}
theorem wf_i64 {n:Int} (h:(Lit.int .i64 n).wf=true): -9223372036854775808<=n/\n<=9223372036854775807:=by
 simp[Lit.wf,IntKind.min,IntKind.max,signed,IntKind.bits]at h;omega
end
end Go.ei
