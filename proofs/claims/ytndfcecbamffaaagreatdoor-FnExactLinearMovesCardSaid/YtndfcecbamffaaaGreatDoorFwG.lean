/- Part of a proof that a law returns true for every input. No condition. -/
import Derived.Test.YtndfcecbamffaaaGreatDoorFwF
import Derived.Below
import Derived.ChangeShapes
import Derived.ChangeMaps5
namespace Go.cG
open List Option Go.IntKind Nat Or
def F0 (w:World):Nat->Prop:=λb=>b<w.heap.size
def Arg (w:World) (a:j) (v:Value):Prop:=a.tree=true/\cU a v/\al w (F0 w) a (bZ v) (λ_=>False)
inductive sP (w:World):acj->ach->Prop
 |nil:sP w [] []
 |cons {a:j} {v:Value} {as:acj} {vs:ach}:Arg w a v->sP w as vs->sP w (a::as) (v::vs)
theorem sP.get {w:World} {as:acj} {vs:ach} (h:sP w as vs):vs.length=as.length/\∀i,as.getD i .hole= .hole\/Arg w (as.getD i .hole) (vs.getD i undef):=by
 induction h with
 |nil=>exact⟨rfl,λi=>.inl rfl⟩
 |cons h _ ih=>
  refine⟨by simp[ih.1],λi=>?_⟩;cases i with
  |zero=>exact .inr h
  |succ i=>simpa using ih.2 i
theorem RO {w:World} {as:acj} {vs:ach} (bo:tQ w λ_=>False) (h:sP w as vs):bm w (F0 w) (λ_=>False) (F0 w) (λ_ _=>False) (eo as) (fi vs) w:=by
 refine⟨λ_ h=>h,λ_ h=>.inl h,λ_ h=>h,λ_ _ h=>h.elim,λ_ _ h=>h.elim,λ_ _ _ _ h=>h.elim,λ_ _ h=>h.elim,λt=>?_,λ_ _ _=>rfl,Nat.le_refl _,rfl,rfl,Out.refl _,bo⟩;show az w (F0 w) (eo as) (fi vs) (as.getD t .hole) (vs.getD t undef) (λ_=>False);rcases h.get.2 t with e|⟨R,U,aw⟩
 .rw[e,az];trivial
 .exact(az.b8 R).2 ⟨U,aw⟩
theorem bb.law {C:bz} {f:FuncId} {fn:Func} {c:Code} {as:acj} {vs:ach} {w:World} (h:bb C f as (.bool true) []) (bf:C.P.funcs[f]? =some fn) (I:fn.body=some c)
  (i7:(fn.name== "runtime.NumGoroutine")=false) (bx:sP w as vs) (bo:tQ w λ_=>False:=by exact λ_ h=>absurd h not_mem_nil):Calls C.P f vs.toArray w λe au=>e= .returned (.bool true)/\RowKit.Below w.heap.size w au:=by
 have CS:fn.name≠ "runtime.NumGoroutine" :=by simpa using i7
 rcases h w _ _ _ vs bx.get.1 (RO bo bx)with⟨_,U⟩|⟨v,au,R,_⟩
 .refine U.mono ?_;rintro e au ⟨v,rfl,bh,aG,aD⟩;have aE:=aD.cz 0;have:az au bh (eo [j.bool true]) (fi (v::vs)) (.bool true) v (aG 0):=aE;have I:=qX this;subst I;exact⟨rfl,aD.os,aD.tape,aD.output.1,aD.size,λk ak=>aD.old k ak (λh=>h)⟩
 .simp[callFunc,bf,CS,I]at R
section
variable {H:Type} {enc:TypeId×Value->H} {P:Program} {w:World} {t:TypeId} {v:Value} {d:DataW H} {ps:List MemPlace} {base iB:Nat} {sp:Nat->Bool} {held:Bool} {r:Reach}
theorem wf_i64 {n:Int} (h:(Lit.int .i64 n).wf=true): -9223372036854775808<=n/\n<=9223372036854775807:=by
 simp[Lit.wf,IntKind.min,IntKind.max,signed,IntKind.bits]at h;omega
end
end Go.cG
