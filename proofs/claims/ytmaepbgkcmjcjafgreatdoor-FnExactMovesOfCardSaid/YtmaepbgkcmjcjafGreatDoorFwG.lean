/- Part of a proof that a law returns true for every input. No condition. -/
import Derived.Test.YtmaepbgkcmjcjafGreatDoorFwF
import Derived.Below
import Derived.ChangeShapes
import Derived.ChangeMaps5
namespace Go.eg
open List Option Go.IntKind Nat
def F0 (w:World):Nat->Prop:=λb=>b<w.heap.size
def Arg (w:World) (a:I) (v:Value):Prop:=a.tree=true/\eY a v/\aB w (F0 w) a (cT v) (λ_=>False)
inductive y7 (w:World):ayk->ayi->Prop
 |nil:y7 w [] []
 |cons {a:I} {v:Value} {as:ayk} {vs:ayi}:Arg w a v->y7 w as vs->y7 w (a::as) (v::vs)
theorem y7.get {w:World} {as:ayk} {vs:ayi} (h:y7 w as vs):vs.length=as.length/\∀i,as.getD i .hole= .hole\/Arg w (as.getD i .hole) (vs.getD i undef):=by
 induction h with
 |nil=>exact⟨rfl,λi=>.inl rfl⟩
 |cons h _ ih=>
  refine⟨by simp[ih.1],λi=>?_⟩;cases i with
  |zero=>exact .inr h
  |succ i=>simpa using ih.2 i
theorem afX {w:World} {as:ayk} {vs:ayi} (hg:tx w λ_=>False) (h:y7 w as vs):cb w (F0 w) (λ_=>False) (F0 w) (λ_ _=>False) (gf as) (ik vs) w:=by
 refine⟨λ_ h=>h,λ_ h=>.inl h,λ_ h=>h,λ_ _ h=>h.elim,λ_ _ h=>h.elim,λ_ _ _ _ h=>h.elim,λ_ _ h=>h.elim,λt=>?_,λ_ _ _=>rfl,Nat.le_refl _,rfl,rfl,Out.refl _,hg⟩;show aO w (F0 w) (gf as) (ik vs) (as.getD t .hole) (vs.getD t undef) (λ_=>False);rcases h.get.2 t with e|⟨ad,af,aG⟩
 .rw[e,aO];trivial
 .exact(aO.dh ad).2 ⟨af,aG⟩
theorem aW.law {C:cm} {f:FuncId} {fn:Func} {c:Code} {as:ayk} {vs:ayi} {w:World} (h:aW C f as (.bool true) []) (bD:C.P.funcs[f]? =some fn) (aa:fn.body=some c)
  (mu:(fn.name== "runtime.NumGoroutine")=false) (br:y7 w as vs) (hg:tx w λ_=>False:=by exact λ_ h=>absurd h not_mem_nil):Calls C.P f vs.toArray w λe aN=>e= .returned (.bool true)/\RowKit.Below w.heap.size w aN:=by
 have Nn:fn.name≠ "runtime.NumGoroutine" :=by simpa using mu
 rcases h w _ _ _ vs br.get.1 (afX hg br)with⟨_,af⟩|⟨v,aN,ad,_⟩
 .refine af.mono ?_;rintro e aN ⟨v,rfl,ch,a7,aQ⟩;have aJ:=aQ.el 0;have:aO aN ch (gf [I.bool true]) (ik (v::vs)) (.bool true) v (a7 0):=aJ;have aa:=w4 this;subst aa;exact⟨rfl,aQ.os,aQ.tape,aQ.output.1,aQ.size,λk au=>aQ.old k au (λh=>h)⟩
 .simp[callFunc,bD,Nn,aa]at ad
section
variable {H:Type} {enc:TypeId×Value->H} {P:Program} {w:World} {t:TypeId} {v:Value} {d:DataW H} {ps:List MemPlace} {base lJ:Nat} {sp:Nat->Bool} {held:Bool} {r:Reach}
theorem wf_i64 {n:Int} (h:(Lit.int .i64 n).wf=true): -9223372036854775808<=n/\n<=9223372036854775807:=by
 simp[Lit.wf,IntKind.min,IntKind.max,signed,IntKind.bits]at h;omega
end
end Go.eg
