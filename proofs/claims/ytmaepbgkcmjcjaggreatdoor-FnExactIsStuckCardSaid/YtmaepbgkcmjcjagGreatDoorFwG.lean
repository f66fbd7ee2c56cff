/- Part of a proof that a law returns true for every input. No condition. -/
import Derived.Test.YtmaepbgkcmjcjagGreatDoorFwF
import Derived.Below
import Derived.ChangeShapes
import Derived.ChangeMaps5
namespace Go.ef
open List Option Go.IntKind Nat
def F0 (w:World):Nat->Prop:=λb=>b<w.heap.size
def Arg (w:World) (a:I) (v:Value):Prop:=a.tree=true/\eM a v/\aA w (F0 w) a (c8 v) (λ_=>False)
inductive yR (w:World):axi->axg->Prop
 |nil:yR w [] []
 |cons {a:I} {v:Value} {as:axi} {vs:axg}:Arg w a v->yR w as vs->yR w (a::as) (v::vs)
theorem yR.get {w:World} {as:axi} {vs:axg} (h:yR w as vs):vs.length=as.length/\∀i,as.getD i .hole= .hole\/Arg w (as.getD i .hole) (vs.getD i undef):=by
 induction h with
 |nil=>exact⟨rfl,λi=>.inl rfl⟩
 |cons h _ ih=>
  refine⟨by simp[ih.1],λi=>?_⟩;cases i with
  |zero=>exact .inr h
  |succ i=>simpa using ih.2 i
theorem aeE {w:World} {as:axi} {vs:axg} (hg:tj w λ_=>False) (h:yR w as vs):b8 w (F0 w) (λ_=>False) (F0 w) (λ_ _=>False) (gp as) (h3 vs) w:=by
 refine⟨λ_ h=>h,λ_ h=>.inl h,λ_ h=>h,λ_ _ h=>h.elim,λ_ _ h=>h.elim,λ_ _ _ _ h=>h.elim,λ_ _ h=>h.elim,λt=>?_,λ_ _ _=>rfl,Nat.le_refl _,rfl,rfl,Out.refl _,hg⟩;show aO w (F0 w) (gp as) (h3 vs) (as.getD t .hole) (vs.getD t undef) (λ_=>False);rcases h.get.2 t with e|⟨ad,ae,aI⟩
 .rw[e,aO];trivial
 .exact(aO.dk ad).2 ⟨ae,aI⟩
theorem aV.law {C:cj} {f:FuncId} {fn:Func} {c:Code} {as:axi} {vs:axg} {w:World} (h:aV C f as (.bool true) []) (bF:C.P.funcs[f]? =some fn) (ab:fn.body=some c)
  (ml:(fn.name== "runtime.NumGoroutine")=false) (bl:yR w as vs) (hg:tj w λ_=>False:=by exact λ_ h=>absurd h not_mem_nil):Calls C.P f vs.toArray w λe aL=>e= .returned (.bool true)/\RowKit.Below w.heap.size w aL:=by
 have My:fn.name≠ "runtime.NumGoroutine" :=by simpa using ml
 rcases h w _ _ _ vs bl.get.1 (aeE hg bl)with⟨_,ae⟩|⟨v,aL,ad,_⟩
 .refine ae.mono ?_;rintro e aL ⟨v,rfl,cl,aX,aQ⟩;have aE:=aQ.ew 0;have:aO aL cl (gp [I.bool true]) (h3 (v::vs)) (.bool true) v (aX 0):=aE;have ab:=wK this;subst ab;exact⟨rfl,aQ.os,aQ.tape,aQ.output.1,aQ.size,λk au=>aQ.old k au (λh=>h)⟩
 .simp[callFunc,bF,My,ab]at ad
section
variable {H:Type} {enc:TypeId×Value->H} {P:Program} {w:World} {t:TypeId} {v:Value} {d:DataW H} {ps:List MemPlace} {base lu:Nat} {sp:Nat->Bool} {held:Bool} {r:Reach}
theorem wf_i64 {n:Int} (h:(Lit.int .i64 n).wf=true): -9223372036854775808<=n/\n<=9223372036854775807:=by
 simp[Lit.wf,IntKind.min,IntKind.max,signed,IntKind.bits]at h;omega
end
end Go.ef
