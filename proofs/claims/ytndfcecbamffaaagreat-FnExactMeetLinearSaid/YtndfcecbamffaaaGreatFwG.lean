/- Part of a proof that a law returns true for every input. No condition. -/
import Derived.Test.YtndfcecbamffaaaGreatFwF
import Derived.Below
import Derived.ChangeShapes
import Derived.ChangeMaps5
namespace Go.dD
open List Option Go.IntKind Nat Or
def F0 (w:World):Nat->Prop:=λb=>b<w.heap.size
def Arg (w:World) (a:I) (v:Value):Prop:=a.tree=true/\dy a v/\ay w (F0 w) a (ct v) (λ_=>False)
inductive uM (w:World):ahI->ahF->Prop
 |nil:uM w [] []
 |cons {a:I} {v:Value} {as:ahI} {vs:ahF}:Arg w a v->uM w as vs->uM w (a::as) (v::vs)
theorem uM.get {w:World} {as:ahI} {vs:ahF} (h:uM w as vs):vs.length=as.length/\∀i,as.getD i .hole= .hole\/Arg w (as.getD i .hole) (vs.getD i undef):=by
 induction h with
 |nil=>exact⟨rfl,λi=>.inl rfl⟩
 |cons h _ ih=>
  refine⟨by simp[ih.1],λi=>?_⟩;cases i with
  |zero=>exact .inr h
  |succ i=>simpa using ih.2 i
theorem Vo {w:World} {as:ahI} {vs:ahF} (bP:vI w λ_=>False) (h:uM w as vs):bK w (F0 w) (λ_=>False) (F0 w) (λ_ _=>False) (fk as) (g1 vs) w:=by
 refine⟨λ_ h=>h,λ_ h=>.inl h,λ_ h=>h,λ_ _ h=>h.elim,λ_ _ h=>h.elim,λ_ _ _ _ h=>h.elim,λ_ _ h=>h.elim,λt=>?_,λ_ _ _=>rfl,Nat.le_refl _,rfl,rfl,Out.refl _,bP⟩;show aO w (F0 w) (fk as) (g1 vs) (as.getD t .hole) (vs.getD t undef) (λ_=>False);rcases h.get.2 t with e|⟨af,ag,aJ⟩
 .rw[e,aO];trivial
 .exact(aO.cI af).2 ⟨ag,aJ⟩
theorem bt.law {C:bV} {f:FuncId} {fn:Func} {c:Code} {as:ahI} {vs:ahF} {w:World} (h:bt C f as (.bool true) []) (bS:C.P.funcs[f]? =some fn) (U:fn.body=some c)
  (lh:(fn.name== "runtime.NumGoroutine")=false) (bY:uM w as vs) (bP:vI w λ_=>False:=by exact λ_ h=>absurd h not_mem_nil):Calls C.P f vs.toArray w λe aK=>e= .returned (.bool true)/\RowKit.Below w.heap.size w aK:=by
 have Fp:fn.name≠ "runtime.NumGoroutine" :=by simpa using lh
 rcases h w _ _ _ vs bY.get.1 (Vo bP bY)with⟨_,ag⟩|⟨v,aK,af,_⟩
 .refine ag.mono ?_;rintro e aK ⟨v,rfl,bJ,aS,aV⟩;have aP:=aV.dz 0;have:aO aK bJ (fk [I.bool true]) (g1 (v::vs)) (.bool true) v (aS 0):=aP;have U:=sE this;subst U;exact⟨rfl,aV.os,aV.tape,aV.output.1,aV.size,λk au=>aV.old k au (λh=>h)⟩
 .simp[callFunc,bS,Fp,U]at af
section
variable {H:Type} {enc:TypeId×Value->H} {P:Program} {w:World} {t:TypeId} {v:Value} {d:DataW H} {ps:List MemPlace} {base j3:Nat} {sp:Nat->Bool} {held:Bool} {r:Reach}
theorem wf_i64 {n:Int} (h:(Lit.int .i64 n).wf=true): -9223372036854775808<=n/\n<=9223372036854775807:=by
 simp[Lit.wf,IntKind.min,IntKind.max,signed,IntKind.bits]at h;omega
end
end Go.dD
