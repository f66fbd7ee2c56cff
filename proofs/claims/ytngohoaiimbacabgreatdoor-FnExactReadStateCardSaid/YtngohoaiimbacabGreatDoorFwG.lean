/- Part of a proof that a law returns true for every input. No condition. -/
import Derived.Test.YtngohoaiimbacabGreatDoorFwF
import Derived.Below
import Derived.ChangeShapes
import Derived.ChangeMaps5
namespace Go.c_
open List Option Go.IntKind Nat Or
def F0 (w:World):Nat->Prop:=λb=>b<w.heap.size
def Arg (w:World) (a:I) (v:Value):Prop:=a.tree=true/\dz a v/\au w (F0 w) a (b8 v) (λ_=>False)
inductive s7 (w:World):ahB->ahz->Prop
 |nil:s7 w [] []
 |cons {a:I} {v:Value} {as:ahB} {vs:ahz}:Arg w a v->s7 w as vs->s7 w (a::as) (v::vs)
theorem s7.get {w:World} {as:ahB} {vs:ahz} (h:s7 w as vs):vs.length=as.length/\∀i,as.getD i .hole= .hole\/Arg w (as.getD i .hole) (vs.getD i undef):=by
 induction h with
 |nil=>exact⟨rfl,λi=>.inl rfl⟩
 |cons h _ ih=>
  refine⟨by simp[ih.1],λi=>?_⟩;cases i with
  |zero=>exact .inr h
  |succ i=>simpa using ih.2 i
theorem TW {w:World} {as:ahB} {vs:ahz} (hg:o2 w λ_=>False) (h:s7 w as vs):bx w (F0 w) (λ_=>False) (F0 w) (λ_ _=>False) (eU as) (gj vs) w:=by
 refine⟨λ_ h=>h,λ_ h=>.inl h,λ_ h=>h,λ_ _ h=>h.elim,λ_ _ h=>h.elim,λ_ _ _ _ h=>h.elim,λ_ _ h=>h.elim,λt=>?_,λ_ _ _=>rfl,Nat.le_refl _,rfl,rfl,Out.refl _,hg⟩;show aF w (F0 w) (eU as) (gj vs) (as.getD t .hole) (vs.getD t undef) (λ_=>False);rcases h.get.2 t with e|⟨ab,ad,aC⟩
 .rw[e,aF];trivial
 .exact(aF.cr ab).2 ⟨ad,aC⟩
theorem aX.law {C:bW} {f:FuncId} {fn:Func} {c:Code} {as:ahB} {vs:ahz} {w:World} (h:aX C f as (.bool true) []) (bd:C.P.funcs[f]? =some fn) (R:fn.body=some c)
  (jX:(fn.name== "runtime.NumGoroutine")=false) (bM:s7 w as vs) (hg:o2 w λ_=>False:=by exact λ_ h=>absurd h not_mem_nil):Calls C.P f vs.toArray w λe aD=>e= .returned (.bool true)/\RowKit.Below w.heap.size w aD:=by
 have Es:fn.name≠ "runtime.NumGoroutine" :=by simpa using jX
 rcases h w _ _ _ vs bM.get.1 (TW hg bM)with⟨_,ad⟩|⟨v,aD,ab,_⟩
 .refine ad.mono ?_;rintro e aD ⟨v,rfl,bE,aN,aH⟩;have aI:=aH.cW 0;have:aF aD bE (eU [I.bool true]) (gj (v::vs)) (.bool true) v (aN 0):=aI;have R:=q6 this;subst R;exact⟨rfl,aH.os,aH.tape,aH.output.1,aH.size,λk aq=>aH.old k aq (λh=>h)⟩
 .simp[callFunc,bd,Es,R]at ab
section
variable {H:Type} {enc:TypeId×Value->H} {P:Program} {w:World} {t:TypeId} {v:Value} {d:DataW H} {ps:List MemPlace} {base h5:Nat} {sp:Nat->Bool} {held:Bool} {r:Reach}
theorem arg_str (aY:P.underlying t=some .string) (pn:Value.okWide P w r h5 t v) (ae:DataW.Trod enc P w base sp held t v d ps):∃s:aht,Arg w (.str s) v/\s.length<=maxLen:=by
 obtain⟨s,rfl,_,_,U⟩:=ChangeMaps.open_string aY pn ae;exact⟨s.data.toList,⟨rfl,rfl,by simp only[b8,hs];rw[au]⟩,U⟩
theorem wf_i64 {n:Int} (h:(Lit.int .i64 n).wf=true): -9223372036854775808<=n/\n<=9223372036854775807:=by
 simp[Lit.wf,IntKind.min,IntKind.max,signed,IntKind.bits]at h;omega
end
end Go.c_
