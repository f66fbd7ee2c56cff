/- Part of a proof that a law returns true for every input. No condition. -/
import Derived.Test.YtndfcecbamffaaaGreatFwF
import Derived.Below
import Derived.ChangeShapes
import Derived.ChangeMaps5
namespace Go.cW
open List Option Go.IntKind Nat Or
def F0 (w:World):Nat->Prop:=λb=>b<w.heap.size
def Arg (w:World) (a:j) (v:Value):Prop:=a.tree=true/\c0 a v/\ai w (F0 w) a (bR v) (λ_=>False)
inductive su (w:World):abN->abL->Prop
 |nil:su w [] []
 |cons {a:j} {v:Value} {as:abN} {vs:abL}:Arg w a v->su w as vs->su w (a::as) (v::vs)
theorem su.get {w:World} {as:abN} {vs:abL} (h:su w as vs):vs.length=as.length/\∀i,as.getD i .hole= .hole\/Arg w (as.getD i .hole) (vs.getD i undef):=by
 induction h with
 |nil=>exact⟨rfl,λi=>.inl rfl⟩
 |cons h _ ih=>
  refine⟨by simp[ih.1],λi=>?_⟩;cases i with
  |zero=>exact .inr h
  |succ i=>simpa using ih.2 i
theorem RU {w:World} {as:abN} {vs:abL} (bm:tG w λ_=>False) (h:su w as vs):bu w (F0 w) (λ_=>False) (F0 w) (λ_ _=>False) (fc as) (fU vs) w:=by
 refine⟨λ_ h=>h,λ_ h=>.inl h,λ_ h=>h,λ_ _ h=>h.elim,λ_ _ h=>h.elim,λ_ _ _ _ h=>h.elim,λ_ _ h=>h.elim,λt=>?_,λ_ _ _=>rfl,Nat.le_refl _,rfl,rfl,Out.refl _,bm⟩;show aB w (F0 w) (fc as) (fU vs) (as.getD t .hole) (vs.getD t undef) (λ_=>False);rcases h.get.2 t with e|⟨R,U,aA⟩
 .rw[e,aB];trivial
 .exact(aB.b4 R).2 ⟨U,aA⟩
theorem bx.law {C:bI} {f:FuncId} {fn:Func} {c:Code} {as:abN} {vs:abL} {w:World} (h:bx C f as (.bool true) []) (a6:C.P.funcs[f]? =some fn) (J:fn.body=some c)
  (je:(fn.name== "runtime.NumGoroutine")=false) (b8:su w as vs) (bm:tG w λ_=>False:=by exact λ_ h=>absurd h not_mem_nil):Calls C.P f vs.toArray w λe ax=>e= .returned (.bool true)/\RowKit.Below w.heap.size w ax:=by
 have CR:fn.name≠ "runtime.NumGoroutine" :=by simpa using je
 rcases h w _ _ _ vs b8.get.1 (RU bm b8)with⟨_,U⟩|⟨v,ax,R,_⟩
 .refine U.mono ?_;rintro e ax ⟨v,rfl,bC,aF,aN⟩;have ay:=aN.cK 0;have:aB ax bC (fc [j.bool true]) (fU (v::vs)) (.bool true) v (aF 0):=ay;have J:=qG this;subst J;exact⟨rfl,aN.os,aN.tape,aN.output.1,aN.size,λk ak=>aN.old k ak (λh=>h)⟩
 .simp[callFunc,a6,CR,J]at R
section
variable {H:Type} {enc:TypeId×Value->H} {P:Program} {w:World} {t:TypeId} {v:Value} {d:DataW H} {ps:List MemPlace} {base fS:Nat} {sp:Nat->Bool} {held:Bool} {r:Reach}
theorem wf_i64 {n:Int} (h:(Lit.int .i64 n).wf=true): -9223372036854775808<=n/\n<=9223372036854775807:=by
 simp[Lit.wf,IntKind.min,IntKind.max,signed,IntKind.bits]at h;omega
end
end Go.cW
