/- Part of a proof that a law returns true for every input. No condition. -/
import Derived.Test.YtndfcecbamffaaaGreatFwF
import Derived.Below
import Derived.ChangeShapes
import Derived.ChangeMaps5
namespace Go.c3
open List Option Go.IntKind Nat Or
def F0 (w:World):Nat->Prop:=λb=>b<w.heap.size
def Arg (w:World) (a:I) (v:Value):Prop:=a.tree=true/\dc a v/\ao w (F0 w) a (bX v) (λ_=>False)
inductive ti (w:World):afh->aff->Prop
 |nil:ti w [] []
 |cons {a:I} {v:Value} {as:afh} {vs:aff}:Arg w a v->ti w as vs->ti w (a::as) (v::vs)
theorem ti.get {w:World} {as:afh} {vs:aff} (h:ti w as vs):vs.length=as.length/\∀i,as.getD i .hole= .hole\/Arg w (as.getD i .hole) (vs.getD i undef):=by
 induction h with
 |nil=>exact⟨rfl,λi=>.inl rfl⟩
 |cons h _ ih=>
  refine⟨by simp[ih.1],λi=>?_⟩;cases i with
  |zero=>exact .inr h
  |succ i=>simpa using ih.2 i
theorem S7 {w:World} {as:afh} {vs:aff} (bl:ui w λ_=>False) (h:ti w as vs):bw w (F0 w) (λ_=>False) (F0 w) (λ_ _=>False) (fw as) (gL vs) w:=by
 refine⟨λ_ h=>h,λ_ h=>.inl h,λ_ h=>h,λ_ _ h=>h.elim,λ_ _ h=>h.elim,λ_ _ _ _ h=>h.elim,λ_ _ h=>h.elim,λt=>?_,λ_ _ _=>rfl,Nat.le_refl _,rfl,rfl,Out.refl _,bl⟩;show aG w (F0 w) (fw as) (gL vs) (as.getD t .hole) (vs.getD t undef) (λ_=>False);rcases h.get.2 t with e|⟨ae,af,aF⟩
 .rw[e,aG];trivial
 .exact(aG.cd ae).2 ⟨af,aF⟩
theorem bk.law {C:bH} {f:FuncId} {fn:Func} {c:Code} {as:afh} {vs:aff} {w:World} (h:bk C f as (.bool true) []) (a8:C.P.funcs[f]? =some fn) (U:fn.body=some c)
  (jt:(fn.name== "runtime.NumGoroutine")=false) (b8:ti w as vs) (bl:ui w λ_=>False:=by exact λ_ h=>absurd h not_mem_nil):Calls C.P f vs.toArray w λe aB=>e= .returned (.bool true)/\RowKit.Below w.heap.size w aB:=by
 have D2:fn.name≠ "runtime.NumGoroutine" :=by simpa using jt
 rcases h w _ _ _ vs b8.get.1 (S7 bl b8)with⟨_,af⟩|⟨v,aB,ae,_⟩
 .refine af.mono ?_;rintro e aB ⟨v,rfl,bC,aO,aR⟩;have aH:=aR.cV 0;have:aG aB bC (fw [I.bool true]) (gL (v::vs)) (.bool true) v (aO 0):=aH;have U:=rD this;subst U;exact⟨rfl,aR.os,aR.tape,aR.output.1,aR.size,λk aj=>aR.old k aj (λh=>h)⟩
 .simp[callFunc,a8,D2,U]at ae
section
variable {H:Type} {enc:TypeId×Value->H} {P:Program} {w:World} {t:TypeId} {v:Value} {d:DataW H} {ps:List MemPlace} {base fK:Nat} {sp:Nat->Bool} {held:Bool} {r:Reach}
theorem wf_i64 {n:Int} (h:(Lit.int .i64 n).wf=true): -9223372036854775808<=n/\n<=9223372036854775807:=by
 simp[Lit.wf,IntKind.min,IntKind.max,signed,IntKind.bits]at h;omega
end
end Go.c3
