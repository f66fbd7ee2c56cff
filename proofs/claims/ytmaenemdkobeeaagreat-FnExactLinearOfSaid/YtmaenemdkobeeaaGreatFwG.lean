/- Part of a proof that a law returns true for every input. No condition. -/
import Derived.Test.YtmaenemdkobeeaaGreatFwF
import Derived.Below
import Derived.ChangeShapes
import Derived.ChangeMaps5
namespace Go.ek
open List Option Go.IntKind Nat Or
def F0 (w:World):Nat->Prop:=λb=>b<w.heap.size
def Arg (w:World) (a:J) (v:Value):Prop:=a.tree=true/\eO a v/\aD w (F0 w) a (cP v) (λ_=>False)
inductive wT (w:World):arM->arK->Prop
 |nil:wT w [] []
 |cons {a:J} {v:Value} {as:arM} {vs:arK}:Arg w a v->wT w as vs->wT w (a::as) (v::vs)
theorem wT.get {w:World} {as:arM} {vs:arK} (h:wT w as vs):vs.length=as.length/\∀i,as.getD i .hole= .hole\/Arg w (as.getD i .hole) (vs.getD i undef):=by
 induction h with
 |nil=>exact⟨rfl,λi=>.inl rfl⟩
 |cons h _ ih=>
  refine⟨by simp[ih.1],λi=>?_⟩;cases i with
  |zero=>exact .inr h
  |succ i=>simpa using ih.2 i
theorem aaN {w:World} {as:arM} {vs:arK} (bC:yc w λ_=>False) (h:wT w as vs):b4 w (F0 w) (λ_=>False) (F0 w) (λ_ _=>False) (gK as) (iD vs) w:=by
 refine⟨λ_ h=>h,λ_ h=>.inl h,λ_ h=>h,λ_ _ h=>h.elim,λ_ _ h=>h.elim,λ_ _ _ _ h=>h.elim,λ_ _ h=>h.elim,λt=>?_,λ_ _ _=>rfl,Nat.le_refl _,rfl,rfl,Out.refl _,bC⟩;show aU w (F0 w) (gK as) (iD vs) (as.getD t .hole) (vs.getD t undef) (λ_=>False);rcases h.get.2 t with e|⟨ae,ag,aK⟩
 .rw[e,aU];trivial
 .exact(aU.c_ ae).2 ⟨ag,aK⟩
theorem ba.law {C:ch} {f:FuncId} {fn:Func} {c:Code} {as:arM} {vs:arK} {w:World} (h:ba C f as (.bool true) []) (bo:C.P.funcs[f]? =some fn) (ab:fn.body=some c)
  (lg:(fn.name== "runtime.NumGoroutine")=false) (b6:wT w as vs) (bC:yc w λ_=>False:=by exact λ_ h=>absurd h not_mem_nil):Calls C.P f vs.toArray w λe aQ=>e= .returned (.bool true)/\RowKit.Below w.heap.size w aQ:=by
 have J0:fn.name≠ "runtime.NumGoroutine" :=by simpa using lg
 rcases h w _ _ _ vs b6.get.1 (aaN bC b6)with⟨_,ag⟩|⟨v,aQ,ae,_⟩
 .refine ag.mono ?_;rintro e aQ ⟨v,rfl,b9,a0,a4⟩;have aE:=a4.ev 0;have:aU aQ b9 (gK [J.bool true]) (iD (v::vs)) (.bool true) v (a0 0):=aE;have ab:=uL this;subst ab;exact⟨rfl,a4.os,a4.tape,a4.output.1,a4.size,λk ao=>a4.old k ao (λh=>h)⟩
 .simp[callFunc,bo,J0,ab]at ae
section
variable {H:Type} {enc:TypeId×Value->H} {P:Program} {w:World} {t:TypeId} {v:Value} {d:DataW H} {ps:List MemPlace} {base kU:Nat} {sp:Nat->Bool} {held:Bool} {r:Reach}
theorem aaO {k:IntKind} (bc:P.underlying t=some (.int k)) (sA:Value.okWide P w r kU t v) (ak:DataW.Trod enc P w base sp held t v d ps):∃n,Arg w (.int k n) v/\(Lit.int k n).wf=true:=by
 obtain⟨n,rfl,_,_,hw⟩:=ChangeShapes.open_int bc sA ak;exact⟨n,⟨rfl,rfl,by simp only[cP,jn];rw[aD]⟩,hw⟩
theorem wf_i64 {n:Int} (h:(Lit.int .i64 n).wf=true): -9223372036854775808<=n/\n<=9223372036854775807:=by
 simp[Lit.wf,IntKind.min,IntKind.max,signed,IntKind.bits]at h;omega
end
end Go.ek
