/- Part of a proof that a law returns true for every input. No condition. -/
import Derived.Test.YtlkabaochkgkdaaGreatDoorFwF
import Derived.Below
import Derived.ChangeShapes
import Derived.ChangeMaps5
namespace Go.c_
def F0 (w:World):Nat->Prop:=λb=>b<w.heap.size
def Arg (w:World) (a:I) (v:Value):Prop:=a.tree=true/\eA a v/\ax w (F0 w) a (cz v) (λ_=>False)
inductive uE (w:World):List I->List Value->Prop
 |nil:uE w [] []
 |cons {a:I} {v:Value} {as:List I} {vs:List Value}:Arg w a v->uE w as vs->uE w (a::as) (v::vs)
theorem uE.get {w:World} {as:List I} {vs:List Value} (h:uE w as vs):vs.length=as.length/\∀i,as.getD i .hole= .hole\/Arg w (as.getD i .hole) (vs.getD i undef):=by
 induction h with
 |nil=>exact⟨rfl,λi=>.inl rfl⟩
 |cons h _ ih=>
  refine⟨by simp[ih.1],λi=>?_⟩;cases i with
  |zero=>exact .inr h
  |succ i=>simpa using ih.2 i
theorem Xl {w:World} {as:List I} {vs:List Value} (hg:rq w λ_=>False) (h:uE w as vs):bU w (F0 w) (λ_=>False) (F0 w) (λ_ _=>False) (gu as) (hW vs) w:=by
 refine⟨λ_ h=>h,λ_ h=>.inl h,λ_ h=>h,λ_ _ h=>h.elim,λ_ _ h=>h.elim,λ_ _ _ _ h=>h.elim,λ_ _ h=>h.elim,λt=>?_,λ_ _ _=>rfl,Nat.le_refl _,rfl,rfl,Out.refl _,hg⟩;show aO w (F0 w) (gu as) (hW vs) (as.getD t .hole) (vs.getD t undef) (λ_=>False);rcases h.get.2 t with e|⟨ag,ah,aN⟩
 .rw[e,aO];trivial
 .exact(aO.cT ag).2 ⟨ah,aN⟩
theorem bk.law {C:cl} {f:FuncId} {fn:Func} {c:Code} {as:List I} {vs:List Value} {w:World} (h:bk C f as (.bool true) []) (bw:C.P.funcs[f]? =some fn) (ad:fn.body=some c)
  (kP:(fn.name== "runtime.NumGoroutine")=false) (cf:uE w as vs) (hg:rq w λ_=>False:=by exact λ_ h=>absurd h List.not_mem_nil):Calls C.P f vs.toArray w λe aL=>e= .returned (.bool true)/\RowKit.Below w.heap.size w aL:=by
 have Ie:fn.name≠ "runtime.NumGoroutine" :=by simpa using kP
 rcases h w _ _ _ vs cf.get.1 (Xl hg cf)with⟨_,ah⟩|⟨v,aL,ag,_⟩
 .refine ah.mono ?_;rintro e aL ⟨v,rfl,b3,aW,aS⟩;have aT:=aS.dF 0;have:aO aL b3 (gu [I.bool true]) (hW (v::vs)) (.bool true) v (aW 0):=aT;have ad:=sC this;subst ad;exact⟨rfl,aS.os,aS.tape,aS.output.1,aS.size,λk ay=>aS.old k ay (λh=>h)⟩
 .simp[callFunc,bw,Ie,ad]at ag
section
variable {H:Type} {enc:TypeId×Value->H} {P:Program} {w:World} {t:TypeId} {v:Value} {d:DataW H} {ps:List MemPlace} {base kc:Nat} {sp:Nat->Bool} {held:Bool} {r:Reach}
theorem wf_i64 {n:Int} (h:(Lit.int .i64 n).wf=true): -9223372036854775808<=n/\n<=9223372036854775807:=by
 simp[Lit.wf,IntKind.min,IntKind.max,IntKind.signed,IntKind.bits]at h;omega
end
end Go.c_
