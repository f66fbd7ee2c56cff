/- Part of a proof that a law returns true for every input. No condition. -/
import Derived.Test.YtpdplcdnpaoceaaFwF
import Derived.Below
import Derived.ChangeShapes
import Derived.ChangeMaps5
namespace Go.cV
open List Option Go.IntKind Nat Or
def F0 (w:World):Nat->Prop:=λb=>b<w.heap.size
def Arg (w:World) (a:j) (v:Value):Prop:=a.tree=true/\cM a v/\aj w (F0 w) a (bW v) (λ_=>False)
inductive qP (w:World):Vr->Vp->Prop
 |nil:qP w [] []
 |cons {a:j} {v:Value} {as:Vr} {vs:Vp}:Arg w a v->qP w as vs->qP w (a::as) (v::vs)
theorem qP.get {w:World} {as:Vr} {vs:Vp} (h:qP w as vs):vs.length=as.length/\∀i,as.getD i .hole= .hole\/Arg w (as.getD i .hole) (vs.getD i undef):=by
 induction h with
 |nil=>exact⟨rfl,λi=>.inl rfl⟩
 |cons h _ ih=>
  refine⟨by simp[ih.1],λi=>?_⟩;cases i with
  |zero=>exact .inr h
  |succ i=>simpa using ih.2 i
theorem MS {w:World} {as:Vr} {vs:Vp} (bm:rI w λ_=>False) (h:qP w as vs):bg w (F0 w) (λ_=>False) (F0 w) (λ_ _=>False) (dI as) (e8 vs) w:=by
 refine⟨λ_ h=>h,λ_ h=>.inl h,λ_ h=>h,λ_ _ h=>h.elim,λ_ _ h=>h.elim,λ_ _ _ _ h=>h.elim,λ_ _ h=>h.elim,λt=>?_,λ_ _ _=>rfl,Nat.le_refl _,rfl,rfl,Out.refl _,bm⟩;show az w (F0 w) (dI as) (e8 vs) (as.getD t .hole) (vs.getD t undef) (λ_=>False);rcases h.get.2 t with e|⟨U,aa,ax⟩
 .rw[e,az];trivial
 .exact(az.b7 U).2 ⟨aa,ax⟩
theorem bq.law {C:bI} {f:FuncId} {fn:Func} {c:Code} {as:Vr} {vs:Vp} {w:World} (h:bq C f as (.bool true) []) (bd:C.P.funcs[f]? =some fn) (J:fn.body=some c)
  (iM:(fn.name== "runtime.NumGoroutine")=false) (b4:qP w as vs) (bm:rI w λ_=>False:=by exact λ_ h=>absurd h not_mem_nil):Calls C.P f vs.toArray w λe aw=>e= .returned (.bool true)/\RowKit.Below w.heap.size w aw:=by
 have zG:fn.name≠ "runtime.NumGoroutine" :=by simpa using iM
 rcases h w _ _ _ vs b4.get.1 (MS bm b4)with⟨_,aa⟩|⟨v,aw,U,_⟩
 .refine aa.mono ?_;rintro e aw ⟨v,rfl,ba,aB,aG⟩;have aE:=aG.cG 0;have:az aw ba (dI [j.bool true]) (e8 (v::vs)) (.bool true) v (aB 0):=aE;have J:=oX this;subst J;exact⟨rfl,aG.os,aG.tape,aG.output.1,aG.size,λk ak=>aG.old k ak (λh=>h)⟩
 .simp[callFunc,bd,zG,J]at U
section
variable {H:Type} {enc:TypeId×Value->H} {P:Program} {w:World} {t:TypeId} {v:Value} {d:DataW H} {ps:List MemPlace} {base ig:Nat} {sp:Nat->Bool} {held:Bool} {r:Reach}
theorem wf_i64 {n:Int} (h:(Lit.int .i64 n).wf=true): -9223372036854775808<=n/\n<=9223372036854775807:=by
 simp[Lit.wf,IntKind.min,IntKind.max,signed,IntKind.bits]at h;omega
end
end Go.cV
