/- Part of a proof that a law returns true for every input. No condition. -/
import Derived.Test.YtmaepbgkcmjcjaiGreatDoorFwF
import Derived.Below
import Derived.ChangeShapes
import Derived.ChangeMaps5
namespace Go.eg
open List Option Go.IntKind Nat
def F0 (w:World):Nat->Prop:=λb=>b<w.heap.size
def Arg (w:World) (a:I) (v:Value):Prop:=a.tree=true/\eK a v/\aA w (F0 w) a (dd v) (λ_=>False)
inductive zp (w:World):azk->azi->Prop
 |nil:zp w [] []
 |cons {a:I} {v:Value} {as:azk} {vs:azi}:Arg w a v->zp w as vs->zp w (a::as) (v::vs)
theorem zp.get {w:World} {as:azk} {vs:azi} (h:zp w as vs):vs.length=as.length/\∀i,as.getD i .hole= .hole\/Arg w (as.getD i .hole) (vs.getD i undef):=by
 induction h with
 |nil=>exact⟨rfl,λi=>.inl rfl⟩
 |cons h _ ih=>
  refine⟨by simp[ih.1],λi=>?_⟩;cases i with
  |zero=>exact .inr h
  |succ i=>simpa using ih.2 i
theorem agb {w:World} {as:azk} {vs:azi} (hg:tJ w λ_=>False) (h:zp w as vs):cd w (F0 w) (λ_=>False) (F0 w) (λ_ _=>False) (gq as) (h5 vs) w:=by
 refine⟨λ_ h=>h,λ_ h=>.inl h,λ_ h=>h,λ_ _ h=>h.elim,λ_ _ h=>h.elim,λ_ _ _ _ h=>h.elim,λ_ _ h=>h.elim,λt=>?_,λ_ _ _=>rfl,Nat.le_refl _,rfl,rfl,Out.refl _,hg⟩;show aS w (F0 w) (gq as) (h5 vs) (as.getD t .hole) (vs.getD t undef) (λ_=>False);rcases h.get.2 t with e|⟨ad,ae,aJ⟩
 .rw[e,aS];trivial
 .exact(aS.dr ad).2 ⟨ae,aJ⟩
theorem aV.law {C:cl} {f:FuncId} {fn:Func} {c:Code} {as:azk} {vs:azi} {w:World} (h:aV C f as (.bool true) []) (bH:C.P.funcs[f]? =some fn) (ab:fn.body=some c)
  (mr:(fn.name== "runtime.NumGoroutine")=false) (bl:zp w as vs) (hg:tJ w λ_=>False:=by exact λ_ h=>absurd h not_mem_nil):Calls C.P f vs.toArray w λe aL=>e= .returned (.bool true)/\RowKit.Below w.heap.size w aL:=by
 have NA:fn.name≠ "runtime.NumGoroutine" :=by simpa using mr
 rcases h w _ _ _ vs bl.get.1 (agb hg bl)with⟨_,ae⟩|⟨v,aL,ad,_⟩
 .refine ae.mono ?_;rintro e aL ⟨v,rfl,ct,aZ,aT⟩;have aF:=aT.ey 0;have:aS aL ct (gq [I.bool true]) (h5 (v::vs)) (.bool true) v (aZ 0):=aF;have ab:=xp this;subst ab;exact⟨rfl,aT.os,aT.tape,aT.output.1,aT.size,λk ax=>aT.old k ax (λh=>h)⟩
 .simp[callFunc,bH,NA,ab]at ad
section
variable {H:Type} {enc:TypeId×Value->H} {P:Program} {w:World} {t:TypeId} {v:Value} {d:DataW H} {ps:List MemPlace} {base lf:Nat} {sp:Nat->Bool} {held:Bool} {r:Reach}
theorem Wz {k:IntKind} (aY:P.underlying t=some (.int k)) (pc:Value.okWide P w r lf t v) (ao:DataW.Trod enc P w base sp held t v d ps):∃n,Arg w (.int k n) v/\(Lit.int k n).wf=true:=by
 obtain⟨n,rfl,_,_,hw⟩:=ChangeShapes.open_int aY pc ao;exact⟨n,⟨rfl,rfl,by simp only[dd,jb];rw[aA]⟩,hw⟩
theorem wf_i64 {n:Int} (h:(Lit.int .i64 n).wf=true): -9223372036854775808<=n/\n<=9223372036854775807:=by
 simp[Lit.wf,IntKind.min,IntKind.max,signed,IntKind.bits]at h;omega
end
end Go.eg
