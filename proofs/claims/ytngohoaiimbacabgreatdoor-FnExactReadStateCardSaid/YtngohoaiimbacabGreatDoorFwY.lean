/- Part of a proof that a law returns true for every input. No condition. -/
import Derived.Test.YtngohoaiimbacabGreatDoorFwM
namespace Go.c_
open List Option Go.IntKind Nat Or
open Go Go.Lib
theorem aX.fresh {C:bW} {f:FuncId} {as:ahB} {r:I} (ae:wi=false) (s_:∀args w,(callFunc f args).run C.P w= .ok (.enter f args) w) (aY:r.tree=true)
  (h:∀(w:World) (F X:Nat->Prop) (S:Nat->Nat->Prop) (vs:ahz),vs.length=as.length->bx w F X F S (eU as) (gj vs) w->Calls C.P f vs.toArray w λex aD=>
   ∃v Sn,ex= .returned v/\dz r v/\au aD F r (b8 v) Sn/\(∀b,Sn b->w.heap.size<=b/\b<aD.heap.size)/\RowKit.Below w.heap.size w aD):aX C f as r []:=by
 intro w F X S vs hl aH;refine .inl ⟨s_ _ _,(h w F X S vs hl aH).mono ?_⟩;rintro ex aD ⟨v,Sn,rfl,ky,gp,xz,R⟩;refine⟨_,rfl,F,λu b=>u=0/\Sn b,?_⟩;exact {
  gq:=λ_ h=>h
  gK:=λ_ a8=>.inl a8
  eK:=λc ai=>Nat.lt_of_lt_of_le (aH.eK c ai) R.size
  et:=λ_ b h=>(xz b h.2).2
  fg:=λ_ b h a8=>by have:=aH.eK b a8;have:=(xz b h.2).1;omega
  eT:=λt u b cO ab ad=>cO (ab.1.trans ad.1.symm)
  dy:=λ_ b h=>.inr (xz b h.2).1
  cW:=λu=>by
   rcases u with _|u
   .refine(aF.cr aY).2 ⟨ky,?_⟩;have e:(λb=>(0=0/\Sn b))=Sn:=funext λb=>propext ⟨λh=>h.2,λh=>⟨rfl,h⟩⟩;show au aD F r (b8 v) λb=>(0=0/\Sn b)
    rw[e];exact gp
   .show aF _ _ _ _ .hole _ _;rw[aF];trivial
  old:=λc ai _=>R.block c ai
  size:=R.size
  os:=R.os
  tape:=R.tape
  output:=⟨R.output,λd=>by rw[ae]at d;cases d⟩
  fW:=aH.fW}
theorem aX.Vr {α:Type} {e:α->I} {enc:α->Value} {C:bW} {f:FuncId} {as:ahB} (bm:List α) {T:TypeId} (ae:wi=false) (he:∀x,(e x).wd=1) (Ac:∀(w:World) (F:Nat->Prop) (x:α) (S:Nat->Prop),au w F (e x) [enc x] S)
  (s_:∀args w,(callFunc f args).run C.P w= .ok (.enter f args) w)
  (h:∀(w:World) (F X:Nat->Prop) (S:Nat->Nat->Prop) (vs:ahz),vs.length=as.length->bx w F X F S (eU as) (gj vs) w->Calls C.P f vs.toArray w λex aD=>
   ∃A,ex= .returned (.slice (some ⟨A,0,none⟩) bm.length bm.length)/\w.heap.size<=A/\aD.ownsRow w.heap.size T 1 (.slice (some ⟨A,0,none⟩) bm.length bm.length) bm.length (bm.map enc)/\RowKit.Below w.heap.size w aD):
  aX C f as (.ao 1 (bm.map e)) []:=by
 refine aX.fresh ae s_ rfl λw F X S vs hl aH=>(h w F X S vs hl aH).mono ?_;rintro ex aD ⟨A,rfl,ib,wX,R⟩;obtain⟨_,⟨aV,_⟩|⟨g,cap,cur,aI,_,hg,ai,hm,U,D6⟩⟩:=wX
 .cases aV
 cases aI;have ei:A<aD.heap.size:=(Array.getElem?_eq_some_iff.1 hg).1;refine⟨_,λb=>b=A,rfl,rfl,?_,λb lb=>by subst lb;exact⟨ib,ei⟩,R⟩;simp only[b8,hs];rw[au];have ks:∀(dn:List α),aZ aD F (dn.map e) (dn.map enc) λ_=>False:=by
  intro dn;induction dn with
  |nil=>simp[aZ]
  |cons z dn ih=>exact⟨[enc z],dn.map enc,λ_=>False,λ_=>False,rfl,Ac _ _ _ _,ih,λ_ h=>h.elim,λ_ h=>h.elim,λ_ h=>h.elim⟩
 refine .inr ⟨A,bm.length,cur,T,(0,0),λ_=>False,by simp,rfl,hg,λo _ h=>by omega,by simp,hm,U,λd gV=>by obtain⟨x,_,rfl⟩:=mem_map.1 gV;exact he x,?_,λ_ h=>h.elim,λh=>h⟩;rw[show(map e bm).length*1=bm.length*1 by simp,D6];exact ks bm
theorem Vs {w:World} {F:Nat->Prop} {s:aw} {ay:Nat->Value} {g:FuncId} {v:Value} {S:Nat->Prop} (h:aF w F s ay (.fn g []) v S):v= .func (.func g) #[] #[]:=by
 rw[aF]at h;obtain⟨arr,bM,R⟩:=h;rw[bM];cases hl:arr.toList with
 |nil=>rw[show arr= #[]from Array.toList_inj.1 (by simpa using hl)]
 |cons x r=>rw[hl,dP]at R;cases R
end Go.c_
