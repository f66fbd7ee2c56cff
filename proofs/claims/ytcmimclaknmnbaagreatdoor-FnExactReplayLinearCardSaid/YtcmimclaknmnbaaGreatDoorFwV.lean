/- Part of a proof that a law returns true for every input. No condition. -/
import Derived.Test.YtcmimclaknmnbaaGreatDoorFwL
namespace Go.cC
open List Go.IntKind Nat Or
section
variable {C:bx} {w0 w:World} {F0 X F:Nat->Prop} {S:Nat->Nat->Prop} {n:Fr} {ρ:Nat->Value} {s:an} {a:Act} {Q:Exit->Act->World->Prop}
theorem aaY {pK:Fr} {ops:Array Oper} {o:Oper} {r:bt} (h:lh n ops o=some r) (aN:pK.n=n.n) (ae:∀t,o.dst=some t->t∉pK.fx):lh pK ops o=some r:=by
 unfold lh at h⊢;split at h
 .rename_i hk;rw[if_pos]
  .exact h
  .cases a1:o.dst with
   |none=>rfl
   |some t=>
    rw[a1]at hk;simp only[kM,Bool.and_eq_true,decide_eq_true_eq,Bool.not_eq_true',contains_eq_mem,decide_eq_false_iff_not]at hk⊢;exact⟨by rw[aN];exact hk.1,ae t a1⟩
 .cases h
theorem Q1 {pK:Fr} {ops:Array Oper}:∀{os:List Oper} {rs:List bt},kN n ops os=some rs->pK.n=n.n->(∀o∈os,∀t,o.dst=some t->t∉pK.fx)->kN pK ops os=some rs
 |[],_,h,_,_=>h
 |o::os,rs,h,aN,ae=>by
  simp only[kN]at h⊢;split at h
  .rename_i r Ou h1 ab;rw[aaY h1 aN (ae o (by simp)),Q1 ab aN λo a1=>ae o (by simp[a1])];exact h
  .cases h
theorem Q2 {ops:Array Oper}:∀{os:List Oper} {rs:List bt},kN n ops os=some rs->os.filterMap (·.dst)=rs.filterMap (·.dst)
 |[],_,h=>by simp only[kN,Option.some.injEq]at h;subst h;rfl
 |o::os,rs,h=>by
  simp only[kN]at h;split at h
  .rename_i r Ou h1 ab;simp only[Option.some.injEq]at h;subst h;have ax:r.dst=o.dst:=by
    unfold lh at h1;split at h1
    .split at h1
     .simp only[Option.some.injEq]at h1;subst h1;rfl
     .cases h1
    .cases h1
   simp only[filterMap_cons,ax,Q2 ab]
  .cases h
def vY (s:an):anU->an
 |[]=>s
 |t::D=>vY (fin s (some t) .hole) D
theorem Q3 {fJ:Nat->Value}:∀(D:anU) (s:an) (S:Nat->Nat->Prop) (au:Nat->Value),bq w0 F0 X F S s au w->(∀t,t∉D->fJ t=au t)->∃aJ,bq w0 F0 X F aJ (vY s D) fJ w/\∀u b,aJ u b->S u b
 |[],s,S,au,h,he=>⟨S,by
  have:fJ=au:=funext λt=>he t (by simp);rw[this];exact h,λ_ _ h=>h⟩
 |t::D,s,S,au,h,he=>by
  have h1:bq w0 F0 X F (fY S t (λ_=>False)) (fin s (some t) .hole) (cK au t (fJ t)) w:=h.aal;obtain⟨aJ,ab,ay⟩:=Q3 (fJ:=fJ) D _ _ (cK au t (fJ t)) h1 λu hu=>by
   by_cases e:u=t
   .subst e;simp[cK]
   .rw[ju _ _ e];exact he u (by simp[e,hu])
  refine⟨aJ,ab,λu b R=>?_⟩;have:=ay u b R;unfold fY at this;split at this
  .exact this.elim
  .exact this
def sU (s:an):anY->Prop
 |[]=>True
 |p::L=>view s (mi p.1 (s p.1))=some p.2/\sU s L
theorem Q4 {s:an}:∀{L:anY},sU s L->∀p∈L,view s (mi p.1 (s p.1))=some p.2
 |[],_,p,al=>by cases al
 |q::L,h,p,al=>by
  rcases mem_cons.1 al with rfl|al
  .exact h.1
  .exact Q4 h.2 p al
theorem aaZ (bb:C.Ok) {id:Nat} {ops:Array Oper} {ros:List bt} {L:anY} {d:Nat} {av:I} (j9:kN n ops ops.toList=some (ros.map bt.un)) (ax:Rel w0 F0 X n ρ s a w) (jC:sU s L)
  (aL:av.tree=true) (o0:av.ch=true) (h:iq C (aj L) ros λs1=>s1 d=av)
  (aN:∀bN aq,Rel w0 F0 X n ρ (fin (vY s (ros.filterMap (·.dst))) (some d) av) bN aq->Q .normal bN aq):(Code.region id ops false).wp C.P Q a w:=by
 obtain⟨iX,dr,hz,F,S,hrel⟩:=ax;have sI:ops.toList.filterMap (·.dst)=ros.filterMap (·.dst):=by
  rw[Q2 j9,filterMap_map];rfl
 let D:=ros.filterMap (·.dst)
 let pK:Fr:=⟨n.n,(range n.n).filter λt=> !D.contains t⟩
 have aa0:kN pK ops ops.toList=some (ros.map bt.un):=Q1 j9 rfl λo a1 t Hy lk=>by
  have h1:=(mem_filter.1 lk).2;have ab:t∈D:=by
   show t∈ros.filterMap (·.dst);rw[<-sI];exact mem_filterMap.2 ⟨o,a1,Hy⟩
  simp[ab]at h1
 let au:Nat->Value:=λt=>a.tmps.getD t undef
 let Fc:Nat->Prop:=λb=>F b\/∃u,S u b
 have pre:bq w Fc (λ_=>False) Fc (λ_ _=>False) (aj L) au w:=by
  refine⟨λ_ h=>h,λ_ h=>.inl h,?_,λ_ _ h=>h.elim,λ_ _ h=>h.elim,λ_ _ _ _ h=>h.elim,λ_ _ h=>h.elim,?_,λ_ _ _=>rfl,Nat.le_refl _,rfl,rfl,Out.refl _,hrel.e4.next hrel.size hrel.old λb R=>R.elim⟩
  .rintro b (R|⟨u,hu⟩)
   .exact hrel.dV b R
   .exact hrel.dh u b hu
  .intro t;rcases HG L t with ba|⟨p,al,rfl,ba⟩
   .rw[ba,aF];trivial
   .rw[ba];have aD:=Q4 jC p al;have eA:(mi p.1 (s p.1)).plain=true:=by
     unfold mi;split
     .assumption
     .rfl
    obtain⟨f1,f2⟩:=e9 (a:=a) hrel (λ_=>rfl) (show dz (.tmp p.1)=some (.t p.1)from rfl);exact aF.nothing (Ob eA aD) ((Oc hrel (Fc:=Fc) (λb R=>.inl R) (SizeOf.sizeOf (mi p.1 (s p.1)))).1 _ _ p.2 (Nat.le_refl _) (λu _ b R=>.inr ⟨u,R⟩) aD f2)
 have dA:Rel w Fc (λ_=>False) pK au (aj L) a w:=⟨iX,dr,λ_ _=>rfl,Fc,_,pre⟩
 refine Ox bb aa0 (K:=λs1=>s1 d=av) (λs1 bN aq hk rK=>?_) h dA;obtain⟨aa1,De,aa2,tP,bR,rV⟩:=rK;have keep:∀b,b<w.heap.size->aq.heap[b]? =w.heap[b]? :=λb R=>rV.old b R (λh=>h);have same:∀t,t∉D->bN.tmps.getD t undef=a.tmps.getD t undef:=by
  intro t aa3;by_cases cp:t<n.n
  .exact aa2 t (mem_filter.2 ⟨mem_range.2 cp,by simpa using aa3⟩)
  .have aI:bN.tmps.getD t undef=undef:=by
    rw[Array.getD_eq_getD_getElem?,Array.getElem?_eq_none (by rw[De];exact Nat.le_of_not_lt cp)];rfl
   have aM:a.tmps.getD t undef=undef:=by
    rw[Array.getD_eq_getD_getElem?,Array.getElem?_eq_none (by rw[dr];exact Nat.le_of_not_lt cp)];rfl
   rw[aI,aM]
 have Nk:=hrel.grow (aq:=aq) keep rV.size rV.os rV.tape rV.output;obtain⟨cH,hN,eV⟩:=Q3 (fJ:=λt=>bN.tmps.getD t undef) D s S _ Nk same;have hP:=rV.cD d;rw[hk]at hP;obtain⟨v1,v2⟩:=(aF.b_ aL).1 hP;have IF:∀b,bR d b->w.heap.size<=b:=λb R=>(rV.cR d b R).resolve_left λh=>h;obtain⟨kH,xx⟩:=hN.fin (av:=av) (v:=bN.tmps.getD d undef) (.inr ⟨aL,v1,bR d,ar.ch av _ _ o0 v2,λb R=>rV.dh d b R,λb R a8=>by
  have:=hrel.dV b a8;have:=IF b R;omega,λu b R hu=>by
  have:=hrel.dh u b (eV u b hu);have:=IF b R;omega,λb R=>.inr (Nat.le_trans hrel.size (IF b R))⟩) (some d)
 have aa4:oi (λt=>bN.tmps.getD t undef) (some d) (bN.tmps.getD d undef)=λt=>bN.tmps.getD t undef:=by
  funext u;simp only[oi,cK];split
  .rename_i e;rw[e]
  .rfl
 rw[aa4]at xx;refine aN bN aq ⟨aa1,De,λi ak=>?_,F,kH,xx⟩;rw[same i ?_]
 .exact hz i ak
 .intro IG;have IG:i∈ops.toList.filterMap (·.dst):=by rw[sI];exact IG
  obtain⟨o,a1,vS⟩:=mem_filterMap.1 IG;obtain⟨j,bo⟩:=getElem?_of_mem a1;obtain⟨r,_,ab⟩:=(xL j9).2 j o bo;unfold lh at ab;split at ab
  .rename_i oW;rw[vS]at oW;simp only[kM,Bool.and_eq_true,decide_eq_true_eq,Bool.not_eq_true',contains_eq_mem,decide_eq_false_iff_not]at oW;exact oW.2 ak
  .cases ab
def yc (C:bx) (ros:List bt) (d:Nat) (keep:anU):(Exit->an->Prop)->an->Prop:=
 λQ s=>∃(L:anY) (av:I),sU s L/\av.tree=true/\av.ch=true/\(cq C (aj L) ros none λ_ s1=>s1 d=av)/\di (Q .normal) (aj (fo keep (fin (vY s (ros.filterMap (·.dst))) (some d) av)))
def IH (ros:List bt):aH:=.ew ros none
def vZ (C:bx) (T:(Exit->an->Prop)->an->Prop) (b:aH):Prop:=∃(ros:List bt) (d:Nat) (keep:anU),T=yc C ros d keep/\b=IH ros
end
section
variable {C:bx} {w0 w:World} {F0 X:Nat->Prop} {n:Fr} {ρ:Nat->Value} {s:an} {a:Act}
theorem Q5 (bb:C.Ok) {c:Code} {T:(Exit->an->Prop)->an->Prop} {b:aH} {Q:Exit->an->Prop} (eZ:vZ C T b) (U:fh n c=some b.strip) (h:T Q s) (ax:Rel w0 F0 X n ρ s a w):c.wp C.P (o3 w0 F0 X n ρ Q) a w:=by
 obtain⟨ros,d,keep,rfl,rfl⟩:=eZ;obtain⟨id,ops,rfl,j9⟩:=D0 U;obtain⟨L,av,jC,aL,o0,hw,ca⟩:=h;refine aaZ bb j9 ax jC aL o0 (rO (λ_ _ h=>h) hw) λbN aq dA=>?_;have ui:di (di (Q .normal)) (fin (vY s (ros.filterMap (·.dst))) (some d) av):=.inr ⟨_,DZ keep _,ca⟩;obtain⟨s2,g1,g2⟩:=dA.di ui;exact g2.di g1
theorem aY.aa5 (bb:C.Ok) {f:FuncId} {fn:Func} {c:Code} {dM:aH} {fx:anU} {as outs:anZ} {r:I} (dY:List ResultVar) (l:anY) (bc:C.P.funcs[f]? =some fn) (R:fn.body=some c)
  (jV:(fn.name== "runtime.NumGoroutine")=false) (U:fh ⟨fn.ntmps,fx⟩ c=some dM.strip) (aN:as.length<=fn.ntmps) (hk:dM.lN (vZ C)) (eC:fn.results.toList=dY) (hl:num 0 as=l)
  (h:∀Q:Exit->an->Prop,(∀s,di (Ends C fx dY r outs) s->Q .ret s)->(∀s,di (Ends C fx dY r outs) s->Q .normal s)->bh C dM Q (aj l)):aY C f as r outs:=by
 subst eC hl;intro w F X S vs hl ax;refine AG (fx:=fx) bb bc R jV aN hl ax λa hrel dW=>?_;refine AE bb (H:=vZ C) (λc T b Q s a w fK kT aL ax=>Q5 bb fK kT aL ax) c (by rw[aH.AA];exact U) (aH.AB dM hk) (AD dM ?_) hrel;rw[xO];exact h _ (λs h=>⟨.inr rfl,h⟩) (λs h=>⟨.inl rfl,h⟩)
end
def yd (l:anY):anU->anY
 |[]=>l
 |t::D=>yd ((t,.hole)::l) D
theorem Q6:∀(D:anU) (l:anY),vY (aj l) D=aj (yd l D)
 |[],_=>rfl
 |t::D,l=>by
  simp only[vY,yd];have:fin (aj l) (some t) .hole=aj ((t,.hole)::l):=by simp only[fin,I.plain];exact rL l t .hole
  rw[this,Q6 D]
theorem aa6 {C:bx} {Q:Exit->an->Prop} {l:anY} {ros:List bt} {d:Nat} {keep:anU} {b:aH} (bV L:anY) (av:I) (aL:av.tree=true) (o0:av.ch=true) (h1:sU (aj l) L)
  (ab:∀P:I->Prop,P av->cq C (aj L) ros none λ_ s1=>P (s1 d)) (ay:∀P:anY->Prop,P bV->P (fo keep (fin (aj (yd l (ros.filterMap (·.dst)))) (some d) av))) (hk:di (Q .normal) (aj bV)):
  bh C (.gF (yc C ros d keep) b) Q (aj l):=by
 intro ee A_;refine⟨L,av,h1,aL,o0,ab (λx=>x=av) rfl,?_⟩;rw[Q6];exact ay (λl=>di (ee .normal) (aj l)) (sJ (λ_ h=>A_ _ _ h) _ hk)
theorem aa7 {C:bx} {Q:Exit->an->Prop} {l:anY} {ros:List bt} {d:Nat} {keep:anU} {b e:aH} (bV L:anY) (av:I) (aL:av.tree=true) (o0:av.ch=true) (h1:sU (aj l) L)
  (ab:∀P:I->Prop,P av->cq C (aj L) ros none λ_ s1=>P (s1 d)) (ay:∀P:anY->Prop,P bV->P (fo keep (fin (aj (yd l (ros.filterMap (·.dst)))) (some d) av))) (hk:di (bh C e Q) (aj bV)):
  bh C (.seq (.gF (yc C ros d keep) b) e) Q (aj l):=aa6 (b:=b) bV L av aL o0 h1 ab ay (.inl hk)
theorem Q7 {C:bx} {Q:Exit->an->Prop} {l:anY} {ros:List bt} {d:Nat} {keep:anU} {b e:aH} (bV L:anY) (av:I) (aL:av.tree=true) (o0:av.ch=true) (h1:sU (aj l) L)
  (ab:∀P:I->Prop,P av->cq C (aj L) ros none λ_ s1=>P (s1 d)) (ay:∀P:anY->Prop,P bV->P (fo keep (fin (aj (yd l (ros.filterMap (·.dst)))) (some d) av))) (hk:bh C e Q (aj bV)):
  bh C (.seq (.gF (yc C ros d keep) b) e) Q (aj l):=aa7 (b:=b) bV L av aL o0 h1 ab ay (.inl hk)
end Go.cC
