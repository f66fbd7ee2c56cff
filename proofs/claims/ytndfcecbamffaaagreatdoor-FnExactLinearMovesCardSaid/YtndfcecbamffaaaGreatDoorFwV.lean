/- Part of a proof that a law returns true for every input. No condition. -/
import Derived.Test.YtndfcecbamffaaaGreatDoorFwL
namespace Go.cG
open List Go.IntKind Nat Or
section
variable {C:bz} {w0 w:World} {F0 X F:Nat->Prop} {S:Nat->Nat->Prop} {n:Fr} {ρ:Nat->Value} {s:ag} {a:Act} {Q:Exit->Act->World->Prop}
theorem S0 {nG:Fr} {ops:Array Oper} {o:Oper} {r:bn} (h:jT n ops o=some r) (aO:nG.n=n.n) (ad:∀t,o.dst=some t->t∉nG.fx):jT nG ops o=some r:=by
 unfold jT at h⊢;split at h
 .rename_i ak;rw[if_pos]
  .exact h
  .cases a_:o.dst with
   |none=>rfl
   |some t=>
    rw[a_]at ak;simp only[jB,Bool.and_eq_true,decide_eq_true_eq,Bool.not_eq_true',contains_eq_mem,decide_eq_false_iff_not]at ak⊢;exact⟨by rw[aO];exact ak.1,ad t a_⟩
 .cases h
theorem KW {nG:Fr} {ops:Array Oper}:∀{os:List Oper} {rs:List bn},jC n ops os=some rs->nG.n=n.n->(∀o∈os,∀t,o.dst=some t->t∉nG.fx)->jC nG ops os=some rs
 |[],_,h,_,_=>h
 |o::os,rs,h,aO,ad=>by
  simp only[jC]at h⊢;split at h
  .rename_i r Ik R U;rw[S0 R aO (ad o (by simp)),KW U aO λo a_=>ad o (by simp[a_])];exact h
  .cases h
theorem KX {ops:Array Oper}:∀{os:List Oper} {rs:List bn},jC n ops os=some rs->os.filterMap (·.dst)=rs.filterMap (·.dst)
 |[],_,h=>by simp only[jC,Option.some.injEq]at h;subst h;rfl
 |o::os,rs,h=>by
  simp only[jC]at h;split at h
  .rename_i r Ik R U;simp only[Option.some.injEq]at h;subst h;have aD:r.dst=o.dst:=by
    unfold jT at R;split at R
    .split at R
     .simp only[Option.some.injEq]at R;subst R;rfl
     .cases R
    .cases R
   simp only[filterMap_cons,aD,KX U]
  .cases h
def s0 (s:ag):ace->ag
 |[]=>s
 |t::D=>s0 (fin s (some t) .hole) D
theorem KY {gP:Nat->Value}:∀(D:ace) (s:ag) (S:Nat->Nat->Prop) (an:Nat->Value),bm w0 F0 X F S s an w->(∀t,t∉D->gP t=an t)->∃aG,bm w0 F0 X F aG (s0 s D) gP w/\∀u b,aG u b->S u b
 |[],s,S,an,h,he=>⟨S,by
  have:gP=an:=funext λt=>he t (by simp);rw[this];exact h,λ_ _ h=>h⟩
 |t::D,s,S,an,h,he=>by
  have R:bm w0 F0 X F (fg S t (λ_=>False)) (fin s (some t) .hole) (cw an t (gP t)) w:=h.St;obtain⟨aG,U,aw⟩:=KY (gP:=gP) D _ _ (cw an t (gP t)) R λu hu=>by
   by_cases e:u=t
   .subst e;simp[cw]
   .rw[ia _ _ e];exact he u (by simp[e,hu])
  refine⟨aG,U,λu b I=>?_⟩;have:=aw u b I;unfold fg at this;split at this
  .exact this.elim
  .exact this
def qo (s:ag):aci->Prop
 |[]=>True
 |p::L=>view s (kC p.1 (s p.1))=some p.2/\qo s L
theorem KZ {s:ag}:∀{L:aci},qo s L->∀p∈L,view s (kC p.1 (s p.1))=some p.2
 |[],_,p,ai=>by cases ai
 |q::L,h,p,ai=>by
  rcases mem_cons.1 ai with rfl|ai
  .exact h.1
  .exact KZ h.2 p ai
theorem S1 (a1:C.du) {id:Nat} {ops:Array Oper} {ros:List bn} {L:aci} {d:Nat} {av:j} (iO:jC n ops ops.toList=some (ros.map bn.un)) (aD:Rel w0 F0 X n ρ s a w) (nL:qo s L)
  (aK:av.tree=true) (mN:av.b5=true) (h:hp C (ah L) ros λs1=>s1 d=av)
  (aO:∀bG au,Rel w0 F0 X n ρ (fin (s0 s (ros.filterMap (·.dst))) (some d) av) bG au->Q .normal bG au):(Code.region id ops false).wp C.P Q a w:=by
 obtain⟨hJ,dm,gF,F,S,hrel⟩:=aD;have qe:ops.toList.filterMap (·.dst)=ros.filterMap (·.dst):=by
  rw[KX iO,filterMap_map];rfl
 let D:=ros.filterMap (·.dst)
 let nG:Fr:=⟨n.n,(range n.n).filter λt=> !D.contains t⟩
 have S2:jC nG ops ops.toList=some (ros.map bn.un):=KW iO rfl λo a_ t CC xd=>by
  have R:=(mem_filter.1 xd).2;have U:t∈D:=by
   show t∈ros.filterMap (·.dst);rw[<-qe];exact mem_filterMap.2 ⟨o,a_,CC⟩
  simp[U]at R
 let an:Nat->Value:=λt=>a.tmps.getD t undef
 let Fc:Nat->Prop:=λb=>F b\/∃u,S u b
 have pre:bm w Fc (λ_=>False) Fc (λ_ _=>False) (ah L) an w:=by
  refine⟨λ_ h=>h,λ_ h=>.inl h,?_,λ_ _ h=>h.elim,λ_ _ h=>h.elim,λ_ _ _ _ h=>h.elim,λ_ _ h=>h.elim,?_,λ_ _ _=>rfl,Nat.le_refl _,rfl,rfl,Out.refl _,hrel.fu.next hrel.size hrel.old λb I=>I.elim⟩
  .rintro b (I|⟨u,hu⟩)
   .exact hrel.dP b I
   .exact hrel.dt u b hu
  .intro t;rcases CN L t with bg|⟨p,ai,rfl,bg⟩
   .rw[bg,az];trivial
   .rw[bg];have aE:=KZ nL p ai;have dQ:(kC p.1 (s p.1)).plain=true:=by
     unfold kC;split
     .assumption
     .rfl
    obtain⟨f1,f2⟩:=eB (a:=a) hrel (λ_=>rfl) (show c2 (.tmp p.1)=some (.t p.1)from rfl);exact az.nothing (H2 dQ aE) ((H3 hrel (Fc:=Fc) (λb I=>.inl I) (SizeOf.sizeOf (kC p.1 (s p.1)))).1 _ _ p.2 (Nat.le_refl _) (λu _ b I=>.inr ⟨u,I⟩) aE f2)
 have c3:Rel w Fc (λ_=>False) nG an (ah L) a w:=⟨hJ,dm,λ_ _=>rfl,Fc,_,pre⟩
 refine Io a1 S2 (K:=λs1=>s1 d=av) (λs1 bG au ak pn=>?_) h c3;obtain⟨S3,yV,S4,q8,bT,pC⟩:=pn;have keep:∀b,b<w.heap.size->au.heap[b]? =w.heap[b]? :=λb I=>pC.old b I (λh=>h);have same:∀t,t∉D->bG.tmps.getD t undef=a.tmps.getD t undef:=by
  intro t S5;by_cases cW:t<n.n
  .exact S4 t (mem_filter.2 ⟨mem_range.2 cW,by simpa using S5⟩)
  .have aH:bG.tmps.getD t undef=undef:=by
    rw[Array.getD_eq_getD_getElem?,Array.getElem?_eq_none (by rw[yV];exact Nat.le_of_not_lt cW)];rfl
   have aN:a.tmps.getD t undef=undef:=by
    rw[Array.getD_eq_getD_getElem?,Array.getElem?_eq_none (by rw[dm];exact Nat.le_of_not_lt cW)];rfl
   rw[aH,aN]
 have Hc:=hrel.grow (au:=au) keep pC.size pC.os pC.tape pC.output;obtain⟨cI,j5,ef⟩:=KY (gP:=λt=>bG.tmps.getD t undef) D s S _ Hc same;have gZ:=pC.cz d;rw[ak]at gZ;obtain⟨v1,v2⟩:=(az.b8 aK).1 gZ;have DE:∀b,bT d b->w.heap.size<=b:=λb I=>(pC.cS d b I).resolve_left λh=>h;obtain⟨p6,yU⟩:=j5.fin (av:=av) (v:=bG.tmps.getD d undef) (.inr ⟨aK,v1,bT d,al.b5 av _ _ mN v2,λb I=>pC.dt d b I,λb I aZ=>by
  have:=hrel.dP b aZ;have:=DE b I;omega,λu b I hu=>by
  have:=hrel.dt u b (ef u b hu);have:=DE b I;omega,λb I=>.inr (Nat.le_trans hrel.size (DE b I))⟩) (some d)
 have S6:mc (λt=>bG.tmps.getD t undef) (some d) (bG.tmps.getD d undef)=λt=>bG.tmps.getD t undef:=by
  funext u;simp only[mc,cw];split
  .rename_i e;rw[e]
  .rfl
 rw[S6]at yU;refine aO bG au ⟨S3,yV,λi ax=>?_,F,p6,yU⟩;rw[same i ?_]
 .exact gF i ax
 .intro DF;have DF:i∈ops.toList.filterMap (·.dst):=by rw[qe];exact DF
  obtain⟨o,a_,sT⟩:=mem_filterMap.1 DF;obtain⟨aB,cp⟩:=getElem?_of_mem a_;obtain⟨r,_,U⟩:=(uk iO).2 aB o cp;unfold jT at U;split at U
  .rename_i mH;rw[sT]at mH;simp only[jB,Bool.and_eq_true,decide_eq_true_eq,Bool.not_eq_true',contains_eq_mem,decide_eq_false_iff_not]at mH;exact mH.2 ax
  .cases U
def uU (C:bz) (ros:List bn) (d:Nat) (keep:ace):(Exit->ag->Prop)->ag->Prop:=
 λQ s=>∃(L:aci) (av:j),qo s L/\av.tree=true/\av.b5=true/\(ch C (ah L) ros none λ_ s1=>s1 d=av)/\c1 (Q .normal) (ah (eM keep (fin (s0 s (ros.filterMap (·.dst))) (some d) av)))
def DG (ros:List bn):aI:=.dJ ros none
def s3 (C:bz) (T:(Exit->ag->Prop)->ag->Prop) (b:aI):Prop:=∃(ros:List bn) (d:Nat) (keep:ace),T=uU C ros d keep/\b=DG ros
end
section
variable {C:bz} {w0 w:World} {F0 X:Nat->Prop} {n:Fr} {ρ:Nat->Value} {s:ag} {a:Act}
theorem K0 (a1:C.du) {c:Code} {T:(Exit->ag->Prop)->ag->Prop} {b:aI} {Q:Exit->ag->Prop} (el:s3 C T b) (J:eI n c=some b.strip) (h:T Q s) (aD:Rel w0 F0 X n ρ s a w):c.wp C.P (mQ w0 F0 X n ρ Q) a w:=by
 obtain⟨ros,d,keep,rfl,rfl⟩:=el;obtain⟨id,ops,rfl,iO⟩:=zx J;obtain⟨L,av,nL,aK,mN,hw,cb⟩:=h;refine S1 a1 iO aD nL aK mN (pt (λ_ _ h=>h) hw) λbG au c3=>?_;have zG:c1 (c1 (Q .normal)) (fin (s0 s (ros.filterMap (·.dst))) (some d) av):=.inr ⟨_,zw keep _,cb⟩;obtain⟨s2,g1,g2⟩:=c3.c1 zG;exact g2.c1 g1
theorem bb.S7 (a1:C.du) {f:FuncId} {fn:Func} {c:Code} {df:aI} {fx:ace} {as outs:acj} {r:j} (dw:List ResultVar) (l:aci) (bf:C.P.funcs[f]? =some fn) (I:fn.body=some c)
  (i7:(fn.name== "runtime.NumGoroutine")=false) (J:eI ⟨fn.ntmps,fx⟩ c=some df.strip) (aO:as.length<=fn.ntmps) (ak:df.kc (s3 C)) (eO:fn.results.toList=dw) (hl:num 0 as=l)
  (h:∀Q:Exit->ag->Prop,(∀s,c1 (Ends C fx dw r outs) s->Q .ret s)->(∀s,c1 (Ends C fx dw r outs) s->Q .normal s)->bw C df Q (ah l)):bb C f as r outs:=by
 subst eO hl;intro w F X S vs hl aD;refine wT (fx:=fx) a1 bf I i7 aO hl aD λa hrel dv=>?_;refine wR a1 (H:=s3 C) (λc T b Q s a w e1 nT aK aD=>K0 a1 e1 nT aK aD) c (by rw[aI.wN];exact J) (aI.wO df ak) (wQ df ?_) hrel;rw[wV];exact h _ (λs h=>⟨.inr rfl,h⟩) (λs h=>⟨.inl rfl,h⟩)
end
def uV (l:aci):ace->aci
 |[]=>l
 |t::D=>uV ((t,.hole)::l) D
theorem K1:∀(D:ace) (l:aci),s0 (ah l) D=ah (uV l D)
 |[],_=>rfl
 |t::D,l=>by
  simp only[s0,uV];have:fin (ah l) (some t) .hole=ah ((t,.hole)::l):=by simp only[fin,j.plain];exact po l t .hole
  rw[this,K1 D]
theorem S8 {C:bz} {Q:Exit->ag->Prop} {l:aci} {ros:List bn} {d:Nat} {keep:ace} {b:aI} (bR L:aci) (av:j) (aK:av.tree=true) (mN:av.b5=true) (R:qo (ah l) L)
  (U:∀P:j->Prop,P av->ch C (ah L) ros none λ_ s1=>P (s1 d)) (aw:∀P:aci->Prop,P bR->P (eM keep (fin (ah (uV l (ros.filterMap (·.dst)))) (some d) av))) (ak:c1 (Q .normal) (ah bR)):
  bw C (.fM (uU C ros d keep) b) Q (ah l):=by
 intro dy xm;refine⟨L,av,R,aK,mN,U (λx=>x=av) rfl,?_⟩;rw[K1];exact aw (λl=>c1 (dy .normal) (ah l)) (qf (λ_ h=>xm _ _ h) _ ak)
theorem S9 {C:bz} {Q:Exit->ag->Prop} {l:aci} {ros:List bn} {d:Nat} {keep:ace} {b e:aI} (bR L:aci) (av:j) (aK:av.tree=true) (mN:av.b5=true) (R:qo (ah l) L)
  (U:∀P:j->Prop,P av->ch C (ah L) ros none λ_ s1=>P (s1 d)) (aw:∀P:aci->Prop,P bR->P (eM keep (fin (ah (uV l (ros.filterMap (·.dst)))) (some d) av))) (ak:c1 (bw C e Q) (ah bR)):
  bw C (.seq (.fM (uU C ros d keep) b) e) Q (ah l):=S8 (b:=b) bR L av aK mN R U aw (.inl ak)
theorem K2 {C:bz} {Q:Exit->ag->Prop} {l:aci} {ros:List bn} {d:Nat} {keep:ace} {b e:aI} (bR L:aci) (av:j) (aK:av.tree=true) (mN:av.b5=true) (R:qo (ah l) L)
  (U:∀P:j->Prop,P av->ch C (ah L) ros none λ_ s1=>P (s1 d)) (aw:∀P:aci->Prop,P bR->P (eM keep (fin (ah (uV l (ros.filterMap (·.dst)))) (some d) av))) (ak:bw C e Q (ah bR)):
  bw C (.seq (.fM (uU C ros d keep) b) e) Q (ah l):=S9 (b:=b) bR L av aK mN R U aw (.inl ak)
end Go.cG
