/- Part of a proof that a law returns true for every input. No condition. -/
import Derived.Test.YtndfcecbamffaaaGreatFwJ
import Derived.Test.YtndfcecbamffaaaGreatFwL
namespace Go.c3
open List Go.IntKind Nat Or
section
variable {C:bH} {w0 w aB:World} {F0 X F bC:Nat->Prop} {S aO:Nat->Nat->Prop} {n:Fr} {ρ:Nat->Value} {s az s1:ak} {aw jy:Nat->Value} {a:Act} {av:I} {Q:Exit->Act->World->Prop}
def r0 (s:ak) (k:Nat) (av:I):Option (I×ak):=match av with
 | .h x q=>match I.sub q (s x)with
   |some (.agg ds)=>match ds[k]? with
    |some d=>if d.plain=true then none else some (.agg ((I.hJ ds).set k d),cg (e0 x s) x (I.put (q++[k]) d.ct (s x)))
    |none=>none
   |_=>none
 |_=>none
theorem AB:∀ds:afh,I.hJ ds=ds.map I.ct
 |[]=>rfl
 |d::ds=>by simp[I.hJ,AB ds]
theorem Ut (ds:afh) (k:Nat):I.dh ((I.hJ ds).take k)=I.dh (ds.take k):=by
 have:(I.hJ ds).take k=I.hJ (ds.take k):=by rw[AB,AB,map_take]
 rw[this,I.zl]
theorem Uu {ds:afh} {k:Nat} {d:I} (aj:ds[k]? =some d) (au:d.plain=false):I.eb ds=false:=by
 cases h:I.eb ds with
 |false=>rfl
 |true=>rw[wD h aj]at au;cases au
theorem Uv (h:bw w0 F0 X F S s aw w) {k:Nat} {av bh:I} {v:Value} (aH:aG w F s aw av v (λ_=>False)) (aP:r0 s k av=some (bh,s1)):
  ∃x q d sz,av= .h x q/\I.sub (q++[k]) (s x)=some d/\d.plain=false/\s1=cg (e0 x s) x (I.put (q++[k]) d.ct (s x))/\bh= .agg sz/\∃S1,bw w0 F0 X F S1 s1 aw w/\dc bh v/\∃Sn,ao w F bh (bX v) Sn/\(∀b,Sn b->b<w.heap.size)/\(∀b,Sn b->¬F b)/\(∀u b,Sn b->¬S1 u b)/\(∀b,Sn b->X b\/w0.heap.size<=b):=by
 unfold r0 at aP;split at aP
 .rename_i x q;split at aP
  .rename_i ds he;split at aP
   .rename_i d aj;split at aP
    .cases aP
    .rename_i au;have au:d.plain=false:=by simpa using au
     simp only[Option.some.injEq,Prod.mk.injEq]at aP;obtain⟨rfl,rfl⟩:=aP;have ai:I.sub (q++[k]) (s x)=some d:=by rw[um _ _ _ _ he];simp[I.sub,aj]
     have uJ:(I.agg ds).plain=false:=by simp only[I.plain];exact Uu aj au
     rw[aG]at aH;obtain⟨zq,aW,aV,ba,bT⟩:=aH _ he uJ;obtain⟨Sn,eF,b7,ca,dR,bx,e1,bR,cQ,dF,fe⟩:=h.take ai au;have al:=h.cV x;rw[aG.cd (gx he (.inl uJ))]at al;obtain⟨ad2,fm,dB,ad3,i4,_,_,_,jS,_⟩:=ctx q (s x) (bX (aw x)) (S x) none _ al.2 he;rw[aV]at i4;simp only[Option.some.injEq,Prod.mk.injEq,true_and]at i4;obtain⟨rfl,rfl⟩:=i4;rw[ao]at jS;have qx:=sw w q (s x) _ _ _ none _ [k] aV;rw[bx]at qx;simp only[cj,aj,Option.some.injEq,Prod.mk.injEq,true_and]at qx;have Ib:b7=(zq.drop (I.dh (ds.take k))).take d.wd:=qx.1;have Uw:=aX.ct ds zq _ (λ_=>False) jS;have Ux:(I.hJ ds)[k]? =some d.ct:=by rw[AB,getElem?_map,aj];rfl
     obtain⟨bA,dQ,bK,zX,sV,e,eZ,dD,ej,fV,dE,ia⟩:=aX.pick (I.hJ ds) zq _ k d.ct Uw Ux;rw[Ut]at eZ;have Uy:b7=dQ:=by
      rw[Ib,e];exact nO bA dQ bK _ _ eZ (by rw[ao.length _ _ _ dE,I.py])
     subst Uy;have fF:=ia w d b7 eF (λ_ _=>rfl) (λ_ _=>rfl) e1 (λb _ U=>dD b U);refine⟨x,q,d,_,rfl,ai,au,rfl,rfl,_,dR,?_,λb=>zX b\/eF b,?_,?_,?_,?_,?_⟩
     .exact bT
     .rw[ba,ao];rw[<-e]at fF;exact fF
     .rintro b (U|U)
      .exact(dD b U).elim
      .exact h.ek x b (bR b U)
     .rintro b (U|U)
      .exact(dD b U).elim
      .exact h.fC x b (bR b U)
     .rintro u b (U|U) hu
      .exact dD b U
      .simp only[gf]at hu;split at hu
       .exact dF b U hu
       .rename_i CQ;exact h.e9 u x b CQ hu (bR b U)
     .rintro b (U|U)
      .exact(dD b U).elim
      .exact h.c7 x b (bR b U)
   .cases aP
  .cases aP
 .cases aP
theorem Uz (h:bw w0 F0 X F S s aw w) {x:Nat} {p q:afc} {i:Nat} {r:afc} {d e:I} {sz:Nat} {xs:afh} {v:Value} (cF:q=p++(i::r)) (au:I.sub p (s x)=some (.ag sz xs)) (ai:I.sub q (s x)=some d)
  (he:e.wd=d.wd) {s1:ak} (aa:s1 x=I.put q e (s x)) (aH:aG w F s aw (.h x p) v (λ_=>False)):aG w F s1 aw (.h x p) v (λ_=>False):=by
 rw[aG]at aH⊢;obtain⟨zZ,J,f1,f2,f3⟩:=aH _ au rfl;subst cF;have uJ:=JM p (s x) _ e (i::r) au;obtain⟨sQ,lh⟩:∃sQ,I.put (i::r) e (.ag sz xs)= .ag sz sQ:=by
  simp only[I.put];split
  .exact⟨_,rfl⟩
  .exact⟨_,rfl⟩
 intro aT kW gH;rw[aa,uJ,lh]at kW⊢;rw[zS p (s x) _ _ au]at kW;have kW:=Option.some.inj kW;subst kW;exact⟨zZ,J,DA w p (s x) _ _ _ _ _ _ au rfl f1,f2,f3⟩
def tp:Option afc->Option I->Bool
 |some (_::_),some (.ag _ _)=>true
 |_,_=>false
def r1 (s:ak) (k:Nat) (y a:I):Bool:=match y,a with
 | .h z q,.h y p=>decide (y=z)&&tp (kb p (q++[k])) (I.sub p (s z))
 |_,_=>false
def nb (C:bH) (s:ak) (T:TypeId) (z k u:Nat) (y:I):Option ak:=
 match s z,r0 s k y with
 | .aK d0,some (d,s1)=>if d.wd=d0.wd/\d.wd=(C.T T).sz/\(C.T T).ok=true/\y.owner≠some z/\u≠z/\r1 s k y (s u)=true then some (cg (e0 z (cg s1 u (s u))) z (.aK d))else none
 |_,_=>none
theorem UA (aw:Nat->Value) (t:Nat):cg aw t (aw t)=aw:=by funext u;simp only[cg];split<;>simp_all
theorem UB (a9:C.dL) (h:bw w0 F0 X F S s aw w) {T:TypeId} {z k u:Nat} {y:I} {fD gh:Value} (sB:aG w F s aw (.h z []) fD (λ_=>False)) (wO:aG w F s aw y gh (λ_=>False))
  {s2:ak} (he:nb C s T z k u y=some s2):∃aB aO,(Instr.storeAt T fD gh).run C.P w= .ok () aB/\bw w0 F0 X F aO s2 aw aB:=by
 unfold nb at he;split at he
 .rename_i d0 d s1 bF aP;split at he
  .rename_i oH;obtain⟨ae,af,aF,a1,bt,b_⟩:=oH;simp only[Option.some.injEq]at he;subst he;obtain⟨x,q,e,ds,rfl,ai,au,rfl,rfl,S1,fB,ba,Sn,bT,c6,ea,gy,g9⟩:=Uv h wO aP;have UC:x≠z:=λe=>a1 (by rw[e];rfl);have hl:loc s (.h z [])=some (z,[0]):=by simp[loc,I.sub,bF]
   have hP:I.sub [0] (s z)=some d0:=by simp[I.sub,bF]
   obtain⟨i6,b7,b,o,rfl,hM⟩:=wM h sB hl hP;have uG:(s u).plain=true:=by
    revert b_;cases s u with
    |h y p=>intro _;rfl
    |_=>intro aT;simp[r1]at aT
   have uI:aG w F (cg (e0 x s) x (I.put (q++[k]) e.ct (s x))) aw (s u) (aw u) (λ_=>False):=by
    have hu:=h.cV u;revert b_ hu;cases s u with
    |h e_ p=>
     intro b_ hu;simp only[r1,Bool.and_eq_true,decide_eq_true_eq]at b_;obtain⟨rfl,kt⟩:=b_;cases s0:kb p (q++[k])with
     |none=>rw[s0]at kt;simp[tp]at kt
     |some lr=>
      rw[s0]at kt;have cF:=DN s0;cases mv:I.sub p (s e_)with
      |none=>rw[mv]at kt;cases lr<;>simp[tp]at kt
      |some d2=>
       rw[mv]at kt;cases lr with
       |nil=>simp[tp]at kt
       |cons i lr=>
        cases d2 with
        |ag sz xs=>
         rw[aG]at hu;exact Uz h cF mv ai (I.py e) (lg _ _ _) (by rw[aG];exact hu)
        |_=>simp[tp]at kt
    |_=>intro aT;simp[r1]at aT
   have aV:=fB.uj (t:=u) (d:=s u) (v:=aw u) uG uI;rw[UA]at aV;generalize ER:cg (cg (e0 x s) x (I.put (q++[k]) e.ct (s x))) u (s u)=iE at aV⊢;have cO:iE z=s z:=by
    rw[<-ER,h2 _ _ (λe=>bt e.symm),h2 _ _ (λe=>UC e.symm)];show b5 x (s z)=s z;rw[bF];rfl
   have iP:cg (e0 z iE) z (.aK (.agg ds))=cg (e0 z iE) z (I.put [0] (.agg ds) (iE z)):=by rw[cO,bF];rfl
   rw[iP];rw[<-cO]at hP i6 hM;obtain⟨fk,eN,l,r,cur,gd,fr,k0,bU,ch,dd,cW⟩:=aV.store hP i6 bT ae c6 ea (λUD b U hu=>by
    simp only[gf]at hu;split at hu
    .exact hu
    .exact gy UD b U hu) g9
   rw[hM]at k0;simp only[Option.some.injEq,Prod.mk.injEq,true_and]at k0;obtain⟨rfl,rfl,rfl⟩:=k0;obtain⟨i,sD,mX,aT,a3,aY,b1,cI,bQ,bL⟩:=a9.info aF;have hlen:=ao.length _ _ _ bT;have hm:b7.length=(bX gh).length:=by
    have lJ:=aV.cV z;rw[aG.cd (gx hP (.inr i6))]at lJ;obtain⟨_,_,_,_,i4,_,_,_,jS,_⟩:=ctx [0] (iE z) (bX (aw z)) _ none _ lJ.2 hP;rw[hM]at i4;simp only[Option.some.injEq,Prod.mk.injEq,true_and]at i4;rw[i4.1,ao.length _ _ _ jS,hlen,ae]
   obtain⟨aB,el,fJ,gU,jT,j9,lK,m0⟩:=uq (P:=C.P) (b:=b) (o:=l.length) (e:=gd) (fr:=fr) (bX gh) 0 cur w l b7 r bU dd ch rfl hm (ao.qu _ _ _ bT);obtain⟨aO,ed⟩:=cW aB fJ gU jT j9 lK m0;refine⟨aB,aO,?_,ed⟩;have lL:=sA ba (λay e=>by cases e);simp[Instr.storeAt,Instr.sureAddr,storeVar,iR aT,a3,lL,hlen,af,el]
  .cases he
 .cases he
theorem UE (a9:C.dL) {id:Nat} {ops:Array Oper} {m rest:List bJ} {iY:bJ} (EV:iY.guard=none) {X0:ak->(ak->Prop)->Prop} {K:ak->Prop}
  (mx:oT n ops ops.toList=some ((m++iY::rest:List bJ).map bJ.un)) (aR:Rel w0 F0 X n ρ s a w)
  (kd:∀(s1:ak) (ab:Act) (hW:World) (jI:Oper) (next:Act->World->Prop),lq n ops jI=some iY.un->jI.guard=none->X0 s1 (λs2=>ja C s2 rest K)->Rel w0 F0 X n ρ s1 ab hW->
   (∀az ca aB,ja C az rest K->Rel w0 F0 X n ρ az ca aB->next ca aB)->jI.wp C.P ab hW next Q)
  (h:ja C s m λs1=>X0 s1 λs2=>ja C s2 rest K)
  (a4:∀az ca aB,K az->Rel w0 F0 X n ρ az ca aB->Q .normal ca aB):(Code.region id ops false).wp C.P Q a w:=by
 obtain⟨hl,lR⟩:=xf mx;have xJ:∀(i:Nat) (r:bJ),(m++iY::rest:List bJ)[i]? =some r->∃o,ops[i]? =some o/\lq n ops o=some r.un:=by
  intro i r aC;have c5:i<ops.toList.length:=by
   rw[hl,length_map];exact(List.getElem?_eq_some_iff.1 aC).1
  obtain⟨gz,ae,af⟩:=lR i _ (getElem?_eq_getElem c5);rw[getElem?_map,aC]at ae;simp only[Option.map_some,Option.some.injEq]at ae;exact⟨_,by rw[<-Array.getElem?_toList];exact getElem?_eq_getElem c5,by rw[ae];exact af⟩
 have uX:ops.size=m.length+rest.length+1:=by
  have:ops.toList.length=ops.size:=by simp
  rw[<-this,hl];simp;omega
 have Mc:∀(i:Nat) (ros:List bJ),ros=(m++iY::rest:List bJ)->(ops[i]? =none->ros[i]? =none)/\∀o,ops[i]? =some o->∃r,ros[i]? =some r/\lq n ops o=some r.un:=by
  rintro i ros rfl;refine⟨λjn=>?_,λo bO=>?_⟩
  .rw[List.getElem?_eq_none_iff];have:=Array.getElem?_eq_none_iff.1 jn;simp;omega
  .obtain⟨aE,gp,af⟩:=lR i o (by simpa using bO);obtain⟨r,ae,rfl⟩:∃r,(m++iY::rest:List bJ)[i]? =some r/\r.un=aE:=by
    rw[getElem?_map,Option.map_eq_some_iff]at gp;exact gp
   exact⟨r,ae,af⟩
 have xL:range ops.size=(range m.length).map (·+0)++(m.length::(range rest.length).map (·+(m.length+1))):=by
  rw[uX,show m.length+rest.length+1=m.length+(rest.length+1) by omega,range_add,range_succ_eq_map];simp only[List.map_map,map_cons,Nat.add_zero,List.map_id'];congr 1;congr 1;apply map_congr_left;intro x _;simp;omega
 refine wp_region ?_;rw[xL];have hw:=xH C _ m [] (iY::rest) _ h;have w1:∀az ca aB,ja C az rest K->Rel w0 F0 X n ρ az ca aB->wpOps C.P ops Q ((range rest.length).map (·+(m.length+1))) ca aB:=by
  intro iE fm pY aF uY;have s9:=xH C K rest (m++[iY]) [] iE aF;have s7:(m++[iY])++(rest++[])=(m++iY::rest:List bJ):=by simp
  have:=uK (Q:=Q) a9 (ops:=ops) (ros:=(m++[iY])++(rest++[])) (l2:=[]) (K:=K) (λaz ca aB js dS=>a4 az ca aB js dS) ((range rest.length).map (·+(m.length+1))) (λi aC=>Mc i _ s7) iE fm pY (by
   have e:(m++[iY]:List bJ).length=m.length+1:=by simp
   rw[e]at s9;exact s9) uY
  rwa [append_nil]at this
 have mid:∀az ca aB,(X0 az λs2=>ja C s2 rest K)->Rel w0 F0 X n ρ az ca aB->wpOps C.P ops Q (m.length::(range rest.length).map (·+(m.length+1))) ca aB:=by
  intro s2 aW kG al uO;obtain⟨jI,Ez,jz⟩:=xJ m.length iY (by simp);have oW:jI.guard=none:=by
   unfold lq at jz;split at jz
   .split at jz
    .rename_i LA gl;simp only[bJ.un,Option.some.injEq,bJ.mk.injEq]at jz;obtain⟨_,_,aY⟩:=jz;rw[aY,EV]at gl;cases bO:jI.guard with
     |none=>rfl
     |some z5=>rw[bO]at gl;simp only[uH]at gl;split at gl<;>cases gl
    .cases jz
   .cases jz
  simp only[wpOps,Ez];show(if Region.wanted jI (yielded ops aW.tmps)=true then jI.wp C.P aW kG _ Q\/(jI.asks C.P aW kG/\LetsOut Q)else _);rw[if_pos (xg oW)];left;exact kd s2 aW kG jI _ jz oW al uO w1
 have:=uK (Q:=Q) a9 (ops:=ops) (ros:=[]++(m++iY::rest)) (l2:=m.length::(range rest.length).map (·+(m.length+1))) mid
  ((range m.length).map (·+0)) (λi aC=>Mc i _ rfl) s a w (by simpa using hw) aR
 exact this
theorem UF {ops:Array Oper} {r:bJ} {o:Oper} (h:lq n ops o=some r.un):r.dst=o.dst/\pP o.op=r.bq.base/\kV n o.dst=true:=by
 unfold lq at h;split at h
 .rename_i ai;split at h
  .simp only[bJ.un,Option.some.injEq,bJ.mk.injEq]at h;obtain⟨aT,a3,aY⟩:=h;exact⟨aT.symm,a3,ai⟩
  .cases h
 .cases h
end
def xS (C:bH) (m:List bJ) (T:TypeId) (z y k u:Nat) (rest:List bJ) (c9:afc):(Exit->ak->Prop)->ak->Prop:=
 λQ s=>cy C s m none λ_ s1=>∃s2,nb C s1 T z k u (s1 y)=some s2/\cy C s2 rest none λ_ iE=>dG (Q .normal) (ar (fR c9 iE))
def Md (m:List bJ) (T:TypeId) (z y:Nat) (rest:List bJ):aM:=.eI (m++⟨none,.gT T (.t z) (.t y),none⟩::rest) none
def AD (C:bH) (T:(Exit->ak->Prop)->ak->Prop) (b:aM):Prop:=
 ∃(m:List bJ) (bP:TypeId) (z y k u:Nat) (rest:List bJ) (c9:afc),T=xS C m bP z y k u rest c9/\b=Md m bP z y rest
section
variable {C:bH} {w0 w:World} {F0 X:Nat->Prop} {n:Fr} {ρ:Nat->Value} {s:ak} {a:Act}
theorem UG {T:TypeId} {z k u:Nat} {y:I} {s2:ak} (h:nb C s T z k u y=some s2):(∃d0,s z= .aK d0)/\∃x q,y= .h x q:=by
 unfold nb at h;split at h
 .rename_i d0 d s1 bF aP;refine⟨⟨d0,bF⟩,?_⟩;unfold r0 at aP;split at aP
  .exact⟨_,_,rfl⟩
  .cases aP
 .cases h
theorem UH (a9:C.dL) {c:Code} {T:(Exit->ak->Prop)->ak->Prop} {b:aM} {Q:Exit->ak->Prop} (eB:AD C T b) (aa:fp n c=some b.strip) (h:T Q s) (aR:Rel w0 F0 X n ρ s a w):
  c.wp C.P (my w0 F0 X n ρ Q) a w:=by
 obtain⟨m,bP,z,y,k,u,rest,c9,rfl,rfl⟩:=eB;obtain⟨id,ops,rfl,mx⟩:=ED aa;refine UE (Q:=my w0 F0 X n ρ Q) (K:=dG (dG (Q .normal))) (X0:=λs1 K=>∃s2,nb C s1 bP z k u (s1 y)=some s2/\K s2) a9 rfl mx aR ?_ (ta (λ_ s1 al=>by
  obtain⟨s2,aT,a3⟩:=al;exact⟨s2,aT,ta (λ_ s h=>.inr ⟨_,EC _ _,h⟩) a3⟩) h) λaz ca aB aj dS=>?_
 .rintro s1 ab hW jI next jz oW ⟨s2,he,aj⟩ ⟨hz,cO,gB,F,S,mz⟩ UI
  obtain⟨dD,ej,fV⟩:=UF jz;change pP jI.op= .gT bP (.t z) (.t y)at ej;have o5:cz jI.op=some (.gT bP (.t z) (.t y)):=by
   rcases oU ej with h|h
   .cases h
   .exact h
  obtain⟨cw,jo,kd,al,a5⟩:=JS o5;have al:=xI al;have a5:=xI a5;subst al;subst a5;obtain⟨⟨d0,bF⟩,UJ⟩:=UG he;obtain⟨dst,op,ty,pos,after,guard⟩:=jI;simp only at kd oW dD;subst kd;have ai:none=dst:=dD;subst ai;have aT:=(eg (o:=.tmp z) (x:=.t z) mz (λ_=>rfl) rfl).2;have a3:=(eg (o:=.tmp y) (x:=.t y) mz (λ_=>rfl) rfl).2;obtain⟨x,q,UK⟩:=UJ;have w5:a7 s1 (.t z)= .h z []:=by simp[a7,nR,bF,I.plain]
  have qs:a7 s1 (.t y)=s1 y:=by simp[a7,nR,UK,I.plain]
  rw[w5]at aT;rw[qs]at a3;obtain⟨aB,aO,el,fJ⟩:=UB (T:=bP) a9 mz aT a3 he;unfold Oper.wp;have qJ:(execOp ab.eval ⟨none,.store bP (.tmp z) (.tmp y),ty,pos,after,guard⟩).run C.P hW= .ok .skip aB:=by simp[execOp,el]
  rw[qJ];simp only[Oper.upon];exact UI _ _ _ aj ⟨hz,cO,gB,F,aO,fJ⟩
 .obtain⟨s2,af,bx⟩:=dS.dG aj;obtain⟨iE,aF,e1⟩:=bx.dG af;exact e1.dG (.inl aF)
theorem bk.UL (a9:C.dL) {f:FuncId} {fn:Func} {c:Code} {dO:aM} {fx:afc} {as outs:afh} {r:I} (dU:List ResultVar) (l:afg) (a8:C.P.funcs[f]? =some fn) (U:fn.body=some c)
  (jt:(fn.name== "runtime.NumGoroutine")=false) (aa:fp ⟨fn.ntmps,fx⟩ c=some dO.strip) (a4:as.length<=fn.ntmps) (aj:dO.lS (AD C)) (fF:fn.results.toList=dU) (hl:num 0 as=l)
  (h:∀Q:Exit->ak->Prop,(∀s,dG (Ends C fx dU r outs) s->Q .ret s)->(∀s,dG (Ends C fx dU r outs) s->Q .normal s)->bj C dO Q (ar l)):bk C f as r outs:=by
 subst fF hl;intro w F X S vs hl aR;refine Ac (fx:=fx) a9 a8 U jt a4 hl aR λa hrel dt=>?_;refine DZ a9 (H:=AD C) (λc T b Q s a w gS o5 aP aR=>UH a9 gS o5 aP aR) c (by rw[aM.z8];exact aa) (aM.z9 dO aj) (z_ dO ?_) hrel;rw[xp];exact h _ (λs h=>⟨.inr rfl,h⟩) (λs h=>⟨.inl rfl,h⟩)
end
theorem UM {C:bH} {Q:Exit->ak->Prop} {l:afg} {m:List bJ} {T:TypeId} {z y k u:Nat} {rest:List bJ} {c9:afc} {b:aM} (b2:afg)
  (h:∀P:afg->Prop,P b2->cy C (ar l) m none λ_ s1=>∃s2,nb C s1 T z k u (s1 y)=some s2/\cy C s2 rest none λ_ iE=>P (fR c9 iE)) (aj:dG (Q .normal) (ar b2)):bj C (.hb (xS C m T z y k u rest c9) b) Q (ar l):=
 λdN EU=>h (λl=>dG (dN .normal) (ar l)) (rP (λ_ h=>EU _ _ h) _ aj)
theorem UN {C:bH} {Q:Exit->ak->Prop} {l:afg} {m:List bJ} {T:TypeId} {z y k u:Nat} {rest:List bJ} {c9:afc} {b e:aM} (b2:afg)
  (h:∀P:afg->Prop,P b2->cy C (ar l) m none λ_ s1=>∃s2,nb C s1 T z k u (s1 y)=some s2/\cy C s2 rest none λ_ iE=>P (fR c9 iE)) (aj:dG (bj C e Q) (ar b2)):bj C (.seq (.hb (xS C m T z y k u rest c9) b) e) Q (ar l):=
 UM (b:=b) b2 h (.inl aj)
theorem UO {C:bH} {Q:Exit->ak->Prop} {l:afg} {m:List bJ} {T:TypeId} {z y k u:Nat} {rest:List bJ} {c9:afc} {b e:aM} (b2:afg)
  (h:∀P:afg->Prop,P b2->cy C (ar l) m none λ_ s1=>∃s2,nb C s1 T z k u (s1 y)=some s2/\cy C s2 rest none λ_ iE=>P (fR c9 iE)) (aj:bj C e Q (ar b2)):bj C (.seq (.hb (xS C m T z y k u rest c9) b) e) Q (ar l):=
 UN (b:=b) b2 h (.inl aj)
def EW (C:bH) (s:ak) (T:TypeId) (z k u:Nat) (y:I):I->Option (I×ak)->Option ak
 | .aK d0,some (d,s1)=>if d.wd=d0.wd/\d.wd=(C.T T).sz/\(C.T T).ok=true/\y.owner≠some z/\u≠z/\r1 s k y (s u)=true then some (cg (e0 z (cg s1 u (s u))) z (.aK d))else none
 |_,_=>none
def AE (s:ak) (k x:Nat) (q:afc):Option I->Option (I×ak)
 |some (.agg ds)=>match ds[k]? with
  |some d=>if d.plain=true then none else some (.agg ((I.hJ ds).set k d),cg (e0 x s) x (I.put (q++[k]) d.ct (s x)))
  |none=>none
 |_=>none
def EX (s:ak) (k x:Nat) (q:afc) (ds:afh):Option I->Option (I×ak)
 |some d=>if d.plain=true then none else some (.agg ((I.hJ ds).set k d),cg (e0 x s) x (I.put (q++[k]) d.ct (s x)))
 |none=>none
theorem UP:(∀C s T z k u y,nb C s T z k u y=EW C s T z k u y (s z) (r0 s k y))/\(∀C s T z k u y d0 d s1,EW C s T z k u y (.aK d0) (some (d,s1))=if d.wd=d0.wd/\d.wd=(C.T T).sz/\(C.T T).ok=true/\y.owner≠some z/\u≠z/\r1 s k y (s u)=true then some (cg (e0 z (cg s1 u (s u))) z (.aK d))else none)/\
  (∀s k x q,r0 s k (.h x q)=AE s k x q (I.sub q (s x)))/\(∀s k x q ds,AE s k x q (some (.agg ds))=EX s k x q ds ds[k]?)/\(∀s k x q ds d,EX s k x q ds (some d)=if d.plain=true then none else some (.agg ((I.hJ ds).set k d),cg (e0 x s) x (I.put (q++[k]) d.ct (s x))))/\
  (∀s k z q p,r1 s k (.h z q) (.h z p)=tp (kb p (q++[k])) (I.sub p (s z)))/\(∀r,kb [] r=some r)/\(∀a p q,kb (a::p) (a::q)=kb p q)/\(∀k r n xs,tp (some (k::r)) (some (.ag n xs))=true)/\(∀(a:afc) b c,(b::a)++c=b::(a++c))/\(∀c:afc,[]++c=c):=
 ⟨λC s T z k u y=>by
  unfold nb EW;cases s z<;>cases r0 s k y<;>rfl,λ_ _ _ _ _ _ _ _ _ _=>rfl,λs k x q=>by
  simp only[r0];unfold AE;generalize I.sub q (s x)=o;rcases o with _|d
  .rfl
  .cases d<;>rfl,λs k x q ds=>by
  simp only[AE];unfold EX;generalize ds[k]? =o;cases o<;>rfl,λ_ _ _ _ _ _=>rfl,λs k z q p=>by simp[r1],λ_=>rfl,λa p q=>by simp[kb],λ_ _ _ _=>rfl,λ_ _ _=>rfl,λ_=>rfl⟩
theorem Me {α:Type} {l:List α} {i:Int} {x:α} (h:bG l i=some x) (u:α->I) (y:I):bG ((l.map u).set i.toNat y) i=some y:=by
 have ae:=cB h;have af:=(List.getElem?_eq_some_iff.1 ae).1;unfold bG at h⊢;split at h
 .rename_i an;rw[if_pos an];rw[getElem?_set_self (by simpa using af)]
 .cases h
theorem UQ {C:bH} {s s2:ak} {T:TypeId} {z k u:Nat} {y:I} {K:ak->Prop} (h:nb C s T z k u y=some s2) (aj:K s2):∃s2,nb C s T z k u y=some s2/\K s2:=⟨s2,h,aj⟩
end Go.c3
