/- Part of a proof that a law returns true for every input. No condition. -/
import Derived.Test.YtndfcecbamffaaaGreatFwJ
import Derived.Test.YtndfcecbamffaaaGreatFwL
namespace Go.cW
open List Go.IntKind Nat Or
section
variable {C:bI} {w0 w ax:World} {F0 X F bC:Nat->Prop} {S aF:Nat->Nat->Prop} {n:Fr} {ρ:Nat->Value} {s aq s1:ah} {ao gT:Nat->Value} {a:Act} {av:j} {Q:Exit->Act->World->Prop}
def q7 (s:ah) (k:Nat) (av:j):Option (j×ah):=match av with
 | .h x q=>match j.sub q (s x)with
   |some (.agg ds)=>match ds[k]? with
    |some d=>if d.plain=true then none else some (.agg ((j.g9 ds).set k d),ck (e_ x s) x (j.put (q++[k]) d.cf (s x)))
    |none=>none
   |_=>none
 |_=>none
theorem zD:∀ds:abN,j.g9 ds=ds.map j.cf
 |[]=>rfl
 |d::ds=>by simp[j.g9,zD ds]
theorem SX (ds:abN) (k:Nat):j.c6 ((j.g9 ds).take k)=j.c6 (ds.take k):=by
 have:(j.g9 ds).take k=j.g9 (ds.take k):=by rw[zD,zD,map_take]
 rw[this,j.yy]
theorem SY {ds:abN} {k:Nat} {d:j} (ak:ds[k]? =some d) (al:d.plain=false):j.dF ds=false:=by
 cases h:j.dF ds with
 |false=>rfl
 |true=>rw[vT h ak]at al;cases al
theorem SZ (h:bu w0 F0 X F S s ao w) {k:Nat} {av bb:j} {v:Value} (ay:aB w F s ao av v (λ_=>False)) (aL:q7 s k av=some (bb,s1)):
  ∃x q d sz,av= .h x q/\j.sub (q++[k]) (s x)=some d/\d.plain=false/\s1=ck (e_ x s) x (j.put (q++[k]) d.cf (s x))/\bb= .agg sz/\∃bJ,bu w0 F0 X F bJ s1 ao w/\c0 bb v/\∃Sn,ai w F bb (bR v) Sn/\(∀b,Sn b->b<w.heap.size)/\(∀b,Sn b->¬F b)/\(∀u b,Sn b->¬bJ u b)/\(∀b,Sn b->X b\/w0.heap.size<=b):=by
 unfold q7 at aL;split at aL
 .rename_i x q;split at aL
  .rename_i ds he;split at aL
   .rename_i d ak;split at aL
    .cases aL
    .rename_i al;have al:d.plain=false:=by simpa using al
     simp only[Option.some.injEq,Prod.mk.injEq]at aL;obtain⟨rfl,rfl⟩:=aL;have ae:j.sub (q++[k]) (s x)=some d:=by rw[tI _ _ _ _ he];simp[j.sub,ak]
     have ua:(j.agg ds).plain=false:=by simp only[j.plain];exact SY ak al
     rw[aB]at ay;obtain⟨yD,bF,aQ,a2,bQ⟩:=ay _ he ua;obtain⟨Sn,ej,b0,b3,dK,bL,eZ,cy,dn,dN,ek⟩:=h.take ae al;have ag:=h.cK x;rw[aB.b4 (fQ he (.inl ua))]at ag;obtain⟨aaN,a3,dj,aaO,h7,_,_,_,i6,_⟩:=ctx q (s x) (bR (ao x)) (S x) none _ ag.2 he;rw[aQ]at h7;simp only[Option.some.injEq,Prod.mk.injEq,true_and]at h7;obtain⟨rfl,rfl⟩:=h7;rw[ai]at i6;have pX:=rM w q (s x) _ _ _ none _ [k] aQ;rw[bL]at pX;simp only[cb,ak,Option.some.injEq,Prod.mk.injEq,true_and]at pX;have G0:b0=(yD.drop (j.c6 (ds.take k))).take d.wd:=pX.1;have S0:=aS.cf ds yD _ (λ_=>False) i6;have S1:(j.g9 ds)[k]? =some d.cf:=by rw[zD,getElem?_map,ak];rfl
     obtain⟨bD,dz,bH,y7,sa,e,eN,dX,eG,fY,dw,h8⟩:=aS.pick (j.g9 ds) yD _ k d.cf S0 S1;rw[SX]at eN;have S2:b0=dz:=by
      rw[G0,e];exact mQ bD dz bH _ _ eN (by rw[ai.length _ _ _ dw,j.oN])
     subst S2;have eJ:=h8 w d b0 ej (λ_ _=>rfl) (λ_ _=>rfl) eZ (λb _ J=>dX b J);refine⟨x,q,d,_,rfl,ae,al,rfl,rfl,_,dK,?_,λb=>y7 b\/ej b,?_,?_,?_,?_,?_⟩
     .exact bQ
     .rw[a2,ai];rw[<-e]at eJ;exact eJ
     .rintro b (J|J)
      .exact(dX b J).elim
      .exact h.dD x b (cy b J)
     .rintro b (J|J)
      .exact(dX b J).elim
      .exact h.eW x b (cy b J)
     .rintro u b (J|J) hu
      .exact dX b J
      .simp only[fy]at hu;split at hu
       .exact dN b J hu
       .rename_i BA;exact h.ev u x b BA hu (cy b J)
     .rintro b (J|J)
      .exact(dX b J).elim
      .exact h.cN x b (cy b J)
   .cases aL
  .cases aL
 .cases aL
theorem S3 (h:bu w0 F0 X F S s ao w) {x:Nat} {p q:abI} {i:Nat} {r:abI} {d e:j} {sz:Nat} {xs:abN} {v:Value} (cp:q=p++(i::r)) (al:j.sub p (s x)=some (.ad sz xs)) (ae:j.sub q (s x)=some d)
  (he:e.wd=d.wd) {s1:ah} (I:s1 x=j.put q e (s x)) (ay:aB w F s ao (.h x p) v (λ_=>False)):aB w F s1 ao (.h x p) v (λ_=>False):=by
 rw[aB]at ay⊢;obtain⟨y9,a0,f1,f2,f3⟩:=ay _ al rfl;subst cp;have ua:=IB p (s x) _ e (i::r) al;obtain⟨r7,mZ⟩:∃r7,j.put (i::r) e (.ad sz xs)= .ad sz r7:=by
  simp only[j.put];split
  .exact⟨_,rfl⟩
  .exact⟨_,rfl⟩
 intro aK k4 f_;rw[I,ua,mZ]at k4⊢;rw[y3 p (s x) _ _ al]at k4;have k4:=Option.some.inj k4;subst k4;exact⟨y9,a0,Cn w p (s x) _ _ _ _ _ _ al rfl f1,f2,f3⟩
def sI:Option abI->Option j->Bool
 |some (_::_),some (.ad _ _)=>true
 |_,_=>false
def q8 (s:ah) (k:Nat) (y a:j):Bool:=match y,a with
 | .h z q,.h y p=>decide (y=z)&&sI (jo p (q++[k])) (j.sub p (s z))
 |_,_=>false
def mm (C:bI) (s:ah) (T:TypeId) (z k u:Nat) (y:j):Option ah:=
 match s z,q7 s k y with
 | .aD d0,some (d,s1)=>if d.wd=d0.wd/\d.wd=(C.T T).sz/\(C.T T).ok=true/\y.owner≠some z/\u≠z/\q8 s k y (s u)=true then some (ck (e_ z (ck s1 u (s u))) z (.aD d))else none
 |_,_=>none
theorem S4 (ao:Nat->Value) (t:Nat):ck ao t (ao t)=ao:=by funext u;simp only[ck];split<;>simp_all
theorem S5 (a_:C.Ok) (h:bu w0 F0 X F S s ao w) {T:TypeId} {z k u:Nat} {y:j} {fD fE:Value} (rS:aB w F s ao (.h z []) fD (λ_=>False)) (we:aB w F s ao y fE (λ_=>False))
  {s2:ah} (he:mm C s T z k u y=some s2):∃ax aF,(Instr.storeAt T fD fE).run C.P w= .ok () ax/\bu w0 F0 X F aF s2 ao ax:=by
 unfold mm at he;split at he
 .rename_i d0 d s1 bA aL;split at he
  .rename_i nK;obtain⟨R,U,aA,aU,bt,b5⟩:=nK;simp only[Option.some.injEq]at he;subst he;obtain⟨x,q,e,ds,rfl,ae,al,rfl,rfl,bJ,e9,a2,Sn,bQ,c4,dR,gn,gW⟩:=SZ h we aL;have S6:x≠z:=λe=>aU (by rw[e];rfl);have hl:loc s (.h z [])=some (z,[0]):=by simp[loc,j.sub,bA]
   have hc:j.sub [0] (s z)=some d0:=by simp[j.sub,bA]
   obtain⟨i5,b0,b,o,rfl,ha⟩:=wa h rS hl hc;have tY:(s u).plain=true:=by
    revert b5;cases s u with
    |h y p=>intro _;rfl
    |_=>intro aK;simp[q8]at aK
   have t_:aB w F (ck (e_ x s) x (j.put (q++[k]) e.cf (s x))) ao (s u) (ao u) (λ_=>False):=by
    have hu:=h.cK u;revert b5 hu;cases s u with
    |h e7 p=>
     intro b5 hu;simp only[q8,Bool.and_eq_true,decide_eq_true_eq]at b5;obtain⟨rfl,jQ⟩:=b5;cases sf:jo p (q++[k])with
     |none=>rw[sf]at jQ;simp[sI]at jQ
     |some kA=>
      rw[sf]at jQ;have cp:=Cw sf;cases lL:j.sub p (s e7)with
      |none=>rw[lL]at jQ;cases kA<;>simp[sI]at jQ
      |some d2=>
       rw[lL]at jQ;cases kA with
       |nil=>simp[sI]at jQ
       |cons i kA=>
        cases d2 with
        |ad sz xs=>
         rw[aB]at hu;exact S3 h cp lL ae (j.oN e) (ks _ _ _) (by rw[aB];exact hu)
        |_=>simp[sI]at jQ
    |_=>intro aK;simp[q8]at aK
   have aQ:=e9.tH (t:=u) (d:=s u) (v:=ao u) tY t_;rw[S4]at aQ;generalize S7:ck (ck (e_ x s) x (j.put (q++[k]) e.cf (s x))) u (s u)=hM at aQ⊢;have cT:hM z=s z:=by
    rw[<-S7,hX _ _ (λe=>bt e.symm),hX _ _ (λe=>S6 e.symm)];show bV x (s z)=s z;rw[bA];rfl
   have hV:ck (e_ z hM) z (.aD (.agg ds))=ck (e_ z hM) z (j.put [0] (.agg ds) (hM z)):=by rw[cT,bA];rfl
   rw[hV];rw[<-cT]at hc i5 ha;obtain⟨e4,eI,l,r,cur,dY,fr,k0,bU,cc,de,cQ⟩:=aQ.store hc i5 bQ R c4 dR (λS8 b J hu=>by
    simp only[fy]at hu;split at hu
    .exact hu
    .exact gn S8 b J hu) gW
   rw[ha]at k0;simp only[Option.some.injEq,Prod.mk.injEq,true_and]at k0;obtain⟨rfl,rfl,rfl⟩:=k0;obtain⟨i,rU,mV,aK,aV,a1,b6,cH,bT,bK⟩:=a_.info aA;have hlen:=ai.length _ _ _ bQ;have hm:b0.length=(bR fE).length:=by
    have nL:=aQ.cK z;rw[aB.b4 (fQ hc (.inr i5))]at nL;obtain⟨_,_,_,_,h7,_,_,_,i6,_⟩:=ctx [0] (hM z) (bR (ao z)) _ none _ nL.2 hc;rw[ha]at h7;simp only[Option.some.injEq,Prod.mk.injEq,true_and]at h7;rw[h7.1,ai.length _ _ _ i6,hlen,R]
   obtain⟨ax,ee,fb,gy,jm,jP,kU,mb⟩:=wc (P:=C.P) (b:=b) (o:=l.length) (e:=dY) (fr:=fr) (bR fE) 0 cur w l b0 r bU de cc rfl hm (ai.pT _ _ _ bQ);obtain⟨aF,dT⟩:=cQ ax fb gy jm jP kU mb;refine⟨ax,aF,?_,dT⟩;have kV:=rR a2 (λar e=>by cases e);simp[Instr.storeAt,Instr.sureAddr,storeVar,iz aK,aV,kV,hlen,U,ee]
  .cases he
 .cases he
theorem S9 (a_:C.Ok) {id:Nat} {ops:Array Oper} {m rest:List bG} {ij:bG} (S_:ij.guard=none) {X0:ah->(ah->Prop)->Prop} {K:ah->Prop}
  (nc:nY n ops ops.toList=some ((m++ij::rest:List bG).map bG.un)) (aN:Rel w0 F0 X n ρ s a w)
  (kC:∀(s1:ah) (ab:Act) (ik:World) (iZ:Oper) (next:Act->World->Prop),kz n ops iZ=some ij.un->iZ.guard=none->X0 s1 (λs2=>ic C s2 rest K)->Rel w0 F0 X n ρ s1 ab ik->
   (∀aq b3 ax,ic C aq rest K->Rel w0 F0 X n ρ aq b3 ax->next b3 ax)->iZ.wp C.P ab ik next Q)
  (h:ic C s m λs1=>X0 s1 λs2=>ic C s2 rest K)
  (a7:∀aq b3 ax,K aq->Rel w0 F0 X n ρ aq b3 ax->Q .normal b3 ax):(Code.region id ops false).wp C.P Q a w:=by
 obtain⟨hl,n0⟩:=zc nc;have xa:∀(i:Nat) (r:bG),(m++ij::rest:List bG)[i]? =some r->∃o,ops[i]? =some o/\kz n ops o=some r.un:=by
  intro i r aw;have cB:i<ops.toList.length:=by
   rw[hl,length_map];exact(List.getElem?_eq_some_iff.1 aw).1
  obtain⟨gX,R,U⟩:=n0 i _ (getElem?_eq_getElem cB);rw[getElem?_map,aw]at R;simp only[Option.map_some,Option.some.injEq]at R;exact⟨_,by rw[<-Array.getElem?_toList];exact getElem?_eq_getElem cB,by rw[R];exact U⟩
 have Dr:ops.size=m.length+rest.length+1:=by
  have:ops.toList.length=ops.size:=by simp
  rw[<-this,hl];simp;omega
 have K2:∀(i:Nat) (ros:List bG),ros=(m++ij::rest:List bG)->(ops[i]? =none->ros[i]? =none)/\∀o,ops[i]? =some o->∃r,ros[i]? =some r/\kz n ops o=some r.un:=by
  rintro i ros rfl;refine⟨λi4=>?_,λo br=>?_⟩
  .rw[List.getElem?_eq_none_iff];have:=Array.getElem?_eq_none_iff.1 i4;simp;omega
  .obtain⟨aE,gx,U⟩:=n0 i o (by simpa using br);obtain⟨r,R,rfl⟩:∃r,(m++ij::rest:List bG)[i]? =some r/\r.un=aE:=by
    rw[getElem?_map,Option.map_eq_some_iff]at gx;exact gx
   exact⟨r,R,U⟩
 have Ds:range ops.size=(range m.length).map (·+0)++(m.length::(range rest.length).map (·+(m.length+1))):=by
  rw[Dr,show m.length+rest.length+1=m.length+(rest.length+1) by omega,range_add,range_succ_eq_map];simp only[List.map_map,map_cons,Nat.add_zero,List.map_id'];congr 1;congr 1;apply map_congr_left;intro x _;simp;omega
 refine wp_region ?_;rw[Ds];have hw:=zy C _ m [] (ij::rest) _ h;have wv:∀aq b3 ax,ic C aq rest K->Rel w0 F0 X n ρ aq b3 ax->wpOps C.P ops Q ((range rest.length).map (·+(m.length+1))) b3 ax:=by
  intro hM a3 pf aA Dv;have sm:=zy C K rest (m++[ij]) [] hM aA;have sj:(m++[ij])++(rest++[])=(m++ij::rest:List bG):=by simp
  have:=wN (Q:=Q) a_ (ops:=ops) (ros:=(m++[ij])++(rest++[])) (l2:=[]) (K:=K) (λaq b3 ax hd dA=>a7 aq b3 ax hd dA) ((range rest.length).map (·+(m.length+1))) (λi aw=>K2 i _ sj) hM a3 pf (by
   have e:(m++[ij]:List bG).length=m.length+1:=by simp
   rw[e]at sm;exact sm) Dv
  rwa [append_nil]at this
 have mid:∀aq b3 ax,(X0 aq λs2=>ic C s2 rest K)->Rel w0 F0 X n ρ aq b3 ax->wpOps C.P ops Q (m.length::(range rest.length).map (·+(m.length+1))) b3 ax:=by
  intro s2 bF j0 ag CS;obtain⟨iZ,Du,iO⟩:=xa m.length ij (by simp);have n1:iZ.guard=none:=by
   unfold kz at iO;split at iO
   .split at iO
    .rename_i Ku fF;simp only[bG.un,Option.some.injEq,bG.mk.injEq]at iO;obtain⟨_,_,a1⟩:=iO;rw[a1,S_]at fF;cases br:iZ.guard with
     |none=>rfl
     |some zf=>rw[br]at fF;simp only[tZ]at fF;split at fF<;>cases fF
    .cases iO
   .cases iO
  simp only[wpOps,Du];show(if Region.wanted iZ (yielded ops bF.tmps)=true then iZ.wp C.P bF j0 _ Q\/(iZ.asks C.P bF j0/\LetsOut Q)else _);rw[if_pos (zd n1)];left;exact kC s2 bF j0 iZ _ iO n1 ag CS wv
 have:=wN (Q:=Q) a_ (ops:=ops) (ros:=[]++(m++ij::rest)) (l2:=m.length::(range rest.length).map (·+(m.length+1))) mid
  ((range m.length).map (·+0)) (λi aw=>K2 i _ rfl) s a w (by simpa using hw) aN
 exact this
theorem Ta {ops:Array Oper} {r:bG} {o:Oper} (h:kz n ops o=some r.un):r.dst=o.dst/\o2 o.op=r.bp.base/\ky n o.dst=true:=by
 unfold kz at h;split at h
 .rename_i ae;split at h
  .simp only[bG.un,Option.some.injEq,bG.mk.injEq]at h;obtain⟨aK,aV,a1⟩:=h;exact⟨aK.symm,aV,ae⟩
  .cases h
 .cases h
end
def xd (C:bI) (m:List bG) (T:TypeId) (z y k u:Nat) (rest:List bG) (keep:abI):(Exit->ah->Prop)->ah->Prop:=
 λQ s=>cm C s m none λ_ s1=>∃s2,mm C s1 T z k u (s1 y)=some s2/\cm C s2 rest none λ_ hM=>eg (Q .normal) (an (fH keep hM))
def K3 (m:List bG) (T:TypeId) (z y:Nat) (rest:List bG):aP:=.eK (m++⟨none,.gp T (.t z) (.t y),none⟩::rest) none
def zE (C:bI) (T:(Exit->ah->Prop)->ah->Prop) (b:aP):Prop:=
 ∃(m:List bG) (bM:TypeId) (z y k u:Nat) (rest:List bG) (keep:abI),T=xd C m bM z y k u rest keep/\b=K3 m bM z y rest
section
variable {C:bI} {w0 w:World} {F0 X:Nat->Prop} {n:Fr} {ρ:Nat->Value} {s:ah} {a:Act}
theorem Tb {T:TypeId} {z k u:Nat} {y:j} {s2:ah} (h:mm C s T z k u y=some s2):(∃d0,s z= .aD d0)/\∃x q,y= .h x q:=by
 unfold mm at h;split at h
 .rename_i d0 d s1 bA aL;refine⟨⟨d0,bA⟩,?_⟩;unfold q7 at aL;split at aL
  .exact⟨_,_,rfl⟩
  .cases aL
 .cases h
theorem Tc (a_:C.Ok) {c:Code} {T:(Exit->ah->Prop)->ah->Prop} {b:aP} {Q:Exit->ah->Prop} (eP:zE C T b) (I:fm n c=some b.strip) (h:T Q s) (aN:Rel w0 F0 X n ρ s a w):
  c.wp C.P (o4 w0 F0 X n ρ Q) a w:=by
 obtain⟨m,bM,z,y,k,u,rest,keep,rfl,rfl⟩:=eP;obtain⟨id,ops,rfl,nc⟩:=KE I;refine S9 (Q:=o4 w0 F0 X n ρ Q) (K:=eg (eg (Q .normal))) (X0:=λs1 K=>∃s2,mm C s1 bM z k u (s1 y)=some s2/\K s2) a_ rfl nc aN ?_ (ug (λ_ s1 ag=>by
  obtain⟨s2,aK,aV⟩:=ag;exact⟨s2,aK,ug (λ_ s h=>.inr ⟨_,KD _ _,h⟩) aV⟩) h) λaq b3 ax ak dA=>?_
 .rintro s1 ab ik iZ next iO n1 ⟨s2,he,ak⟩ ⟨hk,cT,gq,F,S,ng⟩ Td
  obtain⟨dX,eG,fY⟩:=Ta iO;change o2 iZ.op= .gp bM (.t z) (.t y)at eG;have sC:cC iZ.op=some (.gp bM (.t z) (.t y)):=by
   rcases o3 eG with h|h
   .cases h
   .exact h
  obtain⟨cq,iy,kC,ag,bh⟩:=IH sC;have ag:=Dn ag;have bh:=Dn bh;subst ag;subst bh;obtain⟨⟨d0,bA⟩,Te⟩:=Tb he;obtain⟨dst,op,ty,pos,after,guard⟩:=iZ;simp only at kC n1 dX;subst kC;have ae:none=dst:=dX;subst ae;have aK:=(dZ (o:=.tmp z) (x:=.t z) ng (λ_=>rfl) rfl).2;have aV:=(dZ (o:=.tmp y) (x:=.t y) ng (λ_=>rfl) rfl).2;obtain⟨x,q,Tf⟩:=Te;have B8:aX s1 (.t z)= .h z []:=by simp[aX,mT,bA,j.plain]
  have pQ:aX s1 (.t y)=s1 y:=by simp[aX,mT,Tf,j.plain]
  rw[B8]at aK;rw[pQ]at aV;obtain⟨ax,aF,ee,fb⟩:=S5 (T:=bM) a_ ng aK aV he;unfold Oper.wp;have p7:(execOp ab.eval ⟨none,.store bM (.tmp z) (.tmp y),ty,pos,after,guard⟩).run C.P ik= .ok .skip ax:=by simp[execOp,ee]
  rw[p7];simp only[Oper.upon];exact Td _ _ _ ak ⟨hk,cT,gq,F,aF,fb⟩
 .obtain⟨s2,U,bL⟩:=dA.eg ak;obtain⟨hM,aA,eZ⟩:=bL.eg U;exact eZ.eg (.inl aA)
theorem bx.Tg (a_:C.Ok) {f:FuncId} {fn:Func} {c:Code} {dO:aP} {fx:abI} {as outs:abN} {r:j} (dM:List ResultVar) (l:abM) (a6:C.P.funcs[f]? =some fn) (J:fn.body=some c)
  (je:(fn.name== "runtime.NumGoroutine")=false) (I:fm ⟨fn.ntmps,fx⟩ c=some dO.strip) (a7:as.length<=fn.ntmps) (ak:dO.nf (zE C)) (eJ:fn.results.toList=dM) (hl:num 0 as=l)
  (h:∀Q:Exit->ah->Prop,(∀s,eg (Ends C fx dM r outs) s->Q .ret s)->(∀s,eg (Ends C fx dM r outs) s->Q .normal s)->bk C dO Q (an l)):bx C f as r outs:=by
 subst eJ hl;intro w F X S vs hl aN;refine CP (fx:=fx) a_ a6 J je a7 hl aN λa hrel du=>?_;refine CN a_ (H:=zE C) (λc T b Q s a w fg sC aL aN=>Tc a_ fg sC aL aN) c (by rw[aP.CH];exact I) (aP.CI dO ak) (CM dO ?_) hrel;rw[CU];exact h _ (λs h=>⟨.inr rfl,h⟩) (λs h=>⟨.inl rfl,h⟩)
end
theorem Th {C:bI} {Q:Exit->ah->Prop} {l:abM} {m:List bG} {T:TypeId} {z y k u:Nat} {rest:List bG} {keep:abI} {b:aP} (bW:abM)
  (h:∀P:abM->Prop,P bW->cm C (an l) m none λ_ s1=>∃s2,mm C s1 T z k u (s1 y)=some s2/\cm C s2 rest none λ_ hM=>P (fH keep hM)) (ak:eg (Q .normal) (an bW)):bk C (.hA (xd C m T z y k u rest keep) b) Q (an l):=
 λdE zF=>h (λl=>eg (dE .normal) (an l)) (si (λ_ h=>zF _ _ h) _ ak)
theorem Ti {C:bI} {Q:Exit->ah->Prop} {l:abM} {m:List bG} {T:TypeId} {z y k u:Nat} {rest:List bG} {keep:abI} {b e:aP} (bW:abM)
  (h:∀P:abM->Prop,P bW->cm C (an l) m none λ_ s1=>∃s2,mm C s1 T z k u (s1 y)=some s2/\cm C s2 rest none λ_ hM=>P (fH keep hM)) (ak:eg (bk C e Q) (an bW)):bk C (.seq (.hA (xd C m T z y k u rest keep) b) e) Q (an l):=
 Th (b:=b) bW h (.inl ak)
theorem Tj {C:bI} {Q:Exit->ah->Prop} {l:abM} {m:List bG} {T:TypeId} {z y k u:Nat} {rest:List bG} {keep:abI} {b e:aP} (bW:abM)
  (h:∀P:abM->Prop,P bW->cm C (an l) m none λ_ s1=>∃s2,mm C s1 T z k u (s1 y)=some s2/\cm C s2 rest none λ_ hM=>P (fH keep hM)) (ak:bk C e Q (an bW)):bk C (.seq (.hA (xd C m T z y k u rest keep) b) e) Q (an l):=
 Ti (b:=b) bW h (.inl ak)
def DE (C:bI) (s:ah) (T:TypeId) (z k u:Nat) (y:j):j->Option (j×ah)->Option ah
 | .aD d0,some (d,s1)=>if d.wd=d0.wd/\d.wd=(C.T T).sz/\(C.T T).ok=true/\y.owner≠some z/\u≠z/\q8 s k y (s u)=true then some (ck (e_ z (ck s1 u (s u))) z (.aD d))else none
 |_,_=>none
def zG (s:ah) (k x:Nat) (q:abI):Option j->Option (j×ah)
 |some (.agg ds)=>match ds[k]? with
  |some d=>if d.plain=true then none else some (.agg ((j.g9 ds).set k d),ck (e_ x s) x (j.put (q++[k]) d.cf (s x)))
  |none=>none
 |_=>none
def DF (s:ah) (k x:Nat) (q:abI) (ds:abN):Option j->Option (j×ah)
 |some d=>if d.plain=true then none else some (.agg ((j.g9 ds).set k d),ck (e_ x s) x (j.put (q++[k]) d.cf (s x)))
 |none=>none
theorem Tk:(∀C s T z k u y,mm C s T z k u y=DE C s T z k u y (s z) (q7 s k y))/\(∀C s T z k u y d0 d s1,DE C s T z k u y (.aD d0) (some (d,s1))=if d.wd=d0.wd/\d.wd=(C.T T).sz/\(C.T T).ok=true/\y.owner≠some z/\u≠z/\q8 s k y (s u)=true then some (ck (e_ z (ck s1 u (s u))) z (.aD d))else none)/\
  (∀s k x q,q7 s k (.h x q)=zG s k x q (j.sub q (s x)))/\(∀s k x q ds,zG s k x q (some (.agg ds))=DF s k x q ds ds[k]?)/\(∀s k x q ds d,DF s k x q ds (some d)=if d.plain=true then none else some (.agg ((j.g9 ds).set k d),ck (e_ x s) x (j.put (q++[k]) d.cf (s x))))/\
  (∀s k z q p,q8 s k (.h z q) (.h z p)=sI (jo p (q++[k])) (j.sub p (s z)))/\(∀r,jo [] r=some r)/\(∀a p q,jo (a::p) (a::q)=jo p q)/\(∀k r n xs,sI (some (k::r)) (some (.ad n xs))=true)/\(∀(a:abI) b c,(b::a)++c=b::(a++c))/\(∀c:abI,[]++c=c):=
 ⟨λC s T z k u y=>by
  unfold mm DE;cases s z<;>cases q7 s k y<;>rfl,λ_ _ _ _ _ _ _ _ _ _=>rfl,λs k x q=>by
  simp only[q7];unfold zG;generalize j.sub q (s x)=o;rcases o with _|d
  .rfl
  .cases d<;>rfl,λs k x q ds=>by
  simp only[zG];unfold DF;generalize ds[k]? =o;cases o<;>rfl,λ_ _ _ _ _ _=>rfl,λs k z q p=>by simp[q8],λ_=>rfl,λa p q=>by simp[jo],λ_ _ _ _=>rfl,λ_ _ _=>rfl,λ_=>rfl⟩
theorem K4 {α:Type} {l:List α} {i:Int} {x:α} (h:bS l i=some x) (u:α->j) (y:j):bS ((l.map u).set i.toNat y) i=some y:=by
 have R:=cD h;have U:=(List.getElem?_eq_some_iff.1 R).1;unfold bS at h⊢;split at h
 .rename_i aj;rw[if_pos aj];rw[getElem?_set_self (by simpa using U)]
 .cases h
theorem Tl {C:bI} {s s2:ah} {T:TypeId} {z k u:Nat} {y:j} {K:ah->Prop} (h:mm C s T z k u y=some s2) (ak:K s2):∃s2,mm C s T z k u y=some s2/\K s2:=⟨s2,h,ak⟩
end Go.cW
