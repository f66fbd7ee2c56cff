/- Part of a proof that a law returns true for every input. No condition. -/
import Derived.Test.YtndfcecbamffaaaGreatDoorFwT
namespace Go.cG
open List Go.IntKind Nat Or
section
variable {C:bz} {w0 w au:World} {F0 X F bh:Nat->Prop} {S aG:Nat->Nat->Prop} {n:Fr} {ρ:Nat->Value} {s aq:ag} {an gP:Nat->Value} {a:Act} {av:j} {Q:Exit->Act->World->Prop}
theorem DH (an:Nat->Value) (t:Nat):cw an t (an t)=an:=by funext u;simp only[cw];split<;>simp_all
def s4 (k d0:Nat) (g:FuncId) (c:acj) (s:ag):ag:=cw (jP d0 (cw s k .hole)) d0 (.a8 g c)
def clz (k d0:Nat) (g:FuncId) (c:acj) (s:ag):ag:=cw (jP k (cw s d0 .hole)) k (.cH (.a8 g c))
theorem S_ (h:bm w0 F0 X F S s an w) {k d0:Nat} {g:FuncId} {c:acj} (ak:s k= .cH (.a8 g c)):
  ∃b v e fr,an k= .pointer (some ⟨b,0,none⟩)/\F b/\w.heap[b]? =some (.cells #[v] e fr)/\Value.ej v=true/\∃aG,bm w0 F0 X F aG (s4 k d0 g c s) (cw an d0 v) w:=by
 have aE:=(az.b8 (by rw[ak];rfl)).1 (h.cz k);rw[ak]at aE;obtain⟨R,U⟩:=aE;rw[eH R,al]at U;obtain⟨b,v,e,fr,eR,eu,ga,fS⟩:=U;have eR:an k= .pointer (some ⟨b,0,none⟩):=by simpa using eR
 have j7:Value.ej v=true:=al.me _ _ _ fS v (by simp);refine⟨b,v,e,fr,eR,eu,ga,j7,?_⟩;have cQ:=h.qT (t:=k) (d:=.hole) (v:=an k) rfl (by rw[az];trivial);rw[DH]at cQ;have bl:=cQ.yE (t:=d0) (d:=.a8 g c) (v:=v) (Sn:=S k) rfl j7 (by rw[eH j7];exact fS) (h.dt k) (h.eh k) (λu eA hu I J=>by
  simp only[fg]at J;split at J
  .exact J
  .rename_i DI;exact h.dW k u eA (λe=>DI e.symm) I J) (h.cS k)
 exact⟨_,bl⟩
theorem Ta (h:bm w0 F0 X F S s an w) {k d0 b:Nat} {g:FuncId} {c:acj} {e:TypeId} {fr:Nat×Nat} (ad:s d0= .a8 g c) (eR:an k= .pointer (some ⟨b,0,none⟩)) (eu:F b) (ga:w.heap[b]? =some (.cells #[an d0] e fr)):∃aG,bm w0 F0 X F aG (clz k d0 g c s) an w:=by
 have aE:=(az.b8 (by rw[ad];rfl)).1 (h.cz d0);rw[ad]at aE;obtain⟨R,U⟩:=aE;have Cf:Value.ej (an d0)=true:=R;rw[eH Cf]at U;have cQ:=h.qT (t:=d0) (d:=.hole) (v:=an d0) rfl (by rw[az];trivial);rw[DH]at cQ;have bl:=cQ.yE (t:=k) (d:=.cH (.a8 g c)) (v:=an k) (Sn:=S d0) rfl (by rw[eR];rfl) (by rw[eR,eH rfl,al];exact⟨b,_,e,fr,rfl,eu,ga,U⟩) (h.dt d0) (h.eh d0) (λu eA hu I J=>by
  simp only[fg]at J;split at J
  .exact J
  .rename_i DI;exact h.dW d0 u eA (λe=>DI e.symm) I J) (h.cS d0)
 rw[DH]at bl;exact⟨_,bl⟩
theorem Tb (a1:C.du) {ops:Array Oper} {pre m rest:List bn} {f:aR} {args:List aR} {d1:Option Nat} {K:ag->Prop}
  (uJ:ops.size=pre.length+m.length+rest.length+1) (kb:∀(i:Nat) (o:Oper),pre.length<=i->ops[i]? =some o->∃r,(pre++(m++⟨d1,.call f args,none⟩::rest):List bn)[i]? =some r/\jT n ops o=some r.un) (aD:Rel w0 F0 X n ρ s a w)
  (h:hp C s m λs1=>jW C s1 f args λr s2=>hp C (fin s2 d1 r) rest K)
  (aO:∀aq bG au,K aq->Rel w0 F0 X n ρ aq bG au->Q .normal bG au):wpOps C.P ops Q ((range (m.length+rest.length+1)).map (·+pre.length)) a w:=by
 have K3:∀(i:Nat) (ros:List bn),pre.length<=i->ros=(pre++(m++⟨d1,.call f args,none⟩::rest):List bn)->(ops[i]? =none->ros[i]? =none)/\∀o,ops[i]? =some o->∃r,ros[i]? =some r/\jT n ops o=some r.un:=by
  rintro i ros ax rfl;refine⟨λic=>?_,λo a_=>kb i o ax a_⟩;rw[List.getElem?_eq_none_iff];have:=Array.getElem?_eq_none_iff.1 ic;simp;omega
 have w_:(range (m.length+rest.length+1)).map (·+pre.length)=(range m.length).map (·+pre.length)++((m.length+pre.length)::(range rest.length).map (·+(m.length+pre.length+1))):=by
  rw[show m.length+rest.length+1=m.length+(rest.length+1) by omega,range_add,range_succ_eq_map];simp only[map_append,List.map_map,map_cons,Nat.add_zero];congr 1;congr 1;apply map_congr_left;intro x _;simp;omega
 rw[w_];have hw:=uH C _ m pre (⟨d1,.call f args,none⟩::rest) _ h;have ss:∀aq bG au,hp C aq rest K->Rel w0 F0 X n ρ aq bG au->wpOps C.P ops Q ((range rest.length).map (·+(m.length+pre.length+1))) bG au:=by
  intro fD a3 mu aw sS;have pq:=uH C K rest (pre++(m++[⟨d1,.call f args,none⟩])) [] fD aw;have qg:(pre++(m++[⟨d1,.call f args,none⟩]))++(rest++[])=(pre++(m++⟨d1,.call f args,none⟩::rest):List bn):=by simp
  have:=sB (Q:=Q) a1 (ops:=ops) (ros:=(pre++(m++[⟨d1,.call f args,none⟩]))++(rest++[])) (l2:=[]) (K:=K) (λaq bG au iM c3=>aO aq bG au iM c3) ((range rest.length).map (·+(m.length+pre.length+1))) (λi ax=>K3 i _ (by obtain⟨aB,_,rfl⟩:=mem_map.1 ax;omega) qg) fD a3 mu (by
   have e:(pre++(m++[⟨d1,.call f args,none⟩]):List bn).length=m.length+pre.length+1:=by simp;omega
   rw[e]at pq;exact pq) sS
  rwa [append_nil]at this
 have mid:∀aq bG au,(jW C aq f args λr s2=>hp C (fin s2 d1 r) rest K)->Rel w0 F0 X n ρ aq bG au->wpOps C.P ops Q ((m.length+pre.length)::(range rest.length).map (·+(m.length+pre.length+1))) bG au:=by
  intro s2 a2 lP ae wU;have sR:ops[m.length+pre.length]? =some ops[m.length+pre.length]:=Array.getElem?_eq_getElem (by omega);generalize ops[m.length+pre.length]=lQ at sR;obtain⟨rc,DJ,ma⟩:=kb (m.length+pre.length) lQ (by omega) sR;rw[getElem?_append_right (by omega),getElem?_append_right (by omega)]at DJ;simp only[Nat.add_sub_cancel,Nat.sub_self,getElem?_cons_zero,Option.some.injEq]at DJ;subst DJ;obtain⟨e0,f_,gA,tT⟩:=uI rfl ma;change oj lQ.op= .call f args at gA;have xb:cB lQ.op=some (.call f args):=by
   rcases pj gA with h|h
   .cases h
   .exact h
  have xc:lQ.dst=d1:=e0.symm;exact Ku sR f_ (KR a1 wU xb tT ae λav s1 bG au ak c3=>ss _ _ _ ak (by rw[<-xc];exact c3))
 have:=sB (Q:=Q) a1 (ops:=ops) (ros:=pre++(m++⟨d1,.call f args,none⟩::rest)) (l2:=(m.length+pre.length)::(range rest.length).map (·+(m.length+pre.length+1))) mid
  ((range m.length).map (·+pre.length)) (λi ax=>K3 i _ (by obtain⟨aB,_,rfl⟩:=mem_map.1 ax;omega) rfl) s a w hw aD
 exact this
theorem Tc (a1:C.du) {id:Nat} {ops:Array Oper} {T:TypeId} {k d0:Nat} {m rest:List bn} {args:List aR} {d1:Option Nat} {g:FuncId} {c:acj} {K:ag->Prop}
  (iO:jC n ops ops.toList=some ((⟨some d0,.dU T (.t k),none⟩::(m++⟨d1,.call (.t d0) args,none⟩::rest):List bn).map bn.un)) (e1:(C.T T).flat=true) (c9:d0≠k) (ak:s k= .cH (.a8 g c))
  (hA:∀r∈(m++⟨d1,.call (.t d0) args,none⟩::rest:List bn),∀d,r.dst=some d->d≠d0/\d≠k) (aD:Rel w0 F0 X n ρ s a w)
  (h:hp C (s4 k d0 g c s) m λs1=>jW C s1 (.t d0) args λr s2=>hp C (fin s2 d1 r) rest K)
  (aO:∀aq bG au,K aq->(∀iE jy,aq d0= .a8 iE jy->Rel w0 F0 X n ρ (clz k d0 iE jy aq) bG au)->Q .normal bG au):(Code.region id ops false).wp C.P Q a w:=by
 obtain⟨hJ,dm,gF,F,S,aD⟩:=aD;obtain⟨b,v,e,fr,I,DK,sa,j7,aG,oo⟩:=S_ aD (d0:=d0) ak;obtain⟨hl,kb⟩:=uk iO;have K4:0<ops.toList.length:=by rw[hl];simp
 obtain⟨gl,R,hY⟩:=kb 0 _ (getElem?_eq_getElem K4);simp only[map_cons,getElem?_cons_zero,Option.some.injEq]at R;rw[<-R]at hY;have zv:ops[0]? =some ops.toList[0]:=by rw[<-Array.getElem?_toList];exact getElem?_eq_getElem K4
 generalize ops.toList[0]=kO at hY zv;obtain⟨eR,eu,ga,fS⟩:=uI rfl hY;change oj kO.op= .dU T (.t k)at ga;have nT:cB kO.op=some (.dU T (.t k)):=by
  rcases pj ga with h|h
  .cases h
  .exact h
 obtain⟨y,a6,Di⟩:=Kl nT;have:=Km Di;subst this;have iy:gJ w b 0 [v]:=by
  intro i c ax;cases i with
  |zero=>simp at ax;subst ax;simp[World.cell?,sa]
  |succ i=>simp at ax
 have uJ:ops.size=(m.length+rest.length+1)+1:=by
  have:ops.toList.length=ops.size:=by simp
  rw[<-this,hl];simp;omega
 refine wp_region ?_;rw[uJ,range_succ_eq_map];simp only[wpOps,zv];show(if Region.wanted kO (yielded ops a.tmps)=true then kO.wp C.P a w _ Q\/(kO.asks C.P a w/\LetsOut Q)else _);rw[if_pos (wH eu)];left;have om:(execOp a.eval kO).run C.P w= .ok (.value v) w:=by
  obtain⟨dst,op,ty,pos,after,guard⟩:=kO;simp only at a6;subst a6;have:a.eval (.tmp k)= .pointer (some ⟨b,0,none⟩):=I;simp[execOp,this,Instr.loadAt,Instr.sureAddr,BR a1 e1 iy]
 unfold Oper.wp;rw[om,Oper.upon_value];have Dj:some d0=kO.dst:=eR;rw[<-Dj]at fS⊢;obtain⟨aH,aN,aP⟩:=za (n:=n) (dst:=some d0) (a:=a) v dm fS;rw[<-show mc (λt=>a.tmps.getD t undef) (some d0) v=cw (λt=>a.tmps.getD t undef) d0 v from rfl,<-aH]at oo;let ρ1:Nat->Value:=λt=>(a.put (some d0) v).tmps.getD t undef
 let i_:Fr:=⟨n.n,d0::k::n.fx⟩
 have hrel:Rel w F (λb=>∃u,aG u b) i_ ρ1 (s4 k d0 g c s) (a.put (some d0) v) w:=⟨aP.trans hJ,aN,λi _=>rfl,F,aG,oo.base⟩
 have Dl:ρ1 d0=v:=by
  have:=congrFun aH d0;simp only[mc]at this;rw[lA]at this;exact this
 have xa:∀t,t≠d0->ρ1 t=a.tmps.getD t undef:=λt aK=>by
  have:=congrFun aH t;simp only[mc]at this;rw[ia _ _ aK]at this;exact this
 have Td:d0∉n.fx:=by
  simp only[jB,Bool.and_eq_true,Bool.not_eq_true',contains_eq_mem,decide_eq_false_iff_not]at fS;exact fS.2
 have:=Tb (Q:=Q) (n:=i_) (ρ:=ρ1) a1 (ops:=ops) (pre:=[⟨some d0,.dU T (.t k),none⟩]) (m:=m) (rest:=rest) (by simp;omega) (λi o ax a_=>by
  obtain⟨aF,gu,U⟩:=kb i o (by simpa using a_);obtain⟨r,R,rfl⟩:∃r,(⟨some d0,.dU T (.t k),none⟩::(m++⟨d1,.call (.t d0) args,none⟩::rest):List bn)[i]? =some r/\r.un=aF:=by
   rw[getElem?_map,Option.map_eq_some_iff]at gu;exact gu
  refine⟨r,R,?_⟩;obtain⟨o2,rfl⟩:∃aB,i=aB+1:=⟨i-1,by simp at ax;omega⟩
  rw[getElem?_cons_succ]at R;have Dm:=hA r (mem_of_getElem? R);unfold jT at U⊢;split at U
  .rename_i ad;rw[if_pos]
   .exact U
   .cases sT:o.dst with
    |none=>rfl
    |some d=>
     rw[sT]at ad;simp only[jB,Bool.and_eq_true,decide_eq_true_eq,Bool.not_eq_true',contains_eq_mem,decide_eq_false_iff_not]at ad⊢;refine⟨ad.1,?_⟩;have qe:r.dst=some d:=by
      split at U
      .simp only[bn.un,Option.some.injEq,bn.mk.injEq]at U;rw[<-U.1,sT]
      .cases U
     obtain⟨m1,m2⟩:=Dm d qe;simp only[i_,mem_cons,not_or];exact⟨m1,m2,ad.2⟩
  .cases U) hrel h λfD a3 mu aw sS=>by
   obtain⟨g1,g2,g3,wC,p6,g4⟩:=sS;have Te:wC b:=g4.ff b DK;have Tf:mu.heap[b]? =some (.cells #[v] e fr):=by
    rw[g4.old b (oo.dP b DK) (λ⟨u,hu⟩=>oo.eh u b hu DK)];exact sa
   have p0:a3.tmps.getD k undef= .pointer (some ⟨b,0,none⟩):=by
    rw[g3 k (by simp[i_]),xa k (λe=>c9 e.symm)];exact I
   have DL:a3.tmps.getD d0 undef=v:=by rw[g3 d0 (by simp[i_]),Dl]
   refine aO fD a3 mu aw λiE jy DM=>?_;obtain⟨yO,g5⟩:=Ta g4 (k:=k) DM p0 Te (e:=e) (fr:=fr) (by rw[Tf,DL]);refine⟨g1,g2,λi ax=>?_,wC,yO,oo.Kj g5⟩;rw[g3 i (by simp[i_,ax]),xa i (λe=>Td (e▸ax))];exact gF i ax
 simpa using this
end
def zH (C:bz) (k d0:Nat) (m:List bn) (args:List aR) (d1:Option Nat) (rest:List bn) (keep:ace):(Exit->ag->Prop)->ag->Prop:=
 λQ s=>∃g c,s k= .cH (.a8 g c)/\ch C (s4 k d0 g c s) m none λ_ s1=>jW C s1 (.t d0) args λr s2=>ch C (fin s2 d1 r) rest none λ_ fD=>∃iE jy,fD d0= .a8 iE jy/\c1 (Q .normal) (ah (eM keep (clz k d0 iE jy fD)))
def K5 (T:TypeId) (k d0:Nat) (m:List bn) (args:List aR) (d1:Option Nat) (rest:List bn):aI:=.dJ (⟨some d0,.dU T (.t k),none⟩::(m++⟨d1,.call (.t d0) args,none⟩::rest)) none
def zI (C:bz) (T:(Exit->ag->Prop)->ag->Prop) (b:aI):Prop:=
 ∃(bV:TypeId) (k d0:Nat) (m:List bn) (args:List aR) (d1:Option Nat) (rest:List bn) (keep:ace),T=zH C k d0 m args d1 rest keep/\b=K5 bV k d0 m args d1 rest/\(C.T bV).flat=true/\d0≠k/\Dn (λd=>d !=d0&&d !=k) (m++⟨d1,.call (.t d0) args,none⟩::rest)=true
section
variable {C:bz} {w0 w:World} {F0 X:Nat->Prop} {n:Fr} {ρ:Nat->Value} {s:ag} {a:Act}
theorem Tg (a1:C.du) {c:Code} {T:(Exit->ag->Prop)->ag->Prop} {b:aI} {Q:Exit->ag->Prop} (el:zI C T b) (J:eI n c=some b.strip) (h:T Q s) (aD:Rel w0 F0 X n ρ s a w):
  c.wp C.P (mQ w0 F0 X n ρ Q) a w:=by
 obtain⟨bV,k,d0,m,args,d1,rest,keep,rfl,rfl,e1,c9,hA⟩:=el;obtain⟨id,ops,rfl,iO⟩:=zx J;obtain⟨g,O3,ak,h⟩:=h;refine Tc (Q:=mQ w0 F0 X n ρ Q) (K:=λfD=>∃iE jy,fD d0= .a8 iE jy/\c1 (Q .normal) (ah (eM keep (clz k d0 iE jy fD)))) a1 iO e1 c9 ak (λr aD d ad=>by
  have:=Ks hA r aD d ad;simp only[Bool.and_eq_true,bne_iff_ne,ne_eq]at this;exact this) aD (pt (λ_ s1 ae=>KS (λr s2 h=>pt (λ_ s h=>h) h) ae) h) λfD bG au p0 c3=>?_
 obtain⟨g2,bJ,mv,z2⟩:=p0;obtain⟨rp,bk,dn⟩:=(c3 g2 bJ mv).c1 (K:=c1 (Q .normal)) (.inr ⟨_,zw _ _,z2⟩);exact dn.c1 bk
end
theorem K6:(∀t d,kC t (.cH d)= .h t [])/\(∀d,j.plain (.cH d)=false)/\(∀t d,cj t (.cH d)= .cH d)/\(∀t d,bU t (.cH d)= .cH d)/\(∀d,j.cv (.cH d)= .hole)/\(∀d,j.wd (.cH d)=1)/\(∀d,j.fh (.cH d)=true)/\(∀d e,pg (.cH d) (.cH e)=true)/\
  (∀d,j.J (.cH d)=[])/\(∀d,j.tree (.cH d)=true)/\(∀d ds x us,im (d::ds) (.cH x::us)= .cH x::im ds us)/\(∀(l:aci) t d,fin (ah l) (some t) (.cH d)=ah ((t,.cH d)::ov t l)):=
 ⟨λ_ _=>rfl,λ_=>rfl,λ_ _=>by unfold cj;rfl,λ_ _=>by unfold bU;rfl,λ_=>by simp only[j.cv],λ_=>by simp only[j.wd],λ_=>rfl,λ_ _=>rfl,λ_=>by simp only[j.J],λ_=>rfl,λ_ _ _ _=>rfl,λl t d=>by simp only[fin,j.plain,Bool.false_eq_true,if_false,sE,po]⟩
theorem Th {C:bz} {Q:Exit->ag->Prop} {l:aci} {k d0:Nat} {m:List bn} {args:List aR} {d1:Option Nat} {rest:List bn} {keep:ace} {b:aI} (bR:aci)
  (h:∀P:aci->Prop,P bR->∃g c,ah l k= .cH (.a8 g c)/\ch C (s4 k d0 g c (ah l)) m none λ_ s1=>jW C s1 (.t d0) args λr s2=>ch C (fin s2 d1 r) rest none λ_ fD=>∃iE jy,fD d0= .a8 iE jy/\P (eM keep (clz k d0 iE jy fD))) (ak:c1 (Q .normal) (ah bR)):bw C (.fM (zH C k d0 m args d1 rest keep) b) Q (ah l):=
 λdy xm=>h (λl=>c1 (dy .normal) (ah l)) (qf (λ_ h=>xm _ _ h) _ ak)
theorem Ti {C:bz} {Q:Exit->ag->Prop} {l:aci} {k d0:Nat} {m:List bn} {args:List aR} {d1:Option Nat} {rest:List bn} {keep:ace} {b:aI} (bR:aci)
  (h:∀P:aci->Prop,P bR->∃g c,ah l k= .cH (.a8 g c)/\ch C (s4 k d0 g c (ah l)) m none λ_ s1=>jW C s1 (.t d0) args λr s2=>ch C (fin s2 d1 r) rest none λ_ fD=>∃iE jy,fD d0= .a8 iE jy/\P (eM keep (clz k d0 iE jy fD))) (ak:Q .normal (ah bR)):bw C (.fM (zH C k d0 m args d1 rest keep) b) Q (ah l):=
 Th (b:=b) bR h (.inl ak)
end Go.cG
