/- Part of a proof that a law returns true for every input. No condition. -/
import Derived.Test.YtcmimclaknmnbaaGreatDoorFwT
namespace Go.cC
open List Go.IntKind Nat Or
section
variable {C:bx} {w0 w aq:World} {F0 X F br:Nat->Prop} {S aJ:Nat->Nat->Prop} {n:Fr} {ρ:Nat->Value} {s aA:an} {au fJ:Nat->Value} {a:Act} {av:I} {Q:Exit->Act->World->Prop}
theorem IX (au:Nat->Value) (t:Nat):cK au t (au t)=au:=by funext u;simp only[cK];split<;>simp_all
def wc (k d0:Nat) (g:FuncId) (c:anZ) (s:an):an:=cK (k8 d0 (cK s k .hole)) d0 (.bm g c)
def clz (k d0:Nat) (g:FuncId) (c:anZ) (s:an):an:=cK (k8 k (cK s d0 .hole)) k (.cX (.bm g c))
theorem abp (h:bq w0 F0 X F S s au w) {k d0:Nat} {g:FuncId} {c:anZ} (hk:s k= .cX (.bm g c)):
  ∃b v e fr,au k= .pointer (some ⟨b,0,none⟩)/\F b/\w.heap[b]? =some (.cells #[v] e fr)/\Value.eJ v=true/\∃aJ,bq w0 F0 X F aJ (wc k d0 g c s) (cK au d0 v) w:=by
 have aD:=(aF.b_ (by rw[hk];rfl)).1 (h.cD k);rw[hk]at aD;obtain⟨h1,ab⟩:=aD;rw[e_ h1,ar]at ab;obtain⟨b,v,e,fr,eH,eB,gD,gK⟩:=ab;have eH:au k= .pointer (some ⟨b,0,none⟩):=by simpa using eH
 have jw:Value.eJ v=true:=ar.mP _ _ _ gK v (by simp);refine⟨b,v,e,fr,eH,eB,gD,jw,?_⟩;have cY:=h.tB (t:=k) (d:=.hole) (v:=au k) rfl (by rw[aF];trivial);rw[IX]at cY;have bl:=cY.C0 (t:=d0) (d:=.bm g c) (v:=v) (Sn:=S k) rfl jw (by rw[e_ jw];exact gK) (h.dh k) (h.ep k) (λu e8 hu R U=>by
  simp only[fY]at U;split at U
  .exact U
  .rename_i IY;exact h.ev k u e8 (λe=>IY e.symm) R U) (h.cR k)
 exact⟨_,bl⟩
theorem abq (h:bq w0 F0 X F S s au w) {k d0 b:Nat} {g:FuncId} {c:anZ} {e:TypeId} {fr:Nat×Nat} (ae:s d0= .bm g c) (eH:au k= .pointer (some ⟨b,0,none⟩)) (eB:F b) (gD:w.heap[b]? =some (.cells #[au d0] e fr)):∃aJ,bq w0 F0 X F aJ (clz k d0 g c s) au w:=by
 have aD:=(aF.b_ (by rw[ae];rfl)).1 (h.cD d0);rw[ae]at aD;obtain⟨h1,ab⟩:=aD;have Hc:Value.eJ (au d0)=true:=h1;rw[e_ Hc]at ab;have cY:=h.tB (t:=d0) (d:=.hole) (v:=au d0) rfl (by rw[aF];trivial);rw[IX]at cY;have bl:=cY.C0 (t:=k) (d:=.cX (.bm g c)) (v:=au k) (Sn:=S d0) rfl (by rw[eH];rfl) (by rw[eH,e_ rfl,ar];exact⟨b,_,e,fr,rfl,eB,gD,ab⟩) (h.dh d0) (h.ep d0) (λu e8 hu R U=>by
  simp only[fY]at U;split at U
  .exact U
  .rename_i IY;exact h.ev d0 u e8 (λe=>IY e.symm) R U) (h.cR d0)
 rw[IX]at bl;exact⟨_,bl⟩
theorem abr (bb:C.Ok) {ops:Array Oper} {pre m rest:List bt} {f:aX} {args:List aX} {d1:Option Nat} {K:an->Prop}
  (x3:ops.size=pre.length+m.length+rest.length+1) (jD:∀(i:Nat) (o:Oper),pre.length<=i->ops[i]? =some o->∃r,(pre++(m++⟨d1,.call f args,none⟩::rest):List bt)[i]? =some r/\lh n ops o=some r.un) (ax:Rel w0 F0 X n ρ s a w)
  (h:iq C s m λs1=>ln C s1 f args λr s2=>iq C (fin s2 d1 r) rest K)
  (aN:∀aA bN aq,K aA->Rel w0 F0 X n ρ aA bN aq->Q .normal bN aq):wpOps C.P ops Q ((range (m.length+rest.length+1)).map (·+pre.length)) a w:=by
 have Rq:∀(i:Nat) (ros:List bt),pre.length<=i->ros=(pre++(m++⟨d1,.call f args,none⟩::rest):List bt)->(ops[i]? =none->ros[i]? =none)/\∀o,ops[i]? =some o->∃r,ros[i]? =some r/\lh n ops o=some r.un:=by
  rintro i ros ak rfl;refine⟨λiR=>?_,λo a1=>jD i o ak a1⟩;rw[List.getElem?_eq_none_iff];have:=Array.getElem?_eq_none_iff.1 iR;simp;omega
 have AY:(range (m.length+rest.length+1)).map (·+pre.length)=(range m.length).map (·+pre.length)++((m.length+pre.length)::(range rest.length).map (·+(m.length+pre.length+1))):=by
  rw[show m.length+rest.length+1=m.length+(rest.length+1) by omega,range_add,range_succ_eq_map];simp only[map_append,List.map_map,map_cons,Nat.add_zero];congr 1;congr 1;apply map_congr_left;intro x _;simp;omega
 rw[AY];have hw:=x1 C _ m pre (⟨d1,.call f args,none⟩::rest) _ h;have vv:∀aA bN aq,iq C aA rest K->Rel w0 F0 X n ρ aA bN aq->wpOps C.P ops Q ((range rest.length).map (·+(m.length+pre.length+1))) bN aq:=by
  intro gz a3 mA ay vR;have rM:=x1 C K rest (pre++(m++[⟨d1,.call f args,none⟩])) [] gz ay;have sK:(pre++(m++[⟨d1,.call f args,none⟩]))++(rest++[])=(pre++(m++⟨d1,.call f args,none⟩::rest):List bt):=by simp
  have:=vB (Q:=Q) bb (ops:=ops) (ros:=(pre++(m++[⟨d1,.call f args,none⟩]))++(rest++[])) (l2:=[]) (K:=K) (λaA bN aq j8 dA=>aN aA bN aq j8 dA) ((range rest.length).map (·+(m.length+pre.length+1))) (λi ak=>Rq i _ (by obtain⟨j,_,rfl⟩:=mem_map.1 ak;omega) sK) gz a3 mA (by
   have e:(pre++(m++[⟨d1,.call f args,none⟩]):List bt).length=m.length+pre.length+1:=by simp;omega
   rw[e]at rM;exact rM) vR
  rwa [append_nil]at this
 have mid:∀aA bN aq,(ln C aA f args λr s2=>iq C (fin s2 d1 r) rest K)->Rel w0 F0 X n ρ aA bN aq->wpOps C.P ops Q ((m.length+pre.length)::(range rest.length).map (·+(m.length+pre.length+1))) bN aq:=by
  intro s2 a2 mz ag AH;have vQ:ops[m.length+pre.length]? =some ops[m.length+pre.length]:=Array.getElem?_eq_getElem (by omega);generalize ops[m.length+pre.length]=nI at vQ;obtain⟨rc,IZ,og⟩:=jD (m.length+pre.length) nI (by omega) vQ;rw[getElem?_append_right (by omega),getElem?_append_right (by omega)]at IZ;simp only[Nat.add_sub_cancel,Nat.sub_self,getElem?_cons_zero,Option.some.injEq]at IZ;subst IZ;obtain⟨eF,fk,hp,xo⟩:=x2 rfl og;change qw nI.op= .call f args at hp;have A2:cP nI.op=some (.call f args):=by
   rcases rJ hp with h|h
   .cases h
   .exact h
  have A3:nI.dst=d1:=eF.symm;exact Qv vQ fk (QW bb AH A2 xo ag λav s1 bN aq hk dA=>vv _ _ _ hk (by rw[<-A3];exact dA))
 have:=vB (Q:=Q) bb (ops:=ops) (ros:=pre++(m++⟨d1,.call f args,none⟩::rest)) (l2:=(m.length+pre.length)::(range rest.length).map (·+(m.length+pre.length+1))) mid
  ((range m.length).map (·+pre.length)) (λi ak=>Rq i _ (by obtain⟨j,_,rfl⟩:=mem_map.1 ak;omega) rfl) s a w hw ax
 exact this
theorem abt (bb:C.Ok) {id:Nat} {ops:Array Oper} {T:TypeId} {k d0:Nat} {m rest:List bt} {args:List aX} {d1:Option Nat} {g:FuncId} {c:anZ} {K:an->Prop}
  (j9:kN n ops ops.toList=some ((⟨some d0,.ld T (.t k),none⟩::(m++⟨d1,.call (.t d0) args,none⟩::rest):List bt).map bt.un)) (fK:(C.T T).flat=true) (cI:d0≠k) (hk:s k= .cX (.bm g c))
  (gA:∀r∈(m++⟨d1,.call (.t d0) args,none⟩::rest:List bt),∀d,r.dst=some d->d≠d0/\d≠k) (ax:Rel w0 F0 X n ρ s a w)
  (h:iq C (wc k d0 g c s) m λs1=>ln C s1 (.t d0) args λr s2=>iq C (fin s2 d1 r) rest K)
  (aN:∀aA bN aq,K aA->(∀jG jU,aA d0= .bm jG jU->Rel w0 F0 X n ρ (clz k d0 jG jU aA) bN aq)->Q .normal bN aq):(Code.region id ops false).wp C.P Q a w:=by
 obtain⟨iX,dr,hz,F,S,ax⟩:=ax;obtain⟨b,v,e,fr,R,Bd,oj,jw,aJ,qy⟩:=abp ax (d0:=d0) hk;obtain⟨hl,jD⟩:=xL j9;have Rr:0<ops.toList.length:=by rw[hl];simp
 obtain⟨gj,h1,ir⟩:=jD 0 _ (getElem?_eq_getElem Rr);simp only[map_cons,getElem?_cons_zero,Option.some.injEq]at h1;rw[<-h1]at ir;have DY:ops[0]? =some ops.toList[0]:=by rw[<-Array.getElem?_toList];exact getElem?_eq_getElem Rr
 generalize ops.toList[0]=my at ir DY;obtain⟨eH,eB,gD,gK⟩:=x2 rfl ir;change qw my.op= .ld T (.t k)at gD;have kT:cP my.op=some (.ld T (.t k)):=by
  rcases rJ gD with h|h
  .cases h
  .exact h
 obtain⟨y,hy,Ih⟩:=Qn kT;have:=Qo Ih;subst this;have jQ:Rd w b 0 [v]:=by
  intro i c ak;cases i with
  |zero=>simp at ak;subst ak;simp[World.cell?,oj]
  |succ i=>simp at ak
 have x3:ops.size=(m.length+rest.length+1)+1:=by
  have:ops.toList.length=ops.size:=by simp
  rw[<-this,hl];simp;omega
 refine wp_region ?_;rw[x3,range_succ_eq_map];simp only[wpOps,DY];show(if Region.wanted my (yielded ops a.tmps)=true then my.wp C.P a w _ Q\/(my.asks C.P a w/\LetsOut Q)else _);rw[if_pos (Ar eB)];left;have qx:(execOp a.eval my).run C.P w= .ok (.value v) w:=by
  obtain⟨dst,op,ty,pos,after,guard⟩:=my;simp only at hy;subst hy;have:a.eval (.tmp k)= .pointer (some ⟨b,0,none⟩):=R;simp[execOp,this,Instr.loadAt,Instr.sureAddr,GQ bb fK jQ]
 unfold Oper.wp;rw[qx,Oper.upon_value];have AZ:some d0=my.dst:=eH;rw[<-AZ]at gK⊢;obtain⟨aI,aM,aP⟩:=Dv (n:=n) (dst:=some d0) (a:=a) v dr gK;rw[<-show oi (λt=>a.tmps.getD t undef) (some d0) v=cK (λt=>a.tmps.getD t undef) d0 v from rfl,<-aI]at qy;let ρ1:Nat->Value:=λt=>(a.put (some d0) v).tmps.getD t undef
 let jW:Fr:=⟨n.n,d0::k::n.fx⟩
 have hrel:Rel w F (λb=>∃u,aJ u b) jW ρ1 (wc k d0 g c s) (a.put (some d0) v) w:=⟨aP.trans iX,aM,λi _=>rfl,F,aJ,qy.base⟩
 have Ij:ρ1 d0=v:=by
  have:=congrFun aI d0;simp only[oi]at this;rw[nv]at this;exact this
 have A1:∀t,t≠d0->ρ1 t=a.tmps.getD t undef:=λt aL=>by
  have:=congrFun aI t;simp only[oi]at this;rw[ju _ _ aL]at this;exact this
 have abu:d0∉n.fx:=by
  simp only[kM,Bool.and_eq_true,Bool.not_eq_true',contains_eq_mem,decide_eq_false_iff_not]at gK;exact gK.2
 have:=abr (Q:=Q) (n:=jW) (ρ:=ρ1) bb (ops:=ops) (pre:=[⟨some d0,.ld T (.t k),none⟩]) (m:=m) (rest:=rest) (by simp;omega) (λi o ak a1=>by
  obtain⟨az,gW,ab⟩:=jD i o (by simpa using a1);obtain⟨r,h1,rfl⟩:∃r,(⟨some d0,.ld T (.t k),none⟩::(m++⟨d1,.call (.t d0) args,none⟩::rest):List bt)[i]? =some r/\r.un=az:=by
   rw[getElem?_map,Option.map_eq_some_iff]at gW;exact gW
  refine⟨r,h1,?_⟩;obtain⟨rl,rfl⟩:∃j,i=j+1:=⟨i-1,by simp at ak;omega⟩
  rw[getElem?_cons_succ]at h1;have Ik:=gA r (mem_of_getElem? h1);unfold lh at ab⊢;split at ab
  .rename_i ae;rw[if_pos]
   .exact ab
   .cases vS:o.dst with
    |none=>rfl
    |some d=>
     rw[vS]at ae;simp only[kM,Bool.and_eq_true,decide_eq_true_eq,Bool.not_eq_true',contains_eq_mem,decide_eq_false_iff_not]at ae⊢;refine⟨ae.1,?_⟩;have sI:r.dst=some d:=by
      split at ab
      .simp only[bt.un,Option.some.injEq,bt.mk.injEq]at ab;rw[<-ab.1,vS]
      .cases ab
     obtain⟨m1,m2⟩:=Ik d sI;simp only[jW,mem_cons,not_or];exact⟨m1,m2,ae.2⟩
  .cases ab) hrel h λgz a3 mA ay vR=>by
   obtain⟨g1,g2,g3,Am,kH,g4⟩:=vR;have abv:Am b:=g4.fl b Bd;have abw:mA.heap[b]? =some (.cells #[v] e fr):=by
    rw[g4.old b (qy.dV b Bd) (λ⟨u,hu⟩=>qy.ep u b hu Bd)];exact oj
   have sr:a3.tmps.getD k undef= .pointer (some ⟨b,0,none⟩):=by
    rw[g3 k (by simp[jW]),A1 k (λe=>cI e.symm)];exact R
   have I0:a3.tmps.getD d0 undef=v:=by rw[g3 d0 (by simp[jW]),Ij]
   refine aN gz a3 mA ay λjG jU I1=>?_;obtain⟨ou,g5⟩:=abq g4 (k:=k) I1 sr abv (e:=e) (fr:=fr) (by rw[abw,I0]);refine⟨g1,g2,λi ak=>?_,Am,ou,qy.Qm g5⟩;rw[g3 i (by simp[jW,ak]),A1 i (λe=>abu (e▸ak))];exact hz i ak
 simpa using this
end
def Ea (C:bx) (k d0:Nat) (m:List bt) (args:List aX) (d1:Option Nat) (rest:List bt) (keep:anU):(Exit->an->Prop)->an->Prop:=
 λQ s=>∃g c,s k= .cX (.bm g c)/\cq C (wc k d0 g c s) m none λ_ s1=>ln C s1 (.t d0) args λr s2=>cq C (fin s2 d1 r) rest none λ_ gz=>∃jG jU,gz d0= .bm jG jU/\di (Q .normal) (aj (fo keep (clz k d0 jG jU gz)))
def Rs (T:TypeId) (k d0:Nat) (m:List bt) (args:List aX) (d1:Option Nat) (rest:List bt):aH:=.ew (⟨some d0,.ld T (.t k),none⟩::(m++⟨d1,.call (.t d0) args,none⟩::rest)) none
def Eb (C:bx) (T:(Exit->an->Prop)->an->Prop) (b:aH):Prop:=
 ∃(b5:TypeId) (k d0:Nat) (m:List bt) (args:List aX) (d1:Option Nat) (rest:List bt) (keep:anU),T=Ea C k d0 m args d1 rest keep/\b=Rs b5 k d0 m args d1 rest/\(C.T b5).flat=true/\d0≠k/\Il (λd=>d !=d0&&d !=k) (m++⟨d1,.call (.t d0) args,none⟩::rest)=true
section
variable {C:bx} {w0 w:World} {F0 X:Nat->Prop} {n:Fr} {ρ:Nat->Value} {s:an} {a:Act}
theorem abx (bb:C.Ok) {c:Code} {T:(Exit->an->Prop)->an->Prop} {b:aH} {Q:Exit->an->Prop} (eZ:Eb C T b) (U:fh n c=some b.strip) (h:T Q s) (ax:Rel w0 F0 X n ρ s a w):
  c.wp C.P (o3 w0 F0 X n ρ Q) a w:=by
 obtain⟨b5,k,d0,m,args,d1,rest,keep,rfl,rfl,fK,cI,gA⟩:=eZ;obtain⟨id,ops,rfl,j9⟩:=D0 U;obtain⟨g,WX,hk,h⟩:=h;refine abt (Q:=o3 w0 F0 X n ρ Q) (K:=λgz=>∃jG jU,gz d0= .bm jG jU/\di (Q .normal) (aj (fo keep (clz k d0 jG jU gz)))) bb j9 fK cI hk (λr ax d ae=>by
  have:=Qt gA r ax d ae;simp only[Bool.and_eq_true,bne_iff_ne,ne_eq]at this;exact this) ax (rO (λ_ s1 ag=>QX (λr s2 h=>rO (λ_ s h=>h) h) ag) h) λgz bN aq sr dA=>?_
 obtain⟨g2,c2,oA,z2⟩:=sr;obtain⟨pX,bp,cL⟩:=(dA g2 c2 oA).di (K:=di (Q .normal)) (.inr ⟨_,DZ _ _,z2⟩);exact cL.di bp
end
theorem Rt:(∀t d,mi t (.cX d)= .h t [])/\(∀d,I.plain (.cX d)=false)/\(∀t d,cu t (.cX d)= .cX d)/\(∀t d,b4 t (.cX d)= .cX d)/\(∀d,I.cJ (.cX d)= .hole)/\(∀d,I.wd (.cX d)=1)/\(∀d,I.ga (.cX d)=true)/\(∀d e,rH (.cX d) (.cX e)=true)/\
  (∀d,I.U (.cX d)=[])/\(∀d,I.tree (.cX d)=true)/\(∀d ds x us,jA (d::ds) (.cX x::us)= .cX x::jA ds us)/\(∀(l:anY) t d,fin (aj l) (some t) (.cX d)=aj ((t,.cX d)::qC t l)):=
 ⟨λ_ _=>rfl,λ_=>rfl,λ_ _=>by unfold cu;rfl,λ_ _=>by unfold b4;rfl,λ_=>by simp only[I.cJ],λ_=>by simp only[I.wd],λ_=>rfl,λ_ _=>rfl,λ_=>by simp only[I.U],λ_=>rfl,λ_ _ _ _=>rfl,λl t d=>by simp only[fin,I.plain,Bool.false_eq_true,if_false,vF,rL]⟩
theorem aby {C:bx} {Q:Exit->an->Prop} {l:anY} {k d0:Nat} {m:List bt} {args:List aX} {d1:Option Nat} {rest:List bt} {keep:anU} {b:aH} (bV:anY)
  (h:∀P:anY->Prop,P bV->∃g c,aj l k= .cX (.bm g c)/\cq C (wc k d0 g c (aj l)) m none λ_ s1=>ln C s1 (.t d0) args λr s2=>cq C (fin s2 d1 r) rest none λ_ gz=>∃jG jU,gz d0= .bm jG jU/\P (fo keep (clz k d0 jG jU gz))) (hk:di (Q .normal) (aj bV)):bh C (.gF (Ea C k d0 m args d1 rest keep) b) Q (aj l):=
 λee A_=>h (λl=>di (ee .normal) (aj l)) (sJ (λ_ h=>A_ _ _ h) _ hk)
theorem abz {C:bx} {Q:Exit->an->Prop} {l:anY} {k d0:Nat} {m:List bt} {args:List aX} {d1:Option Nat} {rest:List bt} {keep:anU} {b:aH} (bV:anY)
  (h:∀P:anY->Prop,P bV->∃g c,aj l k= .cX (.bm g c)/\cq C (wc k d0 g c (aj l)) m none λ_ s1=>ln C s1 (.t d0) args λr s2=>cq C (fin s2 d1 r) rest none λ_ gz=>∃jG jU,gz d0= .bm jG jU/\P (fo keep (clz k d0 jG jU gz))) (hk:Q .normal (aj bV)):bh C (.gF (Ea C k d0 m args d1 rest keep) b) Q (aj l):=
 aby (b:=b) bV h (.inl hk)
end Go.cC
