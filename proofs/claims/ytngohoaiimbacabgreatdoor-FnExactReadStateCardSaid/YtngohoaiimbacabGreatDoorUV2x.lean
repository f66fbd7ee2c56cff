/- Part of a proof that a law returns true for every input. No condition. -/
import Derived.Test.YtngohoaiimbacabGreatDoorUV1x
import Derived.Test.YtngohoaiimbacabGreatDoorP3
import Derived.Test.YtngohoaiimbacabGreatDoorUV0x
namespace Go.lV
open List Option Go.IntKind Nat Or
open Go Go.c_
theorem adS {l:Nat->Int->ahy} {n:Nat} (p:Nat->Bool) (oU bad:Int) (aV:∀m,l (m+1) (n:Int)=some oU)
  (U:∀i,i<n->∀m,l (m+1) (i:Int)=cond (p i) (l m ((i+1:Nat):Int)) (some bad)):ca (λm=>l m 0)=some (cond (eY p n) oU bad):=by
 rw[tN (n:=n) (λi=>some (cond ((range' i (n-i)).all p) oU bad))]
 .simp[eY,range_eq_range']
 .intro m;rw[aV];simp
 .intro i ak m ih;rw[U i ak,ih,show n-i=(n-(i+1))+1 by omega,range'_succ];cases an:p i<;>simp[an]
def zj (p:bD):Prop:=p.Name.length<=1048576/\p.ck.length<=1048576/\∀e∈p.ck,e.length<=1048576
def qU (p:bD) (cX:Int):Bool:=eY (λi=>tW (p.ck.getD i []) cX 15) p.ck.length
theorem adT (p:bD) (an:zj p) (cX:Int) (h:0<=cX/\cX<=29):ca (λn=>tb p n cX 0)=some (cond (qU p cX) 0 8):=by
 refine adS (l:=λm i=>tb p m cX i) _ _ _ (λm=>?_) (λi ak m=>?_)
 .simp only[tb,FI];rw[ez (Nat.le_refl _)];rfl
 .simp only[tb,FI];rw[e4 ak,l3 _ i [] ak,e1 i _ ak (by have:=an.2.1;omega)];simp only[cond_true,bind_some];rw[adx _ cX 15 (by omega) (by
   have:p.ck.getD i []=p.ck[i]:=by simp[List.getD,ak]
   rw[this];exact an.2.2 _ (getElem_mem ak))]
  simp only[bind_some];cases tW (p.ck.getD i []) cX 15<;>rfl
theorem adU (p:bD) (an:zj p) (pl:cM) (h:0<=pl.scope/\pl.scope<=29):Bp p.ck pl=some (!(qU p pl.scope)):=by
 unfold Bp Gd;rw[pW (n:=p.ck.length) (λi=> !tW (p.ck.getD i []) pl.scope 15)]
 .simp only[bind_some,qQ,Bool.not_not];rfl
 .intro m;simp only[yd,Gc];rw[ez (Nat.le_refl _)];rfl
 .intro i ak m;simp only[yd,Gc];rw[e4 ak,l3 _ i [] ak,e1 i _ ak (by have:=an.2.1;omega)];simp only[cond_true,bind_some,Gb];rw[ady _ pl.scope 15 h (by omega) (by
   have:p.ck.getD i []=p.ck[i]:=by simp[List.getD,ak]
   rw[this];exact an.2.2 _ (getElem_mem ak))]
  simp only[bind_some]
theorem Pt (s:aht) (U:s.length<=1048576):qz s=some (iP s&& !(s==([116,97,117]:aht))):=by
 unfold qz;rw[O7 s (by omega)];rfl
theorem adV {s:aht} (h:(s==([116,97,117]:aht))=true):iP s=true:=by
 have:s=[116,97,117]:=by simpa using h
 subst this;decide
theorem CL (n:Int) (l:Nat) (hl:l<=1048576):rR n (l:Int)=some (decide (0<=n)&&decide (n<=(l:Int)-1)):=by
 unfold rR iw;rw[eb ((l:Int)-1) (by omega)];rfl
theorem adW (list:ahL) (hl:list.length<=4) (d:bl) (at_:Nat) (adX:at_<d.Body.length) (R:d.Body.length<=20) (an:zj d.Body[at_]) (pl:cM)
  (nr:rL d (at_:Int)=some pl.scope) (Pu:0<=pl.scope/\pl.scope<=29)
  (sb:pl.behind=IG d.Body at_):
  ∃r,x3 list d (at_:Int)=some r/\yh d.Body[at_] list pl=some r/\0<=r:=by
 have IH:∀p,zj p->p=d.Body[at_]->∃r,x3 list d (at_:Int)=some r/\yh p list pl=some r/\0<=r:=by
  intro p an Di;have E4:=adT p an pl.scope Pu;have Am:=adU p an pl Pu;have II:=Pt p.Name an.1;have adY:=IB p.Name;have adZ:tc d (at_:Int) p=some (cond ((p.Kind==5)&& !pl.behind) 6 (cond ((p.Kind==4)&&decide (6<=pl.scope)) 7 (cond (qU p pl.scope) 0 8))):=by
   have ad0:∀v,u9 d (at_:Int) p v=some (cond v 6 (cond ((p.Kind==4)&&decide (6<=pl.scope)) 7 (cond (qU p pl.scope) 0 8))):=by
    intro v;unfold u9;rw[nr];simp only[bind_some,E4];cases v<;>cases(p.Kind==4&&decide (6<=pl.scope))<;>rfl
   unfold tc;simp only[ad0];cases at_ with
   |zero=>
    replace sb:pl.behind=false:=sb;rw[sb];simp only[Bool.not_false,Bool.and_true];cases p.Kind==5<;>rfl
   |succ q=>
    have b_:q<d.Body.length:=by omega
    have fE:(((q+1:Nat):Int)==0)=false:=by rw[beq_eq_false_iff_ne];omega
    rw[fE,za (q+1) (by omega) (by omega),show q+1-1=q from rfl,fe _ q b_];replace sb:pl.behind=(match d.Body[q]? with|some p=>p.Kind==1|none=>false):=sb;rw[getElem?_eq_getElem b_]at sb;simp only[cond_false,bind_some];simp only at sb;rw[sb];have cO:(d.Body[q].Kind !=1)= !(d.Body[q].Kind==1):=rfl;rw[cO];cases p.Kind==5<;>cases d.Body[q].Kind==1<;>rfl
  have pk:bh d.Body (at_:Int)=some p:=by rw[fe _ at_ adX,Di]
  have CM:((p.ck.length:Int)==0)=true->qU p pl.scope=true:=by
   intro h;have:p.ck.length=0:=by simpa using h
   unfold qU;rw[this];rfl
  unfold x3 yh F8 FD AY;rw[pk];simp only[A2,td,yf,tn,bind_some,adZ,Am,II,adY,iw,j1,CL _ _ (show list.length<=1048576 by omega),F9];rw[eb ((list.length:Int)-1) (by omega)];obtain⟨K,N,Nm,jj⟩:=p;simp only at*;by_cases aV:K=0
  .subst aV;simp only[Int.reduceBEq,Int.reduceLE,decide_true,decide_false,Bool.false_and,Bool.true_and,Bool.and_true,Bool.false_or,Bool.or_false,cond_true,cond_false,Bool.and_self,bind_some];cases N==0
   .exact⟨2,rfl,rfl,by decide⟩
   .cases Nm==[]
    .exact⟨2,rfl,rfl,by decide⟩
    .cases bM:((jj.length:Int)==0)
     .exact⟨2,rfl,rfl,by decide⟩
     .simp only[Bool.and_true,Bool.not_true,Bool.not_false,cond_true,cond_false,CM bM];exact⟨0,rfl,rfl,by decide⟩
  .by_cases ab:K=1
   .subst ab;simp only[Int.reduceBEq,Int.reduceLE,decide_true,decide_false,Bool.false_and,Bool.true_and,Bool.and_true,Bool.false_or,Bool.or_false,Bool.true_or,cond_true,cond_false,Bool.and_self,bind_some];cases N==0
    .exact⟨2,rfl,rfl,by decide⟩
    .simp only[Bool.not_true,cond_false];cases aY:(Nm==([116,97,117]:aht))
     .simp only[Bool.not_false,Bool.and_true,cond_true];cases iP Nm
      .exact⟨3,rfl,rfl,by decide⟩
      .simp only[Bool.not_true,cond_false,Bool.and_false,Bool.or_false,Bool.true_and];by_cases aU:jj.length<=2
       .have aP:decide ((2:Int)<(jj.length:Int))=false:=decide_eq_false (by omega);have aT:decide ((jj.length:Int)<=2)=true:=decide_eq_true (by omega);rw[aP,aT,Bool.or_true];cases qU ⟨1,N,Nm,jj⟩ pl.scope
        .exact⟨8,rfl,rfl,by decide⟩
        .exact⟨0,rfl,rfl,by decide⟩
       .have aP:decide ((2:Int)<(jj.length:Int))=true:=decide_eq_true (by omega);have aT:decide ((jj.length:Int)<=2)=false:=decide_eq_false (by omega);have aR:((jj.length:Int)==0)=false:=by rw[beq_eq_false_iff_ne];omega
        rw[aP,aT,aR];exact⟨5,rfl,rfl,by decide⟩
     .rw[adV aY];simp only[Bool.not_true,cond_false,Bool.and_true,Bool.false_and,Bool.or_false];by_cases aU:jj.length=0
      .have aP:decide ((2:Int)<(jj.length:Int))=false:=decide_eq_false (by omega);have aT:decide ((0:Int)<(jj.length:Int))=false:=decide_eq_false (by omega);have aR:((jj.length:Int)==0)=true:=by rw[aU];rfl
       rw[aP,aT,CM aR,aR];exact⟨0,rfl,rfl,by decide⟩
      .have aT:decide ((0:Int)<(jj.length:Int))=true:=decide_eq_true (by omega);have aR:((jj.length:Int)==0)=false:=by rw[beq_eq_false_iff_ne];omega
       rw[aT,aR,Bool.or_true];exact⟨5,rfl,rfl,by decide⟩
   .by_cases ad:K=2
    .subst ad;simp only[Int.reduceBEq,Int.reduceLE,decide_true,decide_false,Bool.false_and,Bool.true_and,Bool.and_true,Bool.false_or,Bool.or_false,cond_true,cond_false,Bool.and_self,bind_some];cases N==0
     .exact⟨2,rfl,rfl,by decide⟩
     .cases Nm==[]
      .exact⟨2,rfl,rfl,by decide⟩
      .cases bM:((jj.length:Int)==0)
       .exact⟨2,rfl,rfl,by decide⟩
       .simp only[Bool.and_true,Bool.not_true,Bool.not_false,cond_true,cond_false,CM bM];exact⟨0,rfl,rfl,by decide⟩
    .by_cases aC:K=3
     .subst aC;simp only[Int.reduceBEq,Int.reduceLE,decide_true,decide_false,Bool.false_and,Bool.true_and,Bool.and_true,Bool.false_or,Bool.or_false,Bool.true_or,Bool.or_true,cond_true,cond_false,Bool.and_self,bind_some];cases N==0
      .exact⟨2,rfl,rfl,by decide⟩
      .cases Nm==[]
       .exact⟨2,rfl,rfl,by decide⟩
       .have cO:((jj.length:Int) !=1)= !((jj.length:Int)==1):=rfl;rw[cO];cases((jj.length:Int)==1)
        .exact⟨5,rfl,rfl,by decide⟩
        .cases qU ⟨3,N,Nm,jj⟩ pl.scope
         .exact⟨8,rfl,rfl,by decide⟩
         .exact⟨0,rfl,rfl,by decide⟩
     .by_cases aW:K=4
      .subst aW;simp only[Int.reduceBEq,Int.reduceLE,decide_true,decide_false,Bool.false_and,Bool.true_and,Bool.and_true,Bool.false_or,Bool.or_false,Bool.true_or,Bool.or_true,cond_true,cond_false,Bool.and_self,bind_some];cases Nm==[]
       .exact⟨2,rfl,rfl,by decide⟩
       .cases bM:((jj.length:Int)==0)
        .exact⟨2,rfl,rfl,by decide⟩
        .rw[CM bM];cases(decide (1<=N)&&decide (N<=7))
         .exact⟨4,rfl,rfl,by decide⟩
         .cases decide (6<=pl.scope)
          .exact⟨0,rfl,rfl,by decide⟩
          .exact⟨7,rfl,rfl,by decide⟩
      .by_cases bu:K=5
       .subst bu;simp only[Int.reduceBEq,Int.reduceLE,decide_true,decide_false,Bool.false_and,Bool.true_and,Bool.and_true,Bool.false_or,Bool.or_false,Bool.true_or,Bool.or_true,cond_true,cond_false,Bool.and_self,bind_some];cases Nm==[]
        .exact⟨2,rfl,rfl,by decide⟩
        .cases ak:(decide (0<=N)&&decide (N<=(list.length:Int)-1))
         .exact⟨4,rfl,rfl,by decide⟩
         .simp only[Bool.and_eq_true,decide_eq_true_eq]at ak;obtain⟨i,rfl⟩:∃i:Nat,N=i:=⟨N.toNat,by omega⟩
          rw[fe list i (by omega)];simp only[bind_some,Bool.not_true,cond_false];have cO:((jj.length:Int) !=list[i].cU)= !((jj.length:Int)==list[i].cU):=rfl;rw[cO];cases((jj.length:Int)==list[i].cU)
          .exact⟨5,rfl,rfl,by decide⟩
          .cases pl.behind
           .exact⟨6,rfl,rfl,by decide⟩
           .cases qU ⟨5,i,Nm,jj⟩ pl.scope
            .exact⟨8,rfl,rfl,by decide⟩
            .exact⟨0,rfl,rfl,by decide⟩
       .have fE:(K==0)=false:=by simpa using aV
        have aP:(K==1)=false:=by simpa using ab
        have aT:(K==2)=false:=by simpa using ad
        have aR:(K==3)=false:=by simpa using aC
        have b4:(K==4)=false:=by simpa using aW
        have cz:(K==5)=false:=by simpa using bu
        have bV:(decide (0<=K)&&decide (K<=5))=false:=by
         rw[Bool.and_eq_false_iff,decide_eq_false_iff_not,decide_eq_false_iff_not];omega
        simp only[fE,aP,aT,aR,b4,cz,bV,Bool.false_and,cond_false,bind_some];exact⟨2,rfl,rfl,by decide⟩
 exact IH _ an rfl
theorem tY {β:Type} {l:Nat->Int->Option β} {n:Nat} (p:Nat->Bool) (oU bad:Option β) (aV:∀m,l (m+1) (n:Int)=oU)
  (U:∀i,i<n->∀m,l (m+1) (i:Int)=cond (p i) (l m ((i+1:Nat):Int)) bad):ca (λm=>l m 0)=cond (eY p n) oU bad:=by
 rw[tN (n:=n) (λi=>cond ((range' i (n-i)).all p) oU bad)]
 .simp[eY,range_eq_range']
 .intro m;rw[aV];simp
 .intro i ak m ih;rw[U i ak,ih,show n-i=(n-(i+1))+1 by omega,range'_succ];cases an:p i<;>simp[an]
def Pv (d:bl):Prop:=d.Name.length<=1048576/\d.Body.length<=1048576/\∀p∈d.Body,zj p
def qV (b:ahK):Bool:=(decide (1<=b.length)&&decide (b.length<=20))&&r_ b 1
theorem CN {b:ahK} (h:qV b=true):eE b 1=some b.length/\1<=b.length/\b.length<=20:=by
 simp only[qV,IC,Bool.and_eq_true,decide_eq_true_eq,beq_iff_eq]at h;exact⟨h.2,h.1.1,h.1.2⟩
def nm (d:bl) (i:Nat):cM:=(gw d.Body [⟨d.cU,false⟩]).getD i ⟨0,false⟩
theorem IJ (d:bl) (h:qV d.Body=true) (an:0<=d.cU/\d.cU<=3) (i:Nat) (ak:i<d.Body.length):
  rL d (i:Int)=some (nm d i).scope/\0<=(nm d i).scope/\(nm d i).scope<=29/\
   (nm d i).behind=IG d.Body i/\
   (gw d.Body [⟨d.cU,false⟩])[i]? =some (nm d i):=by
 obtain⟨ab,ad,aC⟩:=CN h;obtain⟨s,pl,aP,aT,aR⟩:=Pr d.Body [⟨d.cU,false⟩] d.Body.length ab i ak;have U:s=⟨d.cU,false⟩:=by
  simp only[sa,ab]at aP;rw[if_pos ak]at aP;exact(some.inj aP).symm
 subst U;have fy:nm d i=pl:=by unfold nm;rw[getD_eq_getElem?_getD,aT];rfl
 have ai:=Pm d.Body i;simp only at aR;refine⟨?_,?_,?_,?_,?_⟩
 .rw[adN d (by omega) ab (by omega) i ak,fy,aR]
 .rw[fy,aR];omega
 .rw[fy,aR];omega
 .rw[fy];exact adR d.Body ⟨d.cU,false⟩ rfl i pl aT
 .rw[fy];exact aT
theorem ad1 (list:ahL) (hl:list.length<=4) (d:bl) (ae:Pv d) (an:0<=d.cU/\d.cU<=3):
  ∃r,tf list d=some r/\yi list d=some r/\0<=r.2/\(r.2=0->qV d.Body=true):=by
 unfold tf yi iw;rw[adA _ ae.2.1];have zc:=adB d ae.2.1 0 (zero_le _);rw[show((0:Nat):Int)=0 from rfl,drop_zero]at zc;simp only[bind_some];have mW:decide ((1:Int)<=(d.Body.length:Int))=decide (1<=d.Body.length):=decide_eq_decide.2 (by omega);have mu:decide ((d.Body.length:Int)<=20)=decide (d.Body.length<=20):=decide_eq_decide.2 (by omega);rw[mW,mu];show∃r,cond (!qV d.Body) _ _=_/\_;cases U:qV d.Body
 .refine⟨(0,1),rfl,?_,by decide,λh=>by cases h⟩;cases ai:(decide (1<=d.Body.length)&&decide (d.Body.length<=20))
  .rfl
  .rw[zc];have hw:r_ d.Body 1=false:=by
    unfold qV at U;rw[ai,Bool.true_and]at U;exact U
   have:(p1 0 (eE d.Body 1) !=(d.Body.length:Int))=true:=by
    rw[IC]at hw;cases he:eE d.Body 1 with
    |none=>simp only[p1,bne_iff_ne];omega
    |some n=>
     rw[he]at hw;have cO:n≠d.Body.length:=λe=>by simp[e]at hw
     simp only[p1,bne_iff_ne];omega
   simp only[Bool.not_true,cond_false,bind_some,this,cond_true]
 .obtain⟨ab,ad,aC⟩:=CN U;have ai:(decide (1<=d.Body.length)&&decide (d.Body.length<=20))=true:=by simp;omega
  have cO:(p1 0 (some d.Body.length) !=(d.Body.length:Int))=false:=by simp[p1]
  rw[ai,zc,ab];simp only[Bool.not_true,cond_false,bind_some,cO];rw[Pl d ae.2.1 ab an.1 (by omega)];simp only[bind_some];have key:∀i,i<=d.Body.length->∃r:Int×Int,(∀m,d.Body.length-i<m->te list d m (i:Int)=some r)/\
    (∀m,d.Body.length-i<m->tp list d (gw d.Body [⟨d.cU,false⟩]) m (i:Int)=some r)/\0<=r.2:=by
   refine down d.Body.length ⟨(0,0),λm hm=>?_,λm hm=>?_,by decide⟩ ?_
   .obtain⟨m,rfl⟩:∃j,m=j+1:=⟨m-1,by omega⟩
    simp only[te,A3];rw[ez (Nat.le_refl _)];rfl
   .obtain⟨m,rfl⟩:∃j,m=j+1:=⟨m-1,by omega⟩
    simp only[tp,Bq];rw[ez (Nat.le_refl _)];rfl
   .rintro i ak ⟨r,dm,a7,db⟩;obtain⟨fA,fp,gX,hv,mv⟩:=IJ d U an i ak;obtain⟨v,v1,v2,v3⟩:=adW list hl d i ak aC (ae.2.2 _ (getElem_mem ak)) (nm d i) fA ⟨fp,gX⟩ hv;have hg:bh (gw d.Body [⟨d.cU,false⟩]) (i:Int)=some (nm d i):=by
     unfold bh;rw[if_pos (by omega)];exact mv
    by_cases aI:v=0
    .subst aI;refine⟨r,λm hm=>?_,λm hm=>?_,db⟩
     .obtain⟨m,rfl⟩:∃j,m=j+1:=⟨m-1,by omega⟩
      simp only[te,A3];rw[e4 ak,v1,e1 i _ ak (by omega),<-dm m (by omega)];rfl
     .obtain⟨m,rfl⟩:∃j,m=j+1:=⟨m-1,by omega⟩
      simp only[tp,Bq];rw[e4 ak,fe _ i ak,hg];simp only[cond_true,bind_some,v2];rw[e1 i _ ak (by omega),<-a7 m (by omega)];rfl
    .have E7:decide (0<v)=true:=decide_eq_true (by omega);have qW:(v !=0)=true:=by simpa using aI
     refine⟨((i:Int),v),λm hm=>?_,λm hm=>?_,v3⟩
     .obtain⟨m,rfl⟩:∃j,m=j+1:=⟨m-1,by omega⟩
      simp only[te,A3];rw[e4 ak,v1];simp only[cond_true,bind_some,E7]
     .obtain⟨m,rfl⟩:∃j,m=j+1:=⟨m-1,by omega⟩
      simp only[tp,Bq];rw[e4 ak,fe _ i ak,hg];simp only[cond_true,bind_some,v2,qW]
  obtain⟨r,dm,a7,db⟩:=key 0 (zero_le _);refine⟨r,hi (d.Body.length+1) λm hm=>dm m (by omega),hi (d.Body.length+1) λm hm=>a7 m (by omega),db,λ_=>trivial⟩
def qX (d:bl):Bool:=decide (0<=d.cU)&&decide (d.cU<=3)
def vV (list:ahL):Bool:=eY (λi=>qX (list.getD i ⟨[],0,[]⟩)) list.length
theorem Pw {list:ahL} (h:vV list=true) (i:Nat) (ak:i<list.length):0<=list[i].cU/\list[i].cU<=3:=by
 have:=nk.1 h i ak;have e:list.getD i ⟨[],0,[]⟩=list[i]:=by simp[List.getD,ak]
 rw[e]at this;simpa [qX]using this
theorem ad2 (list:ahL) (hl:list.length<=1048576):Bg list=some (vV list):=by
 unfold Bg F3 F2;rw[pW (n:=list.length) (λi=> !qX (list.getD i ⟨[],0,[]⟩))]
 .simp only[bind_some,qQ,Bool.not_not];rfl
 .intro m;simp only[x8,F1];rw[ez (Nat.le_refl _)];rfl
 .intro i ak m;simp only[x8,F1];rw[e4 ak,l3 _ i ⟨[],0,[]⟩ ak,e1 i _ ak (by omega)];simp only[cond_true,bind_some,FZ,iw];rfl
def l4 (list:ahL):Prop:=list.length<=1048576/\∀d∈list,Pv d
set_option linter.unusedSimpArgs false
theorem ad3 (x:ahE) (n:Int) (ar:(x.length<=9223372036854775807/\∀y∈x,u0 y)) (aV:0<=n) (aU:n<=1048576):xG x n=some (hD n (x.length+0)):=by
 unfold xG;refine mK ar.1 aV aU λh=>?_;rw[eb _ (by omega)];exact r4 (by omega)
theorem ad4 (x:ahC) (n:Int) (ar:(x.length<=9223372036854775807/\∀y∈x,(y.length<=9223372036854775807/\∀z∈y,u0 z))) (aV:0<=n) (aU:n<=1048576):AJ x n=some (hD n (c8 (λx=>x.length+0) x)):=by
 unfold AJ;refine mK ar.1 aV aU λh=>?_;rw[eb _ (by omega)];exact y_ (f:=xG) (λx=>x.length+0) x (λ_ _ _=>rfl) (λy hy n aV aU=>ad3 y n (ar.2 y hy) aV aU) (by omega) _ (by omega) (by omega)
def oV (x:i_):Nat:=(x.Name.length+((c8 (λx=>x.length+0) x.ck)+0))
theorem ad5 (x:i_) (n:Int) (ar:xB x) (aV:0<=n) (aU:n<=1048576):xH x n=some (hD n (oV x)):=by
 unfold xH;unfold oV;obtain⟨w0,fs,gO,nb⟩:=ar;refine mK gO (by omega) (by omega) λc2=>?_;rw[eb (n-(x.Name.length:Int)) (by omega)];refine qO (ad4 _ _ nb (by omega) (by omega)) λc3=>?_;exact r4 (by omega)
theorem ad6 (x:ahF) (n:Int) (ar:(x.length<=9223372036854775807/\∀y∈x,xB y)) (aV:0<=n) (aU:n<=1048576):AK x n=some (hD n (c8 oV x)):=by
 unfold AK;refine mK ar.1 aV aU λh=>?_;rw[eb _ (by omega)];exact y_ (f:=xH) oV x (λ_ _ _=>rfl) (λy hy n aV aU=>ad5 y n (ar.2 y hy) aV aU) (by omega) _ (by omega) (by omega)
def oW (x:ja):Nat:=(x.Name.length+((c8 oV x.Body)+0))
theorem ad7 (x:ja) (n:Int) (ar:xC x) (aV:0<=n) (aU:n<=1048576):xI x n=some (hD n (oW x)):=by
 unfold xI;unfold oW;obtain⟨w0,fs,gO⟩:=ar;refine mK w0 (by omega) (by omega) λc0=>?_;rw[eb (n-(x.Name.length:Int)) (by omega)];refine qO (ad6 _ _ gO (by omega) (by omega)) λc2=>?_;exact r4 (by omega)
theorem ad8 (x:ahG) (n:Int) (ar:(x.length<=9223372036854775807/\∀y∈x,xC y)) (aV:0<=n) (aU:n<=1048576):AL x n=some (hD n (c8 oW x)):=by
 unfold AL;refine mK ar.1 aV aU λh=>?_;rw[eb _ (by omega)];exact y_ (f:=xI) oW x (λ_ _ _=>rfl) (λy hy n aV aU=>ad7 y n (ar.2 y hy) aV aU) (by omega) _ (by omega) (by omega)
theorem ad9 (x:ahv) (n:Int) (ar:(x.length<=9223372036854775807/\∀y∈x,(-9223372036854775808<=y/\y<=9223372036854775807))) (aV:0<=n) (aU:n<=1048576):AM x n=some (hD n (x.length+0)):=by
 unfold AM;refine mK ar.1 aV aU λh=>?_;rw[eb _ (by omega)];exact r4 (by omega)
def oX (x:jb):Nat:=((x.b5.length+0)+0)
theorem ad_ (x:jb) (n:Int) (ar:xD x) (aV:0<=n) (aU:n<=1048576):xJ x n=some (hD n (oX x)):=by
 unfold xJ;unfold oX;obtain⟨w0,fs⟩:=ar;refine qO (ad9 _ _ fs (by omega) (by omega)) λb2=>?_;exact r4 (by omega)
theorem aea (x:ahH) (n:Int) (ar:(x.length<=9223372036854775807/\∀y∈x,xD y)) (aV:0<=n) (aU:n<=1048576):AN x n=some (hD n (c8 oX x)):=by
 unfold AN;refine mK ar.1 aV aU λh=>?_;rw[eb _ (by omega)];exact y_ (f:=xJ) oX x (λ_ _ _=>rfl) (λy hy n aV aU=>ad_ y n (ar.2 y hy) aV aU) (by omega) _ (by omega) (by omega)
def oY (x:iJ):Nat:=(x.Left.length+(x.b0.length+(x.Result.length+0)))
theorem aeb (x:iJ) (n:Int) (ar:xE x) (aV:0<=n) (aU:n<=1048576):xK x n=some (hD n (oY x)):=by
 unfold xK;unfold oY;obtain⟨w0,fs,gO⟩:=ar;refine mK w0 (by omega) (by omega) λc0=>?_;rw[eb (n-(x.Left.length:Int)) (by omega)];refine mK fs (by omega) (by omega) λb2=>?_;rw[eb ((n-(x.Left.length:Int))-(x.b0.length:Int)) (by omega)];refine mK gO (by omega) (by omega) λc2=>?_;rw[eb (((n-(x.Left.length:Int))-(x.b0.length:Int))-(x.Result.length:Int)) (by omega)];exact r4 (by omega)
theorem aec (x:ahI) (n:Int) (ar:(x.length<=9223372036854775807/\∀y∈x,xE y)) (aV:0<=n) (aU:n<=1048576):AO x n=some (hD n (c8 oY x)):=by
 unfold AO;refine mK ar.1 aV aU λh=>?_;rw[eb _ (by omega)];exact y_ (f:=xK) oY x (λ_ _ _=>rfl) (λy hy n aV aU=>aeb y n (ar.2 y hy) aV aU) (by omega) _ (by omega) (by omega)
theorem Px (x:nq) (n:Int) (ar:(x.length<=9223372036854775807/\∀y∈x,y.length<=9223372036854775807)) (aV:0<=n) (aU:n<=1048576):xL x n=some (hD n (c8 length x)):=by
 unfold xL;refine mK ar.1 aV aU λh=>?_;rw[eb _ (by omega)];exact ac9 x (λ_ _ _=>rfl) ar.2 (by omega) _ (by omega) (by omega)
def sc (x:lW):Nat:=((c8 oW x.br)+((c8 oX x.cw)+((c8 oY x.gP)+((c8 length x.gF)+((c8 length x.gG)+0)))))
theorem aed (x:lW) (n:Int) (ar:xF x) (aV:0<=n) (aU:n<=1048576):xM x n=some (hD n (sc x)):=by
 unfold xM;unfold sc;obtain⟨w0,fs,gO,nb,Ij⟩:=ar;refine qO (ad8 _ _ w0 (by omega) (by omega)) λc0=>?_;refine qO (aea _ _ fs (by omega) (by omega)) λb2=>?_;refine qO (aec _ _ gO (by omega) (by omega)) λc2=>?_;refine qO (Px _ _ nb (by omega) (by omega)) λc3=>?_;refine qO (Px _ _ Ij (by omega) (by omega)) λc4=>?_;exact r4 (by omega)
def vW (x:hA):cj:=⟨x.Kind,x.Value⟩
theorem aee (x:hA):xN x=some (vW x):=by
 unfold xN;rfl
theorem aef (x:ahE) (h:(x.length+0)<=1048576):xO x=some (x.map vW):=by
 unfold xO;have hl:x.length<=1048576:=by omega
 rw[pV _ hl (by decide)];simp only[bind_some];rw[r5 (f:=xN) vW x _ (λ_ _ _=>rfl) (λy hy=>aee y) hl]
theorem aeg (x:ahC) (h:(c8 (λx=>x.length+0) x)<=1048576):AP x=some (x.map (map vW)):=by
 unfold AP;have hl:x.length<=1048576:=Nat.le_trans (ij _ _) h;rw[pV _ hl (by decide)];simp only[bind_some];rw[r5 (f:=xO) (map vW) x _ (λ_ _ _=>rfl) (λy hy=>aef y (Nat.le_trans (k8 (f:=(λx=>x.length+0)) hy) h)) hl]
def vX (x:i_):bD:=⟨x.Kind,x.Number,x.Name,(x.ck.map (map vW))⟩
def kp (x:bD):Nat:=(x.Name.length+((c8 (λx=>x.length+0) x.ck)+0))
theorem aeh (x:i_):kp (vX x)=oV x:=by
 simp only[kp,oV,vX,y9,length_map]
theorem aei (x:i_) (h:(oV x)<=1048576):xP x=some (vX x):=by
 unfold xP;unfold oV at h;rw[aeg _ (by omega)];rfl
theorem aej (x:ahF) (h:(c8 oV x)<=1048576):AQ x=some (x.map vX):=by
 unfold AQ;have hl:x.length<=1048576:=Nat.le_trans (ij _ _) h;rw[pV _ hl (by decide)];simp only[bind_some];rw[r5 (f:=xP) vX x _ (λ_ _ _=>rfl) (λy hy=>aei y (Nat.le_trans (k8 (f:=oV) hy) h)) hl]
def vY (x:ja):bl:=⟨x.Name,x.cU,(x.Body.map vX)⟩
def k9 (x:bl):Nat:=(x.Name.length+((c8 kp x.Body)+0))
theorem aek (x:ja):k9 (vY x)=oW x:=by
 simp only[k9,oW,vY,y9,length_map,aeh]
theorem ael (x:ja) (h:(oW x)<=1048576):xQ x=some (vY x):=by
 unfold xQ;unfold oW at h;rw[aej _ (by omega)];rfl
theorem aem (x:ahG) (h:(c8 oW x)<=1048576):AR x=some (x.map vY):=by
 unfold AR;have hl:x.length<=1048576:=Nat.le_trans (ij _ _) h;rw[pV _ hl (by decide)];simp only[bind_some];rw[r5 (f:=xQ) vY x _ (λ_ _ _=>rfl) (λy hy=>ael y (Nat.le_trans (k8 (f:=oW) hy) h)) hl]
theorem aen (x:ahv) (h:(x.length+0)<=1048576):AU x=some x:=by
 unfold AU;have hl:x.length<=1048576:=by omega
 rw[pV _ hl (by decide)];simp only[bind_some];rw[r5 (f:=some) id x _ (λ_ _ _=>rfl) (λ_ _=>rfl) hl,List.map_id]
def vZ (x:jb):dG:=⟨x.dd,x.b5⟩
def kq (x:dG):Nat:=((x.b5.length+0)+0)
theorem aeo (x:jb):kq (vZ x)=oX x:=by
 simp only[kq,oX,vZ,y9,length_map]
theorem aep (x:jb) (h:(oX x)<=1048576):xR x=some (vZ x):=by
 unfold xR;unfold oX at h;rw[aen _ (by omega)];rfl
theorem aeq (x:ahH) (h:(c8 oX x)<=1048576):AV x=some (x.map vZ):=by
 unfold AV;have hl:x.length<=1048576:=Nat.le_trans (ij _ _) h;rw[pV _ hl (by decide)];simp only[bind_some];rw[r5 (f:=xR) vZ x _ (λ_ _ _=>rfl) (λy hy=>aep y (Nat.le_trans (k8 (f:=oX) hy) h)) hl]
def v7 (x:iJ):cp:=⟨x.Left,x.b0,x.Result⟩
def kr (x:cp):Nat:=(x.Left.length+(x.b0.length+(x.Result.length+0)))
theorem aer (x:iJ):kr (v7 x)=oY x:=by
 simp only[kr,oY,v7,y9,length_map]
theorem aes (x:iJ) (h:(oY x)<=1048576):xS x=some (v7 x):=by
 unfold xS;unfold oY at h;rfl
theorem aet (x:ahI) (h:(c8 oY x)<=1048576):AW x=some (x.map v7):=by
 unfold AW;have hl:x.length<=1048576:=Nat.le_trans (ij _ _) h;rw[pV _ hl (by decide)];simp only[bind_some];rw[r5 (f:=xS) v7 x _ (λ_ _ _=>rfl) (λy hy=>aes y (Nat.le_trans (k8 (f:=oY) hy) h)) hl]
theorem Py (x:nq) (h:(c8 length x)<=1048576):xT x=some x:=by
 unfold xT;have hl:x.length<=1048576:=Nat.le_trans (ij _ _) h;rw[pV _ hl (by decide)];simp only[bind_some];rw[r5 (f:=some) id x _ (λ_ _ _=>rfl) (λ_ _=>rfl) hl,List.map_id]
def p2 (x:lW):dH:=⟨(x.br.map vY),(x.cw.map vZ),(x.gP.map v7),x.gF,x.gG⟩
def oZ (x:dH):Nat:=((c8 k9 x.br)+((c8 kq x.cw)+((c8 kr x.gP)+((c8 length x.gF)+((c8 length x.gG)+0)))))
theorem Pz (x:lW):oZ (p2 x)=sc x:=by
 simp only[oZ,sc,p2,y9,length_map,aek,aeo,aer]
theorem aeu (x:lW) (h:(sc x)<=1048576):rK x=some (p2 x):=by
 unfold rK;unfold sc at h;rw[aem _ (by omega),aeq _ (by omega),aet _ (by omega),Py _ (by omega),Py _ (by omega)];rfl
theorem PA (x:ahv) (h:(x.length+0)<=1048576):yz x x=some true:=by
 unfold yz;have hl:x.length<=1048576:=by omega
 rw[qP,cond_false];exact OH x (λ_ _=>rfl) r6 hl
def lE (x:bY):Nat:=((x.b5.length+0)+0)
theorem aev (x:bY) (h:(lE x)<=1048576):yA x x=some true:=by
 unfold yA;unfold lE at h;simp only[r6,r7,tP,cond_false,bind_some,Bool.not_true,PA x.b5 (by omega)]
theorem aew (x:ahO) (h:(c8 lE x)<=1048576):vu x x=some true:=by
 unfold vu;have hl:x.length<=1048576:=Nat.le_trans (ij _ _) h;rw[qP,cond_false];exact tO (f:=yA) x (λ_ _=>rfl) (λy hy=>aev y (Nat.le_trans (k8 (f:=lE) hy) h)) hl
theorem aex (x:cj):yB x x=some true:=by
 unfold yB;simp only[r6,r7,tP,cond_false,bind_some,Bool.not_true]
theorem aey (x:ahJ) (h:(x.length+0)<=1048576):yC x x=some true:=by
 unfold yC;have hl:x.length<=1048576:=by omega
 rw[qP,cond_false];exact tO (f:=yB) x (λ_ _=>rfl) (λy hy=>aex y) hl
theorem aez (x:ahD) (h:(c8 (λx=>x.length+0) x)<=1048576):BN x x=some true:=by
 unfold BN;have hl:x.length<=1048576:=Nat.le_trans (ij _ _) h;rw[qP,cond_false];exact tO (f:=yC) x (λ_ _=>rfl) (λy hy=>aey y (Nat.le_trans (k8 (f:=(λx=>x.length+0)) hy) h)) hl
theorem aeA (x:bD) (h:(kp x)<=1048576):yD x x=some true:=by
 unfold yD;unfold kp at h;simp only[r6,r7,tP,cond_false,bind_some,Bool.not_true,aez x.ck (by omega)]
theorem aeB (x:ahK) (h:(c8 kp x)<=1048576):BO x x=some true:=by
 unfold BO;have hl:x.length<=1048576:=Nat.le_trans (ij _ _) h;rw[qP,cond_false];exact tO (f:=yD) x (λ_ _=>rfl) (λy hy=>aeA y (Nat.le_trans (k8 (f:=kp) hy) h)) hl
theorem aeC (x:bl) (h:(k9 x)<=1048576):yE x x=some true:=by
 unfold yE;unfold k9 at h;simp only[r6,r7,tP,cond_false,bind_some,Bool.not_true,aeB x.Body (by omega)]
theorem aeD (x:ahL) (h:(c8 k9 x)<=1048576):BP x x=some true:=by
 unfold BP;have hl:x.length<=1048576:=Nat.le_trans (ij _ _) h;rw[qP,cond_false];exact tO (f:=yE) x (λ_ _=>rfl) (λy hy=>aeC y (Nat.le_trans (k8 (f:=k9) hy) h)) hl
theorem aeE (x:dG) (h:(kq x)<=1048576):yF x x=some true:=by
 unfold yF;unfold kq at h;simp only[r6,r7,tP,cond_false,bind_some,Bool.not_true,PA x.b5 (by omega)]
theorem aeF (x:ahM) (h:(c8 kq x)<=1048576):BQ x x=some true:=by
 unfold BQ;have hl:x.length<=1048576:=Nat.le_trans (ij _ _) h;rw[qP,cond_false];exact tO (f:=yF) x (λ_ _=>rfl) (λy hy=>aeE y (Nat.le_trans (k8 (f:=kq) hy) h)) hl
theorem aeG (x:cp) (h:(kr x)<=1048576):yG x x=some true:=by
 unfold yG;unfold kr at h;simp only[r6,r7,tP,cond_false,bind_some,Bool.not_true]
theorem aeH (x:ahN) (h:(c8 kr x)<=1048576):BR x x=some true:=by
 unfold BR;have hl:x.length<=1048576:=Nat.le_trans (ij _ _) h;rw[qP,cond_false];exact tO (f:=yG) x (λ_ _=>rfl) (λy hy=>aeG y (Nat.le_trans (k8 (f:=kr) hy) h)) hl
theorem PB (x:nq) (h:(c8 length x)<=1048576):yH x x=some true:=by
 unfold yH;have hl:x.length<=1048576:=Nat.le_trans (ij _ _) h;rw[qP,cond_false];exact OH x (λ_ _=>rfl) r7 hl
theorem aeI (x:dH) (h:(oZ x)<=1048576):yI x x=some true:=by
 unfold yI;unfold oZ at h;simp only[r6,r7,tP,cond_false,bind_some,Bool.not_true,aeD x.br (by omega),aeF x.cw (by omega),aeH x.gP (by omega),PB x.gF (by omega),PB x.gG (by omega)]
theorem v8 (k:Int) (aV:0<=k) (R:k<=1099511627776):∃t,qD k=some t:=by
 have key:∀(n:Nat) (k:Int),0<=k->k<=n->n<=1099511627776->∀t:aht,t.length+n<=1099511627776->∃r,∀m,n<m->tw m k t=some r:=by
  intro n;induction n with
  |zero=>
   intro k ab ad aC t aY;refine⟨[109]++t,λm hm=>?_⟩;obtain⟨m,rfl⟩:∃j,m=j+1:=⟨m-1,by omega⟩
   simp only[tw,BS];rw[show decide (0<k)=false by simp;omega,cond_false,show lH (1+t.length)=some () by unfold lH;rw[if_pos (by omega)]];rfl
  |succ n ih=>
   intro k ab ad aC t aY;by_cases aq:0<k
   .have ae:Int.tdiv k 10=k/10:=Int.tdiv_eq_ediv_of_nonneg ab;have hw:i64.wrap (Int.tdiv k 10)=k/10:=by rw[ae];exact eb _ (by omega)
    obtain⟨r,aH⟩:=ih (k/10) (by omega) (by omega) (by omega) ([(p5 (i64.wrap (48+(Int.tmod k 10))))]++t) (by simp only[length_append,length_cons,length_nil];omega);refine⟨r,λm hm=>?_⟩;obtain⟨m,rfl⟩:∃j,m=j+1:=⟨m-1,by omega⟩
    simp only[tw,BS];rw[show decide (0<k)=true by simp;omega,cond_true,show lH (1+t.length)=some () by unfold lH;rw[if_pos (by omega)]];simp only[bind_some,hw];exact aH m (by omega)
   .refine⟨[109]++t,λm hm=>?_⟩;obtain⟨m,rfl⟩:∃j,m=j+1:=⟨m-1,by omega⟩
    simp only[tw,BS];rw[show decide (0<k)=false by simp;omega,cond_false,show lH (1+t.length)=some () by unfold lH;rw[if_pos (by omega)]];rfl
 unfold qD;by_cases aq:k<=0
 .exact⟨_,by rw[show decide (k<=0)=true by simpa using aq];rfl⟩
 .obtain⟨r,aH⟩:=key k.toNat k aV (by omega) (by omega) [] (by simp only[length_nil];omega);exact⟨r,by rw[show decide (k<=0)=false by simp;omega,cond_false];exact hi (k.toNat+1) λm hm=>aH m (by omega)⟩
theorem aeJ (x:ahJ) (k:Int) (aV:0<=k) (R:k+64*(x.length+0)<=1099511627776):∃(cf:ahJ) (c:Nat),c<=64*(x.length+0)/\BT x k=some (k+(c:Int),cf):=by
 unfold BT;have e:gf (λ_=>64) x=64*x.length:=Ip 64 x;obtain⟨cf,c,ab,ad⟩:=tS (l:=vv) (λ_=>64) (λm v k=>by simp only[vv,GS];rw[ez (Nat.le_refl _)];rfl) (λx k aV R=>by
  have fs:i64.wrap (k+1)=k+1:=eb _ (by omega);have gO:i64.wrap ((k+1)+1)=(k+1)+1:=eb _ (by omega);refine⟨(cj.mk k (k+1)),1+1,by omega,λm d r ae=>?_⟩;simp only[vv,GS];rw[oS];simp only[cond_true,oR,qR,bind_some,fs,gO];rw[oT ae];rw[show(((k+1)+1):Int)=k+((1+1:Nat):Int) by omega]) x k aV (by omega) (by omega)
 exact⟨cf,c,by omega,ad⟩
theorem aeK (x:ahD) (k:Int) (aV:0<=k) (R:k+64*(c8 (λx=>x.length+0) x)<=1099511627776):∃(cf:ahD) (c:Nat),c<=64*(c8 (λx=>x.length+0) x)/\BU x k=some (k+(c:Int),cf):=by
 unfold BU;have e:gf (λx=>64*((x.length+0)+1)) x=64*c8 (λx=>x.length+0) x:=r8 (λx=>x.length+0) x;have hl:x.length<=c8 (λx=>x.length+0) x:=ij _ _;obtain⟨cf,c,ab,ad⟩:=tS (l:=vw) (λx=>64*((x.length+0)+1)) (λm v k=>by simp only[vw,GU];rw[ez (Nat.le_refl _)];rfl) (λx k aV R=>by
  obtain⟨eL,b2,iC,m1⟩:=aeJ x k (by omega) (by omega);refine⟨eL,b2,by omega,λm d r ae=>?_⟩;simp only[vw,GU];rw[oS];simp only[cond_true,oR,qR,bind_some,m1];rw[oT ae]) x k aV (by omega) (by omega)
 exact⟨cf,c,by omega,ad⟩
theorem aeL (x:ahK) (k:Int) (aV:0<=k) (R:k+64*(c8 kp x)<=1099511627776):∃(cf:ahK) (c:Nat),c<=64*(c8 kp x)/\BV x k=some (k+(c:Int),cf):=by
 unfold BV;have e:gf (λx=>64*((kp x)+1)) x=64*c8 kp x:=r8 kp x;have hl:x.length<=c8 kp x:=ij _ _;obtain⟨cf,c,ab,ad⟩:=tS (l:=vx) (λx=>64*((kp x)+1)) (λm v k=>by simp only[vx,GV];rw[ez (Nat.le_refl _)];rfl) (λx k aV R=>by
  simp only[kp]at R⊢;have fs:i64.wrap (k+1)=k+1:=eb _ (by omega);have gO:i64.wrap ((k+1)+1)=(k+1)+1:=eb _ (by omega);obtain⟨nG,t3⟩:=v8 ((k+1)+1) (by omega) (by omega);have nb:i64.wrap (((k+1)+1)+1)=((k+1)+1)+1:=eb _ (by omega);obtain⟨oQ,c4,bO,m4⟩:=aeK x.ck (((k+1)+1)+1) (by omega) (by omega);refine⟨(bD.mk k (k+1) nG oQ),1+1+1+c4,by omega,λm d r ae=>?_⟩;simp only[vx,GV];rw[oS];simp only[cond_true,oR,qR,bind_some,fs,gO,t3,nb,m4];rw[oT ae];rw[show(((((k+1)+1)+1)+(c4:Int)):Int)=k+((1+1+1+c4:Nat):Int) by omega]) x k aV (by omega) (by omega)
 exact⟨cf,c,by omega,ad⟩
theorem aeM (x:ahL) (k:Int) (aV:0<=k) (R:k+64*(c8 k9 x)<=1099511627776):∃(cf:ahL) (c:Nat),c<=64*(c8 k9 x)/\BW x k=some (k+(c:Int),cf):=by
 unfold BW;have e:gf (λx=>64*((k9 x)+1)) x=64*c8 k9 x:=r8 k9 x;have hl:x.length<=c8 k9 x:=ij _ _;obtain⟨cf,c,ab,ad⟩:=tS (l:=vy) (λx=>64*((k9 x)+1)) (λm v k=>by simp only[vy,GW];rw[ez (Nat.le_refl _)];rfl) (λx k aV R=>by
  simp only[k9]at R⊢;obtain⟨s1,t1⟩:=v8 k (by omega) (by omega);have fs:i64.wrap (k+1)=k+1:=eb _ (by omega);have gO:i64.wrap ((k+1)+1)=(k+1)+1:=eb _ (by omega);obtain⟨kj,c3,iE,m3⟩:=aeL x.Body ((k+1)+1) (by omega) (by omega);refine⟨(bl.mk s1 (k+1) kj),1+1+c3,by omega,λm d r ae=>?_⟩;simp only[vy,GW];rw[oS];simp only[cond_true,oR,qR,bind_some,t1,fs,gO,m3];rw[oT ae];rw[show((((k+1)+1)+(c3:Int)):Int)=k+((1+1+c3:Nat):Int) by omega]) x k aV (by omega) (by omega)
 exact⟨cf,c,by omega,ad⟩
theorem PC (x:ahv) (k:Int) (aV:0<=k) (R:k+64*(x.length+0)<=1099511627776):∃(cf:ahv) (c:Nat),c<=64*(x.length+0)/\yJ x k=some (k+(c:Int),cf)/\B2 cf k=some (k+(c:Int)):=by
 unfold yJ B2;have e:gf (λ_=>64) x=64*x.length:=Ip 64 x;obtain⟨cf,c,ab,ad,aC⟩:=OJ (l:=vz) (hl:=vF) (λ_=>64) (λm v k=>by simp only[vz,GX];rw[ez (Nat.le_refl _)];rfl) (λa m k=>by simp only[vF,G2];rw[ez (Nat.le_refl _)];rfl) (λx k aV R=>by
  have fs:i64.wrap (k+1)=k+1:=eb _ (by omega);refine⟨k,1,by omega,λm d r ae=>⟨?_,?_⟩⟩
  .simp only[vz,GX];rw[oS];simp only[cond_true,oR,qR,bind_some,fs];rw[oT ae];rw[show((k+1):Int)=k+((1:Nat):Int) by omega]
  .simp only[vF,G2];rw[oS];simp only[cond_true,cond_false,oR,bind_some,bne_self_eq_false,beq_self_eq_true,Bool.not_true,fs];rw[oT ae];rw[show((k+1):Int)=k+((1:Nat):Int) by omega]) x k aV (by omega) (by omega)
 exact⟨cf,c,by omega,ad,aC⟩
theorem aeN (x:ahM) (k:Int) (aV:0<=k) (R:k+64*(c8 kq x)<=1099511627776):∃(cf:ahM) (c:Nat),c<=64*(c8 kq x)/\BX x k=some (k+(c:Int),cf):=by
 unfold BX;have e:gf (λx=>64*((kq x)+1)) x=64*c8 kq x:=r8 kq x;have hl:x.length<=c8 kq x:=ij _ _;obtain⟨cf,c,ab,ad⟩:=tS (l:=vA) (λx=>64*((kq x)+1)) (λm v k=>by simp only[vA,GY];rw[ez (Nat.le_refl _)];rfl) (λx k aV R=>by
  simp only[kq]at R⊢;have fs:i64.wrap (k+1)=k+1:=eb _ (by omega);obtain⟨gT,c2,gA,m2⟩:=PC x.b5 (k+1) (by omega) (by omega);refine⟨(dG.mk k gT),1+c2,by omega,λm d r ae=>?_⟩;simp only[vA,GY];rw[oS];simp only[cond_true,oR,qR,bind_some,fs,m2];rw[oT ae];rw[show(((k+1)+(c2:Int)):Int)=k+((1+c2:Nat):Int) by omega]) x k aV (by omega) (by omega)
 exact⟨cf,c,by omega,ad⟩
theorem aeO (x:ahN) (k:Int) (aV:0<=k) (R:k+64*(c8 kr x)<=1099511627776):∃(cf:ahN) (c:Nat),c<=64*(c8 kr x)/\BZ x k=some (k+(c:Int),cf):=by
 unfold BZ;have e:gf (λx=>64*((kr x)+1)) x=64*c8 kr x:=r8 kr x;have hl:x.length<=c8 kr x:=ij _ _;obtain⟨cf,c,ab,ad⟩:=tS (l:=vB) (λx=>64*((kr x)+1)) (λm v k=>by simp only[vB,GZ];rw[ez (Nat.le_refl _)];rfl) (λx k aV R=>by
  simp only[kr]at R⊢;obtain⟨s1,t1⟩:=v8 k (by omega) (by omega);have fs:i64.wrap (k+1)=k+1:=eb _ (by omega);obtain⟨s2,t2⟩:=v8 (k+1) (by omega) (by omega);have gO:i64.wrap ((k+1)+1)=(k+1)+1:=eb _ (by omega);obtain⟨nG,t3⟩:=v8 ((k+1)+1) (by omega) (by omega);have nb:i64.wrap (((k+1)+1)+1)=((k+1)+1)+1:=eb _ (by omega);refine⟨(cp.mk s1 s2 nG),1+1+1,by omega,λm d r ae=>?_⟩;simp only[vB,GZ];rw[oS];simp only[cond_true,oR,qR,bind_some,t1,fs,t2,gO,t3,nb];rw[oT ae];rw[show((((k+1)+1)+1):Int)=k+((1+1+1:Nat):Int) by omega]) x k aV (by omega) (by omega)
 exact⟨cf,c,by omega,ad⟩
theorem PD (x:nq) (k:Int) (aV:0<=k) (R:k+64*(c8 length x)<=1099511627776):∃(cf:nq) (c:Nat),c<=64*(c8 length x)/\yK x k=some (k+(c:Int),cf):=by
 unfold yK;have e:gf (λx=>64*(x.length+1)) x=64*c8 length x:=r8 length x;have hl:x.length<=c8 length x:=ij _ _;obtain⟨cf,c,ab,ad⟩:=tS (l:=vC) (λx=>64*(x.length+1)) (λm v k=>by simp only[vC,G0];rw[ez (Nat.le_refl _)];rfl) (λx k aV R=>by
  obtain⟨s1,t1⟩:=v8 k (by omega) (by omega);have fs:i64.wrap (k+1)=k+1:=eb _ (by omega);refine⟨s1,1,by omega,λm d r ae=>?_⟩;simp only[vC,G0];rw[oS];simp only[cond_true,oR,qR,bind_some,t1,fs];rw[oT ae];rw[show((k+1):Int)=k+((1:Nat):Int) by omega]) x k aV (by omega) (by omega)
 exact⟨cf,c,by omega,ad⟩
theorem aeP (x:dH) (k:Int) (aV:0<=k) (R:k+64*((oZ x)+1)<=1099511627776):∃(fB:ahL) (eL:ahM) (gT:ahN) (kj:nq) (oQ:nq) (c:Nat),c<=64*((oZ x)+1)/\B0 x.br x.cw x.gP x.gF x.gG k=some (k+(c:Int),fB,eL,gT,kj,oQ):=by
 unfold B0;simp only[oZ]at R⊢;obtain⟨eL,b2,iC,m1⟩:=aeM x.br k (by omega) (by omega);obtain⟨gT,c2,gA,m2⟩:=aeN x.cw (k+(b2:Int)) (by omega) (by omega);obtain⟨kj,c3,iE,m3⟩:=aeO x.gP ((k+(b2:Int))+(c2:Int)) (by omega) (by omega);obtain⟨oQ,c4,bO,m4⟩:=PD x.gF (((k+(b2:Int))+(c2:Int))+(c3:Int)) (by omega) (by omega);obtain⟨aeQ,c5,cT,m5⟩:=PD x.gG ((((k+(b2:Int))+(c2:Int))+(c3:Int))+(c4:Int)) (by omega) (by omega);refine⟨eL,gT,kj,oQ,aeQ,b2+c2+c3+c4+c5,by omega,?_⟩;simp only[bind_some,m1,m2,m3,m4,m5];rw[show(k+((b2+c2+c3+c4+c5:Nat):Int))=(((((k+(b2:Int))+(c2:Int))+(c3:Int))+(c4:Int))+(c5:Int)) by omega]
theorem aeR (x:ahO) (k:Int) (aV:0<=k) (R:k+64*(c8 lE x)<=1099511627776):∃(cf:ahO) (c:Nat),c<=64*(c8 lE x)/\B1 x k=some (k+(c:Int),cf)/\yL cf k=some (k+(c:Int)):=by
 unfold B1 yL;have e:gf (λx=>64*((lE x)+1)) x=64*c8 lE x:=r8 lE x;have hl:x.length<=c8 lE x:=ij _ _;obtain⟨cf,c,ab,ad,aC⟩:=OJ (l:=vE) (hl:=vG) (λx=>64*((lE x)+1)) (λm v k=>by simp only[vE,G1];rw[ez (Nat.le_refl _)];rfl) (λa m k=>by simp only[vG,G3];rw[ez (Nat.le_refl _)];rfl) (λx k aV R=>by
  simp only[lE]at R⊢;have fs:i64.wrap (k+1)=k+1:=eb _ (by omega);have gO:i64.wrap ((k+1)+1)=(k+1)+1:=eb _ (by omega);obtain⟨kj,c3,iE,m3,gX⟩:=PC x.b5 ((k+1)+1) (by omega) (by omega);have fH:=Io (k:=(((k+1)+1)+(c3:Int))) (by omega);refine⟨(bY.mk k (k+1) kj),1+1+c3,by omega,λm d r ae=>⟨?_,?_⟩⟩
  .simp only[vE,G1];rw[oS];simp only[cond_true,oR,qR,bind_some,fs,gO,m3];rw[oT ae];rw[show((((k+1)+1)+(c3:Int)):Int)=k+((1+1+c3:Nat):Int) by omega]
  .simp only[vG,G3];rw[oS];simp only[cond_true,cond_false,oR,bind_some,bne_self_eq_false,beq_self_eq_true,Bool.not_true,gX,fH,fs,gO];rw[oT ae];rw[show((((k+1)+1)+(c3:Int)):Int)=k+((1+1+c3:Nat):Int) by omega]) x k aV (by omega) (by omega)
 exact⟨cf,c,by omega,ad,aC⟩
theorem aeS {list:ahL} (h:c8 k9 list<=1048576):l4 list:=by
 refine⟨Nat.le_trans (ij _ _) h,λd ae=>?_⟩;have ab:=Nat.le_trans (k8 (f:=k9) ae) h;unfold k9 at ab;refine⟨by omega,Nat.le_trans (ij kp _) (by omega),λp an=>?_⟩;have aV:kp p<=c8 kp d.Body:=k8 an;have ad:kp p<=1048576:=by omega
 clear aV;unfold kp at ad;have aC:=ij (λx:List cj=>x.length+0) p.ck;refine⟨by omega,by omega,λe he=>?_⟩;have aW:e.length+0<=_:=k8 (f:=λx:List cj=>x.length+0) he;omega
end Go.lV
