/- Part of a proof that a law returns true for every input. No condition. -/
import Derived.Test.YtmaepbgkcmjcjaiGreatDoorUV1x
import Derived.Test.YtmaepbgkcmjcjaiGreatDoorP3
import Derived.Test.YtmaepbgkcmjcjaiGreatDoorUV0x
namespace Go.l_
open List Option Go.IntKind Nat
open Go Go.eg
theorem atx {l:Nat->Int->azh} {n:Nat} (p:Nat->Bool) (mc bad:Int) (a7:∀m,l (m+1) (n:Int)=some mc)
  (aa:∀i,i<n->∀m,l (m+1) (i:Int)=cond (p i) (l m ((i+1:Nat):Int)) (some bad)):bX (λm=>l m 0)=some (cond (fW p n) mc bad):=by
 rw[oV (n:=n) (λi=>some (cond ((range' i (n-i)).all p) mc bad))]
 .simp[fW,range_eq_range']
 .intro m;rw[a7];simp
 .intro i ai m ih;rw[aa i ai,ih,show n-i=(n-(i+1))+1 by omega,range'_succ];cases ay:p i<;>simp[ay]
def AF (p:cQ):Prop:=p.Name.length<=1048576/\p.cL.length<=1048576/\∀e∈p.cL,e.length<=1048576
def vk (p:cQ) (dY:Int):Bool:=fW (λi=>pD (p.cL.getD i []) dY 15) p.cL.length
theorem aa2 (p:cQ) (ay:AF p) (dY:Int) (h:0<=dY/\dY<=29):bX (λn=>xZ p n dY 0)=some (cond (vk p dY) 0 8):=by
 refine atx (l:=λm i=>xZ p m dY i) _ _ _ (λm=>?_) (λi ai m=>?_)
 .simp only[xZ,OV];rw[ev (Nat.le_refl _)];rfl
 .simp only[xZ,OV];rw[d_ ai,ly _ i [] ai,dQ i _ ai (by have:=ay.2.1;omega)];simp only[cond_true,bind_some];rw[ate _ dY 15 (by omega) (by
   have:p.cL.getD i []=p.cL[i]:=by simp[List.getD,ai]
   rw[this];exact ay.2.2 _ (getElem_mem ai))]
  simp only[bind_some];cases pD (p.cL.getD i []) dY 15<;>rfl
theorem aty (p:cQ) (ay:AF p) (pl:dB) (h:0<=pl.scope/\pl.scope<=29):J0 p.cL pl=some (!(vk p pl.scope)):=by
 unfold J0 PL;rw[p8 (n:=p.cL.length) (λi=> !pD (p.cL.getD i []) pl.scope 15)]
 .simp only[bind_some,tr,Bool.not_not];rfl
 .intro m;simp only[Gf,PK];rw[ev (Nat.le_refl _)];rfl
 .intro i ai m;simp only[Gf,PK];rw[d_ ai,ly _ i [] ai,dQ i _ ai (by have:=ay.2.1;omega)];simp only[cond_true,bind_some,PJ];rw[atf _ pl.scope 15 h (by omega) (by
   have:p.cL.getD i []=p.cL[i]:=by simp[List.getD,ai]
   rw[this];exact ay.2.2 _ (getElem_mem ai))]
  simp only[bind_some]
theorem SR (s:azc) (aa:s.length<=1048576):rr s=some (ha s&& !(s==([116,97,117]:azc))):=by
 unfold rr;rw[SJ s (by omega)];rfl
theorem atz {s:azc} (h:(s==([116,97,117]:azc))=true):ha s=true:=by
 have:s=[116,97,117]:=by simpa using h
 subst this;decide
theorem LA (n:Int) (l:Nat) (aC:l<=1048576):x6 n (l:Int)=some (decide (0<=n)&&decide (n<=(l:Int)-1)):=by
 unfold x6 ig;rw[eD ((l:Int)-1) (by omega)];rfl
theorem aa3 (list:azx) (aC:list.length<=4) (d:a6) (at_:Nat) (atA:at_<d.Body.length) (ab:d.Body.length<=20) (ay:AF d.Body[at_]) (pl:dB)
  (mK:vS d (at_:Int)=some pl.scope) (aa4:0<=pl.scope/\pl.scope<=29)
  (yy:pl.behind=SQ d.Body at_):
  ∃r,sM list d (at_:Int)=some r/\Gj d.Body[at_] list pl=some r/\0<=r:=by
 have atB:∀p,AF p->p=d.Body[at_]->∃r,sM list d (at_:Int)=some r/\Gj p list pl=some r/\0<=r:=by
  intro p ay Mv;have Of:=aa2 p ay pl.scope aa4;have IC:=aty p ay pl aa4;have r2:=SR p.Name ay.1;have atC:=yu p.Name;have atD:vT d (at_:Int) p=some (cond ((p.Kind==5)&& !pl.behind) 6 (cond ((p.Kind==4)&&decide (6<=pl.scope)) 7 (cond (vk p pl.scope) 0 8))):=by
   have atE:∀v,sL d (at_:Int) p v=some (cond v 6 (cond ((p.Kind==4)&&decide (6<=pl.scope)) 7 (cond (vk p pl.scope) 0 8))):=by
    intro v;unfold sL;rw[mK];simp only[bind_some,Of];cases v<;>cases(p.Kind==4&&decide (6<=pl.scope))<;>rfl
   unfold vT;simp only[atE];cases at_ with
   |zero=>
    replace yy:pl.behind=false:=yy;rw[yy];simp only[Bool.not_false,Bool.and_true];cases p.Kind==5<;>rfl
   |succ q=>
    have cz:q<d.Body.length:=by omega
    have fT:(((q+1:Nat):Int)==0)=false:=by rw[beq_eq_false_iff_ne];omega
    rw[fT,Hv (q+1) (by omega) (by omega),show q+1-1=q from rfl,dJ _ q cz];replace yy:pl.behind=(match d.Body[q]? with|some p=>p.Kind==1|none=>false):=yy;rw[getElem?_eq_getElem cz]at yy;simp only[cond_false,bind_some];simp only at yy;rw[yy];have dV:(d.Body[q].Kind !=1)= !(d.Body[q].Kind==1):=rfl;rw[dV];cases p.Kind==5<;>cases d.Body[q].Kind==1<;>rfl
  have q7:bk d.Body (at_:Int)=some p:=by rw[dJ _ at_ atA,Mv]
  have LB:((p.cL.length:Int)==0)=true->vk p pl.scope=true:=by
   intro h;have:p.cL.length=0:=by simpa using h
   unfold vk;rw[this];rfl
  unfold sM Gj PG OR Ji;rw[q7];simp only[BV,ur,Gh,zO,bind_some,atD,IC,r2,atC,ig,jP,LA _ _ (show list.length<=1048576 by omega),PH];rw[eD ((list.length:Int)-1) (by omega)];obtain⟨K,N,Nm,lz⟩:=p;simp only at*;by_cases a7:K=0
  .subst a7;simp only[Int.reduceBEq,Int.reduceLE,decide_true,decide_false,Bool.false_and,Bool.true_and,Bool.and_true,Bool.false_or,Bool.or_false,cond_true,cond_false,Bool.and_self,bind_some];cases N==0
   .exact⟨2,rfl,rfl,by decide⟩
   .cases Nm==[]
    .exact⟨2,rfl,rfl,by decide⟩
    .cases bl:((lz.length:Int)==0)
     .exact⟨2,rfl,rfl,by decide⟩
     .simp only[Bool.and_true,Bool.not_true,Bool.not_false,cond_true,cond_false,LB bl];exact⟨0,rfl,rfl,by decide⟩
  .by_cases ad:K=1
   .subst ad;simp only[Int.reduceBEq,Int.reduceLE,decide_true,decide_false,Bool.false_and,Bool.true_and,Bool.and_true,Bool.false_or,Bool.or_false,Bool.true_or,cond_true,cond_false,Bool.and_self,bind_some];cases N==0
    .exact⟨2,rfl,rfl,by decide⟩
    .simp only[Bool.not_true,cond_false];cases aY:(Nm==([116,97,117]:azc))
     .simp only[Bool.not_false,Bool.and_true,cond_true];cases ha Nm
      .exact⟨3,rfl,rfl,by decide⟩
      .simp only[Bool.not_true,cond_false,Bool.and_false,Bool.or_false,Bool.true_and];by_cases aR:lz.length<=2
       .have aO:decide ((2:Int)<(lz.length:Int))=false:=decide_eq_false (by omega);have aU:decide ((lz.length:Int)<=2)=true:=decide_eq_true (by omega);rw[aO,aU,Bool.or_true];cases vk ⟨1,N,Nm,lz⟩ pl.scope
        .exact⟨8,rfl,rfl,by decide⟩
        .exact⟨0,rfl,rfl,by decide⟩
       .have aO:decide ((2:Int)<(lz.length:Int))=true:=decide_eq_true (by omega);have aU:decide ((lz.length:Int)<=2)=false:=decide_eq_false (by omega);have aM:((lz.length:Int)==0)=false:=by rw[beq_eq_false_iff_ne];omega
        rw[aO,aU,aM];exact⟨5,rfl,rfl,by decide⟩
     .rw[atz aY];simp only[Bool.not_true,cond_false,Bool.and_true,Bool.false_and,Bool.or_false];by_cases aR:lz.length=0
      .have aO:decide ((2:Int)<(lz.length:Int))=false:=decide_eq_false (by omega);have aU:decide ((0:Int)<(lz.length:Int))=false:=decide_eq_false (by omega);have aM:((lz.length:Int)==0)=true:=by rw[aR];rfl
       rw[aO,aU,LB aM,aM];exact⟨0,rfl,rfl,by decide⟩
      .have aU:decide ((0:Int)<(lz.length:Int))=true:=decide_eq_true (by omega);have aM:((lz.length:Int)==0)=false:=by rw[beq_eq_false_iff_ne];omega
       rw[aU,aM,Bool.or_true];exact⟨5,rfl,rfl,by decide⟩
   .by_cases ae:K=2
    .subst ae;simp only[Int.reduceBEq,Int.reduceLE,decide_true,decide_false,Bool.false_and,Bool.true_and,Bool.and_true,Bool.false_or,Bool.or_false,cond_true,cond_false,Bool.and_self,bind_some];cases N==0
     .exact⟨2,rfl,rfl,by decide⟩
     .cases Nm==[]
      .exact⟨2,rfl,rfl,by decide⟩
      .cases bl:((lz.length:Int)==0)
       .exact⟨2,rfl,rfl,by decide⟩
       .simp only[Bool.and_true,Bool.not_true,Bool.not_false,cond_true,cond_false,LB bl];exact⟨0,rfl,rfl,by decide⟩
    .by_cases aJ:K=3
     .subst aJ;simp only[Int.reduceBEq,Int.reduceLE,decide_true,decide_false,Bool.false_and,Bool.true_and,Bool.and_true,Bool.false_or,Bool.or_false,Bool.true_or,Bool.or_true,cond_true,cond_false,Bool.and_self,bind_some];cases N==0
      .exact⟨2,rfl,rfl,by decide⟩
      .cases Nm==[]
       .exact⟨2,rfl,rfl,by decide⟩
       .have dV:((lz.length:Int) !=1)= !((lz.length:Int)==1):=rfl;rw[dV];cases((lz.length:Int)==1)
        .exact⟨5,rfl,rfl,by decide⟩
        .cases vk ⟨3,N,Nm,lz⟩ pl.scope
         .exact⟨8,rfl,rfl,by decide⟩
         .exact⟨0,rfl,rfl,by decide⟩
     .by_cases bh:K=4
      .subst bh;simp only[Int.reduceBEq,Int.reduceLE,decide_true,decide_false,Bool.false_and,Bool.true_and,Bool.and_true,Bool.false_or,Bool.or_false,Bool.true_or,Bool.or_true,cond_true,cond_false,Bool.and_self,bind_some];cases Nm==[]
       .exact⟨2,rfl,rfl,by decide⟩
       .cases bl:((lz.length:Int)==0)
        .exact⟨2,rfl,rfl,by decide⟩
        .rw[LB bl];cases(decide (1<=N)&&decide (N<=7))
         .exact⟨4,rfl,rfl,by decide⟩
         .cases decide (6<=pl.scope)
          .exact⟨0,rfl,rfl,by decide⟩
          .exact⟨7,rfl,rfl,by decide⟩
      .by_cases b2:K=5
       .subst b2;simp only[Int.reduceBEq,Int.reduceLE,decide_true,decide_false,Bool.false_and,Bool.true_and,Bool.and_true,Bool.false_or,Bool.or_false,Bool.true_or,Bool.or_true,cond_true,cond_false,Bool.and_self,bind_some];cases Nm==[]
        .exact⟨2,rfl,rfl,by decide⟩
        .cases ai:(decide (0<=N)&&decide (N<=(list.length:Int)-1))
         .exact⟨4,rfl,rfl,by decide⟩
         .simp only[Bool.and_eq_true,decide_eq_true_eq]at ai;obtain⟨i,rfl⟩:∃i:Nat,N=i:=⟨N.toNat,by omega⟩
          rw[dJ list i (by omega)];simp only[bind_some,Bool.not_true,cond_false];have dV:((lz.length:Int) !=list[i].ek)= !((lz.length:Int)==list[i].ek):=rfl;rw[dV];cases((lz.length:Int)==list[i].ek)
          .exact⟨5,rfl,rfl,by decide⟩
          .cases pl.behind
           .exact⟨6,rfl,rfl,by decide⟩
           .cases vk ⟨5,i,Nm,lz⟩ pl.scope
            .exact⟨8,rfl,rfl,by decide⟩
            .exact⟨0,rfl,rfl,by decide⟩
       .have fT:(K==0)=false:=by simpa using a7
        have aO:(K==1)=false:=by simpa using ad
        have aU:(K==2)=false:=by simpa using ae
        have aM:(K==3)=false:=by simpa using aJ
        have bT:(K==4)=false:=by simpa using bh
        have cv:(K==5)=false:=by simpa using b2
        have ck:(decide (0<=K)&&decide (K<=5))=false:=by
         rw[Bool.and_eq_false_iff,decide_eq_false_iff_not,decide_eq_false_iff_not];omega
        simp only[fT,aO,aU,aM,bT,cv,ck,Bool.false_and,cond_false,bind_some];exact⟨2,rfl,rfl,by decide⟩
 exact atB _ ay rfl
theorem AG {β:Type} {l:Nat->Int->Option β} {n:Nat} (p:Nat->Bool) (mc bad:Option β) (a7:∀m,l (m+1) (n:Int)=mc)
  (aa:∀i,i<n->∀m,l (m+1) (i:Int)=cond (p i) (l m ((i+1:Nat):Int)) bad):bX (λm=>l m 0)=cond (fW p n) mc bad:=by
 rw[oV (n:=n) (λi=>cond ((range' i (n-i)).all p) mc bad)]
 .simp[fW,range_eq_range']
 .intro m;rw[a7];simp
 .intro i ai m ih;rw[aa i ai,ih,show n-i=(n-(i+1))+1 by omega,range'_succ];cases ay:p i<;>simp[ay]
def aa5 (d:a6):Prop:=d.Name.length<=1048576/\d.Body.length<=1048576/\∀p∈d.Body,AF p
def wZ (b:azw):Bool:=(decide (1<=b.length)&&decide (b.length<=20))&&yw b 1
theorem AH {b:azw} (h:wZ b=true):e8 b 1=some b.length/\1<=b.length/\b.length<=20:=by
 simp only[wZ,SL,Bool.and_eq_true,decide_eq_true_eq,beq_iff_eq]at h;exact⟨h.2,h.1.1,h.1.2⟩
def jC (d:a6) (i:Nat):dB:=(hb d.Body [⟨d.ek,false⟩]).getD i ⟨0,false⟩
theorem LC (d:a6) (h:wZ d.Body=true) (ay:0<=d.ek/\d.ek<=3) (i:Nat) (ai:i<d.Body.length):
  vS d (i:Int)=some (jC d i).scope/\0<=(jC d i).scope/\(jC d i).scope<=29/\
   (jC d i).behind=SQ d.Body i/\
   (hb d.Body [⟨d.ek,false⟩])[i]? =some (jC d i):=by
 obtain⟨ad,ae,aJ⟩:=AH h;obtain⟨s,pl,aO,aU,aM⟩:=aa0 d.Body [⟨d.ek,false⟩] d.Body.length ad i ai;have aa:s=⟨d.ek,false⟩:=by
  simp only[yx,ad]at aO;rw[if_pos ai]at aO;exact(some.inj aO).symm
 subst aa;have fI:jC d i=pl:=by unfold jC;rw[getD_eq_getElem?_getD,aU];rfl
 have ar:=aaW d.Body i;simp only at aM;refine⟨?_,?_,?_,?_,?_⟩
 .rw[ats d (by omega) ad (by omega) i ai,fI,aM]
 .rw[fI,aM];omega
 .rw[fI,aM];omega
 .rw[fI];exact atw d.Body ⟨d.ek,false⟩ rfl i pl aU
 .rw[fI];exact aU
theorem atF (list:azx) (aC:list.length<=4) (d:a6) (ao:aa5 d) (ay:0<=d.ek/\d.ek<=3):
  ∃r,vV list d=some r/\Gk list d=some r/\0<=r.2/\(r.2=0->wZ d.Body=true):=by
 unfold vV Gk ig;rw[ath _ ao.2.1];have ts:=aaP d ao.2.1 0 (zero_le _);rw[show((0:Nat):Int)=0 from rfl,drop_zero]at ts;simp only[bind_some];have ni:decide ((1:Int)<=(d.Body.length:Int))=decide (1<=d.Body.length):=decide_eq_decide.2 (by omega);have ld:decide ((d.Body.length:Int)<=20)=decide (d.Body.length<=20):=decide_eq_decide.2 (by omega);rw[ni,ld];show∃r,cond (!wZ d.Body) _ _=_/\_;cases aa:wZ d.Body
 .refine⟨(0,1),rfl,?_,by decide,λh=>by cases h⟩;cases ar:(decide (1<=d.Body.length)&&decide (d.Body.length<=20))
  .rfl
  .rw[ts];have hw:yw d.Body 1=false:=by
    unfold wZ at aa;rw[ar,Bool.true_and]at aa;exact aa
   have:(tu 0 (e8 d.Body 1) !=(d.Body.length:Int))=true:=by
    rw[SL]at hw;cases he:e8 d.Body 1 with
    |none=>simp only[tu,bne_iff_ne];omega
    |some n=>
     rw[he]at hw;have dV:n≠d.Body.length:=λe=>by simp[e]at hw
     simp only[tu,bne_iff_ne];omega
   simp only[Bool.not_true,cond_false,bind_some,this,cond_true]
 .obtain⟨ad,ae,aJ⟩:=AH aa;have ar:(decide (1<=d.Body.length)&&decide (d.Body.length<=20))=true:=by simp;omega
  have dV:(tu 0 (some d.Body.length) !=(d.Body.length:Int))=false:=by simp[tu]
  rw[ar,ts,ad];simp only[Bool.not_true,cond_false,bind_some,dV];rw[aaV d ao.2.1 ad ay.1 (by omega)];simp only[bind_some];have key:∀i,i<=d.Body.length->∃r:Int×Int,(∀m,d.Body.length-i<m->vU list d m (i:Int)=some r)/\
    (∀m,d.Body.length-i<m->zP list d (hb d.Body [⟨d.ek,false⟩]) m (i:Int)=some r)/\0<=r.2:=by
   refine down d.Body.length ⟨(0,0),λm hm=>?_,λm hm=>?_,by decide⟩ ?_
   .obtain⟨m,rfl⟩:∃j,m=j+1:=⟨m-1,by omega⟩
    simp only[vU,FV];rw[ev (Nat.le_refl _)];rfl
   .obtain⟨m,rfl⟩:∃j,m=j+1:=⟨m-1,by omega⟩
    simp only[zP,J1];rw[ev (Nat.le_refl _)];rfl
   .rintro i ai ⟨r,dU,a_,cN⟩;obtain⟨hn,gE,iI,jH,tP⟩:=LC d aa ay i ai;obtain⟨v,v1,v2,v3⟩:=aa3 list aC d i ai aJ (ao.2.2 _ (getElem_mem ai)) (jC d i) hn ⟨gE,iI⟩ jH;have hg:bk (hb d.Body [⟨d.ek,false⟩]) (i:Int)=some (jC d i):=by
     unfold bk;rw[if_pos (by omega)];exact tP
    by_cases aF:v=0
    .subst aF;refine⟨r,λm hm=>?_,λm hm=>?_,cN⟩
     .obtain⟨m,rfl⟩:∃j,m=j+1:=⟨m-1,by omega⟩
      simp only[vU,FV];rw[d_ ai,v1,dQ i _ ai (by omega),<-dU m (by omega)];rfl
     .obtain⟨m,rfl⟩:∃j,m=j+1:=⟨m-1,by omega⟩
      simp only[zP,J1];rw[d_ ai,dJ _ i ai,hg];simp only[cond_true,bind_some,v2];rw[dQ i _ ai (by omega),<-a_ m (by omega)];rfl
    .have Ff:decide (0<v)=true:=decide_eq_true (by omega);have AJ:(v !=0)=true:=by simpa using aF
     refine⟨((i:Int),v),λm hm=>?_,λm hm=>?_,v3⟩
     .obtain⟨m,rfl⟩:∃j,m=j+1:=⟨m-1,by omega⟩
      simp only[vU,FV];rw[d_ ai,v1];simp only[cond_true,bind_some,Ff]
     .obtain⟨m,rfl⟩:∃j,m=j+1:=⟨m-1,by omega⟩
      simp only[zP,J1];rw[d_ ai,dJ _ i ai,hg];simp only[cond_true,bind_some,v2,AJ]
  obtain⟨r,dU,a_,cN⟩:=key 0 (zero_le _);refine⟨r,eY (d.Body.length+1) λm hm=>dU m (by omega),eY (d.Body.length+1) λm hm=>a_ m (by omega),cN,λ_=>trivial⟩
def w1 (d:a6):Bool:=decide (0<=d.ek)&&decide (d.ek<=3)
def DJ (list:azx):Bool:=fW (λi=>w1 (list.getD i ⟨[],0,[]⟩)) list.length
theorem aa6 {list:azx} (h:DJ list=true) (i:Nat) (ai:i<list.length):0<=list[i].ek/\list[i].ek<=3:=by
 have:=nO.1 h i ai;have e:list.getD i ⟨[],0,[]⟩=list[i]:=by simp[List.getD,ai]
 rw[e]at this;simpa [w1]using this
theorem atG (list:azx) (aC:list.length<=1048576):JS list=some (DJ list):=by
 unfold JS Py Px;rw[p8 (n:=list.length) (λi=> !w1 (list.getD i ⟨[],0,[]⟩))]
 .simp only[bind_some,tr,Bool.not_not];rfl
 .intro m;simp only[F_,Pw];rw[ev (Nat.le_refl _)];rfl
 .intro i ai m;simp only[F_,Pw];rw[d_ ai,ly _ i ⟨[],0,[]⟩ ai,dQ i _ ai (by omega)];simp only[cond_true,bind_some,Pv,ig];rfl
def pE (list:azx):Prop:=list.length<=1048576/\∀d∈list,aa5 d
set_option linter.unusedSimpArgs false
theorem atH (x:azo) (n:Int) (an:(x.length<=9223372036854775807/\∀y∈x,BK y)) (a7:0<=n) (aR:n<=1048576):Fp x n=some (iu n (x.length+0)):=by
 unfold Fp;refine ow an.1 a7 aR λh=>?_;rw[eD _ (by omega)];exact vf (by omega)
theorem atI (x:azl) (n:Int) (an:(x.length<=9223372036854775807/\∀y∈x,(y.length<=9223372036854775807/\∀z∈y,BK z))) (a7:0<=n) (aR:n<=1048576):I6 x n=some (iu n (e7 (λx=>x.length+0) x)):=by
 unfold I6;refine ow an.1 a7 aR λh=>?_;rw[eD _ (by omega)];exact Ay (f:=Fp) (λx=>x.length+0) x (λ_ _ _=>rfl) (λy hy n a7 aR=>atH y n (an.2 y hy) a7 aR) (by omega) _ (by omega) (by omega)
def tw (x:lk):Nat:=(x.Name.length+((e7 (λx=>x.length+0) x.cL)+0))
theorem atJ (x:lk) (n:Int) (an:Fj x) (a7:0<=n) (aR:n<=1048576):Fq x n=some (iu n (tw x)):=by
 unfold Fq;unfold tw;obtain⟨w0,gR,jh,qp⟩:=an;refine ow jh (by omega) (by omega) λc2=>?_;rw[eD (n-(x.Name.length:Int)) (by omega)];refine ve (atI _ _ qp (by omega) (by omega)) λc3=>?_;exact vf (by omega)
theorem atK (x:azp) (n:Int) (an:(x.length<=9223372036854775807/\∀y∈x,Fj y)) (a7:0<=n) (aR:n<=1048576):I7 x n=some (iu n (e7 tw x)):=by
 unfold I7;refine ow an.1 a7 aR λh=>?_;rw[eD _ (by omega)];exact Ay (f:=Fq) tw x (λ_ _ _=>rfl) (λy hy n a7 aR=>atJ y n (an.2 y hy) a7 aR) (by omega) _ (by omega) (by omega)
def tx (x:ll):Nat:=(x.Name.length+((e7 tw x.Body)+0))
theorem atL (x:ll) (n:Int) (an:Fk x) (a7:0<=n) (aR:n<=1048576):Fs x n=some (iu n (tx x)):=by
 unfold Fs;unfold tx;obtain⟨w0,gR,jh⟩:=an;refine ow w0 (by omega) (by omega) λc0=>?_;rw[eD (n-(x.Name.length:Int)) (by omega)];refine ve (atK _ _ jh (by omega) (by omega)) λc2=>?_;exact vf (by omega)
theorem atM (x:azq) (n:Int) (an:(x.length<=9223372036854775807/\∀y∈x,Fk y)) (a7:0<=n) (aR:n<=1048576):I8 x n=some (iu n (e7 tx x)):=by
 unfold I8;refine ow an.1 a7 aR λh=>?_;rw[eD _ (by omega)];exact Ay (f:=Fs) tx x (λ_ _ _=>rfl) (λy hy n a7 aR=>atL y n (an.2 y hy) a7 aR) (by omega) _ (by omega) (by omega)
theorem aa7 (x:aze) (n:Int) (an:(x.length<=9223372036854775807/\∀y∈x,(-9223372036854775808<=y/\y<=9223372036854775807))) (a7:0<=n) (aR:n<=1048576):Ft x n=some (iu n (x.length+0)):=by
 unfold Ft;refine ow an.1 a7 aR λh=>?_;rw[eD _ (by omega)];exact vf (by omega)
def tz (x:ln):Nat:=((x.bV.length+0)+0)
theorem atN (x:ln) (n:Int) (an:Fl x) (a7:0<=n) (aR:n<=1048576):Fu x n=some (iu n (tz x)):=by
 unfold Fu;unfold tz;obtain⟨w0,gR⟩:=an;refine ve (aa7 _ _ gR (by omega) (by omega)) λcA=>?_;exact vf (by omega)
theorem atO (x:azr) (n:Int) (an:(x.length<=9223372036854775807/\∀y∈x,Fl y)) (a7:0<=n) (aR:n<=1048576):I9 x n=some (iu n (e7 tz x)):=by
 unfold I9;refine ow an.1 a7 aR λh=>?_;rw[eD _ (by omega)];exact Ay (f:=Fu) tz x (λ_ _ _=>rfl) (λy hy n a7 aR=>atN y n (an.2 y hy) a7 aR) (by omega) _ (by omega) (by omega)
def tA (x:k2):Nat:=(x.Left.length+(x.cY.length+(x.Result.length+0)))
theorem atP (x:k2) (n:Int) (an:Fm x) (a7:0<=n) (aR:n<=1048576):Fv x n=some (iu n (tA x)):=by
 unfold Fv;unfold tA;obtain⟨w0,gR,jh⟩:=an;refine ow w0 (by omega) (by omega) λc0=>?_;rw[eD (n-(x.Left.length:Int)) (by omega)];refine ow gR (by omega) (by omega) λcA=>?_;rw[eD ((n-(x.Left.length:Int))-(x.cY.length:Int)) (by omega)];refine ow jh (by omega) (by omega) λc2=>?_;rw[eD (((n-(x.Left.length:Int))-(x.cY.length:Int))-(x.Result.length:Int)) (by omega)];exact vf (by omega)
theorem atQ (x:azs) (n:Int) (an:(x.length<=9223372036854775807/\∀y∈x,Fm y)) (a7:0<=n) (aR:n<=1048576):I_ x n=some (iu n (e7 tA x)):=by
 unfold I_;refine ow an.1 a7 aR λh=>?_;rw[eD _ (by omega)];exact Ay (f:=Fv) tA x (λ_ _ _=>rfl) (λy hy n a7 aR=>atP y n (an.2 y hy) a7 aR) (by omega) _ (by omega) (by omega)
theorem aa8 (x:azb) (n:Int) (an:(x.length<=9223372036854775807/\∀y∈x,y.length<=9223372036854775807)) (a7:0<=n) (aR:n<=1048576):Fw x n=some (iu n (e7 length x)):=by
 unfold Fw;refine ow an.1 a7 aR λh=>?_;rw[eD _ (by omega)];exact asQ x (λ_ _ _=>rfl) an.2 (by omega) _ (by omega) (by omega)
def yz (x:oK):Nat:=((e7 tx x.cw)+((e7 tz x.cg)+((e7 tA x.b8)+((e7 length x.cB)+((e7 length x.cy)+0)))))
theorem atS (x:oK) (n:Int) (an:Fo x) (a7:0<=n) (aR:n<=1048576):Fx x n=some (iu n (yz x)):=by
 unfold Fx;unfold yz;obtain⟨w0,gR,jh,qp,Ss⟩:=an;refine ve (atM _ _ w0 (by omega) (by omega)) λc0=>?_;refine ve (atO _ _ gR (by omega) (by omega)) λcA=>?_;refine ve (atQ _ _ jh (by omega) (by omega)) λc2=>?_;refine ve (aa8 _ _ qp (by omega) (by omega)) λc3=>?_;refine ve (aa8 _ _ Ss (by omega) (by omega)) λc4=>?_;exact vf (by omega)
def pF (x:lo):Nat:=((x.bV.length+0)+0)
theorem atT (x:lo) (n:Int) (an:BL x) (a7:0<=n) (aR:n<=1048576):Fy x n=some (iu n (pF x)):=by
 unfold Fy;unfold pF;obtain⟨w0,gR,jh⟩:=an;refine ve (aa7 _ _ jh (by omega) (by omega)) λc2=>?_;exact vf (by omega)
theorem atU (x:azt) (n:Int) (an:(x.length<=9223372036854775807/\∀y∈x,BL y)) (a7:0<=n) (aR:n<=1048576):Ja x n=some (iu n (e7 pF x)):=by
 unfold Ja;refine ow an.1 a7 aR λh=>?_;rw[eD _ (by omega)];exact Ay (f:=Fy) pF x (λ_ _ _=>rfl) (λy hy n a7 aR=>atT y n (an.2 y hy) a7 aR) (by omega) _ (by omega) (by omega)
def qP (x:k3):Nat:=(x.Label.length+0)
theorem atV (x:k3) (n:Int) (an:BM x) (a7:0<=n) (aR:n<=1048576):Fz x n=some (iu n (qP x)):=by
 unfold Fz;unfold qP;obtain⟨w0,gR,jh,qp⟩:=an;refine ow qp (by omega) (by omega) λc3=>?_;rw[eD (n-(x.Label.length:Int)) (by omega)];exact vf (by omega)
theorem atW (x:azu) (n:Int) (an:(x.length<=9223372036854775807/\∀y∈x,BM y)) (a7:0<=n) (aR:n<=1048576):Jb x n=some (iu n (e7 qP x)):=by
 unfold Jb;refine ow an.1 a7 aR λh=>?_;rw[eD _ (by omega)];exact Ay (f:=Fz) qP x (λ_ _ _=>rfl) (λy hy n a7 aR=>atV y n (an.2 y hy) a7 aR) (by omega) _ (by omega) (by omega)
def DK (x:ji):ca:=⟨x.Kind,x.Value⟩
theorem atX (x:ji):FA x=some (DK x):=by
 unfold FA;rfl
theorem atY (x:azo) (h:(x.length+0)<=1048576):FB x=some (x.map DK):=by
 unfold FB;have aC:x.length<=1048576:=by omega
 rw[rY _ aC (by decide)];simp only[bind_some];rw[vg (f:=FA) DK x _ (λ_ _ _=>rfl) (λy hy=>atX y) aC]
theorem atZ (x:azl) (h:(e7 (λx=>x.length+0) x)<=1048576):Jc x=some (x.map (map DK)):=by
 unfold Jc;have aC:x.length<=1048576:=Nat.le_trans (k8 _ _) h;rw[rY _ aC (by decide)];simp only[bind_some];rw[vg (f:=FB) (map DK) x _ (λ_ _ _=>rfl) (λy hy=>atY y (Nat.le_trans (lW (f:=(λx=>x.length+0)) hy) h)) aC]
def DL (x:lk):cQ:=⟨x.Kind,x.Number,x.Name,(x.cL.map (map DK))⟩
def r3 (x:cQ):Nat:=(x.Name.length+((e7 (λx=>x.length+0) x.cL)+0))
theorem at0 (x:lk):r3 (DL x)=tw x:=by
 simp only[r3,tw,DL,wS,length_map]
theorem at1 (x:lk) (h:(tw x)<=1048576):FC x=some (DL x):=by
 unfold FC;unfold tw at h;rw[atZ _ (by omega)];rfl
theorem at2 (x:azp) (h:(e7 tw x)<=1048576):Jd x=some (x.map DL):=by
 unfold Jd;have aC:x.length<=1048576:=Nat.le_trans (k8 _ _) h;rw[rY _ aC (by decide)];simp only[bind_some];rw[vg (f:=FC) DL x _ (λ_ _ _=>rfl) (λy hy=>at1 y (Nat.le_trans (lW (f:=tw) hy) h)) aC]
def DM (x:ll):a6:=⟨x.Name,x.ek,(x.Body.map DL)⟩
def vl (x:a6):Nat:=(x.Name.length+((e7 r3 x.Body)+0))
theorem at3 (x:ll):vl (DM x)=tx x:=by
 simp only[vl,tx,DM,wS,length_map,at0]
theorem at4 (x:ll) (h:(tx x)<=1048576):FD x=some (DM x):=by
 unfold FD;unfold tx at h;rw[at2 _ (by omega)];rfl
theorem at5 (x:azq) (h:(e7 tx x)<=1048576):Je x=some (x.map DM):=by
 unfold Je;have aC:x.length<=1048576:=Nat.le_trans (k8 _ _) h;rw[rY _ aC (by decide)];simp only[bind_some];rw[vg (f:=FD) DM x _ (λ_ _ _=>rfl) (λy hy=>at4 y (Nat.le_trans (lW (f:=tx) hy) h)) aC]
theorem aa9 (x:aze) (h:(x.length+0)<=1048576):FE x=some x:=by
 unfold FE;have aC:x.length<=1048576:=by omega
 rw[rY _ aC (by decide)];simp only[bind_some];rw[vg (f:=some) id x _ (λ_ _ _=>rfl) (λ_ _=>rfl) aC,List.map_id]
def DN (x:ln):dx:=⟨x.cE,x.bV⟩
def r4 (x:dx):Nat:=((x.bV.length+0)+0)
theorem at6 (x:ln):r4 (DN x)=tz x:=by
 simp only[r4,tz,DN,wS,length_map]
theorem at7 (x:ln) (h:(tz x)<=1048576):FF x=some (DN x):=by
 unfold FF;unfold tz at h;rw[aa9 _ (by omega)];rfl
theorem aua (x:azr) (h:(e7 tz x)<=1048576):Jf x=some (x.map DN):=by
 unfold Jf;have aC:x.length<=1048576:=Nat.le_trans (k8 _ _) h;rw[rY _ aC (by decide)];simp only[bind_some];rw[vg (f:=FF) DN x _ (λ_ _ _=>rfl) (λy hy=>at7 y (Nat.le_trans (lW (f:=tz) hy) h)) aC]
def DO (x:k2):ch:=⟨x.Left,x.cY,x.Result⟩
def r5 (x:ch):Nat:=(x.Left.length+(x.cY.length+(x.Result.length+0)))
theorem aub (x:k2):r5 (DO x)=tA x:=by
 simp only[r5,tA,DO,wS,length_map]
theorem auc (x:k2) (h:(tA x)<=1048576):FG x=some (DO x):=by
 unfold FG;unfold tA at h;rfl
theorem aud (x:azs) (h:(e7 tA x)<=1048576):Jg x=some (x.map DO):=by
 unfold Jg;have aC:x.length<=1048576:=Nat.le_trans (k8 _ _) h;rw[rY _ aC (by decide)];simp only[bind_some];rw[vg (f:=FG) DO x _ (λ_ _ _=>rfl) (λy hy=>auc y (Nat.le_trans (lW (f:=tA) hy) h)) aC]
theorem aa_ (x:azb) (h:(e7 length x)<=1048576):FH x=some x:=by
 unfold FH;have aC:x.length<=1048576:=Nat.le_trans (k8 _ _) h;rw[rY _ aC (by decide)];simp only[bind_some];rw[vg (f:=some) id x _ (λ_ _ _=>rfl) (λ_ _=>rfl) aC,List.map_id]
def yA (x:oK):cM:=⟨(x.cw.map DM),(x.cg.map DN),(x.b8.map DO),x.cB,x.cy⟩
def AK (x:cM):Nat:=((e7 vl x.cw)+((e7 r4 x.cg)+((e7 r5 x.b8)+((e7 length x.cB)+((e7 length x.cy)+0)))))
theorem aue (x:oK):AK (yA x)=yz x:=by
 simp only[AK,yz,yA,wS,length_map,at3,at6,aub]
theorem auf (x:oK) (h:(yz x)<=1048576):zu x=some (yA x):=by
 unfold zu;unfold yz at h;rw[at5 _ (by omega),aua _ (by omega),aud _ (by omega),aa_ _ (by omega),aa_ _ (by omega)];rfl
def w2 (x:lo):bp:=⟨x.cE,x.Part,x.bV⟩
def r6 (x:bp):Nat:=((x.bV.length+0)+0)
theorem aug (x:lo):r6 (w2 x)=pF x:=by
 simp only[r6,pF,w2,wS,length_map]
theorem auh (x:lo) (h:(pF x)<=1048576):FI x=some (w2 x):=by
 unfold FI;unfold pF at h;rw[aa9 _ (by omega)];rfl
theorem aui (x:azt) (h:(e7 pF x)<=1048576):BN x=some (x.map w2):=by
 unfold BN;have aC:x.length<=1048576:=Nat.le_trans (k8 _ _) h;rw[rY _ aC (by decide)];simp only[bind_some];rw[vg (f:=FI) w2 x _ (λ_ _ _=>rfl) (λy hy=>auh y (Nat.le_trans (lW (f:=pF) hy) h)) aC]
def w3 (x:k3):fu:=⟨x.Choice,x.fa,x.Second,x.Label⟩
def r7 (x:fu):Nat:=(x.Label.length+0)
theorem auj (x:k3):r7 (w3 x)=qP x:=by
 simp only[r7,qP,w3,wS,length_map]
theorem auk (x:k3) (h:(qP x)<=1048576):FJ x=some (w3 x):=by
 unfold FJ;unfold qP at h;rfl
theorem aul (x:azu) (h:(e7 qP x)<=1048576):BO x=some (x.map w3):=by
 unfold BO;have aC:x.length<=1048576:=Nat.le_trans (k8 _ _) h;rw[rY _ aC (by decide)];simp only[bind_some];rw[vg (f:=FJ) w3 x _ (λ_ _ _=>rfl) (λy hy=>auk y (Nat.le_trans (lW (f:=qP) hy) h)) aC]
theorem aum (x:ca):GC x x=some true:=by
 unfold GC;simp only[wT,wU,yt,cond_false,bind_some,Bool.not_true]
theorem aun (x:azv) (h:(x.length+0)<=1048576):GD x x=some true:=by
 unfold GD;have aC:x.length<=1048576:=by omega
 rw[vh,cond_false];exact ys (f:=GC) x (λ_ _=>rfl) (λy hy=>aum y) aC
theorem auo (x:azm) (h:(e7 (λx=>x.length+0) x)<=1048576):KG x x=some true:=by
 unfold KG;have aC:x.length<=1048576:=Nat.le_trans (k8 _ _) h;rw[vh,cond_false];exact ys (f:=GD) x (λ_ _=>rfl) (λy hy=>aun y (Nat.le_trans (lW (f:=(λx=>x.length+0)) hy) h)) aC
theorem aup (x:cQ) (h:(r3 x)<=1048576):GF x x=some true:=by
 unfold GF;unfold r3 at h;simp only[wT,wU,yt,cond_false,bind_some,Bool.not_true,auo x.cL (by omega)]
theorem auq (x:azw) (h:(e7 r3 x)<=1048576):KH x x=some true:=by
 unfold KH;have aC:x.length<=1048576:=Nat.le_trans (k8 _ _) h;rw[vh,cond_false];exact ys (f:=GF) x (λ_ _=>rfl) (λy hy=>aup y (Nat.le_trans (lW (f:=r3) hy) h)) aC
theorem aur (x:a6) (h:(vl x)<=1048576):GG x x=some true:=by
 unfold GG;unfold vl at h;simp only[wT,wU,yt,cond_false,bind_some,Bool.not_true,auq x.Body (by omega)]
theorem aus (x:azx) (h:(e7 vl x)<=1048576):KI x x=some true:=by
 unfold KI;have aC:x.length<=1048576:=Nat.le_trans (k8 _ _) h;rw[vh,cond_false];exact ys (f:=GG) x (λ_ _=>rfl) (λy hy=>aur y (Nat.le_trans (lW (f:=vl) hy) h)) aC
theorem aba (x:aze) (h:(x.length+0)<=1048576):GH x x=some true:=by
 unfold GH;have aC:x.length<=1048576:=by omega
 rw[vh,cond_false];exact aaa x (λ_ _=>rfl) wT aC
theorem aut (x:dx) (h:(r4 x)<=1048576):GI x x=some true:=by
 unfold GI;unfold r4 at h;simp only[wT,wU,yt,cond_false,bind_some,Bool.not_true,aba x.bV (by omega)]
theorem auu (x:azy) (h:(e7 r4 x)<=1048576):KJ x x=some true:=by
 unfold KJ;have aC:x.length<=1048576:=Nat.le_trans (k8 _ _) h;rw[vh,cond_false];exact ys (f:=GI) x (λ_ _=>rfl) (λy hy=>aut y (Nat.le_trans (lW (f:=r4) hy) h)) aC
theorem auv (x:ch) (h:(r5 x)<=1048576):GJ x x=some true:=by
 unfold GJ;unfold r5 at h;simp only[wT,wU,yt,cond_false,bind_some,Bool.not_true]
theorem auw (x:azz) (h:(e7 r5 x)<=1048576):KK x x=some true:=by
 unfold KK;have aC:x.length<=1048576:=Nat.le_trans (k8 _ _) h;rw[vh,cond_false];exact ys (f:=GJ) x (λ_ _=>rfl) (λy hy=>auv y (Nat.le_trans (lW (f:=r5) hy) h)) aC
theorem abb (x:azb) (h:(e7 length x)<=1048576):GK x x=some true:=by
 unfold GK;have aC:x.length<=1048576:=Nat.le_trans (k8 _ _) h;rw[vh,cond_false];exact aaa x (λ_ _=>rfl) wU aC
theorem auy (x:cM) (h:(AK x)<=1048576):GL x x=some true:=by
 unfold GL;unfold AK at h;simp only[wT,wU,yt,cond_false,bind_some,Bool.not_true,aus x.cw (by omega),auu x.cg (by omega),auw x.b8 (by omega),abb x.cB (by omega),abb x.cy (by omega)]
theorem auz (x:bp) (h:(r6 x)<=1048576):GM x x=some true:=by
 unfold GM;unfold r6 at h;simp only[wT,wU,yt,cond_false,bind_some,Bool.not_true,aba x.bV (by omega)]
theorem auA (x:azA) (h:(e7 r6 x)<=1048576):KL x x=some true:=by
 unfold KL;have aC:x.length<=1048576:=Nat.le_trans (k8 _ _) h;rw[vh,cond_false];exact ys (f:=GM) x (λ_ _=>rfl) (λy hy=>auz y (Nat.le_trans (lW (f:=r6) hy) h)) aC
theorem auB (x:fu) (h:(r7 x)<=1048576):GN x x=some true:=by
 unfold GN;unfold r7 at h;simp only[wT,wU,yt,cond_false,bind_some,Bool.not_true]
theorem auC (x:azB) (h:(e7 r7 x)<=1048576):KM x x=some true:=by
 unfold KM;have aC:x.length<=1048576:=Nat.le_trans (k8 _ _) h;rw[vh,cond_false];exact ys (f:=GN) x (λ_ _=>rfl) (λy hy=>auB y (Nat.le_trans (lW (f:=r7) hy) h)) aC
theorem auD {list:azx} (h:e7 vl list<=1048576):pE list:=by
 refine⟨Nat.le_trans (k8 _ _) h,λd ao=>?_⟩;have ad:=Nat.le_trans (lW (f:=vl) ao) h;unfold vl at ad;refine⟨by omega,Nat.le_trans (k8 r3 _) (by omega),λp ay=>?_⟩;have a7:r3 p<=e7 r3 d.Body:=lW ay;have ae:r3 p<=1048576:=by omega
 clear a7;unfold r3 at ae;have aJ:=k8 (λx:List ca=>x.length+0) p.cL;refine⟨by omega,by omega,λe he=>?_⟩;have bh:e.length+0<=_:=lW (f:=λx:List ca=>x.length+0) he;omega
def mB (e:azx) (i:Nat):azc:=(e.getD i ⟨[],0,[]⟩).Name
theorem w4 {e:azx} {i:Nat} (ai:i<e.length):e.getD i ⟨[],0,[]⟩=e[i]:=by simp[List.getD,ai]
def tB (e:azx) (i:Nat):Bool:=fW (λj=> !(mB e j==mB e i)) i
noncomputable def r8 (e:azx) (i:Nat):Bool:=match vV e (e.getD i ⟨[],0,[]⟩)with
 |some r=>r.2==0
 |none=>false
noncomputable def lZ (e:azx):Bool:=((decide (1<=e.length)&&decide (e.length<=4))&&fW (λi=>(ha (mB e i)&&w1 (e.getD i ⟨[],0,[]⟩))&&tB e i) e.length)&&fW (r8 e) e.length
theorem SS {e:azx} (h:pE e) (bh:e.length<=4) (ay:DJ e=true) {i:Nat} (ai:i<e.length):
  ∃r,vV e e[i]=some r/\Gk e e[i]=some r/\decide (0<r.2)= !(r8 e i)/\(r.2 !=0)= !(r8 e i)/\(r8 e i=true->wZ e[i].Body=true/\r.2=0):=by
 obtain⟨r,dU,a_,cN,bN⟩:=atF e bh e[i] (h.2 _ (getElem_mem ai)) (aa6 ay i ai);have ab:r8 e i=(r.2==0):=by unfold r8;rw[w4 ai,dU]
 refine⟨r,dU,a_,?_,?_,λkU=>?_⟩
 .rw[ab];by_cases a7:r.2=0
  .rw[a7];rfl
  .have aO:(r.2==0)=false:=by simpa using a7
   rw[aO];exact decide_eq_true (by omega)
 .rw[ab];rfl
 .rw[ab]at kU;have a7:r.2=0:=by simpa using kU
  exact⟨bN a7,a7⟩
theorem w5 {p q:Nat->Bool} {n:Nat}:fW (λi=>p i&&q i) n=(fW p n&&fW q n):=by
 rw[Bool.eq_iff_iff,Bool.and_eq_true,nO,nO,nO];constructor
 .intro h;exact⟨λi ai=>((Bool.and_eq_true _ _).mp (h i ai)).1,λi ai=>((Bool.and_eq_true _ _).mp (h i ai)).2⟩
 .rintro⟨ad,ae⟩ i ai;rw[ad i ai,ae i ai];rfl
theorem auE (e:azx) (h:pE e):Jm e=some (lZ e):=by
 unfold Jm lZ;by_cases aC:1<=e.length/\e.length<=4
 .have d1:(((e.length:Int)==0)||decide ((4:Int)<(e.length:Int)))=false:=by
   rw[Bool.or_eq_false_iff,beq_eq_false_iff_ne,decide_eq_false_iff_not];omega
  have d2:(decide (1<=e.length)&&decide (e.length<=4))=true:=by simp;omega
  rw[d1,d2,cond_false,Bool.true_and];rw[AG (l:=λm i=>vW e m i) (n:=e.length) (λi=>(ha (mB e i)&&w1 (e.getD i ⟨[],0,[]⟩))&&tB e i) (bX λn=>zw e n 0) (some false)]
  .cases bl:fW (λi=>(ha (mB e i)&&w1 (e.getD i ⟨[],0,[]⟩))&&tB e i) e.length
   .rfl
   .have ay:DJ e=true:=by
     rw[w5,w5,Bool.and_eq_true,Bool.and_eq_true]at bl;exact bl.1.2
    rw[cond_true,Bool.true_and];rw[AG (l:=λm i=>zw e m i) (n:=e.length) (r8 e) (some true) (some false)]
    .cases fW (r8 e) e.length<;>rfl
    .intro m;simp only[zw,OY];rw[ev (Nat.le_refl _)];rfl
    .intro i ai m;obtain⟨r,dU,_,cN,_⟩:=SS h aC.2 ay ai;simp only[zw,OY];rw[d_ ai,dJ _ i ai,dQ i _ ai (by omega)];simp only[cond_true,bind_some,dU,cN];cases r8 e i<;>rfl
  .intro m;simp only[vW,OZ];rw[ev (Nat.le_refl _)];rfl
  .intro i ai m;simp only[vW,OZ];rw[d_ ai,dJ _ i ai];simp only[cond_true,bind_some,yu,jP];rw[AG (l:=λjG j=>BW (vW e m) e jG (i:Int) j) (n:=i) (λj=> !(mB e j==mB e i)) (vW e m ((i+1:Nat):Int)) (some false)]
   .have aO:mB e i=e[i].Name:=by unfold mB;rw[w4 ai]
    rw[<-aO,w4 ai];show cond (!ha (mB e i)) _ (cond (!w1 e[i]) _ (cond (tB e i) _ _))=_;cases ha (mB e i)<;>cases w1 e[i]<;>cases tB e i<;>rfl
   .intro jG;simp only[BW,OW];rw[ev (Nat.le_refl _),dQ i _ ai (by omega)];rfl
   .intro j bJ jG;have LD:j<e.length:=by omega
    simp only[BW,OW];rw[d_ bJ,dJ _ j LD,dJ _ i ai,dQ j _ bJ (by omega)];simp only[cond_true,bind_some,mB,w4 ai,w4 LD];cases e[j].Name==e[i].Name<;>rfl
 .have d1:(((e.length:Int)==0)||decide ((4:Int)<(e.length:Int)))=true:=by
   by_cases a7:e.length=0
   .simp[a7]
   .have:decide ((4:Int)<(e.length:Int))=true:=decide_eq_true (by omega);rw[this,Bool.or_true]
  have d2:(decide (1<=e.length)&&decide (e.length<=4))=false:=by
   rw[Bool.and_eq_false_iff,decide_eq_false_iff_not,decide_eq_false_iff_not];omega
  rw[d1,d2];rfl
theorem auF (e:azx) (i:Nat) (ai:i<e.length) (bh:e.length<=4):((gz e 0 (i:Int)).bind λbo=>(JU bo e[i].Name).bind λb0=>some (decide (0<=b0)))=some (!(tB e i)):=by
 rw[tq e i (by omega)];simp only[bind_some];unfold JU PC;have hlen:(e.take i).length=i:=by rw[length_take];omega
 rw[p8 (n:=i) (λj=>mB e j==mB e i)]
 .simp only[bind_some,tr];rfl
 .intro m;simp only[Gb,PB];rw[hlen,ev (Nat.le_refl _)];rfl
 .intro j bJ m;have LD:j<e.length:=by omega
  simp only[Gb,PB];rw[hlen,d_ bJ,dJ _ j (by omega),dQ j _ bJ (by omega)];have:(e.take i)[j]'(by omega)=e[j]:=by simp
  simp only[cond_true,bind_some,PA,this,mB,w4 ai,w4 LD]
theorem auG (e:azx) (h:pE e):J2 e=some (lZ e):=by
 unfold J2 ig lZ;have ni:decide ((1:Int)<=(e.length:Int))=decide (1<=e.length):=decide_eq_decide.2 (by omega);have ld:decide ((e.length:Int)<=4)=decide (e.length<=4):=decide_eq_decide.2 (by omega);simp only[bind_some];rw[ni,ld];cases aC:(decide (1<=e.length)&&decide (e.length<=4))
 .rfl
 .have Sz:1<=e.length/\e.length<=4:=by simpa using aC
  rw[atG e h.1];simp only[Bool.not_true,cond_false,bind_some,Bool.true_and];have auH:fW (λi=>(ha (mB e i)&&w1 (e.getD i ⟨[],0,[]⟩))&&tB e i) e.length=((fW (λi=>ha (mB e i)) e.length&&DJ e)&&fW (tB e) e.length):=by
   rw[w5,w5];rfl
  rw[auH];cases ay:DJ e
  .simp
  .simp only[Bool.not_true,cond_false,Bool.and_true];rw[AG (l:=λm i=>CH e m i) (n:=e.length) (λi=>(ha (mB e i)&&tB e i)&&r8 e i) (some true) (some false)]
   .rw[w5,w5];cases((fW (λi=>ha (mB e i)) e.length&&fW (λi=>tB e i) e.length)&&fW (λi=>r8 e i) e.length)<;>rfl
   .intro m;simp only[CH,PM];rw[ev (Nat.le_refl _)];rfl
   .intro i ai m;obtain⟨r,_,a_,_,bN,_⟩:=SS h Sz.2 ay ai;have aR:=auF e i ai Sz.2;have SU:=(h.2 _ (getElem_mem ai)).1;simp only[CH,PM];rw[d_ ai,dJ _ i ai,dQ i _ ai (by omega)];simp only[cond_true,bind_some,SJ _ (show e[i].Name.length<=140737488355328 by omega),mB,w4 ai];cases ha e[i].Name
    .rfl
    .simp only[Bool.not_true,cond_false,Bool.true_and];rw[tq e i (by omega)]at aR⊢;simp only[bind_some]at aR⊢;obtain⟨v,aF,AJ⟩:=aj aR;rw[aF];simp only[some.injEq]at AJ;simp only[bind_some,AJ,a_,bN];cases tB e i<;>cases r8 e i<;>rfl
theorem DP {e:azx} (h:pE e) (aF:lZ e=true):1<=e.length/\e.length<=4/\∀i (ai:i<e.length),(0<=e[i].ek/\e[i].ek<=3)/\wZ e[i].Body=true/\ha e[i].Name=true/\
  ∃r,vV e e[i]=some r/\r.2=0:=by
 unfold lZ at aF;rw[Bool.and_eq_true,Bool.and_eq_true,Bool.and_eq_true,decide_eq_true_eq,decide_eq_true_eq,w5,w5,Bool.and_eq_true,Bool.and_eq_true]at aF;obtain⟨⟨⟨ad,ae⟩,⟨aJ,bh⟩,b2⟩,dA⟩:=aF;refine⟨ad,ae,λi ai=>?_⟩;obtain⟨r,dU,_,_,_,c6⟩:=SS h ae bh ai;obtain⟨s1,s2⟩:=c6 (nO.1 dA i ai);have aR:=nO.1 aJ i ai;rw[mB,w4 ai]at aR;exact⟨aa6 bh i ai,s1,aR,r,dU,s2⟩
theorem abc {e:azx} (h:pE e) (aF:lZ e=true) {i j:Nat} (ai:i<e.length) (bJ:j<e[i].Body.length):
  vS e[i] (j:Int)=some (jC e[i] j).scope/\∃ps,CE e[i]=some ps/\bk ps (j:Int)=some (jC e[i] j):=by
 obtain⟨_,_,ao⟩:=DP h aF;obtain⟨ay,aa,_⟩:=ao i ai;obtain⟨s1,s2,sy⟩:=AH aa;have ab:=(h.2 _ (getElem_mem ai)).2.1;obtain⟨hn,_,_,_,tP⟩:=LC e[i] aa ay j bJ;exact⟨hn,_,aaV e[i] ab s1 ay.1 (by omega),by unfold bk;rw[if_pos (by omega)];exact tP⟩
end Go.l_
