/- Part of a proof that a law returns true for every input. No condition. -/
import Derived.Test.YtmaepbgkcmjcjagGreatDoorUV1x
import Derived.Test.YtmaepbgkcmjcjagGreatDoorP3
import Derived.Test.YtmaepbgkcmjcjagGreatDoorUV0x
namespace Go.lZ
open List Option Go.IntKind Nat
open Go Go.ef
theorem aqR {l:Nat->Int->axf} {n:Nat} (p:Nat->Bool) (l8 bad:Int) (bb:∀m,l (m+1) (n:Int)=some l8)
  (aa:∀i,i<n->∀m,l (m+1) (i:Int)=cond (p i) (l m ((i+1:Nat):Int)) (some bad)):b6 (λm=>l m 0)=some (cond (f_ p n) l8 bad):=by
 rw[pW (n:=n) (λi=>some (cond ((range' i (n-i)).all p) l8 bad))]
 .simp[f_,range_eq_range']
 .intro m;rw[bb];simp
 .intro i ag m ih;rw[aa i ag,ih,show n-i=(n-(i+1))+1 by omega,range'_succ];cases ax:p i<;>simp[ax]
def zZ (p:cG):Prop:=p.Name.length<=1048576/\p.cO.length<=1048576/\∀e∈p.cO,e.length<=1048576
def uJ (p:cG) (dU:Int):Bool:=f_ (λi=>pk (p.cO.getD i []) dU 15) p.cO.length
theorem ZJ (p:cG) (ax:zZ p) (dU:Int) (h:0<=dU/\dU<=29):b6 (λn=>xh p n dU 0)=some (cond (uJ p dU) 0 8):=by
 refine aqR (l:=λm i=>xh p m dU i) _ _ _ (λm=>?_) (λi ag m=>?_)
 .simp only[xh,NT];rw[eL (Nat.le_refl _)];rfl
 .simp only[xh,NT];rw[el ag,l6 _ i [] ag,d_ i _ ag (by have:=ax.2.1;omega)];simp only[cond_true,bind_some];rw[aqx _ dU 15 (by omega) (by
   have:p.cO.getD i []=p.cO[i]:=by simp[List.getD,ag]
   rw[this];exact ax.2.2 _ (getElem_mem ag))]
  simp only[bind_some];cases pk (p.cO.getD i []) dU 15<;>rfl
theorem aqS (p:cG) (ax:zZ p) (pl:du) (h:0<=pl.scope/\pl.scope<=29):I9 p.cO pl=some (!(uJ p pl.scope)):=by
 unfold I9 OL;rw[s3 (n:=p.cO.length) (λi=> !pk (p.cO.getD i []) pl.scope 15)]
 .simp only[bind_some,v7,Bool.not_not];rfl
 .intro m;simp only[Fo,OK];rw[eL (Nat.le_refl _)];rfl
 .intro i ag m;simp only[Fo,OK];rw[el ag,l6 _ i [] ag,d_ i _ ag (by have:=ax.2.1;omega)];simp only[cond_true,bind_some,OJ];rw[aqy _ pl.scope 15 h (by omega) (by
   have:p.cO.getD i []=p.cO[i]:=by simp[List.getD,ag]
   rw[this];exact ax.2.2 _ (getElem_mem ag))]
  simp only[bind_some]
theorem Ru (s:axa) (aa:s.length<=1048576):uf s=some (hx s&& !(s==([116,97,117]:axa))):=by
 unfold uf;rw[Zn s (by omega)];rfl
theorem aqT {s:axa} (h:(s==([116,97,117]:axa))=true):hx s=true:=by
 have:s=[116,97,117]:=by simpa using h
 subst this;decide
theorem KI (n:Int) (l:Nat) (aC:l<=1048576):xp n (l:Int)=some (decide (0<=n)&&decide (n<=(l:Int)-1)):=by
 unfold xp kS;rw[fk ((l:Int)-1) (by omega)];rfl
theorem ZK (list:axu) (aC:list.length<=4) (d:a6) (at_:Nat) (aqU:at_<d.Body.length) (ab:d.Body.length<=20) (ax:zZ d.Body[at_]) (pl:du)
  (mD:vg d (at_:Int)=some pl.scope) (ZL:0<=pl.scope/\pl.scope<=29)
  (xX:pl.behind=Rt d.Body at_):
  ∃r,sl list d (at_:Int)=some r/\Ft d.Body[at_] list pl=some r/\0<=r:=by
 have aqV:∀p,zZ p->p=d.Body[at_]->∃r,sl list d (at_:Int)=some r/\Ft p list pl=some r/\0<=r:=by
  intro p ax Lv;have Ng:=ZJ p ax pl.scope ZL;have HQ:=aqS p ax pl ZL;have rF:=Ru p.Name ax.1;have aqW:=CT p.Name;have aqX:vh d (at_:Int) p=some (cond ((p.Kind==5)&& !pl.behind) 6 (cond ((p.Kind==4)&&decide (6<=pl.scope)) 7 (cond (uJ p pl.scope) 0 8))):=by
   have aqY:∀v,sk d (at_:Int) p v=some (cond v 6 (cond ((p.Kind==4)&&decide (6<=pl.scope)) 7 (cond (uJ p pl.scope) 0 8))):=by
    intro v;unfold sk;rw[mD];simp only[bind_some,Ng];cases v<;>cases(p.Kind==4&&decide (6<=pl.scope))<;>rfl
   unfold vh;simp only[aqY];cases at_ with
   |zero=>
    replace xX:pl.behind=false:=xX;rw[xX];simp only[Bool.not_false,Bool.and_true];cases p.Kind==5<;>rfl
   |succ q=>
    have cx:q<d.Body.length:=by omega
    have ga:(((q+1:Nat):Int)==0)=false:=by rw[beq_eq_false_iff_ne];omega
    rw[ga,GM (q+1) (by omega) (by omega),show q+1-1=q from rfl,dM _ q cx];replace xX:pl.behind=(match d.Body[q]? with|some p=>p.Kind==1|none=>false):=xX;rw[getElem?_eq_getElem cx]at xX;simp only[cond_false,bind_some];simp only at xX;rw[xX];have dQ:(d.Body[q].Kind !=1)= !(d.Body[q].Kind==1):=rfl;rw[dQ];cases p.Kind==5<;>cases d.Body[q].Kind==1<;>rfl
  have qV:bm d.Body (at_:Int)=some p:=by rw[dM _ at_ aqU,Lv]
  have KJ:((p.cO.length:Int)==0)=true->uJ p pl.scope=true:=by
   intro h;have:p.cO.length=0:=by simpa using h
   unfold uJ;rw[this];rfl
  unfold sl Ft OG NP Is;rw[qV];simp only[Bg,tO,Fq,zf,bind_some,aqX,HQ,rF,aqW,kS,l0,KI _ _ (show list.length<=1048576 by omega),OH];rw[fk ((list.length:Int)-1) (by omega)];obtain⟨K,N,Nm,lk⟩:=p;simp only at*;by_cases bb:K=0
  .subst bb;simp only[Int.reduceBEq,Int.reduceLE,decide_true,decide_false,Bool.false_and,Bool.true_and,Bool.and_true,Bool.false_or,Bool.or_false,cond_true,cond_false,Bool.and_self,bind_some];cases N==0
   .exact⟨2,rfl,rfl,by decide⟩
   .cases Nm==[]
    .exact⟨2,rfl,rfl,by decide⟩
    .cases bl:((lk.length:Int)==0)
     .exact⟨2,rfl,rfl,by decide⟩
     .simp only[Bool.and_true,Bool.not_true,Bool.not_false,cond_true,cond_false,KJ bl];exact⟨0,rfl,rfl,by decide⟩
  .by_cases ad:K=1
   .subst ad;simp only[Int.reduceBEq,Int.reduceLE,decide_true,decide_false,Bool.false_and,Bool.true_and,Bool.and_true,Bool.false_or,Bool.or_false,Bool.true_or,cond_true,cond_false,Bool.and_self,bind_some];cases N==0
    .exact⟨2,rfl,rfl,by decide⟩
    .simp only[Bool.not_true,cond_false];cases aZ:(Nm==([116,97,117]:axa))
     .simp only[Bool.not_false,Bool.and_true,cond_true];cases hx Nm
      .exact⟨3,rfl,rfl,by decide⟩
      .simp only[Bool.not_true,cond_false,Bool.and_false,Bool.or_false,Bool.true_and];by_cases aS:lk.length<=2
       .have aN:decide ((2:Int)<(lk.length:Int))=false:=decide_eq_false (by omega);have aU:decide ((lk.length:Int)<=2)=true:=decide_eq_true (by omega);rw[aN,aU,Bool.or_true];cases uJ ⟨1,N,Nm,lk⟩ pl.scope
        .exact⟨8,rfl,rfl,by decide⟩
        .exact⟨0,rfl,rfl,by decide⟩
       .have aN:decide ((2:Int)<(lk.length:Int))=true:=decide_eq_true (by omega);have aU:decide ((lk.length:Int)<=2)=false:=decide_eq_false (by omega);have aR:((lk.length:Int)==0)=false:=by rw[beq_eq_false_iff_ne];omega
        rw[aN,aU,aR];exact⟨5,rfl,rfl,by decide⟩
     .rw[aqT aZ];simp only[Bool.not_true,cond_false,Bool.and_true,Bool.false_and,Bool.or_false];by_cases aS:lk.length=0
      .have aN:decide ((2:Int)<(lk.length:Int))=false:=decide_eq_false (by omega);have aU:decide ((0:Int)<(lk.length:Int))=false:=decide_eq_false (by omega);have aR:((lk.length:Int)==0)=true:=by rw[aS];rfl
       rw[aN,aU,KJ aR,aR];exact⟨0,rfl,rfl,by decide⟩
      .have aU:decide ((0:Int)<(lk.length:Int))=true:=decide_eq_true (by omega);have aR:((lk.length:Int)==0)=false:=by rw[beq_eq_false_iff_ne];omega
       rw[aU,aR,Bool.or_true];exact⟨5,rfl,rfl,by decide⟩
   .by_cases ae:K=2
    .subst ae;simp only[Int.reduceBEq,Int.reduceLE,decide_true,decide_false,Bool.false_and,Bool.true_and,Bool.and_true,Bool.false_or,Bool.or_false,cond_true,cond_false,Bool.and_self,bind_some];cases N==0
     .exact⟨2,rfl,rfl,by decide⟩
     .cases Nm==[]
      .exact⟨2,rfl,rfl,by decide⟩
      .cases bl:((lk.length:Int)==0)
       .exact⟨2,rfl,rfl,by decide⟩
       .simp only[Bool.and_true,Bool.not_true,Bool.not_false,cond_true,cond_false,KJ bl];exact⟨0,rfl,rfl,by decide⟩
    .by_cases aI:K=3
     .subst aI;simp only[Int.reduceBEq,Int.reduceLE,decide_true,decide_false,Bool.false_and,Bool.true_and,Bool.and_true,Bool.false_or,Bool.or_false,Bool.true_or,Bool.or_true,cond_true,cond_false,Bool.and_self,bind_some];cases N==0
      .exact⟨2,rfl,rfl,by decide⟩
      .cases Nm==[]
       .exact⟨2,rfl,rfl,by decide⟩
       .have dQ:((lk.length:Int) !=1)= !((lk.length:Int)==1):=rfl;rw[dQ];cases((lk.length:Int)==1)
        .exact⟨5,rfl,rfl,by decide⟩
        .cases uJ ⟨3,N,Nm,lk⟩ pl.scope
         .exact⟨8,rfl,rfl,by decide⟩
         .exact⟨0,rfl,rfl,by decide⟩
     .by_cases bc:K=4
      .subst bc;simp only[Int.reduceBEq,Int.reduceLE,decide_true,decide_false,Bool.false_and,Bool.true_and,Bool.and_true,Bool.false_or,Bool.or_false,Bool.true_or,Bool.or_true,cond_true,cond_false,Bool.and_self,bind_some];cases Nm==[]
       .exact⟨2,rfl,rfl,by decide⟩
       .cases bl:((lk.length:Int)==0)
        .exact⟨2,rfl,rfl,by decide⟩
        .rw[KJ bl];cases(decide (1<=N)&&decide (N<=7))
         .exact⟨4,rfl,rfl,by decide⟩
         .cases decide (6<=pl.scope)
          .exact⟨0,rfl,rfl,by decide⟩
          .exact⟨7,rfl,rfl,by decide⟩
      .by_cases bY:K=5
       .subst bY;simp only[Int.reduceBEq,Int.reduceLE,decide_true,decide_false,Bool.false_and,Bool.true_and,Bool.and_true,Bool.false_or,Bool.or_false,Bool.true_or,Bool.or_true,cond_true,cond_false,Bool.and_self,bind_some];cases Nm==[]
        .exact⟨2,rfl,rfl,by decide⟩
        .cases ag:(decide (0<=N)&&decide (N<=(list.length:Int)-1))
         .exact⟨4,rfl,rfl,by decide⟩
         .simp only[Bool.and_eq_true,decide_eq_true_eq]at ag;obtain⟨i,rfl⟩:∃i:Nat,N=i:=⟨N.toNat,by omega⟩
          rw[dM list i (by omega)];simp only[bind_some,Bool.not_true,cond_false];have dQ:((lk.length:Int) !=list[i].ej)= !((lk.length:Int)==list[i].ej):=rfl;rw[dQ];cases((lk.length:Int)==list[i].ej)
          .exact⟨5,rfl,rfl,by decide⟩
          .cases pl.behind
           .exact⟨6,rfl,rfl,by decide⟩
           .cases uJ ⟨5,i,Nm,lk⟩ pl.scope
            .exact⟨8,rfl,rfl,by decide⟩
            .exact⟨0,rfl,rfl,by decide⟩
       .have ga:(K==0)=false:=by simpa using bb
        have aN:(K==1)=false:=by simpa using ad
        have aU:(K==2)=false:=by simpa using ae
        have aR:(K==3)=false:=by simpa using aI
        have bW:(K==4)=false:=by simpa using bc
        have cM:(K==5)=false:=by simpa using bY
        have cg:(decide (0<=K)&&decide (K<=5))=false:=by
         rw[Bool.and_eq_false_iff,decide_eq_false_iff_not,decide_eq_false_iff_not];omega
        simp only[ga,aN,aU,aR,bW,cM,cg,Bool.false_and,cond_false,bind_some];exact⟨2,rfl,rfl,by decide⟩
 exact aqV _ ax rfl
theorem z1 {β:Type} {l:Nat->Int->Option β} {n:Nat} (p:Nat->Bool) (l8 bad:Option β) (bb:∀m,l (m+1) (n:Int)=l8)
  (aa:∀i,i<n->∀m,l (m+1) (i:Int)=cond (p i) (l m ((i+1:Nat):Int)) bad):b6 (λm=>l m 0)=cond (f_ p n) l8 bad:=by
 rw[pW (n:=n) (λi=>cond ((range' i (n-i)).all p) l8 bad)]
 .simp[f_,range_eq_range']
 .intro m;rw[bb];simp
 .intro i ag m ih;rw[aa i ag,ih,show n-i=(n-(i+1))+1 by omega,range'_succ];cases ax:p i<;>simp[ax]
def ZM (d:a6):Prop:=d.Name.length<=1048576/\d.Body.length<=1048576/\∀p∈d.Body,zZ p
def we (b:axt):Bool:=(decide (1<=b.length)&&decide (b.length<=20))&&xV b 1
theorem z6 {b:axt} (h:we b=true):e8 b 1=some b.length/\1<=b.length/\b.length<=20:=by
 simp only[we,Rp,Bool.and_eq_true,decide_eq_true_eq,beq_iff_eq]at h;exact⟨h.2,h.1.1,h.1.2⟩
def jn (d:a6) (i:Nat):du:=(gY d.Body [⟨d.ej,false⟩]).getD i ⟨0,false⟩
theorem KK (d:a6) (h:we d.Body=true) (ax:0<=d.ej/\d.ej<=3) (i:Nat) (ag:i<d.Body.length):
  vg d (i:Int)=some (jn d i).scope/\0<=(jn d i).scope/\(jn d i).scope<=29/\
   (jn d i).behind=Rt d.Body i/\
   (gY d.Body [⟨d.ej,false⟩])[i]? =some (jn d i):=by
 obtain⟨ad,ae,aI⟩:=z6 h;obtain⟨s,pl,aN,aU,aR⟩:=ZH d.Body [⟨d.ej,false⟩] d.Body.length ad i ag;have aa:s=⟨d.ej,false⟩:=by
  simp only[xW,ad]at aN;rw[if_pos ag]at aN;exact(some.inj aN).symm
 subst aa;have fA:jn d i=pl:=by unfold jn;rw[getD_eq_getElem?_getD,aU];rfl
 have ar:=ZD d.Body i;simp only at aR;refine⟨?_,?_,?_,?_,?_⟩
 .rw[aqL d (by omega) ad (by omega) i ag,fA,aR]
 .rw[fA,aR];omega
 .rw[fA,aR];omega
 .rw[fA];exact aqQ d.Body ⟨d.ej,false⟩ rfl i pl aU
 .rw[fA];exact aU
theorem aqZ (list:axu) (aC:list.length<=4) (d:a6) (al:ZM d) (ax:0<=d.ej/\d.ej<=3):
  ∃r,vj list d=some r/\Fu list d=some r/\0<=r.2/\(r.2=0->we d.Body=true):=by
 unfold vj Fu kS;rw[aqA _ al.2.1];have GN:=Zw d al.2.1 0 (zero_le _);rw[show((0:Nat):Int)=0 from rfl,drop_zero]at GN;simp only[bind_some];have nd:decide ((1:Int)<=(d.Body.length:Int))=decide (1<=d.Body.length):=decide_eq_decide.2 (by omega);have k4:decide ((d.Body.length:Int)<=20)=decide (d.Body.length<=20):=decide_eq_decide.2 (by omega);rw[nd,k4];show∃r,cond (!we d.Body) _ _=_/\_;cases aa:we d.Body
 .refine⟨(0,1),rfl,?_,by decide,λh=>by cases h⟩;cases ar:(decide (1<=d.Body.length)&&decide (d.Body.length<=20))
  .rfl
  .rw[GN];have hw:xV d.Body 1=false:=by
    unfold we at aa;rw[ar,Bool.true_and]at aa;exact aa
   have:(s5 0 (e8 d.Body 1) !=(d.Body.length:Int))=true:=by
    rw[Rp]at hw;cases he:e8 d.Body 1 with
    |none=>simp only[s5,bne_iff_ne];omega
    |some n=>
     rw[he]at hw;have dQ:n≠d.Body.length:=λe=>by simp[e]at hw
     simp only[s5,bne_iff_ne];omega
   simp only[Bool.not_true,cond_false,bind_some,this,cond_true]
 .obtain⟨ad,ae,aI⟩:=z6 aa;have ar:(decide (1<=d.Body.length)&&decide (d.Body.length<=20))=true:=by simp;omega
  have dQ:(s5 0 (some d.Body.length) !=(d.Body.length:Int))=false:=by simp[s5]
  rw[ar,GN,ad];simp only[Bool.not_true,cond_false,bind_some,dQ];rw[ZC d al.2.1 ad ax.1 (by omega)];simp only[bind_some];have key:∀i,i<=d.Body.length->∃r:Int×Int,(∀m,d.Body.length-i<m->vi list d m (i:Int)=some r)/\
    (∀m,d.Body.length-i<m->zg list d (gY d.Body [⟨d.ej,false⟩]) m (i:Int)=some r)/\0<=r.2:=by
   refine down d.Body.length ⟨(0,0),λm hm=>?_,λm hm=>?_,by decide⟩ ?_
   .obtain⟨m,rfl⟩:∃j,m=j+1:=⟨m-1,by omega⟩
    simp only[vi,E3];rw[eL (Nat.le_refl _)];rfl
   .obtain⟨m,rfl⟩:∃j,m=j+1:=⟨m-1,by omega⟩
    simp only[zg,I_];rw[eL (Nat.le_refl _)];rfl
   .rintro i ag ⟨r,ea,bf,de⟩;obtain⟨hj,gO,iJ,jN,tq⟩:=KK d aa ax i ag;obtain⟨v,v1,v2,v3⟩:=ZK list aC d i ag aI (al.2.2 _ (getElem_mem ag)) (jn d i) hj ⟨gO,iJ⟩ jN;have hg:bm (gY d.Body [⟨d.ej,false⟩]) (i:Int)=some (jn d i):=by
     unfold bm;rw[if_pos (by omega)];exact tq
    by_cases aE:v=0
    .subst aE;refine⟨r,λm hm=>?_,λm hm=>?_,de⟩
     .obtain⟨m,rfl⟩:∃j,m=j+1:=⟨m-1,by omega⟩
      simp only[vi,E3];rw[el ag,v1,d_ i _ ag (by omega),<-ea m (by omega)];rfl
     .obtain⟨m,rfl⟩:∃j,m=j+1:=⟨m-1,by omega⟩
      simp only[zg,I_];rw[el ag,dM _ i ag,hg];simp only[cond_true,bind_some,v2];rw[d_ i _ ag (by omega),<-bf m (by omega)];rfl
    .have Er:decide (0<v)=true:=decide_eq_true (by omega);have z7:(v !=0)=true:=by simpa using aE
     refine⟨((i:Int),v),λm hm=>?_,λm hm=>?_,v3⟩
     .obtain⟨m,rfl⟩:∃j,m=j+1:=⟨m-1,by omega⟩
      simp only[vi,E3];rw[el ag,v1];simp only[cond_true,bind_some,Er]
     .obtain⟨m,rfl⟩:∃j,m=j+1:=⟨m-1,by omega⟩
      simp only[zg,I_];rw[el ag,dM _ i ag,hg];simp only[cond_true,bind_some,v2,z7]
  obtain⟨r,ea,bf,de⟩:=key 0 (zero_le _);refine⟨r,fa (d.Body.length+1) λm hm=>ea m (by omega),fa (d.Body.length+1) λm hm=>bf m (by omega),de,λ_=>trivial⟩
def wg (d:a6):Bool:=decide (0<=d.ej)&&decide (d.ej<=3)
def CY (list:axu):Bool:=f_ (λi=>wg (list.getD i ⟨[],0,[]⟩)) list.length
theorem ZN {list:axu} (h:CY list=true) (i:Nat) (ag:i<list.length):0<=list[i].ej/\list[i].ej<=3:=by
 have:=oI.1 h i ag;have e:list.getD i ⟨[],0,[]⟩=list[i]:=by simp[List.getD,ag]
 rw[e]at this;simpa [wg]using this
theorem aq0 (list:axu) (aC:list.length<=1048576):I1 list=some (CY list):=by
 unfold I1 Ox Ow;rw[s3 (n:=list.length) (λi=> !wg (list.getD i ⟨[],0,[]⟩))]
 .simp only[bind_some,v7,Bool.not_not];rfl
 .intro m;simp only[Fg,Ov];rw[eL (Nat.le_refl _)];rfl
 .intro i ag m;simp only[Fg,Ov];rw[el ag,l6 _ i ⟨[],0,[]⟩ ag,d_ i _ ag (by omega)];simp only[cond_true,bind_some,Ou,kS];rfl
def pn (list:axu):Prop:=list.length<=1048576/\∀d∈list,ZM d
set_option linter.unusedSimpArgs false
theorem aq1 (x:axm) (n:Int) (an:(x.length<=9223372036854775807/\∀y∈x,A8 y)) (bb:0<=n) (aS:n<=1048576):EA x n=some (iG n (x.length+0)):=by
 unfold EA;refine ph an.1 bb aS λh=>?_;rw[fk _ (by omega)];exact vX (by omega)
theorem aq2 (x:axj) (n:Int) (an:(x.length<=9223372036854775807/\∀y∈x,(y.length<=9223372036854775807/\∀z∈y,A8 z))) (bb:0<=n) (aS:n<=1048576):Ie x n=some (iG n (fR (λx=>x.length+0) x)):=by
 unfold Ie;refine ph an.1 bb aS λh=>?_;rw[fk _ (by omega)];exact CR (f:=EA) (λx=>x.length+0) x (λ_ _ _=>rfl) (λy hy n bb aS=>aq1 y n (an.2 y hy) bb aS) (by omega) _ (by omega) (by omega)
def s7 (x:k7):Nat:=(x.Name.length+((fR (λx=>x.length+0) x.cO)+0))
theorem aq3 (x:k7) (n:Int) (an:Ev x) (bb:0<=n) (aS:n<=1048576):EB x n=some (iG n (s7 x)):=by
 unfold EB;unfold s7;obtain⟨w0,hl,jR,vc⟩:=an;refine ph jR (by omega) (by omega) λc2=>?_;rw[fk (n-(x.Name.length:Int)) (by omega)];refine uH (aq2 _ _ vc (by omega) (by omega)) λc3=>?_;exact vX (by omega)
theorem aq4 (x:axn) (n:Int) (an:(x.length<=9223372036854775807/\∀y∈x,Ev y)) (bb:0<=n) (aS:n<=1048576):Ig x n=some (iG n (fR s7 x)):=by
 unfold Ig;refine ph an.1 bb aS λh=>?_;rw[fk _ (by omega)];exact CR (f:=EB) s7 x (λ_ _ _=>rfl) (λy hy n bb aS=>aq3 y n (an.2 y hy) bb aS) (by omega) _ (by omega) (by omega)
def s8 (x:k8):Nat:=(x.Name.length+((fR s7 x.Body)+0))
theorem aq5 (x:k8) (n:Int) (an:Ew x) (bb:0<=n) (aS:n<=1048576):EC x n=some (iG n (s8 x)):=by
 unfold EC;unfold s8;obtain⟨w0,hl,jR⟩:=an;refine ph w0 (by omega) (by omega) λc0=>?_;rw[fk (n-(x.Name.length:Int)) (by omega)];refine uH (aq4 _ _ jR (by omega) (by omega)) λc2=>?_;exact vX (by omega)
theorem aq6 (x:axo) (n:Int) (an:(x.length<=9223372036854775807/\∀y∈x,Ew y)) (bb:0<=n) (aS:n<=1048576):Ih x n=some (iG n (fR s8 x)):=by
 unfold Ih;refine ph an.1 bb aS λh=>?_;rw[fk _ (by omega)];exact CR (f:=EC) s8 x (λ_ _ _=>rfl) (λy hy n bb aS=>aq5 y n (an.2 y hy) bb aS) (by omega) _ (by omega) (by omega)
theorem ZO (x:axc) (n:Int) (an:(x.length<=9223372036854775807/\∀y∈x,(-9223372036854775808<=y/\y<=9223372036854775807))) (bb:0<=n) (aS:n<=1048576):ED x n=some (iG n (x.length+0)):=by
 unfold ED;refine ph an.1 bb aS λh=>?_;rw[fk _ (by omega)];exact vX (by omega)
def s9 (x:k9):Nat:=((x.bV.length+0)+0)
theorem aq7 (x:k9) (n:Int) (an:Ex x) (bb:0<=n) (aS:n<=1048576):EE x n=some (iG n (s9 x)):=by
 unfold EE;unfold s9;obtain⟨w0,hl⟩:=an;refine uH (ZO _ _ hl (by omega) (by omega)) λcz=>?_;exact vX (by omega)
theorem aq8 (x:axp) (n:Int) (an:(x.length<=9223372036854775807/\∀y∈x,Ex y)) (bb:0<=n) (aS:n<=1048576):Ii x n=some (iG n (fR s9 x)):=by
 unfold Ii;refine ph an.1 bb aS λh=>?_;rw[fk _ (by omega)];exact CR (f:=EE) s9 x (λ_ _ _=>rfl) (λy hy n bb aS=>aq7 y n (an.2 y hy) bb aS) (by omega) _ (by omega) (by omega)
def s_ (x:kQ):Nat:=(x.Left.length+(x.cQ.length+(x.Result.length+0)))
theorem aq9 (x:kQ) (n:Int) (an:Ey x) (bb:0<=n) (aS:n<=1048576):EF x n=some (iG n (s_ x)):=by
 unfold EF;unfold s_;obtain⟨w0,hl,jR⟩:=an;refine ph w0 (by omega) (by omega) λc0=>?_;rw[fk (n-(x.Left.length:Int)) (by omega)];refine ph hl (by omega) (by omega) λcz=>?_;rw[fk ((n-(x.Left.length:Int))-(x.cQ.length:Int)) (by omega)];refine ph jR (by omega) (by omega) λc2=>?_;rw[fk (((n-(x.Left.length:Int))-(x.cQ.length:Int))-(x.Result.length:Int)) (by omega)];exact vX (by omega)
theorem aq_ (x:axq) (n:Int) (an:(x.length<=9223372036854775807/\∀y∈x,Ey y)) (bb:0<=n) (aS:n<=1048576):Ij x n=some (iG n (fR s_ x)):=by
 unfold Ij;refine ph an.1 bb aS λh=>?_;rw[fk _ (by omega)];exact CR (f:=EF) s_ x (λ_ _ _=>rfl) (λy hy n bb aS=>aq9 y n (an.2 y hy) bb aS) (by omega) _ (by omega) (by omega)
theorem ZP (x:awZ) (n:Int) (an:(x.length<=9223372036854775807/\∀y∈x,y.length<=9223372036854775807)) (bb:0<=n) (aS:n<=1048576):EG x n=some (iG n (fR length x)):=by
 unfold EG;refine ph an.1 bb aS λh=>?_;rw[fk _ (by omega)];exact ap6 x (λ_ _ _=>rfl) an.2 (by omega) _ (by omega) (by omega)
def xY (x:oy):Nat:=((fR s8 x.cq)+((fR s9 x.b_)+((fR s_ x.b2)+((fR length x.cw)+((fR length x.ct)+0)))))
theorem ara (x:oy) (n:Int) (an:Ez x) (bb:0<=n) (aS:n<=1048576):EH x n=some (iG n (xY x)):=by
 unfold EH;unfold xY;obtain⟨w0,hl,jR,vc,Rc⟩:=an;refine uH (aq6 _ _ w0 (by omega) (by omega)) λc0=>?_;refine uH (aq8 _ _ hl (by omega) (by omega)) λcz=>?_;refine uH (aq_ _ _ jR (by omega) (by omega)) λc2=>?_;refine uH (ZP _ _ vc (by omega) (by omega)) λc3=>?_;refine uH (ZP _ _ Rc (by omega) (by omega)) λc4=>?_;exact vX (by omega)
def qC (x:k_):Nat:=((x.bV.length+0)+0)
theorem arb (x:k_) (n:Int) (an:A9 x) (bb:0<=n) (aS:n<=1048576):EI x n=some (iG n (qC x)):=by
 unfold EI;unfold qC;obtain⟨w0,hl,jR⟩:=an;refine uH (ZO _ _ jR (by omega) (by omega)) λc2=>?_;exact vX (by omega)
theorem arc (x:axr) (n:Int) (an:(x.length<=9223372036854775807/\∀y∈x,A9 y)) (bb:0<=n) (aS:n<=1048576):Ik x n=some (iG n (fR qC x)):=by
 unfold Ik;refine ph an.1 bb aS λh=>?_;rw[fk _ (by omega)];exact CR (f:=EI) qC x (λ_ _ _=>rfl) (λy hy n bb aS=>arb y n (an.2 y hy) bb aS) (by omega) _ (by omega) (by omega)
def CZ (x:ja):bZ:=⟨x.Kind,x.Value⟩
theorem ard (x:ja):EJ x=some (CZ x):=by
 unfold EJ;rfl
theorem arf (x:axm) (h:(x.length+0)<=1048576):EK x=some (x.map CZ):=by
 unfold EK;have aC:x.length<=1048576:=by omega
 rw[s0 _ aC (by decide)];simp only[bind_some];rw[vY (f:=EJ) CZ x _ (λ_ _ _=>rfl) (λy hy=>ard y) aC]
theorem arh (x:axj) (h:(fR (λx=>x.length+0) x)<=1048576):Il x=some (x.map (map CZ)):=by
 unfold Il;have aC:x.length<=1048576:=Nat.le_trans (l7 _ _) h;rw[s0 _ aC (by decide)];simp only[bind_some];rw[vY (f:=EK) (map CZ) x _ (λ_ _ _=>rfl) (λy hy=>arf y (Nat.le_trans (mV (f:=(λx=>x.length+0)) hy) h)) aC]
def C0 (x:k7):cG:=⟨x.Kind,x.Number,x.Name,(x.cO.map (map CZ))⟩
def rG (x:cG):Nat:=(x.Name.length+((fR (λx=>x.length+0) x.cO)+0))
theorem ari (x:k7):rG (C0 x)=s7 x:=by
 simp only[rG,s7,C0,zP,length_map]
theorem arj (x:k7) (h:(s7 x)<=1048576):EL x=some (C0 x):=by
 unfold EL;unfold s7 at h;rw[arh _ (by omega)];rfl
theorem ark (x:axn) (h:(fR s7 x)<=1048576):Im x=some (x.map C0):=by
 unfold Im;have aC:x.length<=1048576:=Nat.le_trans (l7 _ _) h;rw[s0 _ aC (by decide)];simp only[bind_some];rw[vY (f:=EL) C0 x _ (λ_ _ _=>rfl) (λy hy=>arj y (Nat.le_trans (mV (f:=s7) hy) h)) aC]
def C1 (x:k8):a6:=⟨x.Name,x.ej,(x.Body.map C0)⟩
def uK (x:a6):Nat:=(x.Name.length+((fR rG x.Body)+0))
theorem arl (x:k8):uK (C1 x)=s8 x:=by
 simp only[uK,s8,C1,zP,length_map,ari]
theorem arn (x:k8) (h:(s8 x)<=1048576):EM x=some (C1 x):=by
 unfold EM;unfold s8 at h;rw[ark _ (by omega)];rfl
theorem aro (x:axo) (h:(fR s8 x)<=1048576):Io x=some (x.map C1):=by
 unfold Io;have aC:x.length<=1048576:=Nat.le_trans (l7 _ _) h;rw[s0 _ aC (by decide)];simp only[bind_some];rw[vY (f:=EM) C1 x _ (λ_ _ _=>rfl) (λy hy=>arn y (Nat.le_trans (mV (f:=s8) hy) h)) aC]
theorem ZQ (x:axc) (h:(x.length+0)<=1048576):EN x=some x:=by
 unfold EN;have aC:x.length<=1048576:=by omega
 rw[s0 _ aC (by decide)];simp only[bind_some];rw[vY (f:=some) id x _ (λ_ _ _=>rfl) (λ_ _=>rfl) aC,List.map_id]
def C2 (x:k9):di:=⟨x.cD,x.bV⟩
def rH (x:di):Nat:=((x.bV.length+0)+0)
theorem arp (x:k9):rH (C2 x)=s9 x:=by
 simp only[rH,s9,C2,zP,length_map]
theorem arq (x:k9) (h:(s9 x)<=1048576):EO x=some (C2 x):=by
 unfold EO;unfold s9 at h;rw[ZQ _ (by omega)];rfl
theorem ars (x:axp) (h:(fR s9 x)<=1048576):Ip x=some (x.map C2):=by
 unfold Ip;have aC:x.length<=1048576:=Nat.le_trans (l7 _ _) h;rw[s0 _ aC (by decide)];simp only[bind_some];rw[vY (f:=EO) C2 x _ (λ_ _ _=>rfl) (λy hy=>arq y (Nat.le_trans (mV (f:=s9) hy) h)) aC]
def C3 (x:kQ):b5:=⟨x.Left,x.cQ,x.Result⟩
def rI (x:b5):Nat:=(x.Left.length+(x.cQ.length+(x.Result.length+0)))
theorem art (x:kQ):rI (C3 x)=s_ x:=by
 simp only[rI,s_,C3,zP,length_map]
theorem aru (x:kQ) (h:(s_ x)<=1048576):EP x=some (C3 x):=by
 unfold EP;unfold s_ at h;rfl
theorem arv (x:axq) (h:(fR s_ x)<=1048576):Iq x=some (x.map C3):=by
 unfold Iq;have aC:x.length<=1048576:=Nat.le_trans (l7 _ _) h;rw[s0 _ aC (by decide)];simp only[bind_some];rw[vY (f:=EP) C3 x _ (λ_ _ _=>rfl) (λy hy=>aru y (Nat.le_trans (mV (f:=s_) hy) h)) aC]
theorem ZR (x:awZ) (h:(fR length x)<=1048576):ER x=some x:=by
 unfold ER;have aC:x.length<=1048576:=Nat.le_trans (l7 _ _) h;rw[s0 _ aC (by decide)];simp only[bind_some];rw[vY (f:=some) id x _ (λ_ _ _=>rfl) (λ_ _=>rfl) aC,List.map_id]
def xZ (x:oy):cJ:=⟨(x.cq.map C1),(x.b_.map C2),(x.b2.map C3),x.cw,x.ct⟩
def z8 (x:cJ):Nat:=((fR uK x.cq)+((fR rH x.b_)+((fR rI x.b2)+((fR length x.cw)+((fR length x.ct)+0)))))
theorem arw (x:oy):z8 (xZ x)=xY x:=by
 simp only[z8,xY,xZ,zP,length_map,arl,arp,art]
theorem arx (x:oy) (h:(xY x)<=1048576):yV x=some (xZ x):=by
 unfold yV;unfold xY at h;rw[aro _ (by omega),ars _ (by omega),arv _ (by omega),ZR _ (by omega),ZR _ (by omega)];rfl
def wh (x:k_):bd:=⟨x.cD,x.Part,x.bV⟩
def rJ (x:bd):Nat:=((x.bV.length+0)+0)
theorem ary (x:k_):rJ (wh x)=qC x:=by
 simp only[rJ,qC,wh,zP,length_map]
theorem arz (x:k_) (h:(qC x)<=1048576):ES x=some (wh x):=by
 unfold ES;unfold qC at h;rw[ZQ _ (by omega)];rfl
theorem arA (x:axr) (h:(fR qC x)<=1048576):A_ x=some (x.map wh):=by
 unfold A_;have aC:x.length<=1048576:=Nat.le_trans (l7 _ _) h;rw[s0 _ aC (by decide)];simp only[bind_some];rw[vY (f:=ES) wh x _ (λ_ _ _=>rfl) (λy hy=>arz y (Nat.le_trans (mV (f:=qC) hy) h)) aC]
theorem arB (x:bZ):FM x x=some true:=by
 unfold FM;simp only[xT,xU,zR,cond_false,bind_some,Bool.not_true]
theorem arC (x:axs) (h:(x.length+0)<=1048576):FN x x=some true:=by
 unfold FN;have aC:x.length<=1048576:=by omega
 rw[vZ,cond_false];exact zQ (f:=FM) x (λ_ _=>rfl) (λy hy=>arB y) aC
theorem arD (x:axk) (h:(fR (λx=>x.length+0) x)<=1048576):JD x x=some true:=by
 unfold JD;have aC:x.length<=1048576:=Nat.le_trans (l7 _ _) h;rw[vZ,cond_false];exact zQ (f:=FN) x (λ_ _=>rfl) (λy hy=>arC y (Nat.le_trans (mV (f:=(λx=>x.length+0)) hy) h)) aC
theorem arE (x:cG) (h:(rG x)<=1048576):FO x x=some true:=by
 unfold FO;unfold rG at h;simp only[xT,xU,zR,cond_false,bind_some,Bool.not_true,arD x.cO (by omega)]
theorem arF (x:axt) (h:(fR rG x)<=1048576):JE x x=some true:=by
 unfold JE;have aC:x.length<=1048576:=Nat.le_trans (l7 _ _) h;rw[vZ,cond_false];exact zQ (f:=FO) x (λ_ _=>rfl) (λy hy=>arE y (Nat.le_trans (mV (f:=rG) hy) h)) aC
theorem arG (x:a6) (h:(uK x)<=1048576):FP x x=some true:=by
 unfold FP;unfold uK at h;simp only[xT,xU,zR,cond_false,bind_some,Bool.not_true,arF x.Body (by omega)]
theorem arH (x:axu) (h:(fR uK x)<=1048576):JF x x=some true:=by
 unfold JF;have aC:x.length<=1048576:=Nat.le_trans (l7 _ _) h;rw[vZ,cond_false];exact zQ (f:=FP) x (λ_ _=>rfl) (λy hy=>arG y (Nat.le_trans (mV (f:=uK) hy) h)) aC
theorem ZS (x:axc) (h:(x.length+0)<=1048576):FQ x x=some true:=by
 unfold FQ;have aC:x.length<=1048576:=by omega
 rw[vZ,cond_false];exact YX x (λ_ _=>rfl) xT aC
theorem arI (x:di) (h:(rH x)<=1048576):FR x x=some true:=by
 unfold FR;unfold rH at h;simp only[xT,xU,zR,cond_false,bind_some,Bool.not_true,ZS x.bV (by omega)]
theorem arJ (x:axv) (h:(fR rH x)<=1048576):JG x x=some true:=by
 unfold JG;have aC:x.length<=1048576:=Nat.le_trans (l7 _ _) h;rw[vZ,cond_false];exact zQ (f:=FR) x (λ_ _=>rfl) (λy hy=>arI y (Nat.le_trans (mV (f:=rH) hy) h)) aC
theorem arK (x:b5) (h:(rI x)<=1048576):FT x x=some true:=by
 unfold FT;unfold rI at h;simp only[xT,xU,zR,cond_false,bind_some,Bool.not_true]
theorem arL (x:axw) (h:(fR rI x)<=1048576):JH x x=some true:=by
 unfold JH;have aC:x.length<=1048576:=Nat.le_trans (l7 _ _) h;rw[vZ,cond_false];exact zQ (f:=FT) x (λ_ _=>rfl) (λy hy=>arK y (Nat.le_trans (mV (f:=rI) hy) h)) aC
theorem ZT (x:awZ) (h:(fR length x)<=1048576):FU x x=some true:=by
 unfold FU;have aC:x.length<=1048576:=Nat.le_trans (l7 _ _) h;rw[vZ,cond_false];exact YX x (λ_ _=>rfl) xU aC
theorem arM (x:cJ) (h:(z8 x)<=1048576):FV x x=some true:=by
 unfold FV;unfold z8 at h;simp only[xT,xU,zR,cond_false,bind_some,Bool.not_true,arH x.cq (by omega),arJ x.b_ (by omega),arL x.b2 (by omega),ZT x.cw (by omega),ZT x.ct (by omega)]
theorem arN (x:bd) (h:(rJ x)<=1048576):FW x x=some true:=by
 unfold FW;unfold rJ at h;simp only[xT,xU,zR,cond_false,bind_some,Bool.not_true,ZS x.bV (by omega)]
theorem arO (x:axx) (h:(fR rJ x)<=1048576):JI x x=some true:=by
 unfold JI;have aC:x.length<=1048576:=Nat.le_trans (l7 _ _) h;rw[vZ,cond_false];exact zQ (f:=FW) x (λ_ _=>rfl) (λy hy=>arN y (Nat.le_trans (mV (f:=rJ) hy) h)) aC
theorem arP {list:axu} (h:fR uK list<=1048576):pn list:=by
 refine⟨Nat.le_trans (l7 _ _) h,λd al=>?_⟩;have ad:=Nat.le_trans (mV (f:=uK) al) h;unfold uK at ad;refine⟨by omega,Nat.le_trans (l7 rG _) (by omega),λp ax=>?_⟩;have bb:rG p<=fR rG d.Body:=mV ax;have ae:rG p<=1048576:=by omega
 clear bb;unfold rG at ae;have aI:=l7 (λx:List bZ=>x.length+0) p.cO;refine⟨by omega,by omega,λe he=>?_⟩;have bc:e.length+0<=_:=mV (f:=λx:List bZ=>x.length+0) he;omega
def mv (e:axu) (i:Nat):axa:=(e.getD i ⟨[],0,[]⟩).Name
theorem wi {e:axu} {i:Nat} (ag:i<e.length):e.getD i ⟨[],0,[]⟩=e[i]:=by simp[List.getD,ag]
def ta (e:axu) (i:Nat):Bool:=f_ (λj=> !(mv e j==mv e i)) i
noncomputable def rK (e:axu) (i:Nat):Bool:=match vj e (e.getD i ⟨[],0,[]⟩)with
 |some r=>r.2==0
 |none=>false
noncomputable def lM (e:axu):Bool:=((decide (1<=e.length)&&decide (e.length<=4))&&f_ (λi=>(hx (mv e i)&&wg (e.getD i ⟨[],0,[]⟩))&&ta e i) e.length)&&f_ (rK e) e.length
theorem Rv {e:axu} (h:pn e) (bc:e.length<=4) (ax:CY e=true) {i:Nat} (ag:i<e.length):
  ∃r,vj e e[i]=some r/\Fu e e[i]=some r/\decide (0<r.2)= !(rK e i)/\(r.2 !=0)= !(rK e i)/\(rK e i=true->we e[i].Body=true/\r.2=0):=by
 obtain⟨r,ea,bf,de,bR⟩:=aqZ e bc e[i] (h.2 _ (getElem_mem ag)) (ZN ax i ag);have ab:rK e i=(r.2==0):=by unfold rK;rw[wi ag,ea]
 refine⟨r,ea,bf,?_,?_,λlQ=>?_⟩
 .rw[ab];by_cases bb:r.2=0
  .rw[bb];rfl
  .have aN:(r.2==0)=false:=by simpa using bb
   rw[aN];exact decide_eq_true (by omega)
 .rw[ab];rfl
 .rw[ab]at lQ;have bb:r.2=0:=by simpa using lQ
  exact⟨bR bb,bb⟩
theorem wj {p q:Nat->Bool} {n:Nat}:f_ (λi=>p i&&q i) n=(f_ p n&&f_ q n):=by
 rw[Bool.eq_iff_iff,Bool.and_eq_true,oI,oI,oI];constructor
 .intro h;exact⟨λi ag=>((Bool.and_eq_true _ _).mp (h i ag)).1,λi ag=>((Bool.and_eq_true _ _).mp (h i ag)).2⟩
 .rintro⟨ad,ae⟩ i ag;rw[ad i ag,ae i ag];rfl
theorem arQ (e:axu) (h:pn e):Iw e=some (lM e):=by
 unfold Iw lM;by_cases aC:1<=e.length/\e.length<=4
 .have d1:(((e.length:Int)==0)||decide ((4:Int)<(e.length:Int)))=false:=by
   rw[Bool.or_eq_false_iff,beq_eq_false_iff_ne,decide_eq_false_iff_not];omega
  have d2:(decide (1<=e.length)&&decide (e.length<=4))=true:=by simp;omega
  rw[d1,d2,cond_false,Bool.true_and];rw[z1 (l:=λm i=>vk e m i) (n:=e.length) (λi=>(hx (mv e i)&&wg (e.getD i ⟨[],0,[]⟩))&&ta e i) (b6 λn=>yX e n 0) (some false)]
  .cases bl:f_ (λi=>(hx (mv e i)&&wg (e.getD i ⟨[],0,[]⟩))&&ta e i) e.length
   .rfl
   .have ax:CY e=true:=by
     rw[wj,wj,Bool.and_eq_true,Bool.and_eq_true]at bl;exact bl.1.2
    rw[cond_true,Bool.true_and];rw[z1 (l:=λm i=>yX e m i) (n:=e.length) (rK e) (some true) (some false)]
    .cases f_ (rK e) e.length<;>rfl
    .intro m;simp only[yX,NW];rw[eL (Nat.le_refl _)];rfl
    .intro i ag m;obtain⟨r,ea,_,de,_⟩:=Rv h aC.2 ax ag;simp only[yX,NW];rw[el ag,dM _ i ag,d_ i _ ag (by omega)];simp only[cond_true,bind_some,ea,de];cases rK e i<;>rfl
  .intro m;simp only[vk,NX];rw[eL (Nat.le_refl _)];rfl
  .intro i ag m;simp only[vk,NX];rw[el ag,dM _ i ag];simp only[cond_true,bind_some,CT,l0];rw[z1 (l:=λjs j=>Bh (vk e m) e js (i:Int) j) (n:=i) (λj=> !(mv e j==mv e i)) (vk e m ((i+1:Nat):Int)) (some false)]
   .have aN:mv e i=e[i].Name:=by unfold mv;rw[wi ag]
    rw[<-aN,wi ag];show cond (!hx (mv e i)) _ (cond (!wg e[i]) _ (cond (ta e i) _ _))=_;cases hx (mv e i)<;>cases wg e[i]<;>cases ta e i<;>rfl
   .intro js;simp only[Bh,NU];rw[eL (Nat.le_refl _),d_ i _ ag (by omega)];rfl
   .intro j bE js;have KL:j<e.length:=by omega
    simp only[Bh,NU];rw[el bE,dM _ j KL,dM _ i ag,d_ j _ bE (by omega)];simp only[cond_true,bind_some,mv,wi ag,wi KL];cases e[j].Name==e[i].Name<;>rfl
 .have d1:(((e.length:Int)==0)||decide ((4:Int)<(e.length:Int)))=true:=by
   by_cases bb:e.length=0
   .simp[bb]
   .have:decide ((4:Int)<(e.length:Int))=true:=decide_eq_true (by omega);rw[this,Bool.or_true]
  have d2:(decide (1<=e.length)&&decide (e.length<=4))=false:=by
   rw[Bool.and_eq_false_iff,decide_eq_false_iff_not,decide_eq_false_iff_not];omega
  rw[d1,d2];rfl
theorem arR (e:axu) (i:Nat) (ag:i<e.length) (bc:e.length<=4):((gC e 0 (i:Int)).bind λbo=>(I3 bo e[i].Name).bind λbD=>some (decide (0<=bD)))=some (!(ta e i)):=by
 rw[vW e i (by omega)];simp only[bind_some];unfold I3 OB;have hlen:(e.take i).length=i:=by rw[length_take];omega
 rw[s3 (n:=i) (λj=>mv e j==mv e i)]
 .simp only[bind_some,v7];rfl
 .intro m;simp only[Fi,OA];rw[hlen,eL (Nat.le_refl _)];rfl
 .intro j bE m;have KL:j<e.length:=by omega
  simp only[Fi,OA];rw[hlen,el bE,dM _ j (by omega),d_ j _ bE (by omega)];have:(e.take i)[j]'(by omega)=e[j]:=by simp
  simp only[cond_true,bind_some,Oz,this,mv,wi ag,wi KL]
theorem arS (e:axu) (h:pn e):Ja e=some (lM e):=by
 unfold Ja kS lM;have nd:decide ((1:Int)<=(e.length:Int))=decide (1<=e.length):=decide_eq_decide.2 (by omega);have k4:decide ((e.length:Int)<=4)=decide (e.length<=4):=decide_eq_decide.2 (by omega);simp only[bind_some];rw[nd,k4];cases aC:(decide (1<=e.length)&&decide (e.length<=4))
 .rfl
 .have ZU:1<=e.length/\e.length<=4:=by simpa using aC
  rw[aq0 e h.1];simp only[Bool.not_true,cond_false,bind_some,Bool.true_and];have arT:f_ (λi=>(hx (mv e i)&&wg (e.getD i ⟨[],0,[]⟩))&&ta e i) e.length=((f_ (λi=>hx (mv e i)) e.length&&CY e)&&f_ (ta e) e.length):=by
   rw[wj,wj];rfl
  rw[arT];cases ax:CY e
  .simp
  .simp only[Bool.not_true,cond_false,Bool.and_true];rw[z1 (l:=λm i=>BV e m i) (n:=e.length) (λi=>(hx (mv e i)&&ta e i)&&rK e i) (some true) (some false)]
   .rw[wj,wj];cases((f_ (λi=>hx (mv e i)) e.length&&f_ (λi=>ta e i) e.length)&&f_ (λi=>rK e i) e.length)<;>rfl
   .intro m;simp only[BV,OM];rw[eL (Nat.le_refl _)];rfl
   .intro i ag m;obtain⟨r,_,bf,_,bR,_⟩:=Rv h ZU.2 ax ag;have aS:=arR e i ag ZU.2;have Rw:=(h.2 _ (getElem_mem ag)).1;simp only[BV,OM];rw[el ag,dM _ i ag,d_ i _ ag (by omega)];simp only[cond_true,bind_some,Zn _ (show e[i].Name.length<=140737488355328 by omega),mv,wi ag];cases hx e[i].Name
    .rfl
    .simp only[Bool.not_true,cond_false,Bool.true_and];rw[vW e i (by omega)]at aS⊢;simp only[bind_some]at aS⊢;obtain⟨v,aE,z7⟩:=ao aS;rw[aE];simp only[some.injEq]at z7;simp only[bind_some,z7,bf,bR];cases ta e i<;>cases rK e i<;>rfl
theorem C4 {e:axu} (h:pn e) (aE:lM e=true):1<=e.length/\e.length<=4/\∀i (ag:i<e.length),(0<=e[i].ej/\e[i].ej<=3)/\we e[i].Body=true/\hx e[i].Name=true/\
  ∃r,vj e e[i]=some r/\r.2=0:=by
 unfold lM at aE;rw[Bool.and_eq_true,Bool.and_eq_true,Bool.and_eq_true,decide_eq_true_eq,decide_eq_true_eq,wj,wj,Bool.and_eq_true,Bool.and_eq_true]at aE;obtain⟨⟨⟨ad,ae⟩,⟨aI,bc⟩,bY⟩,dt⟩:=aE;refine⟨ad,ae,λi ag=>?_⟩;obtain⟨r,ea,_,_,_,df⟩:=Rv h ae bc ag;obtain⟨s1,s2⟩:=df (oI.1 dt i ag);have aS:=oI.1 aI i ag;rw[mv,wi ag]at aS;exact⟨ZN bc i ag,s1,aS,r,ea,s2⟩
theorem ZV {e:axu} (h:pn e) (aE:lM e=true) {i j:Nat} (ag:i<e.length) (bE:j<e[i].Body.length):
  vg e[i] (j:Int)=some (jn e[i] j).scope/\∃ps,BT e[i]=some ps/\bm ps (j:Int)=some (jn e[i] j):=by
 obtain⟨_,_,al⟩:=C4 h aE;obtain⟨ax,aa,_⟩:=al i ag;obtain⟨s1,s2,r7⟩:=z6 aa;have ab:=(h.2 _ (getElem_mem ag)).2.1;obtain⟨hj,_,_,_,tq⟩:=KK e[i] aa ax j bE;exact⟨hj,_,ZC e[i] ab s1 ax.1 (by omega),by unfold bm;rw[if_pos (by omega)];exact tq⟩
end Go.lZ
