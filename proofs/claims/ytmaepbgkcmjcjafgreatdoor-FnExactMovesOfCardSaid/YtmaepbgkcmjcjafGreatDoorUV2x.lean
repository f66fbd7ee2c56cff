/- Part of a proof that a law returns true for every input. No condition. -/
import Derived.Test.YtmaepbgkcmjcjafGreatDoorUV1x
namespace Go.kX
open Option Go.IntKind Nat
open Go Go.eg
theorem aaM (d:bb) (an:d.Body.length<=1048576):∀(n at_ k:Nat) (s:dM) (out:ayC),out.length=d.Body.length->fm (d.Body.drop at_) 1=some k->k<=n->0<=s.scope->s.scope+k<=1000000->
  zs n (at_:Int) s out d=some (((at_+k:Nat):Int),patch out at_ (gZ (d.Body.drop at_) [s]))
 |0,at_,k,s,out,bI,he,au,a_,ad=>by have:=u0 he;omega
 |n+1,at_,k,s,out,bI,he,au,a_,ad=>by
  have l:=u0 he;rw[List.length_drop]at l;have aj:at_<d.Body.length:=by omega
  rw[drop_cons _ at_ aj]at he⊢;obtain⟨di,qn,rfl⟩:=rW.1 he;simp only[Nat.zero_add]at qn;have bD:=Dp d.Body[at_];have asR:=aaL (n:=n) an (aaM d an n) (below d.Body[at_] s).scope d.Body[at_] (eM d.Body[at_]) bD (eM d.Body[at_]) 0 (at_+1) di (patch out at_ [s]);have hlen:(gZ (d.Body.drop (at_+1)) (List.replicate (eM d.Body[at_]) (below d.Body[at_] s)++[])).length=di:=by
   rw[List.append_nil];exact Am (by rw[List.length_replicate];exact qn)
  have asS:(at_+1+di:Nat)=at_+(di+1):=by omega
  have aa:0<=(below d.Body[at_] s).scope/\(below d.Body[at_] s).scope+di<=1000000:=by
   unfold below;simp only;split<;>omega
  have key:(bZ λm=>zr (zs n) d (below d.Body[at_] s).scope d.Body[at_] ((eM d.Body[at_]:Nat):Int) m (List.set out (Int.toNat (at_:Int)) s) (i64.wrap ((at_:Int)+1)) 0)=
    some (((at_+(di+1):Nat):Int),patch out at_ (gZ (d.Body[at_]::d.Body.drop (at_+1)) [s])):=by
   refine fb (eM d.Body[at_]+1) λm hm=>?_;rw[Int.toNat_natCast,asN (by omega),eo at_ _ aj (by omega)];have h:=asR m (by omega) (by omega) (by rw[aaJ (by simp;omega),bI]) qn (by omega) aa.1 aa.2;rw[show((0:Nat):Int)=0 from rfl]at h;rw[h,asS];congr 2;have asT:(gZ (d.Body.drop (at_+1)) (List.replicate (eM d.Body[at_]) ⟨(below d.Body[at_] s).scope,d.Body[at_].Kind==1⟩)).length=di:=Am (by rw[List.length_replicate];exact qn);rw[aaK (i:=at_) (a:=[s]) (j:=at_+1) rfl (by rw[asT,List.length_singleton];omega)];simp only[gZ,List.append_nil,List.singleton_append];rfl
  simp only[zs,Pu];rw[dV out at_ (by omega),dV _ at_ aj];simp only[bind_some,JN,aaF];by_cases bf:d.Body[at_].Kind=4
  .have e:(d.Body[at_].Kind==4)=true:=by simpa using bf
   have aY:(below d.Body[at_] s).scope=s.scope+1:=by simp[below,bf]
   rw[e,cond_true,asO s.scope a_ (by omega),<-aY];exact key
  .have e:(d.Body[at_].Kind==4)=false:=by simpa using bf
   have aY:(below d.Body[at_] s).scope=s.scope:=by simp[below,bf]
   rw[e,cond_false];conv=>lhs;rw[show s.scope=(below d.Body[at_] s).scope from aY.symm]
   exact key
theorem aaN (d:bb) (an:d.Body.length<=1048576) (ab:fm d.Body 1=some d.Body.length) (a_:0<=d.dP) (ad:d.dP+d.Body.length<=1000000):
  Cc d=some (gZ d.Body [⟨d.dP,false⟩]):=by
 unfold Cc;rw[te 16 an (by decide)];simp only[bind_some];have hlen:(gZ d.Body [⟨d.dP,false⟩]).length=d.Body.length:=Am (st:=[_]) ab;have:JO 0 ⟨d.dP,false⟩ (List.replicate (Int.toNat (d.Body.length:Int)) ⟨0,false⟩) d=some ((d.Body.length:Int),gZ d.Body [⟨d.dP,false⟩]):=by
  unfold JO;refine fb d.Body.length λm hm=>?_;have:=aaM d an m 0 d.Body.length ⟨d.dP,false⟩ (List.replicate (Int.toNat (d.Body.length:Int)) ⟨0,false⟩) (by simp) (by simpa using ab) hm a_ ad;rw[show((0:Nat):Int)=0 from rfl]at this;rw[this,Nat.zero_add,List.drop_zero];congr 2;unfold patch;rw[Nat.zero_add,hlen,List.drop_of_length_le (by simp)];simp
 rw[this];rfl
def SE (l:ayv) (q:Nat):Bool:=match fm l 1 with
 |some e=>decide (q<e)
 |none=>false
def p8:ayv->Nat->Nat
 |[],_=>0
 |_::_,0=>0
 |p::r,q+1=>(if p.Kind=4/\SE (p::r) (q+1)=true then 1 else 0)+p8 r q
theorem asU (l:ayv):p8 l 0=0:=by cases l<;>rfl
theorem aaO:∀(l:ayv) (q:Nat),p8 l q<=q
 |[],q=>by simp[p8]
 |_::_,0=>by simp[p8]
 |p::r,q+1=>by
  have:=aaO r q;simp only[p8];split<;>omega
theorem asV (d:bb) (an:d.Body.length<=1048576) (ab:fm d.Body 1=some d.Body.length) (a_: -1000000<=d.dP/\d.dP<=1000000) (q:Nat) (cy:q<d.Body.length):
  vy d (q:Int)=some (d.dP+(p8 d.Body q:Nat)):=by
 unfold vy;have key:∀i,i<=q->∀(c:Int) m,-1000000<=c->c<=1000000+i->q-i<m->zb d (q:Int) m c (i:Int)=some (c+(p8 (d.Body.drop i) (q-i):Nat)):=by
  refine down q ?_ ?_
  .intro c m _ _ hm;obtain⟨m,rfl⟩:∃j,m=j+1:=⟨m-1,by omega⟩
   simp only[zb,OI];rw[eb (Nat.le_refl _),Nat.sub_self,asU];simp
  .intro i aj ih c m nj lf hm;obtain⟨m,rfl⟩:∃j,m=j+1:=⟨m-1,by omega⟩
   simp only[zb,OI];have wC:i<d.Body.length:=by omega
   rw[ey aj,dV _ i wC];simp only[cond_true,bind_some,Fz];obtain⟨e,EB,Va,A7⟩:=asJ ab wC;rw[aaI _ an i e EB,eo i q aj (by omega)];simp only[bind_some];have asW:p8 (d.Body.drop i) (q-i)=(if d.Body[i].Kind=4/\q<i+e then 1 else 0)+p8 (d.Body.drop (i+1)) (q-(i+1)):=by
    have aaP:=EB;rw[drop_cons _ i wC]at aaP⊢;rw[show q-i=(q-(i+1))+1 by omega];simp only[p8,SE,aaP];congr 1;by_cases au:d.Body[i].Kind=4
    .by_cases wF:q<i+e
     .rw[if_pos ⟨au,by simp;omega⟩,if_pos ⟨au,wF⟩]
     .rw[if_neg (λh=>by simp at h;omega),if_neg (λh=>wF h.2)]
    .rw[if_neg (λh=>au h.1),if_neg (λh=>au h.1)]
   rw[asW];by_cases au:d.Body[i].Kind=4
   .have ti:(d.Body[i].Kind==4)=true:=by simpa using au
    rw[ti,cond_true];by_cases wF:q<i+e
    .rw[ey wF,cond_true,ew (c+1) (by omega),ih (c+1) m (by omega) (by omega) (by omega),if_pos ⟨au,wF⟩];congr 1;omega
    .rw[eb (by omega),cond_false,ih c m nj (by omega) (by omega),if_neg (λh=>wF h.2)];congr 1;omega
   .have ti:(d.Body[i].Kind==4)=false:=by simpa using au
    rw[ti,cond_false,ih c m nj (by omega) (by omega),if_neg (λh=>au h.1)];congr 1;omega
 refine fb (q+1) λm hm=>?_;have:=key 0 (by omega) d.dP m (by omega) (by omega) (by omega);simpa using this
def yg:ayv->ayC->Nat->Option dM
 |_,[],_=>none
 |l,s::st,q=>match fm l 1 with
  |none=>none
  |some k=>if q<k then some s else yg (l.drop k) st (q-k)
theorem aaQ:∀(f:Nat) (r:ayv) (b:dM) (st:ayC) (k q:Nat),fm r f=some k->yg r (List.replicate f b++st) q=if q<k then some b else yg (r.drop k) st (q-k)
 |0,r,b,st,k,q,h=>by rw[Al]at h;cases h;simp
 |f+1,r,b,st,k,q,h=>by
  rw[Nat.add_comm f 1]at h;obtain⟨bS,ct,ad,af,rfl⟩:=Dq h;rw[List.replicate_succ,List.cons_append];simp only[yg,ad];by_cases cy:q<bS
  .rw[if_pos cy,if_pos (by omega)]
  .rw[if_neg cy,aaQ f _ b st ct (q-bS) af];by_cases aaR:q-bS<ct
   .rw[if_pos aaR,if_pos (by omega)]
   .rw[if_neg aaR,if_neg (by omega),List.drop_drop,Nat.sub_sub]
theorem aaS:∀(l:ayv) (st:ayC) (k:Nat),fm l st.length=some k->∀q,q<k->∃s pl,yg l st q=some s/\(gZ l st)[q]? =some pl/\pl.scope=s.scope+(p8 l q:Nat)
 |[],[],k,h,q,cy=>by simp only[List.length_nil,fm,some.injEq]at h;omega
 |[],s::st,k,h,q,cy=>by simp[fm]at h
 |p::r,[],k,h,q,cy=>by simp only[List.length_nil,fm,some.injEq]at h;omega
 |p::r,s::st,k,h,q,cy=>by
  have a_:=h;obtain⟨di,bC,rfl⟩:=rW.1 h;rw[List.length_cons,Nat.add_comm st.length 1]at a_;obtain⟨e,ct,he,o8,au⟩:=Dq a_;obtain⟨hp,qn,rfl⟩:=rW.1 he;simp only[Nat.zero_add]at qn;cases q with
  |zero=>
   refine⟨s,s,?_,rfl,?_⟩
   .simp only[yg,he];rw[if_pos (by omega)]
   .simp[p8]
  |succ q=>
   have hl:fm r (List.replicate (eM p) (below p s)++st).length=some di:=by
    rw[List.length_append,List.length_replicate,Nat.add_comm];exact bC
   obtain⟨aH,pl,ad,af,aG⟩:=aaS r _ di hl q (by omega);rw[aaQ _ _ _ _ hp q qn]at ad;simp only[gZ,List.getElem?_cons_succ,yg,he,p8,SE,decide_eq_true_eq];by_cases wF:q<hp
   .rw[if_pos wF]at ad;simp only[some.injEq]at ad;subst ad;refine⟨s,pl,by rw[if_pos (by omega)],af,?_⟩;rw[aG];by_cases Lo:p.Kind=4
    .rw[if_pos ⟨Lo,by omega⟩];simp only[below,if_pos Lo];omega
    .rw[if_neg (λh=>Lo h.1)];simp only[below,if_neg Lo];omega
   .rw[if_neg wF]at ad;refine⟨aH,pl,?_,af,?_⟩
    .rw[if_neg (by omega),List.drop_succ_cons,show q+1-(hp+1)=q-hp by omega];exact ad
    .rw[aG,if_neg (λh=>by omega)];omega
theorem asX {p:b1} (h:eM p=0):(p.Kind==1)=false:=by
 unfold eM at h;split at h
 .omega
 .rename_i aV;simp only[beq_eq_false_iff_ne];exact λe=>aV (.inl e)
theorem asY {p:b1} (h:eM p=2):(p.Kind==1)=false:=by
 unfold eM at h;split at h
 .omega
 .rename_i aV;simp only[beq_eq_false_iff_ne];exact λe=>aV (.inl e)
def SF (b:ayv):Nat->Bool
 |0=>false
 |q+1=>match b[q]? with
  |some p=>p.Kind==1
  |none=>false
theorem aaT:∀(l:ayv) (st:ayC),(∀s∈st.tail,s.behind=false)->∀(q:Nat) (pl:dM),(gZ l st)[q]? =some pl->
  pl.behind=match q with
   |0=>match st with
    |s::_=>s.behind
    |[]=>false
   |q+1=>match l[q]? with
    |some p=>p.Kind==1
    |none=>false
 |[],st,_,q,pl,h=>by simp[gZ]at h
 |p::r,[],_,q,pl,h=>by simp[gZ]at h
 |p::r,s::st,Dr,q,pl,h=>by
  cases q with
  |zero=>simp only[gZ,List.getElem?_cons_zero,some.injEq]at h;subst h;rfl
  |succ q=>
   simp only[gZ,List.getElem?_cons_succ]at h;have asZ:∀aH∈(List.replicate (eM p) (below p s)++st).tail,aH.behind=false:=by
    intro aH fX;have bD:=Dp p;rcases(by omega:eM p=0\/eM p=1\/eM p=2)with bD|bD|bD
    .rw[bD]at fX;simp only[List.replicate_zero,List.nil_append]at fX;exact Dr aH (by simpa using List.mem_of_mem_tail fX)
    .rw[bD]at fX;simp only[List.replicate_succ,List.replicate_zero,List.cons_append,List.nil_append,List.tail_cons]at fX;exact Dr aH (by simpa using fX)
    .rw[bD]at fX;simp only[List.replicate_succ,List.replicate_zero,List.cons_append,List.nil_append,List.tail_cons,List.mem_cons]at fX;rcases fX with rfl|fX
     .exact asY bD
     .exact Dr aH (by simpa using fX)
   have ih:=aaT r _ asZ q pl h;rw[ih];cases q with
   |succ q=>rfl
   |zero=>
    simp only[List.getElem?_cons_zero];have bD:=Dp p;rcases(by omega:eM p=0\/eM p=1\/eM p=2)with bD|bD|bD
    .rw[bD,asX bD];simp only[List.replicate_zero,List.nil_append];cases st with
     |nil=>rfl
     |cons s2 st=>exact Dr s2 (by simp)
    .rw[bD];rfl
    .rw[bD];rfl
theorem as0 (l:ayv) (s:dM) (ab:s.behind=false) (q:Nat) (pl:dM) (h:(gZ l [s])[q]? =some pl):pl.behind=SF l q:=by
 rw[aaT l [s] (λs ab=>by simp at ab) q pl h];cases q with
 |zero=>exact ab
 |succ q=>rfl
theorem as1 {l:Nat->Int->ayh} {n:Nat} (p:Nat->Bool) (mf bad:Int) (a_:∀m,l (m+1) (n:Int)=some mf)
  (ab:∀i,i<n->∀m,l (m+1) (i:Int)=cond (p i) (l m ((i+1:Nat):Int)) (some bad)):bZ (λm=>l m 0)=some (cond (fZ p n) mf bad):=by
 rw[p7 (n:=n) (λi=>some (cond ((List.range' i (n-i)).all p) mf bad))]
 .simp[fZ,List.range_eq_range']
 .intro m;rw[a_];simp
 .intro i aj m ih;rw[ab i aj,ih,show n-i=(n-(i+1))+1 by omega,List.range'_succ];cases ax:p i<;>simp[ax]
def An (p:b1):Prop:=p.Name.length<=1048576/\p.cd.length<=1048576/\∀e∈p.cd,e.length<=1048576
def u1 (p:b1) (ee:Int):Bool:=fZ (λi=>pD (p.cd.getD i []) ee 15) p.cd.length
theorem aaU (p:b1) (ax:An p) (ee:Int) (h:0<=ee/\ee<=29):bZ (λn=>xJ p n ee 0)=some (cond (u1 p ee) 0 8):=by
 refine as1 (l:=λm i=>xJ p m ee i) _ _ _ (λm=>?_) (λi aj m=>?_)
 .simp only[xJ,OK];rw[eb (Nat.le_refl _)];rfl
 .simp only[xJ,OK];rw[ey aj,me _ i [] aj,eo i _ aj (by have:=ax.2.1;omega)];simp only[cond_true,bind_some];rw[asH _ ee 15 (by omega) (by
   have:p.cd.getD i []=p.cd[i]:=by simp[List.getD,aj]
   rw[this];exact ax.2.2 _ (List.getElem_mem aj))]
  simp only[bind_some];cases pD (p.cd.getD i []) ee 15<;>rfl
theorem as2 (p:b1) (ax:An p) (pl:dM) (h:0<=pl.scope/\pl.scope<=29):JS p.cd pl=some (!(u1 p pl.scope)):=by
 unfold JS PA;rw[tf (n:=p.cd.length) (λi=> !pD (p.cd.getD i []) pl.scope 15)]
 .simp only[bind_some,wz,Bool.not_not];rfl
 .intro m;simp only[FX,Pz];rw[eb (Nat.le_refl _)];rfl
 .intro i aj m;simp only[FX,Pz];rw[ey aj,me _ i [] aj,eo i _ aj (by have:=ax.2.1;omega)];simp only[cond_true,bind_some,Py];rw[asI _ pl.scope 15 h (by omega) (by
   have:p.cd.getD i []=p.cd[i]:=by simp[List.getD,aj]
   rw[this];exact ax.2.2 _ (List.getElem_mem aj))]
  simp only[bind_some]
theorem SG (s:ayc) (ab:s.length<=1048576):uy s=some (hE s&& !(s==([116,97,117]:ayc))):=by
 unfold uy;rw[aay s (by omega)];rfl
theorem as3 {s:ayc} (h:(s==([116,97,117]:ayc))=true):hE s=true:=by
 have:s=[116,97,117]:=by simpa using h
 subst this;decide
theorem Lp (n:Int) (l:Nat) (hl:l<=1048576):xR n (l:Int)=some (decide (0<=n)&&decide (n<=(l:Int)-1)):=by
 unfold xR k2;rw[ew ((l:Int)-1) (by omega)];rfl
theorem aaV (list:ayw) (hl:list.length<=4) (d:bb) (at_:Nat) (as4:at_<d.Body.length) (aa:d.Body.length<=20) (ax:An d.Body[at_]) (pl:dM)
  (mK:vy d (at_:Int)=some pl.scope) (aaW:0<=pl.scope/\pl.scope<=29)
  (yh:pl.behind=SF d.Body at_):
  ∃r,sF list d (at_:Int)=some r/\F2 d.Body[at_] list pl=some r/\0<=r:=by
 have as5:∀p,An p->p=d.Body[at_]->∃r,sF list d (at_:Int)=some r/\F2 p list pl=some r/\0<=r:=by
  intro p ax Me;have N7:=aaU p ax pl.scope aaW;have Iy:=as2 p ax pl aaW;have rX:=SG p.Name ax.1;have as6:=Dm p.Name;have as7:vz d (at_:Int) p=some (cond ((p.Kind==5)&& !pl.behind) 6 (cond ((p.Kind==4)&&decide (6<=pl.scope)) 7 (cond (u1 p pl.scope) 0 8))):=by
   have as8:∀v,sE d (at_:Int) p v=some (cond v 6 (cond ((p.Kind==4)&&decide (6<=pl.scope)) 7 (cond (u1 p pl.scope) 0 8))):=by
    intro v;unfold sE;rw[mK];simp only[bind_some,N7];cases v<;>cases(p.Kind==4&&decide (6<=pl.scope))<;>rfl
   unfold vz;simp only[as8];cases at_ with
   |zero=>
    replace yh:pl.behind=false:=yh;rw[yh];simp only[Bool.not_false,Bool.and_true];cases p.Kind==5<;>rfl
   |succ q=>
    have cy:q<d.Body.length:=by omega
    have gb:(((q+1:Nat):Int)==0)=false:=by rw[beq_eq_false_iff_ne];omega
    rw[gb,Ht (q+1) (by omega) (by omega),show q+1-1=q from rfl,dV _ q cy];replace yh:pl.behind=(match d.Body[q]? with|some p=>p.Kind==1|none=>false):=yh;rw[List.getElem?_eq_getElem cy]at yh;simp only[cond_false,bind_some];simp only at yh;rw[yh];have d_:(d.Body[q].Kind !=1)= !(d.Body[q].Kind==1):=rfl;rw[d_];cases p.Kind==5<;>cases d.Body[q].Kind==1<;>rfl
  have rb:bh d.Body (at_:Int)=some p:=by rw[dV _ at_ as4,Me]
  have Lq:((p.cd.length:Int)==0)=true->u1 p pl.scope=true:=by
   intro h;have:p.cd.length=0:=by simpa using h
   unfold u1;rw[this];rfl
  unfold sF F2 Pv OG Jf;rw[rb];simp only[BA,ub,FZ,zt,bind_some,as7,Iy,rX,as6,k2,l_,Lp _ _ (show list.length<=1048576 by omega),Pw];rw[ew ((list.length:Int)-1) (by omega)];obtain⟨K,N,Nm,lD⟩:=p;simp only at*;by_cases a_:K=0
  .subst a_;simp only[Int.reduceBEq,Int.reduceLE,decide_true,decide_false,Bool.false_and,Bool.true_and,Bool.and_true,Bool.false_or,Bool.or_false,cond_true,cond_false,Bool.and_self,bind_some];cases N==0
   .exact⟨2,rfl,rfl,by decide⟩
   .cases Nm==[]
    .exact⟨2,rfl,rfl,by decide⟩
    .cases br:((lD.length:Int)==0)
     .exact⟨2,rfl,rfl,by decide⟩
     .simp only[Bool.and_true,Bool.not_true,Bool.not_false,cond_true,cond_false,Lq br];exact⟨0,rfl,rfl,by decide⟩
  .by_cases ad:K=1
   .subst ad;simp only[Int.reduceBEq,Int.reduceLE,decide_true,decide_false,Bool.false_and,Bool.true_and,Bool.and_true,Bool.false_or,Bool.or_false,Bool.true_or,cond_true,cond_false,Bool.and_self,bind_some];cases N==0
    .exact⟨2,rfl,rfl,by decide⟩
    .simp only[Bool.not_true,cond_false];cases ba:(Nm==([116,97,117]:ayc))
     .simp only[Bool.not_false,Bool.and_true,cond_true];cases hE Nm
      .exact⟨3,rfl,rfl,by decide⟩
      .simp only[Bool.not_true,cond_false,Bool.and_false,Bool.or_false,Bool.true_and];by_cases aV:lD.length<=2
       .have aP:decide ((2:Int)<(lD.length:Int))=false:=decide_eq_false (by omega);have aY:decide ((lD.length:Int)<=2)=true:=decide_eq_true (by omega);rw[aP,aY,Bool.or_true];cases u1 ⟨1,N,Nm,lD⟩ pl.scope
        .exact⟨8,rfl,rfl,by decide⟩
        .exact⟨0,rfl,rfl,by decide⟩
       .have aP:decide ((2:Int)<(lD.length:Int))=true:=decide_eq_true (by omega);have aY:decide ((lD.length:Int)<=2)=false:=decide_eq_false (by omega);have aU:((lD.length:Int)==0)=false:=by rw[beq_eq_false_iff_ne];omega
        rw[aP,aY,aU];exact⟨5,rfl,rfl,by decide⟩
     .rw[as3 ba];simp only[Bool.not_true,cond_false,Bool.and_true,Bool.false_and,Bool.or_false];by_cases aV:lD.length=0
      .have aP:decide ((2:Int)<(lD.length:Int))=false:=decide_eq_false (by omega);have aY:decide ((0:Int)<(lD.length:Int))=false:=decide_eq_false (by omega);have aU:((lD.length:Int)==0)=true:=by rw[aV];rfl
       rw[aP,aY,Lq aU,aU];exact⟨0,rfl,rfl,by decide⟩
      .have aY:decide ((0:Int)<(lD.length:Int))=true:=decide_eq_true (by omega);have aU:((lD.length:Int)==0)=false:=by rw[beq_eq_false_iff_ne];omega
       rw[aY,aU,Bool.or_true];exact⟨5,rfl,rfl,by decide⟩
   .by_cases af:K=2
    .subst af;simp only[Int.reduceBEq,Int.reduceLE,decide_true,decide_false,Bool.false_and,Bool.true_and,Bool.and_true,Bool.false_or,Bool.or_false,cond_true,cond_false,Bool.and_self,bind_some];cases N==0
     .exact⟨2,rfl,rfl,by decide⟩
     .cases Nm==[]
      .exact⟨2,rfl,rfl,by decide⟩
      .cases br:((lD.length:Int)==0)
       .exact⟨2,rfl,rfl,by decide⟩
       .simp only[Bool.and_true,Bool.not_true,Bool.not_false,cond_true,cond_false,Lq br];exact⟨0,rfl,rfl,by decide⟩
    .by_cases aG:K=3
     .subst aG;simp only[Int.reduceBEq,Int.reduceLE,decide_true,decide_false,Bool.false_and,Bool.true_and,Bool.and_true,Bool.false_or,Bool.or_false,Bool.true_or,Bool.or_true,cond_true,cond_false,Bool.and_self,bind_some];cases N==0
      .exact⟨2,rfl,rfl,by decide⟩
      .cases Nm==[]
       .exact⟨2,rfl,rfl,by decide⟩
       .have d_:((lD.length:Int) !=1)= !((lD.length:Int)==1):=rfl;rw[d_];cases((lD.length:Int)==1)
        .exact⟨5,rfl,rfl,by decide⟩
        .cases u1 ⟨3,N,Nm,lD⟩ pl.scope
         .exact⟨8,rfl,rfl,by decide⟩
         .exact⟨0,rfl,rfl,by decide⟩
     .by_cases bf:K=4
      .subst bf;simp only[Int.reduceBEq,Int.reduceLE,decide_true,decide_false,Bool.false_and,Bool.true_and,Bool.and_true,Bool.false_or,Bool.or_false,Bool.true_or,Bool.or_true,cond_true,cond_false,Bool.and_self,bind_some];cases Nm==[]
       .exact⟨2,rfl,rfl,by decide⟩
       .cases br:((lD.length:Int)==0)
        .exact⟨2,rfl,rfl,by decide⟩
        .rw[Lq br];cases(decide (1<=N)&&decide (N<=7))
         .exact⟨4,rfl,rfl,by decide⟩
         .cases decide (6<=pl.scope)
          .exact⟨0,rfl,rfl,by decide⟩
          .exact⟨7,rfl,rfl,by decide⟩
      .by_cases bU:K=5
       .subst bU;simp only[Int.reduceBEq,Int.reduceLE,decide_true,decide_false,Bool.false_and,Bool.true_and,Bool.and_true,Bool.false_or,Bool.or_false,Bool.true_or,Bool.or_true,cond_true,cond_false,Bool.and_self,bind_some];cases Nm==[]
        .exact⟨2,rfl,rfl,by decide⟩
        .cases aj:(decide (0<=N)&&decide (N<=(list.length:Int)-1))
         .exact⟨4,rfl,rfl,by decide⟩
         .simp only[Bool.and_eq_true,decide_eq_true_eq]at aj;obtain⟨i,rfl⟩:∃i:Nat,N=i:=⟨N.toNat,by omega⟩
          rw[dV list i (by omega)];simp only[bind_some,Bool.not_true,cond_false];have d_:((lD.length:Int) !=list[i].dP)= !((lD.length:Int)==list[i].dP):=rfl;rw[d_];cases((lD.length:Int)==list[i].dP)
          .exact⟨5,rfl,rfl,by decide⟩
          .cases pl.behind
           .exact⟨6,rfl,rfl,by decide⟩
           .cases u1 ⟨5,i,Nm,lD⟩ pl.scope
            .exact⟨8,rfl,rfl,by decide⟩
            .exact⟨0,rfl,rfl,by decide⟩
       .have gb:(K==0)=false:=by simpa using a_
        have aP:(K==1)=false:=by simpa using ad
        have aY:(K==2)=false:=by simpa using af
        have aU:(K==3)=false:=by simpa using aG
        have b4:(K==4)=false:=by simpa using bf
        have cM:(K==5)=false:=by simpa using bU
        have cl:(decide (0<=K)&&decide (K<=5))=false:=by
         rw[Bool.and_eq_false_iff,decide_eq_false_iff_not,decide_eq_false_iff_not];omega
        simp only[gb,aP,aY,aU,b4,cM,cl,Bool.false_and,cond_false,bind_some];exact⟨2,rfl,rfl,by decide⟩
 exact as5 _ ax rfl
theorem Ao {β:Type} {l:Nat->Int->Option β} {n:Nat} (p:Nat->Bool) (mf bad:Option β) (a_:∀m,l (m+1) (n:Int)=mf)
  (ab:∀i,i<n->∀m,l (m+1) (i:Int)=cond (p i) (l m ((i+1:Nat):Int)) bad):bZ (λm=>l m 0)=cond (fZ p n) mf bad:=by
 rw[p7 (n:=n) (λi=>cond ((List.range' i (n-i)).all p) mf bad)]
 .simp[fZ,List.range_eq_range']
 .intro m;rw[a_];simp
 .intro i aj m ih;rw[ab i aj,ih,show n-i=(n-(i+1))+1 by omega,List.range'_succ];cases ax:p i<;>simp[ax]
def aaX (d:bb):Prop:=d.Name.length<=1048576/\d.Body.length<=1048576/\∀p∈d.Body,An p
def wG (b:ayv):Bool:=(decide (1<=b.length)&&decide (b.length<=20))&&yf b 1
theorem Ap {b:ayv} (h:wG b=true):fm b 1=some b.length/\1<=b.length/\b.length<=20:=by
 simp only[wG,SB,Bool.and_eq_true,decide_eq_true_eq,beq_iff_eq]at h;exact⟨h.2,h.1.1,h.1.2⟩
def jC (d:bb) (i:Nat):dM:=(gZ d.Body [⟨d.dP,false⟩]).getD i ⟨0,false⟩
theorem Lr (d:bb) (h:wG d.Body=true) (ax:0<=d.dP/\d.dP<=3) (i:Nat) (aj:i<d.Body.length):
  vy d (i:Int)=some (jC d i).scope/\0<=(jC d i).scope/\(jC d i).scope<=29/\
   (jC d i).behind=SF d.Body i/\
   (gZ d.Body [⟨d.dP,false⟩])[i]? =some (jC d i):=by
 obtain⟨ad,af,aG⟩:=Ap h;obtain⟨s,pl,aP,aY,aU⟩:=aaS d.Body [⟨d.dP,false⟩] d.Body.length ad i aj;have ab:s=⟨d.dP,false⟩:=by
  simp only[yg,ad]at aP;rw[if_pos aj]at aP;exact(some.inj aP).symm
 subst ab;have fI:jC d i=pl:=by unfold jC;rw[List.getD_eq_getElem?_getD,aY];rfl
 have ar:=aaO d.Body i;simp only at aU;refine⟨?_,?_,?_,?_,?_⟩
 .rw[asV d (by omega) ad (by omega) i aj,fI,aU]
 .rw[fI,aU];omega
 .rw[fI,aU];omega
 .rw[fI];exact as0 d.Body ⟨d.dP,false⟩ rfl i pl aY
 .rw[fI];exact aY
theorem as9 (list:ayw) (hl:list.length<=4) (d:bb) (an:aaX d) (ax:0<=d.dP/\d.dP<=3):
  ∃r,vB list d=some r/\F3 list d=some r/\0<=r.2/\(r.2=0->wG d.Body=true):=by
 unfold vB F3 k2;rw[asK _ an.2.1];have Hu:=aaH d an.2.1 0 (zero_le _);rw[show((0:Nat):Int)=0 from rfl,List.drop_zero]at Hu;simp only[bind_some];have nj:decide ((1:Int)<=(d.Body.length:Int))=decide (1<=d.Body.length):=decide_eq_decide.2 (by omega);have lf:decide ((d.Body.length:Int)<=20)=decide (d.Body.length<=20):=decide_eq_decide.2 (by omega);rw[nj,lf];show∃r,cond (!wG d.Body) _ _=_/\_;cases ab:wG d.Body
 .refine⟨(0,1),rfl,?_,by decide,λh=>by cases h⟩;cases ar:(decide (1<=d.Body.length)&&decide (d.Body.length<=20))
  .rfl
  .rw[Hu];have hw:yf d.Body 1=false:=by
    unfold wG at ab;rw[ar,Bool.true_and]at ab;exact ab
   have:(th 0 (fm d.Body 1) !=(d.Body.length:Int))=true:=by
    rw[SB]at hw;cases he:fm d.Body 1 with
    |none=>simp only[th,bne_iff_ne];omega
    |some n=>
     rw[he]at hw;have d_:n≠d.Body.length:=λe=>by simp[e]at hw
     simp only[th,bne_iff_ne];omega
   simp only[Bool.not_true,cond_false,bind_some,this,cond_true]
 .obtain⟨ad,af,aG⟩:=Ap ab;have ar:(decide (1<=d.Body.length)&&decide (d.Body.length<=20))=true:=by simp;omega
  have d_:(th 0 (some d.Body.length) !=(d.Body.length:Int))=false:=by simp[th]
  rw[ar,Hu,ad];simp only[Bool.not_true,cond_false,bind_some,d_];rw[aaN d an.2.1 ad ax.1 (by omega)];simp only[bind_some];have key:∀i,i<=d.Body.length->∃r:Int×Int,(∀m,d.Body.length-i<m->vA list d m (i:Int)=some r)/\
    (∀m,d.Body.length-i<m->zu list d (gZ d.Body [⟨d.dP,false⟩]) m (i:Int)=some r)/\0<=r.2:=by
   refine down d.Body.length ⟨(0,0),λm hm=>?_,λm hm=>?_,by decide⟩ ?_
   .obtain⟨m,rfl⟩:∃j,m=j+1:=⟨m-1,by omega⟩
    simp only[vA,FD];rw[eb (Nat.le_refl _)];rfl
   .obtain⟨m,rfl⟩:∃j,m=j+1:=⟨m-1,by omega⟩
    simp only[zu,JT];rw[eb (Nat.le_refl _)];rfl
   .rintro i aj ⟨r,eh,bc,dm⟩;obtain⟨gU,gy,iE,i7,qX⟩:=Lr d ab ax i aj;obtain⟨v,v1,v2,v3⟩:=aaV list hl d i aj aG (an.2.2 _ (List.getElem_mem aj)) (jC d i) gU ⟨gy,iE⟩ i7;have hg:bh (gZ d.Body [⟨d.dP,false⟩]) (i:Int)=some (jC d i):=by
     unfold bh;rw[if_pos (by omega)];exact qX
    by_cases aJ:v=0
    .subst aJ;refine⟨r,λm hm=>?_,λm hm=>?_,dm⟩
     .obtain⟨m,rfl⟩:∃j,m=j+1:=⟨m-1,by omega⟩
      simp only[vA,FD];rw[ey aj,v1,eo i _ aj (by omega),<-eh m (by omega)];rfl
     .obtain⟨m,rfl⟩:∃j,m=j+1:=⟨m-1,by omega⟩
      simp only[zu,JT];rw[ey aj,dV _ i aj,hg];simp only[cond_true,bind_some,v2];rw[eo i _ aj (by omega),<-bc m (by omega)];rfl
    .have EZ:decide (0<v)=true:=decide_eq_true (by omega);have Aq:(v !=0)=true:=by simpa using aJ
     refine⟨((i:Int),v),λm hm=>?_,λm hm=>?_,v3⟩
     .obtain⟨m,rfl⟩:∃j,m=j+1:=⟨m-1,by omega⟩
      simp only[vA,FD];rw[ey aj,v1];simp only[cond_true,bind_some,EZ]
     .obtain⟨m,rfl⟩:∃j,m=j+1:=⟨m-1,by omega⟩
      simp only[zu,JT];rw[ey aj,dV _ i aj,hg];simp only[cond_true,bind_some,v2,Aq]
  obtain⟨r,eh,bc,dm⟩:=key 0 (zero_le _);refine⟨r,fb (d.Body.length+1) λm hm=>eh m (by omega),fb (d.Body.length+1) λm hm=>bc m (by omega),dm,λ_=>trivial⟩
def wH (d:bb):Bool:=decide (0<=d.dP)&&decide (d.dP<=3)
def Ds (list:ayw):Bool:=fZ (λi=>wH (list.getD i ⟨[],0,[]⟩)) list.length
theorem aaY {list:ayw} (h:Ds list=true) (i:Nat) (aj:i<list.length):0<=list[i].dP/\list[i].dP<=3:=by
 have:=oX.1 h i aj;have e:list.getD i ⟨[],0,[]⟩=list[i]:=by simp[List.getD,aj]
 rw[e]at this;simpa [wH]using this
theorem as_ (list:ayw) (hl:list.length<=1048576):JK list=some (Ds list):=by
 unfold JK Pn Pm;rw[tf (n:=list.length) (λi=> !wH (list.getD i ⟨[],0,[]⟩))]
 .simp only[bind_some,wz,Bool.not_not];rfl
 .intro m;simp only[FP,Pl];rw[eb (Nat.le_refl _)];rfl
 .intro i aj m;simp only[FP,Pl];rw[ey aj,me _ i ⟨[],0,[]⟩ aj,eo i _ aj (by omega)];simp only[cond_true,bind_some,Pk,k2];rfl
def pE (list:ayw):Prop:=list.length<=1048576/\∀d∈list,aaX d
end Go.kX
