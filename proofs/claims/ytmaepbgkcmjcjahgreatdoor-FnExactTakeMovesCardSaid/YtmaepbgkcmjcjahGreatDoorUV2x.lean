/- Part of a proof that a law returns true for every input. No condition. -/
import Derived.Test.YtmaepbgkcmjcjahGreatDoorUV1x
namespace Go.k6
open Option Go.IntKind Nat Or
open Go Go.ei
theorem abx (d:a6) (ao:d.Body.length<=1048576):∀(n at_ k:Nat) (s:dR) (out:azC),out.length=d.Body.length->fo (d.Body.drop at_) 1=some k->k<=n->0<=s.scope->s.scope+k<=1000000->
  Aa n (at_:Int) s out d=some (((at_+k:Nat):Int),patch out at_ (hh (d.Body.drop at_) [s]))
 |0,at_,k,s,out,bO,he,aw,bc,ad=>by have:=tO he;omega
 |n+1,at_,k,s,out,bO,he,aw,bc,ad=>by
  have l:=tO he;rw[List.length_drop]at l;have ai:at_<d.Body.length:=by omega
  rw[drop_cons _ at_ ai]at he⊢;obtain⟨dv,qO,rfl⟩:=sA.1 he;simp only[Nat.zero_add]at qO;have bH:=D9 d.Body[at_];have atB:=abw (n:=n) ao (abx d ao n) (below d.Body[at_] s).scope d.Body[at_] (en d.Body[at_]) bH (en d.Body[at_]) 0 (at_+1) dv (patch out at_ [s]);have hlen:(hh (d.Body.drop (at_+1)) (List.replicate (en d.Body[at_]) (below d.Body[at_] s)++[])).length=dv:=by
   rw[List.append_nil];exact Bc (by rw[List.length_replicate];exact qO)
  have atC:(at_+1+dv:Nat)=at_+(dv+1):=by omega
  have ab:0<=(below d.Body[at_] s).scope/\(below d.Body[at_] s).scope+dv<=1000000:=by
   unfold below;simp only;split<;>omega
  have key:(b5 λm=>z_ (Aa n) d (below d.Body[at_] s).scope d.Body[at_] ((en d.Body[at_]:Nat):Int) m (List.set out (Int.toNat (at_:Int)) s) (i64.wrap ((at_:Int)+1)) 0)=
    some (((at_+(dv+1):Nat):Int),patch out at_ (hh (d.Body[at_]::d.Body.drop (at_+1)) [s])):=by
   refine e5 (en d.Body[at_]+1) λm hm=>?_;rw[Int.toNat_natCast,atx (by omega),et at_ _ ai (by omega)];have h:=atB m (by omega) (by omega) (by rw[abu (by simp;omega),bO]) qO (by omega) ab.1 ab.2;rw[show((0:Nat):Int)=0 from rfl]at h;rw[h,atC];congr 2;have atD:(hh (d.Body.drop (at_+1)) (List.replicate (en d.Body[at_]) ⟨(below d.Body[at_] s).scope,d.Body[at_].Kind==1⟩)).length=dv:=Bc (by rw[List.length_replicate];exact qO);rw[abv (i:=at_) (a:=[s]) (j:=at_+1) rfl (by rw[atD,List.length_singleton];omega)];simp only[hh,List.append_nil,List.singleton_append];rfl
  simp only[Aa,P_];rw[dX out at_ (by omega),dX _ at_ ai];simp only[bind_some,Ks,abp];by_cases bh:d.Body[at_].Kind=4
  .have e:(d.Body[at_].Kind==4)=true:=by simpa using bh
   have aW:(below d.Body[at_] s).scope=s.scope+1:=by simp[below,bh]
   rw[e,cond_true,aty s.scope bc (by omega),<-aW];exact key
  .have e:(d.Body[at_].Kind==4)=false:=by simpa using bh
   have aW:(below d.Body[at_] s).scope=s.scope:=by simp[below,bh]
   rw[e,cond_false];conv=>lhs;rw[show s.scope=(below d.Body[at_] s).scope from aW.symm]
   exact key
theorem aby (d:a6) (ao:d.Body.length<=1048576) (aa:fo d.Body 1=some d.Body.length) (bc:0<=d.dU) (ad:d.dU+d.Body.length<=1000000):
  CW d=some (hh d.Body [⟨d.dU,false⟩]):=by
 unfold CW;rw[tL 16 ao (by decide)];simp only[bind_some];have hlen:(hh d.Body [⟨d.dU,false⟩]).length=d.Body.length:=Bc (st:=[_]) aa;have:Kt 0 ⟨d.dU,false⟩ (List.replicate (Int.toNat (d.Body.length:Int)) ⟨0,false⟩) d=some ((d.Body.length:Int),hh d.Body [⟨d.dU,false⟩]):=by
  unfold Kt;refine e5 d.Body.length λm hm=>?_;have:=abx d ao m 0 d.Body.length ⟨d.dU,false⟩ (List.replicate (Int.toNat (d.Body.length:Int)) ⟨0,false⟩) (by simp) (by simpa using aa) hm bc ad;rw[show((0:Nat):Int)=0 from rfl]at this;rw[this,Nat.zero_add,List.drop_zero];congr 2;unfold patch;rw[Nat.zero_add,hlen,List.drop_of_length_le (by simp)];simp
 rw[this];rfl
def Tq (l:azv) (q:Nat):Bool:=match fo l 1 with
 |some e=>decide (q<e)
 |none=>false
def qy:azv->Nat->Nat
 |[],_=>0
 |_::_,0=>0
 |p::r,q+1=>(if p.Kind=4/\Tq (p::r) (q+1)=true then 1 else 0)+qy r q
theorem atE (l:azv):qy l 0=0:=by cases l<;>rfl
theorem abz:∀(l:azv) (q:Nat),qy l q<=q
 |[],q=>by simp[qy]
 |_::_,0=>by simp[qy]
 |p::r,q+1=>by
  have:=abz r q;simp only[qy];split<;>omega
theorem atF (d:a6) (ao:d.Body.length<=1048576) (aa:fo d.Body 1=some d.Body.length) (bc: -1000000<=d.dU/\d.dU<=1000000) (q:Nat) (cE:q<d.Body.length):
  wj d (q:Int)=some (d.dU+(qy d.Body q:Nat)):=by
 unfold wj;have key:∀i,i<=q->∀(c:Int) m,-1000000<=c->c<=1000000+i->q-i<m->zO d (q:Int) m c (i:Int)=some (c+(qy (d.Body.drop i) (q-i):Nat)):=by
  refine down q ?_ ?_
  .intro c m _ _ hm;obtain⟨m,rfl⟩:∃j,m=j+1:=⟨m-1,by omega⟩
   simp only[zO,Pn];rw[eh (Nat.le_refl _),Nat.sub_self,atE];simp
  .intro i ai ih c m nB lo hm;obtain⟨m,rfl⟩:∃j,m=j+1:=⟨m-1,by omega⟩
   simp only[zO,Pn];have xc:i<d.Body.length:=by omega
   rw[ev ai,dX _ i xc];simp only[cond_true,bind_some,Gn];obtain⟨e,Fp,V7,BT⟩:=att aa xc;rw[abt _ ao i e Fp,et i q ai (by omega)];simp only[bind_some];have atG:qy (d.Body.drop i) (q-i)=(if d.Body[i].Kind=4/\q<i+e then 1 else 0)+qy (d.Body.drop (i+1)) (q-(i+1)):=by
    have abA:=Fp;rw[drop_cons _ i xc]at abA⊢;rw[show q-i=(q-(i+1))+1 by omega];simp only[qy,Tq,abA];congr 1;by_cases aw:d.Body[i].Kind=4
    .by_cases xf:q<i+e
     .rw[if_pos ⟨aw,by simp;omega⟩,if_pos ⟨aw,xf⟩]
     .rw[if_neg (λh=>by simp at h;omega),if_neg (λh=>xf h.2)]
    .rw[if_neg (λh=>aw h.1),if_neg (λh=>aw h.1)]
   rw[atG];by_cases aw:d.Body[i].Kind=4
   .have tQ:(d.Body[i].Kind==4)=true:=by simpa using aw
    rw[tQ,cond_true];by_cases xf:q<i+e
    .rw[ev xf,cond_true,eE (c+1) (by omega),ih (c+1) m (by omega) (by omega) (by omega),if_pos ⟨aw,xf⟩];congr 1;omega
    .rw[eh (by omega),cond_false,ih c m nB (by omega) (by omega),if_neg (λh=>xf h.2)];congr 1;omega
   .have tQ:(d.Body[i].Kind==4)=false:=by simpa using aw
    rw[tQ,cond_false,ih c m nB (by omega) (by omega),if_neg (λh=>aw h.1)];congr 1;omega
 refine e5 (q+1) λm hm=>?_;have:=key 0 (by omega) d.dU m (by omega) (by omega) (by omega);simpa using this
def yT:azv->azC->Nat->Option dR
 |_,[],_=>none
 |l,s::st,q=>match fo l 1 with
  |none=>none
  |some k=>if q<k then some s else yT (l.drop k) st (q-k)
theorem abB:∀(f:Nat) (r:azv) (b:dR) (st:azC) (k q:Nat),fo r f=some k->yT r (List.replicate f b++st) q=if q<k then some b else yT (r.drop k) st (q-k)
 |0,r,b,st,k,q,h=>by rw[Bb]at h;cases h;simp
 |f+1,r,b,st,k,q,h=>by
  rw[Nat.add_comm f 1]at h;obtain⟨bX,cu,ad,ag,rfl⟩:=D_ h;rw[List.replicate_succ,List.cons_append];simp only[yT,ad];by_cases cE:q<bX
  .rw[if_pos cE,if_pos (by omega)]
  .rw[if_neg cE,abB f _ b st cu (q-bX) ag];by_cases abC:q-bX<cu
   .rw[if_pos abC,if_pos (by omega)]
   .rw[if_neg abC,if_neg (by omega),List.drop_drop,Nat.sub_sub]
theorem abD:∀(l:azv) (st:azC) (k:Nat),fo l st.length=some k->∀q,q<k->∃s pl,yT l st q=some s/\(hh l st)[q]? =some pl/\pl.scope=s.scope+(qy l q:Nat)
 |[],[],k,h,q,cE=>by simp only[List.length_nil,fo,some.injEq]at h;omega
 |[],s::st,k,h,q,cE=>by simp[fo]at h
 |p::r,[],k,h,q,cE=>by simp only[List.length_nil,fo,some.injEq]at h;omega
 |p::r,s::st,k,h,q,cE=>by
  have bc:=h;obtain⟨dv,bF,rfl⟩:=sA.1 h;rw[List.length_cons,Nat.add_comm st.length 1]at bc;obtain⟨e,cu,he,pr,aw⟩:=D_ bc;obtain⟨hs,qO,rfl⟩:=sA.1 he;simp only[Nat.zero_add]at qO;cases q with
  |zero=>
   refine⟨s,s,?_,rfl,?_⟩
   .simp only[yT,he];rw[if_pos (by omega)]
   .simp[qy]
  |succ q=>
   have hl:fo r (List.replicate (en p) (below p s)++st).length=some dv:=by
    rw[List.length_append,List.length_replicate,Nat.add_comm];exact bF
   obtain⟨aE,pl,ad,ag,aD⟩:=abD r _ dv hl q (by omega);rw[abB _ _ _ _ hs q qO]at ad;simp only[hh,List.getElem?_cons_succ,yT,he,qy,Tq,decide_eq_true_eq];by_cases xf:q<hs
   .rw[if_pos xf]at ad;simp only[some.injEq]at ad;subst ad;refine⟨s,pl,by rw[if_pos (by omega)],ag,?_⟩;rw[aD];by_cases L5:p.Kind=4
    .rw[if_pos ⟨L5,by omega⟩];simp only[below,if_pos L5];omega
    .rw[if_neg (λh=>L5 h.1)];simp only[below,if_neg L5];omega
   .rw[if_neg xf]at ad;refine⟨aE,pl,?_,ag,?_⟩
    .rw[if_neg (by omega),List.drop_succ_cons,show q+1-(hs+1)=q-hs by omega];exact ad
    .rw[aD,if_neg (λh=>by omega)];omega
theorem atH {p:ca} (h:en p=0):(p.Kind==1)=false:=by
 unfold en at h;split at h
 .omega
 .rename_i aV;simp only[beq_eq_false_iff_ne];exact λe=>aV (.inl e)
theorem atI {p:ca} (h:en p=2):(p.Kind==1)=false:=by
 unfold en at h;split at h
 .omega
 .rename_i aV;simp only[beq_eq_false_iff_ne];exact λe=>aV (.inl e)
def Tr (b:azv):Nat->Bool
 |0=>false
 |q+1=>match b[q]? with
  |some p=>p.Kind==1
  |none=>false
theorem abE:∀(l:azv) (st:azC),(∀s∈st.tail,s.behind=false)->∀(q:Nat) (pl:dR),(hh l st)[q]? =some pl->
  pl.behind=match q with
   |0=>match st with
    |s::_=>s.behind
    |[]=>false
   |q+1=>match l[q]? with
    |some p=>p.Kind==1
    |none=>false
 |[],st,_,q,pl,h=>by simp[hh]at h
 |p::r,[],_,q,pl,h=>by simp[hh]at h
 |p::r,s::st,yU,q,pl,h=>by
  cases q with
  |zero=>simp only[hh,List.getElem?_cons_zero,some.injEq]at h;subst h;rfl
  |succ q=>
   simp only[hh,List.getElem?_cons_succ]at h;have atJ:∀aE∈(List.replicate (en p) (below p s)++st).tail,aE.behind=false:=by
    intro aE gd;have bH:=D9 p;rcases(by omega:en p=0\/en p=1\/en p=2)with bH|bH|bH
    .rw[bH]at gd;simp only[List.replicate_zero,List.nil_append]at gd;exact yU aE (by simpa using List.mem_of_mem_tail gd)
    .rw[bH]at gd;simp only[List.replicate_succ,List.replicate_zero,List.cons_append,List.nil_append,List.tail_cons]at gd;exact yU aE (by simpa using gd)
    .rw[bH]at gd;simp only[List.replicate_succ,List.replicate_zero,List.cons_append,List.nil_append,List.tail_cons,List.mem_cons]at gd;rcases gd with rfl|gd
     .exact atI bH
     .exact yU aE (by simpa using gd)
   have ih:=abE r _ atJ q pl h;rw[ih];cases q with
   |succ q=>rfl
   |zero=>
    simp only[List.getElem?_cons_zero];have bH:=D9 p;rcases(by omega:en p=0\/en p=1\/en p=2)with bH|bH|bH
    .rw[bH,atH bH];simp only[List.replicate_zero,List.nil_append];cases st with
     |nil=>rfl
     |cons s2 st=>exact yU s2 (by simp)
    .rw[bH];rfl
    .rw[bH];rfl
theorem atK (l:azv) (s:dR) (aa:s.behind=false) (q:Nat) (pl:dR) (h:(hh l [s])[q]? =some pl):pl.behind=Tr l q:=by
 rw[abE l [s] (λs aa=>by simp at aa) q pl h];cases q with
 |zero=>exact aa
 |succ q=>rfl
theorem atL {l:Nat->Int->azh} {n:Nat} (p:Nat->Bool) (mw bad:Int) (bc:∀m,l (m+1) (n:Int)=some mw)
  (aa:∀i,i<n->∀m,l (m+1) (i:Int)=cond (p i) (l m ((i+1:Nat):Int)) (some bad)):b5 (λm=>l m 0)=some (cond (gf p n) mw bad):=by
 rw[qx (n:=n) (λi=>some (cond ((List.range' i (n-i)).all p) mw bad))]
 .simp[gf,List.range_eq_range']
 .intro m;rw[bc];simp
 .intro i ai m ih;rw[aa i ai,ih,show n-i=(n-(i+1))+1 by omega,List.range'_succ];cases ax:p i<;>simp[ax]
def Bd (p:ca):Prop:=p.Name.length<=1048576/\p.cl.length<=1048576/\∀e∈p.cl,e.length<=1048576
def vC (p:ca) (ej:Int):Bool:=gf (λi=>pY (p.cl.getD i []) ej 15) p.cl.length
theorem abF (p:ca) (ax:Bd p) (ej:Int) (h:0<=ej/\ej<=29):b5 (λn=>yf p n ej 0)=some (cond (vC p ej) 0 8):=by
 refine atL (l:=λm i=>yf p m ej i) _ _ _ (λm=>?_) (λi ai m=>?_)
 .simp only[yf,Pp];rw[eh (Nat.le_refl _)];rfl
 .simp only[yf,Pp];rw[ev ai,mv _ i [] ai,et i _ ai (by have:=ax.2.1;omega)];simp only[cond_true,bind_some];rw[atr _ ej 15 (by omega) (by
   have:p.cl.getD i []=p.cl[i]:=by simp[List.getD,ai]
   rw[this];exact ax.2.2 _ (List.getElem_mem ai))]
  simp only[bind_some];cases pY (p.cl.getD i []) ej 15<;>rfl
theorem atM (p:ca) (ax:Bd p) (pl:dR) (h:0<=pl.scope/\pl.scope<=29):Kx p.cl pl=some (!(vC p pl.scope)):=by
 unfold Kx Qf;rw[tM (n:=p.cl.length) (λi=> !pY (p.cl.getD i []) pl.scope 15)]
 .simp only[bind_some,w_,Bool.not_not];rfl
 .intro m;simp only[GN,Qe];rw[eh (Nat.le_refl _)];rfl
 .intro i ai m;simp only[GN,Qe];rw[ev ai,mv _ i [] ai,et i _ ai (by have:=ax.2.1;omega)];simp only[cond_true,bind_some,Qd];rw[ats _ pl.scope 15 h (by omega) (by
   have:p.cl.getD i []=p.cl[i]:=by simp[List.getD,ai]
   rw[this];exact ax.2.2 _ (List.getElem_mem ai))]
  simp only[bind_some]
theorem Ts (s:azc) (aa:s.length<=1048576):u9 s=some (hN s&& !(s==([116,97,117]:azc))):=by
 unfold u9;rw[abh s (by omega)];rfl
theorem atN {s:azc} (h:(s==([116,97,117]:azc))=true):hN s=true:=by
 have:s=[116,97,117]:=by simpa using h
 subst this;decide
theorem L6 (n:Int) (l:Nat) (hl:l<=1048576):ts n (l:Int)=some (decide (0<=n)&&decide (n<=(l:Int)-1)):=by
 unfold ts kX;rw[eE ((l:Int)-1) (by omega)];rfl
theorem abG (list:azw) (hl:list.length<=4) (d:a6) (at_:Nat) (atO:at_<d.Body.length) (ab:d.Body.length<=20) (ax:Bd d.Body[at_]) (pl:dR)
  (kA:wj d (at_:Int)=some pl.scope) (abH:0<=pl.scope/\pl.scope<=29)
  (yV:pl.behind=Tr d.Body at_):
  ∃r,ti list d (at_:Int)=some r/\GR d.Body[at_] list pl=some r/\0<=r:=by
 have atP:∀p,Bd p->p=d.Body[at_]->∃r,ti list d (at_:Int)=some r/\GR p list pl=some r/\0<=r:=by
  intro p ax MT;have OP:=abF p ax pl.scope abH;have Ji:=atM p ax pl abH;have sB:=Ts p.Name ax.1;have atQ:=D7 p.Name;have atS:wk d (at_:Int) p=some (cond ((p.Kind==5)&& !pl.behind) 6 (cond ((p.Kind==4)&&decide (6<=pl.scope)) 7 (cond (vC p pl.scope) 0 8))):=by
   have atT:∀v,th d (at_:Int) p v=some (cond v 6 (cond ((p.Kind==4)&&decide (6<=pl.scope)) 7 (cond (vC p pl.scope) 0 8))):=by
    intro v;unfold th;rw[kA];simp only[bind_some,OP];cases v<;>cases(p.Kind==4&&decide (6<=pl.scope))<;>rfl
   unfold wk;simp only[atT];cases at_ with
   |zero=>
    replace yV:pl.behind=false:=yV;rw[yV];simp only[Bool.not_false,Bool.and_true];cases p.Kind==5<;>rfl
   |succ q=>
    have cE:q<d.Body.length:=by omega
    have gi:(((q+1:Nat):Int)==0)=false:=by rw[beq_eq_false_iff_ne];omega
    rw[gi,H9 (q+1) (by omega) (by omega),show q+1-1=q from rfl,dX _ q cE];replace yV:pl.behind=(match d.Body[q]? with|some p=>p.Kind==1|none=>false):=yV;rw[List.getElem?_eq_getElem cE]at yV;simp only[cond_false,bind_some];simp only at yV;rw[yV];have eb:(d.Body[q].Kind !=1)= !(d.Body[q].Kind==1):=rfl;rw[eb];cases p.Kind==5<;>cases d.Body[q].Kind==1<;>rfl
  have rQ:bj d.Body (at_:Int)=some p:=by rw[dX _ at_ atO,MT]
  have L7:((p.cl.length:Int)==0)=true->vC p pl.scope=true:=by
   intro h;have:p.cl.length=0:=by simpa using h
   unfold vC;rw[this];rfl
  unfold ti GR Qa Pl JW;rw[rQ];simp only[Ck,uQ,GP,Ab,bind_some,atS,Ji,sB,atQ,kX,k8,L6 _ _ (show list.length<=1048576 by omega),Qb];rw[eE ((list.length:Int)-1) (by omega)];obtain⟨K,N,Nm,lK⟩:=p;simp only at*;by_cases bc:K=0
  .subst bc;simp only[Int.reduceBEq,Int.reduceLE,decide_true,decide_false,Bool.false_and,Bool.true_and,Bool.and_true,Bool.false_or,Bool.or_false,cond_true,cond_false,Bool.and_self,bind_some];cases N==0
   .exact⟨2,rfl,rfl,by decide⟩
   .cases Nm==[]
    .exact⟨2,rfl,rfl,by decide⟩
    .cases bo:((lK.length:Int)==0)
     .exact⟨2,rfl,rfl,by decide⟩
     .simp only[Bool.and_true,Bool.not_true,Bool.not_false,cond_true,cond_false,L7 bo];exact⟨0,rfl,rfl,by decide⟩
  .by_cases ad:K=1
   .subst ad;simp only[Int.reduceBEq,Int.reduceLE,decide_true,decide_false,Bool.false_and,Bool.true_and,Bool.and_true,Bool.false_or,Bool.or_false,Bool.true_or,cond_true,cond_false,Bool.and_self,bind_some];cases N==0
    .exact⟨2,rfl,rfl,by decide⟩
    .simp only[Bool.not_true,cond_false];cases bb:(Nm==([116,97,117]:azc))
     .simp only[Bool.not_false,Bool.and_true,cond_true];cases hN Nm
      .exact⟨3,rfl,rfl,by decide⟩
      .simp only[Bool.not_true,cond_false,Bool.and_false,Bool.or_false,Bool.true_and];by_cases aV:lK.length<=2
       .have aR:decide ((2:Int)<(lK.length:Int))=false:=decide_eq_false (by omega);have aW:decide ((lK.length:Int)<=2)=true:=decide_eq_true (by omega);rw[aR,aW,Bool.or_true];cases vC ⟨1,N,Nm,lK⟩ pl.scope
        .exact⟨8,rfl,rfl,by decide⟩
        .exact⟨0,rfl,rfl,by decide⟩
       .have aR:decide ((2:Int)<(lK.length:Int))=true:=decide_eq_true (by omega);have aW:decide ((lK.length:Int)<=2)=false:=decide_eq_false (by omega);have aU:((lK.length:Int)==0)=false:=by rw[beq_eq_false_iff_ne];omega
        rw[aR,aW,aU];exact⟨5,rfl,rfl,by decide⟩
     .rw[atN bb];simp only[Bool.not_true,cond_false,Bool.and_true,Bool.false_and,Bool.or_false];by_cases aV:lK.length=0
      .have aR:decide ((2:Int)<(lK.length:Int))=false:=decide_eq_false (by omega);have aW:decide ((0:Int)<(lK.length:Int))=false:=decide_eq_false (by omega);have aU:((lK.length:Int)==0)=true:=by rw[aV];rfl
       rw[aR,aW,L7 aU,aU];exact⟨0,rfl,rfl,by decide⟩
      .have aW:decide ((0:Int)<(lK.length:Int))=true:=decide_eq_true (by omega);have aU:((lK.length:Int)==0)=false:=by rw[beq_eq_false_iff_ne];omega
       rw[aW,aU,Bool.or_true];exact⟨5,rfl,rfl,by decide⟩
   .by_cases ag:K=2
    .subst ag;simp only[Int.reduceBEq,Int.reduceLE,decide_true,decide_false,Bool.false_and,Bool.true_and,Bool.and_true,Bool.false_or,Bool.or_false,cond_true,cond_false,Bool.and_self,bind_some];cases N==0
     .exact⟨2,rfl,rfl,by decide⟩
     .cases Nm==[]
      .exact⟨2,rfl,rfl,by decide⟩
      .cases bo:((lK.length:Int)==0)
       .exact⟨2,rfl,rfl,by decide⟩
       .simp only[Bool.and_true,Bool.not_true,Bool.not_false,cond_true,cond_false,L7 bo];exact⟨0,rfl,rfl,by decide⟩
    .by_cases aD:K=3
     .subst aD;simp only[Int.reduceBEq,Int.reduceLE,decide_true,decide_false,Bool.false_and,Bool.true_and,Bool.and_true,Bool.false_or,Bool.or_false,Bool.true_or,Bool.or_true,cond_true,cond_false,Bool.and_self,bind_some];cases N==0
      .exact⟨2,rfl,rfl,by decide⟩
      .cases Nm==[]
       .exact⟨2,rfl,rfl,by decide⟩
       .have eb:((lK.length:Int) !=1)= !((lK.length:Int)==1):=rfl;rw[eb];cases((lK.length:Int)==1)
        .exact⟨5,rfl,rfl,by decide⟩
        .cases vC ⟨3,N,Nm,lK⟩ pl.scope
         .exact⟨8,rfl,rfl,by decide⟩
         .exact⟨0,rfl,rfl,by decide⟩
     .by_cases bh:K=4
      .subst bh;simp only[Int.reduceBEq,Int.reduceLE,decide_true,decide_false,Bool.false_and,Bool.true_and,Bool.and_true,Bool.false_or,Bool.or_false,Bool.true_or,Bool.or_true,cond_true,cond_false,Bool.and_self,bind_some];cases Nm==[]
       .exact⟨2,rfl,rfl,by decide⟩
       .cases bo:((lK.length:Int)==0)
        .exact⟨2,rfl,rfl,by decide⟩
        .rw[L7 bo];cases(decide (1<=N)&&decide (N<=7))
         .exact⟨4,rfl,rfl,by decide⟩
         .cases decide (6<=pl.scope)
          .exact⟨0,rfl,rfl,by decide⟩
          .exact⟨7,rfl,rfl,by decide⟩
      .by_cases b1:K=5
       .subst b1;simp only[Int.reduceBEq,Int.reduceLE,decide_true,decide_false,Bool.false_and,Bool.true_and,Bool.and_true,Bool.false_or,Bool.or_false,Bool.true_or,Bool.or_true,cond_true,cond_false,Bool.and_self,bind_some];cases Nm==[]
        .exact⟨2,rfl,rfl,by decide⟩
        .cases ai:(decide (0<=N)&&decide (N<=(list.length:Int)-1))
         .exact⟨4,rfl,rfl,by decide⟩
         .simp only[Bool.and_eq_true,decide_eq_true_eq]at ai;obtain⟨i,rfl⟩:∃i:Nat,N=i:=⟨N.toNat,by omega⟩
          rw[dX list i (by omega)];simp only[bind_some,Bool.not_true,cond_false];have eb:((lK.length:Int) !=list[i].dU)= !((lK.length:Int)==list[i].dU):=rfl;rw[eb];cases((lK.length:Int)==list[i].dU)
          .exact⟨5,rfl,rfl,by decide⟩
          .cases pl.behind
           .exact⟨6,rfl,rfl,by decide⟩
           .cases vC ⟨5,i,Nm,lK⟩ pl.scope
            .exact⟨8,rfl,rfl,by decide⟩
            .exact⟨0,rfl,rfl,by decide⟩
       .have gi:(K==0)=false:=by simpa using bc
        have aR:(K==1)=false:=by simpa using ad
        have aW:(K==2)=false:=by simpa using ag
        have aU:(K==3)=false:=by simpa using aD
        have cc:(K==4)=false:=by simpa using bh
        have cZ:(K==5)=false:=by simpa using b1
        have cv:(decide (0<=K)&&decide (K<=5))=false:=by
         rw[Bool.and_eq_false_iff,decide_eq_false_iff_not,decide_eq_false_iff_not];omega
        simp only[gi,aR,aW,aU,cc,cZ,cv,Bool.false_and,cond_false,bind_some];exact⟨2,rfl,rfl,by decide⟩
 exact atP _ ax rfl
theorem Be {β:Type} {l:Nat->Int->Option β} {n:Nat} (p:Nat->Bool) (mw bad:Option β) (bc:∀m,l (m+1) (n:Int)=mw)
  (aa:∀i,i<n->∀m,l (m+1) (i:Int)=cond (p i) (l m ((i+1:Nat):Int)) bad):b5 (λm=>l m 0)=cond (gf p n) mw bad:=by
 rw[qx (n:=n) (λi=>cond ((List.range' i (n-i)).all p) mw bad)]
 .simp[gf,List.range_eq_range']
 .intro m;rw[bc];simp
 .intro i ai m ih;rw[aa i ai,ih,show n-i=(n-(i+1))+1 by omega,List.range'_succ];cases ax:p i<;>simp[ax]
def abI (d:a6):Prop:=d.Name.length<=1048576/\d.Body.length<=1048576/\∀p∈d.Body,Bd p
def xg (b:azv):Bool:=(decide (1<=b.length)&&decide (b.length<=20))&&yS b 1
theorem xh {b:azv} (h:xg b=true):fo b 1=some b.length/\1<=b.length/\b.length<=20:=by
 simp only[xg,Tn,Bool.and_eq_true,decide_eq_true_eq,beq_iff_eq]at h;exact⟨h.2,h.1.1,h.1.2⟩
def h8 (d:a6) (i:Nat):dR:=(hh d.Body [⟨d.dU,false⟩]).getD i ⟨0,false⟩
theorem L8 (d:a6) (h:xg d.Body=true) (ax:0<=d.dU/\d.dU<=3) (i:Nat) (ai:i<d.Body.length):
  wj d (i:Int)=some (h8 d i).scope/\0<=(h8 d i).scope/\(h8 d i).scope<=29/\
   (h8 d i).behind=Tr d.Body i/\
   (hh d.Body [⟨d.dU,false⟩])[i]? =some (h8 d i):=by
 obtain⟨ad,ag,aD⟩:=xh h;obtain⟨s,pl,aR,aW,aU⟩:=abD d.Body [⟨d.dU,false⟩] d.Body.length ad i ai;have aa:s=⟨d.dU,false⟩:=by
  simp only[yT,ad]at aR;rw[if_pos ai]at aR;exact(some.inj aR).symm
 subst aa;have fO:h8 d i=pl:=by unfold h8;rw[List.getD_eq_getElem?_getD,aW];rfl
 have au:=abz d.Body i;simp only at aU;refine⟨?_,?_,?_,?_,?_⟩
 .rw[atF d (by omega) ad (by omega) i ai,fO,aU]
 .rw[fO,aU];omega
 .rw[fO,aU];omega
 .rw[fO];exact atK d.Body ⟨d.dU,false⟩ rfl i pl aW
 .rw[fO];exact aW
theorem atU (list:azw) (hl:list.length<=4) (d:a6) (ao:abI d) (ax:0<=d.dU/\d.dU<=3):
  ∃r,wo list d=some r/\GS list d=some r/\0<=r.2/\(r.2=0->xg d.Body=true):=by
 unfold wo GS kX;rw[atu _ ao.2.1];have H_:=abr d ao.2.1 0 (zero_le _);rw[show((0:Nat):Int)=0 from rfl,List.drop_zero]at H_;simp only[bind_some];have nB:decide ((1:Int)<=(d.Body.length:Int))=decide (1<=d.Body.length):=decide_eq_decide.2 (by omega);have lo:decide ((d.Body.length:Int)<=20)=decide (d.Body.length<=20):=decide_eq_decide.2 (by omega);rw[nB,lo];show∃r,cond (!xg d.Body) _ _=_/\_;cases aa:xg d.Body
 .refine⟨(0,1),rfl,?_,by decide,λh=>by cases h⟩;cases au:(decide (1<=d.Body.length)&&decide (d.Body.length<=20))
  .rfl
  .rw[H_];have hw:yS d.Body 1=false:=by
    unfold xg at aa;rw[au,Bool.true_and]at aa;exact aa
   have:(tP 0 (fo d.Body 1) !=(d.Body.length:Int))=true:=by
    rw[Tn]at hw;cases he:fo d.Body 1 with
    |none=>simp only[tP,bne_iff_ne];omega
    |some n=>
     rw[he]at hw;have eb:n≠d.Body.length:=λe=>by simp[e]at hw
     simp only[tP,bne_iff_ne];omega
   simp only[Bool.not_true,cond_false,bind_some,this,cond_true]
 .obtain⟨ad,ag,aD⟩:=xh aa;have au:(decide (1<=d.Body.length)&&decide (d.Body.length<=20))=true:=by simp;omega
  have eb:(tP 0 (some d.Body.length) !=(d.Body.length:Int))=false:=by simp[tP]
  rw[au,H_,ad];simp only[Bool.not_true,cond_false,bind_some,eb];rw[aby d ao.2.1 ad ax.1 (by omega)];simp only[bind_some];have key:∀i,i<=d.Body.length->∃r:Int×Int,(∀m,d.Body.length-i<m->wm list d m (i:Int)=some r)/\
    (∀m,d.Body.length-i<m->Ac list d (hh d.Body [⟨d.dU,false⟩]) m (i:Int)=some r)/\0<=r.2:=by
   refine down d.Body.length ⟨(0,0),λm hm=>?_,λm hm=>?_,by decide⟩ ?_
   .obtain⟨m,rfl⟩:∃j,m=j+1:=⟨m-1,by omega⟩
    simp only[wm,Gs];rw[eh (Nat.le_refl _)];rfl
   .obtain⟨m,rfl⟩:∃j,m=j+1:=⟨m-1,by omega⟩
    simp only[Ac,Ky];rw[eh (Nat.le_refl _)];rfl
   .rintro i ai ⟨r,ek,bf,dA⟩;obtain⟨gZ,gx,iM,jH,rA⟩:=L8 d aa ax i ai;obtain⟨v,v1,v2,v3⟩:=abG list hl d i ai aD (ao.2.2 _ (List.getElem_mem ai)) (h8 d i) gZ ⟨gx,iM⟩ jH;have hg:bj (hh d.Body [⟨d.dU,false⟩]) (i:Int)=some (h8 d i):=by
     unfold bj;rw[if_pos (by omega)];exact rA
    by_cases aF:v=0
    .subst aF;refine⟨r,λm hm=>?_,λm hm=>?_,dA⟩
     .obtain⟨m,rfl⟩:∃j,m=j+1:=⟨m-1,by omega⟩
      simp only[wm,Gs];rw[ev ai,v1,et i _ ai (by omega),<-ek m (by omega)];rfl
     .obtain⟨m,rfl⟩:∃j,m=j+1:=⟨m-1,by omega⟩
      simp only[Ac,Ky];rw[ev ai,dX _ i ai,hg];simp only[cond_true,bind_some,v2];rw[et i _ ai (by omega),<-bf m (by omega)];rfl
    .have zK:decide (0<v)=true:=decide_eq_true (by omega);have yW:(v !=0)=true:=by simpa using aF
     refine⟨((i:Int),v),λm hm=>?_,λm hm=>?_,v3⟩
     .obtain⟨m,rfl⟩:∃j,m=j+1:=⟨m-1,by omega⟩
      simp only[wm,Gs];rw[ev ai,v1];simp only[cond_true,bind_some,zK]
     .obtain⟨m,rfl⟩:∃j,m=j+1:=⟨m-1,by omega⟩
      simp only[Ac,Ky];rw[ev ai,dX _ i ai,hg];simp only[cond_true,bind_some,v2,yW]
  obtain⟨r,ek,bf,dA⟩:=key 0 (zero_le _);refine⟨r,e5 (d.Body.length+1) λm hm=>ek m (by omega),e5 (d.Body.length+1) λm hm=>bf m (by omega),dA,λ_=>trivial⟩
def xi (d:a6):Bool:=decide (0<=d.dU)&&decide (d.dU<=3)
def Ea (list:azw):Bool:=gf (λi=>xi (list.getD i ⟨[],0,[]⟩)) list.length
theorem abJ {list:azw} (h:Ea list=true) (i:Nat) (ai:i<list.length):0<=list[i].dU/\list[i].dU<=3:=by
 have:=pd.1 h i ai;have e:list.getD i ⟨[],0,[]⟩=list[i]:=by simp[List.getD,ai]
 rw[e]at this;simpa [xi]using this
theorem atV (list:azw) (hl:list.length<=1048576):Kp list=some (Ea list):=by
 unfold Kp P3 P2;rw[tM (n:=list.length) (λi=> !xi (list.getD i ⟨[],0,[]⟩))]
 .simp only[bind_some,w_,Bool.not_not];rfl
 .intro m;simp only[GG,P1];rw[eh (Nat.le_refl _)];rfl
 .intro i ai m;simp only[GG,P1];rw[ev ai,mv _ i ⟨[],0,[]⟩ ai,et i _ ai (by omega)];simp only[cond_true,bind_some,P0,kX];rfl
def pf (list:azw):Prop:=list.length<=1048576/\∀d∈list,abI d
end Go.k6
