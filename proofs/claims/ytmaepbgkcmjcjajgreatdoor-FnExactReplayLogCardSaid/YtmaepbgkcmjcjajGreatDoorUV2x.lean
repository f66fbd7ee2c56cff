/- Part of a proof that a law returns true for every input. No condition. -/
import Derived.Test.YtmaepbgkcmjcjajGreatDoorUV1x
namespace Go.ld
open Option Go.IntKind Nat Or
open Go Go.ep
theorem abm (d:a1) (aq:d.Body.length<=1048576):∀(n at_ k:Nat) (s:dQ) (out:azR),out.length=d.Body.length->fu (d.Body.drop at_) 1=some k->k<=n->0<=s.scope->s.scope+k<=1000000->
  z7 n (at_:Int) s out d=some (((at_+k:Nat):Int),patch out at_ (hn (d.Body.drop at_) [s]))
 |0,at_,k,s,out,bS,he,aw,a_,ad=>by have:=sk he;omega
 |n+1,at_,k,s,out,bS,he,aw,a_,ad=>by
  have l:=sk he;rw[List.length_drop]at l;have ai:at_<d.Body.length:=by omega
  rw[drop_cons _ at_ ai]at he⊢;obtain⟨dv,qG,rfl⟩:=sj.1 he;simp only[Nat.zero_add]at qG;have bK:=D1 d.Body[at_];have atI:=abl (n:=n) aq (abm d aq n) (below d.Body[at_] s).scope d.Body[at_] (ew d.Body[at_]) bK (ew d.Body[at_]) 0 (at_+1) dv (patch out at_ [s]);have hlen:(hn (d.Body.drop (at_+1)) (List.replicate (ew d.Body[at_]) (below d.Body[at_] s)++[])).length=dv:=by
   rw[List.append_nil];exact A3 (by rw[List.length_replicate];exact qG)
  have atJ:(at_+1+dv:Nat)=at_+(dv+1):=by omega
  have ab:0<=(below d.Body[at_] s).scope/\(below d.Body[at_] s).scope+dv<=1000000:=by
   unfold below;simp only;split<;>omega
  have key:(b3 λm=>z6 (z7 n) d (below d.Body[at_] s).scope d.Body[at_] ((ew d.Body[at_]:Nat):Int) m (List.set out (Int.toNat (at_:Int)) s) (i64.wrap ((at_:Int)+1)) 0)=
    some (((at_+(dv+1):Nat):Int),patch out at_ (hn (d.Body[at_]::d.Body.drop (at_+1)) [s])):=by
   refine e5 (ew d.Body[at_]+1) λm hm=>?_;rw[Int.toNat_natCast,atE (by omega),ek at_ _ ai (by omega)];have h:=atI m (by omega) (by omega) (by rw[abj (by simp;omega),bS]) qG (by omega) ab.1 ab.2;rw[show((0:Nat):Int)=0 from rfl]at h;rw[h,atJ];congr 2;have atK:(hn (d.Body.drop (at_+1)) (List.replicate (ew d.Body[at_]) ⟨(below d.Body[at_] s).scope,d.Body[at_].Kind==1⟩)).length=dv:=A3 (by rw[List.length_replicate];exact qG);rw[abk (i:=at_) (a:=[s]) (j:=at_+1) rfl (by rw[atK,List.length_singleton];omega)];simp only[hn,List.append_nil,List.singleton_append];rfl
  simp only[z7,Qb];rw[dX out at_ (by omega),dX _ at_ ai];simp only[bind_some,Kk,abe];by_cases bh:d.Body[at_].Kind=4
  .have e:(d.Body[at_].Kind==4)=true:=by simpa using bh
   have aW:(below d.Body[at_] s).scope=s.scope+1:=by simp[below,bh]
   rw[e,cond_true,atF s.scope a_ (by omega),<-aW];exact key
  .have e:(d.Body[at_].Kind==4)=false:=by simpa using bh
   have aW:(below d.Body[at_] s).scope=s.scope:=by simp[below,bh]
   rw[e,cond_false];conv=>lhs;rw[show s.scope=(below d.Body[at_] s).scope from aW.symm]
   exact key
theorem atL (d:a1) (aq:d.Body.length<=1048576) (aa:fu d.Body 1=some d.Body.length) (a_:0<=d.dV) (ad:d.dV+d.Body.length<=1000000):
  Km d=some (hn d.Body [⟨d.dV,false⟩]):=by
 unfold Km;rw[tI 16 aq (by decide)];simp only[bind_some];have hlen:(hn d.Body [⟨d.dV,false⟩]).length=d.Body.length:=A3 (st:=[_]) aa;have:Kl 0 ⟨d.dV,false⟩ (List.replicate (Int.toNat (d.Body.length:Int)) ⟨0,false⟩) d=some ((d.Body.length:Int),hn d.Body [⟨d.dV,false⟩]):=by
  unfold Kl;refine e5 d.Body.length λm hm=>?_;have:=abm d aq m 0 d.Body.length ⟨d.dV,false⟩ (List.replicate (Int.toNat (d.Body.length:Int)) ⟨0,false⟩) (by simp) (by simpa using aa) hm a_ ad;rw[show((0:Nat):Int)=0 from rfl]at this;rw[this,Nat.zero_add,List.drop_zero];congr 2;unfold patch;rw[Nat.zero_add,hlen,List.drop_of_length_le (by simp)];simp
 rw[this];rfl
def Ti (l:azJ) (q:Nat):Bool:=match fu l 1 with
 |some e=>decide (q<e)
 |none=>false
def qp:azJ->Nat->Nat
 |[],_=>0
 |_::_,0=>0
 |p::r,q+1=>(if p.Kind=4/\Ti (p::r) (q+1)=true then 1 else 0)+qp r q
theorem atM (l:azJ):qp l 0=0:=by cases l<;>rfl
theorem abn:∀(l:azJ) (q:Nat),qp l q<=q
 |[],q=>by simp[qp]
 |_::_,0=>by simp[qp]
 |p::r,q+1=>by
  have:=abn r q;simp only[qp];split<;>omega
theorem atN (d:a1) (aq:d.Body.length<=1048576) (aa:fu d.Body 1=some d.Body.length) (a_: -1000000<=d.dV/\d.dV<=1000000) (q:Nat) (c6:q<d.Body.length):
  zM d (q:Int)=some (d.dV+(qp d.Body q:Nat)):=by
 unfold zM;have key:∀i,i<=q->∀(c:Int) m,-1000000<=c->c<=1000000+i->q-i<m->zL d (q:Int) m c (i:Int)=some (c+(qp (d.Body.drop i) (q-i):Nat)):=by
  refine down q ?_ ?_
  .intro c m _ _ hm;obtain⟨m,rfl⟩:∃j,m=j+1:=⟨m-1,by omega⟩
   simp only[zL,Po];rw[ei (Nat.le_refl _),Nat.sub_self,atM];simp
  .intro i ai ih c m nC ly hm;obtain⟨m,rfl⟩:∃j,m=j+1:=⟨m-1,by omega⟩
   simp only[zL,Po];have xe:i<d.Body.length:=by omega
   rw[el ai,dX _ i xe];simp only[cond_true,bind_some,Gb];obtain⟨e,Fe,VO,BL⟩:=atA aa xe;rw[abh _ aq i e Fe,ek i q ai (by omega)];simp only[bind_some];have Tj:qp (d.Body.drop i) (q-i)=(if d.Body[i].Kind=4/\q<i+e then 1 else 0)+qp (d.Body.drop (i+1)) (q-(i+1)):=by
    have abo:=Fe;rw[drop_cons _ i xe]at abo⊢;rw[show q-i=(q-(i+1))+1 by omega];simp only[qp,Ti,abo];congr 1;by_cases aw:d.Body[i].Kind=4
    .by_cases xg:q<i+e
     .rw[if_pos ⟨aw,by simp;omega⟩,if_pos ⟨aw,xg⟩]
     .rw[if_neg (λh=>by simp at h;omega),if_neg (λh=>xg h.2)]
    .rw[if_neg (λh=>aw h.1),if_neg (λh=>aw h.1)]
   rw[Tj];by_cases aw:d.Body[i].Kind=4
   .have tL:(d.Body[i].Kind==4)=true:=by simpa using aw
    rw[tL,cond_true];by_cases xg:q<i+e
    .rw[el xg,cond_true,eC (c+1) (by omega),ih (c+1) m (by omega) (by omega) (by omega),if_pos ⟨aw,xg⟩];congr 1;omega
    .rw[ei (by omega),cond_false,ih c m nC (by omega) (by omega),if_neg (λh=>xg h.2)];congr 1;omega
   .have tL:(d.Body[i].Kind==4)=false:=by simpa using aw
    rw[tL,cond_false,ih c m nC (by omega) (by omega),if_neg (λh=>aw h.1)];congr 1;omega
 refine e5 (q+1) λm hm=>?_;have:=key 0 (by omega) d.dV m (by omega) (by omega) (by omega);simpa using this
def yO:azJ->azR->Nat->Option dQ
 |_,[],_=>none
 |l,s::st,q=>match fu l 1 with
  |none=>none
  |some k=>if q<k then some s else yO (l.drop k) st (q-k)
theorem abp:∀(f:Nat) (r:azJ) (b:dQ) (st:azR) (k q:Nat),fu r f=some k->yO r (List.replicate f b++st) q=if q<k then some b else yO (r.drop k) st (q-k)
 |0,r,b,st,k,q,h=>by rw[A2]at h;cases h;simp
 |f+1,r,b,st,k,q,h=>by
  rw[Nat.add_comm f 1]at h;obtain⟨bZ,cu,ad,af,rfl⟩:=D2 h;rw[List.replicate_succ,List.cons_append];simp only[yO,ad];by_cases c6:q<bZ
  .rw[if_pos c6,if_pos (by omega)]
  .rw[if_neg c6,abp f _ b st cu (q-bZ) af];by_cases abq:q-bZ<cu
   .rw[if_pos abq,if_pos (by omega)]
   .rw[if_neg abq,if_neg (by omega),List.drop_drop,Nat.sub_sub]
theorem abr:∀(l:azJ) (st:azR) (k:Nat),fu l st.length=some k->∀q,q<k->∃s pl,yO l st q=some s/\(hn l st)[q]? =some pl/\pl.scope=s.scope+(qp l q:Nat)
 |[],[],k,h,q,c6=>by simp only[List.length_nil,fu,some.injEq]at h;omega
 |[],s::st,k,h,q,c6=>by simp[fu]at h
 |p::r,[],k,h,q,c6=>by simp only[List.length_nil,fu,some.injEq]at h;omega
 |p::r,s::st,k,h,q,c6=>by
  have a_:=h;obtain⟨dv,bI,rfl⟩:=sj.1 h;rw[List.length_cons,Nat.add_comm st.length 1]at a_;obtain⟨e,cu,he,pj,aw⟩:=D2 a_;obtain⟨hE,qG,rfl⟩:=sj.1 he;simp only[Nat.zero_add]at qG;cases q with
  |zero=>
   refine⟨s,s,?_,rfl,?_⟩
   .simp only[yO,he];rw[if_pos (by omega)]
   .simp[qp]
  |succ q=>
   have hl:fu r (List.replicate (ew p) (below p s)++st).length=some dv:=by
    rw[List.length_append,List.length_replicate,Nat.add_comm];exact bI
   obtain⟨aH,pl,ad,af,aG⟩:=abr r _ dv hl q (by omega);rw[abp _ _ _ _ hE q qG]at ad;simp only[hn,List.getElem?_cons_succ,yO,he,qp,Ti,decide_eq_true_eq];by_cases xg:q<hE
   .rw[if_pos xg]at ad;simp only[some.injEq]at ad;subst ad;refine⟨s,pl,by rw[if_pos (by omega)],af,?_⟩;rw[aG];by_cases L_:p.Kind=4
    .rw[if_pos ⟨L_,by omega⟩];simp only[below,if_pos L_];omega
    .rw[if_neg (λh=>L_ h.1)];simp only[below,if_neg L_];omega
   .rw[if_neg xg]at ad;refine⟨aH,pl,?_,af,?_⟩
    .rw[if_neg (by omega),List.drop_succ_cons,show q+1-(hE+1)=q-hE by omega];exact ad
    .rw[aG,if_neg (λh=>by omega)];omega
theorem atO {p:b_} (h:ew p=0):(p.Kind==1)=false:=by
 unfold ew at h;split at h
 .omega
 .rename_i aX;simp only[beq_eq_false_iff_ne];exact λe=>aX (.inl e)
theorem atP {p:b_} (h:ew p=2):(p.Kind==1)=false:=by
 unfold ew at h;split at h
 .omega
 .rename_i aX;simp only[beq_eq_false_iff_ne];exact λe=>aX (.inl e)
def Tk (b:azJ):Nat->Bool
 |0=>false
 |q+1=>match b[q]? with
  |some p=>p.Kind==1
  |none=>false
theorem abt:∀(l:azJ) (st:azR),(∀s∈st.tail,s.behind=false)->∀(q:Nat) (pl:dQ),(hn l st)[q]? =some pl->
  pl.behind=match q with
   |0=>match st with
    |s::_=>s.behind
    |[]=>false
   |q+1=>match l[q]? with
    |some p=>p.Kind==1
    |none=>false
 |[],st,_,q,pl,h=>by simp[hn]at h
 |p::r,[],_,q,pl,h=>by simp[hn]at h
 |p::r,s::st,yP,q,pl,h=>by
  cases q with
  |zero=>simp only[hn,List.getElem?_cons_zero,some.injEq]at h;subst h;rfl
  |succ q=>
   simp only[hn,List.getElem?_cons_succ]at h;have atQ:∀aH∈(List.replicate (ew p) (below p s)++st).tail,aH.behind=false:=by
    intro aH gh;have bK:=D1 p;rcases(by omega:ew p=0\/ew p=1\/ew p=2)with bK|bK|bK
    .rw[bK]at gh;simp only[List.replicate_zero,List.nil_append]at gh;exact yP aH (by simpa using List.mem_of_mem_tail gh)
    .rw[bK]at gh;simp only[List.replicate_succ,List.replicate_zero,List.cons_append,List.nil_append,List.tail_cons]at gh;exact yP aH (by simpa using gh)
    .rw[bK]at gh;simp only[List.replicate_succ,List.replicate_zero,List.cons_append,List.nil_append,List.tail_cons,List.mem_cons]at gh;rcases gh with rfl|gh
     .exact atP bK
     .exact yP aH (by simpa using gh)
   have ih:=abt r _ atQ q pl h;rw[ih];cases q with
   |succ q=>rfl
   |zero=>
    simp only[List.getElem?_cons_zero];have bK:=D1 p;rcases(by omega:ew p=0\/ew p=1\/ew p=2)with bK|bK|bK
    .rw[bK,atO bK];simp only[List.replicate_zero,List.nil_append];cases st with
     |nil=>rfl
     |cons s2 st=>exact yP s2 (by simp)
    .rw[bK];rfl
    .rw[bK];rfl
theorem atS (l:azJ) (s:dQ) (aa:s.behind=false) (q:Nat) (pl:dQ) (h:(hn l [s])[q]? =some pl):pl.behind=Tk l q:=by
 rw[abt l [s] (λs aa=>by simp at aa) q pl h];cases q with
 |zero=>exact aa
 |succ q=>rfl
theorem atT {l:Nat->Int->azv} {n:Nat} (p:Nat->Bool) (mw bad:Int) (a_:∀m,l (m+1) (n:Int)=some mw)
  (aa:∀i,i<n->∀m,l (m+1) (i:Int)=cond (p i) (l m ((i+1:Nat):Int)) (some bad)):b3 (λm=>l m 0)=some (cond (gq p n) mw bad):=by
 rw[pQ (n:=n) (λi=>some (cond ((List.range' i (n-i)).all p) mw bad))]
 .simp[gq,List.range_eq_range']
 .intro m;rw[a_];simp
 .intro i ai m ih;rw[aa i ai,ih,show n-i=(n-(i+1))+1 by omega,List.range'_succ];cases ay:p i<;>simp[ay]
def A4 (p:b_):Prop:=p.Name.length<=1048576/\p.ck.length<=1048576/\∀e∈p.ck,e.length<=1048576
def vw (p:b_) (er:Int):Bool:=gq (λi=>pT (p.ck.getD i []) er 15) p.ck.length
theorem abu (p:b_) (ay:A4 p) (er:Int) (h:0<=er/\er<=29):b3 (λn=>yg p n er 0)=some (cond (vw p er) 0 8):=by
 refine atT (l:=λm i=>yg p m er i) _ _ _ (λm=>?_) (λi ai m=>?_)
 .simp only[yg,Pq];rw[ei (Nat.le_refl _)];rfl
 .simp only[yg,Pq];rw[el ai,np _ i [] ai,ek i _ ai (by have:=ay.2.1;omega)];simp only[cond_true,bind_some];rw[aty _ er 15 (by omega) (by
   have:p.ck.getD i []=p.ck[i]:=by simp[List.getD,ai]
   rw[this];exact ay.2.2 _ (List.getElem_mem ai))]
  simp only[bind_some];cases pT (p.ck.getD i []) er 15<;>rfl
theorem atU (p:b_) (ay:A4 p) (pl:dQ) (h:0<=pl.scope/\pl.scope<=29):Kq p.ck pl=some (!(vw p pl.scope)):=by
 unfold Kq Qh;rw[sc (n:=p.ck.length) (λi=> !pT (p.ck.getD i []) pl.scope 15)]
 .simp only[bind_some,vr,Bool.not_not];rfl
 .intro m;simp only[Gx,Qg];rw[ei (Nat.le_refl _)];rfl
 .intro i ai m;simp only[Gx,Qg];rw[el ai,np _ i [] ai,ek i _ ai (by have:=ay.2.1;omega)];simp only[cond_true,bind_some,Qf];rw[atz _ pl.scope 15 h (by omega) (by
   have:p.ck.getD i []=p.ck[i]:=by simp[List.getD,ai]
   rw[this];exact ay.2.2 _ (List.getElem_mem ai))]
  simp only[bind_some]
theorem Tl (s:azq) (aa:s.length<=1048576):rJ s=some (hk s&& !(s==([116,97,117]:azq))):=by
 unfold rJ;rw[Td s (by omega)];rfl
theorem atV {s:azq} (h:(s==([116,97,117]:azq))=true):hk s=true:=by
 have:s=[116,97,117]:=by simpa using h
 subst this;decide
theorem abv (n:Int) (l:Nat) (hl:l<=1048576):wB n (l:Int)=some (decide (0<=n)&&decide (n<=(l:Int)-1)):=by
 unfold wB jG;rw[eC ((l:Int)-1) (by omega)];rfl
theorem abw (list:azK) (hl:list.length<=4) (d:a1) (at_:Nat) (atW:at_<d.Body.length) (ab:d.Body.length<=20) (ay:A4 d.Body[at_]) (pl:dQ)
  (kx:zM d (at_:Int)=some pl.scope) (abx:0<=pl.scope/\pl.scope<=29)
  (yQ:pl.behind=Tk d.Body at_):
  ∃r,s7 list d (at_:Int)=some r/\GB d.Body[at_] list pl=some r/\0<=r:=by
 have atX:∀p,A4 p->p=d.Body[at_]->∃r,s7 list d (at_:Int)=some r/\GB p list pl=some r/\0<=r:=by
  intro p ay MX;have OQ:=abu p ay pl.scope abx;have I5:=atU p ay pl abx;have sl:=Tl p.Name ay.1;have atY:=yL p.Name;have atZ:wa d (at_:Int) p=some (cond ((p.Kind==5)&& !pl.behind) 6 (cond ((p.Kind==4)&&decide (6<=pl.scope)) 7 (cond (vw p pl.scope) 0 8))):=by
   have at0:∀v,s6 d (at_:Int) p v=some (cond v 6 (cond ((p.Kind==4)&&decide (6<=pl.scope)) 7 (cond (vw p pl.scope) 0 8))):=by
    intro v;unfold s6;rw[kx];simp only[bind_some,OQ];cases v<;>cases(p.Kind==4&&decide (6<=pl.scope))<;>rfl
   unfold wa;simp only[at0];cases at_ with
   |zero=>
    replace yQ:pl.behind=false:=yQ;rw[yQ];simp only[Bool.not_false,Bool.and_true];cases p.Kind==5<;>rfl
   |succ q=>
    have c6:q<d.Body.length:=by omega
    have fY:(((q+1:Nat):Int)==0)=false:=by rw[beq_eq_false_iff_ne];omega
    rw[fY,HU (q+1) (by omega) (by omega),show q+1-1=q from rfl,dX _ q c6];replace yQ:pl.behind=(match d.Body[q]? with|some p=>p.Kind==1|none=>false):=yQ;rw[List.getElem?_eq_getElem c6]at yQ;simp only[cond_false,bind_some];simp only at yQ;rw[yQ];have eo:(d.Body[q].Kind !=1)= !(d.Body[q].Kind==1):=rfl;rw[eo];cases p.Kind==5<;>cases d.Body[q].Kind==1<;>rfl
  have ru:bj d.Body (at_:Int)=some p:=by rw[dX _ at_ atW,MX]
  have Ma:((p.ck.length:Int)==0)=true->vw p pl.scope=true:=by
   intro h;have:p.ck.length=0:=by simpa using h
   unfold vw;rw[this];rfl
  unfold s7 GB Qc Pm JK;rw[ru];simp only[Cc,uI,Gz,z8,bind_some,atZ,I5,sl,atY,jG,mr,abv _ _ (show list.length<=1048576 by omega),Qd];rw[eC ((list.length:Int)-1) (by omega)];obtain⟨K,N,Nm,lQ⟩:=p;simp only at*;by_cases a_:K=0
  .subst a_;simp only[Int.reduceBEq,Int.reduceLE,decide_true,decide_false,Bool.false_and,Bool.true_and,Bool.and_true,Bool.false_or,Bool.or_false,cond_true,cond_false,Bool.and_self,bind_some];cases N==0
   .exact⟨2,rfl,rfl,by decide⟩
   .cases Nm==[]
    .exact⟨2,rfl,rfl,by decide⟩
    .cases bq:((lQ.length:Int)==0)
     .exact⟨2,rfl,rfl,by decide⟩
     .simp only[Bool.and_true,Bool.not_true,Bool.not_false,cond_true,cond_false,Ma bq];exact⟨0,rfl,rfl,by decide⟩
  .by_cases ad:K=1
   .subst ad;simp only[Int.reduceBEq,Int.reduceLE,decide_true,decide_false,Bool.false_and,Bool.true_and,Bool.and_true,Bool.false_or,Bool.or_false,Bool.true_or,cond_true,cond_false,Bool.and_self,bind_some];cases N==0
    .exact⟨2,rfl,rfl,by decide⟩
    .simp only[Bool.not_true,cond_false];cases a8:(Nm==([116,97,117]:azq))
     .simp only[Bool.not_false,Bool.and_true,cond_true];cases hk Nm
      .exact⟨3,rfl,rfl,by decide⟩
      .simp only[Bool.not_true,cond_false,Bool.and_false,Bool.or_false,Bool.true_and];by_cases aX:lQ.length<=2
       .have aP:decide ((2:Int)<(lQ.length:Int))=false:=decide_eq_false (by omega);have aW:decide ((lQ.length:Int)<=2)=true:=decide_eq_true (by omega);rw[aP,aW,Bool.or_true];cases vw ⟨1,N,Nm,lQ⟩ pl.scope
        .exact⟨8,rfl,rfl,by decide⟩
        .exact⟨0,rfl,rfl,by decide⟩
       .have aP:decide ((2:Int)<(lQ.length:Int))=true:=decide_eq_true (by omega);have aW:decide ((lQ.length:Int)<=2)=false:=decide_eq_false (by omega);have aS:((lQ.length:Int)==0)=false:=by rw[beq_eq_false_iff_ne];omega
        rw[aP,aW,aS];exact⟨5,rfl,rfl,by decide⟩
     .rw[atV a8];simp only[Bool.not_true,cond_false,Bool.and_true,Bool.false_and,Bool.or_false];by_cases aX:lQ.length=0
      .have aP:decide ((2:Int)<(lQ.length:Int))=false:=decide_eq_false (by omega);have aW:decide ((0:Int)<(lQ.length:Int))=false:=decide_eq_false (by omega);have aS:((lQ.length:Int)==0)=true:=by rw[aX];rfl
       rw[aP,aW,Ma aS,aS];exact⟨0,rfl,rfl,by decide⟩
      .have aW:decide ((0:Int)<(lQ.length:Int))=true:=decide_eq_true (by omega);have aS:((lQ.length:Int)==0)=false:=by rw[beq_eq_false_iff_ne];omega
       rw[aW,aS,Bool.or_true];exact⟨5,rfl,rfl,by decide⟩
   .by_cases af:K=2
    .subst af;simp only[Int.reduceBEq,Int.reduceLE,decide_true,decide_false,Bool.false_and,Bool.true_and,Bool.and_true,Bool.false_or,Bool.or_false,cond_true,cond_false,Bool.and_self,bind_some];cases N==0
     .exact⟨2,rfl,rfl,by decide⟩
     .cases Nm==[]
      .exact⟨2,rfl,rfl,by decide⟩
      .cases bq:((lQ.length:Int)==0)
       .exact⟨2,rfl,rfl,by decide⟩
       .simp only[Bool.and_true,Bool.not_true,Bool.not_false,cond_true,cond_false,Ma bq];exact⟨0,rfl,rfl,by decide⟩
    .by_cases aG:K=3
     .subst aG;simp only[Int.reduceBEq,Int.reduceLE,decide_true,decide_false,Bool.false_and,Bool.true_and,Bool.and_true,Bool.false_or,Bool.or_false,Bool.true_or,Bool.or_true,cond_true,cond_false,Bool.and_self,bind_some];cases N==0
      .exact⟨2,rfl,rfl,by decide⟩
      .cases Nm==[]
       .exact⟨2,rfl,rfl,by decide⟩
       .have eo:((lQ.length:Int) !=1)= !((lQ.length:Int)==1):=rfl;rw[eo];cases((lQ.length:Int)==1)
        .exact⟨5,rfl,rfl,by decide⟩
        .cases vw ⟨3,N,Nm,lQ⟩ pl.scope
         .exact⟨8,rfl,rfl,by decide⟩
         .exact⟨0,rfl,rfl,by decide⟩
     .by_cases bh:K=4
      .subst bh;simp only[Int.reduceBEq,Int.reduceLE,decide_true,decide_false,Bool.false_and,Bool.true_and,Bool.and_true,Bool.false_or,Bool.or_false,Bool.true_or,Bool.or_true,cond_true,cond_false,Bool.and_self,bind_some];cases Nm==[]
       .exact⟨2,rfl,rfl,by decide⟩
       .cases bq:((lQ.length:Int)==0)
        .exact⟨2,rfl,rfl,by decide⟩
        .rw[Ma bq];cases(decide (1<=N)&&decide (N<=7))
         .exact⟨4,rfl,rfl,by decide⟩
         .cases decide (6<=pl.scope)
          .exact⟨0,rfl,rfl,by decide⟩
          .exact⟨7,rfl,rfl,by decide⟩
      .by_cases b6:K=5
       .subst b6;simp only[Int.reduceBEq,Int.reduceLE,decide_true,decide_false,Bool.false_and,Bool.true_and,Bool.and_true,Bool.false_or,Bool.or_false,Bool.true_or,Bool.or_true,cond_true,cond_false,Bool.and_self,bind_some];cases Nm==[]
        .exact⟨2,rfl,rfl,by decide⟩
        .cases ai:(decide (0<=N)&&decide (N<=(list.length:Int)-1))
         .exact⟨4,rfl,rfl,by decide⟩
         .simp only[Bool.and_eq_true,decide_eq_true_eq]at ai;obtain⟨i,rfl⟩:∃i:Nat,N=i:=⟨N.toNat,by omega⟩
          rw[dX list i (by omega)];simp only[bind_some,Bool.not_true,cond_false];have eo:((lQ.length:Int) !=list[i].dV)= !((lQ.length:Int)==list[i].dV):=rfl;rw[eo];cases((lQ.length:Int)==list[i].dV)
          .exact⟨5,rfl,rfl,by decide⟩
          .cases pl.behind
           .exact⟨6,rfl,rfl,by decide⟩
           .cases vw ⟨5,i,Nm,lQ⟩ pl.scope
            .exact⟨8,rfl,rfl,by decide⟩
            .exact⟨0,rfl,rfl,by decide⟩
       .have fY:(K==0)=false:=by simpa using a_
        have aP:(K==1)=false:=by simpa using ad
        have aW:(K==2)=false:=by simpa using af
        have aS:(K==3)=false:=by simpa using aG
        have cf:(K==4)=false:=by simpa using bh
        have cF:(K==5)=false:=by simpa using b6
        have cw:(decide (0<=K)&&decide (K<=5))=false:=by
         rw[Bool.and_eq_false_iff,decide_eq_false_iff_not,decide_eq_false_iff_not];omega
        simp only[fY,aP,aW,aS,cf,cF,cw,Bool.false_and,cond_false,bind_some];exact⟨2,rfl,rfl,by decide⟩
 exact atX _ ay rfl
theorem A5 {β:Type} {l:Nat->Int->Option β} {n:Nat} (p:Nat->Bool) (mw bad:Option β) (a_:∀m,l (m+1) (n:Int)=mw)
  (aa:∀i,i<n->∀m,l (m+1) (i:Int)=cond (p i) (l m ((i+1:Nat):Int)) bad):b3 (λm=>l m 0)=cond (gq p n) mw bad:=by
 rw[pQ (n:=n) (λi=>cond ((List.range' i (n-i)).all p) mw bad)]
 .simp[gq,List.range_eq_range']
 .intro m;rw[a_];simp
 .intro i ai m ih;rw[aa i ai,ih,show n-i=(n-(i+1))+1 by omega,List.range'_succ];cases ay:p i<;>simp[ay]
def aby (d:a1):Prop:=d.Name.length<=1048576/\d.Body.length<=1048576/\∀p∈d.Body,A4 p
def xh (b:azJ):Bool:=(decide (1<=b.length)&&decide (b.length<=20))&&yN b 1
theorem xi {b:azJ} (h:xh b=true):fu b 1=some b.length/\1<=b.length/\b.length<=20:=by
 simp only[xh,Tf,Bool.and_eq_true,decide_eq_true_eq,beq_iff_eq]at h;exact⟨h.2,h.1.1,h.1.2⟩
def jj (d:a1) (i:Nat):dQ:=(hn d.Body [⟨d.dV,false⟩]).getD i ⟨0,false⟩
theorem Tm (d:a1) (h:xh d.Body=true) (ay:0<=d.dV/\d.dV<=3) (i:Nat) (ai:i<d.Body.length):
  zM d (i:Int)=some (jj d i).scope/\0<=(jj d i).scope/\(jj d i).scope<=29/\
   (jj d i).behind=Tk d.Body i/\
   (hn d.Body [⟨d.dV,false⟩])[i]? =some (jj d i):=by
 obtain⟨ad,af,aG⟩:=xi h;obtain⟨s,pl,aP,aW,aS⟩:=abr d.Body [⟨d.dV,false⟩] d.Body.length ad i ai;have aa:s=⟨d.dV,false⟩:=by
  simp only[yO,ad]at aP;rw[if_pos ai]at aP;exact(some.inj aP).symm
 subst aa;have fO:jj d i=pl:=by unfold jj;rw[List.getD_eq_getElem?_getD,aW];rfl
 have au:=abn d.Body i;simp only at aS;refine⟨?_,?_,?_,?_,?_⟩
 .rw[atN d (by omega) ad (by omega) i ai,fO,aS]
 .rw[fO,aS];omega
 .rw[fO,aS];omega
 .rw[fO];exact atS d.Body ⟨d.dV,false⟩ rfl i pl aW
 .rw[fO];exact aW
theorem at1 (list:azK) (hl:list.length<=4) (d:a1) (aq:aby d) (ay:0<=d.dV/\d.dV<=3):
  ∃r,wc list d=some r/\GC list d=some r/\0<=r.2/\(r.2=0->xh d.Body=true):=by
 unfold wc GC jG;rw[atB _ aq.2.1];have HV:=abg d aq.2.1 0 (zero_le _);rw[show((0:Nat):Int)=0 from rfl,List.drop_zero]at HV;simp only[bind_some];have nC:decide ((1:Int)<=(d.Body.length:Int))=decide (1<=d.Body.length):=decide_eq_decide.2 (by omega);have ly:decide ((d.Body.length:Int)<=20)=decide (d.Body.length<=20):=decide_eq_decide.2 (by omega);rw[nC,ly];show∃r,cond (!xh d.Body) _ _=_/\_;cases aa:xh d.Body
 .refine⟨(0,1),rfl,?_,by decide,λh=>by cases h⟩;cases au:(decide (1<=d.Body.length)&&decide (d.Body.length<=20))
  .rfl
  .rw[HV];have hw:yN d.Body 1=false:=by
    unfold xh at aa;rw[au,Bool.true_and]at aa;exact aa
   have:(tK 0 (fu d.Body 1) !=(d.Body.length:Int))=true:=by
    rw[Tf]at hw;cases he:fu d.Body 1 with
    |none=>simp only[tK,bne_iff_ne];omega
    |some n=>
     rw[he]at hw;have eo:n≠d.Body.length:=λe=>by simp[e]at hw
     simp only[tK,bne_iff_ne];omega
   simp only[Bool.not_true,cond_false,bind_some,this,cond_true]
 .obtain⟨ad,af,aG⟩:=xi aa;have au:(decide (1<=d.Body.length)&&decide (d.Body.length<=20))=true:=by simp;omega
  have eo:(tK 0 (some d.Body.length) !=(d.Body.length:Int))=false:=by simp[tK]
  rw[au,HV,ad];simp only[Bool.not_true,cond_false,bind_some,eo];rw[atL d aq.2.1 ad ay.1 (by omega)];simp only[bind_some];have key:∀i,i<=d.Body.length->∃r:Int×Int,(∀m,d.Body.length-i<m->wb list d m (i:Int)=some r)/\
    (∀m,d.Body.length-i<m->z_ list d (hn d.Body [⟨d.dV,false⟩]) m (i:Int)=some r)/\0<=r.2:=by
   refine down d.Body.length ⟨(0,0),λm hm=>?_,λm hm=>?_,by decide⟩ ?_
   .obtain⟨m,rfl⟩:∃j,m=j+1:=⟨m-1,by omega⟩
    simp only[wb,Gf];rw[ei (Nat.le_refl _)];rfl
   .obtain⟨m,rfl⟩:∃j,m=j+1:=⟨m-1,by omega⟩
    simp only[z_,Kr];rw[ei (Nat.le_refl _)];rfl
   .rintro i ai ⟨r,en,bd,c_⟩;obtain⟨ia,gX,jm,jR,uh⟩:=Tm d aa ay i ai;obtain⟨v,v1,v2,v3⟩:=abw list hl d i ai aG (aq.2.2 _ (List.getElem_mem ai)) (jj d i) ia ⟨gX,jm⟩ jR;have hg:bj (hn d.Body [⟨d.dV,false⟩]) (i:Int)=some (jj d i):=by
     unfold bj;rw[if_pos (by omega)];exact uh
    by_cases aJ:v=0
    .subst aJ;refine⟨r,λm hm=>?_,λm hm=>?_,c_⟩
     .obtain⟨m,rfl⟩:∃j,m=j+1:=⟨m-1,by omega⟩
      simp only[wb,Gf];rw[el ai,v1,ek i _ ai (by omega),<-en m (by omega)];rfl
     .obtain⟨m,rfl⟩:∃j,m=j+1:=⟨m-1,by omega⟩
      simp only[z_,Kr];rw[el ai,dX _ i ai,hg];simp only[cond_true,bind_some,v2];rw[ek i _ ai (by omega),<-bd m (by omega)];rfl
    .have zH:decide (0<v)=true:=decide_eq_true (by omega);have yR:(v !=0)=true:=by simpa using aJ
     refine⟨((i:Int),v),λm hm=>?_,λm hm=>?_,v3⟩
     .obtain⟨m,rfl⟩:∃j,m=j+1:=⟨m-1,by omega⟩
      simp only[wb,Gf];rw[el ai,v1];simp only[cond_true,bind_some,zH]
     .obtain⟨m,rfl⟩:∃j,m=j+1:=⟨m-1,by omega⟩
      simp only[z_,Kr];rw[el ai,dX _ i ai,hg];simp only[cond_true,bind_some,v2,yR]
  obtain⟨r,en,bd,c_⟩:=key 0 (zero_le _);refine⟨r,e5 (d.Body.length+1) λm hm=>en m (by omega),e5 (d.Body.length+1) λm hm=>bd m (by omega),c_,λ_=>trivial⟩
def xj (d:a1):Bool:=decide (0<=d.dV)&&decide (d.dV<=3)
def D3 (list:azK):Bool:=gq (λi=>xj (list.getD i ⟨[],0,[]⟩)) list.length
theorem abz {list:azK} (h:D3 list=true) (i:Nat) (ai:i<list.length):0<=list[i].dV/\list[i].dV<=3:=by
 have:=n_.1 h i ai;have e:list.getD i ⟨[],0,[]⟩=list[i]:=by simp[List.getD,ai]
 rw[e]at this;simpa [xj]using this
theorem at2 (list:azK) (hl:list.length<=1048576):Kh list=some (D3 list):=by
 unfold Kh P5 P4;rw[sc (n:=list.length) (λi=> !xj (list.getD i ⟨[],0,[]⟩))]
 .simp only[bind_some,vr,Bool.not_not];rfl
 .intro m;simp only[Gr,P3];rw[ei (Nat.le_refl _)];rfl
 .intro i ai m;simp only[Gr,P3];rw[el ai,np _ i ⟨[],0,[]⟩ ai,ek i _ ai (by omega)];simp only[cond_true,bind_some,P2,jG];rfl
def vx (list:azK):Prop:=list.length<=1048576/\∀d∈list,aby d
end Go.ld
