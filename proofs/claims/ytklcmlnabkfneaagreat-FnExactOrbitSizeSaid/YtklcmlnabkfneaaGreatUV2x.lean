/- Part of a proof that a law returns true for every input. No condition. -/
import Derived.Test.YtklcmlnabkfneaaGreatUV1x
namespace Go.ll
open Option Go.IntKind Nat Or
open Go Go.cU
def below (p:ck) (s:cD):cD:=⟨if p.Kind=4 then s.scope+1 else s.scope,p.Kind==1⟩
def gm:aiQ->aiV->aiV
 |[],_=>[]
 |_::_,[]=>[]
 |p::r,s::st=>s::gm r (List.replicate (dY p) (below p s)++st)
theorem aeF (l:aiQ):gm l []=[]:=by cases l<;>rfl
theorem vk:∀{l:aiQ} {st:aiV} {k:Nat},eo l st.length=some k->(gm l st).length=k
 |[],[],k,h=>by simp only[List.length_nil,eo,some.injEq]at h;subst h;rfl
 |[],s::st,k,h=>by simp[eo]at h
 |p::r,[],k,h=>by simp only[List.length_nil,eo,some.injEq]at h;subst h;rfl
 |p::r,s::st,k,h=>by
  obtain⟨ct,bq,rfl⟩:=pJ.1 h;simp only[gm,List.length_cons];rw[vk (k:=ct) (by rw[List.length_append,List.length_replicate,Nat.add_comm];exact bq)]
theorem OL:∀{l:aiQ} {s1 s2:aiV} {k:Nat},eo l s1.length=some k->gm l (s1++s2)=gm l s1++gm (l.drop k) s2
 |[],[],s2,k,h=>by simp only[List.length_nil,eo,some.injEq]at h;subst h;rfl
 |[],s::st,s2,k,h=>by simp[eo]at h
 |p::r,[],s2,k,h=>by simp only[List.length_nil,eo,some.injEq]at h;subst h;simp[gm]
 |p::r,s::st,s2,k,h=>by
  obtain⟨ct,bq,rfl⟩:=pJ.1 h;simp only[gm,List.cons_append,List.drop_succ_cons];rw[<-List.append_assoc,OL (k:=ct) (by rw[List.length_append,List.length_replicate,Nat.add_comm];exact bq)]
def patch (out:aiV) (i:Nat) (new:aiV):aiV:=out.take i++(new++out.drop (i+new.length))
theorem aeG (out:aiV) (i:Nat):patch out i []=out:=by simp[patch]
theorem OM {out:aiV} {i:Nat} {new:aiV} (h:i+new.length<=out.length):(patch out i new).length=out.length:=by
 simp[patch];omega
theorem ON {out:aiV} {i j:Nat} {a b:aiV} (bd:j=i+a.length) (h:i+a.length+b.length<=out.length):patch (patch out i a) j b=patch out i (a++b):=by
 subst bd;unfold patch;have aN:(out.take i).length=i:=by rw[List.length_take];omega
 have t1:(out.take i++(a++out.drop (i+a.length))).take (i+a.length)=out.take i++a:=by
  rw[<-List.append_assoc,List.take_left' (by rw[List.length_append,aN])]
 have t2:(out.take i++(a++out.drop (i+a.length))).drop (i+a.length+b.length)=out.drop (i+a.length+b.length):=by
  rw[<-List.append_assoc,<-List.drop_drop,List.drop_left' (by rw[List.length_append,aN]),List.drop_drop]
 rw[t1,t2];simp only[List.append_assoc,List.length_append,Nat.add_assoc]
theorem aeH {out:aiV} {i:Nat} {s:cD} (h:i<out.length):out.set i s=patch out i [s]:=by
 unfold patch;apply List.ext_getElem?;intro j;rw[List.getElem?_set];rcases Nat.lt_trichotomy i j with qc|qc|qc
 .rw[if_neg (by omega),List.getElem?_append_right (by simp;omega)];have aN:(out.take i).length=i:=by simp;omega
  rw[aN];obtain⟨d,rfl⟩:∃d,j=i+(d+1):=⟨j-i-1,by omega⟩
  rw[show i+(d+1)-i=d+1 by omega];simp only[List.singleton_append,List.getElem?_cons_succ,List.length_singleton,List.getElem?_drop];congr 1;omega
 .subst qc;rw[if_pos rfl,if_pos h,List.getElem?_append_right (by simp;omega)];have aN:(out.take i).length=i:=by simp;omega
  rw[aN];simp
 .rw[if_neg (by omega),List.getElem?_append_left (by simp;omega),List.getElem?_take,if_pos qc]
theorem aeI (n:Int) (h:0<=n) (ad:n<=1000000):i64.wrap (n+1)=n+1:=gl _ (by omega)
theorem OO {rec:Int->cD->aiV->bI->Option (Int×aiV)} {d:bI} {n:Nat} (ag:d.Body.length<=1048576)
  (OP:∀(at_ k:Nat) (s:cD) (out:aiV),out.length=d.Body.length->eo (d.Body.drop at_) 1=some k->k<=n->0<=s.scope->s.scope+k<=1000000->
   rec (at_:Int) s out d=some (((at_+k:Nat):Int),patch out at_ (gm (d.Body.drop at_) [s])))
  (cW:Int) (p:ck) (f:Nat) (bn:f<=2):∀(c j at_ k:Nat) (out:aiV) (m:Nat),j+c=f->c<m->out.length=d.Body.length->eo (d.Body.drop at_) c=some k->k<=n->0<=cW->cW+k<=1000000->
   sU rec d cW p (f:Int) m out (at_:Int) (j:Int)=some (((at_+k:Nat):Int),patch out at_ (gm (d.Body.drop at_) (List.replicate c ⟨cW,p.Kind==1⟩)))
 |0,j,at_,k,out,m,bd,hm,bx,he,aw,a7,ab=>by
  obtain⟨m,rfl⟩:∃i,m=i+1:=⟨m-1,by omega⟩
  rw[y3]at he;cases he;simp only[sU,FM];rw[fq (by omega)];simp[aeF,aeG]
 |c+1,j,at_,k,out,m,bd,hm,bx,he,aw,a7,ab=>by
  obtain⟨m,rfl⟩:∃i,m=i+1:=⟨m-1,by omega⟩
  rw[Nat.add_comm c 1]at he;obtain⟨b1,cb,aN,aR,rfl⟩:=y4 he;have ev:=ti aN;have l2:=ti aR;rw[List.length_drop]at ev;rw[List.drop_drop,List.length_drop]at l2;have hlen:(gm (d.Body.drop at_) [⟨cW,p.Kind==1⟩]).length=b1:=vk (st:=[_]) aN;simp only[sU,FM];rw[fe (by omega),OP at_ b1 _ out bx aN (by omega) a7 (by show cW+(b1:Int)<=_;omega),e5 j f (by omega) (by omega)];simp only[cond_true,bind_some];have fl:(patch out at_ (gm (d.Body.drop at_) [⟨cW,p.Kind==1⟩])).length=d.Body.length:=by
   rw[OM (by rw[hlen];omega),bx]
  rw[List.drop_drop]at aR;rw[OO ag OP cW p f bn c (j+1) (at_+b1) cb _ m (by omega) (by omega) fl aR (by omega) a7 (by omega)];have aeJ:(gm (d.Body.drop (at_+b1)) (List.replicate c ⟨cW,p.Kind==1⟩)).length=cb:=vk (by rw[List.length_replicate];exact aR);have aeK:gm (d.Body.drop at_) (List.replicate (c+1) ⟨cW,p.Kind==1⟩)=gm (d.Body.drop at_) [⟨cW,p.Kind==1⟩]++gm (d.Body.drop (at_+b1)) (List.replicate c ⟨cW,p.Kind==1⟩):=by
   rw[List.replicate_succ,<-List.singleton_append,OL (k:=b1) (s1:=[_]) aN,List.drop_drop]
  rw[aeK,ON (by rw[hlen]) (by rw[hlen,aeJ];omega),Nat.add_assoc]
theorem OQ (d:bI) (ag:d.Body.length<=1048576):∀(n at_ k:Nat) (s:cD) (out:aiV),out.length=d.Body.length->eo (d.Body.drop at_) 1=some k->k<=n->0<=s.scope->s.scope+k<=1000000->
  sV n (at_:Int) s out d=some (((at_+k:Nat):Int),patch out at_ (gm (d.Body.drop at_) [s]))
 |0,at_,k,s,out,bx,he,aw,a7,ab=>by have:=ti he;omega
 |n+1,at_,k,s,out,bx,he,aw,a7,ab=>by
  have l:=ti he;rw[List.length_drop]at l;have ak:at_<d.Body.length:=by omega
  rw[drop_cons _ at_ ak]at he⊢;obtain⟨ct,my,rfl⟩:=pJ.1 he;simp only[Nat.zero_add]at my;have bn:=vj d.Body[at_];have aeL:=OO (n:=n) ag (OQ d ag n) (below d.Body[at_] s).scope d.Body[at_] (dY d.Body[at_]) bn (dY d.Body[at_]) 0 (at_+1) ct (patch out at_ [s]);have hlen:(gm (d.Body.drop (at_+1)) (List.replicate (dY d.Body[at_]) (below d.Body[at_] s)++[])).length=ct:=by
   rw[List.append_nil];exact vk (by rw[List.length_replicate];exact my)
  have aeM:(at_+1+ct:Nat)=at_+(ct+1):=by omega
  have R:0<=(below d.Body[at_] s).scope/\(below d.Body[at_] s).scope+ct<=1000000:=by
   unfold below;simp only;split<;>omega
  have key:(lim λm=>sU (sV n) d (below d.Body[at_] s).scope d.Body[at_] ((dY d.Body[at_]:Nat):Int) m (List.set out (Int.toNat (at_:Int)) s) (i64.wrap ((at_:Int)+1)) 0)=
    some (((at_+(ct+1):Nat):Int),patch out at_ (gm (d.Body[at_]::d.Body.drop (at_+1)) [s])):=by
   refine eF (dY d.Body[at_]+1) λm hm=>?_;rw[Int.toNat_natCast,aeH (by omega),e5 at_ _ ak (by omega)];have h:=aeL m (by omega) (by omega) (by rw[OM (by simp;omega),bx]) my (by omega) R.1 R.2;rw[show((0:Nat):Int)=0 from rfl]at h;rw[h,aeM];congr 2;have aeN:(gm (d.Body.drop (at_+1)) (List.replicate (dY d.Body[at_]) ⟨(below d.Body[at_] s).scope,d.Body[at_].Kind==1⟩)).length=ct:=vk (by rw[List.length_replicate];exact my);rw[ON (i:=at_) (a:=[s]) (j:=at_+1) rfl (by rw[aeN,List.length_singleton];omega)];simp only[gm,List.append_nil,List.singleton_append];rfl
  simp only[sV,FN];rw[eP out at_ (by omega),eP _ at_ ak];simp only[bind_some,A8,OJ];by_cases aZ:d.Body[at_].Kind=4
  .have e:(d.Body[at_].Kind==4)=true:=by simpa using aZ
   have aR:(below d.Body[at_] s).scope=s.scope+1:=by simp[below,aZ]
   rw[e,cond_true,aeI s.scope a7 (by omega),<-aR];exact key
  .have e:(d.Body[at_].Kind==4)=false:=by simpa using aZ
   have aR:(below d.Body[at_] s).scope=s.scope:=by simp[below,aZ]
   rw[e,cond_false];conv=>lhs;rw[show s.scope=(below d.Body[at_] s).scope from aR.symm]
   exact key
theorem OR (d:bI) (ag:d.Body.length<=1048576) (U:eo d.Body 1=some d.Body.length) (a7:0<=d.dr) (ab:d.dr+d.Body.length<=1000000):
  uJ d=some (gm d.Body [⟨d.dr,false⟩]):=by
 unfold uJ;rw[pE 16 ag (by decide)];simp only[bind_some];have hlen:(gm d.Body [⟨d.dr,false⟩]).length=d.Body.length:=vk (st:=[_]) U;have:A9 0 ⟨d.dr,false⟩ (List.replicate (Int.toNat (d.Body.length:Int)) ⟨0,false⟩) d=some ((d.Body.length:Int),gm d.Body [⟨d.dr,false⟩]):=by
  unfold A9;refine eF d.Body.length λm hm=>?_;have:=OQ d ag m 0 d.Body.length ⟨d.dr,false⟩ (List.replicate (Int.toNat (d.Body.length:Int)) ⟨0,false⟩) (by simp) (by simpa using U) hm a7 ab;rw[show((0:Nat):Int)=0 from rfl]at this;rw[this,Nat.zero_add,List.drop_zero];congr 2;unfold patch;rw[Nat.zero_add,hlen,List.drop_of_length_le (by simp)];simp
 rw[this];rfl
def Ia (l:aiQ) (q:Nat):Bool:=match eo l 1 with
 |some e=>decide (q<e)
 |none=>false
def mh:aiQ->Nat->Nat
 |[],_=>0
 |_::_,0=>0
 |p::r,q+1=>(if p.Kind=4/\Ia (p::r) (q+1)=true then 1 else 0)+mh r q
theorem aeO (l:aiQ):mh l 0=0:=by cases l<;>rfl
theorem OS:∀(l:aiQ) (q:Nat),mh l q<=q
 |[],q=>by simp[mh]
 |_::_,0=>by simp[mh]
 |p::r,q+1=>by
  have:=OS r q;simp only[mh];split<;>omega
theorem aeP (d:bI) (ag:d.Body.length<=1048576) (U:eo d.Body 1=some d.Body.length) (a7: -1000000<=d.dr/\d.dr<=1000000) (q:Nat) (bX:q<d.Body.length):
  rp d (q:Int)=some (d.dr+(mh d.Body q:Nat)):=by
 unfold rp;have key:∀i,i<=q->∀(c:Int) m,-1000000<=c->c<=1000000+i->q-i<m->sK d (q:Int) m c (i:Int)=some (c+(mh (d.Body.drop i) (q-i):Nat)):=by
  refine down q ?_ ?_
  .intro c m _ _ hm;obtain⟨m,rfl⟩:∃j,m=j+1:=⟨m-1,by omega⟩
   simp only[sK,Fe];rw[fq (Nat.le_refl _),Nat.sub_self,aeO];simp
  .intro i ak ih c m mr lZ hm;obtain⟨m,rfl⟩:∃j,m=j+1:=⟨m-1,by omega⟩
   simp only[sK,Fe];have Ib:i<d.Body.length:=by omega
   rw[fe ak,eP _ i Ib];simp only[cond_true,bind_some,xC];obtain⟨e,wx,Kd,tM⟩:=aeB U Ib;rw[aeE _ ag i e wx,e5 i q ak (by omega)];simp only[bind_some];have aeQ:mh (d.Body.drop i) (q-i)=(if d.Body[i].Kind=4/\q<i+e then 1 else 0)+mh (d.Body.drop (i+1)) (q-(i+1)):=by
    have OT:=wx;rw[drop_cons _ i Ib]at OT⊢;rw[show q-i=(q-(i+1))+1 by omega];simp only[mh,Ia,OT];congr 1;by_cases aw:d.Body[i].Kind=4
    .by_cases qC:q<i+e
     .rw[if_pos ⟨aw,by simp;omega⟩,if_pos ⟨aw,qC⟩]
     .rw[if_neg (λh=>by simp at h;omega),if_neg (λh=>qC h.2)]
    .rw[if_neg (λh=>aw h.1),if_neg (λh=>aw h.1)]
   rw[aeQ];by_cases aw:d.Body[i].Kind=4
   .have Ic:(d.Body[i].Kind==4)=true:=by simpa using aw
    rw[Ic,cond_true];by_cases qC:q<i+e
    .rw[fe qC,cond_true,gl (c+1) (by omega),ih (c+1) m (by omega) (by omega) (by omega),if_pos ⟨aw,qC⟩];congr 1;omega
    .rw[fq (by omega),cond_false,ih c m mr (by omega) (by omega),if_neg (λh=>qC h.2)];congr 1;omega
   .have Ic:(d.Body[i].Kind==4)=false:=by simpa using aw
    rw[Ic,cond_false,ih c m mr (by omega) (by omega),if_neg (λh=>aw h.1)];congr 1;omega
 refine eF (q+1) λm hm=>?_;have:=key 0 (by omega) d.dr m (by omega) (by omega) (by omega);simpa using this
def rO:aiQ->aiV->Nat->Option cD
 |_,[],_=>none
 |l,s::st,q=>match eo l 1 with
  |none=>none
  |some k=>if q<k then some s else rO (l.drop k) st (q-k)
theorem OU:∀(f:Nat) (r:aiQ) (b:cD) (st:aiV) (k q:Nat),eo r f=some k->rO r (List.replicate f b++st) q=if q<k then some b else rO (r.drop k) st (q-k)
 |0,r,b,st,k,q,h=>by rw[y3]at h;cases h;simp
 |f+1,r,b,st,k,q,h=>by
  rw[Nat.add_comm f 1]at h;obtain⟨b1,cb,ab,ad,rfl⟩:=y4 h;rw[List.replicate_succ,List.cons_append];simp only[rO,ab];by_cases bX:q<b1
  .rw[if_pos bX,if_pos (by omega)]
  .rw[if_neg bX,OU f _ b st cb (q-b1) ad];by_cases OV:q-b1<cb
   .rw[if_pos OV,if_pos (by omega)]
   .rw[if_neg OV,if_neg (by omega),List.drop_drop,Nat.sub_sub]
theorem OW:∀(l:aiQ) (st:aiV) (k:Nat),eo l st.length=some k->∀q,q<k->∃s pl,rO l st q=some s/\(gm l st)[q]? =some pl/\pl.scope=s.scope+(mh l q:Nat)
 |[],[],k,h,q,bX=>by simp only[List.length_nil,eo,some.injEq]at h;omega
 |[],s::st,k,h,q,bX=>by simp[eo]at h
 |p::r,[],k,h,q,bX=>by simp only[List.length_nil,eo,some.injEq]at h;omega
 |p::r,s::st,k,h,q,bX=>by
  have a7:=h;obtain⟨ct,bq,rfl⟩:=pJ.1 h;rw[List.length_cons,Nat.add_comm st.length 1]at a7;obtain⟨e,cb,he,nK,aw⟩:=y4 a7;obtain⟨fF,my,rfl⟩:=pJ.1 he;simp only[Nat.zero_add]at my;cases q with
  |zero=>
   refine⟨s,s,?_,rfl,?_⟩
   .simp only[rO,he];rw[if_pos (by omega)]
   .simp[mh]
  |succ q=>
   have aO:eo r (List.replicate (dY p) (below p s)++st).length=some ct:=by
    rw[List.length_append,List.length_replicate,Nat.add_comm];exact bq
   obtain⟨aD,pl,ab,ad,aA⟩:=OW r _ ct aO q (by omega);rw[OU _ _ _ _ fF q my]at ab;simp only[gm,List.getElem?_cons_succ,rO,he,mh,Ia,decide_eq_true_eq];by_cases qC:q<fF
   .rw[if_pos qC]at ab;simp only[some.injEq]at ab;subst ab;refine⟨s,pl,by rw[if_pos (by omega)],ad,?_⟩;rw[aA];by_cases Cl:p.Kind=4
    .rw[if_pos ⟨Cl,by omega⟩];simp only[below,if_pos Cl];omega
    .rw[if_neg (λh=>Cl h.1)];simp only[below,if_neg Cl];omega
   .rw[if_neg qC]at ab;refine⟨aD,pl,?_,ad,?_⟩
    .rw[if_neg (by omega),List.drop_succ_cons,show q+1-(fF+1)=q-fF by omega];exact ab
    .rw[aA,if_neg (λh=>by omega)];omega
theorem aeR {p:ck} (h:dY p=0):(p.Kind==1)=false:=by
 unfold dY at h;split at h
 .omega
 .rename_i aP;simp only[beq_eq_false_iff_ne];exact λe=>aP (.inl e)
theorem aeS {p:ck} (h:dY p=2):(p.Kind==1)=false:=by
 unfold dY at h;split at h
 .omega
 .rename_i aP;simp only[beq_eq_false_iff_ne];exact λe=>aP (.inl e)
def Ie (b:aiQ):Nat->Bool
 |0=>false
 |q+1=>match b[q]? with
  |some p=>p.Kind==1
  |none=>false
theorem OX:∀(l:aiQ) (st:aiV),(∀s∈st.tail,s.behind=false)->∀(q:Nat) (pl:cD),(gm l st)[q]? =some pl->
  pl.behind=match q with
   |0=>match st with
    |s::_=>s.behind
    |[]=>false
   |q+1=>match l[q]? with
    |some p=>p.Kind==1
    |none=>false
 |[],st,_,q,pl,h=>by simp[gm]at h
 |p::r,[],_,q,pl,h=>by simp[gm]at h
 |p::r,s::st,yB,q,pl,h=>by
  cases q with
  |zero=>simp only[gm,List.getElem?_cons_zero,some.injEq]at h;subst h;rfl
  |succ q=>
   simp only[gm,List.getElem?_cons_succ]at h;have aeT:∀aD∈(List.replicate (dY p) (below p s)++st).tail,aD.behind=false:=by
    intro aD eJ;have bn:=vj p;rcases(by omega:dY p=0\/dY p=1\/dY p=2)with bn|bn|bn
    .rw[bn]at eJ;simp only[List.replicate_zero,List.nil_append]at eJ;exact yB aD (by simpa using List.mem_of_mem_tail eJ)
    .rw[bn]at eJ;simp only[List.replicate_succ,List.replicate_zero,List.cons_append,List.nil_append,List.tail_cons]at eJ;exact yB aD (by simpa using eJ)
    .rw[bn]at eJ;simp only[List.replicate_succ,List.replicate_zero,List.cons_append,List.nil_append,List.tail_cons,List.mem_cons]at eJ;rcases eJ with rfl|eJ
     .exact aeS bn
     .exact yB aD (by simpa using eJ)
   have ih:=OX r _ aeT q pl h;rw[ih];cases q with
   |succ q=>rfl
   |zero=>
    simp only[List.getElem?_cons_zero];have bn:=vj p;rcases(by omega:dY p=0\/dY p=1\/dY p=2)with bn|bn|bn
    .rw[bn,aeR bn];simp only[List.replicate_zero,List.nil_append];cases st with
     |nil=>rfl
     |cons s2 st=>exact yB s2 (by simp)
    .rw[bn];rfl
    .rw[bn];rfl
theorem aeU (l:aiQ) (s:cD) (U:s.behind=false) (q:Nat) (pl:cD) (h:(gm l [s])[q]? =some pl):pl.behind=Ie l q:=by
 rw[OX l [s] (λs U=>by simp at U) q pl h];cases q with
 |zero=>exact U
 |succ q=>rfl
theorem aeV {l:Nat->Int->aiC} {n:Nat} (p:Nat->Bool) (oD bad:Int) (a7:∀m,l (m+1) (n:Int)=some oD)
  (U:∀i,i<n->∀m,l (m+1) (i:Int)=cond (p i) (l m ((i+1:Nat):Int)) (some bad)):lim (λm=>l m 0)=some (cond (e6 p n) oD bad):=by
 rw[mN (n:=n) (λi=>some (cond ((List.range' i (n-i)).all p) oD bad))]
 .simp[e6,List.range_eq_range']
 .intro m;rw[a7];simp
 .intro i ak m ih;rw[U i ak,ih,show n-i=(n-(i+1))+1 by omega,List.range'_succ];cases au:p i<;>simp[au]
def y5 (p:ck):Prop:=p.Name.length<=1048576/\p.da.length<=1048576/\∀e∈p.da,e.length<=1048576
def qD (p:ck) (cW:Int):Bool:=e6 (λi=>th (p.da.getD i []) cW 15) p.da.length
theorem aeW (p:ck) (au:y5 p) (cW:Int) (h:0<=cW/\cW<=29):lim (λn=>sL p n cW 0)=some (cond (qD p cW) 0 8):=by
 refine aeV (l:=λm i=>sL p m cW i) _ _ _ (λm=>?_) (λi ak m=>?_)
 .simp only[sL,Fh];rw[fq (Nat.le_refl _)];rfl
 .simp only[sL,Fh];rw[fe ak,k2 _ i [] ak,e5 i _ ak (by have:=au.2.1;omega)];simp only[cond_true,bind_some];rw[aez _ cW 15 (by omega) (by
   have:p.da.getD i []=p.da[i]:=by simp[List.getD,ak]
   rw[this];exact au.2.2 _ (List.getElem_mem ak))]
  simp only[bind_some];cases th (p.da.getD i []) cW 15<;>rfl
theorem aeX (p:ck) (au:y5 p) (pl:cD) (h:0<=pl.scope/\pl.scope<=29):Bb p.da pl=some (!(qD p pl.scope)):=by
 unfold Bb FV;rw[tb (n:=p.da.length) (λi=> !th (p.da.getD i []) pl.scope 15)]
 .simp only[bind_some,ta,Bool.not_not];rfl
 .intro m;simp only[xU,FU];rw[fq (Nat.le_refl _)];rfl
 .intro i ak m;simp only[xU,FU];rw[fe ak,k2 _ i [] ak,e5 i _ ak (by have:=au.2.1;omega)];simp only[cond_true,bind_some,FT];rw[aeA _ pl.scope 15 h (by omega) (by
   have:p.da.getD i []=p.da[i]:=by simp[List.getD,ak]
   rw[this];exact au.2.2 _ (List.getElem_mem ak))]
  simp only[bind_some]
theorem OY (s:aix) (U:s.length<=1048576):qh s=some (j5 s&& !(s==([116,97,117]:aix))):=by
 unfold qh;rw[OG s (by omega)];rfl
theorem aeY {s:aix} (h:(s==([116,97,117]:aix))=true):j5 s=true:=by
 have:s=[116,97,117]:=by simpa using h
 subst this;decide
theorem Cm (n:Int) (l:Nat) (aO:l<=1048576):ru n (l:Int)=some (decide (0<=n)&&decide (n<=(l:Int)-1)):=by
 unfold ru ja;rw[gl ((l:Int)-1) (by omega)];rfl
theorem aeZ (list:aiR) (aO:list.length<=4) (d:bI) (at_:Nat) (ae0:at_<d.Body.length) (R:d.Body.length<=20) (au:y5 d.Body[at_]) (pl:cD)
  (mS:rp d (at_:Int)=some pl.scope) (OZ:0<=pl.scope/\pl.scope<=29)
  (rP:pl.behind=Ie d.Body at_):
  ∃r,xG list d (at_:Int)=some r/\xY d.Body[at_] list pl=some r/\0<=r:=by
 have ae1:∀p,y5 p->p=d.Body[at_]->∃r,xG list d (at_:Int)=some r/\xY p list pl=some r/\0<=r:=by
  intro p au CQ;have Eu:=aeW p au pl.scope OZ;have zV:=aeX p au pl OZ;have Ig:=OY p.Name au.1;have ae2:=H8 p.Name;have ae3:sM d (at_:Int) p=some (cond ((p.Kind==5)&& !pl.behind) 6 (cond ((p.Kind==4)&&decide (6<=pl.scope)) 7 (cond (qD p pl.scope) 0 8))):=by
   have ae4:∀v,uw d (at_:Int) p v=some (cond v 6 (cond ((p.Kind==4)&&decide (6<=pl.scope)) 7 (cond (qD p pl.scope) 0 8))):=by
    intro v;unfold uw;rw[mS];simp only[bind_some,Eu];cases v<;>cases(p.Kind==4&&decide (6<=pl.scope))<;>rfl
   unfold sM;simp only[ae4];cases at_ with
   |zero=>
    replace rP:pl.behind=false:=rP;rw[rP];simp only[Bool.not_false,Bool.and_true];cases p.Kind==5<;>rfl
   |succ q=>
    have bX:q<d.Body.length:=by omega
    have fR:(((q+1:Nat):Int)==0)=false:=by rw[beq_eq_false_iff_ne];omega
    rw[fR,yY (q+1) (by omega) (by omega),show q+1-1=q from rfl,eP _ q bX];replace rP:pl.behind=(match d.Body[q]? with|some p=>p.Kind==1|none=>false):=rP;rw[List.getElem?_eq_getElem bX]at rP;simp only[cond_false,bind_some];simp only at rP;rw[rP];have cw:(d.Body[q].Kind !=1)= !(d.Body[q].Kind==1):=rfl;rw[cw];cases p.Kind==5<;>cases d.Body[q].Kind==1<;>rfl
  have mx:bm d.Body (at_:Int)=some p:=by rw[eP _ at_ ae0,CQ]
  have Cn:((p.da.length:Int)==0)=true->qD p pl.scope=true:=by
   intro h;have:p.da.length=0:=by simpa using h
   unfold qD;rw[this];rfl
  unfold xG xY FO Fa AF;rw[mx];simp only[AK,sN,xW,sW,bind_some,ae3,zV,Ig,ae2,ja,kB,Cm _ _ (show list.length<=1048576 by omega),FP];rw[gl ((list.length:Int)-1) (by omega)];obtain⟨K,N,Nm,iX⟩:=p;simp only at*;by_cases a7:K=0
  .subst a7;simp only[Int.reduceBEq,Int.reduceLE,decide_true,decide_false,Bool.false_and,Bool.true_and,Bool.and_true,Bool.false_or,Bool.or_false,cond_true,cond_false,Bool.and_self,bind_some];cases N==0
   .exact⟨2,rfl,rfl,by decide⟩
   .cases Nm==[]
    .exact⟨2,rfl,rfl,by decide⟩
    .cases bU:((iX.length:Int)==0)
     .exact⟨2,rfl,rfl,by decide⟩
     .simp only[Bool.and_true,Bool.not_true,Bool.not_false,cond_true,cond_false,Cn bU];exact⟨0,rfl,rfl,by decide⟩
  .by_cases ab:K=1
   .subst ab;simp only[Int.reduceBEq,Int.reduceLE,decide_true,decide_false,Bool.false_and,Bool.true_and,Bool.and_true,Bool.false_or,Bool.or_false,Bool.true_or,cond_true,cond_false,Bool.and_self,bind_some];cases N==0
    .exact⟨2,rfl,rfl,by decide⟩
    .simp only[Bool.not_true,cond_false];cases aY:(Nm==([116,97,117]:aix))
     .simp only[Bool.not_false,Bool.and_true,cond_true];cases j5 Nm
      .exact⟨3,rfl,rfl,by decide⟩
      .simp only[Bool.not_true,cond_false,Bool.and_false,Bool.or_false,Bool.true_and];by_cases aP:iX.length<=2
       .have aN:decide ((2:Int)<(iX.length:Int))=false:=decide_eq_false (by omega);have aR:decide ((iX.length:Int)<=2)=true:=decide_eq_true (by omega);rw[aN,aR,Bool.or_true];cases qD ⟨1,N,Nm,iX⟩ pl.scope
        .exact⟨8,rfl,rfl,by decide⟩
        .exact⟨0,rfl,rfl,by decide⟩
       .have aN:decide ((2:Int)<(iX.length:Int))=true:=decide_eq_true (by omega);have aR:decide ((iX.length:Int)<=2)=false:=decide_eq_false (by omega);have aS:((iX.length:Int)==0)=false:=by rw[beq_eq_false_iff_ne];omega
        rw[aN,aR,aS];exact⟨5,rfl,rfl,by decide⟩
     .rw[aeY aY];simp only[Bool.not_true,cond_false,Bool.and_true,Bool.false_and,Bool.or_false];by_cases aP:iX.length=0
      .have aN:decide ((2:Int)<(iX.length:Int))=false:=decide_eq_false (by omega);have aR:decide ((0:Int)<(iX.length:Int))=false:=decide_eq_false (by omega);have aS:((iX.length:Int)==0)=true:=by rw[aP];rfl
       rw[aN,aR,Cn aS,aS];exact⟨0,rfl,rfl,by decide⟩
      .have aR:decide ((0:Int)<(iX.length:Int))=true:=decide_eq_true (by omega);have aS:((iX.length:Int)==0)=false:=by rw[beq_eq_false_iff_ne];omega
       rw[aR,aS,Bool.or_true];exact⟨5,rfl,rfl,by decide⟩
   .by_cases ad:K=2
    .subst ad;simp only[Int.reduceBEq,Int.reduceLE,decide_true,decide_false,Bool.false_and,Bool.true_and,Bool.and_true,Bool.false_or,Bool.or_false,cond_true,cond_false,Bool.and_self,bind_some];cases N==0
     .exact⟨2,rfl,rfl,by decide⟩
     .cases Nm==[]
      .exact⟨2,rfl,rfl,by decide⟩
      .cases bU:((iX.length:Int)==0)
       .exact⟨2,rfl,rfl,by decide⟩
       .simp only[Bool.and_true,Bool.not_true,Bool.not_false,cond_true,cond_false,Cn bU];exact⟨0,rfl,rfl,by decide⟩
    .by_cases aA:K=3
     .subst aA;simp only[Int.reduceBEq,Int.reduceLE,decide_true,decide_false,Bool.false_and,Bool.true_and,Bool.and_true,Bool.false_or,Bool.or_false,Bool.true_or,Bool.or_true,cond_true,cond_false,Bool.and_self,bind_some];cases N==0
      .exact⟨2,rfl,rfl,by decide⟩
      .cases Nm==[]
       .exact⟨2,rfl,rfl,by decide⟩
       .have cw:((iX.length:Int) !=1)= !((iX.length:Int)==1):=rfl;rw[cw];cases((iX.length:Int)==1)
        .exact⟨5,rfl,rfl,by decide⟩
        .cases qD ⟨3,N,Nm,iX⟩ pl.scope
         .exact⟨8,rfl,rfl,by decide⟩
         .exact⟨0,rfl,rfl,by decide⟩
     .by_cases aZ:K=4
      .subst aZ;simp only[Int.reduceBEq,Int.reduceLE,decide_true,decide_false,Bool.false_and,Bool.true_and,Bool.and_true,Bool.false_or,Bool.or_false,Bool.true_or,Bool.or_true,cond_true,cond_false,Bool.and_self,bind_some];cases Nm==[]
       .exact⟨2,rfl,rfl,by decide⟩
       .cases bU:((iX.length:Int)==0)
        .exact⟨2,rfl,rfl,by decide⟩
        .rw[Cn bU];cases(decide (1<=N)&&decide (N<=7))
         .exact⟨4,rfl,rfl,by decide⟩
         .cases decide (6<=pl.scope)
          .exact⟨0,rfl,rfl,by decide⟩
          .exact⟨7,rfl,rfl,by decide⟩
      .by_cases bA:K=5
       .subst bA;simp only[Int.reduceBEq,Int.reduceLE,decide_true,decide_false,Bool.false_and,Bool.true_and,Bool.and_true,Bool.false_or,Bool.or_false,Bool.true_or,Bool.or_true,cond_true,cond_false,Bool.and_self,bind_some];cases Nm==[]
        .exact⟨2,rfl,rfl,by decide⟩
        .cases ak:(decide (0<=N)&&decide (N<=(list.length:Int)-1))
         .exact⟨4,rfl,rfl,by decide⟩
         .simp only[Bool.and_eq_true,decide_eq_true_eq]at ak;obtain⟨i,rfl⟩:∃i:Nat,N=i:=⟨N.toNat,by omega⟩
          rw[eP list i (by omega)];simp only[bind_some,Bool.not_true,cond_false];have cw:((iX.length:Int) !=list[i].dr)= !((iX.length:Int)==list[i].dr):=rfl;rw[cw];cases((iX.length:Int)==list[i].dr)
          .exact⟨5,rfl,rfl,by decide⟩
          .cases pl.behind
           .exact⟨6,rfl,rfl,by decide⟩
           .cases qD ⟨5,i,Nm,iX⟩ pl.scope
            .exact⟨8,rfl,rfl,by decide⟩
            .exact⟨0,rfl,rfl,by decide⟩
       .have fR:(K==0)=false:=by simpa using a7
        have aN:(K==1)=false:=by simpa using ab
        have aR:(K==2)=false:=by simpa using ad
        have aS:(K==3)=false:=by simpa using aA
        have b0:(K==4)=false:=by simpa using aZ
        have cd:(K==5)=false:=by simpa using bA
        have bQ:(decide (0<=K)&&decide (K<=5))=false:=by
         rw[Bool.and_eq_false_iff,decide_eq_false_iff_not,decide_eq_false_iff_not];omega
        simp only[fR,aN,aR,aS,b0,cd,bQ,Bool.false_and,cond_false,bind_some];exact⟨2,rfl,rfl,by decide⟩
 exact ae1 _ au rfl
theorem tj {β:Type} {l:Nat->Int->Option β} {n:Nat} (p:Nat->Bool) (oD bad:Option β) (a7:∀m,l (m+1) (n:Int)=oD)
  (U:∀i,i<n->∀m,l (m+1) (i:Int)=cond (p i) (l m ((i+1:Nat):Int)) bad):lim (λm=>l m 0)=cond (e6 p n) oD bad:=by
 rw[mN (n:=n) (λi=>cond ((List.range' i (n-i)).all p) oD bad)]
 .simp[e6,List.range_eq_range']
 .intro m;rw[a7];simp
 .intro i ak m ih;rw[U i ak,ih,show n-i=(n-(i+1))+1 by omega,List.range'_succ];cases au:p i<;>simp[au]
def O0 (d:bI):Prop:=d.Name.length<=1048576/\d.Body.length<=1048576/\∀p∈d.Body,y5 p
def qE (b:aiQ):Bool:=(decide (1<=b.length)&&decide (b.length<=20))&&rN b 1
theorem Ih {b:aiQ} (h:qE b=true):eo b 1=some b.length/\1<=b.length/\b.length<=20:=by
 simp only[qE,H9,Bool.and_eq_true,decide_eq_true_eq,beq_iff_eq]at h;exact⟨h.2,h.1.1,h.1.2⟩
def nD (d:bI) (i:Nat):cD:=(gm d.Body [⟨d.dr,false⟩]).getD i ⟨0,false⟩
theorem O1 (d:bI) (h:qE d.Body=true) (au:0<=d.dr/\d.dr<=3) (i:Nat) (ak:i<d.Body.length):
  rp d (i:Int)=some (nD d i).scope/\0<=(nD d i).scope/\(nD d i).scope<=29/\
   (nD d i).behind=Ie d.Body i/\
   (gm d.Body [⟨d.dr,false⟩])[i]? =some (nD d i):=by
 obtain⟨ab,ad,aA⟩:=Ih h;obtain⟨s,pl,aN,aR,aS⟩:=OW d.Body [⟨d.dr,false⟩] d.Body.length ab i ak;have U:s=⟨d.dr,false⟩:=by
  simp only[rO,ab]at aN;rw[if_pos ak]at aN;exact(some.inj aN).symm
 subst U;have fl:nD d i=pl:=by unfold nD;rw[List.getD_eq_getElem?_getD,aR];rfl
 have aj:=OS d.Body i;simp only at aS;refine⟨?_,?_,?_,?_,?_⟩
 .rw[aeP d (by omega) ab (by omega) i ak,fl,aS]
 .rw[fl,aS];omega
 .rw[fl,aS];omega
 .rw[fl];exact aeU d.Body ⟨d.dr,false⟩ rfl i pl aR
 .rw[fl];exact aR
theorem ae5 (list:aiR) (aO:list.length<=4) (d:bI) (ag:O0 d) (au:0<=d.dr/\d.dr<=3):
  ∃r,sP list d=some r/\xZ list d=some r/\0<=r.2/\(r.2=0->qE d.Body=true):=by
 unfold sP xZ ja;rw[aeC _ ag.2.1];have rA:=aeD d ag.2.1 0 (zero_le _);rw[show((0:Nat):Int)=0 from rfl,List.drop_zero]at rA;simp only[bind_some];have mr:decide ((1:Int)<=(d.Body.length:Int))=decide (1<=d.Body.length):=decide_eq_decide.2 (by omega);have lZ:decide ((d.Body.length:Int)<=20)=decide (d.Body.length<=20):=decide_eq_decide.2 (by omega);rw[mr,lZ];show∃r,cond (!qE d.Body) _ _=_/\_;cases U:qE d.Body
 .refine⟨(0,1),rfl,?_,by decide,λh=>by cases h⟩;cases aj:(decide (1<=d.Body.length)&&decide (d.Body.length<=20))
  .rfl
  .rw[rA];have hw:rN d.Body 1=false:=by
    unfold qE at U;rw[aj,Bool.true_and]at U;exact U
   have:(pK 0 (eo d.Body 1) !=(d.Body.length:Int))=true:=by
    rw[H9]at hw;cases he:eo d.Body 1 with
    |none=>simp only[pK,bne_iff_ne];omega
    |some n=>
     rw[he]at hw;have cw:n≠d.Body.length:=λe=>by simp[e]at hw
     simp only[pK,bne_iff_ne];omega
   simp only[Bool.not_true,cond_false,bind_some,this,cond_true]
 .obtain⟨ab,ad,aA⟩:=Ih U;have aj:(decide (1<=d.Body.length)&&decide (d.Body.length<=20))=true:=by simp;omega
  have cw:(pK 0 (some d.Body.length) !=(d.Body.length:Int))=false:=by simp[pK]
  rw[aj,rA,ab];simp only[Bool.not_true,cond_false,bind_some,cw];rw[OR d ag.2.1 ab au.1 (by omega)];simp only[bind_some];have key:∀i,i<=d.Body.length->∃r:Int×Int,(∀m,d.Body.length-i<m->sO list d m (i:Int)=some r)/\
    (∀m,d.Body.length-i<m->sX list d (gm d.Body [⟨d.dr,false⟩]) m (i:Int)=some r)/\0<=r.2:=by
   refine down d.Body.length ⟨(0,0),λm hm=>?_,λm hm=>?_,by decide⟩ ?_
   .obtain⟨m,rfl⟩:∃j,m=j+1:=⟨m-1,by omega⟩
    simp only[sO,AL];rw[fq (Nat.le_refl _)];rfl
   .obtain⟨m,rfl⟩:∃j,m=j+1:=⟨m-1,by omega⟩
    simp only[sX,Bc];rw[fq (Nat.le_refl _)];rfl
   .rintro i ak ⟨r,cY,ba,cG⟩;obtain⟨hd,gz,il,im,qU⟩:=O1 d U au i ak;obtain⟨v,v1,v2,v3⟩:=aeZ list aO d i ak aA (ag.2.2 _ (List.getElem_mem ak)) (nD d i) hd ⟨gz,il⟩ im;have bB:bm (gm d.Body [⟨d.dr,false⟩]) (i:Int)=some (nD d i):=by
     unfold bm;rw[if_pos (by omega)];exact qU
    by_cases aH:v=0
    .subst aH;refine⟨r,λm hm=>?_,λm hm=>?_,cG⟩
     .obtain⟨m,rfl⟩:∃j,m=j+1:=⟨m-1,by omega⟩
      simp only[sO,AL];rw[fe ak,v1,e5 i _ ak (by omega),<-cY m (by omega)];rfl
     .obtain⟨m,rfl⟩:∃j,m=j+1:=⟨m-1,by omega⟩
      simp only[sX,Bc];rw[fe ak,eP _ i ak,bB];simp only[cond_true,bind_some,v2];rw[e5 i _ ak (by omega),<-ba m (by omega)];rfl
    .have sE:decide (0<v)=true:=decide_eq_true (by omega);have Co:(v !=0)=true:=by simpa using aH
     refine⟨((i:Int),v),λm hm=>?_,λm hm=>?_,v3⟩
     .obtain⟨m,rfl⟩:∃j,m=j+1:=⟨m-1,by omega⟩
      simp only[sO,AL];rw[fe ak,v1];simp only[cond_true,bind_some,sE]
     .obtain⟨m,rfl⟩:∃j,m=j+1:=⟨m-1,by omega⟩
      simp only[sX,Bc];rw[fe ak,eP _ i ak,bB];simp only[cond_true,bind_some,v2,Co]
  obtain⟨r,cY,ba,cG⟩:=key 0 (zero_le _);refine⟨r,eF (d.Body.length+1) λm hm=>cY m (by omega),eF (d.Body.length+1) λm hm=>ba m (by omega),cG,λ_=>trivial⟩
def qF (d:bI):Bool:=decide (0<=d.dr)&&decide (d.dr<=3)
def vl (list:aiR):Bool:=e6 (λi=>qF (list.getD i ⟨[],0,[]⟩)) list.length
theorem O2 {list:aiR} (h:vl list=true) (i:Nat) (ak:i<list.length):0<=list[i].dr/\list[i].dr<=3:=by
 have:=rM.1 h i ak;have e:list.getD i ⟨[],0,[]⟩=list[i]:=by simp[List.getD,ak]
 rw[e]at this;simpa [qF]using this
theorem ae6 (list:aiR) (aO:list.length<=1048576):A4 list=some (vl list):=by
 unfold A4 FG FF;rw[tb (n:=list.length) (λi=> !qF (list.getD i ⟨[],0,[]⟩))]
 .simp only[bind_some,ta,Bool.not_not];rfl
 .intro m;simp only[xO,FE];rw[fq (Nat.le_refl _)];rfl
 .intro i ak m;simp only[xO,FE];rw[fe ak,k2 _ i ⟨[],0,[]⟩ ak,e5 i _ ak (by omega)];simp only[cond_true,bind_some,FD,ja];rfl
def oE (list:aiR):Prop:=list.length<=1048576/\∀d∈list,O0 d
end Go.ll
