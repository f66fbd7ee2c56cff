/- Part of a proof that a law returns true for every input. No condition. -/
import Derived.Test.YtmaenemdkobeeaaGreatUV0x
namespace Go.mc
open Option Go.IntKind Nat Or
open Go Go.ek
theorem VP (d:bg) (ak:d.Body.length<=1048576):∀(n at_ k:Nat) (s:dv) (out:asa),out.length=d.Body.length->dP (d.Body.drop at_) 1=some k->k<=n->0<=s.scope->s.scope+k<=1000000->
  xh n (at_:Int) s out d=some (((at_+k:Nat):Int),patch out at_ (g6 (d.Body.drop at_) [s]))
 |0,at_,k,s,out,b_,he,ao,a5,ae=>by have:=kN he;omega
 |n+1,at_,k,s,out,b_,he,ao,a5,ae=>by
  have l:=kN he;rw[List.length_drop]at l;have al:at_<d.Body.length:=by omega
  rw[drop_cons _ at_ al]at he⊢;obtain⟨cZ,kW,rfl⟩:=nN.1 he;simp only[Nat.zero_add]at kW;have bo:=xU d.Body[at_];have amh:=VN (n:=n) ak (VP d ak n) (below d.Body[at_] s).scope d.Body[at_] (dZ d.Body[at_]) bo (dZ d.Body[at_]) 0 (at_+1) cZ (patch out at_ [s]);have hlen:(g6 (d.Body.drop (at_+1)) (List.replicate (dZ d.Body[at_]) (below d.Body[at_] s)++[])).length=cZ:=by
   rw[List.append_nil];exact xX (by rw[List.length_replicate];exact kW)
  have ami:(at_+1+cZ:Nat)=at_+(cZ+1):=by omega
  have ab:0<=(below d.Body[at_] s).scope/\(below d.Body[at_] s).scope+cZ<=1000000:=by
   unfold below;simp only;split<;>omega
  have key:(bU λm=>xg (xh n) d (below d.Body[at_] s).scope d.Body[at_] ((dZ d.Body[at_]:Nat):Int) m (List.set out (Int.toNat (at_:Int)) s) (i64.wrap ((at_:Int)+1)) 0)=
    some (((at_+(cZ+1):Nat):Int),patch out at_ (g6 (d.Body[at_]::d.Body.drop (at_+1)) [s])):=by
   refine fO (dZ d.Body[at_]+1) λm hm=>?_;rw[Int.toNat_natCast,amd (by omega),et at_ _ al (by omega)];have h:=amh m (by omega) (by omega) (by rw[VL (by simp;omega),b_]) kW (by omega) ab.1 ab.2;rw[show((0:Nat):Int)=0 from rfl]at h;rw[h,ami];congr 2;have amj:(g6 (d.Body.drop (at_+1)) (List.replicate (dZ d.Body[at_]) ⟨(below d.Body[at_] s).scope,d.Body[at_].Kind==1⟩)).length=cZ:=xX (by rw[List.length_replicate];exact kW);rw[VM (i:=at_) (a:=[s]) (j:=at_+1) rfl (by rw[amj,List.length_singleton];omega)];simp only[g6,List.append_nil,List.singleton_append];rfl
  simp only[xh,LU];rw[er out at_ (by omega),er _ at_ al];simp only[bind_some,Gh,VI];by_cases a3:d.Body[at_].Kind=4
  .have e:(d.Body[at_].Kind==4)=true:=by simpa using a3
   have a8:(below d.Body[at_] s).scope=s.scope+1:=by simp[below,a3]
   rw[e,cond_true,ame s.scope a5 (by omega),<-a8];exact key
  .have e:(d.Body[at_].Kind==4)=false:=by simpa using a3
   have a8:(below d.Body[at_] s).scope=s.scope:=by simp[below,a3]
   rw[e,cond_false];conv=>lhs;rw[show s.scope=(below d.Body[at_] s).scope from a8.symm]
   exact key
theorem OV (d:bg) (ak:d.Body.length<=1048576) (ad:dP d.Body 1=some d.Body.length) (a5:0<=d.bW) (ae:d.bW+d.Body.length<=1000000):
  vn d=some (g6 d.Body [⟨d.bW,false⟩]):=by
 unfold vn;rw[ui 16 ak (by decide)];simp only[bind_some];have hlen:(g6 d.Body [⟨d.bW,false⟩]).length=d.Body.length:=xX (st:=[_]) ad;have:Gi 0 ⟨d.bW,false⟩ (List.replicate (Int.toNat (d.Body.length:Int)) ⟨0,false⟩) d=some ((d.Body.length:Int),g6 d.Body [⟨d.bW,false⟩]):=by
  unfold Gi;refine fO d.Body.length λm hm=>?_;have:=VP d ak m 0 d.Body.length ⟨d.bW,false⟩ (List.replicate (Int.toNat (d.Body.length:Int)) ⟨0,false⟩) (by simp) (by simpa using ad) hm a5 ae;rw[show((0:Nat):Int)=0 from rfl]at this;rw[this,Nat.zero_add,List.drop_zero];congr 2;unfold patch;rw[Nat.zero_add,hlen,List.drop_of_length_le (by simp)];simp
 rw[this];rfl
def jw (l:arV) (q:Nat):Bool:=match dP l 1 with
 |some e=>decide (q<e)
 |none=>false
def iy:arV->Nat->Nat
 |[],_=>0
 |_::_,0=>0
 |p::r,q+1=>(if p.Kind=4/\jw (p::r) (q+1)=true then 1 else 0)+iy r q
theorem DX (l:arV):iy l 0=0:=by cases l<;>rfl
theorem VQ:∀(l:arV) (q:Nat),iy l q<=q
 |[],q=>by simp[iy]
 |_::_,0=>by simp[iy]
 |p::r,q+1=>by
  have:=VQ r q;simp only[iy];split<;>omega
theorem VR (d:bg) (ak:d.Body.length<=1048576) (ad:dP d.Body 1=some d.Body.length) (a5: -1000000<=d.bW/\d.bW<=1000000) (q:Nat) (cl:q<d.Body.length):
  vg d (q:Int)=some (d.bW+(iy d.Body q:Nat)):=by
 unfold vg;have key:∀i,i<=q->∀(c:Int) m,-1000000<=c->c<=1000000+i->q-i<m->w4 d (q:Int) m c (i:Int)=some (c+(iy (d.Body.drop i) (q-i):Nat)):=by
  refine down q ?_ ?_
  .intro c m _ _ hm;obtain⟨m,rfl⟩:∃j,m=j+1:=⟨m-1,by omega⟩
   simp only[w4,Lc];rw[dX (Nat.le_refl _),Nat.sub_self,DX];simp
  .intro i al ih c m k_ jM hm;obtain⟨m,rfl⟩:∃j,m=j+1:=⟨m-1,by omega⟩
   simp only[w4,Lc];have lr:i<d.Body.length:=by omega
   rw[eI al,er _ i lr];simp only[cond_true,bind_some,Cg];obtain⟨e,oJ,Br,tA⟩:=xW ad lr;rw[ama _ ak i e oJ,et i q al (by omega)];simp only[bind_some];have OW:iy (d.Body.drop i) (q-i)=(if d.Body[i].Kind=4/\q<i+e then 1 else 0)+iy (d.Body.drop (i+1)) (q-(i+1)):=by
    have DY:=oJ;rw[drop_cons _ i lr]at DY⊢;rw[show q-i=(q-(i+1))+1 by omega];simp only[iy,jw,DY];congr 1;by_cases ao:d.Body[i].Kind=4
    .by_cases ml:q<i+e
     .rw[if_pos ⟨ao,by simp;omega⟩,if_pos ⟨ao,ml⟩]
     .rw[if_neg (λh=>by simp at h;omega),if_neg (λh=>ml h.2)]
    .rw[if_neg (λh=>ao h.1),if_neg (λh=>ao h.1)]
   rw[OW];by_cases ao:d.Body[i].Kind=4
   .have mm:(d.Body[i].Kind==4)=true:=by simpa using ao
    rw[mm,cond_true];by_cases ml:q<i+e
    .rw[eI ml,cond_true,fl (c+1) (by omega),ih (c+1) m (by omega) (by omega) (by omega),if_pos ⟨ao,ml⟩];congr 1;omega
    .rw[dX (by omega),cond_false,ih c m k_ (by omega) (by omega),if_neg (λh=>ml h.2)];congr 1;omega
   .have mm:(d.Body[i].Kind==4)=false:=by simpa using ao
    rw[mm,cond_false,ih c m k_ (by omega) (by omega),if_neg (λh=>ao h.1)];congr 1;omega
 refine fO (q+1) λm hm=>?_;have:=key 0 (by omega) d.bW m (by omega) (by omega) (by omega);simpa using this
def vJ:arV->asa->Nat->Option dv
 |_,[],_=>none
 |l,s::st,q=>match dP l 1 with
  |none=>none
  |some k=>if q<k then some s else vJ (l.drop k) st (q-k)
theorem VS:∀(f:Nat) (r:arV) (b:dv) (st:asa) (k q:Nat),dP r f=some k->vJ r (List.replicate f b++st) q=if q<k then some b else vJ (r.drop k) st (q-k)
 |0,r,b,st,k,q,h=>by rw[xV]at h;cases h;simp
 |f+1,r,b,st,k,q,h=>by
  rw[Nat.add_comm f 1]at h;obtain⟨b3,cv,ae,ag,rfl⟩:=rW h;rw[List.replicate_succ,List.cons_append];simp only[vJ,ae];by_cases cl:q<b3
  .rw[if_pos cl,if_pos (by omega)]
  .rw[if_neg cl,VS f _ b st cv (q-b3) ag];by_cases DZ:q-b3<cv
   .rw[if_pos DZ,if_pos (by omega)]
   .rw[if_neg DZ,if_neg (by omega),List.drop_drop,Nat.sub_sub]
theorem VT:∀(l:arV) (st:asa) (k:Nat),dP l st.length=some k->∀q,q<k->∃s pl,vJ l st q=some s/\(g6 l st)[q]? =some pl/\pl.scope=s.scope+(iy l q:Nat)
 |[],[],k,h,q,cl=>by simp only[List.length_nil,dP,some.injEq]at h;omega
 |[],s::st,k,h,q,cl=>by simp[dP]at h
 |p::r,[],k,h,q,cl=>by simp only[List.length_nil,dP,some.injEq]at h;omega
 |p::r,s::st,k,h,q,cl=>by
  have a5:=h;obtain⟨cZ,bM,rfl⟩:=nN.1 h;rw[List.length_cons,Nat.add_comm st.length 1]at a5;obtain⟨e,cv,he,oB,ao⟩:=rW a5;obtain⟨fQ,kW,rfl⟩:=nN.1 he;simp only[Nat.zero_add]at kW;cases q with
  |zero=>
   refine⟨s,s,?_,rfl,?_⟩
   .simp only[vJ,he];rw[if_pos (by omega)]
   .simp[iy]
  |succ q=>
   have hl:dP r (List.replicate (dZ p) (below p s)++st).length=some cZ:=by
    rw[List.length_append,List.length_replicate,Nat.add_comm];exact bM
   obtain⟨aI,pl,ae,ag,aK⟩:=VT r _ cZ hl q (by omega);rw[VS _ _ _ _ fQ q kW]at ae;simp only[g6,List.getElem?_cons_succ,vJ,he,iy,jw,decide_eq_true_eq];by_cases ml:q<fQ
   .rw[if_pos ml]at ae;simp only[some.injEq]at ae;subst ae;refine⟨s,pl,by rw[if_pos (by omega)],ag,?_⟩;rw[aK];by_cases vK:p.Kind=4
    .rw[if_pos ⟨vK,by omega⟩];simp only[below,if_pos vK];omega
    .rw[if_neg (λh=>vK h.1)];simp only[below,if_neg vK];omega
   .rw[if_neg ml]at ae;refine⟨aI,pl,?_,ag,?_⟩
    .rw[if_neg (by omega),List.drop_succ_cons,show q+1-(fQ+1)=q-fQ by omega];exact ae
    .rw[aK,if_neg (λh=>by omega)];omega
theorem amk {p:bk} (h:dZ p=0):(p.Kind==1)=false:=by
 unfold dZ at h;split at h
 .omega
 .rename_i aZ;simp only[beq_eq_false_iff_ne];exact λe=>aZ (.inl e)
theorem aml {p:bk} (h:dZ p=2):(p.Kind==1)=false:=by
 unfold dZ at h;split at h
 .omega
 .rename_i aZ;simp only[beq_eq_false_iff_ne];exact λe=>aZ (.inl e)
def vL (b:arV):Nat->Bool
 |0=>false
 |q+1=>match b[q]? with
  |some p=>p.Kind==1
  |none=>false
theorem VU:∀(l:arV) (st:asa),(∀s∈st.tail,s.behind=false)->∀(q:Nat) (pl:dv),(g6 l st)[q]? =some pl->
  pl.behind=match q with
   |0=>match st with
    |s::_=>s.behind
    |[]=>false
   |q+1=>match l[q]? with
    |some p=>p.Kind==1
    |none=>false
 |[],st,_,q,pl,h=>by simp[g6]at h
 |p::r,[],_,q,pl,h=>by simp[g6]at h
 |p::r,s::st,H3,q,pl,h=>by
  cases q with
  |zero=>simp only[g6,List.getElem?_cons_zero,some.injEq]at h;subst h;rfl
  |succ q=>
   simp only[g6,List.getElem?_cons_succ]at h;have amm:∀aI∈(List.replicate (dZ p) (below p s)++st).tail,aI.behind=false:=by
    intro aI fZ;have bo:=xU p;rcases(by omega:dZ p=0\/dZ p=1\/dZ p=2)with bo|bo|bo
    .rw[bo]at fZ;simp only[List.replicate_zero,List.nil_append]at fZ;exact H3 aI (by simpa using List.mem_of_mem_tail fZ)
    .rw[bo]at fZ;simp only[List.replicate_succ,List.replicate_zero,List.cons_append,List.nil_append,List.tail_cons]at fZ;exact H3 aI (by simpa using fZ)
    .rw[bo]at fZ;simp only[List.replicate_succ,List.replicate_zero,List.cons_append,List.nil_append,List.tail_cons,List.mem_cons]at fZ;rcases fZ with rfl|fZ
     .exact aml bo
     .exact H3 aI (by simpa using fZ)
   have ih:=VU r _ amm q pl h;rw[ih];cases q with
   |succ q=>rfl
   |zero=>
    simp only[List.getElem?_cons_zero];have bo:=xU p;rcases(by omega:dZ p=0\/dZ p=1\/dZ p=2)with bo|bo|bo
    .rw[bo,amk bo];simp only[List.replicate_zero,List.nil_append];cases st with
     |nil=>rfl
     |cons s2 st=>exact H3 s2 (by simp)
    .rw[bo];rfl
    .rw[bo];rfl
theorem amn (l:arV) (s:dv) (ad:s.behind=false) (q:Nat) (pl:dv) (h:(g6 l [s])[q]? =some pl):pl.behind=vL l q:=by
 rw[VU l [s] (λs ad=>by simp at ad) q pl h];cases q with
 |zero=>exact ad
 |succ q=>rfl
theorem amo {l:Nat->Int->arJ} {n:Nat} (p:Nat->Bool) (rY bad:Int) (a5:∀m,l (m+1) (n:Int)=some rY)
  (ad:∀i,i<n->∀m,l (m+1) (i:Int)=cond (p i) (l m ((i+1:Nat):Int)) (some bad)):bU (λm=>l m 0)=some (cond (gN p n) rY bad):=by
 rw[vE (n:=n) (λi=>some (cond ((List.range' i (n-i)).all p) rY bad))]
 .simp[gN,List.range_eq_range']
 .intro m;rw[a5];simp
 .intro i al m ih;rw[ad i al,ih,show n-i=(n-(i+1))+1 by omega,List.range'_succ];cases aw:p i<;>simp[aw]
def qR (p:bk):Prop:=p.Name.length<=1048576/\p.a9.length<=1048576/\∀e∈p.a9,e.length<=1048576
def s7 (p:bk) (cR:Int):Bool:=gN (λi=>k2 (p.a9.getD i []) cR 15) p.a9.length
theorem VV (p:bk) (aw:qR p) (cR:Int) (h:0<=cR/\cR<=29):bU (λn=>vh p n cR 0)=some (cond (s7 p cR) 0 8):=by
 refine amo (l:=λm i=>vh p m cR i) _ _ _ (λm=>?_) (λi al m=>?_)
 .simp only[vh,Lf];rw[dX (Nat.le_refl _)];rfl
 .simp only[vh,Lf];rw[eI al,lT _ i [] al,et i _ al (by have:=aw.2.1;omega)];simp only[cond_true,bind_some];rw[OS _ cR 15 (by omega) (by
   have:p.a9.getD i []=p.a9[i]:=by simp[List.getD,al]
   rw[this];exact aw.2.2 _ (List.getElem_mem al))]
  simp only[bind_some];cases k2 (p.a9.getD i []) cR 15<;>rfl
theorem amp (p:bk) (aw:qR p) (pl:dv) (h:0<=pl.scope/\pl.scope<=29):Gk p.a9 pl=some (!(s7 p pl.scope)):=by
 unfold Gk L1;rw[Af (n:=p.a9.length) (λi=> !k2 (p.a9.getD i []) pl.scope 15)]
 .simp only[bind_some,Ae,Bool.not_not];rfl
 .intro m;simp only[CL,L0];rw[dX (Nat.le_refl _)];rfl
 .intro i al m;simp only[CL,L0];rw[eI al,lT _ i [] al,et i _ al (by have:=aw.2.1;omega)];simp only[cond_true,bind_some,LZ];rw[VF _ pl.scope 15 h (by omega) (by
   have:p.a9.getD i []=p.a9[i]:=by simp[List.getD,al]
   rw[this];exact aw.2.2 _ (List.getElem_mem al))]
  simp only[bind_some]
theorem VW (s:arE) (ad:s.length<=1048576):pJ s=some (kM s&& !(s==([116,97,117]:arE))):=by
 unfold pJ;rw[OT s (by omega)];rfl
theorem amq {s:arE} (h:(s==([116,97,117]:arE))=true):kM s=true:=by
 have:s=[116,97,117]:=by simpa using h
 subst this;decide
theorem OX (n:Int) (l:Nat) (hl:l<=1048576):xi n (l:Int)=some (decide (0<=n)&&decide (n<=(l:Int)-1)):=by
 unfold xi jD;rw[fl ((l:Int)-1) (by omega)];rfl
theorem OY (list:arW) (hl:list.length<=4) (d:bg) (at_:Nat) (amr:at_<d.Body.length) (ab:d.Body.length<=20) (aw:qR d.Body[at_]) (pl:dv)
  (mq:vg d (at_:Int)=some pl.scope) (VX:0<=pl.scope/\pl.scope<=29)
  (vM:pl.behind=vL d.Body at_):
  ∃r,pw list d (at_:Int)=some r/\CP d.Body[at_] list pl=some r/\0<=r:=by
 have ams:∀p,qR p->p=d.Body[at_]->∃r,pw list d (at_:Int)=some r/\CP p list pl=some r/\0<=r:=by
  intro p aw IL;have KG:=VV p aw pl.scope VX;have E8:=amp p aw pl VX;have D0:=VW p.Name aw.1;have amt:=DV p.Name;have amu:tG d (at_:Int) p=some (cond ((p.Kind==5)&& !pl.behind) 6 (cond ((p.Kind==4)&&decide (6<=pl.scope)) 7 (cond (s7 p pl.scope) 0 8))):=by
   have amv:∀v,rE d (at_:Int) p v=some (cond v 6 (cond ((p.Kind==4)&&decide (6<=pl.scope)) 7 (cond (s7 p pl.scope) 0 8))):=by
    intro v;unfold rE;rw[mq];simp only[bind_some,KG];cases v<;>cases(p.Kind==4&&decide (6<=pl.scope))<;>rfl
   unfold tG;simp only[amv];cases at_ with
   |zero=>
    replace vM:pl.behind=false:=vM;rw[vM];simp only[Bool.not_false,Bool.and_true];cases p.Kind==5<;>rfl
   |succ q=>
    have cl:q<d.Body.length:=by omega
    have fS:(((q+1:Nat):Int)==0)=false:=by rw[beq_eq_false_iff_ne];omega
    rw[fS,Ag (q+1) (by omega) (by omega),show q+1-1=q from rfl,er _ q cl];replace vM:pl.behind=(match d.Body[q]? with|some p=>p.Kind==1|none=>false):=vM;rw[List.getElem?_eq_getElem cl]at vM;simp only[cond_false,bind_some];simp only at vM;rw[vM];have ee:(d.Body[q].Kind !=1)= !(d.Body[q].Kind==1):=rfl;rw[ee];cases p.Kind==5<;>cases d.Body[q].Kind==1<;>rfl
  have oI:a_ d.Body (at_:Int)=some p:=by rw[er _ at_ amr,IL]
  have H4:((p.a9.length:Int)==0)=true->s7 p pl.scope=true:=by
   intro h;have:p.a9.length=0:=by simpa using h
   unfold s7;rw[this];rfl
  unfold pw CP LV Cf Cd;rw[oI];simp only[yZ,sP,CN,xj,bind_some,amu,E8,D0,amt,jD,kF,OX _ _ (show list.length<=1048576 by omega),LW];rw[fl ((list.length:Int)-1) (by omega)];obtain⟨K,N,s8,kx⟩:=p;simp only at*;by_cases a5:K=0
  .subst a5;simp only[Int.reduceBEq,Int.reduceLE,decide_true,decide_false,Bool.false_and,Bool.true_and,Bool.and_true,Bool.false_or,Bool.or_false,cond_true,cond_false,Bool.and_self,bind_some];cases N==0
   .exact⟨2,rfl,rfl,by decide⟩
   .cases s8==[]
    .exact⟨2,rfl,rfl,by decide⟩
    .cases b6:((kx.length:Int)==0)
     .exact⟨2,rfl,rfl,by decide⟩
     .simp only[Bool.and_true,Bool.not_true,Bool.not_false,cond_true,cond_false,H4 b6];exact⟨0,rfl,rfl,by decide⟩
  .by_cases ae:K=1
   .subst ae;simp only[Int.reduceBEq,Int.reduceLE,decide_true,decide_false,Bool.false_and,Bool.true_and,Bool.and_true,Bool.false_or,Bool.or_false,Bool.true_or,cond_true,cond_false,Bool.and_self,bind_some];cases N==0
    .exact⟨2,rfl,rfl,by decide⟩
    .simp only[Bool.not_true,cond_false];cases bc:(s8==([116,97,117]:arE))
     .simp only[Bool.not_false,Bool.and_true,cond_true];cases kM s8
      .exact⟨3,rfl,rfl,by decide⟩
      .simp only[Bool.not_true,cond_false,Bool.and_false,Bool.or_false,Bool.true_and];by_cases aZ:kx.length<=2
       .have aW:decide ((2:Int)<(kx.length:Int))=false:=decide_eq_false (by omega);have a8:decide ((kx.length:Int)<=2)=true:=decide_eq_true (by omega);rw[aW,a8,Bool.or_true];cases s7 ⟨1,N,s8,kx⟩ pl.scope
        .exact⟨8,rfl,rfl,by decide⟩
        .exact⟨0,rfl,rfl,by decide⟩
       .have aW:decide ((2:Int)<(kx.length:Int))=true:=decide_eq_true (by omega);have a8:decide ((kx.length:Int)<=2)=false:=decide_eq_false (by omega);have aY:((kx.length:Int)==0)=false:=by rw[beq_eq_false_iff_ne];omega
        rw[aW,a8,aY];exact⟨5,rfl,rfl,by decide⟩
     .rw[amq bc];simp only[Bool.not_true,cond_false,Bool.and_true,Bool.false_and,Bool.or_false];by_cases aZ:kx.length=0
      .have aW:decide ((2:Int)<(kx.length:Int))=false:=decide_eq_false (by omega);have a8:decide ((0:Int)<(kx.length:Int))=false:=decide_eq_false (by omega);have aY:((kx.length:Int)==0)=true:=by rw[aZ];rfl
       rw[aW,a8,H4 aY,aY];exact⟨0,rfl,rfl,by decide⟩
      .have a8:decide ((0:Int)<(kx.length:Int))=true:=decide_eq_true (by omega);have aY:((kx.length:Int)==0)=false:=by rw[beq_eq_false_iff_ne];omega
       rw[a8,aY,Bool.or_true];exact⟨5,rfl,rfl,by decide⟩
   .by_cases ag:K=2
    .subst ag;simp only[Int.reduceBEq,Int.reduceLE,decide_true,decide_false,Bool.false_and,Bool.true_and,Bool.and_true,Bool.false_or,Bool.or_false,cond_true,cond_false,Bool.and_self,bind_some];cases N==0
     .exact⟨2,rfl,rfl,by decide⟩
     .cases s8==[]
      .exact⟨2,rfl,rfl,by decide⟩
      .cases b6:((kx.length:Int)==0)
       .exact⟨2,rfl,rfl,by decide⟩
       .simp only[Bool.and_true,Bool.not_true,Bool.not_false,cond_true,cond_false,H4 b6];exact⟨0,rfl,rfl,by decide⟩
    .by_cases aK:K=3
     .subst aK;simp only[Int.reduceBEq,Int.reduceLE,decide_true,decide_false,Bool.false_and,Bool.true_and,Bool.and_true,Bool.false_or,Bool.or_false,Bool.true_or,Bool.or_true,cond_true,cond_false,Bool.and_self,bind_some];cases N==0
      .exact⟨2,rfl,rfl,by decide⟩
      .cases s8==[]
       .exact⟨2,rfl,rfl,by decide⟩
       .have ee:((kx.length:Int) !=1)= !((kx.length:Int)==1):=rfl;rw[ee];cases((kx.length:Int)==1)
        .exact⟨5,rfl,rfl,by decide⟩
        .cases s7 ⟨3,N,s8,kx⟩ pl.scope
         .exact⟨8,rfl,rfl,by decide⟩
         .exact⟨0,rfl,rfl,by decide⟩
     .by_cases a3:K=4
      .subst a3;simp only[Int.reduceBEq,Int.reduceLE,decide_true,decide_false,Bool.false_and,Bool.true_and,Bool.and_true,Bool.false_or,Bool.or_false,Bool.true_or,Bool.or_true,cond_true,cond_false,Bool.and_self,bind_some];cases s8==[]
       .exact⟨2,rfl,rfl,by decide⟩
       .cases b6:((kx.length:Int)==0)
        .exact⟨2,rfl,rfl,by decide⟩
        .rw[H4 b6];cases(decide (1<=N)&&decide (N<=7))
         .exact⟨4,rfl,rfl,by decide⟩
         .cases decide (6<=pl.scope)
          .exact⟨0,rfl,rfl,by decide⟩
          .exact⟨7,rfl,rfl,by decide⟩
      .by_cases bI:K=5
       .subst bI;simp only[Int.reduceBEq,Int.reduceLE,decide_true,decide_false,Bool.false_and,Bool.true_and,Bool.and_true,Bool.false_or,Bool.or_false,Bool.true_or,Bool.or_true,cond_true,cond_false,Bool.and_self,bind_some];cases s8==[]
        .exact⟨2,rfl,rfl,by decide⟩
        .cases al:(decide (0<=N)&&decide (N<=(list.length:Int)-1))
         .exact⟨4,rfl,rfl,by decide⟩
         .simp only[Bool.and_eq_true,decide_eq_true_eq]at al;obtain⟨i,rfl⟩:∃i:Nat,N=i:=⟨N.toNat,by omega⟩
          rw[er list i (by omega)];simp only[bind_some,Bool.not_true,cond_false];have ee:((kx.length:Int) !=list[i].bW)= !((kx.length:Int)==list[i].bW):=rfl;rw[ee];cases((kx.length:Int)==list[i].bW)
          .exact⟨5,rfl,rfl,by decide⟩
          .cases pl.behind
           .exact⟨6,rfl,rfl,by decide⟩
           .cases s7 ⟨5,i,s8,kx⟩ pl.scope
            .exact⟨8,rfl,rfl,by decide⟩
            .exact⟨0,rfl,rfl,by decide⟩
       .have fS:(K==0)=false:=by simpa using a5
        have aW:(K==1)=false:=by simpa using ae
        have a8:(K==2)=false:=by simpa using ag
        have aY:(K==3)=false:=by simpa using aK
        have bT:(K==4)=false:=by simpa using a3
        have cF:(K==5)=false:=by simpa using bI
        have cj:(decide (0<=K)&&decide (K<=5))=false:=by
         rw[Bool.and_eq_false_iff,decide_eq_false_iff_not,decide_eq_false_iff_not];omega
        simp only[fS,aW,a8,aY,bT,cF,cj,Bool.false_and,cond_false,bind_some];exact⟨2,rfl,rfl,by decide⟩
 exact ams _ aw rfl
theorem xY {β:Type} {l:Nat->Int->Option β} {n:Nat} (p:Nat->Bool) (rY bad:Option β) (a5:∀m,l (m+1) (n:Int)=rY)
  (ad:∀i,i<n->∀m,l (m+1) (i:Int)=cond (p i) (l m ((i+1:Nat):Int)) bad):bU (λm=>l m 0)=cond (gN p n) rY bad:=by
 rw[vE (n:=n) (λi=>cond ((List.range' i (n-i)).all p) rY bad)]
 .simp[gN,List.range_eq_range']
 .intro m;rw[a5];simp
 .intro i al m ih;rw[ad i al,ih,show n-i=(n-(i+1))+1 by omega,List.range'_succ];cases aw:p i<;>simp[aw]
def VY (d:bg):Prop:=d.Name.length<=1048576/\d.Body.length<=1048576/\∀p∈d.Body,qR p
def uq (b:arV):Bool:=(decide (1<=b.length)&&decide (b.length<=20))&&vI b 1
theorem oq {b:arV} (h:uq b=true):dP b 1=some b.length/\1<=b.length/\b.length<=20:=by
 simp only[uq,OU,Bool.and_eq_true,decide_eq_true_eq,beq_iff_eq]at h;exact⟨h.2,h.1.1,h.1.2⟩
def eY (d:bg) (i:Nat):dv:=(g6 d.Body [⟨d.bW,false⟩]).getD i ⟨0,false⟩
theorem s9 (d:bg) (h:uq d.Body=true) (aw:0<=d.bW/\d.bW<=3) (i:Nat) (al:i<d.Body.length):
  vg d (i:Int)=some (eY d i).scope/\0<=(eY d i).scope/\(eY d i).scope<=29/\
   (eY d i).behind=vL d.Body i/\
   (g6 d.Body [⟨d.bW,false⟩])[i]? =some (eY d i):=by
 obtain⟨ae,ag,aK⟩:=oq h;obtain⟨s,pl,aW,a8,aY⟩:=VT d.Body [⟨d.bW,false⟩] d.Body.length ae i al;have ad:s=⟨d.bW,false⟩:=by
  simp only[vJ,ae]at aW;rw[if_pos al]at aW;exact(some.inj aW).symm
 subst ad;have ew:eY d i=pl:=by unfold eY;rw[List.getD_eq_getElem?_getD,a8];rfl
 have ax:=VQ d.Body i;simp only at aY;refine⟨?_,?_,?_,?_,?_⟩
 .rw[VR d (by omega) ae (by omega) i al,ew,aY]
 .rw[ew,aY];omega
 .rw[ew,aY];omega
 .rw[ew];exact amn d.Body ⟨d.bW,false⟩ rfl i pl a8
 .rw[ew];exact a8
theorem amw (list:arW) (hl:list.length<=4) (d:bg) (ak:VY d) (aw:0<=d.bW/\d.bW<=3):
  ∃r,tI list d=some r/\CQ list d=some r/\0<=r.2/\(r.2=0->uq d.Body=true):=by
 unfold tI CQ jD;rw[al_ _ ak.2.1];have OZ:=VJ d ak.2.1 0 (zero_le _);rw[show((0:Nat):Int)=0 from rfl,List.drop_zero]at OZ;simp only[bind_some];have k_:decide ((1:Int)<=(d.Body.length:Int))=decide (1<=d.Body.length):=decide_eq_decide.2 (by omega);have jM:decide ((d.Body.length:Int)<=20)=decide (d.Body.length<=20):=decide_eq_decide.2 (by omega);rw[k_,jM];show∃r,cond (!uq d.Body) _ _=_/\_;cases ad:uq d.Body
 .refine⟨(0,1),rfl,?_,by decide,λh=>by cases h⟩;cases ax:(decide (1<=d.Body.length)&&decide (d.Body.length<=20))
  .rfl
  .rw[OZ];have hw:vI d.Body 1=false:=by
    unfold uq at ad;rw[ax,Bool.true_and]at ad;exact ad
   have:(rX 0 (dP d.Body 1) !=(d.Body.length:Int))=true:=by
    rw[OU]at hw;cases he:dP d.Body 1 with
    |none=>simp only[rX,bne_iff_ne];omega
    |some n=>
     rw[he]at hw;have ee:n≠d.Body.length:=λe=>by simp[e]at hw
     simp only[rX,bne_iff_ne];omega
   simp only[Bool.not_true,cond_false,bind_some,this,cond_true]
 .obtain⟨ae,ag,aK⟩:=oq ad;have ax:(decide (1<=d.Body.length)&&decide (d.Body.length<=20))=true:=by simp;omega
  have ee:(rX 0 (some d.Body.length) !=(d.Body.length:Int))=false:=by simp[rX]
  rw[ax,OZ,ae];simp only[Bool.not_true,cond_false,bind_some,ee];rw[OV d ak.2.1 ae aw.1 (by omega)];simp only[bind_some];have key:∀i,i<=d.Body.length->∃r:Int×Int,(∀m,d.Body.length-i<m->tH list d m (i:Int)=some r)/\
    (∀m,d.Body.length-i<m->xk list d (g6 d.Body [⟨d.bW,false⟩]) m (i:Int)=some r)/\0<=r.2:=by
   refine down d.Body.length ⟨(0,0),λm hm=>?_,λm hm=>?_,by decide⟩ ?_
   .obtain⟨m,rfl⟩:∃j,m=j+1:=⟨m-1,by omega⟩
    simp only[tH,Ck];rw[dX (Nat.le_refl _)];rfl
   .obtain⟨m,rfl⟩:∃j,m=j+1:=⟨m-1,by omega⟩
    simp only[xk,Gl];rw[dX (Nat.le_refl _)];rfl
   .rintro i al ⟨r,dT,bb,dt⟩;obtain⟨dr,dh,hM,g7,k9⟩:=s9 d ad aw i al;obtain⟨v,v1,v2,sB⟩:=OY list hl d i al aK (ak.2.2 _ (List.getElem_mem al)) (eY d i) dr ⟨dh,hM⟩ g7;have bC:a_ (g6 d.Body [⟨d.bW,false⟩]) (i:Int)=some (eY d i):=by
     unfold a_;rw[if_pos (by omega)];exact k9
    by_cases aE:v=0
    .subst aE;refine⟨r,λm hm=>?_,λm hm=>?_,dt⟩
     .obtain⟨m,rfl⟩:∃j,m=j+1:=⟨m-1,by omega⟩
      simp only[tH,Ck];rw[eI al,v1,et i _ al (by omega),<-dT m (by omega)];rfl
     .obtain⟨m,rfl⟩:∃j,m=j+1:=⟨m-1,by omega⟩
      simp only[xk,Gl];rw[eI al,er _ i al,bC];simp only[cond_true,bind_some,v2];rw[et i _ al (by omega),<-bb m (by omega)];rfl
    .have KJ:decide (0<v)=true:=decide_eq_true (by omega);have Ai:(v !=0)=true:=by simpa using aE
     refine⟨((i:Int),v),λm hm=>?_,λm hm=>?_,sB⟩
     .obtain⟨m,rfl⟩:∃j,m=j+1:=⟨m-1,by omega⟩
      simp only[tH,Ck];rw[eI al,v1];simp only[cond_true,bind_some,KJ]
     .obtain⟨m,rfl⟩:∃j,m=j+1:=⟨m-1,by omega⟩
      simp only[xk,Gl];rw[eI al,er _ i al,bC];simp only[cond_true,bind_some,v2,Ai]
  obtain⟨r,dT,bb,dt⟩:=key 0 (zero_le _);refine⟨r,fO (d.Body.length+1) λm hm=>dT m (by omega),fO (d.Body.length+1) λm hm=>bb m (by omega),dt,λ_=>trivial⟩
def ur (d:bg):Bool:=decide (0<=d.bW)&&decide (d.bW<=3)
def Aj (list:arW):Bool:=gN (λi=>ur (list.getD i ⟨[],0,[]⟩)) list.length
theorem VZ {list:arW} (h:Aj list=true) (i:Nat) (al:i<list.length):0<=list[i].bW/\list[i].bW<=3:=by
 have:=s5.1 h i al;have e:list.getD i ⟨[],0,[]⟩=list[i]:=by simp[List.getD,al]
 rw[e]at this;simpa [ur]using this
theorem amx (list:arW) (hl:list.length<=1048576):Ge list=some (Aj list):=by
 unfold Ge LM LL;rw[Af (n:=list.length) (λi=> !ur (list.getD i ⟨[],0,[]⟩))]
 .simp only[bind_some,Ae,Bool.not_not];rfl
 .intro m;simp only[CD,LK];rw[dX (Nat.le_refl _)];rfl
 .intro i al m;simp only[CD,LK];rw[eI al,lT _ i ⟨[],0,[]⟩ al,et i _ al (by omega)];simp only[cond_true,bind_some,LJ,jD];rfl
def lU (list:arW):Prop:=list.length<=1048576/\∀d∈list,VY d
theorem pZ {α:Type} (d:List α) (x:α) (r:List α):a_ (d++x::r) (d.length:Int)=some x:=by
 rw[er _ _ (by simp)];simp
theorem uu {α:Type} (d:List α) (x y:α) (r:List α):List.set (d++x::r) (Int.toNat (d.length:Int)) y=d++y::r:=by
 simp
theorem uv {k:Int} (h:0<=k):decide (k<0)=false:=by simp;omega
theorem p0 {α:Type} (d:List α) (x:α) (r:List α):decide ((d.length:Int)<((d++x::r).length:Int))=true:=by simp;omega
theorem p1 {α:Type} {d:List α} (h:d.length<=1099511627776):i64.wrap ((d.length:Int)+1)=((d.length+1:Nat):Int):=by rw[fl _ (by omega)];omega
theorem vN {α:Type} (f:α->Nat):∀a:List α,fV (λx=>64*(f x+1)) a=64*ea f a
 |[]=>rfl
 |x::r=>by
  have:=vN f r;unfold ea at this⊢;simp only[fV,List.length_cons];omega
theorem O0 {α:Type} (n:Nat):∀a:List α,fV (λ_=>n) a=n*a.length
 |[]=>rfl
 |x::r=>by simp only[fV,O0 n r,List.length_cons,Nat.mul_add];omega
theorem D1 {α:Type} {l:Nat->List α->Int->Int->Option (Int×List α)} (w:α->Nat) (a5:∀m (v:List α) k,l (m+1) v k (v.length:Int)=some (k,v))
  (ad:∀x (k:Int),0<=k->k+w x<=1099511627776->∃cD c,c<=w x/\∀m (d r:List α),d.length<=1099511627776->l (m+1) (d++x::r) k (d.length:Int)=l m (d++cD::r) (k+(c:Nat)) ((d.length+1:Nat):Int))
  (a:List α) (k:Int) (ao:0<=k) (hl:a.length<=1099511627776) (ab:k+fV w a<=1099511627776):∃dd c,c<=fV w a/\bU (λn=>l n a k 0)=some (k+(c:Nat),dd):=by
 have key:∀(r:List α) (k:Int),0<=k->k+fV w r<=1099511627776->∃hE c,c<=fV w r/\∀(d:List α) (m:Nat),d.length+r.length<=1099511627776->r.length<m->l m (d++r) k (d.length:Int)=some (k+(c:Nat),d++hE):=by
  intro r;induction r with
  |nil=>
   intro k _ _;refine⟨[],0,Nat.le_refl _,λd m _ hm=>?_⟩;obtain⟨m,rfl⟩:∃j,m=j+1:=⟨m-1,by omega⟩
   rw[List.append_nil,a5];simp
  |cons x r ih=>
   intro k ae ag;simp only[fV]at ag;obtain⟨cD,c,b2,cc⟩:=ad x k ae (by omega);obtain⟨hE,uU,aW,a8⟩:=ih (k+c) (by omega) (by omega);refine⟨cD::hE,c+uU,by simp only[fV];omega,λd m ak hm=>?_⟩;simp only[List.length_cons]at ak hm;obtain⟨m,rfl⟩:∃j,m=j+1:=⟨m-1,by omega⟩
   rw[cc m d r (by omega)];have:=a8 (d++[cD]) m (by simp only[List.length_append,List.length_cons,List.length_nil];omega) (by omega);simp only[List.length_append,List.length_cons,List.length_nil,List.append_assoc,List.cons_append,List.nil_append,Nat.zero_add]at this;rw[this];simp only[some.injEq,Prod.mk.injEq,and_true];omega
 obtain⟨dd,c,aW,a8⟩:=key a k ao ab;refine⟨dd,c,aW,fO (a.length+1) λm hm=>?_⟩;have:=a8 [] m (by simpa using hl) (by omega);simpa using this
theorem H5 {α:Type} {l:Nat->List α->Int->Int->Option (Int×List α)} {hl:List α->Nat->Int->Int->arJ} (w:α->Nat) (a5:∀m (v:List α) k,l (m+1) v k (v.length:Int)=some (k,v))
  (fM:∀(a:List α) m k,hl a (m+1) k (a.length:Int)=some k)
  (ad:∀x (k:Int),0<=k->k+w x<=1099511627776->∃cD c,c<=w x/\∀m (d r:List α),d.length<=1099511627776->l (m+1) (d++x::r) k (d.length:Int)=l m (d++cD::r) (k+(c:Nat)) ((d.length+1:Nat):Int)/\
   hl (d++cD::r) (m+1) k (d.length:Int)=hl (d++cD::r) m (k+(c:Nat)) ((d.length+1:Nat):Int))
  (a:List α) (k:Int) (ao:0<=k) (V0:a.length<=1099511627776) (ab:k+fV w a<=1099511627776):∃dd c,c<=fV w a/\bU (λn=>l n a k 0)=some (k+(c:Nat),dd)/\bU (λn=>hl dd n k 0)=some (k+(c:Nat)):=by
 have key:∀(r:List α) (k:Int),0<=k->k+fV w r<=1099511627776->∃hE c,c<=fV w r/\hE.length=r.length/\∀(d:List α) (m:Nat),d.length+r.length<=1099511627776->r.length<m->l m (d++r) k (d.length:Int)=some (k+(c:Nat),d++hE)/\
   hl (d++hE) m k (d.length:Int)=some (k+(c:Nat)):=by
  intro r;induction r with
  |nil=>
   intro k _ _;refine⟨[],0,Nat.le_refl _,rfl,λd m _ hm=>?_⟩;obtain⟨m,rfl⟩:∃j,m=j+1:=⟨m-1,by omega⟩
   rw[List.append_nil,a5,fM];simp
  |cons x r ih=>
   intro k ae ag;simp only[fV]at ag;obtain⟨cD,c,b2,cc⟩:=ad x k ae (by omega);obtain⟨hE,uU,aW,aY,a8⟩:=ih (k+c) (by omega) (by omega);refine⟨cD::hE,c+uU,by simp only[fV];omega,by simp only[List.length_cons,aY],λd m ak hm=>?_⟩;simp only[List.length_cons]at ak hm;obtain⟨m,rfl⟩:∃j,m=j+1:=⟨m-1,by omega⟩
   rw[(cc m d r (by omega)).1,(cc m d hE (by omega)).2];have:=a8 (d++[cD]) m (by simp only[List.length_append,List.length_cons,List.length_nil];omega) (by omega);simp only[List.length_append,List.length_cons,List.length_nil,List.append_assoc,List.cons_append,List.nil_append,Nat.zero_add]at this;rw[this.1,this.2];simp only[some.injEq,Prod.mk.injEq,and_true];exact⟨by omega,by omega⟩
 obtain⟨dd,c,aW,aY,a8⟩:=key a k ao ab;refine⟨dd,c,aW,fO (a.length+1) λm hm=>?_,fO (a.length+1) λm hm=>?_⟩
 .have:=(a8 [] m (by simpa using V0) (by omega)).1;simpa using this
 .have:=(a8 [] m (by simpa using V0) (by omega)).2;simpa using this
end Go.mc
