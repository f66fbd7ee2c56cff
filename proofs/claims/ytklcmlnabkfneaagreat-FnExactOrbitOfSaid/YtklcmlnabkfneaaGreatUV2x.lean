/- Part of a proof that a law returns true for every input. No condition. -/
import Derived.Test.YtklcmlnabkfneaaGreatUV1x
import Derived.Test.YtklcmlnabkfneaaGreatUV0x
namespace Go.l3
open Option Go.IntKind Nat Or
open Go Go.de
def below (p:bT) (s:c5):c5:=⟨if p.Kind=4 then s.scope+1 else s.scope,p.Kind==1⟩
def gK:amh->amm->amm
 |[],_=>[]
 |_::_,[]=>[]
 |p::r,s::st=>s::gK r (List.replicate (eu p) (below p s)++st)
theorem ahP (l:amh):gK l []=[]:=by cases l<;>rfl
theorem wZ:∀{l:amh} {st:amm} {k:Nat},eO l st.length=some k->(gK l st).length=k
 |[],[],k,h=>by simp only[List.length_nil,eO,some.injEq]at h;subst h;rfl
 |[],s::st,k,h=>by simp[eO]at h
 |p::r,[],k,h=>by simp only[List.length_nil,eO,some.injEq]at h;subst h;rfl
 |p::r,s::st,k,h=>by
  obtain⟨cF,bC,rfl⟩:=qE.1 h;simp only[gK,List.length_cons];rw[wZ (k:=cF) (by rw[List.length_append,List.length_replicate,Nat.add_comm];exact bC)]
theorem QZ:∀{l:amh} {s1 s2:amm} {k:Nat},eO l s1.length=some k->gK l (s1++s2)=gK l s1++gK (l.drop k) s2
 |[],[],s2,k,h=>by simp only[List.length_nil,eO,some.injEq]at h;subst h;rfl
 |[],s::st,s2,k,h=>by simp[eO]at h
 |p::r,[],s2,k,h=>by simp only[List.length_nil,eO,some.injEq]at h;subst h;simp[gK]
 |p::r,s::st,s2,k,h=>by
  obtain⟨cF,bC,rfl⟩:=qE.1 h;simp only[gK,List.cons_append,List.drop_succ_cons];rw[<-List.append_assoc,QZ (k:=cF) (by rw[List.length_append,List.length_replicate,Nat.add_comm];exact bC)]
def patch (out:amm) (i:Nat) (new:amm):amm:=out.take i++(new++out.drop (i+new.length))
theorem ahQ (out:amm) (i:Nat):patch out i []=out:=by simp[patch]
theorem Q0 {out:amm} {i:Nat} {new:amm} (h:i+new.length<=out.length):(patch out i new).length=out.length:=by
 simp[patch];omega
theorem Q1 {out:amm} {i j:Nat} {a b:amm} (bm:j=i+a.length) (h:i+a.length+b.length<=out.length):patch (patch out i a) j b=patch out i (a++b):=by
 subst bm;unfold patch;have aR:(out.take i).length=i:=by rw[List.length_take];omega
 have t1:(out.take i++(a++out.drop (i+a.length))).take (i+a.length)=out.take i++a:=by
  rw[<-List.append_assoc,List.take_left' (by rw[List.length_append,aR])]
 have t2:(out.take i++(a++out.drop (i+a.length))).drop (i+a.length+b.length)=out.drop (i+a.length+b.length):=by
  rw[<-List.append_assoc,<-List.drop_drop,List.drop_left' (by rw[List.length_append,aR]),List.drop_drop]
 rw[t1,t2];simp only[List.append_assoc,List.length_append,Nat.add_assoc]
theorem ahR {out:amm} {i:Nat} {s:c5} (h:i<out.length):out.set i s=patch out i [s]:=by
 unfold patch;apply List.ext_getElem?;intro j;rw[List.getElem?_set];rcases Nat.lt_trichotomy i j with q8|q8|q8
 .rw[if_neg (by omega),List.getElem?_append_right (by simp;omega)];have aR:(out.take i).length=i:=by simp;omega
  rw[aR];obtain⟨d,rfl⟩:∃d,j=i+(d+1):=⟨j-i-1,by omega⟩
  rw[show i+(d+1)-i=d+1 by omega];simp only[List.singleton_append,List.getElem?_cons_succ,List.length_singleton,List.getElem?_drop];congr 1;omega
 .subst q8;rw[if_pos rfl,if_pos h,List.getElem?_append_right (by simp;omega)];have aR:(out.take i).length=i:=by simp;omega
  rw[aR];simp
 .rw[if_neg (by omega),List.getElem?_append_left (by simp;omega),List.getElem?_take,if_pos q8]
theorem ahS (n:Int) (h:0<=n) (ae:n<=1000000):i64.wrap (n+1)=n+1:=eN _ (by omega)
theorem Q2 {rec:Int->c5->amm->bs->Option (Int×amm)} {d:bs} {n:Nat} (ai:d.Body.length<=1048576)
  (Q3:∀(at_ k:Nat) (s:c5) (out:amm),out.length=d.Body.length->eO (d.Body.drop at_) 1=some k->k<=n->0<=s.scope->s.scope+k<=1000000->
   rec (at_:Int) s out d=some (((at_+k:Nat):Int),patch out at_ (gK (d.Body.drop at_) [s])))
  (dj:Int) (p:bT) (f:Nat) (bo:f<=2):∀(c j at_ k:Nat) (out:amm) (m:Nat),j+c=f->c<m->out.length=d.Body.length->eO (d.Body.drop at_) c=some k->k<=n->0<=dj->dj+k<=1000000->
   tT rec d dj p (f:Int) m out (at_:Int) (j:Int)=some (((at_+k:Nat):Int),patch out at_ (gK (d.Body.drop at_) (List.replicate c ⟨dj,p.Kind==1⟩)))
 |0,j,at_,k,out,m,bm,hm,bE,he,ax,aX,ab=>by
  obtain⟨m,rfl⟩:∃i,m=i+1:=⟨m-1,by omega⟩
  rw[AF]at he;cases he;simp only[tT,Hu];rw[eJ (by omega)];simp[ahP,ahQ]
 |c+1,j,at_,k,out,m,bm,hm,bE,he,ax,aX,ab=>by
  obtain⟨m,rfl⟩:∃i,m=i+1:=⟨m-1,by omega⟩
  rw[Nat.add_comm c 1]at he;obtain⟨b3,cc,aR,aV,rfl⟩:=AG he;have eV:=uy aR;have l2:=uy aV;rw[List.length_drop]at eV;rw[List.drop_drop,List.length_drop]at l2;have hlen:(gK (d.Body.drop at_) [⟨dj,p.Kind==1⟩]).length=b3:=wZ (st:=[_]) aR;simp only[tT,Hu];rw[fA (by omega),Q3 at_ b3 _ out bE aR (by omega) aX (by show dj+(b3:Int)<=_;omega),fu j f (by omega) (by omega)];simp only[cond_true,bind_some];have fI:(patch out at_ (gK (d.Body.drop at_) [⟨dj,p.Kind==1⟩])).length=d.Body.length:=by
   rw[Q0 (by rw[hlen];omega),bE]
  rw[List.drop_drop]at aV;rw[Q2 ai Q3 dj p f bo c (j+1) (at_+b3) cc _ m (by omega) (by omega) fI aV (by omega) aX (by omega)];have ahT:(gK (d.Body.drop (at_+b3)) (List.replicate c ⟨dj,p.Kind==1⟩)).length=cc:=wZ (by rw[List.length_replicate];exact aV);have ahU:gK (d.Body.drop at_) (List.replicate (c+1) ⟨dj,p.Kind==1⟩)=gK (d.Body.drop at_) [⟨dj,p.Kind==1⟩]++gK (d.Body.drop (at_+b3)) (List.replicate c ⟨dj,p.Kind==1⟩):=by
   rw[List.replicate_succ,<-List.singleton_append,QZ (k:=b3) (s1:=[_]) aR,List.drop_drop]
  rw[ahU,Q1 (by rw[hlen]) (by rw[hlen,ahT];omega),Nat.add_assoc]
theorem Q4 (d:bs) (ai:d.Body.length<=1048576):∀(n at_ k:Nat) (s:c5) (out:amm),out.length=d.Body.length->eO (d.Body.drop at_) 1=some k->k<=n->0<=s.scope->s.scope+k<=1000000->
  tU n (at_:Int) s out d=some (((at_+k:Nat):Int),patch out at_ (gK (d.Body.drop at_) [s]))
 |0,at_,k,s,out,bE,he,ax,aX,ab=>by have:=uy he;omega
 |n+1,at_,k,s,out,bE,he,ax,aX,ab=>by
  have l:=uy he;rw[List.length_drop]at l;have ao:at_<d.Body.length:=by omega
  rw[drop_cons _ at_ ao]at he⊢;obtain⟨cF,nu,rfl⟩:=qE.1 he;simp only[Nat.zero_add]at nu;have bo:=wY d.Body[at_];have ahV:=Q2 (n:=n) ai (Q4 d ai n) (below d.Body[at_] s).scope d.Body[at_] (eu d.Body[at_]) bo (eu d.Body[at_]) 0 (at_+1) cF (patch out at_ [s]);have hlen:(gK (d.Body.drop (at_+1)) (List.replicate (eu d.Body[at_]) (below d.Body[at_] s)++[])).length=cF:=by
   rw[List.append_nil];exact wZ (by rw[List.length_replicate];exact nu)
  have ahW:(at_+1+cF:Nat)=at_+(cF+1):=by omega
  have R:0<=(below d.Body[at_] s).scope/\(below d.Body[at_] s).scope+cF<=1000000:=by
   unfold below;simp only;split<;>omega
  have key:(lim λm=>tT (tU n) d (below d.Body[at_] s).scope d.Body[at_] ((eu d.Body[at_]:Nat):Int) m (List.set out (Int.toNat (at_:Int)) s) (i64.wrap ((at_:Int)+1)) 0)=
    some (((at_+(cF+1):Nat):Int),patch out at_ (gK (d.Body[at_]::d.Body.drop (at_+1)) [s])):=by
   refine eP (eu d.Body[at_]+1) λm hm=>?_;rw[Int.toNat_natCast,ahR (by omega),fu at_ _ ao (by omega)];have h:=ahV m (by omega) (by omega) (by rw[Q0 (by simp;omega),bE]) nu (by omega) R.1 R.2;rw[show((0:Nat):Int)=0 from rfl]at h;rw[h,ahW];congr 2;have ahX:(gK (d.Body.drop (at_+1)) (List.replicate (eu d.Body[at_]) ⟨(below d.Body[at_] s).scope,d.Body[at_].Kind==1⟩)).length=cF:=wZ (by rw[List.length_replicate];exact nu);rw[Q1 (i:=at_) (a:=[s]) (j:=at_+1) rfl (by rw[ahX,List.length_singleton];omega)];simp only[gK,List.append_nil,List.singleton_append];rfl
  simp only[tU,Hv];rw[e9 out at_ (by omega),e9 _ at_ ao];simp only[bind_some,Cy,QX];by_cases a6:d.Body[at_].Kind=4
  .have e:(d.Body[at_].Kind==4)=true:=by simpa using a6
   have aV:(below d.Body[at_] s).scope=s.scope+1:=by simp[below,a6]
   rw[e,cond_true,ahS s.scope aX (by omega),<-aV];exact key
  .have e:(d.Body[at_].Kind==4)=false:=by simpa using a6
   have aV:(below d.Body[at_] s).scope=s.scope:=by simp[below,a6]
   rw[e,cond_false];conv=>lhs;rw[show s.scope=(below d.Body[at_] s).scope from aV.symm]
   exact key
theorem Q5 (d:bs) (ai:d.Body.length<=1048576) (ad:eO d.Body 1=some d.Body.length) (aX:0<=d.db) (ab:d.db+d.Body.length<=1000000):
  vN d=some (gK d.Body [⟨d.db,false⟩]):=by
 unfold vN;rw[qz 16 ai (by decide)];simp only[bind_some];have hlen:(gK d.Body [⟨d.db,false⟩]).length=d.Body.length:=wZ (st:=[_]) ad;have:Cz 0 ⟨d.db,false⟩ (List.replicate (Int.toNat (d.Body.length:Int)) ⟨0,false⟩) d=some ((d.Body.length:Int),gK d.Body [⟨d.db,false⟩]):=by
  unfold Cz;refine eP d.Body.length λm hm=>?_;have:=Q4 d ai m 0 d.Body.length ⟨d.db,false⟩ (List.replicate (Int.toNat (d.Body.length:Int)) ⟨0,false⟩) (by simp) (by simpa using ad) hm aX ab;rw[show((0:Nat):Int)=0 from rfl]at this;rw[this,Nat.zero_add,List.drop_zero];congr 2;unfold patch;rw[Nat.zero_add,hlen,List.drop_of_length_le (by simp)];simp
 rw[this];rfl
def J_ (l:amh) (q:Nat):Bool:=match eO l 1 with
 |some e=>decide (q<e)
 |none=>false
def nd:amh->Nat->Nat
 |[],_=>0
 |_::_,0=>0
 |p::r,q+1=>(if p.Kind=4/\J_ (p::r) (q+1)=true then 1 else 0)+nd r q
theorem ahY (l:amh):nd l 0=0:=by cases l<;>rfl
theorem Q6:∀(l:amh) (q:Nat),nd l q<=q
 |[],q=>by simp[nd]
 |_::_,0=>by simp[nd]
 |p::r,q+1=>by
  have:=Q6 r q;simp only[nd];split<;>omega
theorem ahZ (d:bs) (ai:d.Body.length<=1048576) (ad:eO d.Body 1=some d.Body.length) (aX: -1000000<=d.db/\d.db<=1000000) (q:Nat) (b1:q<d.Body.length):
  ss d (q:Int)=some (d.db+(nd d.Body q:Nat)):=by
 unfold ss;have key:∀i,i<=q->∀(c:Int) m,-1000000<=c->c<=1000000+i->q-i<m->tL d (q:Int) m c (i:Int)=some (c+(nd (d.Body.drop i) (q-i):Nat)):=by
  refine down q ?_ ?_
  .intro c m _ _ hm;obtain⟨m,rfl⟩:∃j,m=j+1:=⟨m-1,by omega⟩
   simp only[tL,G0];rw[eJ (Nat.le_refl _),Nat.sub_self,ahY];simp
  .intro i ao ih c m nr mI hm;obtain⟨m,rfl⟩:∃j,m=j+1:=⟨m-1,by omega⟩
   simp only[tL,G0];have Ka:i<d.Body.length:=by omega
   rw[fA ao,e9 _ i Ka];simp only[cond_true,bind_some,y4];obtain⟨e,x4,L_,u2⟩:=ahL ad Ka;rw[ahO _ ai i e x4,fu i q ao (by omega)];simp only[bind_some];have ah0:nd (d.Body.drop i) (q-i)=(if d.Body[i].Kind=4/\q<i+e then 1 else 0)+nd (d.Body.drop (i+1)) (q-(i+1)):=by
    have Q7:=x4;rw[drop_cons _ i Ka]at Q7⊢;rw[show q-i=(q-(i+1))+1 by omega];simp only[nd,J_,Q7];congr 1;by_cases ax:d.Body[i].Kind=4
    .by_cases rG:q<i+e
     .rw[if_pos ⟨ax,by simp;omega⟩,if_pos ⟨ax,rG⟩]
     .rw[if_neg (λh=>by simp at h;omega),if_neg (λh=>rG h.2)]
    .rw[if_neg (λh=>ax h.1),if_neg (λh=>ax h.1)]
   rw[ah0];by_cases ax:d.Body[i].Kind=4
   .have Kb:(d.Body[i].Kind==4)=true:=by simpa using ax
    rw[Kb,cond_true];by_cases rG:q<i+e
    .rw[fA rG,cond_true,eN (c+1) (by omega),ih (c+1) m (by omega) (by omega) (by omega),if_pos ⟨ax,rG⟩];congr 1;omega
    .rw[eJ (by omega),cond_false,ih c m nr (by omega) (by omega),if_neg (λh=>rG h.2)];congr 1;omega
   .have Kb:(d.Body[i].Kind==4)=false:=by simpa using ax
    rw[Kb,cond_false,ih c m nr (by omega) (by omega),if_neg (λh=>ax h.1)];congr 1;omega
 refine eP (q+1) λm hm=>?_;have:=key 0 (by omega) d.db m (by omega) (by omega) (by omega);simpa using this
def sQ:amh->amm->Nat->Option c5
 |_,[],_=>none
 |l,s::st,q=>match eO l 1 with
  |none=>none
  |some k=>if q<k then some s else sQ (l.drop k) st (q-k)
theorem Q8:∀(f:Nat) (r:amh) (b:c5) (st:amm) (k q:Nat),eO r f=some k->sQ r (List.replicate f b++st) q=if q<k then some b else sQ (r.drop k) st (q-k)
 |0,r,b,st,k,q,h=>by rw[AF]at h;cases h;simp
 |f+1,r,b,st,k,q,h=>by
  rw[Nat.add_comm f 1]at h;obtain⟨b3,cc,ab,ae,rfl⟩:=AG h;rw[List.replicate_succ,List.cons_append];simp only[sQ,ab];by_cases b1:q<b3
  .rw[if_pos b1,if_pos (by omega)]
  .rw[if_neg b1,Q8 f _ b st cc (q-b3) ae];by_cases Q9:q-b3<cc
   .rw[if_pos Q9,if_pos (by omega)]
   .rw[if_neg Q9,if_neg (by omega),List.drop_drop,Nat.sub_sub]
theorem Q_:∀(l:amh) (st:amm) (k:Nat),eO l st.length=some k->∀q,q<k->∃s pl,sQ l st q=some s/\(gK l st)[q]? =some pl/\pl.scope=s.scope+(nd l q:Nat)
 |[],[],k,h,q,b1=>by simp only[List.length_nil,eO,some.injEq]at h;omega
 |[],s::st,k,h,q,b1=>by simp[eO]at h
 |p::r,[],k,h,q,b1=>by simp only[List.length_nil,eO,some.injEq]at h;omega
 |p::r,s::st,k,h,q,b1=>by
  have aX:=h;obtain⟨cF,bC,rfl⟩:=qE.1 h;rw[List.length_cons,Nat.add_comm st.length 1]at aX;obtain⟨e,cc,he,oB,ax⟩:=AG aX;obtain⟨f_,nu,rfl⟩:=qE.1 he;simp only[Nat.zero_add]at nu;cases q with
  |zero=>
   refine⟨s,s,?_,rfl,?_⟩
   .simp only[sQ,he];rw[if_pos (by omega)]
   .simp[nd]
  |succ q=>
   have hl:eO r (List.replicate (eu p) (below p s)++st).length=some cF:=by
    rw[List.length_append,List.length_replicate,Nat.add_comm];exact bC
   obtain⟨aB,pl,ab,ae,az⟩:=Q_ r _ cF hl q (by omega);rw[Q8 _ _ _ _ f_ q nu]at ab;simp only[gK,List.getElem?_cons_succ,sQ,he,nd,J_,decide_eq_true_eq];by_cases rG:q<f_
   .rw[if_pos rG]at ab;simp only[some.injEq]at ab;subst ab;refine⟨s,pl,by rw[if_pos (by omega)],ae,?_⟩;rw[az];by_cases DZ:p.Kind=4
    .rw[if_pos ⟨DZ,by omega⟩];simp only[below,if_pos DZ];omega
    .rw[if_neg (λh=>DZ h.1)];simp only[below,if_neg DZ];omega
   .rw[if_neg rG]at ab;refine⟨aB,pl,?_,ae,?_⟩
    .rw[if_neg (by omega),List.drop_succ_cons,show q+1-(f_+1)=q-f_ by omega];exact ab
    .rw[az,if_neg (λh=>by omega)];omega
theorem ah1 {p:bT} (h:eu p=0):(p.Kind==1)=false:=by
 unfold eu at h;split at h
 .omega
 .rename_i aS;simp only[beq_eq_false_iff_ne];exact λe=>aS (.inl e)
theorem ah2 {p:bT} (h:eu p=2):(p.Kind==1)=false:=by
 unfold eu at h;split at h
 .omega
 .rename_i aS;simp only[beq_eq_false_iff_ne];exact λe=>aS (.inl e)
def Kc (b:amh):Nat->Bool
 |0=>false
 |q+1=>match b[q]? with
  |some p=>p.Kind==1
  |none=>false
theorem Ra:∀(l:amh) (st:amm),(∀s∈st.tail,s.behind=false)->∀(q:Nat) (pl:c5),(gK l st)[q]? =some pl->
  pl.behind=match q with
   |0=>match st with
    |s::_=>s.behind
    |[]=>false
   |q+1=>match l[q]? with
    |some p=>p.Kind==1
    |none=>false
 |[],st,_,q,pl,h=>by simp[gK]at h
 |p::r,[],_,q,pl,h=>by simp[gK]at h
 |p::r,s::st,z8,q,pl,h=>by
  cases q with
  |zero=>simp only[gK,List.getElem?_cons_zero,some.injEq]at h;subst h;rfl
  |succ q=>
   simp only[gK,List.getElem?_cons_succ]at h;have ah3:∀aB∈(List.replicate (eu p) (below p s)++st).tail,aB.behind=false:=by
    intro aB fc;have bo:=wY p;rcases(by omega:eu p=0\/eu p=1\/eu p=2)with bo|bo|bo
    .rw[bo]at fc;simp only[List.replicate_zero,List.nil_append]at fc;exact z8 aB (by simpa using List.mem_of_mem_tail fc)
    .rw[bo]at fc;simp only[List.replicate_succ,List.replicate_zero,List.cons_append,List.nil_append,List.tail_cons]at fc;exact z8 aB (by simpa using fc)
    .rw[bo]at fc;simp only[List.replicate_succ,List.replicate_zero,List.cons_append,List.nil_append,List.tail_cons,List.mem_cons]at fc;rcases fc with rfl|fc
     .exact ah2 bo
     .exact z8 aB (by simpa using fc)
   have ih:=Ra r _ ah3 q pl h;rw[ih];cases q with
   |succ q=>rfl
   |zero=>
    simp only[List.getElem?_cons_zero];have bo:=wY p;rcases(by omega:eu p=0\/eu p=1\/eu p=2)with bo|bo|bo
    .rw[bo,ah1 bo];simp only[List.replicate_zero,List.nil_append];cases st with
     |nil=>rfl
     |cons s2 st=>exact z8 s2 (by simp)
    .rw[bo];rfl
    .rw[bo];rfl
theorem ah4 (l:amh) (s:c5) (ad:s.behind=false) (q:Nat) (pl:c5) (h:(gK l [s])[q]? =some pl):pl.behind=Kc l q:=by
 rw[Ra l [s] (λs ad=>by simp at ad) q pl h];cases q with
 |zero=>exact ad
 |succ q=>rfl
theorem ah5 {l:Nat->Int->alT} {n:Nat} (p:Nat->Bool) (pt bad:Int) (aX:∀m,l (m+1) (n:Int)=some pt)
  (ad:∀i,i<n->∀m,l (m+1) (i:Int)=cond (p i) (l m ((i+1:Nat):Int)) (some bad)):lim (λm=>l m 0)=some (cond (fv p n) pt bad):=by
 rw[nL (n:=n) (λi=>some (cond ((List.range' i (n-i)).all p) pt bad))]
 .simp[fv,List.range_eq_range']
 .intro m;rw[aX];simp
 .intro i ao m ih;rw[ad i ao,ih,show n-i=(n-(i+1))+1 by omega,List.range'_succ];cases aq:p i<;>simp[aq]
def AH (p:bT):Prop:=p.Name.length<=1048576/\p.cw.length<=1048576/\∀e∈p.cw,e.length<=1048576
def rH (p:bT) (dj:Int):Bool:=fv (λi=>ux (p.cw.getD i []) dj 15) p.cw.length
theorem ah6 (p:bT) (aq:AH p) (dj:Int) (h:0<=dj/\dj<=29):lim (λn=>tM p n dj 0)=some (cond (rH p dj) 0 8):=by
 refine ah5 (l:=λm i=>tM p m dj i) _ _ _ (λm=>?_) (λi ao m=>?_)
 .simp only[tM,G3];rw[eJ (Nat.le_refl _)];rfl
 .simp only[tM,G3];rw[fA ao,lO _ i [] ao,fu i _ ao (by have:=aq.2.1;omega)];simp only[cond_true,bind_some];rw[ahJ _ dj 15 (by omega) (by
   have:p.cw.getD i []=p.cw[i]:=by simp[List.getD,ao]
   rw[this];exact aq.2.2 _ (List.getElem_mem ao))]
  simp only[bind_some];cases ux (p.cw.getD i []) dj 15<;>rfl
theorem ah7 (p:bT) (aq:AH p) (pl:c5) (h:0<=pl.scope/\pl.scope<=29):CC p.cw pl=some (!(rH p pl.scope)):=by
 unfold CC HC;rw[uo (n:=p.cw.length) (λi=> !ux (p.cw.getD i []) pl.scope 15)]
 .simp only[bind_some,um,Bool.not_not];rfl
 .intro m;simp only[zj,HB];rw[eJ (Nat.le_refl _)];rfl
 .intro i ao m;simp only[zj,HB];rw[fA ao,lO _ i [] ao,fu i _ ao (by have:=aq.2.1;omega)];simp only[cond_true,bind_some,HA];rw[ahK _ pl.scope 15 h (by omega) (by
   have:p.cw.getD i []=p.cw[i]:=by simp[List.getD,ao]
   rw[this];exact aq.2.2 _ (List.getElem_mem ao))]
  simp only[bind_some]
theorem Rb (s:alO) (ad:s.length<=1048576):rb s=some (kC s&& !(s==([116,97,117]:alO))):=by
 unfold rb;rw[QU s (by omega)];rfl
theorem ah8 {s:alO} (h:(s==([116,97,117]:alO))=true):kC s=true:=by
 have:s=[116,97,117]:=by simpa using h
 subst this;decide
theorem D0 (n:Int) (l:Nat) (hl:l<=1048576):sx n (l:Int)=some (decide (0<=n)&&decide (n<=(l:Int)-1)):=by
 unfold sx jB;rw[eN ((l:Int)-1) (by omega)];rfl
theorem ah9 (list:ami) (hl:list.length<=4) (d:bs) (at_:Nat) (ah_:at_<d.Body.length) (R:d.Body.length<=20) (aq:AH d.Body[at_]) (pl:c5)
  (nR:ss d (at_:Int)=some pl.scope) (Rc:0<=pl.scope/\pl.scope<=29)
  (sR:pl.behind=Kc d.Body at_):
  ∃r,y8 list d (at_:Int)=some r/\zn d.Body[at_] list pl=some r/\0<=r:=by
 have aia:∀p,AH p->p=d.Body[at_]->∃r,y8 list d (at_:Int)=some r/\zn p list pl=some r/\0<=r:=by
  intro p aq Eu;have Ge:=ah6 p aq pl.scope Rc;have Bz:=ah7 p aq pl Rc;have Kd:=Rb p.Name aq.1;have aib:=J7 p.Name;have aic:tN d (at_:Int) p=some (cond ((p.Kind==5)&& !pl.behind) 6 (cond ((p.Kind==4)&&decide (6<=pl.scope)) 7 (cond (rH p pl.scope) 0 8))):=by
   have aid:∀v,vz d (at_:Int) p v=some (cond v 6 (cond ((p.Kind==4)&&decide (6<=pl.scope)) 7 (cond (rH p pl.scope) 0 8))):=by
    intro v;unfold vz;rw[nR];simp only[bind_some,Ge];cases v<;>cases(p.Kind==4&&decide (6<=pl.scope))<;>rfl
   unfold tN;simp only[aid];cases at_ with
   |zero=>
    replace sR:pl.behind=false:=sR;rw[sR];simp only[Bool.not_false,Bool.and_true];cases p.Kind==5<;>rfl
   |succ q=>
    have b1:q<d.Body.length:=by omega
    have gr:(((q+1:Nat):Int)==0)=false:=by rw[beq_eq_false_iff_ne];omega
    rw[gr,Ax (q+1) (by omega) (by omega),show q+1-1=q from rfl,e9 _ q b1];replace sR:pl.behind=(match d.Body[q]? with|some p=>p.Kind==1|none=>false):=sR;rw[List.getElem?_eq_getElem b1]at sR;simp only[cond_false,bind_some];simp only at sR;rw[sR];have cY:(d.Body[q].Kind !=1)= !(d.Body[q].Kind==1):=rfl;rw[cY];cases p.Kind==5<;>cases d.Body[q].Kind==1<;>rfl
  have nt:bl d.Body (at_:Int)=some p:=by rw[e9 _ at_ ah_,Eu]
  have D1:((p.cw.length:Int)==0)=true->rH p pl.scope=true:=by
   intro h;have:p.cw.length=0:=by simpa using h
   unfold rH;rw[this];rfl
  unfold y8 zn Hw GY B8;rw[nt];simp only[Cb,tO,zl,tV,bind_some,aic,Bz,Kd,aib,jB,kX,D0 _ _ (show list.length<=1048576 by omega),Hx];rw[eN ((list.length:Int)-1) (by omega)];obtain⟨K,N,Nm,ju⟩:=p;simp only at*;by_cases aX:K=0
  .subst aX;simp only[Int.reduceBEq,Int.reduceLE,decide_true,decide_false,Bool.false_and,Bool.true_and,Bool.and_true,Bool.false_or,Bool.or_false,cond_true,cond_false,Bool.and_self,bind_some];cases N==0
   .exact⟨2,rfl,rfl,by decide⟩
   .cases Nm==[]
    .exact⟨2,rfl,rfl,by decide⟩
    .cases cg:((ju.length:Int)==0)
     .exact⟨2,rfl,rfl,by decide⟩
     .simp only[Bool.and_true,Bool.not_true,Bool.not_false,cond_true,cond_false,D1 cg];exact⟨0,rfl,rfl,by decide⟩
  .by_cases ab:K=1
   .subst ab;simp only[Int.reduceBEq,Int.reduceLE,decide_true,decide_false,Bool.false_and,Bool.true_and,Bool.and_true,Bool.false_or,Bool.or_false,Bool.true_or,cond_true,cond_false,Bool.and_self,bind_some];cases N==0
    .exact⟨2,rfl,rfl,by decide⟩
    .simp only[Bool.not_true,cond_false];cases a8:(Nm==([116,97,117]:alO))
     .simp only[Bool.not_false,Bool.and_true,cond_true];cases kC Nm
      .exact⟨3,rfl,rfl,by decide⟩
      .simp only[Bool.not_true,cond_false,Bool.and_false,Bool.or_false,Bool.true_and];by_cases aS:ju.length<=2
       .have aR:decide ((2:Int)<(ju.length:Int))=false:=decide_eq_false (by omega);have aV:decide ((ju.length:Int)<=2)=true:=decide_eq_true (by omega);rw[aR,aV,Bool.or_true];cases rH ⟨1,N,Nm,ju⟩ pl.scope
        .exact⟨8,rfl,rfl,by decide⟩
        .exact⟨0,rfl,rfl,by decide⟩
       .have aR:decide ((2:Int)<(ju.length:Int))=true:=decide_eq_true (by omega);have aV:decide ((ju.length:Int)<=2)=false:=decide_eq_false (by omega);have aW:((ju.length:Int)==0)=false:=by rw[beq_eq_false_iff_ne];omega
        rw[aR,aV,aW];exact⟨5,rfl,rfl,by decide⟩
     .rw[ah8 a8];simp only[Bool.not_true,cond_false,Bool.and_true,Bool.false_and,Bool.or_false];by_cases aS:ju.length=0
      .have aR:decide ((2:Int)<(ju.length:Int))=false:=decide_eq_false (by omega);have aV:decide ((0:Int)<(ju.length:Int))=false:=decide_eq_false (by omega);have aW:((ju.length:Int)==0)=true:=by rw[aS];rfl
       rw[aR,aV,D1 aW,aW];exact⟨0,rfl,rfl,by decide⟩
      .have aV:decide ((0:Int)<(ju.length:Int))=true:=decide_eq_true (by omega);have aW:((ju.length:Int)==0)=false:=by rw[beq_eq_false_iff_ne];omega
       rw[aV,aW,Bool.or_true];exact⟨5,rfl,rfl,by decide⟩
   .by_cases ae:K=2
    .subst ae;simp only[Int.reduceBEq,Int.reduceLE,decide_true,decide_false,Bool.false_and,Bool.true_and,Bool.and_true,Bool.false_or,Bool.or_false,cond_true,cond_false,Bool.and_self,bind_some];cases N==0
     .exact⟨2,rfl,rfl,by decide⟩
     .cases Nm==[]
      .exact⟨2,rfl,rfl,by decide⟩
      .cases cg:((ju.length:Int)==0)
       .exact⟨2,rfl,rfl,by decide⟩
       .simp only[Bool.and_true,Bool.not_true,Bool.not_false,cond_true,cond_false,D1 cg];exact⟨0,rfl,rfl,by decide⟩
    .by_cases az:K=3
     .subst az;simp only[Int.reduceBEq,Int.reduceLE,decide_true,decide_false,Bool.false_and,Bool.true_and,Bool.and_true,Bool.false_or,Bool.or_false,Bool.true_or,Bool.or_true,cond_true,cond_false,Bool.and_self,bind_some];cases N==0
      .exact⟨2,rfl,rfl,by decide⟩
      .cases Nm==[]
       .exact⟨2,rfl,rfl,by decide⟩
       .have cY:((ju.length:Int) !=1)= !((ju.length:Int)==1):=rfl;rw[cY];cases((ju.length:Int)==1)
        .exact⟨5,rfl,rfl,by decide⟩
        .cases rH ⟨3,N,Nm,ju⟩ pl.scope
         .exact⟨8,rfl,rfl,by decide⟩
         .exact⟨0,rfl,rfl,by decide⟩
     .by_cases a6:K=4
      .subst a6;simp only[Int.reduceBEq,Int.reduceLE,decide_true,decide_false,Bool.false_and,Bool.true_and,Bool.and_true,Bool.false_or,Bool.or_false,Bool.true_or,Bool.or_true,cond_true,cond_false,Bool.and_self,bind_some];cases Nm==[]
       .exact⟨2,rfl,rfl,by decide⟩
       .cases cg:((ju.length:Int)==0)
        .exact⟨2,rfl,rfl,by decide⟩
        .rw[D1 cg];cases(decide (1<=N)&&decide (N<=7))
         .exact⟨4,rfl,rfl,by decide⟩
         .cases decide (6<=pl.scope)
          .exact⟨0,rfl,rfl,by decide⟩
          .exact⟨7,rfl,rfl,by decide⟩
      .by_cases bF:K=5
       .subst bF;simp only[Int.reduceBEq,Int.reduceLE,decide_true,decide_false,Bool.false_and,Bool.true_and,Bool.and_true,Bool.false_or,Bool.or_false,Bool.true_or,Bool.or_true,cond_true,cond_false,Bool.and_self,bind_some];cases Nm==[]
        .exact⟨2,rfl,rfl,by decide⟩
        .cases ao:(decide (0<=N)&&decide (N<=(list.length:Int)-1))
         .exact⟨4,rfl,rfl,by decide⟩
         .simp only[Bool.and_eq_true,decide_eq_true_eq]at ao;obtain⟨i,rfl⟩:∃i:Nat,N=i:=⟨N.toNat,by omega⟩
          rw[e9 list i (by omega)];simp only[bind_some,Bool.not_true,cond_false];have cY:((ju.length:Int) !=list[i].db)= !((ju.length:Int)==list[i].db):=rfl;rw[cY];cases((ju.length:Int)==list[i].db)
          .exact⟨5,rfl,rfl,by decide⟩
          .cases pl.behind
           .exact⟨6,rfl,rfl,by decide⟩
           .cases rH ⟨5,i,Nm,ju⟩ pl.scope
            .exact⟨8,rfl,rfl,by decide⟩
            .exact⟨0,rfl,rfl,by decide⟩
       .have gr:(K==0)=false:=by simpa using aX
        have aR:(K==1)=false:=by simpa using ab
        have aV:(K==2)=false:=by simpa using ae
        have aW:(K==3)=false:=by simpa using az
        have cm:(K==4)=false:=by simpa using a6
        have cC:(K==5)=false:=by simpa using bF
        have b7:(decide (0<=K)&&decide (K<=5))=false:=by
         rw[Bool.and_eq_false_iff,decide_eq_false_iff_not,decide_eq_false_iff_not];omega
        simp only[gr,aR,aV,aW,cm,cC,b7,Bool.false_and,cond_false,bind_some];exact⟨2,rfl,rfl,by decide⟩
 exact aia _ aq rfl
theorem uz {β:Type} {l:Nat->Int->Option β} {n:Nat} (p:Nat->Bool) (pt bad:Option β) (aX:∀m,l (m+1) (n:Int)=pt)
  (ad:∀i,i<n->∀m,l (m+1) (i:Int)=cond (p i) (l m ((i+1:Nat):Int)) bad):lim (λm=>l m 0)=cond (fv p n) pt bad:=by
 rw[nL (n:=n) (λi=>cond ((List.range' i (n-i)).all p) pt bad)]
 .simp[fv,List.range_eq_range']
 .intro m;rw[aX];simp
 .intro i ao m ih;rw[ad i ao,ih,show n-i=(n-(i+1))+1 by omega,List.range'_succ];cases aq:p i<;>simp[aq]
def Re (d:bs):Prop:=d.Name.length<=1048576/\d.Body.length<=1048576/\∀p∈d.Body,AH p
def rI (b:amh):Bool:=(decide (1<=b.length)&&decide (b.length<=20))&&sP b 1
theorem Ke {b:amh} (h:rI b=true):eO b 1=some b.length/\1<=b.length/\b.length<=20:=by
 simp only[rI,J8,Bool.and_eq_true,decide_eq_true_eq,beq_iff_eq]at h;exact⟨h.2,h.1.1,h.1.2⟩
def nf (d:bs) (i:Nat):c5:=(gK d.Body [⟨d.db,false⟩]).getD i ⟨0,false⟩
theorem Kf (d:bs) (h:rI d.Body=true) (aq:0<=d.db/\d.db<=3) (i:Nat) (ao:i<d.Body.length):
  ss d (i:Int)=some (nf d i).scope/\0<=(nf d i).scope/\(nf d i).scope<=29/\
   (nf d i).behind=Kc d.Body i/\
   (gK d.Body [⟨d.db,false⟩])[i]? =some (nf d i):=by
 obtain⟨ab,ae,az⟩:=Ke h;obtain⟨s,pl,aR,aV,aW⟩:=Q_ d.Body [⟨d.db,false⟩] d.Body.length ab i ao;have ad:s=⟨d.db,false⟩:=by
  simp only[sQ,ab]at aR;rw[if_pos ao]at aR;exact(some.inj aR).symm
 subst ad;have fI:nf d i=pl:=by unfold nf;rw[List.getD_eq_getElem?_getD,aV];rfl
 have an:=Q6 d.Body i;simp only at aW;refine⟨?_,?_,?_,?_,?_⟩
 .rw[ahZ d (by omega) ab (by omega) i ao,fI,aW]
 .rw[fI,aW];omega
 .rw[fI,aW];omega
 .rw[fI];exact ah4 d.Body ⟨d.db,false⟩ rfl i pl aV
 .rw[fI];exact aV
theorem aie (list:ami) (hl:list.length<=4) (d:bs) (ai:Re d) (aq:0<=d.db/\d.db<=3):
  ∃r,tQ list d=some r/\zo list d=some r/\0<=r.2/\(r.2=0->rI d.Body=true):=by
 unfold tQ zo jB;rw[ahM _ ai.2.1];have sC:=ahN d ai.2.1 0 (zero_le _);rw[show((0:Nat):Int)=0 from rfl,List.drop_zero]at sC;simp only[bind_some];have nr:decide ((1:Int)<=(d.Body.length:Int))=decide (1<=d.Body.length):=decide_eq_decide.2 (by omega);have mI:decide ((d.Body.length:Int)<=20)=decide (d.Body.length<=20):=decide_eq_decide.2 (by omega);rw[nr,mI];show∃r,cond (!rI d.Body) _ _=_/\_;cases ad:rI d.Body
 .refine⟨(0,1),rfl,?_,by decide,λh=>by cases h⟩;cases an:(decide (1<=d.Body.length)&&decide (d.Body.length<=20))
  .rfl
  .rw[sC];have hw:sP d.Body 1=false:=by
    unfold rI at ad;rw[an,Bool.true_and]at ad;exact ad
   have:(qF 0 (eO d.Body 1) !=(d.Body.length:Int))=true:=by
    rw[J8]at hw;cases he:eO d.Body 1 with
    |none=>simp only[qF,bne_iff_ne];omega
    |some n=>
     rw[he]at hw;have cY:n≠d.Body.length:=λe=>by simp[e]at hw
     simp only[qF,bne_iff_ne];omega
   simp only[Bool.not_true,cond_false,bind_some,this,cond_true]
 .obtain⟨ab,ae,az⟩:=Ke ad;have an:(decide (1<=d.Body.length)&&decide (d.Body.length<=20))=true:=by simp;omega
  have cY:(qF 0 (some d.Body.length) !=(d.Body.length:Int))=false:=by simp[qF]
  rw[an,sC,ab];simp only[Bool.not_true,cond_false,bind_some,cY];rw[Q5 d ai.2.1 ab aq.1 (by omega)];simp only[bind_some];have key:∀i,i<=d.Body.length->∃r:Int×Int,(∀m,d.Body.length-i<m->tP list d m (i:Int)=some r)/\
    (∀m,d.Body.length-i<m->tW list d (gK d.Body [⟨d.db,false⟩]) m (i:Int)=some r)/\0<=r.2:=by
   refine down d.Body.length ⟨(0,0),λm hm=>?_,λm hm=>?_,by decide⟩ ?_
   .obtain⟨m,rfl⟩:∃j,m=j+1:=⟨m-1,by omega⟩
    simp only[tP,Cc];rw[eJ (Nat.le_refl _)];rfl
   .obtain⟨m,rfl⟩:∃j,m=j+1:=⟨m-1,by omega⟩
    simp only[tW,CD];rw[eJ (Nat.le_refl _)];rfl
   .rintro i ao ⟨r,di,aZ,cZ⟩;obtain⟨gE,gD,iH,iI,pP⟩:=Kf d ad aq i ao;obtain⟨v,v1,v2,v3⟩:=ah9 list hl d i ao az (ai.2.2 _ (List.getElem_mem ao)) (nf d i) gE ⟨gD,iH⟩ iI;have bR:bl (gK d.Body [⟨d.db,false⟩]) (i:Int)=some (nf d i):=by
     unfold bl;rw[if_pos (by omega)];exact pP
    by_cases aJ:v=0
    .subst aJ;refine⟨r,λm hm=>?_,λm hm=>?_,cZ⟩
     .obtain⟨m,rfl⟩:∃j,m=j+1:=⟨m-1,by omega⟩
      simp only[tP,Cc];rw[fA ao,v1,fu i _ ao (by omega),<-di m (by omega)];rfl
     .obtain⟨m,rfl⟩:∃j,m=j+1:=⟨m-1,by omega⟩
      simp only[tW,CD];rw[fA ao,e9 _ i ao,bR];simp only[cond_true,bind_some,v2];rw[fu i _ ao (by omega),<-aZ m (by omega)];rfl
    .have tG:decide (0<v)=true:=decide_eq_true (by omega);have D2:(v !=0)=true:=by simpa using aJ
     refine⟨((i:Int),v),λm hm=>?_,λm hm=>?_,v3⟩
     .obtain⟨m,rfl⟩:∃j,m=j+1:=⟨m-1,by omega⟩
      simp only[tP,Cc];rw[fA ao,v1];simp only[cond_true,bind_some,tG]
     .obtain⟨m,rfl⟩:∃j,m=j+1:=⟨m-1,by omega⟩
      simp only[tW,CD];rw[fA ao,e9 _ i ao,bR];simp only[cond_true,bind_some,v2,D2]
  obtain⟨r,di,aZ,cZ⟩:=key 0 (zero_le _);refine⟨r,eP (d.Body.length+1) λm hm=>di m (by omega),eP (d.Body.length+1) λm hm=>aZ m (by omega),cZ,λ_=>trivial⟩
def rJ (d:bs):Bool:=decide (0<=d.db)&&decide (d.db<=3)
def w1 (list:ami):Bool:=fv (λi=>rJ (list.getD i ⟨[],0,[]⟩)) list.length
theorem Rf {list:ami} (h:w1 list=true) (i:Nat) (ao:i<list.length):0<=list[i].db/\list[i].db<=3:=by
 have:=rD.1 h i ao;have e:list.getD i ⟨[],0,[]⟩=list[i]:=by simp[List.getD,ao]
 rw[e]at this;simpa [rJ]using this
theorem aif (list:ami) (hl:list.length<=1048576):Cu list=some (w1 list):=by
 unfold Cu Ho Hn;rw[uo (n:=list.length) (λi=> !rJ (list.getD i ⟨[],0,[]⟩))]
 .simp only[bind_some,um,Bool.not_not];rfl
 .intro m;simp only[zd,Hm];rw[eJ (Nat.le_refl _)];rfl
 .intro i ao m;simp only[zd,Hm];rw[fA ao,lO _ i ⟨[],0,[]⟩ ao,fu i _ ao (by omega)];simp only[cond_true,bind_some,Hl,jB];rfl
def ow (list:ami):Prop:=list.length<=1048576/\∀d∈list,Re d
theorem nM {α:Type} (d:List α) (x:α) (r:List α):bl (d++x::r) (d.length:Int)=some x:=by
 rw[e9 _ _ (by simp)];simp
theorem qG {α:Type} (d:List α) (x y:α) (r:List α):List.set (d++x::r) (Int.toNat (d.length:Int)) y=d++y::r:=by
 simp
theorem D3 {k:Int} (h:0<=k):decide (k<0)=false:=by simp;omega
theorem nN {α:Type} (d:List α) (x:α) (r:List α):decide ((d.length:Int)<((d++x::r).length:Int))=true:=by simp;omega
theorem nO {α:Type} {d:List α} (h:d.length<=1099511627776):i64.wrap ((d.length:Int)+1)=((d.length+1:Nat):Int):=by rw[eN _ (by omega)];omega
theorem rK {α:Type} (f:α->Nat):∀a:List α,fB (λx=>64*(f x+1)) a=64*cu f a
 |[]=>rfl
 |x::r=>by
  have:=rK f r;unfold cu at this⊢;simp only[fB,List.length_cons];omega
theorem Kg {α:Type} (n:Nat):∀a:List α,fB (λ_=>n) a=n*a.length
 |[]=>rfl
 |x::r=>by simp only[fB,Kg n r,List.length_cons,Nat.mul_add];omega
theorem uA {α:Type} {l:Nat->List α->Int->Int->Option (Int×List α)} (w:α->Nat) (aX:∀m (v:List α) k,l (m+1) v k (v.length:Int)=some (k,v))
  (ad:∀x (k:Int),0<=k->k+w x<=1099511627776->∃cp c,c<=w x/\∀m (d r:List α),d.length<=1099511627776->l (m+1) (d++x::r) k (d.length:Int)=l m (d++cp::r) (k+(c:Nat)) ((d.length+1:Nat):Int))
  (a:List α) (k:Int) (ax:0<=k) (hl:a.length<=1099511627776) (R:k+fB w a<=1099511627776):∃cL c,c<=fB w a/\lim (λn=>l n a k 0)=some (k+(c:Nat),cL):=by
 have key:∀(r:List α) (k:Int),0<=k->k+fB w r<=1099511627776->∃gA c,c<=fB w r/\∀(d:List α) (m:Nat),d.length+r.length<=1099511627776->r.length<m->l m (d++r) k (d.length:Int)=some (k+(c:Nat),d++gA):=by
  intro r;induction r with
  |nil=>
   intro k _ _;refine⟨[],0,Nat.le_refl _,λd m _ hm=>?_⟩;obtain⟨m,rfl⟩:∃j,m=j+1:=⟨m-1,by omega⟩
   rw[List.append_nil,aX];simp
  |cons x r ih=>
   intro k ab ae;simp only[fB]at ae;obtain⟨cp,c,c1,c2⟩:=ad x k ab (by omega);obtain⟨gA,xI,aR,aV⟩:=ih (k+c) (by omega) (by omega);refine⟨cp::gA,c+xI,by simp only[fB];omega,λd m ai hm=>?_⟩;simp only[List.length_cons]at ai hm;obtain⟨m,rfl⟩:∃j,m=j+1:=⟨m-1,by omega⟩
   rw[c2 m d r (by omega)];have:=aV (d++[cp]) m (by simp only[List.length_append,List.length_cons,List.length_nil];omega) (by omega);simp only[List.length_append,List.length_cons,List.length_nil,List.append_assoc,List.cons_append,List.nil_append,Nat.zero_add]at this;rw[this];simp only[some.injEq,Prod.mk.injEq,and_true];omega
 obtain⟨cL,c,aR,aV⟩:=key a k ax R;refine⟨cL,c,aR,eP (a.length+1) λm hm=>?_⟩;have:=aV [] m (by simpa using hl) (by omega);simpa using this
theorem Kh {α:Type} {l:Nat->List α->Int->Int->Option (Int×List α)} {hl:List α->Nat->Int->Int->alT} (w:α->Nat) (aX:∀m (v:List α) k,l (m+1) v k (v.length:Int)=some (k,v))
  (g0:∀(a:List α) m k,hl a (m+1) k (a.length:Int)=some k)
  (ad:∀x (k:Int),0<=k->k+w x<=1099511627776->∃cp c,c<=w x/\∀m (d r:List α),d.length<=1099511627776->l (m+1) (d++x::r) k (d.length:Int)=l m (d++cp::r) (k+(c:Nat)) ((d.length+1:Nat):Int)/\
   hl (d++cp::r) (m+1) k (d.length:Int)=hl (d++cp::r) m (k+(c:Nat)) ((d.length+1:Nat):Int))
  (a:List α) (k:Int) (ax:0<=k) (Rg:a.length<=1099511627776) (R:k+fB w a<=1099511627776):∃cL c,c<=fB w a/\lim (λn=>l n a k 0)=some (k+(c:Nat),cL)/\lim (λn=>hl cL n k 0)=some (k+(c:Nat)):=by
 have key:∀(r:List α) (k:Int),0<=k->k+fB w r<=1099511627776->∃gA c,c<=fB w r/\gA.length=r.length/\∀(d:List α) (m:Nat),d.length+r.length<=1099511627776->r.length<m->l m (d++r) k (d.length:Int)=some (k+(c:Nat),d++gA)/\
   hl (d++gA) m k (d.length:Int)=some (k+(c:Nat)):=by
  intro r;induction r with
  |nil=>
   intro k _ _;refine⟨[],0,Nat.le_refl _,rfl,λd m _ hm=>?_⟩;obtain⟨m,rfl⟩:∃j,m=j+1:=⟨m-1,by omega⟩
   rw[List.append_nil,aX,g0];simp
  |cons x r ih=>
   intro k ab ae;simp only[fB]at ae;obtain⟨cp,c,c1,c2⟩:=ad x k ab (by omega);obtain⟨gA,xI,aR,aW,aV⟩:=ih (k+c) (by omega) (by omega);refine⟨cp::gA,c+xI,by simp only[fB];omega,by simp only[List.length_cons,aW],λd m ai hm=>?_⟩;simp only[List.length_cons]at ai hm;obtain⟨m,rfl⟩:∃j,m=j+1:=⟨m-1,by omega⟩
   rw[(c2 m d r (by omega)).1,(c2 m d gA (by omega)).2];have:=aV (d++[cp]) m (by simp only[List.length_append,List.length_cons,List.length_nil];omega) (by omega);simp only[List.length_append,List.length_cons,List.length_nil,List.append_assoc,List.cons_append,List.nil_append,Nat.zero_add]at this;rw[this.1,this.2];simp only[some.injEq,Prod.mk.injEq,and_true];exact⟨by omega,by omega⟩
 obtain⟨cL,c,aR,aW,aV⟩:=key a k ax R;refine⟨cL,c,aR,eP (a.length+1) λm hm=>?_,eP (a.length+1) λm hm=>?_⟩
 .have:=(aV [] m (by simpa using Rg) (by omega)).1;simpa using this
 .have:=(aV [] m (by simpa using Rg) (by omega)).2;simpa using this
end Go.l3
