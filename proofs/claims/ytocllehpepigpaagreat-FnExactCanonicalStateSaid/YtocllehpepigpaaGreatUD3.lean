/- Part of a proof that a law returns true for every input. No condition. -/
import Derived.Test.YtocllehpepigpaaGreatUD2
namespace Go.eN
open Go Go.cZ
theorem QU (d:bj) (aj:d.Body.length≤1048576):∀(n at_ k:Nat) (s:cM) (out:List cM),out.length=d.Body.length→e6 (d.Body.drop at_) 1=some k→k≤n→0≤s.scope→s.scope+k≤1000000→
  tU n (at_:Int) s out d=some (((at_+k:Nat):Int),patch out at_ (hi (d.Body.drop at_) [s]))
 |0,at_,k,s,out,cr,he,hk,bf,h1=>by have:=uY he;omega
 |n+1,at_,k,s,out,cr,he,hk,bf,h1=>by
  have l:=uY he
  rw[List.length_drop]at l
  have ao:at_<d.Body.length:=by omega
  rw[drop_cons _ at_ ao]at he⊢
  obtain⟨cW,nI,rfl⟩:=qx.1 he
  simp only[Nat.zero_add]at nI
  have bC:=xl d.Body[at_]
  have aB6:=QS (n:=n) aj (QU d aj n) (below d.Body[at_] s).scope d.Body[at_] (eL d.Body[at_]) bC (eL d.Body[at_]) 0 (at_+1) cW (patch out at_ [s])
  have hlen:(hi (d.Body.drop (at_+1)) (List.replicate (eL d.Body[at_]) (below d.Body[at_] s)++[])).length=cW:=by
   rw[List.append_nil];exact xm (by rw[List.length_replicate];exact nI)
  have aB7:(at_+1+cW:Nat)=at_+(cW+1):=by omega
  have ae:0≤(below d.Body[at_] s).scope∧(below d.Body[at_] s).scope+cW≤1000000:=by
   unfold below;simp only;split<;>omega
  have key:(lim fun m=>sb (tU n) d (below d.Body[at_] s).scope d.Body[at_] ((eL d.Body[at_]:Nat):Int) m (List.set out (Int.toNat (at_:Int)) s) (IntKind.i64.wrap ((at_:Int)+1)) 0)=
    some (((at_+(cW+1):Nat):Int),patch out at_ (hi (d.Body[at_]::d.Body.drop (at_+1)) [s])):=by
   refine iX (eL d.Body[at_]+1) fun m hm=> ?_
   rw[Int.toNat_natCast,aB2 (by omega),gA at_ _ ao (by omega)]
   have h:=aB6 m (by omega) (by omega) (by rw[QQ (by simp;omega),cr]) nI (by omega) ae.1 ae.2
   rw[show((0:Nat):Int)=0 from rfl]at h
   rw[h,aB7]
   congr 2
   have aB8:(hi (d.Body.drop (at_+1)) (List.replicate (eL d.Body[at_]) ⟨(below d.Body[at_] s).scope,d.Body[at_].Kind==1⟩)).length=cW:=xm (by rw[List.length_replicate];exact nI)
   rw[QR (i:=at_) (a:=[s]) (j:=at_+1) rfl (by rw[aB8,List.length_singleton];omega)]
   simp only[hi,List.append_nil,List.singleton_append]
   rfl
  simp only[tU,Hz]
  rw[gm out at_ (by omega),gm _ at_ ao]
  simp only[Option.bind_some,C9,QN]
  by_cases a8:d.Body[at_].Kind=4
  ·have e:(d.Body[at_].Kind==4)=true:=by simpa using a8
   have aZ:(below d.Body[at_] s).scope=s.scope+1:=by simp[below,a8]
   rw[e,cond_true,aB3 s.scope bf (by omega),←aZ]
   exact key
  ·have e:(d.Body[at_].Kind==4)=false:=by simpa using a8
   have aZ:(below d.Body[at_] s).scope=s.scope:=by simp[below,a8]
   rw[e,cond_false]
   conv=>lhs;rw[show s.scope=(below d.Body[at_] s).scope from aZ.symm]
   exact key
theorem QV (d:bj) (aj:d.Body.length≤1048576) (ag:e6 d.Body 1=some d.Body.length) (bf:0≤d.dt) (h1:d.dt+d.Body.length≤1000000):
  wH d=some (hi d.Body [⟨d.dt,false⟩]):=by
 unfold wH
 rw[qu 16 aj (by decide)]
 simp only[Option.bind_some]
 have hlen:(hi d.Body [⟨d.dt,false⟩]).length=d.Body.length:=xm (st:=[_]) ag
 have:C_ 0 ⟨d.dt,false⟩ (List.replicate (Int.toNat (d.Body.length:Int)) ⟨0,false⟩) d=some ((d.Body.length:Int),hi d.Body [⟨d.dt,false⟩]):=by
  unfold C_
  refine iX d.Body.length fun m hm=> ?_
  have:=QU d aj m 0 d.Body.length ⟨d.dt,false⟩ (List.replicate (Int.toNat (d.Body.length:Int)) ⟨0,false⟩) (by simp) (by simpa using ag) hm bf h1
  rw[show((0:Nat):Int)=0 from rfl]at this
  rw[this,Nat.zero_add,List.drop_zero]
  congr 2
  unfold patch
  rw[Nat.zero_add,hlen,List.drop_of_length_le (by simp)]
  simp
 rw[this];rfl
def I1 (l:List bJ) (q:Nat):Bool:=match e6 l 1 with
 |some e=>decide (q<e)
 |none=>false
def nv:List bJ→Nat→Nat
 |[],_=>0
 |_::_,0=>0
 |p::r,q+1=>(if p.Kind=4∧I1 (p::r) (q+1)=true then 1 else 0)+nv r q
theorem aB9 (l:List bJ):nv l 0=0:=by cases l<;>rfl
theorem QW:∀(l:List bJ) (q:Nat),nv l q≤q
 |[],q=>by simp[nv]
 |_::_,0=>by simp[nv]
 |p::r,q+1=>by
  have:=QW r q
  simp only[nv];split<;>omega
theorem aB_ (d:bj) (aj:d.Body.length≤1048576) (ag:e6 d.Body 1=some d.Body.length) (bf: -1000000≤d.dt∧d.dt≤1000000) (q:Nat) (c6:q<d.Body.length):
  r8 d (q:Int)=some (d.dt+(nv d.Body q:Nat)):=by
 unfold r8
 have key:∀i,i≤q→∀(c:Int) m,-1000000≤c→c≤1000000+i→q-i<m→r7 d (q:Int) m c (i:Int)=some (c+(nv (d.Body.drop i) (q-i):Nat)):=by
  refine down q ?_ ?_
  ·intro c m _ _ hm
   obtain⟨m,rfl⟩:∃j,m=j+1:=⟨m-1,by omega⟩
   simp only[r7,Cz]
   rw[fq (Nat.le_refl _),Nat.sub_self,aB9];simp
  ·intro i ao ih c m nD mW hm
   obtain⟨m,rfl⟩:∃j,m=j+1:=⟨m-1,by omega⟩
   simp only[r7,Cz]
   have I2:i<d.Body.length:=by omega
   rw[gP ao,gm _ i I2]
   simp only[cond_true,Option.bind_some,za]
   obtain⟨e,yj,KQ,vw⟩:=aBW ag I2
   rw[aBZ _ aj i e yj,gA i q ao (by omega)]
   simp only[Option.bind_some]
   have aCa:nv (d.Body.drop i) (q-i)=(if d.Body[i].Kind=4∧q<i+e then 1 else 0)+nv (d.Body.drop (i+1)) (q-(i+1)):=by
    have QX:=yj
    rw[drop_cons _ i I2]at QX⊢
    rw[show q-i=(q-(i+1))+1 by omega]
    simp only[nv,I1,QX]
    congr 1
    by_cases hk:d.Body[i].Kind=4
    ·by_cases rk:q<i+e
     ·rw[if_pos ⟨hk,by simp;omega⟩,if_pos ⟨hk,rk⟩]
     ·rw[if_neg (fun h=>by simp at h;omega),if_neg (fun h=>rk h.2)]
    ·rw[if_neg (fun h=>hk h.1),if_neg (fun h=>hk h.1)]
   rw[aCa]
   by_cases hk:d.Body[i].Kind=4
   ·have I3:(d.Body[i].Kind==4)=true:=by simpa using hk
    rw[I3,cond_true]
    by_cases rk:q<i+e
    ·rw[gP rk,cond_true,fl (c+1) (by omega),ih (c+1) m (by omega) (by omega) (by omega),if_pos ⟨hk,rk⟩]
     congr 1;omega
    ·rw[fq (by omega),cond_false,ih c m nD (by omega) (by omega),if_neg (fun h=>rk h.2)]
     congr 1;omega
   ·have I3:(d.Body[i].Kind==4)=false:=by simpa using hk
    rw[I3,cond_false,ih c m nD (by omega) (by omega),if_neg (fun h=>hk h.1)]
    congr 1;omega
 refine iX (q+1) fun m hm=> ?_
 have:=key 0 (by omega) d.dt m (by omega) (by omega) (by omega)
 simpa using this
def sC:List bJ→List cM→Nat→Option cM
 |_,[],_=>none
 |l,s::st,q=>match e6 l 1 with
  |none=>none
  |some k=>if q<k then some s else sC (l.drop k) st (q-k)
theorem QY:∀(f:Nat) (r:List bJ) (b:cM) (st:List cM) (k q:Nat),e6 r f=some k→sC r (List.replicate f b++st) q=if q<k then some b else sC (r.drop k) st (q-k)
 |0,r,b,st,k,q,h=>by rw[AG]at h;cases h;simp
 |f+1,r,b,st,k,q,h=>by
  rw[Nat.add_comm f 1]at h
  obtain⟨b8,cy,h1,ah,rfl⟩:=AH h
  rw[List.replicate_succ,List.cons_append]
  simp only[sC,h1]
  by_cases c6:q<b8
  ·rw[if_pos c6,if_pos (by omega)]
  ·rw[if_neg c6,QY f _ b st cy (q-b8) ah]
   by_cases QZ:q-b8<cy
   ·rw[if_pos QZ,if_pos (by omega)]
   ·rw[if_neg QZ,if_neg (by omega),List.drop_drop,Nat.sub_sub]
theorem Q0:∀(l:List bJ) (st:List cM) (k:Nat),e6 l st.length=some k→∀q,q<k→∃s pl,sC l st q=some s∧(hi l st)[q]? =some pl∧pl.scope=s.scope+(nv l q:Nat)
 |[],[],k,h,q,c6=>by simp only[List.length_nil,e6,Option.some.injEq]at h;omega
 |[],s::st,k,h,q,c6=>by simp[e6]at h
 |p::r,[],k,h,q,c6=>by simp only[List.length_nil,e6,Option.some.injEq]at h;omega
 |p::r,s::st,k,h,q,c6=>by
  have bf:=h
  obtain⟨cW,bL,rfl⟩:=qx.1 h
  rw[List.length_cons,Nat.add_comm st.length 1]at bf
  obtain⟨e,cy,he,oZ,hk⟩:=AH bf
  obtain⟨gE,nI,rfl⟩:=qx.1 he
  simp only[Nat.zero_add]at nI
  cases q with
  |zero=>
   refine⟨s,s,?_,rfl,?_⟩
   ·simp only[sC,he];rw[if_pos (by omega)]
   ·simp[nv]
  |succ q=>
   have hl:e6 r (List.replicate (eL p) (below p s)++st).length=some cW:=by
    rw[List.length_append,List.length_replicate,Nat.add_comm];exact bL
   obtain⟨az,pl,h1,ah,aC⟩:=Q0 r _ cW hl q (by omega)
   rw[QY _ _ _ _ gE q nI]at h1
   simp only[hi,List.getElem?_cons_succ,sC,he,nv,I1,decide_eq_true_eq]
   by_cases rk:q<gE
   ·rw[if_pos rk]at h1
    simp only[Option.some.injEq]at h1;subst h1
    refine⟨s,pl,by rw[if_pos (by omega)],ah,?_⟩
    rw[aC]
    by_cases EJ:p.Kind=4
    ·rw[if_pos ⟨EJ,by omega⟩];simp only[below,if_pos EJ];omega
    ·rw[if_neg (fun h=>EJ h.1)];simp only[below,if_neg EJ];omega
   ·rw[if_neg rk]at h1
    refine⟨az,pl,?_,ah,?_⟩
    ·rw[if_neg (by omega),List.drop_succ_cons,show q+1-(gE+1)=q-gE by omega];exact h1
    ·rw[aC,if_neg (fun h=>by omega)];omega
theorem aCb {p:bJ} (h:eL p=0):(p.Kind==1)=false:=by
 unfold eL at h
 split at h
 ·omega
 ·rename_i a6;simp only[beq_eq_false_iff_ne];exact fun e=>a6 (.inl e)
theorem aCc {p:bJ} (h:eL p=2):(p.Kind==1)=false:=by
 unfold eL at h
 split at h
 ·omega
 ·rename_i a6;simp only[beq_eq_false_iff_ne];exact fun e=>a6 (.inl e)
def I4 (b:List bJ):Nat→Bool
 |0=>false
 |q+1=>match b[q]? with
  |some p=>p.Kind==1
  |none=>false
theorem Q1:∀(l:List bJ) (st:List cM),(∀s∈st.tail,s.behind=false)→∀(q:Nat) (pl:cM),(hi l st)[q]? =some pl→
  pl.behind=match q with
   |0=>match st with
    |s::_=>s.behind
    |[]=>false
   |q+1=>match l[q]? with
    |some p=>p.Kind==1
    |none=>false
 |[],st,_,q,pl,h=>by simp[hi]at h
 |p::r,[],_,q,pl,h=>by simp[hi]at h
 |p::r,s::st,EK,q,pl,h=>by
  cases q with
  |zero=>simp only[hi,List.getElem?_cons_zero,Option.some.injEq]at h;subst h;rfl
  |succ q=>
   simp only[hi,List.getElem?_cons_succ]at h
   have aCd:∀az∈(List.replicate (eL p) (below p s)++st).tail,az.behind=false:=by
    intro az fB
    have bC:=xl p
    rcases(by omega:eL p=0∨eL p=1∨eL p=2)with bC|bC|bC
    ·rw[bC]at fB;simp only[List.replicate_zero,List.nil_append]at fB
     exact EK az (by simpa using List.mem_of_mem_tail fB)
    ·rw[bC]at fB;simp only[List.replicate_succ,List.replicate_zero,List.cons_append,List.nil_append,List.tail_cons]at fB
     exact EK az (by simpa using fB)
    ·rw[bC]at fB;simp only[List.replicate_succ,List.replicate_zero,List.cons_append,List.nil_append,List.tail_cons,List.mem_cons]at fB
     rcases fB with rfl|fB
     ·exact aCc bC
     ·exact EK az (by simpa using fB)
   have ih:=Q1 r _ aCd q pl h
   rw[ih]
   cases q with
   |succ q=>rfl
   |zero=>
    simp only[List.getElem?_cons_zero]
    have bC:=xl p
    rcases(by omega:eL p=0∨eL p=1∨eL p=2)with bC|bC|bC
    ·rw[bC,aCb bC]
     simp only[List.replicate_zero,List.nil_append]
     cases st with
     |nil=>rfl
     |cons s2 st=>exact EK s2 (by simp)
    ·rw[bC];rfl
    ·rw[bC];rfl
theorem aCe (l:List bJ) (s:cM) (ag:s.behind=false) (q:Nat) (pl:cM) (h:(hi l [s])[q]? =some pl):pl.behind=I4 l q:=by
 rw[Q1 l [s] (fun s ag=>by simp at ag) q pl h]
 cases q with
 |zero=>exact ag
 |succ q=>rfl
end Go.eN
