/- Part of a proof that a law returns true for every input. No condition. -/
import Derived.Test.YtlkabaochkgkdaaGreatDoorUD2
namespace Go.eU
open Go Go.c_
theorem Te (d:bs) (aj:d.Body.length<=1048576):∀(n at_ k:Nat) (s:cL) (out:List cL),out.length=d.Body.length->fb (d.Body.drop at_) 1=some k->k<=n->0<=s.scope->s.scope+k<=1000000->
  uW n (at_:Int) s out d=some (((at_+k:Nat):Int),patch out at_ (hE (d.Body.drop at_) [s]))
 |0,at_,k,s,out,cy,he,ay,ba,ag=>by have:=vY he;omega
 |n+1,at_,k,s,out,cy,he,ay,ba,ag=>by
  have l:=vY he;rw[List.length_drop]at l;have an:at_<d.Body.length:=by omega
  rw[drop_cons _ at_ an]at he⊢;obtain⟨di,ov,rfl⟩:=rk.1 he;simp only[Nat.zero_add]at ov;have bw:=yu d.Body[at_];have aFY:=Tc (n:=n) aj (Te d aj n) (below d.Body[at_] s).scope d.Body[at_] (fm d.Body[at_]) bw (fm d.Body[at_]) 0 (at_+1) di (patch out at_ [s]);have hlen:(hE (d.Body.drop (at_+1)) (List.replicate (fm d.Body[at_]) (below d.Body[at_] s)++[])).length=di:=by
   rw[List.append_nil];exact yv (by rw[List.length_replicate];exact ov)
  have aFZ:(at_+1+di:Nat)=at_+(di+1):=by omega
  have ad:0<=(below d.Body[at_] s).scope/\(below d.Body[at_] s).scope+di<=1000000:=by
   unfold below;simp only;split<;>omega
  have key:(cB λm=>ti (uW n) d (below d.Body[at_] s).scope d.Body[at_] ((fm d.Body[at_]:Nat):Int) m (List.set out (Int.toNat (at_:Int)) s) (IntKind.i64.wrap ((at_:Int)+1)) 0)=
    some (((at_+(di+1):Nat):Int),patch out at_ (hE (d.Body[at_]::d.Body.drop (at_+1)) [s])):=by
   refine ij (fm d.Body[at_]+1) λm hm=>?_;rw[Int.toNat_natCast,aFU (by omega),fO at_ _ an (by omega)];have h:=aFY m (by omega) (by omega) (by rw[Ta (by simp;omega),cy]) ov (by omega) ad.1 ad.2;rw[show((0:Nat):Int)=0 from rfl]at h;rw[h,aFZ];congr 2;have aF0:(hE (d.Body.drop (at_+1)) (List.replicate (fm d.Body[at_]) ⟨(below d.Body[at_] s).scope,d.Body[at_].Kind==1⟩)).length=di:=yv (by rw[List.length_replicate];exact ov);rw[Tb (i:=at_) (a:=[s]) (j:=at_+1) rfl (by rw[aF0,List.length_singleton];omega)];simp only[hE,List.append_nil,List.singleton_append];rfl
  simp only[uW,Jm];rw[gN out at_ (by omega),gN _ at_ an];simp only[Option.bind_some,Ed,S8];by_cases bg:d.Body[at_].Kind=4
  .have e:(d.Body[at_].Kind==4)=true:=by simpa using bg
   have a6:(below d.Body[at_] s).scope=s.scope+1:=by simp[below,bg]
   rw[e,cond_true,aFV s.scope ba (by omega),<-a6];exact key
  .have e:(d.Body[at_].Kind==4)=false:=by simpa using bg
   have a6:(below d.Body[at_] s).scope=s.scope:=by simp[below,bg]
   rw[e,cond_false];conv=>lhs;rw[show s.scope=(below d.Body[at_] s).scope from a6.symm]
   exact key
theorem aF1 (d:bs) (aj:d.Body.length<=1048576) (ae:fb d.Body 1=some d.Body.length) (ba:0<=d.dE) (ag:d.dE+d.Body.length<=1000000):
  Ef d=some (hE d.Body [⟨d.dE,false⟩]):=by
 unfold Ef;rw[pD 16 aj (by decide)];simp only[Option.bind_some];have hlen:(hE d.Body [⟨d.dE,false⟩]).length=d.Body.length:=yv (st:=[_]) ae;have:Ee 0 ⟨d.dE,false⟩ (List.replicate (Int.toNat (d.Body.length:Int)) ⟨0,false⟩) d=some ((d.Body.length:Int),hE d.Body [⟨d.dE,false⟩]):=by
  unfold Ee;refine ij d.Body.length λm hm=>?_;have:=Te d aj m 0 d.Body.length ⟨d.dE,false⟩ (List.replicate (Int.toNat (d.Body.length:Int)) ⟨0,false⟩) (by simp) (by simpa using ae) hm ba ag;rw[show((0:Nat):Int)=0 from rfl]at this;rw[this,Nat.zero_add,List.drop_zero];congr 2;unfold patch;rw[Nat.zero_add,hlen,List.drop_of_length_le (by simp)];simp
 rw[this];rfl
def K0 (l:List bH) (q:Nat):Bool:=match fb l 1 with
 |some e=>decide (q<e)
 |none=>false
def oa:List bH->Nat->Nat
 |[],_=>0
 |_::_,0=>0
 |p::r,q+1=>(if p.Kind=4/\K0 (p::r) (q+1)=true then 1 else 0)+oa r q
theorem aF2 (l:List bH):oa l 0=0:=by cases l<;>rfl
theorem Tf:∀(l:List bH) (q:Nat),oa l q<=q
 |[],q=>by simp[oa]
 |_::_,0=>by simp[oa]
 |p::r,q+1=>by
  have:=Tf r q;simp only[oa];split<;>omega
theorem aF3 (d:bs) (aj:d.Body.length<=1048576) (ae:fb d.Body 1=some d.Body.length) (ba: -1000000<=d.dE/\d.dE<=1000000) (q:Nat) (cU:q<d.Body.length):
  xD d (q:Int)=some (d.dE+(oa d.Body q:Nat)):=by
 unfold xD;have key:∀i,i<=q->∀(c:Int) m,-1000000<=c->c<=1000000+i->q-i<m->tc d (q:Int) m c (i:Int)=some (c+(oa (d.Body.drop i) (q-i):Nat)):=by
  refine down q ?_ ?_
  .intro c m _ _ hm;obtain⟨m,rfl⟩:∃j,m=j+1:=⟨m-1,by omega⟩
   simp only[tc,DA];rw[fh (Nat.le_refl _),Nat.sub_self,aF2];simp
  .intro i an ih c m om nF hm;obtain⟨m,rfl⟩:∃j,m=j+1:=⟨m-1,by omega⟩
   simp only[tc,DA];have si:i<d.Body.length:=by omega
   rw[fX an,gN _ i si];simp only[cond_true,Option.bind_some,Af];obtain⟨e,zr,MM,wK⟩:=aFO ae si;rw[aFR _ aj i e zr,fO i q an (by omega)];simp only[Option.bind_some];have KX:oa (d.Body.drop i) (q-i)=(if d.Body[i].Kind=4/\q<i+e then 1 else 0)+oa (d.Body.drop (i+1)) (q-(i+1)):=by
    have Tg:=zr;rw[drop_cons _ i si]at Tg⊢;rw[show q-i=(q-(i+1))+1 by omega];simp only[oa,K0,Tg];congr 1;by_cases ay:d.Body[i].Kind=4
    .by_cases sl:q<i+e
     .rw[if_pos ⟨ay,by simp;omega⟩,if_pos ⟨ay,sl⟩]
     .rw[if_neg (λh=>by simp at h;omega),if_neg (λh=>sl h.2)]
    .rw[if_neg (λh=>ay h.1),if_neg (λh=>ay h.1)]
   rw[KX];by_cases ay:d.Body[i].Kind=4
   .have K1:(d.Body[i].Kind==4)=true:=by simpa using ay
    rw[K1,cond_true];by_cases sl:q<i+e
    .rw[fX sl,cond_true,eC (c+1) (by omega),ih (c+1) m (by omega) (by omega) (by omega),if_pos ⟨ay,sl⟩];congr 1;omega
    .rw[fh (by omega),cond_false,ih c m om (by omega) (by omega),if_neg (λh=>sl h.2)];congr 1;omega
   .have K1:(d.Body[i].Kind==4)=false:=by simpa using ay
    rw[K1,cond_false,ih c m om (by omega) (by omega),if_neg (λh=>ay h.1)];congr 1;omega
 refine ij (q+1) λm hm=>?_;have:=key 0 (by omega) d.dE m (by omega) (by omega) (by omega);simpa using this
def tG:List bH->List cL->Nat->Option cL
 |_,[],_=>none
 |l,s::st,q=>match fb l 1 with
  |none=>none
  |some k=>if q<k then some s else tG (l.drop k) st (q-k)
theorem Th:∀(f:Nat) (r:List bH) (b:cL) (st:List cL) (k q:Nat),fb r f=some k->tG r (List.replicate f b++st) q=if q<k then some b else tG (r.drop k) st (q-k)
 |0,r,b,st,k,q,h=>by rw[BJ]at h;cases h;simp
 |f+1,r,b,st,k,q,h=>by
  rw[Nat.add_comm f 1]at h;obtain⟨b7,cw,ag,ah,rfl⟩:=BK h;rw[List.replicate_succ,List.cons_append];simp only[tG,ag];by_cases cU:q<b7
  .rw[if_pos cU,if_pos (by omega)]
  .rw[if_neg cU,Th f _ b st cw (q-b7) ah];by_cases Ti:q-b7<cw
   .rw[if_pos Ti,if_pos (by omega)]
   .rw[if_neg Ti,if_neg (by omega),List.drop_drop,Nat.sub_sub]
theorem Tj:∀(l:List bH) (st:List cL) (k:Nat),fb l st.length=some k->∀q,q<k->∃s pl,tG l st q=some s/\(hE l st)[q]? =some pl/\pl.scope=s.scope+(oa l q:Nat)
 |[],[],k,h,q,cU=>by simp only[List.length_nil,fb,Option.some.injEq]at h;omega
 |[],s::st,k,h,q,cU=>by simp[fb]at h
 |p::r,[],k,h,q,cU=>by simp only[List.length_nil,fb,Option.some.injEq]at h;omega
 |p::r,s::st,k,h,q,cU=>by
  have ba:=h;obtain⟨di,bt,rfl⟩:=rk.1 h;rw[List.length_cons,Nat.add_comm st.length 1]at ba;obtain⟨e,cw,he,nG,ay⟩:=BK ba;obtain⟨gP,ov,rfl⟩:=rk.1 he;simp only[Nat.zero_add]at ov;cases q with
  |zero=>
   refine⟨s,s,?_,rfl,?_⟩
   .simp only[tG,he];rw[if_pos (by omega)]
   .simp[oa]
  |succ q=>
   have hl:fb r (List.replicate (fm p) (below p s)++st).length=some di:=by
    rw[List.length_append,List.length_replicate,Nat.add_comm];exact bt
   obtain⟨aB,pl,ag,ah,aN⟩:=Tj r _ di hl q (by omega);rw[Th _ _ _ _ gP q ov]at ag;simp only[hE,List.getElem?_cons_succ,tG,he,oa,K0,decide_eq_true_eq];by_cases sl:q<gP
   .rw[if_pos sl]at ag;simp only[Option.some.injEq]at ag;subst ag;refine⟨s,pl,by rw[if_pos (by omega)],ah,?_⟩;rw[aN];by_cases Gs:p.Kind=4
    .rw[if_pos ⟨Gs,by omega⟩];simp only[below,if_pos Gs];omega
    .rw[if_neg (λh=>Gs h.1)];simp only[below,if_neg Gs];omega
   .rw[if_neg sl]at ag;refine⟨aB,pl,?_,ah,?_⟩
    .rw[if_neg (by omega),List.drop_succ_cons,show q+1-(gP+1)=q-gP by omega];exact ag
    .rw[aN,if_neg (λh=>by omega)];omega
theorem aF4 {p:bH} (h:fm p=0):(p.Kind==1)=false:=by
 unfold fm at h;split at h
 .omega
 .rename_i a7;simp only[beq_eq_false_iff_ne];exact λe=>a7 (.inl e)
theorem aF5 {p:bH} (h:fm p=2):(p.Kind==1)=false:=by
 unfold fm at h;split at h
 .omega
 .rename_i a7;simp only[beq_eq_false_iff_ne];exact λe=>a7 (.inl e)
def K2 (b:List bH):Nat->Bool
 |0=>false
 |q+1=>match b[q]? with
  |some p=>p.Kind==1
  |none=>false
theorem Tk:∀(l:List bH) (st:List cL),(∀s∈st.tail,s.behind=false)->∀(q:Nat) (pl:cL),(hE l st)[q]? =some pl->
  pl.behind=match q with
   |0=>match st with
    |s::_=>s.behind
    |[]=>false
   |q+1=>match l[q]? with
    |some p=>p.Kind==1
    |none=>false
 |[],st,_,q,pl,h=>by simp[hE]at h
 |p::r,[],_,q,pl,h=>by simp[hE]at h
 |p::r,s::st,Gt,q,pl,h=>by
  cases q with
  |zero=>simp only[hE,List.getElem?_cons_zero,Option.some.injEq]at h;subst h;rfl
  |succ q=>
   simp only[hE,List.getElem?_cons_succ]at h;have aF6:∀aB∈(List.replicate (fm p) (below p s)++st).tail,aB.behind=false:=by
    intro aB fu;have bw:=yu p;rcases(by omega:fm p=0\/fm p=1\/fm p=2)with bw|bw|bw
    .rw[bw]at fu;simp only[List.replicate_zero,List.nil_append]at fu;exact Gt aB (by simpa using List.mem_of_mem_tail fu)
    .rw[bw]at fu;simp only[List.replicate_succ,List.replicate_zero,List.cons_append,List.nil_append,List.tail_cons]at fu;exact Gt aB (by simpa using fu)
    .rw[bw]at fu;simp only[List.replicate_succ,List.replicate_zero,List.cons_append,List.nil_append,List.tail_cons,List.mem_cons]at fu;rcases fu with rfl|fu
     .exact aF5 bw
     .exact Gt aB (by simpa using fu)
   have ih:=Tk r _ aF6 q pl h;rw[ih];cases q with
   |succ q=>rfl
   |zero=>
    simp only[List.getElem?_cons_zero];have bw:=yu p;rcases(by omega:fm p=0\/fm p=1\/fm p=2)with bw|bw|bw
    .rw[bw,aF4 bw];simp only[List.replicate_zero,List.nil_append];cases st with
     |nil=>rfl
     |cons s2 st=>exact Gt s2 (by simp)
    .rw[bw];rfl
    .rw[bw];rfl
theorem aF7 (l:List bH) (s:cL) (ae:s.behind=false) (q:Nat) (pl:cL) (h:(hE l [s])[q]? =some pl):pl.behind=K2 l q:=by
 rw[Tk l [s] (λs ae=>by simp at ae) q pl h];cases q with
 |zero=>exact ae
 |succ q=>rfl
end Go.eU
