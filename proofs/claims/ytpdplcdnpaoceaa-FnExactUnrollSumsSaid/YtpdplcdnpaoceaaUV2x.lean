/- Part of a proof that a law returns true for every input. No condition. -/
import Derived.Test.YtpdplcdnpaoceaaUV1x
namespace Go.nB
open Option Nat Or
open Go Go.cV
abbrev TL:=Int×Vx×Int×Vl×Vx×Int×Vl×Vx
theorem Iw {r bc:Vl} (h:ly r bc) (J:∀b∈bc,b<=7) (hl:bc.length<=1000) (cR:Int->Vl->Vx->Vl->Option TL)
  (P:Int) (x1:Vx) (l:b5) (ah:Bool×Int×Vl×Vx):
  cX (λm=>q8 cR bc.reverse P x1 l ah m r.reverse (IntKind.i64.wrap ((r.reverse.length:Int)-1)))=(match h8 r bc with
   |some w=>cR ah.2.1 ah.2.2.1 ah.2.2.2 w.reverse
   |none=>some (P,x1,l.a7,l.Start,l.bJ,ah.2.1,ah.2.2.1,ah.2.2.2)):=by
 have aG:=rC h;have key:∀k,k<=bc.length->∀m,k<m->q8 cR bc.reverse P x1 l ah m (jU r bc.length k) ((k:Int)-1)=(match h8 (r.drop (bc.length-k)) (bc.drop (bc.length-k))with
   |some w=>cR ah.2.1 ah.2.2.1 ah.2.2.2 (w.reverse++List.replicate (bc.length-k) 0)
   |none=>some (P,x1,l.a7,l.Start,l.bJ,ah.2.1,ah.2.2.1,ah.2.2.2)):=by
  intro k;induction k with
  |zero=>
   intro _ m hm;obtain⟨m,rfl⟩:∃aD,m=aD+1:=⟨m-1,by omega⟩
   simp only[q8,Bj];rw[show decide ((0:Int)<=((0:Nat):Int)-1)=false by decide,cond_false,show decide (((0:Nat):Int)-1<0)=true by decide,cond_true,Nat.sub_zero,List.drop_of_length_le (by omega)];simp[h8]
  |succ k ih=>
   intro ak m hm;obtain⟨m,rfl⟩:∃aD,m=aD+1:=⟨m-1,by omega⟩
   have ku:k<bc.length:=by omega
   have e:((k+1:Nat):Int)-1=(k:Int):=by omega
   simp only[q8,Bj];rw[e,show decide ((0:Int)<=(k:Int))=true by simp,cond_true,Io aG ku,Iq rfl ku];simp only[bind_some,Int.toNat_natCast];rw[vr aG ku,vr rfl ku];have xY:=Cn (bc.length-(k+1)) h (by omega) (by omega);have bO:=J _ (List.getElem_mem (show bc.length-(k+1)<bc.length by omega));simp only[h8];by_cases da:r[bc.length-(k+1)]'(by omega)<bc[bc.length-(k+1)]'(by omega)
   .have cJ:(r[bc.length-(k+1)]'(by omega)==bc[bc.length-(k+1)]'(by omega))=false:=by rw[beq_eq_false_iff_ne];omega
    rw[cJ,cond_false,show decide ((k:Int)<0)=false by simp,cond_false,if_pos da,fU _ (by omega),Cm aG ku];simp
   .have heq:(r[bc.length-(k+1)]'(by omega)==bc[bc.length-(k+1)]'(by omega))=true:=by rw[beq_iff_eq];omega
    rw[heq,cond_true,if_neg da,Ip aG ku,xX k (by omega),ih (by omega) m (by omega)];cases h8 (r.drop (bc.length-k)) (bc.drop (bc.length-k))with
    |none=>rfl
    |some w=>
     simp only[map_some,List.reverse_cons,List.append_assoc];rw[show bc.length-k=(bc.length-(k+1))+1 by omega,List.replicate_succ];rfl
 refine hc (bc.length+1) λm hm=>?_;have:=key bc.length (Nat.le_refl _) m (by omega);rw[Nat.sub_self]at this;simp only[List.drop_zero,List.replicate_zero,List.append_nil]at this;rw[List.length_reverse,aG,xX _ (by omega)];have bC:jU r bc.length bc.length=r.reverse:=by simp[jU]
 rw[bC]at this;exact this
def jV (out:Vx):Vx->Vx
 |[]=>out
 |y::ys=>if(out++[y]).length<=60 then jV (out++[y]) ys else out++[y]
theorem Cq:∀(ys out:Vx),out.length+ys.length<=60->jV out ys=out++ys
 |[],out,_=>by simp[jV]
 |y::ys,out,h=>by
  simp only[List.length_cons]at h;have U:(out++[y]).length<=60:=by simp only[List.length_append,List.length_cons,List.length_nil];omega
  simp only[jV];rw[if_pos U,Cq ys _ (by simp only[List.length_append,List.length_cons,List.length_nil];omega),List.append_assoc];rfl
theorem Ix:∀(ys out:Vx),60<out.length+ys.length->(ys=[]->60<out.length)->60<(jV out ys).length
 |[],out,_,h=>h rfl
 |y::ys,out,h,_=>by
  simp only[List.length_cons]at h;simp only[jV];by_cases U:(out++[y]).length<=60
  .rw[if_pos U];refine Ix ys _ (by simp only[List.length_append,List.length_cons,List.length_nil];omega) ?_;intro e;subst e;simp only[List.length_append,List.length_cons,List.length_nil]at h U⊢;omega
  .rw[if_neg U];omega
theorem Iy:∀(ys out:Vx),out.length<=(jV out ys).length
 |[],out=>Nat.le_refl _
 |y::ys,out=>by
  simp only[jV];split
  .have:=Iy ys (out++[y]);simp only[List.length_append,List.length_cons,List.length_nil]at this;omega
  .simp
theorem Iz:∀(ys out:Vx),(jV out ys).length<=max (out.length+1) 61
 |[],out=>by simp only[jV];omega
 |y::ys,out=>by
  simp only[jV];split
  .have:=Iz ys (out++[y]);rename_i h;simp only[List.length_append,List.length_cons,List.length_nil]at this h;omega
  .simp only[List.length_append,List.length_cons,List.length_nil];omega
def oN (P:Int) (x:aN):Vx:=(pT x.aY.reverse (eI x.aY) (List.replicate x.aY.length 0)).map λv=>kR P x v.reverse
theorem x2 (bc:Vl) (n:Nat) (r:Vl):pT bc (n+1) r=r::(match h8 r bc with
  |some w=>pT bc n w
  |none=>[]):=rfl
theorem x3:∀(bc:Vl),1<=eI bc
 |[]=>Nat.le_refl _
 |b::bc=>by have:=x3 bc;simp only[eI];exact Nat.le_trans this (Nat.le_mul_of_pos_left _ (by omega))
theorem TM {P:Int} {x:aN} (bt:∀b∈x.aY,0<=b):(oN P x).length=eI x.aY:=by
 unfold oN;obtain⟨U,aa⟩:=xW x.aY.reverse λb J=>bt b (by simpa using J);rw[List.length_reverse]at U aa;rw[List.length_map,Im _ _ _ U (by rw[aa,pS,Nat.add_zero])]
section
variable {l:b5} {x:aN}
theorem TN (bf:0<=l.a7/\l.a7<=1000000) (R:x.aY.length<=8) (J:∀b∈x.aY,1<=b/\b<=7) (h:x0 l.a7 x.aY.length x) (a:Int) (b:Vl) (out:Vx) (bk:out.length+eI x.aY<=1000000):
  xr x.aY l.a7 [x] l a b out=some (l.a7,[x],l.a7,l.Start,l.bJ,a,b,jV out (oN l.a7 x)):=by
 unfold xr;rw[sV 8 (n:=x.aY.length) (by omega) (by decide),bind_some,Int.toNat_natCast];have vt:∀b∈x.aY.reverse,b<=7:=λb hH=>(J b (by simpa using hH)).2;have ft:∀b∈x.aY.reverse,0<=b:=λb hH=>by have:=(J b (by simpa using hH)).1;omega
 obtain⟨U,aa⟩:=xW x.aY.reverse ft;rw[List.length_reverse]at U aa;have key:∀n r (out:Vx),ly r x.aY.reverse->n+1+je r x.aY.reverse=eI x.aY->out.length+(n+1)<=1000000->∀m,n<m->
   ox x.aY l.a7 [x] l m a b out r.reverse=some (l.a7,[x],l.a7,l.Start,l.bJ,a,b,jV out ((pT x.aY.reverse (n+1) r).map λv=>kR l.a7 x v.reverse)):=by
  intro n;induction n with
  |zero=>
   intro r out aG a2 bk m hm;obtain⟨m,rfl⟩:∃aD,m=aD+1:=⟨m-1,by omega⟩
   have kE:=rC aG;rw[List.length_reverse]at kE;simp only[ox,Bk];rw[Iv l x r.reverse bf (by simp;omega) (by rw[List.length_reverse,kE];exact h) a b out (by omega)];simp only[bind_some];have ae:=Iw aG vt (by simp;omega) (ox x.aY l.a7 [x] l m) l.a7 [x] l (decide ((out++[kR l.a7 x r.reverse]).length<=60),a,b,out++[kR l.a7 x r.reverse]);rw[List.reverse_reverse]at ae;rw[ae];have ay:=sX aG;rw[pS]at ay;rw[x2];cases hw:h8 r x.aY.reverse with
   |none=>
    simp only[List.map_cons,List.map_nil,jV];cases b2:decide ((out++[kR l.a7 x r.reverse]).length<=60)<;>simp
   |some w=>
    rw[hw]at ay;simp only at ay;have:=Ik ay.1;rw[pS]at this;omega
  |succ n ih=>
   intro r out aG a2 bk m hm;obtain⟨m,rfl⟩:∃aD,m=aD+1:=⟨m-1,by omega⟩
   have kE:=rC aG;rw[List.length_reverse]at kE;simp only[ox,Bk];rw[Iv l x r.reverse bf (by simp;omega) (by rw[List.length_reverse,kE];exact h) a b out (by omega)];simp only[bind_some];have ae:=Iw aG vt (by simp;omega) (ox x.aY l.a7 [x] l m) l.a7 [x] l (decide ((out++[kR l.a7 x r.reverse]).length<=60),a,b,out++[kR l.a7 x r.reverse]);rw[List.reverse_reverse]at ae;rw[ae];have ay:=sX aG;rw[pS]at ay;rw[x2];cases hw:h8 r x.aY.reverse with
   |none=>
    rw[hw]at ay;simp only at ay;omega
   |some w=>
    rw[hw]at ay;simp only at ay⊢;rw[ih w (out++[kR l.a7 x r.reverse]) ay.1 (by omega) (by simp only[List.length_append,List.length_cons,List.length_nil];omega) m (by omega)];simp only[List.map_cons,jV];by_cases b2:(out++[kR l.a7 x r.reverse]).length<=60
    .rw[decide_eq_true b2,cond_true,if_pos b2]
    .rw[decide_eq_false b2,cond_false,if_neg b2]
 have aO:=x3 x.aY;refine hc (eI x.aY+1) λm hm=>?_;have:=key (eI x.aY-1) (List.replicate x.aY.length 0) out U (by rw[aa];omega) (by omega) m (by omega);rw[List.reverse_replicate,show eI x.aY-1+1=eI x.aY by omega]at this;exact this
theorem TO (lb:Vx->Int->Option (b5×Int)) (bL:Vl) (i:Nat) (ay:i<=1000000) (bf:0<=l.a7/\l.a7<=1000000) (R:x.aY.length<=8) (J:∀b∈x.aY,1<=b/\b<=7) (h:x0 l.a7 x.aY.length x) (out:Vx) (bk:out.length+eI x.aY<=1000000):
  cX (λm=>q3 lb l bL x m out (i:Int) (List.replicate x.aY.length 0))=lb (out++oN l.a7 x) ((i+1:Nat):Int):=by
 have vt:∀b∈x.aY.reverse,b<=7:=λb hH=>(J b (by simpa using hH)).2;have ft:∀b∈x.aY.reverse,0<=b:=λb hH=>by have:=(J b (by simpa using hH)).1;omega
 obtain⟨U,aa⟩:=xW x.aY.reverse ft;rw[List.length_reverse]at U aa;obtain⟨aL,a0,bK,cF,dq⟩:=h;have hw:IntKind.i64.wrap ((i:Int)+1)=((i+1:Nat):Int):=by rw[fU _ (by omega)];omega
 have key:∀n r (out:Vx),ly r x.aY.reverse->n+1+je r x.aY.reverse=eI x.aY->out.length+(n+1)<=1000000->∀m,n<m->
   q3 lb l bL x m out (i:Int) r.reverse=lb (out++(pT x.aY.reverse (n+1) r).map λv=>kR l.a7 x v.reverse) ((i+1:Nat):Int):=by
  intro n;induction n with
  |zero=>
   intro r out aG a2 bk m hm;obtain⟨m,rfl⟩:∃aD,m=aD+1:=⟨m-1,by omega⟩
   have kE:=rC aG;rw[List.length_reverse]at kE;have rD:r.reverse.length=x.aY.length:=by rw[List.length_reverse];exact kE
   simp only[q3,AW];rw[Co _ _ _ bf (by omega) (by rw[rD];exact aL),xZ _ _ _ bf (by omega) a0.1 (by rw[rD];exact a0.2),xZ _ _ _ bf (by omega) bK (by rw[rD];exact cF)];simp only[bind_some];have ae:=Ir aG vt (by simp;omega);rw[List.reverse_reverse]at ae;rw[ae,m3 (by omega) (by omega)];have ay:=sX aG;rw[pS]at ay;rw[x2];cases x4:h8 r x.aY.reverse with
   |none=>
    simp only[bind_some,Bool.not_false,cond_true,List.map_cons,List.map_nil,hw];rfl
   |some w=>
    rw[x4]at ay;simp only at ay;have:=Ik ay.1;rw[pS]at this;omega
  |succ n ih=>
   intro r out aG a2 bk m hm;obtain⟨m,rfl⟩:∃aD,m=aD+1:=⟨m-1,by omega⟩
   have kE:=rC aG;rw[List.length_reverse]at kE;have rD:r.reverse.length=x.aY.length:=by rw[List.length_reverse];exact kE
   simp only[q3,AW];rw[Co _ _ _ bf (by omega) (by rw[rD];exact aL),xZ _ _ _ bf (by omega) a0.1 (by rw[rD];exact a0.2),xZ _ _ _ bf (by omega) bK (by rw[rD];exact cF)];simp only[bind_some];have ae:=Ir aG vt (by simp;omega);rw[List.reverse_reverse]at ae;rw[ae,m3 (by omega) (by omega)];have ay:=sX aG;rw[pS]at ay;rw[x2];cases x4:h8 r x.aY.reverse with
   |none=>
    rw[x4]at ay;simp only at ay;omega
   |some w=>
    rw[x4]at ay;simp only[bind_some,Bool.not_true,cond_false,List.map_cons]at ay⊢;rw[ih w _ ay.1 (by omega) (by simp only[List.length_append,List.length_cons,List.length_nil];omega) m (by omega),List.append_assoc];rfl
 have aO:=x3 x.aY;refine hc (eI x.aY+1) λm hm=>?_;have:=key (eI x.aY-1) (List.replicate x.aY.length 0) out U (by rw[aa];omega) (by omega) m (by omega);rw[List.reverse_replicate,show eI x.aY-1+1=eI x.aY by omega]at this;exact this
end
theorem IA {v:Int}:∀(e:Vw) (k:Nat),oM v e k=true->∀t∈e,oL t v=true
 |[],_,_,t,aO=>by cases aO
 |u::r,k,h,t,aO=>by
  simp only[oM,Bool.and_eq_true]at h;rcases List.mem_cons.1 aO with rfl|aO
  .exact h.2.1
  .exact IA r _ h.2.2 t aO
theorem Cr {e:Vw} {P:Int} {n:Nat} (h:iZ e (P+n) 60=true):pU P n e:=by
 simp only[iZ,Bool.and_eq_true,decide_eq_true_eq]at h;refine⟨by omega,λt aO ak aE=>?_⟩;have:=IA e 1 h.2 t aO;unfold oL at this;have fs:(t.Kind==0)=false:=by rw[ak];rfl
 have aI:(t.Kind==1)=true:=by rw[ak];rfl
 rw[fs,aI]at this;simp only[cond_false,cond_true,gO,Bool.and_eq_true,decide_eq_true_eq]at this;omega
theorem vu {x:aN} {P:Int} (h:jy x P=true) (bf:P<=21):x.aY.length<=8/\(∀b∈x.aY,1<=b/\b<=7)/\m5 (jx 1 x.aY)=true/\x0 P x.aY.length x/\x.Name.length<=10/\x.bG.length<=2/\(x.Next.length:Int)=P/\x.Guard.length<=60/\(∀e∈x.bG,e.length<=60)/\(∀e∈x.Next,e.length<=60):=by
 simp only[jy,Bool.and_eq_true]at h;obtain⟨U,aa,ax,aP,a9,bU⟩:=h;have TP:=eq_of_beq ax;simp only[m6,Bool.and_eq_true,decide_eq_true_eq,List.all_eq_true,gO]at U;have iM:x.Name.length<=10/\x.bG.length<=2:=by
  split at aP
  .rename_i aO;rw[aO];simp only[decide_eq_true_eq]at aP;simp[pP,aP]
  .simp only[rB,rA,Bool.and_eq_true,decide_eq_true_eq]at aP;omega
 simp only[lx,List.all_eq_true]at a9 bU;have len:∀e:Vw,iZ e (P+(x.aY.length:Int)) 60=true->e.length<=60:=λe he=>by
  simp only[iZ,Bool.and_eq_true,decide_eq_true_eq]at he;omega
 exact⟨U.1,U.2.1,U.2.2,⟨Cr aa,⟨by omega,λe he=>Cr (a9 e he)⟩,by omega,λe he=>Cr (bU e he),by omega⟩,iM.1,iM.2,TP,len _ aa,λe he=>len e (a9 e he),λe he=>len e (bU e he)⟩
theorem Cs {l:b5} (h:nK l=true):0<=l.a7/\l.a7<=21/\(l.Start.length:Int)=l.a7/\l.bJ.length<=60/\∀x∈l.bJ,jy x l.a7=true:=by
 simp only[nK,pQ,gO,Bool.and_eq_true,beq_iff_eq,decide_eq_true_eq,List.all_eq_true]at h;exact⟨h.1.1,h.1.2,h.2.1.1,h.2.2.1,h.2.2.2⟩
theorem IB:∀(s:Vl) (p:Int),(∀n∈s,1<=n/\n<=7)->1<=p->p*8^s.length<=1099511627776->jx p s=p*(eI s:Nat)
 |[],p,_,_,_=>by simp[jx,eI]
 |n::s,p,b4,h,J=>by
  obtain⟨U,aa⟩:=b4 n (by simp);have aI:IntKind.i64.wrap (n+1)=n+1:=fU _ (by omega);have Ch:(1:Int)<=8^s.length:=by
   have:(0:Int)<8^s.length:=Int.pow_pos (by decide);omega
  have Ci:p*8*8^s.length<=1099511627776:=by
   have:p*8*8^s.length=p*8^(n::s).length:=by rw[List.length_cons,Int.pow_succ,Int.mul_assoc,Int.mul_comm 8]
   rw[this];exact J
  have hle:p*(n+1)<=p*8:=Int.mul_le_mul_of_nonneg_left (by omega) (by omega);have Tm:p*8*1<=p*8*8^s.length:=Int.mul_le_mul_of_nonneg_left Ch (by omega);have qd:p*1<=p*(n+1):=Int.mul_le_mul_of_nonneg_left (by omega) (by omega);have aR:IntKind.i64.wrap (p*(n+1))=p*(n+1):=fU _ (by omega);rw[xT,aI,aR,IB s _ (λm hm=>b4 m (by simp[hm])) (by omega) (Int.le_trans (Int.mul_le_mul_of_nonneg_right hle (by omega)) Ci)];simp only[eI];rw[Int.natCast_mul,Int.mul_assoc];congr 2;omega
theorem IC (s:Vl) (dv:s.length<=8) (b4:∀n∈s,1<=n/\n<=7) (aP:m5 (jx 1 s)=true):q0 s=some (eI s:Int)/\eI s<=4096:=by
 have hw:=IB s 1 b4 (by omega) (by
  have:∀k:Nat,k<=8->(8:Int)^k<=16777216:=by decide
  have:=this s.length dv;omega)
 rw[Int.one_mul]at hw;refine⟨?_,by rw[hw]at aP;simp only[m5,decide_eq_true_eq]at aP;omega⟩;unfold q0;have d:decide ((8:Int)<(s.length:Int))=false:=by simp only[decide_eq_false_iff_not];omega
 rw[d,cond_false];have key:∀i,i<=s.length->∀(v:Int) m,s.length-i<m->m5 (jx v (s.drop i))=true->oq s m v (i:Int)=some (jx v (s.drop i)):=by
  refine down s.length ?_ ?_
  .intro v m hm aE;obtain⟨m,rfl⟩:∃aD,m=aD+1:=⟨m-1,by omega⟩
   rw[List.drop_of_length_le (Nat.le_refl _),Cg]at aE⊢;simp only[oq,uK];rw[fV (Nat.le_refl _),Ie,aE];rfl
  .intro i ay ih v m hm aE;obtain⟨m,rfl⟩:∃aD,m=aD+1:=⟨m-1,by omega⟩
   rw[drop_cons s i ay,xT]at aE⊢;simp only[oq,uK,l4];rw[hF ay,g2 _ i ay,hU i _ ay (by omega)];have xY:=b4 _ (List.getElem_mem ay);have d1:(decide (1<=s[i])&&decide (s[i]<=7))=true:=by simp[xY.1,xY.2]
   simp only[cond_true,bind_some,d1,Bool.not_true,cond_false];exact ih _ m (by omega) aE
 rw[<-hw];refine hc (s.length+1) λm hm=>?_;have:=key 0 (by omega) 1 m (by omega) (by simpa using aP);simpa using this
def iA:Vx->Nat
 |[]=>0
 |x::r=>eI x.aY+iA r
def kS (P:Int) (xs:Vx):Vx:=(xs.map (oN P)).flatten
def mc (P:Int) (out:Vx):Vx->Vx
 |[]=>out
 |x::r=>mc P (jV out (oN P x)) r
theorem vv {P:Int} {x:aN} (h:jy x P=true) (bf:P<=21):(oN P x).length=eI x.aY:=by
 obtain⟨_,U,_⟩:=vu h bf;exact TM λb J=>by have:=(U b J).1;omega
theorem ID (P:Int):∀(xs out:Vx),out.length<=(mc P out xs).length
 |[],out=>Nat.le_refl _
 |x::r,out=>Nat.le_trans (Iy _ _) (ID P r _)
theorem Ct {P:Int} (bf:P<=21):∀(xs out:Vx),(∀x∈xs,jy x P=true)->out.length+iA xs<=60->mc P out xs=out++kS P xs
 |[],out,_,_=>by simp[mc,kS]
 |x::r,out,ae,h=>by
  simp only[iA]at h;have hl:=vv (ae x (by simp)) bf;simp only[mc];rw[Cq _ _ (by omega),Ct bf r _ (λy a_=>ae y (by simp[a_])) (by rw[List.length_append];omega),List.append_assoc];rfl
theorem IE {P:Int} (bf:P<=21):∀(xs out:Vx),(∀x∈xs,jy x P=true)->60<out.length+iA xs->60<(mc P out xs).length
 |[],out,_,h=>by simpa [iA,mc]using h
 |x::r,out,ae,h=>by
  simp only[iA]at h;have hl:=vv (ae x (by simp)) bf;have ag:=x3 x.aY;simp only[mc];by_cases U:out.length+eI x.aY<=60
  .rw[Cq _ _ (by omega)];exact IE bf r _ (λy a_=>ae y (by simp[a_])) (by rw[List.length_append];omega)
  .exact Nat.lt_of_lt_of_le (Ix _ _ (by omega) (λe=>by rw[e]at hl;simp at hl;omega)) (ID P r _)
def oO (n:Nat):Bool:=decide (60<n)
theorem x5 {n:Nat} (h:60<n):oO n=true:=decide_eq_true h
theorem IF {n:Nat} (h:¬60<n):oO n=false:=decide_eq_false h
theorem IG (n:Nat):decide ((60:Int)<(n:Int))=oO n:=by
 by_cases b2:60<n
 .rw[x5 b2,decide_eq_true (by omega)]
 .rw[IF b2,decide_eq_false (by omega)]
def rE (l:b5):b5×Int:=
 cond (nK l) (cond (oO (iA l.bJ)) (⟨0,[],[]⟩,5) (⟨l.a7,l.Start,kS l.a7 l.bJ⟩,0)) (⟨0,[],[]⟩,1)
theorem TQ (e:Vl) (h:e.length<=1048576):w2 e=some e:=by
 unfold w2;rw[m3 (by omega) (by omega)];rfl
theorem TR (l:b5) (h:vp l):w6 l=some (rE l):=by
 unfold w6;rw[Tt l h];unfold rE;cases aE:nK l
 .rfl
 .obtain⟨eO,el,fP,qa,dG⟩:=Cs aE;simp only[bind_some,Bool.not_true,cond_false,cond_true];have lb:∀i,i<=l.bJ.length->∀(out:Vx) m,l.bJ.length-i<m->out.length+iA (l.bJ.drop i)<=60->q4 l l.Start m out (i:Int)=some (⟨l.a7,l.Start,out++kS l.a7 (l.bJ.drop i)⟩,0):=by
   refine down l.bJ.length ?_ ?_
   .intro out m hm bk;obtain⟨m,rfl⟩:∃aD,m=aD+1:=⟨m-1,by omega⟩
    simp only[q4,AX];rw[fV (Nat.le_refl _),List.drop_of_length_le (Nat.le_refl _)];simp[kS]
   .intro i ay ih out m hm bk;obtain⟨m,rfl⟩:∃aD,m=aD+1:=⟨m-1,by omega⟩
    rw[drop_cons _ i ay]at bk⊢;simp only[iA]at bk;have R:=dG _ (List.getElem_mem ay);obtain⟨eS,dY,gS,fQ,_⟩:=vu R el;simp only[q4,AX];rw[hF ay,g2 _ i ay];simp only[cond_true,bind_some,Int.toNat_natCast];rw[sV 8 (n:=l.bJ[i].aY.length) (by omega) (by decide),bind_some,TO _ _ i (by omega) (by omega) eS dY fQ out (by omega),ih _ m (by omega) (by rw[List.length_append,vv R el];omega),List.append_assoc];rfl
  have ju:∀i,i<=l.bJ.length->∀(v:Nat) m,l.bJ.length-i<m->v<=i*4096->v+iA (l.bJ.drop i)=iA l.bJ->so l m (v:Int) (i:Int)=some (cond (oO (iA l.bJ)) (⟨0,[],[]⟩,5) (⟨l.a7,l.Start,kS l.a7 l.bJ⟩,0)):=by
   refine down l.bJ.length ?_ ?_
   .intro v m hm J cJ;obtain⟨m,rfl⟩:∃aD,m=aD+1:=⟨m-1,by omega⟩
    simp only[so,AY];rw[List.drop_of_length_le (Nat.le_refl _)]at cJ;simp only[iA,Nat.add_zero]at cJ;rw[fV (Nat.le_refl _),cond_false,IG,<-cJ];by_cases b2:60<v
    .rw[x5 b2,cond_true,cond_true]
    .rw[IF b2,cond_false,cond_false,TQ _ (by omega),bind_some];refine hc (l.bJ.length+1) λm hm=>?_;have:=lb 0 (by omega) [] m (by omega) (by rw[List.drop_zero];simp;omega);simpa using this
   .intro i ay ih v m hm J cJ;obtain⟨m,rfl⟩:∃aD,m=aD+1:=⟨m-1,by omega⟩
    have R:=dG _ (List.getElem_mem ay);obtain⟨eS,dY,gS,fQ,_⟩:=vu R el;obtain⟨t1,t2⟩:=IC _ eS dY gS;rw[drop_cons _ i ay]at cJ;simp only[iA]at cJ;simp only[so,AY];rw[hF ay,g2 _ i ay,hU i _ ay (by omega)];simp only[cond_true,bind_some,t1];have e:IntKind.i64.wrap ((v:Int)+(eI l.bJ[i].aY:Int))=((v+eI l.bJ[i].aY:Nat):Int):=by
     rw[fU _ (by omega)];omega
    rw[e];exact ih _ m (by omega) (by omega) (by omega)
  refine hc (l.bJ.length+1) λm hm=>?_;exact ju 0 (by omega) 0 m (by omega) (by omega) (by rw[List.drop_zero,Nat.zero_add])
theorem TS (l:b5) (h:vp l):uV l=some (rE l):=by
 unfold uV;rw[TA l h];unfold rE;cases aE:nK l
 .rfl
 .obtain⟨eO,el,fP,qa,dG⟩:=Cs aE;simp only[bind_some,Bool.not_true,cond_false,cond_true];rw[Cp _ (by omega),bind_some];have ju:∀i,i<=l.bJ.length->∀(out:Vx) m,l.bJ.length-i<m->out.length<=61+i->sy l m l.a7 l.Start out (i:Int)=some (cond (oO (mc l.a7 out (l.bJ.drop i)).length) (⟨0,[],[]⟩,5) (⟨l.a7,l.Start,mc l.a7 out (l.bJ.drop i)⟩,0)):=by
   refine down l.bJ.length ?_ ?_
   .intro out m hm bk;obtain⟨m,rfl⟩:∃aD,m=aD+1:=⟨m-1,by omega⟩
    simp only[sy,Bl];rw[fV (Nat.le_refl _),List.drop_of_length_le (Nat.le_refl _)];simp only[mc];rw[cond_false,IG];cases oO out.length<;>rfl
   .intro i ay ih out m hm bk;obtain⟨m,rfl⟩:∃aD,m=aD+1:=⟨m-1,by omega⟩
    have R:=dG _ (List.getElem_mem ay);obtain⟨eS,dY,gS,fQ,_⟩:=vu R el;obtain⟨t1,t2⟩:=IC _ eS dY gS;rw[drop_cons _ i ay];simp only[mc,sy,Bl];rw[hF ay,g2 _ i ay,hU i _ ay (by omega)];simp only[cond_true,bind_some];rw[TN (by omega) eS dY fQ _ _ out (by omega)];simp only[bind_some];have hu:=Iz (oN l.a7 l.bJ[i]) out;exact ih _ m (by omega) (by omega)
  refine hc (l.bJ.length+1) λm hm=>?_;have:=ju 0 (by omega) [] m (by omega) (by simp);rw[List.drop_zero]at this;refine this.trans ?_;by_cases b2:60<iA l.bJ
  .rw[x5 b2,x5 (IE el _ _ dG (by simpa using b2)),cond_true,cond_true]
  .have bd:=Ct el l.bJ [] dG (by simp;omega);have hlen:(kS l.a7 l.bJ).length=iA l.bJ:=by
    have:∀xs:Vx,(∀x∈xs,jy x l.a7=true)->(kS l.a7 xs).length=iA xs:=by
     intro xs;induction xs with
     |nil=>intro _;rfl
     |cons x r ih=>
      intro ae;have U:=ih λy a_=>ae y (by simp[a_]);have aa:=vv (ae x (by simp)) el;simp only[kS,List.map_cons,List.flatten_cons,List.length_append,iA]at U⊢;omega
    exact this _ dG
   rw[bd,List.nil_append,hlen]
theorem IH {α:Type} {f:α->Nat} {c:Nat}:∀{l:List α},(∀x∈l,f x<=c)->fN f l<=l.length*c
 |[],_=>by simp[fN]
 |x::r,h=>by
  have U:=h x (by simp);have aa:=IH (l:=r) λy a_=>h y (by simp[a_]);simp only[fN,List.length_cons,Nat.add_mul];omega
theorem Cu {α:Type} {f:α->Nat} {c k:Nat} {l:List α} (hl:l.length<=k) (h:∀x∈l,f x<=c):fW f l<=k*(c+1):=by
 have U:=IH h;have aa:l.length*c<=k*c:=mul_le_mul_right c hl;simp only[fW,Nat.mul_add,Nat.mul_one];omega
theorem TT {P:Int} {x:aN} (v:Vl) (h:jy x P=true) (ag:P<=21):h7 (kR P x v)<=1600:=by
 obtain⟨eS,dY,gS,fQ,nf,qu,wc,zq,TU,TV⟩:=vu h ag;have len:∀es:Vt,(∀e∈es,e.length<=60)->∀e∈es.map (jf P v),e.length+0<=60:=λes wi e he=>by
  obtain⟨y,a_,rfl⟩:=List.mem_map.1 he;have:=wi y a_;simp only[jf,List.length_map];omega
 have dq:=Cu (k:=2) (l:=x.bG.map (jf P v)) (by simpa using qu) (len _ TU);have gk:=Cu (k:=21) (l:=x.Next.map (jf P v)) (by rw[List.length_map];omega) (len _ TV);have a0:(jf P v x.Guard).length<=60:=by simp only[jf,List.length_map];exact zq
 have key:∀b c d e:Nat,b<=60->c<=10->d<=122->e<=1281->(0+0)+((b+0)+(c+(d+(e+0))))<=1600:=λb c d e _ _ _ _=>by omega
 exact key _ _ _ _ a0 nf dq gk
theorem TW (l:b5):kQ (rE l).1<=1048576:=by
 have bC:kQ ⟨0,[],[]⟩<=1048576:=by simp[kQ,fW,fN]
 unfold rE;cases aE:nK l
 .exact bC
 .obtain⟨eO,el,fP,qa,dG⟩:=Cs aE;simp only[cond_true];cases b2:oO (iA l.bJ)
  .simp only[oO,decide_eq_false_iff_not]at b2;simp only[cond_false];have hm:∀y∈kS l.a7 l.bJ,h7 y<=1600:=by
    intro y a_;simp only[kS,List.mem_flatten,List.mem_map]at a_;obtain⟨_,⟨x,ae,rfl⟩,a_⟩:=a_;simp only[oN,List.mem_map]at a_;obtain⟨v,_,rfl⟩:=a_;exact TT _ (dG x ae) el
   have hlen:(kS l.a7 l.bJ).length<=60:=by
    have bd:=Ct el l.bJ [] dG (by simp;omega);have:∀xs:Vx,(∀x∈xs,jy x l.a7=true)->(kS l.a7 xs).length=iA xs:=by
     intro xs;induction xs with
     |nil=>intro _;rfl
     |cons x r ih=>
      intro ae;have U:=ih λy a_=>ae y (by simp[a_]);have aa:=vv (ae x (by simp)) el;simp only[kS,List.map_cons,List.flatten_cons,List.length_append,iA]at U⊢;omega
    rw[this _ dG];omega
   have:=Cu (f:=h7) hlen hm;unfold kQ;simp only;omega
  .exact bC
theorem SL (a:kg) (b4:wQ a):Bz a=some true:=by
 unfold Bz;rw[S1 a 1048576 b4 (by omega) (by omega)];simp only[bind_some];rcases Nat.lt_or_ge 1048576 (pM a)with h|h
 .rw[xL (by omega)];rfl
 rw[B8 (by omega)];have aI:decide ((1048576:Int)-((pM a:Nat):Int)<0)=false:=by simp only[decide_eq_false_iff_not];omega
 rw[aI,cond_false,S7 a h];simp only[bind_some];have hl:kQ (vn a)<=1048576:=by rw[S6];exact h
 generalize vn a=x at hl;have ae:=TB x hl;have aG:=TW x;obtain⟨gY,fR,hi,c,bu,ea,_⟩:=H8 x 1 (by omega) (by omega);obtain⟨tS,yV,yW,f,f1,gE,j0⟩:=H8 (rE x).1 1 (by omega) (by omega);simp only[TR x ae,TS x ae,bind_some,H4 _ aG,H4 x hl,ea,gE,j0,Bool.not_true,bne_self_eq_false,Bool.or_self,cond_false,oK (k:=1+(c:Int)) (by omega),oK (k:=1+(f:Int)) (by omega)]
end Go.nB
