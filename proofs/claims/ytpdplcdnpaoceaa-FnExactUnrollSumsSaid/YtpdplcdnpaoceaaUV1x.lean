/- Part of a proof that a law returns true for every input. No condition. -/
import Derived.Test.YtpdplcdnpaoceaaUV0x
namespace Go.nB
open Option Go.IntKind Nat Or
open Go Go.cV
def jx (p:Int) (s:Vl):Int:=s.foldl (λp n=>i64.wrap (p*i64.wrap (n+1))) p
def m5 (v:Int):Bool:=decide (v<=4096)
def m6 (s:Vl):Bool:=decide (s.length<=8)&&(s.all (λn=>gO n 1 7)&&m5 (jx 1 s))
def pP:Vj:=[116,97,117]
def rB (s:Vj):Bool:=rA s&& !(s==pP)
def lx (es:Vt) (v:Int):Bool:=es.all λe=>iZ e v 60
def jy (x:aN) (p:Int):Bool:=
 m6 x.aY&&(iZ x.Guard (p+x.aY.length) 60&&((x.Next.length:Int)==p&&((if x.Name=pP then decide (x.bG.length=0)else rB x.Name&&decide (x.bG.length<=2))&&
  (lx x.bG (p+x.aY.length)&&lx x.Next (p+x.aY.length)))))
def pQ (s:Vl) (p:Int):Bool:=(s.length:Int)==p&&s.all (λn=>gO n 0 63)
def nK (l:b5):Bool:=gO l.a7 0 21&&(pQ l.Start l.a7&&(decide (l.bJ.length<=60)&&l.bJ.all λx=>jy x l.a7))
theorem Cg (p:Int):jx p []=p:=rfl
theorem xT (p n:Int) (s:Vl):jx p (n::s)=jx (i64.wrap (p*i64.wrap (n+1))) s:=rfl
theorem vo (n dE ay:Int):(decide (dE<=n)&&decide (n<=ay))=gO n dE ay:=rfl
theorem Ic:∀(s:Vl) (p:Int),s.all (λn=>gO n 1 7)=true->1<=p->p*8^s.length<=1099511627776->1<=jx p s
 |[],p,_,h,_=>h
 |n::s,p,b4,h,J=>by
  simp only[List.all_cons,Bool.and_eq_true,gO,decide_eq_true_eq]at b4;obtain⟨⟨U,aa⟩,ax⟩:=b4;have aI:i64.wrap (n+1)=n+1:=fU _ (by omega);have Ch:(1:Int)<=8^s.length:=by
   have:(0:Int)<8^s.length:=Int.pow_pos (by decide);omega
  have Ci:p*8*8^s.length<=1099511627776:=by
   have:p*8*8^s.length=p*8^(n::s).length:=by rw[List.length_cons,Int.pow_succ,Int.mul_assoc,Int.mul_comm 8]
   rw[this];exact J
  have hle:p*(n+1)<=p*8:=Int.mul_le_mul_of_nonneg_left (by omega) (by omega);have Tm:p*8*1<=p*8*8^s.length:=Int.mul_le_mul_of_nonneg_left Ch (by omega);have qd:p*1<=p*(n+1):=Int.mul_le_mul_of_nonneg_left (by omega) (by omega);have aR:i64.wrap (p*(n+1))=p*(n+1):=fU _ (by omega);simp only[jx,List.foldl_cons,aI,aR];refine Ic s (p*(n+1)) (by simpa [gO]using ax) (by omega) ?_;exact Int.le_trans (Int.mul_le_mul_of_nonneg_right hle (by omega)) Ci
def xU (v:Int) (s:Vl):Int:=cond (s.all λn=>gO n 1 7) (cond (m5 (jx v s)) (jx v s) 0) 0
theorem Ie (v:Int):decide (4096<v)= !m5 v:=by
 unfold m5;by_cases h:v<=4096
 .have:¬4096<v:=by omega
  simp[h,this]
 .have:4096<v:=by omega
  simp[h,this]
theorem Tn (s:Vl) (h:s.length<=1048576):∃n,q0 s=some n/\(n==0)= !m6 s:=by
 unfold q0;by_cases dv:s.length<=8
 .have d:decide ((8:Int)<(s.length:Int))=false:=by simp only[decide_eq_false_iff_not];omega
  rw[d,cond_false];have key:∀i,i<=s.length->∀(v:Int) m,s.length-i<m->oq s m v (i:Int)=some (xU v (s.drop i)):=by
   refine down s.length ?_ ?_
   .intro v m hm;obtain⟨m,rfl⟩:∃aD,m=aD+1:=⟨m-1,by omega⟩
    simp only[oq,uK];rw[fV (Nat.le_refl _),List.drop_of_length_le (Nat.le_refl _),Ie];simp only[xU,List.all_nil,cond_true,cond_false,Cg];cases m5 v<;>rfl
   .intro i ay ih v m hm;obtain⟨m,rfl⟩:∃aD,m=aD+1:=⟨m-1,by omega⟩
    simp only[oq,uK,l4];rw[hF ay,g2 _ i ay,hU i _ ay (by omega),drop_cons s i ay];simp only[cond_true,bind_some];rw[ih _ m (by omega)];simp only[vo,xU,List.all_cons,xT];cases gO s[i] 1 7
    .rfl
    .rfl
  refine⟨_,hc (s.length+1) λm hm=>by have:=key 0 (by omega) 1 m (by omega);simpa using this,?_⟩;unfold m6 xU;have d8:decide (s.length<=8)=true:=by simpa using dv
  rw[d8,Bool.true_and];cases b4:s.all (λn=>gO n 1 7)
  .rfl
  .have ag:=Ic s 1 b4 (by omega) (by
    have:∀k:Nat,k<=8->(8:Int)^k<=16777216:=by decide
    have:=this s.length dv;omega)
   cases hw:m5 (jx 1 s)
   .rfl
   .have:(jx 1 s==0)=false:=by simp;omega
    simpa using this
 .have d:decide ((8:Int)<(s.length:Int))=true:=by simp only[decide_eq_true_eq];omega
  rw[d,cond_true];refine⟨0,rfl,?_⟩;unfold m6;have d8:decide (s.length<=8)=false:=by simpa using dv
  rw[d8];rfl
theorem To (x:aN) (h:x.aY.length<=1048576):w_ x=some (m6 x.aY):=by
 unfold w_;have key:∀i,i<=x.aY.length->∀(v:Int) m,x.aY.length-i<m->sq x m v (i:Int)=some ((x.aY.drop i).all (λn=>gO n 1 7)&&(decide (x.aY.length<=8)&&m5 (jx v (x.aY.drop i)))):=by
  refine down x.aY.length ?_ ?_
  .intro v m hm;obtain⟨m,rfl⟩:∃aD,m=aD+1:=⟨m-1,by omega⟩
   simp only[sq,A3];rw[fV (Nat.le_refl _),List.drop_of_length_le (Nat.le_refl _)];have:decide ((x.aY.length:Int)<=8)=decide (x.aY.length<=8):=by
    by_cases h:x.aY.length<=8
    .have bl:(x.aY.length:Int)<=8:=by omega
     simp[h,bl]
    .have bl:¬(x.aY.length:Int)<=8:=by omega
     simp[h,bl]
   rw[this];simp only[cond_false,List.all_nil,Bool.true_and,Cg];rfl
  .intro i ay ih v m hm;obtain⟨m,rfl⟩:∃aD,m=aD+1:=⟨m-1,by omega⟩
   simp only[sq,A3,ld];rw[hF ay,g2 _ i ay,hU i _ ay (by omega),drop_cons x.aY i ay];simp only[cond_true,bind_some,List.all_cons];rw[ih _ m (by omega)];simp only[vo,xT];cases gO x.aY[i] 1 7<;>simp
 refine hc (x.aY.length+1) λm hm=>?_;have:=key 0 (by omega) 1 m (by omega);rw[List.drop_zero]at this;refine this.trans ?_;unfold m6;cases x.aY.all (λn=>gO n 1 7)<;>simp
theorem Ig (es:Vt) (v:Int) (aE: -1000000<=v/\v<=1000000) (h:es.length<=1048576) (he:∀e∈es,e.length<=1048576):q1 es v=some (lx es v):=by
 unfold q1 lx;refine Cd es (λe=>iZ e v 60) (λm=>?_) λi ay m=>?_
 .simp only[uM,AO];rw[fV (Nat.le_refl _)];rfl
 .simp only[uM,AO];rw[hF ay,g2 _ i ay,hU i _ ay (by omega)];simp only[cond_true,bind_some,Ib _ v 60 aE (he _ (List.getElem_mem ay))];cases iZ es[i] v 60<;>rfl
theorem Tp (s:Vj):wY s=some (rB s):=by
 unfold wY;rw[Ti];rfl
theorem Tq (s:Vj) (R:s.length<=140737488355328):uS s=some (rB s):=by
 unfold uS;rw[Tj s R];rfl
def Cj (e:Vt):Prop:=e.length<=1048576/\∀t∈e,t.length<=1048576
def xV (x:aN):Prop:=x.aY.length<=1048576/\x.Guard.length<=1048576/\x.Name.length<=1048576/\Cj x.bG/\Cj x.Next
def vp (l:b5):Prop:=l.Start.length<=1048576/\l.bJ.length<=1048576/\∀x∈l.bJ,xV x
theorem Ih {s:Vj} (h:s=pP):(s==([116,97,117]:Vj))=true:=by subst h;rfl
theorem Ii {s:Vj} (h:s≠pP):(s==([116,97,117]:Vj))=false:=by simpa [pP]using h
theorem Tr (x:aN) (p:Int) (ag:0<=p/\p<=21) (ae:xV x):wZ x p=some (jy x p):=by
 obtain⟨U,aa,ax,aP,a9⟩:=ae;unfold wZ jy;obtain⟨n,aI,aR⟩:=Tn x.aY U;rw[aI];simp only[bind_some,aR];cases R:m6 x.aY
 .rfl
 .have dv:x.aY.length<=8:=by simp only[m6,Bool.and_eq_true,decide_eq_true_eq]at R;exact R.1
  have hw:i64.wrap (p+(x.aY.length:Int))=p+(x.aY.length:Int):=fU (p+(x.aY.length:Int)) ⟨by omega,by omega⟩;simp only[hw,Ib x.Guard (p+(x.aY.length:Int)) 60 (by omega) aa,Ig x.bG (p+(x.aY.length:Int)) (by omega) aP.1 aP.2,Ig x.Next (p+(x.aY.length:Int)) (by omega) a9.1 a9.2,Tp,bind_some,Bool.not_true,cond_false,Bool.true_and];cases iZ x.Guard (p+(x.aY.length:Int)) 60
  .rfl
  .cases a2:(x.Next.length:Int)==p
   .have:((x.Next.length:Int) !=p)=true:=by simp only[bne,a2];rfl
    rw[this];rfl
   .have:((x.Next.length:Int) !=p)=false:=by simp only[bne,a2];rfl
    rw[this];simp only[Bool.not_true,Bool.or_self,cond_false,Bool.true_and];by_cases aO:x.Name=pP
    .rw[Ih aO,if_pos aO];simp only[cond_true,Bool.not_true,cond_false];by_cases b4:x.bG.length=0
     .have d1:decide ((0:Int)<(x.bG.length:Int))=false:=by simp only[decide_eq_false_iff_not];omega
      have d2:decide ((2:Int)<(x.bG.length:Int))=false:=by simp only[decide_eq_false_iff_not];omega
      have d3:decide (x.bG.length=0)=true:=by simpa using b4
      rw[d1,d2,d3];cases lx x.bG (p+(x.aY.length:Int))<;>cases lx x.Next (p+(x.aY.length:Int))<;>rfl
     .have d1:decide ((0:Int)<(x.bG.length:Int))=true:=by simp only[decide_eq_true_eq];omega
      have d3:decide (x.bG.length=0)=false:=by simpa using b4
      rw[d1,d3];rfl
    .rw[Ii aO,if_neg aO];simp only[Bool.not_false,cond_true,cond_false];cases rB x.Name
     .rfl
     .by_cases b4:x.bG.length<=2
      .have d2:decide ((2:Int)<(x.bG.length:Int))=false:=by simp only[decide_eq_false_iff_not];omega
       have d3:decide (x.bG.length<=2)=true:=by simpa using b4
       rw[d2,d3];cases lx x.bG (p+(x.aY.length:Int))<;>cases lx x.Next (p+(x.aY.length:Int))<;>rfl
      .have d2:decide ((2:Int)<(x.bG.length:Int))=true:=by simp only[decide_eq_true_eq];omega
       have d3:decide (x.bG.length<=2)=false:=by simpa using b4
       rw[d2,d3];rfl
theorem Ts (s:Vl) (p:Int) (h:s.length<=1048576):wV s p=some (pQ s p):=by
 unfold wV pQ;have e:wU s=some (s.all λn=>gO n 0 63):=by
  unfold wU;refine Cd s (λn=>gO n 0 63) (λm=>?_) λi ay m=>?_
  .simp only[uJ,AL];rw[fV (Nat.le_refl _)];rfl
  .simp only[uJ,AL,l4];rw[hF ay,g2 _ i ay,hU i _ ay (by omega)];simp only[cond_true,bind_some,vo];cases gO s[i] 0 63<;>rfl
 rw[e];cases(s.length:Int)==p<;>rfl
theorem Tt (l:b5) (h:vp l):w1 l=some (nK l):=by
 unfold w1 nK l4;simp only[bind_some,vo];rw[Ts _ _ h.1];simp only[bind_some];cases ag:gO l.a7 0 21
 .rfl
 .cases pQ l.Start l.a7
  .rfl
  .simp only[Bool.not_true,cond_false,Bool.false_or,Bool.true_and];have c_:0<=l.a7/\l.a7<=21:=by simpa [gO]using ag
   by_cases vq:l.bJ.length<=60
   .have d1:decide ((60:Int)<(l.bJ.length:Int))=false:=by simp only[decide_eq_false_iff_not];omega
    have d2:decide (l.bJ.length<=60)=true:=by simpa using vq
    rw[d1,d2,cond_false,Bool.true_and];refine Cd l.bJ (λx=>jy x l.a7) (λm=>?_) λi ay m=>?_
    .simp only[uP,AR];rw[fV (Nat.le_refl _)];rfl
    .simp only[uP,AR];rw[hF ay,g2 _ i ay,hU i _ ay (by omega)];simp only[cond_true,bind_some,Tr _ _ c_ (h.2.2 _ (List.getElem_mem ay))];cases jy l.bJ[i] l.a7<;>rfl
   .have d1:decide ((60:Int)<(l.bJ.length:Int))=true:=by simp only[decide_eq_true_eq];omega
    have d2:decide (l.bJ.length<=60)=false:=by simpa using vq
    rw[d1,d2];rfl
def pR {α:Type} (ls:List (List α)):Nat:=fN List.length ls
theorem Tu (n:Int) (bt:0<=n) (h:n<=1099511627776):xd n=some ():=by
 unfold xd A5 xc;have fs:i64.wrap 0=0:=fU 0 (by omega);have aI:i64.wrap (n-0)=n:=by rw[fU (n-0) (by omega)];omega
 have d:decide (n<0)=false:=by simp only[decide_eq_false_iff_not];omega
 rw[d,fs,aI,show kT 24 n=some () by unfold kT;rw[if_pos ⟨by omega,by omega,by omega⟩]];cases decide (0<n)<;>rfl
theorem Tv (ls:List Vt) (h:ls.length<=1048576) (R:pR ls<=1099511627776):xf ls=some ls.flatten:=by
 have A8:cX (λn=>q5 ls n [] 0)=some ls.flatten:=by
  have key:∀i,i<=ls.length->∀(v:Vt) m,v.length+pR (ls.drop i)<=1099511627776->ls.length-i<m->q5 ls m v (i:Int)=some (v++(ls.drop i).flatten):=by
   refine down ls.length ?_ ?_
   .intro v m _ hm;obtain⟨m,rfl⟩:∃aD,m=aD+1:=⟨m-1,by omega⟩
    simp only[q5,A7];rw[fV (Nat.le_refl _),List.drop_of_length_le (Nat.le_refl _)];simp
   .intro i ay ih v m aE hm;obtain⟨m,rfl⟩:∃aD,m=aD+1:=⟨m-1,by omega⟩
    rw[drop_cons ls i ay]at aE⊢;simp only[pR,fN]at aE;simp only[q5,A7];rw[hF ay,g2 _ i ay,hU i _ ay (by omega)];simp only[cond_true,bind_some];rw[m3 (by omega) (by omega)];simp only[bind_some];rw[ih _ m (by simp only[List.length_append,pR];omega) (by omega)];simp only[List.flatten_cons,List.append_assoc]
  refine hc (ls.length+1) λm hm=>?_;have:=key 0 (by omega) [] m (by simpa using R) (by omega);simpa using this
 unfold xf;have key:∀i,i<=ls.length->∀(v:Int) m,0<=v->v+pR (ls.drop i)<=1099511627776->ls.length-i<m->q6 ls m v (i:Int)=some ls.flatten:=by
  refine down ls.length ?_ ?_
  .intro v m bt aE hm;obtain⟨m,rfl⟩:∃aD,m=aD+1:=⟨m-1,by omega⟩
   simp only[q6,A9];rw[fV (Nat.le_refl _),Tu v bt (by omega)];simp only[cond_false,bind_some];exact A8
  .intro i ay ih v m bt aE hm;obtain⟨m,rfl⟩:∃aD,m=aD+1:=⟨m-1,by omega⟩
   rw[drop_cons ls i ay]at aE;simp only[pR,fN]at aE;simp only[q6,A9,A6];rw[hF ay,g2 _ i ay,hU i _ ay (by omega)];simp only[cond_true,bind_some];have e:i64.wrap (v+(ls[i].length:Int))=v+(ls[i].length:Int):=fU (v+(ls[i].length:Int)) ⟨by omega,by omega⟩;have d:decide (v+(ls[i].length:Int)<0)=false:=by simp only[decide_eq_false_iff_not];omega
   rw[e,d,cond_false];exact ih _ m (by omega) (by simp only[pR];omega) (by omega)
 refine hc (ls.length+1) λm hm=>?_;exact key 0 (by omega) 0 m (by omega) (by rw[List.drop_zero];omega) (by omega)
theorem Tw (x:aN) (ae:xV x):su x=some (x.Guard::(x.bG++x.Next)):=by
 unfold su;have aP:=ae.2.2.2.1.1;have a9:=ae.2.2.2.2.1;rw[Tv _ (by simp) (by simp only[pR,fN,List.length_cons,List.length_nil];omega)];simp
theorem Tx (x:aN) (p:Int) (ag:0<=p/\p<=21) (dv:x.aY.length<=8) (es:Vt) (h:es.length<=1099511627776) (he:∀e∈es,e.length<=1048576):
  q7 es p x=some (!lx es (p+x.aY.length)):=by
 unfold q7 Bb;rw[Ce (f:=λe=>xi e p x) es (λe=> !iZ e (p+x.aY.length) 60) (λm i=>by simp only[xj,GC]) (λe hm=>by
  unfold xi;have hw:i64.wrap (p+(x.aY.length:Int))=p+(x.aY.length:Int):=fU (p+(x.aY.length:Int)) ⟨by omega,by omega⟩;rw[hw,Th e _ 60 (by omega) (by omega) (he e hm)];rfl) h]
 simp only[bind_some,xS,Cf];rfl
theorem Ty (x:aN) (p:Int) (ag:0<=p/\p<=21) (ae:xV x):xk x p=some (jy x p):=by
 have oY:=ae;obtain⟨U,aa,ax,aP,a9⟩:=ae;unfold xk jy;rw[To x U];simp only[bind_some];cases R:m6 x.aY
 .rfl
 .have dv:x.aY.length<=8:=by simp only[m6,Bool.and_eq_true,decide_eq_true_eq]at R;exact R.1
  have zw:q7 (x.Guard::(x.bG++x.Next)) p x=some (!(iZ x.Guard (p+x.aY.length) 60&&(lx x.bG (p+x.aY.length)&&lx x.Next (p+x.aY.length)))):=by
   have Vg:=aP.1;have Vh:=a9.1;rw[Tx x p ag dv _ (by simp only[List.length_cons,List.length_append];omega) (λe he=>by
    rcases List.mem_cons.1 he with rfl|he
    .exact aa
    .rcases List.mem_append.1 he with he|he
     .exact aP.2 e he
     .exact a9.2 e he)]
   simp only[lx,List.all_cons,List.all_append]
  rw[Tw x oY,Tq _ (by omega)];simp only[bind_some,zw,Bool.not_true,Bool.false_or,Bool.true_and,Bool.not_not];cases a2:(x.Next.length:Int)==p
  .have:((x.Next.length:Int) !=p)=true:=by simp only[bne,a2];rfl
   rw[this];cases iZ x.Guard (p+(x.aY.length:Int)) 60<;>rfl
  .have:((x.Next.length:Int) !=p)=false:=by simp only[bne,a2];rfl
   rw[this];simp only[cond_false,Bool.true_and];by_cases aO:x.Name=pP
   .rw[Ih aO,if_pos aO];simp only[cond_true,Bool.not_true,cond_false];by_cases b4:x.bG.length=0
    .have d1:decide ((0:Int)<(x.bG.length:Int))=false:=by simp only[decide_eq_false_iff_not];omega
     have d3:decide (x.bG.length=0)=true:=by simpa using b4
     rw[d1,d3];simp
    .have d1:decide ((0:Int)<(x.bG.length:Int))=true:=by simp only[decide_eq_true_eq];omega
     have d3:decide (x.bG.length=0)=false:=by simpa using b4
     rw[d1,d3];cases iZ x.Guard (p+(x.aY.length:Int)) 60<;>rfl
   .rw[Ii aO,if_neg aO];simp only[Bool.not_false,cond_true,cond_false];by_cases b4:x.bG.length<=2
    .have d2:decide ((2:Int)<(x.bG.length:Int))=false:=by simp only[decide_eq_false_iff_not];omega
     have d3:decide (x.bG.length<=2)=true:=by simpa using b4
     rw[d2,d3];cases decide ((0:Int)<(x.bG.length:Int))<;>cases rB x.Name<;>cases iZ x.Guard (p+(x.aY.length:Int)) 60<;>simp
    .have d1:decide ((0:Int)<(x.bG.length:Int))=true:=by simp only[decide_eq_true_eq];omega
     have d2:decide ((2:Int)<(x.bG.length:Int))=true:=by simp only[decide_eq_true_eq];omega
     have d3:decide (x.bG.length<=2)=false:=by simpa using b4
     rw[d1,d2,d3];cases rB x.Name<;>cases iZ x.Guard (p+(x.aY.length:Int)) 60<;>rfl
theorem Tz (l:b5) (s:Vl) (h:s.length<=1048576):w9 l s=some (pQ s l.a7):=by
 unfold w9 A2 A1 A0;rw[Ce (f:=AZ) s (λn=> !gO n 0 63) (λm i=>by simp only[w8,GB]) (λn _=>rfl) (by omega)];simp only[bind_some,xS,Cf,Bool.not_not];unfold pQ;cases(s.length:Int)==l.a7<;>rfl
theorem TA (l:b5) (h:vp l):xn l=some (nK l):=by
 unfold xn nK ld;simp only[bind_some,vo];rw[Tz _ _ h.1];simp only[bind_some];cases ag:gO l.a7 0 21
 .rfl
 .cases pQ l.Start l.a7
  .rfl
  .simp only[Bool.not_true,cond_false,Bool.false_or,Bool.true_and];have c_:0<=l.a7/\l.a7<=21:=by simpa [gO]using ag
   by_cases vq:l.bJ.length<=60
   .have d1:decide ((60:Int)<(l.bJ.length:Int))=false:=by simp only[decide_eq_false_iff_not];omega
    have d2:decide (l.bJ.length<=60)=true:=by simpa using vq
    rw[d1,d2,cond_false,Bool.true_and];unfold Bd Bc;rw[Ce (f:=λx=>xl x l) l.bJ (λx=> !jy x l.a7) (λm i=>by simp only[xm,GD]) (λx ae=>by
     unfold xl;rw[Ty x _ c_ (h.2.2 x ae)];rfl) (by omega)]
    simp only[bind_some,xS,Cf,Bool.not_not]
   .have d1:decide ((60:Int)<(l.bJ.length:Int))=true:=by simp only[decide_eq_true_eq];omega
    have d2:decide (l.bJ.length<=60)=false:=by simpa using vq
    rw[d1,d2];rfl
theorem Ij (es:Vt) (h:fW (λx:List aW=>x.length+0) es<=1048576):Cj es:=
 ⟨Nat.le_trans (pI _ _) h,λt aO=>by
  have:=sU (f:=λx:List aW=>x.length+0) aO;simp only[Nat.add_zero]at this h;omega⟩
theorem TB (l:b5) (h:kQ l<=1048576):vp l:=by
 unfold kQ at h;have R:fW h7 l.bJ<=1048576:=by omega
 refine⟨by omega,Nat.le_trans (pI _ _) R,λx ae=>?_⟩;have hm:=sU (f:=h7) ae;have TC:h7 x<=1048576:=by omega
 unfold h7 at TC;exact⟨by omega,by omega,by omega,Ij _ (by omega),Ij _ (by omega)⟩
theorem Ck {α γ β:Type} {L:Nat->List γ->Int->Option β} (a:List α) (g:α->γ) (b:Nat) (E:List γ->Option β)
  (bt:∀m v,v.length<=b+a.length->L (m+1) v (a.length:Int)=E v)
  (R:∀i (h:i<a.length) m v,v.length<=b+i->L (m+1) v (i:Int)=L m (v++[g a[i]]) ((i+1:Nat):Int)) (s:List γ) (J:s.length<=b):
  cX (λm=>L m s 0)=E (s++a.map g):=by
 have key:∀i,i<=a.length->∀v m,v.length<=b+i->a.length-i<m->L m v (i:Int)=E (v++(a.drop i).map g):=by
  refine down a.length ?_ ?_
  .intro v m aE hm;obtain⟨m,rfl⟩:∃aD,m=aD+1:=⟨m-1,by omega⟩
   rw[bt m v aE,List.drop_of_length_le (Nat.le_refl _)];simp
  .intro i ay ih v m aE hm;obtain⟨m,rfl⟩:∃aD,m=aD+1:=⟨m-1,by omega⟩
   rw[R i ay m v aE,ih _ m (by simp only[List.length_append,List.length_cons,List.length_nil];omega) (by omega),drop_cons a i ay];simp only[List.map_cons,List.append_assoc,List.cons_append,List.nil_append]
 refine hc (a.length+1) λm hm=>?_;have:=key 0 (by omega) s m (by omega) (by omega);simpa using this
def setRow {α:Type} (a:List α) (g:α->α) (i:Nat):List α:=(a.take i).map g++a.drop i
theorem Cl {α:Type} (a:List α) (g:α->α) (i:Nat):(setRow a g i).length=a.length:=by
 simp only[setRow,List.length_append,List.length_map,List.length_take,List.length_drop];omega
theorem TD {α:Type} (a:List α) (g:α->α) (i:Nat) (h:i<a.length):ca (setRow a g i) (i:Int)=some a[i]:=by
 rw[g2 _ i (by rw[Cl];exact h)];congr 1;simp only[setRow];rw[List.getElem_append_right (by simp;omega)];simp[Nat.min_eq_left (Nat.le_of_lt h)]
theorem TE {α:Type} (a:List α) (g:α->α) (i:Nat) (h:i<a.length):(setRow a g i).set i (g a[i])=setRow a g (i+1):=by
 have e:((a.take i).map g).length=i:=by simp;omega
 simp only[setRow];rw[List.set_append_right i _ (by rw[e];omega),e,Nat.sub_self,drop_cons a i h,List.set_cons_zero,List.take_succ_eq_append_getElem h,List.map_append];simp
theorem TF {α:Type} (a:List α) (g:α->α):setRow a g 0=a:=by simp[setRow]
theorem TG {α:Type} (a:List α) (g:α->α):setRow a g a.length=a.map g:=by simp[setRow]
theorem TH {α β:Type} {L:Nat->List α->Int->Option β} (a:List α) (g:α->α) (E:List α->Option β)
  (bt:∀m v,v.length=a.length->L (m+1) v (a.length:Int)=E v)
  (R:∀i (h:i<a.length) m v,v.length=a.length->ca v (i:Int)=some a[i]->L (m+1) v (i:Int)=L m (v.set i (g a[i])) ((i+1:Nat):Int)):
  cX (λm=>L m a 0)=E (a.map g):=by
 have key:∀i,i<=a.length->∀m,a.length-i<m->L m (setRow a g i) (i:Int)=E (a.map g):=by
  refine down a.length ?_ ?_
  .intro m hm;obtain⟨m,rfl⟩:∃aD,m=aD+1:=⟨m-1,by omega⟩
   rw[bt m _ (Cl ..),TG]
  .intro i ay ih m hm;obtain⟨m,rfl⟩:∃aD,m=aD+1:=⟨m-1,by omega⟩
   rw[R i ay m _ (Cl ..) (TD a g i ay),TE a g i ay,ih m (by omega)]
 refine hc (a.length+1) λm hm=>?_;have:=key 0 (by omega) m (by omega);simpa [TF]using this
def h8:Vl->Vl->Option Vl
 |v::vs,b::bc=>if v<b then some ((v+1)::vs)else(h8 vs bc).map (0::·)
 |_,_=>none
def ly:Vl->Vl->Prop
 |[],[]=>True
 |v::vs,b::bc=>(0<=v/\v<=b)/\ly vs bc
 |_,_=>False
def je:Vl->Vl->Nat
 |v::vs,b::bc=>v.toNat+(b.toNat+1)*je vs bc
 |_,_=>0
def eI:Vl->Nat
 |[]=>1
 |b::bc=>(b.toNat+1)*eI bc
theorem rC:∀{vs bc:Vl},ly vs bc->vs.length=bc.length
 |[],[],_=>rfl
 |v::vs,b::bc,h=>by simp[rC h.2]
 |[],_::_,h=>h.elim
 |_::_,[],h=>h.elim
theorem sX:∀{vs bc:Vl},ly vs bc->match h8 vs bc with
  |some w=>ly w bc/\je w bc=je vs bc+1
  |none=>je vs bc+1=eI bc
 |[],[],_=>by simp[h8,je,eI]
 |[],_::_,h=>h.elim
 |_::_,[],h=>h.elim
 |v::vs,b::bc,h=>by
  obtain⟨⟨bt,U⟩,aa⟩:=h;simp only[h8];by_cases aE:v<b
  .rw[if_pos aE];exact⟨⟨⟨by omega,by omega⟩,aa⟩,by simp only[je];omega⟩
  .rw[if_neg aE];have e:v=b:=by omega
   subst e;have ih:=sX aa;cases ay:h8 vs bc with
   |none=>
    rw[ay]at ih;simp only[map_none,je,eI]at ih⊢;rw[<-ih,Nat.mul_add];omega
   |some w=>
    rw[ay]at ih;simp only[map_some]at ih⊢;refine⟨⟨⟨by omega,bt⟩,ih.1⟩,?_⟩;simp only[je,ih.2,Nat.mul_add,Int.toNat_zero];omega
theorem Ik {vs bc:Vl} (h:ly vs bc):je vs bc<eI bc:=by
 have:∀{vs bc:Vl},ly vs bc->je vs bc+1<=eI bc:=by
  intro vs;induction vs with
  |nil=>
   intro bc h;cases bc with
   |nil=>simp[je,eI]
   |cons b bc=>exact h.elim
  |cons v vs ih=>
   intro bc h;cases bc with
   |nil=>exact h.elim
   |cons b bc=>
    have aa:=ih h.2;have ax:(b.toNat+1)*(je vs bc+1)<=(b.toNat+1)*eI bc:=mul_le_mul_left _ aa;have aP:v.toNat<=b.toNat:=by have:=h.1;omega
    simp only[je,eI];rw[Nat.mul_add]at ax;omega
 exact this h
theorem xW:∀(bc:Vl),(∀b∈bc,0<=b)->ly (List.replicate bc.length 0) bc/\je (List.replicate bc.length 0) bc=0
 |[],_=>⟨trivial,rfl⟩
 |b::bc,h=>by
  obtain⟨U,aa⟩:=xW bc λx ae=>h x (by simp[ae]);rw[List.length_cons,List.replicate_succ];exact⟨⟨⟨Int.le_refl _,h b (by simp)⟩,U⟩,by simp[je,aa]⟩
theorem Il:∀(a b:Vl),eI (a++b)=eI a*eI b
 |[],b=>by simp[eI]
 |x::a,b=>by simp only[List.cons_append,eI,Il a b,Nat.mul_assoc]
theorem pS:∀(a:Vl),eI a.reverse=eI a
 |[]=>rfl
 |x::a=>by rw[List.reverse_cons,Il,pS a];simp only[eI];rw[Nat.mul_comm];simp
def pT (bc:Vl):Nat->Vl->List Vl
 |0,_=>[]
 |n+1,r=>r::(match h8 r bc with
  |some w=>pT bc n w
  |none=>[])
theorem Im:∀(n:Nat) (bc r:Vl),ly r bc->n+je r bc=eI bc->(pT bc n r).length=n
 |0,bc,r,h,a2=>rfl
 |n+1,bc,r,h,a2=>by
  have ay:=sX h;simp only[pT,List.length_cons];cases hw:h8 r bc with
  |none=>rw[hw]at ay;simp only at ay⊢;simp;omega
  |some w=>
   rw[hw]at ay;simp only at ay⊢;rw[Im n bc w ay.1 (by omega)]
def jU (r:Vl) (n k:Nat):Vl:=(r.drop (n-k)).reverse++List.replicate (n-k) 0
theorem TI {r:Vl} {n k:Nat} (aG:r.length=n) (ak:k<=n):(jU r n k).length=n:=by
 simp only[jU,List.length_append,List.length_reverse,List.length_drop,List.length_replicate];omega
theorem Io {r:Vl} {n k:Nat} (aG:r.length=n) (ak:k<n):ca (jU r n (k+1)) (k:Int)=some (r[n-(k+1)]'(by omega)):=by
 rw[g2 _ k (by rw[TI aG (by omega)];omega)];congr 1;unfold jU;rw[List.getElem_append_left (by simp;omega),List.getElem_reverse,List.getElem_drop];congr 1;simp only[List.length_drop];omega
theorem vr {r:Vl} {n k:Nat} (aG:r.length=n) (ak:k<n):r.drop (n-(k+1))=(r[n-(k+1)]'(by omega))::r.drop (n-k):=by
 rw[drop_cons r (n-(k+1)) (by omega)];congr 2;omega
theorem Cm {r:Vl} {n k:Nat} (aG:r.length=n) (ak:k<n) (y:Int):(jU r n (k+1)).set k y=(r.drop (n-k)).reverse++y::List.replicate (n-(k+1)) 0:=by
 unfold jU;rw[vr aG ak,List.reverse_cons,List.append_assoc,List.set_append_right k y (by simp;omega)];have:k-(r.drop (n-k)).reverse.length=0:=by simp;omega
 rw[this];simp
theorem Ip {r:Vl} {n k:Nat} (aG:r.length=n) (ak:k<n):(jU r n (k+1)).set k 0=jU r n k:=by
 rw[Cm aG ak];unfold jU;congr 1;rw[show n-k=(n-(k+1))+1 by omega,List.replicate_succ]
theorem xX (k:Nat) (h:k<=1000000):i64.wrap ((k:Int)-1)=(k:Int)-1:=fU _ (by omega)
theorem Iq {bc:Vl} {n k:Nat} (J:bc.length=n) (ak:k<n):ca bc.reverse (k:Int)=some (bc[n-(k+1)]'(by omega)):=by
 rw[g2 _ k (by simp;omega)];congr 1;rw[List.getElem_reverse];congr 1;omega
theorem Cn:∀{vs bc:Vl} (i:Nat) (h:ly vs bc) (aE:i<vs.length) (J:i<bc.length),0<=vs[i]/\vs[i]<=bc[i]
 |v::vs,b::bc,0,h,_,_=>h.1
 |v::vs,b::bc,i+1,h,aE,J=>by simpa using Cn i h.2 (by simpa using aE) (by simpa using J)
 |[],_,i,_,aE,_=>by simp at aE
 |_::_,[],i,h,_,_=>h.elim
theorem Ir {r bc:Vl} (h:ly r bc) (J:∀b∈bc,b<=7) (hl:bc.length<=1000):
  w5 r.reverse bc.reverse=some (match h8 r bc with
   |some w=>(true,w.reverse)
   |none=>(false,List.replicate bc.length 0)):=by
 have aG:=rC h;unfold w5;have key:∀k,k<=bc.length->∀m,k<m->sn bc.reverse m (jU r bc.length k) ((k:Int)-1)=some (match h8 (r.drop (bc.length-k)) (bc.drop (bc.length-k))with
   |some w=>(true,w.reverse++List.replicate (bc.length-k) 0)
   |none=>(false,List.replicate bc.length 0)):=by
  intro k;induction k with
  |zero=>
   intro _ m hm;obtain⟨m,rfl⟩:∃aD,m=aD+1:=⟨m-1,by omega⟩
   simp only[sn,AV];rw[show decide ((0:Int)<=((0:Nat):Int)-1)=false by decide,cond_false,Nat.sub_zero,List.drop_of_length_le (by omega)];simp[h8,jU,aG]
  |succ k ih=>
   intro ak m hm;obtain⟨m,rfl⟩:∃aD,m=aD+1:=⟨m-1,by omega⟩
   have ku:k<bc.length:=by omega
   have e:((k+1:Nat):Int)-1=(k:Int):=by omega
   simp only[sn,AV];rw[e,show decide ((0:Int)<=(k:Int))=true by simp,cond_true,Io aG ku,Iq rfl ku];simp only[bind_some,Int.toNat_natCast];rw[vr aG ku,vr rfl ku];have xY:=Cn (bc.length-(k+1)) h (by omega) (by omega);have bO:=J _ (List.getElem_mem (show bc.length-(k+1)<bc.length by omega));simp only[h8];by_cases da:r[bc.length-(k+1)]'(by omega)<bc[bc.length-(k+1)]'(by omega)
   .rw[decide_eq_true da,cond_true,if_pos da,fU _ (by omega),Cm aG ku];simp
   .rw[decide_eq_false da,cond_false,if_neg da,Ip aG ku,xX k (by omega),ih (by omega) m (by omega)];cases h8 (r.drop (bc.length-k)) (bc.drop (bc.length-k))with
    |none=>rfl
    |some w=>
     simp only[map_some,List.reverse_cons,List.append_assoc];rw[show bc.length-k=(bc.length-(k+1))+1 by omega,List.replicate_succ];rfl
 refine hc (bc.length+1) λm hm=>?_;have:=key bc.length (Nat.le_refl _) m (by omega);rw[Nat.sub_self]at this;simp only[List.drop_zero,List.replicate_zero,List.append_nil]at this;rw[List.length_reverse,aG,xX _ (by omega)];have bC:jU r bc.length bc.length=r.reverse:=by simp[jU]
 rw[bC]at this;exact this
def ph (P:Int) (v:Vl) (t:aW):aW:=cond ((t.Kind==1)&&decide (P<=t.Value)) ⟨0,v.getD (t.Value-P).toNat 0⟩ t
def jf (P:Int) (v:Vl) (e:Vw):Vw:=e.map (ph P v)
def kR (P:Int) (x:aN) (v:Vl):aN:=⟨[],jf P v x.Guard,x.Name,x.bG.map (jf P v),x.Next.map (jf P v)⟩
def pU (P:Int) (n:Nat) (e:Vw):Prop:=e.length<=1048576/\∀t∈e,t.Kind=1->P<=t.Value->t.Value-P<n
theorem TJ (e:Vw) (h:e.length<=1048576):w3 e=some e:=by
 unfold w3;rw[m3 (by omega) (by omega)];rfl
theorem TK {α:Type} (v:List α) (i:Nat) (x:α) (h:ca v (i:Int)=some x):v.set i x=v:=by
 have:=c7 h;rw[Int.toNat_natCast]at this;obtain⟨U,aa⟩:=List.getElem?_eq_some_iff.1 this;rw[<-aa];exact List.set_getElem_self U
theorem Is {P:Int} {v:Vl} {t:Int} (bf:0<=P/\P<=1000000) (U:P<=t) (aa:t-P<(v.length:Nat)) (hl:v.length<=1000000):ca v (i64.wrap (t-P))=some (v.getD (t-P).toNat 0):=by
 rw[fU _ (by omega)];obtain⟨i,ay⟩:∃i:Nat,t-P=(i:Int):=⟨(t-P).toNat,by omega⟩
 rw[ay];exact SV v i 0 (by omega)
theorem Co (e:Vw) (P:Int) (v:Vl) (bf:0<=P/\P<=1000000) (hl:v.length<=1000000) (h:pU P v.length e):uQ e P v=some (jf P v e):=by
 unfold uQ;rw[TJ e h.1,bind_some];refine TH (L:=q2 P v) e (ph P v) some (λm w hw=>?_) (λi ay m w hw bm=>?_)
 .simp only[q2,AS];rw[fV (by omega)];rfl
 .simp only[q2,AS,w4];rw[hF (by omega),bm,hU i e.length ay (by have:=h.1;omega)];simp only[cond_true,bind_some,ph,Int.toNat_natCast];by_cases ak:e[i].Kind=1/\P<=e[i].Value
  .have d:((e[i].Kind==1)&&decide (P<=e[i].Value))=true:=by simp[ak.1,ak.2]
   rw[d,cond_true,cond_true,Is bf ak.2 (h.2 _ (List.getElem_mem ay) ak.1 ak.2) hl];rfl
  .have d:((e[i].Kind==1)&&decide (P<=e[i].Value))=false:=by
    rw[Bool.and_eq_false_iff];by_cases U:e[i].Kind=1
    .exact .inr (by simp only[decide_eq_false_iff_not];exact λaa=>ak ⟨U,aa⟩)
    .exact .inl (by simpa using U)
   rw[d,cond_false,cond_false,TK w i _ bm]
theorem xZ (es:Vt) (P:Int) (v:Vl) (bf:0<=P/\P<=1000000) (hl:v.length<=1000000) (he:es.length<=1048576) (h:∀e∈es,pU P v.length e):uR es P v=some (es.map (jf P v)):=by
 unfold uR;have:=Ck (L:=sm es P v) es (jf P v) 0 some (λm w hw=>?_) (λi ay m w hw=>?_) [] (by simp)
 .rw[this];rfl
 .simp only[sm,AU];rw[fV (Nat.le_refl _)];rfl
 .simp only[sm,AU];rw[hF ay,g2 _ i ay,hU i _ ay (by omega),m3 (by omega) (by omega)];simp only[cond_true,bind_some];rw[Co _ P v bf hl (h _ (List.getElem_mem ay))];rfl
theorem It (e:Vw) (l:b5) (v:Vl) (bf:0<=l.a7/\l.a7<=1000000) (hl:v.length<=1000000) (h:pU l.a7 v.length e) (x:aN):
  uT x e l.a7 l.Start l.bJ v=some (jf l.a7 v e):=by
 unfold uT Bh;have:=Ck (L:=ou e l.a7 l.Start l.bJ v) e (ph l.a7 v) 0 some (λm w hw=>?_) (λi ay m w hw=>?_) [] (by simp)
 .rw[this];rfl
 .simp only[ou,Bg];rw[fV (Nat.le_refl _)];rfl
 .simp only[ou,Bg,ot,Bf];have he:=h.1;rw[hF ay,g2 _ i ay,hU i _ ay (by omega)];simp only[cond_true,bind_some,ph];have c5:∀x:aW,room 16 (w.length+[x].length)=some ():=λx=>m3 (by simp only[List.length_cons,List.length_nil];omega) (by simp only[List.length_cons,List.length_nil];omega);by_cases ak:e[i].Kind=1
  .by_cases aE:l.a7<=e[i].Value
   .have d1:decide (e[i].Value<l.a7)=false:=by simp;omega
    have d2:decide (l.a7<=e[i].Value)=true:=by simp[aE]
    rw[Is bf aE (h.2 _ (List.getElem_mem ay) ak aE) hl];simp only[ak,d1,d2,beq_self_eq_true,Bool.and_self,cond_true,cond_false,bind_some,Option.elim,List.isEmpty_cons,c5,Be]
   .have d1:decide (e[i].Value<l.a7)=true:=by simp;omega
    have d2:decide (l.a7<=e[i].Value)=false:=by simp[aE]
    simp only[ak,d1,d2,beq_self_eq_true,Bool.and_false,cond_true,cond_false,bind_some,Option.elim,c5]
  .have iH:(e[i].Kind==1)=false:=by simpa using ak
   simp only[iH,Bool.false_and,cond_false,c5,bind_some]
theorem Iu (es:Vt) (l:b5) (v:Vl) (bf:0<=l.a7/\l.a7<=1000000) (hl:v.length<=1000000) (he:es.length<=1048576) (h:∀e∈es,pU l.a7 v.length e) (x:aN):
  uU es l.a7 l.Start l.bJ v x=some (es.map (jf l.a7 v)):=by
 unfold uU;have:=Ck (L:=sx es x l.a7 l.Start l.bJ v) es (jf l.a7 v) 0 some (λm w hw=>?_) (λi ay m w hw=>?_) [] (by simp)
 .rw[this];rfl
 .simp only[sx,Bi];rw[fV (Nat.le_refl _)];rfl
 .simp only[sx,Bi];rw[hF ay,g2 _ i ay,hU i _ ay (by omega),m3 (by omega) (by omega)];simp only[cond_true,bind_some];rw[It _ l v bf hl (h _ (List.getElem_mem ay))];rfl
def x0 (P:Int) (n:Nat) (x:aN):Prop:=pU P n x.Guard/\(x.bG.length<=1048576/\∀e∈x.bG,pU P n e)/\x.Next.length<=1048576/\(∀e∈x.Next,pU P n e)/\x.aY.length<=1048576
theorem Cp (e:Vl) (h:e.length<=1048576):sw e=some e:=by
 unfold sw;rw[m3 (by omega) (by omega)];cases e with
 |nil=>simp[both]
 |cons x r=>rfl
theorem Iv (l:b5) (x:aN) (v:Vl) (bf:0<=l.a7/\l.a7<=1000000) (hl:v.length<=1000000) (h:x0 l.a7 v.length x) (a:Int) (b:Vl) (out:Vx) (bk:out.length<=1000000):
  xq v l.a7 [x] l.a7 l.Start l.bJ a b out=some (decide ((out++[kR l.a7 x v]).length<=60),a,b,out++[kR l.a7 x v]):=by
 obtain⟨U,aa,ax,aP,a9⟩:=h;unfold xq;have he:xp (b5.mk l.a7 [] [x]) l.a7 l.Start l.bJ v=some ⟨l.a7,[],[⟨x.aY,jf l.a7 v x.Guard,x.Name,x.bG.map (jf l.a7 v),x.Next.map (jf l.a7 v)⟩]⟩:=by
  unfold xp;rw[Cp [] (by simp)];simp only[bind_some];refine hc 3 λm hm=>?_;obtain⟨m,rfl⟩:∃aD,m=aD+2:=⟨m-2,by omega⟩
  simp only[xo,GF];have d0:decide ((0:Int)<(([x]:Vx).length:Int))=true:=rfl;have d1:decide (i64.wrap (0+1)<(([x]:Vx).length:Int))=false:=by rw[HO];rfl
  rw[d0,d1,xJ];simp only[cond_true,cond_false,bind_some];rw[Cp _ a9,It _ l v bf hl U,Iu _ l v bf hl aa.1 aa.2,Iu _ l v bf hl ax aP];simp only[bind_some];rw[m3 (by simp) (by simp)];rfl
 have ad:∀o:Vx,decide ((o.length:Int)<=60)=decide (o.length<=60):=λo=>by
  by_cases b2:o.length<=60
  .rw[decide_eq_true b2,decide_eq_true (by omega)]
  .rw[decide_eq_false b2,decide_eq_false (by omega)]
 rw[he];simp only[bind_some,xJ,List.set_cons_zero];rw[m3 (by omega) (by omega)];simp only[bind_some,kR,ad];rfl
end Go.nB
