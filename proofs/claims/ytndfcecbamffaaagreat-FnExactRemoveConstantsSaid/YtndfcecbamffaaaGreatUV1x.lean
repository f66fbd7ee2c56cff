/- Part of a proof that a law returns true for every input. No condition. -/
import Derived.Test.YtndfcecbamffaaaGreatUV0x
namespace Go.nc
open Option Nat Or
open Go Go.c3
def pk (p:Int) (s:afb):Int:=s.foldl (λp n=>IntKind.i64.wrap (p*IntKind.i64.wrap (n+1))) p
def ua (v:Int):Bool:=decide (v<=4096)
def pn (s:afb):Bool:=decide (s.length<=8)&&(s.all (λn=>hh n 1 7)&&ua (pk 1 s))
def sk:nq:=[116,97,117]
def ub (s:nq):Bool:=t_ s&& !(s==sk)
def mT (es:afj) (v:Int):Bool:=es.all λe=>hZ e v 60
def oB (x:bc) (p:Int):Bool:=
 pn x.br&&(hZ x.Guard (p+x.br.length) 60&&((x.Next.length:Int)==p&&((if x.Name=sk then decide (x.bD.length=0)else ub x.Name&&decide (x.bD.length<=2))&&
  (mT x.bD (p+x.br.length)&&mT x.Next (p+x.br.length)))))
def rl (s:afb) (p:Int):Bool:=(s.length:Int)==p&&s.all (λn=>hh n 0 63)
def nJ (l:bg):Bool:=hh l.bz 0 21&&(rl l.Start l.bz&&(decide (l.bu.length<=60)&&l.bu.all λx=>oB x l.bz))
theorem Oj (p:Int):pk p []=p:=rfl
theorem Ok (p n:Int) (s:afb):pk p (n::s)=pk (IntKind.i64.wrap (p*IntKind.i64.wrap (n+1))) s:=rfl
theorem y6 (n dI aC:Int):(decide (dI<=n)&&decide (n<=aC))=hh n dI aC:=rfl
theorem Ol:∀(s:afb) (p:Int),s.all (λn=>hh n 1 7)=true->1<=p->p*8^s.length<=1099511627776->1<=pk p s
 |[],p,_,h,_=>h
 |n::s,p,b8,h,U=>by
  simp only[List.all_cons,Bool.and_eq_true,hh,decide_eq_true_eq]at b8;obtain⟨⟨ae,af⟩,aF⟩:=b8;have aT:IntKind.i64.wrap (n+1)=n+1:=h_ _ (by omega);have abY:(1:Int)<=8^s.length:=by
   have:(0:Int)<8^s.length:=Int.pow_pos (by decide);omega
  have Ax:p*8*8^s.length<=1099511627776:=by
   have:p*8*8^s.length=p*8^(n::s).length:=by rw[List.length_cons,Int.pow_succ,Int.mul_assoc,Int.mul_comm 8]
   rw[this];exact U
  have hle:p*(n+1)<=p*8:=Int.mul_le_mul_of_nonneg_left (by omega) (by omega);have ae0:p*8*1<=p*8*8^s.length:=Int.mul_le_mul_of_nonneg_left abY (by omega);have rF:p*1<=p*(n+1):=Int.mul_le_mul_of_nonneg_left (by omega) (by omega);have a3:IntKind.i64.wrap (p*(n+1))=p*(n+1):=h_ _ (by omega);simp only[pk,List.foldl_cons,aT,a3];refine Ol s (p*(n+1)) (by simpa [hh]using aF) (by omega) ?_;exact Int.le_trans (Int.mul_le_mul_of_nonneg_right hle (by omega)) Ax
def Ch (v:Int) (s:afb):Int:=cond (s.all λn=>hh n 1 7) (cond (ua (pk v s)) (pk v s) 0) 0
theorem abZ (v:Int):decide (4096<v)= !ua v:=by
 unfold ua;by_cases h:v<=4096
 .have:¬4096<v:=by omega
  simp[h,this]
 .have:4096<v:=by omega
  simp[h,this]
theorem ab0 (s:afb) (h:s.length<=1048576):∃n,AN s=some n/\(n==0)= !pn s:=by
 unfold AN;by_cases er:s.length<=8
 .have d:decide ((8:Int)<(s.length:Int))=false:=by simp only[decide_eq_false_iff_not];omega
  rw[d,cond_false];have key:∀i,i<=s.length->∀(v:Int) m,s.length-i<m->u6 s m v (i:Int)=some (Ch v (s.drop i)):=by
   refine down s.length ?_ ?_
   .intro v m hm;obtain⟨m,rfl⟩:∃j,m=j+1:=⟨m-1,by omega⟩
    simp only[u6,E8];rw[ey (Nat.le_refl _),List.drop_of_length_le (Nat.le_refl _),abZ];simp only[Ch,List.all_nil,cond_true,cond_false,Oj];cases ua v<;>rfl
   .intro i aC ih v m hm;obtain⟨m,rfl⟩:∃j,m=j+1:=⟨m-1,by omega⟩
    simp only[u6,E8,o7];rw[fj aC,fA _ i aC,eE i _ aC (by omega),drop_cons s i aC];simp only[cond_true,bind_some];rw[ih _ m (by omega)];simp only[y6,Ch,List.all_cons,Ok];cases hh s[i] 1 7
    .rfl
    .rfl
  refine⟨_,gQ (s.length+1) λm hm=>by have:=key 0 (by omega) 1 m (by omega);simpa using this,?_⟩;unfold pn Ch;have d8:decide (s.length<=8)=true:=by simpa using er
  rw[d8,Bool.true_and];cases b8:s.all (λn=>hh n 1 7)
  .rfl
  .have au:=Ol s 1 b8 (by omega) (by
    have:∀k:Nat,k<=8->(8:Int)^k<=16777216:=by decide
    have:=this s.length er;omega)
   cases hw:ua (pk 1 s)
   .rfl
   .have:(pk 1 s==0)=false:=by simp;omega
    simpa using this
 .have d:decide ((8:Int)<(s.length:Int))=true:=by simp only[decide_eq_true_eq];omega
  rw[d,cond_true];refine⟨0,rfl,?_⟩;unfold pn;have d8:decide (s.length<=8)=false:=by simpa using er
  rw[d8];rfl
theorem ab1 (x:bc) (h:x.br.length<=1048576):A7 x=some (pn x.br):=by
 unfold A7;have key:∀i,i<=x.br.length->∀(v:Int) m,x.br.length-i<m->vt x m v (i:Int)=some ((x.br.drop i).all (λn=>hh n 1 7)&&(decide (x.br.length<=8)&&ua (pk v (x.br.drop i)))):=by
  refine down x.br.length ?_ ?_
  .intro v m hm;obtain⟨m,rfl⟩:∃j,m=j+1:=⟨m-1,by omega⟩
   simp only[vt,Fy];rw[ey (Nat.le_refl _),List.drop_of_length_le (Nat.le_refl _)];have:decide ((x.br.length:Int)<=8)=decide (x.br.length<=8):=by
    by_cases h:x.br.length<=8
    .have bB:(x.br.length:Int)<=8:=by omega
     simp[h,bB]
    .have bB:¬(x.br.length:Int)<=8:=by omega
     simp[h,bB]
   rw[this];simp only[cond_false,List.all_nil,Bool.true_and,Oj];rfl
  .intro i aC ih v m hm;obtain⟨m,rfl⟩:∃j,m=j+1:=⟨m-1,by omega⟩
   simp only[vt,Fy,ni];rw[fj aC,fA _ i aC,eE i _ aC (by omega),drop_cons x.br i aC];simp only[cond_true,bind_some,List.all_cons];rw[ih _ m (by omega)];simp only[y6,Ok];cases hh x.br[i] 1 7<;>simp
 refine gQ (x.br.length+1) λm hm=>?_;have:=key 0 (by omega) 1 m (by omega);rw[List.drop_zero]at this;refine this.trans ?_;unfold pn;cases x.br.all (λn=>hh n 1 7)<;>simp
theorem Om (es:afj) (v:Int) (aH: -1000000<=v/\v<=1000000) (h:es.length<=1048576) (he:∀e∈es,e.length<=1048576):tr es v=some (mT es v):=by
 unfold tr mT;refine Cf es (λe=>hZ e v 60) (λm=>?_) λi aC m=>?_
 .simp only[x4,E_];rw[ey (Nat.le_refl _)];rfl
 .simp only[x4,E_];rw[fj aC,fA _ i aC,eE i _ aC (by omega)];simp only[cond_true,bind_some,Oi _ v 60 aH (he _ (List.getElem_mem aC))];cases hZ es[i] v 60<;>rfl
theorem ab2 (s:nq):AQ s=some (ub s):=by
 unfold AQ;rw[abV];rfl
theorem ab3 (s:nq) (aa:s.length<=140737488355328):yd s=some (ub s):=by
 unfold yd;rw[abW s aa];rfl
def Hy (e:afj):Prop:=e.length<=1048576/\∀t∈e,t.length<=1048576
def Ci (x:bc):Prop:=x.br.length<=1048576/\x.Guard.length<=1048576/\x.Name.length<=1048576/\Hy x.bD/\Hy x.Next
def rm (l:bg):Prop:=l.Start.length<=1048576/\l.bu.length<=1048576/\∀x∈l.bu,Ci x
theorem On {s:nq} (h:s=sk):(s==([116,97,117]:nq))=true:=by subst h;rfl
theorem Oo {s:nq} (h:s≠sk):(s==([116,97,117]:nq))=false:=by simpa [sk]using h
theorem ab4 (x:bc) (p:Int) (au:0<=p/\p<=21) (al:Ci x):AR x p=some (oB x p):=by
 obtain⟨ae,af,aF,a1,bt⟩:=al;unfold AR oB;obtain⟨n,aT,a3⟩:=ab0 x.br ae;rw[aT];simp only[bind_some,a3];cases aa:pn x.br
 .rfl
 .have er:x.br.length<=8:=by simp only[pn,Bool.and_eq_true,decide_eq_true_eq]at aa;exact aa.1
  have hw:IntKind.i64.wrap (p+(x.br.length:Int))=p+(x.br.length:Int):=h_ (p+(x.br.length:Int)) ⟨by omega,by omega⟩;simp only[hw,Oi x.Guard (p+(x.br.length:Int)) 60 (by omega) af,Om x.bD (p+(x.br.length:Int)) (by omega) a1.1 a1.2,Om x.Next (p+(x.br.length:Int)) (by omega) bt.1 bt.2,ab2,bind_some,Bool.not_true,cond_false,Bool.true_and];cases hZ x.Guard (p+(x.br.length:Int)) 60
  .rfl
  .cases a4:(x.Next.length:Int)==p
   .have:((x.Next.length:Int) !=p)=true:=by simp only[bne,a4];rfl
    rw[this];rfl
   .have:((x.Next.length:Int) !=p)=false:=by simp only[bne,a4];rfl
    rw[this];simp only[Bool.not_true,Bool.or_self,cond_false,Bool.true_and];by_cases aP:x.Name=sk
    .rw[On aP,if_pos aP];simp only[cond_true,Bool.not_true,cond_false];by_cases b8:x.bD.length=0
     .have d1:decide ((0:Int)<(x.bD.length:Int))=false:=by simp only[decide_eq_false_iff_not];omega
      have d2:decide ((2:Int)<(x.bD.length:Int))=false:=by simp only[decide_eq_false_iff_not];omega
      have d3:decide (x.bD.length=0)=true:=by simpa using b8
      rw[d1,d2,d3];cases mT x.bD (p+(x.br.length:Int))<;>cases mT x.Next (p+(x.br.length:Int))<;>rfl
     .have d1:decide ((0:Int)<(x.bD.length:Int))=true:=by simp only[decide_eq_true_eq];omega
      have d3:decide (x.bD.length=0)=false:=by simpa using b8
      rw[d1,d3];rfl
    .rw[Oo aP,if_neg aP];simp only[Bool.not_false,cond_true,cond_false];cases ub x.Name
     .rfl
     .by_cases b8:x.bD.length<=2
      .have d2:decide ((2:Int)<(x.bD.length:Int))=false:=by simp only[decide_eq_false_iff_not];omega
       have d3:decide (x.bD.length<=2)=true:=by simpa using b8
       rw[d2,d3];cases mT x.bD (p+(x.br.length:Int))<;>cases mT x.Next (p+(x.br.length:Int))<;>rfl
      .have d2:decide ((2:Int)<(x.bD.length:Int))=true:=by simp only[decide_eq_true_eq];omega
       have d3:decide (x.bD.length<=2)=false:=by simpa using b8
       rw[d2,d3];rfl
theorem ab5 (s:afb) (p:Int) (h:s.length<=1048576):AM s p=some (rl s p):=by
 unfold AM rl;have e:AL s=some (s.all λn=>hh n 0 63):=by
  unfold AL;refine Cf s (λn=>hh n 0 63) (λm=>?_) λi aC m=>?_
  .simp only[x1,E7];rw[ey (Nat.le_refl _)];rfl
  .simp only[x1,E7,o7];rw[fj aC,fA _ i aC,eE i _ aC (by omega)];simp only[cond_true,bind_some,y6];cases hh s[i] 0 63<;>rfl
 rw[e];cases(s.length:Int)==p<;>rfl
theorem ab6 (l:bg) (h:rm l):AS l=some (nJ l):=by
 unfold AS nJ o7;simp only[bind_some,y6];rw[ab5 _ _ h.1];simp only[bind_some];cases au:hh l.bz 0 21
 .rfl
 .cases rl l.Start l.bz
  .rfl
  .simp only[Bool.not_true,cond_false,Bool.false_or,Bool.true_and];have dJ:0<=l.bz/\l.bz<=21:=by simpa [hh]using au
   by_cases y7:l.bu.length<=60
   .have d1:decide ((60:Int)<(l.bu.length:Int))=false:=by simp only[decide_eq_false_iff_not];omega
    have d2:decide (l.bu.length<=60)=true:=by simpa using y7
    rw[d1,d2,cond_false,Bool.true_and];refine Cf l.bu (λx=>oB x l.bz) (λm=>?_) λi aC m=>?_
    .simp only[x7,Fe];rw[ey (Nat.le_refl _)];rfl
    .simp only[x7,Fe];rw[fj aC,fA _ i aC,eE i _ aC (by omega)];simp only[cond_true,bind_some,ab4 _ _ dJ (h.2.2 _ (List.getElem_mem aC))];cases oB l.bu[i] l.bz<;>rfl
   .have d1:decide ((60:Int)<(l.bu.length:Int))=true:=by simp only[decide_eq_true_eq];omega
    have d2:decide (l.bu.length<=60)=false:=by simpa using y7
    rw[d1,d2];rfl
def sl {α:Type} (ls:List (List α)):Nat:=gZ List.length ls
theorem ab7 (n:Int) (bo:0<=n) (h:n<=1099511627776):Ba n=some ():=by
 unfold Ba FA A_;have fE:IntKind.i64.wrap 0=0:=h_ 0 (by omega);have aT:IntKind.i64.wrap (n-0)=n:=by rw[h_ (n-0) (by omega)];omega
 have d:decide (n<0)=false:=by simp only[decide_eq_false_iff_not];omega
 rw[d,fE,aT,show nN 24 n=some () by unfold nN;rw[if_pos ⟨by omega,by omega,by omega⟩]];cases decide (0<n)<;>rfl
theorem ab8 (ls:List afj) (h:ls.length<=1048576) (aa:sl ls<=1099511627776):Bc ls=some ls.flatten:=by
 have FD:cA (λn=>tw ls n [] 0)=some ls.flatten:=by
  have key:∀i,i<=ls.length->∀(v:afj) m,v.length+sl (ls.drop i)<=1099511627776->ls.length-i<m->tw ls m v (i:Int)=some (v++(ls.drop i).flatten):=by
   refine down ls.length ?_ ?_
   .intro v m _ hm;obtain⟨m,rfl⟩:∃j,m=j+1:=⟨m-1,by omega⟩
    simp only[tw,FC];rw[ey (Nat.le_refl _),List.drop_of_length_le (Nat.le_refl _)];simp
   .intro i aC ih v m aH hm;obtain⟨m,rfl⟩:∃j,m=j+1:=⟨m-1,by omega⟩
    rw[drop_cons ls i aC]at aH⊢;simp only[sl,gZ]at aH;simp only[tw,FC];rw[fj aC,fA _ i aC,eE i _ aC (by omega)];simp only[cond_true,bind_some];rw[iy (by omega) (by omega)];simp only[bind_some];rw[ih _ m (by simp only[List.length_append,sl];omega) (by omega)];simp only[List.flatten_cons,List.append_assoc]
  refine gQ (ls.length+1) λm hm=>?_;have:=key 0 (by omega) [] m (by simpa using aa) (by omega);simpa using this
 unfold Bc;have key:∀i,i<=ls.length->∀(v:Int) m,0<=v->v+sl (ls.drop i)<=1099511627776->ls.length-i<m->tx ls m v (i:Int)=some ls.flatten:=by
  refine down ls.length ?_ ?_
  .intro v m bo aH hm;obtain⟨m,rfl⟩:∃j,m=j+1:=⟨m-1,by omega⟩
   simp only[tx,FE];rw[ey (Nat.le_refl _),ab7 v bo (by omega)];simp only[cond_false,bind_some];exact FD
  .intro i aC ih v m bo aH hm;obtain⟨m,rfl⟩:∃j,m=j+1:=⟨m-1,by omega⟩
   rw[drop_cons ls i aC]at aH;simp only[sl,gZ]at aH;simp only[tx,FE,FB];rw[fj aC,fA _ i aC,eE i _ aC (by omega)];simp only[cond_true,bind_some];have e:IntKind.i64.wrap (v+(ls[i].length:Int))=v+(ls[i].length:Int):=h_ (v+(ls[i].length:Int)) ⟨by omega,by omega⟩;have d:decide (v+(ls[i].length:Int)<0)=false:=by simp only[decide_eq_false_iff_not];omega
   rw[e,d,cond_false];exact ih _ m (by omega) (by simp only[sl];omega) (by omega)
 refine gQ (ls.length+1) λm hm=>?_;exact key 0 (by omega) 0 m (by omega) (by rw[List.drop_zero];omega) (by omega)
theorem ab9 (x:bc) (al:Ci x):vw x=some (x.Guard::(x.bD++x.Next)):=by
 unfold vw;have a1:=al.2.2.2.1.1;have bt:=al.2.2.2.2.1;rw[ab8 _ (by simp) (by simp only[sl,gZ,List.length_cons,List.length_nil];omega)];simp
theorem ab_ (x:bc) (p:Int) (au:0<=p/\p<=21) (er:x.br.length<=8) (es:afj) (h:es.length<=1099511627776) (he:∀e∈es,e.length<=1048576):
  tz es p x=some (!mT es (p+x.br.length)):=by
 unfold tz FG;rw[wk (f:=λe=>Bg e p x) es (λe=> !hZ e (p+x.br.length) 60) (λm i=>by simp only[Bh,Mg]) (λe hm=>by
  unfold Bg;have hw:IntKind.i64.wrap (p+(x.br.length:Int))=p+(x.br.length:Int):=h_ (p+(x.br.length:Int)) ⟨by omega,by omega⟩;rw[hw,abU e _ 60 (by omega) (by omega) (he e hm)];rfl) h]
 simp only[bind_some,wj,Cg];rfl
theorem aca (x:bc) (p:Int) (au:0<=p/\p<=21) (al:Ci x):Bi x p=some (oB x p):=by
 have lh:=al;obtain⟨ae,af,aF,a1,bt⟩:=al;unfold Bi oB;rw[ab1 x ae];simp only[bind_some];cases aa:pn x.br
 .rfl
 .have er:x.br.length<=8:=by simp only[pn,Bool.and_eq_true,decide_eq_true_eq]at aa;exact aa.1
  have DV:tz (x.Guard::(x.bD++x.Next)) p x=some (!(hZ x.Guard (p+x.br.length) 60&&(mT x.bD (p+x.br.length)&&mT x.Next (p+x.br.length)))):=by
   have ae1:=a1.1;have ae2:=bt.1;rw[ab_ x p au er _ (by simp only[List.length_cons,List.length_append];omega) (λe he=>by
    rcases List.mem_cons.1 he with rfl|he
    .exact af
    .rcases List.mem_append.1 he with he|he
     .exact a1.2 e he
     .exact bt.2 e he)]
   simp only[mT,List.all_cons,List.all_append]
  rw[ab9 x lh,ab3 _ (by omega)];simp only[bind_some,DV,Bool.not_true,Bool.false_or,Bool.true_and,Bool.not_not];cases a4:(x.Next.length:Int)==p
  .have:((x.Next.length:Int) !=p)=true:=by simp only[bne,a4];rfl
   rw[this];cases hZ x.Guard (p+(x.br.length:Int)) 60<;>rfl
  .have:((x.Next.length:Int) !=p)=false:=by simp only[bne,a4];rfl
   rw[this];simp only[cond_false,Bool.true_and];by_cases aP:x.Name=sk
   .rw[On aP,if_pos aP];simp only[cond_true,Bool.not_true,cond_false];by_cases b8:x.bD.length=0
    .have d1:decide ((0:Int)<(x.bD.length:Int))=false:=by simp only[decide_eq_false_iff_not];omega
     have d3:decide (x.bD.length=0)=true:=by simpa using b8
     rw[d1,d3];simp
    .have d1:decide ((0:Int)<(x.bD.length:Int))=true:=by simp only[decide_eq_true_eq];omega
     have d3:decide (x.bD.length=0)=false:=by simpa using b8
     rw[d1,d3];cases hZ x.Guard (p+(x.br.length:Int)) 60<;>rfl
   .rw[Oo aP,if_neg aP];simp only[Bool.not_false,cond_true,cond_false];by_cases b8:x.bD.length<=2
    .have d2:decide ((2:Int)<(x.bD.length:Int))=false:=by simp only[decide_eq_false_iff_not];omega
     have d3:decide (x.bD.length<=2)=true:=by simpa using b8
     rw[d2,d3];cases decide ((0:Int)<(x.bD.length:Int))<;>cases ub x.Name<;>cases hZ x.Guard (p+(x.br.length:Int)) 60<;>simp
    .have d1:decide ((0:Int)<(x.bD.length:Int))=true:=by simp only[decide_eq_true_eq];omega
     have d2:decide ((2:Int)<(x.bD.length:Int))=true:=by simp only[decide_eq_true_eq];omega
     have d3:decide (x.bD.length<=2)=false:=by simpa using b8
     rw[d1,d2,d3];cases ub x.Name<;>cases hZ x.Guard (p+(x.br.length:Int)) 60<;>rfl
theorem acb (l:bg) (s:afb) (h:s.length<=1048576):A6 l s=some (rl s l.bz):=by
 unfold A6 Fx Fw Fv;rw[wk (f:=Fu) s (λn=> !hh n 0 63) (λm i=>by simp only[A5,Mf]) (λn _=>rfl) (by omega)];simp only[bind_some,wj,Cg,Bool.not_not];unfold rl;cases(s.length:Int)==l.bz<;>rfl
theorem acd (l:bg) (h:rm l):Bl l=some (nJ l):=by
 unfold Bl nJ ni;simp only[bind_some,y6];rw[acb _ _ h.1];simp only[bind_some];cases au:hh l.bz 0 21
 .rfl
 .cases rl l.Start l.bz
  .rfl
  .simp only[Bool.not_true,cond_false,Bool.false_or,Bool.true_and];have dJ:0<=l.bz/\l.bz<=21:=by simpa [hh]using au
   by_cases y7:l.bu.length<=60
   .have d1:decide ((60:Int)<(l.bu.length:Int))=false:=by simp only[decide_eq_false_iff_not];omega
    have d2:decide (l.bu.length<=60)=true:=by simpa using y7
    rw[d1,d2,cond_false,Bool.true_and];unfold FI FH;rw[wk (f:=λx=>Bj x l) l.bu (λx=> !oB x l.bz) (λm i=>by simp only[Bk,Mh]) (λx al=>by
     unfold Bj;rw[aca x _ dJ (h.2.2 x al)];rfl) (by omega)]
    simp only[bind_some,wj,Cg,Bool.not_not]
   .have d1:decide ((60:Int)<(l.bu.length:Int))=true:=by simp only[decide_eq_true_eq];omega
    have d2:decide (l.bu.length<=60)=false:=by simpa using y7
    rw[d1,d2];rfl
theorem Oq (es:afj) (h:g7 (λx:List aD=>x.length+0) es<=1048576):Hy es:=
 ⟨Nat.le_trans (sc _ _) h,λt aP=>by
  have:=wh (f:=λx:List aD=>x.length+0) aP;simp only[Nat.add_zero]at this h;omega⟩
theorem ace (l:bg) (h:me l<=1048576):rm l:=by
 unfold me at h;have aa:g7 jx l.bu<=1048576:=by omega
 refine⟨by omega,Nat.le_trans (sc _ _) aa,λx al=>?_⟩;have hm:=wh (f:=jx) al;have acf:jx x<=1048576:=by omega
 unfold jx at acf;exact⟨by omega,by omega,by omega,Oq _ (by omega),Oq _ (by omega)⟩
theorem po {α γ β:Type} {L:Nat->List γ->Int->Option β} (a:List α) (g:α->γ) (b:Nat) (E:List γ->Option β)
  (bo:∀m v,v.length<=b+a.length->L (m+1) v (a.length:Int)=E v)
  (aa:∀i (h:i<a.length) m v,v.length<=b+i->L (m+1) v (i:Int)=L m (v++[g a[i]]) ((i+1:Nat):Int)) (s:List γ) (U:s.length<=b):
  cA (λm=>L m s 0)=E (s++a.map g):=by
 have key:∀i,i<=a.length->∀v m,v.length<=b+i->a.length-i<m->L m v (i:Int)=E (v++(a.drop i).map g):=by
  refine down a.length ?_ ?_
  .intro v m aH hm;obtain⟨m,rfl⟩:∃j,m=j+1:=⟨m-1,by omega⟩
   rw[bo m v aH,List.drop_of_length_le (Nat.le_refl _)];simp
  .intro i aC ih v m aH hm;obtain⟨m,rfl⟩:∃j,m=j+1:=⟨m-1,by omega⟩
   rw[aa i aC m v aH,ih _ m (by simp only[List.length_append,List.length_cons,List.length_nil];omega) (by omega),drop_cons a i aC];simp only[List.map_cons,List.append_assoc,List.cons_append,List.nil_append]
 refine gQ (a.length+1) λm hm=>?_;have:=key 0 (by omega) s m (by omega) (by omega);simpa using this
def setRow {α:Type} (a:List α) (g:α->α) (i:Nat):List α:=(a.take i).map g++a.drop i
theorem Hz {α:Type} (a:List α) (g:α->α) (i:Nat):(setRow a g i).length=a.length:=by
 simp only[setRow,List.length_append,List.length_map,List.length_take,List.length_drop];omega
theorem acg {α:Type} (a:List α) (g:α->α) (i:Nat) (h:i<a.length):bG (setRow a g i) (i:Int)=some a[i]:=by
 rw[fA _ i (by rw[Hz];exact h)];congr 1;simp only[setRow];rw[List.getElem_append_right (by simp;omega)];simp[Nat.min_eq_left (Nat.le_of_lt h)]
theorem ach {α:Type} (a:List α) (g:α->α) (i:Nat) (h:i<a.length):(setRow a g i).set i (g a[i])=setRow a g (i+1):=by
 have e:((a.take i).map g).length=i:=by simp;omega
 simp only[setRow];rw[List.set_append_right i _ (by rw[e];omega),e,Nat.sub_self,drop_cons a i h,List.set_cons_zero,List.take_succ_eq_append_getElem h,List.map_append];simp
theorem aci {α:Type} (a:List α) (g:α->α):setRow a g 0=a:=by simp[setRow]
theorem acj {α:Type} (a:List α) (g:α->α):setRow a g a.length=a.map g:=by simp[setRow]
theorem Cj {α β:Type} {L:Nat->List α->Int->Option β} (a:List α) (g:α->α) (E:List α->Option β)
  (bo:∀m v,v.length=a.length->L (m+1) v (a.length:Int)=E v)
  (aa:∀i (h:i<a.length) m v,v.length=a.length->bG v (i:Int)=some a[i]->L (m+1) v (i:Int)=L m (v.set i (g a[i])) ((i+1:Nat):Int)):
  cA (λm=>L m a 0)=E (a.map g):=by
 have key:∀i,i<=a.length->∀m,a.length-i<m->L m (setRow a g i) (i:Int)=E (a.map g):=by
  refine down a.length ?_ ?_
  .intro m hm;obtain⟨m,rfl⟩:∃j,m=j+1:=⟨m-1,by omega⟩
   rw[bo m _ (Hz ..),acj]
  .intro i aC ih m hm;obtain⟨m,rfl⟩:∃j,m=j+1:=⟨m-1,by omega⟩
   rw[aa i aC m _ (Hz ..) (acg a g i aC),ach a g i aC,ih m (by omega)]
 refine gQ (a.length+1) λm hm=>?_;have:=key 0 (by omega) m (by omega);simpa [aci]using this
def y8 (S:Int->Bool) (st:afb) (t:aD):aD:=cond ((t.Kind==1)&&S t.Value) ⟨0,st.getD t.Value.toNat 0⟩ t
def hI (S:Int->Bool) (st:afb) (e:afm):afm:=e.map (y8 S st)
def y9 (M:List Bool) (t:aD):aD:=cond (t.Kind==1) ⟨t.Kind,IntKind.i64.wrap (t.Value-(((M.take t.Value.toNat).filter id).length:Nat))⟩ t
def lE (M:List Bool) (e:afm):afm:=e.map (y9 M)
theorem Ot (e:afm) (h:e.length<=1048576):qX e=some e:=by
 unfold qX;rw[iy (by omega) (by omega)];rfl
theorem ack (e:afb) (h:e.length<=1048576):A0 e=some e:=by
 unfold A0;rw[iy (by omega) (by omega)];rfl
theorem Ck {α:Type} (v:List α) (i:Nat) (x:α) (h:bG v (i:Int)=some x):v.set i x=v:=by
 have:=cB h;rw[Int.toNat_natCast]at this;obtain⟨ae,af⟩:=List.getElem?_eq_some_iff.1 this;rw[<-af];exact List.set_getElem_self ae
theorem y_ {α:Type} {v:List α} {t:Int} (d:α) (ae:0<=t) (af:t<(v.length:Nat)):bG v t=some (v.getD t.toNat d):=by
 obtain⟨i,aC⟩:∃i:Nat,t=(i:Int):=⟨t.toNat,by omega⟩
 rw[aC];exact sa v i d (by omega)
theorem acm {S:Int->Bool} (e:afm) (M:List Bool) (st:afb) (hl:st.length=M.length) (he:e.length<=1048576) (fH:M.length<=1000) (aH:∀t∈e,t.Kind=1->0<=t.Value) (bs:∀v,0<=v->S v=M.getD v.toNat false):
  p3 e M st=some (hI S st e):=by
 unfold p3;rw[Ot e he,bind_some];refine Cj (L:=p2 M st) e (y8 S st) some (λm w hw=>?_) (λi aC m w hw bl=>?_)
 .simp only[p2,x8];rw[ey (by omega)];rfl
 .simp only[p2,x8,ts];rw[fj (by omega),bl,eE i e.length aC (by omega)];simp only[cond_true,bind_some,y8,Int.toNat_natCast];by_cases aj:e[i].Kind=1
  .have bo:=aH _ (List.getElem_mem aC) aj;have jk:(e[i].Kind==1)=true:=by simp[aj]
   rw[jk,cond_true,Bool.true_and,bs _ bo];by_cases c5:e[i].Value<(M.length:Int)
   .rw[decide_eq_true c5,cond_true,y_ false bo c5,bind_some];cases M.getD e[i].Value.toNat false
    .rw[cond_false,cond_false,Ck w i _ bl]
    .rw[cond_true,cond_true,y_ 0 bo (by omega),bind_some]
   .rw[decide_eq_false c5,cond_false];have:M.getD e[i].Value.toNat false=false:=by
     rw[List.getD_eq_getElem?_getD,List.getElem?_eq_none (by omega)];rfl
    rw[this,cond_false,Ck w i _ bl]
  .have jk:(e[i].Kind==1)=false:=by simpa using aj
   rw[jk,cond_false,Bool.false_and,cond_false,Ck w i _ bl]
theorem acn (e:afm) (M:List Bool) (he:e.length<=1048576) (fH:M.length<=1000) (aH:∀t∈e,t.Kind=1->0<=t.Value):tv e M=some (lE M e):=by
 unfold tv;rw[Ot e he,bind_some];refine Cj (L:=oh M) e (y9 M) some (λm w hw=>?_) (λi aC m w hw bl=>?_)
 .simp only[oh,Fo];rw[ey (by omega)];rfl
 .simp only[oh,Fo];rw[fj (by omega),bl];simp only[cond_true,bind_some,y9,Int.toNat_natCast];by_cases aj:e[i].Kind=1
  .have bo:=aH _ (List.getElem_mem aC) aj;have jk:(e[i].Kind !=1)=false:=by simp[aj]
   have HA:(e[i].Kind==1)=true:=by simp[aj]
   rw[jk,HA,cond_false,cond_true];have key:∀j,j<=min M.length e[i].Value.toNat->∀ez,min M.length e[i].Value.toNat-j<ez->
     tu (oh M m) M ez w (i:Int) (((M.take j).filter id).length:Nat) (j:Int)=oh M m (w.set i ⟨e[i].Kind,IntKind.i64.wrap (e[i].Value-(((M.take e[i].Value.toNat).filter id).length:Nat))⟩) ((i+1:Nat):Int):=by
    refine down (min M.length e[i].Value.toNat) ?_ ?_
    .intro ez hm;obtain⟨ez,rfl⟩:∃j,ez=j+1:=⟨ez-1,by omega⟩
     simp only[tu,Fm,vi];rw[bl,eE i e.length aC (by omega)];simp only[bind_some,Int.toNat_natCast];by_cases c5:M.length<=e[i].Value.toNat
     .rw[Nat.min_eq_left c5,ey (Nat.le_refl _),cond_false,List.take_of_length_le (Nat.le_refl _),List.take_of_length_le c5]
     .rw[Nat.min_eq_right (by omega),fj (by omega),cond_true];have d:decide (((e[i].Value.toNat:Nat):Int)<e[i].Value)=false:=by simp only[decide_eq_false_iff_not];omega
      rw[d,cond_false]
    .intro j bZ ih ez hm;obtain⟨ez,rfl⟩:∃j,ez=j+1:=⟨ez-1,by omega⟩
     have Cl:j<M.length:=by omega
     simp only[tu,Fm,A1];rw[fj Cl,bl,fA _ j Cl,eE j M.length Cl (by omega)];have d:decide ((j:Int)<e[i].Value)=true:=by simp only[decide_eq_true_eq];omega
     simp only[cond_true,bind_some,d];have an:(M.take (j+1)).filter id=(M.take j).filter id++(if M[j]=true then [M[j]]else []):=by
      rw[List.take_add_one,List.filter_append,List.getElem?_eq_getElem Cl];cases M[j]<;>rfl
     have ih:=ih ez (by omega);rw[an]at ih;have hlen:((M.take j).filter id).length<=1000:=Nat.le_trans (List.length_filter_le ..) (by rw[List.length_take];omega);have hW:IntKind.i64.wrap ((((M.take j).filter id).length:Nat)+1)=((((M.take j).filter id).length+1:Nat):Int):=by rw[h_ _ (by omega)];omega
     cases U:M[j]
     .rw[U]at ih;simpa using ih
     .rw[U]at ih;rw[cond_true,hW];simpa using ih
   refine gQ (min M.length e[i].Value.toNat+1) λez hm=>?_;have:=key 0 (by omega) ez (by omega);simpa using this
  .have jk:(e[i].Kind !=1)=true:=by simpa using aj
   have HA:(e[i].Kind==1)=false:=by simpa using aj
   simp only[vi];rw[jk,HA,cond_true,cond_false,Ck w i _ bl,eE i e.length aC (by omega)]
def rn (e:afm):Prop:=e.length<=1048576/\∀t∈e,t.Kind=1->0<=t.Value
def Ou (x:bc):Prop:=x.br.length<=1048576/\rn x.Guard/\(x.bD.length<=1048576/\∀e∈x.bD,rn e)/\x.Next.length<=1048576/\∀e∈x.Next,rn e
theorem Ov {S:Int->Bool} {st:afb} {e:afm} (h:rn e):rn (hI S st e):=by
 refine⟨by rw[hI,List.length_map];exact h.1,λt aP aj=>?_⟩;obtain⟨u,hu,rfl⟩:=List.mem_map.1 aP;unfold y8 at aj⊢;cases an:(u.Kind==1)&&S u.Value
 .rw[an,cond_false]at aj;rw[cond_false];exact h.2 u hu aj
 .rw[an,cond_true]at aj;exact absurd (show(0:Int)=1 from aj) (by decide)
theorem HB {S:Int->Bool} (e:afm) (M:List Bool) (st:afb) (hl:st.length=M.length) (he:rn e) (fH:M.length<=1000) (bs:∀v,0<=v->S v=M.getD v.toNat false) {β:Type} (K:afm->Option β):
  ((p3 e M st).bind λx=>(tv x M).bind K)=K (lE M (hI S st e)):=by
 rw[acm e M st hl he.1 fH he.2 bs,bind_some,acn _ M (Ov he).1 fH (Ov he).2,bind_some]
def eL:Nat->List Bool->afb
 |_,[]=>[]
 |k,b::M=>if b=true then eL (k+1) M else(k:Int)::eL (k+1) M
theorem za:∀(M:List Bool) (k:Nat),(eL k M).length+(M.filter id).length=M.length
 |[],k=>rfl
 |b::M,k=>by
  have:=za M (k+1);cases b<;>simp[eL]<;>omega
theorem Cm:∀(M:List Bool) (k:Nat),∀x∈eL k M,(k:Int)<=x/\x<((k+M.length:Nat):Int)
 |[],k,x,h=>by cases h
 |b::M,k,x,h=>by
  have ih:=Cm M (k+1);cases b
  .rw[eL,if_neg (by simp)]at h;rcases List.mem_cons.1 h with rfl|h
   .simp;omega
   .have:=ih x h;simp at this⊢;omega
  .rw[eL,if_pos rfl]at h;have:=ih x h;simp at this⊢;omega
theorem HC:∀(M:List Bool) (k:Nat),(eL k M).Nodup
 |[],k=>List.nodup_nil
 |b::M,k=>by
  cases b
  .rw[eL,if_neg (by simp)];refine List.nodup_cons.2 ⟨λh=>?_,HC M (k+1)⟩;have:=(Cm M (k+1) _ h).1;omega
  .rw[eL,if_pos rfl];exact HC M (k+1)
theorem Ow (M:List Bool) (fH:M.length<=1000):yc M false=some (eL 0 M):=by
 unfold yc;have key:∀i,i<=M.length->∀(v:afb) m,v.length<=i->M.length-i<m->tt M false m v (i:Int)=some (v++eL i (M.drop i)):=by
  refine down M.length ?_ ?_
  .intro v m _ hm;obtain⟨m,rfl⟩:∃j,m=j+1:=⟨m-1,by omega⟩
   simp only[tt,Fl];rw[ey (Nat.le_refl _),List.drop_of_length_le (Nat.le_refl _)];simp[eL]
  .intro i aC ih v m aH hm;obtain⟨m,rfl⟩:∃j,m=j+1:=⟨m-1,by omega⟩
   rw[drop_cons M i aC];simp only[tt,Fl,AZ];rw[fj aC,fA _ i aC,eE i _ aC (by omega)];simp only[cond_true,bind_some];cases U:M[i]
   .rw[iy (by omega) (by omega)];simp only[beq_self_eq_true,cond_true,bind_some];rw[ih _ m (by simp;omega) (by omega),eL,if_neg (by simp)];simp
   .rw[show(true==false)=false from rfl,cond_false,ih _ m (by omega) (by omega),eL,if_pos rfl]
 refine gQ (M.length+1) λm hm=>?_;have:=key 0 (by omega) [] m (by simp) (by omega);simpa using this
def wm (S:Int->Bool) (M:List Bool) (st:afb) (x:bc):bc:=
 ⟨x.br,lE M (hI S st x.Guard),x.Name,x.bD.map λe=>lE M (hI S st e),(eL 0 M).map λi=>lE M (hI S st (x.Next.getD i.toNat []))⟩
theorem aco {es:afj} (h:∀e∈es,rn e) (i:Nat):rn (es.getD i []):=by
 rw[List.getD_eq_getElem?_getD];cases he:es[i]? with
 |none=>exact⟨by simp,λt aP=>by cases aP⟩
 |some e=>exact h e (List.mem_of_getElem? he)
theorem acp {S:Int->Bool} (l:bg) (M:List Bool) (fH:M.length<=1000) (hl:l.Start.length=M.length) (aa:l.bu.length<=1048576) (al:∀x∈l.bu,Ou x/\x.Next.length=M.length) (bs:∀v,0<=v->S v=M.getD v.toNat false):
  A2 l M=some ⟨(eL 0 M).length,(eL 0 M).map λi=>l.Start.getD i.toNat 0,l.bu.map (wm S M l.Start)⟩:=by
 have hK:(eL 0 M).length<=1000:=by have:=za M 0;omega
 have iH:∀x∈eL 0 M,0<=x/\x<(M.length:Int):=λx al=>by have:=Cm M 0 x al;simpa using this
 unfold A2;rw[Ow M fH,bind_some];refine(po (L:=vr l M (eL 0 M)) (eL 0 M) (λi=>l.Start.getD i.toNat 0) 0 (λv=>some ⟨(eL 0 M).length,v,l.bu.map (wm S M l.Start)⟩) (λm v aH=>?_) (λi aC m v aH=>?_) [] (by simp)).trans (by simp)
 .simp only[vr,Ft];rw[ey (Nat.le_refl _),cond_false];refine(po (L:=λn w i=>ot l M (eL 0 M) n v w i) l.bu (wm S M l.Start) 0 (λw=>some ⟨(eL 0 M).length,v,w⟩) (λm w hw=>?_) (λi aC m w hw=>?_) [] (by simp)).trans (by simp)
  .simp only[ot,Fs];rw[ey (Nat.le_refl _),cond_false]
  .obtain⟨⟨ah,aA,aL,aQ,aZ⟩,bp⟩:=al _ (List.getElem_mem aC);simp only[ot,Fs];rw[fj aC,cond_true,fA _ i aC,bind_some,ack _ ah,bind_some,HB (S:=S) _ M l.Start hl aA fH bs];refine(po (L:=λn u j=>vq (ot l M (eL 0 M) m) l M (eL 0 M) l.bu[i] l.bu[i].br (lE M (hI S l.Start l.bu[i].Guard)) n v w (i:Int) u j) l.bu[i].bD (λe=>lE M (hI S l.Start e)) 0 (λu=>ot l M (eL 0 M) m v (w++[bc.mk l.bu[i].br (lE M (hI S l.Start l.bu[i].Guard)) l.bu[i].Name u ((eL 0 M).map λml=>lE M (hI S l.Start (l.bu[i].Next.getD ml.toNat [])))]) ((i+1:Nat):Int)) (λez u hu=>?_) (λj bZ ez u hu=>?_) [] (by simp)).trans (by simp only[List.nil_append];rfl)
   .simp only[vq,Fq];rw[ey (Nat.le_refl _),cond_false];refine(po (L:=λn t j=>vp (ot l M (eL 0 M) m) l M (eL 0 M) l.bu[i] l.bu[i].br (lE M (hI S l.Start l.bu[i].Guard)) n v w (i:Int) u t j) (eL 0 M) (λml=>lE M (hI S l.Start (l.bu[i].Next.getD ml.toNat []))) 0 (λt=>ot l M (eL 0 M) m v (w++[bc.mk l.bu[i].br (lE M (hI S l.Start l.bu[i].Guard)) l.bu[i].Name u t]) ((i+1:Nat):Int)) (λacq t aP=>?_) (λj bZ acq t aP=>?_) [] (by simp)).trans (by simp only[List.nil_append])
    .simp only[vp,Fp];rw[ey (Nat.le_refl _),cond_false,iy (by omega) (by omega),bind_some,eE i _ aC (by omega)]
    .have acr:=iH _ (List.getElem_mem bZ);simp only[vp,Fp];rw[fj bZ,cond_true,fA _ j bZ,bind_some,y_ [] acr.1 (by omega),bind_some,HB (S:=S) _ M l.Start hl (aco aZ _) fH bs,iy (by omega) (by omega),bind_some,eE j _ bZ (by omega)]
   .simp only[vq,Fq];rw[fj bZ,cond_true,fA _ j bZ,bind_some,HB (S:=S) _ M l.Start hl (aL.2 _ (List.getElem_mem bZ)) fH bs,iy (by have:=aL.1;omega) (by have:=aL.1;omega),bind_some,eE j _ bZ (by have:=aL.1;omega)]
 .have acs:=iH _ (List.getElem_mem aC);simp only[vr,Ft];rw[fj aC,cond_true,fA _ i aC,bind_some,y_ 0 acs.1 (by omega),bind_some,iy (by omega) (by omega),bind_some,eE i _ aC (by omega)]
def zb (p:Int) (K:afb) (t:aD):aD:=
 cond (t.Kind==1) (cond (decide (p<=t.Value)) ⟨1,IntKind.i64.wrap (IntKind.i64.wrap (t.Value-p)+(K.length:Int))⟩ (cond (decide (0<=iM (λx=>t.Value==x) 0 K)) ⟨1,iM (λx=>t.Value==x) 0 K⟩ t)) t
def pq (p:Int) (K:afb) (e:afm):afm:=e.map (zb p K)
theorem acu (S:afb) (v:Int) (h:S.length<=1048576):vz S v=some (iM (λx=>v==x) 0 S):=by
 unfold vz;rw[Hx S (λx=>v==x) (λm=>by
  simp only[tA,yf];rw[ey (Nat.le_refl _)];rfl) (λi aC m=>by
  simp only[tA,yf];rw[fj aC,fA _ i aC,eE i _ aC (by omega)];simp only[cond_true,bind_some])]
theorem Ox (e:afm) (l:bg) (K:afb) (he:e.length<=1048576) (hK:K.length<=1048576) (x:bc):
  yl x e l K=some (pq l.bz K e):=by
 unfold yl F6;have:=po (L:=q3 e l K) e (zb l.bz K) 0 some (λm w hw=>?_) (λi aC m w hw=>?_) [] (by simp)
 .rw[this];rfl
 .simp only[q3,F5];rw[ey (Nat.le_refl _)];rfl
 .simp only[q3,F5,q2,F4];rw[fj aC,fA _ i aC,eE i _ aC (by omega)];simp only[cond_true,bind_some,zb];have dR:∀x:aD,room 16 (w.length+[x].length)=some ():=λx=>iy (by simp only[List.length_cons,List.length_nil];omega) (by simp only[List.length_cons,List.length_nil];omega);cases aj:e[i].Kind==1
  .simp only[cond_false,dR,bind_some]
  .simp only[cond_true];cases au:decide (l.bz<=e[i].Value)
   .simp only[cond_false];rw[acu K _ hK];simp only[bind_some];cases ai:decide (0<=iM (λx=>e[i].Value==x) 0 K)
    .simp only[cond_false,bind_some,Option.elim,dR]
    .simp only[cond_true,bind_some,Option.elim,yk,List.isEmpty_cons,cond_false,dR]
   .simp only[cond_true,bind_some,Option.elim,yk,List.isEmpty_cons,cond_false,dR]
theorem Oy (es:afj) (l:bg) (K:afb) (hK:K.length<=1048576) (he:es.length<=1048576) (h:∀e∈es,e.length<=1048576) (x:bc):
  ym es l K x=some (es.map (pq l.bz K)):=by
 unfold ym;have:=po (L:=vH es x l K) es (pq l.bz K) 0 some (λm w hw=>?_) (λi aC m w hw=>?_) [] (by simp)
 .rw[this];rfl
 .simp only[vH,F7];rw[ey (Nat.le_refl _)];rfl
 .simp only[vH,F7];rw[fj aC,fA _ i aC,eE i _ aC (by omega),iy (by omega) (by omega)];simp only[cond_true,bind_some];rw[Ox _ l K (h _ (List.getElem_mem aC)) hK];rfl
theorem Cn (e:afb) (h:e.length<=1048576):p7 e=some e:=by
 unfold p7;rw[iy (by omega) (by omega)];cases e with
 |nil=>simp[both]
 |cons x r=>rfl
def nK (p:Int) (K:afb) (x:bc):bc:=⟨x.br,pq p K x.Guard,x.Name,x.bD.map (pq p K),x.Next.map (pq p K)⟩
theorem acv (l:bg) (K:afb) (hK:K.length<=1048576) (hl:rm l):
  BD l l K=some ⟨l.bz,l.Start,l.bu.map (nK l.bz K)⟩:=by
 obtain⟨ae,af,aF⟩:=hl;unfold BD;rw[Cn _ ae,bind_some];refine(po (L:=λn v i=>vI l l K l.Start n v i) l.bu (nK l.bz K) 0 (λv=>some ⟨l.bz,l.Start,v⟩) (λm w hw=>?_) (λi aC m w hw=>?_) [] (by simp)).trans (by simp)
 .simp only[vI,F8];rw[ey (Nat.le_refl _)];rfl
 .obtain⟨ah,aA,aL,aQ,aZ⟩:=aF _ (List.getElem_mem aC);simp only[vI,F8];rw[fj aC,fA _ i aC,eE i _ aC (by omega)];simp only[cond_true,bind_some];rw[Cn _ ah,bind_some,Ox _ l K aA hK,bind_some,Oy _ l K hK aQ.1 aQ.2,bind_some,Oy _ l K hK aZ.1 aZ.2,bind_some,iy (by omega) (by omega)];rfl
def nL {α:Type} (xs:List α) (D:afb):List (Bool×α):=xs.mapIdx λi x=>(decide ((i:Int)∈D),x)
theorem acw {α:Type} (xs:List α):xs.map (λx=>(false,x))=nL xs []:=by
 apply List.ext_getElem
 .simp[nL]
 .intro i ae af;simp[nL]
theorem acx {α:Type} (xs:List α) (D:afb) (d:α) {v:Int} (bo:0<=v) (ae:v<(xs.length:Nat)):bG (nL xs D) v=some (decide (v∈D),xs.getD v.toNat d):=by
 obtain⟨i,aC⟩:∃i:Nat,v=(i:Int):=⟨v.toNat,by omega⟩
 subst aC;have hl:i<(nL xs D).length:=by simp only[nL,List.length_mapIdx];omega
 rw[fA _ i hl];have al:i<xs.length:=by omega
 simp[nL,List.getD_eq_getElem?_getD,al]
theorem acy {α:Type} (xs:List α) (D:afb) (d:α) {v:Int} (bo:0<=v) (ae:v<(xs.length:Nat)):List.set (nL xs D) v.toNat (true,xs.getD v.toNat d)=nL xs (D++[v]):=by
 obtain⟨i,aC⟩:∃i:Nat,v=(i:Int):=⟨v.toNat,by omega⟩
 subst aC;have al:i<xs.length:=by omega
 apply List.ext_getElem
 .simp[nL]
 .intro j af aF;rw[List.getElem_set];simp only[Int.toNat_natCast];by_cases Oz:i=j
  .subst Oz;simp[nL,List.getD_eq_getElem?_getD,al]
  .rw[if_neg Oz];have c_:¬(j:Int)=(i:Int):=by omega
   simp[nL,c_]
def wo (p:Int) (K:afb) (x:bc):bc:=⟨x.br,pq p K x.Guard,x.Name,x.bD.map (pq p K),K.map λi=>pq p K (x.Next.getD i.toNat [])⟩
theorem acz (l:bg) (K:afb) (hK:K.length<=1048576) (hl:rm l) (iH:∀v∈K,0<=v/\v<(l.Start.length:Nat)/\∀x∈l.bu,v<(x.Next.length:Nat)) (rR:K.Nodup):
  BE l K=some ⟨K.length,K.map λi=>l.Start.getD i.toNat 0,l.bu.map (wo l.bz K)⟩:=by
 have af:=hl.2.1;unfold BE;rw[acv l K hK hl,bind_some];refine(po (L:=vK l K ⟨l.bz,l.Start,l.bu.map (nK l.bz K)⟩) K (λi=>l.Start.getD i.toNat 0) 0 (λv=>some ⟨K.length,v,l.bu.map (wo l.bz K)⟩) (λm v aH=>?_) (λi aC m v aH=>?_) [] (by simp)).trans (by simp)
 .simp only[vK,Ga];rw[ey (Nat.le_refl _),cond_false];have bl:l.bu.map (wo l.bz K)=(l.bu.map (nK l.bz K)).map λx=>⟨x.br,x.Guard,x.Name,x.bD,K.map λi=>x.Next.getD i.toNat []⟩:=by
   rw[List.map_map];refine List.map_congr_left λx _=>?_;simp only[Function.comp,nK,wo,bc.mk.injEq,true_and];refine List.map_congr_left λi _=>?_;rw[List.getD_eq_getElem?_getD,List.getD_eq_getElem?_getD,List.getElem?_map];cases x.Next[i.toNat]? <;>rfl
  rw[bl];refine Cj (L:=λn w i=>q4 K ⟨l.bz,l.Start,l.bu.map (nK l.bz K)⟩ n v w i) (l.bu.map (nK l.bz K)) _ (λw=>some ⟨K.length,v,w⟩) (λm w hw=>?_) (λi aC m w hw HD=>?_)
  .simp only[q4,F_];rw[ey (Nat.le_refl _),cond_false]
  .have n3:i<l.bu.length:=by simpa using aC
   have OA:∀v∈K,0<=v/\v<((l.bu.map (nK l.bz K))[i].Next.length:Nat):=λv aH=>by
    obtain⟨a,_,c⟩:=iH v aH;refine⟨a,?_⟩;rw[List.getElem_map];simp only[nK,List.length_map];exact c _ (List.getElem_mem n3)
   simp only[q4,F_];rw[fj aC,cond_true,HD,bind_some,acw];generalize (l.bu.map (nK l.bz K))[i]=y at HD OA⊢;have key:∀j,j<=K.length->∀(u:afj) ez,u.length<=j->K.length-j<ez->
     vJ (q4 K ⟨l.bz,l.Start,l.bu.map (nK l.bz K)⟩ m) K v (i:Int) w ⟨l.bz,l.Start,l.bu.map (nK l.bz K)⟩ y ez (nL y.Next (K.take j)) u (j:Int)=
     q4 K ⟨l.bz,l.Start,l.bu.map (nK l.bz K)⟩ m v (w.set i ⟨y.br,y.Guard,y.Name,y.bD,u++(K.drop j).map λi=>y.Next.getD i.toNat []⟩) ((i+1:Nat):Int):=by
    refine down K.length ?_ ?_
    .intro u ez _ hm;obtain⟨ez,rfl⟩:∃j,ez=j+1:=⟨ez-1,by omega⟩
     simp only[vJ,F9];rw[ey (Nat.le_refl _),cond_false,HD,bind_some,eE i l.bu.length n3 (by omega),List.drop_of_length_le (Nat.le_refl _),Int.toNat_natCast];simp
    .intro j bZ ih u ez hu hm;obtain⟨ez,rfl⟩:∃j,ez=j+1:=⟨ez-1,by omega⟩
     obtain⟨a,b⟩:=OA _ (List.getElem_mem bZ);have jn:K[j]∉K.take j:=λpW=>by
      obtain⟨q,cF,e⟩:=List.getElem_of_mem pW;rw[List.getElem_take]at e;have ae3:q<j:=by rw[List.length_take]at cF;omega
      have:=(List.getElem_inj rR).1 e;omega
     simp only[vJ,F9];rw[fj bZ,cond_true,fA _ j bZ,bind_some,acx _ _ [] a b,bind_some];simp only[jn,decide_false,Bool.not_false];rw[show zi true=some ()from rfl,bind_some,iy (by omega) (by omega),bind_some,eE j K.length bZ (by omega),acy _ _ [] a b];have aP:K.take j++[K[j]]=K.take (j+1):=by rw[List.take_add_one,List.getElem?_eq_getElem bZ];rfl
     rw[aP,ih _ ez (by simp;omega) (by omega),drop_cons K j bZ,List.map_cons,List.append_assoc];rfl
   refine gQ (K.length+1) λez hm=>?_;have:=key 0 (by omega) [] ez (by simp) (by omega);simpa using this
 .obtain⟨a,b,_⟩:=iH _ (List.getElem_mem aC);simp only[vK,Ga];rw[fj aC,cond_true,fA _ i aC,bind_some,y_ 0 a (by omega),bind_some,iy (by omega) (by omega),bind_some,eE i _ aC (by omega)]
theorem HE:∀(M:List Bool) (k i:Nat) (c:Nat),M[i]? =some false->iM (λx=>((k+i:Nat):Int)==x) c (eL k M)=((c+i:Nat):Int)-(((M.take i).filter id).length:Nat)
 |[],k,i,c,h=>by simp at h
 |b::M,k,0,c,h=>by
  simp at h;subst h;simp[eL,iM]
 |b::M,k,i+1,c,h=>by
  have bB:M[i]? =some false:=by simpa using h
  cases b
  .rw[eL,if_neg (by simp)];have c_:(((k+(i+1):Nat):Int)==(k:Int))=false:=by simp only[beq_eq_false_iff_ne,ne_eq];omega
   simp only[iM,c_];rw[if_neg (by simp),show k+(i+1)=k+1+i by omega,HE M (k+1) i (c+1) bB];simp;omega
  .rw[eL,if_pos rfl,show k+(i+1)=k+1+i by omega,HE M (k+1) i c bB];simp;omega
theorem acA (M:List Bool) (p:Int) (au:p=(M.length:Nat)) (fH:M.length<=1000) (t:aD) (aP:t.Kind=1->0<=t.Value/\t.Value<=1000000/\(t.Value<p->M[t.Value.toNat]? =some false)):zb p (eL 0 M) t=y9 M t:=by
 unfold zb y9;cases aj:t.Kind==1
 .rfl
 .have js:t.Kind=1:=by simpa using aj
  obtain⟨bo,ae,af⟩:=aP js;simp only[cond_true];have hu:=za M 0;by_cases aH:p<=t.Value
  .rw[decide_eq_true aH,cond_true,js];rw[List.take_of_length_le (show M.length<=t.Value.toNat by omega),h_ (t.Value-p) (by omega)];congr 2;omega
  .rw[decide_eq_false aH,cond_false];have aC:=HE M 0 t.Value.toNat 0 (af (by omega));rw[show((0+t.Value.toNat:Nat):Int)=t.Value by omega]at aC;have an:((M.take t.Value.toNat).filter id).length<=t.Value.toNat:=Nat.le_trans (List.length_filter_le ..) (by rw[List.length_take];omega);rw[aC,decide_eq_true (by omega),cond_true,js,h_ _ (by omega)]
theorem acB (M:List Bool) (p:Int) (au:p=(M.length:Nat)) (fH:M.length<=1000) (e:afm) (h:∀t∈e,t.Kind=1->0<=t.Value/\t.Value<=1000000/\(t.Value<p->M[t.Value.toNat]? =some false)):pq p (eL 0 M) e=lE M e:=
 List.map_congr_left λt aP=>acA M p au fH t (h t aP)
end Go.nc
