/- Part of a proof that a law returns true for every input. No condition. -/
import Derived.Test.YtndfcecbamffaaaGreatDoorUV0x
import Derived.Test.YtndfcecbamffaaaGreatDoorP3
namespace Go.mY
open Option Go.IntKind Nat Or
open Go Go.cG
def ns (p:Int) (s:acd):Int:=s.foldl (λp n=>i64.wrap (p*i64.wrap (n+1))) p
def rV (v:Int):Bool:=decide (v<=4096)
def n2 (s:acd):Bool:=decide (s.length<=8)&&(s.all (λn=>gy n 1 7)&&rV (ns 1 s))
def oS:aca:=[116,97,117]
def qM (s:aca):Bool:=l7 s&& !(s==oS)
def nt (es:acm) (v:Int):Bool:=es.all λe=>hP e v 60
def pV (x:bN) (p:Int):Bool:=
 n2 x.aY&&(hP x.Guard (p+x.aY.length) 60&&((x.Next.length:Int)==p&&((if x.Name=oS then decide (x.bP.length=0)else qM x.Name&&decide (x.bP.length<=2))&&
  (nt x.bP (p+x.aY.length)&&nt x.Next (p+x.aY.length)))))
def qN (s:acd) (p:Int):Bool:=(s.length:Int)==p&&s.all (λn=>gy n 0 63)
def vH (l:ez):Bool:=gy l.dS 0 21&&(qN l.Start l.dS&&(decide (l.cC.length<=60)&&l.cC.all λx=>pV x l.dS))
theorem M4 (p:Int):ns p []=p:=rfl
theorem Gc (p n:Int) (s:acd):ns p (n::s)=ns (i64.wrap (p*i64.wrap (n+1))) s:=rfl
theorem yo (n dY ax:Int):(decide (dY<=n)&&decide (n<=ax))=gy n dY ax:=rfl
theorem M5:∀(s:acd) (p:Int),s.all (λn=>gy n 1 7)=true->1<=p->p*8^s.length<=1099511627776->1<=ns p s
 |[],p,_,h,_=>h
 |n::s,p,bx,h,I=>by
  simp only[List.all_cons,Bool.and_eq_true,gy,decide_eq_true_eq]at bx;obtain⟨⟨R,U⟩,aw⟩:=bx;have aH:i64.wrap (n+1)=n+1:=fB _ (by omega);have Gd:(1:Int)<=8^s.length:=by
   have:(0:Int)<8^s.length:=Int.pow_pos (by decide);omega
  have Ge:p*8*8^s.length<=1099511627776:=by
   have:p*8*8^s.length=p*8^(n::s).length:=by rw[List.length_cons,Int.pow_succ,Int.mul_assoc,Int.mul_comm 8]
   rw[this];exact I
  have hle:p*(n+1)<=p*8:=Int.mul_le_mul_of_nonneg_left (by omega) (by omega);have Zu:p*8*1<=p*8*8^s.length:=Int.mul_le_mul_of_nonneg_left Gd (by omega);have si:p*1<=p*(n+1):=Int.mul_le_mul_of_nonneg_left (by omega) (by omega);have aN:i64.wrap (p*(n+1))=p*(n+1):=fB _ (by omega);simp only[ns,List.foldl_cons,aH,aN];refine M5 s (p*(n+1)) (by simpa [gy]using aw) (by omega) ?_;exact Int.le_trans (Int.mul_le_mul_of_nonneg_right hle (by omega)) Ge
def Bg (v:Int) (s:acd):Int:=cond (s.all λn=>gy n 1 7) (cond (rV (ns v s)) (ns v s) 0) 0
theorem Zv (v:Int):decide (4096<v)= !rV v:=by
 unfold rV;by_cases h:v<=4096
 .have:¬4096<v:=by omega
  simp[h,this]
 .have:4096<v:=by omega
  simp[h,this]
theorem Zw (s:acd) (h:s.length<=1048576):∃n,zO s=some n/\(n==0)= !n2 s:=by
 unfold zO;by_cases da:s.length<=8
 .have d:decide ((8:Int)<(s.length:Int))=false:=by simp only[decide_eq_false_iff_not];omega
  rw[d,cond_false];have key:∀i,i<=s.length->∀(v:Int) m,s.length-i<m->uZ s m v (i:Int)=some (Bg v (s.drop i)):=by
   refine down s.length ?_ ?_
   .intro v m hm;obtain⟨m,rfl⟩:∃aB,m=aB+1:=⟨m-1,by omega⟩
    simp only[uZ,DV];rw[gq (Nat.le_refl _),List.drop_of_length_le (Nat.le_refl _),Zv];simp only[Bg,List.all_nil,cond_true,cond_false,M4];cases rV v<;>rfl
   .intro i ax ih v m hm;obtain⟨m,rfl⟩:∃aB,m=aB+1:=⟨m-1,by omega⟩
    simp only[uZ,DV,oF];rw[hG ax,fX _ i ax,hx i _ ax (by omega),drop_cons s i ax];simp only[cond_true,bind_some];rw[ih _ m (by omega)];simp only[yo,Bg,List.all_cons,Gc];cases gy s[i] 1 7
    .rfl
    .rfl
  refine⟨_,fZ (s.length+1) λm hm=>by have:=key 0 (by omega) 1 m (by omega);simpa using this,?_⟩;unfold n2 Bg;have d8:decide (s.length<=8)=true:=by simpa using da
  rw[d8,Bool.true_and];cases bx:s.all (λn=>gy n 1 7)
  .rfl
  .have ai:=M5 s 1 bx (by omega) (by
    have:∀k:Nat,k<=8->(8:Int)^k<=16777216:=by decide
    have:=this s.length da;omega)
   cases hw:rV (ns 1 s)
   .rfl
   .have:(ns 1 s==0)=false:=by simp;omega
    simpa using this
 .have d:decide ((8:Int)<(s.length:Int))=true:=by simp only[decide_eq_true_eq];omega
  rw[d,cond_true];refine⟨0,rfl,?_⟩;unfold n2;have d8:decide (s.length<=8)=false:=by simpa using da
  rw[d8];rfl
theorem Zx (x:bN) (h:x.aY.length<=1048576):Ad x=some (n2 x.aY):=by
 unfold Ad;have key:∀i,i<=x.aY.length->∀(v:Int) m,x.aY.length-i<m->u9 x m v (i:Int)=some ((x.aY.drop i).all (λn=>gy n 1 7)&&(decide (x.aY.length<=8)&&rV (ns v (x.aY.drop i)))):=by
  refine down x.aY.length ?_ ?_
  .intro v m hm;obtain⟨m,rfl⟩:∃aB,m=aB+1:=⟨m-1,by omega⟩
   simp only[u9,Ee];rw[gq (Nat.le_refl _),List.drop_of_length_le (Nat.le_refl _)];have:decide ((x.aY.length:Int)<=8)=decide (x.aY.length<=8):=by
    by_cases h:x.aY.length<=8
    .have bC:(x.aY.length:Int)<=8:=by omega
     simp[h,bC]
    .have bC:¬(x.aY.length:Int)<=8:=by omega
     simp[h,bC]
   rw[this];simp only[cond_false,List.all_nil,Bool.true_and,M4];rfl
  .intro i ax ih v m hm;obtain⟨m,rfl⟩:∃aB,m=aB+1:=⟨m-1,by omega⟩
   simp only[u9,Ee,nc];rw[hG ax,fX _ i ax,hx i _ ax (by omega),drop_cons x.aY i ax];simp only[cond_true,bind_some,List.all_cons];rw[ih _ m (by omega)];simp only[yo,Gc];cases gy x.aY[i] 1 7<;>simp
 refine fZ (x.aY.length+1) λm hm=>?_;have:=key 0 (by omega) 1 m (by omega);rw[List.drop_zero]at this;refine this.trans ?_;unfold n2;cases x.aY.all (λn=>gy n 1 7)<;>simp
theorem M6 (es:acm) (v:Int) (aE: -1000000<=v/\v<=1000000) (h:es.length<=1048576) (he:∀e∈es,e.length<=1048576):s6 es v=some (nt es v):=by
 unfold s6 nt;refine Gb es (λe=>hP e v 60) (λm=>?_) λi ax m=>?_
 .simp only[xy,DX];rw[gq (Nat.le_refl _)];rfl
 .simp only[xy,DX];rw[hG ax,fX _ i ax,hx i _ ax (by omega)];simp only[cond_true,bind_some,M3 _ v 60 aE (he _ (List.getElem_mem ax))];cases hP es[i] v 60<;>rfl
theorem Zy (s:aca):zS s=some (qM s):=by
 unfold zS;rw[Zq];rfl
theorem M7 (s:aca) (J:s.length<=140737488355328):u_ s=some (qM s):=by
 unfold u_;rw[Zr s J];rfl
def Gf (e:acm):Prop:=e.length<=1048576/\∀t∈e,t.length<=1048576
def Bh (x:bN):Prop:=x.aY.length<=1048576/\x.Guard.length<=1048576/\x.Name.length<=1048576/\Gf x.bP/\Gf x.Next
def Bi (l:ez):Prop:=l.Start.length<=1048576/\l.cC.length<=1048576/\∀x∈l.cC,Bh x
theorem M8 {s:aca} (h:s=oS):(s==([116,97,117]:aca))=true:=by subst h;rfl
theorem M9 {s:aca} (h:s≠oS):(s==([116,97,117]:aca))=false:=by simpa [oS]using h
theorem Zz (x:bN) (p:Int) (ai:0<=p/\p<=21) (ae:Bh x):zT x p=some (pV x p):=by
 obtain⟨R,U,aw,aQ,bk⟩:=ae;unfold zT pV;obtain⟨n,aH,aN⟩:=Zw x.aY R;rw[aH];simp only[bind_some,aN];cases J:n2 x.aY
 .rfl
 .have da:x.aY.length<=8:=by simp only[n2,Bool.and_eq_true,decide_eq_true_eq]at J;exact J.1
  have hw:i64.wrap (p+(x.aY.length:Int))=p+(x.aY.length:Int):=fB (p+(x.aY.length:Int)) ⟨by omega,by omega⟩;simp only[hw,M3 x.Guard (p+(x.aY.length:Int)) 60 (by omega) U,M6 x.bP (p+(x.aY.length:Int)) (by omega) aQ.1 aQ.2,M6 x.Next (p+(x.aY.length:Int)) (by omega) bk.1 bk.2,Zy,bind_some,Bool.not_true,cond_false,Bool.true_and];cases hP x.Guard (p+(x.aY.length:Int)) 60
  .rfl
  .cases aO:(x.Next.length:Int)==p
   .have:((x.Next.length:Int) !=p)=true:=by simp only[bne,aO];rfl
    rw[this];rfl
   .have:((x.Next.length:Int) !=p)=false:=by simp only[bne,aO];rfl
    rw[this];simp only[Bool.not_true,Bool.or_self,cond_false,Bool.true_and];by_cases aK:x.Name=oS
    .rw[M8 aK,if_pos aK];simp only[cond_true,Bool.not_true,cond_false];by_cases bx:x.bP.length=0
     .have d1:decide ((0:Int)<(x.bP.length:Int))=false:=by simp only[decide_eq_false_iff_not];omega
      have d2:decide ((2:Int)<(x.bP.length:Int))=false:=by simp only[decide_eq_false_iff_not];omega
      have d3:decide (x.bP.length=0)=true:=by simpa using bx
      rw[d1,d2,d3];cases nt x.bP (p+(x.aY.length:Int))<;>cases nt x.Next (p+(x.aY.length:Int))<;>rfl
     .have d1:decide ((0:Int)<(x.bP.length:Int))=true:=by simp only[decide_eq_true_eq];omega
      have d3:decide (x.bP.length=0)=false:=by simpa using bx
      rw[d1,d3];rfl
    .rw[M9 aK,if_neg aK];simp only[Bool.not_false,cond_true,cond_false];cases qM x.Name
     .rfl
     .by_cases bx:x.bP.length<=2
      .have d2:decide ((2:Int)<(x.bP.length:Int))=false:=by simp only[decide_eq_false_iff_not];omega
       have d3:decide (x.bP.length<=2)=true:=by simpa using bx
       rw[d2,d3];cases nt x.bP (p+(x.aY.length:Int))<;>cases nt x.Next (p+(x.aY.length:Int))<;>rfl
      .have d2:decide ((2:Int)<(x.bP.length:Int))=true:=by simp only[decide_eq_true_eq];omega
       have d3:decide (x.bP.length<=2)=false:=by simpa using bx
       rw[d2,d3];rfl
theorem M_ (s:acd) (p:Int) (h:s.length<=1048576):xw s p=some (qN s p):=by
 unfold xw qN;have e:zN s=some (s.all λn=>gy n 0 63):=by
  unfold zN;refine Gb s (λn=>gy n 0 63) (λm=>?_) λi ax m=>?_
  .simp only[xv,DU];rw[gq (Nat.le_refl _)];rfl
  .simp only[xv,DU,oF];rw[hG ax,fX _ i ax,hx i _ ax (by omega)];simp only[cond_true,bind_some,yo];cases gy s[i] 0 63<;>rfl
 rw[e];cases(s.length:Int)==p<;>rfl
theorem ZA (l:ez) (h:Bi l):zU l=some (vH l):=by
 unfold zU vH oF;simp only[bind_some,yo];rw[M_ _ _ h.1];simp only[bind_some];cases ai:gy l.dS 0 21
 .rfl
 .cases qN l.Start l.dS
  .rfl
  .simp only[Bool.not_true,cond_false,Bool.false_or,Bool.true_and];have dF:0<=l.dS/\l.dS<=21:=by simpa [gy]using ai
   by_cases yp:l.cC.length<=60
   .have d1:decide ((60:Int)<(l.cC.length:Int))=false:=by simp only[decide_eq_false_iff_not];omega
    have d2:decide (l.cC.length<=60)=true:=by simpa using yp
    rw[d1,d2,cond_false,Bool.true_and];refine Gb l.cC (λx=>pV x l.dS) (λm=>?_) λi ax m=>?_
    .simp only[xB,D0];rw[gq (Nat.le_refl _)];rfl
    .simp only[xB,D0];rw[hG ax,fX _ i ax,hx i _ ax (by omega)];simp only[cond_true,bind_some,Zz _ _ dF (h.2.2 _ (List.getElem_mem ax))];cases pV l.cC[i] l.dS<;>rfl
   .have d1:decide ((60:Int)<(l.cC.length:Int))=true:=by simp only[decide_eq_true_eq];omega
    have d2:decide (l.cC.length<=60)=false:=by simpa using yp
    rw[d1,d2];rfl
def lu {α:Type} (ls:List (List α)):Nat:=fo List.length ls
theorem ZB (n:Int) (bg:0<=n) (h:n<=1099511627776):Ah n=some ():=by
 unfold Ah Eg Ag;have fw:i64.wrap 0=0:=fB 0 (by omega);have aH:i64.wrap (n-0)=n:=by rw[fB (n-0) (by omega)];omega
 have d:decide (n<0)=false:=by simp only[decide_eq_false_iff_not];omega
 rw[d,fw,aH,show kz 24 n=some () by unfold kz;rw[if_pos ⟨by omega,by omega,by omega⟩]];cases decide (0<n)<;>rfl
theorem ZC (ls:List acm) (h:ls.length<=1048576) (J:lu ls<=1099511627776):Ai ls=some ls.flatten:=by
 have tb:cL (λn=>tc ls n [] 0)=some ls.flatten:=by
  have key:∀i,i<=ls.length->∀(v:acm) m,v.length+lu (ls.drop i)<=1099511627776->ls.length-i<m->tc ls m v (i:Int)=some (v++(ls.drop i).flatten):=by
   refine down ls.length ?_ ?_
   .intro v m _ hm;obtain⟨m,rfl⟩:∃aB,m=aB+1:=⟨m-1,by omega⟩
    simp only[tc,Ei];rw[gq (Nat.le_refl _),List.drop_of_length_le (Nat.le_refl _)];simp
   .intro i ax ih v m aE hm;obtain⟨m,rfl⟩:∃aB,m=aB+1:=⟨m-1,by omega⟩
    rw[drop_cons ls i ax]at aE⊢;simp only[lu,fo]at aE;simp only[tc,Ei];rw[hG ax,fX _ i ax,hx i _ ax (by omega)];simp only[cond_true,bind_some];rw[pT (by omega) (by omega)];simp only[bind_some];rw[ih _ m (by simp only[List.length_append,lu];omega) (by omega)];simp only[List.flatten_cons,List.append_assoc]
  refine fZ (ls.length+1) λm hm=>?_;have:=key 0 (by omega) [] m (by simpa using J) (by omega);simpa using this
 unfold Ai;have key:∀i,i<=ls.length->∀(v:Int) m,0<=v->v+lu (ls.drop i)<=1099511627776->ls.length-i<m->td ls m v (i:Int)=some ls.flatten:=by
  refine down ls.length ?_ ?_
  .intro v m bg aE hm;obtain⟨m,rfl⟩:∃aB,m=aB+1:=⟨m-1,by omega⟩
   simp only[td,Ej];rw[gq (Nat.le_refl _),ZB v bg (by omega)];simp only[cond_false,bind_some];exact tb
  .intro i ax ih v m bg aE hm;obtain⟨m,rfl⟩:∃aB,m=aB+1:=⟨m-1,by omega⟩
   rw[drop_cons ls i ax]at aE;simp only[lu,fo]at aE;simp only[td,Ej,Eh];rw[hG ax,fX _ i ax,hx i _ ax (by omega)];simp only[cond_true,bind_some];have e:i64.wrap (v+(ls[i].length:Int))=v+(ls[i].length:Int):=fB (v+(ls[i].length:Int)) ⟨by omega,by omega⟩;have d:decide (v+(ls[i].length:Int)<0)=false:=by simp only[decide_eq_false_iff_not];omega
   rw[e,d,cond_false];exact ih _ m (by omega) (by simp only[lu];omega) (by omega)
 refine fZ (ls.length+1) λm hm=>?_;exact key 0 (by omega) 0 m (by omega) (by rw[List.drop_zero];omega) (by omega)
theorem ZD (x:bN) (ae:Bh x):va x=some (x.Guard::(x.bP++x.Next)):=by
 unfold va;have aQ:=ae.2.2.2.1.1;have bk:=ae.2.2.2.2.1;rw[ZC _ (by simp) (by simp only[lu,fo,List.length_cons,List.length_nil];omega)];simp
theorem ZE (x:bN) (p:Int) (ai:0<=p/\p<=21) (da:x.aY.length<=8) (es:acm) (h:es.length<=1099511627776) (he:∀e∈es,e.length<=1048576):
  te es p x=some (!nt es (p+x.aY.length)):=by
 unfold te El;rw[Be (f:=λe=>Am e p x) es (λe=> !hP e (p+x.aY.length) 60) (λm i=>by simp only[An,K7]) (λe hm=>by
  unfold Am;have hw:i64.wrap (p+(x.aY.length:Int))=p+(x.aY.length:Int):=fB (p+(x.aY.length:Int)) ⟨by omega,by omega⟩;rw[hw,Zp e _ 60 (by omega) (by omega) (he e hm)];rfl) h]
 simp only[bind_some,yn,Bf];rfl
theorem ZF (x:bN) (p:Int) (ai:0<=p/\p<=21) (ae:Bh x):Ao x p=some (pV x p):=by
 have qY:=ae;obtain⟨R,U,aw,aQ,bk⟩:=ae;unfold Ao pV;rw[Zx x R];simp only[bind_some];cases J:n2 x.aY
 .rfl
 .have da:x.aY.length<=8:=by simp only[n2,Bool.and_eq_true,decide_eq_true_eq]at J;exact J.1
  have CM:te (x.Guard::(x.bP++x.Next)) p x=some (!(hP x.Guard (p+x.aY.length) 60&&(nt x.bP (p+x.aY.length)&&nt x.Next (p+x.aY.length)))):=by
   have abW:=aQ.1;have abX:=bk.1;rw[ZE x p ai da _ (by simp only[List.length_cons,List.length_append];omega) (λe he=>by
    rcases List.mem_cons.1 he with rfl|he
    .exact U
    .rcases List.mem_append.1 he with he|he
     .exact aQ.2 e he
     .exact bk.2 e he)]
   simp only[nt,List.all_cons,List.all_append]
  rw[ZD x qY,M7 _ (by omega)];simp only[bind_some,CM,Bool.not_true,Bool.false_or,Bool.true_and,Bool.not_not];cases aO:(x.Next.length:Int)==p
  .have:((x.Next.length:Int) !=p)=true:=by simp only[bne,aO];rfl
   rw[this];cases hP x.Guard (p+(x.aY.length:Int)) 60<;>rfl
  .have:((x.Next.length:Int) !=p)=false:=by simp only[bne,aO];rfl
   rw[this];simp only[cond_false,Bool.true_and];by_cases aK:x.Name=oS
   .rw[M8 aK,if_pos aK];simp only[cond_true,Bool.not_true,cond_false];by_cases bx:x.bP.length=0
    .have d1:decide ((0:Int)<(x.bP.length:Int))=false:=by simp only[decide_eq_false_iff_not];omega
     have d3:decide (x.bP.length=0)=true:=by simpa using bx
     rw[d1,d3];simp
    .have d1:decide ((0:Int)<(x.bP.length:Int))=true:=by simp only[decide_eq_true_eq];omega
     have d3:decide (x.bP.length=0)=false:=by simpa using bx
     rw[d1,d3];cases hP x.Guard (p+(x.aY.length:Int)) 60<;>rfl
   .rw[M9 aK,if_neg aK];simp only[Bool.not_false,cond_true,cond_false];by_cases bx:x.bP.length<=2
    .have d2:decide ((2:Int)<(x.bP.length:Int))=false:=by simp only[decide_eq_false_iff_not];omega
     have d3:decide (x.bP.length<=2)=true:=by simpa using bx
     rw[d2,d3];cases decide ((0:Int)<(x.bP.length:Int))<;>cases qM x.Name<;>cases hP x.Guard (p+(x.aY.length:Int)) 60<;>simp
    .have d1:decide ((0:Int)<(x.bP.length:Int))=true:=by simp only[decide_eq_true_eq];omega
     have d2:decide ((2:Int)<(x.bP.length:Int))=true:=by simp only[decide_eq_true_eq];omega
     have d3:decide (x.bP.length<=2)=false:=by simpa using bx
     rw[d1,d2,d3];cases qM x.Name<;>cases hP x.Guard (p+(x.aY.length:Int)) 60<;>rfl
theorem Na (l:ez) (s:acd) (h:s.length<=1048576):xG l s=some (qN s l.dS):=by
 unfold xG u7 Ac Ab;rw[Be (f:=Aa) s (λn=> !gy n 0 63) (λm i=>by simp only[xF,Ed]) (λn _=>rfl) (by omega)];simp only[bind_some,yn,Bf,Bool.not_not];unfold qN;cases(s.length:Int)==l.dS<;>rfl
theorem ZG (l:ez) (h:Bi l):Ar l=some (vH l):=by
 unfold Ar vH nc;simp only[bind_some,yo];rw[Na _ _ h.1];simp only[bind_some];cases ai:gy l.dS 0 21
 .rfl
 .cases qN l.Start l.dS
  .rfl
  .simp only[Bool.not_true,cond_false,Bool.false_or,Bool.true_and];have dF:0<=l.dS/\l.dS<=21:=by simpa [gy]using ai
   by_cases yp:l.cC.length<=60
   .have d1:decide ((60:Int)<(l.cC.length:Int))=false:=by simp only[decide_eq_false_iff_not];omega
    have d2:decide (l.cC.length<=60)=true:=by simpa using yp
    rw[d1,d2,cond_false,Bool.true_and];unfold En Em;rw[Be (f:=λx=>Ap x l) l.cC (λx=> !pV x l.dS) (λm i=>by simp only[Aq,K8]) (λx ae=>by
     unfold Ap;rw[ZF x _ dF (h.2.2 x ae)];rfl) (by omega)]
    simp only[bind_some,yn,Bf,Bool.not_not]
   .have d1:decide ((60:Int)<(l.cC.length:Int))=true:=by simp only[decide_eq_true_eq];omega
    have d2:decide (l.cC.length<=60)=false:=by simpa using yp
    rw[d1,d2];rfl
theorem Nb (es:acm) (h:fY (λx:List aM=>x.length+0) es<=1048576):Gf es:=
 ⟨Nat.le_trans (qK _ _) h,λt aK=>by
  have:=vF (f:=λx:List aM=>x.length+0) aK;simp only[Nat.add_zero]at this h;omega⟩
theorem ZH (l:ez) (h:pU l<=1048576):Bi l:=by
 unfold pU at h;have J:fY j2 l.cC<=1048576:=by omega
 refine⟨by omega,Nat.le_trans (qK _ _) J,λx ae=>?_⟩;have hm:=vF (f:=j2) ae;have ZI:j2 x<=1048576:=by omega
 unfold j2 at ZI;exact⟨by omega,by omega,by omega,Nb _ (by omega),Nb _ (by omega)⟩
theorem join_one (x s:aca):hQ [x] s=x:=by simp[hQ,List.intercalate,List.intersperse]
theorem join_cons (x y:aca) (r:nq) (s:aca):hQ (x::y::r) s=x++(s++hQ (y::r) s):=by simp[hQ,List.intercalate,List.intersperse]
theorem Nc (s:aca):∀(l:nq) (y:aca),l≠[]->hQ (l++[y]) s=hQ l s++(s++y)
 |[],_,h=>(h rfl).elim
 |[x],y,_=>by rw[List.singleton_append,join_cons,join_one,join_one]
 |x::z::r,y,_=>by
  rw[List.cons_append,List.cons_append,join_cons,join_cons,<-List.cons_append,Nc s (z::r) y (by simp)];simp only[List.append_assoc]
theorem yq (c:UInt8) (k:Nat):∀l:nq,(∀x∈l,x.length<=k)->(hQ l [c]).length<=l.length*(k+1)
 |[],_=>by simp[hQ,List.intercalate,List.intersperse]
 |[x],h=>by rw[join_one];have:=h x (by simp);simp only[List.length_cons,List.length_nil];omega
 |x::y::r,h=>by
  rw[join_cons];have R:=h x (by simp);have U:=yq c k (y::r) λz bD=>h z (by simp[bD]);simp only[List.length_append,List.length_cons,List.length_nil,Nat.add_mul]at U⊢;omega
theorem ZJ (n:Nat) (h:n<100):xL (n:Int)=some (k3 n):=by
 unfold xL xK;first
 |(rw[if_pos ⟨by omega,by omega,rfl⟩];rfl)
 |(rw[if_pos ⟨by omega,by omega,rfl⟩]
   unfold abY k3 ZK;rw[if_neg (by omega),Int.toNat_natCast];by_cases R:n<10
   .rw[dif_pos R,if_pos R];rfl
   .unfold ZK;rw[dif_neg R,if_neg R,dif_pos (by omega)];rfl)
theorem ZL (n:Nat):(k3 n).length<=2:=by unfold k3;split<;>simp
theorem ZM {α γ β:Type} {L:Nat->List γ->Int->Option β} (a:List α) (t:α->γ) (w:List γ) (hw:w.length=a.length) (E:List γ->Option β)
  (bg:∀m v,L (m+1) v (a.length:Int)=E v)
  (J:∀i (h:i<a.length) m v,v.length=a.length->L (m+1) v (i:Int)=L m (v.set i (t a[i])) ((i+1:Nat):Int)):cL (λm=>L m w 0)=E (a.map t):=by
 have key:∀i,i<=a.length->∀m,a.length-i<m->L m ((a.take i).map t++w.drop i) (i:Int)=E (a.map t):=by
  refine down a.length ?_ ?_
  .intro m hm;obtain⟨m,rfl⟩:∃aB,m=aB+1:=⟨m-1,by omega⟩
   rw[bg,List.take_length,List.drop_of_length_le (by omega),List.append_nil]
  .intro i ax ih m hm;obtain⟨m,rfl⟩:∃aB,m=aB+1:=⟨m-1,by omega⟩
   have e:((a.take i).map t).length=i:=by simp;omega
   rw[J i ax m _ (by simp only[List.length_append,e,List.length_drop];omega),<-ih m (by omega)];congr 1;rw[List.set_append_right i _ (by rw[e];omega),e,Nat.sub_self,drop_cons w i (by omega),List.set_cons_zero,List.take_succ_eq_append_getElem ax,List.map_append];simp
 refine fZ (a.length+1) λm hm=>?_;have:=key 0 (by omega) m (by omega);simpa using this
def k1 (n:Int):aca:=k3 n.toNat
theorem yr (n:Int):(k1 n).length<=2:=ZL _
theorem ZN {x:Int} (h:0<=x/\x<=63):xL x=some (k1 x):=by
 have:=ZJ x.toNat (by omega)
 rwa [Int.toNat_of_nonneg h.1]at this
theorem Nd (a:acd) (h:a.length<=64) (aE:∀x∈a,0<=x/\x<=63):vi a [44]=some (hQ (a.map k1) [44]):=by
 unfold vi;rw[tG 16 (by omega) (by omega)];simp only[bind_some,Int.toNat_natCast];have cp:strings_Join (a.map k1) [44]=some (hQ (a.map k1) [44]):=by
  unfold strings_Join;have:=yq 44 2 (a.map k1) λx ae=>by
   obtain⟨y,_,rfl⟩:=List.mem_map.1 ae;exact yr y
  rw[List.length_map]at this;rw[if_pos ⟨by rw[List.length_map];omega,by omega⟩]
 rw[ZM (L:=vh a [44]) a k1 (List.replicate a.length []) (by simp) (λv=>(strings_Join v [44]).bind λbj=>some bj) (λm v=>?_) (λi ax m v hl=>?_),cp]
 .rfl
 .simp only[vh,Ey];rw[gq (Nat.le_refl _)];rfl
 .simp only[vh,Ey];rw[hG ax,fX _ i ax,hx i _ ax (by omega),fX v i (by omega)];simp only[cond_true,bind_some];rw[ZN (aE _ (List.getElem_mem ax))];simp only[bind_some,Int.toNat_natCast]
theorem ZO {α:Type} {L:Nat->aca->Int->Option aca} (a:List α) (t:α->aca) (c:UInt8) (k:Nat) (ak:∀x∈a,(t x).length<=k)
  (bg:∀m v,L (m+1) v (a.length:Int)=some v)
  (J:∀i (h:i<a.length) m v,v.length<=i*(k+1)->L (m+1) v (i:Int)=L m ((if i=0 then v else v++[c])++t a[i]) ((i+1:Nat):Int)):cL (λm=>L m [] 0)=some (hQ (a.map t) [c]):=by
 have key:∀i,i<=a.length->∀m,a.length-i<m->L m (hQ ((a.take i).map t) [c]) (i:Int)=some (hQ (a.map t) [c]):=by
  refine down a.length ?_ ?_
  .intro m hm;obtain⟨m,rfl⟩:∃aB,m=aB+1:=⟨m-1,by omega⟩
   rw[bg,List.take_length]
  .intro i ax ih m hm;obtain⟨m,rfl⟩:∃aB,m=aB+1:=⟨m-1,by omega⟩
   have hl:(hQ ((a.take i).map t) [c]).length<=i*(k+1):=by
    have:=yq c k ((a.take i).map t) λx ae=>by
     obtain⟨y,a6,rfl⟩:=List.mem_map.1 ae;exact ak y (List.mem_of_mem_take a6)
    rwa [List.length_map,List.length_take,Nat.min_eq_left (Nat.le_of_lt ax)]at this
   rw[J i ax m _ hl,<-ih m (by omega)];congr 1;rw[List.take_succ_eq_append_getElem ax,List.map_append,List.map_cons,List.map_nil];by_cases h:i=0
   .subst h;rw[if_pos rfl,List.take_zero,List.map_nil,List.nil_append,join_one];rfl
   .rw[if_neg h,Nc _ _ _ (by simp;exact⟨h,by intro e;subst e;simp at ax⟩),List.append_assoc]
 refine fZ (a.length+1) λm hm=>?_;have:=key 0 (by omega) m (by omega);simpa [hQ,List.intercalate,List.intersperse]using this
theorem ZP:∀d:Fin 10,lx (i64.wrap (48+((d:Nat):Int)))=UInt8.ofNat (48+d):=by decide
theorem ZQ (n:Nat) (h:n<10):lx (i64.wrap (48+(n:Int)))=UInt8.ofNat (48+n):=ZP ⟨n,h⟩
theorem ZR (a:UInt8):ru [a]=some [a]:=by
 unfold ru;refine fZ 2 λm hm=>?_;obtain⟨m,rfl⟩:∃aB,m=aB+2:=⟨m-2,by omega⟩
 rfl
theorem ZS (a b:UInt8):ru [a,b]=some [b,a]:=by
 unfold ru;refine fZ 3 λm hm=>?_;obtain⟨m,rfl⟩:∃aB,m=aB+3:=⟨m-3,by omega⟩
 rfl
theorem Nf (a:Int) (m:Nat) (v:aca) (n:Nat) (aO:n≠0) (vI:n<1000) (aE:v.length<=10):qs a (m+1) v (n:Int)=qs a m (v++[UInt8.ofNat (48+n%10)]) ((n/10:Nat):Int):=by
 simp only[qs,D6,zY];have aH:((n:Int) !=0)=true:=by simp;omega
 have aN:Int.tmod (n:Int) 10=((n%10:Nat):Int):=rfl;have aP:decide (((n%10:Nat):Int)<0)=false:=by simp only[decide_eq_false_iff_not];omega
 have bQ:Int.tdiv (n:Int) 10=((n/10:Nat):Int):=rfl;rw[aH,aN,aP,bQ,ZQ (n%10) (by omega),fB ((n/10:Nat):Int) (by omega),pT (by omega) (by omega)];rfl
theorem Ng (a:Int) (bx:0<=a) (m:Nat) (v:aca):qs a (m+1) v 0=ru v:=by
 simp only[qs,D6];have e:decide (a<0)=false:=by simp only[decide_eq_false_iff_not];omega
 rw[e];rfl
theorem ZT (n:Nat) (h:n<100):xC (n:Int)=some (k3 n):=by
 unfold xC;by_cases bg:n=0
 .subst bg;rfl
 have e:((n:Int)==0)=false:=by simp;omega
 rw[e,cond_false];refine fZ 3 λm hm=>?_;obtain⟨m,rfl⟩:∃aB,m=aB+3:=⟨m-3,by omega⟩
 rw[Nf _ _ _ n bg (by omega) (by simp)];by_cases R:n<10
 .have aH:n/10=0:=by omega
  have aN:n%10=n:=by omega
  rw[aH,aN];rw[show(((0:Nat):Int))=0 from rfl,Ng _ (by omega),List.nil_append,ZR,k3,if_pos R]
 .rw[Nf _ _ _ (n/10) (by omega) (by omega) (by simp)];have aH:n/10/10=0:=by omega
  have aN:n/10%10=n/10:=by omega
  rw[aH,aN];rw[show(((0:Nat):Int))=0 from rfl,Ng _ (by omega),List.nil_append,List.singleton_append,ZS,k3,if_neg R]
def qO (a:acd):aca:=if a=[]then [45]else hQ (a.map k1) [44]
theorem Gg (a:acd):(qO a).length<=a.length*3+1:=by
 unfold qO;split
 .simp
 .have:=yq 44 2 (a.map k1) λx ae=>by
   obtain⟨y,_,rfl⟩:=List.mem_map.1 ae;exact yr y
  rw[List.length_map]at this;omega
theorem ZU {x:Int} (h:0<=x/\x<=63):xC x=some (k1 x):=by
 have:=ZT x.toNat (by omega)
 rwa [Int.toNat_of_nonneg h.1]at this
theorem ZV (a:acd) (h:a.length<=64) (aE:∀x∈a,0<=x/\x<=63):z1 a=some (qO a):=by
 unfold z1 qO;by_cases bx:a=[]
 .subst bx;rfl
 have e:((a.length:Int)==0)=false:=by
  have:a.length≠0:=λh=>bx (List.length_eq_zero_iff.1 h);simp;exact bx
 rw[e,cond_false,if_neg bx];refine ZO (L:=s_ a) a k1 44 2 (λx _=>yr x) (λm v=>?_) (λi ax m v hl=>?_)
 .simp only[s_,D7];rw[gq (Nat.le_refl _)];rfl
 .simp only[s_,D7,zZ];have ae:=yr a[i];have ok:∀n,n<=1048576->h8 n=some ():=λn aO=>by unfold h8;rw[if_pos (by omega)]
  rw[hG ax,fX _ i ax,hx i _ ax (by omega),ok _ (by omega)];simp only[cond_true,bind_some];rw[ZU (aE _ (List.getElem_mem ax))];simp only[bind_some];by_cases bg:i=0
  .subst bg;rw[if_pos rfl,show decide ((0:Int)<((0:Nat):Int))=false from by decide,cond_false,ok _ (by omega)];rfl
  .rw[if_neg bg,show decide ((0:Int)<(i:Int))=true from by simp;omega,cond_true,ok _ (by simp only[List.length_append,List.length_cons,List.length_nil];omega)];rfl
end Go.mY
