/- Part of a proof that a law returns true for every input. No condition. -/
import Derived.Test.YtpdplcdnpaoceaaUV0x
namespace Go.nI
open Option Go.IntKind Nat Or
open Go Go.cM
def m4 (p:Int) (s:Xs):Int:=s.foldl (λp n=>i64.wrap (p*i64.wrap (n+1))) p
def rn (v:Int):Bool:=decide (v<=4096)
def nX (s:Xs):Bool:=decide (s.length<=8)&&(s.all (λn=>gL n 1 7)&&rn (m4 1 s))
def rp:Xq:=[116,97,117]
def s_ (s:Xq):Bool:=s8 s&& !(s==rp)
def lG (es:XA) (v:Int):Bool:=es.all λe=>hx e v 60
def nY (x:bD) (p:Int):Bool:=
 nX x.bw&&(hx x.Guard (p+x.bw.length) 60&&((x.Next.length:Int)==p&&((if x.Name=rp then decide (x.bP.length=0)else s_ x.Name&&decide (x.bP.length<=2))&&
  (lG x.bP (p+x.bw.length)&&lG x.Next (p+x.bw.length)))))
def pX (s:Xs) (p:Int):Bool:=(s.length:Int)==p&&s.all (λn=>gL n 0 63)
def nZ (l:cq):Bool:=gL l.c1 0 21&&(pX l.Start l.c1&&(decide (l.cY.length<=60)&&l.cY.all λx=>nY x l.c1))
theorem I2 (p:Int):m4 p []=p:=rfl
theorem I3 (p n:Int) (s:Xs):m4 p (n::s)=m4 (i64.wrap (p*i64.wrap (n+1))) s:=rfl
theorem vu (n c9 aE:Int):(decide (c9<=n)&&decide (n<=aE))=gL n c9 aE:=rfl
theorem I4:∀(s:Xs) (p:Int),s.all (λn=>gL n 1 7)=true->1<=p->p*8^s.length<=1099511627776->1<=m4 p s
 |[],p,_,h,_=>h
 |n::s,p,bQ,h,U=>by
  simp only[List.all_cons,Bool.and_eq_true,gL,decide_eq_true_eq]at bQ;obtain⟨⟨ab,ad⟩,aB⟩:=bQ;have aM:i64.wrap (n+1)=n+1:=hG _ (by omega);have UF:(1:Int)<=8^s.length:=by
   have:(0:Int)<8^s.length:=Int.pow_pos (by decide);omega
  have w2:p*8*8^s.length<=1099511627776:=by
   have:p*8*8^s.length=p*8^(n::s).length:=by rw[List.length_cons,Int.pow_succ,Int.mul_assoc,Int.mul_comm 8]
   rw[this];exact U
  have hle:p*(n+1)<=p*8:=Int.mul_le_mul_of_nonneg_left (by omega) (by omega);have Xg:p*8*1<=p*8*8^s.length:=Int.mul_le_mul_of_nonneg_left UF (by omega);have rI:p*1<=p*(n+1):=Int.mul_le_mul_of_nonneg_left (by omega) (by omega);have aS:i64.wrap (p*(n+1))=p*(n+1):=hG _ (by omega);simp only[m4,List.foldl_cons,aM,aS];refine I4 s (p*(n+1)) (by simpa [gL]using aB) (by omega) ?_;exact Int.le_trans (Int.mul_le_mul_of_nonneg_right hle (by omega)) w2
def yA (v:Int) (s:Xs):Int:=cond (s.all λn=>gL n 1 7) (cond (rn (m4 v s)) (m4 v s) 0) 0
theorem UG (v:Int):decide (4096<v)= !rn v:=by
 unfold rn;by_cases h:v<=4096
 .have:¬4096<v:=by omega
  simp[h,this]
 .have:4096<v:=by omega
  simp[h,this]
theorem UH (s:Xs) (h:s.length<=1048576):∃n,xc s=some n/\(n==0)= !nX s:=by
 unfold xc;by_cases ea:s.length<=8
 .have d:decide ((8:Int)<(s.length:Int))=false:=by simp only[decide_eq_false_iff_not];omega
  rw[d,cond_false];have key:∀i,i<=s.length->∀(v:Int) m,s.length-i<m->sd s m v (i:Int)=some (yA v (s.drop i)):=by
   refine down s.length ?_ ?_
   .intro v m hm;obtain⟨m,rfl⟩:∃j,m=j+1:=⟨m-1,by omega⟩
    simp only[sd,Bh];rw[fT (Nat.le_refl _),List.drop_of_length_le (Nat.le_refl _),UG];simp only[yA,List.all_nil,cond_true,cond_false,I2];cases rn v<;>rfl
   .intro i aE ih v m hm;obtain⟨m,rfl⟩:∃j,m=j+1:=⟨m-1,by omega⟩
    simp only[sd,Bh,mT];rw[g3 aE,hf _ i aE,gh i _ aE (by omega),drop_cons s i aE];simp only[cond_true,bind_some];rw[ih _ m (by omega)];simp only[vu,yA,List.all_cons,I3];cases gL s[i] 1 7
    .rfl
    .rfl
  refine⟨_,fV (s.length+1) λm hm=>by have:=key 0 (by omega) 1 m (by omega);simpa using this,?_⟩;unfold nX yA;have d8:decide (s.length<=8)=true:=by simpa using ea
  rw[d8,Bool.true_and];cases bQ:s.all (λn=>gL n 1 7)
  .rfl
  .have ao:=I4 s 1 bQ (by omega) (by
    have:∀k:Nat,k<=8->(8:Int)^k<=16777216:=by decide
    have:=this s.length ea;omega)
   cases hw:rn (m4 1 s)
   .rfl
   .have:(m4 1 s==0)=false:=by simp;omega
    simpa using this
 .have d:decide ((8:Int)<(s.length:Int))=true:=by simp only[decide_eq_true_eq];omega
  rw[d,cond_true];refine⟨0,rfl,?_⟩;unfold nX;have d8:decide (s.length<=8)=false:=by simpa using ea
  rw[d8];rfl
theorem UI (x:bD) (h:x.bw.length<=1048576):xv x=some (nX x.bw):=by
 unfold xv;have key:∀i,i<=x.bw.length->∀(v:Int) m,x.bw.length-i<m->su x m v (i:Int)=some ((x.bw.drop i).all (λn=>gL n 1 7)&&(decide (x.bw.length<=8)&&rn (m4 v (x.bw.drop i)))):=by
  refine down x.bw.length ?_ ?_
  .intro v m hm;obtain⟨m,rfl⟩:∃j,m=j+1:=⟨m-1,by omega⟩
   simp only[su,BA];rw[fT (Nat.le_refl _),List.drop_of_length_le (Nat.le_refl _)];have:decide ((x.bw.length:Int)<=8)=decide (x.bw.length<=8):=by
    by_cases h:x.bw.length<=8
    .have bj:(x.bw.length:Int)<=8:=by omega
     simp[h,bj]
    .have bj:¬(x.bw.length:Int)<=8:=by omega
     simp[h,bj]
   rw[this];simp only[cond_false,List.all_nil,Bool.true_and,I2];rfl
  .intro i aE ih v m hm;obtain⟨m,rfl⟩:∃j,m=j+1:=⟨m-1,by omega⟩
   simp only[su,BA,lq];rw[g3 aE,hf _ i aE,gh i _ aE (by omega),drop_cons x.bw i aE];simp only[cond_true,bind_some,List.all_cons];rw[ih _ m (by omega)];simp only[vu,I3];cases gL x.bw[i] 1 7<;>simp
 refine fV (x.bw.length+1) λm hm=>?_;have:=key 0 (by omega) 1 m (by omega);rw[List.drop_zero]at this;refine this.trans ?_;unfold nX;cases x.bw.all (λn=>gL n 1 7)<;>simp
theorem I5 (es:XA) (v:Int) (aD: -1000000<=v/\v<=1000000) (h:es.length<=1048576) (he:∀e∈es,e.length<=1048576):qV es v=some (lG es v):=by
 unfold qV lG;refine yy es (λe=>hx e v 60) (λm=>?_) λi aE m=>?_
 .simp only[uQ,Bj];rw[fT (Nat.le_refl _)];rfl
 .simp only[uQ,Bj];rw[g3 aE,hf _ i aE,gh i _ aE (by omega)];simp only[cond_true,bind_some,I0 _ v 60 aD (he _ (List.getElem_mem aE))];cases hx es[i] v 60<;>rfl
theorem UJ (s:Xq):xf s=some (s_ s):=by
 unfold xf;rw[UC];rfl
theorem UK (s:Xq) (aa:s.length<=140737488355328):uY s=some (s_ s):=by
 unfold uY;rw[UD s aa];rfl
def C2 (e:XA):Prop:=e.length<=1048576/\∀t∈e,t.length<=1048576
def yB (x:bD):Prop:=x.bw.length<=1048576/\x.Guard.length<=1048576/\x.Name.length<=1048576/\C2 x.bP/\C2 x.Next
def vv (l:cq):Prop:=l.Start.length<=1048576/\l.cY.length<=1048576/\∀x∈l.cY,yB x
theorem I6 {s:Xq} (h:s=rp):(s==([116,97,117]:Xq))=true:=by subst h;rfl
theorem I7 {s:Xq} (h:s≠rp):(s==([116,97,117]:Xq))=false:=by simpa [rp]using h
theorem UL (x:bD) (p:Int) (ao:0<=p/\p<=21) (an:yB x):xg x p=some (nY x p):=by
 obtain⟨ab,ad,aB,aY,bn⟩:=an;unfold xg nY;obtain⟨n,aM,aS⟩:=UH x.bw ab;rw[aM];simp only[bind_some,aS];cases aa:nX x.bw
 .rfl
 .have ea:x.bw.length<=8:=by simp only[nX,Bool.and_eq_true,decide_eq_true_eq]at aa;exact aa.1
  have hw:i64.wrap (p+(x.bw.length:Int))=p+(x.bw.length:Int):=hG (p+(x.bw.length:Int)) ⟨by omega,by omega⟩;simp only[hw,I0 x.Guard (p+(x.bw.length:Int)) 60 (by omega) ad,I5 x.bP (p+(x.bw.length:Int)) (by omega) aY.1 aY.2,I5 x.Next (p+(x.bw.length:Int)) (by omega) bn.1 bn.2,UJ,bind_some,Bool.not_true,cond_false,Bool.true_and];cases hx x.Guard (p+(x.bw.length:Int)) 60
  .rfl
  .cases aU:(x.Next.length:Int)==p
   .have:((x.Next.length:Int) !=p)=true:=by simp only[bne,aU];rfl
    rw[this];rfl
   .have:((x.Next.length:Int) !=p)=false:=by simp only[bne,aU];rfl
    rw[this];simp only[Bool.not_true,Bool.or_self,cond_false,Bool.true_and];by_cases aN:x.Name=rp
    .rw[I6 aN,if_pos aN];simp only[cond_true,Bool.not_true,cond_false];by_cases bQ:x.bP.length=0
     .have d1:decide ((0:Int)<(x.bP.length:Int))=false:=by simp only[decide_eq_false_iff_not];omega
      have d2:decide ((2:Int)<(x.bP.length:Int))=false:=by simp only[decide_eq_false_iff_not];omega
      have d3:decide (x.bP.length=0)=true:=by simpa using bQ
      rw[d1,d2,d3];cases lG x.bP (p+(x.bw.length:Int))<;>cases lG x.Next (p+(x.bw.length:Int))<;>rfl
     .have d1:decide ((0:Int)<(x.bP.length:Int))=true:=by simp only[decide_eq_true_eq];omega
      have d3:decide (x.bP.length=0)=false:=by simpa using bQ
      rw[d1,d3];rfl
    .rw[I7 aN,if_neg aN];simp only[Bool.not_false,cond_true,cond_false];cases s_ x.Name
     .rfl
     .by_cases bQ:x.bP.length<=2
      .have d2:decide ((2:Int)<(x.bP.length:Int))=false:=by simp only[decide_eq_false_iff_not];omega
       have d3:decide (x.bP.length<=2)=true:=by simpa using bQ
       rw[d2,d3];cases lG x.bP (p+(x.bw.length:Int))<;>cases lG x.Next (p+(x.bw.length:Int))<;>rfl
      .have d2:decide ((2:Int)<(x.bP.length:Int))=true:=by simp only[decide_eq_true_eq];omega
       have d3:decide (x.bP.length<=2)=false:=by simpa using bQ
       rw[d2,d3];rfl
theorem UM (s:Xs) (p:Int) (h:s.length<=1048576):xb s p=some (pX s p):=by
 unfold xb pX;have e:xa s=some (s.all λn=>gL n 0 63):=by
  unfold xa;refine yy s (λn=>gL n 0 63) (λm=>?_) λi aE m=>?_
  .simp only[uN,Bg];rw[fT (Nat.le_refl _)];rfl
  .simp only[uN,Bg,mT];rw[g3 aE,hf _ i aE,gh i _ aE (by omega)];simp only[cond_true,bind_some,vu];cases gL s[i] 0 63<;>rfl
 rw[e];cases(s.length:Int)==p<;>rfl
theorem UN (l:cq) (h:vv l):xh l=some (nZ l):=by
 unfold xh nZ mT;simp only[bind_some,vu];rw[UM _ _ h.1];simp only[bind_some];cases ao:gL l.c1 0 21
 .rfl
 .cases pX l.Start l.c1
  .rfl
  .simp only[Bool.not_true,cond_false,Bool.false_or,Bool.true_and];have c_:0<=l.c1/\l.c1<=21:=by simpa [gL]using ao
   by_cases vw:l.cY.length<=60
   .have d1:decide ((60:Int)<(l.cY.length:Int))=false:=by simp only[decide_eq_false_iff_not];omega
    have d2:decide (l.cY.length<=60)=true:=by simpa using vw
    rw[d1,d2,cond_false,Bool.true_and];refine yy l.cY (λx=>nY x l.c1) (λm=>?_) λi aE m=>?_
    .simp only[uT,Bm];rw[fT (Nat.le_refl _)];rfl
    .simp only[uT,Bm];rw[g3 aE,hf _ i aE,gh i _ aE (by omega)];simp only[cond_true,bind_some,UL _ _ c_ (h.2.2 _ (List.getElem_mem aE))];cases nY l.cY[i] l.c1<;>rfl
   .have d1:decide ((60:Int)<(l.cY.length:Int))=true:=by simp only[decide_eq_true_eq];omega
    have d2:decide (l.cY.length<=60)=false:=by simpa using vw
    rw[d1,d2];rfl
def pY {α:Type} (ls:List (List α)):Nat:=fs List.length ls
theorem UO (n:Int) (ba:0<=n) (h:n<=1099511627776):xz n=some ():=by
 unfold xz BC xy;have fb:i64.wrap 0=0:=hG 0 (by omega);have aM:i64.wrap (n-0)=n:=by rw[hG (n-0) (by omega)];omega
 have d:decide (n<0)=false:=by simp only[decide_eq_false_iff_not];omega
 rw[d,fb,aM,show lJ 24 n=some () by unfold lJ;rw[if_pos ⟨by omega,by omega,by omega⟩]];cases decide (0<n)<;>rfl
theorem UP (ls:List XA) (h:ls.length<=1048576) (aa:pY ls<=1099511627776):xB ls=some ls.flatten:=by
 have BF:cC (λn=>qY ls n [] 0)=some ls.flatten:=by
  have key:∀i,i<=ls.length->∀(v:XA) m,v.length+pY (ls.drop i)<=1099511627776->ls.length-i<m->qY ls m v (i:Int)=some (v++(ls.drop i).flatten):=by
   refine down ls.length ?_ ?_
   .intro v m _ hm;obtain⟨m,rfl⟩:∃j,m=j+1:=⟨m-1,by omega⟩
    simp only[qY,BE];rw[fT (Nat.le_refl _),List.drop_of_length_le (Nat.le_refl _)];simp
   .intro i aE ih v m aD hm;obtain⟨m,rfl⟩:∃j,m=j+1:=⟨m-1,by omega⟩
    rw[drop_cons ls i aE]at aD⊢;simp only[pY,fs]at aD;simp only[qY,BE];rw[g3 aE,hf _ i aE,gh i _ aE (by omega)];simp only[cond_true,bind_some];rw[ml (by omega) (by omega)];simp only[bind_some];rw[ih _ m (by simp only[List.length_append,pY];omega) (by omega)];simp only[List.flatten_cons,List.append_assoc]
  refine fV (ls.length+1) λm hm=>?_;have:=key 0 (by omega) [] m (by simpa using aa) (by omega);simpa using this
 unfold xB;have key:∀i,i<=ls.length->∀(v:Int) m,0<=v->v+pY (ls.drop i)<=1099511627776->ls.length-i<m->qZ ls m v (i:Int)=some ls.flatten:=by
  refine down ls.length ?_ ?_
  .intro v m ba aD hm;obtain⟨m,rfl⟩:∃j,m=j+1:=⟨m-1,by omega⟩
   simp only[qZ,BG];rw[fT (Nat.le_refl _),UO v ba (by omega)];simp only[cond_false,bind_some];exact BF
  .intro i aE ih v m ba aD hm;obtain⟨m,rfl⟩:∃j,m=j+1:=⟨m-1,by omega⟩
   rw[drop_cons ls i aE]at aD;simp only[pY,fs]at aD;simp only[qZ,BG,BD];rw[g3 aE,hf _ i aE,gh i _ aE (by omega)];simp only[cond_true,bind_some];have e:i64.wrap (v+(ls[i].length:Int))=v+(ls[i].length:Int):=hG (v+(ls[i].length:Int)) ⟨by omega,by omega⟩;have d:decide (v+(ls[i].length:Int)<0)=false:=by simp only[decide_eq_false_iff_not];omega
   rw[e,d,cond_false];exact ih _ m (by omega) (by simp only[pY];omega) (by omega)
 refine fV (ls.length+1) λm hm=>?_;exact key 0 (by omega) 0 m (by omega) (by rw[List.drop_zero];omega) (by omega)
theorem UQ (x:bD) (an:yB x):sx x=some (x.Guard::(x.bP++x.Next)):=by
 unfold sx;have aY:=an.2.2.2.1.1;have bn:=an.2.2.2.2.1;rw[UP _ (by simp) (by simp only[pY,fs,List.length_cons,List.length_nil];omega)];simp
theorem UR (x:bD) (p:Int) (ao:0<=p/\p<=21) (ea:x.bw.length<=8) (es:XA) (h:es.length<=1099511627776) (he:∀e∈es,e.length<=1048576):
  q0 es p x=some (!lG es (p+x.bw.length)):=by
 unfold q0 BI;rw[vt (f:=λe=>xF e p x) es (λe=> !hx e (p+x.bw.length) 60) (λm i=>by simp only[xG,Hs]) (λe hm=>by
  unfold xF;have hw:i64.wrap (p+(x.bw.length:Int))=p+(x.bw.length:Int):=hG (p+(x.bw.length:Int)) ⟨by omega,by omega⟩;rw[hw,UB e _ 60 (by omega) (by omega) (he e hm)];rfl) h]
 simp only[bind_some,s9,yz];rfl
theorem US (x:bD) (p:Int) (ao:0<=p/\p<=21) (an:yB x):xH x p=some (nY x p):=by
 have lR:=an;obtain⟨ab,ad,aB,aY,bn⟩:=an;unfold xH nY;rw[UI x ab];simp only[bind_some];cases aa:nX x.bw
 .rfl
 .have ea:x.bw.length<=8:=by simp only[nX,Bool.and_eq_true,decide_eq_true_eq]at aa;exact aa.1
  have z5:q0 (x.Guard::(x.bP++x.Next)) p x=some (!(hx x.Guard (p+x.bw.length) 60&&(lG x.bP (p+x.bw.length)&&lG x.Next (p+x.bw.length)))):=by
   have Xh:=aY.1;have Xi:=bn.1;rw[UR x p ao ea _ (by simp only[List.length_cons,List.length_append];omega) (λe he=>by
    rcases List.mem_cons.1 he with rfl|he
    .exact ad
    .rcases List.mem_append.1 he with he|he
     .exact aY.2 e he
     .exact bn.2 e he)]
   simp only[lG,List.all_cons,List.all_append]
  rw[UQ x lR,UK _ (by omega)];simp only[bind_some,z5,Bool.not_true,Bool.false_or,Bool.true_and,Bool.not_not];cases aU:(x.Next.length:Int)==p
  .have:((x.Next.length:Int) !=p)=true:=by simp only[bne,aU];rfl
   rw[this];cases hx x.Guard (p+(x.bw.length:Int)) 60<;>rfl
  .have:((x.Next.length:Int) !=p)=false:=by simp only[bne,aU];rfl
   rw[this];simp only[cond_false,Bool.true_and];by_cases aN:x.Name=rp
   .rw[I6 aN,if_pos aN];simp only[cond_true,Bool.not_true,cond_false];by_cases bQ:x.bP.length=0
    .have d1:decide ((0:Int)<(x.bP.length:Int))=false:=by simp only[decide_eq_false_iff_not];omega
     have d3:decide (x.bP.length=0)=true:=by simpa using bQ
     rw[d1,d3];simp
    .have d1:decide ((0:Int)<(x.bP.length:Int))=true:=by simp only[decide_eq_true_eq];omega
     have d3:decide (x.bP.length=0)=false:=by simpa using bQ
     rw[d1,d3];cases hx x.Guard (p+(x.bw.length:Int)) 60<;>rfl
   .rw[I7 aN,if_neg aN];simp only[Bool.not_false,cond_true,cond_false];by_cases bQ:x.bP.length<=2
    .have d2:decide ((2:Int)<(x.bP.length:Int))=false:=by simp only[decide_eq_false_iff_not];omega
     have d3:decide (x.bP.length<=2)=true:=by simpa using bQ
     rw[d2,d3];cases decide ((0:Int)<(x.bP.length:Int))<;>cases s_ x.Name<;>cases hx x.Guard (p+(x.bw.length:Int)) 60<;>simp
    .have d1:decide ((0:Int)<(x.bP.length:Int))=true:=by simp only[decide_eq_true_eq];omega
     have d2:decide ((2:Int)<(x.bP.length:Int))=true:=by simp only[decide_eq_true_eq];omega
     have d3:decide (x.bP.length<=2)=false:=by simpa using bQ
     rw[d1,d2,d3];cases s_ x.Name<;>cases hx x.Guard (p+(x.bw.length:Int)) 60<;>rfl
theorem UT (l:cq) (s:Xs) (h:s.length<=1048576):xu l s=some (pX s l.c1):=by
 unfold xu Bz Bx Bw;rw[vt (f:=Bv) s (λn=> !gL n 0 63) (λm i=>by simp only[xt,Hr]) (λn _=>rfl) (by omega)];simp only[bind_some,s9,yz,Bool.not_not];unfold pX;cases(s.length:Int)==l.c1<;>rfl
theorem UU (l:cq) (h:vv l):xK l=some (nZ l):=by
 unfold xK nZ lq;simp only[bind_some,vu];rw[UT _ _ h.1];simp only[bind_some];cases ao:gL l.c1 0 21
 .rfl
 .cases pX l.Start l.c1
  .rfl
  .simp only[Bool.not_true,cond_false,Bool.false_or,Bool.true_and];have c_:0<=l.c1/\l.c1<=21:=by simpa [gL]using ao
   by_cases vw:l.cY.length<=60
   .have d1:decide ((60:Int)<(l.cY.length:Int))=false:=by simp only[decide_eq_false_iff_not];omega
    have d2:decide (l.cY.length<=60)=true:=by simpa using vw
    rw[d1,d2,cond_false,Bool.true_and];unfold BK BJ;rw[vt (f:=λx=>xI x l) l.cY (λx=> !nY x l.c1) (λm i=>by simp only[xJ,Ht]) (λx an=>by
     unfold xI;rw[US x _ c_ (h.2.2 x an)];rfl) (by omega)]
    simp only[bind_some,s9,yz,Bool.not_not]
   .have d1:decide ((60:Int)<(l.cY.length:Int))=true:=by simp only[decide_eq_true_eq];omega
    have d2:decide (l.cY.length<=60)=false:=by simpa using vw
    rw[d1,d2];rfl
theorem I8 (es:XA) (h:gK (λx:List aK=>x.length+0) es<=1048576):C2 es:=
 ⟨Nat.le_trans (pT _ _) h,λt aN=>by
  have:=s6 (f:=λx:List aK=>x.length+0) aN;simp only[Nat.add_zero]at this h;omega⟩
theorem UW (l:cq) (h:nW l<=1048576):vv l:=by
 unfold nW at h;have aa:gK i6 l.cY<=1048576:=by omega
 refine⟨by omega,Nat.le_trans (pT _ _) aa,λx an=>?_⟩;have hm:=s6 (f:=i6) an;have UX:i6 x<=1048576:=by omega
 unfold i6 at UX;exact⟨by omega,by omega,by omega,I8 _ (by omega),I8 _ (by omega)⟩
theorem UY {α γ β:Type} {L:Nat->List γ->Int->Option β} (a:List α) (g:α->γ) (b:Nat) (E:List γ->Option β)
  (ba:∀m v,v.length<=b+a.length->L (m+1) v (a.length:Int)=E v)
  (aa:∀i (h:i<a.length) m v,v.length<=b+i->L (m+1) v (i:Int)=L m (v++[g a[i]]) ((i+1:Nat):Int)) (s:List γ) (U:s.length<=b):
  cC (λm=>L m s 0)=E (s++a.map g):=by
 have key:∀i,i<=a.length->∀v m,v.length<=b+i->a.length-i<m->L m v (i:Int)=E (v++(a.drop i).map g):=by
  refine down a.length ?_ ?_
  .intro v m aD hm;obtain⟨m,rfl⟩:∃j,m=j+1:=⟨m-1,by omega⟩
   rw[ba m v aD,List.drop_of_length_le (Nat.le_refl _)];simp
  .intro i aE ih v m aD hm;obtain⟨m,rfl⟩:∃j,m=j+1:=⟨m-1,by omega⟩
   rw[aa i aE m v aD,ih _ m (by simp only[List.length_append,List.length_cons,List.length_nil];omega) (by omega),drop_cons a i aE];simp only[List.map_cons,List.append_assoc,List.cons_append,List.nil_append]
 refine fV (a.length+1) λm hm=>?_;have:=key 0 (by omega) s m (by omega) (by omega);simpa using this
def setRow {α:Type} (a:List α) (g:α->α) (i:Nat):List α:=(a.take i).map g++a.drop i
theorem C3 {α:Type} (a:List α) (g:α->α) (i:Nat):(setRow a g i).length=a.length:=by
 simp only[setRow,List.length_append,List.length_map,List.length_take,List.length_drop];omega
theorem UZ {α:Type} (a:List α) (g:α->α) (i:Nat) (h:i<a.length):bR (setRow a g i) (i:Int)=some a[i]:=by
 rw[hf _ i (by rw[C3];exact h)];congr 1;simp only[setRow];rw[List.getElem_append_right (by simp;omega)];simp[Nat.min_eq_left (Nat.le_of_lt h)]
theorem U0 {α:Type} (a:List α) (g:α->α) (i:Nat) (h:i<a.length):(setRow a g i).set i (g a[i])=setRow a g (i+1):=by
 have e:((a.take i).map g).length=i:=by simp;omega
 simp only[setRow];rw[List.set_append_right i _ (by rw[e];omega),e,Nat.sub_self,drop_cons a i h,List.set_cons_zero,List.take_succ_eq_append_getElem h,List.map_append];simp
theorem U1 {α:Type} (a:List α) (g:α->α):setRow a g 0=a:=by simp[setRow]
theorem U2 {α:Type} (a:List α) (g:α->α):setRow a g a.length=a.map g:=by simp[setRow]
theorem U3 {α β:Type} {L:Nat->List α->Int->Option β} (a:List α) (g:α->α) (E:List α->Option β)
  (ba:∀m v,v.length=a.length->L (m+1) v (a.length:Int)=E v)
  (aa:∀i (h:i<a.length) m v,v.length=a.length->bR v (i:Int)=some a[i]->L (m+1) v (i:Int)=L m (v.set i (g a[i])) ((i+1:Nat):Int)):
  cC (λm=>L m a 0)=E (a.map g):=by
 have key:∀i,i<=a.length->∀m,a.length-i<m->L m (setRow a g i) (i:Int)=E (a.map g):=by
  refine down a.length ?_ ?_
  .intro m hm;obtain⟨m,rfl⟩:∃j,m=j+1:=⟨m-1,by omega⟩
   rw[ba m _ (C3 ..),U2]
  .intro i aE ih m hm;obtain⟨m,rfl⟩:∃j,m=j+1:=⟨m-1,by omega⟩
   rw[aa i aE m _ (C3 ..) (UZ a g i aE),U0 a g i aE,ih m (by omega)]
 refine fV (a.length+1) λm hm=>?_;have:=key 0 (by omega) m (by omega);simpa [U1]using this
mutual
def dX:bq->XD
 | .mk t a=>t::eL a
def eL:List bq->XD
 |[]=>[]
 |x::r=>dX x++eL r
end
mutual
def fE:bq->Nat
 | .mk _ a=>1+hy a
def hy:List bq->Nat
 |[]=>0
 |x::r=>fE x+hy r
end
mutual
def i7:bq->Prop
 | .mk t a=>a.length=fU t/\k8 a
def k8:List bq->Prop
 |[]=>True
 |x::r=>i7 x/\k8 r
end
theorem I9 (x:bq):bq.mk x.term x.args=x:=by cases x;rfl
theorem m5 (x:bq):dX x=x.term::eL x.args:=by cases x;simp[dX,bq.term,bq.args]
mutual
theorem o0:∀x,(dX x).length=fE x
 | .mk t a=>by simp only[dX,fE,List.length_cons,vx a];omega
theorem vx:∀a,(eL a).length=hy a
 |[]=>by simp only[eL,hy,List.length_nil]
 |x::r=>by simp only[eL,hy,List.length_append,o0 x,vx r]
end
theorem yC:∀a b,eL (a++b)=eL a++eL b
 |[],b=>by simp only[eL,List.nil_append]
 |x::r,b=>by simp only[List.cons_append,eL,yC r b,List.append_assoc]
theorem C4:∀a b,k8 (a++b)↔k8 a/\k8 b
 |[],b=>by simp[k8]
 |x::r,b=>by simp only[List.cons_append,k8,C4 r b];exact⟨λ⟨a,b,c⟩=>⟨⟨a,b⟩,c⟩,λ⟨⟨a,b⟩,c⟩=>⟨a,b,c⟩⟩
theorem yD:∀{a:List bq},k8 a->∀x∈a,i7 x
 |y::r,h,x,an=>by
  rcases List.mem_cons.1 an with rfl|an
  .exact h.1
  .exact yD h.2 x an
theorem yE:∀{a:List bq},∀x∈a,fE x<=hy a
 |y::r,x,an=>by
  simp only[hy];rcases List.mem_cons.1 an with rfl|an
  .omega
  .have:=yE x an;omega
theorem o1 (x:bq):1<=fE x:=by cases x;simp only[fE];omega
theorem yF (x:bq):fE x=1+hy x.args:=by cases x;simp[fE,bq.args]
theorem rq (x:bq):i7 x↔x.args.length=fU x.term/\k8 x.args:=by cases x;simp[i7,bq.args,bq.term]
theorem I_ (v:Int):∀(e:XD) (k:Nat),kg v e k=true->∃xs:List bq,xs.length=k/\k8 xs/\eL xs=e
 |[],k,h=>by
  simp only[kg,beq_iff_eq]at h;subst h;exact⟨[],rfl,trivial,by simp only[eL]⟩
 |t::r,k,h=>by
  simp only[kg,Bool.and_eq_true,Bool.not_eq_true',beq_eq_false_iff_ne]at h;obtain⟨ai,aN,aI⟩:=h;obtain⟨bT,ab,ad,aB⟩:=I_ v r _ aI;refine⟨.mk t (bT.take (fU t))::bT.drop (fU t),?_,?_,?_⟩
  .simp;omega
  .have aa:=List.take_append_drop (fU t) bT;have hw:=(C4 (bT.take (fU t)) (bT.drop (fU t))).1 (by rw[aa];exact ad);exact⟨⟨by simp;omega,hw.1⟩,hw.2⟩
  .simp only[eL,dX,List.cons_append];rw[<-yC,List.take_append_drop,aB]
theorem U4 {v most:Int} {e:XD} (h:hx e v most=true):∃x,i7 x/\dX x=e:=by
 simp only[hx,Bool.and_eq_true]at h;obtain⟨xs,ab,ad,aB⟩:=I_ v e 1 h.2;cases xs with
 |nil=>simp at ab
 |cons x r=>
  cases r with
  |nil=>exact⟨x,ad.1,by simpa [eL]using aB⟩
  |cons y r=>simp at ab
theorem U5 (rec:XD->Option (aK×List bq×XD)) (t:aK) (a:List bq) (rest:XD) (bQ:a.length<=1000)
  (C5:∀x∈a,∀rest,rec (dX x++rest)=some (x.term,x.args,rest)):cC (λn=>q1 rec t (a.length:Int) n [] (eL a++rest) 0)=some (t,a,rest):=by
 have key:∀i,i<=a.length->∀m,a.length-i<m->q1 rec t (a.length:Int) m (a.take i) (eL (a.drop i)++rest) (i:Int)=some (t,a,rest):=by
  refine down a.length ?_ ?_
  .intro m hm;obtain⟨m,rfl⟩:∃j,m=j+1:=⟨m-1,by omega⟩
   simp only[q1,BS];rw[fT (Nat.le_refl _)];simp[eL]
  .intro i aE ih m hm;obtain⟨m,rfl⟩:∃j,m=j+1:=⟨m-1,by omega⟩
   simp only[q1,BS];rw[g3 aE,gh i _ aE (by omega),drop_cons a i aE];simp only[cond_true,eL,List.append_assoc];rw[C5 _ (List.getElem_mem aE)];simp only[bind_some];rw[ml (by simp;omega) (by simp;omega),I9];simp only[bind_some];have vy:=ih m (by omega);rw[List.take_succ_eq_append_getElem aE]at vy;exact vy
 refine fV (a.length+1) λm hm=>?_;have:=key 0 (by omega) m (by omega);simpa using this
theorem U6 (n:Nat):∀x,i7 x->fE x<=n->∀rest,sB n (dX x++rest)=some (x.term,x.args,rest):=by
 induction n with
 |zero=>intro x _ h;have:=o1 x;omega
 |succ n ih=>
  intro x hw aa rest;obtain⟨ab,ad⟩:=(rq x).1 hw;have cK:=yF x;simp only[sB,BT,m5,List.cons_append,pS,bind_some,Ug,IZ,<-ab];refine U5 _ _ _ _ (by have:=vr x.term;omega) λy a2 rest=>ih y (yD ad y a2) ?_ rest;have:=yE y a2;omega
theorem U7 (x:bq) (hw:i7 x):xP (dX x)=some (x.term,x.args):=by
 unfold xP BU;rw[fV (x:=some (x.term,x.args,[])) (fE x) λn aU=>by
  have:=U6 n x hw aU [];simpa using this]
 rfl
def vz (op a b:Int):Int:=
 cond (op==0) (Int.tmod (i64.wrap (a+b)) 64) (cond (op==1) (Int.tmod (i64.wrap ((i64.wrap (a-b))+64)) 64) (cond (op==2) (Int.tmod (i64.wrap (a*b)) 64) (cond (op==3) (pU (a==b)) (cond (op==4) (pU (a !=b)) (cond (op==5) (pU (decide (a<b))) (cond (op==6) (pU (decide (a<=b))) (cond (op==7) (pU ((a !=0)&&(b !=0))) (pU ((a !=0)||(b !=0))))))))))
theorem U8 (op a b:Int):xQ op a b=some (vz op a b):=by
 unfold xQ vz mf;simp only[yu,bind_some];cases op==0<;>cases op==1<;>cases op==2<;>cases op==3<;>cases op==4<;>cases op==5<;>cases op==6<;>cases op==7<;>cases a !=0<;>cases b !=0<;>rfl
theorem U9 (op a b:Int):xk op a b=some (vz op a b):=by
 unfold xk vz mc;simp only[yu,bind_some];cases op==0<;>cases op==1<;>cases op==2<;>cases op==3<;>cases op==4<;>cases op==5<;>cases op==6<;>cases op==7<;>cases a !=0<;>cases b !=0<;>rfl
def rr (t:aK) (l:Xs):Int:=cond (t.Kind==3) (pU (l.getD 0 0==0)) (vz t.Value (l.getD 0 0) (l.getD 1 0))
def isNum (x:bq):Bool:=x.term.Kind==0
mutual
def dQ:bq->bq
 | .mk t a=>if a.length=0 then .mk t a else if(n0 a).all isNum=true then .mk ⟨0,rr t ((n0 a).map λx=>x.term.Value)⟩ []else .mk t (n0 a)
def n0:List bq->List bq
 |[]=>[]
 |x::r=>dQ x::n0 r
end
theorem C6:∀a,n0 a=a.map dQ
 |[]=>by simp only[n0,List.map_nil]
 |x::r=>by simp only[n0,List.map_cons,C6 r]
theorem yG (x:bq):dQ x=if x.args.length=0 then x else if(x.args.map dQ).all isNum=true then .mk ⟨0,rr x.term ((x.args.map dQ).map λx=>x.term.Value)⟩ []else .mk x.term (x.args.map dQ):=by
 cases x;simp only[dQ,bq.args,C6];rfl
theorem kinds {t:aK} (h:fU t≠0):t.Kind=3/\fU t=1\/t.Kind=2/\fU t=2:=by
 unfold fU at h⊢;by_cases ad:t.Kind=2
 .right;simp[ad]
 .by_cases aB:t.Kind=3
  .left;simp[aB]
  .rw[if_neg ad,if_neg aB]at h;exact(h rfl).elim
theorem U_ (t:aK) (b:List bq) (U:b.length=fU t) (ba:b.length≠0) (aU:b.all isNum=true):xS (.mk t b) []=some (rr t (b.map λx=>x.term.Value)):=by
 unfold xS;have wR:∀y∈b,∀n,1<=n->q2 n y []=some y.term.Value:=by
  intro y a2 n C7;obtain⟨n,rfl⟩:∃k,n=k+1:=⟨n-1,by omega⟩
  have ai:(y.term.Kind==0)=true:=List.all_eq_true.1 aU y a2;simp only[q2,xR,ai,cond_true]
 refine fV 2 λn C8=>?_;obtain⟨n,rfl⟩:∃k,n=k+1:=⟨n-1,by omega⟩
 simp only[q2,xR,bq.term,bq.args];rcases kinds (by omega:fU t≠0)with⟨ai,bQ⟩|⟨ai,bQ⟩
 .obtain⟨y,rfl⟩:∃y,b=[y]:=by
   cases b with
   |nil=>simp at ba
   |cons y r=>cases r with
    |nil=>exact⟨y,rfl⟩
    |cons z r=>simp at U;omega
  have k0:(t.Kind==0)=false:=by rw[ai];rfl
  have bM:(t.Kind==1)=false:=by rw[ai];rfl
  have cZ:(t.Kind==3)=true:=by rw[ai];rfl
  simp only[k0,bM,cZ,cond_false,cond_true,pS,bind_some,wR y (by simp) n (by omega),mf,yu,rr,List.map_cons,List.map_nil];rfl
 .obtain⟨y,z,rfl⟩:∃y z,b=[y,z]:=by
   cases b with
   |nil=>simp at ba
   |cons y r=>cases r with
    |nil=>simp at U;omega
    |cons z r=>cases r with
     |nil=>exact⟨y,z,rfl⟩
     |cons u r=>simp at U;omega
  have k0:(t.Kind==0)=false:=by rw[ai];rfl
  have bM:(t.Kind==1)=false:=by rw[ai];rfl
  have cZ:(t.Kind==3)=false:=by rw[ai];rfl
  have aO:bR [y,z] 1=some z:=rfl;simp only[k0,bM,cZ,cond_false,pS,aO,bind_some,wR y (by simp) n (by omega),wR z (by simp) n (by omega),U8,rr,List.map_cons,List.map_nil];rfl
theorem Va {x:bq} (hw:i7 x):x.args.length<=2:=by
 have ab:=((rq x).1 hw).1;have:=vr x.term;omega
theorem Vb (rec:bq->Option bq) (x:bq) (hw:i7 x) (ba:x.args.length≠0) (C5:∀y∈x.args,rec y=some (dQ y)):
  cC (λn=>q3 rec x n [] true 0)=some (dQ x):=by
 have hl:=Va hw;have key:∀i,i<=x.args.length->∀m,x.args.length-i<m->q3 rec x m ((x.args.map dQ).take i) (((x.args.map dQ).take i).all isNum) (i:Int)=some (dQ x):=by
  refine down x.args.length ?_ ?_
  .intro m hm;obtain⟨m,rfl⟩:∃j,m=j+1:=⟨m-1,by omega⟩
   simp only[q3,BW];rw[fT (Nat.le_refl _),List.take_of_length_le (by simp),yG,if_neg ba];cases aU:(x.args.map dQ).all isNum
   .simp
   .have:=U_ x.term (x.args.map dQ) (by rw[List.length_map];exact((rq x).1 hw).1) (by simpa using ba) aU;simp only[cond_true,cond_false,this,bind_some,BV,if_true]
  .intro i aE ih m hm;obtain⟨m,rfl⟩:∃j,m=j+1:=⟨m-1,by omega⟩
   simp only[q3,BW];rw[g3 aE,hf _ i aE,gh i _ aE (by omega)];simp only[cond_true,bind_some,C5 _ (List.getElem_mem aE)];rw[ml (by simp;omega) (by simp;omega)];simp only[bind_some];have vy:=ih m (by omega);rw[List.take_succ_eq_append_getElem (by simpa using aE),List.all_append]at vy;simpa [isNum]using vy
 refine fV (x.args.length+1) λm hm=>?_;have:=key 0 (by omega) m (by omega);simpa using this
theorem Vc (n:Nat):∀x,i7 x->fE x<=n->sD n x=some (dQ x):=by
 induction n with
 |zero=>intro x _ h;have:=o1 x;omega
 |succ n ih=>
  intro x hw aa;have cK:=yF x;simp only[sD,BX];by_cases ba:x.args.length=0
  .rw[yG,if_pos ba];simp[ba]
  .have U:((x.args.length:Int)==0)=false:=by simp;exact λh=>ba (by simp[h])
   rw[U,cond_false];refine Vb _ x hw ba λy a2=>ih y (yD ((rq x).1 hw).2 y a2) ?_;have:=yE y a2;omega
theorem Vd (x:bq) (hw:i7 x):xT x=some (dQ x):=by
 unfold xT;exact fV (fE x) λn aU=>Vc n x hw aU
mutual
theorem Ja:∀x,i7 x->i7 (dQ x)
 | .mk t a,h=>by
   simp only[dQ];split
   .exact h
   .split
    .exact⟨by simp[fU],trivial⟩
    .exact⟨by rw[C6,List.length_map];exact h.1,Jb a h.2⟩
theorem Jb:∀a,k8 a->k8 (n0 a)
 |[],_=>by simp[n0,k8]
 |x::r,h=>by simp only[n0];exact⟨Ja x h.1,Jb r h.2⟩
end
theorem C9:∀a:List bq,a.length<=hy a
 |[]=>zero_le _
 |x::r=>by have:=C9 r;have:=o1 x;simp only[List.length_cons,hy];omega
theorem Ve (e:XD) (he:e.length<=1048576) (rest:XD):∀(n:Nat) (xs:List bq) (i:Nat),k8 xs->hy xs=n->n<=1000000->i<=e.length->e.drop i=eL xs++rest->∀m,n<m->
  sk e m (i:Int) (xs.length:Int)=some ((i+n:Nat):Int):=by
 intro n;induction n with
 |zero=>
  intro xs i _ aa _ _ _ m hm;obtain⟨m,rfl⟩:∃j,m=j+1:=⟨m-1,by omega⟩
  have:xs=[]:=by
   cases xs with
   |nil=>rfl
   |cons x r=>simp only[hy]at aa;have:=o1 x;omega
  subst this;simp only[sk,Bo];have:decide ((0:Int)<(([]:List bq).length:Int))=false:=by decide
  rw[this];rfl
 |succ n ih=>
  intro xs i hw aa an aE af m hm;obtain⟨m,rfl⟩:∃j,m=j+1:=⟨m-1,by omega⟩
  cases xs with
  |nil=>simp[hy]at aa
  |cons x r=>
   obtain⟨t,a⟩:=x;have Jc:=hw.1;simp only[eL,dX,List.cons_append,List.append_assoc]at af;have c8:i<e.length:=by
    rcases Nat.lt_or_ge i e.length with h|h
    .exact h
    .rw[List.drop_of_length_le h]at af;cases af
   rw[drop_cons e i c8]at af;injection af with ab ad;simp only[sk,Bo];have d1:decide ((0:Int)<((bq.mk t a::r).length:Int))=true:=by simp
   have bQ:=vr t;have Xj:a.length=fU t:=Jc.1;rw[d1,hf _ i c8,ab,gh i _ c8 (by omega)];simp only[cond_true,bind_some,yw];rw[C1 (k:=(bq.mk t a::r).length) (by simp) (by have:=C9 (bq.mk t a::r);omega) bQ];have hlen:(bq.mk t a::r).length+fU t-1=(a++r).length:=by simp;omega
   have Xk:=C9 (bq.mk t a::r);rw[hlen,ih (a++r) (i+1) ((C4 a r).2 ⟨Jc.2,hw.2⟩) (by
    have:∀a b,hy (a++b)=hy a+hy b:=by
     intro a b;rw[<-vx,<-vx,<-vx,yC,List.length_append]
    rw[this];simp only[hy,fE]at aa;omega) (by omega) (by omega) (by rw[yC,List.append_assoc];exact ad) m (by omega)]
   congr 1;omega
theorem Vf (n:Nat):∀x,i7 x->fE x<=n->fE x<=100000->sl n (dX x)=some (dX (dQ x))/\fE (dQ x)<=fE x:=by
 induction n with
 |zero=>intro x _ h;have:=o1 x;omega
 |succ n ih=>
  intro x hw aa jn;obtain⟨ab,ad⟩:=(rq x).1 hw;have cK:=yF x;simp only[sl,Bp];rw[yG];by_cases ba:x.args.length=0
  .have bz:fU x.term=0:=by omega
   have U:((0:Int)==0)=true:=rfl;rw[if_pos ba];refine⟨?_,Nat.le_refl _⟩;conv=>lhs;rw[m5]
   simp only[pS,bind_some,yw,bz];rw[show(((0:Nat):Int)==0)=true from rfl,cond_true];simp only[sf];rw[ml (by rw[<-m5,o0];omega) (by rw[<-m5,o0];omega),<-m5];rfl
  .rw[if_neg ba];have U:((fU x.term:Int)==0)=false:=by simp;omega
   obtain⟨y,r,yH⟩:∃y r,x.args=y::r:=by
    cases an:x.args with
    |nil=>simp[an]at ba
    |cons y r=>exact⟨y,r,rfl⟩
   rw[yH]at ab ad cK;simp only[hy]at cK;obtain⟨aM,aS⟩:=ih y ad.1 (by omega) (by omega);have gP:dX x=x.term::(dX y++eL r):=by rw[m5,yH];rfl
   have hlen:(dX x).length=fE x:=o0 x;have Vg:xj (dX x) 1=some ((1+fE y:Nat):Int):=by
    unfold xj;refine fV (fE y+1) λm hm=>?_;have:=Ve (dX x) (by omega) (eL r) (fE y) [y] 1 ⟨ad.1,trivial⟩ (by simp[hy]) (by omega) (by have:=o1 x;omega) (by rw[gP];simp[eL]) m (by omega);simpa using this
   have Vh:fF (dX x) 1 ((1+fE y:Nat):Int)=some (dX y):=by
    rw[gP];exact IG [x.term] (dX y) (eL r) rfl (by rw[o0];rfl)
   have Vi:fF (dX x) ((1+fE y:Nat):Int) ((dX x).length:Int)=some (eL r):=by
    rw[gP];have:=IG (x.term::dX y) (eL r) [] (i:=((1+fE y:Nat):Int)) (j:=(((x.term::(dX y++eL r)).length:Nat):Int)) (by rw[List.length_cons,o0];omega) (by simp;omega);simpa using this
   have Vj:bR (dX x) 0=some x.term:=by rw[m5];rfl
   have yI:bR (dX (dQ y)) 0=some (dQ y).term:=by rw[m5];rfl
   have Xl:(dX (dQ y)).length<=100000:=by rw[o0];omega
   rw[Vj];simp only[bind_some,yw,U,cond_false,Vg,Vh,aM];have Xm:=o1 y;have c4:fU x.term≠0:=by rw[<-ab];simp
   rcases kinds c4 with⟨ai,bQ⟩|⟨ai,bQ⟩
   .have aI:r=[]:=by
     cases r with
     |nil=>rfl
     |cons z r=>simp at ab;omega
    subst aI;have cZ:(x.term.Kind==3)=true:=by rw[ai];rfl
    rw[cZ,cond_true,yI,yH];simp only[bind_some,List.map_cons,List.map_nil,List.all_cons,List.all_nil,Bool.and_true];cases aU:(dQ y).term.Kind==0
    .have:isNum (dQ y)=false:=aU;simp only[this,cond_false];rw[ml (by omega) (by omega)];simp only[bind_some,Bool.false_eq_true,if_false];refine⟨by simp[dX,eL],?_⟩;simp only[fE,hy];omega
    .have:isNum (dQ y)=true:=aU;simp only[this,cond_true,if_true,mc,yu,bind_some];refine⟨by simp[dX,eL,rr,cZ],?_⟩;simp only[fE,hy];omega
   .obtain⟨z,rfl⟩:∃z,r=[z]:=by
     cases r with
     |nil=>simp at ab;omega
     |cons z r=>cases r with
      |nil=>exact⟨z,rfl⟩
      |cons u r=>simp at ab;omega
    simp only[hy]at cK;obtain⟨f1,f2⟩:=ih z ad.2.1 (by omega) (by omega);have Vk:bR (dX (dQ z)) 0=some (dQ z).term:=by rw[m5];rfl
    have T5:(dX (dQ z)).length<=100000:=by rw[o0];omega
    have cZ:(x.term.Kind==3)=false:=by rw[ai];rfl
    have Xn:=o1 z;have Vl:eL [z]=dX z:=by simp[eL]
    have key:(room 16 (1+(dX (dQ y)).length)).bind (λ_=>(room 16 (([x.term]++dX (dQ y)).length+(dX (dQ z)).length)).bind λ_=>some (([x.term]++dX (dQ y))++dX (dQ z)))=some (dX (.mk x.term [dQ y,dQ z])):=by
     rw[ml (by omega) (by omega)];simp only[bind_some];rw[ml (by simp only[List.length_append,List.length_cons,List.length_nil];omega) (by simp only[List.length_append,List.length_cons,List.length_nil];omega)];simp[dX,eL]
    rw[cZ,cond_false,Vi,Vl,yH];simp only[bind_some,f1,yI,List.map_cons,List.map_nil,List.all_cons,List.all_nil,Bool.and_true];cases aU:(dQ y).term.Kind==0
    .have:isNum (dQ y)=false:=aU;simp only[this,cond_false,Bool.false_and,Bool.false_eq_true,if_false,key];refine⟨trivial,?_⟩;simp only[fE,hy];omega
    .have:isNum (dQ y)=true:=aU;simp only[this,cond_true,Bool.true_and,Vk,bind_some];cases hm:(dQ z).term.Kind==0
     .have:isNum (dQ z)=false:=hm;simp only[this,cond_false,Bool.false_eq_true,if_false,key];refine⟨trivial,?_⟩;simp only[fE,hy];omega
     .have:isNum (dQ z)=true:=hm;simp only[this,cond_true,if_true,U9,bind_some];refine⟨by simp[dX,eL,rr,cZ],?_⟩;simp only[fE,hy];omega
theorem Vm (x:bq) (hw:i7 x) (aa:fE x<=100000):xl (dX x)=some (dX (dQ x)):=by
 unfold xl;exact fV (fE x) λn aU=>(Vf n x hw aU aa).1
end Go.nI
