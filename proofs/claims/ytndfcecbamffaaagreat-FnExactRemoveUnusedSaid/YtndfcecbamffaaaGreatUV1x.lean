/- Part of a proof that a law returns true for every input. No condition. -/
import Derived.Test.YtndfcecbamffaaaGreatUV0x
namespace Go.mn
open Option Go.IntKind Nat Or
open Go Go.cW
def oH (p:Int) (s:abH):Int:=s.foldl (λp n=>i64.wrap (p*i64.wrap (n+1))) p
def tx (v:Int):Bool:=decide (v<=4096)
def oI (s:abH):Bool:=decide (s.length<=8)&&(s.all (λn=>gO n 1 7)&&tx (oH 1 s))
def ry:nq:=[116,97,117]
def tz (s:nq):Bool:=tw s&& !(s==ry)
def lx (es:abP) (v:Int):Bool:=es.all λe=>ji e v 60
def nF (x:bc) (p:Int):Bool:=
 oI x.bs&&(ji x.Guard (p+x.bs.length) 60&&((x.Next.length:Int)==p&&((if x.Name=ry then decide (x.bl.length=0)else tz x.Name&&decide (x.bl.length<=2))&&
  (lx x.bl (p+x.bs.length)&&lx x.Next (p+x.bs.length)))))
def rz (s:abH) (p:Int):Bool:=(s.length:Int)==p&&s.all (λn=>gO n 0 63)
def l4 (l:bj):Bool:=gO l.a8 0 21&&(rz l.Start l.a8&&(decide (l.aW.length<=60)&&l.aW.all λx=>nF x l.a8))
theorem MT (p:Int):oH p []=p:=rfl
theorem MU (p n:Int) (s:abH):oH p (n::s)=oH (i64.wrap (p*i64.wrap (n+1))) s:=rfl
theorem yh (n dU aw:Int):(decide (dU<=n)&&decide (n<=aw))=gO n dU aw:=rfl
theorem MV:∀(s:abH) (p:Int),s.all (λn=>gO n 1 7)=true->1<=p->p*8^s.length<=1099511627776->1<=oH p s
 |[],p,_,h,_=>h
 |n::s,p,b8,h,J=>by
  simp only[List.all_cons,Bool.and_eq_true,gO,decide_eq_true_eq]at b8;obtain⟨⟨R,U⟩,aA⟩:=b8;have aK:i64.wrap (n+1)=n+1:=hs _ (by omega);have Y3:(1:Int)<=8^s.length:=by
   have:(0:Int)<8^s.length:=Int.pow_pos (by decide);omega
  have Y4:p*8*8^s.length<=1099511627776:=by
   have:p*8*8^s.length=p*8^(n::s).length:=by rw[List.length_cons,Int.pow_succ,Int.mul_assoc,Int.mul_comm 8]
   rw[this];exact J
  have hle:p*(n+1)<=p*8:=Int.mul_le_mul_of_nonneg_left (by omega) (by omega);have abA:p*8*1<=p*8*8^s.length:=Int.mul_le_mul_of_nonneg_left Y3 (by omega);have tK:p*1<=p*(n+1):=Int.mul_le_mul_of_nonneg_left (by omega) (by omega);have aV:i64.wrap (p*(n+1))=p*(n+1):=hs _ (by omega);simp only[oH,List.foldl_cons,aK,aV];refine MV s (p*(n+1)) (by simpa [gO]using aA) (by omega) ?_;exact Int.le_trans (Int.mul_le_mul_of_nonneg_right hle (by omega)) Y4
def AZ (v:Int) (s:abH):Int:=cond (s.all λn=>gO n 1 7) (cond (tx (oH v s)) (oH v s) 0) 0
theorem Y5 (v:Int):decide (4096<v)= !tx v:=by
 unfold tx;by_cases h:v<=4096
 .have:¬4096<v:=by omega
  simp[h,this]
 .have:4096<v:=by omega
  simp[h,this]
theorem Y6 (s:abH) (h:s.length<=1048576):∃n,zN s=some n/\(n==0)= !oI s:=by
 unfold zN;by_cases dQ:s.length<=8
 .have d:decide ((8:Int)<(s.length:Int))=false:=by simp only[decide_eq_false_iff_not];omega
  rw[d,cond_false];have key:∀i,i<=s.length->∀(v:Int) m,s.length-i<m->uA s m v (i:Int)=some (AZ v (s.drop i)):=by
   refine down s.length ?_ ?_
   .intro v m hm;obtain⟨m,rfl⟩:∃au,m=au+1:=⟨m-1,by omega⟩
    simp only[uA,DO];rw[eb (Nat.le_refl _),List.drop_of_length_le (Nat.le_refl _),Y5];simp only[AZ,List.all_nil,cond_true,cond_false,MT];cases tx v<;>rfl
   .intro i aw ih v m hm;obtain⟨m,rfl⟩:∃au,m=au+1:=⟨m-1,by omega⟩
    simp only[uA,DO,oa];rw[e3 aw,eD _ i aw,eT i _ aw (by omega),drop_cons s i aw];simp only[cond_true,bind_some];rw[ih _ m (by omega)];simp only[yh,AZ,List.all_cons,MU];cases gO s[i] 1 7
    .rfl
    .rfl
  refine⟨_,hS (s.length+1) λm hm=>by have:=key 0 (by omega) 1 m (by omega);simpa using this,?_⟩;unfold oI AZ;have d8:decide (s.length<=8)=true:=by simpa using dQ
  rw[d8,Bool.true_and];cases b8:s.all (λn=>gO n 1 7)
  .rfl
  .have al:=MV s 1 b8 (by omega) (by
    have:∀k:Nat,k<=8->(8:Int)^k<=16777216:=by decide
    have:=this s.length dQ;omega)
   cases hw:tx (oH 1 s)
   .rfl
   .have:(oH 1 s==0)=false:=by simp;omega
    simpa using this
 .have d:decide ((8:Int)<(s.length:Int))=true:=by simp only[decide_eq_true_eq];omega
  rw[d,cond_true];refine⟨0,rfl,?_⟩;unfold oI;have d8:decide (s.length<=8)=false:=by simpa using dQ
  rw[d8];rfl
theorem Y7 (x:bc) (h:x.bs.length<=1048576):z7 x=some (oI x.bs):=by
 unfold z7;have key:∀i,i<=x.bs.length->∀(v:Int) m,x.bs.length-i<m->uY x m v (i:Int)=some ((x.bs.drop i).all (λn=>gO n 1 7)&&(decide (x.bs.length<=8)&&tx (oH v (x.bs.drop i)))):=by
  refine down x.bs.length ?_ ?_
  .intro v m hm;obtain⟨m,rfl⟩:∃au,m=au+1:=⟨m-1,by omega⟩
   simp only[uY,Ec];rw[eb (Nat.le_refl _),List.drop_of_length_le (Nat.le_refl _)];have:decide ((x.bs.length:Int)<=8)=decide (x.bs.length<=8):=by
    by_cases h:x.bs.length<=8
    .have bz:(x.bs.length:Int)<=8:=by omega
     simp[h,bz]
    .have bz:¬(x.bs.length:Int)<=8:=by omega
     simp[h,bz]
   rw[this];simp only[cond_false,List.all_nil,Bool.true_and,MT];rfl
  .intro i aw ih v m hm;obtain⟨m,rfl⟩:∃au,m=au+1:=⟨m-1,by omega⟩
   simp only[uY,Ec,mx];rw[e3 aw,eD _ i aw,eT i _ aw (by omega),drop_cons x.bs i aw];simp only[cond_true,bind_some,List.all_cons];rw[ih _ m (by omega)];simp only[yh,MU];cases gO x.bs[i] 1 7<;>simp
 refine hS (x.bs.length+1) λm hm=>?_;have:=key 0 (by omega) 1 m (by omega);rw[List.drop_zero]at this;refine this.trans ?_;unfold oI;cases x.bs.all (λn=>gO n 1 7)<;>simp
theorem MW (es:abP) (v:Int) (ay: -1000000<=v/\v<=1000000) (h:es.length<=1048576) (he:∀e∈es,e.length<=1048576):sK es v=some (lx es v):=by
 unfold sK lx;refine F_ es (λe=>ji e v 60) (λm=>?_) λi aw m=>?_
 .simp only[xo,DR];rw[eb (Nat.le_refl _)];rfl
 .simp only[xo,DR];rw[e3 aw,eD _ i aw,eT i _ aw (by omega)];simp only[cond_true,bind_some,MS _ v 60 ay (he _ (List.getElem_mem aw))];cases ji es[i] v 60<;>rfl
theorem Y8 (s:nq):zQ s=some (tz s):=by
 unfold zQ;rw[Y0];rfl
theorem Y9 (s:nq) (I:s.length<=140737488355328):xw s=some (tz s):=by
 unfold xw;rw[Y1 s I];rfl
def Gd (e:abP):Prop:=e.length<=1048576/\∀t∈e,t.length<=1048576
def A0 (x:bc):Prop:=x.bs.length<=1048576/\x.Guard.length<=1048576/\x.Name.length<=1048576/\Gd x.bl/\Gd x.Next
def qu (l:bj):Prop:=l.Start.length<=1048576/\l.aW.length<=1048576/\∀x∈l.aW,A0 x
theorem MX {s:nq} (h:s=ry):(s==([116,97,117]:nq))=true:=by subst h;rfl
theorem MY {s:nq} (h:s≠ry):(s==([116,97,117]:nq))=false:=by simpa [ry]using h
theorem Y_ (x:bc) (p:Int) (al:0<=p/\p<=21) (ag:A0 x):zR x p=some (nF x p):=by
 obtain⟨R,U,aA,aU,bt⟩:=ag;unfold zR nF;obtain⟨n,aK,aV⟩:=Y6 x.bs R;rw[aK];simp only[bind_some,aV];cases I:oI x.bs
 .rfl
 .have dQ:x.bs.length<=8:=by simp only[oI,Bool.and_eq_true,decide_eq_true_eq]at I;exact I.1
  have hw:i64.wrap (p+(x.bs.length:Int))=p+(x.bs.length:Int):=hs (p+(x.bs.length:Int)) ⟨by omega,by omega⟩;simp only[hw,MS x.Guard (p+(x.bs.length:Int)) 60 (by omega) U,MW x.bl (p+(x.bs.length:Int)) (by omega) aU.1 aU.2,MW x.Next (p+(x.bs.length:Int)) (by omega) bt.1 bt.2,Y8,bind_some,Bool.not_true,cond_false,Bool.true_and];cases ji x.Guard (p+(x.bs.length:Int)) 60
  .rfl
  .cases a7:(x.Next.length:Int)==p
   .have:((x.Next.length:Int) !=p)=true:=by simp only[bne,a7];rfl
    rw[this];rfl
   .have:((x.Next.length:Int) !=p)=false:=by simp only[bne,a7];rfl
    rw[this];simp only[Bool.not_true,Bool.or_self,cond_false,Bool.true_and];by_cases aL:x.Name=ry
    .rw[MX aL,if_pos aL];simp only[cond_true,Bool.not_true,cond_false];by_cases b8:x.bl.length=0
     .have d1:decide ((0:Int)<(x.bl.length:Int))=false:=by simp only[decide_eq_false_iff_not];omega
      have d2:decide ((2:Int)<(x.bl.length:Int))=false:=by simp only[decide_eq_false_iff_not];omega
      have d3:decide (x.bl.length=0)=true:=by simpa using b8
      rw[d1,d2,d3];cases lx x.bl (p+(x.bs.length:Int))<;>cases lx x.Next (p+(x.bs.length:Int))<;>rfl
     .have d1:decide ((0:Int)<(x.bl.length:Int))=true:=by simp only[decide_eq_true_eq];omega
      have d3:decide (x.bl.length=0)=false:=by simpa using b8
      rw[d1,d3];rfl
    .rw[MY aL,if_neg aL];simp only[Bool.not_false,cond_true,cond_false];cases tz x.Name
     .rfl
     .by_cases b8:x.bl.length<=2
      .have d2:decide ((2:Int)<(x.bl.length:Int))=false:=by simp only[decide_eq_false_iff_not];omega
       have d3:decide (x.bl.length<=2)=true:=by simpa using b8
       rw[d2,d3];cases lx x.bl (p+(x.bs.length:Int))<;>cases lx x.Next (p+(x.bs.length:Int))<;>rfl
      .have d2:decide ((2:Int)<(x.bl.length:Int))=true:=by simp only[decide_eq_true_eq];omega
       have d3:decide (x.bl.length<=2)=false:=by simpa using b8
       rw[d2,d3];rfl
theorem Za (s:abH) (p:Int) (h:s.length<=1048576):zM s p=some (rz s p):=by
 unfold zM rz;have e:zL s=some (s.all λn=>gO n 0 63):=by
  unfold zL;refine F_ s (λn=>gO n 0 63) (λm=>?_) λi aw m=>?_
  .simp only[xm,DN];rw[eb (Nat.le_refl _)];rfl
  .simp only[xm,DN,oa];rw[e3 aw,eD _ i aw,eT i _ aw (by omega)];simp only[cond_true,bind_some,yh];cases gO s[i] 0 63<;>rfl
 rw[e];cases(s.length:Int)==p<;>rfl
theorem Zb (l:bj) (h:qu l):zS l=some (l4 l):=by
 unfold zS l4 oa;simp only[bind_some,yh];rw[Za _ _ h.1];simp only[bind_some];cases al:gO l.a8 0 21
 .rfl
 .cases rz l.Start l.a8
  .rfl
  .simp only[Bool.not_true,cond_false,Bool.false_or,Bool.true_and];have dp:0<=l.a8/\l.a8<=21:=by simpa [gO]using al
   by_cases pK:l.aW.length<=60
   .have d1:decide ((60:Int)<(l.aW.length:Int))=false:=by simp only[decide_eq_false_iff_not];omega
    have d2:decide (l.aW.length<=60)=true:=by simpa using pK
    rw[d1,d2,cond_false,Bool.true_and];refine F_ l.aW (λx=>nF x l.a8) (λm=>?_) λi aw m=>?_
    .simp only[xr,DU];rw[eb (Nat.le_refl _)];rfl
    .simp only[xr,DU];rw[e3 aw,eD _ i aw,eT i _ aw (by omega)];simp only[cond_true,bind_some,Y_ _ _ dp (h.2.2 _ (List.getElem_mem aw))];cases nF l.aW[i] l.a8<;>rfl
   .have d1:decide ((60:Int)<(l.aW.length:Int))=true:=by simp only[decide_eq_true_eq];omega
    have d2:decide (l.aW.length<=60)=false:=by simpa using pK
    rw[d1,d2];rfl
def qv {α:Type} (ls:List (List α)):Nat:=gh List.length ls
theorem Zc (n:Int) (bq:0<=n) (h:n<=1099511627776):Ab n=some ():=by
 unfold Ab Ee Aa;have fi:i64.wrap 0=0:=hs 0 (by omega);have aK:i64.wrap (n-0)=n:=by rw[hs (n-0) (by omega)];omega
 have d:decide (n<0)=false:=by simp only[decide_eq_false_iff_not];omega
 rw[d,fi,aK,show lA 24 n=some () by unfold lA;rw[if_pos ⟨by omega,by omega,by omega⟩]];cases decide (0<n)<;>rfl
theorem MZ (ls:List abP) (h:ls.length<=1048576) (I:qv ls<=1099511627776):xx ls=some ls.flatten:=by
 have Eh:lim (λn=>sT ls n [] 0)=some ls.flatten:=by
  have key:∀i,i<=ls.length->∀(v:abP) m,v.length+qv (ls.drop i)<=1099511627776->ls.length-i<m->sT ls m v (i:Int)=some (v++(ls.drop i).flatten):=by
   refine down ls.length ?_ ?_
   .intro v m _ hm;obtain⟨m,rfl⟩:∃au,m=au+1:=⟨m-1,by omega⟩
    simp only[sT,Eg];rw[eb (Nat.le_refl _),List.drop_of_length_le (Nat.le_refl _)];simp
   .intro i aw ih v m ay hm;obtain⟨m,rfl⟩:∃au,m=au+1:=⟨m-1,by omega⟩
    rw[drop_cons ls i aw]at ay⊢;simp only[qv,gh]at ay;simp only[sT,Eg];rw[e3 aw,eD _ i aw,eT i _ aw (by omega)];simp only[cond_true,bind_some];rw[ko (by omega) (by omega)];simp only[bind_some];rw[ih _ m (by simp only[List.length_append,qv];omega) (by omega)];simp only[List.flatten_cons,List.append_assoc]
  refine hS (ls.length+1) λm hm=>?_;have:=key 0 (by omega) [] m (by simpa using I) (by omega);simpa using this
 unfold xx;have key:∀i,i<=ls.length->∀(v:Int) m,0<=v->v+qv (ls.drop i)<=1099511627776->ls.length-i<m->sU ls m v (i:Int)=some ls.flatten:=by
  refine down ls.length ?_ ?_
  .intro v m bq ay hm;obtain⟨m,rfl⟩:∃au,m=au+1:=⟨m-1,by omega⟩
   simp only[sU,Ei];rw[eb (Nat.le_refl _),Zc v bq (by omega)];simp only[cond_false,bind_some];exact Eh
  .intro i aw ih v m bq ay hm;obtain⟨m,rfl⟩:∃au,m=au+1:=⟨m-1,by omega⟩
   rw[drop_cons ls i aw]at ay;simp only[qv,gh]at ay;simp only[sU,Ei,Ef];rw[e3 aw,eD _ i aw,eT i _ aw (by omega)];simp only[cond_true,bind_some];have e:i64.wrap (v+(ls[i].length:Int))=v+(ls[i].length:Int):=hs (v+(ls[i].length:Int)) ⟨by omega,by omega⟩;have d:decide (v+(ls[i].length:Int)<0)=false:=by simp only[decide_eq_false_iff_not];omega
   rw[e,d,cond_false];exact ih _ m (by omega) (by simp only[qv];omega) (by omega)
 refine hS (ls.length+1) λm hm=>?_;exact key 0 (by omega) 0 m (by omega) (by rw[List.drop_zero];omega) (by omega)
theorem Zd (x:bc) (ag:A0 x):u0 x=some (x.Guard::(x.bl++x.Next)):=by
 unfold u0;have aU:=ag.2.2.2.1.1;have bt:=ag.2.2.2.2.1;rw[MZ _ (by simp) (by simp only[qv,gh,List.length_cons,List.length_nil];omega)];simp
theorem Ze (x:bc) (p:Int) (al:0<=p/\p<=21) (dQ:x.bs.length<=8) (es:abP) (h:es.length<=1099511627776) (he:∀e∈es,e.length<=1048576):
  sV es p x=some (!lx es (p+x.bs.length)):=by
 unfold sV El;rw[Gb (f:=λe=>Af e p x) es (λe=> !ji e (p+x.bs.length) 60) (λm i=>by simp only[Ag,K7]) (λe hm=>by
  unfold Af;have hw:i64.wrap (p+(x.bs.length:Int))=p+(x.bs.length:Int):=hs (p+(x.bs.length:Int)) ⟨by omega,by omega⟩;rw[hw,YZ e _ 60 (by omega) (by omega) (he e hm)];rfl) h]
 simp only[bind_some,yf,Gc];rfl
theorem Zf (x:bc) (p:Int) (al:0<=p/\p<=21) (ag:A0 x):Ah x p=some (nF x p):=by
 have mZ:=ag;obtain⟨R,U,aA,aU,bt⟩:=ag;unfold Ah nF;rw[Y7 x R];simp only[bind_some];cases I:oI x.bs
 .rfl
 .have dQ:x.bs.length<=8:=by simp only[oI,Bool.and_eq_true,decide_eq_true_eq]at I;exact I.1
  have CG:sV (x.Guard::(x.bl++x.Next)) p x=some (!(ji x.Guard (p+x.bs.length) 60&&(lx x.bl (p+x.bs.length)&&lx x.Next (p+x.bs.length)))):=by
   have abB:=aU.1;have abC:=bt.1;rw[Ze x p al dQ _ (by simp only[List.length_cons,List.length_append];omega) (λe he=>by
    rcases List.mem_cons.1 he with rfl|he
    .exact U
    .rcases List.mem_append.1 he with he|he
     .exact aU.2 e he
     .exact bt.2 e he)]
   simp only[lx,List.all_cons,List.all_append]
  rw[Zd x mZ,Y9 _ (by omega)];simp only[bind_some,CG,Bool.not_true,Bool.false_or,Bool.true_and,Bool.not_not];cases a7:(x.Next.length:Int)==p
  .have:((x.Next.length:Int) !=p)=true:=by simp only[bne,a7];rfl
   rw[this];cases ji x.Guard (p+(x.bs.length:Int)) 60<;>rfl
  .have:((x.Next.length:Int) !=p)=false:=by simp only[bne,a7];rfl
   rw[this];simp only[cond_false,Bool.true_and];by_cases aL:x.Name=ry
   .rw[MX aL,if_pos aL];simp only[cond_true,Bool.not_true,cond_false];by_cases b8:x.bl.length=0
    .have d1:decide ((0:Int)<(x.bl.length:Int))=false:=by simp only[decide_eq_false_iff_not];omega
     have d3:decide (x.bl.length=0)=true:=by simpa using b8
     rw[d1,d3];simp
    .have d1:decide ((0:Int)<(x.bl.length:Int))=true:=by simp only[decide_eq_true_eq];omega
     have d3:decide (x.bl.length=0)=false:=by simpa using b8
     rw[d1,d3];cases ji x.Guard (p+(x.bs.length:Int)) 60<;>rfl
   .rw[MY aL,if_neg aL];simp only[Bool.not_false,cond_true,cond_false];by_cases b8:x.bl.length<=2
    .have d2:decide ((2:Int)<(x.bl.length:Int))=false:=by simp only[decide_eq_false_iff_not];omega
     have d3:decide (x.bl.length<=2)=true:=by simpa using b8
     rw[d2,d3];cases decide ((0:Int)<(x.bl.length:Int))<;>cases tz x.Name<;>cases ji x.Guard (p+(x.bs.length:Int)) 60<;>simp
    .have d1:decide ((0:Int)<(x.bl.length:Int))=true:=by simp only[decide_eq_true_eq];omega
     have d2:decide ((2:Int)<(x.bl.length:Int))=true:=by simp only[decide_eq_true_eq];omega
     have d3:decide (x.bl.length<=2)=false:=by simpa using b8
     rw[d1,d2,d3];cases tz x.Name<;>cases ji x.Guard (p+(x.bs.length:Int)) 60<;>rfl
theorem Zg (l:bj) (s:abH) (h:s.length<=1048576):z6 l s=some (rz s l.a8):=by
 unfold z6 Eb Ea D_;rw[Gb (f:=D9) s (λn=> !gO n 0 63) (λm i=>by simp only[z2,K6]) (λn _=>rfl) (by omega)];simp only[bind_some,yf,Gc,Bool.not_not];unfold rz;cases(s.length:Int)==l.a8<;>rfl
theorem Zh (l:bj) (h:qu l):Ak l=some (l4 l):=by
 unfold Ak l4 mx;simp only[bind_some,yh];rw[Zg _ _ h.1];simp only[bind_some];cases al:gO l.a8 0 21
 .rfl
 .cases rz l.Start l.a8
  .rfl
  .simp only[Bool.not_true,cond_false,Bool.false_or,Bool.true_and];have dp:0<=l.a8/\l.a8<=21:=by simpa [gO]using al
   by_cases pK:l.aW.length<=60
   .have d1:decide ((60:Int)<(l.aW.length:Int))=false:=by simp only[decide_eq_false_iff_not];omega
    have d2:decide (l.aW.length<=60)=true:=by simpa using pK
    rw[d1,d2,cond_false,Bool.true_and];unfold En Em;rw[Gb (f:=λx=>Ai x l) l.aW (λx=> !nF x l.a8) (λm i=>by simp only[Aj,K8]) (λx ag=>by
     unfold Ai;rw[Zf x _ dp (h.2.2 x ag)];rfl) (by omega)]
    simp only[bind_some,yf,Gc,Bool.not_not]
   .have d1:decide ((60:Int)<(l.aW.length:Int))=true:=by simp only[decide_eq_true_eq];omega
    have d2:decide (l.aW.length<=60)=false:=by simpa using pK
    rw[d1,d2];rfl
section
variable {α:Type}
structure Ord (lt:α->α->Bool):Prop where
 yi:∀a,lt a a=false
 nH:∀a b c,lt a b=true->lt b c=true->lt a c=true
 vH:∀a b,lt a b=true\/a=b\/lt b a=true
def l5 (lt:α->α->Bool) (l:List α):Prop:=l.Pairwise (λa b=>lt a b=true)
variable {lt:α->α->Bool}
theorem Ge (h:Ord lt):∀{l m:List α},l5 lt l->l5 lt m->(∀x,x∈l↔x∈m)->l=m
 |[],[],_,_,_=>rfl
 |[],y::m,_,_,e=>by have:=(e y).2 (by simp);simp at this
 |x::l,[],_,_,e=>by have:=(e x).1 (by simp);simp at this
 |x::l,y::m,hl,hm,e=>by
  have kP:=List.pairwise_cons.1 hl;have n4:=List.pairwise_cons.1 hm;have Zi:x=y:=by
   have R:=(e x).1 (by simp);have U:=(e y).2 (by simp);rcases List.mem_cons.1 R with R|R
   .exact R
   .rcases List.mem_cons.1 U with U|U
    .exact U.symm
    .have:=h.nH _ _ _ (n4.1 x R) (kP.1 y U);rw[h.yi]at this;cases this
  subst Zi;have:l=m:=Ge h kP.2 n4.2 λz=>by
   have:=e z;constructor
   .intro bA;have cO:z≠x:=λdY=>by have:=kP.1 z bA;rw[dY,h.yi]at this;cases this
    rcases List.mem_cons.1 (this.1 (by simp[bA]))with aA|aA
    .exact(cO aA).elim
    .exact aA
   .intro bA;have cO:z≠x:=λdY=>by have:=n4.1 z bA;rw[dY,h.yi]at this;cases this
    rcases List.mem_cons.1 (this.2 (by simp[bA]))with aA|aA
    .exact(cO aA).elim
    .exact aA
  rw[this]
variable [DecidableEq α]
def ins (lt:α->α->Bool) (x:α):List α->List α
 |[]=>[x]
 |y::r=>if lt x y=true then x::y::r else if x=y then y::r else y::ins lt x r
theorem Gf (x y:α):∀l:List α,y∈ins lt x l↔y=x\/y∈l
 |[]=>by simp[ins]
 |z::r=>by
  simp only[ins];split
  .simp
  .split
   .rename_i h;subst h;simp
   .have:=Gf x y r;simp only[List.mem_cons,this];constructor
    .rintro(h|h|h)
     .exact .inr (.inl h)
     .exact .inl h
     .exact .inr (.inr h)
    .rintro(h|h|h)
     .exact .inr (.inl h)
     .exact .inl h
     .exact .inr (.inr h)
theorem M0 (x:α):∀l:List α,(ins lt x l).length<=l.length+1
 |[]=>by simp[ins]
 |z::r=>by
  have:=M0 x r;simp only[ins];split
  .simp
  .split<;>simp only[List.length_cons]<;>omega
theorem M1 (h:Ord lt) (x:α):∀l:List α,l5 lt l->l5 lt (ins lt x l)
 |[],_=>by simp[ins,l5]
 |y::r,hl=>by
  unfold l5 at hl⊢;have kP:=List.pairwise_cons.1 hl;simp only[ins];split
  .rename_i ag;refine List.pairwise_cons.2 ⟨λz bA=>?_,hl⟩;rcases List.mem_cons.1 bA with rfl|bA
   .exact ag
   .exact h.nH _ _ _ ag (kP.1 z bA)
  .split
   .exact hl
   .rename_i R U;refine List.pairwise_cons.2 ⟨λz bA=>?_,M1 h x r kP.2⟩;rcases(Gf x z r).1 bA with rfl|bA
    .rcases h.vH y z with e|e|e
     .exact e
     .exact(U e.symm).elim
     .exact(R e).elim
    .exact kP.1 z bA
def kQ (lt:α->α->Bool) (o l:List α):List α:=l.foldl (λo x=>ins lt x o) o
theorem M3 (h:Ord lt):∀(l o:List α),l5 lt o->l5 lt (kQ lt o l)
 |[],_,br=>br
 |x::l,o,br=>M3 h l _ (M1 h x o br)
theorem yj (y:α):∀(l o:List α),y∈kQ lt o l↔y∈o\/y∈l
 |[],o=>by simp[kQ]
 |x::l,o=>by
  have:=yj y l (ins lt x o);simp only[kQ,List.foldl_cons]at this⊢;rw[this,Gf];simp only[List.mem_cons];constructor
  .rintro((h|h)|h)
   .exact .inr (.inl h)
   .exact .inl h
   .exact .inr (.inr h)
  .rintro(h|h|h)
   .exact .inl (.inr h)
   .exact .inl (.inl h)
   .exact .inr h
theorem M4:∀(l o:List α),(kQ lt o l).length<=o.length+l.length
 |[],o=>by simp[kQ]
 |x::l,o=>by
  have R:=M4 l (ins lt x o);have U:=M0 (lt:=lt) x o;simp only[kQ,List.foldl_cons,List.length_cons]at R⊢;omega
theorem M5 (h:Ord lt):∀(l:List α) (p:α),l.Pairwise (λa b=>lt b a=false)->(∀x∈l,lt x p=false)->
  l5 lt (j5 (some p) l)/\∀x,x∈j5 (some p) l↔x∈l/\x≠p
 |[],p,_,_=>by simp[j5,l5]
 |y::r,p,hl,al=>by
  have kP:=List.pairwise_cons.1 hl;obtain⟨jL,hT⟩:=M5 h r y kP.2 kP.1;simp only[j5];by_cases e:p=y
  .rw[if_pos (congrArg some e)];subst e;refine⟨jL,λx=>?_⟩;rw[hT x];simp only[List.mem_cons];constructor
   .rintro⟨R,U⟩;exact⟨.inr R,U⟩
   .rintro⟨R|R,U⟩
    .exact(U R).elim
    .exact⟨R,U⟩
  .rw[if_neg (λdY=>e (some.inj dY))];have M6:lt p y=true:=by
    rcases h.vH p y with aK|aK|aK
    .exact aK
    .exact(e aK).elim
    .rw[al y (by simp)]at aK;cases aK
   refine⟨List.pairwise_cons.2 ⟨λx ag=>?_,jL⟩,λx=>?_⟩
   .obtain⟨R,U⟩:=(hT x).1 ag;rcases h.vH y x with aK|aK|aK
    .exact aK
    .exact(U aK.symm).elim
    .rw[kP.1 x R]at aK;cases aK
   .simp only[List.mem_cons,hT x];constructor
    .rintro(R|⟨R,U⟩)
     .subst R;exact⟨.inl rfl,λdY=>e dY.symm⟩
     .refine⟨.inr R,λdY=>?_⟩;subst dY;rw[kP.1 x R]at M6;cases M6
    .rintro⟨R|R,U⟩
     .exact .inl R
     .by_cases aV:x=y
      .exact .inl aV
      .exact .inr ⟨R,aV⟩
theorem Zj (h:Ord lt) (l:List α) (hl:l.Pairwise (λa b=>lt b a=false)):l5 lt (j5 none l)/\∀x,x∈j5 none l↔x∈l:=by
 cases l with
 |nil=>simp[j5,l5]
 |cons y r=>
  have kP:=List.pairwise_cons.1 hl;obtain⟨jL,hT⟩:=M5 h r y kP.2 kP.1;simp only[j5];rw[if_neg (by simp)];refine⟨List.pairwise_cons.2 ⟨λx ag=>?_,jL⟩,λx=>?_⟩
  .obtain⟨R,U⟩:=(hT x).1 ag;rcases h.vH y x with aK|aK|aK
   .exact aK
   .exact(U aK.symm).elim
   .rw[kP.1 x R]at aK;cases aK
  .simp only[List.mem_cons,hT x];constructor
   .rintro(R|⟨R,_⟩)
    .exact .inl R
    .exact .inr R
   .rintro(R|R)
    .exact .inl R
    .by_cases aV:x=y
     .exact .inl aV
     .exact .inr ⟨R,aV⟩
theorem Zk (h:Ord lt) {le:α->α->Bool} (hle:∀a b,le a b= !lt b a) (l:List α):j5 none (l.mergeSort le)=kQ lt [] l:=by
 have I:(l.mergeSort le).Pairwise (λa b=>lt b a=false):=by
  have:=List.pairwise_mergeSort (le:=le) (λa b c R U=>by
   rw[hle]at R U⊢;simp only[Bool.not_eq_true']at R U⊢;cases e:lt c a with
   |false=>rfl
   |true=>
    rcases h.vH a b with aK|aK|aK
    .have:=h.nH _ _ _ e aK;rw[U]at this;cases this
    .subst aK;rw[U]at e;cases e
    .rw[R]at aK;cases aK) (λa b=>by
   rw[hle,hle];cases aK:lt b a with
   |false=>rfl
   |true=>
    cases aV:lt a b with
    |false=>rfl
    |true=>have:=h.nH _ _ _ aK aV;rw[h.yi]at this;cases this) l
  refine this.imp λ{a b} jM=>?_;rw[hle]at jM;simpa using jM
 obtain⟨jL,hT⟩:=Zj h _ I;refine Ge h jL (M3 h l [] (by simp[l5])) λx=>?_;rw[hT,yj,List.mem_mergeSort];simp
end
theorem M7:Ord (λa b:Int=>decide (a<b)) where
 yi:=λa=>by simp
 nH:=λa b c R U=>by simp at R U⊢;omega
 vH:=λa b=>by simp;omega
theorem Zl (a b:Int):decide (a<=b)= !decide (b<a):=by
 by_cases h:a<=b
 .have:¬b<a:=by omega
  simp[h,this]
 .have:b<a:=by omega
  simp[h,this]
abbrev pL:Int->Int->Bool:=λa b=>decide (a<b)
def eE (e:abS):abH:=(e.filter λt=>t.Kind==1).map (·.Value)
theorem M8 (t:aG) (e:abS):eE (t::e)=if t.Kind=1 then t.Value::eE e else eE e:=by
 unfold eE;by_cases h:t.Kind=1<;>simp[h]
theorem Zm (e:abS):(eE e).length<=e.length:=by
 unfold eE;rw[List.length_map];exact List.length_filter_le ..
theorem Zn (e:abS) (h:e.length<=1048576):An e=some (kQ pL [] (eE e)):=by
 unfold An;have key:∀i,i<=e.length->∀(v:abH) m,v.length<=i->e.length-i<m->sW e m v (i:Int)=some (kQ pL [] (v++eE (e.drop i))):=by
  refine down e.length ?_ ?_
  .intro v m ay hm;obtain⟨m,rfl⟩:∃au,m=au+1:=⟨m-1,by omega⟩
   simp only[sW,Eo,rb,Al];rw[eb (Nat.le_refl _),List.drop_of_length_le (Nat.le_refl _),if_pos (by omega)];simp only[cond_false,bind_some];rw[Zk M7 (λa b=>Zl a b)];simp[eE]
  .intro i aw ih v m ay hm;obtain⟨m,rfl⟩:∃au,m=au+1:=⟨m-1,by omega⟩
   simp only[sW,Eo,Am];rw[e3 aw,eD _ i aw,drop_cons e i aw,M8,eT i _ aw (by omega),ko (by omega) (by omega)];simp only[cond_true,bind_some];rw[ih _ m (by simp only[List.length_append,List.length_cons,List.length_nil];omega) (by omega),ih _ m (by omega) (by omega)];by_cases R:e[i].Kind=1
   .simp[R]
   .have U:(e[i].Kind==1)=false:=by simpa using R
    simp[R,U]
 refine hS (e.length+1) λm hm=>?_;have:=key 0 (by omega) [] m (by simp) (by omega);simpa using this
theorem M9 {v:Int}:∀(e:abS) (k:Nat),oG v e k=true->∀t∈e,oF t v=true
 |[],_,_,t,aL=>by cases aL
 |u::r,k,h,t,aL=>by
  simp only[oG,Bool.and_eq_true]at h;rcases List.mem_cons.1 aL with rfl|aL
  .exact h.2.1
  .exact M9 r _ h.2.2 t aL
theorem Gg {e:abS} {v most:Int} (h:ji e v most=true):∀x∈eE e,0<=x/\x<=v-1:=by
 intro x ag;simp only[ji,Bool.and_eq_true]at h;unfold eE at ag;obtain⟨t,aL,rfl⟩:=List.mem_map.1 ag;obtain⟨R,U⟩:=List.mem_filter.1 aL;have:=M9 e 1 h.2 t R;have ak:t.Kind=1:=by simpa using U
 unfold oF at this;have fi:(t.Kind==0)=false:=by rw[ak];rfl
 have aK:(t.Kind==1)=true:=U;rw[fi,aK]at this;simp only[cond_false,cond_true,gO,Bool.and_eq_true,decide_eq_true_eq]at this;exact this
def kR (s:bc) (i:Nat):abS:=s.Next.getD i []
def A1 (l:bj) (M:Int->Prop):Prop:=
 (∀s∈l.aW,∀e∈s.Guard::s.bl,∀v∈eE e,v<l.a8->M v)/\
 ∀s∈l.aW,∀i:Nat,(i:Int)<l.a8->M i->∀v∈eE (kR s i),v<l.a8->M v
def jI (l:bj) (v:Int):Prop:=∀M:Int->Prop,A1 l M->M v
theorem vI (l:bj):A1 l (jI l):=
 ⟨λs I e he v ay cB M e8=>e8.1 s I e he v ay cB,λs I i aw eV v ay cB M e8=>e8.2 s I i aw (eV M e8) v ay cB⟩
def At (M:List Bool) (i:Nat):Prop:=M[i]? =some true
def rA (M:List Bool) (v:Int):List Bool:=if v<(M.length:Int)then M.set v.toNat true else M
def l6 (M:List Bool) (vs:abH):List Bool:=vs.foldl rA M
theorem M_ (M:List Bool) (v:Int):(rA M v).length=M.length:=by unfold rA;split<;>simp
theorem Zo (M:List Bool) (v:Int) (h:0<=v) (i:Nat):At (rA M v) i↔At M i\/(i<M.length/\(i:Int)=v):=by
 unfold rA At;split
 .rename_i ay;rw[List.getElem?_set];by_cases e:v.toNat=i
  .have aV:(i:Int)=v:=by omega
   have aw:i<M.length:=by omega
   simp[e,aw,aV]
  .have aV:¬(i:Int)=v:=by omega
   simp[e,aV]
 .rename_i ay;constructor
  .exact .inl
  .rintro(R|⟨R,U⟩)
   .exact R
   .omega
theorem A2:∀(vs:abH) (M:List Bool),(l6 M vs).length=M.length
 |[],M=>rfl
 |v::vs,M=>by
  have:=A2 vs (rA M v);simp only[l6,List.foldl_cons]at this⊢;rw[this,M_]
theorem yk:∀(vs:abH) (M:List Bool),(∀v∈vs,0<=v)->∀i,At (l6 M vs) i↔At M i\/(i<M.length/\(i:Int)∈vs)
 |[],M,_,i=>by simp[l6]
 |v::vs,M,h,i=>by
  have:=yk vs (rA M v) (λw hw=>h w (by simp[hw])) i;simp only[l6,List.foldl_cons]at this⊢;rw[this,Zo M v (h v (by simp)),M_];simp only[List.mem_cons];constructor
  .rintro((R|⟨R,U⟩)|⟨R,U⟩)
   .exact .inl R
   .exact .inr ⟨R,.inl U⟩
   .exact .inr ⟨R,.inr U⟩
  .rintro(R|⟨R,U|U⟩)
   .exact .inl (.inl R)
   .exact .inl (.inr ⟨R,U⟩)
   .exact .inr ⟨R,U⟩
theorem Gh (e:abS) (M:List Bool) (he:e.length<=1048576) (ay:∀v∈eE e,0<=v):uE e M=some (l6 M (eE e)):=by
 unfold uE;have key:∀i,i<=e.length->∀(v:List Bool) m,e.length-i<m->sL e m v (i:Int)=some (l6 v (eE (e.drop i))):=by
  refine down e.length ?_ ?_
  .intro v m hm;obtain⟨m,rfl⟩:∃au,m=au+1:=⟨m-1,by omega⟩
   simp only[sL,DV];rw[eb (Nat.le_refl _),List.drop_of_length_le (Nat.le_refl _)];rfl
  .intro i aw ih v m hm;obtain⟨m,rfl⟩:∃au,m=au+1:=⟨m-1,by omega⟩
   simp only[sL,DV,zT];rw[e3 aw,eD _ i aw,drop_cons e i aw,M8,eT i _ aw (by omega)];simp only[cond_true,bind_some];rw[ih _ m (by omega),ih _ m (by omega)];by_cases R:e[i].Kind=1
   .have U:(e[i].Kind==1)=true:=by simpa using R
    have sD:e[i].Value∈eE e:=by
     unfold eE;exact List.mem_map.2 ⟨e[i],List.mem_filter.2 ⟨List.getElem_mem aw,U⟩,rfl⟩
    have bq:=ay _ sD;rw[if_pos R,U,Bool.true_and];simp only[l6,List.foldl_cons,rA];by_cases aA:e[i].Value<(v.length:Int)
    .have d:decide (e[i].Value<(v.length:Int))=true:=by simpa using aA
     rw[d,if_pos aA,cond_true,Bf bq (by omega)];rfl
    .have d:decide (e[i].Value<(v.length:Int))=false:=by simpa using aA
     rw[d,if_neg aA,cond_false]
   .have U:(e[i].Kind==1)=false:=by simpa using R
    rw[if_neg R,U];rfl
 refine hS (e.length+1) λm hm=>?_;have:=key 0 (by omega) M m (by omega);simpa using this
def ly (M:List Bool) (es:abP):List Bool:=es.foldl (λM e=>l6 M (eE e)) M
theorem Gi:∀(es:abP) (M:List Bool),(ly M es).length=M.length
 |[],M=>rfl
 |e::es,M=>by
  have:=Gi es (l6 M (eE e));simp only[ly,List.foldl_cons]at this⊢;rw[this,A2]
theorem Gj:∀(es:abP) (M:List Bool),(∀e∈es,∀v∈eE e,0<=v)->∀i,At (ly M es) i↔At M i\/(i<M.length/\∃e∈es,(i:Int)∈eE e)
 |[],M,_,i=>by simp[ly]
 |e::es,M,h,i=>by
  have:=Gj es (l6 M (eE e)) (λw hw=>h w (by simp[hw])) i;simp only[ly,List.foldl_cons]at this⊢;rw[this,yk _ M (h e (by simp)),A2];simp only[List.mem_cons];constructor
  .rintro((R|⟨R,U⟩)|⟨R,dY,U,aA⟩)
   .exact .inl R
   .exact .inr ⟨R,e,.inl rfl,U⟩
   .exact .inr ⟨R,dY,.inr U,aA⟩
  .rintro(R|⟨R,dY,U|U,aA⟩)
   .exact .inl (.inl R)
   .subst U;exact .inl (.inr ⟨R,aA⟩)
   .exact .inr ⟨R,dY,U,aA⟩
def rB (s:bc) (M:List Bool) (k:Nat):List Bool:=if M.getD k false=true then l6 M (eE (kR s k))else M
def yl (p:Nat) (M:List Bool) (s:bc):List Bool:=(List.range p).foldl (rB s) M
def lz (l:bj) (M:List Bool):List Bool:=l.aW.foldl (yl l.a8.toNat) M
def Sub (M N:List Bool):Prop:=M.length=N.length/\∀i,At M i->At N i
theorem Sub.rfl' (M:List Bool):Sub M M:=⟨rfl,λ_ h=>h⟩
theorem Sub.nH {M N K:List Bool} (h:Sub M N) (k:Sub N K):Sub M K:=⟨h.1.trans k.1,λi aw=>k.2 i (h.2 i aw)⟩
theorem A3 {α:Type} {f:List Bool->α->List Bool}:∀(xs:List α) (M:List Bool),(∀x∈xs,∀M,Sub M (f M x))->Sub M (xs.foldl f M)
 |[],M,_=>Sub.rfl' M
 |x::xs,M,h=>(h x (by simp) M).nH (A3 xs (f M x) λy bh=>h y (by simp[bh]))
theorem Gk {α:Type} {f:List Bool->α->List Bool} {x:α} {P:List Bool->Prop} (bB:∀M N,Sub M N->P M->P N):∀(xs:List α) (M:List Bool),(∀x∈xs,∀M,Sub M (f M x))->x∈xs->(∀N,Sub M N->P (f N x))->P (xs.foldl f M)
 |y::xs,M,h,ag,al=>by
  simp only[List.foldl_cons];rcases List.mem_cons.1 ag with rfl|ag
  .exact bB _ _ (A3 xs _ λy bh=>h y (by simp[bh])) (al M (Sub.rfl' M))
  .exact Gk bB xs _ (λy bh=>h y (by simp[bh])) ag λN vJ=>al N ((h y (by simp) M).nH vJ)
theorem Gl {α:Type} {f:List Bool->α->List Bool} {P:List Bool->Prop}:∀(xs:List α) (M:List Bool),(∀x∈xs,∀M,P M->P (f M x))->P M->P (xs.foldl f M)
 |[],M,_,h=>h
 |x::xs,M,a6,h=>Gl xs _ (λy bh=>a6 y (by simp[bh])) (a6 x (by simp) M h)
theorem Na (M:List Bool) (k:Nat):M.getD k false=true↔At M k:=by
 unfold At;rw[List.getD_eq_getElem?_getD];cases M[k]? with
 |none=>simp
 |some b=>simp
theorem Zp (vs:abH) (M:List Bool) (h:∀v∈vs,0<=v):Sub M (l6 M vs):=⟨(A2 vs M).symm,λi aw=>(yk vs M h i).2 (.inl aw)⟩
structure pM (l:bj):Prop where
 p:0<=l.a8/\l.a8<=21
 g:∀s∈l.aW,∀e∈s.Guard::s.bl,∀v∈eE e,0<=v
 n:∀s∈l.aW,(s.Next.length:Int)=l.a8/\∀i:Nat,∀v∈eE (kR s i),0<=v
theorem ym {l:bj} (h:l4 l=true):pM l:=by
 simp only[l4,Bool.and_eq_true,List.all_eq_true,gO,decide_eq_true_eq]at h;obtain⟨R,_,_,aU⟩:=h;refine⟨R,λs I e he v ay=>?_,λs I=>?_⟩
 .have:=aU s I;simp only[nF,Bool.and_eq_true,lx,List.all_eq_true]at this;rcases List.mem_cons.1 he with rfl|he
  .exact(Gg this.2.1 v ay).1
  .exact(Gg (this.2.2.2.2.1 e he) v ay).1
 .have:=aU s I;simp only[nF,Bool.and_eq_true,lx,List.all_eq_true,beq_iff_eq]at this;refine⟨this.2.2.1,λi v ay=>?_⟩;unfold kR at ay;rw[List.getD_eq_getElem?_getD]at ay;cases bm:s.Next[i]? with
  |none=>rw[bm]at ay;simp[eE]at ay
  |some e=>
   rw[bm]at ay;exact(Gg (this.2.2.2.2.2 e (List.mem_of_getElem? bm)) v ay).1
section
variable {l:bj} (hl:pM l)
include hl
theorem A4 {s:bc} (I:s∈l.aW) (M:List Bool) (k:Nat):Sub M (rB s M k):=by
 unfold rB;split
 .exact Zp _ M ((hl.n s I).2 k)
 .exact Sub.rfl' M
theorem Gm {s:bc} (I:s∈l.aW) (M:List Bool):Sub M (yl l.a8.toNat M s):=A3 _ M λk _ M=>A4 hl I M k
theorem A5 (M:List Bool):Sub M (lz l M):=A3 _ M λs I M=>Gm hl I M
theorem Zq (M:List Bool) (e8:M.length=l.a8.toNat) {s:bc} (I:s∈l.aW) {k i:Nat} (ak:At M k) (aw:i<l.a8.toNat) (ay:(i:Int)∈eE (kR s k)):At (lz l M) i:=by
 have uu:k<l.a8.toNat:=by
  have:=(List.getElem?_eq_some_iff.1 ak).1;omega
 refine Gk (f:=yl l.a8.toNat) (x:=s) (P:=λN=>At N i) (λA B h e5=>h.2 i e5) l.aW M (λs I M=>Gm hl I M) I λN vJ=>?_;refine Gk (f:=rB s) (x:=k) (P:=λN=>At N i) (λA B h e5=>h.2 i e5) (List.range l.a8.toNat) N (λk _ M=>A4 hl I M k) (List.mem_range.2 uu) λA e5=>?_;unfold rB;rw[if_pos ((Na A k).2 (e5.2 k (vJ.2 k ak)))];exact(yk _ A ((hl.n s I).2 k) i).2 (.inr ⟨by rw[<-e5.1,<-vJ.1,e8];exact aw,ay⟩)
theorem Zr (M:List Bool) (e8:M.length=l.a8.toNat) (h:∀i,At M i->jI l i):∀i,At (lz l M) i->jI l i:=by
 have key:(lz l M).length=l.a8.toNat/\∀i,At (lz l M) i->jI l i:=by
  refine Gl (P:=λN:List Bool=>N.length=l.a8.toNat/\∀i:Nat,At N i->jI l i) l.aW M (λs I N vJ=>?_) ⟨e8,h⟩;refine Gl (P:=λN:List Bool=>N.length=l.a8.toNat/\∀i:Nat,At N i->jI l i) (List.range l.a8.toNat) N (λk ak A e5=>?_) vJ;refine⟨(A4 hl I A k).1.symm.trans e5.1,λi aw=>?_⟩;unfold rB at aw;split at aw
  .rename_i bm;rcases(yk _ A ((hl.n s I).2 k) i).1 aw with R|⟨R,U⟩
   .exact e5.2 i R
   .have hd:=List.mem_range.1 ak;have al:=hl.p;exact(vI l).2 s I k (by omega) (e5.2 k ((Na A k).1 bm)) i U (by rw[e5.1]at R;omega)
  .exact e5.2 i aw
 exact key.2
end
def qw (M:List Bool):Nat:=(M.filter id).length
theorem Zs:∀M:List Bool,qw M<=M.length:=λM=>List.length_filter_le ..
theorem yn {b:Bool} {M:List Bool} {i:Nat}:At (b::M) (i+1)↔At M i:=by unfold At;simp
theorem A6 {b:Bool} {M:List Bool}:At (b::M) 0↔b=true:=by unfold At;simp
theorem Nb:∀{M N:List Bool},Sub M N->qw M<=qw N/\(qw M=qw N->M=N)
 |[],[],_=>⟨Nat.le_refl _,λ_=>rfl⟩
 |[],_::_,h=>by have:=h.1;simp at this
 |_::_,[],h=>by have:=h.1;simp at this
 |a::M,b::N,h=>by
  have R:Sub M N:=⟨by have:=h.1;simpa using this,λi aw=>yn.1 (h.2 (i+1) (yn.2 aw))⟩
  have U:a=true->b=true:=λb8=>A6.1 (h.2 0 (A6.2 b8));obtain⟨jL,hT⟩:=Nb R;unfold qw at jL hT⊢;cases a<;>cases b
  .simp only[List.filter_cons,id,Bool.false_eq_true,if_false];exact⟨jL,λe=>by rw[hT e]⟩
  .simp only[List.filter_cons,id,Bool.false_eq_true,if_false,if_true,List.length_cons];exact⟨by omega,λe=>by omega⟩
  .simp at U
  .simp only[List.filter_cons,id,if_true,List.length_cons];exact⟨by omega,λe=>by rw[hT (by omega)]⟩
def nG (l:bj):Nat->List Bool->List Bool
 |0,M=>M
 |n+1,M=>nG l n (lz l M)
theorem Nc {l:bj} {M:List Bool} (h:lz l M=M):∀n,nG l n M=M
 |0=>rfl
 |n+1=>by simp only[nG,h];exact Nc h n
theorem Nd {l:bj} (hl:pM l):∀(n:Nat) (M:List Bool),M.length=l.a8.toNat->l.a8.toNat<n+qw M->lz l (nG l n M)=nG l n M
 |0,M,e8,h=>by have:=Zs M;omega
 |n+1,M,e8,h=>by
  by_cases he:lz l M=M
  .rw[Nc he,he]
  .have I:=A5 hl M;obtain⟨R,U⟩:=Nb I;have aA:qw M≠qw (lz l M):=λe=>he (U e).symm;simp only[nG];exact Nd hl n (lz l M) (I.1.symm.trans e8) (by omega)
theorem Nf {l:bj} (hl:pM l):∀(n:Nat) (M:List Bool),Sub M (nG l n M)
 |0,M=>Sub.rfl' M
 |n+1,M=>(A5 hl M).nH (Nf hl n _)
theorem Ng {l:bj} (hl:pM l):∀(n:Nat) (M:List Bool),M.length=l.a8.toNat->(∀i,At M i->jI l i)->∀i,At (nG l n M) i->jI l i
 |0,M,_,h=>h
 |n+1,M,e8,h=>Ng hl n _ ((A5 hl M).1.symm.trans e8) (Zr hl M e8 h)
def inits (l:bj):abP:=l.aW.flatMap λs=>s.Guard::s.bl
def marks (l:bj):List Bool:=nG l (l.a8.toNat+1) (ly (List.replicate l.a8.toNat false) (inits l))
theorem A7 {l:bj} (hl:pM l):(marks l).length=l.a8.toNat/\∀i:Nat,i<l.a8.toNat->(At (marks l) i↔jI l i):=by
 have bm:∀e∈inits l,∀v∈eE e,0<=v:=λe he v ay=>by
  obtain⟨s,I,he⟩:=List.mem_flatMap.1 he;exact hl.g s I e he v ay
 have bq:(ly (List.replicate l.a8.toNat false) (inits l)).length=l.a8.toNat:=by rw[Gi];simp
 have I:=Nf hl (l.a8.toNat+1) (ly (List.replicate l.a8.toNat false) (inits l));have hlen:(marks l).length=l.a8.toNat:=I.1.symm.trans bq;have al:=hl.p;refine⟨hlen,λi aw=>⟨λh=>?_,λh=>?_⟩⟩
 .refine Ng hl _ _ bq (λau bN=>?_) i h;rcases(Gj _ _ bm au).1 bN with R|⟨R,e,he,U⟩
  .unfold At at R;rw[List.getElem?_replicate]at R;split at R<;>simp at R
  .obtain⟨s,I,he⟩:=List.mem_flatMap.1 he;rw[List.length_replicate]at R;exact(vI l).1 s I e he au U (by omega)
 .have Gn:lz l (marks l)=marks l:=Nd hl _ _ bq (by omega);have yo:A1 l (λv=>0<=v/\v<l.a8/\At (marks l) v.toNat):=by
   refine⟨λs fe e he v ay cB=>?_,λs fe k ak e8 v ay cB=>?_⟩
   .have iS:=hl.g s fe e he v ay;refine⟨iS,cB,I.2 _ ((Gj _ _ bm _).2 (.inr ⟨by rw[List.length_replicate];omega,e,List.mem_flatMap.2 ⟨s,fe,he⟩,?_⟩))⟩;rw[show((v.toNat:Nat):Int)=v by omega];exact ay
   .have iS:=(hl.n s fe).2 k v ay;refine⟨iS,cB,?_⟩;rw[<-Gn];exact Zq hl (marks l) hlen fe (k:=k) (by simpa using e8.2.2) (by omega) (by rw[show((v.toNat:Nat):Int)=v by omega];exact ay)
  have:=(h _ yo).2.2;simpa using this
end Go.mn
