/- Part of a proof that a law returns true for every input. No condition. -/
import Derived.Test.YtndfcecbamffaaaGreatDoorUV1x
namespace Go.mY
open Option Go.IntKind Nat Or
open Go Go.cG
mutual
def gI:bY->acp
 | .mk t a=>t::hg a
def hg:List bY->acp
 |[]=>[]
 |x::r=>gI x++hg r
end
mutual
def h7:bY->Nat
 | .mk _ a=>1+iQ a
def iQ:List bY->Nat
 |[]=>0
 |x::r=>h7 x+iQ r
end
mutual
def nu:bY->Prop
 | .mk t a=>a.length=jK t/\oT a
def oT:List bY->Prop
 |[]=>True
 |x::r=>nu x/\oT r
end
theorem Nh (x:bY):bY.mk x.term x.args=x:=by cases x;rfl
theorem ZW (x:bY):gI x=x.term::hg x.args:=by cases x;simp[gI,bY.term,bY.args]
mutual
theorem Gh:∀x,(gI x).length=h7 x
 | .mk t a=>by simp only[gI,h7,List.length_cons,ys a];omega
theorem ys:∀a,(hg a).length=iQ a
 |[]=>by simp only[hg,iQ,List.length_nil]
 |x::r=>by simp only[hg,iQ,List.length_append,Gh x,ys r]
end
theorem Bj:∀a b,hg (a++b)=hg a++hg b
 |[],b=>by simp only[hg,List.nil_append]
 |x::r,b=>by simp only[List.cons_append,hg,Bj r b,List.append_assoc]
theorem Gi:∀a b,oT (a++b)↔oT a/\oT b
 |[],b=>by simp[oT]
 |x::r,b=>by simp only[List.cons_append,oT,Gi r b];exact⟨λ⟨a,b,c⟩=>⟨⟨a,b⟩,c⟩,λ⟨⟨a,b⟩,c⟩=>⟨a,b,c⟩⟩
theorem Gj:∀{a:List bY},oT a->∀x∈a,nu x
 |y::r,h,x,ae=>by
  rcases List.mem_cons.1 ae with rfl|ae
  .exact h.1
  .exact Gj h.2 x ae
theorem Gk:∀{a:List bY},∀x∈a,h7 x<=iQ a
 |y::r,x,ae=>by
  simp only[iQ];rcases List.mem_cons.1 ae with rfl|ae
  .omega
  .have:=Gk x ae;omega
theorem vJ (x:bY):1<=h7 x:=by cases x;simp only[h7];omega
theorem ZX (x:bY):h7 x=1+iQ x.args:=by cases x;simp[h7,bY.args]
theorem ZY (x:bY):nu x↔x.args.length=jK x.term/\oT x.args:=by cases x;simp[nu,bY.args,bY.term]
theorem Ni (v:Int):∀(e:acp) (k:Nat),n1 v e k=true->∃xs:List bY,xs.length=k/\oT xs/\hg xs=e
 |[],k,h=>by
  simp only[n1,beq_iff_eq]at h;subst h;exact⟨[],rfl,trivial,by simp only[hg]⟩
 |t::r,k,h=>by
  simp only[n1,Bool.and_eq_true,Bool.not_eq_true',beq_eq_false_iff_ne]at h;obtain⟨ak,aK,aD⟩:=h;obtain⟨b0,R,U,aw⟩:=Ni v r _ aD;refine⟨.mk t (b0.take (jK t))::b0.drop (jK t),?_,?_,?_⟩
  .simp;omega
  .have J:=List.take_append_drop (jK t) b0;have hw:=(Gi (b0.take (jK t)) (b0.drop (jK t))).1 (by rw[J];exact U);exact⟨⟨by simp;omega,hw.1⟩,hw.2⟩
  .simp only[hg,gI,List.cons_append];rw[<-Bj,List.take_append_drop,aw]
theorem Nj {v most:Int} {e:acp} (h:hP e v most=true):∃x,nu x/\gI x=e:=by
 simp only[hP,Bool.and_eq_true]at h;obtain⟨xs,R,U,aw⟩:=Ni v e 1 h.2;cases xs with
 |nil=>simp at R
 |cons x r=>
  cases r with
  |nil=>exact⟨x,U.1,by simpa [hg]using aw⟩
  |cons y r=>simp at R
theorem ZZ (rec:acp->Option (aM×List bY×acp)) (t:aM) (a:List bY) (rest:acp) (bx:a.length<=1000)
  (Z0:∀x∈a,∀rest,rec (gI x++rest)=some (x.term,x.args,rest)):cL (λn=>tf rec t (a.length:Int) n [] (hg a++rest) 0)=some (t,a,rest):=by
 have key:∀i,i<=a.length->∀m,a.length-i<m->tf rec t (a.length:Int) m (a.take i) (hg (a.drop i)++rest) (i:Int)=some (t,a,rest):=by
  refine down a.length ?_ ?_
  .intro m hm;obtain⟨m,rfl⟩:∃aB,m=aB+1:=⟨m-1,by omega⟩
   simp only[tf,Eo];rw[gq (Nat.le_refl _)];simp[hg]
  .intro i ax ih m hm;obtain⟨m,rfl⟩:∃aB,m=aB+1:=⟨m-1,by omega⟩
   simp only[tf,Eo];rw[hG ax,hx i _ ax (by omega),drop_cons a i ax];simp only[cond_true,hg,List.append_assoc];rw[Z0 _ (List.getElem_mem ax)];simp only[bind_some];rw[pT (by simp;omega) (by simp;omega),Nh];simp only[bind_some];have Nk:=ih m (by omega);rw[List.take_succ_eq_append_getElem ax]at Nk;exact Nk
 refine fZ (a.length+1) λm hm=>?_;have:=key 0 (by omega) m (by omega);simpa using this
theorem Z1 (n:Nat):∀x,nu x->h7 x<=n->∀rest,vc n (gI x++rest)=some (x.term,x.args,rest):=by
 induction n with
 |zero=>intro x _ h;have:=vJ x;omega
 |succ n ih=>
  intro x hw J rest;obtain⟨R,U⟩:=(ZY x).1 hw;have dm:=ZX x;simp only[vc,Ep,ZW,List.cons_append,F6,bind_some,Y5,M1,<-R];refine ZZ _ _ _ _ (by have:=Bc x.term;omega) λy a6 rest=>ih y (Gj U y a6) ?_ rest;have:=Gk y a6;omega
theorem Gl (x:bY) (hw:nu x):vd (gI x)=some (x.term,x.args):=by
 unfold vd Er;rw[fZ (x:=some (x.term,x.args,[])) (h7 x) λn aO=>by
  have:=Z1 n x hw aO [];simpa using this]
 rfl
def tK (op a b:Int):Int:=
 cond (op==0) (Int.tmod (i64.wrap (a+b)) 64) (cond (op==1) (Int.tmod (i64.wrap ((i64.wrap (a-b))+64)) 64) (cond (op==2) (Int.tmod (i64.wrap (a*b)) 64) (cond (op==3) (qL (a==b)) (cond (op==4) (qL (a !=b)) (cond (op==5) (qL (decide (a<b))) (cond (op==6) (qL (decide (a<=b))) (cond (op==7) (qL ((a !=0)&&(b !=0))) (qL ((a !=0)||(b !=0))))))))))
theorem Z2 (op a b:Int):Au op a b=some (tK op a b):=by
 unfold Au tK nY;simp only[A8,bind_some];cases op==0<;>cases op==1<;>cases op==2<;>cases op==3<;>cases op==4<;>cases op==5<;>cases op==6<;>cases op==7<;>cases a !=0<;>cases b !=0<;>rfl
theorem Z3 (op a b:Int):zX op a b=some (tK op a b):=by
 unfold zX tK nW;simp only[A8,bind_some];cases op==0<;>cases op==1<;>cases op==2<;>cases op==3<;>cases op==4<;>cases op==5<;>cases op==6<;>cases op==7<;>cases a !=0<;>cases b !=0<;>rfl
def tL (t:aM) (l:acd):Int:=cond (t.Kind==3) (qL (l.getD 0 0==0)) (tK t.Value (l.getD 0 0) (l.getD 1 0))
theorem Gm:∀a:List bY,a.length<=iQ a
 |[]=>zero_le _
 |x::r=>by have:=Gm r;have:=vJ x;simp only[List.length_cons,iQ];omega
theorem Z4 (e:acp) (he:e.length<=1048576) (rest:acp):∀(n:Nat) (xs:List bY) (i:Nat),oT xs->iQ xs=n->n<=1000000->i<=e.length->e.drop i=hg xs++rest->∀m,n<m->
  u1 e m (i:Int) (xs.length:Int)=some ((i+n:Nat):Int):=by
 intro n;induction n with
 |zero=>
  intro xs i _ J _ _ _ m hm;obtain⟨m,rfl⟩:∃aB,m=aB+1:=⟨m-1,by omega⟩
  have:xs=[]:=by
   cases xs with
   |nil=>rfl
   |cons x r=>simp only[iQ]at J;have:=vJ x;omega
  subst this;simp only[u1,D1];have:decide ((0:Int)<(([]:List bY).length:Int))=false:=by decide
  rw[this];rfl
 |succ n ih=>
  intro xs i hw J ae ax ad m hm;obtain⟨m,rfl⟩:∃aB,m=aB+1:=⟨m-1,by omega⟩
  cases xs with
  |nil=>simp[iQ]at J
  |cons x r=>
   obtain⟨t,a⟩:=x;have Nl:=hw.1;simp only[hg,gI,List.cons_append,List.append_assoc]at ad;have cW:i<e.length:=by
    rcases Nat.lt_or_ge i e.length with h|h
    .exact h
    .rw[List.drop_of_length_le h]at ad;cases ad
   rw[drop_cons e i cW]at ad;injection ad with R U;simp only[u1,D1];have d1:decide ((0:Int)<((bY.mk t a::r).length:Int))=true:=by simp
   have bx:=Bc t;have abZ:a.length=jK t:=Nl.1;rw[d1,fX _ i cW,R,hx i _ cW (by omega)];simp only[cond_true,bind_some,M0];rw[Ga (k:=(bY.mk t a::r).length) (by simp) (by have:=Gm (bY.mk t a::r);omega) bx];have hlen:(bY.mk t a::r).length+jK t-1=(a++r).length:=by simp;omega
   have ab0:=Gm (bY.mk t a::r);rw[hlen,ih (a++r) (i+1) ((Gi a r).2 ⟨Nl.2,hw.2⟩) (by
    have:∀a b,iQ (a++b)=iQ a+iQ b:=by
     intro a b;rw[<-ys,<-ys,<-ys,Bj,List.length_append]
    rw[this];simp only[iQ,h7]at J;omega) (by omega) (by omega) (by rw[Bj,List.append_assoc];exact U) m (by omega)]
   congr 1;omega
mutual
def j3 (a:acd):bY->Int
 | .mk t xs=>cond (t.Kind==0) t.Value (cond (t.Kind==1) (a.getD t.Value.toNat 0) (tL t (oU a xs)))
def oU (a:acd):List bY->acd
 |[]=>[]
 |x::r=>j3 a x::oU a r
end
theorem Nn (v:Int):∀(e:acp) (k:Nat),n1 v e k=true->∀t∈e,lr t v=true
 |[],_,_,_,h=>by cases h
 |t::r,k,h,u,hu=>by
  simp only[n1,Bool.and_eq_true]at h;rcases List.mem_cons.1 hu with rfl|hu
  .exact h.2.1
  .exact Nn v r _ h.2.2 u hu
theorem Gn {t:aM} {v:Int} (h:lr t v=true):(t.Kind=0/\0<=t.Value/\t.Value<=63)\/(t.Kind=1/\0<=t.Value/\t.Value<=v-1)\/(t.Kind=2/\jK t=2)\/(t.Kind=3/\jK t=1):=by
 unfold lr gy at h;by_cases bg:t.Kind=0
 .simp only[bg,beq_self_eq_true,cond_true,Bool.and_eq_true,decide_eq_true_eq]at h;exact .inl ⟨bg,h⟩
 .have fw:(t.Kind==0)=false:=by simpa using bg
  rw[fw,cond_false]at h;by_cases R:t.Kind=1
  .simp only[R,beq_self_eq_true,cond_true,Bool.and_eq_true,decide_eq_true_eq]at h;exact .inr (.inl ⟨R,h⟩)
  .have aH:(t.Kind==1)=false:=by simpa using R
   rw[aH,cond_false]at h;by_cases U:t.Kind=2
   .exact .inr (.inr (.inl ⟨U,by simp[jK,U]⟩))
   .have aN:(t.Kind==2)=false:=by simpa using U
    rw[aN,cond_false]at h;by_cases aw:t.Kind=3
    .exact .inr (.inr (.inr ⟨aw,by simp[jK,aw]⟩))
    .have aP:(t.Kind==3)=false:=by simpa using aw
     rw[aP,cond_false]at h;cases h
theorem Np {α:Type} {l:List α} (h:l.length=1):∃x,l=[x]:=by
 match l,h with
 |[x],_=>exact⟨x,rfl⟩
theorem Nq {α:Type} {l:List α} (h:l.length=2):∃x y,l=[x,y]:=by
 match l,h with
 |[x,y],_=>exact⟨x,y,rfl⟩
theorem Z5 (a:acd):∀(n:Nat) (x:bY),nu x->h7 x<=n->(∀t∈gI x,lr t a.length=true)->ti n x a=some (j3 a x):=by
 intro n;induction n with
 |zero=>intro x _ h;have:=vJ x;omega
 |succ n ih=>
  rintro⟨t,xs⟩ hw J aK;obtain⟨R,U⟩:=hw;simp only[h7]at J;simp only[gI,List.mem_cons]at aK;have rW:∀y∈xs,ti n y a=some (j3 a y):=λy a6=>by
   refine ih y (Gj U y a6) (by have:=Gk y a6;omega) λu hu=>aK u (.inr ?_);have ef:∀(l:List bY),y∈l->u∈hg l:=by
    intro l;induction l with
    |nil=>intro h;cases h
    |cons z r Gp=>
     intro h;simp only[hg,List.mem_append];rcases List.mem_cons.1 h with rfl|h
     .exact .inl hu
     .exact .inr (Gp h)
   exact ef xs a6
  simp only[ti,Ew,bY.term,bY.args];rcases Gn (aK t (.inl rfl))with⟨k,bO,b1⟩|⟨k,bO,b1⟩|⟨k,bO⟩|⟨k,bO⟩
  .simp only[j3,k,beq_self_eq_true,cond_true]
  .obtain⟨aB,cp⟩:∃aB:Nat,t.Value=aB:=⟨t.Value.toNat,by omega⟩
   have pk:aB<a.length:=by omega
   simp only[j3,k,cp,fX a aB pk,Int.toNat_natCast,List.getD_eq_getElem?_getD,List.getElem?_eq_getElem pk,getD_some,bind_some,beq_self_eq_true,cond_true,show((1:Int)==0)=false from rfl,cond_false]
  .obtain⟨y,z,rfl⟩:=Nq (R.trans bO);have aH:cg [y,z] 0=some y:=rfl;have aN:cg [y,z] 1=some z:=rfl;simp only[j3,oU,tL,k,aH,aN,rW y (by simp),rW z (by simp),Z2,bind_some,show((2:Int)==0)=false from rfl,show((2:Int)==1)=false from rfl,show((2:Int)==3)=false from rfl,cond_false];rfl
  .obtain⟨y,rfl⟩:=Np (R.trans bO);have aH:cg [y] 0=some y:=rfl;simp only[j3,oU,tL,k,aH,rW y (by simp),nY,A8,bind_some,show((3:Int)==0)=false from rfl,show((3:Int)==1)=false from rfl,beq_self_eq_true,cond_true,cond_false];rfl
theorem Z6 (a:acd) (x:bY) (hw:nu x) (aK:∀t∈gI x,lr t a.length=true):vf (gI x) a=some (j3 a x):=by
 unfold vf;rw[Gl x hw];simp only[bind_some,Nh];unfold xI;rw[fZ (x:=some (j3 a x)) (h7 x) λn aO=>Z5 a n x hw aO aK];rfl
theorem Z7 (a:acd) (e:acp) (he:e.length<=1000000):∀(n:Nat) (x:bY) (i:Nat) (rest:acp),nu x->h7 x<=n->(∀t∈gI x,lr t a.length=true)->e.drop i=gI x++rest->
  s7 n e a (i:Int)=some (j3 a x):=by
 intro n;induction n with
 |zero=>intro x _ _ _ h;have:=vJ x;omega
 |succ n ih=>
  rintro⟨t,xs⟩ i rest hw J aK ad;obtain⟨R,U⟩:=hw;simp only[h7]at J;simp only[gI,List.mem_cons,List.cons_append]at aK ad;have cW:i<e.length:=by
   rcases Nat.lt_or_ge i e.length with h|h
   .exact h
   .rw[List.drop_of_length_le h]at ad;cases ad
  have fJ:e.drop (i+1)=hg xs++rest:=by
   rw[drop_cons e i cW]at ad;injection ad
  have bo:cg e (i:Int)=some t:=by
   rw[fX e i cW];rw[drop_cons e i cW]at ad;injection ad with h _;rw[h]
  simp only[s7,D2,bo,bind_some];rw[hx i _ cW (by omega)];rcases Gn (aK t (.inl rfl))with⟨k,bO,b1⟩|⟨k,bO,b1⟩|⟨k,bO⟩|⟨k,bO⟩
  .simp only[j3,k,beq_self_eq_true,cond_true]
  .obtain⟨aB,cp⟩:∃aB:Nat,t.Value=aB:=⟨t.Value.toNat,by omega⟩
   have pk:aB<a.length:=by omega
   simp only[j3,k,cp,fX a aB pk,Int.toNat_natCast,List.getD_eq_getElem?_getD,List.getElem?_eq_getElem pk,getD_some,bind_some,beq_self_eq_true,cond_true,show((1:Int)==0)=false from rfl,cond_false]
  .obtain⟨y,z,rfl⟩:=Nq (R.trans bO);simp only[hg,List.append_nil,List.append_assoc,List.mem_append]at aK fJ;simp only[iQ]at J;have cQ:=ih y (i+1) (gI z++rest) U.1 (by omega) (λu hu=>aK u (.inr (.inl hu))) fJ;have ab1:h7 y<=e.length:=by
    have:=congrArg List.length fJ;simp only[List.length_drop,List.length_append,Gh]at this;omega
   have bl:zW e ((i+1:Nat):Int)=some ((i+1+h7 y:Nat):Int):=by
    unfold zW;refine fZ (h7 y+1) λm hm=>?_;exact Z4 e (by omega) (gI z++rest) (h7 y) [y] (i+1) ⟨U.1,trivial⟩ (by simp[iQ]) (by omega) (by omega) (by simpa [hg]using fJ) m (by omega)
   have DL:e.drop (i+1+h7 y)=gI z++rest:=by
    rw[<-List.drop_drop,fJ,<-Gh,List.drop_left]
   have cA:=ih z (i+1+h7 y) rest U.2.1 (by omega) (λu hu=>aK u (.inr (.inr hu))) DL;simp only[j3,oU,tL,k,cQ,bl,cA,Z3,bind_some,show((2:Int)==0)=false from rfl,show((2:Int)==1)=false from rfl,show((2:Int)==3)=false from rfl,cond_false];rfl
  .obtain⟨y,rfl⟩:=Np (R.trans bO);simp only[hg,List.append_nil,List.mem_append]at aK fJ;simp only[iQ]at J;have cQ:=ih y (i+1) rest U.1 (by omega) (λu hu=>aK u (.inr hu)) fJ;simp only[j3,oU,tL,k,cQ,nW,A8,bind_some,show((3:Int)==0)=false from rfl,show((3:Int)==1)=false from rfl,beq_self_eq_true,cond_true,cond_false];rfl
theorem Z8 (a:acd) (x:bY) (hw:nu x) (hl:(gI x).length<=1000000) (aK:∀t∈gI x,lr t a.length=true):s8 (gI x) a=some (j3 a x):=by
 unfold s8 D3;have fw:=fZ (f:=λn=>s7 n (gI x) a 0) (x:=some (j3 a x)) (h7 x) λn aO=>Z7 a (gI x) hl n x 0 [] hw aO aK (by simp);rw[fw];rfl
def gi (x:Int):Prop:=0<=x/\x<=63
theorem vK (b:Bool):gi (qL b):=by cases b<;>exact⟨by decide,by decide⟩
theorem Z9 (op a b:Int) (bx:gi a) (I:gi b):gi (tK op a b):=by
 unfold gi at bx I;unfold tK;cases op==0
 .cases op==1
  .cases op==2
   .cases op==3<;>(try exact vK _)
    cases op==4<;>(try exact vK _)
    cases op==5<;>(try exact vK _)
    cases op==6<;>(try exact vK _)
    cases op==7<;>exact vK _
   .have R:0<=a*b:=Int.mul_nonneg bx.1 I.1;have U:a*b<=63*63:=Int.mul_le_mul bx.2 I.2 I.1 (by decide);show gi (Int.tmod (i64.wrap (a*b)) 64);rw[fB _ (by omega)];unfold gi;rw[Int.tmod_eq_emod_of_nonneg R];omega
  .show gi (Int.tmod (i64.wrap ((i64.wrap (a-b))+64)) 64);rw[fB (a-b) (by omega),fB _ (by omega)];unfold gi;rw[Int.tmod_eq_emod_of_nonneg (by omega)];omega
 .show gi (Int.tmod (i64.wrap (a+b)) 64);rw[fB _ (by omega)];unfold gi;rw[Int.tmod_eq_emod_of_nonneg (by omega)];omega
theorem Z_ (a:acd) (bx:∀x∈a,gi x):∀(n:Nat) (x:bY),h7 x<=n->(∀t∈gI x,lr t a.length=true)->gi (j3 a x):=by
 intro n;induction n with
 |zero=>intro x h;have:=vJ x;omega
 |succ n ih=>
  rintro⟨t,xs⟩ J aK;simp only[h7]at J;simp only[gI,List.mem_cons]at aK;have rW:∀i,gi ((oU a xs).getD i 0):=by
   have key:∀l:List bY,iQ l<=n->(∀t∈hg l,lr t a.length=true)->∀i,gi ((oU a l).getD i 0):=by
    intro l;induction l with
    |nil=>intro _ _ i;simp only[oU,List.getD_nil];exact⟨by decide,by decide⟩
    |cons y r Gp=>
     intro R U i;simp only[iQ]at R;simp only[hg,List.mem_append]at U;cases i with
     |zero=>simp only[oU,List.getD_cons_zero];exact ih y (by omega) λu hu=>U u (.inl hu)
     |succ i=>simp only[oU,List.getD_cons_succ];exact Gp (by omega) (λu hu=>U u (.inr hu)) i
   exact key xs (by omega) λu hu=>aK u (.inr hu)
  simp only[j3];rcases Gn (aK t (.inl rfl))with⟨k,bO,b1⟩|⟨k,bO,b1⟩|⟨k,bO⟩|⟨k,bO⟩
  .simp only[k,beq_self_eq_true,cond_true];exact⟨bO,b1⟩
  .have pk:t.Value.toNat<a.length:=by omega
   simp only[k,show((1:Int)==0)=false from rfl,beq_self_eq_true,cond_true,cond_false,List.getD_eq_getElem?_getD,List.getElem?_eq_getElem pk,getD_some];exact bx _ (List.getElem_mem pk)
  .simp only[k,show((2:Int)==0)=false from rfl,show((2:Int)==1)=false from rfl,show((2:Int)==3)=false from rfl,cond_false,tL];exact Z9 _ _ _ (rW 0) (rW 1)
  .simp only[k,show((3:Int)==0)=false from rfl,show((3:Int)==1)=false from rfl,beq_self_eq_true,cond_true,cond_false,tL];exact vK _
noncomputable def ix (a:acd) (e:acp):Int:=(s8 e a).getD 0
theorem yt {a:acd} {e:acp} {most:Int} (hm:most<=1000) (h:hP e a.length most=true):s8 e a=some (ix a e)/\vf e a=some (ix a e)/\((∀x∈a,gi x)->gi (ix a e)):=by
 obtain⟨x,hw,rfl⟩:=Nj h;simp only[hP,Bool.and_eq_true,decide_eq_true_eq]at h;have aK:=Nn _ _ _ h.2;have he:(gI x).length<=1000000:=by omega
 have aH:=Z8 a x hw he aK;have aN:ix a (gI x)=j3 a x:=by unfold ix;rw[aH];rfl
 rw[aN];exact⟨aH,Z6 a x hw aK,λbx=>Z_ a bx _ x (Nat.le_refl _) aK⟩
def iI:acd->acd->Option acd
 |v::vs,b::bs=>if v<b then some ((v+1)::vs)else(iI vs bs).map (0::·)
 |_,_=>none
def jo:acd->acd->Prop
 |[],[]=>True
 |v::vs,b::bs=>(0<=v/\v<=b)/\jo vs bs
 |_,_=>False
def j4:acd->acd->Nat
 |v::vs,b::bs=>v.toNat+(b.toNat+1)*j4 vs bs
 |_,_=>0
def fc:acd->Nat
 |[]=>1
 |b::bs=>(b.toNat+1)*fc bs
theorem vL:∀{vs bs:acd},jo vs bs->vs.length=bs.length
 |[],[],_=>rfl
 |v::vs,b::bs,h=>by simp[vL h.2]
 |[],_::_,h=>h.elim
 |_::_,[],h=>h.elim
theorem tM:∀{vs bs:acd},jo vs bs->match iI vs bs with
  |some w=>jo w bs/\j4 w bs=j4 vs bs+1
  |none=>j4 vs bs+1=fc bs
 |[],[],_=>by simp[iI,j4,fc]
 |[],_::_,h=>h.elim
 |_::_,[],h=>h.elim
 |v::vs,b::bs,h=>by
  obtain⟨⟨bg,R⟩,U⟩:=h;simp only[iI];by_cases aE:v<b
  .rw[if_pos aE];exact⟨⟨⟨by omega,by omega⟩,U⟩,by simp only[j4];omega⟩
  .rw[if_neg aE];have e:v=b:=by omega
   subst e;have ih:=tM U;cases ax:iI vs bs with
   |none=>
    rw[ax]at ih;simp only[map_none,j4,fc]at ih⊢;rw[<-ih,Nat.mul_add];omega
   |some w=>
    rw[ax]at ih;simp only[map_some]at ih⊢;refine⟨⟨⟨by omega,bg⟩,ih.1⟩,?_⟩;simp only[j4,ih.2,Nat.mul_add,Int.toNat_zero];omega
theorem Nr {vs bs:acd} (h:jo vs bs):j4 vs bs<fc bs:=by
 have:∀{vs bs:acd},jo vs bs->j4 vs bs+1<=fc bs:=by
  intro vs;induction vs with
  |nil=>
   intro bs h;cases bs with
   |nil=>simp[j4,fc]
   |cons b bs=>exact h.elim
  |cons v vs ih=>
   intro bs h;cases bs with
   |nil=>exact h.elim
   |cons b bs=>
    have U:=ih h.2;have aw:(b.toNat+1)*(j4 vs bs+1)<=(b.toNat+1)*fc bs:=mul_le_mul_left _ U;have aQ:v.toNat<=b.toNat:=by have:=h.1;omega
    simp only[j4,fc];rw[Nat.mul_add]at aw;omega
 exact this h
theorem Bk:∀(bs:acd),(∀b∈bs,0<=b)->jo (List.replicate bs.length 0) bs/\j4 (List.replicate bs.length 0) bs=0
 |[],_=>⟨trivial,rfl⟩
 |b::bs,h=>by
  obtain⟨R,U⟩:=Bk bs λx ae=>h x (by simp[ae]);rw[List.length_cons,List.replicate_succ];exact⟨⟨⟨Int.le_refl _,h b (by simp)⟩,R⟩,by simp[j4,U]⟩
theorem Ns:∀(a b:acd),fc (a++b)=fc a*fc b
 |[],b=>by simp[fc]
 |x::a,b=>by simp only[List.cons_append,fc,Ns a b,Nat.mul_assoc]
theorem rX:∀(a:acd),fc a.reverse=fc a
 |[]=>rfl
 |x::a=>by rw[List.reverse_cons,Ns,rX a];simp only[fc];rw[Nat.mul_comm];simp
def k2 (bs:acd):Nat->acd->List acd
 |0,_=>[]
 |n+1,r=>r::(match iI r bs with
  |some w=>k2 bs n w
  |none=>[])
theorem Nt:∀(n:Nat) (bs r:acd),jo r bs->n+j4 r bs=fc bs->(k2 bs n r).length=n
 |0,bs,r,h,aO=>rfl
 |n+1,bs,r,h,aO=>by
  have ax:=tM h;simp only[k2,List.length_cons];cases hw:iI r bs with
  |none=>rw[hw]at ax;simp only at ax⊢;simp;omega
  |some w=>
   rw[hw]at ax;simp only at ax⊢;rw[Nt n bs w ax.1 (by omega)]
theorem Nu:∀(n:Nat) (bs r:acd),jo r bs->∀x∈k2 bs n r,jo x bs
 |0,bs,r,h,x,ae=>by cases ae
 |n+1,bs,r,h,x,ae=>by
  have ax:=tM h;simp only[k2]at ae;rcases List.mem_cons.1 ae with rfl|ae
  .exact h
  .cases hw:iI r bs with
   |none=>rw[hw]at ae;cases ae
   |some w=>rw[hw]at ax ae;exact Nu n bs w ax.1 x ae
def lv (r:acd) (n k:Nat):acd:=(r.drop (n-k)).reverse++List.replicate (n-k) 0
theorem aaa {r:acd} {n k:Nat} (aD:r.length=n) (ak:k<=n):(lv r n k).length=n:=by
 simp only[lv,List.length_append,List.length_reverse,List.length_drop,List.length_replicate];omega
theorem Nv {r:acd} {n k:Nat} (aD:r.length=n) (ak:k<n):cg (lv r n (k+1)) (k:Int)=some (r[n-(k+1)]'(by omega)):=by
 rw[fX _ k (by rw[aaa aD (by omega)];omega)];congr 1;unfold lv;rw[List.getElem_append_left (by simp;omega),List.getElem_reverse,List.getElem_drop];congr 1;simp only[List.length_drop];omega
theorem yu {r:acd} {n k:Nat} (aD:r.length=n) (ak:k<n):r.drop (n-(k+1))=(r[n-(k+1)]'(by omega))::r.drop (n-k):=by
 rw[drop_cons r (n-(k+1)) (by omega)];congr 2;omega
theorem Gq {r:acd} {n k:Nat} (aD:r.length=n) (ak:k<n) (y:Int):(lv r n (k+1)).set k y=(r.drop (n-k)).reverse++y::List.replicate (n-(k+1)) 0:=by
 unfold lv;rw[yu aD ak,List.reverse_cons,List.append_assoc,List.set_append_right k y (by simp;omega)];have:k-(r.drop (n-k)).reverse.length=0:=by simp;omega
 rw[this];simp
theorem Nw {r:acd} {n k:Nat} (aD:r.length=n) (ak:k<n):(lv r n (k+1)).set k 0=lv r n k:=by
 rw[Gq aD ak];unfold lv;congr 1;rw[show n-k=(n-(k+1))+1 by omega,List.replicate_succ]
theorem Bl (k:Nat) (h:k<=1000000):i64.wrap ((k:Int)-1)=(k:Int)-1:=fB _ (by omega)
theorem Nx {bs:acd} {n k:Nat} (I:bs.length=n) (ak:k<n):cg bs.reverse (k:Int)=some (bs[n-(k+1)]'(by omega)):=by
 rw[fX _ k (by simp;omega)];congr 1;rw[List.getElem_reverse];congr 1;omega
theorem Gr:∀{vs bs:acd} (i:Nat) (h:jo vs bs) (aE:i<vs.length) (I:i<bs.length),0<=vs[i]/\vs[i]<=bs[i]
 |v::vs,b::bs,0,h,_,_=>h.1
 |v::vs,b::bs,i+1,h,aE,I=>by simpa using Gr i h.2 (by simpa using aE) (by simpa using I)
 |[],_,i,_,aE,_=>by simp at aE
 |_::_,[],i,h,_,_=>h.elim
theorem Ny {r bs:acd} (h:jo r bs) (I:∀b∈bs,b<=7) (hl:bs.length<=1000):
  z6 r.reverse bs.reverse=some (match iI r bs with
   |some w=>(true,w.reverse)
   |none=>(false,List.replicate bs.length 0)):=by
 have aD:=vL h;unfold z6;have key:∀k,k<=bs.length->∀m,k<m->u4 bs.reverse m (lv r bs.length k) ((k:Int)-1)=some (match iI (r.drop (bs.length-k)) (bs.drop (bs.length-k))with
   |some w=>(true,w.reverse++List.replicate (bs.length-k) 0)
   |none=>(false,List.replicate bs.length 0)):=by
  intro k;induction k with
  |zero=>
   intro _ m hm;obtain⟨m,rfl⟩:∃aB,m=aB+1:=⟨m-1,by omega⟩
   simp only[u4,D8];rw[show decide ((0:Int)<=((0:Nat):Int)-1)=false by decide,cond_false,Nat.sub_zero,List.drop_of_length_le (by omega)];simp[iI,lv,aD]
  |succ k ih=>
   intro ak m hm;obtain⟨m,rfl⟩:∃aB,m=aB+1:=⟨m-1,by omega⟩
   have mg:k<bs.length:=by omega
   have e:((k+1:Nat):Int)-1=(k:Int):=by omega
   simp only[u4,D8];rw[e,show decide ((0:Int)<=(k:Int))=true by simp,cond_true,Nv aD mg,Nx rfl mg];simp only[bind_some,Int.toNat_natCast];rw[yu aD mg,yu rfl mg];have rW:=Gr (bs.length-(k+1)) h (by omega) (by omega);have bL:=I _ (List.getElem_mem (show bs.length-(k+1)<bs.length by omega));simp only[iI];by_cases cW:r[bs.length-(k+1)]'(by omega)<bs[bs.length-(k+1)]'(by omega)
   .rw[decide_eq_true cW,cond_true,if_pos cW,fB _ (by omega),Gq aD mg];simp
   .rw[decide_eq_false cW,cond_false,if_neg cW,Nw aD mg,Bl k (by omega),ih (by omega) m (by omega)];cases iI (r.drop (bs.length-k)) (bs.drop (bs.length-k))with
    |none=>rfl
    |some w=>
     simp only[map_some,List.reverse_cons,List.append_assoc];rw[show bs.length-k=(bs.length-(k+1))+1 by omega,List.replicate_succ];rfl
 refine fZ (bs.length+1) λm hm=>?_;have:=key bs.length (Nat.le_refl _) m (by omega);rw[Nat.sub_self]at this;simp only[List.drop_zero,List.replicate_zero,List.append_nil]at this;rw[List.length_reverse,aD,Bl _ (by omega)];have bD:lv r bs.length bs.length=r.reverse:=by simp[lv]
 rw[bD]at this;exact this
def pW (n:aca) (a:acd):aca:=if a.length=0 then n else((n++[40])++qO a)++[41]
theorem Nz {α:Type} {L:Nat->acd->Int->Option acd} (a:List α) (f:α->Int) (bg:∀m v,L (m+1) v (a.length:Int)=some v)
  (J:∀i (h:i<a.length) m v,v.length=i->L (m+1) v (i:Int)=L m (v++[f a[i]]) ((i+1:Nat):Int)):cL (λm=>L m [] 0)=some (a.map f):=by
 have key:∀i,i<=a.length->∀(v:acd) m,v.length=i->a.length-i<m->L m v (i:Int)=some (v++(a.drop i).map f):=by
  refine down a.length ?_ ?_
  .intro v m aE hm;obtain⟨m,rfl⟩:∃aB,m=aB+1:=⟨m-1,by omega⟩
   rw[bg,List.drop_of_length_le (Nat.le_refl _),List.map_nil,List.append_nil]
  .intro i ax ih v m aE hm;obtain⟨m,rfl⟩:∃aB,m=aB+1:=⟨m-1,by omega⟩
   rw[J i ax m v aE,ih (v++[f a[i]]) m (by simp[aE]) (by omega),drop_cons a i ax,List.map_cons,List.append_assoc];rfl
 refine fZ (a.length+1) λm hm=>?_;have:=key 0 (by omega) [] m rfl (by omega)
 rwa [List.drop_zero,List.nil_append]at this
theorem rY {n:Nat} (h:n<=1099511627776):h8 n=some ():=by unfold h8;rw[if_pos (by omega)]
theorem Gs (a:acd):((a.length:Int)==0)=decide (a.length=0):=by
 by_cases h:a.length=0
 .rw[h];rfl
 .rw[decide_eq_false h];simp;exact λU=>h (by rw[U];rfl)
theorem aab (n:aca) (a:acd) (aO:n.length<=10) (hl:a.length<=64) (aE:∀x∈a,gi x):xD n a=some (pW n a):=by
 unfold xD pW;rw[Gs];by_cases h:a.length=0
 .rw[decide_eq_true h,if_pos h];rfl
 .have R:=Gg a;rw[decide_eq_false h,if_neg h,cond_false,rY (by omega),ZV a hl aE];simp only[bind_some];rw[rY (by simp only[List.length_append,List.length_cons,List.length_nil];omega),rY (by simp only[List.length_append,List.length_cons,List.length_nil];omega)];rfl
theorem aac (s:acd) (h:s.length<=1048576):u7 s=some (s.all λn=>gy n 0 63):=by
 unfold u7 Ac Ab;rw[Be (f:=Aa) s (λn=> !gy n 0 63) (λm i=>by simp only[xF,Ed]) (λn _=>rfl) (by omega)];simp only[bind_some,yn,Bf,Bool.not_not]
theorem aad (n:aca) (a:acd) (aO:l7 n=true) (hl:a.length<=2) (aK:n=oS->a.length=0) (aE:∀x∈a,gi x):
  ∃b,Av n a=some (pW n a,b):=by
 have Gt:n.length<=10:=by simp only[l7,Bool.and_eq_true,decide_eq_true_eq]at aO;exact aO.1
 unfold Av;cases ak:n==([116,97,117]:aca)
 .have ad:(a.all λn=>gy n 0 63)=true:=by
   rw[List.all_eq_true];intro x ae;have:=aE x ae;simp only[gy,Bool.and_eq_true,decide_eq_true_eq];exact this
  have bx:qM n=true:=by
   simp only[qM,aO,Bool.true_and,oS,ak,Bool.not_false]
  refine⟨true,?_⟩;rw[cond_false,M7 n (by omega),bx];simp only[bind_some,Bool.not_true,cond_false];rw[show decide (2<(a.length:Int))=false from decide_eq_false (by omega),cond_false,aac a (by omega),ad];simp only[bind_some,Bool.not_true,cond_false];rw[Gs];unfold pW;by_cases h:a.length=0
  .rw[decide_eq_true h,if_pos h];rfl
  .have R:=Gg a;have aae:vi a [44]=some (qO a):=by
    unfold qO;rw[if_neg (λe=>h (by rw[e];rfl)),Nd a (by omega) aE]
   rw[decide_eq_false h,if_neg h,cond_false,rY (by omega),aae];simp only[bind_some];rw[rY (by simp only[List.length_append,List.length_cons,List.length_nil];omega),rY (by simp only[List.length_append,List.length_cons,List.length_nil];omega)];rfl
 .have bg:=aK (eq_of_beq ak);refine⟨true,?_⟩;rw[cond_true];unfold pW;rw[if_pos bg,eq_of_beq ak,Gs,decide_eq_true bg]
theorem aaf (a:acd) (h:a.length<=1048576):zV a=some a:=by
 unfold zV;rw[pT (by omega) (by omega)];rfl
theorem NA (n:Nat) (aO:n<100):∀c∈k3 n,48<=c.toNat/\c.toNat<=57:=by
 intro c aj;unfold k3 at aj;have key:∀d,d<10->48<=(UInt8.ofNat (48+d)).toNat/\(UInt8.ofNat (48+d)).toNat<=57:=by
  intro d ad;rw[UInt8.toNat_ofNat',mod_eq_of_lt (by omega)];omega
 split at aj
 .rw[List.mem_singleton]at aj;subst aj;exact key n (by omega)
 .rw[List.mem_cons,List.mem_singleton]at aj;rcases aj with rfl|rfl
  .exact key _ (by omega)
  .exact key _ (by omega)
theorem NB (p:UInt8->Prop) (NC:p 44):∀l:nq,(∀x∈l,∀c∈x,p c)->∀c∈hQ l [44],p c
 |[],_,c,aj=>by simp[hQ,List.intercalate,List.intersperse]at aj
 |[x],h,c,aj=>by rw[join_one]at aj;exact h x (by simp) c aj
 |x::y::r,h,c,aj=>by
  rw[join_cons,List.mem_append,List.mem_append,List.mem_singleton]at aj;rcases aj with aj|rfl|aj
  .exact h x (by simp) c aj
  .exact NC
  .exact NB p NC (y::r) (λz bD=>h z (List.mem_cons_of_mem _ bD)) c aj
theorem aag (a:acd) (aE:∀x∈a,gi x):∀c∈qO a,44<=c.toNat/\c.toNat<=57:=by
 intro c aj;unfold qO at aj;split at aj
 .rw[List.mem_singleton]at aj;subst aj;decide
 .refine NB (λc=>44<=c.toNat/\c.toNat<=57) (by decide) _ (λx ae d ad=>?_) c aj;obtain⟨y,a6,rfl⟩:=List.mem_map.1 ae;have R:=aE y a6;unfold gi at R;have:=NA y.toNat (by omega) d ad;omega
theorem ND {n:aca} (h:l7 n=true):∀c∈n,48<=c.toNat:=by
 intro c aj;simp only[l7,Bool.and_eq_true]at h;have U:=h.2;cases n with
 |nil=>cases U
 |cons x r=>
  simp only[Bool.and_eq_true,List.all_eq_true,small,digit,Bool.or_eq_true,decide_eq_true_eq]at U;rcases List.mem_cons.1 aj with rfl|aj
  .omega
  .have:=U.2 c aj;omega
theorem aah {n:aca} {a:acd} (aO:l7 n=true) (hl:a.length<=64) (aE:∀x∈a,gi x):(pW n a).length<=400/\(32:UInt8)∉pW n a:=by
 have Gt:n.length<=10:=by simp only[l7,Bool.and_eq_true,decide_eq_true_eq]at aO;exact aO.1
 have R:=Gg a;unfold pW;split
 .refine⟨by omega,λhm=>?_⟩;have:=ND aO _ hm;revert this;decide
 .refine⟨by simp only[List.length_append,List.length_cons,List.length_nil];omega,λhm=>?_⟩;rw[List.mem_append,List.mem_append,List.mem_append,List.mem_singleton,List.mem_singleton]at hm;rcases hm with((hm|hm)|hm)|hm
  .have:=ND aO _ hm;revert this;decide
  .revert hm;decide
  .have:=(aag a aE _ hm).1;revert this;decide
  .revert hm;decide
theorem aai (a b:acd) (h:a.length<=1048576):z7 a b=some (a==b):=by
 unfold z7;by_cases hl:a.length=b.length
 .have e:((a.length:Int) !=(b.length:Int))=false:=by simp[hl]
  rw[e,cond_false];have:=yg (n:=a.length) (l:=u5 a b) (λi=>some (a.drop i==b.drop i)) (λm=>?_) (λi ax m ih=>?_)
  .simpa using this
  .simp only[u5,D9];rw[gq (Nat.le_refl _),List.drop_of_length_le (Nat.le_refl _),List.drop_of_length_le (by omega)];rfl
  .simp only[u5,D9];rw[hG ax,fX _ i ax,fX _ i (by omega),hx i _ ax (by omega),drop_cons a i ax,drop_cons b i (by omega),List.cons_beq_cons];simp only[cond_true,bind_some,ih,bne];cases a[i]==b[i]
   .rfl
   .simp
 .have e:((a.length:Int) !=(b.length:Int))=true:=by simp;omega
  have aN:(a==b)=false:=by
   rw[beq_eq_false_iff_ne];intro h;exact hl (by rw[h])
  rw[e,cond_true,aN]
theorem NF (k cO:aca) (b:Bool):∀m,jq k (jr cO b m)=if cO=k then b else jq k m
 |[]=>by simp[jr,jq]
 |e::m=>by
  simp only[jr];by_cases h:e.1=cO
  .rw[if_pos h];simp only[jq];by_cases U:cO=k
   .rw[if_pos U,if_pos U]
   .rw[if_neg U,if_neg U,if_neg (by rw[h];exact U)]
  .rw[if_neg h];simp only[jq];by_cases U:e.1=k
   .rw[if_pos U,if_pos U,if_neg (by intro aw;exact h (U.trans aw.symm))]
   .rw[if_neg U,if_neg U,NF k cO b m]
theorem Gu {c:UInt8}:∀{x y u v:aca},c∉x->c∉y->x++c::u=y++c::v->x=y/\u=v
 |[],[],u,v,_,_,h=>⟨rfl,(List.cons.inj h).2⟩
 |[],y::b0,u,v,_,U,h=>(U (by rw[List.nil_append,List.cons_append]at h;rw[(List.cons.inj h).1];simp)).elim
 |x::xs,[],u,v,R,_,h=>(R (by rw[List.nil_append,List.cons_append]at h;rw[<-(List.cons.inj h).1];simp)).elim
 |x::xs,y::b0,u,v,R,U,h=>by
  rw[List.cons_append,List.cons_append]at h;obtain⟨aH,aN⟩:=List.cons.inj h;obtain⟨aP,bQ⟩:=Gu (λhm=>R (List.mem_cons_of_mem _ hm)) (λhm=>U (List.mem_cons_of_mem _ hm)) aN;exact⟨by rw[aH,aP],bQ⟩
theorem aaj {m n:Nat} (hm:m<100) (aO:n<100) (h:k3 m=k3 n):m=n:=by
 have d:∀a b:Fin 10,UInt8.ofNat (48+a)=UInt8.ofNat (48+b)->a=b:=by decide
 have d2:∀a b:Nat,a<10->b<10->UInt8.ofNat (48+a)=UInt8.ofNat (48+b)->a=b:=λa b bx I e=>congrArg Fin.val (d ⟨a,bx⟩ ⟨b,I⟩ e);unfold k3 at h;split at h<;>split at h
 .exact d2 _ _ (by omega) (by omega) (List.cons.inj h).1
 .cases(List.cons.inj h).2
 .cases(List.cons.inj h).2
 .have R:=d2 _ _ (by omega) (by omega) (List.cons.inj h).1;have U:=d2 _ _ (by omega) (by omega) (List.cons.inj (List.cons.inj h).2).1;omega
theorem NG:∀{a b:nq},(∀x∈a,(44:UInt8)∉x)->(∀x∈b,(44:UInt8)∉x)->a≠[]->b≠[]->hQ a [44]=hQ b [44]->a=b
 |[],_,_,_,h,_,_=>(h rfl).elim
 |_::_,[],_,_,_,h,_=>(h rfl).elim
 |[x],[y],_,_,_,_,h=>by rw[join_one,join_one]at h;rw[h]
 |[x],y::z::r,bx,_,_,_,h=>by
  rw[join_one,join_cons]at h;exact(bx x (by simp) (by rw[h];simp)).elim
 |x::z::r,[y],_,I,_,_,h=>by
  rw[join_one,join_cons]at h;exact(I y (by simp) (by rw[<-h];simp)).elim
 |x::aA::r,y::hn::q,bx,I,_,_,h=>by
  rw[join_cons,join_cons]at h;obtain⟨aH,aN⟩:=Gu (bx x (by simp)) (I y (by simp)) (by simpa using h);rw[aH,NG (a:=aA::r) (b:=hn::q) (λz bD=>bx z (List.mem_cons_of_mem _ bD)) (λz bD=>I z (List.mem_cons_of_mem _ bD)) (by simp) (by simp) aN]
theorem val_inj {a b:acd} (bx:∀x∈a,gi x) (I:∀x∈b,gi x) (h:a.map k1=b.map k1):a=b:=by
 induction a generalizing b with
 |nil=>cases b with
  |nil=>rfl
  |cons y r=>cases h
 |cons x r ih=>cases b with
  |nil=>cases h
  |cons y q=>
   rw[List.map_cons,List.map_cons]at h;obtain⟨aH,aN⟩:=List.cons.inj h;have ae:=bx x (by simp);have a6:=I y (by simp);unfold gi at ae a6;have:=aaj (m:=x.toNat) (n:=y.toNat) (by omega) (by omega) aH;rw[ih (λz bD=>bx z (List.mem_cons_of_mem _ bD)) (λz bD=>I z (List.mem_cons_of_mem _ bD)) aN,show x=y by omega]
theorem NH {a:acd} (bx:∀x∈a,gi x):∀x∈a.map k1,(44:UInt8)∉x:=by
 intro x ae hm;obtain⟨y,a6,rfl⟩:=List.mem_map.1 ae;have R:=bx y a6;unfold gi at R;have:=(NA y.toNat (by omega) _ hm).1;revert this;decide
theorem aak (n:Int) (bg:0<=n) (h:n<=1099511627776):At n=some []:=by
 unfold At Es As;have fw:i64.wrap 0=0:=fB 0 (by omega);have aH:i64.wrap (n-0)=n:=by rw[fB (n-0) (by omega)];omega
 have d:decide (n<0)=false:=by simp only[decide_eq_false_iff_not];omega
 rw[d,fw,aH,show kz 8 n=some () by unfold kz;rw[if_pos ⟨by omega,by omega,by omega⟩]];cases decide (0<n)<;>rfl
theorem aal (ls:List acd) (h:ls.length<=1048576) (J:lu ls<=1099511627776):xH ls=some ls.flatten:=by
 have tb:cL (λn=>tg ls n [] 0)=some ls.flatten:=by
  have key:∀i,i<=ls.length->∀(v:acd) m,v.length+lu (ls.drop i)<=1099511627776->ls.length-i<m->tg ls m v (i:Int)=some (v++(ls.drop i).flatten):=by
   refine down ls.length ?_ ?_
   .intro v m _ hm;obtain⟨m,rfl⟩:∃aB,m=aB+1:=⟨m-1,by omega⟩
    simp only[tg,Eu];rw[gq (Nat.le_refl _),List.drop_of_length_le (Nat.le_refl _)];simp
   .intro i ax ih v m aE hm;obtain⟨m,rfl⟩:∃aB,m=aB+1:=⟨m-1,by omega⟩
    rw[drop_cons ls i ax]at aE⊢;simp only[lu,fo]at aE;simp only[tg,Eu];rw[hG ax,fX _ i ax,hx i _ ax (by omega)];simp only[cond_true,bind_some];rw[pT (by omega) (by omega)];simp only[bind_some];rw[ih _ m (by simp only[List.length_append,lu];omega) (by omega)];simp only[List.flatten_cons,List.append_assoc]
  refine fZ (ls.length+1) λm hm=>?_;have:=key 0 (by omega) [] m (by simpa using J) (by omega);simpa using this
 unfold xH;have key:∀i,i<=ls.length->∀(v:Int) m,0<=v->v+lu (ls.drop i)<=1099511627776->ls.length-i<m->th ls m v (i:Int)=some ls.flatten:=by
  refine down ls.length ?_ ?_
  .intro v m bg aE hm;obtain⟨m,rfl⟩:∃aB,m=aB+1:=⟨m-1,by omega⟩
   simp only[th,Ev];rw[gq (Nat.le_refl _),aak v bg (by omega)];simp only[cond_false,bind_some];exact tb
  .intro i ax ih v m bg aE hm;obtain⟨m,rfl⟩:∃aB,m=aB+1:=⟨m-1,by omega⟩
   rw[drop_cons ls i ax]at aE;simp only[lu,fo]at aE;simp only[th,Ev,Et];rw[hG ax,fX _ i ax,hx i _ ax (by omega)];simp only[cond_true,bind_some];have e:i64.wrap (v+(ls[i].length:Int))=v+(ls[i].length:Int):=fB (v+(ls[i].length:Int)) ⟨by omega,by omega⟩;have d:decide (v+(ls[i].length:Int)<0)=false:=by simp only[decide_eq_false_iff_not];omega
   rw[e,d,cond_false];exact ih _ m (by omega) (by simp only[lu];omega) (by omega)
 refine fZ (ls.length+1) λm hm=>?_;exact key 0 (by omega) 0 m (by omega) (by rw[List.drop_zero];omega) (by omega)
theorem aam (a b:acd) (bx:a.length<=1048576) (I:b.length<=1048576):xH [a,b]=some (a++b):=by
 rw[aal [a,b] (by simp) (by simp only[lu,fo];omega)];simp
theorem NI:∀(s:acd) (p:Int),(∀n∈s,1<=n/\n<=7)->1<=p->p*8^s.length<=1099511627776->ns p s=p*(fc s:Nat)
 |[],p,_,_,_=>by simp[ns,fc]
 |n::s,p,bx,h,I=>by
  obtain⟨R,U⟩:=bx n (by simp);have aH:i64.wrap (n+1)=n+1:=fB _ (by omega);have Gd:(1:Int)<=8^s.length:=by
   have:(0:Int)<8^s.length:=Int.pow_pos (by decide);omega
  have Ge:p*8*8^s.length<=1099511627776:=by
   have:p*8*8^s.length=p*8^(n::s).length:=by rw[List.length_cons,Int.pow_succ,Int.mul_assoc,Int.mul_comm 8]
   rw[this];exact I
  have hle:p*(n+1)<=p*8:=Int.mul_le_mul_of_nonneg_left (by omega) (by omega);have Zu:p*8*1<=p*8*8^s.length:=Int.mul_le_mul_of_nonneg_left Gd (by omega);have si:p*1<=p*(n+1):=Int.mul_le_mul_of_nonneg_left (by omega) (by omega);have aN:i64.wrap (p*(n+1))=p*(n+1):=fB _ (by omega);rw[Gc,aH,aN,NI s _ (λm hm=>bx m (by simp[hm])) (by omega) (Int.le_trans (Int.mul_le_mul_of_nonneg_right hle (by omega)) Ge)];simp only[fc];rw[Int.natCast_mul,Int.mul_assoc];congr 2;omega
theorem aan {s:acd} (h:n2 s=true):s.length<=8/\(∀n∈s,1<=n/\n<=7)/\fc s<=4096:=by
 simp only[n2,Bool.and_eq_true,decide_eq_true_eq,List.all_eq_true,gy]at h;obtain⟨da,bx,aQ⟩:=h;have hw:=NI s 1 bx (by omega) (by
  have:∀k:Nat,k<=8->(8:Int)^k<=16777216:=by decide
  have:=this s.length da;omega)
 rw[Int.one_mul]at hw;exact⟨da,bx,by rw[hw]at aQ;simp only[rV,decide_eq_true_eq]at aQ;omega⟩
end Go.mY
