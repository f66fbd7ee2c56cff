/- Part of a proof that a law returns true for every input. No condition. -/
import Derived.Test.YtcmimclaknmnbaaGreatDoorUV2x
import Derived.Test.YtcmimclaknmnbaaGreatDoorUV1x
namespace Go.lT
open Option Go.IntKind Nat Or
open Go Go.cC
theorem akK {α:Type} {L:Nat->anR->Int->Option anR} (a:List α) (t:α->anR) (c:UInt8) (k:Nat) (hk:∀x∈a,(t x).length<=k)
  (ba:∀m v,L (m+1) v (a.length:Int)=some v)
  (U:∀i (h:i<a.length) m v,v.length<=i*(k+1)->L (m+1) v (i:Int)=L m ((if i=0 then v else v++[c])++t a[i]) ((i+1:Nat):Int)):lim (λm=>L m [] 0)=some (gV (a.map t) [c]):=by
 have key:∀i,i<=a.length->∀m,a.length-i<m->L m (gV ((a.take i).map t) [c]) (i:Int)=some (gV (a.map t) [c]):=by
  refine down a.length ?_ ?_
  .intro m hm;obtain⟨m,rfl⟩:∃j,m=j+1:=⟨m-1,by omega⟩
   rw[ba,List.take_length]
  .intro i ak ih m hm;obtain⟨m,rfl⟩:∃j,m=j+1:=⟨m-1,by omega⟩
   have hl:(gV ((a.take i).map t) [c]).length<=i*(k+1):=by
    have:=CF c k ((a.take i).map t) λx ag=>by
     obtain⟨y,hy,rfl⟩:=List.mem_map.1 ag;exact hk y (List.mem_of_mem_take hy)
    rwa [List.length_map,List.length_take,Nat.min_eq_left (Nat.le_of_lt ak)]at this
   rw[U i ak m _ hl,<-ih m (by omega)];congr 1;rw[List.take_succ_eq_append_getElem ak,List.map_append,List.map_cons,List.map_nil];by_cases h:i=0
   .subst h;rw[if_pos rfl,List.take_zero,List.map_nil,List.nil_append,join_one];rfl
   .rw[if_neg h,Uv _ _ _ (by simp;exact⟨h,by intro e;subst e;simp at ak⟩),List.append_assoc]
 refine eU (a.length+1) λm hm=>?_;have:=key 0 (by omega) m (by omega);simpa [gV,List.intercalate,List.intersperse]using this
theorem akL:∀d:Fin 10,ns (i64.wrap (48+((d:Nat):Int)))=UInt8.ofNat (48+d):=by decide
theorem akM (n:Nat) (h:n<10):ns (i64.wrap (48+(n:Int)))=UInt8.ofNat (48+n):=akL ⟨n,h⟩
theorem akN (a:UInt8):ur [a]=some [a]:=by
 unfold ur;refine eU 2 λm hm=>?_;obtain⟨m,rfl⟩:∃j,m=j+2:=⟨m-2,by omega⟩
 rfl
theorem akO (a b:UInt8):ur [a,b]=some [b,a]:=by
 unfold ur;refine eU 3 λm hm=>?_;obtain⟨m,rfl⟩:∃j,m=j+3:=⟨m-3,by omega⟩
 rfl
theorem U4 (a:Int) (m:Nat) (v:anR) (n:Nat) (aN:n≠0) (zB:n<1000) (aD:v.length<=10):sX a (m+1) v (n:Int)=sX a m (v++[UInt8.ofNat (48+n%10)]) ((n/10:Nat):Int):=by
 simp only[sX,Jq,Ev];have aI:((n:Int) !=0)=true:=by simp;omega
 have aM:Int.tmod (n:Int) 10=((n%10:Nat):Int):=rfl;have aP:decide (((n%10:Nat):Int)<0)=false:=by simp only[decide_eq_false_iff_not];omega
 have bK:Int.tdiv (n:Int) 10=((n/10:Nat):Int):=rfl;rw[aI,aM,aP,bK,akM (n%10) (by omega),dQ ((n/10:Nat):Int) (by omega),lC (by omega) (by omega)];rfl
theorem U5 (a:Int) (bg:0<=a) (m:Nat) (v:anR):sX a (m+1) v 0=ur v:=by
 simp only[sX,Jq];have e:decide (a<0)=false:=by simp only[decide_eq_false_iff_not];omega
 rw[e];rfl
theorem akP (n:Nat) (h:n<100):Bz (n:Int)=some (mM n):=by
 unfold Bz;by_cases ba:n=0
 .subst ba;rfl
 have e:((n:Int)==0)=false:=by simp;omega
 rw[e,cond_false];refine eU 3 λm hm=>?_;obtain⟨m,rfl⟩:∃j,m=j+3:=⟨m-3,by omega⟩
 rw[U4 _ _ _ n ba (by omega) (by simp)];by_cases h1:n<10
 .have aI:n/10=0:=by omega
  have aM:n%10=n:=by omega
  rw[aI,aM];rw[show(((0:Nat):Int))=0 from rfl,U5 _ (by omega),List.nil_append,akN,mM,if_pos h1]
 .rw[U4 _ _ _ (n/10) (by omega) (by omega) (by simp)];have aI:n/10/10=0:=by omega
  have aM:n/10%10=n/10:=by omega
  rw[aI,aM];rw[show(((0:Nat):Int))=0 from rfl,U5 _ (by omega),List.nil_append,List.singleton_append,akO,mM,if_neg h1]
def tw (a:anT):anR:=if a=[]then [45]else gV (a.map lD) [44]
theorem Mh (a:anT):(tw a).length<=a.length*3+1:=by
 unfold tw;split
 .simp
 .have:=CF 44 2 (a.map lD) λx ag=>by
   obtain⟨y,_,rfl⟩:=List.mem_map.1 ag;exact CG y
  rw[List.length_map]at this;omega
theorem akQ {x:Int} (h:0<=x/\x<=63):Bz x=some (lD x):=by
 have:=akP x.toNat (by omega)
 rwa [Int.toNat_of_nonneg h.1]at this
theorem akR (a:anT) (h:a.length<=64) (aD:∀x∈a,0<=x/\x<=63):Ex a=some (tw a):=by
 unfold Ex tw;by_cases bg:a=[]
 .subst bg;rfl
 have e:((a.length:Int)==0)=false:=by
  have:a.length≠0:=λh=>bg (List.length_eq_zero_iff.1 h);simp;exact bg
 rw[e,cond_false,if_neg bg];refine akK (L:=wt a) a lD 44 2 (λx _=>CG x) (λm v=>?_) (λi ak m v hl=>?_)
 .simp only[wt,Jr];rw[eT (Nat.le_refl _)];rfl
 .simp only[wt,Jr,Ew];have ag:=CG a[i];have ok:∀n,n<=1048576->iO n=some ():=λn aN=>by unfold iO;rw[if_pos (by omega)]
  rw[fq ak,eu _ i ak,fV i _ ak (by omega),ok _ (by omega)];simp only[cond_true,bind_some];rw[akQ (aD _ (List.getElem_mem ak))];simp only[bind_some];by_cases ba:i=0
  .subst ba;rw[if_pos rfl,show decide ((0:Int)<((0:Nat):Int))=false from by decide,cond_false,ok _ (by omega)];rfl
  .rw[if_neg ba,show decide ((0:Int)<(i:Int))=true from by simp;omega,cond_true,ok _ (by simp only[List.length_append,List.length_cons,List.length_nil];omega)];rfl
mutual
def hF:b7->aoe
 | .mk t a=>t::ic a
def ic:List b7->aoe
 |[]=>[]
 |x::r=>hF x++ic r
end
mutual
def jr:b7->Nat
 | .mk _ a=>1+kf a
def kf:List b7->Nat
 |[]=>0
 |x::r=>jr x+kf r
end
mutual
def pA:b7->Prop
 | .mk t a=>a.length=k3 t/\q7 a
def q7:List b7->Prop
 |[]=>True
 |x::r=>pA x/\q7 r
end
theorem U6 (x:b7):b7.mk x.term x.args=x:=by cases x;rfl
theorem akS (x:b7):hF x=x.term::ic x.args:=by cases x;simp[hF,b7.term,b7.args]
mutual
theorem Mi:∀x,(hF x).length=jr x
 | .mk t a=>by simp only[hF,jr,List.length_cons,CM a];omega
theorem CM:∀a,(ic a).length=kf a
 |[]=>by simp only[ic,kf,List.length_nil]
 |x::r=>by simp only[ic,kf,List.length_append,Mi x,CM r]
end
theorem Gg:∀a b,ic (a++b)=ic a++ic b
 |[],b=>by simp only[ic,List.nil_append]
 |x::r,b=>by simp only[List.cons_append,ic,Gg r b,List.append_assoc]
theorem Mj:∀a b,q7 (a++b)↔q7 a/\q7 b
 |[],b=>by simp[q7]
 |x::r,b=>by simp only[List.cons_append,q7,Mj r b];exact⟨λ⟨a,b,c⟩=>⟨⟨a,b⟩,c⟩,λ⟨⟨a,b⟩,c⟩=>⟨a,b,c⟩⟩
theorem Mk:∀{a:List b7},q7 a->∀x∈a,pA x
 |y::r,h,x,ag=>by
  rcases List.mem_cons.1 ag with rfl|ag
  .exact h.1
  .exact Mk h.2 x ag
theorem Ml:∀{a:List b7},∀x∈a,jr x<=kf a
 |y::r,x,ag=>by
  simp only[kf];rcases List.mem_cons.1 ag with rfl|ag
  .omega
  .have:=Ml x ag;omega
theorem zC (x:b7):1<=jr x:=by cases x;simp only[jr];omega
theorem akT (x:b7):jr x=1+kf x.args:=by cases x;simp[jr,b7.args]
theorem akU (x:b7):pA x↔x.args.length=k3 x.term/\q7 x.args:=by cases x;simp[pA,b7.args,b7.term]
theorem U7 (v:Int):∀(e:aoe) (k:Nat),qd v e k=true->∃xs:List b7,xs.length=k/\q7 xs/\ic xs=e
 |[],k,h=>by
  simp only[qd,beq_iff_eq]at h;subst h;exact⟨[],rfl,trivial,by simp only[ic]⟩
 |t::r,k,h=>by
  simp only[qd,Bool.and_eq_true,Bool.not_eq_true',beq_eq_false_iff_ne]at h;obtain⟨hk,aL,ax⟩:=h;obtain⟨ys,h1,ab,ay⟩:=U7 v r _ ax;refine⟨.mk t (ys.take (k3 t))::ys.drop (k3 t),?_,?_,?_⟩
  .simp;omega
  .have U:=List.take_append_drop (k3 t) ys;have hw:=(Mj (ys.take (k3 t)) (ys.drop (k3 t))).1 (by rw[U];exact ab);exact⟨⟨by simp;omega,hw.1⟩,hw.2⟩
  .simp only[ic,hF,List.cons_append];rw[<-Gg,List.take_append_drop,ay]
theorem U8 {v most:Int} {e:aoe} (h:i7 e v most=true):∃x,pA x/\hF x=e:=by
 simp only[i7,Bool.and_eq_true]at h;obtain⟨xs,h1,ab,ay⟩:=U7 v e 1 h.2;cases xs with
 |nil=>simp at h1
 |cons x r=>
  cases r with
  |nil=>exact⟨x,ab.1,by simpa [ic]using ay⟩
  |cons y r=>simp at h1
theorem akV (rec:aoe->Option (aO×List b7×aoe)) (t:aO) (a:List b7) (rest:aoe) (bg:a.length<=1000)
  (akW:∀x∈a,∀rest,rec (hF x++rest)=some (x.term,x.args,rest)):lim (λn=>wJ rec t (a.length:Int) n [] (ic a++rest) 0)=some (t,a,rest):=by
 have key:∀i,i<=a.length->∀m,a.length-i<m->wJ rec t (a.length:Int) m (a.take i) (ic (a.drop i)++rest) (i:Int)=some (t,a,rest):=by
  refine down a.length ?_ ?_
  .intro m hm;obtain⟨m,rfl⟩:∃j,m=j+1:=⟨m-1,by omega⟩
   simp only[wJ,J1];rw[eT (Nat.le_refl _)];simp[ic]
  .intro i ak ih m hm;obtain⟨m,rfl⟩:∃j,m=j+1:=⟨m-1,by omega⟩
   simp only[wJ,J1];rw[fq ak,fV i _ ak (by omega),drop_cons a i ak];simp only[cond_true,ic,List.append_assoc];rw[akW _ (List.getElem_mem ak)];simp only[bind_some];rw[lC (by simp;omega) (by simp;omega),U6];simp only[bind_some];have U9:=ih m (by omega);rw[List.take_succ_eq_append_getElem ak]at U9;exact U9
 refine eU (a.length+1) λm hm=>?_;have:=key 0 (by omega) m (by omega);simpa using this
theorem akX (n:Nat):∀x,pA x->jr x<=n->∀rest,yR n (hF x++rest)=some (x.term,x.args,rest):=by
 induction n with
 |zero=>intro x _ h;have:=zC x;omega
 |succ n ih=>
  intro x hw U rest;obtain⟨h1,ab⟩:=(akU x).1 hw;have dr:=akT x;simp only[yR,J2,akS,List.cons_append,Ct,bind_some,aju,UT,<-h1];refine akV _ _ _ _ (by have:=F_ x.term;omega) λy hy rest=>ih y (Mk ab y hy) ?_ rest;have:=Ml y hy;omega
theorem Mm (x:b7) (hw:pA x):yS (hF x)=some (x.term,x.args):=by
 unfold yS J3;rw[eU (x:=some (x.term,x.args,[])) (jr x) λn aN=>by
  have:=akX n x hw aN [];simpa using this]
 rfl
def xg (op a b:Int):Int:=
 cond (op==0) (Int.tmod (i64.wrap (a+b)) 64) (cond (op==1) (Int.tmod (i64.wrap ((i64.wrap (a-b))+64)) 64) (cond (op==2) (Int.tmod (i64.wrap (a*b)) 64) (cond (op==3) (ts (a==b)) (cond (op==4) (ts (a !=b)) (cond (op==5) (ts (decide (a<b))) (cond (op==6) (ts (decide (a<=b))) (cond (op==7) (ts ((a !=0)&&(b !=0))) (ts ((a !=0)||(b !=0))))))))))
theorem akY (op a b:Int):E8 op a b=some (xg op a b):=by
 unfold E8 xg p8;simp only[F5,bind_some];cases op==0<;>cases op==1<;>cases op==2<;>cases op==3<;>cases op==4<;>cases op==5<;>cases op==6<;>cases op==7<;>cases a !=0<;>cases b !=0<;>rfl
theorem akZ (op a b:Int):Eu op a b=some (xg op a b):=by
 unfold Eu xg pZ;simp only[F5,bind_some];cases op==0<;>cases op==1<;>cases op==2<;>cases op==3<;>cases op==4<;>cases op==5<;>cases op==6<;>cases op==7<;>cases a !=0<;>cases b !=0<;>rfl
def xh (t:aO) (l:anT):Int:=cond (t.Kind==3) (ts (l.getD 0 0==0)) (xg t.Value (l.getD 0 0) (l.getD 1 0))
theorem Mn:∀a:List b7,a.length<=kf a
 |[]=>zero_le _
 |x::r=>by have:=Mn r;have:=zC x;simp only[List.length_cons,kf];omega
theorem ak0 (e:aoe) (he:e.length<=1048576) (rest:aoe):∀(n:Nat) (xs:List b7) (i:Nat),q7 xs->kf xs=n->n<=1000000->i<=e.length->e.drop i=ic xs++rest->∀m,n<m->
  yv e m (i:Int) (xs.length:Int)=some ((i+n:Nat):Int):=by
 intro n;induction n with
 |zero=>
  intro xs i _ U _ _ _ m hm;obtain⟨m,rfl⟩:∃j,m=j+1:=⟨m-1,by omega⟩
  have:xs=[]:=by
   cases xs with
   |nil=>rfl
   |cons x r=>simp only[kf]at U;have:=zC x;omega
  subst this;simp only[yv,Jl];have:decide ((0:Int)<(([]:List b7).length:Int))=false:=by decide
  rw[this];rfl
 |succ n ih=>
  intro xs i hw U ag ak ae m hm;obtain⟨m,rfl⟩:∃j,m=j+1:=⟨m-1,by omega⟩
  cases xs with
  |nil=>simp[kf]at U
  |cons x r=>
   obtain⟨t,a⟩:=x;have U_:=hw.1;simp only[ic,hF,List.cons_append,List.append_assoc]at ae;have cp:i<e.length:=by
    rcases Nat.lt_or_ge i e.length with h|h
    .exact h
    .rw[List.drop_of_length_le h]at ae;cases ae
   rw[drop_cons e i cp]at ae;injection ae with h1 ab;simp only[yv,Jl];have d1:decide ((0:Int)<((b7.mk t a::r).length:Int))=true:=by simp
   have bg:=F_ t;have anN:a.length=k3 t:=U_.1;rw[d1,eu _ i cp,h1,fV i _ cp (by omega)];simp only[cond_true,bind_some,US];rw[Mb (k:=(b7.mk t a::r).length) (by simp) (by have:=Mn (b7.mk t a::r);omega) bg];have hlen:(b7.mk t a::r).length+k3 t-1=(a++r).length:=by simp;omega
   have anO:=Mn (b7.mk t a::r);rw[hlen,ih (a++r) (i+1) ((Mj a r).2 ⟨U_.2,hw.2⟩) (by
    have:∀a b,kf (a++b)=kf a+kf b:=by
     intro a b;rw[<-CM,<-CM,<-CM,Gg,List.length_append]
    rw[this];simp only[kf,jr]at U;omega) (by omega) (by omega) (by rw[Gg,List.append_assoc];exact ab) m (by omega)]
   congr 1;omega
mutual
def lF (a:anT):b7->Int
 | .mk t xs=>cond (t.Kind==0) t.Value (cond (t.Kind==1) (a.getD t.Value.toNat 0) (xh t (q8 a xs)))
def q8 (a:anT):List b7->anT
 |[]=>[]
 |x::r=>lF a x::q8 a r
end
theorem Va (v:Int):∀(e:aoe) (k:Nat),qd v e k=true->∀t∈e,nn t v=true
 |[],_,_,_,h=>by cases h
 |t::r,k,h,u,hu=>by
  simp only[qd,Bool.and_eq_true]at h;rcases List.mem_cons.1 hu with rfl|hu
  .exact h.2.1
  .exact Va v r _ h.2.2 u hu
theorem Mo {t:aO} {v:Int} (h:nn t v=true):(t.Kind=0/\0<=t.Value/\t.Value<=63)\/(t.Kind=1/\0<=t.Value/\t.Value<=v-1)\/(t.Kind=2/\k3 t=2)\/(t.Kind=3/\k3 t=1):=by
 unfold nn ho at h;by_cases ba:t.Kind=0
 .simp only[ba,beq_self_eq_true,cond_true,Bool.and_eq_true,decide_eq_true_eq]at h;exact .inl ⟨ba,h⟩
 .have fA:(t.Kind==0)=false:=by simpa using ba
  rw[fA,cond_false]at h;by_cases h1:t.Kind=1
  .simp only[h1,beq_self_eq_true,cond_true,Bool.and_eq_true,decide_eq_true_eq]at h;exact .inr (.inl ⟨h1,h⟩)
  .have aI:(t.Kind==1)=false:=by simpa using h1
   rw[aI,cond_false]at h;by_cases ab:t.Kind=2
   .exact .inr (.inr (.inl ⟨ab,by simp[k3,ab]⟩))
   .have aM:(t.Kind==2)=false:=by simpa using ab
    rw[aM,cond_false]at h;by_cases ay:t.Kind=3
    .exact .inr (.inr (.inr ⟨ay,by simp[k3,ay]⟩))
    .have aP:(t.Kind==3)=false:=by simpa using ay
     rw[aP,cond_false]at h;cases h
theorem Vb {α:Type} {l:List α} (h:l.length=1):∃x,l=[x]:=by
 match l,h with
 |[x],_=>exact⟨x,rfl⟩
theorem Vc {α:Type} {l:List α} (h:l.length=2):∃x y,l=[x,y]:=by
 match l,h with
 |[x,y],_=>exact⟨x,y,rfl⟩
theorem ak1 (a:anT):∀(n:Nat) (x:b7),pA x->jr x<=n->(∀t∈hF x,nn t a.length=true)->wM n x a=some (lF a x):=by
 intro n;induction n with
 |zero=>intro x _ h;have:=zC x;omega
 |succ n ih=>
  rintro⟨t,xs⟩ hw U aL;obtain⟨h1,ab⟩:=hw;simp only[jr]at U;simp only[hF,List.mem_cons]at aL;have mZ:∀y∈xs,wM n y a=some (lF a y):=λy hy=>by
   refine ih y (Mk ab y hy) (by have:=Ml y hy;omega) λu hu=>aL u (.inr ?_);have eV:∀(l:List b7),y∈l->u∈ic l:=by
    intro l;induction l with
    |nil=>intro h;cases h
    |cons z r Mp=>
     intro h;simp only[ic,List.mem_append];rcases List.mem_cons.1 h with rfl|h
     .exact .inl hu
     .exact .inr (Mp h)
   exact eV xs hy
  simp only[wM,J8,b7.term,b7.args];rcases Mo (aL t (.inl rfl))with⟨k,bT,b2⟩|⟨k,bT,b2⟩|⟨k,bT⟩|⟨k,bT⟩
  .simp only[lF,k,beq_self_eq_true,cond_true]
  .obtain⟨j,bo⟩:∃j:Nat,t.Value=j:=⟨t.Value.toNat,by omega⟩
   have o2:j<a.length:=by omega
   simp only[lF,k,bo,eu a j o2,Int.toNat_natCast,List.getD_eq_getElem?_getD,List.getElem?_eq_getElem o2,getD_some,bind_some,beq_self_eq_true,cond_true,show((1:Int)==0)=false from rfl,cond_false]
  .obtain⟨y,z,rfl⟩:=Vc (h1.trans bT);have aI:bI [y,z] 0=some y:=rfl;have aM:bI [y,z] 1=some z:=rfl;simp only[lF,q8,xh,k,aI,aM,mZ y (by simp),mZ z (by simp),akY,bind_some,show((2:Int)==0)=false from rfl,show((2:Int)==1)=false from rfl,show((2:Int)==3)=false from rfl,cond_false];rfl
  .obtain⟨y,rfl⟩:=Vb (h1.trans bT);have aI:bI [y] 0=some y:=rfl;simp only[lF,q8,xh,k,aI,mZ y (by simp),p8,F5,bind_some,show((3:Int)==0)=false from rfl,show((3:Int)==1)=false from rfl,beq_self_eq_true,cond_true,cond_false];rfl
theorem ak2 (a:anT) (x:b7) (hw:pA x) (aL:∀t∈hF x,nn t a.length=true):yU (hF x) a=some (lF a x):=by
 unfold yU;rw[Mm x hw];simp only[bind_some,U6];unfold BP;rw[eU (x:=some (lF a x)) (jr x) λn aN=>ak1 a n x hw aN aL];rfl
theorem ak3 (a:anT) (e:aoe) (he:e.length<=1000000):∀(n:Nat) (x:b7) (i:Nat) (rest:aoe),pA x->jr x<=n->(∀t∈hF x,nn t a.length=true)->e.drop i=hF x++rest->
  wm n e a (i:Int)=some (lF a x):=by
 intro n;induction n with
 |zero=>intro x _ _ _ h;have:=zC x;omega
 |succ n ih=>
  rintro⟨t,xs⟩ i rest hw U aL ae;obtain⟨h1,ab⟩:=hw;simp only[jr]at U;simp only[hF,List.mem_cons,List.cons_append]at aL ae;have cp:i<e.length:=by
   rcases Nat.lt_or_ge i e.length with h|h
   .exact h
   .rw[List.drop_of_length_le h]at ae;cases ae
  have fP:e.drop (i+1)=ic xs++rest:=by
   rw[drop_cons e i cp]at ae;injection ae
  have hg:bI e (i:Int)=some t:=by
   rw[eu e i cp];rw[drop_cons e i cp]at ae;injection ae with h _;rw[h]
  simp only[wm,Jm,hg,bind_some];rw[fV i _ cp (by omega)];rcases Mo (aL t (.inl rfl))with⟨k,bT,b2⟩|⟨k,bT,b2⟩|⟨k,bT⟩|⟨k,bT⟩
  .simp only[lF,k,beq_self_eq_true,cond_true]
  .obtain⟨j,bo⟩:∃j:Nat,t.Value=j:=⟨t.Value.toNat,by omega⟩
   have o2:j<a.length:=by omega
   simp only[lF,k,bo,eu a j o2,Int.toNat_natCast,List.getD_eq_getElem?_getD,List.getElem?_eq_getElem o2,getD_some,bind_some,beq_self_eq_true,cond_true,show((1:Int)==0)=false from rfl,cond_false]
  .obtain⟨y,z,rfl⟩:=Vc (h1.trans bT);simp only[ic,List.append_nil,List.append_assoc,List.mem_append]at aL fP;simp only[kf]at U;have cY:=ih y (i+1) (hF z++rest) ab.1 (by omega) (λu hu=>aL u (.inr (.inl hu))) fP;have Rl:jr y<=e.length:=by
    have:=congrArg List.length fP;simp only[List.length_drop,List.length_append,Mi]at this;omega
   have bl:Et e ((i+1:Nat):Int)=some ((i+1+jr y:Nat):Int):=by
    unfold Et;refine eU (jr y+1) λm hm=>?_;exact ak0 e (by omega) (hF z++rest) (jr y) [y] (i+1) ⟨ab.1,trivial⟩ (by simp[kf]) (by omega) (by omega) (by simpa [ic]using fP) m (by omega)
   have I0:e.drop (i+1+jr y)=hF z++rest:=by
    rw[<-List.drop_drop,fP,<-Mi,List.drop_left]
   have cz:=ih z (i+1+jr y) rest ab.2.1 (by omega) (λu hu=>aL u (.inr (.inr hu))) I0;simp only[lF,q8,xh,k,cY,bl,cz,akZ,bind_some,show((2:Int)==0)=false from rfl,show((2:Int)==1)=false from rfl,show((2:Int)==3)=false from rfl,cond_false];rfl
  .obtain⟨y,rfl⟩:=Vb (h1.trans bT);simp only[ic,List.append_nil,List.mem_append]at aL fP;simp only[kf]at U;have cY:=ih y (i+1) rest ab.1 (by omega) (λu hu=>aL u (.inr hu)) fP;simp only[lF,q8,xh,k,cY,pZ,F5,bind_some,show((3:Int)==0)=false from rfl,show((3:Int)==1)=false from rfl,beq_self_eq_true,cond_true,cond_false];rfl
theorem ak4 (a:anT) (x:b7) (hw:pA x) (hl:(hF x).length<=1000000) (aL:∀t∈hF x,nn t a.length=true):wo (hF x) a=some (lF a x):=by
 unfold wo Jn;have fA:=eU (f:=λn=>wm n (hF x) a 0) (x:=some (lF a x)) (jr x) λn aN=>ak3 a (hF x) hl n x 0 [] hw aN aL (by simp);rw[fA];rfl
def gQ (x:Int):Prop:=0<=x/\x<=63
theorem zD (b:Bool):gQ (ts b):=by cases b<;>exact⟨by decide,by decide⟩
theorem ak5 (op a b:Int) (bg:gQ a) (R:gQ b):gQ (xg op a b):=by
 unfold gQ at bg R;unfold xg;cases op==0
 .cases op==1
  .cases op==2
   .cases op==3<;>(try exact zD _)
    cases op==4<;>(try exact zD _)
    cases op==5<;>(try exact zD _)
    cases op==6<;>(try exact zD _)
    cases op==7<;>exact zD _
   .have h1:0<=a*b:=Int.mul_nonneg bg.1 R.1;have ab:a*b<=63*63:=Int.mul_le_mul bg.2 R.2 R.1 (by decide);show gQ (Int.tmod (i64.wrap (a*b)) 64);rw[dQ _ (by omega)];unfold gQ;rw[Int.tmod_eq_emod_of_nonneg h1];omega
  .show gQ (Int.tmod (i64.wrap ((i64.wrap (a-b))+64)) 64);rw[dQ (a-b) (by omega),dQ _ (by omega)];unfold gQ;rw[Int.tmod_eq_emod_of_nonneg (by omega)];omega
 .show gQ (Int.tmod (i64.wrap (a+b)) 64);rw[dQ _ (by omega)];unfold gQ;rw[Int.tmod_eq_emod_of_nonneg (by omega)];omega
theorem ak6 (a:anT) (bg:∀x∈a,gQ x):∀(n:Nat) (x:b7),jr x<=n->(∀t∈hF x,nn t a.length=true)->gQ (lF a x):=by
 intro n;induction n with
 |zero=>intro x h;have:=zC x;omega
 |succ n ih=>
  rintro⟨t,xs⟩ U aL;simp only[jr]at U;simp only[hF,List.mem_cons]at aL;have mZ:∀i,gQ ((q8 a xs).getD i 0):=by
   have key:∀l:List b7,kf l<=n->(∀t∈ic l,nn t a.length=true)->∀i,gQ ((q8 a l).getD i 0):=by
    intro l;induction l with
    |nil=>intro _ _ i;simp only[q8,List.getD_nil];exact⟨by decide,by decide⟩
    |cons y r Mp=>
     intro h1 ab i;simp only[kf]at h1;simp only[ic,List.mem_append]at ab;cases i with
     |zero=>simp only[q8,List.getD_cons_zero];exact ih y (by omega) λu hu=>ab u (.inl hu)
     |succ i=>simp only[q8,List.getD_cons_succ];exact Mp (by omega) (λu hu=>ab u (.inr hu)) i
   exact key xs (by omega) λu hu=>aL u (.inr hu)
  simp only[lF];rcases Mo (aL t (.inl rfl))with⟨k,bT,b2⟩|⟨k,bT,b2⟩|⟨k,bT⟩|⟨k,bT⟩
  .simp only[k,beq_self_eq_true,cond_true];exact⟨bT,b2⟩
  .have o2:t.Value.toNat<a.length:=by omega
   simp only[k,show((1:Int)==0)=false from rfl,beq_self_eq_true,cond_true,cond_false,List.getD_eq_getElem?_getD,List.getElem?_eq_getElem o2,getD_some];exact bg _ (List.getElem_mem o2)
  .simp only[k,show((2:Int)==0)=false from rfl,show((2:Int)==1)=false from rfl,show((2:Int)==3)=false from rfl,cond_false,xh];exact ak5 _ _ _ (mZ 0) (mZ 1)
  .simp only[k,show((3:Int)==0)=false from rfl,show((3:Int)==1)=false from rfl,beq_self_eq_true,cond_true,cond_false,xh];exact zD _
noncomputable def jN (a:anT) (e:aoe):Int:=(wo e a).getD 0
theorem CN {a:anT} {e:aoe} {most:Int} (hm:most<=1000) (h:i7 e a.length most=true):wo e a=some (jN a e)/\yU e a=some (jN a e)/\((∀x∈a,gQ x)->gQ (jN a e)):=by
 obtain⟨x,hw,rfl⟩:=U8 h;simp only[i7,Bool.and_eq_true,decide_eq_true_eq]at h;have aL:=Va _ _ _ h.2;have he:(hF x).length<=1000000:=by omega
 have aI:=ak4 a x hw he aL;have aM:jN a (hF x)=lF a x:=by unfold jN;rw[aI];rfl
 rw[aM];exact⟨aI,ak2 a x hw aL,λbg=>ak6 a bg _ x (Nat.le_refl _) aL⟩
def j2:anT->anT->Option anT
 |v::vs,b::bs=>if v<b then some ((v+1)::vs)else(j2 vs bs).map (0::·)
 |_,_=>none
def kC:anT->anT->Prop
 |[],[]=>True
 |v::vs,b::bs=>(0<=v/\v<=b)/\kC vs bs
 |_,_=>False
def lG:anT->anT->Nat
 |v::vs,b::bs=>v.toNat+(b.toNat+1)*lG vs bs
 |_,_=>0
def fW:anT->Nat
 |[]=>1
 |b::bs=>(b.toNat+1)*fW bs
theorem zE:∀{vs bs:anT},kC vs bs->vs.length=bs.length
 |[],[],_=>rfl
 |v::vs,b::bs,h=>by simp[zE h.2]
 |[],_::_,h=>h.elim
 |_::_,[],h=>h.elim
theorem xi:∀{vs bs:anT},kC vs bs->match j2 vs bs with
  |some w=>kC w bs/\lG w bs=lG vs bs+1
  |none=>lG vs bs+1=fW bs
 |[],[],_=>by simp[j2,lG,fW]
 |[],_::_,h=>h.elim
 |_::_,[],h=>h.elim
 |v::vs,b::bs,h=>by
  obtain⟨⟨ba,h1⟩,ab⟩:=h;simp only[j2];by_cases aD:v<b
  .rw[if_pos aD];exact⟨⟨⟨by omega,by omega⟩,ab⟩,by simp only[lG];omega⟩
  .rw[if_neg aD];have e:v=b:=by omega
   subst e;have ih:=xi ab;cases ak:j2 vs bs with
   |none=>
    rw[ak]at ih;simp only[map_none,lG,fW]at ih⊢;rw[<-ih,Nat.mul_add];omega
   |some w=>
    rw[ak]at ih;simp only[map_some]at ih⊢;refine⟨⟨⟨by omega,ba⟩,ih.1⟩,?_⟩;simp only[lG,ih.2,Nat.mul_add,Int.toNat_zero];omega
theorem Vd {vs bs:anT} (h:kC vs bs):lG vs bs<fW bs:=by
 have:∀{vs bs:anT},kC vs bs->lG vs bs+1<=fW bs:=by
  intro vs;induction vs with
  |nil=>
   intro bs h;cases bs with
   |nil=>simp[lG,fW]
   |cons b bs=>exact h.elim
  |cons v vs ih=>
   intro bs h;cases bs with
   |nil=>exact h.elim
   |cons b bs=>
    have ab:=ih h.2;have ay:(b.toNat+1)*(lG vs bs+1)<=(b.toNat+1)*fW bs:=mul_le_mul_left _ ab;have aT:v.toNat<=b.toNat:=by have:=h.1;omega
    simp only[lG,fW];rw[Nat.mul_add]at ay;omega
 exact this h
theorem Gh:∀(bs:anT),(∀b∈bs,0<=b)->kC (List.replicate bs.length 0) bs/\lG (List.replicate bs.length 0) bs=0
 |[],_=>⟨trivial,rfl⟩
 |b::bs,h=>by
  obtain⟨h1,ab⟩:=Gh bs λx ag=>h x (by simp[ag]);rw[List.length_cons,List.replicate_succ];exact⟨⟨⟨Int.le_refl _,h b (by simp)⟩,h1⟩,by simp[lG,ab]⟩
theorem Ve:∀(a b:anT),fW (a++b)=fW a*fW b
 |[],b=>by simp[fW]
 |x::a,b=>by simp only[List.cons_append,fW,Ve a b,Nat.mul_assoc]
theorem u3:∀(a:anT),fW a.reverse=fW a
 |[]=>rfl
 |x::a=>by rw[List.reverse_cons,Ve,u3 a];simp only[fW];rw[Nat.mul_comm];simp
def mL (bs:anT):Nat->anT->List anT
 |0,_=>[]
 |n+1,r=>r::(match j2 r bs with
  |some w=>mL bs n w
  |none=>[])
theorem Vf:∀(n:Nat) (bs r:anT),kC r bs->n+lG r bs=fW bs->(mL bs n r).length=n
 |0,bs,r,h,aN=>rfl
 |n+1,bs,r,h,aN=>by
  have ak:=xi h;simp only[mL,List.length_cons];cases hw:j2 r bs with
  |none=>rw[hw]at ak;simp only at ak⊢;simp;omega
  |some w=>
   rw[hw]at ak;simp only at ak⊢;rw[Vf n bs w ak.1 (by omega)]
theorem Vg:∀(n:Nat) (bs r:anT),kC r bs->∀x∈mL bs n r,kC x bs
 |0,bs,r,h,x,ag=>by cases ag
 |n+1,bs,r,h,x,ag=>by
  have ak:=xi h;simp only[mL]at ag;rcases List.mem_cons.1 ag with rfl|ag
  .exact h
  .cases hw:j2 r bs with
   |none=>rw[hw]at ag;cases ag
   |some w=>rw[hw]at ak ag;exact Vg n bs w ak.1 x ag
def nr (r:anT) (n k:Nat):anT:=(r.drop (n-k)).reverse++List.replicate (n-k) 0
theorem ak7 {r:anT} {n k:Nat} (ax:r.length=n) (hk:k<=n):(nr r n k).length=n:=by
 simp only[nr,List.length_append,List.length_reverse,List.length_drop,List.length_replicate];omega
theorem Vh {r:anT} {n k:Nat} (ax:r.length=n) (hk:k<n):bI (nr r n (k+1)) (k:Int)=some (r[n-(k+1)]'(by omega)):=by
 rw[eu _ k (by rw[ak7 ax (by omega)];omega)];congr 1;unfold nr;rw[List.getElem_append_left (by simp;omega),List.getElem_reverse,List.getElem_drop];congr 1;simp only[List.length_drop];omega
theorem CO {r:anT} {n k:Nat} (ax:r.length=n) (hk:k<n):r.drop (n-(k+1))=(r[n-(k+1)]'(by omega))::r.drop (n-k):=by
 rw[drop_cons r (n-(k+1)) (by omega)];congr 2;omega
theorem Mq {r:anT} {n k:Nat} (ax:r.length=n) (hk:k<n) (y:Int):(nr r n (k+1)).set k y=(r.drop (n-k)).reverse++y::List.replicate (n-(k+1)) 0:=by
 unfold nr;rw[CO ax hk,List.reverse_cons,List.append_assoc,List.set_append_right k y (by simp;omega)];have:k-(r.drop (n-k)).reverse.length=0:=by simp;omega
 rw[this];simp
theorem Vi {r:anT} {n k:Nat} (ax:r.length=n) (hk:k<n):(nr r n (k+1)).set k 0=nr r n k:=by
 rw[Mq ax hk];unfold nr;congr 1;rw[show n-k=(n-(k+1))+1 by omega,List.replicate_succ]
theorem Gi (k:Nat) (h:k<=1000000):i64.wrap ((k:Int)-1)=(k:Int)-1:=dQ _ (by omega)
theorem Vj {bs:anT} {n k:Nat} (R:bs.length=n) (hk:k<n):bI bs.reverse (k:Int)=some (bs[n-(k+1)]'(by omega)):=by
 rw[eu _ k (by simp;omega)];congr 1;rw[List.getElem_reverse];congr 1;omega
theorem Mr:∀{vs bs:anT} (i:Nat) (h:kC vs bs) (aD:i<vs.length) (R:i<bs.length),0<=vs[i]/\vs[i]<=bs[i]
 |v::vs,b::bs,0,h,_,_=>h.1
 |v::vs,b::bs,i+1,h,aD,R=>by simpa using Mr i h.2 (by simpa using aD) (by simpa using R)
 |[],_,i,_,aD,_=>by simp at aD
 |_::_,[],i,h,_,_=>h.elim
theorem Vk {r bs:anT} (h:kC r bs) (R:∀b∈bs,b<=7) (hl:bs.length<=1000):
  Ey r.reverse bs.reverse=some (match j2 r bs with
   |some w=>(true,w.reverse)
   |none=>(false,List.replicate bs.length 0)):=by
 have ax:=zE h;unfold Ey;have key:∀k,k<=bs.length->∀m,k<m->yy bs.reverse m (nr r bs.length k) ((k:Int)-1)=some (match j2 (r.drop (bs.length-k)) (bs.drop (bs.length-k))with
   |some w=>(true,w.reverse++List.replicate (bs.length-k) 0)
   |none=>(false,List.replicate bs.length 0)):=by
  intro k;induction k with
  |zero=>
   intro _ m hm;obtain⟨m,rfl⟩:∃j,m=j+1:=⟨m-1,by omega⟩
   simp only[yy,Js];rw[show decide ((0:Int)<=((0:Nat):Int)-1)=false by decide,cond_false,Nat.sub_zero,List.drop_of_length_le (by omega)];simp[j2,nr,ax]
  |succ k ih=>
   intro hk m hm;obtain⟨m,rfl⟩:∃j,m=j+1:=⟨m-1,by omega⟩
   have oo:k<bs.length:=by omega
   have e:((k+1:Nat):Int)-1=(k:Int):=by omega
   simp only[yy,Js];rw[e,show decide ((0:Int)<=(k:Int))=true by simp,cond_true,Vh ax oo,Vj rfl oo];simp only[bind_some,Int.toNat_natCast];rw[CO ax oo,CO rfl oo];have mZ:=Mr (bs.length-(k+1)) h (by omega) (by omega);have bM:=R _ (List.getElem_mem (show bs.length-(k+1)<bs.length by omega));simp only[j2];by_cases cp:r[bs.length-(k+1)]'(by omega)<bs[bs.length-(k+1)]'(by omega)
   .rw[decide_eq_true cp,cond_true,if_pos cp,dQ _ (by omega),Mq ax oo];simp
   .rw[decide_eq_false cp,cond_false,if_neg cp,Vi ax oo,Gi k (by omega),ih (by omega) m (by omega)];cases j2 (r.drop (bs.length-k)) (bs.drop (bs.length-k))with
    |none=>rfl
    |some w=>
     simp only[map_some,List.reverse_cons,List.append_assoc];rw[show bs.length-k=(bs.length-(k+1))+1 by omega,List.replicate_succ];rfl
 refine eU (bs.length+1) λm hm=>?_;have:=key bs.length (Nat.le_refl _) m (by omega);rw[Nat.sub_self]at this;simp only[List.drop_zero,List.replicate_zero,List.append_nil]at this;rw[List.length_reverse,ax,Gi _ (by omega)];have bC:nr r bs.length bs.length=r.reverse:=by simp[nr]
 rw[bC]at this;exact this
end Go.lT
