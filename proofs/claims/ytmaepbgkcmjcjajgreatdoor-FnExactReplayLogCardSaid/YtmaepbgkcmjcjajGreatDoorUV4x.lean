/- Part of a proof that a law returns true for every input. No condition. -/
import Derived.Test.YtmaepbgkcmjcjajGreatDoorUV3x
import Derived.Test.YtmaepbgkcmjcjajGreatDoorUV1x
namespace Go.ld
open Option Go.IntKind Nat Or
open Go Go.ep
theorem au9 {α:Type} {L:Nat->azq->Int->Option azq} (a:List α) (t:α->azq) (c:UInt8) (k:Nat) (aw:∀x∈a,(t x).length<=k)
  (a_:∀m v,L (m+1) v (a.length:Int)=some v)
  (aa:∀i (h:i<a.length) m v,v.length<=i*(k+1)->L (m+1) v (i:Int)=L m ((if i=0 then v else v++[c])++t a[i]) ((i+1:Nat):Int)):b3 (λm=>L m [] 0)=some (h1 (a.map t) [c]):=by
 have key:∀i,i<=a.length->∀m,a.length-i<m->L m (h1 ((a.take i).map t) [c]) (i:Int)=some (h1 (a.map t) [c]):=by
  refine down a.length ?_ ?_
  .intro m hm;obtain⟨m,rfl⟩:∃j,m=j+1:=⟨m-1,by omega⟩
   rw[a_,List.take_length]
  .intro i ai ih m hm;obtain⟨m,rfl⟩:∃j,m=j+1:=⟨m-1,by omega⟩
   have hl:(h1 ((a.take i).map t) [c]).length<=i*(k+1):=by
    have:=H0 c k ((a.take i).map t) λx ao=>by
     obtain⟨y,hy,rfl⟩:=List.mem_map.1 ao;exact aw y (List.mem_of_mem_take hy)
    rwa [List.length_map,List.length_take,Nat.min_eq_left (Nat.le_of_lt ai)]at this
   rw[aa i ai m _ hl,<-ih m (by omega)];congr 1;rw[List.take_succ_eq_append_getElem ai,List.map_append,List.map_cons,List.map_nil];by_cases h:i=0
   .subst h;rw[if_pos rfl,List.take_zero,List.map_nil,List.nil_append,join_one];rfl
   .rw[if_neg h,aa3 _ _ _ (by simp;exact⟨h,by intro e;subst e;simp at ai⟩),List.append_assoc]
 refine e5 (a.length+1) λm hm=>?_;have:=key 0 (by omega) m (by omega);simpa [h1,List.intercalate,List.intersperse]using this
theorem au_:∀d:Fin 10,pe (i64.wrap (48+((d:Nat):Int)))=UInt8.ofNat (48+d):=by decide
theorem ava (n:Nat) (h:n<10):pe (i64.wrap (48+(n:Int)))=UInt8.ofNat (48+n):=au_ ⟨n,h⟩
theorem avb (a:UInt8):yj [a]=some [a]:=by
 unfold yj;refine e5 2 λm hm=>?_;obtain⟨m,rfl⟩:∃j,m=j+2:=⟨m-2,by omega⟩
 rfl
theorem avc (a b:UInt8):yj [a,b]=some [b,a]:=by
 unfold yj;refine e5 3 λm hm=>?_;obtain⟨m,rfl⟩:∃j,m=j+3:=⟨m-3,by omega⟩
 rfl
theorem abH (a:Int) (m:Nat) (v:azq) (n:Nat) (aX:n≠0) (aze:n<1000) (aJ:v.length<=10):wk a (m+1) v (n:Int)=wk a m (v++[UInt8.ofNat (48+n%10)]) ((n/10:Nat):Int):=by
 simp only[wk,PL,J4];have aP:((n:Int) !=0)=true:=by simp;omega
 have aW:Int.tmod (n:Int) 10=((n%10:Nat):Int):=rfl;have aS:decide (((n%10:Nat):Int)<0)=false:=by simp only[decide_eq_false_iff_not];omega
 have cf:Int.tdiv (n:Int) 10=((n/10:Nat):Int):=rfl;rw[aP,aW,aS,cf,ava (n%10) (by omega),eC ((n/10:Nat):Int) (by omega),kO (by omega) (by omega)];rfl
theorem abI (a:Int) (bq:0<=a) (m:Nat) (v:azq):wk a (m+1) v 0=yj v:=by
 simp only[wk,PL];have e:decide (a<0)=false:=by simp only[decide_eq_false_iff_not];omega
 rw[e];rfl
theorem avd (n:Nat) (h:n<100):Gj (n:Int)=some (iQ n):=by
 unfold Gj;by_cases a_:n=0
 .subst a_;rfl
 have e:((n:Int)==0)=false:=by simp;omega
 rw[e,cond_false];refine e5 3 λm hm=>?_;obtain⟨m,rfl⟩:∃j,m=j+3:=⟨m-3,by omega⟩
 rw[abH _ _ _ n a_ (by omega) (by simp)];by_cases ad:n<10
 .have aP:n/10=0:=by omega
  have aW:n%10=n:=by omega
  rw[aP,aW];rw[show(((0:Nat):Int))=0 from rfl,abI _ (by omega),List.nil_append,avb,iQ,if_pos ad]
 .rw[abH _ _ _ (n/10) (by omega) (by omega) (by simp)];have aP:n/10/10=0:=by omega
  have aW:n/10%10=n/10:=by omega
  rw[aP,aW];rw[show(((0:Nat):Int))=0 from rfl,abI _ (by omega),List.nil_append,List.singleton_append,avc,iQ,if_neg ad]
def iY (a:azs):azq:=if a=[]then [45]else h1 (a.map jV) [44]
theorem xm (a:azs):(iY a).length<=a.length*3+1:=by
 unfold iY;split
 .simp
 .have:=H0 44 2 (a.map jV) λx ao=>by
   obtain⟨y,_,rfl⟩:=List.mem_map.1 ao;exact H2 y
  rw[List.length_map]at this;omega
theorem ave {x:Int} (h:0<=x/\x<=63):Gj x=some (jV x):=by
 have:=avd x.toNat (by omega)
 rwa [Int.toNat_of_nonneg h.1]at this
theorem avf (a:azs) (h:a.length<=64) (aJ:∀x∈a,0<=x/\x<=63):J6 a=some (iY a):=by
 unfold J6 iY;by_cases bq:a=[]
 .subst bq;rfl
 have e:((a.length:Int)==0)=false:=by
  have:a.length≠0:=λh=>bq (List.length_eq_zero_iff.1 h);simp;exact bq
 rw[e,cond_false,if_neg bq];refine au9 (L:=zU a) a jV 44 2 (λx _=>H2 x) (λm v=>?_) (λi ai m v hl=>?_)
 .simp only[zU,PM];rw[ei (Nat.le_refl _)];rfl
 .simp only[zU,PM,J5];have ao:=H2 a[i];have ok:∀n,n<=1048576->il n=some ():=λn aX=>by unfold il;rw[if_pos (by omega)]
  rw[el ai,dX _ i ai,ek i _ ai (by omega),ok _ (by omega)];simp only[cond_true,bind_some];rw[ave (aJ _ (List.getElem_mem ai))];simp only[bind_some];by_cases a_:i=0
  .subst a_;rw[if_pos rfl,show decide ((0:Int)<((0:Nat):Int))=false from by decide,cond_false,ok _ (by omega)];rfl
  .rw[if_neg a_,show decide ((0:Int)<(i:Int))=true from by simp;omega,cond_true,ok _ (by simp only[List.length_append,List.length_cons,List.length_nil];omega)];rfl
theorem abJ (a:azs) (h:a.length<=64) (aJ:∀x∈a,0<=x/\x<=63):KS a=some true:=by
 unfold KS QO QN;have e:decide ((a.length:Int)<=64)=true:=by simp;omega
 rw[e,cond_true];have:=sc (n:=a.length) (l:=C5 a) (λ_=>false) (λm=>?_) (λi ai m=>?_)
 .rw[this];simp only[bind_some,vr];have:gq (λ_=> !false) a.length=true:=by simp[gq]
  rw[this];rfl
 .simp only[C5,QM];rw[ei (Nat.le_refl _)];rfl
 .have ao:=aJ _ (List.getElem_mem ai);simp only[C5,QM,QL,jG];rw[el ai,dX _ i ai,ek i _ ai (by omega)];simp only[cond_true,bind_some,show decide (-1000000000000<=a[i])=true from by simp;omega,show decide (a[i]<=1000000000000)=true from by simp;omega,Bool.and_self,Bool.not_true,cond_false]
theorem Tp (a:azs) (h:a.length<=64) (aJ:∀x∈a,0<=x/\x<=63):GN a=some (iY a):=by
 unfold GN iY;rw[abJ a h aJ];simp only[bind_some,Bool.not_true,cond_false];by_cases bq:a=[]
 .subst bq;rfl
 have e:((a.length:Int)==0)=false:=by
  have:a.length≠0:=λh=>bq (List.length_eq_zero_iff.1 h);simp;exact bq
 rw[e,cond_false,if_neg bq];first|exact Tc a h aJ|(rw[Tc a h aJ];rfl)
mutual
def jW:dD->azI
 | .mk t a=>t::kf a
def kf:List dD->azI
 |[]=>[]
 |x::r=>jW x++kf r
end
mutual
def lp:dD->Nat
 | .mk _ a=>1+mx a
def mx:List dD->Nat
 |[]=>0
 |x::r=>lp x+mx r
end
mutual
def tS:dD->Prop
 | .mk t a=>a.length=nq t/\tT a
def tT:List dD->Prop
 |[]=>True
 |x::r=>tS x/\tT r
end
theorem abK (x:dD):dD.mk x.term x.args=x:=by cases x;rfl
theorem avg (x:dD):jW x=x.term::kf x.args:=by cases x;simp[jW,dD.term,dD.args]
mutual
theorem Tq:∀x,(jW x).length=lp x
 | .mk t a=>by simp only[jW,lp,List.length_cons,H4 a];omega
theorem H4:∀a,(kf a).length=mx a
 |[]=>by simp only[kf,mx,List.length_nil]
 |x::r=>by simp only[kf,mx,List.length_append,Tq x,H4 r]
end
theorem Mc:∀a b,kf (a++b)=kf a++kf b
 |[],b=>by simp only[kf,List.nil_append]
 |x::r,b=>by simp only[List.cons_append,kf,Mc r b,List.append_assoc]
theorem Tr:∀a b,tT (a++b)↔tT a/\tT b
 |[],b=>by simp[tT]
 |x::r,b=>by simp only[List.cons_append,tT,Tr r b];exact⟨λ⟨a,b,c⟩=>⟨⟨a,b⟩,c⟩,λ⟨⟨a,b⟩,c⟩=>⟨a,b,c⟩⟩
theorem Ts:∀{a:List dD},tT a->∀x∈a,tS x
 |y::r,h,x,ao=>by
  rcases List.mem_cons.1 ao with rfl|ao
  .exact h.1
  .exact Ts h.2 x ao
theorem Tt:∀{a:List dD},∀x∈a,lp x<=mx a
 |y::r,x,ao=>by
  simp only[mx];rcases List.mem_cons.1 ao with rfl|ao
  .omega
  .have:=Tt x ao;omega
theorem D9 (x:dD):1<=lp x:=by cases x;simp only[lp];omega
theorem avh (x:dD):lp x=1+mx x.args:=by cases x;simp[lp,dD.args]
theorem avi (x:dD):tS x↔x.args.length=nq x.term/\tT x.args:=by cases x;simp[tS,dD.args,dD.term]
theorem abL (v:Int):∀(e:azI) (k:Nat),si v e k=true->∃xs:List dD,xs.length=k/\tT xs/\kf xs=e
 |[],k,h=>by
  simp only[si,beq_iff_eq]at h;subst h;exact⟨[],rfl,trivial,by simp only[kf]⟩
 |t::r,k,h=>by
  simp only[si,Bool.and_eq_true,Bool.not_eq_true',beq_eq_false_iff_ne]at h;obtain⟨aw,a8,aR⟩:=h;obtain⟨c8,ad,af,aG⟩:=abL v r _ aR;refine⟨.mk t (c8.take (nq t))::c8.drop (nq t),?_,?_,?_⟩
  .simp;omega
  .have aa:=List.take_append_drop (nq t) c8;have hw:=(Tr (c8.take (nq t)) (c8.drop (nq t))).1 (by rw[aa];exact af);exact⟨⟨by simp;omega,hw.1⟩,hw.2⟩
  .simp only[kf,jW,List.cons_append];rw[<-Mc,List.take_append_drop,aG]
theorem avj {v most:Int} {e:azI} (h:pT e v most=true):∃x,tS x/\jW x=e:=by
 simp only[pT,Bool.and_eq_true]at h;obtain⟨xs,ad,af,aG⟩:=abL v e 1 h.2;cases xs with
 |nil=>simp at ad
 |cons x r=>
  cases r with
  |nil=>exact⟨x,af.1,by simpa [kf]using aG⟩
  |cons y r=>simp at ad
theorem avk (rec:azI->Option (bY×List dD×azI)) (t:bY) (a:List dD) (rest:azI) (bq:a.length<=1000)
  (L9:∀x∈a,∀rest,rec (jW x++rest)=some (x.term,x.args,rest)):b3 (λn=>Ag rec t (a.length:Int) n [] (kf a++rest) 0)=some (t,a,rest):=by
 have key:∀i,i<=a.length->∀m,a.length-i<m->Ag rec t (a.length:Int) m (a.take i) (kf (a.drop i)++rest) (i:Int)=some (t,a,rest):=by
  refine down a.length ?_ ?_
  .intro m hm;obtain⟨m,rfl⟩:∃j,m=j+1:=⟨m-1,by omega⟩
   simp only[Ag,QF];rw[ei (Nat.le_refl _)];simp[kf]
  .intro i ai ih m hm;obtain⟨m,rfl⟩:∃j,m=j+1:=⟨m-1,by omega⟩
   simp only[Ag,QF];rw[el ai,ek i _ ai (by omega),drop_cons a i ai];simp only[cond_true,kf,List.append_assoc];rw[L9 _ (List.getElem_mem ai)];simp only[bind_some];rw[kO (by simp;omega) (by simp;omega),abK];simp only[bind_some];have abM:=ih m (by omega);rw[List.take_succ_eq_append_getElem ai]at abM;exact abM
 refine e5 (a.length+1) λm hm=>?_;have:=key 0 (by omega) m (by omega);simpa using this
theorem avl (n:Nat):∀x,tS x->lp x<=n->∀rest,C1 n (jW x++rest)=some (x.term,x.args,rest):=by
 induction n with
 |zero=>intro x _ h;have:=D9 x;omega
 |succ n ih=>
  intro x hw aa rest;obtain⟨ad,af⟩:=(avi x).1 hw;have fo:=avh x;simp only[C1,QG,avg,List.cons_append,HR,bind_some,ata,abb,<-ad];refine avk _ _ _ _ (by have:=L7 x.term;omega) λy hy rest=>ih y (Ts af y hy) ?_ rest;have:=Tt y hy;omega
theorem avm (x:dD) (hw:tS x):KQ (jW x)=some (x.term,x.args):=by
 unfold KQ QH;rw[e5 (x:=some (x.term,x.args,[])) (lp x) λn aX=>by
  have:=avl n x hw aX [];simpa using this]
 rfl
def A8 (op a b:Int):Int:=
 cond (op==0) (Int.tmod (i64.wrap (a+b)) 64) (cond (op==1) (Int.tmod (i64.wrap ((i64.wrap (a-b))+64)) 64) (cond (op==2) (Int.tmod (i64.wrap (a*b)) 64) (cond (op==3) (xc (a==b)) (cond (op==4) (xc (a !=b)) (cond (op==5) (xc (decide (a<b))) (cond (op==6) (xc (decide (a<=b))) (cond (op==7) (xc ((a !=0)&&(b !=0))) (xc ((a !=0)||(b !=0))))))))))
theorem avn (op a b:Int):KR op a b=some (A8 op a b):=by
 unfold KR A8 rP;simp only[L5,bind_some];cases op==0<;>cases op==1<;>cases op==2<;>cases op==3<;>cases op==4<;>cases op==5<;>cases op==6<;>cases op==7<;>cases a !=0<;>cases b !=0<;>rfl
theorem avo (op a b:Int):J3 op a b=some (A8 op a b):=by
 unfold J3 A8 rD;simp only[L5,bind_some];cases op==0<;>cases op==1<;>cases op==2<;>cases op==3<;>cases op==4<;>cases op==5<;>cases op==6<;>cases op==7<;>cases a !=0<;>cases b !=0<;>rfl
def A9 (t:bY) (l:azs):Int:=cond (t.Kind==3) (xc (l.getD 0 0==0)) (A8 t.Value (l.getD 0 0) (l.getD 1 0))
theorem Tu:∀a:List dD,a.length<=mx a
 |[]=>zero_le _
 |x::r=>by have:=Tu r;have:=D9 x;simp only[List.length_cons,mx];omega
theorem avp (e:azI) (he:e.length<=1048576) (rest:azI):∀(n:Nat) (xs:List dD) (i:Nat),tT xs->mx xs=n->n<=1000000->i<=e.length->e.drop i=kf xs++rest->∀m,n<m->
  Cn e m (i:Int) (xs.length:Int)=some ((i+n:Nat):Int):=by
 intro n;induction n with
 |zero=>
  intro xs i _ aa _ _ _ m hm;obtain⟨m,rfl⟩:∃j,m=j+1:=⟨m-1,by omega⟩
  have:xs=[]:=by
   cases xs with
   |nil=>rfl
   |cons x r=>simp only[mx]at aa;have:=D9 x;omega
  subst this;simp only[Cn,PG];have:decide ((0:Int)<(([]:List dD).length:Int))=false:=by decide
  rw[this];rfl
 |succ n ih=>
  intro xs i hw aa ao ai aq m hm;obtain⟨m,rfl⟩:∃j,m=j+1:=⟨m-1,by omega⟩
  cases xs with
  |nil=>simp[mx]at aa
  |cons x r=>
   obtain⟨t,a⟩:=x;have abN:=hw.1;simp only[kf,jW,List.cons_append,List.append_assoc]at aq;have eQ:i<e.length:=by
    rcases Nat.lt_or_ge i e.length with h|h
    .exact h
    .rw[List.drop_of_length_le h]at aq;cases aq
   rw[drop_cons e i eQ]at aq;injection aq with ad af;simp only[Cn,PG];have d1:decide ((0:Int)<((dD.mk t a::r).length:Int))=true:=by simp
   have bq:=L7 t;have v_:a.length=nq t:=abN.1;rw[d1,dX _ i eQ,ad,ek i _ eQ (by omega)];simp only[cond_true,bind_some,aba];rw[Te (k:=(dD.mk t a::r).length) (by simp) (by have:=Tu (dD.mk t a::r);omega) bq];have hlen:(dD.mk t a::r).length+nq t-1=(a++r).length:=by simp;omega
   have azf:=Tu (dD.mk t a::r);rw[hlen,ih (a++r) (i+1) ((Tr a r).2 ⟨abN.2,hw.2⟩) (by
    have:∀a b,mx (a++b)=mx a+mx b:=by
     intro a b;rw[<-H4,<-H4,<-H4,Mc,List.length_append]
    rw[this];simp only[mx,lp]at aa;omega) (by omega) (by omega) (by rw[Mc,List.append_assoc];exact af) m (by omega)]
   congr 1;omega
mutual
def nN (a:azs):dD->Int
 | .mk t xs=>cond (t.Kind==0) t.Value (cond (t.Kind==1) (a.getD t.Value.toNat 0) (A9 t (tU a xs)))
def tU (a:azs):List dD->azs
 |[]=>[]
 |x::r=>nN a x::tU a r
end
theorem abO (v:Int):∀(e:azI) (k:Nat),si v e k=true->∀t∈e,pa t v=true
 |[],_,_,_,h=>by cases h
 |t::r,k,h,u,hu=>by
  simp only[si,Bool.and_eq_true]at h;rcases List.mem_cons.1 hu with rfl|hu
  .exact h.2.1
  .exact abO v r _ h.2.2 u hu
theorem Tv {t:bY} {v:Int} (h:pa t v=true):(t.Kind=0/\0<=t.Value/\t.Value<=63)\/(t.Kind=1/\0<=t.Value/\t.Value<=v-1)\/(t.Kind=2/\nq t=2)\/(t.Kind=3/\nq t=1):=by
 unfold pa sg at h;by_cases a_:t.Kind=0
 .simp only[a_,beq_self_eq_true,cond_true,Bool.and_eq_true,decide_eq_true_eq]at h;exact .inl ⟨a_,h⟩
 .have fY:(t.Kind==0)=false:=by simpa using a_
  rw[fY,cond_false]at h;by_cases ad:t.Kind=1
  .simp only[ad,beq_self_eq_true,cond_true,Bool.and_eq_true,decide_eq_true_eq]at h;exact .inr (.inl ⟨ad,h⟩)
  .have aP:(t.Kind==1)=false:=by simpa using ad
   rw[aP,cond_false]at h;by_cases af:t.Kind=2
   .exact .inr (.inr (.inl ⟨af,by simp[nq,af]⟩))
   .have aW:(t.Kind==2)=false:=by simpa using af
    rw[aW,cond_false]at h;by_cases aG:t.Kind=3
    .exact .inr (.inr (.inr ⟨aG,by simp[nq,aG]⟩))
    .have aS:(t.Kind==3)=false:=by simpa using aG
     rw[aS,cond_false]at h;cases h
theorem abP {α:Type} {l:List α} (h:l.length=1):∃x,l=[x]:=by
 match l,h with
 |[x],_=>exact⟨x,rfl⟩
theorem abQ {α:Type} {l:List α} (h:l.length=2):∃x y,l=[x,y]:=by
 match l,h with
 |[x,y],_=>exact⟨x,y,rfl⟩
theorem avq (a:azs):∀(n:Nat) (x:dD),tS x->lp x<=n->(∀t∈jW x,pa t a.length=true)->Ah n x a=some (nN a x):=by
 intro n;induction n with
 |zero=>intro x _ h;have:=D9 x;omega
 |succ n ih=>
  rintro⟨t,xs⟩ hw aa a8;obtain⟨ad,af⟩:=hw;simp only[lp]at aa;simp only[jW,List.mem_cons]at a8;have iO:∀y∈xs,Ah n y a=some (nN a y):=λy hy=>by
   refine ih y (Ts af y hy) (by have:=Tt y hy;omega) λu hu=>a8 u (.inr ?_);have gf:∀(l:List dD),y∈l->u∈kf l:=by
    intro l;induction l with
    |nil=>intro h;cases h
    |cons z r Tw=>
     intro h;simp only[kf,List.mem_append];rcases List.mem_cons.1 h with rfl|h
     .exact .inl hu
     .exact .inr (Tw h)
   exact gf xs hy
  simp only[Ah,QI,dD.term,dD.args];rcases Tv (a8 t (.inl rfl))with⟨k,bZ,cu⟩|⟨k,bZ,cu⟩|⟨k,bZ⟩|⟨k,bZ⟩
  .simp only[nN,k,beq_self_eq_true,cond_true]
  .obtain⟨j,bQ⟩:∃j:Nat,t.Value=j:=⟨t.Value.toNat,by omega⟩
   have qF:j<a.length:=by omega
   simp only[nN,k,bQ,dX a j qF,Int.toNat_natCast,List.getD_eq_getElem?_getD,List.getElem?_eq_getElem qF,getD_some,bind_some,beq_self_eq_true,cond_true,show((1:Int)==0)=false from rfl,cond_false]
  .obtain⟨y,z,rfl⟩:=abQ (ad.trans bZ);have aP:bj [y,z] 0=some y:=rfl;have aW:bj [y,z] 1=some z:=rfl;simp only[nN,tU,A9,k,aP,aW,iO y (by simp),iO z (by simp),avn,bind_some,show((2:Int)==0)=false from rfl,show((2:Int)==1)=false from rfl,show((2:Int)==3)=false from rfl,cond_false];rfl
  .obtain⟨y,rfl⟩:=abP (ad.trans bZ);have aP:bj [y] 0=some y:=rfl;simp only[nN,tU,A9,k,aP,iO y (by simp),rP,L5,bind_some,show((3:Int)==0)=false from rfl,show((3:Int)==1)=false from rfl,beq_self_eq_true,cond_true,cond_false];rfl
theorem avr (a:azs) (x:dD) (hw:tS x) (a8:∀t∈jW x,pa t a.length=true):C3 (jW x) a=some (nN a x):=by
 unfold C3;rw[avm x hw];simp only[bind_some,abK];unfold QJ;rw[e5 (x:=some (nN a x)) (lp x) λn aX=>avq a n x hw aX a8];rfl
theorem avs (a:azs) (e:azI) (he:e.length<=1000000):∀(n:Nat) (x:dD) (i:Nat) (rest:azI),tS x->lp x<=n->(∀t∈jW x,pa t a.length=true)->e.drop i=jW x++rest->
  zR n e a (i:Int)=some (nN a x):=by
 intro n;induction n with
 |zero=>intro x _ _ _ h;have:=D9 x;omega
 |succ n ih=>
  rintro⟨t,xs⟩ i rest hw aa a8 aq;obtain⟨ad,af⟩:=hw;simp only[lp]at aa;simp only[jW,List.mem_cons,List.cons_append]at a8 aq;have eQ:i<e.length:=by
   rcases Nat.lt_or_ge i e.length with h|h
   .exact h
   .rw[List.drop_of_length_le h]at aq;cases aq
  have hP:e.drop (i+1)=kf xs++rest:=by
   rw[drop_cons e i eQ]at aq;injection aq
  have hg:bj e (i:Int)=some t:=by
   rw[dX e i eQ];rw[drop_cons e i eQ]at aq;injection aq with h _;rw[h]
  simp only[zR,PH,hg,bind_some];rw[ek i _ eQ (by omega)];rcases Tv (a8 t (.inl rfl))with⟨k,bZ,cu⟩|⟨k,bZ,cu⟩|⟨k,bZ⟩|⟨k,bZ⟩
  .simp only[nN,k,beq_self_eq_true,cond_true]
  .obtain⟨j,bQ⟩:∃j:Nat,t.Value=j:=⟨t.Value.toNat,by omega⟩
   have qF:j<a.length:=by omega
   simp only[nN,k,bQ,dX a j qF,Int.toNat_natCast,List.getD_eq_getElem?_getD,List.getElem?_eq_getElem qF,getD_some,bind_some,beq_self_eq_true,cond_true,show((1:Int)==0)=false from rfl,cond_false]
  .obtain⟨y,z,rfl⟩:=abQ (ad.trans bZ);simp only[kf,List.append_nil,List.append_assoc,List.mem_append]at a8 hP;simp only[mx]at aa;have en:=ih y (i+1) (jW z++rest) af.1 (by omega) (λu hu=>a8 u (.inr (.inl hu))) hP;have azg:lp y<=e.length:=by
    have:=congrArg List.length hP;simp only[List.length_drop,List.length_append,Tq]at this;omega
   have bd:J2 e ((i+1:Nat):Int)=some ((i+1+lp y:Nat):Int):=by
    unfold J2;refine e5 (lp y+1) λm hm=>?_;exact avp e (by omega) (jW z++rest) (lp y) [y] (i+1) ⟨af.1,trivial⟩ (by simp[mx]) (by omega) (by omega) (by simpa [kf]using hP) m (by omega)
   have avt:e.drop (i+1+lp y)=jW z++rest:=by
    rw[<-List.drop_drop,hP,<-Tq,List.drop_left]
   have c_:=ih z (i+1+lp y) rest af.2.1 (by omega) (λu hu=>a8 u (.inr (.inr hu))) avt;simp only[nN,tU,A9,k,en,bd,c_,avo,bind_some,show((2:Int)==0)=false from rfl,show((2:Int)==1)=false from rfl,show((2:Int)==3)=false from rfl,cond_false];rfl
  .obtain⟨y,rfl⟩:=abP (ad.trans bZ);simp only[kf,List.append_nil,List.mem_append]at a8 hP;simp only[mx]at aa;have en:=ih y (i+1) rest af.1 (by omega) (λu hu=>a8 u (.inr hu)) hP;simp only[nN,tU,A9,k,en,rD,L5,bind_some,show((3:Int)==0)=false from rfl,show((3:Int)==1)=false from rfl,beq_self_eq_true,cond_true,cond_false];rfl
theorem avu (a:azs) (x:dD) (hw:tS x) (hl:(jW x).length<=1000000) (a8:∀t∈jW x,pa t a.length=true):zS (jW x) a=some (nN a x):=by
 unfold zS PI;have fY:=e5 (f:=λn=>zR n (jW x) a 0) (x:=some (nN a x)) (lp x) λn aX=>avs a (jW x) hl n x 0 [] hw aX a8 (by simp);rw[fY];rfl
def fW (x:Int):Prop:=0<=x/\x<=63
theorem D_ (b:Bool):fW (xc b):=by cases b<;>exact⟨by decide,by decide⟩
theorem avv (op a b:Int) (bq:fW a) (ab:fW b):fW (A8 op a b):=by
 unfold fW at bq ab;unfold A8;cases op==0
 .cases op==1
  .cases op==2
   .cases op==3<;>(try exact D_ _)
    cases op==4<;>(try exact D_ _)
    cases op==5<;>(try exact D_ _)
    cases op==6<;>(try exact D_ _)
    cases op==7<;>exact D_ _
   .have ad:0<=a*b:=Int.mul_nonneg bq.1 ab.1;have af:a*b<=63*63:=Int.mul_le_mul bq.2 ab.2 ab.1 (by decide);show fW (Int.tmod (i64.wrap (a*b)) 64);rw[eC _ (by omega)];unfold fW;rw[Int.tmod_eq_emod_of_nonneg ad];omega
  .show fW (Int.tmod (i64.wrap ((i64.wrap (a-b))+64)) 64);rw[eC (a-b) (by omega),eC _ (by omega)];unfold fW;rw[Int.tmod_eq_emod_of_nonneg (by omega)];omega
 .show fW (Int.tmod (i64.wrap (a+b)) 64);rw[eC _ (by omega)];unfold fW;rw[Int.tmod_eq_emod_of_nonneg (by omega)];omega
theorem avw (a:azs) (bq:∀x∈a,fW x):∀(n:Nat) (x:dD),lp x<=n->(∀t∈jW x,pa t a.length=true)->fW (nN a x):=by
 intro n;induction n with
 |zero=>intro x h;have:=D9 x;omega
 |succ n ih=>
  rintro⟨t,xs⟩ aa a8;simp only[lp]at aa;simp only[jW,List.mem_cons]at a8;have iO:∀i,fW ((tU a xs).getD i 0):=by
   have key:∀l:List dD,mx l<=n->(∀t∈kf l,pa t a.length=true)->∀i,fW ((tU a l).getD i 0):=by
    intro l;induction l with
    |nil=>intro _ _ i;simp only[tU,List.getD_nil];exact⟨by decide,by decide⟩
    |cons y r Tw=>
     intro ad af i;simp only[mx]at ad;simp only[kf,List.mem_append]at af;cases i with
     |zero=>simp only[tU,List.getD_cons_zero];exact ih y (by omega) λu hu=>af u (.inl hu)
     |succ i=>simp only[tU,List.getD_cons_succ];exact Tw (by omega) (λu hu=>af u (.inr hu)) i
   exact key xs (by omega) λu hu=>a8 u (.inr hu)
  simp only[nN];rcases Tv (a8 t (.inl rfl))with⟨k,bZ,cu⟩|⟨k,bZ,cu⟩|⟨k,bZ⟩|⟨k,bZ⟩
  .simp only[k,beq_self_eq_true,cond_true];exact⟨bZ,cu⟩
  .have qF:t.Value.toNat<a.length:=by omega
   simp only[k,show((1:Int)==0)=false from rfl,beq_self_eq_true,cond_true,cond_false,List.getD_eq_getElem?_getD,List.getElem?_eq_getElem qF,getD_some];exact bq _ (List.getElem_mem qF)
  .simp only[k,show((2:Int)==0)=false from rfl,show((2:Int)==1)=false from rfl,show((2:Int)==3)=false from rfl,cond_false,A9];exact avv _ _ _ (iO 0) (iO 1)
  .simp only[k,show((3:Int)==0)=false from rfl,show((3:Int)==1)=false from rfl,beq_self_eq_true,cond_true,cond_false,A9];exact D_ _
noncomputable def sq (a:azs) (e:azI):Int:=(zS e a).getD 0
theorem Md {a:azs} {e:azI} {most:Int} (hm:most<=1000) (h:pT e a.length most=true):zS e a=some (sq a e)/\C3 e a=some (sq a e)/\((∀x∈a,fW x)->fW (sq a e)):=by
 obtain⟨x,hw,rfl⟩:=avj h;simp only[pT,Bool.and_eq_true,decide_eq_true_eq]at h;have a8:=abO _ _ _ h.2;have he:(jW x).length<=1000000:=by omega
 have aP:=avu a x hw he a8;have aW:sq a (jW x)=nN a x:=by unfold sq;rw[aP];rfl
 rw[aW];exact⟨aP,avr a x hw a8,λbq=>avw a bq _ x (Nat.le_refl _) a8⟩
theorem xn {n:Int} {P:Prop} (h:some n=some (0:Int)) (aX:n≠0):P:=absurd (some.inj h) aX
theorem avx {d:a1} {a2:Int} {p:b_} {v:Bool} (h:s6 d a2 p v=some 0):
  ∃az,zM d a2=some az/\((p.Kind==4)&&decide (6<=az))=false/\b3 (λn=>yg p n az 0)=some 0:=by
 unfold s6 at h;rcases dO h with⟨_,h⟩|⟨_,h⟩
 .exact xn h (by decide)
 obtain⟨az,aS,h⟩:=an h;rcases dO h with⟨_,h⟩|⟨bh,h⟩
 .exact xn h (by decide)
 exact⟨az,aS,bh,h⟩
theorem Me {d:a1} {a2:Int} {p:b_} (h:wa d a2 p=some 0):∃v,s6 d a2 p v=some 0:=by
 unfold wa at h;rcases dO h with⟨_,h⟩|⟨_,h⟩
 .rcases dO h with⟨_,h⟩|⟨_,h⟩
  .exact⟨_,h⟩
  .obtain⟨bB,_,h⟩:=an h;exact⟨_,h⟩
 .exact⟨_,h⟩
theorem Mf {e:azK} {d:a1} {a2:Int} {p:b_} {v:Bool} (h:uI e d a2 p v=some 0):
  v=false/\(p.Kind=1->p.ck.length<=2/\((p.Name==([116,97,117]:azq))=true->p.ck.length=0))/\(p.Kind=3->p.ck.length=1)/\
   (p.Kind=5->∃bu,bj e p.Number=some bu/\(p.ck.length:Int)=bu.dV)/\∃v,s6 d a2 p v=some 0:=by
 unfold uI at h;rcases dO h with⟨_,h⟩|⟨aJ,h⟩
 .exact xn h (by decide)
 refine⟨aJ,?_⟩;rcases dO h with⟨k,h⟩|⟨k,h⟩
 .have k:=eq_of_beq k;rcases dO h with⟨_,h⟩|⟨g,h⟩
  .exact xn h (by decide)
  rw[Bool.or_eq_false_iff,Bool.and_eq_false_iff,decide_eq_false_iff_not,decide_eq_false_iff_not]at g;refine⟨λ_=>⟨by omega,λa8=>?_⟩,λaG=>by omega,λb6=>by omega,Me h⟩;rcases g.2 with g|g
  .omega
  .rw[a8]at g;cases g
 have bZ:p.Kind≠1:=by simpa using k
 rcases dO h with⟨k,h⟩|⟨k,h⟩
 .have k:=eq_of_beq k;rcases dO h with⟨_,h⟩|⟨g,h⟩
  .exact xn h (by decide)
  have g:(p.ck.length:Int)=1:=by simpa using g
  exact⟨λad=>(bZ ad).elim,λ_=>by omega,λb6=>by omega,Me h⟩
 have dY:p.Kind≠3:=by simpa using k
 rcases dO h with⟨k,h⟩|⟨k,h⟩
 .obtain⟨bu,cg,h⟩:=an h;rcases dO h with⟨_,h⟩|⟨g,h⟩
  .exact xn h (by decide)
  have g:(p.ck.length:Int)=bu.dV:=by simpa using g
  exact⟨λad=>(bZ ad).elim,λaG=>(dY aG).elim,λ_=>⟨bu,cg,g⟩,Me h⟩
 .have eJ:p.Kind≠5:=by simpa using k
  exact⟨λad=>(bZ ad).elim,λaG=>(dY aG).elim,λb6=>(eJ b6).elim,Me h⟩
theorem avy {e:azK} {d:a1} {a2:Int} (h:s7 e d a2=some 0):
  ∃p,bj d.Body a2=some p/\(p.Kind=1->yf p.Name=some true/\p.ck.length<=2/\((p.Name==([116,97,117]:azq))=true->p.ck.length=0))/\(p.Kind=3->p.ck.length=1)/\
   (p.Kind=4->1<=p.Number/\p.Number<=7)/\(p.Kind=5->∃bu,bj e p.Number=some bu/\(p.ck.length:Int)=bu.dV)/\∃v,s6 d a2 p v=some 0:=by
 unfold s7 at h;obtain⟨p,aP,h⟩:=an h;obtain⟨ae,_,h⟩:=an h;rcases dO h with⟨_,h⟩|⟨_,h⟩
 .exact xn h (by decide)
 have key:∀v,Cc e d a2 p v=some 0->v=false/\(p.Kind=4->1<=p.Number/\p.Number<=7)/\uI e d a2 p false=some 0:=by
  intro v h;unfold Cc at h;rcases dO h with⟨_,h⟩|⟨aJ,h⟩
  .exact xn h (by decide)
  refine⟨aJ,?_⟩;rcases dO h with⟨k,h⟩|⟨k,h⟩
  .have k:=eq_of_beq k;obtain⟨cy,gk,h⟩:=an h;rcases dO h with⟨_,h⟩|⟨g,i6⟩
   .exact absurd (Mf h).1 (by simp)
   have g:cy=true:=by simpa using g
   rw[g]at gk;unfold mr at gk;have gk:=some.inj gk;rw[Bool.and_eq_true,decide_eq_true_eq,decide_eq_true_eq]at gk;refine⟨λ_=>gk,?_⟩;rcases dO i6 with⟨eJ,_⟩|⟨_,i6⟩
   .have:=eq_of_beq eJ;omega
   .exact i6
  .have eb:p.Kind≠4:=by simpa using k
   refine⟨λbh=>(eb bh).elim,?_⟩;rcases dO h with⟨k,h⟩|⟨k,h⟩
   .obtain⟨dN,_,h⟩:=an h;have g:=(Mf h).1
    rwa [g]at h
   .exact h
 rcases dO h with⟨k,h⟩|⟨k,h⟩
 .obtain⟨fa,lz,h⟩:=an h;obtain⟨ad,af,aG⟩:=key _ h;obtain⟨_,g1,g2,g3,g4⟩:=Mf aG;have ad:fa=true:=by simpa using ad
  subst ad;exact⟨p,aP,λaw=>⟨lz,g1 aw⟩,g2,af,g3,g4⟩
 .obtain⟨ad,af,aG⟩:=key _ h;obtain⟨_,g1,g2,g3,g4⟩:=Mf aG;have bZ:p.Kind≠1:=by simpa using k
  exact⟨p,aP,λaw=>(bZ aw).elim,g2,af,g3,g4⟩
theorem avz {e:azK} {d:a1} {r:Int×Int} (hl:d.Body.length<=1000) (aR:∀j,j<d.Body.length->∃v,s7 e d (j:Int)=some v/\0<=v) (h:wc e d=some r) (a_:r.2=0):
  ∀j,j<d.Body.length->s7 e d (j:Int)=some 0:=by
 unfold wc at h;obtain⟨R,_,h⟩:=an h;rcases dO h with⟨_,h⟩|⟨_,h⟩
 .have:=some.inj h;subst this;exact absurd a_ (by decide)
 obtain⟨n,h⟩:=l_ h;have key:∀i,i<=d.Body.length->∀m,wb e d m (i:Int)=some r->∀j,i<=j->j<d.Body.length->s7 e d (j:Int)=some 0:=by
  refine down d.Body.length ?_ ?_
  .intro m _ j ad af;omega
  .intro i ai ih m hm j ad af;cases m with
   |zero=>cases hm
   |succ m=>
    simp only[wb,Gf]at hm;obtain⟨v,aJ,nS⟩:=aR i ai;rw[el ai,cond_true,aJ]at hm;simp only[bind_some]at hm;rcases dO hm with⟨g,hm⟩|⟨g,hm⟩
    .have:=some.inj hm;subst this;simp only[decide_eq_true_eq]at g;simp only at a_;omega
    .have g:v=0:=by simp at g;omega
     subst g;by_cases bQ:j=i
     .subst bQ;exact aJ
     .rw[ek i _ ai (by omega)]at hm;exact ih m hm j (by omega) af
 exact λj bQ=>key 0 (by omega) n h j (by omega) bQ
structure avA (e:azK) (d:a1) (j:Nat) (p:b_) (er:Int):Prop where
 small:A4 p
 Tx:0<=er/\er<=29
 args:∀a∈p.ck,pT a er 15=true
 act:p.Kind=1->hk p.Name=true/\p.ck.length<=2/\((p.Name==([116,97,117]:azq))=true->p.ck.length=0)
 avB:p.Kind=3->p.ck.length=1
 sum:p.Kind=4->1<=p.Number/\p.Number<=7/\er<=5
 call:p.Kind=5->∃bu,bj e p.Number=some bu/\(p.ck.length:Int)=bu.dV
theorem H5 {e:azK} (h:vx e) (aJ:nM e=true) {i:Nat} (ai:i<e.length) {j:Nat} (bQ:j<e[i].Body.length):avA e e[i] j e[i].Body[j] (jj e[i] j).scope:=by
 obtain⟨ad,bh,aq⟩:=A7 h aJ;obtain⟨ay,aa,aX,r,en,bd⟩:=aq i ai;obtain⟨s1,s2,px⟩:=xi aa;have To:=h.2 _ (List.getElem_mem ai);have aR:∀j,j<e[i].Body.length->∃v,s7 e e[i] (j:Int)=some v/\0<=v:=λj bQ=>by
  obtain⟨ia,gX,jm,jR,uh⟩:=Tm e[i] aa ay j bQ;obtain⟨v,v1,_,v3⟩:=abw e bh e[i] j bQ px (To.2.2 _ (List.getElem_mem bQ)) (jj e[i] j) ia ⟨gX,jm⟩ jR;exact⟨v,v1,v3⟩
 obtain⟨p,aP,f1,f2,f3,f4,v,f5⟩:=avy (avz (by omega) aR en bd j bQ);rw[dX _ j bQ]at aP;have aP:=some.inj aP;subst aP;obtain⟨az,g1,g2,g3⟩:=avx f5;obtain⟨ia,gX,jm,jR,uh⟩:=Tm e[i] aa ay j bQ;rw[ia]at g1;have g1:=some.inj g1;subst g1;have Fx:=To.2.2 _ (List.getElem_mem bQ);rw[abu _ Fx _ ⟨gX,jm⟩]at g3;refine⟨Fx,⟨gX,jm⟩,?_,λk=>?_,f2,λk=>⟨(f3 k).1,(f3 k).2,?_⟩,f4⟩
 .cases bq:vw e[i].Body[j] (jj e[i] j).scope
  .rw[bq]at g3;exact xn g3 (by decide)
  .intro a hm;obtain⟨k,aw,rfl⟩:=List.mem_iff_getElem.1 hm;have:=n_.1 bq k aw
   rwa [List.getD_eq_getElem?_getD,List.getElem?_eq_getElem aw]at this
 .obtain⟨J,a2,a3⟩:=f1 k;rw[yL]at J;exact⟨some.inj J,a2,a3⟩
 .rw[k]at g2;simp only[beq_self_eq_true,Bool.true_and,decide_eq_false_iff_not]at g2;omega
theorem abR:∀(j:Nat) (l:azJ) (st:azR) (k:Nat),fu l st.length=some k->j<k->
  ∃s Mg,(hn l st).drop j=hn (l.drop j) (s::Mg)/\fu (l.drop j) (Mg.length+1)=some (k-j)
 |0,l,st,k,h,bQ=>by
  cases st with
  |nil=>rw[List.length_nil,A2]at h;have:=some.inj h;omega
  |cons s Mg=>exact⟨s,Mg,rfl,h⟩
 |j+1,[],st,k,h,bQ=>by have:=(sk h).2;simp at this;omega
 |j+1,p::r,[],k,h,bQ=>by rw[List.length_nil,A2]at h;have:=some.inj h;omega
 |j+1,p::r,s::st,k,h,bQ=>by
  obtain⟨dv,bI,rfl⟩:=sj.1 h;obtain⟨s2,avC,aP,aW⟩:=abR j r (List.replicate (ew p) (below p s)++st) dv (by rw[List.length_append,List.length_replicate,Nat.add_comm];exact bI) (by omega);exact⟨s2,avC,by simp only[hn,List.drop_succ_cons];exact aP,by simp only[List.drop_succ_cons];rw[aW];congr 1;omega⟩
theorem Mh {α:Type} (l:List α) (i:Nat) (d:α):l.getD i d=(l.drop i).headD d:=by
 rw[List.getD_eq_getElem?_getD];cases h:l.drop i with
 |nil=>rw[List.drop_eq_nil_iff]at h;rw[List.getElem?_eq_none h];rfl
 |cons x r=>
  have:l[i]? =some x:=by
   have:=congrArg (λz=>z[0]?) h;simpa using this
  rw[this];rfl
theorem Ty {l:azJ} (s:dQ) (st:azR) (d:dQ) (h:l≠[]):(hn l (s::st)).headD d=s:=by
 cases l with
 |nil=>exact(h rfl).elim
 |cons p r=>rfl
theorem abS (d:a1) (aa:fu d.Body 1=some d.Body.length) {j:Nat} (bQ:j<d.Body.length):
  (1<=ew d.Body[j]->j+1<d.Body.length/\(jj d (j+1)).scope=(below d.Body[j] (jj d j)).scope)/\
  (ew d.Body[j]=2->∃n,fu (d.Body.drop (j+1)) 1=some n/\j+1+n<d.Body.length/\(jj d (j+1+n)).scope=(below d.Body[j] (jj d j)).scope):=by
 obtain⟨s,st,aP,aW⟩:=abR j d.Body [⟨d.dV,false⟩] d.Body.length aa bQ;have aq:=drop_cons d.Body j bQ;rw[aq]at aP aW;obtain⟨dv,bI,aw⟩:=sj.1 aW;have ay:jj d j=s:=by
  unfold jj;rw[Mh,aP];rfl
 have aS:(hn d.Body [⟨d.dV,false⟩]).drop (j+1)=hn (d.Body.drop (j+1)) (List.replicate (ew d.Body[j]) (below d.Body[j] s)++st):=by
  rw[<-List.drop_drop,aP];rfl
 rw[ay];constructor
 .intro bK;have ad:=sk bI;have hlen:j+1<d.Body.length:=by omega
  refine⟨hlen,?_⟩;obtain⟨f,avD⟩:∃f,ew d.Body[j]=f+1:=⟨ew d.Body[j]-1,by omega⟩
  unfold jj;rw[Mh,aS,avD,List.replicate_succ,List.cons_append,Ty _ _ _ (by intro h;rw[List.drop_eq_nil_iff]at h;omega)]
 .intro bK;rw[bK]at bI aS;obtain⟨n,bF,g1,g2,g3⟩:=D2 (l:=d.Body.drop (j+1)) (a:=1) (b:=st.length+1) (k:=dv) (by rw[<-bI];congr 1;omega);have af:=sk g2;have hlen:j+1+n<d.Body.length:=by omega
  refine⟨n,g1,hlen,?_⟩;unfold jj;rw[Mh,<-List.drop_drop,aS,show List.replicate 2 (below d.Body[j] s)++st=[below d.Body[j] s]++(below d.Body[j] s::st)from rfl,Th (s1:=[below d.Body[j] s]) g1];have hl:=A3 (l:=d.Body.drop (j+1)) (st:=[below d.Body[j] s]) g1;rw[<-hl,List.drop_left,hl,List.drop_drop,Ty _ _ _ (by intro h;rw[List.drop_eq_nil_iff]at h;omega)]
noncomputable def nO (l:azA) (a:azs):azs:=l.map (sq a)
def iZ (n:azq) (a:azs):azq:=if a.length=0 then n else((n++[40])++iY a)++[41]
def e0 (d:a1) (j:Nat):b_:=d.Body.getD j ⟨0,0,[],[]⟩
def H6 (d:a1) (j:Nat):Nat:=j+(fu (d.Body.drop j) 1).getD 0
noncomputable def vA (d:a1) (i j:Nat) (a:azs):bl:=
 ⟨iZ (e0 d j).Name (nO (e0 d j).ck a),if(e0 d (j+1)).Kind=5 then⟨(e0 d (j+1)).Number,0,nO (e0 d (j+1)).ck a⟩else⟨(i:Int),((j+1:Nat):Int),a⟩⟩
noncomputable def i1 (d:a1) (i:Nat):Nat->Nat->azs->azQ
 |0,_,_=>[]
 |n+1,j,a=>
  if(e0 d j).Kind=1 then [vA d i j a]
  else if(e0 d j).Kind=2 then i1 d i n (j+1) a++i1 d i n (H6 d (j+1)) a
  else if(e0 d j).Kind=3 then(if sq a ((e0 d j).ck.getD 0 [])≠0 then i1 d i n (j+1) a else [])
  else if(e0 d j).Kind=4 then(List.range' 0 ((e0 d j).Number.toNat+1)).flatMap λ(v:Nat)=>i1 d i n (j+1) (a++[((v:Nat):Int)])
  else []
def yT (a:azs):Bool:=gq (λi=>sg (a.getD i 0) 0 63) a.length
theorem avE (a:azs) (h:a.length<=1048576):JP a=some (yT a):=by
 unfold JP;refine L4 (l:=λm i=>Ce a m i) _ (λm=>?_) (λi ai m=>?_)
 .simp only[Ce,Pv];rw[ei (Nat.le_refl _)];rfl
 .simp only[Ce,Pv,mr];rw[el ai,np _ i 0 ai,ek i _ ai (by omega)];simp only[cond_true,bind_some];show cond (!sg (a.getD i 0) 0 63) _ _=_;cases sg (a.getD i 0) 0 63<;>rfl
theorem abT (a:azs) (h:a.length<=1048576):Aa a=some (yT a):=by
 unfold Aa Kv Ku;rw[sc (n:=a.length) (λi=> !sg (a.getD i 0) 0 63)]
 .simp only[bind_some,vr,Bool.not_not];rfl
 .intro m;simp only[yo,GD];rw[ei (Nat.le_refl _)];rfl
 .intro i ai m;simp only[yo,GD];rw[el ai,np _ i 0 ai,ek i _ ai (by omega)];simp only[cond_true,bind_some,Kt,CP,jG];rfl
theorem abU {α:Type} {L:Nat->azs->Int->Option azs} (a:List α) (f:α->Int) (a_:∀m v,L (m+1) v (a.length:Int)=some v)
  (aa:∀i (h:i<a.length) m v,v.length=i->L (m+1) v (i:Int)=L m (v++[f a[i]]) ((i+1:Nat):Int)):b3 (λm=>L m [] 0)=some (a.map f):=by
 have key:∀i,i<=a.length->∀(v:azs) m,v.length=i->a.length-i<m->L m v (i:Int)=some (v++(a.drop i).map f):=by
  refine down a.length ?_ ?_
  .intro v m aJ hm;obtain⟨m,rfl⟩:∃j,m=j+1:=⟨m-1,by omega⟩
   rw[a_,List.drop_of_length_le (Nat.le_refl _),List.map_nil,List.append_nil]
  .intro i ai ih v m aJ hm;obtain⟨m,rfl⟩:∃j,m=j+1:=⟨m-1,by omega⟩
   rw[aa i ai m v aJ,ih (v++[f a[i]]) m (by simp[aJ]) (by omega),drop_cons a i ai,List.map_cons,List.append_assoc];rfl
 refine e5 (a.length+1) λm hm=>?_;have:=key 0 (by omega) [] m rfl (by omega)
 rwa [List.drop_zero,List.nil_append]at this
theorem Mi (l:azA) (hl:l.length<=1048576) (a:azs) (h:∀e∈l,pT e a.length 15=true):
  Gi l a=some (nO l a)/\GM l a=some (nO l a):=by
 constructor
 .unfold Gi nO;refine abU (L:=Cp l a) l (sq a) (λm v=>?_) λi ai m v aJ=>?_
  .simp only[Cp,PJ];rw[ei (Nat.le_refl _)];rfl
  .simp only[Cp,PJ];rw[el ai,dX _ i ai,ek i _ ai (by omega)];simp only[cond_true,bind_some,(Md (by omega) (h _ (List.getElem_mem ai))).1];rw[kO (by omega) (by omega)];rfl
 .unfold GM nO;refine abU (L:=C4 l a) l (sq a) (λm v=>?_) λi ai m v aJ=>?_
  .simp only[C4,QK];rw[ei (Nat.le_refl _)];rfl
  .simp only[C4,QK];rw[el ai,dX _ i ai,ek i _ ai (by omega)];simp only[cond_true,bind_some,(Md (by omega) (h _ (List.getElem_mem ai))).2.1];rw[kO (by omega) (by omega)];rfl
theorem Ea {l:azA} {a:azs} (bq:∀x∈a,fW x) (h:∀e∈l,pT e a.length 15=true):∀x∈nO l a,fW x:=by
 intro x ao;unfold nO at ao;obtain⟨e,he,rfl⟩:=List.mem_map.1 ao;exact(Md (by omega) (h e he)).2.2 bq
theorem my {n:Nat} (h:n<=1099511627776):il n=some ():=by unfold il;rw[if_pos (by omega)]
theorem Mj (a:azs):((a.length:Int)==0)=decide (a.length=0):=by
 by_cases h:a.length=0
 .rw[h];rfl
 .rw[decide_eq_false h];simp;exact λaf=>h (by rw[af];rfl)
theorem abV (n:azq) (a:azs) (aX:n.length<=10) (hl:a.length<=64) (aJ:∀x∈a,fW x):Gk n a=some (iZ n a):=by
 unfold Gk iZ;rw[Mj];by_cases h:a.length=0
 .rw[decide_eq_true h,if_pos h];rfl
 .have ad:=xm a;rw[decide_eq_false h,if_neg h,cond_false,my (by omega),avf a hl aJ];simp only[bind_some];rw[my (by simp only[List.length_append,List.length_cons,List.length_nil];omega),my (by simp only[List.length_append,List.length_cons,List.length_nil];omega)];rfl
theorem avF (a:azs) (hl:a.length<=64) (aJ:∀x∈a,fW x) (h:a.length≠0):Ad a [44]=some (iY a):=by
 have:=Tp a hl aJ;unfold GN at this;rw[abJ a hl aJ,Mj,decide_eq_false h]at this;simp only[bind_some,Bool.not_true,cond_false]at this;cases bQ:Ad a [44]with
 |none=>rw[bQ]at this;cases this
 |some x=>rw[bQ]at this;exact this
theorem H7 (n:azq) (a:azs) (aX:hk n=true) (hl:a.length<=2) (a8:(n==([116,97,117]:azq))=true->a.length=0) (aJ:∀x∈a,fW x):
  wE n a=some (iZ n a,true):=by
 have yU:n.length<=10:=by simp only[hk,Bool.and_eq_true,decide_eq_true_eq]at aX;exact aX.1
 unfold wE;cases aw:n==([116,97,117]:azq)
 .have aq:yT a=true:=by
   simp only[yT,n_];intro k aw;have:=aJ _ (List.getElem_mem aw);simp only[sg,Bool.and_eq_true,decide_eq_true_eq,List.getD_eq_getElem?_getD,List.getElem?_eq_getElem aw,getD_some];exact this
  rw[cond_false,Tl n (by omega),aX,aw];simp only[bind_some,Bool.not_false,Bool.and_self,Bool.not_true,cond_false];rw[show decide (2<(a.length:Int))=false from decide_eq_false (by omega),cond_false,abT a (by omega),aq];simp only[bind_some,Bool.not_true,cond_false];rw[Mj];unfold iZ;by_cases h:a.length=0
  .rw[decide_eq_true h,if_pos h];rfl
  .have ad:=xm a;rw[decide_eq_false h,if_neg h,cond_false,my (by omega),avF a (by omega) aJ h];simp only[bind_some];rw[my (by simp only[List.length_append,List.length_cons,List.length_nil];omega),my (by simp only[List.length_append,List.length_cons,List.length_nil];omega)];rfl
 .rw[cond_true];unfold iZ;rw[if_pos (a8 aw),eq_of_beq aw,Mj,decide_eq_true (a8 aw)]
theorem avG (n:azq) (a:azs) (aX:hk n=true) (hl:a.length<=2) (a8:(n==([116,97,117]:azq))=true->a.length=0) (aJ:∀x∈a,fW x):
  ∃b,wE n a=some (iZ n a,b):=⟨_,H7 n a aX hl a8 aJ⟩
theorem Mk (a:azs) (h:a.length<=1048576):wF a=some a:=by
 unfold wF;rw[kO (by omega) (by omega)];cases a with
 |nil=>simp[both]
 |cons x r=>rfl
theorem Tz (a:azs) (h:a.length<=1048576):wi a=some a:=by
 unfold wi;rw[kO (by omega) (by omega)];rfl
structure fR (s:bl):Prop where
 A_:s.Label.length<=400/\(32:UInt8)∉s.Label
 xo:∃i:Nat,i<100/\s.Next.cJ=(i:Int)
 xp:∃j:Nat,j<100/\s.Next.Part=(j:Int)
 kt:s.Next.b5.length<=64/\∀x∈s.Next.b5,fW x
 shape:∃n a,hk n=true/\a.length<=2/\((n==([116,97,117]:azq))=true->a.length=0)/\(∀x∈a,fW x)/\s.Label=iZ n a
theorem xq (n:Nat) (aX:n<100):∀c∈iQ n,48<=c.toNat/\c.toNat<=57:=by
 intro c au;unfold iQ at au;have key:∀d,d<10->48<=(UInt8.ofNat (48+d)).toNat/\(UInt8.ofNat (48+d)).toNat<=57:=by
  intro d aq;rw[UInt8.toNat_ofNat',mod_eq_of_lt (by omega)];omega
 split at au
 .rw[List.mem_singleton]at au;subst au;exact key n (by omega)
 .rw[List.mem_cons,List.mem_singleton]at au;rcases au with rfl|rfl
  .exact key _ (by omega)
  .exact key _ (by omega)
theorem abW (p:UInt8->Prop) (abX:p 44):∀l:azp,(∀x∈l,∀c∈x,p c)->∀c∈h1 l [44],p c
 |[],_,c,au=>by simp[h1,List.intercalate,List.intersperse]at au
 |[x],h,c,au=>by rw[join_one]at au;exact h x (by simp) c au
 |x::y::r,h,c,au=>by
  rw[join_cons,List.mem_append,List.mem_append,List.mem_singleton]at au;rcases au with au|rfl|au
  .exact h x (by simp) c au
  .exact abX
  .exact abW p abX (y::r) (λz cd=>h z (List.mem_cons_of_mem _ cd)) c au
theorem abY (a:azs) (aJ:∀x∈a,fW x):∀c∈iY a,44<=c.toNat/\c.toNat<=57:=by
 intro c au;unfold iY at au;split at au
 .rw[List.mem_singleton]at au;subst au;decide
 .refine abW (λc=>44<=c.toNat/\c.toNat<=57) (by decide) _ (λx ao d aq=>?_) c au;obtain⟨y,hy,rfl⟩:=List.mem_map.1 ao;have ad:=aJ y hy;unfold fW at ad;have:=xq y.toNat (by omega) d aq;omega
theorem TA {n:azq} (h:hk n=true):∀c∈n,48<=c.toNat:=by
 intro c au;simp only[hk,Bool.and_eq_true]at h;have af:=h.2;cases n with
 |nil=>cases af
 |cons x r=>
  simp only[Bool.and_eq_true,List.all_eq_true,small,digit,Bool.or_eq_true,decide_eq_true_eq]at af;rcases List.mem_cons.1 au with rfl|au
  .omega
  .have:=af.2 c au;omega
theorem TB {n:azq} {a:azs} (aX:hk n=true) (hl:a.length<=64) (aJ:∀x∈a,fW x):(iZ n a).length<=400/\(32:UInt8)∉iZ n a:=by
 have yU:n.length<=10:=by simp only[hk,Bool.and_eq_true,decide_eq_true_eq]at aX;exact aX.1
 have ad:=xm a;unfold iZ;split
 .refine⟨by omega,λhm=>?_⟩;have:=TA aX _ hm;revert this;decide
 .refine⟨by simp only[List.length_append,List.length_cons,List.length_nil];omega,λhm=>?_⟩;rw[List.mem_append,List.mem_append,List.mem_append,List.mem_singleton,List.mem_singleton]at hm;rcases hm with((hm|hm)|hm)|hm
  .have:=TA aX _ hm;revert this;decide
  .revert hm;decide
  .have:=(abY a aJ _ hm).1;revert this;decide
  .revert hm;decide
end Go.ld
