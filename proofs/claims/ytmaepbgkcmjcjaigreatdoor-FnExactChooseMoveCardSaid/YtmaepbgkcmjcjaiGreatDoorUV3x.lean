/- Part of a proof that a law returns true for every input. No condition. -/
import Derived.Test.YtmaepbgkcmjcjaiGreatDoorUV2x
import Derived.Test.YtmaepbgkcmjcjaiGreatDoorUV1x
namespace Go.l_
open Option Go.IntKind Nat
open Go Go.eg
theorem auI {α:Type} {L:Nat->azc->Int->Option azc} (a:List α) (t:α->azc) (c:UInt8) (k:Nat) (ax:∀x∈a,(t x).length<=k)
  (a7:∀m v,L (m+1) v (a.length:Int)=some v)
  (aa:∀i (h:i<a.length) m v,v.length<=i*(k+1)->L (m+1) v (i:Int)=L m ((if i=0 then v else v++[c])++t a[i]) ((i+1:Nat):Int)):bX (λm=>L m [] 0)=some (hG (a.map t) [c]):=by
 have key:∀i,i<=a.length->∀m,a.length-i<m->L m (hG ((a.take i).map t) [c]) (i:Int)=some (hG (a.map t) [c]):=by
  refine down a.length ?_ ?_
  .intro m hm;obtain⟨m,rfl⟩:∃j,m=j+1:=⟨m-1,by omega⟩
   rw[a7,List.take_length]
  .intro i ai ih m hm;obtain⟨m,rfl⟩:∃j,m=j+1:=⟨m-1,by omega⟩
   have aC:(hG ((a.take i).map t) [c]).length<=i*(k+1):=by
    have:=HA c k ((a.take i).map t) λx an=>by
     obtain⟨y,hy,rfl⟩:=List.mem_map.1 an;exact ax y (List.mem_of_mem_take hy)
    rwa [List.length_map,List.length_take,Nat.min_eq_left (Nat.le_of_lt ai)]at this
   rw[aa i ai m _ aC,<-ih m (by omega)];congr 1;rw[List.take_succ_eq_append_getElem ai,List.map_append,List.map_cons,List.map_nil];by_cases h:i=0
   .subst h;rw[if_pos rfl,List.take_zero,List.map_nil,List.nil_append,join_one];rfl
   .rw[if_neg h,aaB _ _ _ (by simp;exact⟨h,by intro e;subst e;simp at ai⟩),List.append_assoc]
 refine eY (a.length+1) λm hm=>?_;have:=key 0 (by omega) m (by omega);simpa [hG,List.intercalate,List.intersperse]using this
theorem auJ:∀d:Fin 10,pG (i64.wrap (48+((d:Nat):Int)))=UInt8.ofNat (48+d):=by decide
theorem auK (n:Nat) (h:n<10):pG (i64.wrap (48+(n:Int)))=UInt8.ofNat (48+n):=auJ ⟨n,h⟩
theorem auL (a:UInt8):uy [a]=some [a]:=by
 unfold uy;refine eY 2 λm hm=>?_;obtain⟨m,rfl⟩:∃j,m=j+2:=⟨m-2,by omega⟩
 rfl
theorem auM (a b:UInt8):uy [a,b]=some [b,a]:=by
 unfold uy;refine eY 3 λm hm=>?_;obtain⟨m,rfl⟩:∃j,m=j+3:=⟨m-3,by omega⟩
 rfl
theorem abd (a:Int) (m:Nat) (v:azc) (n:Nat) (aR:n≠0) (ayV:n<1000) (aF:v.length<=10):nr a (m+1) v (n:Int)=nr a m (v++[UInt8.ofNat (48+n%10)]) ((n/10:Nat):Int):=by
 simp only[nr,zD,Ca];have aO:((n:Int) !=0)=true:=by simp;omega
 have aU:Int.tmod (n:Int) 10=((n%10:Nat):Int):=rfl;have aM:decide (((n%10:Nat):Int)<0)=false:=by simp only[decide_eq_false_iff_not];omega
 have bT:Int.tdiv (n:Int) 10=((n/10:Nat):Int):=rfl;rw[aO,aU,aM,bT,auK (n%10) (by omega),eD ((n/10:Nat):Int) (by omega),ky (by omega) (by omega)];rfl
theorem abe (a:Int) (bl:0<=a) (m:Nat) (v:azc):nr a (m+1) v 0=uy v:=by
 simp only[nr,zD];have e:decide (a<0)=false:=by simp only[decide_eq_false_iff_not];omega
 rw[e];rfl
theorem auN (n:Nat) (h:n<100):v7 (n:Int)=some (iw n):=by
 unfold v7;by_cases a7:n=0
 .subst a7;rfl
 have e:((n:Int)==0)=false:=by simp;omega
 rw[e,cond_false];refine eY 3 λm hm=>?_;obtain⟨m,rfl⟩:∃j,m=j+3:=⟨m-3,by omega⟩
 rw[abd _ _ _ n a7 (by omega) (by simp)];by_cases ad:n<10
 .have aO:n/10=0:=by omega
  have aU:n%10=n:=by omega
  rw[aO,aU];rw[show(((0:Nat):Int))=0 from rfl,abe _ (by omega),List.nil_append,auL,iw,if_pos ad]
 .rw[abd _ _ _ (n/10) (by omega) (by omega) (by simp)];have aO:n/10/10=0:=by omega
  have aU:n/10%10=n/10:=by omega
  rw[aO,aU];rw[show(((0:Nat):Int))=0 from rfl,abe _ (by omega),List.nil_append,List.singleton_append,auM,iw,if_neg ad]
def iC (a:aze):azc:=if a=[]then [45]else hG (a.map jB) [44]
theorem w6 (a:aze):(iC a).length<=a.length*3+1:=by
 unfold iC;split
 .simp
 .have:=HA 44 2 (a.map jB) λx an=>by
   obtain⟨y,_,rfl⟩:=List.mem_map.1 an;exact HB y
  rw[List.length_map]at this;omega
theorem auO {x:Int} (h:0<=x/\x<=63):v7 x=some (jB x):=by
 have:=auN x.toNat (by omega)
 rwa [Int.toNat_of_nonneg h.1]at this
theorem auP (a:aze) (h:a.length<=64) (aF:∀x∈a,0<=x/\x<=63):JE a=some (iC a):=by
 unfold JE iC;by_cases bl:a=[]
 .subst bl;rfl
 have e:((a.length:Int)==0)=false:=by
  have:a.length≠0:=λh=>bl (List.length_eq_zero_iff.1 h);simp;exact bl
 rw[e,cond_false,if_neg bl];refine auI (L:=zE a) a jB 44 2 (λx _=>HB x) (λm v=>?_) (λi ai m v aC=>?_)
 .simp only[zE,Pf];rw[ev (Nat.le_refl _)];rfl
 .simp only[zE,Pf,JD];have an:=HB a[i];have ok:∀n,n<=1048576->iO n=some ():=λn aR=>by unfold iO;rw[if_pos (by omega)]
  rw[d_ ai,dJ _ i ai,dQ i _ ai (by omega),ok _ (by omega)];simp only[cond_true,bind_some];rw[auO (aF _ (List.getElem_mem ai))];simp only[bind_some];by_cases a7:i=0
  .subst a7;rw[if_pos rfl,show decide ((0:Int)<((0:Nat):Int))=false from by decide,cond_false,ok _ (by omega)];rfl
  .rw[if_neg a7,show decide ((0:Int)<(i:Int))=true from by simp;omega,cond_true,ok _ (by simp only[List.length_append,List.length_cons,List.length_nil];omega)];rfl
theorem abf (a:aze) (h:a.length<=64) (aF:∀x∈a,0<=x/\x<=63):Kt a=some true:=by
 unfold Kt Qk Qj;have e:decide ((a.length:Int)<=64)=true:=by simp;omega
 rw[e,cond_true];have:=p8 (n:=a.length) (l:=CU a) (λ_=>false) (λm=>?_) (λi ai m=>?_)
 .rw[this];simp only[bind_some,tr];have:fW (λ_=> !false) a.length=true:=by simp[fW]
  rw[this];rfl
 .simp only[CU,Qi];rw[ev (Nat.le_refl _)];rfl
 .have an:=aF _ (List.getElem_mem ai);simp only[CU,Qi,Qh,ig];rw[d_ ai,dJ _ i ai,dQ i _ ai (by omega)];simp only[cond_true,bind_some,show decide (-1000000000000<=a[i])=true from by simp;omega,show decide (a[i]<=1000000000000)=true from by simp;omega,Bool.and_self,Bool.not_true,cond_false]
theorem SV (a:aze) (h:a.length<=64) (aF:∀x∈a,0<=x/\x<=63):Gw a=some (iC a):=by
 unfold Gw iC;rw[abf a h aF];simp only[bind_some,Bool.not_true,cond_false];by_cases bl:a=[]
 .subst bl;rfl
 have e:((a.length:Int)==0)=false:=by
  have:a.length≠0:=λh=>bl (List.length_eq_zero_iff.1 h);simp;exact bl
 rw[e,cond_false,if_neg bl];first|exact SI a h aF|(rw[SI a h aF];rfl)
mutual
def jD:dq->azv
 | .mk t a=>t::jY a
def jY:List dq->azv
 |[]=>[]
 |x::r=>jD x++jY r
end
mutual
def k9:dq->Nat
 | .mk _ a=>1+me a
def me:List dq->Nat
 |[]=>0
 |x::r=>k9 x+me r
end
mutual
def tC:dq->Prop
 | .mk t a=>a.length=mZ t/\tD a
def tD:List dq->Prop
 |[]=>True
 |x::r=>tC x/\tD r
end
theorem abg (x:dq):dq.mk x.term x.args=x:=by cases x;rfl
theorem auQ (x:dq):jD x=x.term::jY x.args:=by cases x;simp[jD,dq.term,dq.args]
mutual
theorem SW:∀x,(jD x).length=k9 x
 | .mk t a=>by simp only[jD,k9,List.length_cons,HD a];omega
theorem HD:∀a,(jY a).length=me a
 |[]=>by simp only[jY,me,List.length_nil]
 |x::r=>by simp only[jY,me,List.length_append,SW x,HD r]
end
theorem LF:∀a b,jY (a++b)=jY a++jY b
 |[],b=>by simp only[jY,List.nil_append]
 |x::r,b=>by simp only[List.cons_append,jY,LF r b,List.append_assoc]
theorem SX:∀a b,tD (a++b)↔tD a/\tD b
 |[],b=>by simp[tD]
 |x::r,b=>by simp only[List.cons_append,tD,SX r b];exact⟨λ⟨a,b,c⟩=>⟨⟨a,b⟩,c⟩,λ⟨⟨a,b⟩,c⟩=>⟨a,b,c⟩⟩
theorem SY:∀{a:List dq},tD a->∀x∈a,tC x
 |y::r,h,x,an=>by
  rcases List.mem_cons.1 an with rfl|an
  .exact h.1
  .exact SY h.2 x an
theorem SZ:∀{a:List dq},∀x∈a,k9 x<=me a
 |y::r,x,an=>by
  simp only[me];rcases List.mem_cons.1 an with rfl|an
  .omega
  .have:=SZ x an;omega
theorem DQ (x:dq):1<=k9 x:=by cases x;simp only[k9];omega
theorem auR (x:dq):k9 x=1+me x.args:=by cases x;simp[k9,dq.args]
theorem auS (x:dq):tC x↔x.args.length=mZ x.term/\tD x.args:=by cases x;simp[tC,dq.args,dq.term]
theorem abh (v:Int):∀(e:azv) (k:Nat),r0 v e k=true->∃xs:List dq,xs.length=k/\tD xs/\jY xs=e
 |[],k,h=>by
  simp only[r0,beq_iff_eq]at h;subst h;exact⟨[],rfl,trivial,by simp only[jY]⟩
 |t::r,k,h=>by
  simp only[r0,Bool.and_eq_true,Bool.not_eq_true',beq_eq_false_iff_ne]at h;obtain⟨ax,aY,aT⟩:=h;obtain⟨cH,ad,ae,aJ⟩:=abh v r _ aT;refine⟨.mk t (cH.take (mZ t))::cH.drop (mZ t),?_,?_,?_⟩
  .simp;omega
  .have aa:=List.take_append_drop (mZ t) cH;have hw:=(SX (cH.take (mZ t)) (cH.drop (mZ t))).1 (by rw[aa];exact ae);exact⟨⟨by simp;omega,hw.1⟩,hw.2⟩
  .simp only[jY,jD,List.cons_append];rw[<-LF,List.take_append_drop,aJ]
theorem auT {v most:Int} {e:azv} (h:pD e v most=true):∃x,tC x/\jD x=e:=by
 simp only[pD,Bool.and_eq_true]at h;obtain⟨xs,ad,ae,aJ⟩:=abh v e 1 h.2;cases xs with
 |nil=>simp at ad
 |cons x r=>
  cases r with
  |nil=>exact⟨x,ae.1,by simpa [jY]using aJ⟩
  |cons y r=>simp at ad
theorem auU (rec:azv->Option (ca×List dq×azv)) (t:ca) (a:List dq) (rest:azv) (bl:a.length<=1000)
  (Ly:∀x∈a,∀rest,rec (jD x++rest)=some (x.term,x.args,rest)):bX (λn=>zW rec t (a.length:Int) n [] (jY a++rest) 0)=some (t,a,rest):=by
 have key:∀i,i<=a.length->∀m,a.length-i<m->zW rec t (a.length:Int) m (a.take i) (jY (a.drop i)++rest) (i:Int)=some (t,a,rest):=by
  refine down a.length ?_ ?_
  .intro m hm;obtain⟨m,rfl⟩:∃j,m=j+1:=⟨m-1,by omega⟩
   simp only[zW,Qb];rw[ev (Nat.le_refl _)];simp[jY]
  .intro i ai ih m hm;obtain⟨m,rfl⟩:∃j,m=j+1:=⟨m-1,by omega⟩
   simp only[zW,Qb];rw[d_ ai,dQ i _ ai (by omega),drop_cons a i ai];simp only[cond_true,jY,List.append_assoc];rw[Ly _ (List.getElem_mem ai)];simp only[bind_some];rw[ky (by simp;omega) (by simp;omega),abg];simp only[bind_some];have LG:=ih m (by omega);rw[List.take_succ_eq_append_getElem ai]at LG;exact LG
 refine eY (a.length+1) λm hm=>?_;have:=key 0 (by omega) m (by omega);simpa using this
theorem auV (n:Nat):∀x,tC x->k9 x<=n->∀rest,CP n (jD x++rest)=some (x.term,x.args,rest):=by
 induction n with
 |zero=>intro x _ h;have:=DQ x;omega
 |succ n ih=>
  intro x hw aa rest;obtain⟨ad,ae⟩:=(auS x).1 hw;have fg:=auR x;simp only[CP,Qc,auQ,List.cons_append,Ht,bind_some,asR,aaK,<-ad];refine auU _ _ _ _ (by have:=Lw x.term;omega) λy hy rest=>ih y (SY ae y hy) ?_ rest;have:=SZ y hy;omega
theorem auW (x:dq) (hw:tC x):Kr (jD x)=some (x.term,x.args):=by
 unfold Kr Qd;rw[eY (x:=some (x.term,x.args,[])) (k9 x) λn aR=>by
  have:=auV n x hw aR [];simpa using this]
 rfl
def AL (op a b:Int):Int:=
 cond (op==0) (Int.tmod (i64.wrap (a+b)) 64) (cond (op==1) (Int.tmod (i64.wrap ((i64.wrap (a-b))+64)) 64) (cond (op==2) (Int.tmod (i64.wrap (a*b)) 64) (cond (op==3) (wV (a==b)) (cond (op==4) (wV (a !=b)) (cond (op==5) (wV (decide (a<b))) (cond (op==6) (wV (decide (a<=b))) (cond (op==7) (wV ((a !=0)&&(b !=0))) (wV ((a !=0)||(b !=0))))))))))
theorem auX (op a b:Int):Ks op a b=some (AL op a b):=by
 unfold Ks AL rz;simp only[Lu,bind_some];cases op==0<;>cases op==1<;>cases op==2<;>cases op==3<;>cases op==4<;>cases op==5<;>cases op==6<;>cases op==7<;>cases a !=0<;>cases b !=0<;>rfl
theorem auY (op a b:Int):JC op a b=some (AL op a b):=by
 unfold JC AL rj;simp only[Lu,bind_some];cases op==0<;>cases op==1<;>cases op==2<;>cases op==3<;>cases op==4<;>cases op==5<;>cases op==6<;>cases op==7<;>cases a !=0<;>cases b !=0<;>rfl
def AM (t:ca) (l:aze):Int:=cond (t.Kind==3) (wV (l.getD 0 0==0)) (AL t.Value (l.getD 0 0) (l.getD 1 0))
theorem S0:∀a:List dq,a.length<=me a
 |[]=>zero_le _
 |x::r=>by have:=S0 r;have:=DQ x;simp only[List.length_cons,me];omega
theorem auZ (e:azv) (he:e.length<=1048576) (rest:azv):∀(n:Nat) (xs:List dq) (i:Nat),tD xs->me xs=n->n<=1000000->i<=e.length->e.drop i=jY xs++rest->∀m,n<m->
  B8 e m (i:Int) (xs.length:Int)=some ((i+n:Nat):Int):=by
 intro n;induction n with
 |zero=>
  intro xs i _ aa _ _ _ m hm;obtain⟨m,rfl⟩:∃j,m=j+1:=⟨m-1,by omega⟩
  have:xs=[]:=by
   cases xs with
   |nil=>rfl
   |cons x r=>simp only[me]at aa;have:=DQ x;omega
  subst this;simp only[B8,Pa];have:decide ((0:Int)<(([]:List dq).length:Int))=false:=by decide
  rw[this];rfl
 |succ n ih=>
  intro xs i hw aa an ai ao m hm;obtain⟨m,rfl⟩:∃j,m=j+1:=⟨m-1,by omega⟩
  cases xs with
  |nil=>simp[me]at aa
  |cons x r=>
   obtain⟨t,a⟩:=x;have abj:=hw.1;simp only[jY,jD,List.cons_append,List.append_assoc]at ao;have er:i<e.length:=by
    rcases Nat.lt_or_ge i e.length with h|h
    .exact h
    .rw[List.drop_of_length_le h]at ao;cases ao
   rw[drop_cons e i er]at ao;injection ao with ad ae;simp only[B8,Pa];have d1:decide ((0:Int)<((dq.mk t a::r).length:Int))=true:=by simp
   have bl:=Lw t;have xX:a.length=mZ t:=abj.1;rw[d1,dJ _ i er,ad,dQ i _ er (by omega)];simp only[cond_true,bind_some,aaJ];rw[SK (k:=(dq.mk t a::r).length) (by simp) (by have:=S0 (dq.mk t a::r);omega) bl];have hlen:(dq.mk t a::r).length+mZ t-1=(a++r).length:=by simp;omega
   have ayW:=S0 (dq.mk t a::r);rw[hlen,ih (a++r) (i+1) ((SX a r).2 ⟨abj.2,hw.2⟩) (by
    have:∀a b,me (a++b)=me a+me b:=by
     intro a b;rw[<-HD,<-HD,<-HD,LF,List.length_append]
    rw[this];simp only[me,k9]at aa;omega) (by omega) (by omega) (by rw[LF,List.append_assoc];exact ae) m (by omega)]
   congr 1;omega
mutual
def nw (a:aze):dq->Int
 | .mk t xs=>cond (t.Kind==0) t.Value (cond (t.Kind==1) (a.getD t.Value.toNat 0) (AM t (tE a xs)))
def tE (a:aze):List dq->aze
 |[]=>[]
 |x::r=>nw a x::tE a r
end
theorem abk (v:Int):∀(e:azv) (k:Nat),r0 v e k=true->∀t∈e,oX t v=true
 |[],_,_,_,h=>by cases h
 |t::r,k,h,u,hu=>by
  simp only[r0,Bool.and_eq_true]at h;rcases List.mem_cons.1 hu with rfl|hu
  .exact h.2.1
  .exact abk v r _ h.2.2 u hu
theorem S1 {t:ca} {v:Int} (h:oX t v=true):(t.Kind=0/\0<=t.Value/\t.Value<=63)\/(t.Kind=1/\0<=t.Value/\t.Value<=v-1)\/(t.Kind=2/\mZ t=2)\/(t.Kind=3/\mZ t=1):=by
 unfold oX rZ at h;by_cases a7:t.Kind=0
 .simp only[a7,beq_self_eq_true,cond_true,Bool.and_eq_true,decide_eq_true_eq]at h;exact .inl ⟨a7,h⟩
 .have fT:(t.Kind==0)=false:=by simpa using a7
  rw[fT,cond_false]at h;by_cases ad:t.Kind=1
  .simp only[ad,beq_self_eq_true,cond_true,Bool.and_eq_true,decide_eq_true_eq]at h;exact .inr (.inl ⟨ad,h⟩)
  .have aO:(t.Kind==1)=false:=by simpa using ad
   rw[aO,cond_false]at h;by_cases ae:t.Kind=2
   .exact .inr (.inr (.inl ⟨ae,by simp[mZ,ae]⟩))
   .have aU:(t.Kind==2)=false:=by simpa using ae
    rw[aU,cond_false]at h;by_cases aJ:t.Kind=3
    .exact .inr (.inr (.inr ⟨aJ,by simp[mZ,aJ]⟩))
    .have aM:(t.Kind==3)=false:=by simpa using aJ
     rw[aM,cond_false]at h;cases h
theorem abl {α:Type} {l:List α} (h:l.length=1):∃x,l=[x]:=by
 match l,h with
 |[x],_=>exact⟨x,rfl⟩
theorem abm {α:Type} {l:List α} (h:l.length=2):∃x y,l=[x,y]:=by
 match l,h with
 |[x,y],_=>exact⟨x,y,rfl⟩
theorem au0 (a:aze):∀(n:Nat) (x:dq),tC x->k9 x<=n->(∀t∈jD x,oX t a.length=true)->zX n x a=some (nw a x):=by
 intro n;induction n with
 |zero=>intro x _ h;have:=DQ x;omega
 |succ n ih=>
  rintro⟨t,xs⟩ hw aa aY;obtain⟨ad,ae⟩:=hw;simp only[k9]at aa;simp only[jD,List.mem_cons]at aY;have iB:∀y∈xs,zX n y a=some (nw a y):=λy hy=>by
   refine ih y (SY ae y hy) (by have:=SZ y hy;omega) λu hu=>aY u (.inr ?_);have fX:∀(l:List dq),y∈l->u∈jY l:=by
    intro l;induction l with
    |nil=>intro h;cases h
    |cons z r S2=>
     intro h;simp only[jY,List.mem_append];rcases List.mem_cons.1 h with rfl|h
     .exact .inl hu
     .exact .inr (S2 h)
   exact fX xs hy
  simp only[zX,Qe,dq.term,dq.args];rcases S1 (aY t (.inl rfl))with⟨k,b1,cK⟩|⟨k,b1,cK⟩|⟨k,b1⟩|⟨k,b1⟩
  .simp only[nw,k,beq_self_eq_true,cond_true]
  .obtain⟨j,bJ⟩:∃j:Nat,t.Value=j:=⟨t.Value.toNat,by omega⟩
   have qn:j<a.length:=by omega
   simp only[nw,k,bJ,dJ a j qn,Int.toNat_natCast,List.getD_eq_getElem?_getD,List.getElem?_eq_getElem qn,getD_some,bind_some,beq_self_eq_true,cond_true,show((1:Int)==0)=false from rfl,cond_false]
  .obtain⟨y,z,rfl⟩:=abm (ad.trans b1);have aO:bk [y,z] 0=some y:=rfl;have aU:bk [y,z] 1=some z:=rfl;simp only[nw,tE,AM,k,aO,aU,iB y (by simp),iB z (by simp),auX,bind_some,show((2:Int)==0)=false from rfl,show((2:Int)==1)=false from rfl,show((2:Int)==3)=false from rfl,cond_false];rfl
  .obtain⟨y,rfl⟩:=abl (ad.trans b1);have aO:bk [y] 0=some y:=rfl;simp only[nw,tE,AM,k,aO,iB y (by simp),rz,Lu,bind_some,show((3:Int)==0)=false from rfl,show((3:Int)==1)=false from rfl,beq_self_eq_true,cond_true,cond_false];rfl
theorem au1 (a:aze) (x:dq) (hw:tC x) (aY:∀t∈jD x,oX t a.length=true):CR (jD x) a=some (nw a x):=by
 unfold CR;rw[auW x hw];simp only[bind_some,abg];unfold Qf;rw[eY (x:=some (nw a x)) (k9 x) λn aR=>au0 a n x hw aR aY];rfl
theorem au2 (a:aze) (e:azv) (he:e.length<=1000000):∀(n:Nat) (x:dq) (i:Nat) (rest:azv),tC x->k9 x<=n->(∀t∈jD x,oX t a.length=true)->e.drop i=jD x++rest->
  zA n e a (i:Int)=some (nw a x):=by
 intro n;induction n with
 |zero=>intro x _ _ _ h;have:=DQ x;omega
 |succ n ih=>
  rintro⟨t,xs⟩ i rest hw aa aY ao;obtain⟨ad,ae⟩:=hw;simp only[k9]at aa;simp only[jD,List.mem_cons,List.cons_append]at aY ao;have er:i<e.length:=by
   rcases Nat.lt_or_ge i e.length with h|h
   .exact h
   .rw[List.drop_of_length_le h]at ao;cases ao
  have ht:e.drop (i+1)=jY xs++rest:=by
   rw[drop_cons e i er]at ao;injection ao
  have hg:bk e (i:Int)=some t:=by
   rw[dJ e i er];rw[drop_cons e i er]at ao;injection ao with h _;rw[h]
  simp only[zA,Pb,hg,bind_some];rw[dQ i _ er (by omega)];rcases S1 (aY t (.inl rfl))with⟨k,b1,cK⟩|⟨k,b1,cK⟩|⟨k,b1⟩|⟨k,b1⟩
  .simp only[nw,k,beq_self_eq_true,cond_true]
  .obtain⟨j,bJ⟩:∃j:Nat,t.Value=j:=⟨t.Value.toNat,by omega⟩
   have qn:j<a.length:=by omega
   simp only[nw,k,bJ,dJ a j qn,Int.toNat_natCast,List.getD_eq_getElem?_getD,List.getElem?_eq_getElem qn,getD_some,bind_some,beq_self_eq_true,cond_true,show((1:Int)==0)=false from rfl,cond_false]
  .obtain⟨y,z,rfl⟩:=abm (ad.trans b1);simp only[jY,List.append_nil,List.append_assoc,List.mem_append]at aY ht;simp only[me]at aa;have dU:=ih y (i+1) (jD z++rest) ae.1 (by omega) (λu hu=>aY u (.inr (.inl hu))) ht;have ayX:k9 y<=e.length:=by
    have:=congrArg List.length ht;simp only[List.length_drop,List.length_append,SW]at this;omega
   have a_:JB e ((i+1:Nat):Int)=some ((i+1+k9 y:Nat):Int):=by
    unfold JB;refine eY (k9 y+1) λm hm=>?_;exact auZ e (by omega) (jD z++rest) (k9 y) [y] (i+1) ⟨ae.1,trivial⟩ (by simp[me]) (by omega) (by omega) (by simpa [jY]using ht) m (by omega)
   have au3:e.drop (i+1+k9 y)=jD z++rest:=by
    rw[<-List.drop_drop,ht,<-SW,List.drop_left]
   have cN:=ih z (i+1+k9 y) rest ae.2.1 (by omega) (λu hu=>aY u (.inr (.inr hu))) au3;simp only[nw,tE,AM,k,dU,a_,cN,auY,bind_some,show((2:Int)==0)=false from rfl,show((2:Int)==1)=false from rfl,show((2:Int)==3)=false from rfl,cond_false];rfl
  .obtain⟨y,rfl⟩:=abl (ad.trans b1);simp only[jY,List.append_nil,List.mem_append]at aY ht;simp only[me]at aa;have dU:=ih y (i+1) rest ae.1 (by omega) (λu hu=>aY u (.inr hu)) ht;simp only[nw,tE,AM,k,dU,rj,Lu,bind_some,show((3:Int)==0)=false from rfl,show((3:Int)==1)=false from rfl,beq_self_eq_true,cond_true,cond_false];rfl
theorem au4 (a:aze) (x:dq) (hw:tC x) (aC:(jD x).length<=1000000) (aY:∀t∈jD x,oX t a.length=true):zB (jD x) a=some (nw a x):=by
 unfold zB Pc;have fT:=eY (f:=λn=>zA n (jD x) a 0) (x:=some (nw a x)) (k9 x) λn aR=>au2 a (jD x) aC n x 0 [] hw aR aY (by simp);rw[fT];rfl
def gh (x:Int):Prop:=0<=x/\x<=63
theorem DR (b:Bool):gh (wV b):=by cases b<;>exact⟨by decide,by decide⟩
theorem au5 (op a b:Int) (bl:gh a) (ab:gh b):gh (AL op a b):=by
 unfold gh at bl ab;unfold AL;cases op==0
 .cases op==1
  .cases op==2
   .cases op==3<;>(try exact DR _)
    cases op==4<;>(try exact DR _)
    cases op==5<;>(try exact DR _)
    cases op==6<;>(try exact DR _)
    cases op==7<;>exact DR _
   .have ad:0<=a*b:=Int.mul_nonneg bl.1 ab.1;have ae:a*b<=63*63:=Int.mul_le_mul bl.2 ab.2 ab.1 (by decide);show gh (Int.tmod (i64.wrap (a*b)) 64);rw[eD _ (by omega)];unfold gh;rw[Int.tmod_eq_emod_of_nonneg ad];omega
  .show gh (Int.tmod (i64.wrap ((i64.wrap (a-b))+64)) 64);rw[eD (a-b) (by omega),eD _ (by omega)];unfold gh;rw[Int.tmod_eq_emod_of_nonneg (by omega)];omega
 .show gh (Int.tmod (i64.wrap (a+b)) 64);rw[eD _ (by omega)];unfold gh;rw[Int.tmod_eq_emod_of_nonneg (by omega)];omega
theorem au6 (a:aze) (bl:∀x∈a,gh x):∀(n:Nat) (x:dq),k9 x<=n->(∀t∈jD x,oX t a.length=true)->gh (nw a x):=by
 intro n;induction n with
 |zero=>intro x h;have:=DQ x;omega
 |succ n ih=>
  rintro⟨t,xs⟩ aa aY;simp only[k9]at aa;simp only[jD,List.mem_cons]at aY;have iB:∀i,gh ((tE a xs).getD i 0):=by
   have key:∀l:List dq,me l<=n->(∀t∈jY l,oX t a.length=true)->∀i,gh ((tE a l).getD i 0):=by
    intro l;induction l with
    |nil=>intro _ _ i;simp only[tE,List.getD_nil];exact⟨by decide,by decide⟩
    |cons y r S2=>
     intro ad ae i;simp only[me]at ad;simp only[jY,List.mem_append]at ae;cases i with
     |zero=>simp only[tE,List.getD_cons_zero];exact ih y (by omega) λu hu=>ae u (.inl hu)
     |succ i=>simp only[tE,List.getD_cons_succ];exact S2 (by omega) (λu hu=>ae u (.inr hu)) i
   exact key xs (by omega) λu hu=>aY u (.inr hu)
  simp only[nw];rcases S1 (aY t (.inl rfl))with⟨k,b1,cK⟩|⟨k,b1,cK⟩|⟨k,b1⟩|⟨k,b1⟩
  .simp only[k,beq_self_eq_true,cond_true];exact⟨b1,cK⟩
  .have qn:t.Value.toNat<a.length:=by omega
   simp only[k,show((1:Int)==0)=false from rfl,beq_self_eq_true,cond_true,cond_false,List.getD_eq_getElem?_getD,List.getElem?_eq_getElem qn,getD_some];exact bl _ (List.getElem_mem qn)
  .simp only[k,show((2:Int)==0)=false from rfl,show((2:Int)==1)=false from rfl,show((2:Int)==3)=false from rfl,cond_false,AM];exact au5 _ _ _ (iB 0) (iB 1)
  .simp only[k,show((3:Int)==0)=false from rfl,show((3:Int)==1)=false from rfl,beq_self_eq_true,cond_true,cond_false,AM];exact DR _
noncomputable def r9 (a:aze) (e:azv):Int:=(zB e a).getD 0
theorem LH {a:aze} {e:azv} {most:Int} (hm:most<=1000) (h:pD e a.length most=true):zB e a=some (r9 a e)/\CR e a=some (r9 a e)/\((∀x∈a,gh x)->gh (r9 a e)):=by
 obtain⟨x,hw,rfl⟩:=auT h;simp only[pD,Bool.and_eq_true,decide_eq_true_eq]at h;have aY:=abk _ _ _ h.2;have he:(jD x).length<=1000000:=by omega
 have aO:=au4 a x hw he aY;have aU:r9 a (jD x)=nw a x:=by unfold r9;rw[aO];rfl
 rw[aU];exact⟨aO,au1 a x hw aY,λbl=>au6 a bl _ x (Nat.le_refl _) aY⟩
theorem w7 {n:Int} {P:Prop} (h:some n=some (0:Int)) (aR:n≠0):P:=absurd (some.inj h) aR
theorem au7 {d:a6} {a2:Int} {p:cQ} {v:Bool} (h:sL d a2 p v=some 0):
  ∃aK,vS d a2=some aK/\((p.Kind==4)&&decide (6<=aK))=false/\bX (λn=>xZ p n aK 0)=some 0:=by
 unfold sL at h;rcases dc h with⟨_,h⟩|⟨_,h⟩
 .exact w7 h (by decide)
 obtain⟨aK,aM,h⟩:=aj h;rcases dc h with⟨_,h⟩|⟨bh,h⟩
 .exact w7 h (by decide)
 exact⟨aK,aM,bh,h⟩
theorem LI {d:a6} {a2:Int} {p:cQ} (h:vT d a2 p=some 0):∃v,sL d a2 p v=some 0:=by
 unfold vT at h;rcases dc h with⟨_,h⟩|⟨_,h⟩
 .rcases dc h with⟨_,h⟩|⟨_,h⟩
  .exact⟨_,h⟩
  .obtain⟨b0,_,h⟩:=aj h;exact⟨_,h⟩
 .exact⟨_,h⟩
theorem LJ {e:azx} {d:a6} {a2:Int} {p:cQ} {v:Bool} (h:ur e d a2 p v=some 0):
  v=false/\(p.Kind=1->p.cL.length<=2/\((p.Name==([116,97,117]:azc))=true->p.cL.length=0))/\(p.Kind=3->p.cL.length=1)/\
   (p.Kind=5->∃br,bk e p.Number=some br/\(p.cL.length:Int)=br.ek)/\∃v,sL d a2 p v=some 0:=by
 unfold ur at h;rcases dc h with⟨_,h⟩|⟨aF,h⟩
 .exact w7 h (by decide)
 refine⟨aF,?_⟩;rcases dc h with⟨k,h⟩|⟨k,h⟩
 .have k:=eq_of_beq k;rcases dc h with⟨_,h⟩|⟨g,h⟩
  .exact w7 h (by decide)
  rw[Bool.or_eq_false_iff,Bool.and_eq_false_iff,decide_eq_false_iff_not,decide_eq_false_iff_not]at g;refine⟨λ_=>⟨by omega,λaY=>?_⟩,λaJ=>by omega,λb2=>by omega,LI h⟩;rcases g.2 with g|g
  .omega
  .rw[aY]at g;cases g
 have b1:p.Kind≠1:=by simpa using k
 rcases dc h with⟨k,h⟩|⟨k,h⟩
 .have k:=eq_of_beq k;rcases dc h with⟨_,h⟩|⟨g,h⟩
  .exact w7 h (by decide)
  have g:(p.cL.length:Int)=1:=by simpa using g
  exact⟨λad=>(b1 ad).elim,λ_=>by omega,λb2=>by omega,LI h⟩
 have dM:p.Kind≠3:=by simpa using k
 rcases dc h with⟨k,h⟩|⟨k,h⟩
 .obtain⟨br,bY,h⟩:=aj h;rcases dc h with⟨_,h⟩|⟨g,h⟩
  .exact w7 h (by decide)
  have g:(p.cL.length:Int)=br.ek:=by simpa using g
  exact⟨λad=>(b1 ad).elim,λaJ=>(dM aJ).elim,λ_=>⟨br,bY,g⟩,LI h⟩
 .have eF:p.Kind≠5:=by simpa using k
  exact⟨λad=>(b1 ad).elim,λaJ=>(dM aJ).elim,λb2=>(eF b2).elim,LI h⟩
theorem au8 {e:azx} {d:a6} {a2:Int} (h:sM e d a2=some 0):
  ∃p,bk d.Body a2=some p/\(p.Kind=1->xY p.Name=some true/\p.cL.length<=2/\((p.Name==([116,97,117]:azc))=true->p.cL.length=0))/\(p.Kind=3->p.cL.length=1)/\
   (p.Kind=4->1<=p.Number/\p.Number<=7)/\(p.Kind=5->∃br,bk e p.Number=some br/\(p.cL.length:Int)=br.ek)/\∃v,sL d a2 p v=some 0:=by
 unfold sM at h;obtain⟨p,aO,h⟩:=aj h;obtain⟨ah,_,h⟩:=aj h;rcases dc h with⟨_,h⟩|⟨_,h⟩
 .exact w7 h (by decide)
 have key:∀v,BV e d a2 p v=some 0->v=false/\(p.Kind=4->1<=p.Number/\p.Number<=7)/\ur e d a2 p false=some 0:=by
  intro v h;unfold BV at h;rcases dc h with⟨_,h⟩|⟨aF,h⟩
  .exact w7 h (by decide)
  refine⟨aF,?_⟩;rcases dc h with⟨k,h⟩|⟨k,h⟩
  .have k:=eq_of_beq k;obtain⟨cT,fh,h⟩:=aj h;rcases dc h with⟨_,h⟩|⟨g,jF⟩
   .exact absurd (LJ h).1 (by simp)
   have g:cT=true:=by simpa using g
   rw[g]at fh;unfold jP at fh;have fh:=some.inj fh;rw[Bool.and_eq_true,decide_eq_true_eq,decide_eq_true_eq]at fh;refine⟨λ_=>fh,?_⟩;rcases dc jF with⟨eF,_⟩|⟨_,jF⟩
   .have:=eq_of_beq eF;omega
   .exact jF
  .have dX:p.Kind≠4:=by simpa using k
   refine⟨λbh=>(dX bh).elim,?_⟩;rcases dc h with⟨k,h⟩|⟨k,h⟩
   .obtain⟨df,_,h⟩:=aj h;have g:=(LJ h).1
    rwa [g]at h
   .exact h
 rcases dc h with⟨k,h⟩|⟨k,h⟩
 .obtain⟨eA,kg,h⟩:=aj h;obtain⟨ad,ae,aJ⟩:=key _ h;obtain⟨_,g1,g2,g3,g4⟩:=LJ aJ;have ad:eA=true:=by simpa using ad
  subst ad;exact⟨p,aO,λax=>⟨kg,g1 ax⟩,g2,ae,g3,g4⟩
 .obtain⟨ad,ae,aJ⟩:=key _ h;obtain⟨_,g1,g2,g3,g4⟩:=LJ aJ;have b1:p.Kind≠1:=by simpa using k
  exact⟨p,aO,λax=>(b1 ax).elim,g2,ae,g3,g4⟩
theorem au9 {e:azx} {d:a6} {r:Int×Int} (aC:d.Body.length<=1000) (aT:∀j,j<d.Body.length->∃v,sM e d (j:Int)=some v/\0<=v) (h:vV e d=some r) (a7:r.2=0):
  ∀j,j<d.Body.length->sM e d (j:Int)=some 0:=by
 unfold vV at h;obtain⟨U,_,h⟩:=aj h;rcases dc h with⟨_,h⟩|⟨_,h⟩
 .have:=some.inj h;subst this;exact absurd a7 (by decide)
 obtain⟨n,h⟩:=cC h;have key:∀i,i<=d.Body.length->∀m,vU e d m (i:Int)=some r->∀j,i<=j->j<d.Body.length->sM e d (j:Int)=some 0:=by
  refine down d.Body.length ?_ ?_
  .intro m _ j ad ae;omega
  .intro i ai ih m hm j ad ae;cases m with
   |zero=>cases hm
   |succ m=>
    simp only[vU,FV]at hm;obtain⟨v,aF,nz⟩:=aT i ai;rw[d_ ai,cond_true,aF]at hm;simp only[bind_some]at hm;rcases dc hm with⟨g,hm⟩|⟨g,hm⟩
    .have:=some.inj hm;subst this;simp only[decide_eq_true_eq]at g;simp only at a7;omega
    .have g:v=0:=by simp at g;omega
     subst g;by_cases bJ:j=i
     .subst bJ;exact aF
     .rw[dQ i _ ai (by omega)]at hm;exact ih m hm j (by omega) ae
 exact λj bJ=>key 0 (by omega) n h j (by omega) bJ
structure au_ (e:azx) (d:a6) (j:Nat) (p:cQ) (dY:Int):Prop where
 small:AF p
 abn:0<=dY/\dY<=29
 args:∀a∈p.cL,pD a dY 15=true
 act:p.Kind=1->ha p.Name=true/\p.cL.length<=2/\((p.Name==([116,97,117]:azc))=true->p.cL.length=0)
 ava:p.Kind=3->p.cL.length=1
 sum:p.Kind=4->1<=p.Number/\p.Number<=7/\dY<=5
 call:p.Kind=5->∃br,bk e p.Number=some br/\(p.cL.length:Int)=br.ek
theorem S3 {e:azx} (h:pE e) (aF:lZ e=true) {i:Nat} (ai:i<e.length) {j:Nat} (bJ:j<e[i].Body.length):au_ e e[i] j e[i].Body[j] (jC e[i] j).scope:=by
 obtain⟨ad,bh,ao⟩:=DP h aF;obtain⟨ay,aa,aR,r,dU,a_⟩:=ao i ai;obtain⟨s1,s2,sy⟩:=AH aa;have SU:=h.2 _ (List.getElem_mem ai);have aT:∀j,j<e[i].Body.length->∃v,sM e e[i] (j:Int)=some v/\0<=v:=λj bJ=>by
  obtain⟨hn,gE,iI,jH,tP⟩:=LC e[i] aa ay j bJ;obtain⟨v,v1,_,v3⟩:=aa3 e bh e[i] j bJ sy (SU.2.2 _ (List.getElem_mem bJ)) (jC e[i] j) hn ⟨gE,iI⟩ jH;exact⟨v,v1,v3⟩
 obtain⟨p,aO,f1,f2,f3,f4,v,f5⟩:=au8 (au9 (by omega) aT dU a_ j bJ);rw[dJ _ j bJ]at aO;have aO:=some.inj aO;subst aO;obtain⟨aK,g1,g2,g3⟩:=au7 f5;obtain⟨hn,gE,iI,jH,tP⟩:=LC e[i] aa ay j bJ;rw[hn]at g1;have g1:=some.inj g1;subst g1;have E8:=SU.2.2 _ (List.getElem_mem bJ);rw[aa2 _ E8 _ ⟨gE,iI⟩]at g3;refine⟨E8,⟨gE,iI⟩,?_,λk=>?_,f2,λk=>⟨(f3 k).1,(f3 k).2,?_⟩,f4⟩
 .cases bl:vk e[i].Body[j] (jC e[i] j).scope
  .rw[bl]at g3;exact w7 g3 (by decide)
  .intro a hm;obtain⟨k,ax,rfl⟩:=List.mem_iff_getElem.1 hm;have:=nO.1 bl k ax
   rwa [List.getD_eq_getElem?_getD,List.getElem?_eq_getElem ax]at this
 .obtain⟨J,a2,a3⟩:=f1 k;rw[yu]at J;exact⟨some.inj J,a2,a3⟩
 .rw[k]at g2;simp only[beq_self_eq_true,Bool.true_and,decide_eq_false_iff_not]at g2;omega
theorem abo:∀(j:Nat) (l:azw) (st:azE) (k:Nat),e8 l st.length=some k->j<k->
  ∃s LK,(hb l st).drop j=hb (l.drop j) (s::LK)/\e8 (l.drop j) (LK.length+1)=some (k-j)
 |0,l,st,k,h,bJ=>by
  cases st with
  |nil=>rw[List.length_nil,AD]at h;have:=some.inj h;omega
  |cons s LK=>exact⟨s,LK,rfl,h⟩
 |j+1,[],st,k,h,bJ=>by have:=(vj h).2;simp at this;omega
 |j+1,p::r,[],k,h,bJ=>by rw[List.length_nil,AD]at h;have:=some.inj h;omega
 |j+1,p::r,s::st,k,h,bJ=>by
  obtain⟨da,bD,rfl⟩:=r1.1 h;obtain⟨s2,avb,aO,aU⟩:=abo j r (List.replicate (ez p) (below p s)++st) da (by rw[List.length_append,List.length_replicate,Nat.add_comm];exact bD) (by omega);exact⟨s2,avb,by simp only[hb,List.drop_succ_cons];exact aO,by simp only[List.drop_succ_cons];rw[aU];congr 1;omega⟩
theorem S4 {α:Type} (l:List α) (i:Nat) (d:α):l.getD i d=(l.drop i).headD d:=by
 rw[List.getD_eq_getElem?_getD];cases h:l.drop i with
 |nil=>rw[List.drop_eq_nil_iff]at h;rw[List.getElem?_eq_none h];rfl
 |cons x r=>
  have:l[i]? =some x:=by
   have:=congrArg (λz=>z[0]?) h;simpa using this
  rw[this];rfl
theorem abp {l:azw} (s:dB) (st:azE) (d:dB) (h:l≠[]):(hb l (s::st)).headD d=s:=by
 cases l with
 |nil=>exact(h rfl).elim
 |cons p r=>rfl
theorem avc (d:a6) (aa:e8 d.Body 1=some d.Body.length) {j:Nat} (bJ:j<d.Body.length):
  (1<=ez d.Body[j]->j+1<d.Body.length/\(jC d (j+1)).scope=(below d.Body[j] (jC d j)).scope)/\
  (ez d.Body[j]=2->∃n,e8 (d.Body.drop (j+1)) 1=some n/\j+1+n<d.Body.length/\(jC d (j+1+n)).scope=(below d.Body[j] (jC d j)).scope):=by
 obtain⟨s,st,aO,aU⟩:=abo j d.Body [⟨d.ek,false⟩] d.Body.length aa bJ;have ao:=drop_cons d.Body j bJ;rw[ao]at aO aU;obtain⟨da,bD,ax⟩:=r1.1 aU;have ay:jC d j=s:=by
  unfold jC;rw[S4,aO];rfl
 have aM:(hb d.Body [⟨d.ek,false⟩]).drop (j+1)=hb (d.Body.drop (j+1)) (List.replicate (ez d.Body[j]) (below d.Body[j] s)++st):=by
  rw[<-List.drop_drop,aO];rfl
 rw[ay];constructor
 .intro bH;have ad:=vj bD;have hlen:j+1<d.Body.length:=by omega
  refine⟨hlen,?_⟩;obtain⟨f,avd⟩:∃f,ez d.Body[j]=f+1:=⟨ez d.Body[j]-1,by omega⟩
  unfold jC;rw[S4,aM,avd,List.replicate_succ,List.cons_append,abp _ _ _ (by intro h;rw[List.drop_eq_nil_iff]at h;omega)]
 .intro bH;rw[bH]at bD aM;obtain⟨n,bI,g1,g2,g3⟩:=DH (l:=d.Body.drop (j+1)) (a:=1) (b:=st.length+1) (k:=da) (by rw[<-bD];congr 1;omega);have ae:=vj g2;have hlen:j+1+n<d.Body.length:=by omega
  refine⟨n,g1,hlen,?_⟩;unfold jC;rw[S4,<-List.drop_drop,aM,show List.replicate 2 (below d.Body[j] s)++st=[below d.Body[j] s]++(below d.Body[j] s::st)from rfl,SN (s1:=[below d.Body[j] s]) g1];have aC:=AE (l:=d.Body.drop (j+1)) (st:=[below d.Body[j] s]) g1;rw[<-aC,List.drop_left,aC,List.drop_drop,abp _ _ _ (by intro h;rw[List.drop_eq_nil_iff]at h;omega)]
noncomputable def nP (l:azm) (a:aze):aze:=l.map (r9 a)
def iD (n:azc) (a:aze):azc:=if a.length=0 then n else((n++[40])++iC a)++[41]
def fm (d:a6) (j:Nat):cQ:=d.Body.getD j ⟨0,0,[],[]⟩
def S5 (d:a6) (j:Nat):Nat:=j+(e8 (d.Body.drop j) 1).getD 0
noncomputable def w8 (d:a6) (i j:Nat) (a:aze):bb:=
 ⟨iD (fm d j).Name (nP (fm d j).cL a),if(fm d (j+1)).Kind=5 then⟨(fm d (j+1)).Number,0,nP (fm d (j+1)).cL a⟩else⟨(i:Int),((j+1:Nat):Int),a⟩⟩
noncomputable def i1 (d:a6) (i:Nat):Nat->Nat->aze->azD
 |0,_,_=>[]
 |n+1,j,a=>
  if(fm d j).Kind=1 then [w8 d i j a]
  else if(fm d j).Kind=2 then i1 d i n (j+1) a++i1 d i n (S5 d (j+1)) a
  else if(fm d j).Kind=3 then(if r9 a ((fm d j).cL.getD 0 [])≠0 then i1 d i n (j+1) a else [])
  else if(fm d j).Kind=4 then(List.range' 0 ((fm d j).Number.toNat+1)).flatMap λ(v:Nat)=>i1 d i n (j+1) (a++[((v:Nat):Int)])
  else []
def yB (a:aze):Bool:=fW (λi=>rZ (a.getD i 0) 0 63) a.length
theorem S6 (a:aze) (h:a.length<=1048576):FW a=some (yB a):=by
 unfold FW;refine Hu (l:=λm i=>BX a m i) _ (λm=>?_) (λi ai m=>?_)
 .simp only[BX,O0];rw[ev (Nat.le_refl _)];rfl
 .simp only[BX,O0,jP];rw[d_ ai,ly _ i 0 ai,dQ i _ ai (by omega)];simp only[cond_true,bind_some];show cond (!rZ (a.getD i 0) 0 63) _ _=_;cases rZ (a.getD i 0) 0 63<;>rfl
theorem S7 (a:aze) (h:a.length<=1048576):x8 a=some (yB a):=by
 unfold x8 J5 J4;rw[p8 (n:=a.length) (λi=> !rZ (a.getD i 0) 0 63)]
 .simp only[bind_some,tr,Bool.not_not];rfl
 .intro m;simp only[x7,Gl];rw[ev (Nat.le_refl _)];rfl
 .intro i ai m;simp only[x7,Gl];rw[d_ ai,ly _ i 0 ai,dQ i _ ai (by omega)];simp only[cond_true,bind_some,J3,CF,ig];rfl
theorem abq {α:Type} {L:Nat->aze->Int->Option aze} (a:List α) (f:α->Int) (a7:∀m v,L (m+1) v (a.length:Int)=some v)
  (aa:∀i (h:i<a.length) m v,v.length=i->L (m+1) v (i:Int)=L m (v++[f a[i]]) ((i+1:Nat):Int)):bX (λm=>L m [] 0)=some (a.map f):=by
 have key:∀i,i<=a.length->∀(v:aze) m,v.length=i->a.length-i<m->L m v (i:Int)=some (v++(a.drop i).map f):=by
  refine down a.length ?_ ?_
  .intro v m aF hm;obtain⟨m,rfl⟩:∃j,m=j+1:=⟨m-1,by omega⟩
   rw[a7,List.drop_of_length_le (Nat.le_refl _),List.map_nil,List.append_nil]
  .intro i ai ih v m aF hm;obtain⟨m,rfl⟩:∃j,m=j+1:=⟨m-1,by omega⟩
   rw[aa i ai m v aF,ih (v++[f a[i]]) m (by simp[aF]) (by omega),drop_cons a i ai,List.map_cons,List.append_assoc];rfl
 refine eY (a.length+1) λm hm=>?_;have:=key 0 (by omega) [] m rfl (by omega)
 rwa [List.drop_zero,List.nil_append]at this
theorem LL (l:azm) (aC:l.length<=1048576) (a:aze) (h:∀e∈l,pD e a.length 15=true):
  FZ l a=some (nP l a)/\Gv l a=some (nP l a):=by
 constructor
 .unfold FZ nP;refine abq (L:=B_ l a) l (r9 a) (λm v=>?_) λi ai m v aF=>?_
  .simp only[B_,Pd];rw[ev (Nat.le_refl _)];rfl
  .simp only[B_,Pd];rw[d_ ai,dJ _ i ai,dQ i _ ai (by omega)];simp only[cond_true,bind_some,(LH (by omega) (h _ (List.getElem_mem ai))).1];rw[ky (by omega) (by omega)];rfl
 .unfold Gv nP;refine abq (L:=CS l a) l (r9 a) (λm v=>?_) λi ai m v aF=>?_
  .simp only[CS,Qg];rw[ev (Nat.le_refl _)];rfl
  .simp only[CS,Qg];rw[d_ ai,dJ _ i ai,dQ i _ ai (by omega)];simp only[cond_true,bind_some,(LH (by omega) (h _ (List.getElem_mem ai))).2.1];rw[ky (by omega) (by omega)];rfl
theorem HE {l:azm} {a:aze} (bl:∀x∈a,gh x) (h:∀e∈l,pD e a.length 15=true):∀x∈nP l a,gh x:=by
 intro x an;unfold nP at an;obtain⟨e,he,rfl⟩:=List.mem_map.1 an;exact(LH (by omega) (h e he)).2.2 bl
theorem lA {n:Nat} (h:n<=1099511627776):iO n=some ():=by unfold iO;rw[if_pos (by omega)]
theorem LM (a:aze):((a.length:Int)==0)=decide (a.length=0):=by
 by_cases h:a.length=0
 .rw[h];rfl
 .rw[decide_eq_false h];simp;exact λae=>h (by rw[ae];rfl)
theorem abr (n:azc) (a:aze) (aR:n.length<=10) (aC:a.length<=64) (aF:∀x∈a,gh x):F1 n a=some (iD n a):=by
 unfold F1 iD;rw[LM];by_cases h:a.length=0
 .rw[decide_eq_true h,if_pos h];rfl
 .have ad:=w6 a;rw[decide_eq_false h,if_neg h,cond_false,lA (by omega),auP a aC aF];simp only[bind_some];rw[lA (by simp only[List.length_append,List.length_cons,List.length_nil];omega),lA (by simp only[List.length_append,List.length_cons,List.length_nil];omega)];rfl
theorem ave (a:aze) (aC:a.length<=64) (aF:∀x∈a,gh x) (h:a.length≠0):zT a [44]=some (iC a):=by
 have:=SV a aC aF;unfold Gw at this;rw[abf a aC aF,LM,decide_eq_false h]at this;simp only[bind_some,Bool.not_true,cond_false]at this;cases bJ:zT a [44]with
 |none=>rw[bJ]at this;cases this
 |some x=>rw[bJ]at this;exact this
theorem HF (n:azc) (a:aze) (aR:ha n=true) (aC:a.length<=2) (aY:(n==([116,97,117]:azc))=true->a.length=0) (aF:∀x∈a,gh x):
  wq n a=some (iD n a,true):=by
 have yC:n.length<=10:=by simp only[ha,Bool.and_eq_true,decide_eq_true_eq]at aR;exact aR.1
 unfold wq;cases ax:n==([116,97,117]:azc)
 .have ao:yB a=true:=by
   simp only[yB,nO];intro k ax;have:=aF _ (List.getElem_mem ax);simp only[rZ,Bool.and_eq_true,decide_eq_true_eq,List.getD_eq_getElem?_getD,List.getElem?_eq_getElem ax,getD_some];exact this
  rw[cond_false,SR n (by omega),aR,ax];simp only[bind_some,Bool.not_false,Bool.and_self,Bool.not_true,cond_false];rw[show decide (2<(a.length:Int))=false from decide_eq_false (by omega),cond_false,S7 a (by omega),ao];simp only[bind_some,Bool.not_true,cond_false];rw[LM];unfold iD;by_cases h:a.length=0
  .rw[decide_eq_true h,if_pos h];rfl
  .have ad:=w6 a;rw[decide_eq_false h,if_neg h,cond_false,lA (by omega),ave a (by omega) aF h];simp only[bind_some];rw[lA (by simp only[List.length_append,List.length_cons,List.length_nil];omega),lA (by simp only[List.length_append,List.length_cons,List.length_nil];omega)];rfl
 .rw[cond_true];unfold iD;rw[if_pos (aY ax),eq_of_beq ax,LM,decide_eq_true (aY ax)]
theorem avf (n:azc) (a:aze) (aR:ha n=true) (aC:a.length<=2) (aY:(n==([116,97,117]:azc))=true->a.length=0) (aF:∀x∈a,gh x):
  ∃b,wq n a=some (iD n a,b):=⟨_,HF n a aR aC aY aF⟩
theorem LN (a:aze) (h:a.length<=1048576):CT a=some a:=by
 unfold CT;rw[ky (by omega) (by omega)];cases a with
 |nil=>simp[both]
 |cons x r=>rfl
theorem S8 (a:aze) (h:a.length<=1048576):B7 a=some a:=by
 unfold B7;rw[ky (by omega) (by omega)];rfl
structure fG (s:bb):Prop where
 AN:s.Label.length<=400/\(32:UInt8)∉s.Label
 w9:∃i:Nat,i<100/\s.Next.cE=(i:Int)
 w_:∃j:Nat,j<100/\s.Next.Part=(j:Int)
 kz:s.Next.bV.length<=64/\∀x∈s.Next.bV,gh x
 shape:∃n a,ha n=true/\a.length<=2/\((n==([116,97,117]:azc))=true->a.length=0)/\(∀x∈a,gh x)/\s.Label=iD n a
theorem xa (n:Nat) (aR:n<100):∀c∈iw n,48<=c.toNat/\c.toNat<=57:=by
 intro c ar;unfold iw at ar;have key:∀d,d<10->48<=(UInt8.ofNat (48+d)).toNat/\(UInt8.ofNat (48+d)).toNat<=57:=by
  intro d ao;rw[UInt8.toNat_ofNat',mod_eq_of_lt (by omega)];omega
 split at ar
 .rw[List.mem_singleton]at ar;subst ar;exact key n (by omega)
 .rw[List.mem_cons,List.mem_singleton]at ar;rcases ar with rfl|rfl
  .exact key _ (by omega)
  .exact key _ (by omega)
theorem abt (p:UInt8->Prop) (abu:p 44):∀l:azb,(∀x∈l,∀c∈x,p c)->∀c∈hG l [44],p c
 |[],_,c,ar=>by simp[hG,List.intercalate,List.intersperse]at ar
 |[x],h,c,ar=>by rw[join_one]at ar;exact h x (by simp) c ar
 |x::y::r,h,c,ar=>by
  rw[join_cons,List.mem_append,List.mem_append,List.mem_singleton]at ar;rcases ar with ar|rfl|ar
  .exact h x (by simp) c ar
  .exact abu
  .exact abt p abu (y::r) (λz cf=>h z (List.mem_cons_of_mem _ cf)) c ar
theorem abv (a:aze) (aF:∀x∈a,gh x):∀c∈iC a,44<=c.toNat/\c.toNat<=57:=by
 intro c ar;unfold iC at ar;split at ar
 .rw[List.mem_singleton]at ar;subst ar;decide
 .refine abt (λc=>44<=c.toNat/\c.toNat<=57) (by decide) _ (λx an d ao=>?_) c ar;obtain⟨y,hy,rfl⟩:=List.mem_map.1 an;have ad:=aF y hy;unfold gh at ad;have:=xa y.toNat (by omega) d ao;omega
theorem S9 {n:azc} (h:ha n=true):∀c∈n,48<=c.toNat:=by
 intro c ar;simp only[ha,Bool.and_eq_true]at h;have ae:=h.2;cases n with
 |nil=>cases ae
 |cons x r=>
  simp only[Bool.and_eq_true,List.all_eq_true,small,digit,Bool.or_eq_true,decide_eq_true_eq]at ae;rcases List.mem_cons.1 ar with rfl|ar
  .omega
  .have:=ae.2 c ar;omega
theorem S_ {n:azc} {a:aze} (aR:ha n=true) (aC:a.length<=64) (aF:∀x∈a,gh x):(iD n a).length<=400/\(32:UInt8)∉iD n a:=by
 have yC:n.length<=10:=by simp only[ha,Bool.and_eq_true,decide_eq_true_eq]at aR;exact aR.1
 have ad:=w6 a;unfold iD;split
 .refine⟨by omega,λhm=>?_⟩;have:=S9 aR _ hm;revert this;decide
 .refine⟨by simp only[List.length_append,List.length_cons,List.length_nil];omega,λhm=>?_⟩;rw[List.mem_append,List.mem_append,List.mem_append,List.mem_singleton,List.mem_singleton]at hm;rcases hm with((hm|hm)|hm)|hm
  .have:=S9 aR _ hm;revert this;decide
  .revert hm;decide
  .have:=(abv a aF _ hm).1;revert this;decide
  .revert hm;decide
end Go.l_
