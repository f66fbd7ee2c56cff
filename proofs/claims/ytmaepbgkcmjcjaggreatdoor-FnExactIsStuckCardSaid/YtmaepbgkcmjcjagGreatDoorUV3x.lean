/- Part of a proof that a law returns true for every input. No condition. -/
import Derived.Test.YtmaepbgkcmjcjagGreatDoorUV2x
import Derived.Test.YtmaepbgkcmjcjagGreatDoorUV1x
namespace Go.lZ
open Option Go.IntKind Nat
open Go Go.ef
theorem arU {α:Type} {L:Nat->axa->Int->Option axa} (a:List α) (t:α->axa) (c:UInt8) (k:Nat) (au:∀x∈a,(t x).length<=k)
  (bb:∀m v,L (m+1) v (a.length:Int)=some v)
  (aa:∀i (h:i<a.length) m v,v.length<=i*(k+1)->L (m+1) v (i:Int)=L m ((if i=0 then v else v++[c])++t a[i]) ((i+1:Nat):Int)):b6 (λm=>L m [] 0)=some (jq (a.map t) [c]):=by
 have key:∀i,i<=a.length->∀m,a.length-i<m->L m (jq ((a.take i).map t) [c]) (i:Int)=some (jq (a.map t) [c]):=by
  refine down a.length ?_ ?_
  .intro m hm;obtain⟨m,rfl⟩:∃j,m=j+1:=⟨m-1,by omega⟩
   rw[bb,List.take_length]
  .intro i ag ih m hm;obtain⟨m,rfl⟩:∃j,m=j+1:=⟨m-1,by omega⟩
   have aC:(jq ((a.take i).map t) [c]).length<=i*(k+1):=by
    have:=GR c k ((a.take i).map t) λx an=>by
     obtain⟨y,hy,rfl⟩:=List.mem_map.1 an;exact au y (List.mem_of_mem_take hy)
    rwa [List.length_map,List.length_take,Nat.min_eq_left (Nat.le_of_lt ag)]at this
   rw[aa i ag m _ aC,<-ih m (by omega)];congr 1;rw[List.take_succ_eq_append_getElem ag,List.map_append,List.map_cons,List.map_nil];by_cases h:i=0
   .subst h;rw[if_pos rfl,List.take_zero,List.map_nil,List.nil_append,join_one];rfl
   .rw[if_neg h,Zl _ _ _ (by simp;exact⟨h,by intro e;subst e;simp at ag⟩),List.append_assoc]
 refine fa (a.length+1) λm hm=>?_;have:=key 0 (by omega) m (by omega);simpa [jq,List.intercalate,List.intersperse]using this
theorem arV:∀d:Fin 10,ti (i64.wrap (48+((d:Nat):Int)))=UInt8.ofNat (48+d):=by decide
theorem arW (n:Nat) (h:n<10):ti (i64.wrap (48+(n:Int)))=UInt8.ofNat (48+n):=arV ⟨n,h⟩
theorem arX (a:UInt8):xj [a]=some [a]:=by
 unfold xj;refine fa 2 λm hm=>?_;obtain⟨m,rfl⟩:∃j,m=j+2:=⟨m-2,by omega⟩
 rfl
theorem arY (a b:UInt8):xj [a,b]=some [b,a]:=by
 unfold xj;refine fa 3 λm hm=>?_;obtain⟨m,rfl⟩:∃j,m=j+3:=⟨m-3,by omega⟩
 rfl
theorem ZW (a:Int) (m:Nat) (v:axa) (n:Nat) (aS:n≠0) (awN:n<1000) (aE:v.length<=10):vn a (m+1) v (n:Int)=vn a m (v++[UInt8.ofNat (48+n%10)]) ((n/10:Nat):Int):=by
 simp only[vn,N9,IH];have aN:((n:Int) !=0)=true:=by simp;omega
 have aU:Int.tmod (n:Int) 10=((n%10:Nat):Int):=rfl;have aR:decide (((n%10:Nat):Int)<0)=false:=by simp only[decide_eq_false_iff_not];omega
 have bW:Int.tdiv (n:Int) 10=((n/10:Nat):Int):=rfl;rw[aN,aU,aR,bW,arW (n%10) (by omega),fk ((n/10:Nat):Int) (by omega),lK (by omega) (by omega)];rfl
theorem ZX (a:Int) (bl:0<=a) (m:Nat) (v:axa):vn a (m+1) v 0=xj v:=by
 simp only[vn,N9];have e:decide (a<0)=false:=by simp only[decide_eq_false_iff_not];omega
 rw[e];rfl
theorem arZ (n:Nat) (h:n<100):E7 (n:Int)=some (iR n):=by
 unfold E7;by_cases bb:n=0
 .subst bb;rfl
 have e:((n:Int)==0)=false:=by simp;omega
 rw[e,cond_false];refine fa 3 λm hm=>?_;obtain⟨m,rfl⟩:∃j,m=j+3:=⟨m-3,by omega⟩
 rw[ZW _ _ _ n bb (by omega) (by simp)];by_cases ad:n<10
 .have aN:n/10=0:=by omega
  have aU:n%10=n:=by omega
  rw[aN,aU];rw[show(((0:Nat):Int))=0 from rfl,ZX _ (by omega),List.nil_append,arX,iR,if_pos ad]
 .rw[ZW _ _ _ (n/10) (by omega) (by omega) (by simp)];have aN:n/10/10=0:=by omega
  have aU:n/10%10=n/10:=by omega
  rw[aN,aU];rw[show(((0:Nat):Int))=0 from rfl,ZX _ (by omega),List.nil_append,List.singleton_append,arY,iR,if_neg ad]
def iv (a:axc):axa:=if a=[]then [45]else jq (a.map j0) [44]
theorem wk (a:axc):(iv a).length<=a.length*3+1:=by
 unfold iv;split
 .simp
 .have:=GR 44 2 (a.map j0) λx an=>by
   obtain⟨y,_,rfl⟩:=List.mem_map.1 an;exact GS y
  rw[List.length_map]at this;omega
theorem ar0 {x:Int} (h:0<=x/\x<=63):E7 x=some (j0 x):=by
 have:=arZ x.toNat (by omega)
 rwa [Int.toNat_of_nonneg h.1]at this
theorem ar1 (a:axc) (h:a.length<=64) (aE:∀x∈a,0<=x/\x<=63):IJ a=some (iv a):=by
 unfold IJ iv;by_cases bl:a=[]
 .subst bl;rfl
 have e:((a.length:Int)==0)=false:=by
  have:a.length≠0:=λh=>bl (List.length_eq_zero_iff.1 h);simp;exact bl
 rw[e,cond_false,if_neg bl];refine arU (L:=y1 a) a j0 44 2 (λx _=>GS x) (λm v=>?_) (λi ag m v aC=>?_)
 .simp only[y1,N_];rw[eL (Nat.le_refl _)];rfl
 .simp only[y1,N_,II];have an:=GS a[i];have ok:∀n,n<=1048576->ko n=some ():=λn aS=>by unfold ko;rw[if_pos (by omega)]
  rw[el ag,dM _ i ag,d_ i _ ag (by omega),ok _ (by omega)];simp only[cond_true,bind_some];rw[ar0 (aE _ (List.getElem_mem ag))];simp only[bind_some];by_cases bb:i=0
  .subst bb;rw[if_pos rfl,show decide ((0:Int)<((0:Nat):Int))=false from by decide,cond_false,ok _ (by omega)];rfl
  .rw[if_neg bb,show decide ((0:Int)<(i:Int))=true from by simp;omega,cond_true,ok _ (by simp only[List.length_append,List.length_cons,List.length_nil];omega)];rfl
theorem ZY (a:axc) (h:a.length<=64) (aE:∀x∈a,0<=x/\x<=63):Jp a=some true:=by
 unfold Jp Pb Pa;have e:decide ((a.length:Int)<=64)=true:=by simp;omega
 rw[e,cond_true];have:=s3 (n:=a.length) (l:=B7 a) (λ_=>false) (λm=>?_) (λi ag m=>?_)
 .rw[this];simp only[bind_some,v7];have:f_ (λ_=> !false) a.length=true:=by simp[f_]
  rw[this];rfl
 .simp only[B7,O_];rw[eL (Nat.le_refl _)];rfl
 .have an:=aE _ (List.getElem_mem ag);simp only[B7,O_,O9,kS];rw[el ag,dM _ i ag,d_ i _ ag (by omega)];simp only[cond_true,bind_some,show decide (-1000000000000<=a[i])=true from by simp;omega,show decide (a[i]<=1000000000000)=true from by simp;omega,Bool.and_self,Bool.not_true,cond_false]
theorem Rx (a:axc) (h:a.length<=64) (aE:∀x∈a,0<=x/\x<=63):FE a=some (iv a):=by
 unfold FE iv;rw[ZY a h aE];simp only[bind_some,Bool.not_true,cond_false];by_cases bl:a=[]
 .subst bl;rfl
 have e:((a.length:Int)==0)=false:=by
  have:a.length≠0:=λh=>bl (List.length_eq_zero_iff.1 h);simp;exact bl
 rw[e,cond_false,if_neg bl];first|exact Zm a h aE|(rw[Zm a h aE];rfl)
mutual
def jo:dj->axs
 | .mk t a=>t::jJ a
def jJ:List dj->axs
 |[]=>[]
 |x::r=>jo x++jJ r
end
mutual
def kY:dj->Nat
 | .mk _ a=>1+l9 a
def l9:List dj->Nat
 |[]=>0
 |x::r=>kY x+l9 r
end
mutual
def tb:dj->Prop
 | .mk t a=>a.length=mW t/\tc a
def tc:List dj->Prop
 |[]=>True
 |x::r=>tb x/\tc r
end
theorem ZZ (x:dj):dj.mk x.term x.args=x:=by cases x;rfl
theorem ar2 (x:dj):jo x=x.term::jJ x.args:=by cases x;simp[jo,dj.term,dj.args]
mutual
theorem Ry:∀x,(jo x).length=kY x
 | .mk t a=>by simp only[jo,kY,List.length_cons,GW a];omega
theorem GW:∀a,(jJ a).length=l9 a
 |[]=>by simp only[jJ,l9,List.length_nil]
 |x::r=>by simp only[jJ,l9,List.length_append,Ry x,GW r]
end
theorem KM:∀a b,jJ (a++b)=jJ a++jJ b
 |[],b=>by simp only[jJ,List.nil_append]
 |x::r,b=>by simp only[List.cons_append,jJ,KM r b,List.append_assoc]
theorem Rz:∀a b,tc (a++b)↔tc a/\tc b
 |[],b=>by simp[tc]
 |x::r,b=>by simp only[List.cons_append,tc,Rz r b];exact⟨λ⟨a,b,c⟩=>⟨⟨a,b⟩,c⟩,λ⟨⟨a,b⟩,c⟩=>⟨a,b,c⟩⟩
theorem RA:∀{a:List dj},tc a->∀x∈a,tb x
 |y::r,h,x,an=>by
  rcases List.mem_cons.1 an with rfl|an
  .exact h.1
  .exact RA h.2 x an
theorem RB:∀{a:List dj},∀x∈a,kY x<=l9 a
 |y::r,x,an=>by
  simp only[l9];rcases List.mem_cons.1 an with rfl|an
  .omega
  .have:=RB x an;omega
theorem C5 (x:dj):1<=kY x:=by cases x;simp only[kY];omega
theorem ar3 (x:dj):kY x=1+l9 x.args:=by cases x;simp[kY,dj.args]
theorem ar4 (x:dj):tb x↔x.args.length=mW x.term/\tc x.args:=by cases x;simp[tb,dj.args,dj.term]
theorem Z0 (v:Int):∀(e:axs) (k:Nat),rD v e k=true->∃xs:List dj,xs.length=k/\tc xs/\jJ xs=e
 |[],k,h=>by
  simp only[rD,beq_iff_eq]at h;subst h;exact⟨[],rfl,trivial,by simp only[jJ]⟩
 |t::r,k,h=>by
  simp only[rD,Bool.and_eq_true,Bool.not_eq_true',beq_eq_false_iff_ne]at h;obtain⟨au,aZ,aQ⟩:=h;obtain⟨cL,ad,ae,aI⟩:=Z0 v r _ aQ;refine⟨.mk t (cL.take (mW t))::cL.drop (mW t),?_,?_,?_⟩
  .simp;omega
  .have aa:=List.take_append_drop (mW t) cL;have hw:=(Rz (cL.take (mW t)) (cL.drop (mW t))).1 (by rw[aa];exact ae);exact⟨⟨by simp;omega,hw.1⟩,hw.2⟩
  .simp only[jJ,jo,List.cons_append];rw[<-KM,List.take_append_drop,aI]
theorem ar5 {v most:Int} {e:axs} (h:pk e v most=true):∃x,tb x/\jo x=e:=by
 simp only[pk,Bool.and_eq_true]at h;obtain⟨xs,ad,ae,aI⟩:=Z0 v e 1 h.2;cases xs with
 |nil=>simp at ad
 |cons x r=>
  cases r with
  |nil=>exact⟨x,ae.1,by simpa [jJ]using aI⟩
  |cons y r=>simp at ad
theorem ar6 (rec:axs->Option (bZ×List dj×axs)) (t:bZ) (a:List dj) (rest:axs) (bl:a.length<=1000)
  (KG:∀x∈a,∀rest,rec (jo x++rest)=some (x.term,x.args,rest)):b6 (λn=>zh rec t (a.length:Int) n [] (jJ a++rest) 0)=some (t,a,rest):=by
 have key:∀i,i<=a.length->∀m,a.length-i<m->zh rec t (a.length:Int) m (a.take i) (jJ (a.drop i)++rest) (i:Int)=some (t,a,rest):=by
  refine down a.length ?_ ?_
  .intro m hm;obtain⟨m,rfl⟩:∃j,m=j+1:=⟨m-1,by omega⟩
   simp only[zh,O2];rw[eL (Nat.le_refl _)];simp[jJ]
  .intro i ag ih m hm;obtain⟨m,rfl⟩:∃j,m=j+1:=⟨m-1,by omega⟩
   simp only[zh,O2];rw[el ag,d_ i _ ag (by omega),drop_cons a i ag];simp only[cond_true,jJ,List.append_assoc];rw[KG _ (List.getElem_mem ag)];simp only[bind_some];rw[lK (by simp;omega) (by simp;omega),ZZ];simp only[bind_some];have Z1:=ih m (by omega);rw[List.take_succ_eq_append_getElem ag]at Z1;exact Z1
 refine fa (a.length+1) λm hm=>?_;have:=key 0 (by omega) m (by omega);simpa using this
theorem ar7 (n:Nat):∀x,tb x->kY x<=n->∀rest,B0 n (jo x++rest)=some (x.term,x.args,rest):=by
 induction n with
 |zero=>intro x _ h;have:=C5 x;omega
 |succ n ih=>
  intro x hw aa rest;obtain⟨ad,ae⟩:=(ar4 x).1 hw;have fg:=ar3 x;simp only[B0,O3,ar2,List.cons_append,GI,bind_some,ap7,Zr,<-ad];refine ar6 _ _ _ _ (by have:=KE x.term;omega) λy hy rest=>ih y (RA ae y hy) ?_ rest;have:=RB y hy;omega
theorem ar8 (x:dj) (hw:tb x):Jn (jo x)=some (x.term,x.args):=by
 unfold Jn O4;rw[fa (x:=some (x.term,x.args,[])) (kY x) λn aS=>by
  have:=ar7 n x hw aS [];simpa using this]
 rfl
def z_ (op a b:Int):Int:=
 cond (op==0) (Int.tmod (i64.wrap (a+b)) 64) (cond (op==1) (Int.tmod (i64.wrap ((i64.wrap (a-b))+64)) 64) (cond (op==2) (Int.tmod (i64.wrap (a*b)) 64) (cond (op==3) (v8 (a==b)) (cond (op==4) (v8 (a !=b)) (cond (op==5) (v8 (decide (a<b))) (cond (op==6) (v8 (decide (a<=b))) (cond (op==7) (v8 ((a !=0)&&(b !=0))) (v8 ((a !=0)||(b !=0))))))))))
theorem ar9 (op a b:Int):Jo op a b=some (z_ op a b):=by
 unfold Jo z_ q9;simp only[KC,bind_some];cases op==0<;>cases op==1<;>cases op==2<;>cases op==3<;>cases op==4<;>cases op==5<;>cases op==6<;>cases op==7<;>cases a !=0<;>cases b !=0<;>rfl
theorem ar_ (op a b:Int):IG op a b=some (z_ op a b):=by
 unfold IG z_ q2;simp only[KC,bind_some];cases op==0<;>cases op==1<;>cases op==2<;>cases op==3<;>cases op==4<;>cases op==5<;>cases op==6<;>cases op==7<;>cases a !=0<;>cases b !=0<;>rfl
def Aa (t:bZ) (l:axc):Int:=cond (t.Kind==3) (v8 (l.getD 0 0==0)) (z_ t.Value (l.getD 0 0) (l.getD 1 0))
theorem RC:∀a:List dj,a.length<=l9 a
 |[]=>zero_le _
 |x::r=>by have:=RC r;have:=C5 x;simp only[List.length_cons,l9];omega
theorem asa (e:axs) (he:e.length<=1048576) (rest:axs):∀(n:Nat) (xs:List dj) (i:Nat),tc xs->l9 xs=n->n<=1000000->i<=e.length->e.drop i=jJ xs++rest->∀m,n<m->
  Bn e m (i:Int) (xs.length:Int)=some ((i+n:Nat):Int):=by
 intro n;induction n with
 |zero=>
  intro xs i _ aa _ _ _ m hm;obtain⟨m,rfl⟩:∃j,m=j+1:=⟨m-1,by omega⟩
  have:xs=[]:=by
   cases xs with
   |nil=>rfl
   |cons x r=>simp only[l9]at aa;have:=C5 x;omega
  subst this;simp only[Bn,N4];have:decide ((0:Int)<(([]:List dj).length:Int))=false:=by decide
  rw[this];rfl
 |succ n ih=>
  intro xs i hw aa an ag al m hm;obtain⟨m,rfl⟩:∃j,m=j+1:=⟨m-1,by omega⟩
  cases xs with
  |nil=>simp[l9]at aa
  |cons x r=>
   obtain⟨t,a⟩:=x;have Z2:=hw.1;simp only[jJ,jo,List.cons_append,List.append_assoc]at al;have eB:i<e.length:=by
    rcases Nat.lt_or_ge i e.length with h|h
    .exact h
    .rw[List.drop_of_length_le h]at al;cases al
   rw[drop_cons e i eB]at al;injection al with ad ae;simp only[Bn,N4];have d1:decide ((0:Int)<((dj.mk t a::r).length:Int))=true:=by simp
   have bl:=KE t;have xf:a.length=mW t:=Z2.1;rw[d1,dM _ i eB,ad,d_ i _ eB (by omega)];simp only[cond_true,bind_some,Zq];rw[Ro (k:=(dj.mk t a::r).length) (by simp) (by have:=RC (dj.mk t a::r);omega) bl];have hlen:(dj.mk t a::r).length+mW t-1=(a++r).length:=by simp;omega
   have awO:=RC (dj.mk t a::r);rw[hlen,ih (a++r) (i+1) ((Rz a r).2 ⟨Z2.2,hw.2⟩) (by
    have:∀a b,l9 (a++b)=l9 a+l9 b:=by
     intro a b;rw[<-GW,<-GW,<-GW,KM,List.length_append]
    rw[this];simp only[l9,kY]at aa;omega) (by omega) (by omega) (by rw[KM,List.append_assoc];exact ae) m (by omega)]
   congr 1;omega
mutual
def nq (a:axc):dj->Int
 | .mk t xs=>cond (t.Kind==0) t.Value (cond (t.Kind==1) (a.getD t.Value.toNat 0) (Aa t (td a xs)))
def td (a:axc):List dj->axc
 |[]=>[]
 |x::r=>nq a x::td a r
end
theorem Z3 (v:Int):∀(e:axs) (k:Nat),rD v e k=true->∀t∈e,oJ t v=true
 |[],_,_,_,h=>by cases h
 |t::r,k,h,u,hu=>by
  simp only[rD,Bool.and_eq_true]at h;rcases List.mem_cons.1 hu with rfl|hu
  .exact h.2.1
  .exact Z3 v r _ h.2.2 u hu
theorem RD {t:bZ} {v:Int} (h:oJ t v=true):(t.Kind=0/\0<=t.Value/\t.Value<=63)\/(t.Kind=1/\0<=t.Value/\t.Value<=v-1)\/(t.Kind=2/\mW t=2)\/(t.Kind=3/\mW t=1):=by
 unfold oJ rC at h;by_cases bb:t.Kind=0
 .simp only[bb,beq_self_eq_true,cond_true,Bool.and_eq_true,decide_eq_true_eq]at h;exact .inl ⟨bb,h⟩
 .have ga:(t.Kind==0)=false:=by simpa using bb
  rw[ga,cond_false]at h;by_cases ad:t.Kind=1
  .simp only[ad,beq_self_eq_true,cond_true,Bool.and_eq_true,decide_eq_true_eq]at h;exact .inr (.inl ⟨ad,h⟩)
  .have aN:(t.Kind==1)=false:=by simpa using ad
   rw[aN,cond_false]at h;by_cases ae:t.Kind=2
   .exact .inr (.inr (.inl ⟨ae,by simp[mW,ae]⟩))
   .have aU:(t.Kind==2)=false:=by simpa using ae
    rw[aU,cond_false]at h;by_cases aI:t.Kind=3
    .exact .inr (.inr (.inr ⟨aI,by simp[mW,aI]⟩))
    .have aR:(t.Kind==3)=false:=by simpa using aI
     rw[aR,cond_false]at h;cases h
theorem Z4 {α:Type} {l:List α} (h:l.length=1):∃x,l=[x]:=by
 match l,h with
 |[x],_=>exact⟨x,rfl⟩
theorem Z5 {α:Type} {l:List α} (h:l.length=2):∃x y,l=[x,y]:=by
 match l,h with
 |[x,y],_=>exact⟨x,y,rfl⟩
theorem asb (a:axc):∀(n:Nat) (x:dj),tb x->kY x<=n->(∀t∈jo x,oJ t a.length=true)->zi n x a=some (nq a x):=by
 intro n;induction n with
 |zero=>intro x _ h;have:=C5 x;omega
 |succ n ih=>
  rintro⟨t,xs⟩ hw aa aZ;obtain⟨ad,ae⟩:=hw;simp only[kY]at aa;simp only[jo,List.mem_cons]at aZ;have iu:∀y∈xs,zi n y a=some (nq a y):=λy hy=>by
   refine ih y (RA ae y hy) (by have:=RB y hy;omega) λu hu=>aZ u (.inr ?_);have fS:∀(l:List dj),y∈l->u∈jJ l:=by
    intro l;induction l with
    |nil=>intro h;cases h
    |cons z r RE=>
     intro h;simp only[jJ,List.mem_append];rcases List.mem_cons.1 h with rfl|h
     .exact .inl hu
     .exact .inr (RE h)
   exact fS xs hy
  simp only[zi,O5,dj.term,dj.args];rcases RD (aZ t (.inl rfl))with⟨k,bX,cN⟩|⟨k,bX,cN⟩|⟨k,bX⟩|⟨k,bX⟩
  .simp only[nq,k,beq_self_eq_true,cond_true]
  .obtain⟨j,bE⟩:∃j:Nat,t.Value=j:=⟨t.Value.toNat,by omega⟩
   have qb:j<a.length:=by omega
   simp only[nq,k,bE,dM a j qb,Int.toNat_natCast,List.getD_eq_getElem?_getD,List.getElem?_eq_getElem qb,getD_some,bind_some,beq_self_eq_true,cond_true,show((1:Int)==0)=false from rfl,cond_false]
  .obtain⟨y,z,rfl⟩:=Z5 (ad.trans bX);have aN:bm [y,z] 0=some y:=rfl;have aU:bm [y,z] 1=some z:=rfl;simp only[nq,td,Aa,k,aN,aU,iu y (by simp),iu z (by simp),ar9,bind_some,show((2:Int)==0)=false from rfl,show((2:Int)==1)=false from rfl,show((2:Int)==3)=false from rfl,cond_false];rfl
  .obtain⟨y,rfl⟩:=Z4 (ad.trans bX);have aN:bm [y] 0=some y:=rfl;simp only[nq,td,Aa,k,aN,iu y (by simp),q9,KC,bind_some,show((3:Int)==0)=false from rfl,show((3:Int)==1)=false from rfl,beq_self_eq_true,cond_true,cond_false];rfl
theorem asc (a:axc) (x:dj) (hw:tb x) (aZ:∀t∈jo x,oJ t a.length=true):B2 (jo x) a=some (nq a x):=by
 unfold B2;rw[ar8 x hw];simp only[bind_some,ZZ];unfold O6;rw[fa (x:=some (nq a x)) (kY x) λn aS=>asb a n x hw aS aZ];rfl
theorem asd (a:axc) (e:axs) (he:e.length<=1000000):∀(n:Nat) (x:dj) (i:Nat) (rest:axs),tb x->kY x<=n->(∀t∈jo x,oJ t a.length=true)->e.drop i=jo x++rest->
  yY n e a (i:Int)=some (nq a x):=by
 intro n;induction n with
 |zero=>intro x _ _ _ h;have:=C5 x;omega
 |succ n ih=>
  rintro⟨t,xs⟩ i rest hw aa aZ al;obtain⟨ad,ae⟩:=hw;simp only[kY]at aa;simp only[jo,List.mem_cons,List.cons_append]at aZ al;have eB:i<e.length:=by
   rcases Nat.lt_or_ge i e.length with h|h
   .exact h
   .rw[List.drop_of_length_le h]at al;cases al
  have hq:e.drop (i+1)=jJ xs++rest:=by
   rw[drop_cons e i eB]at al;injection al
  have hg:bm e (i:Int)=some t:=by
   rw[dM e i eB];rw[drop_cons e i eB]at al;injection al with h _;rw[h]
  simp only[yY,N5,hg,bind_some];rw[d_ i _ eB (by omega)];rcases RD (aZ t (.inl rfl))with⟨k,bX,cN⟩|⟨k,bX,cN⟩|⟨k,bX⟩|⟨k,bX⟩
  .simp only[nq,k,beq_self_eq_true,cond_true]
  .obtain⟨j,bE⟩:∃j:Nat,t.Value=j:=⟨t.Value.toNat,by omega⟩
   have qb:j<a.length:=by omega
   simp only[nq,k,bE,dM a j qb,Int.toNat_natCast,List.getD_eq_getElem?_getD,List.getElem?_eq_getElem qb,getD_some,bind_some,beq_self_eq_true,cond_true,show((1:Int)==0)=false from rfl,cond_false]
  .obtain⟨y,z,rfl⟩:=Z5 (ad.trans bX);simp only[jJ,List.append_nil,List.append_assoc,List.mem_append]at aZ hq;simp only[l9]at aa;have ea:=ih y (i+1) (jo z++rest) ae.1 (by omega) (λu hu=>aZ u (.inr (.inl hu))) hq;have awP:kY y<=e.length:=by
    have:=congrArg List.length hq;simp only[List.length_drop,List.length_append,Ry]at this;omega
   have bf:IF e ((i+1:Nat):Int)=some ((i+1+kY y:Nat):Int):=by
    unfold IF;refine fa (kY y+1) λm hm=>?_;exact asa e (by omega) (jo z++rest) (kY y) [y] (i+1) ⟨ae.1,trivial⟩ (by simp[l9]) (by omega) (by omega) (by simpa [jJ]using hq) m (by omega)
   have ase:e.drop (i+1+kY y)=jo z++rest:=by
    rw[<-List.drop_drop,hq,<-Ry,List.drop_left]
   have de:=ih z (i+1+kY y) rest ae.2.1 (by omega) (λu hu=>aZ u (.inr (.inr hu))) ase;simp only[nq,td,Aa,k,ea,bf,de,ar_,bind_some,show((2:Int)==0)=false from rfl,show((2:Int)==1)=false from rfl,show((2:Int)==3)=false from rfl,cond_false];rfl
  .obtain⟨y,rfl⟩:=Z4 (ad.trans bX);simp only[jJ,List.append_nil,List.mem_append]at aZ hq;simp only[l9]at aa;have ea:=ih y (i+1) rest ae.1 (by omega) (λu hu=>aZ u (.inr hu)) hq;simp only[nq,td,Aa,k,ea,q2,KC,bind_some,show((3:Int)==0)=false from rfl,show((3:Int)==1)=false from rfl,beq_self_eq_true,cond_true,cond_false];rfl
theorem asf (a:axc) (x:dj) (hw:tb x) (aC:(jo x).length<=1000000) (aZ:∀t∈jo x,oJ t a.length=true):yZ (jo x) a=some (nq a x):=by
 unfold yZ N6;have ga:=fa (f:=λn=>yY n (jo x) a 0) (x:=some (nq a x)) (kY x) λn aS=>asd a (jo x) aC n x 0 [] hw aS aZ (by simp);rw[ga];rfl
def gh (x:Int):Prop:=0<=x/\x<=63
theorem C6 (b:Bool):gh (v8 b):=by cases b<;>exact⟨by decide,by decide⟩
theorem asg (op a b:Int) (bl:gh a) (ab:gh b):gh (z_ op a b):=by
 unfold gh at bl ab;unfold z_;cases op==0
 .cases op==1
  .cases op==2
   .cases op==3<;>(try exact C6 _)
    cases op==4<;>(try exact C6 _)
    cases op==5<;>(try exact C6 _)
    cases op==6<;>(try exact C6 _)
    cases op==7<;>exact C6 _
   .have ad:0<=a*b:=Int.mul_nonneg bl.1 ab.1;have ae:a*b<=63*63:=Int.mul_le_mul bl.2 ab.2 ab.1 (by decide);show gh (Int.tmod (i64.wrap (a*b)) 64);rw[fk _ (by omega)];unfold gh;rw[Int.tmod_eq_emod_of_nonneg ad];omega
  .show gh (Int.tmod (i64.wrap ((i64.wrap (a-b))+64)) 64);rw[fk (a-b) (by omega),fk _ (by omega)];unfold gh;rw[Int.tmod_eq_emod_of_nonneg (by omega)];omega
 .show gh (Int.tmod (i64.wrap (a+b)) 64);rw[fk _ (by omega)];unfold gh;rw[Int.tmod_eq_emod_of_nonneg (by omega)];omega
theorem ash (a:axc) (bl:∀x∈a,gh x):∀(n:Nat) (x:dj),kY x<=n->(∀t∈jo x,oJ t a.length=true)->gh (nq a x):=by
 intro n;induction n with
 |zero=>intro x h;have:=C5 x;omega
 |succ n ih=>
  rintro⟨t,xs⟩ aa aZ;simp only[kY]at aa;simp only[jo,List.mem_cons]at aZ;have iu:∀i,gh ((td a xs).getD i 0):=by
   have key:∀l:List dj,l9 l<=n->(∀t∈jJ l,oJ t a.length=true)->∀i,gh ((td a l).getD i 0):=by
    intro l;induction l with
    |nil=>intro _ _ i;simp only[td,List.getD_nil];exact⟨by decide,by decide⟩
    |cons y r RE=>
     intro ad ae i;simp only[l9]at ad;simp only[jJ,List.mem_append]at ae;cases i with
     |zero=>simp only[td,List.getD_cons_zero];exact ih y (by omega) λu hu=>ae u (.inl hu)
     |succ i=>simp only[td,List.getD_cons_succ];exact RE (by omega) (λu hu=>ae u (.inr hu)) i
   exact key xs (by omega) λu hu=>aZ u (.inr hu)
  simp only[nq];rcases RD (aZ t (.inl rfl))with⟨k,bX,cN⟩|⟨k,bX,cN⟩|⟨k,bX⟩|⟨k,bX⟩
  .simp only[k,beq_self_eq_true,cond_true];exact⟨bX,cN⟩
  .have qb:t.Value.toNat<a.length:=by omega
   simp only[k,show((1:Int)==0)=false from rfl,beq_self_eq_true,cond_true,cond_false,List.getD_eq_getElem?_getD,List.getElem?_eq_getElem qb,getD_some];exact bl _ (List.getElem_mem qb)
  .simp only[k,show((2:Int)==0)=false from rfl,show((2:Int)==1)=false from rfl,show((2:Int)==3)=false from rfl,cond_false,Aa];exact asg _ _ _ (iu 0) (iu 1)
  .simp only[k,show((3:Int)==0)=false from rfl,show((3:Int)==1)=false from rfl,beq_self_eq_true,cond_true,cond_false,Aa];exact C6 _
noncomputable def rL (a:axc) (e:axs):Int:=(yZ e a).getD 0
theorem KN {a:axc} {e:axs} {most:Int} (hm:most<=1000) (h:pk e a.length most=true):yZ e a=some (rL a e)/\B2 e a=some (rL a e)/\((∀x∈a,gh x)->gh (rL a e)):=by
 obtain⟨x,hw,rfl⟩:=ar5 h;simp only[pk,Bool.and_eq_true,decide_eq_true_eq]at h;have aZ:=Z3 _ _ _ h.2;have he:(jo x).length<=1000000:=by omega
 have aN:=asf a x hw he aZ;have aU:rL a (jo x)=nq a x:=by unfold rL;rw[aN];rfl
 rw[aU];exact⟨aN,asc a x hw aZ,λbl=>ash a bl _ x (Nat.le_refl _) aZ⟩
theorem wm {n:Int} {P:Prop} (h:some n=some (0:Int)) (aS:n≠0):P:=absurd (some.inj h) aS
theorem asi {d:a6} {a2:Int} {p:cG} {v:Bool} (h:sk d a2 p v=some 0):
  ∃aK,vg d a2=some aK/\((p.Kind==4)&&decide (6<=aK))=false/\b6 (λn=>xh p n aK 0)=some 0:=by
 unfold sk at h;rcases dr h with⟨_,h⟩|⟨_,h⟩
 .exact wm h (by decide)
 obtain⟨aK,aR,h⟩:=ao h;rcases dr h with⟨_,h⟩|⟨bc,h⟩
 .exact wm h (by decide)
 exact⟨aK,aR,bc,h⟩
theorem KO {d:a6} {a2:Int} {p:cG} (h:vh d a2 p=some 0):∃v,sk d a2 p v=some 0:=by
 unfold vh at h;rcases dr h with⟨_,h⟩|⟨_,h⟩
 .rcases dr h with⟨_,h⟩|⟨_,h⟩
  .exact⟨_,h⟩
  .obtain⟨bD,_,h⟩:=ao h;exact⟨_,h⟩
 .exact⟨_,h⟩
theorem KP {e:axu} {d:a6} {a2:Int} {p:cG} {v:Bool} (h:tO e d a2 p v=some 0):
  v=false/\(p.Kind=1->p.cO.length<=2/\((p.Name==([116,97,117]:axa))=true->p.cO.length=0))/\(p.Kind=3->p.cO.length=1)/\
   (p.Kind=5->∃bj,bm e p.Number=some bj/\(p.cO.length:Int)=bj.ej)/\∃v,sk d a2 p v=some 0:=by
 unfold tO at h;rcases dr h with⟨_,h⟩|⟨aE,h⟩
 .exact wm h (by decide)
 refine⟨aE,?_⟩;rcases dr h with⟨k,h⟩|⟨k,h⟩
 .have k:=eq_of_beq k;rcases dr h with⟨_,h⟩|⟨g,h⟩
  .exact wm h (by decide)
  rw[Bool.or_eq_false_iff,Bool.and_eq_false_iff,decide_eq_false_iff_not,decide_eq_false_iff_not]at g;refine⟨λ_=>⟨by omega,λaZ=>?_⟩,λaI=>by omega,λbY=>by omega,KO h⟩;rcases g.2 with g|g
  .omega
  .rw[aZ]at g;cases g
 have bX:p.Kind≠1:=by simpa using k
 rcases dr h with⟨k,h⟩|⟨k,h⟩
 .have k:=eq_of_beq k;rcases dr h with⟨_,h⟩|⟨g,h⟩
  .exact wm h (by decide)
  have g:(p.cO.length:Int)=1:=by simpa using g
  exact⟨λad=>(bX ad).elim,λ_=>by omega,λbY=>by omega,KO h⟩
 have dH:p.Kind≠3:=by simpa using k
 rcases dr h with⟨k,h⟩|⟨k,h⟩
 .obtain⟨bj,b3,h⟩:=ao h;rcases dr h with⟨_,h⟩|⟨g,h⟩
  .exact wm h (by decide)
  have g:(p.cO.length:Int)=bj.ej:=by simpa using g
  exact⟨λad=>(bX ad).elim,λaI=>(dH aI).elim,λ_=>⟨bj,b3,g⟩,KO h⟩
 .have eG:p.Kind≠5:=by simpa using k
  exact⟨λad=>(bX ad).elim,λaI=>(dH aI).elim,λbY=>(eG bY).elim,KO h⟩
theorem asj {e:axu} {d:a6} {a2:Int} (h:sl e d a2=some 0):
  ∃p,bm d.Body a2=some p/\(p.Kind=1->xg p.Name=some true/\p.cO.length<=2/\((p.Name==([116,97,117]:axa))=true->p.cO.length=0))/\(p.Kind=3->p.cO.length=1)/\
   (p.Kind=4->1<=p.Number/\p.Number<=7)/\(p.Kind=5->∃bj,bm e p.Number=some bj/\(p.cO.length:Int)=bj.ej)/\∃v,sk d a2 p v=some 0:=by
 unfold sl at h;obtain⟨p,aN,h⟩:=ao h;obtain⟨af,_,h⟩:=ao h;rcases dr h with⟨_,h⟩|⟨_,h⟩
 .exact wm h (by decide)
 have key:∀v,Bg e d a2 p v=some 0->v=false/\(p.Kind=4->1<=p.Number/\p.Number<=7)/\tO e d a2 p false=some 0:=by
  intro v h;unfold Bg at h;rcases dr h with⟨_,h⟩|⟨aE,h⟩
  .exact wm h (by decide)
  refine⟨aE,?_⟩;rcases dr h with⟨k,h⟩|⟨k,h⟩
  .have k:=eq_of_beq k;obtain⟨cu,fu,h⟩:=ao h;rcases dr h with⟨_,h⟩|⟨g,j3⟩
   .exact absurd (KP h).1 (by simp)
   have g:cu=true:=by simpa using g
   rw[g]at fu;unfold l0 at fu;have fu:=some.inj fu;rw[Bool.and_eq_true,decide_eq_true_eq,decide_eq_true_eq]at fu;refine⟨λ_=>fu,?_⟩;rcases dr j3 with⟨eG,_⟩|⟨_,j3⟩
   .have:=eq_of_beq eG;omega
   .exact j3
  .have dT:p.Kind≠4:=by simpa using k
   refine⟨λbc=>(dT bc).elim,?_⟩;rcases dr h with⟨k,h⟩|⟨k,h⟩
   .obtain⟨cv,_,h⟩:=ao h;have g:=(KP h).1
    rwa [g]at h
   .exact h
 rcases dr h with⟨k,h⟩|⟨k,h⟩
 .obtain⟨dP,kK,h⟩:=ao h;obtain⟨ad,ae,aI⟩:=key _ h;obtain⟨_,g1,g2,g3,g4⟩:=KP aI;have ad:dP=true:=by simpa using ad
  subst ad;exact⟨p,aN,λau=>⟨kK,g1 au⟩,g2,ae,g3,g4⟩
 .obtain⟨ad,ae,aI⟩:=key _ h;obtain⟨_,g1,g2,g3,g4⟩:=KP aI;have bX:p.Kind≠1:=by simpa using k
  exact⟨p,aN,λau=>(bX au).elim,g2,ae,g3,g4⟩
theorem asl {e:axu} {d:a6} {r:Int×Int} (aC:d.Body.length<=1000) (aQ:∀j,j<d.Body.length->∃v,sl e d (j:Int)=some v/\0<=v) (h:vj e d=some r) (bb:r.2=0):
  ∀j,j<d.Body.length->sl e d (j:Int)=some 0:=by
 unfold vj at h;obtain⟨U,_,h⟩:=ao h;rcases dr h with⟨_,h⟩|⟨_,h⟩
 .have:=some.inj h;subst this;exact absurd bb (by decide)
 obtain⟨n,h⟩:=cS h;have key:∀i,i<=d.Body.length->∀m,vi e d m (i:Int)=some r->∀j,i<=j->j<d.Body.length->sl e d (j:Int)=some 0:=by
  refine down d.Body.length ?_ ?_
  .intro m _ j ad ae;omega
  .intro i ag ih m hm j ad ae;cases m with
   |zero=>cases hm
   |succ m=>
    simp only[vi,E3]at hm;obtain⟨v,aE,nu⟩:=aQ i ag;rw[el ag,cond_true,aE]at hm;simp only[bind_some]at hm;rcases dr hm with⟨g,hm⟩|⟨g,hm⟩
    .have:=some.inj hm;subst this;simp only[decide_eq_true_eq]at g;simp only at bb;omega
    .have g:v=0:=by simp at g;omega
     subst g;by_cases bE:j=i
     .subst bE;exact aE
     .rw[d_ i _ ag (by omega)]at hm;exact ih m hm j (by omega) ae
 exact λj bE=>key 0 (by omega) n h j (by omega) bE
structure asm (e:axu) (d:a6) (j:Nat) (p:cG) (dU:Int):Prop where
 small:zZ p
 Z6:0<=dU/\dU<=29
 args:∀a∈p.cO,pk a dU 15=true
 act:p.Kind=1->hx p.Name=true/\p.cO.length<=2/\((p.Name==([116,97,117]:axa))=true->p.cO.length=0)
 asn:p.Kind=3->p.cO.length=1
 sum:p.Kind=4->1<=p.Number/\p.Number<=7/\dU<=5
 call:p.Kind=5->∃bj,bm e p.Number=some bj/\(p.cO.length:Int)=bj.ej
theorem RF {e:axu} (h:pn e) (aE:lM e=true) {i:Nat} (ag:i<e.length) {j:Nat} (bE:j<e[i].Body.length):asm e e[i] j e[i].Body[j] (jn e[i] j).scope:=by
 obtain⟨ad,bc,al⟩:=C4 h aE;obtain⟨ax,aa,aS,r,ea,bf⟩:=al i ag;obtain⟨s1,s2,r7⟩:=z6 aa;have Rw:=h.2 _ (List.getElem_mem ag);have aQ:∀j,j<e[i].Body.length->∃v,sl e e[i] (j:Int)=some v/\0<=v:=λj bE=>by
  obtain⟨hj,gO,iJ,jN,tq⟩:=KK e[i] aa ax j bE;obtain⟨v,v1,_,v3⟩:=ZK e bc e[i] j bE r7 (Rw.2.2 _ (List.getElem_mem bE)) (jn e[i] j) hj ⟨gO,iJ⟩ jN;exact⟨v,v1,v3⟩
 obtain⟨p,aN,f1,f2,f3,f4,v,f5⟩:=asj (asl (by omega) aQ ea bf j bE);rw[dM _ j bE]at aN;have aN:=some.inj aN;subst aN;obtain⟨aK,g1,g2,g3⟩:=asi f5;obtain⟨hj,gO,iJ,jN,tq⟩:=KK e[i] aa ax j bE;rw[hj]at g1;have g1:=some.inj g1;subst g1;have Ek:=Rw.2.2 _ (List.getElem_mem bE);rw[ZJ _ Ek _ ⟨gO,iJ⟩]at g3;refine⟨Ek,⟨gO,iJ⟩,?_,λk=>?_,f2,λk=>⟨(f3 k).1,(f3 k).2,?_⟩,f4⟩
 .cases bl:uJ e[i].Body[j] (jn e[i] j).scope
  .rw[bl]at g3;exact wm g3 (by decide)
  .intro a hm;obtain⟨k,au,rfl⟩:=List.mem_iff_getElem.1 hm;have:=oI.1 bl k au
   rwa [List.getD_eq_getElem?_getD,List.getElem?_eq_getElem au]at this
 .obtain⟨J,a2,a3⟩:=f1 k;rw[CT]at J;exact⟨some.inj J,a2,a3⟩
 .rw[k]at g2;simp only[beq_self_eq_true,Bool.true_and,decide_eq_false_iff_not]at g2;omega
theorem Z7:∀(j:Nat) (l:axt) (st:axA) (k:Nat),e8 l st.length=some k->j<k->
  ∃s KQ,(gY l st).drop j=gY (l.drop j) (s::KQ)/\e8 (l.drop j) (KQ.length+1)=some (k-j)
 |0,l,st,k,h,bE=>by
  cases st with
  |nil=>rw[List.length_nil,zX]at h;have:=some.inj h;omega
  |cons s KQ=>exact⟨s,KQ,rfl,h⟩
 |j+1,[],st,k,h,bE=>by have:=(uI h).2;simp at this;omega
 |j+1,p::r,[],k,h,bE=>by rw[List.length_nil,zX]at h;have:=some.inj h;omega
 |j+1,p::r,s::st,k,h,bE=>by
  obtain⟨c_,bB,rfl⟩:=rE.1 h;obtain⟨s2,aso,aN,aU⟩:=Z7 j r (List.replicate (ey p) (below p s)++st) c_ (by rw[List.length_append,List.length_replicate,Nat.add_comm];exact bB) (by omega);exact⟨s2,aso,by simp only[gY,List.drop_succ_cons];exact aN,by simp only[List.drop_succ_cons];rw[aU];congr 1;omega⟩
theorem RG {α:Type} (l:List α) (i:Nat) (d:α):l.getD i d=(l.drop i).headD d:=by
 rw[List.getD_eq_getElem?_getD];cases h:l.drop i with
 |nil=>rw[List.drop_eq_nil_iff]at h;rw[List.getElem?_eq_none h];rfl
 |cons x r=>
  have:l[i]? =some x:=by
   have:=congrArg (λz=>z[0]?) h;simpa using this
  rw[this];rfl
theorem Z8 {l:axt} (s:du) (st:axA) (d:du) (h:l≠[]):(gY l (s::st)).headD d=s:=by
 cases l with
 |nil=>exact(h rfl).elim
 |cons p r=>rfl
theorem asp (d:a6) (aa:e8 d.Body 1=some d.Body.length) {j:Nat} (bE:j<d.Body.length):
  (1<=ey d.Body[j]->j+1<d.Body.length/\(jn d (j+1)).scope=(below d.Body[j] (jn d j)).scope)/\
  (ey d.Body[j]=2->∃n,e8 (d.Body.drop (j+1)) 1=some n/\j+1+n<d.Body.length/\(jn d (j+1+n)).scope=(below d.Body[j] (jn d j)).scope):=by
 obtain⟨s,st,aN,aU⟩:=Z7 j d.Body [⟨d.ej,false⟩] d.Body.length aa bE;have al:=drop_cons d.Body j bE;rw[al]at aN aU;obtain⟨c_,bB,au⟩:=rE.1 aU;have ax:jn d j=s:=by
  unfold jn;rw[RG,aN];rfl
 have aR:(gY d.Body [⟨d.ej,false⟩]).drop (j+1)=gY (d.Body.drop (j+1)) (List.replicate (ey d.Body[j]) (below d.Body[j] s)++st):=by
  rw[<-List.drop_drop,aN];rfl
 rw[ax];constructor
 .intro bF;have ad:=uI bB;have hlen:j+1<d.Body.length:=by omega
  refine⟨hlen,?_⟩;obtain⟨f,asq⟩:∃f,ey d.Body[j]=f+1:=⟨ey d.Body[j]-1,by omega⟩
  unfold jn;rw[RG,aR,asq,List.replicate_succ,List.cons_append,Z8 _ _ _ (by intro h;rw[List.drop_eq_nil_iff]at h;omega)]
 .intro bF;rw[bF]at bB aR;obtain⟨n,bL,g1,g2,g3⟩:=CW (l:=d.Body.drop (j+1)) (a:=1) (b:=st.length+1) (k:=c_) (by rw[<-bB];congr 1;omega);have ae:=uI g2;have hlen:j+1+n<d.Body.length:=by omega
  refine⟨n,g1,hlen,?_⟩;unfold jn;rw[RG,<-List.drop_drop,aR,show List.replicate 2 (below d.Body[j] s)++st=[below d.Body[j] s]++(below d.Body[j] s::st)from rfl,Rr (s1:=[below d.Body[j] s]) g1];have aC:=zY (l:=d.Body.drop (j+1)) (st:=[below d.Body[j] s]) g1;rw[<-aC,List.drop_left,aC,List.drop_drop,Z8 _ _ _ (by intro h;rw[List.drop_eq_nil_iff]at h;omega)]
noncomputable def nK (l:axk) (a:axc):axc:=l.map (rL a)
def iw (n:axa) (a:axc):axa:=if a.length=0 then n else((n++[40])++iv a)++[41]
def fl (d:a6) (j:Nat):cG:=d.Body.getD j ⟨0,0,[],[]⟩
def RH (d:a6) (j:Nat):Nat:=j+(e8 (d.Body.drop j) 1).getD 0
noncomputable def wo (d:a6) (i j:Nat) (a:axc):a7:=
 ⟨iw (fl d j).Name (nK (fl d j).cO a),if(fl d (j+1)).Kind=5 then⟨(fl d (j+1)).Number,0,nK (fl d (j+1)).cO a⟩else⟨(i:Int),((j+1:Nat):Int),a⟩⟩
noncomputable def iP (d:a6) (i:Nat):Nat->Nat->axc->axz
 |0,_,_=>[]
 |n+1,j,a=>
  if(fl d j).Kind=1 then [wo d i j a]
  else if(fl d j).Kind=2 then iP d i n (j+1) a++iP d i n (RH d (j+1)) a
  else if(fl d j).Kind=3 then(if rL a ((fl d j).cO.getD 0 [])≠0 then iP d i n (j+1) a else [])
  else if(fl d j).Kind=4 then(List.range' 0 ((fl d j).Number.toNat+1)).flatMap λ(v:Nat)=>iP d i n (j+1) (a++[((v:Nat):Int)])
  else []
def x0 (a:axc):Bool:=f_ (λi=>rC (a.getD i 0) 0 63) a.length
theorem RI (a:axc) (h:a.length<=1048576):E4 a=some (x0 a):=by
 unfold E4;refine GL (l:=λm i=>Bi a m i) _ (λm=>?_) (λi ag m=>?_)
 .simp only[Bi,NY];rw[eL (Nat.le_refl _)];rfl
 .simp only[Bi,NY,l0];rw[el ag,l6 _ i 0 ag,d_ i _ ag (by omega)];simp only[cond_true,bind_some];show cond (!rC (a.getD i 0) 0 63) _ _=_;cases rC (a.getD i 0) 0 63<;>rfl
theorem RJ (a:axc) (h:a.length<=1048576):BW a=some (x0 a):=by
 unfold BW OQ OP;rw[s3 (n:=a.length) (λi=> !rC (a.getD i 0) 0 63)]
 .simp only[bind_some,v7,Bool.not_not];rfl
 .intro m;simp only[Fv,OO];rw[eL (Nat.le_refl _)];rfl
 .intro i ag m;simp only[Fv,OO];rw[el ag,l6 _ i 0 ag,d_ i _ ag (by omega)];simp only[cond_true,bind_some,ON,Fm,kS];rfl
theorem Z9 {α:Type} {L:Nat->axc->Int->Option axc} (a:List α) (f:α->Int) (bb:∀m v,L (m+1) v (a.length:Int)=some v)
  (aa:∀i (h:i<a.length) m v,v.length=i->L (m+1) v (i:Int)=L m (v++[f a[i]]) ((i+1:Nat):Int)):b6 (λm=>L m [] 0)=some (a.map f):=by
 have key:∀i,i<=a.length->∀(v:axc) m,v.length=i->a.length-i<m->L m v (i:Int)=some (v++(a.drop i).map f):=by
  refine down a.length ?_ ?_
  .intro v m aE hm;obtain⟨m,rfl⟩:∃j,m=j+1:=⟨m-1,by omega⟩
   rw[bb,List.drop_of_length_le (Nat.le_refl _),List.map_nil,List.append_nil]
  .intro i ag ih v m aE hm;obtain⟨m,rfl⟩:∃j,m=j+1:=⟨m-1,by omega⟩
   rw[aa i ag m v aE,ih (v++[f a[i]]) m (by simp[aE]) (by omega),drop_cons a i ag,List.map_cons,List.append_assoc];rfl
 refine fa (a.length+1) λm hm=>?_;have:=key 0 (by omega) [] m rfl (by omega)
 rwa [List.drop_zero,List.nil_append]at this
theorem KR (l:axk) (aC:l.length<=1048576) (a:axc) (h:∀e∈l,pk e a.length 15=true):
  E6 l a=some (nK l a)/\FC l a=some (nK l a):=by
 constructor
 .unfold E6 nK;refine Z9 (L:=Bp l a) l (rL a) (λm v=>?_) λi ag m v aE=>?_
  .simp only[Bp,N7];rw[eL (Nat.le_refl _)];rfl
  .simp only[Bp,N7];rw[el ag,dM _ i ag,d_ i _ ag (by omega)];simp only[cond_true,bind_some,(KN (by omega) (h _ (List.getElem_mem ag))).1];rw[lK (by omega) (by omega)];rfl
 .unfold FC nK;refine Z9 (L:=B3 l a) l (rL a) (λm v=>?_) λi ag m v aE=>?_
  .simp only[B3,O7];rw[eL (Nat.le_refl _)];rfl
  .simp only[B3,O7];rw[el ag,dM _ i ag,d_ i _ ag (by omega)];simp only[cond_true,bind_some,(KN (by omega) (h _ (List.getElem_mem ag))).2.1];rw[lK (by omega) (by omega)];rfl
theorem GX {l:axk} {a:axc} (bl:∀x∈a,gh x) (h:∀e∈l,pk e a.length 15=true):∀x∈nK l a,gh x:=by
 intro x an;unfold nK at an;obtain⟨e,he,rfl⟩:=List.mem_map.1 an;exact(KN (by omega) (h e he)).2.2 bl
theorem l_ {n:Nat} (h:n<=1099511627776):ko n=some ():=by unfold ko;rw[if_pos (by omega)]
theorem KS (a:axc):((a.length:Int)==0)=decide (a.length=0):=by
 by_cases h:a.length=0
 .rw[h];rfl
 .rw[decide_eq_false h];simp;exact λae=>h (by rw[ae];rfl)
theorem Z_ (n:axa) (a:axc) (aS:n.length<=10) (aC:a.length<=64) (aE:∀x∈a,gh x):E8 n a=some (iw n a):=by
 unfold E8 iw;rw[KS];by_cases h:a.length=0
 .rw[decide_eq_true h,if_pos h];rfl
 .have ad:=wk a;rw[decide_eq_false h,if_neg h,cond_false,l_ (by omega),ar1 a aC aE];simp only[bind_some];rw[l_ (by simp only[List.length_append,List.length_cons,List.length_nil];omega),l_ (by simp only[List.length_append,List.length_cons,List.length_nil];omega)];rfl
theorem asr (a:axc) (aC:a.length<=64) (aE:∀x∈a,gh x) (h:a.length≠0):zj a [44]=some (iv a):=by
 have:=Rx a aC aE;unfold FE at this;rw[ZY a aC aE,KS,decide_eq_false h]at this;simp only[bind_some,Bool.not_true,cond_false]at this;cases bE:zj a [44]with
 |none=>rw[bE]at this;cases this
 |some x=>rw[bE]at this;exact this
theorem GY (n:axa) (a:axc) (aS:hx n=true) (aC:a.length<=2) (aZ:(n==([116,97,117]:axa))=true->a.length=0) (aE:∀x∈a,gh x):
  zk n a=some (iw n a,true):=by
 have x1:n.length<=10:=by simp only[hx,Bool.and_eq_true,decide_eq_true_eq]at aS;exact aS.1
 unfold zk;cases au:n==([116,97,117]:axa)
 .have al:x0 a=true:=by
   simp only[x0,oI];intro k au;have:=aE _ (List.getElem_mem au);simp only[rC,Bool.and_eq_true,decide_eq_true_eq,List.getD_eq_getElem?_getD,List.getElem?_eq_getElem au,getD_some];exact this
  rw[cond_false,Ru n (by omega),aS,au];simp only[bind_some,Bool.not_false,Bool.and_self,Bool.not_true,cond_false];rw[show decide (2<(a.length:Int))=false from decide_eq_false (by omega),cond_false,RJ a (by omega),al];simp only[bind_some,Bool.not_true,cond_false];rw[KS];unfold iw;by_cases h:a.length=0
  .rw[decide_eq_true h,if_pos h];rfl
  .have ad:=wk a;rw[decide_eq_false h,if_neg h,cond_false,l_ (by omega),asr a (by omega) aE h];simp only[bind_some];rw[l_ (by simp only[List.length_append,List.length_cons,List.length_nil];omega),l_ (by simp only[List.length_append,List.length_cons,List.length_nil];omega)];rfl
 .rw[cond_true];unfold iw;rw[if_pos (aZ au),eq_of_beq au,KS,decide_eq_true (aZ au)]
theorem ass (n:axa) (a:axc) (aS:hx n=true) (aC:a.length<=2) (aZ:(n==([116,97,117]:axa))=true->a.length=0) (aE:∀x∈a,gh x):
  ∃b,zk n a=some (iw n a,b):=⟨_,GY n a aS aC aZ aE⟩
theorem KT (a:axc) (h:a.length<=1048576):B6 a=some a:=by
 unfold B6;rw[lK (by omega) (by omega)];cases a with
 |nil=>simp[both]
 |cons x r=>rfl
theorem RK (a:axc) (h:a.length<=1048576):Bm a=some a:=by
 unfold Bm;rw[lK (by omega) (by omega)];rfl
structure fy (s:a7):Prop where
 Ab:s.Label.length<=400/\(32:UInt8)∉s.Label
 wq:∃i:Nat,i<100/\s.Next.cD=(i:Int)
 wt:∃j:Nat,j<100/\s.Next.Part=(j:Int)
 km:s.Next.bV.length<=64/\∀x∈s.Next.bV,gh x
 shape:∃n a,hx n=true/\a.length<=2/\((n==([116,97,117]:axa))=true->a.length=0)/\(∀x∈a,gh x)/\s.Label=iw n a
theorem wu (n:Nat) (aS:n<100):∀c∈iR n,48<=c.toNat/\c.toNat<=57:=by
 intro c ar;unfold iR at ar;have key:∀d,d<10->48<=(UInt8.ofNat (48+d)).toNat/\(UInt8.ofNat (48+d)).toNat<=57:=by
  intro d al;rw[UInt8.toNat_ofNat',mod_eq_of_lt (by omega)];omega
 split at ar
 .rw[List.mem_singleton]at ar;subst ar;exact key n (by omega)
 .rw[List.mem_cons,List.mem_singleton]at ar;rcases ar with rfl|rfl
  .exact key _ (by omega)
  .exact key _ (by omega)
theorem aaa (p:UInt8->Prop) (aab:p 44):∀l:awZ,(∀x∈l,∀c∈x,p c)->∀c∈jq l [44],p c
 |[],_,c,ar=>by simp[jq,List.intercalate,List.intersperse]at ar
 |[x],h,c,ar=>by rw[join_one]at ar;exact h x (by simp) c ar
 |x::y::r,h,c,ar=>by
  rw[join_cons,List.mem_append,List.mem_append,List.mem_singleton]at ar;rcases ar with ar|rfl|ar
  .exact h x (by simp) c ar
  .exact aab
  .exact aaa p aab (y::r) (λz b9=>h z (List.mem_cons_of_mem _ b9)) c ar
theorem aac (a:axc) (aE:∀x∈a,gh x):∀c∈iv a,44<=c.toNat/\c.toNat<=57:=by
 intro c ar;unfold iv at ar;split at ar
 .rw[List.mem_singleton]at ar;subst ar;decide
 .refine aaa (λc=>44<=c.toNat/\c.toNat<=57) (by decide) _ (λx an d al=>?_) c ar;obtain⟨y,hy,rfl⟩:=List.mem_map.1 an;have ad:=aE y hy;unfold gh at ad;have:=wu y.toNat (by omega) d al;omega
theorem RL {n:axa} (h:hx n=true):∀c∈n,48<=c.toNat:=by
 intro c ar;simp only[hx,Bool.and_eq_true]at h;have ae:=h.2;cases n with
 |nil=>cases ae
 |cons x r=>
  simp only[Bool.and_eq_true,List.all_eq_true,small,digit,Bool.or_eq_true,decide_eq_true_eq]at ae;rcases List.mem_cons.1 ar with rfl|ar
  .omega
  .have:=ae.2 c ar;omega
theorem RM {n:axa} {a:axc} (aS:hx n=true) (aC:a.length<=64) (aE:∀x∈a,gh x):(iw n a).length<=400/\(32:UInt8)∉iw n a:=by
 have x1:n.length<=10:=by simp only[hx,Bool.and_eq_true,decide_eq_true_eq]at aS;exact aS.1
 have ad:=wk a;unfold iw;split
 .refine⟨by omega,λhm=>?_⟩;have:=RL aS _ hm;revert this;decide
 .refine⟨by simp only[List.length_append,List.length_cons,List.length_nil];omega,λhm=>?_⟩;rw[List.mem_append,List.mem_append,List.mem_append,List.mem_singleton,List.mem_singleton]at hm;rcases hm with((hm|hm)|hm)|hm
  .have:=RL aS _ hm;revert this;decide
  .revert hm;decide
  .have:=(aac a aE _ hm).1;revert this;decide
  .revert hm;decide
end Go.lZ
