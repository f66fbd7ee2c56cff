/- Part of a proof that a law returns true for every input. No condition. -/
import Derived.Test.YtmaepbgkcmjcjafGreatDoorUV3x
import Derived.Test.YtmaepbgkcmjcjafGreatDoorUV1x
namespace Go.kX
open Option Go.IntKind Nat
open Go Go.eg
theorem auc {α:Type} {L:Nat->ayc->Int->Option ayc} (a:List α) (t:α->ayc) (c:UInt8) (k:Nat) (au:∀x∈a,(t x).length<=k)
  (a_:∀m v,L (m+1) v (a.length:Int)=some v)
  (ab:∀i (h:i<a.length) m v,v.length<=i*(k+1)->L (m+1) v (i:Int)=L m ((if i=0 then v else v++[c])++t a[i]) ((i+1:Nat):Int)):bZ (λm=>L m [] 0)=some (jE (a.map t) [c]):=by
 have key:∀i,i<=a.length->∀m,a.length-i<m->L m (jE ((a.take i).map t) [c]) (i:Int)=some (jE (a.map t) [c]):=by
  refine down a.length ?_ ?_
  .intro m hm;obtain⟨m,rfl⟩:∃j,m=j+1:=⟨m-1,by omega⟩
   rw[a_,List.take_length]
  .intro i aj ih m hm;obtain⟨m,rfl⟩:∃j,m=j+1:=⟨m-1,by omega⟩
   have hl:(jE ((a.take i).map t) [c]).length<=i*(k+1):=by
    have:=Hy c k ((a.take i).map t) λx ao=>by
     obtain⟨y,hy,rfl⟩:=List.mem_map.1 ao;exact au y (List.mem_of_mem_take hy)
    rwa [List.length_map,List.length_take,Nat.min_eq_left (Nat.le_of_lt aj)]at this
   rw[ab i aj m _ hl,<-ih m (by omega)];congr 1;rw[List.take_succ_eq_append_getElem aj,List.map_append,List.map_cons,List.map_nil];by_cases h:i=0
   .subst h;rw[if_pos rfl,List.take_zero,List.map_nil,List.nil_append,join_one];rfl
   .rw[if_neg h,aaw _ _ _ (by simp;exact⟨h,by intro e;subst e;simp at aj⟩),List.append_assoc]
 refine fb (a.length+1) λm hm=>?_;have:=key 0 (by omega) m (by omega);simpa [jE,List.intercalate,List.intersperse]using this
theorem aud:∀d:Fin 10,o3 (i64.wrap (48+((d:Nat):Int)))=UInt8.ofNat (48+d):=by decide
theorem aue (n:Nat) (h:n<10):o3 (i64.wrap (48+(n:Int)))=UInt8.ofNat (48+n):=aud ⟨n,h⟩
theorem auf (a:UInt8):xL [a]=some [a]:=by
 unfold xL;refine fb 2 λm hm=>?_;obtain⟨m,rfl⟩:∃j,m=j+2:=⟨m-2,by omega⟩
 rfl
theorem aug (a b:UInt8):xL [a,b]=some [b,a]:=by
 unfold xL;refine fb 3 λm hm=>?_;obtain⟨m,rfl⟩:∃j,m=j+3:=⟨m-3,by omega⟩
 rfl
theorem abb (a:Int) (m:Nat) (v:ayc) (n:Nat) (aV:n≠0) (ax0:n<1000) (aJ:v.length<=10):vF a (m+1) v (n:Int)=vF a m (v++[UInt8.ofNat (48+n%10)]) ((n/10:Nat):Int):=by
 simp only[vF,O0,Ju];have aP:((n:Int) !=0)=true:=by simp;omega
 have aY:Int.tmod (n:Int) 10=((n%10:Nat):Int):=rfl;have aU:decide (((n%10:Nat):Int)<0)=false:=by simp only[decide_eq_false_iff_not];omega
 have b4:Int.tdiv (n:Int) 10=((n/10:Nat):Int):=rfl;rw[aP,aY,aU,b4,aue (n%10) (by omega),ew ((n/10:Nat):Int) (by omega),lR (by omega) (by omega)];rfl
theorem abc (a:Int) (br:0<=a) (m:Nat) (v:ayc):vF a (m+1) v 0=xL v:=by
 simp only[vF,O0];have e:decide (a<0)=false:=by simp only[decide_eq_false_iff_not];omega
 rw[e];rfl
theorem auh (n:Nat) (h:n<100):FH (n:Int)=some (jg n):=by
 unfold FH;by_cases a_:n=0
 .subst a_;rfl
 have e:((n:Int)==0)=false:=by simp;omega
 rw[e,cond_false];refine fb 3 λm hm=>?_;obtain⟨m,rfl⟩:∃j,m=j+3:=⟨m-3,by omega⟩
 rw[abb _ _ _ n a_ (by omega) (by simp)];by_cases ad:n<10
 .have aP:n/10=0:=by omega
  have aY:n%10=n:=by omega
  rw[aP,aY];rw[show(((0:Nat):Int))=0 from rfl,abc _ (by omega),List.nil_append,auf,jg,if_pos ad]
 .rw[abb _ _ _ (n/10) (by omega) (by omega) (by simp)];have aP:n/10/10=0:=by omega
  have aY:n/10%10=n/10:=by omega
  rw[aP,aY];rw[show(((0:Nat):Int))=0 from rfl,abc _ (by omega),List.nil_append,List.singleton_append,aug,jg,if_neg ad]
def iK (a:aye):ayc:=if a=[]then [45]else jE (a.map kf) [44]
theorem wK (a:aye):(iK a).length<=a.length*3+1:=by
 unfold iK;split
 .simp
 .have:=Hy 44 2 (a.map kf) λx ao=>by
   obtain⟨y,_,rfl⟩:=List.mem_map.1 ao;exact Hz y
  rw[List.length_map]at this;omega
theorem aui {x:Int} (h:0<=x/\x<=63):FH x=some (kf x):=by
 have:=auh x.toNat (by omega)
 rwa [Int.toNat_of_nonneg h.1]at this
theorem auj (a:aye) (h:a.length<=64) (aJ:∀x∈a,0<=x/\x<=63):Jw a=some (iK a):=by
 unfold Jw iK;by_cases br:a=[]
 .subst br;rfl
 have e:((a.length:Int)==0)=false:=by
  have:a.length≠0:=λh=>br (List.length_eq_zero_iff.1 h);simp;exact br
 rw[e,cond_false,if_neg br];refine auc (L:=zg a) a kf 44 2 (λx _=>Hz x) (λm v=>?_) (λi aj m v hl=>?_)
 .simp only[zg,O1];rw[eb (Nat.le_refl _)];rfl
 .simp only[zg,O1,Jv];have ao:=Hz a[i];have ok:∀n,n<=1048576->iz n=some ():=λn aV=>by unfold iz;rw[if_pos (by omega)]
  rw[ey aj,dV _ i aj,eo i _ aj (by omega),ok _ (by omega)];simp only[cond_true,bind_some];rw[aui (aJ _ (List.getElem_mem aj))];simp only[bind_some];by_cases a_:i=0
  .subst a_;rw[if_pos rfl,show decide ((0:Int)<((0:Nat):Int))=false from by decide,cond_false,ok _ (by omega)];rfl
  .rw[if_neg a_,show decide ((0:Int)<(i:Int))=true from by simp;omega,cond_true,ok _ (by simp only[List.length_append,List.length_cons,List.length_nil];omega)];rfl
theorem abd (a:aye) (h:a.length<=64) (aJ:∀x∈a,0<=x/\x<=63):J9 a=some true:=by
 unfold J9 P2 P1;have e:decide ((a.length:Int)<=64)=true:=by simp;omega
 rw[e,cond_true];have:=tf (n:=a.length) (l:=Cp a) (λ_=>false) (λm=>?_) (λi aj m=>?_)
 .rw[this];simp only[bind_some,wz];have:fZ (λ_=> !false) a.length=true:=by simp[fZ]
  rw[this];rfl
 .simp only[Cp,P0];rw[eb (Nat.le_refl _)];rfl
 .have ao:=aJ _ (List.getElem_mem aj);simp only[Cp,P0,PZ,k2];rw[ey aj,dV _ i aj,eo i _ aj (by omega)];simp only[cond_true,bind_some,show decide (-1000000000000<=a[i])=true from by simp;omega,show decide (a[i]<=1000000000000)=true from by simp;omega,Bool.and_self,Bool.not_true,cond_false]
theorem SJ (a:aye) (h:a.length<=64) (aJ:∀x∈a,0<=x/\x<=63):Gc a=some (iK a):=by
 unfold Gc iK;rw[abd a h aJ];simp only[bind_some,Bool.not_true,cond_false];by_cases br:a=[]
 .subst br;rfl
 have e:((a.length:Int)==0)=false:=by
  have:a.length≠0:=λh=>br (List.length_eq_zero_iff.1 h);simp;exact br
 rw[e,cond_false,if_neg br];first|exact aax a h aJ|(rw[aax a h aJ];rfl)
mutual
def jD:dr->ayu
 | .mk t a=>t::jZ a
def jZ:List dr->ayu
 |[]=>[]
 |x::r=>jD x++jZ r
end
mutual
def k8:dr->Nat
 | .mk _ a=>1+mg a
def mg:List dr->Nat
 |[]=>0
 |x::r=>k8 x+mg r
end
mutual
def tq:dr->Prop
 | .mk t a=>a.length=mY t/\tr a
def tr:List dr->Prop
 |[]=>True
 |x::r=>tq x/\tr r
end
theorem abe (x:dr):dr.mk x.term x.args=x:=by cases x;rfl
theorem auk (x:dr):jD x=x.term::jZ x.args:=by cases x;simp[jD,dr.term,dr.args]
mutual
theorem SK:∀x,(jD x).length=k8 x
 | .mk t a=>by simp only[jD,k8,List.length_cons,HC a];omega
theorem HC:∀a,(jZ a).length=mg a
 |[]=>by simp only[jZ,mg,List.length_nil]
 |x::r=>by simp only[jZ,mg,List.length_append,SK x,HC r]
end
theorem Lt:∀a b,jZ (a++b)=jZ a++jZ b
 |[],b=>by simp only[jZ,List.nil_append]
 |x::r,b=>by simp only[List.cons_append,jZ,Lt r b,List.append_assoc]
theorem SL:∀a b,tr (a++b)↔tr a/\tr b
 |[],b=>by simp[tr]
 |x::r,b=>by simp only[List.cons_append,tr,SL r b];exact⟨λ⟨a,b,c⟩=>⟨⟨a,b⟩,c⟩,λ⟨⟨a,b⟩,c⟩=>⟨a,b,c⟩⟩
theorem SM:∀{a:List dr},tr a->∀x∈a,tq x
 |y::r,h,x,ao=>by
  rcases List.mem_cons.1 ao with rfl|ao
  .exact h.1
  .exact SM h.2 x ao
theorem SN:∀{a:List dr},∀x∈a,k8 x<=mg a
 |y::r,x,ao=>by
  simp only[mg];rcases List.mem_cons.1 ao with rfl|ao
  .omega
  .have:=SN x ao;omega
theorem Dz (x:dr):1<=k8 x:=by cases x;simp only[k8];omega
theorem aul (x:dr):k8 x=1+mg x.args:=by cases x;simp[k8,dr.args]
theorem aum (x:dr):tq x↔x.args.length=mY x.term/\tr x.args:=by cases x;simp[tq,dr.args,dr.term]
theorem abf (v:Int):∀(e:ayu) (k:Nat),rV v e k=true->∃xs:List dr,xs.length=k/\tr xs/\jZ xs=e
 |[],k,h=>by
  simp only[rV,beq_iff_eq]at h;subst h;exact⟨[],rfl,trivial,by simp only[jZ]⟩
 |t::r,k,h=>by
  simp only[rV,Bool.and_eq_true,Bool.not_eq_true',beq_eq_false_iff_ne]at h;obtain⟨au,ba,aQ⟩:=h;obtain⟨cP,ad,af,aG⟩:=abf v r _ aQ;refine⟨.mk t (cP.take (mY t))::cP.drop (mY t),?_,?_,?_⟩
  .simp;omega
  .have ab:=List.take_append_drop (mY t) cP;have hw:=(SL (cP.take (mY t)) (cP.drop (mY t))).1 (by rw[ab];exact af);exact⟨⟨by simp;omega,hw.1⟩,hw.2⟩
  .simp only[jZ,jD,List.cons_append];rw[<-Lt,List.take_append_drop,aG]
theorem aun {v most:Int} {e:ayu} (h:pD e v most=true):∃x,tq x/\jD x=e:=by
 simp only[pD,Bool.and_eq_true]at h;obtain⟨xs,ad,af,aG⟩:=abf v e 1 h.2;cases xs with
 |nil=>simp at ad
 |cons x r=>
  cases r with
  |nil=>exact⟨x,af.1,by simpa [jZ]using aG⟩
  |cons y r=>simp at ad
theorem auo (rec:ayu->Option (bQ×List dr×ayu)) (t:bQ) (a:List dr) (rest:ayu) (br:a.length<=1000)
  (Ln:∀x∈a,∀rest,rec (jD x++rest)=some (x.term,x.args,rest)):bZ (λn=>zv rec t (a.length:Int) n [] (jZ a++rest) 0)=some (t,a,rest):=by
 have key:∀i,i<=a.length->∀m,a.length-i<m->zv rec t (a.length:Int) m (a.take i) (jZ (a.drop i)++rest) (i:Int)=some (t,a,rest):=by
  refine down a.length ?_ ?_
  .intro m hm;obtain⟨m,rfl⟩:∃j,m=j+1:=⟨m-1,by omega⟩
   simp only[zv,PS];rw[eb (Nat.le_refl _)];simp[jZ]
  .intro i aj ih m hm;obtain⟨m,rfl⟩:∃j,m=j+1:=⟨m-1,by omega⟩
   simp only[zv,PS];rw[ey aj,eo i _ aj (by omega),drop_cons a i aj];simp only[cond_true,jZ,List.append_assoc];rw[Ln _ (List.getElem_mem aj)];simp only[bind_some];rw[lR (by simp;omega) (by simp;omega),abe];simp only[bind_some];have abg:=ih m (by omega);rw[List.take_succ_eq_append_getElem aj]at abg;exact abg
 refine fb (a.length+1) λm hm=>?_;have:=key 0 (by omega) m (by omega);simpa using this
theorem aup (n:Nat):∀x,tq x->k8 x<=n->∀rest,Ci n (jD x++rest)=some (x.term,x.args,rest):=by
 induction n with
 |zero=>intro x _ h;have:=Dz x;omega
 |succ n ih=>
  intro x hw ab rest;obtain⟨ad,af⟩:=(aum x).1 hw;have fj:=aul x;simp only[Ci,PT,auk,List.cons_append,Hp,bind_some,asf,aaC,<-ad];refine auo _ _ _ _ (by have:=Ll x.term;omega) λy hy rest=>ih y (SM af y hy) ?_ rest;have:=SN y hy;omega
theorem auq (x:dr) (hw:tq x):J7 (jD x)=some (x.term,x.args):=by
 unfold J7 PU;rw[fb (x:=some (x.term,x.args,[])) (k8 x) λn aV=>by
  have:=aup n x hw aV [];simpa using this]
 rfl
def As (op a b:Int):Int:=
 cond (op==0) (Int.tmod (i64.wrap (a+b)) 64) (cond (op==1) (Int.tmod (i64.wrap ((i64.wrap (a-b))+64)) 64) (cond (op==2) (Int.tmod (i64.wrap (a*b)) 64) (cond (op==3) (wA (a==b)) (cond (op==4) (wA (a !=b)) (cond (op==5) (wA (decide (a<b))) (cond (op==6) (wA (decide (a<=b))) (cond (op==7) (wA ((a !=0)&&(b !=0))) (wA ((a !=0)||(b !=0))))))))))
theorem aur (op a b:Int):J8 op a b=some (As op a b):=by
 unfold J8 As ru;simp only[Li,bind_some];cases op==0<;>cases op==1<;>cases op==2<;>cases op==3<;>cases op==4<;>cases op==5<;>cases op==6<;>cases op==7<;>cases a !=0<;>cases b !=0<;>rfl
theorem aus (op a b:Int):Jt op a b=some (As op a b):=by
 unfold Jt As rj;simp only[Li,bind_some];cases op==0<;>cases op==1<;>cases op==2<;>cases op==3<;>cases op==4<;>cases op==5<;>cases op==6<;>cases op==7<;>cases a !=0<;>cases b !=0<;>rfl
def At (t:bQ) (l:aye):Int:=cond (t.Kind==3) (wA (l.getD 0 0==0)) (As t.Value (l.getD 0 0) (l.getD 1 0))
theorem SO:∀a:List dr,a.length<=mg a
 |[]=>zero_le _
 |x::r=>by have:=SO r;have:=Dz x;simp only[List.length_cons,mg];omega
theorem aut (e:ayu) (he:e.length<=1048576) (rest:ayu):∀(n:Nat) (xs:List dr) (i:Nat),tr xs->mg xs=n->n<=1000000->i<=e.length->e.drop i=jZ xs++rest->∀m,n<m->
  BH e m (i:Int) (xs.length:Int)=some ((i+n:Nat):Int):=by
 intro n;induction n with
 |zero=>
  intro xs i _ ab _ _ _ m hm;obtain⟨m,rfl⟩:∃j,m=j+1:=⟨m-1,by omega⟩
  have:xs=[]:=by
   cases xs with
   |nil=>rfl
   |cons x r=>simp only[mg]at ab;have:=Dz x;omega
  subst this;simp only[BH,OV];have:decide ((0:Int)<(([]:List dr).length:Int))=false:=by decide
  rw[this];rfl
 |succ n ih=>
  intro xs i hw ab ao aj an m hm;obtain⟨m,rfl⟩:∃j,m=j+1:=⟨m-1,by omega⟩
  cases xs with
  |nil=>simp[mg]at ab
  |cons x r=>
   obtain⟨t,a⟩:=x;have abh:=hw.1;simp only[jZ,jD,List.cons_append,List.append_assoc]at an;have eI:i<e.length:=by
    rcases Nat.lt_or_ge i e.length with h|h
    .exact h
    .rw[List.drop_of_length_le h]at an;cases an
   rw[drop_cons e i eI]at an;injection an with ad af;simp only[BH,OV];have d1:decide ((0:Int)<((dr.mk t a::r).length:Int))=true:=by simp
   have br:=Ll t;have xG:a.length=mY t:=abh.1;rw[d1,dV _ i eI,ad,eo i _ eI (by omega)];simp only[cond_true,bind_some,aaB];rw[SA (k:=(dr.mk t a::r).length) (by simp) (by have:=SO (dr.mk t a::r);omega) br];have hlen:(dr.mk t a::r).length+mY t-1=(a++r).length:=by simp;omega
   have ax1:=SO (dr.mk t a::r);rw[hlen,ih (a++r) (i+1) ((SL a r).2 ⟨abh.2,hw.2⟩) (by
    have:∀a b,mg (a++b)=mg a+mg b:=by
     intro a b;rw[<-HC,<-HC,<-HC,Lt,List.length_append]
    rw[this];simp only[mg,k8]at ab;omega) (by omega) (by omega) (by rw[Lt,List.append_assoc];exact af) m (by omega)]
   congr 1;omega
mutual
def ny (a:aye):dr->Int
 | .mk t xs=>cond (t.Kind==0) t.Value (cond (t.Kind==1) (a.getD t.Value.toNat 0) (At t (ts a xs)))
def ts (a:aye):List dr->aye
 |[]=>[]
 |x::r=>ny a x::ts a r
end
theorem abj (v:Int):∀(e:ayu) (k:Nat),rV v e k=true->∀t∈e,oY t v=true
 |[],_,_,_,h=>by cases h
 |t::r,k,h,u,hu=>by
  simp only[rV,Bool.and_eq_true]at h;rcases List.mem_cons.1 hu with rfl|hu
  .exact h.2.1
  .exact abj v r _ h.2.2 u hu
theorem SP {t:bQ} {v:Int} (h:oY t v=true):(t.Kind=0/\0<=t.Value/\t.Value<=63)\/(t.Kind=1/\0<=t.Value/\t.Value<=v-1)\/(t.Kind=2/\mY t=2)\/(t.Kind=3/\mY t=1):=by
 unfold oY rU at h;by_cases a_:t.Kind=0
 .simp only[a_,beq_self_eq_true,cond_true,Bool.and_eq_true,decide_eq_true_eq]at h;exact .inl ⟨a_,h⟩
 .have gb:(t.Kind==0)=false:=by simpa using a_
  rw[gb,cond_false]at h;by_cases ad:t.Kind=1
  .simp only[ad,beq_self_eq_true,cond_true,Bool.and_eq_true,decide_eq_true_eq]at h;exact .inr (.inl ⟨ad,h⟩)
  .have aP:(t.Kind==1)=false:=by simpa using ad
   rw[aP,cond_false]at h;by_cases af:t.Kind=2
   .exact .inr (.inr (.inl ⟨af,by simp[mY,af]⟩))
   .have aY:(t.Kind==2)=false:=by simpa using af
    rw[aY,cond_false]at h;by_cases aG:t.Kind=3
    .exact .inr (.inr (.inr ⟨aG,by simp[mY,aG]⟩))
    .have aU:(t.Kind==3)=false:=by simpa using aG
     rw[aU,cond_false]at h;cases h
theorem abk {α:Type} {l:List α} (h:l.length=1):∃x,l=[x]:=by
 match l,h with
 |[x],_=>exact⟨x,rfl⟩
theorem abl {α:Type} {l:List α} (h:l.length=2):∃x y,l=[x,y]:=by
 match l,h with
 |[x,y],_=>exact⟨x,y,rfl⟩
theorem auu (a:aye):∀(n:Nat) (x:dr),tq x->k8 x<=n->(∀t∈jD x,oY t a.length=true)->zw n x a=some (ny a x):=by
 intro n;induction n with
 |zero=>intro x _ h;have:=Dz x;omega
 |succ n ih=>
  rintro⟨t,xs⟩ hw ab ba;obtain⟨ad,af⟩:=hw;simp only[k8]at ab;simp only[jD,List.mem_cons]at ba;have iJ:∀y∈xs,zw n y a=some (ny a y):=λy hy=>by
   refine ih y (SM af y hy) (by have:=SN y hy;omega) λu hu=>ba u (.inr ?_);have fU:∀(l:List dr),y∈l->u∈jZ l:=by
    intro l;induction l with
    |nil=>intro h;cases h
    |cons z r SQ=>
     intro h;simp only[jZ,List.mem_append];rcases List.mem_cons.1 h with rfl|h
     .exact .inl hu
     .exact .inr (SQ h)
   exact fU xs hy
  simp only[zw,PV,dr.term,dr.args];rcases SP (ba t (.inl rfl))with⟨k,bS,ct⟩|⟨k,bS,ct⟩|⟨k,bS⟩|⟨k,bS⟩
  .simp only[ny,k,beq_self_eq_true,cond_true]
  .obtain⟨j,bF⟩:∃j:Nat,t.Value=j:=⟨t.Value.toNat,by omega⟩
   have qm:j<a.length:=by omega
   simp only[ny,k,bF,dV a j qm,Int.toNat_natCast,List.getD_eq_getElem?_getD,List.getElem?_eq_getElem qm,getD_some,bind_some,beq_self_eq_true,cond_true,show((1:Int)==0)=false from rfl,cond_false]
  .obtain⟨y,z,rfl⟩:=abl (ad.trans bS);have aP:bh [y,z] 0=some y:=rfl;have aY:bh [y,z] 1=some z:=rfl;simp only[ny,ts,At,k,aP,aY,iJ y (by simp),iJ z (by simp),aur,bind_some,show((2:Int)==0)=false from rfl,show((2:Int)==1)=false from rfl,show((2:Int)==3)=false from rfl,cond_false];rfl
  .obtain⟨y,rfl⟩:=abk (ad.trans bS);have aP:bh [y] 0=some y:=rfl;simp only[ny,ts,At,k,aP,iJ y (by simp),ru,Li,bind_some,show((3:Int)==0)=false from rfl,show((3:Int)==1)=false from rfl,beq_self_eq_true,cond_true,cond_false];rfl
theorem auv (a:aye) (x:dr) (hw:tq x) (ba:∀t∈jD x,oY t a.length=true):Ck (jD x) a=some (ny a x):=by
 unfold Ck;rw[auq x hw];simp only[bind_some,abe];unfold PW;rw[fb (x:=some (ny a x)) (k8 x) λn aV=>auu a n x hw aV ba];rfl
theorem auw (a:aye) (e:ayu) (he:e.length<=1000000):∀(n:Nat) (x:dr) (i:Nat) (rest:ayu),tq x->k8 x<=n->(∀t∈jD x,oY t a.length=true)->e.drop i=jD x++rest->
  zd n e a (i:Int)=some (ny a x):=by
 intro n;induction n with
 |zero=>intro x _ _ _ h;have:=Dz x;omega
 |succ n ih=>
  rintro⟨t,xs⟩ i rest hw ab ba an;obtain⟨ad,af⟩:=hw;simp only[k8]at ab;simp only[jD,List.mem_cons,List.cons_append]at ba an;have eI:i<e.length:=by
   rcases Nat.lt_or_ge i e.length with h|h
   .exact h
   .rw[List.drop_of_length_le h]at an;cases an
  have hx:e.drop (i+1)=jZ xs++rest:=by
   rw[drop_cons e i eI]at an;injection an
  have hg:bh e (i:Int)=some t:=by
   rw[dV e i eI];rw[drop_cons e i eI]at an;injection an with h _;rw[h]
  simp only[zd,OW,hg,bind_some];rw[eo i _ eI (by omega)];rcases SP (ba t (.inl rfl))with⟨k,bS,ct⟩|⟨k,bS,ct⟩|⟨k,bS⟩|⟨k,bS⟩
  .simp only[ny,k,beq_self_eq_true,cond_true]
  .obtain⟨j,bF⟩:∃j:Nat,t.Value=j:=⟨t.Value.toNat,by omega⟩
   have qm:j<a.length:=by omega
   simp only[ny,k,bF,dV a j qm,Int.toNat_natCast,List.getD_eq_getElem?_getD,List.getElem?_eq_getElem qm,getD_some,bind_some,beq_self_eq_true,cond_true,show((1:Int)==0)=false from rfl,cond_false]
  .obtain⟨y,z,rfl⟩:=abl (ad.trans bS);simp only[jZ,List.append_nil,List.append_assoc,List.mem_append]at ba hx;simp only[mg]at ab;have eh:=ih y (i+1) (jD z++rest) af.1 (by omega) (λu hu=>ba u (.inr (.inl hu))) hx;have ax2:k8 y<=e.length:=by
    have:=congrArg List.length hx;simp only[List.length_drop,List.length_append,SK]at this;omega
   have bc:Js e ((i+1:Nat):Int)=some ((i+1+k8 y:Nat):Int):=by
    unfold Js;refine fb (k8 y+1) λm hm=>?_;exact aut e (by omega) (jD z++rest) (k8 y) [y] (i+1) ⟨af.1,trivial⟩ (by simp[mg]) (by omega) (by omega) (by simpa [jZ]using hx) m (by omega)
   have auy:e.drop (i+1+k8 y)=jD z++rest:=by
    rw[<-List.drop_drop,hx,<-SK,List.drop_left]
   have dm:=ih z (i+1+k8 y) rest af.2.1 (by omega) (λu hu=>ba u (.inr (.inr hu))) auy;simp only[ny,ts,At,k,eh,bc,dm,aus,bind_some,show((2:Int)==0)=false from rfl,show((2:Int)==1)=false from rfl,show((2:Int)==3)=false from rfl,cond_false];rfl
  .obtain⟨y,rfl⟩:=abk (ad.trans bS);simp only[jZ,List.append_nil,List.mem_append]at ba hx;simp only[mg]at ab;have eh:=ih y (i+1) rest af.1 (by omega) (λu hu=>ba u (.inr hu)) hx;simp only[ny,ts,At,k,eh,rj,Li,bind_some,show((3:Int)==0)=false from rfl,show((3:Int)==1)=false from rfl,beq_self_eq_true,cond_true,cond_false];rfl
theorem auz (a:aye) (x:dr) (hw:tq x) (hl:(jD x).length<=1000000) (ba:∀t∈jD x,oY t a.length=true):ze (jD x) a=some (ny a x):=by
 unfold ze OX;have gb:=fb (f:=λn=>zd n (jD x) a 0) (x:=some (ny a x)) (k8 x) λn aV=>auw a (jD x) hl n x 0 [] hw aV ba (by simp);rw[gb];rfl
def gl (x:Int):Prop:=0<=x/\x<=63
theorem DA (b:Bool):gl (wA b):=by cases b<;>exact⟨by decide,by decide⟩
theorem auA (op a b:Int) (br:gl a) (aa:gl b):gl (As op a b):=by
 unfold gl at br aa;unfold As;cases op==0
 .cases op==1
  .cases op==2
   .cases op==3<;>(try exact DA _)
    cases op==4<;>(try exact DA _)
    cases op==5<;>(try exact DA _)
    cases op==6<;>(try exact DA _)
    cases op==7<;>exact DA _
   .have ad:0<=a*b:=Int.mul_nonneg br.1 aa.1;have af:a*b<=63*63:=Int.mul_le_mul br.2 aa.2 aa.1 (by decide);show gl (Int.tmod (i64.wrap (a*b)) 64);rw[ew _ (by omega)];unfold gl;rw[Int.tmod_eq_emod_of_nonneg ad];omega
  .show gl (Int.tmod (i64.wrap ((i64.wrap (a-b))+64)) 64);rw[ew (a-b) (by omega),ew _ (by omega)];unfold gl;rw[Int.tmod_eq_emod_of_nonneg (by omega)];omega
 .show gl (Int.tmod (i64.wrap (a+b)) 64);rw[ew _ (by omega)];unfold gl;rw[Int.tmod_eq_emod_of_nonneg (by omega)];omega
theorem auB (a:aye) (br:∀x∈a,gl x):∀(n:Nat) (x:dr),k8 x<=n->(∀t∈jD x,oY t a.length=true)->gl (ny a x):=by
 intro n;induction n with
 |zero=>intro x h;have:=Dz x;omega
 |succ n ih=>
  rintro⟨t,xs⟩ ab ba;simp only[k8]at ab;simp only[jD,List.mem_cons]at ba;have iJ:∀i,gl ((ts a xs).getD i 0):=by
   have key:∀l:List dr,mg l<=n->(∀t∈jZ l,oY t a.length=true)->∀i,gl ((ts a l).getD i 0):=by
    intro l;induction l with
    |nil=>intro _ _ i;simp only[ts,List.getD_nil];exact⟨by decide,by decide⟩
    |cons y r SQ=>
     intro ad af i;simp only[mg]at ad;simp only[jZ,List.mem_append]at af;cases i with
     |zero=>simp only[ts,List.getD_cons_zero];exact ih y (by omega) λu hu=>af u (.inl hu)
     |succ i=>simp only[ts,List.getD_cons_succ];exact SQ (by omega) (λu hu=>af u (.inr hu)) i
   exact key xs (by omega) λu hu=>ba u (.inr hu)
  simp only[ny];rcases SP (ba t (.inl rfl))with⟨k,bS,ct⟩|⟨k,bS,ct⟩|⟨k,bS⟩|⟨k,bS⟩
  .simp only[k,beq_self_eq_true,cond_true];exact⟨bS,ct⟩
  .have qm:t.Value.toNat<a.length:=by omega
   simp only[k,show((1:Int)==0)=false from rfl,beq_self_eq_true,cond_true,cond_false,List.getD_eq_getElem?_getD,List.getElem?_eq_getElem qm,getD_some];exact br _ (List.getElem_mem qm)
  .simp only[k,show((2:Int)==0)=false from rfl,show((2:Int)==1)=false from rfl,show((2:Int)==3)=false from rfl,cond_false,At];exact auA _ _ _ (iJ 0) (iJ 1)
  .simp only[k,show((3:Int)==0)=false from rfl,show((3:Int)==1)=false from rfl,beq_self_eq_true,cond_true,cond_false,At];exact DA _
noncomputable def rZ (a:aye) (e:ayu):Int:=(ze e a).getD 0
theorem Lu {a:aye} {e:ayu} {most:Int} (hm:most<=1000) (h:pD e a.length most=true):ze e a=some (rZ a e)/\Ck e a=some (rZ a e)/\((∀x∈a,gl x)->gl (rZ a e)):=by
 obtain⟨x,hw,rfl⟩:=aun h;simp only[pD,Bool.and_eq_true,decide_eq_true_eq]at h;have ba:=abj _ _ _ h.2;have he:(jD x).length<=1000000:=by omega
 have aP:=auz a x hw he ba;have aY:rZ a (jD x)=ny a x:=by unfold rZ;rw[aP];rfl
 rw[aY];exact⟨aP,auv a x hw ba,λbr=>auB a br _ x (Nat.le_refl _) ba⟩
theorem wL {n:Int} {P:Prop} (h:some n=some (0:Int)) (aV:n≠0):P:=absurd (some.inj h) aV
theorem auC {d:bb} {a2:Int} {p:b1} {v:Bool} (h:sE d a2 p v=some 0):
  ∃aD,vy d a2=some aD/\((p.Kind==4)&&decide (6<=aD))=false/\bZ (λn=>xJ p n aD 0)=some 0:=by
 unfold sE at h;rcases dH h with⟨_,h⟩|⟨_,h⟩
 .exact wL h (by decide)
 obtain⟨aD,aU,h⟩:=al h;rcases dH h with⟨_,h⟩|⟨bf,h⟩
 .exact wL h (by decide)
 exact⟨aD,aU,bf,h⟩
theorem Lv {d:bb} {a2:Int} {p:b1} (h:vz d a2 p=some 0):∃v,sE d a2 p v=some 0:=by
 unfold vz at h;rcases dH h with⟨_,h⟩|⟨_,h⟩
 .rcases dH h with⟨_,h⟩|⟨_,h⟩
  .exact⟨_,h⟩
  .obtain⟨bp,_,h⟩:=al h;exact⟨_,h⟩
 .exact⟨_,h⟩
theorem Lw {e:ayw} {d:bb} {a2:Int} {p:b1} {v:Bool} (h:ub e d a2 p v=some 0):
  v=false/\(p.Kind=1->p.cd.length<=2/\((p.Name==([116,97,117]:ayc))=true->p.cd.length=0))/\(p.Kind=3->p.cd.length=1)/\
   (p.Kind=5->∃bs,bh e p.Number=some bs/\(p.cd.length:Int)=bs.dP)/\∃v,sE d a2 p v=some 0:=by
 unfold ub at h;rcases dH h with⟨_,h⟩|⟨aJ,h⟩
 .exact wL h (by decide)
 refine⟨aJ,?_⟩;rcases dH h with⟨k,h⟩|⟨k,h⟩
 .have k:=eq_of_beq k;rcases dH h with⟨_,h⟩|⟨g,h⟩
  .exact wL h (by decide)
  rw[Bool.or_eq_false_iff,Bool.and_eq_false_iff,decide_eq_false_iff_not,decide_eq_false_iff_not]at g;refine⟨λ_=>⟨by omega,λba=>?_⟩,λaG=>by omega,λbU=>by omega,Lv h⟩;rcases g.2 with g|g
  .omega
  .rw[ba]at g;cases g
 have bS:p.Kind≠1:=by simpa using k
 rcases dH h with⟨k,h⟩|⟨k,h⟩
 .have k:=eq_of_beq k;rcases dH h with⟨_,h⟩|⟨g,h⟩
  .exact wL h (by decide)
  have g:(p.cd.length:Int)=1:=by simpa using g
  exact⟨λad=>(bS ad).elim,λ_=>by omega,λbU=>by omega,Lv h⟩
 have dT:p.Kind≠3:=by simpa using k
 rcases dH h with⟨k,h⟩|⟨k,h⟩
 .obtain⟨bs,b9,h⟩:=al h;rcases dH h with⟨_,h⟩|⟨g,h⟩
  .exact wL h (by decide)
  have g:(p.cd.length:Int)=bs.dP:=by simpa using g
  exact⟨λad=>(bS ad).elim,λaG=>(dT aG).elim,λ_=>⟨bs,b9,g⟩,Lv h⟩
 .have eQ:p.Kind≠5:=by simpa using k
  exact⟨λad=>(bS ad).elim,λaG=>(dT aG).elim,λbU=>(eQ bU).elim,Lv h⟩
theorem auD {e:ayw} {d:bb} {a2:Int} (h:sF e d a2=some 0):
  ∃p,bh d.Body a2=some p/\(p.Kind=1->xI p.Name=some true/\p.cd.length<=2/\((p.Name==([116,97,117]:ayc))=true->p.cd.length=0))/\(p.Kind=3->p.cd.length=1)/\
   (p.Kind=4->1<=p.Number/\p.Number<=7)/\(p.Kind=5->∃bs,bh e p.Number=some bs/\(p.cd.length:Int)=bs.dP)/\∃v,sE d a2 p v=some 0:=by
 unfold sF at h;obtain⟨p,aP,h⟩:=al h;obtain⟨ae,_,h⟩:=al h;rcases dH h with⟨_,h⟩|⟨_,h⟩
 .exact wL h (by decide)
 have key:∀v,BA e d a2 p v=some 0->v=false/\(p.Kind=4->1<=p.Number/\p.Number<=7)/\ub e d a2 p false=some 0:=by
  intro v h;unfold BA at h;rcases dH h with⟨_,h⟩|⟨aJ,h⟩
  .exact wL h (by decide)
  refine⟨aJ,?_⟩;rcases dH h with⟨k,h⟩|⟨k,h⟩
  .have k:=eq_of_beq k;obtain⟨cv,fJ,h⟩:=al h;rcases dH h with⟨_,h⟩|⟨g,iN⟩
   .exact absurd (Lw h).1 (by simp)
   have g:cv=true:=by simpa using g
   rw[g]at fJ;unfold l_ at fJ;have fJ:=some.inj fJ;rw[Bool.and_eq_true,decide_eq_true_eq,decide_eq_true_eq]at fJ;refine⟨λ_=>fJ,?_⟩;rcases dH iN with⟨eQ,_⟩|⟨_,iN⟩
   .have:=eq_of_beq eQ;omega
   .exact iN
  .have ed:p.Kind≠4:=by simpa using k
   refine⟨λbf=>(ed bf).elim,?_⟩;rcases dH h with⟨k,h⟩|⟨k,h⟩
   .obtain⟨dI,_,h⟩:=al h;have g:=(Lw h).1
    rwa [g]at h
   .exact h
 rcases dH h with⟨k,h⟩|⟨k,h⟩
 .obtain⟨e6,kn,h⟩:=al h;obtain⟨ad,af,aG⟩:=key _ h;obtain⟨_,g1,g2,g3,g4⟩:=Lw aG;have ad:e6=true:=by simpa using ad
  subst ad;exact⟨p,aP,λau=>⟨kn,g1 au⟩,g2,af,g3,g4⟩
 .obtain⟨ad,af,aG⟩:=key _ h;obtain⟨_,g1,g2,g3,g4⟩:=Lw aG;have bS:p.Kind≠1:=by simpa using k
  exact⟨p,aP,λau=>(bS au).elim,g2,af,g3,g4⟩
theorem auE {e:ayw} {d:bb} {r:Int×Int} (hl:d.Body.length<=1000) (aQ:∀j,j<d.Body.length->∃v,sF e d (j:Int)=some v/\0<=v) (h:vB e d=some r) (a_:r.2=0):
  ∀j,j<d.Body.length->sF e d (j:Int)=some 0:=by
 unfold vB at h;obtain⟨R,_,h⟩:=al h;rcases dH h with⟨_,h⟩|⟨_,h⟩
 .have:=some.inj h;subst this;exact absurd a_ (by decide)
 obtain⟨n,h⟩:=cC h;have key:∀i,i<=d.Body.length->∀m,vA e d m (i:Int)=some r->∀j,i<=j->j<d.Body.length->sF e d (j:Int)=some 0:=by
  refine down d.Body.length ?_ ?_
  .intro m _ j ad af;omega
  .intro i aj ih m hm j ad af;cases m with
   |zero=>cases hm
   |succ m=>
    simp only[vA,FD]at hm;obtain⟨v,aJ,nC⟩:=aQ i aj;rw[ey aj,cond_true,aJ]at hm;simp only[bind_some]at hm;rcases dH hm with⟨g,hm⟩|⟨g,hm⟩
    .have:=some.inj hm;subst this;simp only[decide_eq_true_eq]at g;simp only at a_;omega
    .have g:v=0:=by simp at g;omega
     subst g;by_cases bF:j=i
     .subst bF;exact aJ
     .rw[eo i _ aj (by omega)]at hm;exact ih m hm j (by omega) af
 exact λj bF=>key 0 (by omega) n h j (by omega) bF
structure auF (e:ayw) (d:bb) (j:Nat) (p:b1) (ee:Int):Prop where
 small:An p
 abm:0<=ee/\ee<=29
 args:∀a∈p.cd,pD a ee 15=true
 act:p.Kind=1->hE p.Name=true/\p.cd.length<=2/\((p.Name==([116,97,117]:ayc))=true->p.cd.length=0)
 auG:p.Kind=3->p.cd.length=1
 sum:p.Kind=4->1<=p.Number/\p.Number<=7/\ee<=5
 call:p.Kind=5->∃bs,bh e p.Number=some bs/\(p.cd.length:Int)=bs.dP
theorem SR {e:ayw} (h:pE e) (aJ:lU e=true) {i:Nat} (aj:i<e.length) {j:Nat} (bF:j<e[i].Body.length):auF e e[i] j e[i].Body[j] (jC e[i] j).scope:=by
 obtain⟨ad,bf,an⟩:=Dy h aJ;obtain⟨ax,ab,aV,r,eh,bc⟩:=an i aj;obtain⟨s1,s2,pg⟩:=Ap ab;have SI:=h.2 _ (List.getElem_mem aj);have aQ:∀j,j<e[i].Body.length->∃v,sF e e[i] (j:Int)=some v/\0<=v:=λj bF=>by
  obtain⟨gU,gy,iE,i7,qX⟩:=Lr e[i] ab ax j bF;obtain⟨v,v1,_,v3⟩:=aaV e bf e[i] j bF pg (SI.2.2 _ (List.getElem_mem bF)) (jC e[i] j) gU ⟨gy,iE⟩ i7;exact⟨v,v1,v3⟩
 obtain⟨p,aP,f1,f2,f3,f4,v,f5⟩:=auD (auE (by omega) aQ eh bc j bF);rw[dV _ j bF]at aP;have aP:=some.inj aP;subst aP;obtain⟨aD,g1,g2,g3⟩:=auC f5;obtain⟨gU,gy,iE,i7,qX⟩:=Lr e[i] ab ax j bF;rw[gU]at g1;have g1:=some.inj g1;subst g1;have ES:=SI.2.2 _ (List.getElem_mem bF);rw[aaU _ ES _ ⟨gy,iE⟩]at g3;refine⟨ES,⟨gy,iE⟩,?_,λk=>?_,f2,λk=>⟨(f3 k).1,(f3 k).2,?_⟩,f4⟩
 .cases br:u1 e[i].Body[j] (jC e[i] j).scope
  .rw[br]at g3;exact wL g3 (by decide)
  .intro a hm;obtain⟨k,au,rfl⟩:=List.mem_iff_getElem.1 hm;have:=oX.1 br k au
   rwa [List.getD_eq_getElem?_getD,List.getElem?_eq_getElem au]at this
 .obtain⟨J,a2,a3⟩:=f1 k;rw[Dm]at J;exact⟨some.inj J,a2,a3⟩
 .rw[k]at g2;simp only[beq_self_eq_true,Bool.true_and,decide_eq_false_iff_not]at g2;omega
theorem abn:∀(j:Nat) (l:ayv) (st:ayC) (k:Nat),fm l st.length=some k->j<k->
  ∃s Lx,(gZ l st).drop j=gZ (l.drop j) (s::Lx)/\fm (l.drop j) (Lx.length+1)=some (k-j)
 |0,l,st,k,h,bF=>by
  cases st with
  |nil=>rw[List.length_nil,Al]at h;have:=some.inj h;omega
  |cons s Lx=>exact⟨s,Lx,rfl,h⟩
 |j+1,[],st,k,h,bF=>by have:=(u0 h).2;simp at this;omega
 |j+1,p::r,[],k,h,bF=>by rw[List.length_nil,Al]at h;have:=some.inj h;omega
 |j+1,p::r,s::st,k,h,bF=>by
  obtain⟨di,bC,rfl⟩:=rW.1 h;obtain⟨s2,auH,aP,aY⟩:=abn j r (List.replicate (eM p) (below p s)++st) di (by rw[List.length_append,List.length_replicate,Nat.add_comm];exact bC) (by omega);exact⟨s2,auH,by simp only[gZ,List.drop_succ_cons];exact aP,by simp only[List.drop_succ_cons];rw[aY];congr 1;omega⟩
theorem SS {α:Type} (l:List α) (i:Nat) (d:α):l.getD i d=(l.drop i).headD d:=by
 rw[List.getD_eq_getElem?_getD];cases h:l.drop i with
 |nil=>rw[List.drop_eq_nil_iff]at h;rw[List.getElem?_eq_none h];rfl
 |cons x r=>
  have:l[i]? =some x:=by
   have:=congrArg (λz=>z[0]?) h;simpa using this
  rw[this];rfl
theorem abo {l:ayv} (s:dM) (st:ayC) (d:dM) (h:l≠[]):(gZ l (s::st)).headD d=s:=by
 cases l with
 |nil=>exact(h rfl).elim
 |cons p r=>rfl
theorem auI (d:bb) (ab:fm d.Body 1=some d.Body.length) {j:Nat} (bF:j<d.Body.length):
  (1<=eM d.Body[j]->j+1<d.Body.length/\(jC d (j+1)).scope=(below d.Body[j] (jC d j)).scope)/\
  (eM d.Body[j]=2->∃n,fm (d.Body.drop (j+1)) 1=some n/\j+1+n<d.Body.length/\(jC d (j+1+n)).scope=(below d.Body[j] (jC d j)).scope):=by
 obtain⟨s,st,aP,aY⟩:=abn j d.Body [⟨d.dP,false⟩] d.Body.length ab bF;have an:=drop_cons d.Body j bF;rw[an]at aP aY;obtain⟨di,bC,au⟩:=rW.1 aY;have ax:jC d j=s:=by
  unfold jC;rw[SS,aP];rfl
 have aU:(gZ d.Body [⟨d.dP,false⟩]).drop (j+1)=gZ (d.Body.drop (j+1)) (List.replicate (eM d.Body[j]) (below d.Body[j] s)++st):=by
  rw[<-List.drop_drop,aP];rfl
 rw[ax];constructor
 .intro bD;have ad:=u0 bC;have hlen:j+1<d.Body.length:=by omega
  refine⟨hlen,?_⟩;obtain⟨f,auJ⟩:∃f,eM d.Body[j]=f+1:=⟨eM d.Body[j]-1,by omega⟩
  unfold jC;rw[SS,aU,auJ,List.replicate_succ,List.cons_append,abo _ _ _ (by intro h;rw[List.drop_eq_nil_iff]at h;omega)]
 .intro bD;rw[bD]at bC aU;obtain⟨n,bA,g1,g2,g3⟩:=Dq (l:=d.Body.drop (j+1)) (a:=1) (b:=st.length+1) (k:=di) (by rw[<-bC];congr 1;omega);have af:=u0 g2;have hlen:j+1+n<d.Body.length:=by omega
  refine⟨n,g1,hlen,?_⟩;unfold jC;rw[SS,<-List.drop_drop,aU,show List.replicate 2 (below d.Body[j] s)++st=[below d.Body[j] s]++(below d.Body[j] s::st)from rfl,SD (s1:=[below d.Body[j] s]) g1];have hl:=Am (l:=d.Body.drop (j+1)) (st:=[below d.Body[j] s]) g1;rw[<-hl,List.drop_left,hl,List.drop_drop,abo _ _ _ (by intro h;rw[List.drop_eq_nil_iff]at h;omega)]
noncomputable def nV (l:aym) (a:aye):aye:=l.map (rZ a)
def iL (n:ayc) (a:aye):ayc:=if a.length=0 then n else((n++[40])++iK a)++[41]
def fy (d:bb) (j:Nat):b1:=d.Body.getD j ⟨0,0,[],[]⟩
def SU (d:bb) (j:Nat):Nat:=j+(fm (d.Body.drop j) 1).getD 0
noncomputable def wM (d:bb) (i j:Nat) (a:aye):bk:=
 ⟨iL (fy d j).Name (nV (fy d j).cd a),if(fy d (j+1)).Kind=5 then⟨(fy d (j+1)).Number,0,nV (fy d (j+1)).cd a⟩else⟨(i:Int),((j+1:Nat):Int),a⟩⟩
noncomputable def jf (d:bb) (i:Nat):Nat->Nat->aye->ayB
 |0,_,_=>[]
 |n+1,j,a=>
  if(fy d j).Kind=1 then [wM d i j a]
  else if(fy d j).Kind=2 then jf d i n (j+1) a++jf d i n (SU d (j+1)) a
  else if(fy d j).Kind=3 then(if rZ a ((fy d j).cd.getD 0 [])≠0 then jf d i n (j+1) a else [])
  else if(fy d j).Kind=4 then(List.range' 0 ((fy d j).Number.toNat+1)).flatMap λ(v:Nat)=>jf d i n (j+1) (a++[((v:Nat):Int)])
  else []
def yj (a:aye):Bool:=fZ (λi=>rU (a.getD i 0) 0 63) a.length
theorem SV (a:aye) (h:a.length<=1048576):FE a=some (yj a):=by
 unfold FE;refine Hs (l:=λm i=>BC a m i) _ (λm=>?_) (λi aj m=>?_)
 .simp only[BC,OP];rw[eb (Nat.le_refl _)];rfl
 .simp only[BC,OP,l_];rw[ey aj,me _ i 0 aj,eo i _ aj (by omega)];simp only[cond_true,bind_some];show cond (!rU (a.getD i 0) 0 63) _ _=_;cases rU (a.getD i 0) 0 63<;>rfl
theorem SW (a:aye) (h:a.length<=1048576):Cf a=some (yj a):=by
 unfold Cf PF PE;rw[tf (n:=a.length) (λi=> !rU (a.getD i 0) 0 63)]
 .simp only[bind_some,wz,Bool.not_not];rfl
 .intro m;simp only[F4,PD];rw[eb (Nat.le_refl _)];rfl
 .intro i aj m;simp only[F4,PD];rw[ey aj,me _ i 0 aj,eo i _ aj (by omega)];simp only[cond_true,bind_some,PC,FW,k2];rfl
theorem abp {α:Type} {L:Nat->aye->Int->Option aye} (a:List α) (f:α->Int) (a_:∀m v,L (m+1) v (a.length:Int)=some v)
  (ab:∀i (h:i<a.length) m v,v.length=i->L (m+1) v (i:Int)=L m (v++[f a[i]]) ((i+1:Nat):Int)):bZ (λm=>L m [] 0)=some (a.map f):=by
 have key:∀i,i<=a.length->∀(v:aye) m,v.length=i->a.length-i<m->L m v (i:Int)=some (v++(a.drop i).map f):=by
  refine down a.length ?_ ?_
  .intro v m aJ hm;obtain⟨m,rfl⟩:∃j,m=j+1:=⟨m-1,by omega⟩
   rw[a_,List.drop_of_length_le (Nat.le_refl _),List.map_nil,List.append_nil]
  .intro i aj ih v m aJ hm;obtain⟨m,rfl⟩:∃j,m=j+1:=⟨m-1,by omega⟩
   rw[ab i aj m v aJ,ih (v++[f a[i]]) m (by simp[aJ]) (by omega),drop_cons a i aj,List.map_cons,List.append_assoc];rfl
 refine fb (a.length+1) λm hm=>?_;have:=key 0 (by omega) [] m rfl (by omega)
 rwa [List.drop_zero,List.nil_append]at this
theorem Ly (l:aym) (hl:l.length<=1048576) (a:aye) (h:∀e∈l,pD e a.length 15=true):
  FG l a=some (nV l a)/\Ga l a=some (nV l a):=by
 constructor
 .unfold FG nV;refine abp (L:=BJ l a) l (rZ a) (λm v=>?_) λi aj m v aJ=>?_
  .simp only[BJ,OY];rw[eb (Nat.le_refl _)];rfl
  .simp only[BJ,OY];rw[ey aj,dV _ i aj,eo i _ aj (by omega)];simp only[cond_true,bind_some,(Lu (by omega) (h _ (List.getElem_mem aj))).1];rw[lR (by omega) (by omega)];rfl
 .unfold Ga nV;refine abp (L:=Cl l a) l (rZ a) (λm v=>?_) λi aj m v aJ=>?_
  .simp only[Cl,PX];rw[eb (Nat.le_refl _)];rfl
  .simp only[Cl,PX];rw[ey aj,dV _ i aj,eo i _ aj (by omega)];simp only[cond_true,bind_some,(Lu (by omega) (h _ (List.getElem_mem aj))).2.1];rw[lR (by omega) (by omega)];rfl
theorem HD {l:aym} {a:aye} (br:∀x∈a,gl x) (h:∀e∈l,pD e a.length 15=true):∀x∈nV l a,gl x:=by
 intro x ao;unfold nV at ao;obtain⟨e,he,rfl⟩:=List.mem_map.1 ao;exact(Lu (by omega) (h e he)).2.2 br
theorem mh {n:Nat} (h:n<=1099511627776):iz n=some ():=by unfold iz;rw[if_pos (by omega)]
theorem Lz (a:aye):((a.length:Int)==0)=decide (a.length=0):=by
 by_cases h:a.length=0
 .rw[h];rfl
 .rw[decide_eq_false h];simp;exact λaf=>h (by rw[af];rfl)
theorem abq (n:ayc) (a:aye) (aV:n.length<=10) (hl:a.length<=64) (aJ:∀x∈a,gl x):FI n a=some (iL n a):=by
 unfold FI iL;rw[Lz];by_cases h:a.length=0
 .rw[decide_eq_true h,if_pos h];rfl
 .have ad:=wK a;rw[decide_eq_false h,if_neg h,cond_false,mh (by omega),auj a hl aJ];simp only[bind_some];rw[mh (by simp only[List.length_append,List.length_cons,List.length_nil];omega),mh (by simp only[List.length_append,List.length_cons,List.length_nil];omega)];rfl
theorem auK (a:aye) (hl:a.length<=64) (aJ:∀x∈a,gl x) (h:a.length≠0):zx a [44]=some (iK a):=by
 have:=SJ a hl aJ;unfold Gc at this;rw[abd a hl aJ,Lz,decide_eq_false h]at this;simp only[bind_some,Bool.not_true,cond_false]at this;cases bF:zx a [44]with
 |none=>rw[bF]at this;cases this
 |some x=>rw[bF]at this;exact this
theorem HE (n:ayc) (a:aye) (aV:hE n=true) (hl:a.length<=2) (ba:(n==([116,97,117]:ayc))=true->a.length=0) (aJ:∀x∈a,gl x):
  zy n a=some (iL n a,true):=by
 have yk:n.length<=10:=by simp only[hE,Bool.and_eq_true,decide_eq_true_eq]at aV;exact aV.1
 unfold zy;cases au:n==([116,97,117]:ayc)
 .have an:yj a=true:=by
   simp only[yj,oX];intro k au;have:=aJ _ (List.getElem_mem au);simp only[rU,Bool.and_eq_true,decide_eq_true_eq,List.getD_eq_getElem?_getD,List.getElem?_eq_getElem au,getD_some];exact this
  rw[cond_false,SG n (by omega),aV,au];simp only[bind_some,Bool.not_false,Bool.and_self,Bool.not_true,cond_false];rw[show decide (2<(a.length:Int))=false from decide_eq_false (by omega),cond_false,SW a (by omega),an];simp only[bind_some,Bool.not_true,cond_false];rw[Lz];unfold iL;by_cases h:a.length=0
  .rw[decide_eq_true h,if_pos h];rfl
  .have ad:=wK a;rw[decide_eq_false h,if_neg h,cond_false,mh (by omega),auK a (by omega) aJ h];simp only[bind_some];rw[mh (by simp only[List.length_append,List.length_cons,List.length_nil];omega),mh (by simp only[List.length_append,List.length_cons,List.length_nil];omega)];rfl
 .rw[cond_true];unfold iL;rw[if_pos (ba au),eq_of_beq au,Lz,decide_eq_true (ba au)]
theorem auL (n:ayc) (a:aye) (aV:hE n=true) (hl:a.length<=2) (ba:(n==([116,97,117]:ayc))=true->a.length=0) (aJ:∀x∈a,gl x):
  ∃b,zy n a=some (iL n a,b):=⟨_,HE n a aV hl ba aJ⟩
theorem LA (a:aye) (h:a.length<=1048576):Co a=some a:=by
 unfold Co;rw[lR (by omega) (by omega)];cases a with
 |nil=>simp[both]
 |cons x r=>rfl
theorem SX (a:aye) (h:a.length<=1048576):BG a=some a:=by
 unfold BG;rw[lR (by omega) (by omega)];rfl
structure fG (s:bk):Prop where
 yl:s.Label.length<=400/\(32:UInt8)∉s.Label
 wN:∃i:Nat,i<100/\s.Next.cp=(i:Int)
 wO:∃j:Nat,j<100/\s.Next.Part=(j:Int)
 kg:s.Next.bH.length<=64/\∀x∈s.Next.bH,gl x
 shape:∃n a,hE n=true/\a.length<=2/\((n==([116,97,117]:ayc))=true->a.length=0)/\(∀x∈a,gl x)/\s.Label=iL n a
theorem wP (n:Nat) (aV:n<100):∀c∈jg n,48<=c.toNat/\c.toNat<=57:=by
 intro c ar;unfold jg at ar;have key:∀d,d<10->48<=(UInt8.ofNat (48+d)).toNat/\(UInt8.ofNat (48+d)).toNat<=57:=by
  intro d an;rw[UInt8.toNat_ofNat',mod_eq_of_lt (by omega)];omega
 split at ar
 .rw[List.mem_singleton]at ar;subst ar;exact key n (by omega)
 .rw[List.mem_cons,List.mem_singleton]at ar;rcases ar with rfl|rfl
  .exact key _ (by omega)
  .exact key _ (by omega)
theorem abr (p:UInt8->Prop) (abt:p 44):∀l:ayb,(∀x∈l,∀c∈x,p c)->∀c∈jE l [44],p c
 |[],_,c,ar=>by simp[jE,List.intercalate,List.intersperse]at ar
 |[x],h,c,ar=>by rw[join_one]at ar;exact h x (by simp) c ar
 |x::y::r,h,c,ar=>by
  rw[join_cons,List.mem_append,List.mem_append,List.mem_singleton]at ar;rcases ar with ar|rfl|ar
  .exact h x (by simp) c ar
  .exact abt
  .exact abr p abt (y::r) (λz b8=>h z (List.mem_cons_of_mem _ b8)) c ar
theorem abu (a:aye) (aJ:∀x∈a,gl x):∀c∈iK a,44<=c.toNat/\c.toNat<=57:=by
 intro c ar;unfold iK at ar;split at ar
 .rw[List.mem_singleton]at ar;subst ar;decide
 .refine abr (λc=>44<=c.toNat/\c.toNat<=57) (by decide) _ (λx ao d an=>?_) c ar;obtain⟨y,hy,rfl⟩:=List.mem_map.1 ao;have ad:=aJ y hy;unfold gl at ad;have:=wP y.toNat (by omega) d an;omega
theorem SY {n:ayc} (h:hE n=true):∀c∈n,48<=c.toNat:=by
 intro c ar;simp only[hE,Bool.and_eq_true]at h;have af:=h.2;cases n with
 |nil=>cases af
 |cons x r=>
  simp only[Bool.and_eq_true,List.all_eq_true,small,digit,Bool.or_eq_true,decide_eq_true_eq]at af;rcases List.mem_cons.1 ar with rfl|ar
  .omega
  .have:=af.2 c ar;omega
theorem SZ {n:ayc} {a:aye} (aV:hE n=true) (hl:a.length<=64) (aJ:∀x∈a,gl x):(iL n a).length<=400/\(32:UInt8)∉iL n a:=by
 have yk:n.length<=10:=by simp only[hE,Bool.and_eq_true,decide_eq_true_eq]at aV;exact aV.1
 have ad:=wK a;unfold iL;split
 .refine⟨by omega,λhm=>?_⟩;have:=SY aV _ hm;revert this;decide
 .refine⟨by simp only[List.length_append,List.length_cons,List.length_nil];omega,λhm=>?_⟩;rw[List.mem_append,List.mem_append,List.mem_append,List.mem_singleton,List.mem_singleton]at hm;rcases hm with((hm|hm)|hm)|hm
  .have:=SY aV _ hm;revert this;decide
  .revert hm;decide
  .have:=(abu a aJ _ hm).1;revert this;decide
  .revert hm;decide
end Go.kX
