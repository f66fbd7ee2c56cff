/- Part of a proof that a law returns true for every input. No condition. -/
import Derived.Test.YtcmimclaknmnbaaGreatDoorUV0x
import Derived.Test.YtcmimclaknmnbaaGreatDoorUV4x
import Derived.Test.YtcmimclaknmnbaaGreatDoorUV1x
import Derived.Test.YtcmimclaknmnbaaGreatDoorUV2x
namespace Go.lT
open Go.IntKind Nat Or
open Go Go.cC
def ht (o:List anT) (x:anT):List anT:=if x∈o then o else o++[x]
theorem alB {o:List anT} {x y:anT}:y∈ht o x↔y∈o\/y=x:=by
 unfold ht;by_cases h:x∈o
 .rw[if_pos h];exact⟨.inl,λab=>ab.elim id (λe=>e▸h)⟩
 .rw[if_neg h,List.mem_append,List.mem_singleton]
theorem Gl:∀(l o:List anT) (y:anT),y∈l.foldl ht o↔y∈o\/y∈l
 |[],o,y=>by simp
 |x::l,o,y=>by rw[List.foldl_cons,Gl l,alB,List.mem_cons,or_assoc]
theorem alC {o:List anT} (h:o.Nodup) (x:anT):(ht o x).Nodup:=by
 unfold ht;by_cases ag:x∈o
 .rw[if_pos ag];exact h
 .rw[if_neg ag,List.nodup_append];exact⟨h,by simp,λa bg b R e=>ag (by rw[List.mem_singleton]at R;rw[<-R,<-e];exact bg)⟩
theorem VH:∀(l o:List anT),o.Nodup->(l.foldl ht o).Nodup
 |[],_,h=>h
 |x::l,o,h=>by rw[List.foldl_cons];exact VH l _ (alC h x)
theorem MG:∀(l o:List anT),o.length<=(l.foldl ht o).length
 |[],_=>Nat.le_refl _
 |x::l,o=>by
  rw[List.foldl_cons];refine Nat.le_trans ?_ (MG l _);unfold ht;split
  .exact Nat.le_refl _
  .simp
theorem alD {a b c:anT} (h1:c_ a b<=0) (ab:c_ b c<0):c_ a c<0:=by
 have ay:=w4 h1 (Int.le_of_lt ab);have aT:c_ a c≠0:=λe=>by
  have e:=uM.1 e;subst e;have:=qb a b;omega
 omega
theorem alE {a b:anT} (h:c_ a b<=0) (cI:b≠a):c_ a b<0:=by
 have:c_ a b≠0:=λe=>cI (uM.1 e).symm;omega
theorem MH:∀(l:List anT) (p y:anT),(y=p\/y∈qQ (λx y=>x==y) p l)↔(y=p\/y∈l)
 |[],p,y=>by simp[qQ]
 |x::l,p,y=>by
  simp only[qQ];by_cases h:x=p
  .rw[if_pos (by simpa using h)];have:=MH l x y;rw[h]at this⊢;rw[this,List.mem_cons,<-or_assoc,or_self]
  .rw[if_neg (by simpa using h)];have:=MH l x y;rw[List.mem_cons,List.mem_cons,this]
theorem alF (l:List anT) (y:anT):y∈uG (λx y=>x==y) l↔y∈l:=by
 cases l with
 |nil=>rfl
 |cons x l=>simp only[uG,List.mem_cons];exact MH l x y
theorem VI:∀(l:List anT) (p:anT),(p::l).Pairwise (λa b=>c_ a b<=0)->(p::qQ (λx y=>x==y) p l).Pairwise (λa b=>c_ a b<0)
 |[],p,_=>by simp[qQ]
 |x::l,p,h=>by
  obtain⟨h1,ab⟩:=List.pairwise_cons.1 h;have ih:=VI l x ab;simp only[qQ];by_cases e:x=p
  .rw[if_pos (by simpa using e)];subst e;exact ih
  .rw[if_neg (by simpa using e)];have cb:=alE (h1 x (by simp)) e;refine List.pairwise_cons.2 ⟨λy hy=>?_,ih⟩;rcases List.mem_cons.1 hy with rfl|hy
   .exact cb
   .exact alD (Int.le_of_lt cb) ((List.pairwise_cons.1 ih).1 y hy)
theorem alG {l:List anT} (h:l.Pairwise (λa b=>c_ a b<=0)):(uG (λx y=>x==y) l).Pairwise (λa b=>c_ a b<0):=by
 cases l with
 |nil=>simp[uG]
 |cons x l=>exact VI l x h
theorem alH {l:List anT} (h:l.Pairwise (λa b=>c_ a b<0)):l.Nodup:=
 h.imp λ{a b} h e=>by
  have:=uM.2 e;omega
theorem alI (l:List anT):(l.mergeSort λx y=>decide (c_ x y<=0)).Pairwise (λa b=>c_ a b<=0):=by
 refine(List.pairwise_mergeSort (le:=λx y=>decide (c_ x y<=0)) (λa b c h1 ab=>?_) (λa b=>?_) l).imp λ{a b} h=>by simpa using h
 .simp only[decide_eq_true_eq]at h1 ab⊢;exact w4 h1 ab
 .have:=qb a b;simp only[Bool.or_eq_true,decide_eq_true_eq];omega
def rb (c:List anT):List anT:=uG (λx y=>x==y) (c.mergeSort λx y=>decide (c_ x y<=0))
theorem alJ (c:List anT) (y:anT):y∈rb c↔y∈c:=by
 unfold rb;rw[alF];exact(List.mergeSort_perm c _).mem_iff
theorem alK (c:List anT):(rb c).Pairwise (λa b=>c_ a b<0):=alG (alI c)
def pC (x:anT) (out:List anT):Nat->Nat
 |0=>0
 |n+1=>if c_ x (out.getD n [])<0 then pC x out n else n+1
theorem VJ (x:anT) (out:List anT):∀n,pC x out n<=n
 |0=>Nat.le_refl _
 |n+1=>by
  simp only[pC];split
  .exact le_succ_of_le (VJ x out n)
  .exact Nat.le_refl _
theorem VK (x:anT) (out:List anT):∀n p,pC x out n=p+1->¬c_ x (out.getD p [])<0
 |0,p,h=>by cases h
 |n+1,p,h=>by
  simp only[pC]at h;by_cases ai:c_ x (out.getD n [])<0
  .rw[if_pos ai]at h;exact VK x out n p h
  .rw[if_neg ai]at h;rw[show p=n by omega];exact ai
theorem VL (x:anT) (out:List anT):∀n j,pC x out n<=j->j<n->c_ x (out.getD j [])<0
 |0,j,_,h=>by omega
 |n+1,j,h1,ab=>by
  simp only[pC]at h1;by_cases ai:c_ x (out.getD n [])<0
  .rw[if_pos ai]at h1;by_cases e:j=n
   .rw[e];exact ai
   .exact VL x out n j h1 (by omega)
  .rw[if_neg ai]at h1;omega
def pD (x:anT) (out:List anT):List anT:=out.take (pC x out out.length)++x::out.drop (pC x out out.length)
theorem alL {x:anT} {out:List anT} (h:out.Pairwise (λa b=>c_ a b<=0)):(pD x out).Pairwise (λa b=>c_ a b<=0):=by
 unfold pD;have hle:=VJ x out out.length;have lb:=VK x out out.length;have nz:=VL x out out.length;generalize pC x out out.length=p at hle lb nz;have U:=h;rw[<-List.take_append_drop p out,List.pairwise_append]at U;obtain⟨h1,ab,ay⟩:=U;have ag:∀b∈out.drop p,c_ x b<=0:=λb R=>by
  obtain⟨j,bo,rfl⟩:=List.mem_iff_getElem.1 R;rw[List.length_drop]at bo;have:=nz (p+j) (by omega) (by omega);rw[List.getD_eq_getElem?_getD,List.getElem?_eq_getElem (by omega),Option.getD_some]at this;rw[List.getElem_drop];omega
 refine List.pairwise_append.2 ⟨h1,List.pairwise_cons.2 ⟨ag,ab⟩,λa bg b R=>?_⟩;rcases List.mem_cons.1 R with rfl|R
 .cases p with
  |zero=>simp at bg
  |succ q=>
   have ca:q<out.length:=by omega
   have hl:=lb q rfl;rw[List.getD_eq_getElem?_getD,List.getElem?_eq_getElem ca,Option.getD_some]at hl;have aN:=qb b out[q];have VM:c_ out[q] b<=0:=by omega
   rw[List.take_succ_eq_append_getElem ca]at bg h1;rcases List.mem_append.1 bg with bg|bg
   .exact w4 ((List.pairwise_append.1 h1).2.2 a bg out[q] (by simp)) VM
   .rw[List.mem_singleton]at bg;rw[bg];exact VM
 .exact ay a bg b R
theorem VN (x:anT) (out:List anT):(pD x out).Perm (x::out):=by
 unfold pD;refine List.perm_middle.trans ?_;rw[List.take_append_drop]
theorem VO:∀(l o:List anT),o.Pairwise (λa b=>c_ a b<=0)->(l.foldl (λo x=>pD x o) o).Pairwise (λa b=>c_ a b<=0)/\(l.foldl (λo x=>pD x o) o).Perm (l++o)
 |[],o,h=>⟨h,List.Perm.refl _⟩
 |x::l,o,h=>by
  obtain⟨h1,ab⟩:=VO l (pD x o) (alL h);refine⟨h1,ab.trans ?_⟩;refine((VN x o).append_left l).trans ?_;exact List.perm_middle
structure u5 (S T:List anT):Prop where
 alM:S.Nodup
 st:T.Pairwise (λa b=>c_ a b<0)
 mem:∀y,y∈S↔y∈T
theorem u5.perm {S T:List anT} (h:u5 S T):S.Perm T:=(List.perm_ext_iff_of_nodup h.alM (alH h.st)).2 h.mem
theorem u5.alN {S T:List anT} (h:u5 S T):S.foldl (λo x=>pD x o) []=T:=by
 obtain⟨h1,ab⟩:=VO S [] List.Pairwise.nil;rw[List.append_nil]at ab;exact List.Perm.eq_of_pairwise (le:=λa b=>c_ a b<=0) (λa b _ _ h1 ab=>uM.1 (by have:=qb a b;omega)) h1 (h.st.imp λ{a b} h=>Int.le_of_lt h) (ab.trans h.perm)
theorem u5.next {c d:List anT} (h:∀y,y∈c↔y∈d):u5 (c.foldl ht []) (rb d):=
 ⟨VH c [] List.nodup_nil,alK d,λy=>by rw[Gl,alJ,<-h y];simp⟩
theorem alO (a b:anT) (h:a.length<=1048576):EB a b=some (c_ a b):=by
 unfold EB;have key:∀i,i<=a.length->i<=b.length->∀m,a.length-i<m->yB a b m (i:Int)=some (c_ (a.drop i) (b.drop i)):=by
  refine down a.length ?_ ?_
  .intro R m hm;obtain⟨m,rfl⟩:∃j,m=j+1:=⟨m-1,by omega⟩
   simp only[yB,Jy];rw[eT (Nat.le_refl _),Bool.false_and,cond_false,List.drop_of_length_le (Nat.le_refl _)];by_cases ay:a.length<b.length
   .rw[show decide ((a.length:Int)<(b.length:Int))=true from decide_eq_true (by omega),cond_true,drop_cons b _ ay];rfl
   .rw[show decide ((a.length:Int)<(b.length:Int))=false from decide_eq_false (by omega),cond_false,show decide ((b.length:Int)<(a.length:Int))=false from decide_eq_false (by omega),cond_false,show b.drop a.length=[]from List.drop_of_length_le (by omega)];rfl
  .intro i ak ih R m hm;obtain⟨m,rfl⟩:∃j,m=j+1:=⟨m-1,by omega⟩
   simp only[yB,Jy];by_cases ay:i<b.length
   .rw[fq ak,fq ay,Bool.and_self,cond_true,eu _ i ak,eu _ i ay,fV i _ ak (by omega),Option.bind_some,Option.bind_some,ih (by omega) m (by omega),drop_cons a i ak,drop_cons b i ay,c_];by_cases h1:a[i]<b[i]
    .rw[if_pos h1,decide_eq_true h1,cond_true]
    .rw[if_neg h1,decide_eq_false h1,cond_false];by_cases ab:b[i]<a[i]
     .rw[if_pos ab,decide_eq_true ab,cond_true]
     .rw[if_neg ab,decide_eq_false ab,cond_false]
   .rw[fq ak,eT (by omega),Bool.and_false,cond_false,show decide ((a.length:Int)<(b.length:Int))=false from decide_eq_false (by omega),cond_false,show decide ((b.length:Int)<(a.length:Int))=true from decide_eq_true (by omega),cond_true,drop_cons a i ak,show b.drop i=[]from List.drop_of_length_le (by omega)];rfl
 refine eU (a.length+1) λm hm=>?_;have:=key 0 (by omega) (by omega) m (by omega)
 rwa [List.drop_zero,List.drop_zero]at this
theorem alP (o:List anT) (x:anT) (h:o.length<=1048576) (hg:∀y∈o,y.length<=1048576):∃k,EA o x=some k/\decide (0<=k)=decide (x∈o):=by
 unfold EA;have key:∀i,i<=o.length->∃k,decide (0<=k)=decide (x∈o.drop i)/\∀m,o.length-i<m->wx o x m (i:Int)=some k:=by
  refine down o.length ?_ ?_
  .refine⟨-1,by rw[List.drop_of_length_le (Nat.le_refl _)];rfl,λm hm=>?_⟩;obtain⟨m,rfl⟩:∃j,m=j+1:=⟨m-1,by omega⟩
   simp only[wx,Ez];rw[eT (Nat.le_refl _),cond_false]
  .intro i ak ih;obtain⟨k,hk,hm⟩:=ih;by_cases e:o[i]=x
   .refine⟨(i:Int),?_,λm hm=>?_⟩
    .rw[drop_cons o i ak,e,decide_eq_true (show x∈x::o.drop (i+1) by simp),decide_eq_true (by omega)]
    .obtain⟨m,rfl⟩:∃j,m=j+1:=⟨m-1,by omega⟩
     simp only[wx,Ez];rw[fq ak,cond_true,eu _ i ak,Option.bind_some,Mu _ _ (hg _ (List.getElem_mem ak)),Option.bind_some,show(o[i]==x)=true by simpa using e,cond_true]
   .refine⟨k,?_,λm U3=>?_⟩
    .rw[hk,drop_cons o i ak];have:(x∈o[i]::o.drop (i+1))↔x∈o.drop (i+1):=by
      rw[List.mem_cons];exact⟨λh=>h.elim (λh=>(e h.symm).elim) id,.inr⟩
     rw[decide_eq_decide.2 this]
    .obtain⟨m,rfl⟩:∃j,m=j+1:=⟨m-1,by omega⟩
     simp only[wx,Ez];rw[fq ak,cond_true,eu _ i ak,Option.bind_some,Mu _ _ (hg _ (List.getElem_mem ak)),Option.bind_some,show(o[i]==x)=false by simpa using e,cond_false,fV i _ ak (by omega)];exact hm m (by omega)
 obtain⟨k,hk,hm⟩:=key 0 (zero_le _);rw[List.drop_zero]at hk;exact⟨k,eU (o.length+1) λm ab=>hm m (by omega),hk⟩
structure sn (P:Nat) (s:anT):Prop where
 len:s.length=P
 oc:∀y∈s,gQ y
noncomputable def kD (l:dw) (s:anT):aog:=(wv l s).getD []
def jP (L:anR) (ms:aog):List anT:=(ms.filter λm=>m.Label==L).map λm=>m.Next
noncomputable def gy (l:dw) (L:anR) (S:List anT):List anT:=S.flatMap λs=>jP L (kD l s)
theorem VP (L:anR) (m:bB) (ms:aog):jP L (m::ms)=cond (m.Label==L) (m.Next::jP L ms) (jP L ms):=by
 unfold jP;cases h:m.Label==L
 .rw[List.filter_cons_of_neg (by simpa using h),cond_false]
 .rw[List.filter_cons_of_pos (by simpa using h),List.map_cons,cond_true]
theorem VQ (L:anR) (ms:aog):(jP L ms).length<=ms.length:=by
 unfold jP;rw[List.length_map];exact List.length_filter_le _ _
section
variable {l:dw} {P:Nat} (hl:l.cG.length<=60) (a1:∀x∈l.cG,od x P) (a_:P<=21)
include hl a1 a_
theorem MI {s:anT} (h:sn P s):yX l s=some (kD l s)/\wv l s=some (kD l s)/\(kD l s).length<=245760/\∀y∈kD l s,jO P y:=by
 obtain⟨o,h1,ab,ay,aT⟩:=alA h.len h.oc a_ l hl a1;have:kD l s=o:=by unfold kD;rw[ab];rfl
 rw[this];exact⟨h1,ab,ay,aT⟩
theorem MJ {L:anR}:∀{S:List anT},(∀s∈S,sn P s)->(gy l L S).length<=S.length*245760/\∀y∈gy l L S,sn P y
 |[],_=>⟨by simp[gy],λy hy=>by simp[gy]at hy⟩
 |s::S,h=>by
  obtain⟨h1,ab⟩:=MJ (L:=L) (S:=S) λt aL=>h t (by simp[aL]);obtain⟨_,_,g3,g4⟩:=MI hl a1 a_ (h s (by simp));have g5:=VQ L (kD l s);have e:gy l L (s::S)=jP L (kD l s)++gy l L S:=by unfold gy;rw[List.flatMap_cons]
  rw[e,List.length_append,List.length_cons];refine⟨by omega,λy hy=>?_⟩;rcases List.mem_append.1 hy with hy|hy
  .unfold jP at hy;obtain⟨m,hm,rfl⟩:=List.mem_map.1 hy;have:=g4 m (List.mem_filter.1 hm).1;exact⟨this.len,this.oc⟩
  .exact ab y hy
end
structure oQ (ms:aog) (row:List (Bool×bB)) (j:Nat):Prop where
 len:row.length=ms.length
 at_:∀i (h:i<ms.length),j<=i->row[i]? =some (false,ms[i])
theorem oQ.start (ms:aog):oQ ms (ms.map λx=>(false,x)) 0:=
 ⟨by simp,λi h _=>by simp[h]⟩
theorem oQ.skip {ms:aog} {row:List (Bool×bB)} {j:Nat} (h:oQ ms row j):oQ ms row (j+1):=⟨h.len,λi ak bo=>h.at_ i ak (by omega)⟩
theorem oQ.set {ms:aog} {row:List (Bool×bB)} {j:Nat} (h:oQ ms row j) (y:Bool×bB):oQ ms (row.set j y) (j+1):=
 ⟨by rw[List.length_set];exact h.len,λi ak bo=>by rw[List.getElem?_set_ne (by omega)];exact h.at_ i ak (by omega)⟩
theorem oQ.get {ms:aog} {row:List (Bool×bB)} {j:Nat} (h:oQ ms row j) (bo:j<ms.length):bI row (j:Int)=some (false,ms[j]):=by
 have h1:=h.at_ j bo (Nat.le_refl _);obtain⟨ab,ay⟩:=List.getElem?_eq_some_iff.1 h1;rw[eu row j ab,ay]
theorem alQ (cM:(List anT)->Int->Option (List anT)) (l:dw) (S:List anT) (L:anR) (ms:aog) (alR:ms.length<=1048576) (i:Nat) (ak:i<=1048576):
  ∀j,j<=ms.length->∀(o:List anT) row f,oQ ms row j->o.length+(ms.length-j)<=100000000->ms.length-j<f->
   wQ cM l S L ms f o (i:Int) row (j:Int)=cM (o++jP L (ms.drop j)) ((i+1:Nat):Int):=by
 have hw:i64.wrap ((i:Int)+1)=((i+1:Nat):Int):=by rw[dQ _ (by omega)];omega
 refine down ms.length ?_ ?_
 .intro o row f ax iU bc;obtain⟨f,rfl⟩:∃j,f=j+1:=⟨f-1,by omega⟩
  simp only[wQ,Ke];rw[eT (Nat.le_refl _),cond_false,List.drop_of_length_le (Nat.le_refl _),hw];simp[jP]
 .intro j bo ih o row f ax iU bc;obtain⟨f,rfl⟩:∃j,f=j+1:=⟨f-1,by omega⟩
  simp only[wQ,Ke,Fb];rw[fq bo,cond_true,ax.get bo,Option.bind_some,fV j _ bo (by omega),drop_cons ms j bo,VP];rw[show xj (!(false,ms[j]).1)=some ()from rfl,Option.bind_some,Int.toNat_natCast];cases ms[j].Label==L
  .rw[cond_false,cond_false];exact ih o _ f (ax.set _) (by omega) (by omega)
  .rw[cond_true,cond_true,lC (by omega) (by omega),Option.bind_some,ih (o++[ms[j].Next]) _ f (ax.set _) (by simp only[List.length_append,List.length_cons,List.length_nil];omega) (by omega),List.append_assoc];rfl
section
variable {l:dw} {P:Nat} (hl:l.cG.length<=60) (a1:∀x∈l.cG,od x P) (a_:P<=21)
include hl a1 a_
theorem alS (S:List anT) (L:anR) (bE:S.length<=40) (nj:∀s∈S,sn P s):Fe l S L=some (rb (gy l L S)):=by
 obtain⟨nM,fZ⟩:=MJ hl a1 a_ (L:=L) nj;have xx:(yY (gy l L S)).bind (λbu=>(yZ bu).bind λbw=>some bw)=some (rb (gy l L S)):=by
  have hg:∀y∈gy l L S,pr y=true:=λy hy=>by
   have:=(fZ y hy).len;simp only[pr,decide_eq_true_eq];omega
  unfold yY;rw[if_pos ⟨by omega,List.all_eq_true.2 hg⟩,Option.bind_some];have al:=List.mergeSort_perm (gy l L S) λx y=>decide (c_ x y<=0);unfold yZ;rw[if_pos ⟨by rw[al.length_eq];omega,List.all_eq_true.2 λy hy=>hg y (al.mem_iff.1 hy)⟩];rfl
 unfold Fe;have key:∀i,i<=S.length->∀(o:List anT) f,o.length+(gy l L (S.drop i)).length<=10000000->o++gy l L (S.drop i)=gy l L S->S.length-i<f->
   qT l S L f o (i:Int)=some (rb (gy l L S)):=by
  refine down S.length ?_ ?_
  .intro o f iU he bc;obtain⟨f,rfl⟩:∃j,f=j+1:=⟨f-1,by omega⟩
   simp only[qT,Kf];rw[List.drop_of_length_le (Nat.le_refl _),show gy l L []=[]from rfl,List.append_nil]at he;rw[eT (Nat.le_refl _),cond_false,he];exact xx
  .intro i ak ih o f iU he bc;obtain⟨f,rfl⟩:∃j,f=j+1:=⟨f-1,by omega⟩
   have U:=nj _ (List.getElem_mem ak);obtain⟨m1,m2,m3,m4⟩:=MI hl a1 a_ U;have kT:=VQ L (kD l S[i]);have ec:gy l L (S.drop i)=jP L (kD l S[i])++gy l L (S.drop (i+1)):=by
    rw[drop_cons S i ak];unfold gy;rw[List.flatMap_cons]
   rw[ec]at iU he;rw[List.length_append]at iU;simp only[qT,Kf];rw[fq ak,cond_true,eu _ i ak,Option.bind_some,m1,Option.bind_some];rw[eU (x:=qT l S L f (o++jP L (kD l S[i])) ((i+1:Nat):Int)) ((kD l S[i]).length+1) λn aN=>by
    have:=alQ (qT l S L f) l S L (kD l S[i]) (by omega) i (by omega) 0 (zero_le _) o _ n (oQ.start _) (by omega) (by omega);rw[List.drop_zero]at this;exact this]
   exact ih _ f (by rw[List.length_append];omega) (by rw[List.append_assoc];exact he) (by omega)
 refine eU (S.length+1) λf bc=>?_;have:=key 0 (by omega) [] f (by rw[List.drop_zero,List.length_nil];omega) (by rw[List.drop_zero,List.nil_append]) (by omega);exact this
end
theorem alT (a:anQ) (h:a.length<=1048576) (hw:∀w∈a,w.length<=1048576):Es a=some (a.all tu):=by
 unfold Es;rw[uT (n:=a.length) (l:=yu a) (λi=>some ((a.drop i).all tu)) (λm=>?_) (λi ak m ih=>?_),List.drop_zero]
 .simp only[yu,Jk];rw[eT (Nat.le_refl _),List.drop_of_length_le (Nat.le_refl _)];rfl
 .simp only[yu,Jk];rw[fq ak,eu _ i ak,fV i _ ak (by omega),drop_cons a i ak];simp only[cond_true,Option.bind_some,ih,List.all_cons,(UE _ (hw _ (List.getElem_mem ak))).1];cases tu a[i]<;>rfl
abbrev zG:=List anT×Int
section
variable {P:Nat} (a_:P<=21)
include a_
theorem alU (iF:(List anT)->Int->Option zG) (ph:(List anT)->Int->(List anT)->Int->Option zG) (l:dw) (fv:anQ) (S:List anT) (L:anR) (ms:aog)
  (alR:ms.length<=1048576) (hg:∀m∈ms,jO P m) (i:Nat) (jC:bI fv (i:Int)=some L) (k:Nat) (hk:k<=1048576):
  ∀j,j<=ms.length->∀(o:List anT) row f,oQ ms row j->o.length<=40->(∀y∈o,sn P y)->ms.length-j<f->
   wy iF ph l fv f S (i:Int) o (k:Int) row (j:Int)=if 40<((jP L (ms.drop j)).foldl ht o).length then some ([],5)else ph S (i:Int) ((jP L (ms.drop j)).foldl ht o) ((k+1:Nat):Int):=by
 have hw:i64.wrap ((k:Int)+1)=((k+1:Nat):Int):=by rw[dQ _ (by omega)];omega
 refine down ms.length ?_ ?_
 .intro o row f ax iU oU bc;obtain⟨f,rfl⟩:∃j,f=j+1:=⟨f-1,by omega⟩
  simp only[wy,Jz];rw[ax.len,eT (Nat.le_refl _),cond_false,List.drop_of_length_le (Nat.le_refl _),hw,if_neg (by simp[jP];omega)];simp[jP]
 .intro j bo ih o row f ax iU oU bc;obtain⟨f,rfl⟩:∃j,f=j+1:=⟨f-1,by omega⟩
  simp only[wy,Jz,BC];rw[ax.len,fq bo,cond_true,ax.get bo,Option.bind_some,fV j _ bo (by omega),drop_cons ms j bo,VP];rw[show xj (!(false,ms[j]).1)=some ()from rfl,Option.bind_some,Int.toNat_natCast,jC,Option.bind_some];have VR:=hg _ (List.getElem_mem bo);cases ms[j].Label==L
  .rw[Bool.not_false,cond_true,cond_false];exact ih o _ f ax.skip iU oU (by omega)
  .rw[Bool.not_true,cond_false,cond_true,List.foldl_cons];obtain⟨q,AZ,alV⟩:=alP o ms[j].Next (by omega) (λy hy=>by have:=(oU y hy).len;omega);rw[AZ,Option.bind_some,alV];by_cases lk:ms[j].Next∈o
   .rw[decide_eq_true lk,cond_true,show ht o ms[j].Next=o by unfold ht;rw[if_pos lk]];exact ih o _ f ax.skip iU oU (by omega)
   .have alW:ht o ms[j].Next=o++[ms[j].Next]:=by unfold ht;rw[if_neg lk]
    rw[decide_eq_false lk,cond_false,alW];by_cases zH:o.length=40
    .rw[show((o.length:Int)==40)=true by simp;omega,cond_true];have h1:=MG (jP L (ms.drop (j+1))) (o++[ms[j].Next]);rw[if_pos (by simp only[List.length_append,List.length_cons,List.length_nil]at h1;omega)]
    .rw[show((o.length:Int)==40)=false by simp;omega,cond_false,lC (by omega) (by omega),Option.bind_some];refine ih (o++[ms[j].Next]) _ f (ax.set _) (by simp only[List.length_append,List.length_cons,List.length_nil];omega) (λy hy=>?_) (by omega);rcases List.mem_append.1 hy with hy|hy
     .exact oU y hy
     .rw[List.mem_singleton]at hy;rw[hy];exact⟨VR.len,VR.oc⟩
end
section
variable {l:dw} {P:Nat} (hl:l.cG.length<=60) (a1:∀x∈l.cG,od x P) (a_:P<=21)
include hl a1 a_
theorem alX (iF:(List anT)->Int->Option zG) (fv:anQ) (S:List anT) (L:anR) (bE:S.length<=40) (nj:∀s∈S,sn P s) (i:Nat) (ak:i<=1048576) (jC:bI fv (i:Int)=some L):
  lim (λn=>p5 iF l fv n S (i:Int) [] 0)=if 40<((gy l L S).foldl ht []).length then some ([],5)else iF ((gy l L S).foldl ht []) ((i+1:Nat):Int):=by
 have hw:i64.wrap ((i:Int)+1)=((i+1:Nat):Int):=by rw[dQ _ (by omega)];omega
 have key:∀k,k<=S.length->∀(o:List anT) f,o.length<=40->(∀y∈o,sn P y)->S.length-k<f->
   p5 iF l fv f S (i:Int) o (k:Int)=if 40<((gy l L (S.drop k)).foldl ht o).length then some ([],5)else iF ((gy l L (S.drop k)).foldl ht o) ((i+1:Nat):Int):=by
  refine down S.length ?_ ?_
  .intro o f iU oU bc;obtain⟨f,rfl⟩:∃j,f=j+1:=⟨f-1,by omega⟩
   simp only[p5,JA];rw[eT (Nat.le_refl _),cond_false,List.drop_of_length_le (Nat.le_refl _),show gy l L []=[]from rfl,List.foldl_nil,if_neg (by omega),hw]
  .intro k hk ih o f iU oU bc;obtain⟨f,rfl⟩:∃j,f=j+1:=⟨f-1,by omega⟩
   obtain⟨m1,m2,m3,m4⟩:=MI hl a1 a_ (nj _ (List.getElem_mem hk));have ec:gy l L (S.drop k)=jP L (kD l S[k])++gy l L (S.drop (k+1)):=by
    rw[drop_cons S k hk];unfold gy;rw[List.flatMap_cons]
   simp only[p5,JA];rw[fq hk,cond_true,eu _ k hk,Option.bind_some,m2,Option.bind_some,ec,List.foldl_append];rw[eU (x:=if 40<((jP L (kD l S[k])).foldl ht o).length then some ([],5)else p5 iF l fv f S (i:Int) ((jP L (kD l S[k])).foldl ht o) ((k+1:Nat):Int)) ((kD l S[k]).length+1) λn aN=>by
    have:=alU a_ iF (p5 iF l fv f) l fv S L (kD l S[k]) (by omega) m4 i jC k (by omega) 0 (zero_le _) o _ n (oQ.start _) iU oU (by omega);rw[List.drop_zero]at this;exact this]
   by_cases zH:40<((jP L (kD l S[k])).foldl ht o).length
   .have h1:=MG (gy l L (S.drop (k+1))) ((jP L (kD l S[k])).foldl ht o);rw[if_pos zH,if_pos (by omega)]
   .rw[if_neg zH];refine ih _ f (by omega) (λy hy=>?_) (by omega);rcases(Gl _ _ y).1 hy with hy|hy
    .exact oU y hy
    .unfold jP at hy;obtain⟨m,hm,rfl⟩:=List.mem_map.1 hy;have:=m4 m (List.mem_filter.1 hm).1;exact⟨this.len,this.oc⟩
 refine eU (S.length+1) λf bc=>?_;have:=key 0 (by omega) [] f (by simp) (by simp) (by omega)
 rwa [List.drop_zero]at this
end
theorem VS (jK:(List anT)->(List anT)->Int->Option zG) (S out:List anT) (x:anT) (i:Nat) (ak:i<=1048576) (ag:bI S (i:Int)=some x) (p:Nat) (al:p<=out.length) (a1:out.length<=1048576):
  lim (λn=>s5 jK n S (out++[[]]) (i:Int) (p:Int) (i64.wrap (((out++[[]]).length:Int)-1)))=jK S (out.take p++x::out.drop p) ((i+1:Nat):Int):=by
 have hw:i64.wrap ((i:Int)+1)=((i+1:Nat):Int):=by rw[dQ _ (by omega)];omega
 have hlen:∀n z,n<=out.length->(out.take n++z::out.drop n).length=out.length+1:=λn z aN=>by simp;omega
 have qj:∀n z y,n<=out.length->(out.take n++z::out.drop n).set n y=out.take n++y::out.drop n:=λn z y aN=>by
  have e:(out.take n).length=n:=by rw[List.length_take];omega
  rw[List.set_append_right _ _ (by omega),e,Nat.sub_self,List.set_cons_zero]
 have jD:∀n z,n<=out.length->bI (out.take n++z::out.drop n) (n:Int)=some z:=λn z aN=>by
  have e:(out.take n).length=n:=by rw[List.length_take];omega
  rw[eu _ n (by rw[hlen n z aN];omega)];congr 1;rw[List.getElem_append_right (by omega)];simp[e]
 have key:∀d,p+d<=out.length->∀z f,d<f->s5 jK f S (out.take (p+d)++z::out.drop (p+d)) (i:Int) (p:Int) ((p+d:Nat):Int)=jK S (out.take p++x::out.drop p) ((i+1:Nat):Int):=by
  intro d;induction d with
  |zero=>
   intro ae z f bc;obtain⟨f,rfl⟩:∃j,f=j+1:=⟨f-1,by omega⟩
   simp only[s5,JB];rw[show decide ((p:Int)<((p+0:Nat):Int))=false by simp,cond_false,ag,Option.bind_some,Nat.add_zero,jD p z (by omega),Option.bind_some,Int.toNat_natCast,qj p z x (by omega),hw]
  |succ d ih=>
   intro ae z f bc;obtain⟨f,rfl⟩:∃j,f=j+1:=⟨f-1,by omega⟩
   have C3:p+d<out.length:=by omega
   have aI:i64.wrap (((p+(d+1):Nat):Int)-1)=((p+d:Nat):Int):=by rw[dQ _ (by omega)];omega
   simp only[s5,JB];rw[show decide ((p:Int)<((p+(d+1):Nat):Int))=true from decide_eq_true (by omega),cond_true,aI];have aM:bI (out.take (p+(d+1))++z::out.drop (p+(d+1))) ((p+d:Nat):Int)=some out[p+d]:=by
    rw[eu _ (p+d) (by rw[hlen _ z (by omega)];omega)];congr 1;rw[List.getElem_append_left (by rw[List.length_take];omega),List.getElem_take]
   rw[aM,Option.bind_some,jD (p+(d+1)) z (by omega),Option.bind_some,Int.toNat_natCast,qj _ z _ (by omega)];have aP:out.take (p+(d+1))++out[p+d]::out.drop (p+(d+1))=out.take (p+d)++out[p+d]::out.drop (p+d):=by
    rw[show p+(d+1)=(p+d)+1 by omega,List.take_succ_eq_append_getElem C3,drop_cons out (p+d) C3,List.append_assoc];rfl
   rw[aP];exact ih (by omega) _ f (by omega)
 have fA:i64.wrap (((out++[[]]).length:Int)-1)=((p+(out.length-p):Nat):Int):=by
  rw[List.length_append,List.length_cons,List.length_nil,dQ _ (by omega)];omega
 rw[fA];refine eU (out.length+1) λf bc=>?_;have:=key (out.length-p) (by omega) [] f (by omega);rw[show p+(out.length-p)=out.length by omega]at this⊢;rw[List.take_length,List.drop_of_length_le (Nat.le_refl _)]at this;exact this
theorem alY (jK:(List anT)->(List anT)->Int->Option zG) (S out:List anT) (x:anT) (i:Nat) (ak:i<=1048576) (ag:bI S (i:Int)=some x) (alZ:x.length<=1048576) (a1:out.length<=1048576):
  lim (λn=>wz jK n S out (i:Int) (out.length:Int))=jK S (pD x out) ((i+1:Nat):Int):=by
 have key:∀a,a<=out.length->∀f,a<f->wz jK f S out (i:Int) (a:Int)=jK S (out.take (pC x out a)++x::out.drop (pC x out a)) ((i+1:Nat):Int):=by
  intro a;induction a with
  |zero=>
   intro bg f bc;obtain⟨f,rfl⟩:∃j,f=j+1:=⟨f-1,by omega⟩
   simp only[wz,JC];rw[show decide ((0:Int)<((0:Nat):Int))=false by decide,cond_false,lC (by omega) (by omega),Option.bind_some];exact VS jK S out x i ak ag 0 (zero_le _) a1
  |succ a ih=>
   intro bg f bc;obtain⟨f,rfl⟩:∃j,f=j+1:=⟨f-1,by omega⟩
   have aI:i64.wrap (((a+1:Nat):Int)-1)=(a:Int):=by rw[dQ _ (by omega)];omega
   simp only[wz,JC];rw[show decide ((0:Int)<((a+1:Nat):Int))=true from decide_eq_true (by omega),cond_true,ag,Option.bind_some,aI,eu out a (by omega),Option.bind_some,alO _ _ alZ,Option.bind_some];simp only[pC];rw[List.getD_eq_getElem?_getD,List.getElem?_eq_getElem (show a<out.length by omega),Option.getD_some];by_cases ai:c_ x out[a]<0
   .rw[if_pos ai,decide_eq_true ai,cond_true];exact ih (by omega) f (by omega)
   .rw[if_neg ai,decide_eq_false ai,cond_false,lC (by omega) (by omega),Option.bind_some];exact VS jK S out x i ak ag (a+1) bg a1
 refine eU (out.length+1) λf bc=>?_;exact key out.length (Nat.le_refl _) f (by omega)
theorem al0 (x:anT) (out:List anT):(pD x out).length=out.length+1:=by rw[(VN x out).length_eq,List.length_cons]
theorem al1 (S:List anT) (bE:S.length<=1000) (nj:∀s∈S,s.length<=1048576):lim (λn=>qM n S [] 0)=some (S.foldl (λo x=>pD x o) [],0):=by
 have key:∀i,i<=S.length->∀(o:List anT) f,o.length=i->S.length-i<f->qM f S o (i:Int)=some ((S.drop i).foldl (λo x=>pD x o) o,0):=by
  refine down S.length ?_ ?_
  .intro o f iU bc;obtain⟨f,rfl⟩:∃j,f=j+1:=⟨f-1,by omega⟩
   simp only[qM,JD];rw[eT (Nat.le_refl _),cond_false,List.drop_of_length_le (Nat.le_refl _)];rfl
  .intro i ak ih o f iU bc;obtain⟨f,rfl⟩:∃j,f=j+1:=⟨f-1,by omega⟩
   simp only[qM,JD];rw[fq ak,cond_true,alY (qM f) S o S[i] i (by omega) (eu _ i ak) (nj _ (List.getElem_mem ak)) (by omega),ih (pD S[i] o) f (by rw[al0,iU]) (by omega),drop_cons S i ak];rfl
 refine eU (S.length+1) λf bc=>?_;have:=key 0 (by omega) [] f rfl (by omega)
 rwa [List.drop_zero]at this
theorem al2 (a:anQ) (h:a.length<=1048576) (hw:∀w∈a,w.length<=1048576):E4 a=some (a.all tu):=by
 unfold E4 J0 JZ;rw[T8 (n:=a.length) (l:=yQ a) (λi=> !tu (a.getD i [])) (λm=>?_) (λi ak m=>?_)]
 .simp only[Option.bind_some,T7,Bool.not_not];congr 1;rw[Bool.eq_iff_iff,F4,List.all_eq_true];constructor
  .intro q x ag;obtain⟨k,hk,rfl⟩:=List.mem_iff_getElem.1 ag;have:=q k hk;simpa [List.getD,hk]using this
  .intro q i ak;have:=q _ (List.getElem_mem ak);simpa [List.getD,ak]using this
 .simp only[yQ,JY];rw[eT (Nat.le_refl _)];rfl
 .simp only[yQ,JY,JX];rw[fq ak,eu _ i ak,fV i _ ak (by omega)];simp only[cond_true,Option.bind_some];rw[(UE _ (hw _ (List.getElem_mem ak))).2];have e:a.getD i []=a[i]:=by simp[List.getD,ak]
  rw[e];rfl
theorem al3 (a:anT) (h:a.length<=1048576):E5 a=some a:=by
 unfold E5;rw[lC (by omega) (by omega)];cases a with
 |nil=>simp[both]
 |cons x r=>rfl
def VT (r:zG):Prop:=r.1.length<=40/\∀y∈r.1,y.length<=21
section
variable {l:dw} {P:Nat} (hl:l.cG.length<=60) (a1:∀x∈l.cG,od x P) (a_:P<=21)
include hl a1 a_
theorem al4 (fv:anQ) (aN:fv.length<=1048576):
  ∀i,i<=fv.length->∀(S T:List anT),u5 S T->S≠[]->S.length<=40->(∀s∈S,sn P s)->
   ∃r,VT r/\(∀f,fv.length-i+1<f->mG l fv f S (i:Int)=some r)/\∀f,fv.length-i<f->uH l fv f T (i:Int)=some r:=by
 refine down fv.length ?_ ?_
 .intro S T h cI zH nj;have hlen:=h.perm.length_eq;have xU:S.length≠0:=λe=>cI (List.length_eq_zero_iff.1 e);refine⟨(T,0),⟨by show T.length<=40;omega,λy hy=>by have:=(nj y ((h.mem y).2 hy)).len;omega⟩,λf bc=>?_,λf bc=>?_⟩
  .obtain⟨f,rfl⟩:∃j,f=j+1:=⟨f-1,by omega⟩
   simp only[mG,EC];rw[eT (Nat.le_refl _),Bool.false_and,cond_false,show((S.length:Int)==0)=false by rw[beq_eq_false_iff_ne];omega,cond_false,al1 S (by omega) (λs U=>by have:=(nj s U).len;omega),h.alN]
  .obtain⟨f,rfl⟩:∃j,f=j+1:=⟨f-1,by omega⟩
   simp only[uH,Kg];rw[eT (Nat.le_refl _),cond_false]
 .intro i ak ih S T h cI zH nj;have hlen:=h.perm.length_eq;have xU:S.length≠0:=λe=>cI (List.length_eq_zero_iff.1 e);have al5:∀s∈T,sn P s:=λs U=>nj s ((h.mem s).2 U);have lk:∀y,y∈gy l fv[i] S↔y∈gy l fv[i] T:=λy=>by
   unfold gy;rw[List.mem_flatMap,List.mem_flatMap];exact⟨λ⟨s,h1,ab⟩=>⟨s,(h.mem s).1 h1,ab⟩,λ⟨s,h1,ab⟩=>⟨s,(h.mem s).2 h1,ab⟩⟩
  have Bf:=u5.next lk;have zX:=Bf.perm.length_eq;have ai:=(MJ hl a1 a_ (L:=fv[i]) nj).2;have al6:=alX hl a1 a_ (L:=fv[i]);have al7:=alS hl a1 a_ T fv[i] (by omega) al5;have MK:∀f,mG l fv (f+1) S (i:Int)=if 40<((gy l fv[i] S).foldl ht []).length then some ([],5)else mG l fv f ((gy l fv[i] S).foldl ht []) ((i+1:Nat):Int):=λf=>by
   simp only[mG,EC];rw[fq ak,show decide ((0:Int)<(S.length:Int))=true from decide_eq_true (by omega),Bool.and_self,cond_true];exact al6 (mG l fv f) fv S zH nj i (by omega) (eu _ i ak)
  have ML:∀f,uH l fv (f+1) T (i:Int)=cond (decide (40<((rb (gy l fv[i] T)).length:Int))) (some ([],5)) (cond (((rb (gy l fv[i] T)).length:Int)==0) (some ([],3)) (uH l fv f (rb (gy l fv[i] T)) ((i+1:Nat):Int))):=λf=>by
   simp only[uH,Kg];rw[fq ak,cond_true,eu _ i ak,Option.bind_some,al7,Option.bind_some,fV i _ ak (by omega)]
  generalize bb:(gy l fv[i] S).foldl ht []=C at*;generalize rb (gy l fv[i] T)=D at*;have al8:∀s∈C,sn P s:=λs U=>by
   rw[<-bb,Gl]at U;rcases U with U|U
   .cases U
   .exact ai s U
  by_cases bp:40<C.length
  .refine⟨([],5),⟨by simp,by simp⟩,λf bc=>?_,λf bc=>?_⟩
   .obtain⟨f,rfl⟩:∃j,f=j+1:=⟨f-1,by omega⟩
    rw[MK,if_pos bp]
   .obtain⟨f,rfl⟩:∃j,f=j+1:=⟨f-1,by omega⟩
    rw[ML,decide_eq_true (show(40:Int)<(D.length:Int) by omega),cond_true]
  .by_cases ba:C=[]
   .have VU:D.length=0:=by rw[<-zX,ba];rfl
    refine⟨([],3),⟨by simp,by simp⟩,λf bc=>?_,λf bc=>?_⟩
    .obtain⟨f,rfl⟩:∃j,f=j+2:=⟨f-2,by omega⟩
     rw[MK,if_neg bp,ba];simp only[mG,EC];rw[show decide ((0:Int)<(([]:List anT).length:Int))=false by decide,Bool.and_false,cond_false];rfl
    .obtain⟨f,rfl⟩:∃j,f=j+1:=⟨f-1,by omega⟩
     rw[ML,decide_eq_false (show¬(40:Int)<(D.length:Int) by omega),cond_false,VU];rfl
   .have VU:D.length≠0:=λe=>ba (List.length_eq_zero_iff.1 (by omega));obtain⟨r,cY,bl,cz⟩:=ih C D Bf ba (by omega) al8;refine⟨r,cY,λf bc=>?_,λf bc=>?_⟩
    .obtain⟨f,rfl⟩:∃j,f=j+1:=⟨f-1,by omega⟩
     rw[MK,if_neg bp];exact bl f (by omega)
    .obtain⟨f,rfl⟩:∃j,f=j+1:=⟨f-1,by omega⟩
     rw[ML,decide_eq_false (show¬(40:Int)<(D.length:Int) by omega),cond_false,show((D.length:Int)==0)=false by rw[beq_eq_false_iff_ne];omega,cond_false];exact cz f (by omega)
end
theorem al9 (l:dw) (fv:anQ) (a1:Gf l) (aN:fv.length<=1048576) (hw:∀w∈fv,w.length<=1048576):
  ∃r,VT r/\BT l fv=some r/\ED l fv=some r:=by
 unfold BT ED;rw[akI l a1,akB l a1,Option.bind_some,Option.bind_some];cases aD:zA l
 .exact⟨([],1),⟨by simp,by simp⟩,rfl,rfl⟩
 .rw[al2 fv aN hw,alT fv aN hw,Option.bind_some,Option.bind_some];simp only[Bool.not_true,cond_false];cases bg:fv.all tu
  .exact⟨([],2),⟨by simp,by simp⟩,rfl,rfl⟩
  .simp only[zA,u2,ho,Bool.and_eq_true,beq_iff_eq,decide_eq_true_eq,List.all_eq_true]at aD;obtain⟨al,⟨rF,DL⟩,al_,ama⟩:=aD;simp only[Bool.not_true,cond_false];rw[al3 _ (by omega),Vm _ (by omega),Option.bind_some,Option.bind_some];obtain⟨r,cY,bl,cz⟩:=al4 (P:=l.eY.toNat) al_ (λx ag=>alk (ama x ag) al.1) (by omega) fv aN 0 (zero_le _) [l.Start] [l.Start] ⟨by simp,by simp,λy=>Iff.rfl⟩ (by simp) (by simp) (λs U=>by
    rw[List.mem_singleton]at U;subst U;exact⟨by omega,λy hy=>DL y hy⟩)
   exact⟨r,cY,eU (fv.length+1) λf bc=>cz f (by omega),eU (fv.length+2) λf bc=>bl f (by omega)⟩
theorem VV:∀(x:List anT),(∀y∈x,y.length<=21)->fu (λx=>x.length+0) x<=x.length*22
 |[],_=>by simp[fu,fN]
 |y::r,h=>by
  have h1:=VV r λz bC=>h z (by simp[bC]);have ab:=h y (by simp);unfold fu at h1⊢;simp only[fN,List.length_cons,Nat.add_mul]at h1⊢;omega
theorem ajg (a:nP) (s:anQ) (bg:Ec a) (U:s.length<=9223372036854775807/\∀y∈s,y.length<=9223372036854775807):Kv a s=some true:=by
 unfold Kv;rw[aj6 a 1048576 bg (by omega) (by omega)];simp only[Option.bind_some];by_cases h:si a<=1048576
 .rw[FZ (by omega)];have:decide ((1048576:Int)-((si a:Nat):Int)<0)=false:=by simp only[decide_eq_false_iff_not];omega
  rw[this,cond_false,aj7 s _ U (by omega) (by omega)];simp only[Option.bind_some];by_cases ab:((fu List.length s:Nat):Int)<=(1048576:Int)-((si a:Nat):Int)
  .rw[FZ (by omega)];have:decide ((1048576:Int)-((si a:Nat):Int)-((fu List.length s:Nat):Int)<0)=false:=by simp only[decide_eq_false_iff_not];omega
   rw[this,cond_false,akc a h];simp only[Option.bind_some];have hl:sj (CI a)<=1048576:=by rw[akb];exact h
   generalize CI a=e at hl;have a1:=akJ e hl;have kT:=oL List.length s;obtain⟨r,FA,cY,bl⟩:=al9 e s a1 (by omega) (λw hw=>by have:=uU (f:=List.length) hw;omega);have cL:=VV r.1 FA.2;have dT:=FA.1;obtain⟨iC,f_,iW,c,c1,m1⟩:=akm e 1 (by omega) (by omega);obtain⟨rm,d,d1,m2⟩:=akn s (1+(c:Int)) (by omega) (by omega);obtain⟨aq,f,f1,m3,m4⟩:=ako r.1 1 (by omega) (by omega);simp only[akd s (by omega),cY,bl,Option.bind_some,ake r.1 (by omega),akj s (by omega),aki e hl,m1,m2,m3,m4,Bool.not_true,bne_self_eq_false,Bool.or_self,cond_false,F6 (k:=1+(c:Int)) (by omega),F6 (k:=1+(f:Int)) (by omega),F6 (k:=1+(c:Int)+(d:Int)) (by omega)]
  .rw[Cu (by omega)];rfl
 .rw[Cu (by omega)];rfl
end Go.lT
