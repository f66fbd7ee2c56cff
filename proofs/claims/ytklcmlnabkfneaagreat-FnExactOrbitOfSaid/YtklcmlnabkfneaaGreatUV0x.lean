/- Part of a proof that a law returns true for every input. No condition. -/
import Derived.Test.YtklcmlnabkfneaaGreatFwA
import Derived.IntWalk
import Derived.Test.YtklcmlnabkfneaaGreatP7
namespace Go.l3
open Option Nat Or
open Go Go.de
theorem eN (n:Int) (h: -9223372036854775808<=n/\n<=9223372036854775807):IntKind.i64.wrap n=n:=IntWalk.i64_in n h
theorem lO {α:Type} (a:List α) (i:Nat) (d:α) (h:i<a.length):bl a (i:Int)=some (a.getD i d):=by
 rw[D9 (by omega) (by simpa using h)];simp[List.getD,h]
theorem e9 {α:Type} (a:List α) (i:Nat) (h:i<a.length):bl a (i:Int)=some a[i]:=by
 rw[D9 (by omega) (by simpa using h)];rfl
theorem Qo {α:Type} (a:List α) (n:Nat) (h:n<=a.length):lk a 0 (n:Int)=some (a.take n):=by
 unfold lk;rw[if_pos (by omega)];simp
theorem fu (i n:Nat) (h:i<n) (aS:n<=4611686018427387904):IntKind.i64.wrap ((i:Int)+1)=((i+1:Nat):Int):=by
 rw[eN _ (by omega)];omega
theorem fA {i n:Nat} (h:i<n):decide ((i:Int)<(n:Int))=true:=by simp;omega
theorem eJ {i n:Nat} (h:n<=i):decide ((i:Int)<(n:Int))=false:=by simp;omega
theorem Qp {α:Type} (c:α) (r:List α):bl (c::r) 0=some c:=rfl
theorem wV {n:Nat} (h:0<n):decide ((0:Int)<(n:Int))=true:=by simp;omega
theorem agV:IntKind.i64.wrap (0+1)=1:=by decide
theorem down (n:Nat) {P:Nat->Prop} (aX:P n) (ad:∀i,i<n->P (i+1)->P i):∀i,i<=n->P i:=by
 have key:∀d,d<=n->P (n-d):=by
  intro d;induction d with
  |zero=>intro _;exact aX
  |succ d ih=>
   intro ai;have:=ih (by omega);refine ad _ (by omega) ?_;rw[show n-(d+1)+1=n-d by omega];exact this
 intro i ao;have:=key (n-i) (by omega)
 rwa [show n-(n-i)=i by omega]at this
theorem up {β:Type} {l:Nat->Int->Option β} {n:Nat} (F:Nat->Option β) (aX:∀m,l (m+1) (n:Int)=F n)
  (ad:∀i,i<n->∀m,(l m ((i+1:Nat):Int)=F (i+1))->l (m+1) (i:Int)=F i):∀i,i<=n->∀m,n-i<m->l m (i:Int)=F i:=by
 refine down n ?_ ?_
 .intro m hm;obtain⟨k,rfl⟩:∃k,m=k+1:=⟨m-1,by omega⟩
  exact aX k
 .intro i ao ih m hm;obtain⟨k,rfl⟩:∃k,m=k+1:=⟨m-1,by omega⟩
  exact ad i ao k (ih k (by omega))
theorem nL {β:Type} {l:Nat->Int->Option β} {n:Nat} (F:Nat->Option β) (aX:∀m,l (m+1) (n:Int)=F n)
  (ad:∀i,i<n->∀m,(l m ((i+1:Nat):Int)=F (i+1))->l (m+1) (i:Int)=F i):lim (λm=>l m 0)=F 0:=
 eP (n+1) λm hm=>up F aX ad 0 (by omega) m (by omega)
theorem drop_cons {α:Type} (a:List α) (i:Nat) (h:i<a.length):a.drop i=a[i]::a.drop (i+1):=List.drop_eq_getElem_cons h
def ht (n:Int) (s:Nat):Int:=if(s:Int)<=n then n-s else-1
theorem Au {n:Int} {s:Nat} (h:(s:Int)<=n):ht n s=n-s:=if_pos h
theorem Av {n:Int} {s:Nat} (h:n<s):ht n s= -1:=if_neg (by omega)
theorem agW {n:Int} (h:0<=n):ht n 0=n:=by rw[Au (by simpa using h)];simp
theorem qy {f:alT} {k:Int->alT} {n:Int} {s t:Nat} (bo:f=some (ht n s)) (ax:(s:Int)<=n->k (n-s)=some (ht (n-s) t)):
  (f.bind λx=>cond (decide (x<0)) (some (-1)) (k x))=some (ht n (s+t)):=by
 rw[bo];simp only[bind_some];by_cases h:(s:Int)<=n
 .rw[Au h];have:decide (n-(s:Int)<0)=false:=by simp;omega
  rw[this,cond_false,ax h];congr 1;unfold ht;by_cases ae:(t:Int)<=n-s
  .rw[if_pos ae,if_pos (by omega)];omega
  .rw[if_neg ae,if_neg (by omega)]
 .rw[Av (by omega)];have:decide ((-1:Int)<0)=true:=by decide
  rw[this,cond_true,Av (by omega)]
theorem mE {K:alT} {n:Int} {s t:Nat} (ad:s<=9223372036854775807) (aX:0<=n) (aS:n<=1048576) (ax:(s:Int)<=n->K=some (ht (n-s) t)):
  cond (decide (IntKind.i64.wrap (n-(s:Int))<0)) (some (-1)) K=some (ht n (s+t)):=by
 rw[eN _ (by omega)];by_cases h:(s:Int)<=n
 .have:decide (n-(s:Int)<0)=false:=by simp;omega
  rw[this,cond_false,ax h];congr 1;unfold ht;by_cases ae:(t:Int)<=n-s
  .rw[if_pos ae,if_pos (by omega)];omega
  .rw[if_neg ae,if_neg (by omega)]
 .have:decide (n-(s:Int)<0)=true:=by simp;omega
  rw[this,cond_true,Av (by omega)]
theorem rB {n:Int} (h:0<=n):some n=some (ht n 0):=by rw[agW h]
def fB {α:Type} (f:α->Nat):List α->Nat
 |[]=>0
 |x::r=>f x+fB f r
theorem Qq {α:Type} {f:α->Nat}:∀{l:List α} {x:α},x∈l->f x<=fB f l
 |y::r,x,h=>by
  simp only[fB];rcases List.mem_cons.1 h with rfl|h
  .omega
  .have:=Qq (f:=f) h;omega
theorem Qr {α β:Type} {f:β->Nat} {g:α->β}:∀l:List α,fB f (l.map g)=fB (λx=>f (g x)) l
 |[]=>rfl
 |x::r=>by simp only[List.map_cons,fB,Qr r]
def cu {α:Type} (f:α->Nat) (l:List α):Nat:=l.length+fB f l
theorem uj {α β:Type} (f:β->Nat) (g:α->β) (l:List α):cu f (l.map g)=cu (λx=>f (g x)) l:=by simp only[cu,List.length_map,Qr]
theorem hY {α:Type} (f:α->Nat) (l:List α):l.length<=cu f l:=le_add_right _ _
theorem kl {α:Type} {f:α->Nat} {l:List α} {x:α} (h:x∈l):f x<=cu f l:=Nat.le_trans (Qq h) (le_add_left _ _)
theorem Qs {α:Type} {l:Nat->Int->Int->alT} {B:α->Int->(Int->alT)->alT} (sz:α->Nat) (a:List α)
  (lg:∀m n i,l (m+1) n i=cond (decide (i<(a.length:Int))) ((bl a i).bind λx=>B x n λy=>l m y (IntKind.i64.wrap (i+1))) (some n))
  (bo:∀x∈a,∀(n:Int) (k:Int->alT) (t:Nat),0<=n->n<=1048576->((sz x:Int)<=n->k (n-sz x)=some (ht (n-sz x) t))->B x n k=some (ht n (sz x+t)))
  (cg:a.length<=1048576) (n:Int) (aX:0<=n) (aS:n<=1048576):lim (λm=>l m n 0)=some (ht n (fB sz a)):=by
 have key:∀i,i<=a.length->∀n:Int,0<=n->n<=1048576->∀m,a.length-i<m->l m n (i:Int)=some (ht n (fB sz (a.drop i))):=by
  refine down a.length ?_ ?_
  .intro n aX _ m hm;obtain⟨k,rfl⟩:∃k,m=k+1:=⟨m-1,by omega⟩
   rw[lg,eJ (Nat.le_refl _),cond_false,List.drop_of_length_le (Nat.le_refl _)];exact rB aX
  .intro i ao ih n aX aS m hm;obtain⟨k,rfl⟩:∃k,m=k+1:=⟨m-1,by omega⟩
   rw[lg,fA ao,cond_true,e9 _ i ao,fu i _ ao (by omega),drop_cons a i ao];simp only[bind_some,fB];exact bo _ (List.getElem_mem ao) n _ _ aX aS λh=>ih _ (by omega) (by omega) k (by omega)
 refine eP (a.length+1) λm hm=>?_;have:=key 0 (by omega) n aX aS m (by omega);simpa using this
theorem wW {α:Type} {l:Nat->Int->Int->alT} {f:α->Int->alT} (sz:α->Nat) (a:List α)
  (lg:∀m n i,l (m+1) n i=cond (decide (i<(a.length:Int))) ((bl a i).bind λx=>(f x n).bind λy=>cond (decide (y<0)) (some (-1)) (l m y (IntKind.i64.wrap (i+1)))) (some n))
  (bo:∀x∈a,∀n:Int,0<=n->n<=1048576->f x n=some (ht n (sz x))) (cg:a.length<=1048576) (n:Int) (aX:0<=n) (aS:n<=1048576):lim (λm=>l m n 0)=some (ht n (fB sz a)):=
 Qs (B:=λx n k=>(f x n).bind λy=>cond (decide (y<0)) (some (-1)) (k y)) sz a lg (λx au n _ _ aX aS ax=>qy (bo x au n aX aS) ax) cg n aX aS
theorem agX {l:Nat->Int->Int->alT} (a:alN)
  (lg:∀m n i,l (m+1) n i=cond (decide (i<(a.length:Int))) ((bl a i).bind λx=>cond (decide (IntKind.i64.wrap (n-(x.length:Int))<0)) (some (-1)) (l m (IntKind.i64.wrap (n-(x.length:Int))) (IntKind.i64.wrap (i+1)))) (some n))
  (bo:∀x∈a,x.length<=9223372036854775807) (cg:a.length<=1048576) (n:Int) (aX:0<=n) (aS:n<=1048576):lim (λm=>l m n 0)=some (ht n (fB List.length a)):=
 Qs (B:=λx n k=>cond (decide (IntKind.i64.wrap (n-(x.length:Int))<0)) (some (-1)) (k (IntKind.i64.wrap (n-(x.length:Int))))) List.length a (by intro m n i;rw[lg]) (by
  intro x au n k t aX aS ax;have hl:=bo x au;refine mE hl aX aS λh=>?_;have e:IntKind.i64.wrap (n-(x.length:Int))=n-(x.length:Int):=eN _ (by omega);rw[e];exact ax h) cg n aX aS
theorem rC {α β:Type} {l:Nat->List β->Int->Option (List β)} {f:α->Option β} (g:α->β) (a:List α) (z:β)
  (lg:∀m v i,l (m+1) v i=cond (decide (i<(a.length:Int))) ((bl a i).bind λx=>(f x).bind λy=>(bl v i).bind λ_=>l m (List.set v (Int.toNat i) y) (IntKind.i64.wrap (i+1))) (some v))
  (bo:∀x∈a,f x=some (g x)) (cg:a.length<=1048576):lim (λm=>l m (List.replicate (Int.toNat (a.length:Int)) z) 0)=some (a.map g):=by
 have key:∀i,i<=a.length->∀(v:List β) m,v.length=a.length->a.length-i<m->l m v (i:Int)=some (v.take i++(a.drop i).map g):=by
  refine down a.length ?_ ?_
  .intro v m aJ hm;obtain⟨k,rfl⟩:∃k,m=k+1:=⟨m-1,by omega⟩
   rw[lg,eJ (Nat.le_refl _)];simp[<-aJ]
  .intro i ao ih v m aJ hm;obtain⟨k,rfl⟩:∃k,m=k+1:=⟨m-1,by omega⟩
   rw[lg,fA ao,e9 _ i ao,fu i _ ao (by omega)];simp only[cond_true,bind_some,bo _ (List.getElem_mem ao)];rw[e9 v i (by omega)];simp only[bind_some,Int.toNat_natCast];rw[ih _ k (by simp[aJ]) (by omega),drop_cons a i ao,List.map_cons,List.take_set,List.take_succ_eq_append_getElem (by omega),List.set_append_right _ _ (by simp;omega)];simp[show min i v.length=i by omega]
 refine eP (a.length+1) λm hm=>?_;have:=key 0 (by omega) (List.replicate (Int.toNat (a.length:Int)) z) m (by simp) (by omega);simpa using this
theorem qz (b:Nat) {n:Nat} (h:n<=1048576) (R:b<=4096):mF b (n:Int)=some ():=by
 have ab:b*n<=4096*1048576:=Nat.mul_le_mul R h;have ae:((b:Int)*(n:Int))=((b*n:Nat):Int):=by simp
 unfold mF;rw[if_pos ⟨by omega,by rw[ae];omega,by omega⟩]
theorem sM {α:Type} {l:Nat->Int->alS} {f:α->α->alS} (a:List α)
  (lg:∀m i,l (m+1) i=cond (decide (i<(a.length:Int))) ((bl a i).bind λx=>(bl a i).bind λy=>(f x y).bind λz=>cond (!z) (some false) (l m (IntKind.i64.wrap (i+1)))) (some true))
  (bo:∀x∈a,f x x=some true) (cg:a.length<=1048576):lim (λm=>l m 0)=some true:=by
 rw[nL (n:=a.length) (λ_=>some true)]
 .intro m;rw[lg,eJ (Nat.le_refl _)];rfl
 .intro i ao m ih;rw[lg,fA ao,e9 _ i ao,fu i _ ao (by omega),ih];simp only[cond_true,bind_some,bo _ (List.getElem_mem ao),Bool.not_true,cond_false]
theorem Qt {α:Type} {d:α->α->Bool} {l:Nat->Int->alS} (a:List α)
  (lg:∀m i,l (m+1) i=cond (decide (i<(a.length:Int))) ((bl a i).bind λx=>(bl a i).bind λy=>cond (d x y) (some false) (l m (IntKind.i64.wrap (i+1)))) (some true))
  (ai:∀x,d x x=false) (cg:a.length<=1048576):lim (λm=>l m 0)=some true:=by
 rw[nL (n:=a.length) (λ_=>some true)]
 .intro m;rw[lg,eJ (Nat.le_refl _)];rfl
 .intro i ao m ih;rw[lg,fA ao,e9 _ i ao,fu i _ ao (by omega),ih];simp only[cond_true,bind_some,ai,cond_false]
theorem sN (x:Int):(x !=x)=false:=by simp
theorem sO (x:alO):(!(x==x))=false:=by simp
theorem uk (x:Bool):(!(x==x))=false:=by simp
theorem qA (n:Nat):((n:Int) !=(n:Int))=false:=by simp
def fv (p:Nat->Bool) (n:Nat):Bool:=(List.range n).all p
theorem rD {p:Nat->Bool} {n:Nat}:fv p n=true↔∀i,i<n->p i=true:=by simp[fv]
theorem Aw {l:Nat->Int->alS} {n:Nat} (p:Nat->Bool) (aX:∀m,l (m+1) (n:Int)=some true)
  (ad:∀i,i<n->∀m,l (m+1) (i:Int)=cond (p i) (l m ((i+1:Nat):Int)) (some false)):lim (λm=>l m 0)=some (fv p n):=by
 rw[nL (n:=n) (λi=>some ((List.range' i (n-i)).all p))]
 .simp[fv,List.range_eq_range']
 .intro m;rw[aX];simp
 .intro i ao m ih;rw[ad i ao,ih,show n-i=(n-(i+1))+1 by omega,List.range'_succ];cases aq:p i<;>simp[aq]
def qB (p:Nat->Bool):Nat->Nat->Int
 |_,0=> -1
 |i,k+1=>if p i=true then(i:Int)else qB p (i+1) k
theorem Qu {p:Nat->Bool}:∀(k i:Nat),(∀j,i<=j->j<i+k->p j=false)->qB p i k= -1
 |0,_,_=>rfl
 |k+1,i,h=>by
  simp only[qB,h i (Nat.le_refl _) (by omega)];exact Qu k (i+1) λj ab ae=>h j (by omega) (by omega)
theorem Qv {p:Nat->Bool}:∀(k i j:Nat),i<=j->j<i+k->p j=true->0<=qB p i k
 |0,i,j,ab,ae,_=>by omega
 |k+1,i,j,ab,ae,az=>by
  simp only[qB];split
  .omega
  .rename_i h;refine Qv k (i+1) j ?_ (by omega) az;rcases Nat.lt_or_ge i j with h|h
   .exact h
   .have:i=j:=by omega
    subst this;exact absurd az (by assumption)
theorem um (p:Nat->Bool) (n:Nat):decide (0<=qB p 0 n)= !(fv (λi=> !p i) n):=by
 by_cases h:∃j,j<n/\p j=true
 .obtain⟨j,ab,ae⟩:=h;have az:=Qv n 0 j (zero_le _) (by omega) ae;have a6:fv (λi=> !p i) n=false:=by
   rw[Bool.eq_false_iff];intro lo;have:=rD.1 lo j ab;simp[ae]at this
  rw[a6];simpa using az
 .have az:∀j,j<n->p j=false:=λj bm=>by
   cases aq:p j
   .rfl
   .exact absurd ⟨j,bm,aq⟩ h
  rw[Qu n 0 λj _ ae=>az j (by omega)];have a6:fv (λi=> !p i) n=true:=rD.2 λi ao=>by simp[az i ao]
  rw[a6];rfl
theorem uo {l:Nat->Int->alT} {n:Nat} (p:Nat->Bool) (aX:∀m,l (m+1) (n:Int)=some (-1))
  (ad:∀i,i<n->∀m,l (m+1) (i:Int)=cond (p i) (some (i:Int)) (l m ((i+1:Nat):Int))):lim (λm=>l m 0)=some (qB p 0 n):=by
 rw[nL (n:=n) (λi=>some (qB p i (n-i)))]
 .simp
 .intro m;rw[aX];simp[qB]
 .intro i ao m ih;rw[ad i ao,ih,show n-i=(n-(i+1))+1 by omega];cases aq:p i<;>simp[aq,qB]
theorem Ax (i:Nat) (h:0<i) (aS:i<=4611686018427387904):IntKind.i64.wrap ((i:Int)-1)=((i-1:Nat):Int):=by
 rw[eN _ (by omega)];omega
theorem uq:decide ((0:Int)<((0:Nat):Int))=false:=by decide
theorem JU {i:Nat} (h:i≠0):decide ((0:Int)<(i:Int))=true:=by simp;omega
theorem Ay {b n:Nat} (h:n*b<=140737488355328) (ae:n<=9223372036854775807):room b n=some ():=by unfold room;rw[if_pos ⟨h,ae⟩]
def gS (a b:Int):Int:=if a<b then-1 else if b<a then 1 else 0
def g_:alQ->alQ->Int
 |[],[]=>0
 |[],_::_=> -1
 |_::_,[]=>1
 |a::x,b::y=>if gS a b=0 then g_ x y else gS a b
def hv (p q:aT):Int:=if gS p.b6 q.b6=0 then(if gS p.Part q.Part=0 then g_ p.bL q.bL else gS p.Part q.Part)else gS p.b6 q.b6
theorem Qw (a b:Int):vY a b=some (gS a b):=by
 unfold vY CU gS;simp only[bne_self_eq_false,bind_some,cond_false];by_cases h:a<b
 .simp[h]
 .by_cases ae:b<a
  .simp[h,ae]
  .simp[h,ae]
def Az (a b:alQ) (i:Nat):alT:=if i=a.length then some (if a.length<b.length then-1 else 0)else if b.length<=i then some 1 else some (g_ (a.drop i) (b.drop i))
theorem JV (a b:alQ) (i:Nat) (ab:i<=a.length) (ae:i<=b.length):Az a b i=some (g_ (a.drop i) (b.drop i)):=by
 unfold Az;by_cases h:i=a.length
 .subst h;rw[if_pos rfl,List.drop_of_length_le (Nat.le_refl _)];by_cases az:a.length<b.length
  .rw[if_pos az,drop_cons b _ az];rfl
  .rw[if_neg az,List.drop_of_length_le (by omega)];rfl
 .rw[if_neg h];by_cases az:b.length<=i
  .rw[if_pos az,drop_cons a i (by omega),List.drop_of_length_le az];rfl
  .rw[if_neg az]
theorem agY (a b:alQ) (h:a.length<=1099511627776):CV a b=some (g_ a b):=by
 unfold CV;rw[nL (n:=a.length) (l:=vZ a b) (Az a b) (λm=>?_) (λi ao m ih=>?_)]
 .rw[JV a b 0 (zero_le _) (zero_le _),List.drop_zero,List.drop_zero]
 .simp only[vZ,H0];rw[eJ (Nat.le_refl _),cond_false];unfold Az;rw[if_pos rfl];by_cases az:a.length<b.length
  .rw[if_pos az,show decide ((a.length:Int)<(b.length:Int))=true from decide_eq_true (by omega)];rfl
  .rw[if_neg az,show decide ((a.length:Int)<(b.length:Int))=false from decide_eq_false (by omega)];rfl
 .simp only[vZ,H0];rw[fA ao,cond_true,e9 _ i ao];simp only[bind_some];by_cases az:b.length<=i
  .rw[show decide ((b.length:Int)<=(i:Int))=true from decide_eq_true (by omega),cond_true];unfold Az;rw[if_neg (by omega),if_pos az]
  .rw[show decide ((b.length:Int)<=(i:Int))=false from decide_eq_false (by omega),cond_false,e9 _ i (by omega),fu i _ ao (by omega)];simp only[bind_some,Qw];rw[JV a b i (by omega) (by omega),ih,JV a b (i+1) (by omega) (by omega),drop_cons a i ao,drop_cons b i (by omega),g_];by_cases an:gS a[i] b[i]=0
   .rw[if_pos an,an];rfl
   .rw[if_neg an,show(gS a[i] b[i] !=0)=true by simpa using an];rfl
theorem agZ (p q:aT) (h:p.bL.length<=1099511627776):CW p q=some (hv p q):=by
 unfold CW;simp only[Qw,agY _ _ h,bind_some];unfold H2;have hl:lim (λn=>zA [gS p.b6 q.b6,gS p.Part q.Part,g_ p.bL q.bL] n 0)=some (hv p q):=by
  refine eP 4 λn aS=>?_;obtain⟨n,rfl⟩:∃k,n=k+4:=⟨n-4,by omega⟩
  have g0:∀x y z:Int,bl [x,y,z] 0=some x:=λ_ _ _=>rfl;have g1:∀x y z:Int,bl [x,y,z] (IntKind.i64.wrap (0+1))=some y:=λ_ _ _=>rfl;have g2:∀x y z:Int,bl [x,y,z] (IntKind.i64.wrap (IntKind.i64.wrap (0+1)+1))=some z:=λ_ _ _=>rfl;have d0:∀x y z:Int,decide ((0:Int)<(([x,y,z]:alQ).length:Int))=true:=λ_ _ _=>rfl;have d1:∀x y z:Int,decide (IntKind.i64.wrap (0+1)<(([x,y,z]:alQ).length:Int))=true:=λ_ _ _=>rfl;have d2:∀x y z:Int,decide (IntKind.i64.wrap (IntKind.i64.wrap (0+1)+1)<(([x,y,z]:alQ).length:Int))=true:=λ_ _ _=>rfl;have d3:∀x y z:Int,decide (IntKind.i64.wrap (IntKind.i64.wrap (IntKind.i64.wrap (0+1)+1)+1)<(([x,y,z]:alQ).length:Int))=false:=λ_ _ _=>rfl;simp only[zA,OR,d0,d1,d2,d3,g0,g1,g2,cond_true,cond_false,bind_some];unfold hv;by_cases ab:gS p.b6 q.b6=0
  .rw[if_pos ab,ab];by_cases ae:gS p.Part q.Part=0
   .rw[if_pos ae,ae];by_cases az:g_ p.bL q.bL=0
    .rw[az];rfl
    .rw[show(g_ p.bL q.bL !=0)=true by simpa using az];rfl
   .rw[if_neg ae,show(gS p.Part q.Part !=0)=true by simpa using ae];rfl
  .rw[if_neg ab,show(gS p.b6 q.b6 !=0)=true by simpa using ab];rfl
 rw[hl];rfl
theorem qC {a b:Int}:gS a b=0↔a=b:=by unfold gS;split<;>(try split)<;>omega
theorem JW (a b:Int):gS b a= -gS a b:=by unfold gS;split<;>split<;>(try split)<;>(try split)<;>omega
theorem Qx:∀{a b:alQ},g_ a b=0↔a=b
 |[],[]=>by simp[g_]
 |[],_::_=>by simp[g_]
 |_::_,[]=>by simp[g_]
 |x::a,y::b=>by
  simp only[g_];split
  .rename_i h;rw[Qx,List.cons.injEq,qC.1 h];simp
  .rename_i h;constructor
   .intro ae;exact(h ae).elim
   .intro ae;exact(h (qC.2 (List.cons.inj ae).1)).elim
theorem Qy:∀a b:alQ,g_ b a= -g_ a b
 |[],[]=>rfl
 |[],_::_=>rfl
 |_::_,[]=>rfl
 |x::a,y::b=>by
  have ab:=JW x y;simp only[g_];by_cases h:gS x y=0
  .rw[if_pos h,if_pos (by omega),Qy a b]
  .rw[if_neg h,if_neg (by omega),ab]
theorem JX {a b:Int}:gS a b<=0↔a<=b:=by unfold gS;split<;>(try split)<;>omega
theorem Qz:∀{a b c:alQ},g_ a b<=0->g_ b c<=0->g_ a c<=0
 |[],b,[],_,_=>by simp[g_]
 |[],b,_::_,_,_=>by simp[g_]
 |_::_,[],c,h,_=>by simp[g_]at h
 |_::_,_::_,[],_,h=>by simp[g_]at h
 |x::a,y::b,z::c,ab,ae=>by
  simp only[g_]at ab ae⊢;by_cases aR:gS x y=0
  .have xK:=qC.1 aR;subst xK;rw[if_pos aR]at ab;by_cases aV:gS x z=0
   .rw[if_pos aV]at ae⊢;exact Qz ab ae
   .rw[if_neg aV]at ae⊢;exact ae
  .rw[if_neg aR]at ab;have g1:=JX.1 ab;have g2:y<=z:=by
    by_cases aV:gS y z=0
    .rw[qC.1 aV];exact Int.le_refl _
    .rw[if_neg aV]at ae;exact JX.1 ae
   have g3:x≠y:=λe=>aR (qC.2 e);rw[if_neg (λe=>by have:=qC.1 e;omega)];exact JX.2 (by omega)
theorem AA {p q:aT}:hv p q=0↔p=q:=by
 cases p;cases q;unfold hv;simp only[aT.mk.injEq];split
 .rename_i h;split
  .rename_i ae;rw[Qx];exact⟨λaz=>⟨qC.1 h,qC.1 ae,az⟩,λaz=>az.2.2⟩
  .rename_i ae;exact⟨λaz=>(ae az).elim,λaz=>(ae (qC.2 az.2.1)).elim⟩
 .rename_i h;exact⟨λaz=>(h az).elim,λaz=>(h (qC.2 az.1)).elim⟩
theorem QA (p q:aT):hv q p= -hv p q:=by
 unfold hv;have ab:=JW p.b6 q.b6;have ae:=JW p.Part q.Part;have az:=Qy p.bL q.bL;by_cases aR:gS p.b6 q.b6=0
 .rw[if_pos aR,if_pos (by omega)];by_cases aV:gS p.Part q.Part=0
  .rw[if_pos aV,if_pos (by omega),az]
  .rw[if_neg aV,if_neg (by omega),ae]
 .rw[if_neg aR,if_neg (by omega),ab]
theorem ag0 {p q r:aT} (ab:hv p q<=0) (ae:hv q r<=0):hv p r<=0:=by
 have key:∀p q:aT,hv p q=g_ [p.b6,p.Part] [q.b6,q.Part]\/(g_ [p.b6,p.Part] [q.b6,q.Part]=0/\hv p q=g_ p.bL q.bL):=by
  intro p q;unfold hv;simp only[g_];by_cases aR:gS p.b6 q.b6=0
  .rw[if_pos aR,if_pos aR];by_cases aV:gS p.Part q.Part=0
   .rw[if_pos aV,if_pos aV];exact .inr ⟨rfl,rfl⟩
   .rw[if_neg aV,if_neg aV];exact .inl rfl
  .rw[if_neg aR,if_neg aR];exact .inl rfl
 have full:∀p q:aT,hv p q=g_ (p.b6::p.Part::p.bL) (q.b6::q.Part::q.bL):=by
  intro p q;unfold hv;simp only[g_]
 rw[full]at ab ae⊢;exact Qz ab ae
def ek:aml->aml->Int
 |[],[]=>0
 |[],_::_=> -1
 |_::_,[]=>1
 |p::a,q::b=>if hv p q=0 then ek a b else hv p q
def AB (a b:aml) (i:Nat):alT:=if i=a.length then some (if a.length<b.length then-1 else 0)else if b.length<=i then some 1 else some (ek (a.drop i) (b.drop i))
theorem JY (a b:aml) (i:Nat) (ab:i<=a.length) (ae:i<=b.length):AB a b i=some (ek (a.drop i) (b.drop i)):=by
 unfold AB;by_cases h:i=a.length
 .subst h;rw[if_pos rfl,List.drop_of_length_le (Nat.le_refl _)];by_cases az:a.length<b.length
  .rw[if_pos az,drop_cons b _ az];rfl
  .rw[if_neg az,List.drop_of_length_le (by omega)];rfl
 .rw[if_neg h];by_cases az:b.length<=i
  .rw[if_pos az,drop_cons a i (by omega),List.drop_of_length_le az];rfl
  .rw[if_neg az]
theorem Dq (a b:aml) (h:mz a=true):v8 a b=some (ek a b):=by
 simp only[mz,Bool.and_eq_true,decide_eq_true_eq,List.all_eq_true]at h;obtain⟨hl,aJ⟩:=h;have key:CX a b=some (ek a b):=by
  unfold CX;rw[nL (n:=a.length) (l:=v7 a b) (AB a b) (λm=>?_) (λi ao m ih=>?_)]
  .rw[JY a b 0 (zero_le _) (zero_le _),List.drop_zero,List.drop_zero]
  .simp only[v7,H3];rw[eJ (Nat.le_refl _),cond_false];unfold AB;rw[if_pos rfl];by_cases az:a.length<b.length
   .rw[if_pos az,show decide ((a.length:Int)<(b.length:Int))=true from decide_eq_true (by omega)];rfl
   .rw[if_neg az,show decide ((a.length:Int)<(b.length:Int))=false from decide_eq_false (by omega)];rfl
  .simp only[v7,H3];rw[fA ao,cond_true,e9 _ i ao];simp only[bind_some];by_cases az:b.length<=i
   .rw[show decide ((b.length:Int)<=(i:Int))=true from decide_eq_true (by omega),cond_true];unfold AB;rw[if_neg (by omega),if_pos az]
   .rw[show decide ((b.length:Int)<=(i:Int))=false from decide_eq_false (by omega),cond_false,e9 _ i (by omega),fu i _ ao (by omega)];simp only[bind_some];rw[agZ _ _ (aJ _ (List.getElem_mem ao))];simp only[bind_some];rw[JY a b i (by omega) (by omega),ih,JY a b (i+1) (by omega) (by omega),drop_cons a i ao,drop_cons b i (by omega),ek];by_cases an:hv a[i] b[i]=0
    .rw[if_pos an,an];rfl
    .rw[if_neg an,show(hv a[i] b[i] !=0)=true by simpa using an];rfl
 unfold v8;rw[key];rfl
theorem sA:∀{a b:aml},ek a b=0↔a=b
 |[],[]=>by simp[ek]
 |[],_::_=>by simp[ek]
 |_::_,[]=>by simp[ek]
 |x::a,y::b=>by
  simp only[ek];split
  .rename_i h;rw[sA,List.cons.injEq,AA.1 h];simp
  .rename_i h;constructor
   .intro ae;exact(h ae).elim
   .intro ae;exact(h (AA.2 (List.cons.inj ae).1)).elim
theorem mZ:∀a b:aml,ek b a= -ek a b
 |[],[]=>rfl
 |[],_::_=>rfl
 |_::_,[]=>rfl
 |x::a,y::b=>by
  have ab:=QA x y;simp only[ek];by_cases h:hv x y=0
  .rw[if_pos h,if_pos (by omega),mZ a b]
  .rw[if_neg h,if_neg (by omega),ab]
theorem wB:∀{a b c:aml},ek a b<=0->ek b c<=0->ek a c<=0
 |[],b,[],_,_=>by simp[ek]
 |[],b,_::_,_,_=>by simp[ek]
 |_::_,[],c,h,_=>by simp[ek]at h
 |_::_,_::_,[],_,h=>by simp[ek]at h
 |x::a,y::b,z::c,ab,ae=>by
  simp only[ek]at ab ae⊢;by_cases aR:hv x y=0
  .have xK:=AA.1 aR;subst xK;rw[if_pos aR]at ab;by_cases aV:hv x z=0
   .rw[if_pos aV]at ae⊢;exact wB ab ae
   .rw[if_neg aV]at ae⊢;exact ae
  .rw[if_neg aR]at ab;have Bb:hv y z<=0:=by
    by_cases aV:hv y z=0
    .omega
    .rw[if_neg aV]at ae;exact ae
   have az:=ag0 ab Bb;rw[if_neg λe=>?_]
   .exact az
   .have e:=AA.1 e;subst e;have:=QA x y;omega
theorem IP (a b:aml) (h:mz a=true):zC a b=some (ek a b==0):=by
 unfold zC;rw[Dq a b h,bind_some]
section
variable {α β:Type}
def ur (p:α->Bool):Nat->List α->Int
 |_,[]=> -1
 |i,x::r=>if p x=true then(i:Int)else ur p (i+1) r
theorem QB (p:α->Bool):∀(r:List α) (i:Nat),decide (0<=ur p i r)=r.any p
 |[],i=>by simp[ur]
 |x::r,i=>by
  simp only[ur,List.any_cons];by_cases h:p x=true
  .simp[h]
  .have e:p x=false:=by simpa using h
   simp[e,QB p r (i+1)]
theorem ag1 {l:Nat->Int->alT} (a:List α) (p:α->Bool) (aX:∀m,l (m+1) (a.length:Int)=some (-1))
  (ad:∀i (h:i<a.length) m,l (m+1) (i:Int)=cond (p a[i]) (some (i:Int)) (l m ((i+1:Nat):Int))):lim (λm=>l m 0)=some (ur p 0 a):=by
 have key:∀i,i<=a.length->∀m,a.length-i<m->l m (i:Int)=some (ur p i (a.drop i)):=by
  refine down a.length ?_ ?_
  .intro m hm;obtain⟨m,rfl⟩:∃j,m=j+1:=⟨m-1,by omega⟩
   rw[aX,List.drop_of_length_le (Nat.le_refl _)];rfl
  .intro i ao ih m hm;obtain⟨m,rfl⟩:∃j,m=j+1:=⟨m-1,by omega⟩
   rw[ad i ao m,ih m (by omega),drop_cons a i ao];simp only[ur];cases p a[i]<;>rfl
 refine eP (a.length+1) λm hm=>?_;have:=key 0 (by omega) m (by omega);simpa using this
end
def pq (n:Nat) (x:Int):Bool:=decide (0<=x)&&decide (x<(n:Int))
theorem JZ {b n:Nat} (h:n<=1048577) (R:b<=4096):room b n=some ():=by
 have ab:n*b<=1048577*4096:=Nat.mul_le_mul h R;unfold room;rw[if_pos ⟨by omega,by omega⟩]
theorem QC (e:alQ) (h:e.length<=1048576):zy e=some e:=by
 unfold zy;rw[JZ (by omega) (by omega)];cases e with
 |nil=>simp[both]
 |cons x r=>rfl
theorem ag2 (e:alQ) (h:e.length<=1048576):za e=some e:=by
 unfold za;rw[JZ (by omega) (by omega)];rfl
def km (q:aml) (o:alQ):aml:=o.map λx=>q.getD x.toNat ⟨0,0,[]⟩
theorem QD {l:Nat->aml->Int->Option aml} {f:aT->Option aT} (q:aml) (o:alQ)
  (lg:∀m v i,l (m+1) v i=cond (decide (i<(o.length:Int))) ((bl o i).bind λx=>(bl q x).bind λy=>(f y).bind λz=>(room 40 (v.length+1)).bind λ_=>l m (v++[z]) (IntKind.i64.wrap (i+1))) (some v))
  (bo:∀y∈q,f y=some y) (bE:o.length<=1048576) (l1:∀x∈o,pq q.length x=true):lim (λm=>l m [] 0)=some (km q o):=by
 have key:∀d m (v:aml) (i:Nat),i+d=o.length->d<m->v.length=i->l m v (i:Int)=some (v++km q (o.drop i)):=by
  intro d;induction d with
  |zero=>
   intro m v i ao hm aJ;obtain⟨m,rfl⟩:∃k,m=k+1:=⟨m-1,by omega⟩
   rw[lg,eJ (by omega),List.drop_of_length_le (by omega)];simp[km]
  |succ d ih=>
   intro m v i ao hm aJ;obtain⟨m,rfl⟩:∃k,m=k+1:=⟨m-1,by omega⟩
   have ab:i<o.length:=by omega
   have au:=l1 o[i] (List.getElem_mem ab);simp only[pq,Bool.and_eq_true,decide_eq_true_eq]at au;have ax:o[i].toNat<q.length:=by omega
   rw[lg,fA ab,e9 o i ab,drop_cons o i ab];simp only[cond_true,bind_some];rw[D9 (by omega) ax];simp only[bind_some];rw[bo _ (List.getElem_mem ax),JZ (by omega) (by omega)];simp only[bind_some];rw[fu i _ ab (by omega),ih m _ (i+1) (by omega) (by omega) (by simp[aJ])];simp only[km,List.map_cons,List.append_assoc,List.singleton_append,List.getD_eq_getElem?_getD,List.getElem?_eq_getElem ax,getD_some]
 exact eP (o.length+1) λm hm=>(key o.length m [] 0 (by omega) (by omega) rfl).trans (by simp)
theorem QE (q:aml) (o:alQ) (aJ:∀p∈q,p.bL.length<=1048576) (bE:o.length<=1048576) (h:∀x∈o,pq q.length x=true):Cn q o=some (km q o):=by
 unfold Cn;refine QD (f:=λy=>(za y.bL).bind λaO=>some (aT.mk y.b6 y.Part aO)) q o (λm v i=>?_) (λy bb=>by rw[ag2 _ (aJ y bb)];rfl) bE h;simp only[Cm,OP,Option.bind_assoc,bind_some]
theorem ag3 (q:aml) (o:alQ) (aJ:∀p∈q,p.bL.length<=1048576) (bE:o.length<=1048576) (h:∀x∈o,pq q.length x=true):CT q o=some (km q o):=by
 unfold CT;exact QD (f:=CS) q o (λm v i=>rfl) (λy bb=>by unfold CS;rw[QC _ (aJ y bb)];rfl) bE h
theorem ag4 (S:alQ) (v:Int) (h:S.length<=1048576):CP S v=some (decide (v∈S)):=by
 unfold CP HV;rw[ag1 S (λx=>v==x) (λm=>by
  simp only[zx,HU];rw[eJ (Nat.le_refl _)];rfl) (λi ao m=>by
  simp only[zx,HU];rw[fA ao,e9 _ i ao,fu i _ ao (by omega)];simp only[cond_true,bind_some])]
 simp only[bind_some];rw[QB];congr 1;rw[Bool.eq_iff_iff];simp only[List.any_eq_true,beq_iff_eq,decide_eq_true_eq];constructor
 .rintro⟨x,au,rfl⟩;exact au
 .intro au;exact⟨v,au,rfl⟩
def DW (n:Nat) (o:alQ):List alQ:=((List.range n).filter λi=> !decide (((i:Nat):Int)∈o)).map λi=>o++[((i:Nat):Int)]
def rE (n:Nat) (o:alQ) (i:Nat):List alQ:=(((List.range n).drop i).filter λi=> !decide (((i:Nat):Int)∈o)).map λi=>o++[((i:Nat):Int)]
def ir (n:Nat):Nat->List alQ
 |0=>[[]]
 |k+1=>(ir n k).flatMap (DW n)
theorem QF (n:Nat) (o:alQ) (i:Nat):(rE n o i).length<=n-i:=by
 unfold rE;rw[List.length_map];refine Nat.le_trans (List.length_filter_le _ _) ?_;simp
theorem ag5 (n:Nat) (o:alQ) (i:Nat) (ao:i<n):rE n o i=(if((i:Nat):Int)∈o then []else [o++[((i:Nat):Int)]])++rE n o (i+1):=by
 unfold rE;rw[List.drop_eq_getElem_cons (by simpa using ao),List.getElem_range,List.filter_cons];by_cases h:((i:Nat):Int)∈o
 .rw[if_pos h];simp[h]
 .rw[if_neg h];simp[h]
theorem ag6 (n:Nat) (aS:n<=3) (dM:List alQ->Int->Option (List alQ)) (om:List alQ->List alQ->Int->Int->Int->Option (List alQ)) (o:alQ) (bE:o.length<=3) (v3:List alQ) (a b c:Int):
  ∀i,i<=n->∀m,n-i<m->∀(v4:List alQ),v4.length+(n-i)<=1000->tX dM om (n:Int) o m v3 v4 a b c (i:Int)=om v3 (v4++rE n o i) a b (IntKind.i64.wrap (c+1)):=by
 refine down n ?_ ?_
 .intro m hm v4 _;obtain⟨m,rfl⟩:∃j,m=j+1:=⟨m-1,by omega⟩
  simp only[tX,HW];rw[show decide (((n:Nat):Int)<(n:Int))=false from by simp,cond_false];have:rE n o n=[]:=List.length_eq_zero_iff.1 (by have:=QF n o n;omega);rw[this,List.append_nil]
 .intro i ao ih m hm v4 aJ;obtain⟨m,rfl⟩:∃j,m=j+1:=⟨m-1,by omega⟩
  simp only[tX,HW];rw[show decide (((i:Nat):Int)<(n:Int))=true from decide_eq_true (by omega),cond_true,ag4 o _ (by omega),bind_some,ag5 n o i ao];have hw:IntKind.i64.wrap (((i:Nat):Int)+1)=((i+1:Nat):Int):=by rw[eN _ (by omega)];omega
  by_cases h:((i:Nat):Int)∈o
  .rw[decide_eq_true h,if_pos h];simp only[Bool.not_true,cond_false,zz,List.nil_append];rw[hw,ih m (by omega) v4 (by omega)]
  .rw[decide_eq_false h,if_neg h];simp only[Bool.not_false,cond_true,zz];rw[QC o (by omega),bind_some,Ay (by omega) (by omega),bind_some,Ay (by omega) (by omega),bind_some,hw,ih m (by omega) _ (by simp;omega),List.append_assoc]
theorem ag7 (n:Nat) (aS:n<=3) (dM:List alQ->Int->Option (List alQ)) (v3:List alQ) (alI:v3.length<=6) (bE:∀o∈v3,o.length<=3) (a:Int):
  ∀j,j<=v3.length->∀m,v3.length-j<m->∀(v4:List alQ),v4.length+3*(v3.length-j)<=100->qo dM (n:Int) m v3 v4 a (v3.length:Int) (j:Int)=dM (v4++(v3.drop j).flatMap (DW n)) (IntKind.i64.wrap (a+1)):=by
 refine down v3.length ?_ ?_
 .intro m hm v4 _;obtain⟨m,rfl⟩:∃j,m=j+1:=⟨m-1,by omega⟩
  simp only[qo,HX];rw[eJ (Nat.le_refl _),cond_false,List.drop_length,List.flatMap_nil,List.append_nil]
 .intro j bm ih m hm v4 aJ;obtain⟨m,rfl⟩:∃k,m=k+1:=⟨m-1,by omega⟩
  simp only[qo,HX];rw[fA bm,cond_true,e9 _ j bm,bind_some];have he:rE n v3[j] 0=DW n v3[j]:=by unfold rE DW;rw[List.drop_zero]
  have hle:=QF n v3[j] 0;refine eP (n+1) λq b1=>?_;have ab:=ag6 n aS dM (qo dM (n:Int) m) v3[j] (bE _ (List.getElem_mem bm)) v3 a (v3.length:Int) (j:Int) 0 (by omega) q (by omega) v4 (by omega);rw[show((0:Nat):Int)=0 from rfl]at ab;rw[ab,he,fu j _ bm (by omega),ih m (by omega) _ (by rw[List.length_append,<-he];omega),drop_cons v3 j bm,List.flatMap_cons,List.append_assoc]
theorem DX (n:Nat) (aS:n<=3):∀k,k<=n->(ir n k).length<=6/\∀o∈ir n k,o.length<=3:=by
 have:n=0\/n=1\/n=2\/n=3:=by omega
 rcases this with rfl|rfl|rfl|rfl<;>decide
theorem ag8 (n:Nat) (aS:n<=3):CR (n:Int)=some (ir n n):=by
 unfold CR;have key:∀k,k<=n->∀m,n-k<m->mY (n:Int) m (ir n k) (k:Int)=some (ir n n):=by
  refine down n ?_ ?_
  .intro m hm;obtain⟨m,rfl⟩:∃j,m=j+1:=⟨m-1,by omega⟩
   simp only[mY,HY];rw[show decide (((n:Nat):Int)<(n:Int))=false from by simp,cond_false]
  .intro k ax ih m hm;obtain⟨m,rfl⟩:∃j,m=j+1:=⟨m-1,by omega⟩
   obtain⟨g1,g2⟩:=DX n aS k (by omega);simp only[mY,HY];rw[show decide (((k:Nat):Int)<(n:Int))=true from decide_eq_true (by omega),cond_true];refine eP ((ir n k).length+1) λq b1=>?_;have ab:=ag7 n aS (mY (n:Int) m) (ir n k) g1 g2 (k:Int) 0 (by omega) q (by omega) [] (by simp;omega);rw[show((0:Nat):Int)=0 from rfl]at ab;rw[ab,List.drop_zero,List.nil_append,eN _ (by omega)];exact ih m (by omega)
 refine eP (n+1) λm hm=>?_;exact key 0 (by omega) m (by omega)
theorem ag9:j0 [0]=some (false,[0]):=by
 unfold j0;refine eP 6 λm hm=>?_;obtain⟨m,rfl⟩:∃j,m=j+6:=⟨m-6,by omega⟩
 rfl
theorem ag_:j0 [0,1]=some (true,[1,0]):=by
 have ab:(lim λm=>qh m [1,0] 1 1)=some (true,[1,0]):=by
  refine eP 6 λm hm=>?_;obtain⟨m,rfl⟩:∃j,m=j+6:=⟨m-6,by omega⟩
  rfl
 have ae:(lim λm=>o7 [0,1] m 0 1)=some (true,[1,0]):=by
  refine eP 6 λm hm=>?_;obtain⟨m,rfl⟩:∃j,m=j+6:=⟨m-6,by omega⟩
  exact ab
 unfold j0;refine eP 6 λm hm=>?_;obtain⟨m,rfl⟩:∃j,m=j+6:=⟨m-6,by omega⟩
 exact ae
theorem aha:j0 [1,0]=some (false,[1,0]):=by
 unfold j0;refine eP 6 λm hm=>?_;obtain⟨m,rfl⟩:∃j,m=j+6:=⟨m-6,by omega⟩
 rfl
theorem ahb:j0 [0,1,2]=some (true,[0,2,1]):=by
 have ab:(lim λm=>qh m [0,2,1] 2 2)=some (true,[0,2,1]):=by
  refine eP 6 λm hm=>?_;obtain⟨m,rfl⟩:∃j,m=j+6:=⟨m-6,by omega⟩
  rfl
 have ae:(lim λm=>o7 [0,1,2] m 1 2)=some (true,[0,2,1]):=by
  refine eP 6 λm hm=>?_;obtain⟨m,rfl⟩:∃j,m=j+6:=⟨m-6,by omega⟩
  exact ab
 unfold j0;refine eP 6 λm hm=>?_;obtain⟨m,rfl⟩:∃j,m=j+6:=⟨m-6,by omega⟩
 exact ae
theorem ahc:j0 [0,2,1]=some (true,[1,0,2]):=by
 have ab:(lim λm=>qh m [1,2,0] 1 2)=some (true,[1,0,2]):=by
  refine eP 6 λm hm=>?_;obtain⟨m,rfl⟩:∃j,m=j+6:=⟨m-6,by omega⟩
  rfl
 have ae:(lim λm=>o7 [0,2,1] m 0 2)=some (true,[1,0,2]):=by
  refine eP 6 λm hm=>?_;obtain⟨m,rfl⟩:∃j,m=j+6:=⟨m-6,by omega⟩
  exact ab
 unfold j0;refine eP 6 λm hm=>?_;obtain⟨m,rfl⟩:∃j,m=j+6:=⟨m-6,by omega⟩
 exact ae
theorem ahd:j0 [1,0,2]=some (true,[1,2,0]):=by
 have ab:(lim λm=>qh m [1,2,0] 2 2)=some (true,[1,2,0]):=by
  refine eP 6 λm hm=>?_;obtain⟨m,rfl⟩:∃j,m=j+6:=⟨m-6,by omega⟩
  rfl
 have ae:(lim λm=>o7 [1,0,2] m 1 2)=some (true,[1,2,0]):=by
  refine eP 6 λm hm=>?_;obtain⟨m,rfl⟩:∃j,m=j+6:=⟨m-6,by omega⟩
  exact ab
 unfold j0;refine eP 6 λm hm=>?_;obtain⟨m,rfl⟩:∃j,m=j+6:=⟨m-6,by omega⟩
 exact ae
theorem ahe:j0 [1,2,0]=some (true,[2,0,1]):=by
 have ab:(lim λm=>qh m [2,1,0] 1 2)=some (true,[2,0,1]):=by
  refine eP 6 λm hm=>?_;obtain⟨m,rfl⟩:∃j,m=j+6:=⟨m-6,by omega⟩
  rfl
 have ae:(lim λm=>o7 [1,2,0] m 0 2)=some (true,[2,0,1]):=by
  refine eP 6 λm hm=>?_;obtain⟨m,rfl⟩:∃j,m=j+6:=⟨m-6,by omega⟩
  exact ab
 unfold j0;refine eP 6 λm hm=>?_;obtain⟨m,rfl⟩:∃j,m=j+6:=⟨m-6,by omega⟩
 exact ae
theorem ahf:j0 [2,0,1]=some (true,[2,1,0]):=by
 have ab:(lim λm=>qh m [2,1,0] 2 2)=some (true,[2,1,0]):=by
  refine eP 6 λm hm=>?_;obtain⟨m,rfl⟩:∃j,m=j+6:=⟨m-6,by omega⟩
  rfl
 have ae:(lim λm=>o7 [2,0,1] m 1 2)=some (true,[2,1,0]):=by
  refine eP 6 λm hm=>?_;obtain⟨m,rfl⟩:∃j,m=j+6:=⟨m-6,by omega⟩
  exact ab
 unfold j0;refine eP 6 λm hm=>?_;obtain⟨m,rfl⟩:∃j,m=j+6:=⟨m-6,by omega⟩
 exact ae
theorem ahg:j0 [2,1,0]=some (false,[2,1,0]):=by
 unfold j0;refine eP 6 λm hm=>?_;obtain⟨m,rfl⟩:∃j,m=j+6:=⟨m-6,by omega⟩
 rfl
inductive lD:List alQ->Prop
 |last {o:alQ} (h:j0 o=some (false,o)):lD [o]
 |step {o p:alQ} {l:List alQ} (h:j0 o=some (true,p)) (hl:lD (p::l)):lD (o::p::l)
theorem ahh:lD (ir 1 1):=.last ag9
theorem ahi:lD (ir 2 2):=.step ag_ (.last aha)
theorem ahj:lD (ir 3 3):=.step ahb (.step ahc (.step ahd (.step ahe (.step ahf (.last ahg)))))
theorem ahk (n:Nat) (ab:1<=n) (az:n<=3):lD (ir n n):=by
 have:n=1\/n=2\/n=3:=by omega
 rcases this with rfl|rfl|rfl
 .exact ahh
 .exact ahi
 .exact ahj
theorem QG (n:Nat) (ab:1<=n) (az:n<=3):∃l,ir n n=((List.range n).map λ(i:Nat)=>(i:Int))::l:=by
 have:n=1\/n=2\/n=3:=by omega
 rcases this with rfl|rfl|rfl
 .exact⟨_,rfl⟩
 .exact⟨_,rfl⟩
 .exact⟨_,rfl⟩
theorem AD (n:Nat) (az:n<=3):∀o∈ir n n,o.length=n/\∀x∈o,pq n x=true:=by
 have:n=0\/n=1\/n=2\/n=3:=by omega
 rcases this with rfl|rfl|rfl|rfl<;>decide
end Go.l3
