/- Part of a proof that a law returns true for every input. No condition. -/
import Derived.Test.YtklcmlnabkfneaaGreatFwA
import Derived.IntWalk
import Derived.Test.YtklcmlnabkfneaaGreatP6
namespace Go.ll
open Option Nat Or
open Go Go.cU
theorem gl (n:Int) (h: -9223372036854775808<=n/\n<=9223372036854775807):IntKind.i64.wrap n=n:=IntWalk.i64_in n h
theorem k2 {α:Type} (a:List α) (i:Nat) (d:α) (h:i<a.length):bm a (i:Int)=some (a.getD i d):=by
 rw[Cv (by omega) (by simpa using h)];simp[List.getD,h]
theorem eP {α:Type} (a:List α) (i:Nat) (h:i<a.length):bm a (i:Int)=some a[i]:=by
 rw[Cv (by omega) (by simpa using h)];rfl
theorem N7 {α:Type} (a:List α) (n:Nat) (h:n<=a.length):kJ a 0 (n:Int)=some (a.take n):=by
 unfold kJ;rw[if_pos (by omega)];simp
theorem e5 (i n:Nat) (h:i<n) (aP:n<=4611686018427387904):IntKind.i64.wrap ((i:Int)+1)=((i+1:Nat):Int):=by
 rw[gl _ (by omega)];omega
theorem fe {i n:Nat} (h:i<n):decide ((i:Int)<(n:Int))=true:=by simp;omega
theorem fq {i n:Nat} (h:n<=i):decide ((i:Int)<(n:Int))=false:=by simp;omega
theorem N8 {α:Type} (c:α) (r:List α):bm (c::r) 0=some c:=rfl
theorem vg {n:Nat} (h:0<n):decide ((0:Int)<(n:Int))=true:=by simp;omega
theorem adL:IntKind.i64.wrap (0+1)=1:=by decide
theorem down (n:Nat) {P:Nat->Prop} (a7:P n) (U:∀i,i<n->P (i+1)->P i):∀i,i<=n->P i:=by
 have key:∀d,d<=n->P (n-d):=by
  intro d;induction d with
  |zero=>intro _;exact a7
  |succ d ih=>
   intro ag;have:=ih (by omega);refine U _ (by omega) ?_;rw[show n-(d+1)+1=n-d by omega];exact this
 intro i ak;have:=key (n-i) (by omega)
 rwa [show n-(n-i)=i by omega]at this
theorem up {β:Type} {l:Nat->Int->Option β} {n:Nat} (F:Nat->Option β) (a7:∀m,l (m+1) (n:Int)=F n)
  (U:∀i,i<n->∀m,(l m ((i+1:Nat):Int)=F (i+1))->l (m+1) (i:Int)=F i):∀i,i<=n->∀m,n-i<m->l m (i:Int)=F i:=by
 refine down n ?_ ?_
 .intro m hm;obtain⟨k,rfl⟩:∃k,m=k+1:=⟨m-1,by omega⟩
  exact a7 k
 .intro i ak ih m hm;obtain⟨k,rfl⟩:∃k,m=k+1:=⟨m-1,by omega⟩
  exact U i ak k (ih k (by omega))
theorem mN {β:Type} {l:Nat->Int->Option β} {n:Nat} (F:Nat->Option β) (a7:∀m,l (m+1) (n:Int)=F n)
  (U:∀i,i<n->∀m,(l m ((i+1:Nat):Int)=F (i+1))->l (m+1) (i:Int)=F i):lim (λm=>l m 0)=F 0:=
 eF (n+1) λm hm=>up F a7 U 0 (by omega) m (by omega)
theorem drop_cons {α:Type} (a:List α) (i:Nat) (h:i<a.length):a.drop i=a[i]::a.drop (i+1):=List.drop_eq_getElem_cons h
def gP (n:Int) (s:Nat):Int:=if(s:Int)<=n then n-s else-1
theorem yV {n:Int} {s:Nat} (h:(s:Int)<=n):gP n s=n-s:=if_pos h
theorem yW {n:Int} {s:Nat} (h:n<s):gP n s= -1:=if_neg (by omega)
theorem adM {n:Int} (h:0<=n):gP n 0=n:=by rw[yV (by simpa using h)];simp
theorem pD {f:aiC} {k:Int->aiC} {n:Int} {s t:Nat} (bn:f=some (gP n s)) (aw:(s:Int)<=n->k (n-s)=some (gP (n-s) t)):
  (f.bind λx=>cond (decide (x<0)) (some (-1)) (k x))=some (gP n (s+t)):=by
 rw[bn];simp only[bind_some];by_cases h:(s:Int)<=n
 .rw[yV h];have:decide (n-(s:Int)<0)=false:=by simp;omega
  rw[this,cond_false,aw h];congr 1;unfold gP;by_cases ad:(t:Int)<=n-s
  .rw[if_pos ad,if_pos (by omega)];omega
  .rw[if_neg ad,if_neg (by omega)]
 .rw[yW (by omega)];have:decide ((-1:Int)<0)=true:=by decide
  rw[this,cond_true,yW (by omega)]
theorem lV {K:aiC} {n:Int} {s t:Nat} (U:s<=9223372036854775807) (a7:0<=n) (aP:n<=1048576) (aw:(s:Int)<=n->K=some (gP (n-s) t)):
  cond (decide (IntKind.i64.wrap (n-(s:Int))<0)) (some (-1)) K=some (gP n (s+t)):=by
 rw[gl _ (by omega)];by_cases h:(s:Int)<=n
 .have:decide (n-(s:Int)<0)=false:=by simp;omega
  rw[this,cond_false,aw h];congr 1;unfold gP;by_cases ad:(t:Int)<=n-s
  .rw[if_pos ad,if_pos (by omega)];omega
  .rw[if_neg ad,if_neg (by omega)]
 .have:decide (n-(s:Int)<0)=true:=by simp;omega
  rw[this,cond_true,yW (by omega)]
theorem qx {n:Int} (h:0<=n):some n=some (gP n 0):=by rw[adM h]
def nC {α:Type} (f:α->Nat):List α->Nat
 |[]=>0
 |x::r=>f x+nC f r
theorem N9 {α:Type} {f:α->Nat}:∀{l:List α} {x:α},x∈l->f x<=nC f l
 |y::r,x,h=>by
  simp only[nC];rcases List.mem_cons.1 h with rfl|h
  .omega
  .have:=N9 (f:=f) h;omega
theorem N_ {α β:Type} {f:β->Nat} {g:α->β}:∀l:List α,nC f (l.map g)=nC (λx=>f (g x)) l
 |[]=>rfl
 |x::r=>by simp only[List.map_cons,nC,N_ r]
def eE {α:Type} (f:α->Nat) (l:List α):Nat:=l.length+nC f l
theorem s8 {α β:Type} (f:β->Nat) (g:α->β) (l:List α):eE f (l.map g)=eE (λx=>f (g x)) l:=by simp only[eE,List.length_map,N_]
theorem ju {α:Type} (f:α->Nat) (l:List α):l.length<=eE f l:=le_add_right _ _
theorem j4 {α:Type} {f:α->Nat} {l:List α} {x:α} (h:x∈l):f x<=eE f l:=Nat.le_trans (N9 h) (le_add_left _ _)
theorem Oa {α:Type} {l:Nat->Int->Int->aiC} {B:α->Int->(Int->aiC)->aiC} (sz:α->Nat) (a:List α)
  (kH:∀m n i,l (m+1) n i=cond (decide (i<(a.length:Int))) ((bm a i).bind λx=>B x n λy=>l m y (IntKind.i64.wrap (i+1))) (some n))
  (bn:∀x∈a,∀(n:Int) (k:Int->aiC) (t:Nat),0<=n->n<=1048576->((sz x:Int)<=n->k (n-sz x)=some (gP (n-sz x) t))->B x n k=some (gP n (sz x+t)))
  (bU:a.length<=1048576) (n:Int) (a7:0<=n) (aP:n<=1048576):lim (λm=>l m n 0)=some (gP n (nC sz a)):=by
 have key:∀i,i<=a.length->∀n:Int,0<=n->n<=1048576->∀m,a.length-i<m->l m n (i:Int)=some (gP n (nC sz (a.drop i))):=by
  refine down a.length ?_ ?_
  .intro n a7 _ m hm;obtain⟨k,rfl⟩:∃k,m=k+1:=⟨m-1,by omega⟩
   rw[kH,fq (Nat.le_refl _),cond_false,List.drop_of_length_le (Nat.le_refl _)];exact qx a7
  .intro i ak ih n a7 aP m hm;obtain⟨k,rfl⟩:∃k,m=k+1:=⟨m-1,by omega⟩
   rw[kH,fe ak,cond_true,eP _ i ak,e5 i _ ak (by omega),drop_cons a i ak];simp only[bind_some,nC];exact bn _ (List.getElem_mem ak) n _ _ a7 aP λh=>ih _ (by omega) (by omega) k (by omega)
 refine eF (a.length+1) λm hm=>?_;have:=key 0 (by omega) n a7 aP m (by omega);simpa using this
theorem vh {α:Type} {l:Nat->Int->Int->aiC} {f:α->Int->aiC} (sz:α->Nat) (a:List α)
  (kH:∀m n i,l (m+1) n i=cond (decide (i<(a.length:Int))) ((bm a i).bind λx=>(f x n).bind λy=>cond (decide (y<0)) (some (-1)) (l m y (IntKind.i64.wrap (i+1)))) (some n))
  (bn:∀x∈a,∀n:Int,0<=n->n<=1048576->f x n=some (gP n (sz x))) (bU:a.length<=1048576) (n:Int) (a7:0<=n) (aP:n<=1048576):lim (λm=>l m n 0)=some (gP n (nC sz a)):=
 Oa (B:=λx n k=>(f x n).bind λy=>cond (decide (y<0)) (some (-1)) (k y)) sz a kH (λx ar n _ _ a7 aP aw=>pD (bn x ar n a7 aP) aw) bU n a7 aP
theorem adN {l:Nat->Int->Int->aiC} (a:aiw)
  (kH:∀m n i,l (m+1) n i=cond (decide (i<(a.length:Int))) ((bm a i).bind λx=>cond (decide (IntKind.i64.wrap (n-(x.length:Int))<0)) (some (-1)) (l m (IntKind.i64.wrap (n-(x.length:Int))) (IntKind.i64.wrap (i+1)))) (some n))
  (bn:∀x∈a,x.length<=9223372036854775807) (bU:a.length<=1048576) (n:Int) (a7:0<=n) (aP:n<=1048576):lim (λm=>l m n 0)=some (gP n (nC List.length a)):=
 Oa (B:=λx n k=>cond (decide (IntKind.i64.wrap (n-(x.length:Int))<0)) (some (-1)) (k (IntKind.i64.wrap (n-(x.length:Int))))) List.length a (by intro m n i;rw[kH]) (by
  intro x ar n k t a7 aP aw;have aO:=bn x ar;refine lV aO a7 aP λh=>?_;have e:IntKind.i64.wrap (n-(x.length:Int))=n-(x.length:Int):=gl _ (by omega);rw[e];exact aw h) bU n a7 aP
theorem qy {α β:Type} {l:Nat->List β->Int->Option (List β)} {f:α->Option β} (g:α->β) (a:List α) (z:β)
  (kH:∀m v i,l (m+1) v i=cond (decide (i<(a.length:Int))) ((bm a i).bind λx=>(f x).bind λy=>(bm v i).bind λ_=>l m (List.set v (Int.toNat i) y) (IntKind.i64.wrap (i+1))) (some v))
  (bn:∀x∈a,f x=some (g x)) (bU:a.length<=1048576):lim (λm=>l m (List.replicate (Int.toNat (a.length:Int)) z) 0)=some (a.map g):=by
 have key:∀i,i<=a.length->∀(v:List β) m,v.length=a.length->a.length-i<m->l m v (i:Int)=some (v.take i++(a.drop i).map g):=by
  refine down a.length ?_ ?_
  .intro v m aH hm;obtain⟨k,rfl⟩:∃k,m=k+1:=⟨m-1,by omega⟩
   rw[kH,fq (Nat.le_refl _)];simp[<-aH]
  .intro i ak ih v m aH hm;obtain⟨k,rfl⟩:∃k,m=k+1:=⟨m-1,by omega⟩
   rw[kH,fe ak,eP _ i ak,e5 i _ ak (by omega)];simp only[cond_true,bind_some,bn _ (List.getElem_mem ak)];rw[eP v i (by omega)];simp only[bind_some,Int.toNat_natCast];rw[ih _ k (by simp[aH]) (by omega),drop_cons a i ak,List.map_cons,List.take_set,List.take_succ_eq_append_getElem (by omega),List.set_append_right _ _ (by simp;omega)];simp[show min i v.length=i by omega]
 refine eF (a.length+1) λm hm=>?_;have:=key 0 (by omega) (List.replicate (Int.toNat (a.length:Int)) z) m (by simp) (by omega);simpa using this
theorem pE (b:Nat) {n:Nat} (h:n<=1048576) (R:b<=4096):lW b (n:Int)=some ():=by
 have ab:b*n<=4096*1048576:=Nat.mul_le_mul R h;have ad:((b:Int)*(n:Int))=((b*n:Nat):Int):=by simp
 unfold lW;rw[if_pos ⟨by omega,by rw[ad];omega,by omega⟩]
theorem s9 {α:Type} {l:Nat->Int->aiB} {f:α->α->aiB} (a:List α)
  (kH:∀m i,l (m+1) i=cond (decide (i<(a.length:Int))) ((bm a i).bind λx=>(bm a i).bind λy=>(f x y).bind λz=>cond (!z) (some false) (l m (IntKind.i64.wrap (i+1)))) (some true))
  (bn:∀x∈a,f x x=some true) (bU:a.length<=1048576):lim (λm=>l m 0)=some true:=by
 rw[mN (n:=a.length) (λ_=>some true)]
 .intro m;rw[kH,fq (Nat.le_refl _)];rfl
 .intro i ak m ih;rw[kH,fe ak,eP _ i ak,e5 i _ ak (by omega),ih];simp only[cond_true,bind_some,bn _ (List.getElem_mem ak),Bool.not_true,cond_false]
theorem Ob {α:Type} {d:α->α->Bool} {l:Nat->Int->aiB} (a:List α)
  (kH:∀m i,l (m+1) i=cond (decide (i<(a.length:Int))) ((bm a i).bind λx=>(bm a i).bind λy=>cond (d x y) (some false) (l m (IntKind.i64.wrap (i+1)))) (some true))
  (ag:∀x,d x x=false) (bU:a.length<=1048576):lim (λm=>l m 0)=some true:=by
 rw[mN (n:=a.length) (λ_=>some true)]
 .intro m;rw[kH,fq (Nat.le_refl _)];rfl
 .intro i ak m ih;rw[kH,fe ak,eP _ i ak,e5 i _ ak (by omega),ih];simp only[cond_true,bind_some,ag,cond_false]
theorem rK (x:Int):(x !=x)=false:=by simp
theorem rL (x:aix):(!(x==x))=false:=by simp
theorem s_ (x:Bool):(!(x==x))=false:=by simp
theorem qz (n:Nat):((n:Int) !=(n:Int))=false:=by simp
def e6 (p:Nat->Bool) (n:Nat):Bool:=(List.range n).all p
theorem rM {p:Nat->Bool} {n:Nat}:e6 p n=true↔∀i,i<n->p i=true:=by simp[e6]
theorem yX {l:Nat->Int->aiB} {n:Nat} (p:Nat->Bool) (a7:∀m,l (m+1) (n:Int)=some true)
  (U:∀i,i<n->∀m,l (m+1) (i:Int)=cond (p i) (l m ((i+1:Nat):Int)) (some false)):lim (λm=>l m 0)=some (e6 p n):=by
 rw[mN (n:=n) (λi=>some ((List.range' i (n-i)).all p))]
 .simp[e6,List.range_eq_range']
 .intro m;rw[a7];simp
 .intro i ak m ih;rw[U i ak,ih,show n-i=(n-(i+1))+1 by omega,List.range'_succ];cases au:p i<;>simp[au]
def pF (p:Nat->Bool):Nat->Nat->Int
 |_,0=> -1
 |i,k+1=>if p i=true then(i:Int)else pF p (i+1) k
theorem Oc {p:Nat->Bool}:∀(k i:Nat),(∀j,i<=j->j<i+k->p j=false)->pF p i k= -1
 |0,_,_=>rfl
 |k+1,i,h=>by
  simp only[pF,h i (Nat.le_refl _) (by omega)];exact Oc k (i+1) λj ab ad=>h j (by omega) (by omega)
theorem Od {p:Nat->Bool}:∀(k i j:Nat),i<=j->j<i+k->p j=true->0<=pF p i k
 |0,i,j,ab,ad,_=>by omega
 |k+1,i,j,ab,ad,aA=>by
  simp only[pF];split
  .omega
  .rename_i h;refine Od k (i+1) j ?_ (by omega) aA;rcases Nat.lt_or_ge i j with h|h
   .exact h
   .have:i=j:=by omega
    subst this;exact absurd aA (by assumption)
theorem ta (p:Nat->Bool) (n:Nat):decide (0<=pF p 0 n)= !(e6 (λi=> !p i) n):=by
 by_cases h:∃j,j<n/\p j=true
 .obtain⟨j,ab,ad⟩:=h;have aA:=Od n 0 j (zero_le _) (by omega) ad;have aZ:e6 (λi=> !p i) n=false:=by
   rw[Bool.eq_false_iff];intro mR;have:=rM.1 mR j ab;simp[ad]at this
  rw[aZ];simpa using aA
 .have aA:∀j,j<n->p j=false:=λj bd=>by
   cases au:p j
   .rfl
   .exact absurd ⟨j,bd,au⟩ h
  rw[Oc n 0 λj _ ad=>aA j (by omega)];have aZ:e6 (λi=> !p i) n=true:=rM.2 λi ak=>by simp[aA i ak]
  rw[aZ];rfl
theorem tb {l:Nat->Int->aiC} {n:Nat} (p:Nat->Bool) (a7:∀m,l (m+1) (n:Int)=some (-1))
  (U:∀i,i<n->∀m,l (m+1) (i:Int)=cond (p i) (some (i:Int)) (l m ((i+1:Nat):Int))):lim (λm=>l m 0)=some (pF p 0 n):=by
 rw[mN (n:=n) (λi=>some (pF p i (n-i)))]
 .simp
 .intro m;rw[a7];simp[pF]
 .intro i ak m ih;rw[U i ak,ih,show n-i=(n-(i+1))+1 by omega];cases au:p i<;>simp[au,pF]
theorem yY (i:Nat) (h:0<i) (aP:i<=4611686018427387904):IntKind.i64.wrap ((i:Int)-1)=((i-1:Nat):Int):=by
 rw[gl _ (by omega)];omega
theorem tc:decide ((0:Int)<((0:Nat):Int))=false:=by decide
theorem HT {i:Nat} (h:i≠0):decide ((0:Int)<(i:Int))=true:=by simp;omega
theorem yZ {b n:Nat} (h:n*b<=140737488355328) (ad:n<=9223372036854775807):room b n=some ():=by unfold room;rw[if_pos ⟨h,ad⟩]
def gw (a b:Int):Int:=if a<b then-1 else if b<a then 1 else 0
def gE:aiz->aiz->Int
 |[],[]=>0
 |[],_::_=> -1
 |_::_,[]=>1
 |a::x,b::y=>if gw a b=0 then gE x y else gw a b
def gQ (p q:aU):Int:=if gw p.b7 q.b7=0 then(if gw p.Part q.Part=0 then gE p.b4 q.b4 else gw p.Part q.Part)else gw p.b7 q.b7
theorem Oe (a b:Int):uU a b=some (gw a b):=by
 unfold uU Bt gw;simp only[bne_self_eq_false,bind_some,cond_false];by_cases h:a<b
 .simp[h]
 .by_cases ad:b<a
  .simp[h,ad]
  .simp[h,ad]
def y0 (a b:aiz) (i:Nat):aiC:=if i=a.length then some (if a.length<b.length then-1 else 0)else if b.length<=i then some 1 else some (gE (a.drop i) (b.drop i))
theorem HU (a b:aiz) (i:Nat) (ab:i<=a.length) (ad:i<=b.length):y0 a b i=some (gE (a.drop i) (b.drop i)):=by
 unfold y0;by_cases h:i=a.length
 .subst h;rw[if_pos rfl,List.drop_of_length_le (Nat.le_refl _)];by_cases aA:a.length<b.length
  .rw[if_pos aA,drop_cons b _ aA];rfl
  .rw[if_neg aA,List.drop_of_length_le (by omega)];rfl
 .rw[if_neg h];by_cases aA:b.length<=i
  .rw[if_pos aA,drop_cons a i (by omega),List.drop_of_length_le aA];rfl
  .rw[if_neg aA]
theorem adO (a b:aiz) (h:a.length<=1099511627776):Bu a b=some (gE a b):=by
 unfold Bu;rw[mN (n:=a.length) (l:=uV a b) (y0 a b) (λm=>?_) (λi ak m ih=>?_)]
 .rw[HU a b 0 (zero_le _) (zero_le _),List.drop_zero,List.drop_zero]
 .simp only[uV,Gj];rw[fq (Nat.le_refl _),cond_false];unfold y0;rw[if_pos rfl];by_cases aA:a.length<b.length
  .rw[if_pos aA,show decide ((a.length:Int)<(b.length:Int))=true from decide_eq_true (by omega)];rfl
  .rw[if_neg aA,show decide ((a.length:Int)<(b.length:Int))=false from decide_eq_false (by omega)];rfl
 .simp only[uV,Gj];rw[fe ak,cond_true,eP _ i ak];simp only[bind_some];by_cases aA:b.length<=i
  .rw[show decide ((b.length:Int)<=(i:Int))=true from decide_eq_true (by omega),cond_true];unfold y0;rw[if_neg (by omega),if_pos aA]
  .rw[show decide ((b.length:Int)<=(i:Int))=false from decide_eq_false (by omega),cond_false,eP _ i (by omega),e5 i _ ak (by omega)];simp only[bind_some,Oe];rw[HU a b i (by omega) (by omega),ih,HU a b (i+1) (by omega) (by omega),drop_cons a i ak,drop_cons b i (by omega),gE];by_cases aj:gw a[i] b[i]=0
   .rw[if_pos aj,aj];rfl
   .rw[if_neg aj,show(gw a[i] b[i] !=0)=true by simpa using aj];rfl
theorem adP (p q:aU) (h:p.b4.length<=1099511627776):Bv p q=some (gQ p q):=by
 unfold Bv;simp only[Oe,adO _ _ h,bind_some];unfold Gk;have aO:lim (λn=>ya [gw p.b7 q.b7,gw p.Part q.Part,gE p.b4 q.b4] n 0)=some (gQ p q):=by
  refine eF 4 λn aP=>?_;obtain⟨n,rfl⟩:∃k,n=k+4:=⟨n-4,by omega⟩
  have g0:∀x y z:Int,bm [x,y,z] 0=some x:=λ_ _ _=>rfl;have g1:∀x y z:Int,bm [x,y,z] (IntKind.i64.wrap (0+1))=some y:=λ_ _ _=>rfl;have g2:∀x y z:Int,bm [x,y,z] (IntKind.i64.wrap (IntKind.i64.wrap (0+1)+1))=some z:=λ_ _ _=>rfl;have d0:∀x y z:Int,decide ((0:Int)<(([x,y,z]:aiz).length:Int))=true:=λ_ _ _=>rfl;have d1:∀x y z:Int,decide (IntKind.i64.wrap (0+1)<(([x,y,z]:aiz).length:Int))=true:=λ_ _ _=>rfl;have d2:∀x y z:Int,decide (IntKind.i64.wrap (IntKind.i64.wrap (0+1)+1)<(([x,y,z]:aiz).length:Int))=true:=λ_ _ _=>rfl;have d3:∀x y z:Int,decide (IntKind.i64.wrap (IntKind.i64.wrap (IntKind.i64.wrap (0+1)+1)+1)<(([x,y,z]:aiz).length:Int))=false:=λ_ _ _=>rfl;simp only[ya,MD,d0,d1,d2,d3,g0,g1,g2,cond_true,cond_false,bind_some];unfold gQ;by_cases ab:gw p.b7 q.b7=0
  .rw[if_pos ab,ab];by_cases ad:gw p.Part q.Part=0
   .rw[if_pos ad,ad];by_cases aA:gE p.b4 q.b4=0
    .rw[aA];rfl
    .rw[show(gE p.b4 q.b4 !=0)=true by simpa using aA];rfl
   .rw[if_neg ad,show(gw p.Part q.Part !=0)=true by simpa using ad];rfl
  .rw[if_neg ab,show(gw p.b7 q.b7 !=0)=true by simpa using ab];rfl
 rw[aO];rfl
theorem pG {a b:Int}:gw a b=0↔a=b:=by unfold gw;split<;>(try split)<;>omega
theorem HV (a b:Int):gw b a= -gw a b:=by unfold gw;split<;>split<;>(try split)<;>(try split)<;>omega
theorem Of:∀{a b:aiz},gE a b=0↔a=b
 |[],[]=>by simp[gE]
 |[],_::_=>by simp[gE]
 |_::_,[]=>by simp[gE]
 |x::a,y::b=>by
  simp only[gE];split
  .rename_i h;rw[Of,List.cons.injEq,pG.1 h];simp
  .rename_i h;constructor
   .intro ad;exact(h ad).elim
   .intro ad;exact(h (pG.2 (List.cons.inj ad).1)).elim
theorem Og:∀a b:aiz,gE b a= -gE a b
 |[],[]=>rfl
 |[],_::_=>rfl
 |_::_,[]=>rfl
 |x::a,y::b=>by
  have ab:=HV x y;simp only[gE];by_cases h:gw x y=0
  .rw[if_pos h,if_pos (by omega),Og a b]
  .rw[if_neg h,if_neg (by omega),ab]
theorem HW {a b:Int}:gw a b<=0↔a<=b:=by unfold gw;split<;>(try split)<;>omega
theorem Oh:∀{a b c:aiz},gE a b<=0->gE b c<=0->gE a c<=0
 |[],b,[],_,_=>by simp[gE]
 |[],b,_::_,_,_=>by simp[gE]
 |_::_,[],c,h,_=>by simp[gE]at h
 |_::_,_::_,[],_,h=>by simp[gE]at h
 |x::a,y::b,z::c,ab,ad=>by
  simp only[gE]at ab ad⊢;by_cases aN:gw x y=0
  .have v8:=pG.1 aN;subst v8;rw[if_pos aN]at ab;by_cases aR:gw x z=0
   .rw[if_pos aR]at ad⊢;exact Oh ab ad
   .rw[if_neg aR]at ad⊢;exact ad
  .rw[if_neg aN]at ab;have g1:=HW.1 ab;have g2:y<=z:=by
    by_cases aR:gw y z=0
    .rw[pG.1 aR];exact Int.le_refl _
    .rw[if_neg aR]at ad;exact HW.1 ad
   have g3:x≠y:=λe=>aN (pG.2 e);rw[if_neg (λe=>by have:=pG.1 e;omega)];exact HW.2 (by omega)
theorem y1 {p q:aU}:gQ p q=0↔p=q:=by
 cases p;cases q;unfold gQ;simp only[aU.mk.injEq];split
 .rename_i h;split
  .rename_i ad;rw[Of];exact⟨λaA=>⟨pG.1 h,pG.1 ad,aA⟩,λaA=>aA.2.2⟩
  .rename_i ad;exact⟨λaA=>(ad aA).elim,λaA=>(ad (pG.2 aA.2.1)).elim⟩
 .rename_i h;exact⟨λaA=>(h aA).elim,λaA=>(h (pG.2 aA.1)).elim⟩
theorem Oi (p q:aU):gQ q p= -gQ p q:=by
 unfold gQ;have ab:=HV p.b7 q.b7;have ad:=HV p.Part q.Part;have aA:=Og p.b4 q.b4;by_cases aN:gw p.b7 q.b7=0
 .rw[if_pos aN,if_pos (by omega)];by_cases aR:gw p.Part q.Part=0
  .rw[if_pos aR,if_pos (by omega),aA]
  .rw[if_neg aR,if_neg (by omega),ad]
 .rw[if_neg aN,if_neg (by omega),ab]
theorem adQ {p q r:aU} (ab:gQ p q<=0) (ad:gQ q r<=0):gQ p r<=0:=by
 have key:∀p q:aU,gQ p q=gE [p.b7,p.Part] [q.b7,q.Part]\/(gE [p.b7,p.Part] [q.b7,q.Part]=0/\gQ p q=gE p.b4 q.b4):=by
  intro p q;unfold gQ;simp only[gE];by_cases aN:gw p.b7 q.b7=0
  .rw[if_pos aN,if_pos aN];by_cases aR:gw p.Part q.Part=0
   .rw[if_pos aR,if_pos aR];exact .inr ⟨rfl,rfl⟩
   .rw[if_neg aR,if_neg aR];exact .inl rfl
  .rw[if_neg aN,if_neg aN];exact .inl rfl
 have full:∀p q:aU,gQ p q=gE (p.b7::p.Part::p.b4) (q.b7::q.Part::q.b4):=by
  intro p q;unfold gQ;simp only[gE]
 rw[full]at ab ad⊢;exact Oh ab ad
def dO:aiU->aiU->Int
 |[],[]=>0
 |[],_::_=> -1
 |_::_,[]=>1
 |p::a,q::b=>if gQ p q=0 then dO a b else gQ p q
def y2 (a b:aiU) (i:Nat):aiC:=if i=a.length then some (if a.length<b.length then-1 else 0)else if b.length<=i then some 1 else some (dO (a.drop i) (b.drop i))
theorem HX (a b:aiU) (i:Nat) (ab:i<=a.length) (ad:i<=b.length):y2 a b i=some (dO (a.drop i) (b.drop i)):=by
 unfold y2;by_cases h:i=a.length
 .subst h;rw[if_pos rfl,List.drop_of_length_le (Nat.le_refl _)];by_cases aA:a.length<b.length
  .rw[if_pos aA,drop_cons b _ aA];rfl
  .rw[if_neg aA,List.drop_of_length_le (by omega)];rfl
 .rw[if_neg h];by_cases aA:b.length<=i
  .rw[if_pos aA,drop_cons a i (by omega),List.drop_of_length_le aA];rfl
  .rw[if_neg aA]
theorem BN (a b:aiU) (h:lQ a=true):uX a b=some (dO a b):=by
 simp only[lQ,Bool.and_eq_true,decide_eq_true_eq,List.all_eq_true]at h;obtain⟨aO,aH⟩:=h;have key:Bw a b=some (dO a b):=by
  unfold Bw;rw[mN (n:=a.length) (l:=uW a b) (y2 a b) (λm=>?_) (λi ak m ih=>?_)]
  .rw[HX a b 0 (zero_le _) (zero_le _),List.drop_zero,List.drop_zero]
  .simp only[uW,Gl];rw[fq (Nat.le_refl _),cond_false];unfold y2;rw[if_pos rfl];by_cases aA:a.length<b.length
   .rw[if_pos aA,show decide ((a.length:Int)<(b.length:Int))=true from decide_eq_true (by omega)];rfl
   .rw[if_neg aA,show decide ((a.length:Int)<(b.length:Int))=false from decide_eq_false (by omega)];rfl
  .simp only[uW,Gl];rw[fe ak,cond_true,eP _ i ak];simp only[bind_some];by_cases aA:b.length<=i
   .rw[show decide ((b.length:Int)<=(i:Int))=true from decide_eq_true (by omega),cond_true];unfold y2;rw[if_neg (by omega),if_pos aA]
   .rw[show decide ((b.length:Int)<=(i:Int))=false from decide_eq_false (by omega),cond_false,eP _ i (by omega),e5 i _ ak (by omega)];simp only[bind_some];rw[adP _ _ (aH _ (List.getElem_mem ak))];simp only[bind_some];rw[HX a b i (by omega) (by omega),ih,HX a b (i+1) (by omega) (by omega),drop_cons a i ak,drop_cons b i (by omega),dO];by_cases aj:gQ a[i] b[i]=0
    .rw[if_pos aj,aj];rfl
    .rw[if_neg aj,show(gQ a[i] b[i] !=0)=true by simpa using aj];rfl
 unfold uX;rw[key];rfl
theorem ry:∀{a b:aiU},dO a b=0↔a=b
 |[],[]=>by simp[dO]
 |[],_::_=>by simp[dO]
 |_::_,[]=>by simp[dO]
 |x::a,y::b=>by
  simp only[dO];split
  .rename_i h;rw[ry,List.cons.injEq,y1.1 h];simp
  .rename_i h;constructor
   .intro ad;exact(h ad).elim
   .intro ad;exact(h (y1.2 (List.cons.inj ad).1)).elim
theorem me:∀a b:aiU,dO b a= -dO a b
 |[],[]=>rfl
 |[],_::_=>rfl
 |_::_,[]=>rfl
 |x::a,y::b=>by
  have ab:=Oi x y;simp only[dO];by_cases h:gQ x y=0
  .rw[if_pos h,if_pos (by omega),me a b]
  .rw[if_neg h,if_neg (by omega),ab]
theorem u2:∀{a b c:aiU},dO a b<=0->dO b c<=0->dO a c<=0
 |[],b,[],_,_=>by simp[dO]
 |[],b,_::_,_,_=>by simp[dO]
 |_::_,[],c,h,_=>by simp[dO]at h
 |_::_,_::_,[],_,h=>by simp[dO]at h
 |x::a,y::b,z::c,ab,ad=>by
  simp only[dO]at ab ad⊢;by_cases aN:gQ x y=0
  .have v8:=y1.1 aN;subst v8;rw[if_pos aN]at ab;by_cases aR:gQ x z=0
   .rw[if_pos aR]at ad⊢;exact u2 ab ad
   .rw[if_neg aR]at ad⊢;exact ad
  .rw[if_neg aN]at ab;have zx:gQ y z<=0:=by
    by_cases aR:gQ y z=0
    .omega
    .rw[if_neg aR]at ad;exact ad
   have aA:=adQ ab zx;rw[if_neg λe=>?_]
   .exact aA
   .have e:=y1.1 e;subst e;have:=Oi x y;omega
theorem GN (a b:aiU) (h:lQ a=true):yc a b=some (dO a b==0):=by
 unfold yc;rw[BN a b h,bind_some]
section
variable {α β:Type}
def td (p:α->Bool):Nat->List α->Int
 |_,[]=> -1
 |i,x::r=>if p x=true then(i:Int)else td p (i+1) r
theorem Oj (p:α->Bool):∀(r:List α) (i:Nat),decide (0<=td p i r)=r.any p
 |[],i=>by simp[td]
 |x::r,i=>by
  simp only[td,List.any_cons];by_cases h:p x=true
  .simp[h]
  .have e:p x=false:=by simpa using h
   simp[e,Oj p r (i+1)]
theorem adR {l:Nat->Int->aiC} (a:List α) (p:α->Bool) (a7:∀m,l (m+1) (a.length:Int)=some (-1))
  (U:∀i (h:i<a.length) m,l (m+1) (i:Int)=cond (p a[i]) (some (i:Int)) (l m ((i+1:Nat):Int))):lim (λm=>l m 0)=some (td p 0 a):=by
 have key:∀i,i<=a.length->∀m,a.length-i<m->l m (i:Int)=some (td p i (a.drop i)):=by
  refine down a.length ?_ ?_
  .intro m hm;obtain⟨m,rfl⟩:∃j,m=j+1:=⟨m-1,by omega⟩
   rw[a7,List.drop_of_length_le (Nat.le_refl _)];rfl
  .intro i ak ih m hm;obtain⟨m,rfl⟩:∃j,m=j+1:=⟨m-1,by omega⟩
   rw[U i ak m,ih m (by omega),drop_cons a i ak];simp only[td];cases p a[i]<;>rfl
 refine eF (a.length+1) λm hm=>?_;have:=key 0 (by omega) m (by omega);simpa using this
end
def pH (n:Nat) (x:Int):Bool:=decide (0<=x)&&decide (x<(n:Int))
theorem HY {b n:Nat} (h:n<=1048577) (R:b<=4096):room b n=some ():=by
 have ab:n*b<=1048577*4096:=Nat.mul_le_mul h R;unfold room;rw[if_pos ⟨by omega,by omega⟩]
theorem Ol (e:aiz) (h:e.length<=1048576):x9 e=some e:=by
 unfold x9;rw[HY (by omega) (by omega)];cases e with
 |nil=>simp[both]
 |cons x r=>rfl
theorem adS (e:aiz) (h:e.length<=1048576):xJ e=some e:=by
 unfold xJ;rw[HY (by omega) (by omega)];rfl
def kr (q:aiU) (o:aiz):aiU:=o.map λx=>q.getD x.toNat ⟨0,0,[]⟩
theorem Om {l:Nat->aiU->Int->Option aiU} {f:aU->Option aU} (q:aiU) (o:aiz)
  (kH:∀m v i,l (m+1) v i=cond (decide (i<(o.length:Int))) ((bm o i).bind λx=>(bm q x).bind λy=>(f y).bind λz=>(room 40 (v.length+1)).bind λ_=>l m (v++[z]) (IntKind.i64.wrap (i+1))) (some v))
  (bn:∀y∈q,f y=some y) (bx:o.length<=1048576) (lk:∀x∈o,pH q.length x=true):lim (λm=>l m [] 0)=some (kr q o):=by
 have key:∀d m (v:aiU) (i:Nat),i+d=o.length->d<m->v.length=i->l m v (i:Int)=some (v++kr q (o.drop i)):=by
  intro d;induction d with
  |zero=>
   intro m v i ak hm aH;obtain⟨m,rfl⟩:∃k,m=k+1:=⟨m-1,by omega⟩
   rw[kH,fq (by omega),List.drop_of_length_le (by omega)];simp[kr]
  |succ d ih=>
   intro m v i ak hm aH;obtain⟨m,rfl⟩:∃k,m=k+1:=⟨m-1,by omega⟩
   have ab:i<o.length:=by omega
   have ar:=lk o[i] (List.getElem_mem ab);simp only[pH,Bool.and_eq_true,decide_eq_true_eq]at ar;have aw:o[i].toNat<q.length:=by omega
   rw[kH,fe ab,eP o i ab,drop_cons o i ab];simp only[cond_true,bind_some];rw[Cv (by omega) aw];simp only[bind_some];rw[bn _ (List.getElem_mem aw),HY (by omega) (by omega)];simp only[bind_some];rw[e5 i _ ab (by omega),ih m _ (i+1) (by omega) (by omega) (by simp[aH])];simp only[kr,List.map_cons,List.append_assoc,List.singleton_append,List.getD_eq_getElem?_getD,List.getElem?_eq_getElem aw,getD_some]
 exact eF (o.length+1) λm hm=>(key o.length m [] 0 (by omega) (by omega) rfl).trans (by simp)
theorem On (q:aiU) (o:aiz) (aH:∀p∈q,p.b4.length<=1048576) (bx:o.length<=1048576) (h:∀x∈o,pH q.length x=true):AX q o=some (kr q o):=by
 unfold AX;refine Om (f:=λy=>(xJ y.b4).bind λaT=>some (aU.mk y.b7 y.Part aT)) q o (λm v i=>?_) (λy a8=>by rw[adS _ (aH y a8)];rfl) bx h;simp only[AW,MA,Option.bind_assoc,bind_some]
theorem adT (q:aiU) (o:aiz) (aH:∀p∈q,p.b4.length<=1048576) (bx:o.length<=1048576) (h:∀x∈o,pH q.length x=true):Bs q o=some (kr q o):=by
 unfold Bs;exact Om (f:=Br) q o (λm v i=>rfl) (λy a8=>by unfold Br;rw[Ol _ (aH y a8)];rfl) bx h
theorem adU (S:aiz) (v:Int) (h:S.length<=1048576):Bo S v=some (decide (v∈S)):=by
 unfold Bo Ge;rw[adR S (λx=>v==x) (λm=>by
  simp only[x8,Gd];rw[fq (Nat.le_refl _)];rfl) (λi ak m=>by
  simp only[x8,Gd];rw[fe ak,eP _ i ak,e5 i _ ak (by omega)];simp only[cond_true,bind_some])]
 simp only[bind_some];rw[Oj];congr 1;rw[Bool.eq_iff_iff];simp only[List.any_eq_true,beq_iff_eq,decide_eq_true_eq];constructor
 .rintro⟨x,ar,rfl⟩;exact ar
 .intro ar;exact⟨v,ar,rfl⟩
def Ch (n:Nat) (o:aiz):List aiz:=((List.range n).filter λi=> !decide (((i:Nat):Int)∈o)).map λi=>o++[((i:Nat):Int)]
def qA (n:Nat) (o:aiz) (i:Nat):List aiz:=(((List.range n).drop i).filter λi=> !decide (((i:Nat):Int)∈o)).map λi=>o++[((i:Nat):Int)]
def hZ (n:Nat):Nat->List aiz
 |0=>[[]]
 |k+1=>(hZ n k).flatMap (Ch n)
theorem Oo (n:Nat) (o:aiz) (i:Nat):(qA n o i).length<=n-i:=by
 unfold qA;rw[List.length_map];refine Nat.le_trans (List.length_filter_le _ _) ?_;simp
theorem adV (n:Nat) (o:aiz) (i:Nat) (ak:i<n):qA n o i=(if((i:Nat):Int)∈o then []else [o++[((i:Nat):Int)]])++qA n o (i+1):=by
 unfold qA;rw[List.drop_eq_getElem_cons (by simpa using ak),List.getElem_range,List.filter_cons];by_cases h:((i:Nat):Int)∈o
 .rw[if_pos h];simp[h]
 .rw[if_neg h];simp[h]
theorem adW (n:Nat) (aP:n<=3) (dq:List aiz->Int->Option (List aiz)) (nx:List aiz->List aiz->Int->Int->Int->Option (List aiz)) (o:aiz) (bx:o.length<=3) (v3:List aiz) (a b c:Int):
  ∀i,i<=n->∀m,n-i<m->∀(v4:List aiz),v4.length+(n-i)<=1000->sY dq nx (n:Int) o m v3 v4 a b c (i:Int)=nx v3 (v4++qA n o i) a b (IntKind.i64.wrap (c+1)):=by
 refine down n ?_ ?_
 .intro m hm v4 _;obtain⟨m,rfl⟩:∃j,m=j+1:=⟨m-1,by omega⟩
  simp only[sY,Gf];rw[show decide (((n:Nat):Int)<(n:Int))=false from by simp,cond_false];have:qA n o n=[]:=List.length_eq_zero_iff.1 (by have:=Oo n o n;omega);rw[this,List.append_nil]
 .intro i ak ih m hm v4 aH;obtain⟨m,rfl⟩:∃j,m=j+1:=⟨m-1,by omega⟩
  simp only[sY,Gf];rw[show decide (((i:Nat):Int)<(n:Int))=true from decide_eq_true (by omega),cond_true,adU o _ (by omega),bind_some,adV n o i ak];have hw:IntKind.i64.wrap (((i:Nat):Int)+1)=((i+1:Nat):Int):=by rw[gl _ (by omega)];omega
  by_cases h:((i:Nat):Int)∈o
  .rw[decide_eq_true h,if_pos h];simp only[Bool.not_true,cond_false,x_,List.nil_append];rw[hw,ih m (by omega) v4 (by omega)]
  .rw[decide_eq_false h,if_neg h];simp only[Bool.not_false,cond_true,x_];rw[Ol o (by omega),bind_some,yZ (by omega) (by omega),bind_some,yZ (by omega) (by omega),bind_some,hw,ih m (by omega) _ (by simp;omega),List.append_assoc]
theorem adX (n:Nat) (aP:n<=3) (dq:List aiz->Int->Option (List aiz)) (v3:List aiz) (air:v3.length<=6) (bx:∀o∈v3,o.length<=3) (a:Int):
  ∀j,j<=v3.length->∀m,v3.length-j<m->∀(v4:List aiz),v4.length+3*(v3.length-j)<=100->px dq (n:Int) m v3 v4 a (v3.length:Int) (j:Int)=dq (v4++(v3.drop j).flatMap (Ch n)) (IntKind.i64.wrap (a+1)):=by
 refine down v3.length ?_ ?_
 .intro m hm v4 _;obtain⟨m,rfl⟩:∃j,m=j+1:=⟨m-1,by omega⟩
  simp only[px,Gg];rw[fq (Nat.le_refl _),cond_false,List.drop_length,List.flatMap_nil,List.append_nil]
 .intro j bd ih m hm v4 aH;obtain⟨m,rfl⟩:∃k,m=k+1:=⟨m-1,by omega⟩
  simp only[px,Gg];rw[fe bd,cond_true,eP _ j bd,bind_some];have he:qA n v3[j] 0=Ch n v3[j]:=by unfold qA Ch;rw[List.drop_zero]
  have hle:=Oo n v3[j] 0;refine eF (n+1) λq bX=>?_;have ab:=adW n aP dq (px dq (n:Int) m) v3[j] (bx _ (List.getElem_mem bd)) v3 a (v3.length:Int) (j:Int) 0 (by omega) q (by omega) v4 (by omega);rw[show((0:Nat):Int)=0 from rfl]at ab;rw[ab,he,e5 j _ bd (by omega),ih m (by omega) _ (by rw[List.length_append,<-he];omega),drop_cons v3 j bd,List.flatMap_cons,List.append_assoc]
theorem Ci (n:Nat) (aP:n<=3):∀k,k<=n->(hZ n k).length<=6/\∀o∈hZ n k,o.length<=3:=by
 have:n=0\/n=1\/n=2\/n=3:=by omega
 rcases this with rfl|rfl|rfl|rfl<;>decide
theorem adY (n:Nat) (aP:n<=3):Bq (n:Int)=some (hZ n n):=by
 unfold Bq;have key:∀k,k<=n->∀m,n-k<m->mc (n:Int) m (hZ n k) (k:Int)=some (hZ n n):=by
  refine down n ?_ ?_
  .intro m hm;obtain⟨m,rfl⟩:∃j,m=j+1:=⟨m-1,by omega⟩
   simp only[mc,Gh];rw[show decide (((n:Nat):Int)<(n:Int))=false from by simp,cond_false]
  .intro k aw ih m hm;obtain⟨m,rfl⟩:∃j,m=j+1:=⟨m-1,by omega⟩
   obtain⟨g1,g2⟩:=Ci n aP k (by omega);simp only[mc,Gh];rw[show decide (((k:Nat):Int)<(n:Int))=true from decide_eq_true (by omega),cond_true];refine eF ((hZ n k).length+1) λq bX=>?_;have ab:=adX n aP (mc (n:Int) m) (hZ n k) g1 g2 (k:Int) 0 (by omega) q (by omega) [] (by simp;omega);rw[show((0:Nat):Int)=0 from rfl]at ab;rw[ab,List.drop_zero,List.nil_append,gl _ (by omega)];exact ih m (by omega)
 refine eF (n+1) λm hm=>?_;exact key 0 (by omega) m (by omega)
theorem adZ:jr [0]=some (false,[0]):=by
 unfold jr;refine eF 6 λm hm=>?_;obtain⟨m,rfl⟩:∃j,m=j+6:=⟨m-6,by omega⟩
 rfl
theorem ad0:jr [0,1]=some (true,[1,0]):=by
 have ab:(lim λm=>po m [1,0] 1 1)=some (true,[1,0]):=by
  refine eF 6 λm hm=>?_;obtain⟨m,rfl⟩:∃j,m=j+6:=⟨m-6,by omega⟩
  rfl
 have ad:(lim λm=>oh [0,1] m 0 1)=some (true,[1,0]):=by
  refine eF 6 λm hm=>?_;obtain⟨m,rfl⟩:∃j,m=j+6:=⟨m-6,by omega⟩
  exact ab
 unfold jr;refine eF 6 λm hm=>?_;obtain⟨m,rfl⟩:∃j,m=j+6:=⟨m-6,by omega⟩
 exact ad
theorem ad1:jr [1,0]=some (false,[1,0]):=by
 unfold jr;refine eF 6 λm hm=>?_;obtain⟨m,rfl⟩:∃j,m=j+6:=⟨m-6,by omega⟩
 rfl
theorem ad2:jr [0,1,2]=some (true,[0,2,1]):=by
 have ab:(lim λm=>po m [0,2,1] 2 2)=some (true,[0,2,1]):=by
  refine eF 6 λm hm=>?_;obtain⟨m,rfl⟩:∃j,m=j+6:=⟨m-6,by omega⟩
  rfl
 have ad:(lim λm=>oh [0,1,2] m 1 2)=some (true,[0,2,1]):=by
  refine eF 6 λm hm=>?_;obtain⟨m,rfl⟩:∃j,m=j+6:=⟨m-6,by omega⟩
  exact ab
 unfold jr;refine eF 6 λm hm=>?_;obtain⟨m,rfl⟩:∃j,m=j+6:=⟨m-6,by omega⟩
 exact ad
theorem ad3:jr [0,2,1]=some (true,[1,0,2]):=by
 have ab:(lim λm=>po m [1,2,0] 1 2)=some (true,[1,0,2]):=by
  refine eF 6 λm hm=>?_;obtain⟨m,rfl⟩:∃j,m=j+6:=⟨m-6,by omega⟩
  rfl
 have ad:(lim λm=>oh [0,2,1] m 0 2)=some (true,[1,0,2]):=by
  refine eF 6 λm hm=>?_;obtain⟨m,rfl⟩:∃j,m=j+6:=⟨m-6,by omega⟩
  exact ab
 unfold jr;refine eF 6 λm hm=>?_;obtain⟨m,rfl⟩:∃j,m=j+6:=⟨m-6,by omega⟩
 exact ad
theorem ad4:jr [1,0,2]=some (true,[1,2,0]):=by
 have ab:(lim λm=>po m [1,2,0] 2 2)=some (true,[1,2,0]):=by
  refine eF 6 λm hm=>?_;obtain⟨m,rfl⟩:∃j,m=j+6:=⟨m-6,by omega⟩
  rfl
 have ad:(lim λm=>oh [1,0,2] m 1 2)=some (true,[1,2,0]):=by
  refine eF 6 λm hm=>?_;obtain⟨m,rfl⟩:∃j,m=j+6:=⟨m-6,by omega⟩
  exact ab
 unfold jr;refine eF 6 λm hm=>?_;obtain⟨m,rfl⟩:∃j,m=j+6:=⟨m-6,by omega⟩
 exact ad
theorem ad5:jr [1,2,0]=some (true,[2,0,1]):=by
 have ab:(lim λm=>po m [2,1,0] 1 2)=some (true,[2,0,1]):=by
  refine eF 6 λm hm=>?_;obtain⟨m,rfl⟩:∃j,m=j+6:=⟨m-6,by omega⟩
  rfl
 have ad:(lim λm=>oh [1,2,0] m 0 2)=some (true,[2,0,1]):=by
  refine eF 6 λm hm=>?_;obtain⟨m,rfl⟩:∃j,m=j+6:=⟨m-6,by omega⟩
  exact ab
 unfold jr;refine eF 6 λm hm=>?_;obtain⟨m,rfl⟩:∃j,m=j+6:=⟨m-6,by omega⟩
 exact ad
theorem ad6:jr [2,0,1]=some (true,[2,1,0]):=by
 have ab:(lim λm=>po m [2,1,0] 2 2)=some (true,[2,1,0]):=by
  refine eF 6 λm hm=>?_;obtain⟨m,rfl⟩:∃j,m=j+6:=⟨m-6,by omega⟩
  rfl
 have ad:(lim λm=>oh [2,0,1] m 1 2)=some (true,[2,1,0]):=by
  refine eF 6 λm hm=>?_;obtain⟨m,rfl⟩:∃j,m=j+6:=⟨m-6,by omega⟩
  exact ab
 unfold jr;refine eF 6 λm hm=>?_;obtain⟨m,rfl⟩:∃j,m=j+6:=⟨m-6,by omega⟩
 exact ad
theorem ad7:jr [2,1,0]=some (false,[2,1,0]):=by
 unfold jr;refine eF 6 λm hm=>?_;obtain⟨m,rfl⟩:∃j,m=j+6:=⟨m-6,by omega⟩
 rfl
inductive kW:List aiz->Prop
 |last {o:aiz} (h:jr o=some (false,o)):kW [o]
 |step {o p:aiz} {l:List aiz} (h:jr o=some (true,p)) (aO:kW (p::l)):kW (o::p::l)
theorem ad8:kW (hZ 1 1):=.last adZ
theorem ad9:kW (hZ 2 2):=.step ad0 (.last ad1)
theorem ad_:kW (hZ 3 3):=.step ad2 (.step ad3 (.step ad4 (.step ad5 (.step ad6 (.last ad7)))))
theorem aea (n:Nat) (ab:1<=n) (aA:n<=3):kW (hZ n n):=by
 have:n=1\/n=2\/n=3:=by omega
 rcases this with rfl|rfl|rfl
 .exact ad8
 .exact ad9
 .exact ad_
theorem Oq (n:Nat) (ab:1<=n) (aA:n<=3):∃l,hZ n n=((List.range n).map λ(i:Nat)=>(i:Int))::l:=by
 have:n=1\/n=2\/n=3:=by omega
 rcases this with rfl|rfl|rfl
 .exact⟨_,rfl⟩
 .exact⟨_,rfl⟩
 .exact⟨_,rfl⟩
theorem Cj (n:Nat) (aA:n<=3):∀o∈hZ n n,o.length=n/\∀x∈o,pH n x=true:=by
 have:n=0\/n=1\/n=2\/n=3:=by omega
 rcases this with rfl|rfl|rfl|rfl<;>decide
end Go.ll
