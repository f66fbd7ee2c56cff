/- Part of a proof that a law returns true for every input. No condition. -/
import Derived.Test.YtmaepbgkcmjcjafGreatDoorFwA
import Derived.IntWalk
import Derived.Test.YtmaepbgkcmjcjafGreatDoorP3
namespace Go.kX
open Option Nat
open Go Go.eg
theorem ew (n:Int) (h: -9223372036854775808<=n/\n<=9223372036854775807):IntKind.i64.wrap n=n:=IntWalk.i64_in n h
theorem me {α:Type} (a:List α) (i:Nat) (d:α) (h:i<a.length):bh a (i:Int)=some (a.getD i d):=by
 rw[Tx (by omega) (by simpa using h)];simp[List.getD,h]
theorem dV {α:Type} (a:List α) (i:Nat) (h:i<a.length):bh a (i:Int)=some a[i]:=by
 rw[Tx (by omega) (by simpa using h)];rfl
theorem wt {α:Type} (a:List α) (n:Nat) (h:n<=a.length):gB a 0 (n:Int)=some (a.take n):=by
 unfold gB;rw[if_pos (by omega)];simp
theorem eo (i n:Nat) (h:i<n) (aV:n<=4611686018427387904):IntKind.i64.wrap ((i:Int)+1)=((i+1:Nat):Int):=by
 rw[ew _ (by omega)];omega
theorem ey {i n:Nat} (h:i<n):decide ((i:Int)<(n:Int))=true:=by simp;omega
theorem eb {i n:Nat} (h:n<=i):decide ((i:Int)<(n:Int))=false:=by simp;omega
theorem Hp {α:Type} (c:α) (r:List α):bh (c::r) 0=some c:=rfl
theorem Ad {n:Nat} (h:0<n):decide ((0:Int)<(n:Int))=true:=by simp;omega
theorem asc:IntKind.i64.wrap (0+1)=1:=by decide
theorem down (n:Nat) {P:Nat->Prop} (a_:P n) (ab:∀i,i<n->P (i+1)->P i):∀i,i<=n->P i:=by
 have key:∀d,d<=n->P (n-d):=by
  intro d;induction d with
  |zero=>intro _;exact a_
  |succ d ih=>
   intro an;have:=ih (by omega);refine ab _ (by omega) ?_;rw[show n-(d+1)+1=n-d by omega];exact this
 intro i aj;have:=key (n-i) (by omega)
 rwa [show n-(n-i)=i by omega]at this
theorem up {β:Type} {l:Nat->Int->Option β} {n:Nat} (F:Nat->Option β) (a_:∀m,l (m+1) (n:Int)=F n)
  (ab:∀i,i<n->∀m,(l m ((i+1:Nat):Int)=F (i+1))->l (m+1) (i:Int)=F i):∀i,i<=n->∀m,n-i<m->l m (i:Int)=F i:=by
 refine down n ?_ ?_
 .intro m hm;obtain⟨k,rfl⟩:∃k,m=k+1:=⟨m-1,by omega⟩
  exact a_ k
 .intro i aj ih m hm;obtain⟨k,rfl⟩:∃k,m=k+1:=⟨m-1,by omega⟩
  exact ab i aj k (ih k (by omega))
theorem p7 {β:Type} {l:Nat->Int->Option β} {n:Nat} (F:Nat->Option β) (a_:∀m,l (m+1) (n:Int)=F n)
  (ab:∀i,i<n->∀m,(l m ((i+1:Nat):Int)=F (i+1))->l (m+1) (i:Int)=F i):bZ (λm=>l m 0)=F 0:=
 fb (n+1) λm hm=>up F a_ ab 0 (by omega) m (by omega)
theorem drop_cons {α:Type} (a:List α) (i:Nat) (h:i<a.length):a.drop i=a[i]::a.drop (i+1):=List.drop_eq_getElem_cons h
def i6 (n:Int) (s:Nat):Int:=if(s:Int)<=n then n-s else-1
theorem Hq {n:Int} {s:Nat} (h:(s:Int)<=n):i6 n s=n-s:=if_pos h
theorem Hr {n:Int} {s:Nat} (h:n<s):i6 n s= -1:=if_neg (by omega)
theorem asd {n:Int} (h:0<=n):i6 n 0=n:=by rw[Hq (by simpa using h)];simp
theorem uW {f:ayh} {k:Int->ayh} {n:Int} {s t:Nat} (bD:f=some (i6 n s)) (au:(s:Int)<=n->k (n-s)=some (i6 (n-s) t)):
  (f.bind λx=>cond (decide (x<0)) (some (-1)) (k x))=some (i6 n (s+t)):=by
 rw[bD];simp only[bind_some];by_cases h:(s:Int)<=n
 .rw[Hq h];have:decide (n-(s:Int)<0)=false:=by simp;omega
  rw[this,cond_false,au h];congr 1;unfold i6;by_cases af:(t:Int)<=n-s
  .rw[if_pos af,if_pos (by omega)];omega
  .rw[if_neg af,if_neg (by omega)]
 .rw[Hr (by omega)];have:decide ((-1:Int)<0)=true:=by decide
  rw[this,cond_true,Hr (by omega)]
theorem pB {K:ayh} {n:Int} {s t:Nat} (ab:s<=9223372036854775807) (a_:0<=n) (aV:n<=1048576) (au:(s:Int)<=n->K=some (i6 (n-s) t)):
  cond (decide (IntKind.i64.wrap (n-(s:Int))<0)) (some (-1)) K=some (i6 n (s+t)):=by
 rw[ew _ (by omega)];by_cases h:(s:Int)<=n
 .have:decide (n-(s:Int)<0)=false:=by simp;omega
  rw[this,cond_false,au h];congr 1;unfold i6;by_cases af:(t:Int)<=n-s
  .rw[if_pos af,if_pos (by omega)];omega
  .rw[if_neg af,if_neg (by omega)]
 .have:decide (n-(s:Int)<0)=true:=by simp;omega
  rw[this,cond_true,Hr (by omega)]
theorem wu {n:Int} (h:0<=n):some n=some (i6 n 0):=by rw[asd h]
def hD {α:Type} (f:α->Nat):List α->Nat
 |[]=>0
 |x::r=>f x+hD f r
theorem Z5 {α:Type} {f:α->Nat}:∀{l:List α} {x:α},x∈l->f x<=hD f l
 |y::r,x,h=>by
  simp only[hD];rcases List.mem_cons.1 h with rfl|h
  .omega
  .have:=Z5 (f:=f) h;omega
theorem Z6 {α β:Type} {f:β->Nat} {g:α->β}:∀l:List α,hD f (l.map g)=hD (λx=>f (g x)) l
 |[]=>rfl
 |x::r=>by simp only[List.map_cons,hD,Z6 r]
def dS {α:Type} (f:α->Nat) (l:List α):Nat:=l.length+hD f l
theorem Ae {α β:Type} (f:β->Nat) (g:α->β) (l:List α):dS f (l.map g)=dS (λx=>f (g x)) l:=by simp only[dS,List.length_map,Z6]
theorem ju {α:Type} (f:α->Nat) (l:List α):l.length<=dS f l:=le_add_right _ _
theorem mB {α:Type} {f:α->Nat} {l:List α} {x:α} (h:x∈l):f x<=dS f l:=Nat.le_trans (Z5 h) (le_add_left _ _)
theorem Z7 {α:Type} {l:Nat->Int->Int->ayh} {B:α->Int->(Int->ayh)->ayh} (sz:α->Nat) (a:List α)
  (pC:∀m n i,l (m+1) n i=cond (decide (i<(a.length:Int))) ((bh a i).bind λx=>B x n λy=>l m y (IntKind.i64.wrap (i+1))) (some n))
  (bD:∀x∈a,∀(n:Int) (k:Int->ayh) (t:Nat),0<=n->n<=1048576->((sz x:Int)<=n->k (n-sz x)=some (i6 (n-sz x) t))->B x n k=some (i6 n (sz x+t)))
  (br:a.length<=1048576) (n:Int) (a_:0<=n) (aV:n<=1048576):bZ (λm=>l m n 0)=some (i6 n (hD sz a)):=by
 have key:∀i,i<=a.length->∀n:Int,0<=n->n<=1048576->∀m,a.length-i<m->l m n (i:Int)=some (i6 n (hD sz (a.drop i))):=by
  refine down a.length ?_ ?_
  .intro n a_ _ m hm;obtain⟨k,rfl⟩:∃k,m=k+1:=⟨m-1,by omega⟩
   rw[pC,eb (Nat.le_refl _),cond_false,List.drop_of_length_le (Nat.le_refl _)];exact wu a_
  .intro i aj ih n a_ aV m hm;obtain⟨k,rfl⟩:∃k,m=k+1:=⟨m-1,by omega⟩
   rw[pC,ey aj,cond_true,dV _ i aj,eo i _ aj (by omega),drop_cons a i aj];simp only[bind_some,hD];exact bD _ (List.getElem_mem aj) n _ _ a_ aV λh=>ih _ (by omega) (by omega) k (by omega)
 refine fb (a.length+1) λm hm=>?_;have:=key 0 (by omega) n a_ aV m (by omega);simpa using this
theorem Dk {α:Type} {l:Nat->Int->Int->ayh} {f:α->Int->ayh} (sz:α->Nat) (a:List α)
  (pC:∀m n i,l (m+1) n i=cond (decide (i<(a.length:Int))) ((bh a i).bind λx=>(f x n).bind λy=>cond (decide (y<0)) (some (-1)) (l m y (IntKind.i64.wrap (i+1)))) (some n))
  (bD:∀x∈a,∀n:Int,0<=n->n<=1048576->f x n=some (i6 n (sz x))) (br:a.length<=1048576) (n:Int) (a_:0<=n) (aV:n<=1048576):bZ (λm=>l m n 0)=some (i6 n (hD sz a)):=
 Z7 (B:=λx n k=>(f x n).bind λy=>cond (decide (y<0)) (some (-1)) (k y)) sz a pC (λx ao n _ _ a_ aV au=>uW (bD x ao n a_ aV) au) br n a_ aV
theorem ase {l:Nat->Int->Int->ayh} (a:ayb)
  (pC:∀m n i,l (m+1) n i=cond (decide (i<(a.length:Int))) ((bh a i).bind λx=>cond (decide (IntKind.i64.wrap (n-(x.length:Int))<0)) (some (-1)) (l m (IntKind.i64.wrap (n-(x.length:Int))) (IntKind.i64.wrap (i+1)))) (some n))
  (bD:∀x∈a,x.length<=9223372036854775807) (br:a.length<=1048576) (n:Int) (a_:0<=n) (aV:n<=1048576):bZ (λm=>l m n 0)=some (i6 n (hD List.length a)):=
 Z7 (B:=λx n k=>cond (decide (IntKind.i64.wrap (n-(x.length:Int))<0)) (some (-1)) (k (IntKind.i64.wrap (n-(x.length:Int))))) List.length a (by intro m n i;rw[pC]) (by
  intro x ao n k t a_ aV au;have hl:=bD x ao;refine pB hl a_ aV λh=>?_;have e:IntKind.i64.wrap (n-(x.length:Int))=n-(x.length:Int):=ew _ (by omega);rw[e];exact au h) br n a_ aV
theorem wv {α β:Type} {l:Nat->List β->Int->Option (List β)} {f:α->Option β} (g:α->β) (a:List α) (z:β)
  (pC:∀m v i,l (m+1) v i=cond (decide (i<(a.length:Int))) ((bh a i).bind λx=>(f x).bind λy=>(bh v i).bind λ_=>l m (List.set v (Int.toNat i) y) (IntKind.i64.wrap (i+1))) (some v))
  (bD:∀x∈a,f x=some (g x)) (br:a.length<=1048576):bZ (λm=>l m (List.replicate (Int.toNat (a.length:Int)) z) 0)=some (a.map g):=by
 have key:∀i,i<=a.length->∀(v:List β) m,v.length=a.length->a.length-i<m->l m v (i:Int)=some (v.take i++(a.drop i).map g):=by
  refine down a.length ?_ ?_
  .intro v m aJ hm;obtain⟨k,rfl⟩:∃k,m=k+1:=⟨m-1,by omega⟩
   rw[pC,eb (Nat.le_refl _)];simp[<-aJ]
  .intro i aj ih v m aJ hm;obtain⟨k,rfl⟩:∃k,m=k+1:=⟨m-1,by omega⟩
   rw[pC,ey aj,dV _ i aj,eo i _ aj (by omega)];simp only[cond_true,bind_some,bD _ (List.getElem_mem aj)];rw[dV v i (by omega)];simp only[bind_some,Int.toNat_natCast];rw[ih _ k (by simp[aJ]) (by omega),drop_cons a i aj,List.map_cons,List.take_set,List.take_succ_eq_append_getElem (by omega),List.set_append_right _ _ (by simp;omega)];simp[show min i v.length=i by omega]
 refine fb (a.length+1) λm hm=>?_;have:=key 0 (by omega) (List.replicate (Int.toNat (a.length:Int)) z) m (by simp) (by omega);simpa using this
theorem te (b:Nat) {n:Nat} (h:n<=1048576) (aa:b<=4096):nz b (n:Int)=some ():=by
 have ad:b*n<=4096*1048576:=Nat.mul_le_mul aa h;have af:((b:Int)*(n:Int))=((b*n:Nat):Int):=by simp
 unfold nz;rw[if_pos ⟨by omega,by rw[af];omega,by omega⟩]
theorem yd {α:Type} {l:Nat->Int->ayg} {f:α->α->ayg} (a:List α)
  (pC:∀m i,l (m+1) i=cond (decide (i<(a.length:Int))) ((bh a i).bind λx=>(bh a i).bind λy=>(f x y).bind λz=>cond (!z) (some false) (l m (IntKind.i64.wrap (i+1)))) (some true))
  (bD:∀x∈a,f x x=some true) (br:a.length<=1048576):bZ (λm=>l m 0)=some true:=by
 rw[p7 (n:=a.length) (λ_=>some true)]
 .intro m;rw[pC,eb (Nat.le_refl _)];rfl
 .intro i aj m ih;rw[pC,ey aj,dV _ i aj,eo i _ aj (by omega),ih];simp only[cond_true,bind_some,bD _ (List.getElem_mem aj),Bool.not_true,cond_false]
theorem Z8 {α:Type} {d:α->α->Bool} {l:Nat->Int->ayg} (a:List α)
  (pC:∀m i,l (m+1) i=cond (decide (i<(a.length:Int))) ((bh a i).bind λx=>(bh a i).bind λy=>cond (d x y) (some false) (l m (IntKind.i64.wrap (i+1)))) (some true))
  (an:∀x,d x x=false) (br:a.length<=1048576):bZ (λm=>l m 0)=some true:=by
 rw[p7 (n:=a.length) (λ_=>some true)]
 .intro m;rw[pC,eb (Nat.le_refl _)];rfl
 .intro i aj m ih;rw[pC,ey aj,dV _ i aj,eo i _ aj (by omega),ih];simp only[cond_true,bind_some,an,cond_false]
theorem wx (x:Int):(x !=x)=false:=by simp
theorem wy (x:ayc):(!(x==x))=false:=by simp
theorem ye (x:Bool):(!(x==x))=false:=by simp
theorem uX (n:Nat):((n:Int) !=(n:Int))=false:=by simp
def fZ (p:Nat->Bool) (n:Nat):Bool:=(List.range n).all p
theorem oX {p:Nat->Bool} {n:Nat}:fZ p n=true↔∀i,i<n->p i=true:=by simp[fZ]
theorem Hs {l:Nat->Int->ayg} {n:Nat} (p:Nat->Bool) (a_:∀m,l (m+1) (n:Int)=some true)
  (ab:∀i,i<n->∀m,l (m+1) (i:Int)=cond (p i) (l m ((i+1:Nat):Int)) (some false)):bZ (λm=>l m 0)=some (fZ p n):=by
 rw[p7 (n:=n) (λi=>some ((List.range' i (n-i)).all p))]
 .simp[fZ,List.range_eq_range']
 .intro m;rw[a_];simp
 .intro i aj m ih;rw[ab i aj,ih,show n-i=(n-(i+1))+1 by omega,List.range'_succ];cases ax:p i<;>simp[ax]
def ke (p:Nat->Bool):Nat->Nat->Int
 |_,0=> -1
 |i,k+1=>if p i=true then(i:Int)else ke p (i+1) k
theorem Z9 {p:Nat->Bool}:∀(k i:Nat),(∀j,i<=j->j<i+k->p j=false)->ke p i k= -1
 |0,_,_=>rfl
 |k+1,i,h=>by
  simp only[ke,h i (Nat.le_refl _) (by omega)];exact Z9 k (i+1) λj ad af=>h j (by omega) (by omega)
theorem Z_ {p:Nat->Bool}:∀(k i j:Nat),i<=j->j<i+k->p j=true->0<=ke p i k
 |0,i,j,ad,af,_=>by omega
 |k+1,i,j,ad,af,aG=>by
  simp only[ke];split
  .omega
  .rename_i h;refine Z_ k (i+1) j ?_ (by omega) aG;rcases Nat.lt_or_ge i j with h|h
   .exact h
   .have:i=j:=by omega
    subst this;exact absurd aG (by assumption)
theorem wz (p:Nat->Bool) (n:Nat):decide (0<=ke p 0 n)= !(fZ (λi=> !p i) n):=by
 by_cases h:∃j,j<n/\p j=true
 .obtain⟨j,ad,af⟩:=h;have aG:=Z_ n 0 j (zero_le _) (by omega) af;have bf:fZ (λi=> !p i) n=false:=by
   rw[Bool.eq_false_iff];intro kj;have:=oX.1 kj j ad;simp[af]at this
  rw[bf];simpa using aG
 .have aG:∀j,j<n->p j=false:=λj bF=>by
   cases ax:p j
   .rfl
   .exact absurd ⟨j,bF,ax⟩ h
  rw[Z9 n 0 λj _ af=>aG j (by omega)];have bf:fZ (λi=> !p i) n=true:=oX.2 λi aj=>by simp[aG i aj]
  rw[bf];rfl
theorem tf {l:Nat->Int->ayh} {n:Nat} (p:Nat->Bool) (a_:∀m,l (m+1) (n:Int)=some (-1))
  (ab:∀i,i<n->∀m,l (m+1) (i:Int)=cond (p i) (some (i:Int)) (l m ((i+1:Nat):Int))):bZ (λm=>l m 0)=some (ke p 0 n):=by
 rw[p7 (n:=n) (λi=>some (ke p i (n-i)))]
 .simp
 .intro m;rw[a_];simp[ke]
 .intro i aj m ih;rw[ab i aj,ih,show n-i=(n-(i+1))+1 by omega];cases ax:p i<;>simp[ax,ke]
theorem Ht (i:Nat) (h:0<i) (aV:i<=4611686018427387904):IntKind.i64.wrap ((i:Int)-1)=((i-1:Nat):Int):=by
 rw[ew _ (by omega)];omega
theorem Af:decide ((0:Int)<((0:Nat):Int))=false:=by decide
theorem Sm {i:Nat} (h:i≠0):decide ((0:Int)<(i:Int))=true:=by simp;omega
def wA (b:Bool):Int:=cond b 1 0
theorem Li (b:Bool):(cond b (some 1) (some 0):ayh)=some (wA b):=by cases b<;>rfl
theorem asf {α:Type} (x:α) (l:List α):gB (x::l) 1 (((x::l).length:Nat):Int)=some l:=by
 unfold gB;rw[if_pos (by simp only[List.length_cons];omega)];simp
theorem Lj {α:Type} (a b c:List α) {i j:Int} (aj:i=(a.length:Int)) (bF:j=((a.length+b.length:Nat):Int)):gB (a++(b++c)) i j=some b:=by
 unfold gB;have aP:i.toNat=a.length:=by omega
 have aY:j.toNat=a.length+b.length:=by omega
 rw[if_pos (by simp only[List.length_append];omega),aP,aY,<-List.append_assoc,List.take_left' (by simp),List.drop_left' rfl]
theorem lR {b n:Nat} (h:n*b<=140737488355328) (af:n<=9223372036854775807):room b n=some ():=by unfold room;rw[if_pos ⟨h,af⟩]
theorem qN {α:Type} (d:List α) (x:α) (r:List α):bh (d++x::r) (d.length:Int)=some x:=by
 rw[dV _ _ (by simp)];simp
theorem uY {α:Type} (d:List α) (x y:α) (r:List α):List.set (d++x::r) (Int.toNat (d.length:Int)) y=d++y::r:=by
 simp
theorem Lk {k:Int} (h:0<=k):decide (k<0)=false:=by simp;omega
theorem qO {α:Type} (d:List α) (x:α) (r:List α):decide ((d.length:Int)<((d++x::r).length:Int))=true:=by simp;omega
theorem qP {α:Type} {d:List α} (h:d.length<=1099511627776):IntKind.i64.wrap ((d.length:Int)+1)=((d.length+1:Nat):Int):=by rw[ew _ (by omega)];omega
theorem wB {α:Type} (f:α->Nat):∀a:List α,hD (λx=>64*(f x+1)) a=64*dS f a
 |[]=>rfl
 |x::r=>by
  have:=wB f r;unfold dS at this⊢;simp only[hD,List.length_cons];omega
theorem So {α:Type} (n:Nat):∀a:List α,hD (λ_=>n) a=n*a.length
 |[]=>rfl
 |x::r=>by simp only[hD,So n r,List.length_cons,Nat.mul_add];omega
theorem Ag {α:Type} {l:Nat->List α->Int->Int->Option (Int×List α)} (w:α->Nat) (a_:∀m (v:List α) k,l (m+1) v k (v.length:Int)=some (k,v))
  (ab:∀x (k:Int),0<=k->k+w x<=1099511627776->∃cN c,c<=w x/\∀m (d r:List α),d.length<=1099511627776->l (m+1) (d++x::r) k (d.length:Int)=l m (d++cN::r) (k+(c:Nat)) ((d.length+1:Nat):Int))
  (a:List α) (k:Int) (au:0<=k) (hl:a.length<=1099511627776) (aa:k+hD w a<=1099511627776):∃dt c,c<=hD w a/\bZ (λn=>l n a k 0)=some (k+(c:Nat),dt):=by
 have key:∀(r:List α) (k:Int),0<=k->k+hD w r<=1099511627776->∃hN c,c<=hD w r/\∀(d:List α) (m:Nat),d.length+r.length<=1099511627776->r.length<m->l m (d++r) k (d.length:Int)=some (k+(c:Nat),d++hN):=by
  intro r;induction r with
  |nil=>
   intro k _ _;refine⟨[],0,Nat.le_refl _,λd m _ hm=>?_⟩;obtain⟨m,rfl⟩:∃j,m=j+1:=⟨m-1,by omega⟩
   rw[List.append_nil,a_];simp
  |cons x r ih=>
   intro k ad af;simp only[hD]at af;obtain⟨cN,c,cr,c2⟩:=ab x k ad (by omega);obtain⟨hN,xd,aP,aY⟩:=ih (k+c) (by omega) (by omega);refine⟨cN::hN,c+xd,by simp only[hD];omega,λd m an hm=>?_⟩;simp only[List.length_cons]at an hm;obtain⟨m,rfl⟩:∃j,m=j+1:=⟨m-1,by omega⟩
   rw[c2 m d r (by omega)];have:=aY (d++[cN]) m (by simp only[List.length_append,List.length_cons,List.length_nil];omega) (by omega);simp only[List.length_append,List.length_cons,List.length_nil,List.append_assoc,List.cons_append,List.nil_append,Nat.zero_add]at this;rw[this];simp only[some.injEq,Prod.mk.injEq,and_true];omega
 obtain⟨dt,c,aP,aY⟩:=key a k au aa;refine⟨dt,c,aP,fb (a.length+1) λm hm=>?_⟩;have:=aY [] m (by simpa using hl) (by omega);simpa using this
theorem Sp {α:Type} {l:Nat->List α->Int->Int->Option (Int×List α)} {hl:List α->Nat->Int->Int->ayh} (w:α->Nat) (a_:∀m (v:List α) k,l (m+1) v k (v.length:Int)=some (k,v))
  (g0:∀(a:List α) m k,hl a (m+1) k (a.length:Int)=some k)
  (ab:∀x (k:Int),0<=k->k+w x<=1099511627776->∃cN c,c<=w x/\∀m (d r:List α),d.length<=1099511627776->l (m+1) (d++x::r) k (d.length:Int)=l m (d++cN::r) (k+(c:Nat)) ((d.length+1:Nat):Int)/\
   hl (d++cN::r) (m+1) k (d.length:Int)=hl (d++cN::r) m (k+(c:Nat)) ((d.length+1:Nat):Int))
  (a:List α) (k:Int) (au:0<=k) (uZ:a.length<=1099511627776) (aa:k+hD w a<=1099511627776):∃dt c,c<=hD w a/\bZ (λn=>l n a k 0)=some (k+(c:Nat),dt)/\bZ (λn=>hl dt n k 0)=some (k+(c:Nat)):=by
 have key:∀(r:List α) (k:Int),0<=k->k+hD w r<=1099511627776->∃hN c,c<=hD w r/\hN.length=r.length/\∀(d:List α) (m:Nat),d.length+r.length<=1099511627776->r.length<m->l m (d++r) k (d.length:Int)=some (k+(c:Nat),d++hN)/\
   hl (d++hN) m k (d.length:Int)=some (k+(c:Nat)):=by
  intro r;induction r with
  |nil=>
   intro k _ _;refine⟨[],0,Nat.le_refl _,rfl,λd m _ hm=>?_⟩;obtain⟨m,rfl⟩:∃j,m=j+1:=⟨m-1,by omega⟩
   rw[List.append_nil,a_,g0];simp
  |cons x r ih=>
   intro k ad af;simp only[hD]at af;obtain⟨cN,c,cr,c2⟩:=ab x k ad (by omega);obtain⟨hN,xd,aP,aU,aY⟩:=ih (k+c) (by omega) (by omega);refine⟨cN::hN,c+xd,by simp only[hD];omega,by simp only[List.length_cons,aU],λd m an hm=>?_⟩;simp only[List.length_cons]at an hm;obtain⟨m,rfl⟩:∃j,m=j+1:=⟨m-1,by omega⟩
   rw[(c2 m d r (by omega)).1,(c2 m d hN (by omega)).2];have:=aY (d++[cN]) m (by simp only[List.length_append,List.length_cons,List.length_nil];omega) (by omega);simp only[List.length_append,List.length_cons,List.length_nil,List.append_assoc,List.cons_append,List.nil_append,Nat.zero_add]at this;rw[this.1,this.2];simp only[some.injEq,Prod.mk.injEq,and_true];exact⟨by omega,by omega⟩
 obtain⟨dt,c,aP,aU,aY⟩:=key a k au aa;refine⟨dt,c,aP,fb (a.length+1) λm hm=>?_,fb (a.length+1) λm hm=>?_⟩
 .have:=(aY [] m (by simpa using uZ) (by omega)).1;simpa using this
 .have:=(aY [] m (by simpa using uZ) (by omega)).2;simpa using this
def glue (p:ayc):ayb->ayb
 |[]=>[p]
 |h::t=>(p++h)::t
def lS (c:UInt8):ayc->ayb
 |[]=>[[]]
 |x::r=>if x=c then []::lS c r else glue [x] (lS c r)
theorem aaa:∀{l:ayb},l≠[]->glue [] l=l
 |[],h=>(h rfl).elim
 |_::_,_=>rfl
theorem asg (p q:ayc):∀l:ayb,glue p (glue q l)=glue (p++q) l
 |[]=>rfl
 |h::t=>by simp only[glue,List.append_assoc]
theorem aab (c:UInt8):∀s,lS c s≠[]
 |[]=>by simp[lS]
 |x::r=>by
  simp only[lS];split
  .simp
  .cases h:lS c r<;>simp[glue]
theorem Sq (c:UInt8):∀s,c∉s->lS c s=[s]
 |[],_=>rfl
 |x::r,h=>by
  simp only[List.mem_cons,not_or]at h;simp only[lS];rw[if_neg (λe=>h.1 e.symm),Sq c r h.2];rfl
theorem Sr (c:UInt8):∀p q,c∉p->lS c (p++c::q)=p::lS c q
 |[],q,_=>by simp[lS]
 |x::r,q,h=>by
  simp only[List.mem_cons,not_or]at h;simp only[List.cons_append,lS];rw[if_neg (λe=>h.1 e.symm),Sr c r q h.2];rfl
theorem aac (c:UInt8):∀s,c∉s->sR s c= -1
 |[],_=>rfl
 |x::r,h=>by
  simp only[List.mem_cons,not_or]at h;have kj:(x==c)=false:=by simpa using λe=>h.1 e.symm
  simp only[sR,kj,aac c r h.2];rfl
theorem aad (c:UInt8):∀p q,c∉p->sR (p++c::q) c=(p.length:Int)
 |[],q,_=>by simp[sR]
 |x::r,q,h=>by
  simp only[List.mem_cons,not_or]at h;have kj:(x==c)=false:=by simpa using λe=>h.1 e.symm
  have ih:=aad c r q h.2;simp only[List.cons_append,sR,kj,ih];have:((r.length:Int)== -1)=false:=by simp
  rw[this];simp
theorem aae {c:UInt8}:∀{s:ayc},c∈s->∃p q,s=p++c::q/\c∉p
 |x::r,h=>by
  by_cases e:x=c
  .subst e;exact⟨[],r,rfl,by simp⟩
  .have bC:c∈r:=by
    rcases List.mem_cons.1 h with h|h
    .exact(e h.symm).elim
    .exact h
   obtain⟨p,q,rfl,ax⟩:=aae bC;exact⟨x::p,q,rfl,by simp only[List.mem_cons,not_or];exact⟨λh=>e h.symm,ax⟩⟩
theorem aaf (s:ayc) (c:UInt8) (ab:1<=s.length\/True):vT s [c]=some (if s=[c]then 0 else sR s c):=by
 unfold vT P5 P4;by_cases h:s=[c]
 .subst h;simp
 .have e:([c]==s)=false:=by simpa using λbC=>h bC.symm
  rw[if_neg h,e];rfl
theorem ash {s:ayc} {c:UInt8} (h:c∉s):vT s [c]=some (-1):=by
 rw[aaf s c (.inr trivial),if_neg (by rintro rfl;simp at h),aac c s h]
theorem aag (p q:ayc) {c:UInt8} (h:c∉p):vT (p++c::q) [c]=some (p.length:Int):=by
 rw[aaf _ c (.inr trivial),aad c p q h];split
 .rename_i e;cases p with
  |nil=>rfl
  |cons x r=>have:=congrArg List.length e;simp at this
 .rfl
theorem asi (s t:ayc):Gd s t=vT s t:=by
 unfold Gd;cases vT s t<;>rfl
theorem asj {s:ayc} {c:UInt8} (h:c∉s):Cu s [c]=some (s,[],false):=by
 unfold Cu Kd;rw[ash h];rfl
theorem asl (p q:ayc) {c:UInt8} (h:c∉p) (hl:(p++c::q).length<=1048576):Cu (p++c::q) [c]=some (p,q,true):=by
 unfold Cu Kd;rw[aag p q h];simp only[List.length_append,List.length_cons]at hl;have e:decide ((0:Int)<=(p.length:Int))=true:=by simp
 simp only[bind_some,e,cond_true];rw[wt _ _ (by simp),ew ((p.length:Int)+([c].length:Int)) (by simp;omega)];have aY:gB (p++c::q) ((p.length:Int)+([c].length:Int)) ((p++c::q).length:Int)=some q:=by
  have:=Lj (p++[c]) q [] (i:=((p.length:Int)+([c].length:Int))) (j:=(((p++c::q).length:Nat):Int)) (by simp) (by simp;omega);simpa using this
 rw[aY];simp
theorem asm (q:ayc) {c:UInt8} (hl:q.length<=1048576):strings_TrimSuffix (q++[c]) [c]=some q:=by
 unfold strings_TrimSuffix P7 P6;have e:decide (([c].length:Int)<=((q++[c]).length:Int))=true:=by simp;omega
 have asn:IntKind.i64.wrap (((q++[c]).length:Int)-([c].length:Int))=(q.length:Int):=by
  rw[ew _ (by simp;omega)];simp
 rw[e,asn];have aY:=Lj q [c] [] (i:=(q.length:Int)) (j:=(((q++[c]).length:Nat):Int)) rfl (by simp);simp only[List.append_nil]at aY;rw[aY,wt _ _ (by simp)];simp
theorem aah {α:Type} (a:List α) (x y:α) (b:List α):(a++x::b).set a.length y=a++y::b:=by
 rw[List.set_append_right _ _ (Nat.le_refl _),Nat.sub_self,List.set_cons_zero]
theorem aai {α:Type} (a:List α) (x:α) (b:List α):bh (a++x::b) (a.length:Int)=some x:=by
 rw[dV _ _ (by simp)];simp
theorem aso {α:Type} (a:List α) (x:α) (b:List α):gB (a++x::b) 0 ((a.length+1:Nat):Int)=some (a++[x]):=by
 rw[wt _ _ (by simp)];congr 1;rw[show a++x::b=(a++[x])++b by simp,List.take_left' (by simp)]
theorem asp (c:UInt8) (s:ayc) (ab:s.length<=1048576) (N:Nat) (Ah:N=s.count c+1):
  ∀(k:Nat) (r:ayc) (d:ayb),r.count c=k->d.length+k+1=N->r.length<=s.length->∀m,k<m->
   zB s [c] 0 (N:Int) m r (d++List.replicate (k+1) []) (d.length:Int)=some (d++lS c r):=by
 have ar:s.count c<=s.length:=List.count_le_length;have aaj:kQ false (N:Int) (IntKind.i64.wrap ((s.length:Int)+1))=(N:Int):=by
  rw[ew _ (by omega)];unfold kQ;simp;omega
 have Hu:∀(r:ayc) (d:ayb),d.length<N->c∉r->Ge s [c] 0 (N:Int) r (d++List.replicate 1 []) (d.length:Int)=some (d++lS c r):=by
  intro r d an aQ;unfold Ge;simp only[List.replicate_succ,List.replicate_zero];rw[aai,bind_some,Int.toNat_natCast,aah,ew _ (by omega),show((d.length:Int)+1)=((d.length+1:Nat):Int) by omega,aso,Sq c r aQ];rfl
 intro k;induction k with
 |zero=>
  intro r d aQ an hl m hm;obtain⟨m,rfl⟩:∃j,m=j+1:=⟨m-1,by omega⟩
  simp only[zB,Qa];have e:decide ((d.length:Int)<IntKind.i64.wrap (kQ false (N:Int) (IntKind.i64.wrap ((s.length:Int)+1))-1))=false:=by
   rw[aaj,ew _ (by omega)];simp;omega
  rw[e,cond_false];exact Hu r d (by omega) (List.count_eq_zero.1 aQ)
 |succ k ih=>
  intro r d aQ an hl m hm;obtain⟨m,rfl⟩:∃j,m=j+1:=⟨m-1,by omega⟩
  obtain⟨p,q,rfl,ax⟩:=aae (c:=c) (s:=r) (List.count_pos_iff.1 (by omega));simp only[zB,Qa];have e:decide ((d.length:Int)<IntKind.i64.wrap (kQ false (N:Int) (IntKind.i64.wrap ((s.length:Int)+1))-1))=true:=by
   rw[aaj,ew _ (by omega)];simp;omega
  simp only[List.length_append,List.length_cons]at hl;rw[e,cond_true,asi,aag p q ax,bind_some];have aY:decide ((p.length:Int)<0)=false:=by simp
  rw[aY,cond_false,ew ((p.length:Int)+0) (by omega),Int.add_zero,wt _ _ (by simp)];have aU:gB (p++c::q) (IntKind.i64.wrap ((p.length:Int)+([c].length:Int))) ((p++c::q).length:Int)=some q:=by
   rw[ew _ (by simp;omega)];have:=Lj (p++[c]) q [] (i:=((p.length:Int)+([c].length:Int))) (j:=(((p++c::q).length:Nat):Int)) (by simp) (by simp;omega);simpa using this
  rw[bind_some,List.take_left' rfl,show List.replicate (k+1+1) ([]:ayc)=[]::List.replicate (k+1) []from rfl,aai,bind_some,aU,bind_some,Int.toNat_natCast,aah,ew ((d.length:Int)+1) (by omega)];have asq:q.count c=k:=by
   rw[List.count_append,List.count_cons_self,List.count_eq_zero.2 ax]at aQ;omega
  have:=ih q (d++[p]) asq (by simp;omega) (by omega) m (by omega);simp only[List.append_assoc,List.singleton_append,List.length_append,List.length_cons,List.length_nil]at this;rw[Sr c p q ax,<-this];congr 1
theorem asr (c:UInt8) (s:ayc) (ab:s.length<=1048576):Kf s [c]=some (lS c s):=by
 have ar:s.count c<=s.length:=List.count_le_length;unfold Kf Qb P_ P8 Ke;have aP:((-1:Int)==0)=false:=by decide
 have aY:([c]==([]:ayc))=false:=rfl;have aU:decide ((-1:Int)<0)=true:=by decide
 have b4:(([c].length:Int)==0)=false:=rfl;have cM:(([c].length:Int)==1)=true:=rfl;rw[aP,aY,aU,b4,cM];simp only[cond_false,cond_true,Hp,bind_some];rw[ew ((s.count c:Int)+1) (by omega),ew ((s.length:Int)+1) (by omega)];have hm:kQ false ((s.count c:Int)+1) ((s.length:Int)+1)=((s.count c+1:Nat):Int):=by
  unfold kQ;simp;omega
 have au:nz 16 ((s.count c+1:Nat):Int)=some ():=by
  unfold nz;rw[if_pos ⟨by omega,by omega,by omega⟩]
 have hl:bZ (λn=>zB s [c] 0 ((s.count c:Int)+1) n s (List.replicate (s.count c+1) []) 0)=some (lS c s):=by
  refine fb (s.count c+1) λm hm=>?_;have:=asp c s ab (s.count c+1) rfl (s.count c) s [] rfl (by simp) (Nat.le_refl _) m (by omega);simpa using this
 rw[hm,au];simp only[bind_some,Int.toNat_natCast];rw[hl];rfl
theorem ass (c:UInt8) (s:ayc) (ab:s.length<=1048576):JB s c=some (lS c s):=by
 have key:∀i,i<=s.length->∀m,s.length-i<m->∀(v:ayb) (f:Nat),f<=i->v.length<=i->
   zn s c m v (f:Int) (i:Int)=some (v++glue ((s.take i).drop f) (lS c (s.drop i))):=by
  refine down s.length ?_ ?_
  .intro m hm v f bD aJ;obtain⟨m,rfl⟩:∃j,m=j+1:=⟨m-1,by omega⟩
   simp only[zn,O_];rw[eb (Nat.le_refl _),cond_false];have e:gB s (f:Int) (s.length:Int)=some (s.drop f):=by
    unfold gB;rw[if_pos ⟨by omega,by omega,by omega⟩];simp
   rw[e,bind_some,lR (by omega) (by omega),bind_some,List.take_length,List.drop_length];simp[lS,glue]
  .intro i aj ih m hm v f bD aJ;obtain⟨m,rfl⟩:∃j,m=j+1:=⟨m-1,by omega⟩
   simp only[zn,O_,JA];rw[ey aj,cond_true,dV s i aj,bind_some,drop_cons s i aj];simp only[lS];by_cases ar:s[i]=c
   .have e:((s[i].toNat:Int)==(c.toNat:Int))=true:=by rw[ar];simp
    have aY:gB s (f:Int) (i:Int)=some ((s.take i).drop f):=by
     unfold gB;rw[if_pos ⟨by omega,by omega,by omega⟩];simp
    rw[e,cond_true,aY,bind_some,lR (by omega) (by omega),bind_some,if_pos ar,eo i s.length aj (by omega),ih m (by omega) _ (i+1) (Nat.le_refl _) (by simp;omega)];rw[List.drop_of_length_le (l:=List.take (i+1) s) (by rw[List.length_take];omega),aaa (aab _ _)];simp[glue]
   .have e:((s[i].toNat:Int)==(c.toNat:Int))=false:=by
     simp only[beq_eq_false_iff_ne,ne_eq];intro h;exact ar (UInt8.toNat_inj.1 (by omega))
    rw[e,cond_false,if_neg ar,eo i s.length aj (by omega),ih m (by omega) _ f (by omega) (by omega),asg];congr 3;rw[List.take_succ_eq_append_getElem aj,List.drop_append_of_le_length (by simp;omega)]
 unfold JB;refine fb (s.length+1) λm hm=>?_;have:=key 0 (by omega) m (by omega) [] 0 (Nat.le_refl _) (zero_le _);simpa [aaa (aab c s)]using this
theorem ast:∀d:Fin 10,IntKind.i64.wrap (IntKind.u8.wrap (((48+d.val:Nat):Int)-48))=((d.val:Nat):Int):=by decide
theorem u8_in:∀c:UInt8,gR c=true->IntKind.i64.wrap (IntKind.u8.wrap ((c.toNat:Int)-48))=((c.toNat-48:Nat):Int):=by
 intro c h;simp only[gR,Bool.and_eq_true,decide_eq_true_eq]at h;have:=ast ⟨c.toNat-48,by omega⟩;simp only at this
 rwa [show 48+(c.toNat-48)=c.toNat by omega]at this
theorem asu (c:UInt8):Bt c=some (gR c):=by
 unfold Bt gR;congr 2
 .rw[decide_eq_decide];omega
 .rw[decide_eq_decide];omega
def nx (n:Nat) (d:ayc):Nat:=d.foldl (λn c=>10*n+(c.toNat-48)) n
theorem aak:∀(d:ayc) (n k:Nat),d.all gR=true->n<10^k->nx n d<10^(k+d.length)
 |[],n,k,_,h=>by simpa [nx]using h
 |c::r,n,k,an,h=>by
  simp only[List.all_cons,Bool.and_eq_true]at an;have ar:=an.1;simp only[gR,Bool.and_eq_true,decide_eq_true_eq]at ar;have:=aak r (10*n+(c.toNat-48)) (k+1) an.2 (by rw[Nat.pow_succ];omega);rw[List.length_cons,show k+(r.length+1)=k+1+r.length by omega];exact this
theorem aal (s:ayc) (a:Int) (ab:s.length<=1048576):∀(d:ayc) (i n k:Nat),s.drop i=d->i<=s.length->n<10^k->k+d.length<=18->∀m,d.length<m->
  vJ s a m (n:Int) (i:Int)=some (if d.all gR=true then(if a=1 then-(nx n d:Int)else nx n d,true)else(0,false))
 |[],i,n,k,an,aj,aV,au,m,hm=>by
  obtain⟨m,rfl⟩:∃j,m=j+1:=⟨m-1,by simp at hm;omega⟩
  have asv:i=s.length:=by
   have:=congrArg List.length an;rw[List.length_drop]at this;simp at this;omega
  subst asv;have xc:n<10^18:=Nat.lt_of_lt_of_le aV (Nat.pow_le_pow_right (by omega) (by simpa using au));simp only[vJ,Pa,FL];rw[eb (Nat.le_refl _),cond_false];by_cases br:a=1
  .subst br;simp only[BEq.rfl,cond_true];rw[ew _ (by omega)];simp[nx]
  .have:(a==1)=false:=by simpa using br
   rw[this,cond_false];simp[nx,br]
 |c::r,i,n,k,an,aj,aV,au,m,hm=>by
  obtain⟨m,rfl⟩:∃j,m=j+1:=⟨m-1,by simp at hm;omega⟩
  have wC:i<s.length:=by
   have:=congrArg List.length an;rw[List.length_drop]at this;simp at this;omega
  rw[drop_cons s i wC]at an;injection an with ad af;simp only[List.length_cons]at au hm;have xc:n<10^17:=Nat.lt_of_lt_of_le aV (Nat.pow_le_pow_right (by omega) (by omega));simp only[vJ,Pa];rw[ey wC,cond_true,dV s i wC,bind_some,ad,asu,bind_some,List.all_cons];cases ar:gR c
  .simp
  .have Dl:=ar;simp only[gR,Bool.and_eq_true,decide_eq_true_eq]at Dl;simp only[Bool.not_true,cond_false,Bool.true_and];rw[u8_in c ar,ew (10*(n:Int)) (by omega),ew _ (by omega),eo i s.length wC (by omega),show(10*(n:Int)+((c.toNat-48:Nat):Int))=((10*n+(c.toNat-48):Nat):Int) by omega];exact aal s a ab r (i+1) (10*n+(c.toNat-48)) (k+1) af wC (by rw[Nat.pow_succ];omega) (by omega) m (by omega)
theorem Ss (s:ayc) (k:Nat) (ab:s.length<=1048576) (au:k<=1) (hl:k<=s.length):BZ s (k:Int)=some (pY k (s.drop k)):=by
 unfold BZ pY;by_cases a_:s.length=k
 .have e:((s.length:Int)==(k:Int))=true:=by simp;omega
  rw[e,cond_true,List.drop_of_length_le (by omega)];simp
 have e:((s.length:Int)==(k:Int))=false:=by simp;omega
 rw[e,cond_false,ew _ (by omega)];have aam:(s.drop k).length=s.length-k:=List.length_drop;have d_:s.drop k≠[]:=by
  intro h;rw[h]at aam;simp at aam;omega
 by_cases ad:18<s.length-k
 .have e:decide (18<(s.length:Int)-(k:Int))=true:=by simp;omega
  rw[e,cond_true,if_neg (by intro h;omega)]
 have e:decide (18<(s.length:Int)-(k:Int))=false:=by simp;omega
 have EU:k<s.length:=by omega
 rw[e,cond_false,dV s k EU,bind_some];have kj:(s.drop k).head? =some s[k]:=by rw[drop_cons s k EU];rfl
 have aan:bZ (λn=>vJ s (k:Int) n 0 (k:Int))=some (if(s.drop k).all gR=true then(if(k:Int)=1 then-(nx 0 (s.drop k):Int)else nx 0 (s.drop k),true)else(0,false)):=by
  refine fb (s.length+1) λm hm=>?_;exact aal s (k:Int) ab (s.drop k) k 0 0 rfl hl (by omega) (by omega) m (by omega)
 have aJ:mT (s.drop k)=nx 0 (s.drop k):=rfl;have tW:((k:Int)=1)=(k=1):=by apply propext;omega
 simp only[tW]at aan;rw[aan,kj,aJ];by_cases ox:s[k]=48
 .have e:((s[k].toNat:Int)==48)=true:=by rw[ox];rfl
  rw[e,cond_true];by_cases af:1<s.length
  .have e:decide ((1:Int)<(s.length:Int))=true:=by simp;omega
   rw[e,cond_true,if_neg (by intro h;exact h.2.2.2 ⟨by rw[ox],by omega⟩)]
  .have e:decide ((1:Int)<(s.length:Int))=false:=by simp;omega
   rw[e,cond_false];by_cases br:(s.drop k).all gR=true
   .rw[if_pos br,if_pos (show s.drop k≠[]/\(s.drop k).length<=18/\(s.drop k).all gR=true/\¬(some s[k]=some 48/\1<(s.drop k).length+k)from⟨d_,by omega,br,by rintro⟨_,h⟩;omega⟩)]
   .rw[if_neg br,if_neg (λh=>br h.2.2.1)]
 .have e:((s[k].toNat:Int)==48)=false:=by
   simp only[beq_eq_false_iff_ne,ne_eq];intro h;exact ox (UInt8.toNat_inj.1 (by rw[show(48:UInt8).toNat=48 from rfl];omega))
  rw[e,cond_false];by_cases br:(s.drop k).all gR=true
  .rw[if_pos br,if_pos (show s.drop k≠[]/\(s.drop k).length<=18/\(s.drop k).all gR=true/\¬(some s[k]=some 48/\1<(s.drop k).length+k)from⟨d_,by omega,br,by rintro⟨h,_⟩;exact ox (some.inj h)⟩)]
  .rw[if_neg br,if_neg (λh=>br h.2.2.1)]
theorem asw (s:ayc) (ab:s.length<=1048576):JC s=some (j9 s):=by
 unfold JC j9;cases s with
 |nil=>exact Ss [] 0 (by simp) (by omega) (by simp)
 |cons c r=>
  rw[show decide ((0:Int)<(((c::r).length:Nat):Int))=true from Ad (by simp),cond_true,Hp,bind_some];by_cases h:c=45
  .subst h;have e:(((45:UInt8).toNat:Int)==45)=true:=rfl;rw[e,cond_true,if_pos (show(45::r).head? =some 45 from rfl)];exact Ss (45::r) 1 ab (by omega) (by simp)
  .have e:((c.toNat:Int)==45)=false:=by
    simp only[beq_eq_false_iff_ne,ne_eq];intro bC;exact h (UInt8.toNat_inj.1 (by rw[show(45:UInt8).toNat=45 from rfl];omega))
   rw[e,cond_false,if_neg (by intro bC;exact h (some.inj bC))];exact Ss (c::r) 0 ab (by omega) (by simp)
theorem aao:∀c:UInt8,gR c=true->UInt8.ofNat (48+(c.toNat-48))=c:=by
 intro c h;simp only[gR,Bool.and_eq_true,decide_eq_true_eq]at h;rw[show 48+(c.toNat-48)=c.toNat by omega];exact UInt8.ofNat_toNat
end Go.kX
