/- Part of a proof that a law returns true for every input. No condition. -/
import Derived.Test.YtmaepbgkcmjcjahGreatDoorFwA
import Derived.IntWalk
import Derived.Test.YtmaepbgkcmjcjahGreatDoorP3
namespace Go.k6
open Option Nat Or
open Go Go.ei
theorem eE (n:Int) (h: -9223372036854775808<=n/\n<=9223372036854775807):IntKind.i64.wrap n=n:=IntWalk.i64_in n h
theorem mv {α:Type} (a:List α) (i:Nat) (d:α) (h:i<a.length):bj a (i:Int)=some (a.getD i d):=by
 rw[Uq (by omega) (by simpa using h)];simp[List.getD,h]
theorem dX {α:Type} (a:List α) (i:Nat) (h:i<a.length):bj a (i:Int)=some a[i]:=by
 rw[Uq (by omega) (by simpa using h)];rfl
theorem w6 {α:Type} (a:List α) (n:Nat) (h:n<=a.length):gL a 0 (n:Int)=some (a.take n):=by
 unfold gL;rw[if_pos (by omega)];simp
theorem et (i n:Nat) (h:i<n) (aV:n<=4611686018427387904):IntKind.i64.wrap ((i:Int)+1)=((i+1:Nat):Int):=by
 rw[eE _ (by omega)];omega
theorem ev {i n:Nat} (h:i<n):decide ((i:Int)<(n:Int))=true:=by simp;omega
theorem eh {i n:Nat} (h:n<=i):decide ((i:Int)<(n:Int))=false:=by simp;omega
theorem H5 {α:Type} (c:α) (r:List α):bj (c::r) 0=some c:=rfl
theorem A3 {n:Nat} (h:0<n):decide ((0:Int)<(n:Int))=true:=by simp;omega
theorem asY:IntKind.i64.wrap (0+1)=1:=by decide
theorem down (n:Nat) {P:Nat->Prop} (bc:P n) (aa:∀i,i<n->P (i+1)->P i):∀i,i<=n->P i:=by
 have key:∀d,d<=n->P (n-d):=by
  intro d;induction d with
  |zero=>intro _;exact bc
  |succ d ih=>
   intro ao;have:=ih (by omega);refine aa _ (by omega) ?_;rw[show n-(d+1)+1=n-d by omega];exact this
 intro i ai;have:=key (n-i) (by omega)
 rwa [show n-(n-i)=i by omega]at this
theorem up {β:Type} {l:Nat->Int->Option β} {n:Nat} (F:Nat->Option β) (bc:∀m,l (m+1) (n:Int)=F n)
  (aa:∀i,i<n->∀m,(l m ((i+1:Nat):Int)=F (i+1))->l (m+1) (i:Int)=F i):∀i,i<=n->∀m,n-i<m->l m (i:Int)=F i:=by
 refine down n ?_ ?_
 .intro m hm;obtain⟨k,rfl⟩:∃k,m=k+1:=⟨m-1,by omega⟩
  exact bc k
 .intro i ai ih m hm;obtain⟨k,rfl⟩:∃k,m=k+1:=⟨m-1,by omega⟩
  exact aa i ai k (ih k (by omega))
theorem qx {β:Type} {l:Nat->Int->Option β} {n:Nat} (F:Nat->Option β) (bc:∀m,l (m+1) (n:Int)=F n)
  (aa:∀i,i<n->∀m,(l m ((i+1:Nat):Int)=F (i+1))->l (m+1) (i:Int)=F i):b5 (λm=>l m 0)=F 0:=
 e5 (n+1) λm hm=>up F bc aa 0 (by omega) m (by omega)
theorem drop_cons {α:Type} (a:List α) (i:Nat) (h:i<a.length):a.drop i=a[i]::a.drop (i+1):=List.drop_eq_getElem_cons h
def je (n:Int) (s:Nat):Int:=if(s:Int)<=n then n-s else-1
theorem H6 {n:Int} {s:Nat} (h:(s:Int)<=n):je n s=n-s:=if_pos h
theorem H7 {n:Int} {s:Nat} (h:n<s):je n s= -1:=if_neg (by omega)
theorem asZ {n:Int} (h:0<=n):je n 0=n:=by rw[H6 (by simpa using h)];simp
theorem vz {f:azh} {k:Int->azh} {n:Int} {s t:Nat} (bH:f=some (je n s)) (aw:(s:Int)<=n->k (n-s)=some (je (n-s) t)):
  (f.bind λx=>cond (decide (x<0)) (some (-1)) (k x))=some (je n (s+t)):=by
 rw[bH];simp only[bind_some];by_cases h:(s:Int)<=n
 .rw[H6 h];have:decide (n-(s:Int)<0)=false:=by simp;omega
  rw[this,cond_false,aw h];congr 1;unfold je;by_cases ag:(t:Int)<=n-s
  .rw[if_pos ag,if_pos (by omega)];omega
  .rw[if_neg ag,if_neg (by omega)]
 .rw[H7 (by omega)];have:decide ((-1:Int)<0)=true:=by decide
  rw[this,cond_true,H7 (by omega)]
theorem pW {K:azh} {n:Int} {s t:Nat} (aa:s<=9223372036854775807) (bc:0<=n) (aV:n<=1048576) (aw:(s:Int)<=n->K=some (je (n-s) t)):
  cond (decide (IntKind.i64.wrap (n-(s:Int))<0)) (some (-1)) K=some (je n (s+t)):=by
 rw[eE _ (by omega)];by_cases h:(s:Int)<=n
 .have:decide (n-(s:Int)<0)=false:=by simp;omega
  rw[this,cond_false,aw h];congr 1;unfold je;by_cases ag:(t:Int)<=n-s
  .rw[if_pos ag,if_pos (by omega)];omega
  .rw[if_neg ag,if_neg (by omega)]
 .have:decide (n-(s:Int)<0)=true:=by simp;omega
  rw[this,cond_true,H7 (by omega)]
theorem w7 {n:Int} (h:0<=n):some n=some (je n 0):=by rw[asZ h]
def hV {α:Type} (f:α->Nat):List α->Nat
 |[]=>0
 |x::r=>f x+hV f r
theorem aaP {α:Type} {f:α->Nat}:∀{l:List α} {x:α},x∈l->f x<=hV f l
 |y::r,x,h=>by
  simp only[hV];rcases List.mem_cons.1 h with rfl|h
  .omega
  .have:=aaP (f:=f) h;omega
theorem aaQ {α β:Type} {f:β->Nat} {g:α->β}:∀l:List α,hV f (l.map g)=hV (λx=>f (g x)) l
 |[]=>rfl
 |x::r=>by simp only[List.map_cons,hV,aaQ r]
def eg {α:Type} (f:α->Nat) (l:List α):Nat:=l.length+hV f l
theorem A4 {α β:Type} (f:β->Nat) (g:α->β) (l:List α):eg f (l.map g)=eg (λx=>f (g x)) l:=by simp only[eg,List.length_map,aaQ]
theorem kd {α:Type} (f:α->Nat) (l:List α):l.length<=eg f l:=le_add_right _ _
theorem nn {α:Type} {f:α->Nat} {l:List α} {x:α} (h:x∈l):f x<=eg f l:=Nat.le_trans (aaP h) (le_add_left _ _)
theorem aaR {α:Type} {l:Nat->Int->Int->azh} {B:α->Int->(Int->azh)->azh} (sz:α->Nat) (a:List α)
  (pX:∀m n i,l (m+1) n i=cond (decide (i<(a.length:Int))) ((bj a i).bind λx=>B x n λy=>l m y (IntKind.i64.wrap (i+1))) (some n))
  (bH:∀x∈a,∀(n:Int) (k:Int->azh) (t:Nat),0<=n->n<=1048576->((sz x:Int)<=n->k (n-sz x)=some (je (n-sz x) t))->B x n k=some (je n (sz x+t)))
  (bo:a.length<=1048576) (n:Int) (bc:0<=n) (aV:n<=1048576):b5 (λm=>l m n 0)=some (je n (hV sz a)):=by
 have key:∀i,i<=a.length->∀n:Int,0<=n->n<=1048576->∀m,a.length-i<m->l m n (i:Int)=some (je n (hV sz (a.drop i))):=by
  refine down a.length ?_ ?_
  .intro n bc _ m hm;obtain⟨k,rfl⟩:∃k,m=k+1:=⟨m-1,by omega⟩
   rw[pX,eh (Nat.le_refl _),cond_false,List.drop_of_length_le (Nat.le_refl _)];exact w7 bc
  .intro i ai ih n bc aV m hm;obtain⟨k,rfl⟩:∃k,m=k+1:=⟨m-1,by omega⟩
   rw[pX,ev ai,cond_true,dX _ i ai,et i _ ai (by omega),drop_cons a i ai];simp only[bind_some,hV];exact bH _ (List.getElem_mem ai) n _ _ bc aV λh=>ih _ (by omega) (by omega) k (by omega)
 refine e5 (a.length+1) λm hm=>?_;have:=key 0 (by omega) n bc aV m (by omega);simpa using this
theorem D4 {α:Type} {l:Nat->Int->Int->azh} {f:α->Int->azh} (sz:α->Nat) (a:List α)
  (pX:∀m n i,l (m+1) n i=cond (decide (i<(a.length:Int))) ((bj a i).bind λx=>(f x n).bind λy=>cond (decide (y<0)) (some (-1)) (l m y (IntKind.i64.wrap (i+1)))) (some n))
  (bH:∀x∈a,∀n:Int,0<=n->n<=1048576->f x n=some (je n (sz x))) (bo:a.length<=1048576) (n:Int) (bc:0<=n) (aV:n<=1048576):b5 (λm=>l m n 0)=some (je n (hV sz a)):=
 aaR (B:=λx n k=>(f x n).bind λy=>cond (decide (y<0)) (some (-1)) (k y)) sz a pX (λx aq n _ _ bc aV aw=>vz (bH x aq n bc aV) aw) bo n bc aV
theorem as0 {l:Nat->Int->Int->azh} (a:azb)
  (pX:∀m n i,l (m+1) n i=cond (decide (i<(a.length:Int))) ((bj a i).bind λx=>cond (decide (IntKind.i64.wrap (n-(x.length:Int))<0)) (some (-1)) (l m (IntKind.i64.wrap (n-(x.length:Int))) (IntKind.i64.wrap (i+1)))) (some n))
  (bH:∀x∈a,x.length<=9223372036854775807) (bo:a.length<=1048576) (n:Int) (bc:0<=n) (aV:n<=1048576):b5 (λm=>l m n 0)=some (je n (hV List.length a)):=
 aaR (B:=λx n k=>cond (decide (IntKind.i64.wrap (n-(x.length:Int))<0)) (some (-1)) (k (IntKind.i64.wrap (n-(x.length:Int))))) List.length a (by intro m n i;rw[pX]) (by
  intro x aq n k t bc aV aw;have hl:=bH x aq;refine pW hl bc aV λh=>?_;have e:IntKind.i64.wrap (n-(x.length:Int))=n-(x.length:Int):=eE _ (by omega);rw[e];exact aw h) bo n bc aV
theorem w8 {α β:Type} {l:Nat->List β->Int->Option (List β)} {f:α->Option β} (g:α->β) (a:List α) (z:β)
  (pX:∀m v i,l (m+1) v i=cond (decide (i<(a.length:Int))) ((bj a i).bind λx=>(f x).bind λy=>(bj v i).bind λ_=>l m (List.set v (Int.toNat i) y) (IntKind.i64.wrap (i+1))) (some v))
  (bH:∀x∈a,f x=some (g x)) (bo:a.length<=1048576):b5 (λm=>l m (List.replicate (Int.toNat (a.length:Int)) z) 0)=some (a.map g):=by
 have key:∀i,i<=a.length->∀(v:List β) m,v.length=a.length->a.length-i<m->l m v (i:Int)=some (v.take i++(a.drop i).map g):=by
  refine down a.length ?_ ?_
  .intro v m aF hm;obtain⟨k,rfl⟩:∃k,m=k+1:=⟨m-1,by omega⟩
   rw[pX,eh (Nat.le_refl _)];simp[<-aF]
  .intro i ai ih v m aF hm;obtain⟨k,rfl⟩:∃k,m=k+1:=⟨m-1,by omega⟩
   rw[pX,ev ai,dX _ i ai,et i _ ai (by omega)];simp only[cond_true,bind_some,bH _ (List.getElem_mem ai)];rw[dX v i (by omega)];simp only[bind_some,Int.toNat_natCast];rw[ih _ k (by simp[aF]) (by omega),drop_cons a i ai,List.map_cons,List.take_set,List.take_succ_eq_append_getElem (by omega),List.set_append_right _ _ (by simp;omega)];simp[show min i v.length=i by omega]
 refine e5 (a.length+1) λm hm=>?_;have:=key 0 (by omega) (List.replicate (Int.toNat (a.length:Int)) z) m (by simp) (by omega);simpa using this
theorem tL (b:Nat) {n:Nat} (h:n<=1048576) (ab:b<=4096):nR b (n:Int)=some ():=by
 have ad:b*n<=4096*1048576:=Nat.mul_le_mul ab h;have ag:((b:Int)*(n:Int))=((b*n:Nat):Int):=by simp
 unfold nR;rw[if_pos ⟨by omega,by rw[ag];omega,by omega⟩]
theorem A5 {α:Type} {l:Nat->Int->azg} {f:α->α->azg} (a:List α)
  (pX:∀m i,l (m+1) i=cond (decide (i<(a.length:Int))) ((bj a i).bind λx=>(bj a i).bind λy=>(f x y).bind λz=>cond (!z) (some false) (l m (IntKind.i64.wrap (i+1)))) (some true))
  (bH:∀x∈a,f x x=some true) (bo:a.length<=1048576):b5 (λm=>l m 0)=some true:=by
 rw[qx (n:=a.length) (λ_=>some true)]
 .intro m;rw[pX,eh (Nat.le_refl _)];rfl
 .intro i ai m ih;rw[pX,ev ai,dX _ i ai,et i _ ai (by omega),ih];simp only[cond_true,bind_some,bH _ (List.getElem_mem ai),Bool.not_true,cond_false]
theorem S_ {α:Type} {d:α->α->Bool} {l:Nat->Int->azg} (a:List α)
  (pX:∀m i,l (m+1) i=cond (decide (i<(a.length:Int))) ((bj a i).bind λx=>(bj a i).bind λy=>cond (d x y) (some false) (l m (IntKind.i64.wrap (i+1)))) (some true))
  (ao:∀x,d x x=false) (bo:a.length<=1048576):b5 (λm=>l m 0)=some true:=by
 rw[qx (n:=a.length) (λ_=>some true)]
 .intro m;rw[pX,eh (Nat.le_refl _)];rfl
 .intro i ai m ih;rw[pX,ev ai,dX _ i ai,et i _ ai (by omega),ih];simp only[cond_true,bind_some,ao,cond_false]
theorem yQ (x:Int):(x !=x)=false:=by simp
theorem w9 (x:azc):(!(x==x))=false:=by simp
theorem A6 (x:Bool):(!(x==x))=false:=by simp
theorem vA (n:Nat):((n:Int) !=(n:Int))=false:=by simp
def gf (p:Nat->Bool) (n:Nat):Bool:=(List.range n).all p
theorem pd {p:Nat->Bool} {n:Nat}:gf p n=true↔∀i,i<n->p i=true:=by simp[gf]
theorem H8 {l:Nat->Int->azg} {n:Nat} (p:Nat->Bool) (bc:∀m,l (m+1) (n:Int)=some true)
  (aa:∀i,i<n->∀m,l (m+1) (i:Int)=cond (p i) (l m ((i+1:Nat):Int)) (some false)):b5 (λm=>l m 0)=some (gf p n):=by
 rw[qx (n:=n) (λi=>some ((List.range' i (n-i)).all p))]
 .simp[gf,List.range_eq_range']
 .intro m;rw[bc];simp
 .intro i ai m ih;rw[aa i ai,ih,show n-i=(n-(i+1))+1 by omega,List.range'_succ];cases ax:p i<;>simp[ax]
def kt (p:Nat->Bool):Nat->Nat->Int
 |_,0=> -1
 |i,k+1=>if p i=true then(i:Int)else kt p (i+1) k
theorem aaS {p:Nat->Bool}:∀(k i:Nat),(∀j,i<=j->j<i+k->p j=false)->kt p i k= -1
 |0,_,_=>rfl
 |k+1,i,h=>by
  simp only[kt,h i (Nat.le_refl _) (by omega)];exact aaS k (i+1) λj ad ag=>h j (by omega) (by omega)
theorem aaT {p:Nat->Bool}:∀(k i j:Nat),i<=j->j<i+k->p j=true->0<=kt p i k
 |0,i,j,ad,ag,_=>by omega
 |k+1,i,j,ad,ag,aD=>by
  simp only[kt];split
  .omega
  .rename_i h;refine aaT k (i+1) j ?_ (by omega) aD;rcases Nat.lt_or_ge i j with h|h
   .exact h
   .have:i=j:=by omega
    subst this;exact absurd aD (by assumption)
theorem w_ (p:Nat->Bool) (n:Nat):decide (0<=kt p 0 n)= !(gf (λi=> !p i) n):=by
 by_cases h:∃j,j<n/\p j=true
 .obtain⟨j,ad,ag⟩:=h;have aD:=aaT n 0 j (zero_le _) (by omega) ag;have bh:gf (λi=> !p i) n=false:=by
   rw[Bool.eq_false_iff];intro kz;have:=pd.1 kz j ad;simp[ag]at this
  rw[bh];simpa using aD
 .have aD:∀j,j<n->p j=false:=λj bG=>by
   cases ax:p j
   .rfl
   .exact absurd ⟨j,bG,ax⟩ h
  rw[aaS n 0 λj _ ag=>aD j (by omega)];have bh:gf (λi=> !p i) n=true:=pd.2 λi ai=>by simp[aD i ai]
  rw[bh];rfl
theorem tM {l:Nat->Int->azh} {n:Nat} (p:Nat->Bool) (bc:∀m,l (m+1) (n:Int)=some (-1))
  (aa:∀i,i<n->∀m,l (m+1) (i:Int)=cond (p i) (some (i:Int)) (l m ((i+1:Nat):Int))):b5 (λm=>l m 0)=some (kt p 0 n):=by
 rw[qx (n:=n) (λi=>some (kt p i (n-i)))]
 .simp
 .intro m;rw[bc];simp[kt]
 .intro i ai m ih;rw[aa i ai,ih,show n-i=(n-(i+1))+1 by omega];cases ax:p i<;>simp[ax,kt]
theorem H9 (i:Nat) (h:0<i) (aV:i<=4611686018427387904):IntKind.i64.wrap ((i:Int)-1)=((i-1:Nat):Int):=by
 rw[eE _ (by omega)];omega
theorem A7:decide ((0:Int)<((0:Nat):Int))=false:=by decide
theorem Ta {i:Nat} (h:i≠0):decide ((0:Int)<(i:Int))=true:=by simp;omega
def xa (b:Bool):Int:=cond b 1 0
theorem LZ (b:Bool):(cond b (some 1) (some 0):azh)=some (xa b):=by cases b<;>rfl
theorem as1 {α:Type} (x:α) (l:List α):gL (x::l) 1 (((x::l).length:Nat):Int)=some l:=by
 unfold gL;rw[if_pos (by simp only[List.length_cons];omega)];simp
theorem L0 {α:Type} (a b c:List α) {i j:Int} (ai:i=(a.length:Int)) (bG:j=((a.length+b.length:Nat):Int)):gL (a++(b++c)) i j=some b:=by
 unfold gL;have aR:i.toNat=a.length:=by omega
 have aW:j.toNat=a.length+b.length:=by omega
 rw[if_pos (by simp only[List.length_append];omega),aR,aW,<-List.append_assoc,List.take_left' (by simp),List.drop_left' rfl]
theorem lJ {b n:Nat} (h:n*b<=140737488355328) (ag:n<=9223372036854775807):room b n=some ():=by unfold room;rw[if_pos ⟨h,ag⟩]
theorem su {α:Type} (d:List α) (x:α) (r:List α):bj (d++x::r) (d.length:Int)=some x:=by
 rw[dX _ _ (by simp)];simp
theorem xb {α:Type} (d:List α) (x y:α) (r:List α):List.set (d++x::r) (Int.toNat (d.length:Int)) y=d++y::r:=by
 simp
theorem L1 {k:Int} (h:0<=k):decide (k<0)=false:=by simp;omega
theorem sv {α:Type} (d:List α) (x:α) (r:List α):decide ((d.length:Int)<((d++x::r).length:Int))=true:=by simp;omega
theorem sw {α:Type} {d:List α} (h:d.length<=1099511627776):IntKind.i64.wrap ((d.length:Int)+1)=((d.length+1:Nat):Int):=by rw[eE _ (by omega)];omega
theorem yR {α:Type} (f:α->Nat):∀a:List α,hV (λx=>64*(f x+1)) a=64*eg f a
 |[]=>rfl
 |x::r=>by
  have:=yR f r;unfold eg at this⊢;simp only[hV,List.length_cons];omega
theorem Tb {α:Type} (n:Nat):∀a:List α,hV (λ_=>n) a=n*a.length
 |[]=>rfl
 |x::r=>by simp only[hV,Tb n r,List.length_cons,Nat.mul_add];omega
theorem D5 {α:Type} {l:Nat->List α->Int->Int->Option (Int×List α)} (w:α->Nat) (bc:∀m (v:List α) k,l (m+1) v k (v.length:Int)=some (k,v))
  (aa:∀x (k:Int),0<=k->k+w x<=1099511627776->∃cU c,c<=w x/\∀m (d r:List α),d.length<=1099511627776->l (m+1) (d++x::r) k (d.length:Int)=l m (d++cU::r) (k+(c:Nat)) ((d.length+1:Nat):Int))
  (a:List α) (k:Int) (aw:0<=k) (hl:a.length<=1099511627776) (ab:k+hV w a<=1099511627776):∃dI c,c<=hV w a/\b5 (λn=>l n a k 0)=some (k+(c:Nat),dI):=by
 have key:∀(r:List α) (k:Int),0<=k->k+hV w r<=1099511627776->∃hW c,c<=hV w r/\∀(d:List α) (m:Nat),d.length+r.length<=1099511627776->r.length<m->l m (d++r) k (d.length:Int)=some (k+(c:Nat),d++hW):=by
  intro r;induction r with
  |nil=>
   intro k _ _;refine⟨[],0,Nat.le_refl _,λd m _ hm=>?_⟩;obtain⟨m,rfl⟩:∃j,m=j+1:=⟨m-1,by omega⟩
   rw[List.append_nil,bc];simp
  |cons x r ih=>
   intro k ad ag;simp only[hV]at ag;obtain⟨cU,c,cx,c2⟩:=aa x k ad (by omega);obtain⟨hW,xO,aR,aW⟩:=ih (k+c) (by omega) (by omega);refine⟨cU::hW,c+xO,by simp only[hV];omega,λd m ao hm=>?_⟩;simp only[List.length_cons]at ao hm;obtain⟨m,rfl⟩:∃j,m=j+1:=⟨m-1,by omega⟩
   rw[c2 m d r (by omega)];have:=aW (d++[cU]) m (by simp only[List.length_append,List.length_cons,List.length_nil];omega) (by omega);simp only[List.length_append,List.length_cons,List.length_nil,List.append_assoc,List.cons_append,List.nil_append,Nat.zero_add]at this;rw[this];simp only[some.injEq,Prod.mk.injEq,and_true];omega
 obtain⟨dI,c,aR,aW⟩:=key a k aw ab;refine⟨dI,c,aR,e5 (a.length+1) λm hm=>?_⟩;have:=aW [] m (by simpa using hl) (by omega);simpa using this
theorem Tc {α:Type} {l:Nat->List α->Int->Int->Option (Int×List α)} {hl:List α->Nat->Int->Int->azh} (w:α->Nat) (bc:∀m (v:List α) k,l (m+1) v k (v.length:Int)=some (k,v))
  (g0:∀(a:List α) m k,hl a (m+1) k (a.length:Int)=some k)
  (aa:∀x (k:Int),0<=k->k+w x<=1099511627776->∃cU c,c<=w x/\∀m (d r:List α),d.length<=1099511627776->l (m+1) (d++x::r) k (d.length:Int)=l m (d++cU::r) (k+(c:Nat)) ((d.length+1:Nat):Int)/\
   hl (d++cU::r) (m+1) k (d.length:Int)=hl (d++cU::r) m (k+(c:Nat)) ((d.length+1:Nat):Int))
  (a:List α) (k:Int) (aw:0<=k) (vB:a.length<=1099511627776) (ab:k+hV w a<=1099511627776):∃dI c,c<=hV w a/\b5 (λn=>l n a k 0)=some (k+(c:Nat),dI)/\b5 (λn=>hl dI n k 0)=some (k+(c:Nat)):=by
 have key:∀(r:List α) (k:Int),0<=k->k+hV w r<=1099511627776->∃hW c,c<=hV w r/\hW.length=r.length/\∀(d:List α) (m:Nat),d.length+r.length<=1099511627776->r.length<m->l m (d++r) k (d.length:Int)=some (k+(c:Nat),d++hW)/\
   hl (d++hW) m k (d.length:Int)=some (k+(c:Nat)):=by
  intro r;induction r with
  |nil=>
   intro k _ _;refine⟨[],0,Nat.le_refl _,rfl,λd m _ hm=>?_⟩;obtain⟨m,rfl⟩:∃j,m=j+1:=⟨m-1,by omega⟩
   rw[List.append_nil,bc,g0];simp
  |cons x r ih=>
   intro k ad ag;simp only[hV]at ag;obtain⟨cU,c,cx,c2⟩:=aa x k ad (by omega);obtain⟨hW,xO,aR,aU,aW⟩:=ih (k+c) (by omega) (by omega);refine⟨cU::hW,c+xO,by simp only[hV];omega,by simp only[List.length_cons,aU],λd m ao hm=>?_⟩;simp only[List.length_cons]at ao hm;obtain⟨m,rfl⟩:∃j,m=j+1:=⟨m-1,by omega⟩
   rw[(c2 m d r (by omega)).1,(c2 m d hW (by omega)).2];have:=aW (d++[cU]) m (by simp only[List.length_append,List.length_cons,List.length_nil];omega) (by omega);simp only[List.length_append,List.length_cons,List.length_nil,List.append_assoc,List.cons_append,List.nil_append,Nat.zero_add]at this;rw[this.1,this.2];simp only[some.injEq,Prod.mk.injEq,and_true];exact⟨by omega,by omega⟩
 obtain⟨dI,c,aR,aU,aW⟩:=key a k aw ab;refine⟨dI,c,aR,e5 (a.length+1) λm hm=>?_,e5 (a.length+1) λm hm=>?_⟩
 .have:=(aW [] m (by simpa using vB) (by omega)).1;simpa using this
 .have:=(aW [] m (by simpa using vB) (by omega)).2;simpa using this
def glue (p:azc):azb->azb
 |[]=>[p]
 |h::t=>(p++h)::t
def l5 (c:UInt8):azc->azb
 |[]=>[[]]
 |x::r=>if x=c then []::l5 c r else glue [x] (l5 c r)
theorem aaU:∀{l:azb},l≠[]->glue [] l=l
 |[],h=>(h rfl).elim
 |_::_,_=>rfl
theorem as2 (p q:azc):∀l:azb,glue p (glue q l)=glue (p++q) l
 |[]=>rfl
 |h::t=>by simp only[glue,List.append_assoc]
theorem aaV (c:UInt8):∀s,l5 c s≠[]
 |[]=>by simp[l5]
 |x::r=>by
  simp only[l5];split
  .simp
  .cases h:l5 c r<;>simp[glue]
theorem Td (c:UInt8):∀s,c∉s->l5 c s=[s]
 |[],_=>rfl
 |x::r,h=>by
  simp only[List.mem_cons,not_or]at h;simp only[l5];rw[if_neg (λe=>h.1 e.symm),Td c r h.2];rfl
theorem Te (c:UInt8):∀p q,c∉p->l5 c (p++c::q)=p::l5 c q
 |[],q,_=>by simp[l5]
 |x::r,q,h=>by
  simp only[List.mem_cons,not_or]at h;simp only[List.cons_append,l5];rw[if_neg (λe=>h.1 e.symm),Te c r q h.2];rfl
theorem aaW (c:UInt8):∀s,c∉s->tu s c= -1
 |[],_=>rfl
 |x::r,h=>by
  simp only[List.mem_cons,not_or]at h;have kz:(x==c)=false:=by simpa using λe=>h.1 e.symm
  simp only[tu,kz,aaW c r h.2];rfl
theorem aaX (c:UInt8):∀p q,c∉p->tu (p++c::q) c=(p.length:Int)
 |[],q,_=>by simp[tu]
 |x::r,q,h=>by
  simp only[List.mem_cons,not_or]at h;have kz:(x==c)=false:=by simpa using λe=>h.1 e.symm
  have ih:=aaX c r q h.2;simp only[List.cons_append,tu,kz,ih];have:((r.length:Int)== -1)=false:=by simp
  rw[this];simp
theorem aaY {c:UInt8}:∀{s:azc},c∈s->∃p q,s=p++c::q/\c∉p
 |x::r,h=>by
  by_cases e:x=c
  .subst e;exact⟨[],r,rfl,by simp⟩
  .have bF:c∈r:=by
    rcases List.mem_cons.1 h with h|h
    .exact(e h.symm).elim
    .exact h
   obtain⟨p,q,rfl,ax⟩:=aaY bF;exact⟨x::p,q,rfl,by simp only[List.mem_cons,not_or];exact⟨λh=>e h.symm,ax⟩⟩
theorem aaZ (s:azc) (c:UInt8) (aa:1<=s.length\/True):wI s [c]=some (if s=[c]then 0 else tu s c):=by
 unfold wI QK QJ;by_cases h:s=[c]
 .subst h;simp
 .have e:([c]==s)=false:=by simpa using λbF=>h bF.symm
  rw[if_neg h,e];rfl
theorem as3 {s:azc} {c:UInt8} (h:c∉s):wI s [c]=some (-1):=by
 rw[aaZ s c (.inr trivial),if_neg (by rintro rfl;simp at h),aaW c s h]
theorem aa0 (p q:azc) {c:UInt8} (h:c∉p):wI (p++c::q) [c]=some (p.length:Int):=by
 rw[aaZ _ c (.inr trivial),aaX c p q h];split
 .rename_i e;cases p with
  |nil=>rfl
  |cons x r=>have:=congrArg List.length e;simp at this
 .rfl
theorem as4 (s t:azc):G5 s t=wI s t:=by
 unfold G5;cases wI s t<;>rfl
theorem as5 {s:azc} {c:UInt8} (h:c∉s):De s [c]=some (s,[],false):=by
 unfold De KT;rw[as3 h];rfl
theorem as6 (p q:azc) {c:UInt8} (h:c∉p) (hl:(p++c::q).length<=1048576):De (p++c::q) [c]=some (p,q,true):=by
 unfold De KT;rw[aa0 p q h];simp only[List.length_append,List.length_cons]at hl;have e:decide ((0:Int)<=(p.length:Int))=true:=by simp
 simp only[bind_some,e,cond_true];rw[w6 _ _ (by simp),eE ((p.length:Int)+([c].length:Int)) (by simp;omega)];have aW:gL (p++c::q) ((p.length:Int)+([c].length:Int)) ((p++c::q).length:Int)=some q:=by
  have:=L0 (p++[c]) q [] (i:=((p.length:Int)+([c].length:Int))) (j:=(((p++c::q).length:Nat):Int)) (by simp) (by simp;omega);simpa using this
 rw[aW];simp
theorem as7 (q:azc) {c:UInt8} (hl:q.length<=1048576):strings_TrimSuffix (q++[c]) [c]=some q:=by
 unfold strings_TrimSuffix QM QL;have e:decide (([c].length:Int)<=((q++[c]).length:Int))=true:=by simp;omega
 have as8:IntKind.i64.wrap (((q++[c]).length:Int)-([c].length:Int))=(q.length:Int):=by
  rw[eE _ (by simp;omega)];simp
 rw[e,as8];have aW:=L0 q [c] [] (i:=(q.length:Int)) (j:=(((q++[c]).length:Nat):Int)) rfl (by simp);simp only[List.append_nil]at aW;rw[aW,w6 _ _ (by simp)];simp
theorem aa1 {α:Type} (a:List α) (x y:α) (b:List α):(a++x::b).set a.length y=a++y::b:=by
 rw[List.set_append_right _ _ (Nat.le_refl _),Nat.sub_self,List.set_cons_zero]
theorem aa2 {α:Type} (a:List α) (x:α) (b:List α):bj (a++x::b) (a.length:Int)=some x:=by
 rw[dX _ _ (by simp)];simp
theorem as9 {α:Type} (a:List α) (x:α) (b:List α):gL (a++x::b) 0 ((a.length+1:Nat):Int)=some (a++[x]):=by
 rw[w6 _ _ (by simp)];congr 1;rw[show a++x::b=(a++[x])++b by simp,List.take_left' (by simp)]
theorem as_ (c:UInt8) (s:azc) (aa:s.length<=1048576) (N:Nat) (A8:N=s.count c+1):
  ∀(k:Nat) (r:azc) (d:azb),r.count c=k->d.length+k+1=N->r.length<=s.length->∀m,k<m->
   Ak s [c] 0 (N:Int) m r (d++List.replicate (k+1) []) (d.length:Int)=some (d++l5 c r):=by
 have au:s.count c<=s.length:=List.count_le_length;have aa3:kZ false (N:Int) (IntKind.i64.wrap ((s.length:Int)+1))=(N:Int):=by
  rw[eE _ (by omega)];unfold kZ;simp;omega
 have H_:∀(r:azc) (d:azb),d.length<N->c∉r->G6 s [c] 0 (N:Int) r (d++List.replicate 1 []) (d.length:Int)=some (d++l5 c r):=by
  intro r d ao aS;unfold G6;simp only[List.replicate_succ,List.replicate_zero];rw[aa2,bind_some,Int.toNat_natCast,aa1,eE _ (by omega),show((d.length:Int)+1)=((d.length+1:Nat):Int) by omega,as9,Td c r aS];rfl
 intro k;induction k with
 |zero=>
  intro r d aS ao hl m hm;obtain⟨m,rfl⟩:∃j,m=j+1:=⟨m-1,by omega⟩
  simp only[Ak,QQ];have e:decide ((d.length:Int)<IntKind.i64.wrap (kZ false (N:Int) (IntKind.i64.wrap ((s.length:Int)+1))-1))=false:=by
   rw[aa3,eE _ (by omega)];simp;omega
  rw[e,cond_false];exact H_ r d (by omega) (List.count_eq_zero.1 aS)
 |succ k ih=>
  intro r d aS ao hl m hm;obtain⟨m,rfl⟩:∃j,m=j+1:=⟨m-1,by omega⟩
  obtain⟨p,q,rfl,ax⟩:=aaY (c:=c) (s:=r) (List.count_pos_iff.1 (by omega));simp only[Ak,QQ];have e:decide ((d.length:Int)<IntKind.i64.wrap (kZ false (N:Int) (IntKind.i64.wrap ((s.length:Int)+1))-1))=true:=by
   rw[aa3,eE _ (by omega)];simp;omega
  simp only[List.length_append,List.length_cons]at hl;rw[e,cond_true,as4,aa0 p q ax,bind_some];have aW:decide ((p.length:Int)<0)=false:=by simp
  rw[aW,cond_false,eE ((p.length:Int)+0) (by omega),Int.add_zero,w6 _ _ (by simp)];have aU:gL (p++c::q) (IntKind.i64.wrap ((p.length:Int)+([c].length:Int))) ((p++c::q).length:Int)=some q:=by
   rw[eE _ (by simp;omega)];have:=L0 (p++[c]) q [] (i:=((p.length:Int)+([c].length:Int))) (j:=(((p++c::q).length:Nat):Int)) (by simp) (by simp;omega);simpa using this
  rw[bind_some,List.take_left' rfl,show List.replicate (k+1+1) ([]:azc)=[]::List.replicate (k+1) []from rfl,aa2,bind_some,aU,bind_some,Int.toNat_natCast,aa1,eE ((d.length:Int)+1) (by omega)];have ata:q.count c=k:=by
   rw[List.count_append,List.count_cons_self,List.count_eq_zero.2 ax]at aS;omega
  have:=ih q (d++[p]) ata (by simp;omega) (by omega) m (by omega);simp only[List.append_assoc,List.singleton_append,List.length_append,List.length_cons,List.length_nil]at this;rw[Te c p q ax,<-this];congr 1
theorem atb (c:UInt8) (s:azc) (aa:s.length<=1048576):KV s [c]=some (l5 c s):=by
 have au:s.count c<=s.length:=List.count_le_length;unfold KV QR QP QN KU;have aR:((-1:Int)==0)=false:=by decide
 have aW:([c]==([]:azc))=false:=rfl;have aU:decide ((-1:Int)<0)=true:=by decide
 have cc:(([c].length:Int)==0)=false:=rfl;have cZ:(([c].length:Int)==1)=true:=rfl;rw[aR,aW,aU,cc,cZ];simp only[cond_false,cond_true,H5,bind_some];rw[eE ((s.count c:Int)+1) (by omega),eE ((s.length:Int)+1) (by omega)];have hm:kZ false ((s.count c:Int)+1) ((s.length:Int)+1)=((s.count c+1:Nat):Int):=by
  unfold kZ;simp;omega
 have aw:nR 16 ((s.count c+1:Nat):Int)=some ():=by
  unfold nR;rw[if_pos ⟨by omega,by omega,by omega⟩]
 have hl:b5 (λn=>Ak s [c] 0 ((s.count c:Int)+1) n s (List.replicate (s.count c+1) []) 0)=some (l5 c s):=by
  refine e5 (s.count c+1) λm hm=>?_;have:=as_ c s aa (s.count c+1) rfl (s.count c) s [] rfl (by simp) (Nat.le_refl _) m (by omega);simpa using this
 rw[hm,aw];simp only[bind_some,Int.toNat_natCast];rw[hl];rfl
theorem atc (c:UInt8) (s:azc) (aa:s.length<=1048576):Kh s c=some (l5 c s):=by
 have key:∀i,i<=s.length->∀m,s.length-i<m->∀(v:azb) (f:Nat),f<=i->v.length<=i->
   z1 s c m v (f:Int) (i:Int)=some (v++glue ((s.take i).drop f) (l5 c (s.drop i))):=by
  refine down s.length ?_ ?_
  .intro m hm v f bH aF;obtain⟨m,rfl⟩:∃j,m=j+1:=⟨m-1,by omega⟩
   simp only[z1,PQ];rw[eh (Nat.le_refl _),cond_false];have e:gL s (f:Int) (s.length:Int)=some (s.drop f):=by
    unfold gL;rw[if_pos ⟨by omega,by omega,by omega⟩];simp
   rw[e,bind_some,lJ (by omega) (by omega),bind_some,List.take_length,List.drop_length];simp[l5,glue]
  .intro i ai ih m hm v f bH aF;obtain⟨m,rfl⟩:∃j,m=j+1:=⟨m-1,by omega⟩
   simp only[z1,PQ,Kg];rw[ev ai,cond_true,dX s i ai,bind_some,drop_cons s i ai];simp only[l5];by_cases au:s[i]=c
   .have e:((s[i].toNat:Int)==(c.toNat:Int))=true:=by rw[au];simp
    have aW:gL s (f:Int) (i:Int)=some ((s.take i).drop f):=by
     unfold gL;rw[if_pos ⟨by omega,by omega,by omega⟩];simp
    rw[e,cond_true,aW,bind_some,lJ (by omega) (by omega),bind_some,if_pos au,et i s.length ai (by omega),ih m (by omega) _ (i+1) (Nat.le_refl _) (by simp;omega)];rw[List.drop_of_length_le (l:=List.take (i+1) s) (by rw[List.length_take];omega),aaU (aaV _ _)];simp[glue]
   .have e:((s[i].toNat:Int)==(c.toNat:Int))=false:=by
     simp only[beq_eq_false_iff_ne,ne_eq];intro h;exact au (UInt8.toNat_inj.1 (by omega))
    rw[e,cond_false,if_neg au,et i s.length ai (by omega),ih m (by omega) _ f (by omega) (by omega),as2];congr 3;rw[List.take_succ_eq_append_getElem ai,List.drop_append_of_le_length (by simp;omega)]
 unfold Kh;refine e5 (s.length+1) λm hm=>?_;have:=key 0 (by omega) m (by omega) [] 0 (Nat.le_refl _) (zero_le _);simpa [aaU (aaV c s)]using this
theorem atd:∀d:Fin 10,IntKind.i64.wrap (IntKind.u8.wrap (((48+d.val:Nat):Int)-48))=((d.val:Nat):Int):=by decide
theorem u8_in:∀c:UInt8,gX c=true->IntKind.i64.wrap (IntKind.u8.wrap ((c.toNat:Int)-48))=((c.toNat-48:Nat):Int):=by
 intro c h;simp only[gX,Bool.and_eq_true,decide_eq_true_eq]at h;have:=atd ⟨c.toNat-48,by omega⟩;simp only at this
 rwa [show 48+(c.toNat-48)=c.toNat by omega]at this
theorem ate (c:UInt8):Ce c=some (gX c):=by
 unfold Ce gX;congr 2
 .rw[decide_eq_decide];omega
 .rw[decide_eq_decide];omega
def nO (n:Nat) (d:azc):Nat:=d.foldl (λn c=>10*n+(c.toNat-48)) n
theorem aa4:∀(d:azc) (n k:Nat),d.all gX=true->n<10^k->nO n d<10^(k+d.length)
 |[],n,k,_,h=>by simpa [nO]using h
 |c::r,n,k,ao,h=>by
  simp only[List.all_cons,Bool.and_eq_true]at ao;have au:=ao.1;simp only[gX,Bool.and_eq_true,decide_eq_true_eq]at au;have:=aa4 r (10*n+(c.toNat-48)) (k+1) ao.2 (by rw[Nat.pow_succ];omega);rw[List.length_cons,show k+(r.length+1)=k+1+r.length by omega];exact this
theorem aa5 (s:azc) (a:Int) (aa:s.length<=1048576):∀(d:azc) (i n k:Nat),s.drop i=d->i<=s.length->n<10^k->k+d.length<=18->∀m,d.length<m->
  wz s a m (n:Int) (i:Int)=some (if d.all gX=true then(if a=1 then-(nO n d:Int)else nO n d,true)else(0,false))
 |[],i,n,k,ao,ai,aV,aw,m,hm=>by
  obtain⟨m,rfl⟩:∃j,m=j+1:=⟨m-1,by simp at hm;omega⟩
  have atf:i=s.length:=by
   have:=congrArg List.length ao;rw[List.length_drop]at this;simp at this;omega
  subst atf;have xM:n<10^18:=Nat.lt_of_lt_of_le aV (Nat.pow_le_pow_right (by omega) (by simpa using aw));simp only[wz,PR,GA];rw[eh (Nat.le_refl _),cond_false];by_cases bo:a=1
  .subst bo;simp only[BEq.rfl,cond_true];rw[eE _ (by omega)];simp[nO]
  .have:(a==1)=false:=by simpa using bo
   rw[this,cond_false];simp[nO,bo]
 |c::r,i,n,k,ao,ai,aV,aw,m,hm=>by
  obtain⟨m,rfl⟩:∃j,m=j+1:=⟨m-1,by simp at hm;omega⟩
  have xc:i<s.length:=by
   have:=congrArg List.length ao;rw[List.length_drop]at this;simp at this;omega
  rw[drop_cons s i xc]at ao;injection ao with ad ag;simp only[List.length_cons]at aw hm;have xM:n<10^17:=Nat.lt_of_lt_of_le aV (Nat.pow_le_pow_right (by omega) (by omega));simp only[wz,PR];rw[ev xc,cond_true,dX s i xc,bind_some,ad,ate,bind_some,List.all_cons];cases au:gX c
  .simp
  .have D6:=au;simp only[gX,Bool.and_eq_true,decide_eq_true_eq]at D6;simp only[Bool.not_true,cond_false,Bool.true_and];rw[u8_in c au,eE (10*(n:Int)) (by omega),eE _ (by omega),et i s.length xc (by omega),show(10*(n:Int)+((c.toNat-48:Nat):Int))=((10*n+(c.toNat-48):Nat):Int) by omega];exact aa5 s a aa r (i+1) (10*n+(c.toNat-48)) (k+1) ag xc (by rw[Nat.pow_succ];omega) (by omega) m (by omega)
theorem Tf (s:azc) (k:Nat) (aa:s.length<=1048576) (aw:k<=1) (hl:k<=s.length):CI s (k:Int)=some (qj k (s.drop k)):=by
 unfold CI qj;by_cases bc:s.length=k
 .have e:((s.length:Int)==(k:Int))=true:=by simp;omega
  rw[e,cond_true,List.drop_of_length_le (by omega)];simp
 have e:((s.length:Int)==(k:Int))=false:=by simp;omega
 rw[e,cond_false,eE _ (by omega)];have aa6:(s.drop k).length=s.length-k:=List.length_drop;have eb:s.drop k≠[]:=by
  intro h;rw[h]at aa6;simp at aa6;omega
 by_cases ad:18<s.length-k
 .have e:decide (18<(s.length:Int)-(k:Int))=true:=by simp;omega
  rw[e,cond_true,if_neg (by intro h;omega)]
 have e:decide (18<(s.length:Int)-(k:Int))=false:=by simp;omega
 have FL:k<s.length:=by omega
 rw[e,cond_false,dX s k FL,bind_some];have kz:(s.drop k).head? =some s[k]:=by rw[drop_cons s k FL];rfl
 have aa7:b5 (λn=>wz s (k:Int) n 0 (k:Int))=some (if(s.drop k).all gX=true then(if(k:Int)=1 then-(nO 0 (s.drop k):Int)else nO 0 (s.drop k),true)else(0,false)):=by
  refine e5 (s.length+1) λm hm=>?_;exact aa5 s (k:Int) aa (s.drop k) k 0 0 rfl hl (by omega) (by omega) m (by omega)
 have aF:ng (s.drop k)=nO 0 (s.drop k):=rfl;have uK:((k:Int)=1)=(k=1):=by apply propext;omega
 simp only[uK]at aa7;rw[aa7,kz,aF];by_cases oQ:s[k]=48
 .have e:((s[k].toNat:Int)==48)=true:=by rw[oQ];rfl
  rw[e,cond_true];by_cases ag:1<s.length
  .have e:decide ((1:Int)<(s.length:Int))=true:=by simp;omega
   rw[e,cond_true,if_neg (by intro h;exact h.2.2.2 ⟨by rw[oQ],by omega⟩)]
  .have e:decide ((1:Int)<(s.length:Int))=false:=by simp;omega
   rw[e,cond_false];by_cases bo:(s.drop k).all gX=true
   .rw[if_pos bo,if_pos (show s.drop k≠[]/\(s.drop k).length<=18/\(s.drop k).all gX=true/\¬(some s[k]=some 48/\1<(s.drop k).length+k)from⟨eb,by omega,bo,by rintro⟨_,h⟩;omega⟩)]
   .rw[if_neg bo,if_neg (λh=>bo h.2.2.1)]
 .have e:((s[k].toNat:Int)==48)=false:=by
   simp only[beq_eq_false_iff_ne,ne_eq];intro h;exact oQ (UInt8.toNat_inj.1 (by rw[show(48:UInt8).toNat=48 from rfl];omega))
  rw[e,cond_false];by_cases bo:(s.drop k).all gX=true
  .rw[if_pos bo,if_pos (show s.drop k≠[]/\(s.drop k).length<=18/\(s.drop k).all gX=true/\¬(some s[k]=some 48/\1<(s.drop k).length+k)from⟨eb,by omega,bo,by rintro⟨h,_⟩;exact oQ (some.inj h)⟩)]
  .rw[if_neg bo,if_neg (λh=>bo h.2.2.1)]
theorem atg (s:azc) (aa:s.length<=1048576):Ki s=some (kq s):=by
 unfold Ki kq;cases s with
 |nil=>exact Tf [] 0 (by simp) (by omega) (by simp)
 |cons c r=>
  rw[show decide ((0:Int)<(((c::r).length:Nat):Int))=true from A3 (by simp),cond_true,H5,bind_some];by_cases h:c=45
  .subst h;have e:(((45:UInt8).toNat:Int)==45)=true:=rfl;rw[e,cond_true,if_pos (show(45::r).head? =some 45 from rfl)];exact Tf (45::r) 1 aa (by omega) (by simp)
  .have e:((c.toNat:Int)==45)=false:=by
    simp only[beq_eq_false_iff_ne,ne_eq];intro bF;exact h (UInt8.toNat_inj.1 (by rw[show(45:UInt8).toNat=45 from rfl];omega))
   rw[e,cond_false,if_neg (by intro bF;exact h (some.inj bF))];exact Tf (c::r) 0 aa (by omega) (by simp)
theorem aa8:∀c:UInt8,gX c=true->UInt8.ofNat (48+(c.toNat-48))=c:=by
 intro c h;simp only[gX,Bool.and_eq_true,decide_eq_true_eq]at h;rw[show 48+(c.toNat-48)=c.toNat by omega];exact UInt8.ofNat_toNat
end Go.k6
