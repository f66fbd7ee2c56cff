/- Part of a proof that a law returns true for every input. No condition. -/
import Derived.Test.YtmaepbgkcmjcjajGreatDoorFwA
import Derived.IntWalk
import Derived.Test.YtmaepbgkcmjcjajGreatDoorP3
namespace Go.ld
open Option Nat Or
open Go Go.ep
theorem eC (n:Int) (h: -9223372036854775808<=n/\n<=9223372036854775807):IntKind.i64.wrap n=n:=IntWalk.i64_in n h
theorem np {α:Type} (a:List α) (i:Nat) (d:α) (h:i<a.length):bj a (i:Int)=some (a.getD i d):=by
 rw[Ua (by omega) (by simpa using h)];simp[List.getD,h]
theorem dX {α:Type} (a:List α) (i:Nat) (h:i<a.length):bj a (i:Int)=some a[i]:=by
 rw[Ua (by omega) (by simpa using h)];rfl
theorem tH {α:Type} (a:List α) (n:Nat) (h:n<=a.length):gG a 0 (n:Int)=some (a.take n):=by
 unfold gG;rw[if_pos (by omega)];simp
theorem ek (i n:Nat) (h:i<n) (aX:n<=4611686018427387904):IntKind.i64.wrap ((i:Int)+1)=((i+1:Nat):Int):=by
 rw[eC _ (by omega)];omega
theorem el {i n:Nat} (h:i<n):decide ((i:Int)<(n:Int))=true:=by simp;omega
theorem ei {i n:Nat} (h:n<=i):decide ((i:Int)<(n:Int))=false:=by simp;omega
theorem HR {α:Type} (c:α) (r:List α):bj (c::r) 0=some c:=rfl
theorem AX {n:Nat} (h:0<n):decide ((0:Int)<(n:Int))=true:=by simp;omega
theorem as8:IntKind.i64.wrap (0+1)=1:=by decide
theorem down (n:Nat) {P:Nat->Prop} (a_:P n) (aa:∀i,i<n->P (i+1)->P i):∀i,i<=n->P i:=by
 have key:∀d,d<=n->P (n-d):=by
  intro d;induction d with
  |zero=>intro _;exact a_
  |succ d ih=>
   intro aq;have:=ih (by omega);refine aa _ (by omega) ?_;rw[show n-(d+1)+1=n-d by omega];exact this
 intro i ai;have:=key (n-i) (by omega)
 rwa [show n-(n-i)=i by omega]at this
theorem up {β:Type} {l:Nat->Int->Option β} {n:Nat} (F:Nat->Option β) (a_:∀m,l (m+1) (n:Int)=F n)
  (aa:∀i,i<n->∀m,(l m ((i+1:Nat):Int)=F (i+1))->l (m+1) (i:Int)=F i):∀i,i<=n->∀m,n-i<m->l m (i:Int)=F i:=by
 refine down n ?_ ?_
 .intro m hm;obtain⟨k,rfl⟩:∃k,m=k+1:=⟨m-1,by omega⟩
  exact a_ k
 .intro i ai ih m hm;obtain⟨k,rfl⟩:∃k,m=k+1:=⟨m-1,by omega⟩
  exact aa i ai k (ih k (by omega))
theorem pQ {β:Type} {l:Nat->Int->Option β} {n:Nat} (F:Nat->Option β) (a_:∀m,l (m+1) (n:Int)=F n)
  (aa:∀i,i<n->∀m,(l m ((i+1:Nat):Int)=F (i+1))->l (m+1) (i:Int)=F i):b3 (λm=>l m 0)=F 0:=
 e5 (n+1) λm hm=>up F a_ aa 0 (by omega) m (by omega)
theorem drop_cons {α:Type} (a:List α) (i:Nat) (h:i<a.length):a.drop i=a[i]::a.drop (i+1):=List.drop_eq_getElem_cons h
def ji (n:Int) (s:Nat):Int:=if(s:Int)<=n then n-s else-1
theorem HS {n:Int} {s:Nat} (h:(s:Int)<=n):ji n s=n-s:=if_pos h
theorem HT {n:Int} {s:Nat} (h:n<s):ji n s= -1:=if_neg (by omega)
theorem as9 {n:Int} (h:0<=n):ji n 0=n:=by rw[HS (by simpa using h)];simp
theorem w8 {f:azv} {k:Int->azv} {n:Int} {s t:Nat} (bK:f=some (ji n s)) (aw:(s:Int)<=n->k (n-s)=some (ji (n-s) t)):
  (f.bind λx=>cond (decide (x<0)) (some (-1)) (k x))=some (ji n (s+t)):=by
 rw[bK];simp only[bind_some];by_cases h:(s:Int)<=n
 .rw[HS h];have:decide (n-(s:Int)<0)=false:=by simp;omega
  rw[this,cond_false,aw h];congr 1;unfold ji;by_cases af:(t:Int)<=n-s
  .rw[if_pos af,if_pos (by omega)];omega
  .rw[if_neg af,if_neg (by omega)]
 .rw[HT (by omega)];have:decide ((-1:Int)<0)=true:=by decide
  rw[this,cond_true,HT (by omega)]
theorem o9 {K:azv} {n:Int} {s t:Nat} (aa:s<=9223372036854775807) (a_:0<=n) (aX:n<=1048576) (aw:(s:Int)<=n->K=some (ji (n-s) t)):
  cond (decide (IntKind.i64.wrap (n-(s:Int))<0)) (some (-1)) K=some (ji n (s+t)):=by
 rw[eC _ (by omega)];by_cases h:(s:Int)<=n
 .have:decide (n-(s:Int)<0)=false:=by simp;omega
  rw[this,cond_false,aw h];congr 1;unfold ji;by_cases af:(t:Int)<=n-s
  .rw[if_pos af,if_pos (by omega)];omega
  .rw[if_neg af,if_neg (by omega)]
 .have:decide (n-(s:Int)<0)=true:=by simp;omega
  rw[this,cond_true,HT (by omega)]
theorem w9 {n:Int} (h:0<=n):some n=some (ji n 0):=by rw[as9 h]
def hU {α:Type} (f:α->Nat):List α->Nat
 |[]=>0
 |x::r=>f x+hU f r
theorem aay {α:Type} {f:α->Nat}:∀{l:List α} {x:α},x∈l->f x<=hU f l
 |y::r,x,h=>by
  simp only[hU];rcases List.mem_cons.1 h with rfl|h
  .omega
  .have:=aay (f:=f) h;omega
theorem aaz {α β:Type} {f:β->Nat} {g:α->β}:∀l:List α,hU f (l.map g)=hU (λx=>f (g x)) l
 |[]=>rfl
 |x::r=>by simp only[List.map_cons,hU,aaz r]
def eg {α:Type} (f:α->Nat) (l:List α):Nat:=l.length+hU f l
theorem AY {α β:Type} (f:β->Nat) (g:α->β) (l:List α):eg f (l.map g)=eg (λx=>f (g x)) l:=by simp only[eg,List.length_map,aaz]
theorem jL {α:Type} (f:α->Nat) (l:List α):l.length<=eg f l:=le_add_right _ _
theorem mS {α:Type} {f:α->Nat} {l:List α} {x:α} (h:x∈l):f x<=eg f l:=Nat.le_trans (aay h) (le_add_left _ _)
theorem aaA {α:Type} {l:Nat->Int->Int->azv} {B:α->Int->(Int->azv)->azv} (sz:α->Nat) (a:List α)
  (pR:∀m n i,l (m+1) n i=cond (decide (i<(a.length:Int))) ((bj a i).bind λx=>B x n λy=>l m y (IntKind.i64.wrap (i+1))) (some n))
  (bK:∀x∈a,∀(n:Int) (k:Int->azv) (t:Nat),0<=n->n<=1048576->((sz x:Int)<=n->k (n-sz x)=some (ji (n-sz x) t))->B x n k=some (ji n (sz x+t)))
  (bq:a.length<=1048576) (n:Int) (a_:0<=n) (aX:n<=1048576):b3 (λm=>l m n 0)=some (ji n (hU sz a)):=by
 have key:∀i,i<=a.length->∀n:Int,0<=n->n<=1048576->∀m,a.length-i<m->l m n (i:Int)=some (ji n (hU sz (a.drop i))):=by
  refine down a.length ?_ ?_
  .intro n a_ _ m hm;obtain⟨k,rfl⟩:∃k,m=k+1:=⟨m-1,by omega⟩
   rw[pR,ei (Nat.le_refl _),cond_false,List.drop_of_length_le (Nat.le_refl _)];exact w9 a_
  .intro i ai ih n a_ aX m hm;obtain⟨k,rfl⟩:∃k,m=k+1:=⟨m-1,by omega⟩
   rw[pR,el ai,cond_true,dX _ i ai,ek i _ ai (by omega),drop_cons a i ai];simp only[bind_some,hU];exact bK _ (List.getElem_mem ai) n _ _ a_ aX λh=>ih _ (by omega) (by omega) k (by omega)
 refine e5 (a.length+1) λm hm=>?_;have:=key 0 (by omega) n a_ aX m (by omega);simpa using this
theorem DW {α:Type} {l:Nat->Int->Int->azv} {f:α->Int->azv} (sz:α->Nat) (a:List α)
  (pR:∀m n i,l (m+1) n i=cond (decide (i<(a.length:Int))) ((bj a i).bind λx=>(f x n).bind λy=>cond (decide (y<0)) (some (-1)) (l m y (IntKind.i64.wrap (i+1)))) (some n))
  (bK:∀x∈a,∀n:Int,0<=n->n<=1048576->f x n=some (ji n (sz x))) (bq:a.length<=1048576) (n:Int) (a_:0<=n) (aX:n<=1048576):b3 (λm=>l m n 0)=some (ji n (hU sz a)):=
 aaA (B:=λx n k=>(f x n).bind λy=>cond (decide (y<0)) (some (-1)) (k y)) sz a pR (λx ao n _ _ a_ aX aw=>w8 (bK x ao n a_ aX) aw) bq n a_ aX
theorem as_ {l:Nat->Int->Int->azv} (a:azp)
  (pR:∀m n i,l (m+1) n i=cond (decide (i<(a.length:Int))) ((bj a i).bind λx=>cond (decide (IntKind.i64.wrap (n-(x.length:Int))<0)) (some (-1)) (l m (IntKind.i64.wrap (n-(x.length:Int))) (IntKind.i64.wrap (i+1)))) (some n))
  (bK:∀x∈a,x.length<=9223372036854775807) (bq:a.length<=1048576) (n:Int) (a_:0<=n) (aX:n<=1048576):b3 (λm=>l m n 0)=some (ji n (hU List.length a)):=
 aaA (B:=λx n k=>cond (decide (IntKind.i64.wrap (n-(x.length:Int))<0)) (some (-1)) (k (IntKind.i64.wrap (n-(x.length:Int))))) List.length a (by intro m n i;rw[pR]) (by
  intro x ao n k t a_ aX aw;have hl:=bK x ao;refine o9 hl a_ aX λh=>?_;have e:IntKind.i64.wrap (n-(x.length:Int))=n-(x.length:Int):=eC _ (by omega);rw[e];exact aw h) bq n a_ aX
theorem w_ {α β:Type} {l:Nat->List β->Int->Option (List β)} {f:α->Option β} (g:α->β) (a:List α) (z:β)
  (pR:∀m v i,l (m+1) v i=cond (decide (i<(a.length:Int))) ((bj a i).bind λx=>(f x).bind λy=>(bj v i).bind λ_=>l m (List.set v (Int.toNat i) y) (IntKind.i64.wrap (i+1))) (some v))
  (bK:∀x∈a,f x=some (g x)) (bq:a.length<=1048576):b3 (λm=>l m (List.replicate (Int.toNat (a.length:Int)) z) 0)=some (a.map g):=by
 have key:∀i,i<=a.length->∀(v:List β) m,v.length=a.length->a.length-i<m->l m v (i:Int)=some (v.take i++(a.drop i).map g):=by
  refine down a.length ?_ ?_
  .intro v m aJ hm;obtain⟨k,rfl⟩:∃k,m=k+1:=⟨m-1,by omega⟩
   rw[pR,ei (Nat.le_refl _)];simp[<-aJ]
  .intro i ai ih v m aJ hm;obtain⟨k,rfl⟩:∃k,m=k+1:=⟨m-1,by omega⟩
   rw[pR,el ai,dX _ i ai,ek i _ ai (by omega)];simp only[cond_true,bind_some,bK _ (List.getElem_mem ai)];rw[dX v i (by omega)];simp only[bind_some,Int.toNat_natCast];rw[ih _ k (by simp[aJ]) (by omega),drop_cons a i ai,List.map_cons,List.take_set,List.take_succ_eq_append_getElem (by omega),List.set_append_right _ _ (by simp;omega)];simp[show min i v.length=i by omega]
 refine e5 (a.length+1) λm hm=>?_;have:=key 0 (by omega) (List.replicate (Int.toNat (a.length:Int)) z) m (by simp) (by omega);simpa using this
theorem tI (b:Nat) {n:Nat} (h:n<=1048576) (ab:b<=4096):nP b (n:Int)=some ():=by
 have ad:b*n<=4096*1048576:=Nat.mul_le_mul ab h;have af:((b:Int)*(n:Int))=((b*n:Nat):Int):=by simp
 unfold nP;rw[if_pos ⟨by omega,by rw[af];omega,by omega⟩]
theorem yI {α:Type} {l:Nat->Int->azu} {f:α->α->azu} (a:List α)
  (pR:∀m i,l (m+1) i=cond (decide (i<(a.length:Int))) ((bj a i).bind λx=>(bj a i).bind λy=>(f x y).bind λz=>cond (!z) (some false) (l m (IntKind.i64.wrap (i+1)))) (some true))
  (bK:∀x∈a,f x x=some true) (bq:a.length<=1048576):b3 (λm=>l m 0)=some true:=by
 rw[pQ (n:=a.length) (λ_=>some true)]
 .intro m;rw[pR,ei (Nat.le_refl _)];rfl
 .intro i ai m ih;rw[pR,el ai,dX _ i ai,ek i _ ai (by omega),ih];simp only[cond_true,bind_some,bK _ (List.getElem_mem ai),Bool.not_true,cond_false]
theorem aaB {α:Type} {d:α->α->Bool} {l:Nat->Int->azu} (a:List α)
  (pR:∀m i,l (m+1) i=cond (decide (i<(a.length:Int))) ((bj a i).bind λx=>(bj a i).bind λy=>cond (d x y) (some false) (l m (IntKind.i64.wrap (i+1)))) (some true))
  (aq:∀x,d x x=false) (bq:a.length<=1048576):b3 (λm=>l m 0)=some true:=by
 rw[pQ (n:=a.length) (λ_=>some true)]
 .intro m;rw[pR,ei (Nat.le_refl _)];rfl
 .intro i ai m ih;rw[pR,el ai,dX _ i ai,ek i _ ai (by omega),ih];simp only[cond_true,bind_some,aq,cond_false]
theorem xa (x:Int):(x !=x)=false:=by simp
theorem xb (x:azq):(!(x==x))=false:=by simp
theorem yJ (x:Bool):(!(x==x))=false:=by simp
theorem vq (n:Nat):((n:Int) !=(n:Int))=false:=by simp
def gq (p:Nat->Bool) (n:Nat):Bool:=(List.range n).all p
theorem n_ {p:Nat->Bool} {n:Nat}:gq p n=true↔∀i,i<n->p i=true:=by simp[gq]
theorem L4 {l:Nat->Int->azu} {n:Nat} (p:Nat->Bool) (a_:∀m,l (m+1) (n:Int)=some true)
  (aa:∀i,i<n->∀m,l (m+1) (i:Int)=cond (p i) (l m ((i+1:Nat):Int)) (some false)):b3 (λm=>l m 0)=some (gq p n):=by
 rw[pQ (n:=n) (λi=>some ((List.range' i (n-i)).all p))]
 .simp[gq,List.range_eq_range']
 .intro m;rw[a_];simp
 .intro i ai m ih;rw[aa i ai,ih,show n-i=(n-(i+1))+1 by omega,List.range'_succ];cases ay:p i<;>simp[ay]
def ks (p:Nat->Bool):Nat->Nat->Int
 |_,0=> -1
 |i,k+1=>if p i=true then(i:Int)else ks p (i+1) k
theorem aaC {p:Nat->Bool}:∀(k i:Nat),(∀j,i<=j->j<i+k->p j=false)->ks p i k= -1
 |0,_,_=>rfl
 |k+1,i,h=>by
  simp only[ks,h i (Nat.le_refl _) (by omega)];exact aaC k (i+1) λj ad af=>h j (by omega) (by omega)
theorem aaD {p:Nat->Bool}:∀(k i j:Nat),i<=j->j<i+k->p j=true->0<=ks p i k
 |0,i,j,ad,af,_=>by omega
 |k+1,i,j,ad,af,aG=>by
  simp only[ks];split
  .omega
  .rename_i h;refine aaD k (i+1) j ?_ (by omega) aG;rcases Nat.lt_or_ge i j with h|h
   .exact h
   .have:i=j:=by omega
    subst this;exact absurd aG (by assumption)
theorem vr (p:Nat->Bool) (n:Nat):decide (0<=ks p 0 n)= !(gq (λi=> !p i) n):=by
 by_cases h:∃j,j<n/\p j=true
 .obtain⟨j,ad,af⟩:=h;have aG:=aaD n 0 j (zero_le _) (by omega) af;have bh:gq (λi=> !p i) n=false:=by
   rw[Bool.eq_false_iff];intro jQ;have:=n_.1 jQ j ad;simp[af]at this
  rw[bh];simpa using aG
 .have aG:∀j,j<n->p j=false:=λj bQ=>by
   cases ay:p j
   .rfl
   .exact absurd ⟨j,bQ,ay⟩ h
  rw[aaC n 0 λj _ af=>aG j (by omega)];have bh:gq (λi=> !p i) n=true:=n_.2 λi ai=>by simp[aG i ai]
  rw[bh];rfl
theorem sc {l:Nat->Int->azv} {n:Nat} (p:Nat->Bool) (a_:∀m,l (m+1) (n:Int)=some (-1))
  (aa:∀i,i<n->∀m,l (m+1) (i:Int)=cond (p i) (some (i:Int)) (l m ((i+1:Nat):Int))):b3 (λm=>l m 0)=some (ks p 0 n):=by
 rw[pQ (n:=n) (λi=>some (ks p i (n-i)))]
 .simp
 .intro m;rw[a_];simp[ks]
 .intro i ai m ih;rw[aa i ai,ih,show n-i=(n-(i+1))+1 by omega];cases ay:p i<;>simp[ay,ks]
theorem HU (i:Nat) (h:0<i) (aX:i<=4611686018427387904):IntKind.i64.wrap ((i:Int)-1)=((i-1:Nat):Int):=by
 rw[eC _ (by omega)];omega
theorem AZ:decide ((0:Int)<((0:Nat):Int))=false:=by decide
theorem SX {i:Nat} (h:i≠0):decide ((0:Int)<(i:Int))=true:=by simp;omega
def xc (b:Bool):Int:=cond b 1 0
theorem L5 (b:Bool):(cond b (some 1) (some 0):azv)=some (xc b):=by cases b<;>rfl
theorem ata {α:Type} (x:α) (l:List α):gG (x::l) 1 (((x::l).length:Nat):Int)=some l:=by
 unfold gG;rw[if_pos (by simp only[List.length_cons];omega)];simp
theorem DX {α:Type} (a b c:List α) {i j:Int} (ai:i=(a.length:Int)) (bQ:j=((a.length+b.length:Nat):Int)):gG (a++(b++c)) i j=some b:=by
 unfold gG;have aP:i.toNat=a.length:=by omega
 have aW:j.toNat=a.length+b.length:=by omega
 rw[if_pos (by simp only[List.length_append];omega),aP,aW,<-List.append_assoc,List.take_left' (by simp),List.drop_left' rfl]
theorem kO {b n:Nat} (h:n*b<=140737488355328) (af:n<=9223372036854775807):room b n=some ():=by unfold room;rw[if_pos ⟨h,af⟩]
theorem sd {α:Type} (d:List α) (x:α) (r:List α):bj (d++x::r) (d.length:Int)=some x:=by
 rw[dX _ _ (by simp)];simp
theorem vt {α:Type} (d:List α) (x y:α) (r:List α):List.set (d++x::r) (Int.toNat (d.length:Int)) y=d++y::r:=by
 simp
theorem SY {k:Int} (h:0<=k):decide (k<0)=false:=by simp;omega
theorem se {α:Type} (d:List α) (x:α) (r:List α):decide ((d.length:Int)<((d++x::r).length:Int))=true:=by simp;omega
theorem sf {α:Type} {d:List α} (h:d.length<=1099511627776):IntKind.i64.wrap ((d.length:Int)+1)=((d.length+1:Nat):Int):=by rw[eC _ (by omega)];omega
theorem xd {α:Type} (f:α->Nat):∀a:List α,hU (λx=>64*(f x+1)) a=64*eg f a
 |[]=>rfl
 |x::r=>by
  have:=xd f r;unfold eg at this⊢;simp only[hU,List.length_cons];omega
theorem SZ {α:Type} (n:Nat):∀a:List α,hU (λ_=>n) a=n*a.length
 |[]=>rfl
 |x::r=>by simp only[hU,SZ n r,List.length_cons,Nat.mul_add];omega
theorem yK {α:Type} {l:Nat->List α->Int->Int->Option (Int×List α)} (w:α->Nat) (a_:∀m (v:List α) k,l (m+1) v k (v.length:Int)=some (k,v))
  (aa:∀x (k:Int),0<=k->k+w x<=1099511627776->∃da c,c<=w x/\∀m (d r:List α),d.length<=1099511627776->l (m+1) (d++x::r) k (d.length:Int)=l m (d++da::r) (k+(c:Nat)) ((d.length+1:Nat):Int))
  (a:List α) (k:Int) (aw:0<=k) (hl:a.length<=1099511627776) (ab:k+hU w a<=1099511627776):∃dF c,c<=hU w a/\b3 (λn=>l n a k 0)=some (k+(c:Nat),dF):=by
 have key:∀(r:List α) (k:Int),0<=k->k+hU w r<=1099511627776->∃h4 c,c<=hU w r/\∀(d:List α) (m:Nat),d.length+r.length<=1099511627776->r.length<m->l m (d++r) k (d.length:Int)=some (k+(c:Nat),d++h4):=by
  intro r;induction r with
  |nil=>
   intro k _ _;refine⟨[],0,Nat.le_refl _,λd m _ hm=>?_⟩;obtain⟨m,rfl⟩:∃j,m=j+1:=⟨m-1,by omega⟩
   rw[List.append_nil,a_];simp
  |cons x r ih=>
   intro k ad af;simp only[hU]at af;obtain⟨da,c,ct,c2⟩:=aa x k ad (by omega);obtain⟨h4,xM,aP,aW⟩:=ih (k+c) (by omega) (by omega);refine⟨da::h4,c+xM,by simp only[hU];omega,λd m aq hm=>?_⟩;simp only[List.length_cons]at aq hm;obtain⟨m,rfl⟩:∃j,m=j+1:=⟨m-1,by omega⟩
   rw[c2 m d r (by omega)];have:=aW (d++[da]) m (by simp only[List.length_append,List.length_cons,List.length_nil];omega) (by omega);simp only[List.length_append,List.length_cons,List.length_nil,List.append_assoc,List.cons_append,List.nil_append,Nat.zero_add]at this;rw[this];simp only[some.injEq,Prod.mk.injEq,and_true];omega
 obtain⟨dF,c,aP,aW⟩:=key a k aw ab;refine⟨dF,c,aP,e5 (a.length+1) λm hm=>?_⟩;have:=aW [] m (by simpa using hl) (by omega);simpa using this
theorem aaE {α:Type} {l:Nat->List α->Int->Int->Option (Int×List α)} {hl:List α->Nat->Int->Int->azv} (w:α->Nat) (a_:∀m (v:List α) k,l (m+1) v k (v.length:Int)=some (k,v))
  (g0:∀(a:List α) m k,hl a (m+1) k (a.length:Int)=some k)
  (aa:∀x (k:Int),0<=k->k+w x<=1099511627776->∃da c,c<=w x/\∀m (d r:List α),d.length<=1099511627776->l (m+1) (d++x::r) k (d.length:Int)=l m (d++da::r) (k+(c:Nat)) ((d.length+1:Nat):Int)/\
   hl (d++da::r) (m+1) k (d.length:Int)=hl (d++da::r) m (k+(c:Nat)) ((d.length+1:Nat):Int))
  (a:List α) (k:Int) (aw:0<=k) (vu:a.length<=1099511627776) (ab:k+hU w a<=1099511627776):∃dF c,c<=hU w a/\b3 (λn=>l n a k 0)=some (k+(c:Nat),dF)/\b3 (λn=>hl dF n k 0)=some (k+(c:Nat)):=by
 have key:∀(r:List α) (k:Int),0<=k->k+hU w r<=1099511627776->∃h4 c,c<=hU w r/\h4.length=r.length/\∀(d:List α) (m:Nat),d.length+r.length<=1099511627776->r.length<m->l m (d++r) k (d.length:Int)=some (k+(c:Nat),d++h4)/\
   hl (d++h4) m k (d.length:Int)=some (k+(c:Nat)):=by
  intro r;induction r with
  |nil=>
   intro k _ _;refine⟨[],0,Nat.le_refl _,rfl,λd m _ hm=>?_⟩;obtain⟨m,rfl⟩:∃j,m=j+1:=⟨m-1,by omega⟩
   rw[List.append_nil,a_,g0];simp
  |cons x r ih=>
   intro k ad af;simp only[hU]at af;obtain⟨da,c,ct,c2⟩:=aa x k ad (by omega);obtain⟨h4,xM,aP,aS,aW⟩:=ih (k+c) (by omega) (by omega);refine⟨da::h4,c+xM,by simp only[hU];omega,by simp only[List.length_cons,aS],λd m aq hm=>?_⟩;simp only[List.length_cons]at aq hm;obtain⟨m,rfl⟩:∃j,m=j+1:=⟨m-1,by omega⟩
   rw[(c2 m d r (by omega)).1,(c2 m d h4 (by omega)).2];have:=aW (d++[da]) m (by simp only[List.length_append,List.length_cons,List.length_nil];omega) (by omega);simp only[List.length_append,List.length_cons,List.length_nil,List.append_assoc,List.cons_append,List.nil_append,Nat.zero_add]at this;rw[this.1,this.2];simp only[some.injEq,Prod.mk.injEq,and_true];exact⟨by omega,by omega⟩
 obtain⟨dF,c,aP,aS,aW⟩:=key a k aw ab;refine⟨dF,c,aP,e5 (a.length+1) λm hm=>?_,e5 (a.length+1) λm hm=>?_⟩
 .have:=(aW [] m (by simpa using vu) (by omega)).1;simpa using this
 .have:=(aW [] m (by simpa using vu) (by omega)).2;simpa using this
def glue (p:azq):azp->azp
 |[]=>[p]
 |h::t=>(p++h)::t
def fV (c:UInt8):azq->azp
 |[]=>[[]]
 |x::r=>if x=c then []::fV c r else glue [x] (fV c r)
theorem aaF:∀{l:azp},l≠[]->glue [] l=l
 |[],h=>(h rfl).elim
 |_::_,_=>rfl
theorem atb (p q:azq):∀l:azp,glue p (glue q l)=glue (p++q) l
 |[]=>rfl
 |h::t=>by simp only[glue,List.append_assoc]
theorem DY (c:UInt8):∀s,fV c s≠[]
 |[]=>by simp[fV]
 |x::r=>by
  simp only[fV];split
  .simp
  .cases h:fV c r<;>simp[glue]
theorem L6 (c:UInt8):∀s,(fV c s).length=s.count c+1
 |[]=>rfl
 |x::r=>by
  simp only[fV];split
  .rename_i h;subst h;simp only[List.length_cons,L6 x r,List.count_cons_self]
  .rename_i h;have jQ:(x==c)=false:=by simpa using h
   rw[List.count_cons,jQ];cases e:fV c r with
   |nil=>exact(DY c r e).elim
   |cons a t=>have:=L6 c r;rw[e]at this;simpa [glue]using this
theorem S0 (c:UInt8):∀s,c∉s->fV c s=[s]
 |[],_=>rfl
 |x::r,h=>by
  simp only[List.mem_cons,not_or]at h;simp only[fV];rw[if_neg (λe=>h.1 e.symm),S0 c r h.2];rfl
theorem S1 (c:UInt8):∀p q,c∉p->fV c (p++c::q)=p::fV c q
 |[],q,_=>by simp[fV]
 |x::r,q,h=>by
  simp only[List.mem_cons,not_or]at h;simp only[List.cons_append,fV];rw[if_neg (λe=>h.1 e.symm),S1 c r q h.2];rfl
theorem atc (s x:azq):∀l:azp,l≠[]->h1 (glue x l) s=x++h1 l s
 |[],h=>(h rfl).elim
 |[y],_=>by simp[glue,h1,List.intercalate,List.intersperse]
 |y::z::r,_=>by simp[glue,h1,List.intercalate,List.intersperse]
theorem aaG (c:UInt8):∀s,h1 (fV c s) [c]=s
 |[]=>by simp[fV,h1,List.intercalate,List.intersperse]
 |x::r=>by
  simp only[fV];have ih:=aaG c r;split
  .rename_i h;subst h;cases e:fV x r with
   |nil=>exact(DY x r e).elim
   |cons a t=>
    rw[e]at ih;have:h1 ([]::a::t) [x]=x::h1 (a::t) [x]:=by simp[h1,List.intercalate,List.intersperse]
    rw[this,ih]
  .rw[atc _ _ _ (DY c r),ih];rfl
theorem aaH (c:UInt8):∀s,c∉s->th s c= -1
 |[],_=>rfl
 |x::r,h=>by
  simp only[List.mem_cons,not_or]at h;have jQ:(x==c)=false:=by simpa using λe=>h.1 e.symm
  simp only[th,jQ,aaH c r h.2];rfl
theorem aaI (c:UInt8):∀p q,c∉p->th (p++c::q) c=(p.length:Int)
 |[],q,_=>by simp[th]
 |x::r,q,h=>by
  simp only[List.mem_cons,not_or]at h;have jQ:(x==c)=false:=by simpa using λe=>h.1 e.symm
  have ih:=aaI c r q h.2;simp only[List.cons_append,th,jQ,ih];have:((r.length:Int)== -1)=false:=by simp
  rw[this];simp
theorem S2 {c:UInt8}:∀{s:azq},c∈s->∃p q,s=p++c::q/\c∉p
 |x::r,h=>by
  by_cases e:x=c
  .subst e;exact⟨[],r,rfl,by simp⟩
  .have bI:c∈r:=by
    rcases List.mem_cons.1 h with h|h
    .exact(e h.symm).elim
    .exact h
   obtain⟨p,q,rfl,ay⟩:=S2 bI;exact⟨x::p,q,rfl,by simp only[List.mem_cons,not_or];exact⟨λh=>e h.symm,ay⟩⟩
theorem aaJ (s:azq) (c:UInt8) (aa:1<=s.length\/True):wC s [c]=some (if s=[c]then 0 else th s c):=by
 unfold wC Qs Qr;by_cases h:s=[c]
 .subst h;simp
 .have e:([c]==s)=false:=by simpa using λbI=>h bI.symm
  rw[if_neg h,e];rfl
theorem atd {s:azq} {c:UInt8} (h:c∉s):wC s [c]=some (-1):=by
 rw[aaJ s c (.inr trivial),if_neg (by rintro rfl;simp at h),aaH c s h]
theorem aaK (p q:azq) {c:UInt8} (h:c∉p):wC (p++c::q) [c]=some (p.length:Int):=by
 rw[aaJ _ c (.inr trivial),aaI c p q h];split
 .rename_i e;cases p with
  |nil=>rfl
  |cons x r=>have:=congrArg List.length e;simp at this
 .rfl
theorem ate (s t:azq):GJ s t=wC s t:=by
 unfold GJ;cases wC s t<;>rfl
theorem aaL {s:azq} {c:UInt8} (h:c∉s):CU s [c]=some (s,[],false):=by
 unfold CU KG;rw[atd h];rfl
theorem aaM (p q:azq) {c:UInt8} (h:c∉p) (hl:(p++c::q).length<=1048576):CU (p++c::q) [c]=some (p,q,true):=by
 unfold CU KG;rw[aaK p q h];simp only[List.length_append,List.length_cons]at hl;have e:decide ((0:Int)<=(p.length:Int))=true:=by simp
 simp only[bind_some,e,cond_true];rw[tH _ _ (by simp),eC ((p.length:Int)+([c].length:Int)) (by simp;omega)];have aW:gG (p++c::q) ((p.length:Int)+([c].length:Int)) ((p++c::q).length:Int)=some q:=by
  have:=DX (p++[c]) q [] (i:=((p.length:Int)+([c].length:Int))) (j:=(((p++c::q).length:Nat):Int)) (by simp) (by simp;omega);simpa using this
 rw[aW];simp
theorem aaN (q:azq) {c:UInt8} (hl:q.length<=1048576):strings_TrimSuffix (q++[c]) [c]=some q:=by
 unfold strings_TrimSuffix KI KH;have e:decide (([c].length:Int)<=((q++[c]).length:Int))=true:=by simp;omega
 have S3:IntKind.i64.wrap (((q++[c]).length:Int)-([c].length:Int))=(q.length:Int):=by
  rw[eC _ (by simp;omega)];simp
 rw[e,S3];have aW:=DX q [c] [] (i:=(q.length:Int)) (j:=(((q++[c]).length:Nat):Int)) rfl (by simp);simp only[List.append_nil]at aW;rw[aW,tH _ _ (by simp)];simp
theorem atf (q:azq) {c:UInt8} (hl:q.length<=1048576) (h:∀r,q≠r++[c]):strings_TrimSuffix q [c]=some q:=by
 unfold strings_TrimSuffix KI KH;rcases List.eq_nil_or_concat q with rfl|⟨r,x,rfl⟩
 .rfl
 .simp only[List.concat_eq_append]at*;have ao:x≠c:=by rintro rfl;exact h r rfl
  have e:decide (([c].length:Int)<=((r++[x]).length:Int))=true:=by simp;omega
  have S4:r.length+1<=1048576:=by simpa using hl
  have S3:IntKind.i64.wrap (((r++[x]).length:Int)-([c].length:Int))=(r.length:Int):=by
   rw[eC _ (by simp;omega)];simp
  rw[e,S3];have aW:=DX r [x] [] (i:=(r.length:Int)) (j:=(((r++[x]).length:Nat):Int)) rfl (by simp);simp only[List.append_nil]at aW;rw[aW];have aS:([x]==[c])=false:=by simpa using ao
  simp only[cond_true,bind_some,aS,cond_false]
theorem aaO {α:Type} (a:List α) (x y:α) (b:List α):(a++x::b).set a.length y=a++y::b:=by
 rw[List.set_append_right _ _ (Nat.le_refl _),Nat.sub_self,List.set_cons_zero]
theorem S5 {α:Type} (a:List α) (x:α) (b:List α):bj (a++x::b) (a.length:Int)=some x:=by
 rw[dX _ _ (by simp)];simp
theorem atg {α:Type} (a:List α) (x:α) (b:List α):gG (a++x::b) 0 ((a.length+1:Nat):Int)=some (a++[x]):=by
 rw[tH _ _ (by simp)];congr 1;rw[show a++x::b=(a++[x])++b by simp,List.take_left' (by simp)]
theorem ath (c:UInt8) (s:azq) (aa:s.length<=1048576) (N:Nat) (A0:N=s.count c+1):
  ∀(k:Nat) (r:azq) (d:azp),r.count c=k->d.length+k+1=N->r.length<=s.length->∀m,k<m->
   Ac s [c] 0 (N:Int) m r (d++List.replicate (k+1) []) (d.length:Int)=some (d++fV c r):=by
 have au:s.count c<=s.length:=List.count_le_length;have aaP:k4 false (N:Int) (IntKind.i64.wrap ((s.length:Int)+1))=(N:Int):=by
  rw[eC _ (by omega)];unfold k4;simp;omega
 have HV:∀(r:azq) (d:azp),d.length<N->c∉r->GK s [c] 0 (N:Int) r (d++List.replicate 1 []) (d.length:Int)=some (d++fV c r):=by
  intro r d aq aR;unfold GK;simp only[List.replicate_succ,List.replicate_zero];rw[S5,bind_some,Int.toNat_natCast,aaO,eC _ (by omega),show((d.length:Int)+1)=((d.length+1:Nat):Int) by omega,atg,S0 c r aR];rfl
 intro k;induction k with
 |zero=>
  intro r d aR aq hl m hm;obtain⟨m,rfl⟩:∃j,m=j+1:=⟨m-1,by omega⟩
  simp only[Ac,Qw];have e:decide ((d.length:Int)<IntKind.i64.wrap (k4 false (N:Int) (IntKind.i64.wrap ((s.length:Int)+1))-1))=false:=by
   rw[aaP,eC _ (by omega)];simp;omega
  rw[e,cond_false];exact HV r d (by omega) (List.count_eq_zero.1 aR)
 |succ k ih=>
  intro r d aR aq hl m hm;obtain⟨m,rfl⟩:∃j,m=j+1:=⟨m-1,by omega⟩
  obtain⟨p,q,rfl,ay⟩:=S2 (c:=c) (s:=r) (List.count_pos_iff.1 (by omega));simp only[Ac,Qw];have e:decide ((d.length:Int)<IntKind.i64.wrap (k4 false (N:Int) (IntKind.i64.wrap ((s.length:Int)+1))-1))=true:=by
   rw[aaP,eC _ (by omega)];simp;omega
  simp only[List.length_append,List.length_cons]at hl;rw[e,cond_true,ate,aaK p q ay,bind_some];have aW:decide ((p.length:Int)<0)=false:=by simp
  rw[aW,cond_false,eC ((p.length:Int)+0) (by omega),Int.add_zero,tH _ _ (by simp)];have aS:gG (p++c::q) (IntKind.i64.wrap ((p.length:Int)+([c].length:Int))) ((p++c::q).length:Int)=some q:=by
   rw[eC _ (by simp;omega)];have:=DX (p++[c]) q [] (i:=((p.length:Int)+([c].length:Int))) (j:=(((p++c::q).length:Nat):Int)) (by simp) (by simp;omega);simpa using this
  rw[bind_some,List.take_left' rfl,show List.replicate (k+1+1) ([]:azq)=[]::List.replicate (k+1) []from rfl,S5,bind_some,aS,bind_some,Int.toNat_natCast,aaO,eC ((d.length:Int)+1) (by omega)];have ati:q.count c=k:=by
   rw[List.count_append,List.count_cons_self,List.count_eq_zero.2 ay]at aR;omega
  have:=ih q (d++[p]) ati (by simp;omega) (by omega) m (by omega);simp only[List.append_assoc,List.singleton_append,List.length_append,List.length_cons,List.length_nil]at this;rw[S1 c p q ay,<-this];congr 1
theorem aaQ (c:UInt8) (s:azq) (aa:s.length<=1048576):KK s [c]=some (fV c s):=by
 have au:s.count c<=s.length:=List.count_le_length;unfold KK Qx Qv Qt KJ;have aP:((-1:Int)==0)=false:=by decide
 have aW:([c]==([]:azq))=false:=rfl;have aS:decide ((-1:Int)<0)=true:=by decide
 have cf:(([c].length:Int)==0)=false:=rfl;have cF:(([c].length:Int)==1)=true:=rfl;rw[aP,aW,aS,cf,cF];simp only[cond_false,cond_true,HR,bind_some];rw[eC ((s.count c:Int)+1) (by omega),eC ((s.length:Int)+1) (by omega)];have hm:k4 false ((s.count c:Int)+1) ((s.length:Int)+1)=((s.count c+1:Nat):Int):=by
  unfold k4;simp;omega
 have aw:nP 16 ((s.count c+1:Nat):Int)=some ():=by
  unfold nP;rw[if_pos ⟨by omega,by omega,by omega⟩]
 have hl:b3 (λn=>Ac s [c] 0 ((s.count c:Int)+1) n s (List.replicate (s.count c+1) []) 0)=some (fV c s):=by
  refine e5 (s.count c+1) λm hm=>?_;have:=ath c s aa (s.count c+1) rfl (s.count c) s [] rfl (by simp) (Nat.le_refl _) m (by omega);simpa using this
 rw[hm,aw];simp only[bind_some,Int.toNat_natCast];rw[hl];rfl
theorem aaR (c:UInt8) (s:azq) (aa:s.length<=1048576):JX s c=some (fV c s):=by
 have key:∀i,i<=s.length->∀m,s.length-i<m->∀(v:azp) (f:Nat),f<=i->v.length<=i->
   zP s c m v (f:Int) (i:Int)=some (v++glue ((s.take i).drop f) (fV c (s.drop i))):=by
  refine down s.length ?_ ?_
  .intro m hm v f bK aJ;obtain⟨m,rfl⟩:∃j,m=j+1:=⟨m-1,by omega⟩
   simp only[zP,PB];rw[ei (Nat.le_refl _),cond_false];have e:gG s (f:Int) (s.length:Int)=some (s.drop f):=by
    unfold gG;rw[if_pos ⟨by omega,by omega,by omega⟩];simp
   rw[e,bind_some,kO (by omega) (by omega),bind_some,List.take_length,List.drop_length];simp[fV,glue]
  .intro i ai ih m hm v f bK aJ;obtain⟨m,rfl⟩:∃j,m=j+1:=⟨m-1,by omega⟩
   simp only[zP,PB,JW];rw[el ai,cond_true,dX s i ai,bind_some,drop_cons s i ai];simp only[fV];by_cases au:s[i]=c
   .have e:((s[i].toNat:Int)==(c.toNat:Int))=true:=by rw[au];simp
    have aW:gG s (f:Int) (i:Int)=some ((s.take i).drop f):=by
     unfold gG;rw[if_pos ⟨by omega,by omega,by omega⟩];simp
    rw[e,cond_true,aW,bind_some,kO (by omega) (by omega),bind_some,if_pos au,ek i s.length ai (by omega),ih m (by omega) _ (i+1) (Nat.le_refl _) (by simp;omega)];rw[List.drop_of_length_le (l:=List.take (i+1) s) (by rw[List.length_take];omega),aaF (DY _ _)];simp[glue]
   .have e:((s[i].toNat:Int)==(c.toNat:Int))=false:=by
     simp only[beq_eq_false_iff_ne,ne_eq];intro h;exact au (UInt8.toNat_inj.1 (by omega))
    rw[e,cond_false,if_neg au,ek i s.length ai (by omega),ih m (by omega) _ f (by omega) (by omega),atb];congr 3;rw[List.take_succ_eq_append_getElem ai,List.drop_append_of_le_length (by simp;omega)]
 unfold JX;refine e5 (s.length+1) λm hm=>?_;have:=key 0 (by omega) m (by omega) [] 0 (Nat.le_refl _) (zero_le _);simpa [aaF (DY c s)]using this
theorem atj:∀d:Fin 10,IntKind.i64.wrap (IntKind.u8.wrap (((48+d.val:Nat):Int)-48))=((d.val:Nat):Int):=by decide
theorem u8_in:∀c:UInt8,gA c=true->IntKind.i64.wrap (IntKind.u8.wrap ((c.toNat:Int)-48))=((c.toNat-48:Nat):Int):=by
 intro c h;simp only[gA,Bool.and_eq_true,decide_eq_true_eq]at h;have:=atj ⟨c.toNat-48,by omega⟩;simp only at this
 rwa [show 48+(c.toNat-48)=c.toNat by omega]at this
theorem atk (c:UInt8):B7 c=some (gA c):=by
 unfold B7 gA;congr 2
 .rw[decide_eq_decide];omega
 .rw[decide_eq_decide];omega
def l5 (n:Nat) (d:azq):Nat:=d.foldl (λn c=>10*n+(c.toNat-48)) n
theorem aaS:∀(d:azq) (n k:Nat),d.all gA=true->n<10^k->l5 n d<10^(k+d.length)
 |[],n,k,_,h=>by simpa [l5]using h
 |c::r,n,k,aq,h=>by
  simp only[List.all_cons,Bool.and_eq_true]at aq;have au:=aq.1;simp only[gA,Bool.and_eq_true,decide_eq_true_eq]at au;have:=aaS r (10*n+(c.toNat-48)) (k+1) aq.2 (by rw[Nat.pow_succ];omega);rw[List.length_cons,show k+(r.length+1)=k+1+r.length by omega];exact this
theorem aaT (s:azq) (a:Int) (aa:s.length<=1048576):∀(d:azq) (i n k:Nat),s.drop i=d->i<=s.length->n<10^k->k+d.length<=18->∀m,d.length<m->
  wh s a m (n:Int) (i:Int)=some (if d.all gA=true then(if a=1 then-(l5 n d:Int)else l5 n d,true)else(0,false))
 |[],i,n,k,aq,ai,aX,aw,m,hm=>by
  obtain⟨m,rfl⟩:∃j,m=j+1:=⟨m-1,by simp at hm;omega⟩
  have atl:i=s.length:=by
   have:=congrArg List.length aq;rw[List.length_drop]at this;simp at this;omega
  subst atl;have uo:n<10^18:=Nat.lt_of_lt_of_le aX (Nat.pow_le_pow_right (by omega) (by simpa using aw));simp only[wh,PC,Gh];rw[ei (Nat.le_refl _),cond_false];by_cases bq:a=1
  .subst bq;simp only[BEq.rfl,cond_true];rw[eC _ (by omega)];simp[l5]
  .have:(a==1)=false:=by simpa using bq
   rw[this,cond_false];simp[l5,bq]
 |c::r,i,n,k,aq,ai,aX,aw,m,hm=>by
  obtain⟨m,rfl⟩:∃j,m=j+1:=⟨m-1,by simp at hm;omega⟩
  have xe:i<s.length:=by
   have:=congrArg List.length aq;rw[List.length_drop]at this;simp at this;omega
  rw[drop_cons s i xe]at aq;injection aq with ad af;simp only[List.length_cons]at aw hm;have uo:n<10^17:=Nat.lt_of_lt_of_le aX (Nat.pow_le_pow_right (by omega) (by omega));simp only[wh,PC];rw[el xe,cond_true,dX s i xe,bind_some,ad,atk,bind_some,List.all_cons];cases au:gA c
  .simp
  .have DZ:=au;simp only[gA,Bool.and_eq_true,decide_eq_true_eq]at DZ;simp only[Bool.not_true,cond_false,Bool.true_and];rw[u8_in c au,eC (10*(n:Int)) (by omega),eC _ (by omega),ek i s.length xe (by omega),show(10*(n:Int)+((c.toNat-48:Nat):Int))=((10*n+(c.toNat-48):Nat):Int) by omega];exact aaT s a aa r (i+1) (10*n+(c.toNat-48)) (k+1) af xe (by rw[Nat.pow_succ];omega) (by omega) m (by omega)
theorem S6 (s:azq) (k:Nat) (aa:s.length<=1048576) (aw:k<=1) (hl:k<=s.length):Ck s (k:Int)=some (o3 k (s.drop k)):=by
 unfold Ck o3;by_cases a_:s.length=k
 .have e:((s.length:Int)==(k:Int))=true:=by simp;omega
  rw[e,cond_true,List.drop_of_length_le (by omega)];simp
 have e:((s.length:Int)==(k:Int))=false:=by simp;omega
 rw[e,cond_false,eC _ (by omega)];have aaU:(s.drop k).length=s.length-k:=List.length_drop;have eo:s.drop k≠[]:=by
  intro h;rw[h]at aaU;simp at aaU;omega
 by_cases ad:18<s.length-k
 .have e:decide (18<(s.length:Int)-(k:Int))=true:=by simp;omega
  rw[e,cond_true,if_neg (by intro h;omega)]
 have e:decide (18<(s.length:Int)-(k:Int))=false:=by simp;omega
 have FB:k<s.length:=by omega
 rw[e,cond_false,dX s k FB,bind_some];have jQ:(s.drop k).head? =some s[k]:=by rw[drop_cons s k FB];rfl
 have aaV:b3 (λn=>wh s (k:Int) n 0 (k:Int))=some (if(s.drop k).all gA=true then(if(k:Int)=1 then-(l5 0 (s.drop k):Int)else l5 0 (s.drop k),true)else(0,false)):=by
  refine e5 (s.length+1) λm hm=>?_;exact aaT s (k:Int) aa (s.drop k) k 0 0 rfl hl (by omega) (by omega) m (by omega)
 have aJ:kJ (s.drop k)=l5 0 (s.drop k):=rfl;have uD:((k:Int)=1)=(k=1):=by apply propext;omega
 simp only[uD]at aaV;rw[aaV,jQ,aJ];by_cases mT:s[k]=48
 .have e:((s[k].toNat:Int)==48)=true:=by rw[mT];rfl
  rw[e,cond_true];by_cases af:1<s.length
  .have e:decide ((1:Int)<(s.length:Int))=true:=by simp;omega
   rw[e,cond_true,if_neg (by intro h;exact h.2.2.2 ⟨by rw[mT],by omega⟩)]
  .have e:decide ((1:Int)<(s.length:Int))=false:=by simp;omega
   rw[e,cond_false];by_cases bq:(s.drop k).all gA=true
   .rw[if_pos bq,if_pos (show s.drop k≠[]/\(s.drop k).length<=18/\(s.drop k).all gA=true/\¬(some s[k]=some 48/\1<(s.drop k).length+k)from⟨eo,by omega,bq,by rintro⟨_,h⟩;omega⟩)]
   .rw[if_neg bq,if_neg (λh=>bq h.2.2.1)]
 .have e:((s[k].toNat:Int)==48)=false:=by
   simp only[beq_eq_false_iff_ne,ne_eq];intro h;exact mT (UInt8.toNat_inj.1 (by rw[show(48:UInt8).toNat=48 from rfl];omega))
  rw[e,cond_false];by_cases bq:(s.drop k).all gA=true
  .rw[if_pos bq,if_pos (show s.drop k≠[]/\(s.drop k).length<=18/\(s.drop k).all gA=true/\¬(some s[k]=some 48/\1<(s.drop k).length+k)from⟨eo,by omega,bq,by rintro⟨h,_⟩;exact mT (some.inj h)⟩)]
  .rw[if_neg bq,if_neg (λh=>bq h.2.2.1)]
theorem atm (s:azq) (aa:s.length<=1048576):JY s=some (jv s):=by
 unfold JY jv;cases s with
 |nil=>exact S6 [] 0 (by simp) (by omega) (by simp)
 |cons c r=>
  rw[show decide ((0:Int)<(((c::r).length:Nat):Int))=true from AX (by simp),cond_true,HR,bind_some];by_cases h:c=45
  .subst h;have e:(((45:UInt8).toNat:Int)==45)=true:=rfl;rw[e,cond_true,if_pos (show(45::r).head? =some 45 from rfl)];exact S6 (45::r) 1 aa (by omega) (by simp)
  .have e:((c.toNat:Int)==45)=false:=by
    simp only[beq_eq_false_iff_ne,ne_eq];intro bI;exact h (UInt8.toNat_inj.1 (by rw[show(45:UInt8).toNat=45 from rfl];omega))
   rw[e,cond_false,if_neg (by intro bI;exact h (some.inj bI))];exact S6 (c::r) 0 aa (by omega) (by simp)
theorem HW:∀c:UInt8,gA c=true->UInt8.ofNat (48+(c.toNat-48))=c:=by
 intro c h;simp only[gA,Bool.and_eq_true,decide_eq_true_eq]at h;rw[show 48+(c.toNat-48)=c.toNat by omega];exact UInt8.ofNat_toNat
theorem atn {w:azq} {v:Int} (h:jv w=(v,true)) (a_:0<=v) (ad:v<=63):w=iQ v.toNat:=by
 unfold jv at h;split at h
 .rename_i jQ;unfold o3 at h;split at h
  .rename_i au;obtain⟨ct,c2,c3,c4⟩:=au;exfalso;simp only[if_pos,Prod.mk.injEq,and_true]at h;cases hw:w.tail with
   |nil=>exact ct hw
   |cons c r=>
    rw[hw]at c3 c4 h;simp only[List.all_cons,Bool.and_eq_true]at c3;have au:=c3.1;simp only[gA,Bool.and_eq_true,decide_eq_true_eq]at au;have mT:c≠48:=λe=>c4 ⟨by rw[e];rfl,by simp⟩;have Ov:1<=c.toNat-48:=by
     rcases Nat.lt_or_ge 48 c.toNat with h|h
     .omega
     .exact(mT (UInt8.toNat_inj.1 (by rw[show(48:UInt8).toNat=48 from rfl];omega))).elim
    have mono:∀(d:azq) (n:Nat),1<=n->1<=l5 n d:=by
     intro d;induction d with
     |nil=>intro n h;exact h
     |cons x d ih=>intro n h;exact ih (10*n+(x.toNat-48)) (by omega)
    have:1<=kJ (c::r):=mono r (10*0+(c.toNat-48)) (by omega);omega
  .cases h
 .unfold o3 at h;split at h
  .rename_i au;obtain⟨ct,c2,c3,c4⟩:=au;simp only[show(0:Nat)≠1 from by decide,if_false,Prod.mk.injEq,and_true]at h;subst h;have mono:∀(d:azq) (n:Nat),n<=l5 n d:=by
    intro d;induction d with
    |nil=>intro n;exact Nat.le_refl _
    |cons x d ih=>intro n;exact Nat.le_trans (by omega) (ih (10*n+(x.toNat-48)))
   match w,ct,c3,c4 with
   |[a],_,c3,_=>
    simp only[List.all_cons,List.all_nil,Bool.and_true]at c3;have e:kJ [a]=a.toNat-48:=by simp[kJ]
    have aq:=HW a c3;simp only[gA,Bool.and_eq_true,decide_eq_true_eq]at c3;rw[e,Int.toNat_natCast,iQ,if_pos (by omega),aq]
   |a::b::r,_,c3,c4=>
    simp only[List.all_cons,Bool.and_eq_true]at c3;have bq:=c3.1;have ab:=c3.2.1;have ato:=HW a bq;have atp:=HW b ab;simp only[gA,Bool.and_eq_true,decide_eq_true_eq]at bq ab;have mT:a≠48:=λe=>c4 ⟨by rw[e];rfl,by simp⟩;have Ov:1<=a.toNat-48:=by
     rcases Nat.lt_or_ge 48 a.toNat with h|h
     .omega
     .exact(mT (UInt8.toNat_inj.1 (by rw[show(48:UInt8).toNat=48 from rfl];omega))).elim
    have e:kJ (a::b::r)=l5 (10*(10*0+(a.toNat-48))+(b.toNat-48)) r:=rfl;cases r with
    |nil=>
     have aW:kJ [a,b]=10*(a.toNat-48)+(b.toNat-48):=by simp[kJ]
     rw[aW,Int.toNat_natCast,iQ,if_neg (by omega)];rw[show(10*(a.toNat-48)+(b.toNat-48))/10=a.toNat-48 by omega,show(10*(a.toNat-48)+(b.toNat-48))%10=b.toNat-48 by omega,ato,atp]
    |cons x r=>
     exfalso;have:=mono r (10*(10*(10*0+(a.toNat-48))+(b.toNat-48))+(x.toNat-48));have aS:kJ (a::b::x::r)=l5 (10*(10*(10*0+(a.toNat-48))+(b.toNat-48))+(x.toNat-48)) r:=rfl;omega
  .cases h
end Go.ld
