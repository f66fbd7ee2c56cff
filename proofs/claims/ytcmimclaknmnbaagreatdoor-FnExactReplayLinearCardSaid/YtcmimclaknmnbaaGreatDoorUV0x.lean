/- Part of a proof that a law returns true for every input. No condition. -/
import Derived.Test.YtcmimclaknmnbaaGreatDoorFwA
import Derived.IntWalk
import Derived.Test.YtcmimclaknmnbaaGreatDoorP3
namespace Go.lT
open Option Nat Or
open Go Go.cC
theorem dQ (n:Int) (h: -9223372036854775808<=n/\n<=9223372036854775807):IntKind.i64.wrap n=n:=IntWalk.i64_in n h
theorem eu {α:Type} (a:List α) (i:Nat) (h:i<a.length):bI a (i:Int)=some a[i]:=by
 rw[VW (by omega) (by simpa using h)];rfl
theorem zv {α:Type} (a:List α) (n:Nat) (h:n<=a.length):fw a 0 (n:Int)=some (a.take n):=by
 unfold fw;rw[if_pos (by omega)];simp
theorem fV (i n:Nat) (h:i<n) (aN:n<=4611686018427387904):IntKind.i64.wrap ((i:Int)+1)=((i+1:Nat):Int):=by
 rw[dQ _ (by omega)];omega
theorem fq {i n:Nat} (h:i<n):decide ((i:Int)<(n:Int))=true:=by simp;omega
theorem eT {i n:Nat} (h:n<=i):decide ((i:Int)<(n:Int))=false:=by simp;omega
theorem Ct {α:Type} (c:α) (r:List α):bI (c::r) 0=some c:=rfl
theorem FW {n:Nat} (h:0<n):decide ((0:Int)<(n:Int))=true:=by simp;omega
theorem ajr:IntKind.i64.wrap (0+1)=1:=by decide
theorem down (n:Nat) {P:Nat->Prop} (ba:P n) (U:∀i,i<n->P (i+1)->P i):∀i,i<=n->P i:=by
 have key:∀d,d<=n->P (n-d):=by
  intro d;induction d with
  |zero=>intro _;exact ba
  |succ d ih=>
   intro ae;have:=ih (by omega);refine U _ (by omega) ?_;rw[show n-(d+1)+1=n-d by omega];exact this
 intro i ak;have:=key (n-i) (by omega)
 rwa [show n-(n-i)=i by omega]at this
theorem up {β:Type} {l:Nat->Int->Option β} {n:Nat} (F:Nat->Option β) (ba:∀m,l (m+1) (n:Int)=F n)
  (U:∀i,i<n->∀m,(l m ((i+1:Nat):Int)=F (i+1))->l (m+1) (i:Int)=F i):∀i,i<=n->∀m,n-i<m->l m (i:Int)=F i:=by
 refine down n ?_ ?_
 .intro m hm;obtain⟨k,rfl⟩:∃k,m=k+1:=⟨m-1,by omega⟩
  exact ba k
 .intro i ak ih m hm;obtain⟨k,rfl⟩:∃k,m=k+1:=⟨m-1,by omega⟩
  exact U i ak k (ih k (by omega))
theorem uT {β:Type} {l:Nat->Int->Option β} {n:Nat} (F:Nat->Option β) (ba:∀m,l (m+1) (n:Int)=F n)
  (U:∀i,i<n->∀m,(l m ((i+1:Nat):Int)=F (i+1))->l (m+1) (i:Int)=F i):lim (λm=>l m 0)=F 0:=
 eU (n+1) λm hm=>up F ba U 0 (by omega) m (by omega)
theorem drop_cons {α:Type} (a:List α) (i:Nat) (h:i<a.length):a.drop i=a[i]::a.drop (i+1):=List.drop_eq_getElem_cons h
def jq (n:Int) (s:Nat):Int:=if(s:Int)<=n then n-s else-1
theorem FZ {n:Int} {s:Nat} (h:(s:Int)<=n):jq n s=n-s:=if_pos h
theorem Cu {n:Int} {s:Nat} (h:n<s):jq n s= -1:=if_neg (by omega)
theorem ajs {n:Int} (h:0<=n):jq n 0=n:=by rw[FZ (by simpa using h)];simp
theorem xe {f:anW} {k:Int->anW} {n:Int} {s t:Nat} (bc:f=some (jq n s)) (hk:(s:Int)<=n->k (n-s)=some (jq (n-s) t)):
  (f.bind λx=>cond (decide (x<0)) (some (-1)) (k x))=some (jq n (s+t)):=by
 rw[bc];simp only[bind_some];by_cases h:(s:Int)<=n
 .rw[FZ h];have:decide (n-(s:Int)<0)=false:=by simp;omega
  rw[this,cond_false,hk h];congr 1;unfold jq;by_cases ab:(t:Int)<=n-s
  .rw[if_pos ab,if_pos (by omega)];omega
  .rw[if_neg ab,if_neg (by omega)]
 .rw[Cu (by omega)];have:decide ((-1:Int)<0)=true:=by decide
  rw[this,cond_true,Cu (by omega)]
theorem xf {K:anW} {n:Int} {s t:Nat} (U:s<=9223372036854775807) (ba:0<=n) (aN:n<=1048576) (hk:(s:Int)<=n->K=some (jq (n-s) t)):
  cond (decide (IntKind.i64.wrap (n-(s:Int))<0)) (some (-1)) K=some (jq n (s+t)):=by
 rw[dQ _ (by omega)];by_cases h:(s:Int)<=n
 .have:decide (n-(s:Int)<0)=false:=by simp;omega
  rw[this,cond_false,hk h];congr 1;unfold jq;by_cases ab:(t:Int)<=n-s
  .rw[if_pos ab,if_pos (by omega)];omega
  .rw[if_neg ab,if_neg (by omega)]
 .have:decide (n-(s:Int)<0)=true:=by simp;omega
  rw[this,cond_true,Cu (by omega)]
theorem Cv {n:Int} (h:0<=n):some n=some (jq n 0):=by rw[ajs h]
def fN {α:Type} (f:α->Nat):List α->Nat
 |[]=>0
 |x::r=>f x+fN f r
theorem TZ {α:Type} {f:α->Nat}:∀{l:List α} {x:α},x∈l->f x<=fN f l
 |y::r,x,h=>by
  simp only[fN];rcases List.mem_cons.1 h with rfl|h
  .omega
  .have:=TZ (f:=f) h;omega
theorem T0 {α β:Type} {f:β->Nat} {g:α->β}:∀l:List α,fN f (l.map g)=fN (λx=>f (g x)) l
 |[]=>rfl
 |x::r=>by simp only[List.map_cons,fN,T0 r]
def fu {α:Type} (f:α->Nat) (l:List α):Nat:=l.length+fN f l
theorem T1 {α β:Type} (f:β->Nat) (g:α->β) (l:List α):fu f (l.map g)=fu (λx=>f (g x)) l:=by simp only[fu,List.length_map,T0]
theorem oL {α:Type} (f:α->Nat) (l:List α):l.length<=fu f l:=le_add_right _ _
theorem uU {α:Type} {f:α->Nat} {l:List α} {x:α} (h:x∈l):f x<=fu f l:=Nat.le_trans (TZ h) (le_add_left _ _)
theorem T2 {α:Type} {l:Nat->Int->Int->anW} {B:α->Int->(Int->anW)->anW} (sz:α->Nat) (a:List α)
  (mc:∀m n i,l (m+1) n i=cond (decide (i<(a.length:Int))) ((bI a i).bind λx=>B x n λy=>l m y (IntKind.i64.wrap (i+1))) (some n))
  (bc:∀x∈a,∀(n:Int) (k:Int->anW) (t:Nat),0<=n->n<=1048576->((sz x:Int)<=n->k (n-sz x)=some (jq (n-sz x) t))->B x n k=some (jq n (sz x+t)))
  (bg:a.length<=1048576) (n:Int) (ba:0<=n) (aN:n<=1048576):lim (λm=>l m n 0)=some (jq n (fN sz a)):=by
 have key:∀i,i<=a.length->∀n:Int,0<=n->n<=1048576->∀m,a.length-i<m->l m n (i:Int)=some (jq n (fN sz (a.drop i))):=by
  refine down a.length ?_ ?_
  .intro n ba _ m hm;obtain⟨k,rfl⟩:∃k,m=k+1:=⟨m-1,by omega⟩
   rw[mc,eT (Nat.le_refl _),cond_false,List.drop_of_length_le (Nat.le_refl _)];exact Cv ba
  .intro i ak ih n ba aN m hm;obtain⟨k,rfl⟩:∃k,m=k+1:=⟨m-1,by omega⟩
   rw[mc,fq ak,cond_true,eu _ i ak,fV i _ ak (by omega),drop_cons a i ak];simp only[bind_some,fN];exact bc _ (List.getElem_mem ak) n _ _ ba aN λh=>ih _ (by omega) (by omega) k (by omega)
 refine eU (a.length+1) λm hm=>?_;have:=key 0 (by omega) n ba aN m (by omega);simpa using this
theorem T3 {α:Type} {l:Nat->Int->Int->anW} {f:α->Int->anW} (sz:α->Nat) (a:List α)
  (mc:∀m n i,l (m+1) n i=cond (decide (i<(a.length:Int))) ((bI a i).bind λx=>(f x n).bind λy=>cond (decide (y<0)) (some (-1)) (l m y (IntKind.i64.wrap (i+1)))) (some n))
  (bc:∀x∈a,∀n:Int,0<=n->n<=1048576->f x n=some (jq n (sz x))) (bg:a.length<=1048576) (n:Int) (ba:0<=n) (aN:n<=1048576):lim (λm=>l m n 0)=some (jq n (fN sz a)):=
 T2 (B:=λx n k=>(f x n).bind λy=>cond (decide (y<0)) (some (-1)) (k y)) sz a mc (λx ag n _ _ ba aN hk=>xe (bc x ag n ba aN) hk) bg n ba aN
theorem ajt {l:Nat->Int->Int->anW} (a:anQ)
  (mc:∀m n i,l (m+1) n i=cond (decide (i<(a.length:Int))) ((bI a i).bind λx=>cond (decide (IntKind.i64.wrap (n-(x.length:Int))<0)) (some (-1)) (l m (IntKind.i64.wrap (n-(x.length:Int))) (IntKind.i64.wrap (i+1)))) (some n))
  (bc:∀x∈a,x.length<=9223372036854775807) (bg:a.length<=1048576) (n:Int) (ba:0<=n) (aN:n<=1048576):lim (λm=>l m n 0)=some (jq n (fN List.length a)):=
 T2 (B:=λx n k=>cond (decide (IntKind.i64.wrap (n-(x.length:Int))<0)) (some (-1)) (k (IntKind.i64.wrap (n-(x.length:Int))))) List.length a (by intro m n i;rw[mc]) (by
  intro x ag n k t ba aN hk;have hl:=bc x ag;refine xf hl ba aN λh=>?_;have e:IntKind.i64.wrap (n-(x.length:Int))=n-(x.length:Int):=dQ _ (by omega);rw[e];exact hk h) bg n ba aN
theorem Cw {α β:Type} {l:Nat->List β->Int->Option (List β)} {f:α->Option β} (g:α->β) (a:List α) (z:β)
  (mc:∀m v i,l (m+1) v i=cond (decide (i<(a.length:Int))) ((bI a i).bind λx=>(f x).bind λy=>(bI v i).bind λ_=>l m (List.set v (Int.toNat i) y) (IntKind.i64.wrap (i+1))) (some v))
  (bc:∀x∈a,f x=some (g x)) (bg:a.length<=1048576):lim (λm=>l m (List.replicate (Int.toNat (a.length:Int)) z) 0)=some (a.map g):=by
 have key:∀i,i<=a.length->∀(v:List β) m,v.length=a.length->a.length-i<m->l m v (i:Int)=some (v.take i++(a.drop i).map g):=by
  refine down a.length ?_ ?_
  .intro v m aD hm;obtain⟨k,rfl⟩:∃k,m=k+1:=⟨m-1,by omega⟩
   rw[mc,eT (Nat.le_refl _)];simp[<-aD]
  .intro i ak ih v m aD hm;obtain⟨k,rfl⟩:∃k,m=k+1:=⟨m-1,by omega⟩
   rw[mc,fq ak,eu _ i ak,fV i _ ak (by omega)];simp only[cond_true,bind_some,bc _ (List.getElem_mem ak)];rw[eu v i (by omega)];simp only[bind_some,Int.toNat_natCast];rw[ih _ k (by simp[aD]) (by omega),drop_cons a i ak,List.map_cons,List.take_set,List.take_succ_eq_append_getElem (by omega),List.set_append_right _ _ (by simp;omega)];simp[show min i v.length=i by omega]
 refine eU (a.length+1) λm hm=>?_;have:=key 0 (by omega) (List.replicate (Int.toNat (a.length:Int)) z) m (by simp) (by omega);simpa using this
theorem uV (b:Nat) {n:Nat} (h:n<=1048576) (R:b<=4096):kg b (n:Int)=some ():=by
 have h1:b*n<=4096*1048576:=Nat.mul_le_mul R h;have ab:((b:Int)*(n:Int))=((b*n:Nat):Int):=by simp
 unfold kg;rw[if_pos ⟨by omega,by rw[ab];omega,by omega⟩]
theorem F1 {α:Type} {l:Nat->Int->anV} {f:α->α->anV} (a:List α)
  (mc:∀m i,l (m+1) i=cond (decide (i<(a.length:Int))) ((bI a i).bind λx=>(bI a i).bind λy=>(f x y).bind λz=>cond (!z) (some false) (l m (IntKind.i64.wrap (i+1)))) (some true))
  (bc:∀x∈a,f x x=some true) (bg:a.length<=1048576):lim (λm=>l m 0)=some true:=by
 rw[uT (n:=a.length) (λ_=>some true)]
 .intro m;rw[mc,eT (Nat.le_refl _)];rfl
 .intro i ak m ih;rw[mc,fq ak,eu _ i ak,fV i _ ak (by omega),ih];simp only[cond_true,bind_some,bc _ (List.getElem_mem ak),Bool.not_true,cond_false]
theorem T4 {α:Type} {d:α->α->Bool} {l:Nat->Int->anV} (a:List α)
  (mc:∀m i,l (m+1) i=cond (decide (i<(a.length:Int))) ((bI a i).bind λx=>(bI a i).bind λy=>cond (d x y) (some false) (l m (IntKind.i64.wrap (i+1)))) (some true))
  (ae:∀x,d x x=false) (bg:a.length<=1048576):lim (λm=>l m 0)=some true:=by
 rw[uT (n:=a.length) (λ_=>some true)]
 .intro m;rw[mc,eT (Nat.le_refl _)];rfl
 .intro i ak m ih;rw[mc,fq ak,eu _ i ak,fV i _ ak (by omega),ih];simp only[cond_true,bind_some,ae,cond_false]
theorem F2 (x:Int):(x !=x)=false:=by simp
theorem F3 (x:anR):(!(x==x))=false:=by simp
theorem LV (x:Bool):(!(x==x))=false:=by simp
theorem zw (n:Nat):((n:Int) !=(n:Int))=false:=by simp
def Cx (p:Nat->Bool) (n:Nat):Bool:=(List.range n).all p
theorem F4 {p:Nat->Bool} {n:Nat}:Cx p n=true↔∀i,i<n->p i=true:=by simp[Cx]
def sf (p:Nat->Bool):Nat->Nat->Int
 |_,0=> -1
 |i,k+1=>if p i=true then(i:Int)else sf p (i+1) k
theorem T5 {p:Nat->Bool}:∀(k i:Nat),(∀j,i<=j->j<i+k->p j=false)->sf p i k= -1
 |0,_,_=>rfl
 |k+1,i,h=>by
  simp only[sf,h i (Nat.le_refl _) (by omega)];exact T5 k (i+1) λj h1 ab=>h j (by omega) (by omega)
theorem T6 {p:Nat->Bool}:∀(k i j:Nat),i<=j->j<i+k->p j=true->0<=sf p i k
 |0,i,j,h1,ab,_=>by omega
 |k+1,i,j,h1,ab,ay=>by
  simp only[sf];split
  .omega
  .rename_i h;refine T6 k (i+1) j ?_ (by omega) ay;rcases Nat.lt_or_ge i j with h|h
   .exact h
   .have:i=j:=by omega
    subst this;exact absurd ay (by assumption)
theorem T7 (p:Nat->Bool) (n:Nat):decide (0<=sf p 0 n)= !(Cx (λi=> !p i) n):=by
 by_cases h:∃j,j<n/\p j=true
 .obtain⟨j,h1,ab⟩:=h;have ay:=T6 n 0 j (zero_le _) (by omega) ab;have aT:Cx (λi=> !p i) n=false:=by
   rw[Bool.eq_false_iff];intro hN;have:=F4.1 hN j h1;simp[ab]at this
  rw[aT];simpa using ay
 .have ay:∀j,j<n->p j=false:=λj bo=>by
   cases al:p j
   .rfl
   .exact absurd ⟨j,bo,al⟩ h
  rw[T5 n 0 λj _ ab=>ay j (by omega)];have aT:Cx (λi=> !p i) n=true:=F4.2 λi ak=>by simp[ay i ak]
  rw[aT];rfl
theorem T8 {l:Nat->Int->anW} {n:Nat} (p:Nat->Bool) (ba:∀m,l (m+1) (n:Int)=some (-1))
  (U:∀i,i<n->∀m,l (m+1) (i:Int)=cond (p i) (some (i:Int)) (l m ((i+1:Nat):Int))):lim (λm=>l m 0)=some (sf p 0 n):=by
 rw[uT (n:=n) (λi=>some (sf p i (n-i)))]
 .simp
 .intro m;rw[ba];simp[sf]
 .intro i ak m ih;rw[U i ak,ih,show n-i=(n-(i+1))+1 by omega];cases al:p i<;>simp[al,sf]
def ts (b:Bool):Int:=cond b 1 0
theorem F5 (b:Bool):(cond b (some 1) (some 0):anW)=some (ts b):=by cases b<;>rfl
theorem aju {α:Type} (x:α) (l:List α):fw (x::l) 1 (((x::l).length:Nat):Int)=some l:=by
 unfold fw;rw[if_pos (by simp only[List.length_cons];omega)];simp
theorem Cy {α:Type} (a b c:List α) {i j:Int} (ak:i=(a.length:Int)) (bo:j=((a.length+b.length:Nat):Int)):fw (a++(b++c)) i j=some b:=by
 unfold fw;have aI:i.toNat=a.length:=by omega
 have aM:j.toNat=a.length+b.length:=by omega
 rw[if_pos (by simp only[List.length_append];omega),aI,aM,<-List.append_assoc,List.take_left' (by simp),List.drop_left' rfl]
theorem lC {b n:Nat} (h:n*b<=140737488355328) (ab:n<=9223372036854775807):room b n=some ():=by unfold room;rw[if_pos ⟨h,ab⟩]
theorem uM:∀{a b:anT},c_ a b=0↔a=b
 |[],[]=>by simp[c_]
 |[],_::_=>by simp[c_]
 |_::_,[]=>by simp[c_]
 |x::a,y::b=>by
  simp only[c_];by_cases h1:x<y
  .rw[if_pos h1];constructor
   .intro h;cases h
   .intro h;have:=(List.cons.inj h).1;omega
  .rw[if_neg h1];by_cases ab:y<x
   .rw[if_pos ab];constructor
    .intro h;cases h
    .intro h;have:=(List.cons.inj h).1;omega
   .rw[if_neg ab,uM,List.cons.injEq];constructor
    .intro h;exact⟨by omega,h⟩
    .intro h;exact h.2
theorem qb:∀a b:anT,c_ b a= -c_ a b
 |[],[]=>rfl
 |[],_::_=>rfl
 |_::_,[]=>rfl
 |x::a,y::b=>by
  simp only[c_];by_cases h1:x<y
  .rw[if_neg (by omega),if_pos h1,if_pos h1];rfl
  .by_cases ab:y<x
   .rw[if_pos ab,if_neg h1,if_pos ab]
   .rw[if_neg ab,if_neg h1,if_neg h1,if_neg ab,qb a b]
theorem w4:∀{a b c:anT},c_ a b<=0->c_ b c<=0->c_ a c<=0
 |[],b,[],_,_=>by simp[c_]
 |[],b,_::_,_,_=>by simp[c_]
 |_::_,[],c,h,_=>by simp[c_]at h
 |_::_,_::_,[],_,h=>by simp[c_]at h
 |x::a,y::b,z::c,h1,ab=>by
  simp only[c_]at h1 ab⊢;have KV:x<=y:=by
   by_cases h:x<y
   .omega
   .rw[if_neg h]at h1;by_cases bn:y<x
    .rw[if_pos bn]at h1;omega
    .omega
  have anH:y<=z:=by
   by_cases h:y<z
   .omega
   .rw[if_neg h]at ab;by_cases bn:z<y
    .rw[if_pos bn]at ab;omega
    .omega
  by_cases ajv:x<z
  .rw[if_pos ajv];omega
  .have aI:x=y:=by omega
   have aM:y=z:=by omega
   subst aI aM;rw[if_neg (by omega),if_neg (by omega)]at h1 ab⊢;exact w4 h1 ab
theorem uW {α:Type} (d:List α) (x:α) (r:List α):bI (d++x::r) (d.length:Int)=some x:=by
 rw[eu _ _ (by simp)];simp
theorem zx {α:Type} (d:List α) (x y:α) (r:List α):List.set (d++x::r) (Int.toNat (d.length:Int)) y=d++y::r:=by
 simp
theorem F6 {k:Int} (h:0<=k):decide (k<0)=false:=by simp;omega
theorem uX {α:Type} (d:List α) (x:α) (r:List α):decide ((d.length:Int)<((d++x::r).length:Int))=true:=by simp;omega
theorem uY {α:Type} {d:List α} (h:d.length<=1099511627776):IntKind.i64.wrap ((d.length:Int)+1)=((d.length+1:Nat):Int):=by rw[dQ _ (by omega)];omega
theorem Cz {α:Type} (f:α->Nat):∀a:List α,fN (λx=>64*(f x+1)) a=64*fu f a
 |[]=>rfl
 |x::r=>by
  have:=Cz f r;unfold fu at this⊢;simp only[fN,List.length_cons];omega
theorem LW {α:Type} (n:Nat):∀a:List α,fN (λ_=>n) a=n*a.length
 |[]=>rfl
 |x::r=>by simp only[fN,LW n r,List.length_cons,Nat.mul_add];omega
theorem F7 {α:Type} {l:Nat->List α->Int->Int->Option (Int×List α)} (w:α->Nat) (ba:∀m (v:List α) k,l (m+1) v k (v.length:Int)=some (k,v))
  (U:∀x (k:Int),0<=k->k+w x<=1099511627776->∃cF c,c<=w x/\∀m (d r:List α),d.length<=1099511627776->l (m+1) (d++x::r) k (d.length:Int)=l m (d++cF::r) (k+(c:Nat)) ((d.length+1:Nat):Int))
  (a:List α) (k:Int) (hk:0<=k) (hl:a.length<=1099511627776) (R:k+fN w a<=1099511627776):∃bN c,c<=fN w a/\lim (λn=>l n a k 0)=some (k+(c:Nat),bN):=by
 have key:∀(r:List α) (k:Int),0<=k->k+fN w r<=1099511627776->∃gj c,c<=fN w r/\∀(d:List α) (m:Nat),d.length+r.length<=1099511627776->r.length<m->l m (d++r) k (d.length:Int)=some (k+(c:Nat),d++gj):=by
  intro r;induction r with
  |nil=>
   intro k _ _;refine⟨[],0,Nat.le_refl _,λd m _ hm=>?_⟩;obtain⟨m,rfl⟩:∃j,m=j+1:=⟨m-1,by omega⟩
   rw[List.append_nil,ba];simp
  |cons x r ih=>
   intro k h1 ab;simp only[fN]at ab;obtain⟨cF,c,c1,c2⟩:=U x k h1 (by omega);obtain⟨gj,jU,aI,aM⟩:=ih (k+c) (by omega) (by omega);refine⟨cF::gj,c+jU,by simp only[fN];omega,λd m ae hm=>?_⟩;simp only[List.length_cons]at ae hm;obtain⟨m,rfl⟩:∃j,m=j+1:=⟨m-1,by omega⟩
   rw[c2 m d r (by omega)];have:=aM (d++[cF]) m (by simp only[List.length_append,List.length_cons,List.length_nil];omega) (by omega);simp only[List.length_append,List.length_cons,List.length_nil,List.append_assoc,List.cons_append,List.nil_append,Nat.zero_add]at this;rw[this];simp only[some.injEq,Prod.mk.injEq,and_true];omega
 obtain⟨bN,c,aI,aM⟩:=key a k hk R;refine⟨bN,c,aI,eU (a.length+1) λm hm=>?_⟩;have:=aM [] m (by simpa using hl) (by omega);simpa using this
theorem T9 {α:Type} {l:Nat->List α->Int->Int->Option (Int×List α)} {hl:List α->Nat->Int->Int->anW} (w:α->Nat) (ba:∀m (v:List α) k,l (m+1) v k (v.length:Int)=some (k,v))
  (g0:∀(a:List α) m k,hl a (m+1) k (a.length:Int)=some k)
  (U:∀x (k:Int),0<=k->k+w x<=1099511627776->∃cF c,c<=w x/\∀m (d r:List α),d.length<=1099511627776->l (m+1) (d++x::r) k (d.length:Int)=l m (d++cF::r) (k+(c:Nat)) ((d.length+1:Nat):Int)/\
   hl (d++cF::r) (m+1) k (d.length:Int)=hl (d++cF::r) m (k+(c:Nat)) ((d.length+1:Nat):Int))
  (a:List α) (k:Int) (hk:0<=k) (T_:a.length<=1099511627776) (R:k+fN w a<=1099511627776):∃bN c,c<=fN w a/\lim (λn=>l n a k 0)=some (k+(c:Nat),bN)/\lim (λn=>hl bN n k 0)=some (k+(c:Nat)):=by
 have key:∀(r:List α) (k:Int),0<=k->k+fN w r<=1099511627776->∃gj c,c<=fN w r/\gj.length=r.length/\∀(d:List α) (m:Nat),d.length+r.length<=1099511627776->r.length<m->l m (d++r) k (d.length:Int)=some (k+(c:Nat),d++gj)/\
   hl (d++gj) m k (d.length:Int)=some (k+(c:Nat)):=by
  intro r;induction r with
  |nil=>
   intro k _ _;refine⟨[],0,Nat.le_refl _,rfl,λd m _ hm=>?_⟩;obtain⟨m,rfl⟩:∃j,m=j+1:=⟨m-1,by omega⟩
   rw[List.append_nil,ba,g0];simp
  |cons x r ih=>
   intro k h1 ab;simp only[fN]at ab;obtain⟨cF,c,c1,c2⟩:=U x k h1 (by omega);obtain⟨gj,jU,aI,aP,aM⟩:=ih (k+c) (by omega) (by omega);refine⟨cF::gj,c+jU,by simp only[fN];omega,by simp only[List.length_cons,aP],λd m ae hm=>?_⟩;simp only[List.length_cons]at ae hm;obtain⟨m,rfl⟩:∃j,m=j+1:=⟨m-1,by omega⟩
   rw[(c2 m d r (by omega)).1,(c2 m d gj (by omega)).2];have:=aM (d++[cF]) m (by simp only[List.length_append,List.length_cons,List.length_nil];omega) (by omega);simp only[List.length_append,List.length_cons,List.length_nil,List.append_assoc,List.cons_append,List.nil_append,Nat.zero_add]at this;rw[this.1,this.2];simp only[some.injEq,Prod.mk.injEq,and_true];exact⟨by omega,by omega⟩
 obtain⟨bN,c,aI,aP,aM⟩:=key a k hk R;refine⟨bN,c,aI,eU (a.length+1) λm hm=>?_,eU (a.length+1) λm hm=>?_⟩
 .have:=(aM [] m (by simpa using T_) (by omega)).1;simpa using this
 .have:=(aM [] m (by simpa using T_) (by omega)).2;simpa using this
def glue (p:anR):anQ->anQ
 |[]=>[p]
 |h::t=>(p++h)::t
def ff (c:UInt8):anR->anQ
 |[]=>[[]]
 |x::r=>if x=c then []::ff c r else glue [x] (ff c r)
theorem Ua:∀{l:anQ},l≠[]->glue [] l=l
 |[],h=>(h rfl).elim
 |_::_,_=>rfl
theorem ajw (p q:anR):∀l:anQ,glue p (glue q l)=glue (p++q) l
 |[]=>rfl
 |h::t=>by simp only[glue,List.append_assoc]
theorem zy (c:UInt8):∀s,ff c s≠[]
 |[]=>by simp[ff]
 |x::r=>by
  simp only[ff];split
  .simp
  .cases h:ff c r<;>simp[glue]
theorem F8 (c:UInt8):∀s,(ff c s).length=s.count c+1
 |[]=>rfl
 |x::r=>by
  simp only[ff];split
  .rename_i h;subst h;simp only[List.length_cons,F8 x r,List.count_cons_self]
  .rename_i h;have hN:(x==c)=false:=by simpa using h
   rw[List.count_cons,hN];cases e:ff c r with
   |nil=>exact(zy c r e).elim
   |cons a t=>have:=F8 c r;rw[e]at this;simpa [glue]using this
theorem Ub (c:UInt8):∀s,c∉s->ff c s=[s]
 |[],_=>rfl
 |x::r,h=>by
  simp only[List.mem_cons,not_or]at h;simp only[ff];rw[if_neg (λe=>h.1 e.symm),Ub c r h.2];rfl
theorem Uc (c:UInt8):∀p q,c∉p->ff c (p++c::q)=p::ff c q
 |[],q,_=>by simp[ff]
 |x::r,q,h=>by
  simp only[List.mem_cons,not_or]at h;simp only[List.cons_append,ff];rw[if_neg (λe=>h.1 e.symm),Uc c r q h.2];rfl
theorem ajx (s x:anR):∀l:anQ,l≠[]->gV (glue x l) s=x++gV l s
 |[],h=>(h rfl).elim
 |[y],_=>by simp[glue,gV,List.intercalate,List.intersperse]
 |y::z::r,_=>by simp[glue,gV,List.intercalate,List.intersperse]
theorem Ud (c:UInt8):∀s,gV (ff c s) [c]=s
 |[]=>by simp[ff,gV,List.intercalate,List.intersperse]
 |x::r=>by
  simp only[ff];have ih:=Ud c r;split
  .rename_i h;subst h;cases e:ff x r with
   |nil=>exact(zy x r e).elim
   |cons a t=>
    rw[e]at ih;have:gV ([]::a::t) [x]=x::gV (a::t) [x]:=by simp[gV,List.intercalate,List.intersperse]
    rw[this,ih]
  .rw[ajx _ _ _ (zy c r),ih];rfl
theorem Ue (c:UInt8):∀s,c∉s->qN s c= -1
 |[],_=>rfl
 |x::r,h=>by
  simp only[List.mem_cons,not_or]at h;have hN:(x==c)=false:=by simpa using λe=>h.1 e.symm
  simp only[qN,hN,Ue c r h.2];rfl
theorem Uf (c:UInt8):∀p q,c∉p->qN (p++c::q) c=(p.length:Int)
 |[],q,_=>by simp[qN]
 |x::r,q,h=>by
  simp only[List.mem_cons,not_or]at h;have hN:(x==c)=false:=by simpa using λe=>h.1 e.symm
  have ih:=Uf c r q h.2;simp only[List.cons_append,qN,hN,ih];have:((r.length:Int)== -1)=false:=by simp
  rw[this];simp
theorem LX {c:UInt8}:∀{s:anR},c∈s->∃p q,s=p++c::q/\c∉p
 |x::r,h=>by
  by_cases e:x=c
  .subst e;exact⟨[],r,rfl,by simp⟩
  .have bn:c∈r:=by
    rcases List.mem_cons.1 h with h|h
    .exact(e h.symm).elim
    .exact h
   obtain⟨p,q,rfl,al⟩:=LX bn;exact⟨x::p,q,rfl,by simp only[List.mem_cons,not_or];exact⟨λh=>e h.symm,al⟩⟩
theorem Ug (s:anR) (c:UInt8) (U:1<=s.length\/True):s9 s [c]=some (if s=[c]then 0 else qN s c):=by
 unfold s9 JP JO;by_cases h:s=[c]
 .subst h;simp
 .have e:([c]==s)=false:=by simpa using λbn=>h bn.symm
  rw[if_neg h,e];rfl
theorem ajy {s:anR} {c:UInt8} (h:c∉s):s9 s [c]=some (-1):=by
 rw[Ug s c (.inr trivial),if_neg (by rintro rfl;simp at h),Ue c s h]
theorem Uh (p q:anR) {c:UInt8} (h:c∉p):s9 (p++c::q) [c]=some (p.length:Int):=by
 rw[Ug _ c (.inr trivial),Uf c p q h];split
 .rename_i e;cases p with
  |nil=>rfl
  |cons x r=>have:=congrArg List.length e;simp at this
 .rfl
theorem ajz (s t:anR):BJ s t=s9 s t:=by
 unfold BJ;cases s9 s t<;>rfl
theorem ajA {s:anR} {c:UInt8} (h:c∉s):yL s [c]=some (s,[],false):=by
 unfold yL EV;rw[ajy h];rfl
theorem ajB (p q:anR) {c:UInt8} (h:c∉p) (hl:(p++c::q).length<=1048576):yL (p++c::q) [c]=some (p,q,true):=by
 unfold yL EV;rw[Uh p q h];simp only[List.length_append,List.length_cons]at hl;have e:decide ((0:Int)<=(p.length:Int))=true:=by simp
 simp only[bind_some,e,cond_true];rw[zv _ _ (by simp),dQ ((p.length:Int)+([c].length:Int)) (by simp;omega)];have aM:fw (p++c::q) ((p.length:Int)+([c].length:Int)) ((p++c::q).length:Int)=some q:=by
  have:=Cy (p++[c]) q [] (i:=((p.length:Int)+([c].length:Int))) (j:=(((p++c::q).length:Nat):Int)) (by simp) (by simp;omega);simpa using this
 rw[aM];simp
theorem ajC (q:anR) {c:UInt8} (hl:q.length<=1048576):strings_TrimSuffix (q++[c]) [c]=some q:=by
 unfold strings_TrimSuffix EX EW;have e:decide (([c].length:Int)<=((q++[c]).length:Int))=true:=by simp;omega
 have LY:IntKind.i64.wrap (((q++[c]).length:Int)-([c].length:Int))=(q.length:Int):=by
  rw[dQ _ (by simp;omega)];simp
 rw[e,LY];have aM:=Cy q [c] [] (i:=(q.length:Int)) (j:=(((q++[c]).length:Nat):Int)) rfl (by simp);simp only[List.append_nil]at aM;rw[aM,zv _ _ (by simp)];simp
theorem ajD (q:anR) {c:UInt8} (hl:q.length<=1048576) (h:∀r,q≠r++[c]):strings_TrimSuffix q [c]=some q:=by
 unfold strings_TrimSuffix EX EW;rcases List.eq_nil_or_concat q with rfl|⟨r,x,rfl⟩
 .rfl
 .simp only[List.concat_eq_append]at*;have ag:x≠c:=by rintro rfl;exact h r rfl
  have e:decide (([c].length:Int)<=((r++[x]).length:Int))=true:=by simp;omega
  have anI:r.length+1<=1048576:=by simpa using hl
  have LY:IntKind.i64.wrap (((r++[x]).length:Int)-([c].length:Int))=(r.length:Int):=by
   rw[dQ _ (by simp;omega)];simp
  rw[e,LY];have aM:=Cy r [x] [] (i:=(r.length:Int)) (j:=(((r++[x]).length:Nat):Int)) rfl (by simp);simp only[List.append_nil]at aM;rw[aM];have aP:([x]==[c])=false:=by simpa using ag
  simp only[cond_true,bind_some,aP,cond_false]
theorem Ui {α:Type} (a:List α) (x y:α) (b:List α):(a++x::b).set a.length y=a++y::b:=by
 rw[List.set_append_right _ _ (Nat.le_refl _),Nat.sub_self,List.set_cons_zero]
theorem LZ {α:Type} (a:List α) (x:α) (b:List α):bI (a++x::b) (a.length:Int)=some x:=by
 rw[eu _ _ (by simp)];simp
theorem ajE {α:Type} (a:List α) (x:α) (b:List α):fw (a++x::b) 0 ((a.length+1:Nat):Int)=some (a++[x]):=by
 rw[zv _ _ (by simp)];congr 1;rw[show a++x::b=(a++[x])++b by simp,List.take_left' (by simp)]
theorem ajF (c:UInt8) (s:anR) (U:s.length<=1048576) (N:Nat) (anJ:N=s.count c+1):
  ∀(k:Nat) (r:anR) (d:anQ),r.count c=k->d.length+k+1=N->r.length<=s.length->∀m,k<m->
   wF s [c] 0 (N:Int) m r (d++List.replicate (k+1) []) (d.length:Int)=some (d++ff c r):=by
 have ai:s.count c<=s.length:=List.count_le_length;have Uj:i_ false (N:Int) (IntKind.i64.wrap ((s.length:Int)+1))=(N:Int):=by
  rw[dQ _ (by omega)];unfold i_;simp;omega
 have KU:∀(r:anR) (d:anQ),d.length<N->c∉r->BK s [c] 0 (N:Int) r (d++List.replicate 1 []) (d.length:Int)=some (d++ff c r):=by
  intro r d ae ax;unfold BK;simp only[List.replicate_succ,List.replicate_zero];rw[LZ,bind_some,Int.toNat_natCast,Ui,dQ _ (by omega),show((d.length:Int)+1)=((d.length+1:Nat):Int) by omega,ajE,Ub c r ax];rfl
 intro k;induction k with
 |zero=>
  intro r d ax ae hl m hm;obtain⟨m,rfl⟩:∃j,m=j+1:=⟨m-1,by omega⟩
  simp only[wF,JT];have e:decide ((d.length:Int)<IntKind.i64.wrap (i_ false (N:Int) (IntKind.i64.wrap ((s.length:Int)+1))-1))=false:=by
   rw[Uj,dQ _ (by omega)];simp;omega
  rw[e,cond_false];exact KU r d (by omega) (List.count_eq_zero.1 ax)
 |succ k ih=>
  intro r d ax ae hl m hm;obtain⟨m,rfl⟩:∃j,m=j+1:=⟨m-1,by omega⟩
  obtain⟨p,q,rfl,al⟩:=LX (c:=c) (s:=r) (List.count_pos_iff.1 (by omega));simp only[wF,JT];have e:decide ((d.length:Int)<IntKind.i64.wrap (i_ false (N:Int) (IntKind.i64.wrap ((s.length:Int)+1))-1))=true:=by
   rw[Uj,dQ _ (by omega)];simp;omega
  simp only[List.length_append,List.length_cons]at hl;rw[e,cond_true,ajz,Uh p q al,bind_some];have aM:decide ((p.length:Int)<0)=false:=by simp
  rw[aM,cond_false,dQ ((p.length:Int)+0) (by omega),Int.add_zero,zv _ _ (by simp)];have aP:fw (p++c::q) (IntKind.i64.wrap ((p.length:Int)+([c].length:Int))) ((p++c::q).length:Int)=some q:=by
   rw[dQ _ (by simp;omega)];have:=Cy (p++[c]) q [] (i:=((p.length:Int)+([c].length:Int))) (j:=(((p++c::q).length:Nat):Int)) (by simp) (by simp;omega);simpa using this
  rw[bind_some,List.take_left' rfl,show List.replicate (k+1+1) ([]:anR)=[]::List.replicate (k+1) []from rfl,LZ,bind_some,aP,bind_some,Int.toNat_natCast,Ui,dQ ((d.length:Int)+1) (by omega)];have ajG:q.count c=k:=by
   rw[List.count_append,List.count_cons_self,List.count_eq_zero.2 al]at ax;omega
  have:=ih q (d++[p]) ajG (by simp;omega) (by omega) m (by omega);simp only[List.append_assoc,List.singleton_append,List.length_append,List.length_cons,List.length_nil]at this;rw[Uc c p q al,<-this];congr 1
theorem ajH (c:UInt8) (s:anR) (U:s.length<=1048576):EZ s [c]=some (ff c s):=by
 have ai:s.count c<=s.length:=List.count_le_length;unfold EZ JU JS JQ EY;have aI:((-1:Int)==0)=false:=by decide
 have aM:([c]==([]:anR))=false:=rfl;have aP:decide ((-1:Int)<0)=true:=by decide
 have bK:(([c].length:Int)==0)=false:=rfl;have cg:(([c].length:Int)==1)=true:=rfl;rw[aI,aM,aP,bK,cg];simp only[cond_false,cond_true,Ct,bind_some];rw[dQ ((s.count c:Int)+1) (by omega),dQ ((s.length:Int)+1) (by omega)];have hm:i_ false ((s.count c:Int)+1) ((s.length:Int)+1)=((s.count c+1:Nat):Int):=by
  unfold i_;simp;omega
 have hk:kg 16 ((s.count c+1:Nat):Int)=some ():=by
  unfold kg;rw[if_pos ⟨by omega,by omega,by omega⟩]
 have hl:lim (λn=>wF s [c] 0 ((s.count c:Int)+1) n s (List.replicate (s.count c+1) []) 0)=some (ff c s):=by
  refine eU (s.count c+1) λm hm=>?_;have:=ajF c s U (s.count c+1) rfl (s.count c) s [] rfl (by simp) (Nat.le_refl _) m (by omega);simpa using this
 rw[hm,hk];simp only[bind_some,Int.toNat_natCast];rw[hl];rfl
theorem ajI (c:UInt8) (s:anR) (U:s.length<=1048576):Ep s c=some (ff c s):=by
 have key:∀i,i<=s.length->∀m,s.length-i<m->∀(v:anQ) (f:Nat),f<=i->v.length<=i->
   wj s c m v (f:Int) (i:Int)=some (v++glue ((s.take i).drop f) (ff c (s.drop i))):=by
  refine down s.length ?_ ?_
  .intro m hm v f bc aD;obtain⟨m,rfl⟩:∃j,m=j+1:=⟨m-1,by omega⟩
   simp only[wj,Jh];rw[eT (Nat.le_refl _),cond_false];have e:fw s (f:Int) (s.length:Int)=some (s.drop f):=by
    unfold fw;rw[if_pos ⟨by omega,by omega,by omega⟩];simp
   rw[e,bind_some,lC (by omega) (by omega),bind_some,List.take_length,List.drop_length];simp[ff,glue]
  .intro i ak ih m hm v f bc aD;obtain⟨m,rfl⟩:∃j,m=j+1:=⟨m-1,by omega⟩
   simp only[wj,Jh,Eo];rw[fq ak,cond_true,eu s i ak,bind_some,drop_cons s i ak];simp only[ff];by_cases ai:s[i]=c
   .have e:((s[i].toNat:Int)==(c.toNat:Int))=true:=by rw[ai];simp
    have aM:fw s (f:Int) (i:Int)=some ((s.take i).drop f):=by
     unfold fw;rw[if_pos ⟨by omega,by omega,by omega⟩];simp
    rw[e,cond_true,aM,bind_some,lC (by omega) (by omega),bind_some,if_pos ai,fV i s.length ak (by omega),ih m (by omega) _ (i+1) (Nat.le_refl _) (by simp;omega)];rw[List.drop_of_length_le (l:=List.take (i+1) s) (by rw[List.length_take];omega),Ua (zy _ _)];simp[glue]
   .have e:((s[i].toNat:Int)==(c.toNat:Int))=false:=by
     simp only[beq_eq_false_iff_ne,ne_eq];intro h;exact ai (UInt8.toNat_inj.1 (by omega))
    rw[e,cond_false,if_neg ai,fV i s.length ak (by omega),ih m (by omega) _ f (by omega) (by omega),ajw];congr 3;rw[List.take_succ_eq_append_getElem ak,List.drop_append_of_le_length (by simp;omega)]
 unfold Ep;refine eU (s.length+1) λm hm=>?_;have:=key 0 (by omega) m (by omega) [] 0 (Nat.le_refl _) (zero_le _);simpa [Ua (zy c s)]using this
theorem ajJ:∀d:Fin 10,IntKind.i64.wrap (IntKind.u8.wrap (((48+d.val:Nat):Int)-48))=((d.val:Nat):Int):=by decide
theorem u8_in:∀c:UInt8,fp c=true->IntKind.i64.wrap (IntKind.u8.wrap ((c.toNat:Int)-48))=((c.toNat-48:Nat):Int):=by
 intro c h;simp only[fp,Bool.and_eq_true,decide_eq_true_eq]at h;have:=ajJ ⟨c.toNat-48,by omega⟩;simp only at this
 rwa [show 48+(c.toNat-48)=c.toNat by omega]at this
theorem ajK (c:UInt8):yn c=some (fp c):=by
 unfold yn fp;congr 2
 .rw[decide_eq_decide];omega
 .rw[decide_eq_decide];omega
def j1 (n:Nat) (d:anR):Nat:=d.foldl (λn c=>10*n+(c.toNat-48)) n
theorem Uk:∀(d:anR) (n k:Nat),d.all fp=true->n<10^k->j1 n d<10^(k+d.length)
 |[],n,k,_,h=>by simpa [j1]using h
 |c::r,n,k,ae,h=>by
  simp only[List.all_cons,Bool.and_eq_true]at ae;have ai:=ae.1;simp only[fp,Bool.and_eq_true,decide_eq_true_eq]at ai;have:=Uk r (10*n+(c.toNat-48)) (k+1) ae.2 (by rw[Nat.pow_succ];omega);rw[List.length_cons,show k+(r.length+1)=k+1+r.length by omega];exact this
theorem Ul (s:anR) (a:Int) (U:s.length<=1048576):∀(d:anR) (i n k:Nat),s.drop i=d->i<=s.length->n<10^k->k+d.length<=18->∀m,d.length<m->
  sV s a m (n:Int) (i:Int)=some (if d.all fp=true then(if a=1 then-(j1 n d:Int)else j1 n d,true)else(0,false))
 |[],i,n,k,ae,ak,aN,hk,m,hm=>by
  obtain⟨m,rfl⟩:∃j,m=j+1:=⟨m-1,by simp at hm;omega⟩
  have ajL:i=s.length:=by
   have:=congrArg List.length ae;rw[List.length_drop]at this;simp at this;omega
  subst ajL;have rC:n<10^18:=Nat.lt_of_lt_of_le aN (Nat.pow_le_pow_right (by omega) (by simpa using hk));simp only[sV,Ji,Bv];rw[eT (Nat.le_refl _),cond_false];by_cases bg:a=1
  .subst bg;simp only[BEq.rfl,cond_true];rw[dQ _ (by omega)];simp[j1]
  .have:(a==1)=false:=by simpa using bg
   rw[this,cond_false];simp[j1,bg]
 |c::r,i,n,k,ae,ak,aN,hk,m,hm=>by
  obtain⟨m,rfl⟩:∃j,m=j+1:=⟨m-1,by simp at hm;omega⟩
  have CA:i<s.length:=by
   have:=congrArg List.length ae;rw[List.length_drop]at this;simp at this;omega
  rw[drop_cons s i CA]at ae;injection ae with h1 ab;simp only[List.length_cons]at hk hm;have rC:n<10^17:=Nat.lt_of_lt_of_le aN (Nat.pow_le_pow_right (by omega) (by omega));simp only[sV,Ji];rw[fq CA,cond_true,eu s i CA,bind_some,h1,ajK,bind_some,List.all_cons];cases ai:fp c
  .simp
  .have rq:=ai;simp only[fp,Bool.and_eq_true,decide_eq_true_eq]at rq;simp only[Bool.not_true,cond_false,Bool.true_and];rw[u8_in c ai,dQ (10*(n:Int)) (by omega),dQ _ (by omega),fV i s.length CA (by omega),show(10*(n:Int)+((c.toNat-48:Nat):Int))=((10*n+(c.toNat-48):Nat):Int) by omega];exact Ul s a U r (i+1) (10*n+(c.toNat-48)) (k+1) ab CA (by rw[Nat.pow_succ];omega) (by omega) m (by omega)
theorem L0 (s:anR) (k:Nat) (U:s.length<=1048576) (hk:k<=1) (hl:k<=s.length):yt s (k:Int)=some (nf k (s.drop k)):=by
 unfold yt nf;by_cases ba:s.length=k
 .have e:((s.length:Int)==(k:Int))=true:=by simp;omega
  rw[e,cond_true,List.drop_of_length_le (by omega)];simp
 have e:((s.length:Int)==(k:Int))=false:=by simp;omega
 rw[e,cond_false,dQ _ (by omega)];have Um:(s.drop k).length=s.length-k:=List.length_drop;have cI:s.drop k≠[]:=by
  intro h;rw[h]at Um;simp at Um;omega
 by_cases h1:18<s.length-k
 .have e:decide (18<(s.length:Int)-(k:Int))=true:=by simp;omega
  rw[e,cond_true,if_neg (by intro h;omega)]
 have e:decide (18<(s.length:Int)-(k:Int))=false:=by simp;omega
 have vP:k<s.length:=by omega
 rw[e,cond_false,eu s k vP,bind_some];have hN:(s.drop k).head? =some s[k]:=by rw[drop_cons s k vP];rfl
 have Un:lim (λn=>sV s (k:Int) n 0 (k:Int))=some (if(s.drop k).all fp=true then(if(k:Int)=1 then-(j1 0 (s.drop k):Int)else j1 0 (s.drop k),true)else(0,false)):=by
  refine eU (s.length+1) λm hm=>?_;exact Ul s (k:Int) U (s.drop k) k 0 0 rfl hl (by omega) (by omega) m (by omega)
 have aD:iJ (s.drop k)=j1 0 (s.drop k):=rfl;have A0:((k:Int)=1)=(k=1):=by apply propext;omega
 simp only[A0]at Un;rw[Un,hN,aD];by_cases kA:s[k]=48
 .have e:((s[k].toNat:Int)==48)=true:=by rw[kA];rfl
  rw[e,cond_true];by_cases ab:1<s.length
  .have e:decide ((1:Int)<(s.length:Int))=true:=by simp;omega
   rw[e,cond_true,if_neg (by intro h;exact h.2.2.2 ⟨by rw[kA],by omega⟩)]
  .have e:decide ((1:Int)<(s.length:Int))=false:=by simp;omega
   rw[e,cond_false];by_cases bg:(s.drop k).all fp=true
   .rw[if_pos bg,if_pos (show s.drop k≠[]/\(s.drop k).length<=18/\(s.drop k).all fp=true/\¬(some s[k]=some 48/\1<(s.drop k).length+k)from⟨cI,by omega,bg,by rintro⟨_,h⟩;omega⟩)]
   .rw[if_neg bg,if_neg (λh=>bg h.2.2.1)]
 .have e:((s[k].toNat:Int)==48)=false:=by
   simp only[beq_eq_false_iff_ne,ne_eq];intro h;exact kA (UInt8.toNat_inj.1 (by rw[show(48:UInt8).toNat=48 from rfl];omega))
  rw[e,cond_false];by_cases bg:(s.drop k).all fp=true
  .rw[if_pos bg,if_pos (show s.drop k≠[]/\(s.drop k).length<=18/\(s.drop k).all fp=true/\¬(some s[k]=some 48/\1<(s.drop k).length+k)from⟨cI,by omega,bg,by rintro⟨h,_⟩;exact kA (some.inj h)⟩)]
  .rw[if_neg bg,if_neg (λh=>bg h.2.2.1)]
theorem ajM (s:anR) (U:s.length<=1048576):Er s=some (hU s):=by
 unfold Er hU;cases s with
 |nil=>exact L0 [] 0 (by simp) (by omega) (by simp)
 |cons c r=>
  rw[show decide ((0:Int)<(((c::r).length:Nat):Int))=true from FW (by simp),cond_true,Ct,bind_some];by_cases h:c=45
  .subst h;have e:(((45:UInt8).toNat:Int)==45)=true:=rfl;rw[e,cond_true,if_pos (show(45::r).head? =some 45 from rfl)];exact L0 (45::r) 1 U (by omega) (by simp)
  .have e:((c.toNat:Int)==45)=false:=by
    simp only[beq_eq_false_iff_ne,ne_eq];intro bn;exact h (UInt8.toNat_inj.1 (by rw[show(45:UInt8).toNat=45 from rfl];omega))
   rw[e,cond_false,if_neg (by intro bn;exact h (some.inj bn))];exact L0 (c::r) 0 U (by omega) (by simp)
theorem CB:∀c:UInt8,fp c=true->UInt8.ofNat (48+(c.toNat-48))=c:=by
 intro c h;simp only[fp,Bool.and_eq_true,decide_eq_true_eq]at h;rw[show 48+(c.toNat-48)=c.toNat by omega];exact UInt8.ofNat_toNat
theorem ajN {w:anR} {v:Int} (h:hU w=(v,true)) (ba:0<=v) (h1:v<=63):w=mM v.toNat:=by
 unfold hU at h;split at h
 .rename_i hN;unfold nf at h;split at h
  .rename_i ai;obtain⟨c1,c2,c3,c4⟩:=ai;exfalso;simp only[if_pos,Prod.mk.injEq,and_true]at h;cases hw:w.tail with
   |nil=>exact c1 hw
   |cons c r=>
    rw[hw]at c3 c4 h;simp only[List.all_cons,Bool.and_eq_true]at c3;have ai:=c3.1;simp only[fp,Bool.and_eq_true,decide_eq_true_eq]at ai;have kA:c≠48:=λe=>c4 ⟨by rw[e];rfl,by simp⟩;have xU:1<=c.toNat-48:=by
     rcases Nat.lt_or_ge 48 c.toNat with h|h
     .omega
     .exact(kA (UInt8.toNat_inj.1 (by rw[show(48:UInt8).toNat=48 from rfl];omega))).elim
    have mono:∀(d:anR) (n:Nat),1<=n->1<=j1 n d:=by
     intro d;induction d with
     |nil=>intro n h;exact h
     |cons x d ih=>intro n h;exact ih (10*n+(x.toNat-48)) (by omega)
    have:1<=iJ (c::r):=mono r (10*0+(c.toNat-48)) (by omega);omega
  .cases h
 .unfold nf at h;split at h
  .rename_i ai;obtain⟨c1,c2,c3,c4⟩:=ai;simp only[show(0:Nat)≠1 from by decide,if_false,Prod.mk.injEq,and_true]at h;subst h;have mono:∀(d:anR) (n:Nat),n<=j1 n d:=by
    intro d;induction d with
    |nil=>intro n;exact Nat.le_refl _
    |cons x d ih=>intro n;exact Nat.le_trans (by omega) (ih (10*n+(x.toNat-48)))
   match w,c1,c3,c4 with
   |[a],_,c3,_=>
    simp only[List.all_cons,List.all_nil,Bool.and_true]at c3;have e:iJ [a]=a.toNat-48:=by simp[iJ]
    have ae:=CB a c3;simp only[fp,Bool.and_eq_true,decide_eq_true_eq]at c3;rw[e,Int.toNat_natCast,mM,if_pos (by omega),ae]
   |a::b::r,_,c3,c4=>
    simp only[List.all_cons,Bool.and_eq_true]at c3;have bg:=c3.1;have R:=c3.2.1;have ajO:=CB a bg;have ajP:=CB b R;simp only[fp,Bool.and_eq_true,decide_eq_true_eq]at bg R;have kA:a≠48:=λe=>c4 ⟨by rw[e];rfl,by simp⟩;have xU:1<=a.toNat-48:=by
     rcases Nat.lt_or_ge 48 a.toNat with h|h
     .omega
     .exact(kA (UInt8.toNat_inj.1 (by rw[show(48:UInt8).toNat=48 from rfl];omega))).elim
    have e:iJ (a::b::r)=j1 (10*(10*0+(a.toNat-48))+(b.toNat-48)) r:=rfl;cases r with
    |nil=>
     have aM:iJ [a,b]=10*(a.toNat-48)+(b.toNat-48):=by simp[iJ]
     rw[aM,Int.toNat_natCast,mM,if_neg (by omega)];rw[show(10*(a.toNat-48)+(b.toNat-48))/10=a.toNat-48 by omega,show(10*(a.toNat-48)+(b.toNat-48))%10=b.toNat-48 by omega,ajO,ajP]
    |cons x r=>
     exfalso;have:=mono r (10*(10*(10*0+(a.toNat-48))+(b.toNat-48))+(x.toNat-48));have aP:iJ (a::b::x::r)=j1 (10*(10*(10*0+(a.toNat-48))+(b.toNat-48))+(x.toNat-48)) r:=rfl;omega
  .cases h
end Go.lT
