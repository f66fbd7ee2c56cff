/- Part of a proof that a law returns true for every input. No condition. -/
import Derived.Test.YtmaepbgkcmjcjaiGreatDoorFwA
import Derived.IntWalk
import Derived.Test.YtmaepbgkcmjcjaiGreatDoorP3
import Derived.Lib.ParseIntB
import Derived.Lib.ItoaNum
namespace Go.l_
open Option Nat
open Go Go.eg
theorem eD (n:Int) (h: -9223372036854775808<=n/\n<=9223372036854775807):IntKind.i64.wrap n=n:=IntWalk.i64_in n h
theorem ly {α:Type} (a:List α) (i:Nat) (d:α) (h:i<a.length):bk a (i:Int)=some (a.getD i d):=by
 rw[L9 (by omega) (by simpa using h)];simp[List.getD,h]
theorem dJ {α:Type} (a:List α) (i:Nat) (h:i<a.length):bk a (i:Int)=some a[i]:=by
 rw[L9 (by omega) (by simpa using h)];rfl
theorem tq {α:Type} (a:List α) (n:Nat) (h:n<=a.length):gz a 0 (n:Int)=some (a.take n):=by
 unfold gz;rw[if_pos (by omega)];simp
theorem dQ (i n:Nat) (h:i<n) (aR:n<=4611686018427387904):IntKind.i64.wrap ((i:Int)+1)=((i+1:Nat):Int):=by
 rw[eD _ (by omega)];omega
theorem d_ {i n:Nat} (h:i<n):decide ((i:Int)<(n:Int))=true:=by simp;omega
theorem ev {i n:Nat} (h:n<=i):decide ((i:Int)<(n:Int))=false:=by simp;omega
theorem Ht {α:Type} (c:α) (r:List α):bk (c::r) 0=some c:=rfl
theorem Ax {n:Nat} (h:0<n):decide ((0:Int)<(n:Int))=true:=by simp;omega
theorem asO:IntKind.i64.wrap (0+1)=1:=by decide
theorem down (n:Nat) {P:Nat->Prop} (a7:P n) (aa:∀i,i<n->P (i+1)->P i):∀i,i<=n->P i:=by
 have key:∀d,d<=n->P (n-d):=by
  intro d;induction d with
  |zero=>intro _;exact a7
  |succ d ih=>
   intro ao;have:=ih (by omega);refine aa _ (by omega) ?_;rw[show n-(d+1)+1=n-d by omega];exact this
 intro i ai;have:=key (n-i) (by omega)
 rwa [show n-(n-i)=i by omega]at this
theorem up {β:Type} {l:Nat->Int->Option β} {n:Nat} (F:Nat->Option β) (a7:∀m,l (m+1) (n:Int)=F n)
  (aa:∀i,i<n->∀m,(l m ((i+1:Nat):Int)=F (i+1))->l (m+1) (i:Int)=F i):∀i,i<=n->∀m,n-i<m->l m (i:Int)=F i:=by
 refine down n ?_ ?_
 .intro m hm;obtain⟨k,rfl⟩:∃k,m=k+1:=⟨m-1,by omega⟩
  exact a7 k
 .intro i ai ih m hm;obtain⟨k,rfl⟩:∃k,m=k+1:=⟨m-1,by omega⟩
  exact aa i ai k (ih k (by omega))
theorem oV {β:Type} {l:Nat->Int->Option β} {n:Nat} (F:Nat->Option β) (a7:∀m,l (m+1) (n:Int)=F n)
  (aa:∀i,i<n->∀m,(l m ((i+1:Nat):Int)=F (i+1))->l (m+1) (i:Int)=F i):bX (λm=>l m 0)=F 0:=
 eY (n+1) λm hm=>up F a7 aa 0 (by omega) m (by omega)
theorem drop_cons {α:Type} (a:List α) (i:Nat) (h:i<a.length):a.drop i=a[i]::a.drop (i+1):=List.drop_eq_getElem_cons h
def iu (n:Int) (s:Nat):Int:=if(s:Int)<=n then n-s else-1
theorem DA {n:Int} {s:Nat} (h:(s:Int)<=n):iu n s=n-s:=if_pos h
theorem DB {n:Int} {s:Nat} (h:n<s):iu n s= -1:=if_neg (by omega)
theorem asP {n:Int} (h:0<=n):iu n 0=n:=by rw[DA (by simpa using h)];simp
theorem ve {f:azh} {k:Int->azh} {n:Int} {s t:Nat} (bH:f=some (iu n s)) (ax:(s:Int)<=n->k (n-s)=some (iu (n-s) t)):
  (f.bind λx=>cond (decide (x<0)) (some (-1)) (k x))=some (iu n (s+t)):=by
 rw[bH];simp only[bind_some];by_cases h:(s:Int)<=n
 .rw[DA h];have:decide (n-(s:Int)<0)=false:=by simp;omega
  rw[this,cond_false,ax h];congr 1;unfold iu;by_cases ae:(t:Int)<=n-s
  .rw[if_pos ae,if_pos (by omega)];omega
  .rw[if_neg ae,if_neg (by omega)]
 .rw[DB (by omega)];have:decide ((-1:Int)<0)=true:=by decide
  rw[this,cond_true,DB (by omega)]
theorem ow {K:azh} {n:Int} {s t:Nat} (aa:s<=9223372036854775807) (a7:0<=n) (aR:n<=1048576) (ax:(s:Int)<=n->K=some (iu (n-s) t)):
  cond (decide (IntKind.i64.wrap (n-(s:Int))<0)) (some (-1)) K=some (iu n (s+t)):=by
 rw[eD _ (by omega)];by_cases h:(s:Int)<=n
 .have:decide (n-(s:Int)<0)=false:=by simp;omega
  rw[this,cond_false,ax h];congr 1;unfold iu;by_cases ae:(t:Int)<=n-s
  .rw[if_pos ae,if_pos (by omega)];omega
  .rw[if_neg ae,if_neg (by omega)]
 .have:decide (n-(s:Int)<0)=true:=by simp;omega
  rw[this,cond_true,DB (by omega)]
theorem vf {n:Int} (h:0<=n):some n=some (iu n 0):=by rw[asP h]
def rX {α:Type} (f:α->Nat):List α->Nat
 |[]=>0
 |x::r=>f x+rX f r
theorem Z8 {α:Type} {f:α->Nat}:∀{l:List α} {x:α},x∈l->f x<=rX f l
 |y::r,x,h=>by
  simp only[rX];rcases List.mem_cons.1 h with rfl|h
  .omega
  .have:=Z8 (f:=f) h;omega
theorem Z9 {α β:Type} {f:β->Nat} {g:α->β}:∀l:List α,rX f (l.map g)=rX (λx=>f (g x)) l
 |[]=>rfl
 |x::r=>by simp only[List.map_cons,rX,Z9 r]
def e7 {α:Type} (f:α->Nat) (l:List α):Nat:=l.length+rX f l
theorem wS {α β:Type} (f:β->Nat) (g:α->β) (l:List α):e7 f (l.map g)=e7 (λx=>f (g x)) l:=by simp only[e7,List.length_map,Z9]
theorem k8 {α:Type} (f:α->Nat) (l:List α):l.length<=e7 f l:=le_add_right _ _
theorem lW {α:Type} {f:α->Nat} {l:List α} {x:α} (h:x∈l):f x<=e7 f l:=Nat.le_trans (Z8 h) (le_add_left _ _)
theorem Z_ {α:Type} {l:Nat->Int->Int->azh} {B:α->Int->(Int->azh)->azh} (sz:α->Nat) (a:List α)
  (pB:∀m n i,l (m+1) n i=cond (decide (i<(a.length:Int))) ((bk a i).bind λx=>B x n λy=>l m y (IntKind.i64.wrap (i+1))) (some n))
  (bH:∀x∈a,∀(n:Int) (k:Int->azh) (t:Nat),0<=n->n<=1048576->((sz x:Int)<=n->k (n-sz x)=some (iu (n-sz x) t))->B x n k=some (iu n (sz x+t)))
  (bl:a.length<=1048576) (n:Int) (a7:0<=n) (aR:n<=1048576):bX (λm=>l m n 0)=some (iu n (rX sz a)):=by
 have key:∀i,i<=a.length->∀n:Int,0<=n->n<=1048576->∀m,a.length-i<m->l m n (i:Int)=some (iu n (rX sz (a.drop i))):=by
  refine down a.length ?_ ?_
  .intro n a7 _ m hm;obtain⟨k,rfl⟩:∃k,m=k+1:=⟨m-1,by omega⟩
   rw[pB,ev (Nat.le_refl _),cond_false,List.drop_of_length_le (Nat.le_refl _)];exact vf a7
  .intro i ai ih n a7 aR m hm;obtain⟨k,rfl⟩:∃k,m=k+1:=⟨m-1,by omega⟩
   rw[pB,d_ ai,cond_true,dJ _ i ai,dQ i _ ai (by omega),drop_cons a i ai];simp only[bind_some,rX];exact bH _ (List.getElem_mem ai) n _ _ a7 aR λh=>ih _ (by omega) (by omega) k (by omega)
 refine eY (a.length+1) λm hm=>?_;have:=key 0 (by omega) n a7 aR m (by omega);simpa using this
theorem Ay {α:Type} {l:Nat->Int->Int->azh} {f:α->Int->azh} (sz:α->Nat) (a:List α)
  (pB:∀m n i,l (m+1) n i=cond (decide (i<(a.length:Int))) ((bk a i).bind λx=>(f x n).bind λy=>cond (decide (y<0)) (some (-1)) (l m y (IntKind.i64.wrap (i+1)))) (some n))
  (bH:∀x∈a,∀n:Int,0<=n->n<=1048576->f x n=some (iu n (sz x))) (bl:a.length<=1048576) (n:Int) (a7:0<=n) (aR:n<=1048576):bX (λm=>l m n 0)=some (iu n (rX sz a)):=
 Z_ (B:=λx n k=>(f x n).bind λy=>cond (decide (y<0)) (some (-1)) (k y)) sz a pB (λx an n _ _ a7 aR ax=>ve (bH x an n a7 aR) ax) bl n a7 aR
theorem asQ {l:Nat->Int->Int->azh} (a:azb)
  (pB:∀m n i,l (m+1) n i=cond (decide (i<(a.length:Int))) ((bk a i).bind λx=>cond (decide (IntKind.i64.wrap (n-(x.length:Int))<0)) (some (-1)) (l m (IntKind.i64.wrap (n-(x.length:Int))) (IntKind.i64.wrap (i+1)))) (some n))
  (bH:∀x∈a,x.length<=9223372036854775807) (bl:a.length<=1048576) (n:Int) (a7:0<=n) (aR:n<=1048576):bX (λm=>l m n 0)=some (iu n (rX List.length a)):=
 Z_ (B:=λx n k=>cond (decide (IntKind.i64.wrap (n-(x.length:Int))<0)) (some (-1)) (k (IntKind.i64.wrap (n-(x.length:Int))))) List.length a (by intro m n i;rw[pB]) (by
  intro x an n k t a7 aR ax;have aC:=bH x an;refine ow aC a7 aR λh=>?_;have e:IntKind.i64.wrap (n-(x.length:Int))=n-(x.length:Int):=eD _ (by omega);rw[e];exact ax h) bl n a7 aR
theorem vg {α β:Type} {l:Nat->List β->Int->Option (List β)} {f:α->Option β} (g:α->β) (a:List α) (z:β)
  (pB:∀m v i,l (m+1) v i=cond (decide (i<(a.length:Int))) ((bk a i).bind λx=>(f x).bind λy=>(bk v i).bind λ_=>l m (List.set v (Int.toNat i) y) (IntKind.i64.wrap (i+1))) (some v))
  (bH:∀x∈a,f x=some (g x)) (bl:a.length<=1048576):bX (λm=>l m (List.replicate (Int.toNat (a.length:Int)) z) 0)=some (a.map g):=by
 have key:∀i,i<=a.length->∀(v:List β) m,v.length=a.length->a.length-i<m->l m v (i:Int)=some (v.take i++(a.drop i).map g):=by
  refine down a.length ?_ ?_
  .intro v m aF hm;obtain⟨k,rfl⟩:∃k,m=k+1:=⟨m-1,by omega⟩
   rw[pB,ev (Nat.le_refl _)];simp[<-aF]
  .intro i ai ih v m aF hm;obtain⟨k,rfl⟩:∃k,m=k+1:=⟨m-1,by omega⟩
   rw[pB,d_ ai,dJ _ i ai,dQ i _ ai (by omega)];simp only[cond_true,bind_some,bH _ (List.getElem_mem ai)];rw[dJ v i (by omega)];simp only[bind_some,Int.toNat_natCast];rw[ih _ k (by simp[aF]) (by omega),drop_cons a i ai,List.map_cons,List.take_set,List.take_succ_eq_append_getElem (by omega),List.set_append_right _ _ (by simp;omega)];simp[show min i v.length=i by omega]
 refine eY (a.length+1) λm hm=>?_;have:=key 0 (by omega) (List.replicate (Int.toNat (a.length:Int)) z) m (by simp) (by omega);simpa using this
theorem rY (b:Nat) {n:Nat} (h:n<=1048576) (ab:b<=4096):na b (n:Int)=some ():=by
 have ad:b*n<=4096*1048576:=Nat.mul_le_mul ab h;have ae:((b:Int)*(n:Int))=((b*n:Nat):Int):=by simp
 unfold na;rw[if_pos ⟨by omega,by rw[ae];omega,by omega⟩]
theorem ys {α:Type} {l:Nat->Int->azg} {f:α->α->azg} (a:List α)
  (pB:∀m i,l (m+1) i=cond (decide (i<(a.length:Int))) ((bk a i).bind λx=>(bk a i).bind λy=>(f x y).bind λz=>cond (!z) (some false) (l m (IntKind.i64.wrap (i+1)))) (some true))
  (bH:∀x∈a,f x x=some true) (bl:a.length<=1048576):bX (λm=>l m 0)=some true:=by
 rw[oV (n:=a.length) (λ_=>some true)]
 .intro m;rw[pB,ev (Nat.le_refl _)];rfl
 .intro i ai m ih;rw[pB,d_ ai,dJ _ i ai,dQ i _ ai (by omega),ih];simp only[cond_true,bind_some,bH _ (List.getElem_mem ai),Bool.not_true,cond_false]
theorem aaa {α:Type} {d:α->α->Bool} {l:Nat->Int->azg} (a:List α)
  (pB:∀m i,l (m+1) i=cond (decide (i<(a.length:Int))) ((bk a i).bind λx=>(bk a i).bind λy=>cond (d x y) (some false) (l m (IntKind.i64.wrap (i+1)))) (some true))
  (ao:∀x,d x x=false) (bl:a.length<=1048576):bX (λm=>l m 0)=some true:=by
 rw[oV (n:=a.length) (λ_=>some true)]
 .intro m;rw[pB,ev (Nat.le_refl _)];rfl
 .intro i ai m ih;rw[pB,d_ ai,dJ _ i ai,dQ i _ ai (by omega),ih];simp only[cond_true,bind_some,ao,cond_false]
theorem wT (x:Int):(x !=x)=false:=by simp
theorem wU (x:azc):(!(x==x))=false:=by simp
theorem yt (x:Bool):(!(x==x))=false:=by simp
theorem vh (n:Nat):((n:Int) !=(n:Int))=false:=by simp
def fW (p:Nat->Bool) (n:Nat):Bool:=(List.range n).all p
theorem nO {p:Nat->Bool} {n:Nat}:fW p n=true↔∀i,i<n->p i=true:=by simp[fW]
theorem Hu {l:Nat->Int->azg} {n:Nat} (p:Nat->Bool) (a7:∀m,l (m+1) (n:Int)=some true)
  (aa:∀i,i<n->∀m,l (m+1) (i:Int)=cond (p i) (l m ((i+1:Nat):Int)) (some false)):bX (λm=>l m 0)=some (fW p n):=by
 rw[oV (n:=n) (λi=>some ((List.range' i (n-i)).all p))]
 .simp[fW,List.range_eq_range']
 .intro m;rw[a7];simp
 .intro i ai m ih;rw[aa i ai,ih,show n-i=(n-(i+1))+1 by omega,List.range'_succ];cases ay:p i<;>simp[ay]
def iZ (p:Nat->Bool):Nat->Nat->Int
 |_,0=> -1
 |i,k+1=>if p i=true then(i:Int)else iZ p (i+1) k
theorem aab {p:Nat->Bool}:∀(k i:Nat),(∀j,i<=j->j<i+k->p j=false)->iZ p i k= -1
 |0,_,_=>rfl
 |k+1,i,h=>by
  simp only[iZ,h i (Nat.le_refl _) (by omega)];exact aab k (i+1) λj ad ae=>h j (by omega) (by omega)
theorem aac {p:Nat->Bool}:∀(k i j:Nat),i<=j->j<i+k->p j=true->0<=iZ p i k
 |0,i,j,ad,ae,_=>by omega
 |k+1,i,j,ad,ae,aJ=>by
  simp only[iZ];split
  .omega
  .rename_i h;refine aac k (i+1) j ?_ (by omega) aJ;rcases Nat.lt_or_ge i j with h|h
   .exact h
   .have:i=j:=by omega
    subst this;exact absurd aJ (by assumption)
theorem tr (p:Nat->Bool) (n:Nat):decide (0<=iZ p 0 n)= !(fW (λi=> !p i) n):=by
 by_cases h:∃j,j<n/\p j=true
 .obtain⟨j,ad,ae⟩:=h;have aJ:=aac n 0 j (zero_le _) (by omega) ae;have bh:fW (λi=> !p i) n=false:=by
   rw[Bool.eq_false_iff];intro kU;have:=nO.1 kU j ad;simp[ae]at this
  rw[bh];simpa using aJ
 .have aJ:∀j,j<n->p j=false:=λj bJ=>by
   cases ay:p j
   .rfl
   .exact absurd ⟨j,bJ,ay⟩ h
  rw[aab n 0 λj _ ae=>aJ j (by omega)];have bh:fW (λi=> !p i) n=true:=nO.2 λi ai=>by simp[aJ i ai]
  rw[bh];rfl
theorem p8 {l:Nat->Int->azh} {n:Nat} (p:Nat->Bool) (a7:∀m,l (m+1) (n:Int)=some (-1))
  (aa:∀i,i<n->∀m,l (m+1) (i:Int)=cond (p i) (some (i:Int)) (l m ((i+1:Nat):Int))):bX (λm=>l m 0)=some (iZ p 0 n):=by
 rw[oV (n:=n) (λi=>some (iZ p i (n-i)))]
 .simp
 .intro m;rw[a7];simp[iZ]
 .intro i ai m ih;rw[aa i ai,ih,show n-i=(n-(i+1))+1 by omega];cases ay:p i<;>simp[ay,iZ]
theorem Hv (i:Nat) (h:0<i) (aR:i<=4611686018427387904):IntKind.i64.wrap ((i:Int)-1)=((i-1:Nat):Int):=by
 rw[eD _ (by omega)];omega
theorem Az:decide ((0:Int)<((0:Nat):Int))=false:=by decide
theorem St {i:Nat} (h:i≠0):decide ((0:Int)<(i:Int))=true:=by simp;omega
def wV (b:Bool):Int:=cond b 1 0
theorem Lu (b:Bool):(cond b (some 1) (some 0):azh)=some (wV b):=by cases b<;>rfl
theorem asR {α:Type} (x:α) (l:List α):gz (x::l) 1 (((x::l).length:Nat):Int)=some l:=by
 unfold gz;rw[if_pos (by simp only[List.length_cons];omega)];simp
theorem DC {α:Type} (a b c:List α) {i j:Int} (ai:i=(a.length:Int)) (bJ:j=((a.length+b.length:Nat):Int)):gz (a++(b++c)) i j=some b:=by
 unfold gz;have aO:i.toNat=a.length:=by omega
 have aU:j.toNat=a.length+b.length:=by omega
 rw[if_pos (by simp only[List.length_append];omega),aO,aU,<-List.append_assoc,List.take_left' (by simp),List.drop_left' rfl]
theorem ky {b n:Nat} (h:n*b<=140737488355328) (ae:n<=9223372036854775807):room b n=some ():=by unfold room;rw[if_pos ⟨h,ae⟩]
def glue (p:azc):azb->azb
 |[]=>[p]
 |h::t=>(p++h)::t
def fR (c:UInt8):azc->azb
 |[]=>[[]]
 |x::r=>if x=c then []::fR c r else glue [x] (fR c r)
theorem aad:∀{l:azb},l≠[]->glue [] l=l
 |[],h=>(h rfl).elim
 |_::_,_=>rfl
theorem asS (p q:azc):∀l:azb,glue p (glue q l)=glue (p++q) l
 |[]=>rfl
 |h::t=>by simp only[glue,List.append_assoc]
theorem DD (c:UInt8):∀s,fR c s≠[]
 |[]=>by simp[fR]
 |x::r=>by
  simp only[fR];split
  .simp
  .cases h:fR c r<;>simp[glue]
theorem Lv (c:UInt8):∀s,(fR c s).length=s.count c+1
 |[]=>rfl
 |x::r=>by
  simp only[fR];split
  .rename_i h;subst h;simp only[List.length_cons,Lv x r,List.count_cons_self]
  .rename_i h;have kU:(x==c)=false:=by simpa using h
   rw[List.count_cons,kU];cases e:fR c r with
   |nil=>exact(DD c r e).elim
   |cons a t=>have:=Lv c r;rw[e]at this;simpa [glue]using this
theorem Su (c:UInt8):∀s,c∉s->fR c s=[s]
 |[],_=>rfl
 |x::r,h=>by
  simp only[List.mem_cons,not_or]at h;simp only[fR];rw[if_neg (λe=>h.1 e.symm),Su c r h.2];rfl
theorem Sv (c:UInt8):∀p q,c∉p->fR c (p++c::q)=p::fR c q
 |[],q,_=>by simp[fR]
 |x::r,q,h=>by
  simp only[List.mem_cons,not_or]at h;simp only[List.cons_append,fR];rw[if_neg (λe=>h.1 e.symm),Sv c r q h.2];rfl
theorem asT (s x:azc):∀l:azb,l≠[]->hG (glue x l) s=x++hG l s
 |[],h=>(h rfl).elim
 |[y],_=>by simp[glue,hG,List.intercalate,List.intersperse]
 |y::z::r,_=>by simp[glue,hG,List.intercalate,List.intersperse]
theorem aae (c:UInt8):∀s,hG (fR c s) [c]=s
 |[]=>by simp[fR,hG,List.intercalate,List.intersperse]
 |x::r=>by
  simp only[fR];have ih:=aae c r;split
  .rename_i h;subst h;cases e:fR x r with
   |nil=>exact(DD x r e).elim
   |cons a t=>
    rw[e]at ih;have:hG ([]::a::t) [x]=x::hG (a::t) [x]:=by simp[hG,List.intercalate,List.intersperse]
    rw[this,ih]
  .rw[asT _ _ _ (DD c r),ih];rfl
theorem aaf (c:UInt8):∀s,c∉s->sY s c= -1
 |[],_=>rfl
 |x::r,h=>by
  simp only[List.mem_cons,not_or]at h;have kU:(x==c)=false:=by simpa using λe=>h.1 e.symm
  simp only[sY,kU,aaf c r h.2];rfl
theorem aag (c:UInt8):∀p q,c∉p->sY (p++c::q) c=(p.length:Int)
 |[],q,_=>by simp[sY]
 |x::r,q,h=>by
  simp only[List.mem_cons,not_or]at h;have kU:(x==c)=false:=by simpa using λe=>h.1 e.symm
  have ih:=aag c r q h.2;simp only[List.cons_append,sY,kU,ih];have:((r.length:Int)== -1)=false:=by simp
  rw[this];simp
theorem Sw {c:UInt8}:∀{s:azc},c∈s->∃p q,s=p++c::q/\c∉p
 |x::r,h=>by
  by_cases e:x=c
  .subst e;exact⟨[],r,rfl,by simp⟩
  .have bD:c∈r:=by
    rcases List.mem_cons.1 h with h|h
    .exact(e h.symm).elim
    .exact h
   obtain⟨p,q,rfl,ay⟩:=Sw bD;exact⟨x::p,q,rfl,by simp only[List.mem_cons,not_or];exact⟨λh=>e h.symm,ay⟩⟩
theorem aah (s:azc) (c:UInt8) (aa:1<=s.length\/True):wm s [c]=some (if s=[c]then 0 else sY s c):=by
 unfold wm P0 PZ;by_cases h:s=[c]
 .subst h;simp
 .have e:([c]==s)=false:=by simpa using λbD=>h bD.symm
  rw[if_neg h,e];rfl
theorem asU {s:azc} {c:UInt8} (h:c∉s):wm s [c]=some (-1):=by
 rw[aah s c (.inr trivial),if_neg (by rintro rfl;simp at h),aaf c s h]
theorem aai (p q:azc) {c:UInt8} (h:c∉p):wm (p++c::q) [c]=some (p.length:Int):=by
 rw[aah _ c (.inr trivial),aag c p q h];split
 .rename_i e;cases p with
  |nil=>rfl
  |cons x r=>have:=congrArg List.length e;simp at this
 .rfl
theorem asV (s t:azc):Gt s t=wm s t:=by
 unfold Gt;cases wm s t<;>rfl
theorem aaj {s:azc} {c:UInt8} (h:c∉s):CK s [c]=some (s,[],false):=by
 unfold CK Ki;rw[asU h];rfl
theorem aak (p q:azc) {c:UInt8} (h:c∉p) (aC:(p++c::q).length<=1048576):CK (p++c::q) [c]=some (p,q,true):=by
 unfold CK Ki;rw[aai p q h];simp only[List.length_append,List.length_cons]at aC;have e:decide ((0:Int)<=(p.length:Int))=true:=by simp
 simp only[bind_some,e,cond_true];rw[tq _ _ (by simp),eD ((p.length:Int)+([c].length:Int)) (by simp;omega)];have aU:gz (p++c::q) ((p.length:Int)+([c].length:Int)) ((p++c::q).length:Int)=some q:=by
  have:=DC (p++[c]) q [] (i:=((p.length:Int)+([c].length:Int))) (j:=(((p++c::q).length:Nat):Int)) (by simp) (by simp;omega);simpa using this
 rw[aU];simp
theorem aal (q:azc) {c:UInt8} (aC:q.length<=1048576):strings_TrimSuffix (q++[c]) [c]=some q:=by
 unfold strings_TrimSuffix Kk Kj;have e:decide (([c].length:Int)<=((q++[c]).length:Int))=true:=by simp;omega
 have Sy:IntKind.i64.wrap (((q++[c]).length:Int)-([c].length:Int))=(q.length:Int):=by
  rw[eD _ (by simp;omega)];simp
 rw[e,Sy];have aU:=DC q [c] [] (i:=(q.length:Int)) (j:=(((q++[c]).length:Nat):Int)) rfl (by simp);simp only[List.append_nil]at aU;rw[aU,tq _ _ (by simp)];simp
theorem asW (q:azc) {c:UInt8} (aC:q.length<=1048576) (h:∀r,q≠r++[c]):strings_TrimSuffix q [c]=some q:=by
 unfold strings_TrimSuffix Kk Kj;rcases List.eq_nil_or_concat q with rfl|⟨r,x,rfl⟩
 .rfl
 .simp only[List.concat_eq_append]at*;have an:x≠c:=by rintro rfl;exact h r rfl
  have e:decide (([c].length:Int)<=((r++[x]).length:Int))=true:=by simp;omega
  have Sz:r.length+1<=1048576:=by simpa using aC
  have Sy:IntKind.i64.wrap (((r++[x]).length:Int)-([c].length:Int))=(r.length:Int):=by
   rw[eD _ (by simp;omega)];simp
  rw[e,Sy];have aU:=DC r [x] [] (i:=(r.length:Int)) (j:=(((r++[x]).length:Nat):Int)) rfl (by simp);simp only[List.append_nil]at aU;rw[aU];have aM:([x]==[c])=false:=by simpa using an
  simp only[cond_true,bind_some,aM,cond_false]
theorem aam {α:Type} (a:List α) (x y:α) (b:List α):(a++x::b).set a.length y=a++y::b:=by
 rw[List.set_append_right _ _ (Nat.le_refl _),Nat.sub_self,List.set_cons_zero]
theorem SA {α:Type} (a:List α) (x:α) (b:List α):bk (a++x::b) (a.length:Int)=some x:=by
 rw[dJ _ _ (by simp)];simp
theorem asX {α:Type} (a:List α) (x:α) (b:List α):gz (a++x::b) 0 ((a.length+1:Nat):Int)=some (a++[x]):=by
 rw[tq _ _ (by simp)];congr 1;rw[show a++x::b=(a++[x])++b by simp,List.take_left' (by simp)]
theorem asY (c:UInt8) (s:azc) (aa:s.length<=1048576) (N:Nat) (AA:N=s.count c+1):
  ∀(k:Nat) (r:azc) (d:azb),r.count c=k->d.length+k+1=N->r.length<=s.length->∀m,k<m->
   zR s [c] 0 (N:Int) m r (d++List.replicate (k+1) []) (d.length:Int)=some (d++fR c r):=by
 have ar:s.count c<=s.length:=List.count_le_length;have aan:jr false (N:Int) (IntKind.i64.wrap ((s.length:Int)+1))=(N:Int):=by
  rw[eD _ (by omega)];unfold jr;simp;omega
 have ts:∀(r:azc) (d:azb),d.length<N->c∉r->Gu s [c] 0 (N:Int) r (d++List.replicate 1 []) (d.length:Int)=some (d++fR c r):=by
  intro r d ao aT;unfold Gu;simp only[List.replicate_succ,List.replicate_zero];rw[SA,bind_some,Int.toNat_natCast,aam,eD _ (by omega),show((d.length:Int)+1)=((d.length+1:Nat):Int) by omega,asX,Su c r aT];rfl
 intro k;induction k with
 |zero=>
  intro r d aT ao aC m hm;obtain⟨m,rfl⟩:∃j,m=j+1:=⟨m-1,by omega⟩
  simp only[zR,P4];have e:decide ((d.length:Int)<IntKind.i64.wrap (jr false (N:Int) (IntKind.i64.wrap ((s.length:Int)+1))-1))=false:=by
   rw[aan,eD _ (by omega)];simp;omega
  rw[e,cond_false];exact ts r d (by omega) (List.count_eq_zero.1 aT)
 |succ k ih=>
  intro r d aT ao aC m hm;obtain⟨m,rfl⟩:∃j,m=j+1:=⟨m-1,by omega⟩
  obtain⟨p,q,rfl,ay⟩:=Sw (c:=c) (s:=r) (List.count_pos_iff.1 (by omega));simp only[zR,P4];have e:decide ((d.length:Int)<IntKind.i64.wrap (jr false (N:Int) (IntKind.i64.wrap ((s.length:Int)+1))-1))=true:=by
   rw[aan,eD _ (by omega)];simp;omega
  simp only[List.length_append,List.length_cons]at aC;rw[e,cond_true,asV,aai p q ay,bind_some];have aU:decide ((p.length:Int)<0)=false:=by simp
  rw[aU,cond_false,eD ((p.length:Int)+0) (by omega),Int.add_zero,tq _ _ (by simp)];have aM:gz (p++c::q) (IntKind.i64.wrap ((p.length:Int)+([c].length:Int))) ((p++c::q).length:Int)=some q:=by
   rw[eD _ (by simp;omega)];have:=DC (p++[c]) q [] (i:=((p.length:Int)+([c].length:Int))) (j:=(((p++c::q).length:Nat):Int)) (by simp) (by simp;omega);simpa using this
  rw[bind_some,List.take_left' rfl,show List.replicate (k+1+1) ([]:azc)=[]::List.replicate (k+1) []from rfl,SA,bind_some,aM,bind_some,Int.toNat_natCast,aam,eD ((d.length:Int)+1) (by omega)];have asZ:q.count c=k:=by
   rw[List.count_append,List.count_cons_self,List.count_eq_zero.2 ay]at aT;omega
  have:=ih q (d++[p]) asZ (by simp;omega) (by omega) m (by omega);simp only[List.append_assoc,List.singleton_append,List.length_append,List.length_cons,List.length_nil]at this;rw[Sv c p q ay,<-this];congr 1
theorem aao (c:UInt8) (s:azc) (aa:s.length<=1048576):Km s [c]=some (fR c s):=by
 have ar:s.count c<=s.length:=List.count_le_length;unfold Km P5 P3 P1 Kl;have aO:((-1:Int)==0)=false:=by decide
 have aU:([c]==([]:azc))=false:=rfl;have aM:decide ((-1:Int)<0)=true:=by decide
 have bT:(([c].length:Int)==0)=false:=rfl;have cv:(([c].length:Int)==1)=true:=rfl;rw[aO,aU,aM,bT,cv];simp only[cond_false,cond_true,Ht,bind_some];rw[eD ((s.count c:Int)+1) (by omega),eD ((s.length:Int)+1) (by omega)];have hm:jr false ((s.count c:Int)+1) ((s.length:Int)+1)=((s.count c+1:Nat):Int):=by
  unfold jr;simp;omega
 have ax:na 16 ((s.count c+1:Nat):Int)=some ():=by
  unfold na;rw[if_pos ⟨by omega,by omega,by omega⟩]
 have aC:bX (λn=>zR s [c] 0 ((s.count c:Int)+1) n s (List.replicate (s.count c+1) []) 0)=some (fR c s):=by
  refine eY (s.count c+1) λm hm=>?_;have:=asY c s aa (s.count c+1) rfl (s.count c) s [] rfl (by simp) (Nat.le_refl _) m (by omega);simpa using this
 rw[hm,ax];simp only[bind_some,Int.toNat_natCast];rw[aC];rfl
theorem aap (c:UInt8) (s:azc) (aa:s.length<=1048576):Jx s c=some (fR c s):=by
 have key:∀i,i<=s.length->∀m,s.length-i<m->∀(v:azb) (f:Nat),f<=i->v.length<=i->
   zy s c m v (f:Int) (i:Int)=some (v++glue ((s.take i).drop f) (fR c (s.drop i))):=by
  refine down s.length ?_ ?_
  .intro m hm v f bH aF;obtain⟨m,rfl⟩:∃j,m=j+1:=⟨m-1,by omega⟩
   simp only[zy,O7];rw[ev (Nat.le_refl _),cond_false];have e:gz s (f:Int) (s.length:Int)=some (s.drop f):=by
    unfold gz;rw[if_pos ⟨by omega,by omega,by omega⟩];simp
   rw[e,bind_some,ky (by omega) (by omega),bind_some,List.take_length,List.drop_length];simp[fR,glue]
  .intro i ai ih m hm v f bH aF;obtain⟨m,rfl⟩:∃j,m=j+1:=⟨m-1,by omega⟩
   simp only[zy,O7,Jw];rw[d_ ai,cond_true,dJ s i ai,bind_some,drop_cons s i ai];simp only[fR];by_cases ar:s[i]=c
   .have e:((s[i].toNat:Int)==(c.toNat:Int))=true:=by rw[ar];simp
    have aU:gz s (f:Int) (i:Int)=some ((s.take i).drop f):=by
     unfold gz;rw[if_pos ⟨by omega,by omega,by omega⟩];simp
    rw[e,cond_true,aU,bind_some,ky (by omega) (by omega),bind_some,if_pos ar,dQ i s.length ai (by omega),ih m (by omega) _ (i+1) (Nat.le_refl _) (by simp;omega)];rw[List.drop_of_length_le (l:=List.take (i+1) s) (by rw[List.length_take];omega),aad (DD _ _)];simp[glue]
   .have e:((s[i].toNat:Int)==(c.toNat:Int))=false:=by
     simp only[beq_eq_false_iff_ne,ne_eq];intro h;exact ar (UInt8.toNat_inj.1 (by omega))
    rw[e,cond_false,if_neg ar,dQ i s.length ai (by omega),ih m (by omega) _ f (by omega) (by omega),asS];congr 3;rw[List.take_succ_eq_append_getElem ai,List.drop_append_of_le_length (by simp;omega)]
 unfold Jx;refine eY (s.length+1) λm hm=>?_;have:=key 0 (by omega) m (by omega) [] 0 (Nat.le_refl _) (zero_le _);simpa [aad (DD c s)]using this
theorem as0:∀d:Fin 10,IntKind.i64.wrap (IntKind.u8.wrap (((48+d.val:Nat):Int)-48))=((d.val:Nat):Int):=by decide
theorem u8_in:∀c:UInt8,gr c=true->IntKind.i64.wrap (IntKind.u8.wrap ((c.toNat:Int)-48))=((c.toNat-48:Nat):Int):=by
 intro c h;simp only[gr,Bool.and_eq_true,decide_eq_true_eq]at h;have:=as0 ⟨c.toNat-48,by omega⟩;simp only at this
 rwa [show 48+(c.toNat-48)=c.toNat by omega]at this
theorem as1 (c:UInt8):BP c=some (gr c):=by
 unfold BP gr;congr 2
 .rw[decide_eq_decide];omega
 .rw[decide_eq_decide];omega
def lX (n:Nat) (d:azc):Nat:=d.foldl (λn c=>10*n+(c.toNat-48)) n
theorem aaq:∀(d:azc) (n k:Nat),d.all gr=true->n<10^k->lX n d<10^(k+d.length)
 |[],n,k,_,h=>by simpa [lX]using h
 |c::r,n,k,ao,h=>by
  simp only[List.all_cons,Bool.and_eq_true]at ao;have ar:=ao.1;simp only[gr,Bool.and_eq_true,decide_eq_true_eq]at ar;have:=aaq r (10*n+(c.toNat-48)) (k+1) ao.2 (by rw[Nat.pow_succ];omega);rw[List.length_cons,show k+(r.length+1)=k+1+r.length by omega];exact this
theorem aar (s:azc) (a:Int) (aa:s.length<=1048576):∀(d:azc) (i n k:Nat),s.drop i=d->i<=s.length->n<10^k->k+d.length<=18->∀m,d.length<m->
  vY s a m (n:Int) (i:Int)=some (if d.all gr=true then(if a=1 then-(lX n d:Int)else lX n d,true)else(0,false))
 |[],i,n,k,ao,ai,aR,ax,m,hm=>by
  obtain⟨m,rfl⟩:∃j,m=j+1:=⟨m-1,by simp at hm;omega⟩
  have as2:i=s.length:=by
   have:=congrArg List.length ao;rw[List.length_drop]at this;simp at this;omega
  subst as2;have oG:n<10^18:=Nat.lt_of_lt_of_le aR (Nat.pow_le_pow_right (by omega) (by simpa using ax));simp only[vY,O8,FY];rw[ev (Nat.le_refl _),cond_false];by_cases bl:a=1
  .subst bl;simp only[BEq.rfl,cond_true];rw[eD _ (by omega)];simp[lX]
  .have:(a==1)=false:=by simpa using bl
   rw[this,cond_false];simp[lX,bl]
 |c::r,i,n,k,ao,ai,aR,ax,m,hm=>by
  obtain⟨m,rfl⟩:∃j,m=j+1:=⟨m-1,by simp at hm;omega⟩
  have wW:i<s.length:=by
   have:=congrArg List.length ao;rw[List.length_drop]at this;simp at this;omega
  rw[drop_cons s i wW]at ao;injection ao with ad ae;simp only[List.length_cons]at ax hm;have oG:n<10^17:=Nat.lt_of_lt_of_le aR (Nat.pow_le_pow_right (by omega) (by omega));simp only[vY,O8];rw[d_ wW,cond_true,dJ s i wW,bind_some,ad,as1,bind_some,List.all_cons];cases ar:gr c
  .simp
  .have DE:=ar;simp only[gr,Bool.and_eq_true,decide_eq_true_eq]at DE;simp only[Bool.not_true,cond_false,Bool.true_and];rw[u8_in c ar,eD (10*(n:Int)) (by omega),eD _ (by omega),dQ i s.length wW (by omega),show(10*(n:Int)+((c.toNat-48:Nat):Int))=((10*n+(c.toNat-48):Nat):Int) by omega];exact aar s a aa r (i+1) (10*n+(c.toNat-48)) (k+1) ae wW (by rw[Nat.pow_succ];omega) (by omega) m (by omega)
theorem SB (s:azc) (k:Nat) (aa:s.length<=1048576) (ax:k<=1) (aC:k<=s.length):B5 s (k:Int)=some (oP k (s.drop k)):=by
 unfold B5 oP;by_cases a7:s.length=k
 .have e:((s.length:Int)==(k:Int))=true:=by simp;omega
  rw[e,cond_true,List.drop_of_length_le (by omega)];simp
 have e:((s.length:Int)==(k:Int))=false:=by simp;omega
 rw[e,cond_false,eD _ (by omega)];have aas:(s.drop k).length=s.length-k:=List.length_drop;have dV:s.drop k≠[]:=by
  intro h;rw[h]at aas;simp at aas;omega
 by_cases ad:18<s.length-k
 .have e:decide (18<(s.length:Int)-(k:Int))=true:=by simp;omega
  rw[e,cond_true,if_neg (by intro h;omega)]
 have e:decide (18<(s.length:Int)-(k:Int))=false:=by simp;omega
 have E_:k<s.length:=by omega
 rw[e,cond_false,dJ s k E_,bind_some];have kU:(s.drop k).head? =some s[k]:=by rw[drop_cons s k E_];rfl
 have aat:bX (λn=>vY s (k:Int) n 0 (k:Int))=some (if(s.drop k).all gr=true then(if(k:Int)=1 then-(lX 0 (s.drop k):Int)else lX 0 (s.drop k),true)else(0,false)):=by
  refine eY (s.length+1) λm hm=>?_;exact aar s (k:Int) aa (s.drop k) k 0 0 rfl aC (by omega) (by omega) m (by omega)
 have aF:kt (s.drop k)=lX 0 (s.drop k):=rfl;have uh:((k:Int)=1)=(k=1):=by apply propext;omega
 simp only[uh]at aat;rw[aat,kU,aF];by_cases mA:s[k]=48
 .have e:((s[k].toNat:Int)==48)=true:=by rw[mA];rfl
  rw[e,cond_true];by_cases ae:1<s.length
  .have e:decide ((1:Int)<(s.length:Int))=true:=by simp;omega
   rw[e,cond_true,if_neg (by intro h;exact h.2.2.2 ⟨by rw[mA],by omega⟩)]
  .have e:decide ((1:Int)<(s.length:Int))=false:=by simp;omega
   rw[e,cond_false];by_cases bl:(s.drop k).all gr=true
   .rw[if_pos bl,if_pos (show s.drop k≠[]/\(s.drop k).length<=18/\(s.drop k).all gr=true/\¬(some s[k]=some 48/\1<(s.drop k).length+k)from⟨dV,by omega,bl,by rintro⟨_,h⟩;omega⟩)]
   .rw[if_neg bl,if_neg (λh=>bl h.2.2.1)]
 .have e:((s[k].toNat:Int)==48)=false:=by
   simp only[beq_eq_false_iff_ne,ne_eq];intro h;exact mA (UInt8.toNat_inj.1 (by rw[show(48:UInt8).toNat=48 from rfl];omega))
  rw[e,cond_false];by_cases bl:(s.drop k).all gr=true
  .rw[if_pos bl,if_pos (show s.drop k≠[]/\(s.drop k).length<=18/\(s.drop k).all gr=true/\¬(some s[k]=some 48/\1<(s.drop k).length+k)from⟨dV,by omega,bl,by rintro⟨h,_⟩;exact mA (some.inj h)⟩)]
  .rw[if_neg bl,if_neg (λh=>bl h.2.2.1)]
theorem as3 (s:azc) (aa:s.length<=1048576):Jy s=some (iX s):=by
 unfold Jy iX;cases s with
 |nil=>exact SB [] 0 (by simp) (by omega) (by simp)
 |cons c r=>
  rw[show decide ((0:Int)<(((c::r).length:Nat):Int))=true from Ax (by simp),cond_true,Ht,bind_some];by_cases h:c=45
  .subst h;have e:(((45:UInt8).toNat:Int)==45)=true:=rfl;rw[e,cond_true,if_pos (show(45::r).head? =some 45 from rfl)];exact SB (45::r) 1 aa (by omega) (by simp)
  .have e:((c.toNat:Int)==45)=false:=by
    simp only[beq_eq_false_iff_ne,ne_eq];intro bD;exact h (UInt8.toNat_inj.1 (by rw[show(45:UInt8).toNat=45 from rfl];omega))
   rw[e,cond_false,if_neg (by intro bD;exact h (some.inj bD))];exact SB (c::r) 0 aa (by omega) (by simp)
theorem Hw:∀c:UInt8,gr c=true->UInt8.ofNat (48+(c.toNat-48))=c:=by
 intro c h;simp only[gr,Bool.and_eq_true,decide_eq_true_eq]at h;rw[show 48+(c.toNat-48)=c.toNat by omega];exact UInt8.ofNat_toNat
theorem as4 {w:azc} {v:Int} (h:iX w=(v,true)) (a7:0<=v) (ad:v<=63):w=iw v.toNat:=by
 unfold iX at h;split at h
 .rename_i kU;unfold oP at h;split at h
  .rename_i ar;obtain⟨cA,c2,c3,c4⟩:=ar;exfalso;simp only[if_pos,Prod.mk.injEq,and_true]at h;cases hw:w.tail with
   |nil=>exact cA hw
   |cons c r=>
    rw[hw]at c3 c4 h;simp only[List.all_cons,Bool.and_eq_true]at c3;have ar:=c3.1;simp only[gr,Bool.and_eq_true,decide_eq_true_eq]at ar;have mA:c≠48:=λe=>c4 ⟨by rw[e];rfl,by simp⟩;have NV:1<=c.toNat-48:=by
     rcases Nat.lt_or_ge 48 c.toNat with h|h
     .omega
     .exact(mA (UInt8.toNat_inj.1 (by rw[show(48:UInt8).toNat=48 from rfl];omega))).elim
    have mono:∀(d:azc) (n:Nat),1<=n->1<=lX n d:=by
     intro d;induction d with
     |nil=>intro n h;exact h
     |cons x d ih=>intro n h;exact ih (10*n+(x.toNat-48)) (by omega)
    have:1<=kt (c::r):=mono r (10*0+(c.toNat-48)) (by omega);omega
  .cases h
 .unfold oP at h;split at h
  .rename_i ar;obtain⟨cA,c2,c3,c4⟩:=ar;simp only[show(0:Nat)≠1 from by decide,if_false,Prod.mk.injEq,and_true]at h;subst h;have mono:∀(d:azc) (n:Nat),n<=lX n d:=by
    intro d;induction d with
    |nil=>intro n;exact Nat.le_refl _
    |cons x d ih=>intro n;exact Nat.le_trans (by omega) (ih (10*n+(x.toNat-48)))
   match w,cA,c3,c4 with
   |[a],_,c3,_=>
    simp only[List.all_cons,List.all_nil,Bool.and_true]at c3;have e:kt [a]=a.toNat-48:=by simp[kt]
    have ao:=Hw a c3;simp only[gr,Bool.and_eq_true,decide_eq_true_eq]at c3;rw[e,Int.toNat_natCast,iw,if_pos (by omega),ao]
   |a::b::r,_,c3,c4=>
    simp only[List.all_cons,Bool.and_eq_true]at c3;have bl:=c3.1;have ab:=c3.2.1;have as5:=Hw a bl;have as6:=Hw b ab;simp only[gr,Bool.and_eq_true,decide_eq_true_eq]at bl ab;have mA:a≠48:=λe=>c4 ⟨by rw[e];rfl,by simp⟩;have NV:1<=a.toNat-48:=by
     rcases Nat.lt_or_ge 48 a.toNat with h|h
     .omega
     .exact(mA (UInt8.toNat_inj.1 (by rw[show(48:UInt8).toNat=48 from rfl];omega))).elim
    have e:kt (a::b::r)=lX (10*(10*0+(a.toNat-48))+(b.toNat-48)) r:=rfl;cases r with
    |nil=>
     have aU:kt [a,b]=10*(a.toNat-48)+(b.toNat-48):=by simp[kt]
     rw[aU,Int.toNat_natCast,iw,if_neg (by omega)];rw[show(10*(a.toNat-48)+(b.toNat-48))/10=a.toNat-48 by omega,show(10*(a.toNat-48)+(b.toNat-48))%10=b.toNat-48 by omega,as5,as6]
    |cons x r=>
     exfalso;have:=mono r (10*(10*(10*0+(a.toNat-48))+(b.toNat-48))+(x.toNat-48));have aM:kt (a::b::x::r)=lX (10*(10*(10*0+(a.toNat-48))+(b.toNat-48))+(x.toNat-48)) r:=rfl;omega
  .cases h
def Hx:Lib.NumEnd Nat:=Lib.parseUintB 64 []
theorem aau:∀(d:azc) (n k:Nat),n<10^k->k+d.length<=18->Lib.parseUintM 18446744073709551615 n d=if d.all gr=true then .ok (lX n d)else Hx
 |[],n,k,_,_=>by simp[Lib.parseUintM,lX]
 |c::r,n,k,aR,ax=>by
  simp only[List.length_cons]at ax;have oG:n<10^17:=Nat.lt_of_lt_of_le aR (Nat.pow_le_pow_right (by omega) (by omega));simp only[Lib.parseUintM];have mi:(c::r).all gr=(gr c&&r.all gr):=rfl;by_cases ar:gr c=true
  .have DE:=ar;simp only[gr,Bool.and_eq_true,decide_eq_true_eq]at DE;have SC:(c::r).all gr=r.all gr:=by rw[mi,ar];rfl
   rw[if_pos DE,if_neg (by omega),if_neg (by omega),SC,show n*10+(c.toNat-48)=10*n+(c.toNat-48) by omega,aau r _ (k+1) (by rw[Nat.pow_succ];omega) (by omega)];rfl
  .have DE:¬(48<=c.toNat/\c.toNat<=57):=λh=>ar (by simp only[gr,Bool.and_eq_true,decide_eq_true_eq];exact h);have as7:gr c=false:=by simpa using ar
   have SC:(c::r).all gr=false:=by rw[mi,as7];rfl
   rw[if_neg DE,SC];simp;rfl
theorem as8 (n x:Nat) (aR:1<=n) (an:x<=9):Lib.decDigits (10*n+x)=Lib.decDigits n++[UInt8.ofNat (48+x)]:=by
 rw[Lib.decDigits,dif_neg (by omega),show(10*n+x)/10=n by omega,show(10*n+x)%10=x by omega]
theorem aav:∀(d:azc) (n:Nat),1<=n->d.all gr=true->Lib.decDigits (lX n d)=Lib.decDigits n++d
 |[],n,_,_=>by simp[lX]
 |c::r,n,aR,ao=>by
  simp only[List.all_cons,Bool.and_eq_true]at ao;have ar:=ao.1;have e:=Hw c ao.1;simp only[gr,Bool.and_eq_true,decide_eq_true_eq]at ar;show Lib.decDigits (lX (10*n+(c.toNat-48)) r)=_;rw[aav r _ (by omega) ao.2,as8 n (c.toNat-48) aR (by omega),e];simp
theorem SD (u:Nat):∃c t,Lib.decDigits u=c::t/\gr c=true/\(1<=u->c≠48):=by
 induction u using Nat.strongRecOn with
 |_ u ih=>
  rw[Lib.decDigits];by_cases h:u<10
  .rw[dif_pos h];refine⟨_,_,rfl,?_,?_⟩
   .have:∀i:Fin 10,gr (UInt8.ofNat (48+i.val))=true:=by decide
    exact this ⟨u,h⟩
   .have:∀i:Fin 10,1<=i.val->UInt8.ofNat (48+i.val)≠48:=by decide
    exact this ⟨u,h⟩
  .rw[dif_neg h];obtain⟨c,t,ad,ae,aJ⟩:=ih (u/10) (by omega);exact⟨c,t++_,by rw[ad];rfl,ae,λ_=>aJ (by omega)⟩
theorem aaw (c:UInt8) (r:azc) (ao:(c::r).all gr=true):Lib.decDigits (kt (c::r))=c::r↔(c≠48\/r=[]):=by
 simp only[List.all_cons,Bool.and_eq_true]at ao;have ar:=ao.1;have e:=Hw c ao.1;simp only[gr,Bool.and_eq_true,decide_eq_true_eq]at ar;have aF:kt (c::r)=lX (c.toNat-48) r:=by
  show lX (10*0+(c.toNat-48)) r=_;rw[Nat.mul_zero,Nat.zero_add]
 rw[aF];by_cases mA:c=48
 .subst mA;constructor
  .intro h;cases r with
   |nil=>exact .inr rfl
   |cons x t=>
    exfalso;obtain⟨Ih,Ou,ad,ae,aJ⟩:=SD (lX ((48:UInt8).toNat-48) (x::t));rw[ad]at h;injection h with bh b2;by_cases dA:1<=lX ((48:UInt8).toNat-48) (x::t)
    .exact aJ dA bh
    .have a7:lX ((48:UInt8).toNat-48) (x::t)=0:=by omega
     rw[a7,Lib.decDigits,dif_pos (by omega)]at ad;injection ad with _ dC;rw[<-dC]at b2;cases b2
  .rintro(h|rfl)
   .exact(h rfl).elim
   .show Lib.decDigits 0=_;rw[Lib.decDigits,dif_pos (by omega)];rfl
 .have ad:1<=c.toNat-48:=by
   rcases Nat.lt_or_ge 48 c.toNat with h|h
   .omega
   .exact(mA (UInt8.toNat_inj.1 (by rw[show(48:UInt8).toNat=48 from rfl];omega))).elim
  refine⟨λ_=>.inl mA,λ_=>?_⟩;rw[aav r _ ad ao.2,Lib.decDigits,dif_pos (by omega),e];rfl
theorem SE (d:azc) (h:d.all gr=true) (aC:d.length<=18):kt d<10^18:=by
 have:=aaq d 0 0 h (by omega);have ae:(10:Nat)^(0+d.length)<=10^18:=Nat.pow_le_pow_right (by omega) (by omega);exact Nat.lt_of_lt_of_le this ae
theorem SF (d:azc) (aC:d.length<=18):Lib.parseUintB 64 d=if d≠[]/\d.all gr=true then .ok (kt d)else Hx:=by
 unfold Lib.parseUintB;by_cases h:d=[]
 .rw[if_pos h,if_neg (λbD=>bD.1 h)];rfl
 .rw[if_neg h,show(2^64-1:Nat)=18446744073709551615 from rfl,aau d 0 0 (by omega) (by omega)];by_cases ao:d.all gr=true
  .rw[if_pos ao,if_pos ⟨h,ao⟩];rfl
  .rw[if_neg ao,if_neg (λbD=>ao bD.2)]
def u7 (s:azc):Int×Bool:=match Lib.parseIntB 64 s with
 | .ok v=>if Lib.itoa v=s then(v,true)else(0,false)
 |_=>(0,false)
theorem SG {k:Nat} {d:azc} (h:¬(d≠[]/\d.all gr=true)):oP k d=(0,false):=by
 unfold oP;rw[if_neg (λbD=>h ⟨bD.1,bD.2.2.1⟩)]
theorem aax {k:Nat} {d:azc} (ad:d.head? =some 48) (ae:1<d.length+k):oP k d=(0,false):=by
 unfold oP;rw[if_neg (λbD=>bD.2.2.2 ⟨ad,ae⟩)]
theorem aay {k:Nat} {d:azc} (h:d≠[]/\d.length<=18/\d.all gr=true/\¬(d.head? =some 48/\1<d.length+k)):oP k d=(if k=1 then-(kt d:Int)else kt d,true):=by
 unfold oP;rw[if_pos h]
theorem amZ (s:azc) (h:(if s.head? =some 45 then s.tail else s).length<=18):Lib.parseIntB 64 s≠.range/\u7 s=iX s:=by
 unfold u7 iX;cases s with
 |nil=>exact⟨by simp[Lib.parseIntB],by simp[Lib.parseIntB,oP]⟩
 |cons c r=>
  by_cases SH:c=45
  .subst SH;rw[if_pos (show(45::r).head? =some 45 from rfl)]at h⊢;simp only[List.tail_cons]at h⊢;have Dp:(45:UInt8).toNat=45:=rfl;simp only[Lib.parseIntB,Dp,or_true,if_true];rw[SF r h];by_cases aT:r≠[]/\r.all gr=true
   .rw[if_pos aT];have er:=SE r aT.2 h;have y6:(2:Nat)^(64-1)=9223372036854775808:=by decide
    simp only[not_true,false_and,if_false,y6,true_and];rw[if_neg (by omega)];refine⟨by simp,?_⟩;simp only;obtain⟨x,t,rfl⟩:∃x t,r=x::t:=by
     cases r with
     |nil=>exact(aT.1 rfl).elim
     |cons x t=>exact⟨x,t,rfl⟩
    have Hy:=aaw x t aT.2;by_cases mA:x=48
    .rw[aax (by rw[mA];rfl) (by simp)];rw[if_neg];intro ai;by_cases a7:kt (x::t)=0
     .rw[a7]at ai;have jF:Lib.decDigits 0=[48]:=by rw[Lib.decDigits,dif_pos (by omega)];rfl
      simp[Lib.itoa,jF]at ai
     .unfold Lib.itoa at ai;rw[if_pos (by omega)]at ai;injection ai with _ ai;rw[show(-(kt (x::t):Int)).natAbs=kt (x::t) by omega]at ai;obtain⟨Ih,Ou,hn,gE,iI⟩:=SD (kt (x::t));rw[hn]at ai;injection ai with EN _;exact iI (by omega) (EN.trans mA)
    .have NV:1<=kt (x::t):=by
      have:=(Hy.2 (.inl mA))
      rcases eq_zero_or_pos (kt (x::t))with a7|a7
      .rw[a7,Lib.decDigits,dif_pos (by omega)]at this;injection this with this _;exact(mA this.symm).elim
      .exact a7
     rw[aay ⟨by simp,h,aT.2,λbD=>mA (some.inj bD.1)⟩];rw[if_pos]
     .simp
     .unfold Lib.itoa;rw[if_pos (by omega),show(-(kt (x::t):Int)).natAbs=kt (x::t) by omega,Hy.2 (.inl mA)]
   .rw[if_neg aT,SG aT];exact⟨by simp[Hx,Lib.parseUintB],rfl⟩
  .have kU:¬((c::r).head? =some 45):=λe=>SH (some.inj e);rw[if_neg kU]at h⊢;have RU:c.toNat≠45:=λe=>SH (UInt8.toNat_inj.1 (by rw[show(45:UInt8).toNat=45 from rfl];exact e));have y6:(2:Nat)^(64-1)=9223372036854775808:=by decide
   by_cases aaz:c.toNat=43
   .simp only[Lib.parseIntB,aaz,true_or,if_true];have aaA:r.length<=18:=by simp at h;omega
    rw[SF r aaA];have nx:oP 0 (c::r)=(0,false):=SG λbD=>by
     have:=bD.2;simp only[List.all_cons,Bool.and_eq_true]at this;have:=this.1;simp only[gr,Bool.and_eq_true,decide_eq_true_eq]at this;omega
    rw[nx];by_cases aT:r≠[]/\r.all gr=true
    .rw[if_pos aT];have er:=SE r aT.2 aaA;simp only[show¬((43:Nat)=45)from by decide,not_false_eq_true,true_and,false_and,if_false,y6];rw[if_neg (by omega)];refine⟨by simp,?_⟩;simp only;rw[if_neg];intro ai;unfold Lib.itoa at ai;rw[if_neg (by omega),Int.toNat_natCast]at ai;obtain⟨Ih,Ou,hn,gE,_⟩:=SD (kt r);rw[hn]at ai;injection ai with ai _;rw[ai]at gE;simp only[gr,Bool.and_eq_true,decide_eq_true_eq]at gE;omega
    .rw[if_neg aT];exact⟨by simp[Hx,Lib.parseUintB],rfl⟩
   .simp only[Lib.parseIntB,aaz,RU,_root_.or_self,if_false];rw[SF (c::r) h];by_cases aT:(c::r)≠[]/\(c::r).all gr=true
    .rw[if_pos aT];have er:=SE (c::r) aT.2 h;simp only[not_false_eq_true,true_and,false_and,if_false,y6];rw[if_neg (by omega)];refine⟨by simp,?_⟩;simp only;have Hy:=aaw c r aT.2;have as9:Lib.itoa (kt (c::r):Int)=Lib.decDigits (kt (c::r)):=by
      unfold Lib.itoa;rw[if_neg (by omega),Int.toNat_natCast]
     rw[as9];by_cases Hz:c≠48\/r=[]
     .rw[if_pos (Hy.2 Hz),aay ⟨by simp,h,aT.2,λbD=>by
       rcases Hz with ad|ad
       .exact ad (some.inj bD.1)
       .subst ad;simp at bD⟩]
      simp
     .have mA:c=48:=by
       by_cases q:c=48
       .exact q
       .exact(Hz (.inl q)).elim
      have dV:r≠[]:=λq=>Hz (.inr q);rw[if_neg (λbD=>Hz (Hy.1 bD)),aax (by rw[mA];rfl) (by
       cases r with
       |nil=>exact(dV rfl).elim
       |cons x t=>simp)]
    .rw[if_neg aT,SG aT];exact⟨by simp[Hx,Lib.parseUintB],rfl⟩
end Go.l_
