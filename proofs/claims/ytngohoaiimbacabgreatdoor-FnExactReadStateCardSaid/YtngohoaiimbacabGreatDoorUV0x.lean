/- Part of a proof that a law returns true for every input. No condition. -/
import Derived.Test.YtngohoaiimbacabGreatDoorFwA
import Derived.IntWalk
import Derived.Test.YtngohoaiimbacabGreatDoorP3
import Derived.Lib.ParseIntB
import Derived.Lib.ItoaNum
namespace Go.lV
open Option Nat Or
open Go Go.c_
theorem eb (n:Int) (h: -9223372036854775808<=n/\n<=9223372036854775807):IntKind.i64.wrap n=n:=IntWalk.i64_in n h
theorem l3 {α:Type} (a:List α) (i:Nat) (d:α) (h:i<a.length):bh a (i:Int)=some (a.getD i d):=by
 rw[I0 (by omega) (by simpa using h)];simp[List.getD,h]
theorem fe {α:Type} (a:List α) (i:Nat) (h:i<a.length):bh a (i:Int)=some a[i]:=by
 rw[I0 (by omega) (by simpa using h)];rfl
theorem CA {α:Type} (a:List α) (n:Nat) (h:n<=a.length):gR a 0 (n:Int)=some (a.take n):=by
 unfold gR;rw[if_pos (by omega)];simp
theorem e1 (i n:Nat) (h:i<n) (aU:n<=4611686018427387904):IntKind.i64.wrap ((i:Int)+1)=((i+1:Nat):Int):=by
 rw[eb _ (by omega)];omega
theorem e4 {i n:Nat} (h:i<n):decide ((i:Int)<(n:Int))=true:=by simp;omega
theorem ez {i n:Nat} (h:n<=i):decide ((i:Int)<(n:Int))=false:=by simp;omega
theorem CB {α:Type} (c:α) (r:List α):bh (c::r) 0=some c:=rfl
theorem tM {n:Nat} (h:0<n):decide ((0:Int)<(n:Int))=true:=by simp;omega
theorem ac7:IntKind.i64.wrap (0+1)=1:=by decide
theorem down (n:Nat) {P:Nat->Prop} (aV:P n) (U:∀i,i<n->P (i+1)->P i):∀i,i<=n->P i:=by
 have key:∀d,d<=n->P (n-d):=by
  intro d;induction d with
  |zero=>intro _;exact aV
  |succ d ih=>
   intro ae;have:=ih (by omega);refine U _ (by omega) ?_;rw[show n-(d+1)+1=n-d by omega];exact this
 intro i ak;have:=key (n-i) (by omega)
 rwa [show n-(n-i)=i by omega]at this
theorem up {β:Type} {l:Nat->Int->Option β} {n:Nat} (F:Nat->Option β) (aV:∀m,l (m+1) (n:Int)=F n)
  (U:∀i,i<n->∀m,(l m ((i+1:Nat):Int)=F (i+1))->l (m+1) (i:Int)=F i):∀i,i<=n->∀m,n-i<m->l m (i:Int)=F i:=by
 refine down n ?_ ?_
 .intro m hm;obtain⟨k,rfl⟩:∃k,m=k+1:=⟨m-1,by omega⟩
  exact aV k
 .intro i ak ih m hm;obtain⟨k,rfl⟩:∃k,m=k+1:=⟨m-1,by omega⟩
  exact U i ak k (ih k (by omega))
theorem tN {β:Type} {l:Nat->Int->Option β} {n:Nat} (F:Nat->Option β) (aV:∀m,l (m+1) (n:Int)=F n)
  (U:∀i,i<n->∀m,(l m ((i+1:Nat):Int)=F (i+1))->l (m+1) (i:Int)=F i):ca (λm=>l m 0)=F 0:=
 hi (n+1) λm hm=>up F aV U 0 (by omega) m (by omega)
theorem drop_cons {α:Type} (a:List α) (i:Nat) (h:i<a.length):a.drop i=a[i]::a.drop (i+1):=List.drop_eq_getElem_cons h
def hD (n:Int) (s:Nat):Int:=if(s:Int)<=n then n-s else-1
theorem CC {n:Int} {s:Nat} (h:(s:Int)<=n):hD n s=n-s:=if_pos h
theorem CD {n:Int} {s:Nat} (h:n<s):hD n s= -1:=if_neg (by omega)
theorem ac8 {n:Int} (h:0<=n):hD n 0=n:=by rw[CC (by simpa using h)];simp
theorem qO {f:ahy} {k:Int->ahy} {n:Int} {s t:Nat} (bd:f=some (hD n s)) (aq:(s:Int)<=n->k (n-s)=some (hD (n-s) t)):
  (f.bind λx=>cond (decide (x<0)) (some (-1)) (k x))=some (hD n (s+t)):=by
 rw[bd];simp only[bind_some];by_cases h:(s:Int)<=n
 .rw[CC h];have:decide (n-(s:Int)<0)=false:=by simp;omega
  rw[this,cond_false,aq h];congr 1;unfold hD;by_cases ad:(t:Int)<=n-s
  .rw[if_pos ad,if_pos (by omega)];omega
  .rw[if_neg ad,if_neg (by omega)]
 .rw[CD (by omega)];have:decide ((-1:Int)<0)=true:=by decide
  rw[this,cond_true,CD (by omega)]
theorem mK {K:ahy} {n:Int} {s t:Nat} (U:s<=9223372036854775807) (aV:0<=n) (aU:n<=1048576) (aq:(s:Int)<=n->K=some (hD (n-s) t)):
  cond (decide (IntKind.i64.wrap (n-(s:Int))<0)) (some (-1)) K=some (hD n (s+t)):=by
 rw[eb _ (by omega)];by_cases h:(s:Int)<=n
 .have:decide (n-(s:Int)<0)=false:=by simp;omega
  rw[this,cond_false,aq h];congr 1;unfold hD;by_cases ad:(t:Int)<=n-s
  .rw[if_pos ad,if_pos (by omega)];omega
  .rw[if_neg ad,if_neg (by omega)]
 .have:decide (n-(s:Int)<0)=true:=by simp;omega
  rw[this,cond_true,CD (by omega)]
theorem r4 {n:Int} (h:0<=n):some n=some (hD n 0):=by rw[ac8 h]
def gf {α:Type} (f:α->Nat):List α->Nat
 |[]=>0
 |x::r=>f x+gf f r
theorem OD {α:Type} {f:α->Nat}:∀{l:List α} {x:α},x∈l->f x<=gf f l
 |y::r,x,h=>by
  simp only[gf];rcases List.mem_cons.1 h with rfl|h
  .omega
  .have:=OD (f:=f) h;omega
theorem OE {α β:Type} {f:β->Nat} {g:α->β}:∀l:List α,gf f (l.map g)=gf (λx=>f (g x)) l
 |[]=>rfl
 |x::r=>by simp only[List.map_cons,gf,OE r]
def c8 {α:Type} (f:α->Nat) (l:List α):Nat:=l.length+gf f l
theorem y9 {α β:Type} (f:β->Nat) (g:α->β) (l:List α):c8 f (l.map g)=c8 (λx=>f (g x)) l:=by simp only[c8,List.length_map,OE]
theorem ij {α:Type} (f:α->Nat) (l:List α):l.length<=c8 f l:=le_add_right _ _
theorem k8 {α:Type} {f:α->Nat} {l:List α} {x:α} (h:x∈l):f x<=c8 f l:=Nat.le_trans (OD h) (le_add_left _ _)
theorem OG {α:Type} {l:Nat->Int->Int->ahy} {B:α->Int->(Int->ahy)->ahy} (sz:α->Nat) (a:List α)
  (mm:∀m n i,l (m+1) n i=cond (decide (i<(a.length:Int))) ((bh a i).bind λx=>B x n λy=>l m y (IntKind.i64.wrap (i+1))) (some n))
  (bd:∀x∈a,∀(n:Int) (k:Int->ahy) (t:Nat),0<=n->n<=1048576->((sz x:Int)<=n->k (n-sz x)=some (hD (n-sz x) t))->B x n k=some (hD n (sz x+t)))
  (bM:a.length<=1048576) (n:Int) (aV:0<=n) (aU:n<=1048576):ca (λm=>l m n 0)=some (hD n (gf sz a)):=by
 have key:∀i,i<=a.length->∀n:Int,0<=n->n<=1048576->∀m,a.length-i<m->l m n (i:Int)=some (hD n (gf sz (a.drop i))):=by
  refine down a.length ?_ ?_
  .intro n aV _ m hm;obtain⟨k,rfl⟩:∃k,m=k+1:=⟨m-1,by omega⟩
   rw[mm,ez (Nat.le_refl _),cond_false,List.drop_of_length_le (Nat.le_refl _)];exact r4 aV
  .intro i ak ih n aV aU m hm;obtain⟨k,rfl⟩:∃k,m=k+1:=⟨m-1,by omega⟩
   rw[mm,e4 ak,cond_true,fe _ i ak,e1 i _ ak (by omega),drop_cons a i ak];simp only[bind_some,gf];exact bd _ (List.getElem_mem ak) n _ _ aV aU λh=>ih _ (by omega) (by omega) k (by omega)
 refine hi (a.length+1) λm hm=>?_;have:=key 0 (by omega) n aV aU m (by omega);simpa using this
theorem y_ {α:Type} {l:Nat->Int->Int->ahy} {f:α->Int->ahy} (sz:α->Nat) (a:List α)
  (mm:∀m n i,l (m+1) n i=cond (decide (i<(a.length:Int))) ((bh a i).bind λx=>(f x n).bind λy=>cond (decide (y<0)) (some (-1)) (l m y (IntKind.i64.wrap (i+1)))) (some n))
  (bd:∀x∈a,∀n:Int,0<=n->n<=1048576->f x n=some (hD n (sz x))) (bM:a.length<=1048576) (n:Int) (aV:0<=n) (aU:n<=1048576):ca (λm=>l m n 0)=some (hD n (gf sz a)):=
 OG (B:=λx n k=>(f x n).bind λy=>cond (decide (y<0)) (some (-1)) (k y)) sz a mm (λx ar n _ _ aV aU aq=>qO (bd x ar n aV aU) aq) bM n aV aU
theorem ac9 {l:Nat->Int->Int->ahy} (a:nq)
  (mm:∀m n i,l (m+1) n i=cond (decide (i<(a.length:Int))) ((bh a i).bind λx=>cond (decide (IntKind.i64.wrap (n-(x.length:Int))<0)) (some (-1)) (l m (IntKind.i64.wrap (n-(x.length:Int))) (IntKind.i64.wrap (i+1)))) (some n))
  (bd:∀x∈a,x.length<=9223372036854775807) (bM:a.length<=1048576) (n:Int) (aV:0<=n) (aU:n<=1048576):ca (λm=>l m n 0)=some (hD n (gf List.length a)):=
 OG (B:=λx n k=>cond (decide (IntKind.i64.wrap (n-(x.length:Int))<0)) (some (-1)) (k (IntKind.i64.wrap (n-(x.length:Int))))) List.length a (by intro m n i;rw[mm]) (by
  intro x ar n k t aV aU aq;have hl:=bd x ar;refine mK hl aV aU λh=>?_;have e:IntKind.i64.wrap (n-(x.length:Int))=n-(x.length:Int):=eb _ (by omega);rw[e];exact aq h) bM n aV aU
theorem r5 {α β:Type} {l:Nat->List β->Int->Option (List β)} {f:α->Option β} (g:α->β) (a:List α) (z:β)
  (mm:∀m v i,l (m+1) v i=cond (decide (i<(a.length:Int))) ((bh a i).bind λx=>(f x).bind λy=>(bh v i).bind λ_=>l m (List.set v (Int.toNat i) y) (IntKind.i64.wrap (i+1))) (some v))
  (bd:∀x∈a,f x=some (g x)) (bM:a.length<=1048576):ca (λm=>l m (List.replicate (Int.toNat (a.length:Int)) z) 0)=some (a.map g):=by
 have key:∀i,i<=a.length->∀(v:List β) m,v.length=a.length->a.length-i<m->l m v (i:Int)=some (v.take i++(a.drop i).map g):=by
  refine down a.length ?_ ?_
  .intro v m aI hm;obtain⟨k,rfl⟩:∃k,m=k+1:=⟨m-1,by omega⟩
   rw[mm,ez (Nat.le_refl _)];simp[<-aI]
  .intro i ak ih v m aI hm;obtain⟨k,rfl⟩:∃k,m=k+1:=⟨m-1,by omega⟩
   rw[mm,e4 ak,fe _ i ak,e1 i _ ak (by omega)];simp only[cond_true,bind_some,bd _ (List.getElem_mem ak)];rw[fe v i (by omega)];simp only[bind_some,Int.toNat_natCast];rw[ih _ k (by simp[aI]) (by omega),drop_cons a i ak,List.map_cons,List.take_set,List.take_succ_eq_append_getElem (by omega),List.set_append_right _ _ (by simp;omega)];simp[show min i v.length=i by omega]
 refine hi (a.length+1) λm hm=>?_;have:=key 0 (by omega) (List.replicate (Int.toNat (a.length:Int)) z) m (by simp) (by omega);simpa using this
theorem pV (b:Nat) {n:Nat} (h:n<=1048576) (R:b<=4096):la b (n:Int)=some ():=by
 have ab:b*n<=4096*1048576:=Nat.mul_le_mul R h;have ad:((b:Int)*(n:Int))=((b*n:Nat):Int):=by simp
 unfold la;rw[if_pos ⟨by omega,by rw[ad];omega,by omega⟩]
theorem tO {α:Type} {l:Nat->Int->ahx} {f:α->α->ahx} (a:List α)
  (mm:∀m i,l (m+1) i=cond (decide (i<(a.length:Int))) ((bh a i).bind λx=>(bh a i).bind λy=>(f x y).bind λz=>cond (!z) (some false) (l m (IntKind.i64.wrap (i+1)))) (some true))
  (bd:∀x∈a,f x x=some true) (bM:a.length<=1048576):ca (λm=>l m 0)=some true:=by
 rw[tN (n:=a.length) (λ_=>some true)]
 .intro m;rw[mm,ez (Nat.le_refl _)];rfl
 .intro i ak m ih;rw[mm,e4 ak,fe _ i ak,e1 i _ ak (by omega),ih];simp only[cond_true,bind_some,bd _ (List.getElem_mem ak),Bool.not_true,cond_false]
theorem OH {α:Type} {d:α->α->Bool} {l:Nat->Int->ahx} (a:List α)
  (mm:∀m i,l (m+1) i=cond (decide (i<(a.length:Int))) ((bh a i).bind λx=>(bh a i).bind λy=>cond (d x y) (some false) (l m (IntKind.i64.wrap (i+1)))) (some true))
  (ae:∀x,d x x=false) (bM:a.length<=1048576):ca (λm=>l m 0)=some true:=by
 rw[tN (n:=a.length) (λ_=>some true)]
 .intro m;rw[mm,ez (Nat.le_refl _)];rfl
 .intro i ak m ih;rw[mm,e4 ak,fe _ i ak,e1 i _ ak (by omega),ih];simp only[cond_true,bind_some,ae,cond_false]
theorem r6 (x:Int):(x !=x)=false:=by simp
theorem r7 (x:aht):(!(x==x))=false:=by simp
theorem tP (x:Bool):(!(x==x))=false:=by simp
theorem qP (n:Nat):((n:Int) !=(n:Int))=false:=by simp
def eY (p:Nat->Bool) (n:Nat):Bool:=(List.range n).all p
theorem nk {p:Nat->Bool} {n:Nat}:eY p n=true↔∀i,i<n->p i=true:=by simp[eY]
theorem CE {l:Nat->Int->ahx} {n:Nat} (p:Nat->Bool) (aV:∀m,l (m+1) (n:Int)=some true)
  (U:∀i,i<n->∀m,l (m+1) (i:Int)=cond (p i) (l m ((i+1:Nat):Int)) (some false)):ca (λm=>l m 0)=some (eY p n):=by
 rw[tN (n:=n) (λi=>some ((List.range' i (n-i)).all p))]
 .simp[eY,List.range_eq_range']
 .intro m;rw[aV];simp
 .intro i ak m ih;rw[U i ak,ih,show n-i=(n-(i+1))+1 by omega,List.range'_succ];cases an:p i<;>simp[an]
def ik (p:Nat->Bool):Nat->Nat->Int
 |_,0=> -1
 |i,k+1=>if p i=true then(i:Int)else ik p (i+1) k
theorem Il {p:Nat->Bool}:∀(k i:Nat),(∀j,i<=j->j<i+k->p j=false)->ik p i k= -1
 |0,_,_=>rfl
 |k+1,i,h=>by
  simp only[ik,h i (Nat.le_refl _) (by omega)];exact Il k (i+1) λj ab ad=>h j (by omega) (by omega)
theorem OI {p:Nat->Bool}:∀(k i j:Nat),i<=j->j<i+k->p j=true->0<=ik p i k
 |0,i,j,ab,ad,_=>by omega
 |k+1,i,j,ab,ad,aC=>by
  simp only[ik];split
  .omega
  .rename_i h;refine OI k (i+1) j ?_ (by omega) aC;rcases Nat.lt_or_ge i j with h|h
   .exact h
   .have:i=j:=by omega
    subst this;exact absurd aC (by assumption)
theorem qQ (p:Nat->Bool) (n:Nat):decide (0<=ik p 0 n)= !(eY (λi=> !p i) n):=by
 by_cases h:∃j,j<n/\p j=true
 .obtain⟨j,ab,ad⟩:=h;have aC:=OI n 0 j (zero_le _) (by omega) ad;have aW:eY (λi=> !p i) n=false:=by
   rw[Bool.eq_false_iff];intro gy;have:=nk.1 gy j ab;simp[ad]at this
  rw[aW];simpa using aC
 .have aC:∀j,j<n->p j=false:=λj bQ=>by
   cases an:p j
   .rfl
   .exact absurd ⟨j,bQ,an⟩ h
  rw[Il n 0 λj _ ad=>aC j (by omega)];have aW:eY (λi=> !p i) n=true:=nk.2 λi ak=>by simp[aC i ak]
  rw[aW];rfl
theorem pW {l:Nat->Int->ahy} {n:Nat} (p:Nat->Bool) (aV:∀m,l (m+1) (n:Int)=some (-1))
  (U:∀i,i<n->∀m,l (m+1) (i:Int)=cond (p i) (some (i:Int)) (l m ((i+1:Nat):Int))):ca (λm=>l m 0)=some (ik p 0 n):=by
 rw[tN (n:=n) (λi=>some (ik p i (n-i)))]
 .simp
 .intro m;rw[aV];simp[ik]
 .intro i ak m ih;rw[U i ak,ih,show n-i=(n-(i+1))+1 by omega];cases an:p i<;>simp[an,ik]
theorem za (i:Nat) (h:0<i) (aU:i<=4611686018427387904):IntKind.i64.wrap ((i:Int)-1)=((i-1:Nat):Int):=by
 rw[eb _ (by omega)];omega
theorem tQ:decide ((0:Int)<((0:Nat):Int))=false:=by decide
theorem Im {i:Nat} (h:i≠0):decide ((0:Int)<(i:Int))=true:=by simp;omega
theorem ac_ {α:Type} (a b c:List α) {i j:Int} (ak:i=(a.length:Int)) (bQ:j=((a.length+b.length:Nat):Int)):gR (a++(b++c)) i j=some b:=by
 unfold gR;have aP:i.toNat=a.length:=by omega
 have aT:j.toNat=a.length+b.length:=by omega
 rw[if_pos (by simp only[List.length_append];omega),aP,aT,<-List.append_assoc,List.take_left' (by simp),List.drop_left' rfl]
theorem tR {b n:Nat} (h:n*b<=140737488355328) (ad:n<=9223372036854775807):room b n=some ():=by unfold room;rw[if_pos ⟨h,ad⟩]
theorem oR {α:Type} (d:List α) (x:α) (r:List α):bh (d++x::r) (d.length:Int)=some x:=by
 rw[fe _ _ (by simp)];simp
theorem qR {α:Type} (d:List α) (x y:α) (r:List α):List.set (d++x::r) (Int.toNat (d.length:Int)) y=d++y::r:=by
 simp
theorem Io {k:Int} (h:0<=k):decide (k<0)=false:=by simp;omega
theorem oS {α:Type} (d:List α) (x:α) (r:List α):decide ((d.length:Int)<((d++x::r).length:Int))=true:=by simp;omega
theorem oT {α:Type} {d:List α} (h:d.length<=1099511627776):IntKind.i64.wrap ((d.length:Int)+1)=((d.length+1:Nat):Int):=by rw[eb _ (by omega)];omega
theorem r8 {α:Type} (f:α->Nat):∀a:List α,gf (λx=>64*(f x+1)) a=64*c8 f a
 |[]=>rfl
 |x::r=>by
  have:=r8 f r;unfold c8 at this⊢;simp only[gf,List.length_cons];omega
theorem Ip {α:Type} (n:Nat):∀a:List α,gf (λ_=>n) a=n*a.length
 |[]=>rfl
 |x::r=>by simp only[gf,Ip n r,List.length_cons,Nat.mul_add];omega
theorem tS {α:Type} {l:Nat->List α->Int->Int->Option (Int×List α)} (w:α->Nat) (aV:∀m (v:List α) k,l (m+1) v k (v.length:Int)=some (k,v))
  (U:∀x (k:Int),0<=k->k+w x<=1099511627776->∃cf c,c<=w x/\∀m (d r:List α),d.length<=1099511627776->l (m+1) (d++x::r) k (d.length:Int)=l m (d++cf::r) (k+(c:Nat)) ((d.length+1:Nat):Int))
  (a:List α) (k:Int) (aq:0<=k) (hl:a.length<=1099511627776) (R:k+gf w a<=1099511627776):∃cB c,c<=gf w a/\ca (λn=>l n a k 0)=some (k+(c:Nat),cB):=by
 have key:∀(r:List α) (k:Int),0<=k->k+gf w r<=1099511627776->∃gn c,c<=gf w r/\∀(d:List α) (m:Nat),d.length+r.length<=1099511627776->r.length<m->l m (d++r) k (d.length:Int)=some (k+(c:Nat),d++gn):=by
  intro r;induction r with
  |nil=>
   intro k _ _;refine⟨[],0,Nat.le_refl _,λd m _ hm=>?_⟩;obtain⟨m,rfl⟩:∃j,m=j+1:=⟨m-1,by omega⟩
   rw[List.append_nil,aV];simp
  |cons x r ih=>
   intro k ab ad;simp only[gf]at ad;obtain⟨cf,c,b2,c2⟩:=U x k ab (by omega);obtain⟨gn,rh,aP,aT⟩:=ih (k+c) (by omega) (by omega);refine⟨cf::gn,c+rh,by simp only[gf];omega,λd m ae hm=>?_⟩;simp only[List.length_cons]at ae hm;obtain⟨m,rfl⟩:∃j,m=j+1:=⟨m-1,by omega⟩
   rw[c2 m d r (by omega)];have:=aT (d++[cf]) m (by simp only[List.length_append,List.length_cons,List.length_nil];omega) (by omega);simp only[List.length_append,List.length_cons,List.length_nil,List.append_assoc,List.cons_append,List.nil_append,Nat.zero_add]at this;rw[this];simp only[some.injEq,Prod.mk.injEq,and_true];omega
 obtain⟨cB,c,aP,aT⟩:=key a k aq R;refine⟨cB,c,aP,hi (a.length+1) λm hm=>?_⟩;have:=aT [] m (by simpa using hl) (by omega);simpa using this
theorem OJ {α:Type} {l:Nat->List α->Int->Int->Option (Int×List α)} {hl:List α->Nat->Int->Int->ahy} (w:α->Nat) (aV:∀m (v:List α) k,l (m+1) v k (v.length:Int)=some (k,v))
  (g0:∀(a:List α) m k,hl a (m+1) k (a.length:Int)=some k)
  (U:∀x (k:Int),0<=k->k+w x<=1099511627776->∃cf c,c<=w x/\∀m (d r:List α),d.length<=1099511627776->l (m+1) (d++x::r) k (d.length:Int)=l m (d++cf::r) (k+(c:Nat)) ((d.length+1:Nat):Int)/\
   hl (d++cf::r) (m+1) k (d.length:Int)=hl (d++cf::r) m (k+(c:Nat)) ((d.length+1:Nat):Int))
  (a:List α) (k:Int) (aq:0<=k) (vR:a.length<=1099511627776) (R:k+gf w a<=1099511627776):∃cB c,c<=gf w a/\ca (λn=>l n a k 0)=some (k+(c:Nat),cB)/\ca (λn=>hl cB n k 0)=some (k+(c:Nat)):=by
 have key:∀(r:List α) (k:Int),0<=k->k+gf w r<=1099511627776->∃gn c,c<=gf w r/\gn.length=r.length/\∀(d:List α) (m:Nat),d.length+r.length<=1099511627776->r.length<m->l m (d++r) k (d.length:Int)=some (k+(c:Nat),d++gn)/\
   hl (d++gn) m k (d.length:Int)=some (k+(c:Nat)):=by
  intro r;induction r with
  |nil=>
   intro k _ _;refine⟨[],0,Nat.le_refl _,rfl,λd m _ hm=>?_⟩;obtain⟨m,rfl⟩:∃j,m=j+1:=⟨m-1,by omega⟩
   rw[List.append_nil,aV,g0];simp
  |cons x r ih=>
   intro k ab ad;simp only[gf]at ad;obtain⟨cf,c,b2,c2⟩:=U x k ab (by omega);obtain⟨gn,rh,aP,aR,aT⟩:=ih (k+c) (by omega) (by omega);refine⟨cf::gn,c+rh,by simp only[gf];omega,by simp only[List.length_cons,aR],λd m ae hm=>?_⟩;simp only[List.length_cons]at ae hm;obtain⟨m,rfl⟩:∃j,m=j+1:=⟨m-1,by omega⟩
   rw[(c2 m d r (by omega)).1,(c2 m d gn (by omega)).2];have:=aT (d++[cf]) m (by simp only[List.length_append,List.length_cons,List.length_nil];omega) (by omega);simp only[List.length_append,List.length_cons,List.length_nil,List.append_assoc,List.cons_append,List.nil_append,Nat.zero_add]at this;rw[this.1,this.2];simp only[some.injEq,Prod.mk.injEq,and_true];exact⟨by omega,by omega⟩
 obtain⟨cB,c,aP,aR,aT⟩:=key a k aq R;refine⟨cB,c,aP,hi (a.length+1) λm hm=>?_,hi (a.length+1) λm hm=>?_⟩
 .have:=(aT [] m (by simpa using vR) (by omega)).1;simpa using this
 .have:=(aT [] m (by simpa using vR) (by omega)).2;simpa using this
def glue (p:aht):nq->nq
 |[]=>[p]
 |h::t=>(p++h)::t
def ek (c:UInt8):aht->nq
 |[]=>[[]]
 |x::r=>if x=c then []::ek c r else glue [x] (ek c r)
theorem CF:∀{l:nq},l≠[]->glue [] l=l
 |[],h=>(h rfl).elim
 |_::_,_=>rfl
theorem OK (p q:aht):∀l:nq,glue p (glue q l)=glue (p++q) l
 |[]=>rfl
 |h::t=>by simp only[glue,List.append_assoc]
theorem pX (c:UInt8):∀s,ek c s≠[]
 |[]=>by simp[ek]
 |x::r=>by
  simp only[ek];split
  .simp
  .cases h:ek c r<;>simp[glue]
theorem zb (c:UInt8):∀s,(ek c s).length=s.count c+1
 |[]=>rfl
 |x::r=>by
  simp only[ek];split
  .rename_i h;subst h;simp only[List.length_cons,zb x r,List.count_cons_self]
  .rename_i h;have gy:(x==c)=false:=by simpa using h
   rw[List.count_cons,gy];cases e:ek c r with
   |nil=>exact(pX c r e).elim
   |cons a t=>have:=zb c r;rw[e]at this;simpa [glue]using this
theorem Iq (c:UInt8):∀s,c∉s->ek c s=[s]
 |[],_=>rfl
 |x::r,h=>by
  simp only[List.mem_cons,not_or]at h;simp only[ek];rw[if_neg (λe=>h.1 e.symm),Iq c r h.2];rfl
theorem Ir (c:UInt8):∀p q,c∉p->ek c (p++c::q)=p::ek c q
 |[],q,_=>by simp[ek]
 |x::r,q,h=>by
  simp only[List.mem_cons,not_or]at h;simp only[List.cons_append,ek];rw[if_neg (λe=>h.1 e.symm),Ir c r q h.2];rfl
theorem ada (s x:aht):∀l:nq,l≠[]->h8 (glue x l) s=x++h8 l s
 |[],h=>(h rfl).elim
 |[y],_=>by simp[glue,h8,List.intercalate,List.intersperse]
 |y::z::r,_=>by simp[glue,h8,List.intercalate,List.intersperse]
theorem CG (c:UInt8):∀s,h8 (ek c s) [c]=s
 |[]=>by simp[ek,h8,List.intercalate,List.intersperse]
 |x::r=>by
  simp only[ek];have ih:=CG c r;split
  .rename_i h;subst h;cases e:ek x r with
   |nil=>exact(pX x r e).elim
   |cons a t=>
    rw[e]at ih;have:h8 ([]::a::t) [x]=x::h8 (a::t) [x]:=by simp[h8,List.intercalate,List.intersperse]
    rw[this,ih]
  .rw[ada _ _ _ (pX c r),ih];rfl
theorem OL (c:UInt8):∀p q,c∉p->qA (p++c::q) c=(p.length:Int)
 |[],q,_=>by simp[qA]
 |x::r,q,h=>by
  simp only[List.mem_cons,not_or]at h;have gy:(x==c)=false:=by simpa using λe=>h.1 e.symm
  have ih:=OL c r q h.2;simp only[List.cons_append,qA,gy,ih];have:((r.length:Int)== -1)=false:=by simp
  rw[this];simp
theorem OM {c:UInt8}:∀{s:aht},c∈s->∃p q,s=p++c::q/\c∉p
 |x::r,h=>by
  by_cases e:x=c
  .subst e;exact⟨[],r,rfl,by simp⟩
  .have bc:c∈r:=by
    rcases List.mem_cons.1 h with h|h
    .exact(e h.symm).elim
    .exact h
   obtain⟨p,q,rfl,an⟩:=OM bc;exact⟨x::p,q,rfl,by simp only[List.mem_cons,not_or];exact⟨λh=>e h.symm,an⟩⟩
theorem adb (s:aht) (c:UInt8) (U:1<=s.length\/True):tq s [c]=some (if s=[c]then 0 else qA s c):=by
 unfold tq Gu Gt;by_cases h:s=[c]
 .subst h;simp
 .have e:([c]==s)=false:=by simpa using λbc=>h bc.symm
  rw[if_neg h,e];rfl
theorem ade (p q:aht) {c:UInt8} (h:c∉p):tq (p++c::q) [c]=some (p.length:Int):=by
 rw[adb _ c (.inr trivial),OL c p q h];split
 .rename_i e;cases p with
  |nil=>rfl
  |cons x r=>have:=congrArg List.length e;simp at this
 .rfl
theorem adf (s t:aht):yq s t=tq s t:=by
 unfold yq;cases tq s t<;>rfl
theorem ON {α:Type} (a:List α) (x y:α) (b:List α):(a++x::b).set a.length y=a++y::b:=by
 rw[List.set_append_right _ _ (Nat.le_refl _),Nat.sub_self,List.set_cons_zero]
theorem OO {α:Type} (a:List α) (x:α) (b:List α):bh (a++x::b) (a.length:Int)=some x:=by
 rw[fe _ _ (by simp)];simp
theorem adg {α:Type} (a:List α) (x:α) (b:List α):gR (a++x::b) 0 ((a.length+1:Nat):Int)=some (a++[x]):=by
 rw[CA _ _ (by simp)];congr 1;rw[show a++x::b=(a++[x])++b by simp,List.take_left' (by simp)]
theorem adh (c:UInt8) (s:aht) (U:s.length<=1048576) (N:Nat) (ahp:N=s.count c+1):
  ∀(k:Nat) (r:aht) (d:nq),r.count c=k->d.length+k+1=N->r.length<=s.length->∀m,k<m->
   ts s [c] 0 (N:Int) m r (d++List.replicate (k+1) []) (d.length:Int)=some (d++ek c r):=by
 have ai:s.count c<=s.length:=List.count_le_length;have OP:iy false (N:Int) (IntKind.i64.wrap ((s.length:Int)+1))=(N:Int):=by
  rw[eb _ (by omega)];unfold iy;simp;omega
 have zc:∀(r:aht) (d:nq),d.length<N->c∉r->yr s [c] 0 (N:Int) r (d++List.replicate 1 []) (d.length:Int)=some (d++ek c r):=by
  intro r d ae aH;unfold yr;simp only[List.replicate_succ,List.replicate_zero];rw[OO,bind_some,Int.toNat_natCast,ON,eb _ (by omega),show((d.length:Int)+1)=((d.length+1:Nat):Int) by omega,adg,Iq c r aH];rfl
 intro k;induction k with
 |zero=>
  intro r d aH ae hl m hm;obtain⟨m,rfl⟩:∃j,m=j+1:=⟨m-1,by omega⟩
  simp only[ts,Gx];have e:decide ((d.length:Int)<IntKind.i64.wrap (iy false (N:Int) (IntKind.i64.wrap ((s.length:Int)+1))-1))=false:=by
   rw[OP,eb _ (by omega)];simp;omega
  rw[e,cond_false];exact zc r d (by omega) (List.count_eq_zero.1 aH)
 |succ k ih=>
  intro r d aH ae hl m hm;obtain⟨m,rfl⟩:∃j,m=j+1:=⟨m-1,by omega⟩
  obtain⟨p,q,rfl,an⟩:=OM (c:=c) (s:=r) (List.count_pos_iff.1 (by omega));simp only[ts,Gx];have e:decide ((d.length:Int)<IntKind.i64.wrap (iy false (N:Int) (IntKind.i64.wrap ((s.length:Int)+1))-1))=true:=by
   rw[OP,eb _ (by omega)];simp;omega
  simp only[List.length_append,List.length_cons]at hl;rw[e,cond_true,adf,ade p q an,bind_some];have aT:decide ((p.length:Int)<0)=false:=by simp
  rw[aT,cond_false,eb ((p.length:Int)+0) (by omega),Int.add_zero,CA _ _ (by simp)];have aR:gR (p++c::q) (IntKind.i64.wrap ((p.length:Int)+([c].length:Int))) ((p++c::q).length:Int)=some q:=by
   rw[eb _ (by simp;omega)];have:=ac_ (p++[c]) q [] (i:=((p.length:Int)+([c].length:Int))) (j:=(((p++c::q).length:Nat):Int)) (by simp) (by simp;omega);simpa using this
  rw[bind_some,List.take_left' rfl,show List.replicate (k+1+1) ([]:aht)=[]::List.replicate (k+1) []from rfl,OO,bind_some,aR,bind_some,Int.toNat_natCast,ON,eb ((d.length:Int)+1) (by omega)];have adi:q.count c=k:=by
   rw[List.count_append,List.count_cons_self,List.count_eq_zero.2 an]at aH;omega
  have:=ih q (d++[p]) adi (by simp;omega) (by omega) m (by omega);simp only[List.append_assoc,List.singleton_append,List.length_append,List.length_cons,List.length_nil]at this;rw[Ir c p q an,<-this];congr 1
theorem OQ (c:UInt8) (s:aht) (U:s.length<=1048576):ys s [c]=some (ek c s):=by
 have ai:s.count c<=s.length:=List.count_le_length;unfold ys Gy Gw Gs BC;have aP:((-1:Int)==0)=false:=by decide
 have aT:([c]==([]:aht))=false:=rfl;have aR:decide ((-1:Int)<0)=true:=by decide
 have b4:(([c].length:Int)==0)=false:=rfl;have cz:(([c].length:Int)==1)=true:=rfl;rw[aP,aT,aR,b4,cz];simp only[cond_false,cond_true,CB,bind_some];rw[eb ((s.count c:Int)+1) (by omega),eb ((s.length:Int)+1) (by omega)];have hm:iy false ((s.count c:Int)+1) ((s.length:Int)+1)=((s.count c+1:Nat):Int):=by
  unfold iy;simp;omega
 have aq:la 16 ((s.count c+1:Nat):Int)=some ():=by
  unfold la;rw[if_pos ⟨by omega,by omega,by omega⟩]
 have hl:ca (λn=>ts s [c] 0 ((s.count c:Int)+1) n s (List.replicate (s.count c+1) []) 0)=some (ek c s):=by
  refine hi (s.count c+1) λm hm=>?_;have:=adh c s U (s.count c+1) rfl (s.count c) s [] rfl (by simp) (Nat.le_refl _) m (by omega);simpa using this
 rw[hm,aq];simp only[bind_some,Int.toNat_natCast];rw[hl];rfl
theorem Is (c:UInt8) (s:aht) (U:s.length<=1048576):vd s c=some (ek c s):=by
 have key:∀i,i<=s.length->∀m,s.length-i<m->∀(v:nq) (f:Nat),f<=i->v.length<=i->
   ti s c m v (f:Int) (i:Int)=some (v++glue ((s.take i).drop f) (ek c (s.drop i))):=by
  refine down s.length ?_ ?_
  .intro m hm v f bd aI;obtain⟨m,rfl⟩:∃j,m=j+1:=⟨m-1,by omega⟩
   simp only[ti,FT];rw[ez (Nat.le_refl _),cond_false];have e:gR s (f:Int) (s.length:Int)=some (s.drop f):=by
    unfold gR;rw[if_pos ⟨by omega,by omega,by omega⟩];simp
   rw[e,bind_some,tR (by omega) (by omega),bind_some,List.take_length,List.drop_length];simp[ek,glue]
  .intro i ak ih m hm v f bd aI;obtain⟨m,rfl⟩:∃j,m=j+1:=⟨m-1,by omega⟩
   simp only[ti,FT,Ba];rw[e4 ak,cond_true,fe s i ak,bind_some,drop_cons s i ak];simp only[ek];by_cases ai:s[i]=c
   .have e:((s[i].toNat:Int)==(c.toNat:Int))=true:=by rw[ai];simp
    have aT:gR s (f:Int) (i:Int)=some ((s.take i).drop f):=by
     unfold gR;rw[if_pos ⟨by omega,by omega,by omega⟩];simp
    rw[e,cond_true,aT,bind_some,tR (by omega) (by omega),bind_some,if_pos ai,e1 i s.length ak (by omega),ih m (by omega) _ (i+1) (Nat.le_refl _) (by simp;omega)];rw[List.drop_of_length_le (l:=List.take (i+1) s) (by rw[List.length_take];omega),CF (pX _ _)];simp[glue]
   .have e:((s[i].toNat:Int)==(c.toNat:Int))=false:=by
     simp only[beq_eq_false_iff_ne,ne_eq];intro h;exact ai (UInt8.toNat_inj.1 (by omega))
    rw[e,cond_false,if_neg ai,e1 i s.length ak (by omega),ih m (by omega) _ f (by omega) (by omega),OK];congr 3;rw[List.take_succ_eq_append_getElem ak,List.drop_append_of_le_length (by simp;omega)]
 unfold vd;refine hi (s.length+1) λm hm=>?_;have:=key 0 (by omega) m (by omega) [] 0 (Nat.le_refl _) (zero_le _);simpa [CF (pX c s)]using this
theorem adj:∀d:Fin 10,IntKind.i64.wrap (IntKind.u8.wrap (((48+d.val:Nat):Int)-48))=((d.val:Nat):Int):=by decide
theorem u8_in:∀c:UInt8,fa c=true->IntKind.i64.wrap (IntKind.u8.wrap ((c.toNat:Int)-48))=((c.toNat-48:Nat):Int):=by
 intro c h;simp only[fa,Bool.and_eq_true,decide_eq_true_eq]at h;have:=adj ⟨c.toNat-48,by omega⟩;simp only at this
 rwa [show 48+(c.toNat-48)=c.toNat by omega]at this
theorem adk (c:UInt8):u1 c=some (fa c):=by
 unfold u1 fa;congr 2
 .rw[decide_eq_decide];omega
 .rw[decide_eq_decide];omega
def jz (n:Nat) (d:aht):Nat:=d.foldl (λn c=>10*n+(c.toNat-48)) n
theorem OR:∀(d:aht) (n k:Nat),d.all fa=true->n<10^k->jz n d<10^(k+d.length)
 |[],n,k,_,h=>by simpa [jz]using h
 |c::r,n,k,ae,h=>by
  simp only[List.all_cons,Bool.and_eq_true]at ae;have ai:=ae.1;simp only[fa,Bool.and_eq_true,decide_eq_true_eq]at ai;have:=OR r (10*n+(c.toNat-48)) (k+1) ae.2 (by rw[Nat.pow_succ];omega);rw[List.length_cons,show k+(r.length+1)=k+1+r.length by omega];exact this
theorem OS (s:aht) (a:Int) (U:s.length<=1048576):∀(d:aht) (i n k:Nat),s.drop i=d->i<=s.length->n<10^k->k+d.length<=18->∀m,d.length<m->
  qx s a m (n:Int) (i:Int)=some (if d.all fa=true then(if a=1 then-(jz n d:Int)else jz n d,true)else(0,false))
 |[],i,n,k,ae,ak,aU,aq,m,hm=>by
  obtain⟨m,rfl⟩:∃j,m=j+1:=⟨m-1,by simp at hm;omega⟩
  have adl:i=s.length:=by
   have:=congrArg List.length ae;rw[List.length_drop]at this;simp at this;omega
  subst adl;have rf:n<10^18:=Nat.lt_of_lt_of_le aU (Nat.pow_le_pow_right (by omega) (by simpa using aq));simp only[qx,FU,x6];rw[ez (Nat.le_refl _),cond_false];by_cases bM:a=1
  .subst bM;simp only[BEq.rfl,cond_true];rw[eb _ (by omega)];simp[jz]
  .have:(a==1)=false:=by simpa using bM
   rw[this,cond_false];simp[jz,bM]
 |c::r,i,n,k,ae,ak,aU,aq,m,hm=>by
  obtain⟨m,rfl⟩:∃j,m=j+1:=⟨m-1,by simp at hm;omega⟩
  have qS:i<s.length:=by
   have:=congrArg List.length ae;rw[List.length_drop]at this;simp at this;omega
  rw[drop_cons s i qS]at ae;injection ae with ab ad;simp only[List.length_cons]at aq hm;have rf:n<10^17:=Nat.lt_of_lt_of_le aU (Nat.pow_le_pow_right (by omega) (by omega));simp only[qx,FU];rw[e4 qS,cond_true,fe s i qS,bind_some,ab,adk,bind_some,List.all_cons];cases ai:fa c
  .simp
  .have r9:=ai;simp only[fa,Bool.and_eq_true,decide_eq_true_eq]at r9;simp only[Bool.not_true,cond_false,Bool.true_and];rw[u8_in c ai,eb (10*(n:Int)) (by omega),eb _ (by omega),e1 i s.length qS (by omega),show(10*(n:Int)+((c.toNat-48:Nat):Int))=((10*n+(c.toNat-48):Nat):Int) by omega];exact OS s a U r (i+1) (10*n+(c.toNat-48)) (k+1) ad qS (by rw[Nat.pow_succ];omega) (by omega) m (by omega)
theorem It (s:aht) (k:Nat) (U:s.length<=1048576) (aq:k<=1) (hl:k<=s.length):ve s (k:Int)=some (lZ k (s.drop k)):=by
 unfold ve lZ;by_cases aV:s.length=k
 .have e:((s.length:Int)==(k:Int))=true:=by simp;omega
  rw[e,cond_true,List.drop_of_length_le (by omega)];simp
 have e:((s.length:Int)==(k:Int))=false:=by simp;omega
 rw[e,cond_false,eb _ (by omega)];have OT:(s.drop k).length=s.length-k:=List.length_drop;have cO:s.drop k≠[]:=by
  intro h;rw[h]at OT;simp at OT;omega
 by_cases ab:18<s.length-k
 .have e:decide (18<(s.length:Int)-(k:Int))=true:=by simp;omega
  rw[e,cond_true,if_neg (by intro h;omega)]
 have e:decide (18<(s.length:Int)-(k:Int))=false:=by simp;omega
 have xu:k<s.length:=by omega
 rw[e,cond_false,fe s k xu,bind_some];have gy:(s.drop k).head? =some s[k]:=by rw[drop_cons s k xu];rfl
 have OU:ca (λn=>qx s (k:Int) n 0 (k:Int))=some (if(s.drop k).all fa=true then(if(k:Int)=1 then-(jz 0 (s.drop k):Int)else jz 0 (s.drop k),true)else(0,false)):=by
  refine hi (s.length+1) λm hm=>?_;exact OS s (k:Int) U (s.drop k) k 0 0 rfl hl (by omega) (by omega) m (by omega)
 have aI:ic (s.drop k)=jz 0 (s.drop k):=rfl;have uW:((k:Int)=1)=(k=1):=by apply propext;omega
 simp only[uW]at OU;rw[OU,gy,aI];by_cases j6:s[k]=48
 .have e:((s[k].toNat:Int)==48)=true:=by rw[j6];rfl
  rw[e,cond_true];by_cases ad:1<s.length
  .have e:decide ((1:Int)<(s.length:Int))=true:=by simp;omega
   rw[e,cond_true,if_neg (by intro h;exact h.2.2.2 ⟨by rw[j6],by omega⟩)]
  .have e:decide ((1:Int)<(s.length:Int))=false:=by simp;omega
   rw[e,cond_false];by_cases bM:(s.drop k).all fa=true
   .rw[if_pos bM,if_pos (show s.drop k≠[]/\(s.drop k).length<=18/\(s.drop k).all fa=true/\¬(some s[k]=some 48/\1<(s.drop k).length+k)from⟨cO,by omega,bM,by rintro⟨_,h⟩;omega⟩)]
   .rw[if_neg bM,if_neg (λh=>bM h.2.2.1)]
 .have e:((s[k].toNat:Int)==48)=false:=by
   simp only[beq_eq_false_iff_ne,ne_eq];intro h;exact j6 (UInt8.toNat_inj.1 (by rw[show(48:UInt8).toNat=48 from rfl];omega))
  rw[e,cond_false];by_cases bM:(s.drop k).all fa=true
  .rw[if_pos bM,if_pos (show s.drop k≠[]/\(s.drop k).length<=18/\(s.drop k).all fa=true/\¬(some s[k]=some 48/\1<(s.drop k).length+k)from⟨cO,by omega,bM,by rintro⟨h,_⟩;exact j6 (some.inj h)⟩)]
  .rw[if_neg bM,if_neg (λh=>bM h.2.2.1)]
theorem OV (s:aht) (U:s.length<=1048576):x7 s=some (fi s):=by
 unfold x7 fi;cases s with
 |nil=>exact It [] 0 (by simp) (by omega) (by simp)
 |cons c r=>
  rw[show decide ((0:Int)<(((c::r).length:Nat):Int))=true from tM (by simp),cond_true,CB,bind_some];by_cases h:c=45
  .subst h;have e:(((45:UInt8).toNat:Int)==45)=true:=rfl;rw[e,cond_true,if_pos (show(45::r).head? =some 45 from rfl)];exact It (45::r) 1 U (by omega) (by simp)
  .have e:((c.toNat:Int)==45)=false:=by
    simp only[beq_eq_false_iff_ne,ne_eq];intro bc;exact h (UInt8.toNat_inj.1 (by rw[show(45:UInt8).toNat=45 from rfl];omega))
   rw[e,cond_false,if_neg (by intro bc;exact h (some.inj bc))];exact It (c::r) 0 U (by omega) (by simp)
theorem zd:∀c:UInt8,fa c=true->UInt8.ofNat (48+(c.toNat-48))=c:=by
 intro c h;simp only[fa,Bool.and_eq_true,decide_eq_true_eq]at h;rw[show 48+(c.toNat-48)=c.toNat by omega];exact UInt8.ofNat_toNat
theorem OW {w:aht} {v:Int} (h:fi w=(v,true)) (aV:0<=v) (ab:v<=63):w=l5 v.toNat:=by
 unfold fi at h;split at h
 .rename_i gy;unfold lZ at h;split at h
  .rename_i ai;obtain⟨b2,c2,c3,c4⟩:=ai;exfalso;simp only[if_pos,Prod.mk.injEq,and_true]at h;cases hw:w.tail with
   |nil=>exact b2 hw
   |cons c r=>
    rw[hw]at c3 c4 h;simp only[List.all_cons,Bool.and_eq_true]at c3;have ai:=c3.1;simp only[fa,Bool.and_eq_true,decide_eq_true_eq]at ai;have j6:c≠48:=λe=>c4 ⟨by rw[e];rfl,by simp⟩;have EO:1<=c.toNat-48:=by
     rcases Nat.lt_or_ge 48 c.toNat with h|h
     .omega
     .exact(j6 (UInt8.toNat_inj.1 (by rw[show(48:UInt8).toNat=48 from rfl];omega))).elim
    have mono:∀(d:aht) (n:Nat),1<=n->1<=jz n d:=by
     intro d;induction d with
     |nil=>intro n h;exact h
     |cons x d ih=>intro n h;exact ih (10*n+(x.toNat-48)) (by omega)
    have:1<=ic (c::r):=mono r (10*0+(c.toNat-48)) (by omega);omega
  .cases h
 .unfold lZ at h;split at h
  .rename_i ai;obtain⟨b2,c2,c3,c4⟩:=ai;simp only[show(0:Nat)≠1 from by decide,if_false,Prod.mk.injEq,and_true]at h;subst h;have mono:∀(d:aht) (n:Nat),n<=jz n d:=by
    intro d;induction d with
    |nil=>intro n;exact Nat.le_refl _
    |cons x d ih=>intro n;exact Nat.le_trans (by omega) (ih (10*n+(x.toNat-48)))
   match w,b2,c3,c4 with
   |[a],_,c3,_=>
    simp only[List.all_cons,List.all_nil,Bool.and_true]at c3;have e:ic [a]=a.toNat-48:=by simp[ic]
    have ae:=zd a c3;simp only[fa,Bool.and_eq_true,decide_eq_true_eq]at c3;rw[e,Int.toNat_natCast,l5,if_pos (by omega),ae]
   |a::b::r,_,c3,c4=>
    simp only[List.all_cons,Bool.and_eq_true]at c3;have bM:=c3.1;have R:=c3.2.1;have adm:=zd a bM;have adn:=zd b R;simp only[fa,Bool.and_eq_true,decide_eq_true_eq]at bM R;have j6:a≠48:=λe=>c4 ⟨by rw[e];rfl,by simp⟩;have EO:1<=a.toNat-48:=by
     rcases Nat.lt_or_ge 48 a.toNat with h|h
     .omega
     .exact(j6 (UInt8.toNat_inj.1 (by rw[show(48:UInt8).toNat=48 from rfl];omega))).elim
    have e:ic (a::b::r)=jz (10*(10*0+(a.toNat-48))+(b.toNat-48)) r:=rfl;cases r with
    |nil=>
     have aT:ic [a,b]=10*(a.toNat-48)+(b.toNat-48):=by simp[ic]
     rw[aT,Int.toNat_natCast,l5,if_neg (by omega)];rw[show(10*(a.toNat-48)+(b.toNat-48))/10=a.toNat-48 by omega,show(10*(a.toNat-48)+(b.toNat-48))%10=b.toNat-48 by omega,adm,adn]
    |cons x r=>
     exfalso;have:=mono r (10*(10*(10*0+(a.toNat-48))+(b.toNat-48))+(x.toNat-48));have aR:ic (a::b::x::r)=jz (10*(10*(10*0+(a.toNat-48))+(b.toNat-48))+(x.toNat-48)) r:=rfl;omega
  .cases h
def ze:Lib.NumEnd Nat:=Lib.parseUintB 64 []
theorem OX:∀(d:aht) (n k:Nat),n<10^k->k+d.length<=18->Lib.parseUintM 18446744073709551615 n d=if d.all fa=true then .ok (jz n d)else ze
 |[],n,k,_,_=>by simp[Lib.parseUintM,jz]
 |c::r,n,k,aU,aq=>by
  simp only[List.length_cons]at aq;have rf:n<10^17:=Nat.lt_of_lt_of_le aU (Nat.pow_le_pow_right (by omega) (by omega));simp only[Lib.parseUintM];have ks:(c::r).all fa=(fa c&&r.all fa):=rfl;by_cases ai:fa c=true
  .have r9:=ai;simp only[fa,Bool.and_eq_true,decide_eq_true_eq]at r9;have Iu:(c::r).all fa=r.all fa:=by rw[ks,ai];rfl
   rw[if_pos r9,if_neg (by omega),if_neg (by omega),Iu,show n*10+(c.toNat-48)=10*n+(c.toNat-48) by omega,OX r _ (k+1) (by rw[Nat.pow_succ];omega) (by omega)];rfl
  .have r9:¬(48<=c.toNat/\c.toNat<=57):=λh=>ai (by simp only[fa,Bool.and_eq_true,decide_eq_true_eq];exact h);have ado:fa c=false:=by simpa using ai
   have Iu:(c::r).all fa=false:=by rw[ks,ado];rfl
   rw[if_neg r9,Iu];simp;rfl
theorem adp (n x:Nat) (aU:1<=n) (ar:x<=9):Lib.decDigits (10*n+x)=Lib.decDigits n++[UInt8.ofNat (48+x)]:=by
 rw[Lib.decDigits,dif_neg (by omega),show(10*n+x)/10=n by omega,show(10*n+x)%10=x by omega]
theorem OY:∀(d:aht) (n:Nat),1<=n->d.all fa=true->Lib.decDigits (jz n d)=Lib.decDigits n++d
 |[],n,_,_=>by simp[jz]
 |c::r,n,aU,ae=>by
  simp only[List.all_cons,Bool.and_eq_true]at ae;have ai:=ae.1;have e:=zd c ae.1;simp only[fa,Bool.and_eq_true,decide_eq_true_eq]at ai;show Lib.decDigits (jz (10*n+(c.toNat-48)) r)=_;rw[OY r _ (by omega) ae.2,adp n (c.toNat-48) aU (by omega),e];simp
theorem Iv (u:Nat):∃c t,Lib.decDigits u=c::t/\fa c=true/\(1<=u->c≠48):=by
 induction u using Nat.strongRecOn with
 |_ u ih=>
  rw[Lib.decDigits];by_cases h:u<10
  .rw[dif_pos h];refine⟨_,_,rfl,?_,?_⟩
   .have:∀i:Fin 10,fa (UInt8.ofNat (48+i.val))=true:=by decide
    exact this ⟨u,h⟩
   .have:∀i:Fin 10,1<=i.val->UInt8.ofNat (48+i.val)≠48:=by decide
    exact this ⟨u,h⟩
  .rw[dif_neg h];obtain⟨c,t,ab,ad,aC⟩:=ih (u/10) (by omega);exact⟨c,t++_,by rw[ab];rfl,ad,λ_=>aC (by omega)⟩
theorem OZ (c:UInt8) (r:aht) (ae:(c::r).all fa=true):Lib.decDigits (ic (c::r))=c::r↔(c≠48\/r=[]):=by
 simp only[List.all_cons,Bool.and_eq_true]at ae;have ai:=ae.1;have e:=zd c ae.1;simp only[fa,Bool.and_eq_true,decide_eq_true_eq]at ai;have aI:ic (c::r)=jz (c.toNat-48) r:=by
  show jz (10*0+(c.toNat-48)) r=_;rw[Nat.mul_zero,Nat.zero_add]
 rw[aI];by_cases j6:c=48
 .subst j6;constructor
  .intro h;cases r with
   |nil=>exact .inr rfl
   |cons x t=>
    exfalso;obtain⟨rh,Fj,ab,ad,aC⟩:=Iv (jz ((48:UInt8).toNat-48) (x::t));rw[ab]at h;injection h with aW bu;by_cases cy:1<=jz ((48:UInt8).toNat-48) (x::t)
    .exact aC cy aW
    .have aV:jz ((48:UInt8).toNat-48) (x::t)=0:=by omega
     rw[aV,Lib.decDigits,dif_pos (by omega)]at ab;injection ab with _ cl;rw[<-cl]at bu;cases bu
  .rintro(h|rfl)
   .exact(h rfl).elim
   .show Lib.decDigits 0=_;rw[Lib.decDigits,dif_pos (by omega)];rfl
 .have ab:1<=c.toNat-48:=by
   rcases Nat.lt_or_ge 48 c.toNat with h|h
   .omega
   .exact(j6 (UInt8.toNat_inj.1 (by rw[show(48:UInt8).toNat=48 from rfl];omega))).elim
  refine⟨λ_=>.inl j6,λ_=>?_⟩;rw[OY r _ ab ae.2,Lib.decDigits,dif_pos (by omega),e];rfl
theorem Iw (d:aht) (h:d.all fa=true) (hl:d.length<=18):ic d<10^18:=by
 have:=OR d 0 0 h (by omega);have ad:(10:Nat)^(0+d.length)<=10^18:=Nat.pow_le_pow_right (by omega) (by omega);exact Nat.lt_of_lt_of_le this ad
theorem Ix (d:aht) (hl:d.length<=18):Lib.parseUintB 64 d=if d≠[]/\d.all fa=true then .ok (ic d)else ze:=by
 unfold Lib.parseUintB;by_cases h:d=[]
 .rw[if_pos h,if_neg (λbc=>bc.1 h)];rfl
 .rw[if_neg h,show(2^64-1:Nat)=18446744073709551615 from rfl,OX d 0 0 (by omega) (by omega)];by_cases ae:d.all fa=true
  .rw[if_pos ae,if_pos ⟨h,ae⟩];rfl
  .rw[if_neg ae,if_neg (λbc=>ae bc.2)]
def pO (s:aht):Int×Bool:=match Lib.parseIntB 64 s with
 | .ok v=>if Lib.itoa v=s then(v,true)else(0,false)
 |_=>(0,false)
theorem Iy {k:Nat} {d:aht} (h:¬(d≠[]/\d.all fa=true)):lZ k d=(0,false):=by
 unfold lZ;rw[if_neg (λbc=>h ⟨bc.1,bc.2.2.1⟩)]
theorem O0 {k:Nat} {d:aht} (ab:d.head? =some 48) (ad:1<d.length+k):lZ k d=(0,false):=by
 unfold lZ;rw[if_neg (λbc=>bc.2.2.2 ⟨ab,ad⟩)]
theorem O1 {k:Nat} {d:aht} (h:d≠[]/\d.length<=18/\d.all fa=true/\¬(d.head? =some 48/\1<d.length+k)):lZ k d=(if k=1 then-(ic d:Int)else ic d,true):=by
 unfold lZ;rw[if_pos h]
theorem Y9 (s:aht) (h:(if s.head? =some 45 then s.tail else s).length<=18):Lib.parseIntB 64 s≠.range/\pO s=fi s:=by
 unfold pO fi;cases s with
 |nil=>exact⟨by simp[Lib.parseIntB],by simp[Lib.parseIntB,lZ]⟩
 |cons c r=>
  by_cases Iz:c=45
  .subst Iz;rw[if_pos (show(45::r).head? =some 45 from rfl)]at h⊢;simp only[List.tail_cons]at h⊢;have vL:(45:UInt8).toNat=45:=rfl;simp only[Lib.parseIntB,vL,or_true,if_true];rw[Ix r h];by_cases aH:r≠[]/\r.all fa=true
   .rw[if_pos aH];have ei:=Iw r aH.2 h;have sD:(2:Nat)^(64-1)=9223372036854775808:=by decide
    simp only[not_true,false_and,if_false,sD,true_and];rw[if_neg (by omega)];refine⟨by simp,?_⟩;simp only;obtain⟨x,t,rfl⟩:∃x t,r=x::t:=by
     cases r with
     |nil=>exact(aH.1 rfl).elim
     |cons x t=>exact⟨x,t,rfl⟩
    have zf:=OZ x t aH.2;by_cases j6:x=48
    .rw[O0 (by rw[j6];rfl) (by simp)];rw[if_neg];intro ak;by_cases aV:ic (x::t)=0
     .rw[aV]at ak;have h9:Lib.decDigits 0=[48]:=by rw[Lib.decDigits,dif_pos (by omega)];rfl
      simp[Lib.itoa,h9]at ak
     .unfold Lib.itoa at ak;rw[if_pos (by omega)]at ak;injection ak with _ ak;rw[show(-(ic (x::t):Int)).natAbs=ic (x::t) by omega]at ak;obtain⟨rh,Fj,fA,fp,gX⟩:=Iv (ic (x::t));rw[fA]at ak;injection ak with xa _;exact gX (by omega) (xa.trans j6)
    .have EO:1<=ic (x::t):=by
      have:=(zf.2 (.inl j6))
      rcases eq_zero_or_pos (ic (x::t))with aV|aV
      .rw[aV,Lib.decDigits,dif_pos (by omega)]at this;injection this with this _;exact(j6 this.symm).elim
      .exact aV
     rw[O1 ⟨by simp,h,aH.2,λbc=>j6 (some.inj bc.1)⟩];rw[if_pos]
     .simp
     .unfold Lib.itoa;rw[if_pos (by omega),show(-(ic (x::t):Int)).natAbs=ic (x::t) by omega,zf.2 (.inl j6)]
   .rw[if_neg aH,Iy aH];exact⟨by simp[ze,Lib.parseUintB],rfl⟩
  .have gy:¬((c::r).head? =some 45):=λe=>Iz (some.inj e);rw[if_neg gy]at h⊢;have H9:c.toNat≠45:=λe=>Iz (UInt8.toNat_inj.1 (by rw[show(45:UInt8).toNat=45 from rfl];exact e));have sD:(2:Nat)^(64-1)=9223372036854775808:=by decide
   by_cases O2:c.toNat=43
   .simp only[Lib.parseIntB,O2,true_or,if_true];have O3:r.length<=18:=by simp at h;omega
    rw[Ix r O3];have jC:lZ 0 (c::r)=(0,false):=Iy λbc=>by
     have:=bc.2;simp only[List.all_cons,Bool.and_eq_true]at this;have:=this.1;simp only[fa,Bool.and_eq_true,decide_eq_true_eq]at this;omega
    rw[jC];by_cases aH:r≠[]/\r.all fa=true
    .rw[if_pos aH];have ei:=Iw r aH.2 O3;simp only[show¬((43:Nat)=45)from by decide,not_false_eq_true,true_and,false_and,if_false,sD];rw[if_neg (by omega)];refine⟨by simp,?_⟩;simp only;rw[if_neg];intro ak;unfold Lib.itoa at ak;rw[if_neg (by omega),Int.toNat_natCast]at ak;obtain⟨rh,Fj,fA,fp,_⟩:=Iv (ic r);rw[fA]at ak;injection ak with ak _;rw[ak]at fp;simp only[fa,Bool.and_eq_true,decide_eq_true_eq]at fp;omega
    .rw[if_neg aH];exact⟨by simp[ze,Lib.parseUintB],rfl⟩
   .simp only[Lib.parseIntB,O2,H9,_root_.or_self,if_false];rw[Ix (c::r) h];by_cases aH:(c::r)≠[]/\(c::r).all fa=true
    .rw[if_pos aH];have ei:=Iw (c::r) aH.2 h;simp only[not_false_eq_true,true_and,false_and,if_false,sD];rw[if_neg (by omega)];refine⟨by simp,?_⟩;simp only;have zf:=OZ c r aH.2;have adq:Lib.itoa (ic (c::r):Int)=Lib.decDigits (ic (c::r)):=by
      unfold Lib.itoa;rw[if_neg (by omega),Int.toNat_natCast]
     rw[adq];by_cases zg:c≠48\/r=[]
     .rw[if_pos (zf.2 zg),O1 ⟨by simp,h,aH.2,λbc=>by
       rcases zg with ab|ab
       .exact ab (some.inj bc.1)
       .subst ab;simp at bc⟩]
      simp
     .have j6:c=48:=by
       by_cases q:c=48
       .exact q
       .exact(zg (.inl q)).elim
      have cO:r≠[]:=λq=>zg (.inr q);rw[if_neg (λbc=>zg (zf.1 bc)),O0 (by rw[j6];rfl) (by
       cases r with
       |nil=>exact(cO rfl).elim
       |cons x t=>simp)]
    .rw[if_neg aH,Iy aH];exact⟨by simp[ze,Lib.parseUintB],rfl⟩
end Go.lV
