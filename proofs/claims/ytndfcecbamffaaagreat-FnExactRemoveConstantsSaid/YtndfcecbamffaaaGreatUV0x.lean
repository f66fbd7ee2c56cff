/- Part of a proof that a law returns true for every input. No condition. -/
import Derived.Test.YtndfcecbamffaaaGreatFwA
import Derived.IntWalk
import Derived.Test.YtndfcecbamffaaaGreatP3
namespace Go.nc
open Option Nat Or
open Go Go.c3
theorem h_ (n:Int) (h: -9223372036854775808<=n/\n<=9223372036854775807):IntKind.i64.wrap n=n:=IntWalk.i64_in n h
theorem sa {α:Type} (a:List α) (i:Nat) (d:α) (h:i<a.length):bG a (i:Int)=some (a.getD i d):=by
 rw[H4 (by omega) (by simpa using h)];simp[List.getD,h]
theorem fA {α:Type} (a:List α) (i:Nat) (h:i<a.length):bG a (i:Int)=some a[i]:=by
 rw[H4 (by omega) (by simpa using h)];rfl
theorem B4 {α:Type} (a:List α) (n:Nat) (h:n<=a.length):gw a 0 (n:Int)=some (a.take n):=by
 unfold gw;rw[if_pos (by omega)];simp
theorem eE (i n:Nat) (h:i<n) (a4:n<=4611686018427387904):IntKind.i64.wrap ((i:Int)+1)=((i+1:Nat):Int):=by
 rw[h_ _ (by omega)];omega
theorem fj {i n:Nat} (h:i<n):decide ((i:Int)<(n:Int))=true:=by simp;omega
theorem ey {i n:Nat} (h:n<=i):decide ((i:Int)<(n:Int))=false:=by simp;omega
theorem sb {α:Type} (c:α) (r:List α):bG (c::r) 0=some c:=rfl
theorem Hm {n:Nat} (h:0<n):decide ((0:Int)<(n:Int))=true:=by simp;omega
theorem abz:IntKind.i64.wrap (0+1)=1:=by decide
theorem down (n:Nat) {P:Nat->Prop} (bo:P n) (aa:∀i,i<n->P (i+1)->P i):∀i,i<=n->P i:=by
 have key:∀d,d<=n->P (n-d):=by
  intro d;induction d with
  |zero=>intro _;exact bo
  |succ d ih=>
   intro ai;have:=ih (by omega);refine aa _ (by omega) ?_;rw[show n-(d+1)+1=n-d by omega];exact this
 intro i aC;have:=key (n-i) (by omega)
 rwa [show n-(n-i)=i by omega]at this
theorem up {β:Type} {l:Nat->Int->Option β} {n:Nat} (F:Nat->Option β) (bo:∀m,l (m+1) (n:Int)=F n)
  (aa:∀i,i<n->∀m,(l m ((i+1:Nat):Int)=F (i+1))->l (m+1) (i:Int)=F i):∀i,i<=n->∀m,n-i<m->l m (i:Int)=F i:=by
 refine down n ?_ ?_
 .intro m hm;obtain⟨k,rfl⟩:∃k,m=k+1:=⟨m-1,by omega⟩
  exact bo k
 .intro i aC ih m hm;obtain⟨k,rfl⟩:∃k,m=k+1:=⟨m-1,by omega⟩
  exact aa i aC k (ih k (by omega))
theorem B5 {β:Type} {l:Nat->Int->Option β} {n:Nat} (F:Nat->Option β) (bo:∀m,l (m+1) (n:Int)=F n)
  (aa:∀i,i<n->∀m,(l m ((i+1:Nat):Int)=F (i+1))->l (m+1) (i:Int)=F i):cA (λm=>l m 0)=F 0:=
 gQ (n+1) λm hm=>up F bo aa 0 (by omega) m (by omega)
theorem drop_cons {α:Type} (a:List α) (i:Nat) (h:i<a.length):a.drop i=a[i]::a.drop (i+1):=List.drop_eq_getElem_cons h
def jj (n:Int) (s:Nat):Int:=if(s:Int)<=n then n-s else-1
theorem Ho {n:Int} {s:Nat} (h:(s:Int)<=n):jj n s=n-s:=if_pos h
theorem B6 {n:Int} {s:Nat} (h:n<s):jj n s= -1:=if_neg (by omega)
theorem abA {n:Int} (h:0<=n):jj n 0=n:=by rw[Ho (by simpa using h)];simp
theorem tZ {f:afe} {k:Int->afe} {n:Int} {s t:Nat} (a8:f=some (jj n s)) (aj:(s:Int)<=n->k (n-s)=some (jj (n-s) t)):
  (f.bind λx=>cond (decide (x<0)) (some (-1)) (k x))=some (jj n (s+t)):=by
 rw[a8];simp only[bind_some];by_cases h:(s:Int)<=n
 .rw[Ho h];have:decide (n-(s:Int)<0)=false:=by simp;omega
  rw[this,cond_false,aj h];congr 1;unfold jj;by_cases af:(t:Int)<=n-s
  .rw[if_pos af,if_pos (by omega)];omega
  .rw[if_neg af,if_neg (by omega)]
 .rw[B6 (by omega)];have:decide ((-1:Int)<0)=true:=by decide
  rw[this,cond_true,B6 (by omega)]
theorem y1 {K:afe} {n:Int} {s t:Nat} (aa:s<=9223372036854775807) (bo:0<=n) (a4:n<=1048576) (aj:(s:Int)<=n->K=some (jj (n-s) t)):
  cond (decide (IntKind.i64.wrap (n-(s:Int))<0)) (some (-1)) K=some (jj n (s+t)):=by
 rw[h_ _ (by omega)];by_cases h:(s:Int)<=n
 .have:decide (n-(s:Int)<0)=false:=by simp;omega
  rw[this,cond_false,aj h];congr 1;unfold jj;by_cases af:(t:Int)<=n-s
  .rw[if_pos af,if_pos (by omega)];omega
  .rw[if_neg af,if_neg (by omega)]
 .have:decide (n-(s:Int)<0)=true:=by simp;omega
  rw[this,cond_true,B6 (by omega)]
theorem y2 {n:Int} (h:0<=n):some n=some (jj n 0):=by rw[abA h]
def gZ {α:Type} (f:α->Nat):List α->Nat
 |[]=>0
 |x::r=>f x+gZ f r
theorem NZ {α:Type} {f:α->Nat}:∀{l:List α} {x:α},x∈l->f x<=gZ f l
 |y::r,x,h=>by
  simp only[gZ];rcases List.mem_cons.1 h with rfl|h
  .omega
  .have:=NZ (f:=f) h;omega
theorem N0 {α β:Type} {f:β->Nat} {g:α->β}:∀l:List α,gZ f (l.map g)=gZ (λx=>f (g x)) l
 |[]=>rfl
 |x::r=>by simp only[List.map_cons,gZ,N0 r]
def g7 {α:Type} (f:α->Nat) (l:List α):Nat:=l.length+gZ f l
theorem N1 {α β:Type} (f:β->Nat) (g:α->β) (l:List α):g7 f (l.map g)=g7 (λx=>f (g x)) l:=by simp only[g7,List.length_map,N0]
theorem sc {α:Type} (f:α->Nat) (l:List α):l.length<=g7 f l:=le_add_right _ _
theorem wh {α:Type} {f:α->Nat} {l:List α} {x:α} (h:x∈l):f x<=g7 f l:=Nat.le_trans (NZ h) (le_add_left _ _)
theorem abB {α:Type} {l:Nat->Int->Int->afe} {B:α->Int->(Int->afe)->afe} (sz:α->Nat) (a:List α)
  (lD:∀m n i,l (m+1) n i=cond (decide (i<(a.length:Int))) ((bG a i).bind λx=>B x n λy=>l m y (IntKind.i64.wrap (i+1))) (some n))
  (a8:∀x∈a,∀(n:Int) (k:Int->afe) (t:Nat),0<=n->n<=1048576->((sz x:Int)<=n->k (n-sz x)=some (jj (n-sz x) t))->B x n k=some (jj n (sz x+t)))
  (b8:a.length<=1048576) (n:Int) (bo:0<=n) (a4:n<=1048576):cA (λm=>l m n 0)=some (jj n (gZ sz a)):=by
 have key:∀i,i<=a.length->∀n:Int,0<=n->n<=1048576->∀m,a.length-i<m->l m n (i:Int)=some (jj n (gZ sz (a.drop i))):=by
  refine down a.length ?_ ?_
  .intro n bo _ m hm;obtain⟨k,rfl⟩:∃k,m=k+1:=⟨m-1,by omega⟩
   rw[lD,ey (Nat.le_refl _),cond_false,List.drop_of_length_le (Nat.le_refl _)];exact y2 bo
  .intro i aC ih n bo a4 m hm;obtain⟨k,rfl⟩:∃k,m=k+1:=⟨m-1,by omega⟩
   rw[lD,fj aC,cond_true,fA _ i aC,eE i _ aC (by omega),drop_cons a i aC];simp only[bind_some,gZ];exact a8 _ (List.getElem_mem aC) n _ _ bo a4 λh=>ih _ (by omega) (by omega) k (by omega)
 refine gQ (a.length+1) λm hm=>?_;have:=key 0 (by omega) n bo a4 m (by omega);simpa using this
theorem N2 {α:Type} {l:Nat->Int->Int->afe} {f:α->Int->afe} (sz:α->Nat) (a:List α)
  (lD:∀m n i,l (m+1) n i=cond (decide (i<(a.length:Int))) ((bG a i).bind λx=>(f x n).bind λy=>cond (decide (y<0)) (some (-1)) (l m y (IntKind.i64.wrap (i+1)))) (some n))
  (a8:∀x∈a,∀n:Int,0<=n->n<=1048576->f x n=some (jj n (sz x))) (b8:a.length<=1048576) (n:Int) (bo:0<=n) (a4:n<=1048576):cA (λm=>l m n 0)=some (jj n (gZ sz a)):=
 abB (B:=λx n k=>(f x n).bind λy=>cond (decide (y<0)) (some (-1)) (k y)) sz a lD (λx al n _ _ bo a4 aj=>tZ (a8 x al n bo a4) aj) b8 n bo a4
theorem B7 {α β:Type} {l:Nat->List β->Int->Option (List β)} {f:α->Option β} (g:α->β) (a:List α) (z:β)
  (lD:∀m v i,l (m+1) v i=cond (decide (i<(a.length:Int))) ((bG a i).bind λx=>(f x).bind λy=>(bG v i).bind λ_=>l m (List.set v (Int.toNat i) y) (IntKind.i64.wrap (i+1))) (some v))
  (a8:∀x∈a,f x=some (g x)) (b8:a.length<=1048576):cA (λm=>l m (List.replicate (Int.toNat (a.length:Int)) z) 0)=some (a.map g):=by
 have key:∀i,i<=a.length->∀(v:List β) m,v.length=a.length->a.length-i<m->l m v (i:Int)=some (v.take i++(a.drop i).map g):=by
  refine down a.length ?_ ?_
  .intro v m aH hm;obtain⟨k,rfl⟩:∃k,m=k+1:=⟨m-1,by omega⟩
   rw[lD,ey (Nat.le_refl _)];simp[<-aH]
  .intro i aC ih v m aH hm;obtain⟨k,rfl⟩:∃k,m=k+1:=⟨m-1,by omega⟩
   rw[lD,fj aC,fA _ i aC,eE i _ aC (by omega)];simp only[cond_true,bind_some,a8 _ (List.getElem_mem aC)];rw[fA v i (by omega)];simp only[bind_some,Int.toNat_natCast];rw[ih _ k (by simp[aH]) (by omega),drop_cons a i aC,List.map_cons,List.take_set,List.take_succ_eq_append_getElem (by omega),List.set_append_right _ _ (by simp;omega)];simp[show min i v.length=i by omega]
 refine gQ (a.length+1) λm hm=>?_;have:=key 0 (by omega) (List.replicate (Int.toNat (a.length:Int)) z) m (by simp) (by omega);simpa using this
theorem y3 (b:Nat) {n:Nat} (h:n<=1048576) (U:b<=4096):nN b (n:Int)=some ():=by
 have ae:b*n<=4096*1048576:=Nat.mul_le_mul U h;have af:((b:Int)*(n:Int))=((b*n:Nat):Int):=by simp
 unfold nN;rw[if_pos ⟨by omega,by rw[af];omega,by omega⟩]
theorem Hp {α:Type} {l:Nat->Int->afd} {f:α->α->afd} (a:List α)
  (lD:∀m i,l (m+1) i=cond (decide (i<(a.length:Int))) ((bG a i).bind λx=>(bG a i).bind λy=>(f x y).bind λz=>cond (!z) (some false) (l m (IntKind.i64.wrap (i+1)))) (some true))
  (a8:∀x∈a,f x x=some true) (b8:a.length<=1048576):cA (λm=>l m 0)=some true:=by
 rw[B5 (n:=a.length) (λ_=>some true)]
 .intro m;rw[lD,ey (Nat.le_refl _)];rfl
 .intro i aC m ih;rw[lD,fj aC,fA _ i aC,eE i _ aC (by omega),ih];simp only[cond_true,bind_some,a8 _ (List.getElem_mem aC),Bool.not_true,cond_false]
theorem abC {α:Type} {d:α->α->Bool} {l:Nat->Int->afd} (a:List α)
  (lD:∀m i,l (m+1) i=cond (decide (i<(a.length:Int))) ((bG a i).bind λx=>(bG a i).bind λy=>cond (d x y) (some false) (l m (IntKind.i64.wrap (i+1)))) (some true))
  (ai:∀x,d x x=false) (b8:a.length<=1048576):cA (λm=>l m 0)=some true:=by
 rw[B5 (n:=a.length) (λ_=>some true)]
 .intro m;rw[lD,ey (Nat.le_refl _)];rfl
 .intro i aC m ih;rw[lD,fj aC,fA _ i aC,eE i _ aC (by omega),ih];simp only[cond_true,bind_some,ai,cond_false]
theorem B8 (x:Int):(x !=x)=false:=by simp
theorem Hq (x:nq):(!(x==x))=false:=by simp
theorem Hr (x:Bool):(!(x==x))=false:=by simp
theorem B9 (n:Nat):((n:Int) !=(n:Int))=false:=by simp
def sd (b:Bool):Int:=cond b 1 0
theorem B_ (b:Bool):(cond b (some 1) (some 0):afe)=some (sd b):=by cases b<;>rfl
theorem abD {α:Type} (x:α) (l:List α):gw (x::l) 1 (((x::l).length:Nat):Int)=some l:=by
 unfold gw;rw[if_pos (by simp only[List.length_cons];omega)];simp
theorem N3 {α:Type} (a b c:List α) {i j:Int} (aC:i=(a.length:Int)) (bZ:j=((a.length+b.length:Nat):Int)):gw (a++(b++c)) i j=some b:=by
 unfold gw;have aT:i.toNat=a.length:=by omega
 have a3:j.toNat=a.length+b.length:=by omega
 rw[if_pos (by simp only[List.length_append];omega),aT,a3,<-List.append_assoc,List.take_left' (by simp),List.drop_left' rfl]
theorem iy {b n:Nat} (h:n*b<=140737488355328) (af:n<=9223372036854775807):room b n=some ():=by unfold room;rw[if_pos ⟨h,af⟩]
theorem se {α:Type} (d:List α) (x:α) (r:List α):bG (d++x::r) (d.length:Int)=some x:=by
 rw[fA _ _ (by simp)];simp
theorem Ca {α:Type} (d:List α) (x y:α) (r:List α):List.set (d++x::r) (Int.toNat (d.length:Int)) y=d++y::r:=by
 simp
theorem qk {k:Int} (h:0<=k):decide (k<0)=false:=by simp;omega
theorem sf {α:Type} (d:List α) (x:α) (r:List α):decide ((d.length:Int)<((d++x::r).length:Int))=true:=by simp;omega
theorem sg {α:Type} {d:List α} (h:d.length<=1099511627776):IntKind.i64.wrap ((d.length:Int)+1)=((d.length+1:Nat):Int):=by rw[h_ _ (by omega)];omega
theorem Hs {α:Type} (f:α->Nat):∀a:List α,gZ (λx=>64*(f x+1)) a=64*g7 f a
 |[]=>rfl
 |x::r=>by
  have:=Hs f r;unfold g7 at this⊢;simp only[gZ,List.length_cons];omega
theorem Ht {α:Type} (n:Nat):∀a:List α,gZ (λ_=>n) a=n*a.length
 |[]=>rfl
 |x::r=>by simp only[gZ,Ht n r,List.length_cons,Nat.mul_add];omega
theorem Cb {α:Type} {l:Nat->List α->Int->Int->Option (Int×List α)} {hl:List α->Nat->Int->Int->afe} (w:α->Nat) (bo:∀m (v:List α) k,l (m+1) v k (v.length:Int)=some (k,v))
  (fB:∀(a:List α) m k,hl a (m+1) k (a.length:Int)=some k)
  (aa:∀x (k:Int),0<=k->k+w x<=1099511627776->∃cw c,c<=w x/\∀m (d r:List α),d.length<=1099511627776->l (m+1) (d++x::r) k (d.length:Int)=l m (d++cw::r) (k+(c:Nat)) ((d.length+1:Nat):Int)/\
   hl (d++cw::r) (m+1) k (d.length:Int)=hl (d++cw::r) m (k+(c:Nat)) ((d.length+1:Nat):Int))
  (a:List α) (k:Int) (aj:0<=k) (N4:a.length<=1099511627776) (U:k+gZ w a<=1099511627776):∃ca c,c<=gZ w a/\cA (λn=>l n a k 0)=some (k+(c:Nat),ca)/\cA (λn=>hl ca n k 0)=some (k+(c:Nat)):=by
 have key:∀(r:List α) (k:Int),0<=k->k+gZ w r<=1099511627776->∃gz c,c<=gZ w r/\gz.length=r.length/\∀(d:List α) (m:Nat),d.length+r.length<=1099511627776->r.length<m->l m (d++r) k (d.length:Int)=some (k+(c:Nat),d++gz)/\
   hl (d++gz) m k (d.length:Int)=some (k+(c:Nat)):=by
  intro r;induction r with
  |nil=>
   intro k _ _;refine⟨[],0,Nat.le_refl _,rfl,λd m _ hm=>?_⟩;obtain⟨m,rfl⟩:∃j,m=j+1:=⟨m-1,by omega⟩
   rw[List.append_nil,bo,fB];simp
  |cons x r ih=>
   intro k ae af;simp only[gZ]at af;obtain⟨cw,c,bA,bK⟩:=aa x k ae (by omega);obtain⟨gz,Jf,aT,aY,a3⟩:=ih (k+c) (by omega) (by omega);refine⟨cw::gz,c+Jf,by simp only[gZ];omega,by simp only[List.length_cons,aY],λd m ai hm=>?_⟩;simp only[List.length_cons]at ai hm;obtain⟨m,rfl⟩:∃j,m=j+1:=⟨m-1,by omega⟩
   rw[(bK m d r (by omega)).1,(bK m d gz (by omega)).2];have:=a3 (d++[cw]) m (by simp only[List.length_append,List.length_cons,List.length_nil];omega) (by omega);simp only[List.length_append,List.length_cons,List.length_nil,List.append_assoc,List.cons_append,List.nil_append,Nat.zero_add]at this;rw[this.1,this.2];simp only[some.injEq,Prod.mk.injEq,and_true];exact⟨by omega,by omega⟩
 obtain⟨ca,c,aT,aY,a3⟩:=key a k aj U;refine⟨ca,c,aT,gQ (a.length+1) λm hm=>?_,gQ (a.length+1) λm hm=>?_⟩
 .have:=(a3 [] m (by simpa using N4) (by omega)).1;simpa using this
 .have:=(a3 [] m (by simpa using N4) (by omega)).2;simpa using this
set_option linter.unusedSimpArgs false
theorem N5 (x:afb) (n:Int) (al:(x.length<=9223372036854775807/\∀y∈x,(-9223372036854775808<=y/\y<=9223372036854775807))) (bo:0<=n) (a4:n<=1048576):xU x n=some (jj n (x.length+0)):=by
 unfold xU;refine y1 al.1 bo a4 λh=>?_;rw[h_ _ (by omega)];exact y2 (by omega)
theorem N6 (x:afk) (n:Int) (al:(x.length<=9223372036854775807/\∀y∈x,r2 y)) (bo:0<=n) (a4:n<=1048576):u4 x n=some (jj n (x.length+0)):=by
 unfold u4;refine y1 al.1 bo a4 λh=>?_;rw[h_ _ (by omega)];exact y2 (by omega)
theorem N7 (x:afi) (n:Int) (al:(x.length<=9223372036854775807/\∀y∈x,(y.length<=9223372036854775807/\∀z∈y,r2 z))) (bo:0<=n) (a4:n<=1048576):xV x n=some (jj n (g7 (λx=>x.length+0) x)):=by
 unfold xV;refine y1 al.1 bo a4 λh=>?_;rw[h_ _ (by omega)];exact N2 (f:=u4) (λx=>x.length+0) x (λ_ _ _=>rfl) (λy a5 n bo a4=>N6 y n (al.2 y a5) bo a4) (by omega) _ (by omega) (by omega)
def pj (x:i0):Nat:=((x.br.length+0)+((x.Guard.length+0)+(x.Name.length+((g7 (λx=>x.length+0) x.bD)+((g7 (λx=>x.length+0) x.Next)+0)))))
theorem abE (x:i0) (n:Int) (al:xT x) (bo:0<=n) (a4:n<=1048576):xW x n=some (jj n (pj x)):=by
 unfold xW;unfold pj;obtain⟨w0,hW,kG,pY,Hl⟩:=al;refine tZ (N5 _ _ w0 (by omega) (by omega)) λi4=>?_;refine tZ (N6 _ _ hW (by omega) (by omega)) λbA=>?_;refine y1 kG (by omega) (by omega) λbK=>?_;rw[h_ (((n-(((x.br.length+0):Nat):Int))-(((x.Guard.length+0):Nat):Int))-(x.Name.length:Int)) (by omega)];refine tZ (N7 _ _ pY (by omega) (by omega)) λzV=>?_;refine tZ (N7 _ _ Hl (by omega) (by omega)) λjS=>?_;exact y2 (by omega)
theorem abF (x:afl) (n:Int) (al:(x.length<=9223372036854775807/\∀y∈x,xT y)) (bo:0<=n) (a4:n<=1048576):AH x n=some (jj n (g7 pj x)):=by
 unfold AH;refine y1 al.1 bo a4 λh=>?_;rw[h_ _ (by omega)];exact N2 (f:=xW) pj x (λ_ _ _=>rfl) (λy a5 n bo a4=>abE y n (al.2 y a5) bo a4) (by omega) _ (by omega) (by omega)
def si (x:lZ):Nat:=((x.Start.length+0)+((g7 pj x.bu)+0))
theorem abG (x:lZ) (n:Int) (al:AG x) (bo:0<=n) (a4:n<=1048576):AJ x n=some (jj n (si x)):=by
 unfold AJ;unfold si;obtain⟨w0,hW,kG⟩:=al;refine tZ (N5 _ _ hW (by omega) (by omega)) λbA=>?_;refine tZ (abF _ _ kG (by omega) (by omega)) λbK=>?_;exact y2 (by omega)
theorem N8 (x:afb) (h:(x.length+0)<=1048576):xX x=some x:=by
 unfold xX;have hl:x.length<=1048576:=by omega
 rw[y3 _ hl (by decide)];simp only[bind_some];rw[B7 (f:=some) id x _ (λ_ _ _=>rfl) (λ_ _=>rfl) hl,List.map_id]
def sj (x:gX):aD:=⟨x.Kind,x.Value⟩
theorem abH (x:gX):xY x=some (sj x):=by
 unfold xY;rfl
theorem N9 (x:afk) (h:(x.length+0)<=1048576):u5 x=some (x.map sj):=by
 unfold u5;have hl:x.length<=1048576:=by omega
 rw[y3 _ hl (by decide)];simp only[bind_some];rw[B7 (f:=xY) sj x _ (λ_ _ _=>rfl) (λy a5=>abH y) hl]
theorem N_ (x:afi) (h:(g7 (λx=>x.length+0) x)<=1048576):xZ x=some (x.map (List.map sj)):=by
 unfold xZ;have hl:x.length<=1048576:=Nat.le_trans (sc _ _) h;rw[y3 _ hl (by decide)];simp only[bind_some];rw[B7 (f:=u5) (List.map sj) x _ (λ_ _ _=>rfl) (λy a5=>N9 y (Nat.le_trans (wh (f:=(λx=>x.length+0)) a5) h)) hl]
def wi (x:i0):bc:=⟨x.br,(x.Guard.map sj),x.Name,(x.bD.map (List.map sj)),(x.Next.map (List.map sj))⟩
def jx (x:bc):Nat:=((x.br.length+0)+((x.Guard.length+0)+(x.Name.length+((g7 (λx=>x.length+0) x.bD)+((g7 (λx=>x.length+0) x.Next)+0)))))
theorem abI (x:i0):jx (wi x)=pj x:=by
 simp only[jx,pj,wi,N1,List.length_map]
theorem abJ (x:i0) (h:(pj x)<=1048576):x0 x=some (wi x):=by
 unfold x0;unfold pj at h;rw[N8 _ (by omega),N9 _ (by omega),N_ _ (by omega),N_ _ (by omega)];rfl
theorem abK (x:afl) (h:(g7 pj x)<=1048576):AK x=some (x.map wi):=by
 unfold AK;have hl:x.length<=1048576:=Nat.le_trans (sc _ _) h;rw[y3 _ hl (by decide)];simp only[bind_some];rw[B7 (f:=x0) wi x _ (λ_ _ _=>rfl) (λy a5=>abJ y (Nat.le_trans (wh (f:=pj) a5) h)) hl]
def y4 (x:lZ):bg:=⟨x.bz,x.Start,(x.bu.map wi)⟩
def me (x:bg):Nat:=((x.Start.length+0)+((g7 jx x.bu)+0))
theorem abL (x:lZ):me (y4 x)=si x:=by
 simp only[me,si,y4,N1,List.length_map,abI]
theorem abM (x:lZ) (h:(si x)<=1048576):tq x=some (y4 x):=by
 unfold tq;unfold si at h;rw[N8 _ (by omega),abK _ (by omega)];rfl
theorem Hu (x:afb) (h:(x.length+0)<=1048576):r5 x x=some true:=by
 unfold r5;have hl:x.length<=1048576:=by omega
 rw[B9,cond_false];exact abC x (λ_ _=>rfl) B8 hl
theorem abN (x:aD):yo x x=some true:=by
 unfold yo;simp only[B8,Hq,Hr,cond_false,bind_some,Bool.not_true]
theorem Oa (x:afm) (h:(x.length+0)<=1048576):vL x x=some true:=by
 unfold vL;have hl:x.length<=1048576:=by omega
 rw[B9,cond_false];exact Hp (f:=yo) x (λ_ _=>rfl) (λy a5=>abN y) hl
theorem Ob (x:afj) (h:(g7 (λx=>x.length+0) x)<=1048576):yp x x=some true:=by
 unfold yp;have hl:x.length<=1048576:=Nat.le_trans (sc _ _) h;rw[B9,cond_false];exact Hp (f:=vL) x (λ_ _=>rfl) (λy a5=>Oa y (Nat.le_trans (wh (f:=(λx=>x.length+0)) a5) h)) hl
theorem abO (x:bc) (h:(jx x)<=1048576):yq x x=some true:=by
 unfold yq;unfold jx at h;simp only[B8,Hq,Hr,cond_false,bind_some,Bool.not_true,Hu x.br (by omega),Oa x.Guard (by omega),Ob x.bD (by omega),Ob x.Next (by omega)]
theorem abP (x:afn) (h:(g7 jx x)<=1048576):BF x x=some true:=by
 unfold BF;have hl:x.length<=1048576:=Nat.le_trans (sc _ _) h;rw[B9,cond_false];exact Hp (f:=yq) x (λ_ _=>rfl) (λy a5=>abO y (Nat.le_trans (wh (f:=jx) a5) h)) hl
theorem Oc (x:bg) (h:(me x)<=1048576):tH x x=some true:=by
 unfold tH;unfold me at h;simp only[B8,Hq,Hr,cond_false,bind_some,Bool.not_true,Hu x.Start (by omega),abP x.bu (by omega)]
theorem abQ (k:Int) (bo:0<=k) (U:k<=1099511627776):∃t,ys k=some t:=by
 have key:∀(n:Nat) (k:Int),0<=k->k<=n->n<=1099511627776->∀t:nq,t.length+n<=1099511627776->∃r,∀m,n<m->tI m k t=some r:=by
  intro n;induction n with
  |zero=>
   intro k ae af aF t aP;refine⟨[109]++t,λm hm=>?_⟩;obtain⟨m,rfl⟩:∃j,m=j+1:=⟨m-1,by omega⟩
   simp only[tI,BG];rw[show decide (0<k)=false by simp;omega,cond_false,show pv (1+t.length)=some () by unfold pv;rw[if_pos (by omega)]];rfl
  |succ n ih=>
   intro k ae af aF t aP;by_cases aj:0<k
   .have ai:Int.tdiv k 10=k/10:=Int.tdiv_eq_ediv_of_nonneg ae;have hw:IntKind.i64.wrap (Int.tdiv k 10)=k/10:=by rw[ai];exact h_ _ (by omega)
    obtain⟨r,aR⟩:=ih (k/10) (by omega) (by omega) (by omega) ([(qq (IntKind.i64.wrap (48+(Int.tmod k 10))))]++t) (by simp only[List.length_append,List.length_cons,List.length_nil];omega);refine⟨r,λm hm=>?_⟩;obtain⟨m,rfl⟩:∃j,m=j+1:=⟨m-1,by omega⟩
    simp only[tI,BG];rw[show decide (0<k)=true by simp;omega,cond_true,show pv (1+t.length)=some () by unfold pv;rw[if_pos (by omega)]];simp only[bind_some,hw];exact aR m (by omega)
   .refine⟨[109]++t,λm hm=>?_⟩;obtain⟨m,rfl⟩:∃j,m=j+1:=⟨m-1,by omega⟩
    simp only[tI,BG];rw[show decide (0<k)=false by simp;omega,cond_false,show pv (1+t.length)=some () by unfold pv;rw[if_pos (by omega)]];rfl
 unfold ys;by_cases aj:k<=0
 .exact⟨_,by rw[show decide (k<=0)=true by simpa using aj];rfl⟩
 .obtain⟨r,aR⟩:=key k.toNat k bo (by omega) (by omega) [] (by simp only[List.length_nil];omega);exact⟨r,by rw[show decide (k<=0)=false by simp;omega,cond_false];exact gQ (k.toNat+1) λm hm=>aR m (by omega)⟩
theorem Hv (x:afb) (k:Int) (bo:0<=k) (U:k+64*(x.length+0)<=1099511627776):∃(cw:afb) (c:Nat),c<=64*(x.length+0)/\vN x k=some (k+(c:Int),cw)/\tL cw k=some (k+(c:Int)):=by
 unfold vN tL;have e:gZ (λ_=>64) x=64*x.length:=Ht 64 x;obtain⟨cw,c,ae,af,aF⟩:=Cb (l:=vM) (hl:=vS) (λ_=>64) (λm v k=>by simp only[vM,Gf];rw[ey (Nat.le_refl _)];rfl) (λa m k=>by simp only[vS,Gj];rw[ey (Nat.le_refl _)];rfl) (λx k bo U=>by
  have hW:IntKind.i64.wrap (k+1)=k+1:=h_ _ (by omega);refine⟨k,1,by omega,λm d r ai=>⟨?_,?_⟩⟩
  .simp only[vM,Gf];rw[sf];simp only[cond_true,se,Ca,bind_some,hW];rw[sg ai];rw[show((k+1):Int)=k+((1:Nat):Int) by omega]
  .simp only[vS,Gj];rw[sf];simp only[cond_true,cond_false,se,bind_some,bne_self_eq_false,beq_self_eq_true,Bool.not_true,hW];rw[sg ai];rw[show((k+1):Int)=k+((1:Nat):Int) by omega]) x k bo (by omega) (by omega)
 exact⟨cw,c,by omega,af,aF⟩
theorem Od (x:afm) (k:Int) (bo:0<=k) (U:k+64*(x.length+0)<=1099511627776):∃(cw:afm) (c:Nat),c<=64*(x.length+0)/\yr x k=some (k+(c:Int),cw)/\yv cw k=some (k+(c:Int)):=by
 unfold yr yv;have e:gZ (λ_=>64) x=64*x.length:=Ht 64 x;obtain⟨cw,c,ae,af,aF⟩:=Cb (l:=vO) (hl:=vT) (λ_=>64) (λm v k=>by simp only[vO,Gg];rw[ey (Nat.le_refl _)];rfl) (λa m k=>by simp only[vT,Gk];rw[ey (Nat.le_refl _)];rfl) (λx k bo U=>by
  have hW:IntKind.i64.wrap (k+1)=k+1:=h_ _ (by omega);have kG:IntKind.i64.wrap ((k+1)+1)=(k+1)+1:=h_ _ (by omega);refine⟨(aD.mk k (k+1)),1+1,by omega,λm d r ai=>⟨?_,?_⟩⟩
  .simp only[vO,Gg];rw[sf];simp only[cond_true,se,Ca,bind_some,hW,kG];rw[sg ai];rw[show(((k+1)+1):Int)=k+((1+1:Nat):Int) by omega]
  .simp only[vT,Gk];rw[sf];simp only[cond_true,cond_false,se,bind_some,bne_self_eq_false,beq_self_eq_true,Bool.not_true,hW,kG];rw[sg ai];rw[show(((k+1)+1):Int)=k+((1+1:Nat):Int) by omega]) x k bo (by omega) (by omega)
 exact⟨cw,c,by omega,af,aF⟩
theorem Oe (x:afj) (k:Int) (bo:0<=k) (U:k+64*(g7 (λx=>x.length+0) x)<=1099511627776):∃(cw:afj) (c:Nat),c<=64*(g7 (λx=>x.length+0) x)/\yt x k=some (k+(c:Int),cw)/\yw cw k=some (k+(c:Int)):=by
 unfold yt yw;have e:gZ (λx=>64*((x.length+0)+1)) x=64*g7 (λx=>x.length+0) x:=Hs (λx=>x.length+0) x;have hl:x.length<=g7 (λx=>x.length+0) x:=sc _ _;obtain⟨cw,c,ae,af,aF⟩:=Cb (l:=vP) (hl:=vU) (λx=>64*((x.length+0)+1)) (λm v k=>by simp only[vP,Gh];rw[ey (Nat.le_refl _)];rfl) (λa m k=>by simp only[vU,Gl];rw[ey (Nat.le_refl _)];rfl) (λx k bo U=>by
  obtain⟨e_,bA,ie,el,gj⟩:=Od x k (by omega) (by omega);have kB:=qk (k:=(k+(bA:Int))) (by omega);refine⟨e_,bA,by omega,λm d r ai=>⟨?_,?_⟩⟩
  .simp only[vP,Gh];rw[sf];simp only[cond_true,se,Ca,bind_some,el];rw[sg ai]
  .simp only[vU,Gl];rw[sf];simp only[cond_true,cond_false,se,bind_some,bne_self_eq_false,beq_self_eq_true,Bool.not_true,gj,kB];rw[sg ai]) x k bo (by omega) (by omega)
 exact⟨cw,c,by omega,af,aF⟩
theorem abR (x:afn) (k:Int) (bo:0<=k) (U:k+64*(g7 jx x)<=1099511627776):∃(cw:afn) (c:Nat),c<=64*(g7 jx x)/\BH x k=some (k+(c:Int),cw)/\BI cw k=some (k+(c:Int)):=by
 unfold BH BI;have e:gZ (λx=>64*((jx x)+1)) x=64*g7 jx x:=Hs jx x;have hl:x.length<=g7 jx x:=sc _ _;obtain⟨cw,c,ae,af,aF⟩:=Cb (l:=vQ) (hl:=vV) (λx=>64*((jx x)+1)) (λm v k=>by simp only[vQ,Gi];rw[ey (Nat.le_refl _)];rfl) (λa m k=>by simp only[vV,Gm];rw[ey (Nat.le_refl _)];rfl) (λx k bo U=>by
  simp only[jx]at U⊢;obtain⟨e_,bA,ie,el,gj⟩:=Hv x.br k (by omega) (by omega);have kB:=qk (k:=(k+(bA:Int))) (by omega);obtain⟨iD,bK,hp,fJ,fQ⟩:=Od x.Guard (k+(bA:Int)) (by omega) (by omega);have b9:=qk (k:=((k+(bA:Int))+(bK:Int))) (by omega);obtain⟨iE,t3⟩:=abQ ((k+(bA:Int))+(bK:Int)) (by omega) (by omega);have pY:IntKind.i64.wrap (((k+(bA:Int))+(bK:Int))+1)=((k+(bA:Int))+(bK:Int))+1:=h_ _ (by omega);obtain⟨rk,jS,cG,jT,gK⟩:=Oe x.bD (((k+(bA:Int))+(bK:Int))+1) (by omega) (by omega);have fz:=qk (k:=((((k+(bA:Int))+(bK:Int))+1)+(jS:Int))) (by omega);obtain⟨Cc,pO,de,j9,ku⟩:=Oe x.Next ((((k+(bA:Int))+(bK:Int))+1)+(jS:Int)) (by omega) (by omega);have eW:=qk (k:=(((((k+(bA:Int))+(bK:Int))+1)+(jS:Int))+(pO:Int))) (by omega);refine⟨(bc.mk e_ iD iE rk Cc),bA+bK+1+jS+pO,by omega,λm d r ai=>⟨?_,?_⟩⟩
  .simp only[vQ,Gi];rw[sf];simp only[cond_true,se,Ca,bind_some,el,fJ,t3,pY,jT,j9];rw[sg ai];rw[show((((((k+(bA:Int))+(bK:Int))+1)+(jS:Int))+(pO:Int)):Int)=k+((bA+bK+1+jS+pO:Nat):Int) by omega]
  .simp only[vV,Gm];rw[sf];simp only[cond_true,cond_false,se,bind_some,bne_self_eq_false,beq_self_eq_true,Bool.not_true,gj,kB,fQ,b9,gK,fz,ku,eW,t3,pY];rw[sg ai];rw[show((((((k+(bA:Int))+(bK:Int))+1)+(jS:Int))+(pO:Int)):Int)=k+((bA+bK+1+jS+pO:Nat):Int) by omega]) x k bo (by omega) (by omega)
 exact⟨cw,c,by omega,af,aF⟩
theorem Of (x:bg) (k:Int) (bo:0<=k) (U:k+64*((me x)+1)<=1099511627776):∃(hV:Int) (e_:afb) (iD:afn) (c:Nat),c<=64*((me x)+1)/\yu x.bz x.Start x.bu k=some (k+(c:Int),hV,e_,iD)/\yx (bg.mk hV e_ iD) k=some (k+(c:Int)):=by
 unfold yu yx;simp only[me]at U⊢;obtain⟨e_,bA,ie,el,gj⟩:=Hv x.Start k (by omega) (by omega);have kB:=qk (k:=(k+(bA:Int))) (by omega);obtain⟨iD,bK,hp,fJ,fQ⟩:=abR x.bu (k+(bA:Int)) (by omega) (by omega);have b9:=qk (k:=((k+(bA:Int))+(bK:Int))) (by omega);refine⟨x.bz,e_,iD,bA+bK,by omega,?_,?_⟩
 .simp only[bind_some,el,fJ];rw[show(k+((bA+bK:Nat):Int))=((k+(bA:Int))+(bK:Int)) by omega]
 .simp only[bind_some,cond_false,bne_self_eq_false,beq_self_eq_true,Bool.not_true,gj,kB,fQ,b9];rw[show(k+((bA+bK:Nat):Int))=((k+(bA:Int))+(bK:Int)) by omega]
def g8 (t:aD):Nat:=if t.Kind=2 then 2 else if t.Kind=3 then 1 else 0
theorem y5 (t:aD):g8 t<=2:=by unfold g8;split<;>(try split)<;>omega
theorem Og (t:aD):cond (t.Kind==2) (some 2) (cond (t.Kind==3) (some 1) (some 0))=some (g8 t:Int):=by
 unfold g8;by_cases af:t.Kind=2
 .simp[af]
 .by_cases aF:t.Kind=3
  .simp[aF]
  .have a3:(t.Kind==2)=false:=by simpa using af
   have aY:(t.Kind==3)=false:=by simpa using aF
   rw[a3,aY,if_neg af,if_neg aF];rfl
def hh (n dI aC:Int):Bool:=decide (dI<=n)&&decide (n<=aC)
def mS (t:aD) (v:Int):Bool:=cond (t.Kind==0) (hh t.Value 0 63) (cond (t.Kind==1) (hh t.Value 0 (v-1)) (cond (t.Kind==2) (hh t.Value 0 8) (cond (t.Kind==3) (t.Value==0) false)))
def kL (v:Int):afm->Nat->Bool
 |[],k=>k==0
 |t::r,k=> !(k==0)&&(mS t v&&kL v r (k+g8 t-1))
def hZ (e:afm) (v most:Int):Bool:=decide ((e.length:Int)<=most)&&kL v e 1
theorem abS (t:aD) (v:Int) (aH: -1000000<=v/\v<=1000000):AO t v=some (mS t v):=by
 unfold AO o7 mS hh;rw[h_ (v-1) (by omega)];cases t.Kind==0<;>cases t.Kind==1<;>cases t.Kind==2<;>cases t.Kind==3<;>rfl
theorem abT (t:aD) (v:Int) (aH: -1000000<=v/\v<=1000000):Bd t v=some (mS t v):=by
 unfold Bd A4 ni mS hh;rw[h_ (v-1) (by omega)];cases t.Kind==0<;>cases t.Kind==1<;>cases t.Kind==2<;>cases t.Kind==3<;>rfl
theorem Cd (t:aD):x2 t=some (g8 t:Int):=Og t
theorem Oh (t:aD):Be t=some (g8 t:Int):=Og t
theorem Hw {k a:Nat} (aj:1<=k) (oG:k<=100000000) (b8:a<=2):IntKind.i64.wrap ((k:Int)+IntKind.i64.wrap ((a:Int)-1))=((k+a-1:Nat):Int):=by
 rw[h_ ((a:Int)-1) (by omega),h_ _ (by omega)];omega
theorem Ce (k:Nat):((k:Int)==0)=(k==0):=by
 by_cases h:k=0
 .subst h;rfl
 .have ae:((k:Int)==0)=false:=by simp;omega
  have af:(k==0)=false:=by simpa using h
  rw[ae,af]
theorem Oi (e:afm) (v most:Int) (aH: -1000000<=v/\v<=1000000) (he:e.length<=1048576):x3 e v most=some (hZ e v most):=by
 unfold x3 hZ;by_cases hm:(e.length:Int)<=most
 .have d1:decide (most<(e.length:Int))=false:=by simp;omega
  have d2:decide ((e.length:Int)<=most)=true:=by simpa using hm
  rw[d1,d2,cond_false,Bool.true_and];have key:∀i,i<=e.length->∀(k:Nat) m,k<=1+2*i->e.length-i<m->u7 e v m (k:Int) (i:Int)=some (kL v (e.drop i) k):=by
   refine down e.length ?_ ?_
   .intro k m _ hm;obtain⟨m,rfl⟩:∃j,m=j+1:=⟨m-1,by omega⟩
    simp only[u7,E9];rw[ey (Nat.le_refl _),List.drop_of_length_le (Nat.le_refl _),Ce];rfl
   .intro i aC ih k m aj hm;obtain⟨m,rfl⟩:∃j,m=j+1:=⟨m-1,by omega⟩
    simp only[u7,E9];rw[fj aC,fA _ i aC,eE i _ aC (by omega),drop_cons e i aC,Ce];simp only[cond_true,bind_some,abS _ v aH,Cd,kL];by_cases bo:k=0
    .subst bo;rfl
    .have U:(k==0)=false:=by simpa using bo
     have b8:=y5 e[i];rw[U,Hw (by omega) (by omega) b8,ih _ m (by omega) (by omega)];simp only[cond_false,Bool.not_false,Bool.true_and];cases mS e[i] v<;>rfl
  refine gQ (e.length+1) λm hm=>?_;have:=key 0 (by omega) 1 m (by omega) (by omega);simpa using this
 .have d1:decide (most<(e.length:Int))=true:=by simp;omega
  have d2:decide ((e.length:Int)<=most)=false:=by simpa using hm
  rw[d1,d2];rfl
theorem abU (e:afm) (v most:Int) (aH:0<=v/\v<=29) (aeZ:1<=most/\most<=60) (he:e.length<=1048576):Bf e v most=some (hZ e v most):=by
 unfold Bf ni hZ;have d1:(!(decide (0<=v)&&decide (v<=29)))=false:=by simp;omega
 have d2:(!(decide (1<=most)&&decide (most<=60)))=false:=by simp;omega
 simp only[bind_some,d1,d2,cond_false];by_cases ae:e.length=0
 .have:e=[]:=List.length_eq_zero_iff.1 ae;subst this;simp[kL]
 .by_cases hm:(e.length:Int)<=most
  .have d3:(!(decide ((1:Int)<=(e.length:Int))&&decide ((e.length:Int)<=most)))=false:=by simp;omega
   have d4:decide ((e.length:Int)<=most)=true:=by simpa using hm
   rw[d3,d4,cond_false,Bool.true_and];have key:∀i,i<=e.length->∀(k:Nat) m,k<=1+2*i->e.length-i<m->vx e v m (k:Int) (i:Int)=some (kL v (e.drop i) k):=by
    refine down e.length ?_ ?_
    .intro k m _ hm;obtain⟨m,rfl⟩:∃j,m=j+1:=⟨m-1,by omega⟩
     simp only[vx,FF];rw[ey (Nat.le_refl _),List.drop_of_length_le (Nat.le_refl _),Ce];rfl
    .intro i aC ih k m aj hm;obtain⟨m,rfl⟩:∃j,m=j+1:=⟨m-1,by omega⟩
     simp only[vx,FF];rw[fj aC,fA _ i aC,eE i _ aC (by omega),drop_cons e i aC,Ce];simp only[cond_true,bind_some,abT _ v (by omega),Oh,kL];by_cases bo:k=0
     .subst bo;rfl
     .have U:(k==0)=false:=by simpa using bo
      have b8:=y5 e[i];rw[U,Hw (by omega) (by omega) b8,ih _ m (by omega) (by omega)];simp only[cond_false,Bool.not_false,Bool.true_and];cases mS e[i] v<;>rfl
   refine gQ (e.length+1) λm hm=>?_;have:=key 0 (by omega) 1 m (by omega) (by omega);simpa using this
  .have d3:(!(decide ((1:Int)<=(e.length:Int))&&decide ((e.length:Int)<=most)))=true:=by simp;omega
   have d4:decide ((e.length:Int)<=most)=false:=by simpa using hm
   rw[d3,d4];rfl
def small (c:UInt8):Bool:=decide (97<=(c.toNat:Int))&&decide ((c.toNat:Int)<=122)
def digit (c:UInt8):Bool:=decide (48<=(c.toNat:Int))&&decide ((c.toNat:Int)<=57)
def t_ (s:nq):Bool:=decide (s.length<=10)&&(match s with|[]=>false|c::r=>small c&&r.all λc=>small c||digit c)
theorem abV (s:nq):AP s=some (t_ s):=by
 unfold AP;cases s with
 |nil=>rfl
 |cons c r=>
  have fE:((c::r)==([]:nq))=false:=rfl;rw[fE];simp only[cond_false];by_cases gp:10<(c::r).length
  .have:decide ((10:Int)<((c::r).length:Int))=true:=by simp at gp⊢;omega
   rw[this];have af:decide ((c::r).length<=10)=false:=by simp at gp⊢;omega
   simp only[t_,af];rfl
  .have:decide ((10:Int)<((c::r).length:Int))=false:=by simp at gp⊢;omega
   rw[this];have af:decide ((c::r).length<=10)=true:=by simp at gp⊢;omega
   rw[sb];simp only[cond_false,bind_some,x5];simp only[t_,af,Bool.true_and];show cond (!small c) _ _=_;cases aa:small c with
   |false=>rfl
   |true=>
    simp only[Bool.not_true,cond_false];rw[B5 (n:=(c::r).length) (λi=>some (((c::r).drop i).all λc=>small c||digit c))]
    .simp[aa]
    .intro m;simp only[x6,Fb];rw[ey (Nat.le_refl _)];simp
    .intro i aC m ih;simp only[x6,Fb];rw[fj aC,fA _ i aC,eE i _ aC (by omega),ih,drop_cons _ i aC];simp only[cond_true,bind_some,x5,Fa,List.all_cons];show cond (!small _) (cond (!digit _) _ _) _=_;cases small (c::r)[i]<;>cases digit (c::r)[i]<;>rfl
theorem abW (s:nq) (aa:s.length<=140737488355328):A9 s=some (t_ s):=by
 unfold A9;have bb:∀m,s.length-1<m->1<=s.length->r4 s m ((1:Nat):Int)=some (((s.drop 1).all λc=>small c||digit c)&&(decide (1<=(s.length:Int))&&decide ((s.length:Int)<=10))):=by
  intro m hm ae;refine down s.length (P:=λi=>1<=i->∀m,s.length-i<m->r4 s m (i:Int)=some (((s.drop i).all λc=>small c||digit c)&&(decide (1<=(s.length:Int))&&decide ((s.length:Int)<=10)))) ?_ ?_ 1 ae (Nat.le_refl _) m hm
  .intro _ m hm;obtain⟨k,rfl⟩:∃k,m=k+1:=⟨m-1,by omega⟩
   simp only[r4,A8];rw[ey (Nat.le_refl _)];simp
  .intro i aC ih DT m hm;obtain⟨k,rfl⟩:∃k,m=k+1:=⟨m-1,by omega⟩
   simp only[r4,A8];rw[fj aC,fA _ i aC,eE i _ aC (by omega),ih (by omega) k (by omega),drop_cons _ i aC];have e:((i:Int)==0)=false:=by simp;omega
   rw[e];simp only[cond_true,cond_false,bind_some,Fz,List.all_cons];show cond (!small _) (cond (!digit _) _ _) _=_;cases small s[i]<;>cases digit s[i]<;>rfl
 refine gQ (s.length+1) λm hm=>?_;obtain⟨k,rfl⟩:∃k,m=k+1:=⟨m-1,by omega⟩
 simp only[r4,A8];cases s with
 |nil=>rfl
 |cons c r=>
  have aj:=bb k (by simp at hm⊢;omega) (by simp);rw[show((1:Nat):Int)=1 from rfl]at aj;rw[Hm (by simp),sb,abz,aj];have e:((0:Int)==0)=true:=rfl;rw[e];simp only[cond_true,t_];show cond (!small c) _ _=_;have ae:decide (1<=((c::r).length:Int))=true:=by simp;omega
  have af:decide (((c::r).length:Int)<=10)=decide ((c::r).length<=10):=by
   by_cases h:(c::r).length<=10<;>simp at h⊢<;>omega
  rw[ae,af];cases small c with
  |false=>simp
  |true=>simp[Bool.and_comm]
section
variable {α β:Type}
theorem abX {l:Nat->Int->Option β} (a:List α) (F:List α->Option β) (bo:∀m,l (m+1) (a.length:Int)=F [])
  (aa:∀i (h:i<a.length) m,l m ((i+1:Nat):Int)=F (a.drop (i+1))->l (m+1) (i:Int)=F (a[i]::a.drop (i+1))):cA (λm=>l m 0)=F a:=by
 rw[B5 (n:=a.length) (λi=>F (a.drop i))]
 .simp
 .intro m;rw[bo,List.drop_of_length_le (Nat.le_refl _)]
 .intro i aC m ih;rw[drop_cons a i aC];exact aa i aC m ih
theorem Cf {l:Nat->Int->afd} (a:List α) (p:α->Bool) (bo:∀m,l (m+1) (a.length:Int)=some true)
  (aa:∀i (h:i<a.length) m,l (m+1) (i:Int)=cond (p a[i]) (l m ((i+1:Nat):Int)) (some false)):cA (λm=>l m 0)=some (a.all p):=by
 refine abX a (λr=>some (r.all p)) bo λi h m ih=>?_;rw[aa i h m,ih,List.all_cons];cases p a[i]<;>rfl
def iM (p:α->Bool):Nat->List α->Int
 |_,[]=> -1
 |i,x::r=>if p x=true then(i:Int)else iM p (i+1) r
theorem wj (p:α->Bool):∀(r:List α) (i:Nat),decide (0<=iM p i r)=r.any p
 |[],i=>by simp[iM]
 |x::r,i=>by
  simp only[iM,List.any_cons];by_cases h:p x=true
  .simp[h]
  .have e:p x=false:=by simpa using h
   simp[e,wj p r (i+1)]
theorem Hx {l:Nat->Int->afe} (a:List α) (p:α->Bool) (bo:∀m,l (m+1) (a.length:Int)=some (-1))
  (aa:∀i (h:i<a.length) m,l (m+1) (i:Int)=cond (p a[i]) (some (i:Int)) (l m ((i+1:Nat):Int))):cA (λm=>l m 0)=some (iM p 0 a):=by
 have key:∀i,i<=a.length->∀m,a.length-i<m->l m (i:Int)=some (iM p i (a.drop i)):=by
  refine down a.length ?_ ?_
  .intro m hm;obtain⟨m,rfl⟩:∃j,m=j+1:=⟨m-1,by omega⟩
   rw[bo,List.drop_of_length_le (Nat.le_refl _)];rfl
  .intro i aC ih m hm;obtain⟨m,rfl⟩:∃j,m=j+1:=⟨m-1,by omega⟩
   rw[aa i aC m,ih m (by omega),drop_cons a i aC];simp only[iM];cases p a[i]<;>rfl
 refine gQ (a.length+1) λm hm=>?_;have:=key 0 (by omega) m (by omega);simpa using this
theorem wk {l:Nat->Int->afe} {f:α->afd} (a:List α) (p:α->Bool)
  (lD:∀m i,l (m+1) i=cond (decide (i<(a.length:Int))) ((bG a i).bind λx=>(f x).bind λy=>cond y (some i) (l m (IntKind.i64.wrap (i+1)))) (some (-1)))
  (a8:∀x∈a,f x=some (p x)) (b8:a.length<=1099511627776):cA (λm=>l m 0)=some (iM p 0 a):=by
 refine Hx a p (λm=>by rw[lD,ey (Nat.le_refl _)];rfl) λi h m=>?_;rw[lD,fj h,fA _ i h,eE i _ h (by omega)];simp only[cond_true,bind_some,a8 _ (List.getElem_mem h)]
theorem Cg (a:List α) (p:α->Bool):(a.any λx=> !p x)= !(a.all p):=by
 induction a with
 |nil=>rfl
 |cons x r ih=>simp only[List.any_cons,List.all_cons,ih];cases p x<;>simp
end
end Go.nc
