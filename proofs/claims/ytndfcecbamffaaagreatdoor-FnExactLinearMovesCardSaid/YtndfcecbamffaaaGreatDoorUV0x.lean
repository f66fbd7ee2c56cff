/- Part of a proof that a law returns true for every input. No condition. -/
import Derived.Test.YtndfcecbamffaaaGreatDoorFwA
import Derived.IntWalk
import Derived.Test.YtndfcecbamffaaaGreatDoorP3
namespace Go.mY
open Option Nat Or
open Go Go.cG
theorem fB (n:Int) (h: -9223372036854775808<=n/\n<=9223372036854775807):IntKind.i64.wrap n=n:=IntWalk.i64_in n h
theorem fX {α:Type} (a:List α) (i:Nat) (h:i<a.length):cg a (i:Int)=some a[i]:=by
 rw[NW (by omega) (by simpa using h)];rfl
theorem hx (i n:Nat) (h:i<n) (aO:n<=4611686018427387904):IntKind.i64.wrap ((i:Int)+1)=((i+1:Nat):Int):=by
 rw[fB _ (by omega)];omega
theorem hG {i n:Nat} (h:i<n):decide ((i:Int)<(n:Int))=true:=by simp;omega
theorem gq {i n:Nat} (h:n<=i):decide ((i:Int)<(n:Int))=false:=by simp;omega
theorem F6 {α:Type} (c:α) (r:List α):cg (c::r) 0=some c:=rfl
theorem F4 {n:Nat} (h:0<n):decide ((0:Int)<(n:Int))=true:=by simp;omega
theorem Y1:IntKind.i64.wrap (0+1)=1:=by decide
theorem down (n:Nat) {P:Nat->Prop} (bg:P n) (J:∀i,i<n->P (i+1)->P i):∀i,i<=n->P i:=by
 have key:∀d,d<=n->P (n-d):=by
  intro d;induction d with
  |zero=>intro _;exact bg
  |succ d ih=>
   intro ad;have:=ih (by omega);refine J _ (by omega) ?_;rw[show n-(d+1)+1=n-d by omega];exact this
 intro i ax;have:=key (n-i) (by omega)
 rwa [show n-(n-i)=i by omega]at this
theorem up {β:Type} {l:Nat->Int->Option β} {n:Nat} (F:Nat->Option β) (bg:∀m,l (m+1) (n:Int)=F n)
  (J:∀i,i<n->∀m,(l m ((i+1:Nat):Int)=F (i+1))->l (m+1) (i:Int)=F i):∀i,i<=n->∀m,n-i<m->l m (i:Int)=F i:=by
 refine down n ?_ ?_
 .intro m hm;obtain⟨k,rfl⟩:∃k,m=k+1:=⟨m-1,by omega⟩
  exact bg k
 .intro i ax ih m hm;obtain⟨k,rfl⟩:∃k,m=k+1:=⟨m-1,by omega⟩
  exact J i ax k (ih k (by omega))
theorem yg {β:Type} {l:Nat->Int->Option β} {n:Nat} (F:Nat->Option β) (bg:∀m,l (m+1) (n:Int)=F n)
  (J:∀i,i<n->∀m,(l m ((i+1:Nat):Int)=F (i+1))->l (m+1) (i:Int)=F i):cL (λm=>l m 0)=F 0:=
 fZ (n+1) λm hm=>up F bg J 0 (by omega) m (by omega)
theorem drop_cons {α:Type} (a:List α) (i:Nat) (h:i<a.length):a.drop i=a[i]::a.drop (i+1):=List.drop_eq_getElem_cons h
def iH (n:Int) (s:Nat):Int:=if(s:Int)<=n then n-s else-1
theorem F7 {n:Int} {s:Nat} (h:(s:Int)<=n):iH n s=n-s:=if_pos h
theorem A3 {n:Int} {s:Nat} (h:n<s):iH n s= -1:=if_neg (by omega)
theorem Y2 {n:Int} (h:0<=n):iH n 0=n:=by rw[F7 (by simpa using h)];simp
theorem tF {f:acg} {k:Int->acg} {n:Int} {s t:Nat} (bf:f=some (iH n s)) (ak:(s:Int)<=n->k (n-s)=some (iH (n-s) t)):
  (f.bind λx=>cond (decide (x<0)) (some (-1)) (k x))=some (iH n (s+t)):=by
 rw[bf];simp only[bind_some];by_cases h:(s:Int)<=n
 .rw[F7 h];have:decide (n-(s:Int)<0)=false:=by simp;omega
  rw[this,cond_false,ak h];congr 1;unfold iH;by_cases U:(t:Int)<=n-s
  .rw[if_pos U,if_pos (by omega)];omega
  .rw[if_neg U,if_neg (by omega)]
 .rw[A3 (by omega)];have:decide ((-1:Int)<0)=true:=by decide
  rw[this,cond_true,A3 (by omega)]
theorem yh {K:acg} {n:Int} {s t:Nat} (J:s<=9223372036854775807) (bg:0<=n) (aO:n<=1048576) (ak:(s:Int)<=n->K=some (iH (n-s) t)):
  cond (decide (IntKind.i64.wrap (n-(s:Int))<0)) (some (-1)) K=some (iH n (s+t)):=by
 rw[fB _ (by omega)];by_cases h:(s:Int)<=n
 .have:decide (n-(s:Int)<0)=false:=by simp;omega
  rw[this,cond_false,ak h];congr 1;unfold iH;by_cases U:(t:Int)<=n-s
  .rw[if_pos U,if_pos (by omega)];omega
  .rw[if_neg U,if_neg (by omega)]
 .have:decide (n-(s:Int)<0)=true:=by simp;omega
  rw[this,cond_true,A3 (by omega)]
theorem yi {n:Int} (h:0<=n):some n=some (iH n 0):=by rw[Y2 h]
def fo {α:Type} (f:α->Nat):List α->Nat
 |[]=>0
 |x::r=>f x+fo f r
theorem MJ {α:Type} {f:α->Nat}:∀{l:List α} {x:α},x∈l->f x<=fo f l
 |y::r,x,h=>by
  simp only[fo];rcases List.mem_cons.1 h with rfl|h
  .omega
  .have:=MJ (f:=f) h;omega
theorem MK {α β:Type} {f:β->Nat} {g:α->β}:∀l:List α,fo f (l.map g)=fo (λx=>f (g x)) l
 |[]=>rfl
 |x::r=>by simp only[List.map_cons,fo,MK r]
def fY {α:Type} (f:α->Nat) (l:List α):Nat:=l.length+fo f l
theorem ML {α β:Type} (f:β->Nat) (g:α->β) (l:List α):fY f (l.map g)=fY (λx=>f (g x)) l:=by simp only[fY,List.length_map,MK]
theorem qK {α:Type} (f:α->Nat) (l:List α):l.length<=fY f l:=le_add_right _ _
theorem vF {α:Type} {f:α->Nat} {l:List α} {x:α} (h:x∈l):f x<=fY f l:=Nat.le_trans (MJ h) (le_add_left _ _)
theorem Y3 {α:Type} {l:Nat->Int->Int->acg} {B:α->Int->(Int->acg)->acg} (sz:α->Nat) (a:List α)
  (lq:∀m n i,l (m+1) n i=cond (decide (i<(a.length:Int))) ((cg a i).bind λx=>B x n λy=>l m y (IntKind.i64.wrap (i+1))) (some n))
  (bf:∀x∈a,∀(n:Int) (k:Int->acg) (t:Nat),0<=n->n<=1048576->((sz x:Int)<=n->k (n-sz x)=some (iH (n-sz x) t))->B x n k=some (iH n (sz x+t)))
  (bx:a.length<=1048576) (n:Int) (bg:0<=n) (aO:n<=1048576):cL (λm=>l m n 0)=some (iH n (fo sz a)):=by
 have key:∀i,i<=a.length->∀n:Int,0<=n->n<=1048576->∀m,a.length-i<m->l m n (i:Int)=some (iH n (fo sz (a.drop i))):=by
  refine down a.length ?_ ?_
  .intro n bg _ m hm;obtain⟨k,rfl⟩:∃k,m=k+1:=⟨m-1,by omega⟩
   rw[lq,gq (Nat.le_refl _),cond_false,List.drop_of_length_le (Nat.le_refl _)];exact yi bg
  .intro i ax ih n bg aO m hm;obtain⟨k,rfl⟩:∃k,m=k+1:=⟨m-1,by omega⟩
   rw[lq,hG ax,cond_true,fX _ i ax,hx i _ ax (by omega),drop_cons a i ax];simp only[bind_some,fo];exact bf _ (List.getElem_mem ax) n _ _ bg aO λh=>ih _ (by omega) (by omega) k (by omega)
 refine fZ (a.length+1) λm hm=>?_;have:=key 0 (by omega) n bg aO m (by omega);simpa using this
theorem MM {α:Type} {l:Nat->Int->Int->acg} {f:α->Int->acg} (sz:α->Nat) (a:List α)
  (lq:∀m n i,l (m+1) n i=cond (decide (i<(a.length:Int))) ((cg a i).bind λx=>(f x n).bind λy=>cond (decide (y<0)) (some (-1)) (l m y (IntKind.i64.wrap (i+1)))) (some n))
  (bf:∀x∈a,∀n:Int,0<=n->n<=1048576->f x n=some (iH n (sz x))) (bx:a.length<=1048576) (n:Int) (bg:0<=n) (aO:n<=1048576):cL (λm=>l m n 0)=some (iH n (fo sz a)):=
 Y3 (B:=λx n k=>(f x n).bind λy=>cond (decide (y<0)) (some (-1)) (k y)) sz a lq (λx ae n _ _ bg aO ak=>tF (bf x ae n bg aO) ak) bx n bg aO
theorem A4 {α β:Type} {l:Nat->List β->Int->Option (List β)} {f:α->Option β} (g:α->β) (a:List α) (z:β)
  (lq:∀m v i,l (m+1) v i=cond (decide (i<(a.length:Int))) ((cg a i).bind λx=>(f x).bind λy=>(cg v i).bind λ_=>l m (List.set v (Int.toNat i) y) (IntKind.i64.wrap (i+1))) (some v))
  (bf:∀x∈a,f x=some (g x)) (bx:a.length<=1048576):cL (λm=>l m (List.replicate (Int.toNat (a.length:Int)) z) 0)=some (a.map g):=by
 have key:∀i,i<=a.length->∀(v:List β) m,v.length=a.length->a.length-i<m->l m v (i:Int)=some (v.take i++(a.drop i).map g):=by
  refine down a.length ?_ ?_
  .intro v m aE hm;obtain⟨k,rfl⟩:∃k,m=k+1:=⟨m-1,by omega⟩
   rw[lq,gq (Nat.le_refl _)];simp[<-aE]
  .intro i ax ih v m aE hm;obtain⟨k,rfl⟩:∃k,m=k+1:=⟨m-1,by omega⟩
   rw[lq,hG ax,fX _ i ax,hx i _ ax (by omega)];simp only[cond_true,bind_some,bf _ (List.getElem_mem ax)];rw[fX v i (by omega)];simp only[bind_some,Int.toNat_natCast];rw[ih _ k (by simp[aE]) (by omega),drop_cons a i ax,List.map_cons,List.take_set,List.take_succ_eq_append_getElem (by omega),List.set_append_right _ _ (by simp;omega)];simp[show min i v.length=i by omega]
 refine fZ (a.length+1) λm hm=>?_;have:=key 0 (by omega) (List.replicate (Int.toNat (a.length:Int)) z) m (by simp) (by omega);simpa using this
theorem tG (b:Nat) {n:Nat} (h:n<=1048576) (I:b<=4096):kz b (n:Int)=some ():=by
 have R:b*n<=4096*1048576:=Nat.mul_le_mul I h;have U:((b:Int)*(n:Int))=((b*n:Nat):Int):=by simp
 unfold kz;rw[if_pos ⟨by omega,by rw[U];omega,by omega⟩]
theorem A5 {α:Type} {l:Nat->Int->acf} {f:α->α->acf} (a:List α)
  (lq:∀m i,l (m+1) i=cond (decide (i<(a.length:Int))) ((cg a i).bind λx=>(cg a i).bind λy=>(f x y).bind λz=>cond (!z) (some false) (l m (IntKind.i64.wrap (i+1)))) (some true))
  (bf:∀x∈a,f x x=some true) (bx:a.length<=1048576):cL (λm=>l m 0)=some true:=by
 rw[yg (n:=a.length) (λ_=>some true)]
 .intro m;rw[lq,gq (Nat.le_refl _)];rfl
 .intro i ax m ih;rw[lq,hG ax,fX _ i ax,hx i _ ax (by omega),ih];simp only[cond_true,bind_some,bf _ (List.getElem_mem ax),Bool.not_true,cond_false]
theorem Y4 {α:Type} {d:α->α->Bool} {l:Nat->Int->acf} (a:List α)
  (lq:∀m i,l (m+1) i=cond (decide (i<(a.length:Int))) ((cg a i).bind λx=>(cg a i).bind λy=>cond (d x y) (some false) (l m (IntKind.i64.wrap (i+1)))) (some true))
  (ad:∀x,d x x=false) (bx:a.length<=1048576):cL (λm=>l m 0)=some true:=by
 rw[yg (n:=a.length) (λ_=>some true)]
 .intro m;rw[lq,gq (Nat.le_refl _)];rfl
 .intro i ax m ih;rw[lq,hG ax,fX _ i ax,hx i _ ax (by omega),ih];simp only[cond_true,bind_some,ad,cond_false]
theorem yj (x:Int):(x !=x)=false:=by simp
theorem A6 (x:aca):(!(x==x))=false:=by simp
theorem A7 (x:Bool):(!(x==x))=false:=by simp
theorem yk (n:Nat):((n:Int) !=(n:Int))=false:=by simp
def qL (b:Bool):Int:=cond b 1 0
theorem A8 (b:Bool):(cond b (some 1) (some 0):acg)=some (qL b):=by cases b<;>rfl
theorem Y5 {α:Type} (x:α) (l:List α):iS (x::l) 1 (((x::l).length:Nat):Int)=some l:=by
 unfold iS;rw[if_pos (by simp only[List.length_cons];omega)];simp
theorem pT {b n:Nat} (h:n*b<=140737488355328) (U:n<=9223372036854775807):room b n=some ():=by unfold room;rw[if_pos ⟨h,U⟩]
theorem tH {α:Type} (d:List α) (x:α) (r:List α):cg (d++x::r) (d.length:Int)=some x:=by
 rw[fX _ _ (by simp)];simp
theorem yl {α:Type} (d:List α) (x y:α) (r:List α):List.set (d++x::r) (Int.toNat (d.length:Int)) y=d++y::r:=by
 simp
theorem A9 {k:Int} (h:0<=k):decide (k<0)=false:=by simp;omega
theorem tI {α:Type} (d:List α) (x:α) (r:List α):decide ((d.length:Int)<((d++x::r).length:Int))=true:=by simp;omega
theorem tJ {α:Type} {d:List α} (h:d.length<=1099511627776):IntKind.i64.wrap ((d.length:Int)+1)=((d.length+1:Nat):Int):=by rw[fB _ (by omega)];omega
theorem A_ {α:Type} (f:α->Nat):∀a:List α,fo (λx=>64*(f x+1)) a=64*fY f a
 |[]=>rfl
 |x::r=>by
  have:=A_ f r;unfold fY at this⊢;simp only[fo,List.length_cons];omega
theorem F8 {α:Type} (n:Nat):∀a:List α,fo (λ_=>n) a=n*a.length
 |[]=>rfl
 |x::r=>by simp only[fo,F8 n r,List.length_cons,Nat.mul_add];omega
theorem F9 {α:Type} {l:Nat->List α->Int->Int->Option (Int×List α)} (w:α->Nat) (bg:∀m (v:List α) k,l (m+1) v k (v.length:Int)=some (k,v))
  (J:∀x (k:Int),0<=k->k+w x<=1099511627776->∃cy c,c<=w x/\∀m (d r:List α),d.length<=1099511627776->l (m+1) (d++x::r) k (d.length:Int)=l m (d++cy::r) (k+(c:Nat)) ((d.length+1:Nat):Int))
  (a:List α) (k:Int) (ak:0<=k) (hl:a.length<=1099511627776) (I:k+fo w a<=1099511627776):∃bG c,c<=fo w a/\cL (λn=>l n a k 0)=some (k+(c:Nat),bG):=by
 have key:∀(r:List α) (k:Int),0<=k->k+fo w r<=1099511627776->∃gl c,c<=fo w r/\∀(d:List α) (m:Nat),d.length+r.length<=1099511627776->r.length<m->l m (d++r) k (d.length:Int)=some (k+(c:Nat),d++gl):=by
  intro r;induction r with
  |nil=>
   intro k _ _;refine⟨[],0,Nat.le_refl _,λd m _ hm=>?_⟩;obtain⟨m,rfl⟩:∃aB,m=aB+1:=⟨m-1,by omega⟩
   rw[List.append_nil,bg];simp
  |cons x r ih=>
   intro k R U;simp only[fo]at U;obtain⟨cy,c,bK,bJ⟩:=J x k R (by omega);obtain⟨gl,jy,aH,aN⟩:=ih (k+c) (by omega) (by omega);refine⟨cy::gl,c+jy,by simp only[fo];omega,λd m ad hm=>?_⟩;simp only[List.length_cons]at ad hm;obtain⟨m,rfl⟩:∃aB,m=aB+1:=⟨m-1,by omega⟩
   rw[bJ m d r (by omega)];have:=aN (d++[cy]) m (by simp only[List.length_append,List.length_cons,List.length_nil];omega) (by omega);simp only[List.length_append,List.length_cons,List.length_nil,List.append_assoc,List.cons_append,List.nil_append,Nat.zero_add]at this;rw[this];simp only[some.injEq,Prod.mk.injEq,and_true];omega
 obtain⟨bG,c,aH,aN⟩:=key a k ak I;refine⟨bG,c,aH,fZ (a.length+1) λm hm=>?_⟩;have:=aN [] m (by simpa using hl) (by omega);simpa using this
theorem MN {α:Type} {l:Nat->List α->Int->Int->Option (Int×List α)} {hl:List α->Nat->Int->Int->acg} (w:α->Nat) (bg:∀m (v:List α) k,l (m+1) v k (v.length:Int)=some (k,v))
  (g0:∀(a:List α) m k,hl a (m+1) k (a.length:Int)=some k)
  (J:∀x (k:Int),0<=k->k+w x<=1099511627776->∃cy c,c<=w x/\∀m (d r:List α),d.length<=1099511627776->l (m+1) (d++x::r) k (d.length:Int)=l m (d++cy::r) (k+(c:Nat)) ((d.length+1:Nat):Int)/\
   hl (d++cy::r) (m+1) k (d.length:Int)=hl (d++cy::r) m (k+(c:Nat)) ((d.length+1:Nat):Int))
  (a:List α) (k:Int) (ak:0<=k) (MO:a.length<=1099511627776) (I:k+fo w a<=1099511627776):∃bG c,c<=fo w a/\cL (λn=>l n a k 0)=some (k+(c:Nat),bG)/\cL (λn=>hl bG n k 0)=some (k+(c:Nat)):=by
 have key:∀(r:List α) (k:Int),0<=k->k+fo w r<=1099511627776->∃gl c,c<=fo w r/\gl.length=r.length/\∀(d:List α) (m:Nat),d.length+r.length<=1099511627776->r.length<m->l m (d++r) k (d.length:Int)=some (k+(c:Nat),d++gl)/\
   hl (d++gl) m k (d.length:Int)=some (k+(c:Nat)):=by
  intro r;induction r with
  |nil=>
   intro k _ _;refine⟨[],0,Nat.le_refl _,rfl,λd m _ hm=>?_⟩;obtain⟨m,rfl⟩:∃aB,m=aB+1:=⟨m-1,by omega⟩
   rw[List.append_nil,bg,g0];simp
  |cons x r ih=>
   intro k R U;simp only[fo]at U;obtain⟨cy,c,bK,bJ⟩:=J x k R (by omega);obtain⟨gl,jy,aH,aP,aN⟩:=ih (k+c) (by omega) (by omega);refine⟨cy::gl,c+jy,by simp only[fo];omega,by simp only[List.length_cons,aP],λd m ad hm=>?_⟩;simp only[List.length_cons]at ad hm;obtain⟨m,rfl⟩:∃aB,m=aB+1:=⟨m-1,by omega⟩
   rw[(bJ m d r (by omega)).1,(bJ m d gl (by omega)).2];have:=aN (d++[cy]) m (by simp only[List.length_append,List.length_cons,List.length_nil];omega) (by omega);simp only[List.length_append,List.length_cons,List.length_nil,List.append_assoc,List.cons_append,List.nil_append,Nat.zero_add]at this;rw[this.1,this.2];simp only[some.injEq,Prod.mk.injEq,and_true];exact⟨by omega,by omega⟩
 obtain⟨bG,c,aH,aP,aN⟩:=key a k ak I;refine⟨bG,c,aH,fZ (a.length+1) λm hm=>?_,fZ (a.length+1) λm hm=>?_⟩
 .have:=(aN [] m (by simpa using MO) (by omega)).1;simpa using this
 .have:=(aN [] m (by simpa using MO) (by omega)).2;simpa using this
set_option linter.unusedSimpArgs false
theorem MP (x:acd) (n:Int) (ae:(x.length<=9223372036854775807/\∀y∈x,(-9223372036854775808<=y/\y<=9223372036854775807))) (bg:0<=n) (aO:n<=1048576):xo x n=some (iH n (x.length+0)):=by
 unfold xo;refine yh ae.1 bg aO λh=>?_;rw[fB _ (by omega)];exact yi (by omega)
theorem MQ (x:acn) (n:Int) (ae:(x.length<=9223372036854775807/\∀y∈x,rq y)) (bg:0<=n) (aO:n<=1048576):uX x n=some (iH n (x.length+0)):=by
 unfold uX;refine yh ae.1 bg aO λh=>?_;rw[fB _ (by omega)];exact yi (by omega)
theorem MR (x:ack) (n:Int) (ae:(x.length<=9223372036854775807/\∀y∈x,(y.length<=9223372036854775807/\∀z∈y,rq z))) (bg:0<=n) (aO:n<=1048576):xp x n=some (iH n (fY (λx=>x.length+0) x)):=by
 unfold xp;refine yh ae.1 bg aO λh=>?_;rw[fB _ (by omega)];exact MM (f:=uX) (λx=>x.length+0) x (λ_ _ _=>rfl) (λy a6 n bg aO=>MQ y n (ae.2 y a6) bg aO) (by omega) _ (by omega) (by omega)
def oR (x:iu):Nat:=((x.aY.length+0)+((x.Guard.length+0)+(x.Name.length+((fY (λx=>x.length+0) x.bP)+((fY (λx=>x.length+0) x.Next)+0)))))
theorem Y6 (x:iu) (n:Int) (ae:xn x) (bg:0<=n) (aO:n<=1048576):xq x n=some (iH n (oR x)):=by
 unfold xq;unfold oR;obtain⟨w0,kf,lP,mu,F3⟩:=ae;refine tF (MP _ _ w0 (by omega) (by omega)) λn5=>?_;refine tF (MQ _ _ kf (by omega) (by omega)) λbK=>?_;refine yh lP (by omega) (by omega) λbJ=>?_;rw[fB (((n-(((x.aY.length+0):Nat):Int))-(((x.Guard.length+0):Nat):Int))-(x.Name.length:Int)) (by omega)];refine tF (MR _ _ mu (by omega) (by omega)) λkI=>?_;refine tF (MR _ _ F3 (by omega) (by omega)) λhz=>?_;exact yi (by omega)
theorem Y7 (x:aco) (n:Int) (ae:(x.length<=9223372036854775807/\∀y∈x,xn y)) (bg:0<=n) (aO:n<=1048576):zK x n=some (iH n (fY oR x)):=by
 unfold zK;refine yh ae.1 bg aO λh=>?_;rw[fB _ (by omega)];exact MM (f:=xq) oR x (λ_ _ _=>rfl) (λy a6 n bg aO=>Y6 y n (ae.2 y a6) bg aO) (by omega) _ (by omega) (by omega)
def rS (x:lS):Nat:=((x.Start.length+0)+((fY oR x.cC)+0))
theorem Y8 (x:lS) (n:Int) (ae:zJ x) (bg:0<=n) (aO:n<=1048576):zL x n=some (iH n (rS x)):=by
 unfold zL;unfold rS;obtain⟨w0,kf,lP⟩:=ae;refine tF (MP _ _ kf (by omega) (by omega)) λbK=>?_;refine tF (Y7 _ _ lP (by omega) (by omega)) λbJ=>?_;exact yi (by omega)
theorem F_ (x:acd) (h:(x.length+0)<=1048576):qp x=some x:=by
 unfold qp;have hl:x.length<=1048576:=by omega
 rw[tG _ hl (by decide)];simp only[bind_some];rw[A4 (f:=some) id x _ (λ_ _ _=>rfl) (λ_ _=>rfl) hl,List.map_id]
def rT (x:gw):aM:=⟨x.Kind,x.Value⟩
theorem Y9 (x:gw):xr x=some (rT x):=by
 unfold xr;rfl
theorem MS (x:acn) (h:(x.length+0)<=1048576):uY x=some (x.map rT):=by
 unfold uY;have hl:x.length<=1048576:=by omega
 rw[tG _ hl (by decide)];simp only[bind_some];rw[A4 (f:=xr) rT x _ (λ_ _ _=>rfl) (λy a6=>Y9 y) hl]
theorem MT (x:ack) (h:(fY (λx=>x.length+0) x)<=1048576):xt x=some (x.map (List.map rT)):=by
 unfold xt;have hl:x.length<=1048576:=Nat.le_trans (qK _ _) h;rw[tG _ hl (by decide)];simp only[bind_some];rw[A4 (f:=uY) (List.map rT) x _ (λ_ _ _=>rfl) (λy a6=>MS y (Nat.le_trans (vF (f:=(λx=>x.length+0)) a6) h)) hl]
def vG (x:iu):bN:=⟨x.aY,(x.Guard.map rT),x.Name,(x.bP.map (List.map rT)),(x.Next.map (List.map rT))⟩
def j2 (x:bN):Nat:=((x.aY.length+0)+((x.Guard.length+0)+(x.Name.length+((fY (λx=>x.length+0) x.bP)+((fY (λx=>x.length+0) x.Next)+0)))))
theorem Y_ (x:iu):j2 (vG x)=oR x:=by
 simp only[j2,oR,vG,ML,List.length_map]
theorem Za (x:iu) (h:(oR x)<=1048576):xu x=some (vG x):=by
 unfold xu;unfold oR at h;rw[F_ _ (by omega),MS _ (by omega),MT _ (by omega),MT _ (by omega)];rfl
theorem Zb (x:aco) (h:(fY oR x)<=1048576):zM x=some (x.map vG):=by
 unfold zM;have hl:x.length<=1048576:=Nat.le_trans (qK _ _) h;rw[tG _ hl (by decide)];simp only[bind_some];rw[A4 (f:=xu) vG x _ (λ_ _ _=>rfl) (λy a6=>Za y (Nat.le_trans (vF (f:=oR) a6) h)) hl]
def ym (x:lS):ez:=⟨x.dS,x.Start,(x.cC.map vG)⟩
def pU (x:ez):Nat:=((x.Start.length+0)+((fY j2 x.cC)+0))
theorem Zc (x:lS):pU (ym x)=rS x:=by
 simp only[pU,rS,ym,ML,List.length_map,Y_]
theorem Zd (x:lS) (h:(rS x)<=1048576):s5 x=some (ym x):=by
 unfold s5;unfold rS at h;rw[F_ _ (by omega),Zb _ (by omega)];rfl
theorem Ba (x:acd) (h:(x.length+0)<=1048576):tm x x=some true:=by
 unfold tm;have hl:x.length<=1048576:=by omega
 rw[yk,cond_false];exact Y4 x (λ_ _=>rfl) yj hl
def l6 (x:br):Nat:=(x.Label.length+((x.Next.length+0)+0))
theorem Ze (x:br) (h:(l6 x)<=1048576):xQ x x=some true:=by
 unfold xQ;unfold l6 at h;simp only[yj,A6,A7,cond_false,bind_some,Bool.not_true,Ba x.Next (by omega)]
theorem Zf (x:aM):xR x x=some true:=by
 unfold xR;simp only[yj,A6,A7,cond_false,bind_some,Bool.not_true]
theorem MU (x:acp) (h:(x.length+0)<=1048576):vl x x=some true:=by
 unfold vl;have hl:x.length<=1048576:=by omega
 rw[yk,cond_false];exact A5 (f:=xR) x (λ_ _=>rfl) (λy a6=>Zf y) hl
theorem MV (x:acm) (h:(fY (λx=>x.length+0) x)<=1048576):xS x x=some true:=by
 unfold xS;have hl:x.length<=1048576:=Nat.le_trans (qK _ _) h;rw[yk,cond_false];exact A5 (f:=vl) x (λ_ _=>rfl) (λy a6=>MU y (Nat.le_trans (vF (f:=(λx=>x.length+0)) a6) h)) hl
theorem Zg (x:bN) (h:(j2 x)<=1048576):xT x x=some true:=by
 unfold xT;unfold j2 at h;simp only[yj,A6,A7,cond_false,bind_some,Bool.not_true,Ba x.aY (by omega),MU x.Guard (by omega),MV x.bP (by omega),MV x.Next (by omega)]
theorem Zh (x:acq) (h:(fY j2 x)<=1048576):Az x x=some true:=by
 unfold Az;have hl:x.length<=1048576:=Nat.le_trans (qK _ _) h;rw[yk,cond_false];exact A5 (f:=xT) x (λ_ _=>rfl) (λy a6=>Zg y (Nat.le_trans (vF (f:=j2) a6) h)) hl
theorem Zi (x:ez) (h:(pU x)<=1048576):AA x x=some true:=by
 unfold AA;unfold pU at h;simp only[yj,A6,A7,cond_false,bind_some,Bool.not_true,Ba x.Start (by omega),Zh x.cC (by omega)]
theorem MW (k:Int) (bg:0<=k) (I:k<=1099511627776):∃t,vp k=some t:=by
 have key:∀(n:Nat) (k:Int),0<=k->k<=n->n<=1099511627776->∀t:aca,t.length+n<=1099511627776->∃r,∀m,n<m->tp m k t=some r:=by
  intro n;induction n with
  |zero=>
   intro k R U aw t aK;refine⟨[109]++t,λm hm=>?_⟩;obtain⟨m,rfl⟩:∃aB,m=aB+1:=⟨m-1,by omega⟩
   simp only[tp,AB];rw[show decide (0<k)=false by simp;omega,cond_false,show h8 (1+t.length)=some () by unfold h8;rw[if_pos (by omega)]];rfl
  |succ n ih=>
   intro k R U aw t aK;by_cases ak:0<k
   .have ad:Int.tdiv k 10=k/10:=Int.tdiv_eq_ediv_of_nonneg R;have hw:IntKind.i64.wrap (Int.tdiv k 10)=k/10:=by rw[ad];exact fB _ (by omega)
    obtain⟨r,aD⟩:=ih (k/10) (by omega) (by omega) (by omega) ([(lx (IntKind.i64.wrap (48+(Int.tmod k 10))))]++t) (by simp only[List.length_append,List.length_cons,List.length_nil];omega);refine⟨r,λm hm=>?_⟩;obtain⟨m,rfl⟩:∃aB,m=aB+1:=⟨m-1,by omega⟩
    simp only[tp,AB];rw[show decide (0<k)=true by simp;omega,cond_true,show h8 (1+t.length)=some () by unfold h8;rw[if_pos (by omega)]];simp only[bind_some,hw];exact aD m (by omega)
   .refine⟨[109]++t,λm hm=>?_⟩;obtain⟨m,rfl⟩:∃aB,m=aB+1:=⟨m-1,by omega⟩
    simp only[tp,AB];rw[show decide (0<k)=false by simp;omega,cond_false,show h8 (1+t.length)=some () by unfold h8;rw[if_pos (by omega)]];rfl
 unfold vp;by_cases ak:k<=0
 .exact⟨_,by rw[show decide (k<=0)=true by simpa using ak];rfl⟩
 .obtain⟨r,aD⟩:=key k.toNat k bg (by omega) (by omega) [] (by simp only[List.length_nil];omega);exact⟨r,by rw[show decide (k<=0)=false by simp;omega,cond_false];exact fZ (k.toNat+1) λm hm=>aD m (by omega)⟩
theorem Bb (x:acd) (k:Int) (bg:0<=k) (I:k+64*(x.length+0)<=1099511627776):∃(cy:acd) (c:Nat),c<=64*(x.length+0)/\tn x k=some (k+(c:Int),cy)/\AG cy k=some (k+(c:Int)):=by
 unfold tn AG;have e:fo (λ_=>64) x=64*x.length:=F8 64 x;obtain⟨cy,c,R,U,aw⟩:=MN (l:=vn) (hl:=vv) (λ_=>64) (λm v k=>by simp only[vn,EJ];rw[gq (Nat.le_refl _)];rfl) (λa m k=>by simp only[vv,EO];rw[gq (Nat.le_refl _)];rfl) (λx k bg I=>by
  have kf:IntKind.i64.wrap (k+1)=k+1:=fB _ (by omega);refine⟨k,1,by omega,λm d r ad=>⟨?_,?_⟩⟩
  .simp only[vn,EJ];rw[tI];simp only[cond_true,tH,yl,bind_some,kf];rw[tJ ad];rw[show((k+1):Int)=k+((1:Nat):Int) by omega]
  .simp only[vv,EO];rw[tI];simp only[cond_true,cond_false,tH,bind_some,bne_self_eq_false,beq_self_eq_true,Bool.not_true,kf];rw[tJ ad];rw[show((k+1):Int)=k+((1:Nat):Int) by omega]) x k bg (by omega) (by omega)
 exact⟨cy,c,by omega,U,aw⟩
theorem MX (x:acp) (k:Int) (bg:0<=k) (I:k+64*(x.length+0)<=1099511627776):∃(cy:acp) (c:Nat),c<=64*(x.length+0)/\xU x k=some (k+(c:Int),cy):=by
 unfold xU;have e:fo (λ_=>64) x=64*x.length:=F8 64 x;obtain⟨cy,c,R,U⟩:=F9 (l:=vo) (λ_=>64) (λm v k=>by simp only[vo,EK];rw[gq (Nat.le_refl _)];rfl) (λx k bg I=>by
  have kf:IntKind.i64.wrap (k+1)=k+1:=fB _ (by omega);have lP:IntKind.i64.wrap ((k+1)+1)=(k+1)+1:=fB _ (by omega);refine⟨(aM.mk k (k+1)),1+1,by omega,λm d r ad=>?_⟩;simp only[vo,EK];rw[tI];simp only[cond_true,tH,yl,bind_some,kf,lP];rw[tJ ad];rw[show(((k+1)+1):Int)=k+((1+1:Nat):Int) by omega]) x k bg (by omega) (by omega)
 exact⟨cy,c,by omega,U⟩
theorem MY (x:acm) (k:Int) (bg:0<=k) (I:k+64*(fY (λx=>x.length+0) x)<=1099511627776):∃(cy:acm) (c:Nat),c<=64*(fY (λx=>x.length+0) x)/\xV x k=some (k+(c:Int),cy):=by
 unfold xV;have e:fo (λx=>64*((x.length+0)+1)) x=64*fY (λx=>x.length+0) x:=A_ (λx=>x.length+0) x;have hl:x.length<=fY (λx=>x.length+0) x:=qK _ _;obtain⟨cy,c,R,U⟩:=F9 (l:=vq) (λx=>64*((x.length+0)+1)) (λm v k=>by simp only[vq,EL];rw[gq (Nat.le_refl _)];rfl) (λx k bg I=>by
  obtain⟨fy,bK,ju,m1⟩:=MX x k (by omega) (by omega);refine⟨fy,bK,by omega,λm d r ad=>?_⟩;simp only[vq,EL];rw[tI];simp only[cond_true,tH,yl,bind_some,m1];rw[tJ ad]) x k bg (by omega) (by omega)
 exact⟨cy,c,by omega,U⟩
theorem Zj (x:acq) (k:Int) (bg:0<=k) (I:k+64*(fY j2 x)<=1099511627776):∃(cy:acq) (c:Nat),c<=64*(fY j2 x)/\AD x k=some (k+(c:Int),cy):=by
 unfold AD;have e:fo (λx=>64*((j2 x)+1)) x=64*fY j2 x:=A_ j2 x;have hl:x.length<=fY j2 x:=qK _ _;obtain⟨cy,c,R,U⟩:=F9 (l:=vr) (λx=>64*((j2 x)+1)) (λm v k=>by simp only[vr,EM];rw[gq (Nat.le_refl _)];rfl) (λx k bg I=>by
  simp only[j2]at I⊢;obtain⟨fy,bK,ju,m1⟩:=Bb x.aY k (by omega) (by omega);obtain⟨hn,bJ,gQ,m2⟩:=MX x.Guard (k+(bK:Int)) (by omega) (by omega);obtain⟨fD,t3⟩:=MW ((k+(bK:Int))+(bJ:Int)) (by omega) (by omega);have mu:IntKind.i64.wrap (((k+(bK:Int))+(bJ:Int))+1)=((k+(bK:Int))+(bJ:Int))+1:=fB _ (by omega);obtain⟨vE,hz,cK,m4⟩:=MY x.bP (((k+(bK:Int))+(bJ:Int))+1) (by omega) (by omega);obtain⟨Zk,ka,dp,m5⟩:=MY x.Next ((((k+(bK:Int))+(bJ:Int))+1)+(hz:Int)) (by omega) (by omega);refine⟨(bN.mk fy hn fD vE Zk),bK+bJ+1+hz+ka,by omega,λm d r ad=>?_⟩;simp only[vr,EM];rw[tI];simp only[cond_true,tH,yl,bind_some,m1,m2,t3,mu,m4,m5];rw[tJ ad];rw[show((((((k+(bK:Int))+(bJ:Int))+1)+(hz:Int))+(ka:Int)):Int)=k+((bK+bJ+1+hz+ka:Nat):Int) by omega]) x k bg (by omega) (by omega)
 exact⟨cy,c,by omega,U⟩
theorem Zl (x:ez) (k:Int) (bg:0<=k) (I:k+64*((pU x)+1)<=1099511627776):∃(hB:Int) (fy:acd) (hn:acq) (c:Nat),c<=64*((pU x)+1)/\AE x.dS x.Start x.cC k=some (k+(c:Int),hB,fy,hn):=by
 unfold AE;simp only[pU]at I⊢;obtain⟨fy,bK,ju,m1⟩:=Bb x.Start k (by omega) (by omega);obtain⟨hn,bJ,gQ,m2⟩:=Zj x.cC (k+(bK:Int)) (by omega) (by omega);refine⟨x.dS,fy,hn,bK+bJ,by omega,?_⟩;simp only[bind_some,m1,m2];rw[show(k+((bK+bJ:Nat):Int))=((k+(bK:Int))+(bJ:Int)) by omega]
theorem Zm (x:acr) (k:Int) (bg:0<=k) (I:k+64*(fY l6 x)<=1099511627776):∃(cy:acr) (c:Nat),c<=64*(fY l6 x)/\AF x k=some (k+(c:Int),cy)/\xW cy k=some (k+(c:Int)):=by
 unfold AF xW;have e:fo (λx=>64*((l6 x)+1)) x=64*fY l6 x:=A_ l6 x;have hl:x.length<=fY l6 x:=qK _ _;obtain⟨cy,c,R,U,aw⟩:=MN (l:=vu) (hl:=vw) (λx=>64*((l6 x)+1)) (λm v k=>by simp only[vu,EN];rw[gq (Nat.le_refl _)];rfl) (λa m k=>by simp only[vw,EP];rw[gq (Nat.le_refl _)];rfl) (λx k bg I=>by
  simp only[l6]at I⊢;obtain⟨s1,t1⟩:=MW k (by omega) (by omega);have kf:IntKind.i64.wrap (k+1)=k+1:=fB _ (by omega);obtain⟨hn,bJ,gQ,m2,eu⟩:=Bb x.Next (k+1) (by omega) (by omega);have b6:=A9 (k:=((k+1)+(bJ:Int))) (by omega);refine⟨(br.mk s1 hn),1+bJ,by omega,λm d r ad=>⟨?_,?_⟩⟩
  .simp only[vu,EN];rw[tI];simp only[cond_true,tH,yl,bind_some,t1,kf,m2];rw[tJ ad];rw[show(((k+1)+(bJ:Int)):Int)=k+((1+bJ:Nat):Int) by omega]
  .simp only[vw,EP];rw[tI];simp only[cond_true,cond_false,tH,bind_some,bne_self_eq_false,beq_self_eq_true,Bool.not_true,eu,b6,t1,kf];rw[tJ ad];rw[show(((k+1)+(bJ:Int)):Int)=k+((1+bJ:Nat):Int) by omega]) x k bg (by omega) (by omega)
 exact⟨cy,c,by omega,U,aw⟩
def jK (t:aM):Nat:=if t.Kind=2 then 2 else if t.Kind=3 then 1 else 0
theorem Bc (t:aM):jK t<=2:=by unfold jK;split<;>(try split)<;>omega
theorem MZ (t:aM):cond (t.Kind==2) (some 2) (cond (t.Kind==3) (some 1) (some 0))=some (jK t:Int):=by
 unfold jK;by_cases U:t.Kind=2
 .simp[U]
 .by_cases aw:t.Kind=3
  .simp[aw]
  .have aN:(t.Kind==2)=false:=by simpa using U
   have aP:(t.Kind==3)=false:=by simpa using aw
   rw[aN,aP,if_neg U,if_neg aw];rfl
def gy (n dY ax:Int):Bool:=decide (dY<=n)&&decide (n<=ax)
def lr (t:aM) (v:Int):Bool:=cond (t.Kind==0) (gy t.Value 0 63) (cond (t.Kind==1) (gy t.Value 0 (v-1)) (cond (t.Kind==2) (gy t.Value 0 8) (cond (t.Kind==3) (t.Value==0) false)))
def n1 (v:Int):acp->Nat->Bool
 |[],k=>k==0
 |t::r,k=> !(k==0)&&(lr t v&&n1 v r (k+jK t-1))
def hP (e:acp) (v most:Int):Bool:=decide ((e.length:Int)<=most)&&n1 v e 1
theorem Zn (t:aM) (v:Int) (aE: -1000000<=v/\v<=1000000):zP t v=some (lr t v):=by
 unfold zP oF lr gy;rw[fB (v-1) (by omega)];cases t.Kind==0<;>cases t.Kind==1<;>cases t.Kind==2<;>cases t.Kind==3<;>rfl
theorem Zo (t:aM) (v:Int) (aE: -1000000<=v/\v<=1000000):Aj t v=some (lr t v):=by
 unfold Aj z_ nc lr gy;rw[fB (v-1) (by omega)];cases t.Kind==0<;>cases t.Kind==1<;>cases t.Kind==2<;>cases t.Kind==3<;>rfl
theorem M0 (t:aM):zQ t=some (jK t:Int):=MZ t
theorem M1 (t:aM):Ak t=some (jK t:Int):=MZ t
theorem Ga {k a:Nat} (ak:1<=k) (mH:k<=100000000) (bx:a<=2):IntKind.i64.wrap ((k:Int)+IntKind.i64.wrap ((a:Int)-1))=((k+a-1:Nat):Int):=by
 rw[fB ((a:Int)-1) (by omega),fB _ (by omega)];omega
theorem Bd (k:Nat):((k:Int)==0)=(k==0):=by
 by_cases h:k=0
 .subst h;rfl
 .have R:((k:Int)==0)=false:=by simp;omega
  have U:(k==0)=false:=by simpa using h
  rw[R,U]
theorem M3 (e:acp) (v most:Int) (aE: -1000000<=v/\v<=1000000) (he:e.length<=1048576):xx e v most=some (hP e v most):=by
 unfold xx hP;by_cases hm:(e.length:Int)<=most
 .have d1:decide (most<(e.length:Int))=false:=by simp;omega
  have d2:decide ((e.length:Int)<=most)=true:=by simpa using hm
  rw[d1,d2,cond_false,Bool.true_and];have key:∀i,i<=e.length->∀(k:Nat) m,k<=1+2*i->e.length-i<m->u0 e v m (k:Int) (i:Int)=some (n1 v (e.drop i) k):=by
   refine down e.length ?_ ?_
   .intro k m _ hm;obtain⟨m,rfl⟩:∃aB,m=aB+1:=⟨m-1,by omega⟩
    simp only[u0,DW];rw[gq (Nat.le_refl _),List.drop_of_length_le (Nat.le_refl _),Bd];rfl
   .intro i ax ih k m ak hm;obtain⟨m,rfl⟩:∃aB,m=aB+1:=⟨m-1,by omega⟩
    simp only[u0,DW];rw[hG ax,fX _ i ax,hx i _ ax (by omega),drop_cons e i ax,Bd];simp only[cond_true,bind_some,Zn _ v aE,M0,n1];by_cases bg:k=0
    .subst bg;rfl
    .have I:(k==0)=false:=by simpa using bg
     have bx:=Bc e[i];rw[I,Ga (by omega) (by omega) bx,ih _ m (by omega) (by omega)];simp only[cond_false,Bool.not_false,Bool.true_and];cases lr e[i] v<;>rfl
  refine fZ (e.length+1) λm hm=>?_;have:=key 0 (by omega) 1 m (by omega) (by omega);simpa using this
 .have d1:decide (most<(e.length:Int))=true:=by simp;omega
  have d2:decide ((e.length:Int)<=most)=false:=by simpa using hm
  rw[d1,d2];rfl
theorem Zp (e:acp) (v most:Int) (aE:0<=v/\v<=29) (abV:1<=most/\most<=60) (he:e.length<=1048576):Al e v most=some (hP e v most):=by
 unfold Al nc hP;have d1:(!(decide (0<=v)&&decide (v<=29)))=false:=by simp;omega
 have d2:(!(decide (1<=most)&&decide (most<=60)))=false:=by simp;omega
 simp only[bind_some,d1,d2,cond_false];by_cases R:e.length=0
 .have:e=[]:=List.length_eq_zero_iff.1 R;subst this;simp[n1]
 .by_cases hm:(e.length:Int)<=most
  .have d3:(!(decide ((1:Int)<=(e.length:Int))&&decide ((e.length:Int)<=most)))=false:=by simp;omega
   have d4:decide ((e.length:Int)<=most)=true:=by simpa using hm
   rw[d3,d4,cond_false,Bool.true_and];have key:∀i,i<=e.length->∀(k:Nat) m,k<=1+2*i->e.length-i<m->vb e v m (k:Int) (i:Int)=some (n1 v (e.drop i) k):=by
    refine down e.length ?_ ?_
    .intro k m _ hm;obtain⟨m,rfl⟩:∃aB,m=aB+1:=⟨m-1,by omega⟩
     simp only[vb,Ek];rw[gq (Nat.le_refl _),List.drop_of_length_le (Nat.le_refl _),Bd];rfl
    .intro i ax ih k m ak hm;obtain⟨m,rfl⟩:∃aB,m=aB+1:=⟨m-1,by omega⟩
     simp only[vb,Ek];rw[hG ax,fX _ i ax,hx i _ ax (by omega),drop_cons e i ax,Bd];simp only[cond_true,bind_some,Zo _ v (by omega),M1,n1];by_cases bg:k=0
     .subst bg;rfl
     .have I:(k==0)=false:=by simpa using bg
      have bx:=Bc e[i];rw[I,Ga (by omega) (by omega) bx,ih _ m (by omega) (by omega)];simp only[cond_false,Bool.not_false,Bool.true_and];cases lr e[i] v<;>rfl
   refine fZ (e.length+1) λm hm=>?_;have:=key 0 (by omega) 1 m (by omega) (by omega);simpa using this
  .have d3:(!(decide ((1:Int)<=(e.length:Int))&&decide ((e.length:Int)<=most)))=true:=by simp;omega
   have d4:decide ((e.length:Int)<=most)=false:=by simpa using hm
   rw[d3,d4];rfl
def small (c:UInt8):Bool:=decide (97<=(c.toNat:Int))&&decide ((c.toNat:Int)<=122)
def digit (c:UInt8):Bool:=decide (48<=(c.toNat:Int))&&decide ((c.toNat:Int)<=57)
def l7 (s:aca):Bool:=decide (s.length<=10)&&(match s with|[]=>false|c::r=>small c&&r.all λc=>small c||digit c)
theorem Zq (s:aca):zR s=some (l7 s):=by
 unfold zR;cases s with
 |nil=>rfl
 |cons c r=>
  have fw:((c::r)==([]:aca))=false:=rfl;rw[fw];simp only[cond_false];by_cases gu:10<(c::r).length
  .have:decide ((10:Int)<((c::r).length:Int))=true:=by simp at gu⊢;omega
   rw[this];have U:decide ((c::r).length<=10)=false:=by simp at gu⊢;omega
   simp only[l7,U];rfl
  .have:decide ((10:Int)<((c::r).length:Int))=false:=by simp at gu⊢;omega
   rw[this];have U:decide ((c::r).length<=10)=true:=by simp at gu⊢;omega
   rw[F6];simp only[cond_false,bind_some,xz];simp only[l7,U,Bool.true_and];show cond (!small c) _ _=_;cases J:small c with
   |false=>rfl
   |true=>
    simp only[Bool.not_true,cond_false];rw[yg (n:=(c::r).length) (λi=>some (((c::r).drop i).all λc=>small c||digit c))]
    .simp[J]
    .intro m;simp only[xA,DZ];rw[gq (Nat.le_refl _)];simp
    .intro i ax m ih;simp only[xA,DZ];rw[hG ax,fX _ i ax,hx i _ ax (by omega),ih,drop_cons _ i ax];simp only[cond_true,bind_some,xz,DY,List.all_cons];show cond (!small _) (cond (!digit _) _ _) _=_;cases small (c::r)[i]<;>cases digit (c::r)[i]<;>rfl
theorem Zr (s:aca) (J:s.length<=140737488355328):Af s=some (l7 s):=by
 unfold Af;have aZ:∀m,s.length-1<m->1<=s.length->ry s m ((1:Nat):Int)=some (((s.drop 1).all λc=>small c||digit c)&&(decide (1<=(s.length:Int))&&decide ((s.length:Int)<=10))):=by
  intro m hm R;refine down s.length (P:=λi=>1<=i->∀m,s.length-i<m->ry s m (i:Int)=some (((s.drop i).all λc=>small c||digit c)&&(decide (1<=(s.length:Int))&&decide ((s.length:Int)<=10)))) ?_ ?_ 1 R (Nat.le_refl _) m hm
  .intro _ m hm;obtain⟨k,rfl⟩:∃k,m=k+1:=⟨m-1,by omega⟩
   simp only[ry,Ae];rw[gq (Nat.le_refl _)];simp
  .intro i ax ih CK m hm;obtain⟨k,rfl⟩:∃k,m=k+1:=⟨m-1,by omega⟩
   simp only[ry,Ae];rw[hG ax,fX _ i ax,hx i _ ax (by omega),ih (by omega) k (by omega),drop_cons _ i ax];have e:((i:Int)==0)=false:=by simp;omega
   rw[e];simp only[cond_true,cond_false,bind_some,Ef,List.all_cons];show cond (!small _) (cond (!digit _) _ _) _=_;cases small s[i]<;>cases digit s[i]<;>rfl
 refine fZ (s.length+1) λm hm=>?_;obtain⟨k,rfl⟩:∃k,m=k+1:=⟨m-1,by omega⟩
 simp only[ry,Ae];cases s with
 |nil=>rfl
 |cons c r=>
  have ak:=aZ k (by simp at hm⊢;omega) (by simp);rw[show((1:Nat):Int)=1 from rfl]at ak;rw[F4 (by simp),F6,Y1,ak];have e:((0:Int)==0)=true:=rfl;rw[e];simp only[cond_true,l7];show cond (!small c) _ _=_;have R:decide (1<=((c::r).length:Int))=true:=by simp;omega
  have U:decide (((c::r).length:Int)<=10)=decide ((c::r).length<=10):=by
   by_cases h:(c::r).length<=10<;>simp at h⊢<;>omega
  rw[R,U];cases small c with
  |false=>simp
  |true=>simp[Bool.and_comm]
section
variable {α β:Type}
theorem Zs {l:Nat->Int->Option β} (a:List α) (F:List α->Option β) (bg:∀m,l (m+1) (a.length:Int)=F [])
  (J:∀i (h:i<a.length) m,l m ((i+1:Nat):Int)=F (a.drop (i+1))->l (m+1) (i:Int)=F (a[i]::a.drop (i+1))):cL (λm=>l m 0)=F a:=by
 rw[yg (n:=a.length) (λi=>F (a.drop i))]
 .simp
 .intro m;rw[bg,List.drop_of_length_le (Nat.le_refl _)]
 .intro i ax m ih;rw[drop_cons a i ax];exact J i ax m ih
theorem Gb {l:Nat->Int->acf} (a:List α) (p:α->Bool) (bg:∀m,l (m+1) (a.length:Int)=some true)
  (J:∀i (h:i<a.length) m,l (m+1) (i:Int)=cond (p a[i]) (l m ((i+1:Nat):Int)) (some false)):cL (λm=>l m 0)=some (a.all p):=by
 refine Zs a (λr=>some (r.all p)) bg λi h m ih=>?_;rw[J i h m,ih,List.all_cons];cases p a[i]<;>rfl
def rU (p:α->Bool):Nat->List α->Int
 |_,[]=> -1
 |i,x::r=>if p x=true then(i:Int)else rU p (i+1) r
theorem yn (p:α->Bool):∀(r:List α) (i:Nat),decide (0<=rU p i r)=r.any p
 |[],i=>by simp[rU]
 |x::r,i=>by
  simp only[rU,List.any_cons];by_cases h:p x=true
  .simp[h]
  .have e:p x=false:=by simpa using h
   simp[e,yn p r (i+1)]
theorem Zt {l:Nat->Int->acg} (a:List α) (p:α->Bool) (bg:∀m,l (m+1) (a.length:Int)=some (-1))
  (J:∀i (h:i<a.length) m,l (m+1) (i:Int)=cond (p a[i]) (some (i:Int)) (l m ((i+1:Nat):Int))):cL (λm=>l m 0)=some (rU p 0 a):=by
 have key:∀i,i<=a.length->∀m,a.length-i<m->l m (i:Int)=some (rU p i (a.drop i)):=by
  refine down a.length ?_ ?_
  .intro m hm;obtain⟨m,rfl⟩:∃aB,m=aB+1:=⟨m-1,by omega⟩
   rw[bg,List.drop_of_length_le (Nat.le_refl _)];rfl
  .intro i ax ih m hm;obtain⟨m,rfl⟩:∃aB,m=aB+1:=⟨m-1,by omega⟩
   rw[J i ax m,ih m (by omega),drop_cons a i ax];simp only[rU];cases p a[i]<;>rfl
 refine fZ (a.length+1) λm hm=>?_;have:=key 0 (by omega) m (by omega);simpa using this
theorem Be {l:Nat->Int->acg} {f:α->acf} (a:List α) (p:α->Bool)
  (lq:∀m i,l (m+1) i=cond (decide (i<(a.length:Int))) ((cg a i).bind λx=>(f x).bind λy=>cond y (some i) (l m (IntKind.i64.wrap (i+1)))) (some (-1)))
  (bf:∀x∈a,f x=some (p x)) (bx:a.length<=1099511627776):cL (λm=>l m 0)=some (rU p 0 a):=by
 refine Zt a p (λm=>by rw[lq,gq (Nat.le_refl _)];rfl) λi h m=>?_;rw[lq,hG h,fX _ i h,hx i _ h (by omega)];simp only[cond_true,bind_some,bf _ (List.getElem_mem h)]
theorem Bf (a:List α) (p:α->Bool):(a.any λx=> !p x)= !(a.all p):=by
 induction a with
 |nil=>rfl
 |cons x r ih=>simp only[List.any_cons,List.all_cons,ih];cases p x<;>simp
end
end Go.mY
