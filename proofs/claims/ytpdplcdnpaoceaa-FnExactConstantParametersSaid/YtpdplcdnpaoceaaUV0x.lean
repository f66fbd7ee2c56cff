/- Part of a proof that a law returns true for every input. No condition. -/
import Derived.Test.YtpdplcdnpaoceaaFwA
import Derived.IntWalk
import Derived.Test.YtpdplcdnpaoceaaP4
namespace Go.nI
open Option Nat Or
open Go Go.cM
theorem hG (n:Int) (h: -9223372036854775808<=n/\n<=9223372036854775807):IntKind.i64.wrap n=n:=IntWalk.i64_in n h
theorem pR {α:Type} (a:List α) (i:Nat) (d:α) (h:i<a.length):bR a (i:Int)=some (a.getD i d):=by
 rw[Dm (by omega) (by simpa using h)];simp[List.getD,h]
theorem hf {α:Type} (a:List α) (i:Nat) (h:i<a.length):bR a (i:Int)=some a[i]:=by
 rw[Dm (by omega) (by simpa using h)];rfl
theorem IB {α:Type} (a:List α) (n:Nat) (h:n<=a.length):fF a 0 (n:Int)=some (a.take n):=by
 unfold fF;rw[if_pos (by omega)];simp
theorem gh (i n:Nat) (h:i<n) (aU:n<=4611686018427387904):IntKind.i64.wrap ((i:Int)+1)=((i+1:Nat):Int):=by
 rw[hG _ (by omega)];omega
theorem g3 {i n:Nat} (h:i<n):decide ((i:Int)<(n:Int))=true:=by simp;omega
theorem fT {i n:Nat} (h:n<=i):decide ((i:Int)<(n:Int))=false:=by simp;omega
theorem pS {α:Type} (c:α) (r:List α):bR (c::r) 0=some c:=rfl
theorem CQ {n:Nat} (h:0<n):decide ((0:Int)<(n:Int))=true:=by simp;omega
theorem Uc:IntKind.i64.wrap (0+1)=1:=by decide
theorem down (n:Nat) {P:Nat->Prop} (ba:P n) (aa:∀i,i<n->P (i+1)->P i):∀i,i<=n->P i:=by
 have key:∀d,d<=n->P (n-d):=by
  intro d;induction d with
  |zero=>intro _;exact ba
  |succ d ih=>
   intro af;have:=ih (by omega);refine aa _ (by omega) ?_;rw[show n-(d+1)+1=n-d by omega];exact this
 intro i aE;have:=key (n-i) (by omega)
 rwa [show n-(n-i)=i by omega]at this
theorem up {β:Type} {l:Nat->Int->Option β} {n:Nat} (F:Nat->Option β) (ba:∀m,l (m+1) (n:Int)=F n)
  (aa:∀i,i<n->∀m,(l m ((i+1:Nat):Int)=F (i+1))->l (m+1) (i:Int)=F i):∀i,i<=n->∀m,n-i<m->l m (i:Int)=F i:=by
 refine down n ?_ ?_
 .intro m hm;obtain⟨k,rfl⟩:∃k,m=k+1:=⟨m-1,by omega⟩
  exact ba k
 .intro i aE ih m hm;obtain⟨k,rfl⟩:∃k,m=k+1:=⟨m-1,by omega⟩
  exact aa i aE k (ih k (by omega))
theorem yp {β:Type} {l:Nat->Int->Option β} {n:Nat} (F:Nat->Option β) (ba:∀m,l (m+1) (n:Int)=F n)
  (aa:∀i,i<n->∀m,(l m ((i+1:Nat):Int)=F (i+1))->l (m+1) (i:Int)=F i):cC (λm=>l m 0)=F 0:=
 fV (n+1) λm hm=>up F ba aa 0 (by omega) m (by omega)
theorem drop_cons {α:Type} (a:List α) (i:Nat) (h:i<a.length):a.drop i=a[i]::a.drop (i+1):=List.drop_eq_getElem_cons h
def hV (n:Int) (s:Nat):Int:=if(s:Int)<=n then n-s else-1
theorem CS {n:Int} {s:Nat} (h:(s:Int)<=n):hV n s=n-s:=if_pos h
theorem yq {n:Int} {s:Nat} (h:n<s):hV n s= -1:=if_neg (by omega)
theorem Ud {n:Int} (h:0<=n):hV n 0=n:=by rw[CS (by simpa using h)];simp
theorem rm {f:Xv} {k:Int->Xv} {n:Int} {s t:Nat} (bk:f=some (hV n s)) (ai:(s:Int)<=n->k (n-s)=some (hV (n-s) t)):
  (f.bind λx=>cond (decide (x<0)) (some (-1)) (k x))=some (hV n (s+t)):=by
 rw[bk];simp only[bind_some];by_cases h:(s:Int)<=n
 .rw[CS h];have:decide (n-(s:Int)<0)=false:=by simp;omega
  rw[this,cond_false,ai h];congr 1;unfold hV;by_cases ad:(t:Int)<=n-s
  .rw[if_pos ad,if_pos (by omega)];omega
  .rw[if_neg ad,if_neg (by omega)]
 .rw[yq (by omega)];have:decide ((-1:Int)<0)=true:=by decide
  rw[this,cond_true,yq (by omega)]
theorem vk {K:Xv} {n:Int} {s t:Nat} (aa:s<=9223372036854775807) (ba:0<=n) (aU:n<=1048576) (ai:(s:Int)<=n->K=some (hV (n-s) t)):
  cond (decide (IntKind.i64.wrap (n-(s:Int))<0)) (some (-1)) K=some (hV n (s+t)):=by
 rw[hG _ (by omega)];by_cases h:(s:Int)<=n
 .have:decide (n-(s:Int)<0)=false:=by simp;omega
  rw[this,cond_false,ai h];congr 1;unfold hV;by_cases ad:(t:Int)<=n-s
  .rw[if_pos ad,if_pos (by omega)];omega
  .rw[if_neg ad,if_neg (by omega)]
 .have:decide (n-(s:Int)<0)=true:=by simp;omega
  rw[this,cond_true,yq (by omega)]
theorem vl {n:Int} (h:0<=n):some n=some (hV n 0):=by rw[Ud h]
def fs {α:Type} (f:α->Nat):List α->Nat
 |[]=>0
 |x::r=>f x+fs f r
theorem IC {α:Type} {f:α->Nat}:∀{l:List α} {x:α},x∈l->f x<=fs f l
 |y::r,x,h=>by
  simp only[fs];rcases List.mem_cons.1 h with rfl|h
  .omega
  .have:=IC (f:=f) h;omega
theorem ID {α β:Type} {f:β->Nat} {g:α->β}:∀l:List α,fs f (l.map g)=fs (λx=>f (g x)) l
 |[]=>rfl
 |x::r=>by simp only[List.map_cons,fs,ID r]
def gK {α:Type} (f:α->Nat) (l:List α):Nat:=l.length+fs f l
theorem IE {α β:Type} (f:β->Nat) (g:α->β) (l:List α):gK f (l.map g)=gK (λx=>f (g x)) l:=by simp only[gK,List.length_map,ID]
theorem pT {α:Type} (f:α->Nat) (l:List α):l.length<=gK f l:=le_add_right _ _
theorem s6 {α:Type} {f:α->Nat} {l:List α} {x:α} (h:x∈l):f x<=gK f l:=Nat.le_trans (IC h) (le_add_left _ _)
theorem Ue {α:Type} {l:Nat->Int->Int->Xv} {B:α->Int->(Int->Xv)->Xv} (sz:α->Nat) (a:List α)
  (kf:∀m n i,l (m+1) n i=cond (decide (i<(a.length:Int))) ((bR a i).bind λx=>B x n λy=>l m y (IntKind.i64.wrap (i+1))) (some n))
  (bk:∀x∈a,∀(n:Int) (k:Int->Xv) (t:Nat),0<=n->n<=1048576->((sz x:Int)<=n->k (n-sz x)=some (hV (n-sz x) t))->B x n k=some (hV n (sz x+t)))
  (bQ:a.length<=1048576) (n:Int) (ba:0<=n) (aU:n<=1048576):cC (λm=>l m n 0)=some (hV n (fs sz a)):=by
 have key:∀i,i<=a.length->∀n:Int,0<=n->n<=1048576->∀m,a.length-i<m->l m n (i:Int)=some (hV n (fs sz (a.drop i))):=by
  refine down a.length ?_ ?_
  .intro n ba _ m hm;obtain⟨k,rfl⟩:∃k,m=k+1:=⟨m-1,by omega⟩
   rw[kf,fT (Nat.le_refl _),cond_false,List.drop_of_length_le (Nat.le_refl _)];exact vl ba
  .intro i aE ih n ba aU m hm;obtain⟨k,rfl⟩:∃k,m=k+1:=⟨m-1,by omega⟩
   rw[kf,g3 aE,cond_true,hf _ i aE,gh i _ aE (by omega),drop_cons a i aE];simp only[bind_some,fs];exact bk _ (List.getElem_mem aE) n _ _ ba aU λh=>ih _ (by omega) (by omega) k (by omega)
 refine fV (a.length+1) λm hm=>?_;have:=key 0 (by omega) n ba aU m (by omega);simpa using this
theorem IF {α:Type} {l:Nat->Int->Int->Xv} {f:α->Int->Xv} (sz:α->Nat) (a:List α)
  (kf:∀m n i,l (m+1) n i=cond (decide (i<(a.length:Int))) ((bR a i).bind λx=>(f x n).bind λy=>cond (decide (y<0)) (some (-1)) (l m y (IntKind.i64.wrap (i+1)))) (some n))
  (bk:∀x∈a,∀n:Int,0<=n->n<=1048576->f x n=some (hV n (sz x))) (bQ:a.length<=1048576) (n:Int) (ba:0<=n) (aU:n<=1048576):cC (λm=>l m n 0)=some (hV n (fs sz a)):=
 Ue (B:=λx n k=>(f x n).bind λy=>cond (decide (y<0)) (some (-1)) (k y)) sz a kf (λx an n _ _ ba aU ai=>rm (bk x an n ba aU) ai) bQ n ba aU
theorem yr {α β:Type} {l:Nat->List β->Int->Option (List β)} {f:α->Option β} (g:α->β) (a:List α) (z:β)
  (kf:∀m v i,l (m+1) v i=cond (decide (i<(a.length:Int))) ((bR a i).bind λx=>(f x).bind λy=>(bR v i).bind λ_=>l m (List.set v (Int.toNat i) y) (IntKind.i64.wrap (i+1))) (some v))
  (bk:∀x∈a,f x=some (g x)) (bQ:a.length<=1048576):cC (λm=>l m (List.replicate (Int.toNat (a.length:Int)) z) 0)=some (a.map g):=by
 have key:∀i,i<=a.length->∀(v:List β) m,v.length=a.length->a.length-i<m->l m v (i:Int)=some (v.take i++(a.drop i).map g):=by
  refine down a.length ?_ ?_
  .intro v m aD hm;obtain⟨k,rfl⟩:∃k,m=k+1:=⟨m-1,by omega⟩
   rw[kf,fT (Nat.le_refl _)];simp[<-aD]
  .intro i aE ih v m aD hm;obtain⟨k,rfl⟩:∃k,m=k+1:=⟨m-1,by omega⟩
   rw[kf,g3 aE,hf _ i aE,gh i _ aE (by omega)];simp only[cond_true,bind_some,bk _ (List.getElem_mem aE)];rw[hf v i (by omega)];simp only[bind_some,Int.toNat_natCast];rw[ih _ k (by simp[aD]) (by omega),drop_cons a i aE,List.map_cons,List.take_set,List.take_succ_eq_append_getElem (by omega),List.set_append_right _ _ (by simp;omega)];simp[show min i v.length=i by omega]
 refine fV (a.length+1) λm hm=>?_;have:=key 0 (by omega) (List.replicate (Int.toNat (a.length:Int)) z) m (by simp) (by omega);simpa using this
theorem vm (b:Nat) {n:Nat} (h:n<=1048576) (U:b<=4096):lJ b (n:Int)=some ():=by
 have ab:b*n<=4096*1048576:=Nat.mul_le_mul U h;have ad:((b:Int)*(n:Int))=((b*n:Nat):Int):=by simp
 unfold lJ;rw[if_pos ⟨by omega,by rw[ad];omega,by omega⟩]
theorem CT {α:Type} {l:Nat->Int->Xu} {f:α->α->Xu} (a:List α)
  (kf:∀m i,l (m+1) i=cond (decide (i<(a.length:Int))) ((bR a i).bind λx=>(bR a i).bind λy=>(f x y).bind λz=>cond (!z) (some false) (l m (IntKind.i64.wrap (i+1)))) (some true))
  (bk:∀x∈a,f x x=some true) (bQ:a.length<=1048576):cC (λm=>l m 0)=some true:=by
 rw[yp (n:=a.length) (λ_=>some true)]
 .intro m;rw[kf,fT (Nat.le_refl _)];rfl
 .intro i aE m ih;rw[kf,g3 aE,hf _ i aE,gh i _ aE (by omega),ih];simp only[cond_true,bind_some,bk _ (List.getElem_mem aE),Bool.not_true,cond_false]
theorem Uf {α:Type} {d:α->α->Bool} {l:Nat->Int->Xu} (a:List α)
  (kf:∀m i,l (m+1) i=cond (decide (i<(a.length:Int))) ((bR a i).bind λx=>(bR a i).bind λy=>cond (d x y) (some false) (l m (IntKind.i64.wrap (i+1)))) (some true))
  (af:∀x,d x x=false) (bQ:a.length<=1048576):cC (λm=>l m 0)=some true:=by
 rw[yp (n:=a.length) (λ_=>some true)]
 .intro m;rw[kf,fT (Nat.le_refl _)];rfl
 .intro i aE m ih;rw[kf,g3 aE,hf _ i aE,gh i _ aE (by omega),ih];simp only[cond_true,bind_some,af,cond_false]
theorem ys (x:Int):(x !=x)=false:=by simp
theorem CU (x:Xq):(!(x==x))=false:=by simp
theorem CV (x:Bool):(!(x==x))=false:=by simp
theorem yt (n:Nat):((n:Int) !=(n:Int))=false:=by simp
def pU (b:Bool):Int:=cond b 1 0
theorem yu (b:Bool):(cond b (some 1) (some 0):Xv)=some (pU b):=by cases b<;>rfl
theorem Ug {α:Type} (x:α) (l:List α):fF (x::l) 1 (((x::l).length:Nat):Int)=some l:=by
 unfold fF;rw[if_pos (by simp only[List.length_cons];omega)];simp
theorem IG {α:Type} (a b c:List α) {i j:Int} (aE:i=(a.length:Int)) (b6:j=((a.length+b.length:Nat):Int)):fF (a++(b++c)) i j=some b:=by
 unfold fF;have aM:i.toNat=a.length:=by omega
 have aS:j.toNat=a.length+b.length:=by omega
 rw[if_pos (by simp only[List.length_append];omega),aM,aS,<-List.append_assoc,List.take_left' (by simp),List.drop_left' rfl]
theorem ml {b n:Nat} (h:n*b<=140737488355328) (ad:n<=9223372036854775807):room b n=some ():=by unfold room;rw[if_pos ⟨h,ad⟩]
theorem vn {α:Type} (d:List α) (x:α) (r:List α):bR (d++x::r) (d.length:Int)=some x:=by
 rw[hf _ _ (by simp)];simp
theorem yv {α:Type} (d:List α) (x y:α) (r:List α):List.set (d++x::r) (Int.toNat (d.length:Int)) y=d++y::r:=by
 simp
theorem IH {k:Int} (h:0<=k):decide (k<0)=false:=by simp;omega
theorem vo {α:Type} (d:List α) (x:α) (r:List α):decide ((d.length:Int)<((d++x::r).length:Int))=true:=by simp;omega
theorem vp {α:Type} {d:List α} (h:d.length<=1099511627776):IntKind.i64.wrap ((d.length:Int)+1)=((d.length+1:Nat):Int):=by rw[hG _ (by omega)];omega
theorem CW {α:Type} (f:α->Nat):∀a:List α,fs (λx=>64*(f x+1)) a=64*gK f a
 |[]=>rfl
 |x::r=>by
  have:=CW f r;unfold gK at this⊢;simp only[fs,List.length_cons];omega
theorem CX {α:Type} (n:Nat):∀a:List α,fs (λ_=>n) a=n*a.length
 |[]=>rfl
 |x::r=>by simp only[fs,CX n r,List.length_cons,Nat.mul_add];omega
theorem CY {α:Type} {l:Nat->List α->Int->Int->Option (Int×List α)} (w:α->Nat) (ba:∀m (v:List α) k,l (m+1) v k (v.length:Int)=some (k,v))
  (aa:∀x (k:Int),0<=k->k+w x<=1099511627776->∃cf c,c<=w x/\∀m (d r:List α),d.length<=1099511627776->l (m+1) (d++x::r) k (d.length:Int)=l m (d++cf::r) (k+(c:Nat)) ((d.length+1:Nat):Int))
  (a:List α) (k:Int) (ai:0<=k) (hl:a.length<=1099511627776) (U:k+fs w a<=1099511627776):∃b7 c,c<=fs w a/\cC (λn=>l n a k 0)=some (k+(c:Nat),b7):=by
 have key:∀(r:List α) (k:Int),0<=k->k+fs w r<=1099511627776->∃e0 c,c<=fs w r/\∀(d:List α) (m:Nat),d.length+r.length<=1099511627776->r.length<m->l m (d++r) k (d.length:Int)=some (k+(c:Nat),d++e0):=by
  intro r;induction r with
  |nil=>
   intro k _ _;refine⟨[],0,Nat.le_refl _,λd m _ hm=>?_⟩;obtain⟨m,rfl⟩:∃j,m=j+1:=⟨m-1,by omega⟩
   rw[List.append_nil,ba];simp
  |cons x r ih=>
   intro k ab ad;simp only[fs]at ad;obtain⟨cf,c,bx,bE⟩:=aa x k ab (by omega);obtain⟨e0,wc,aM,aS⟩:=ih (k+c) (by omega) (by omega);refine⟨cf::e0,c+wc,by simp only[fs];omega,λd m af hm=>?_⟩;simp only[List.length_cons]at af hm;obtain⟨m,rfl⟩:∃j,m=j+1:=⟨m-1,by omega⟩
   rw[bE m d r (by omega)];have:=aS (d++[cf]) m (by simp only[List.length_append,List.length_cons,List.length_nil];omega) (by omega);simp only[List.length_append,List.length_cons,List.length_nil,List.append_assoc,List.cons_append,List.nil_append,Nat.zero_add]at this;rw[this];simp only[some.injEq,Prod.mk.injEq,and_true];omega
 obtain⟨b7,c,aM,aS⟩:=key a k ai U;refine⟨b7,c,aM,fV (a.length+1) λm hm=>?_⟩;have:=aS [] m (by simpa using hl) (by omega);simpa using this
theorem Uh {α:Type} {l:Nat->List α->Int->Int->Option (Int×List α)} {hl:List α->Nat->Int->Int->Xv} (w:α->Nat) (ba:∀m (v:List α) k,l (m+1) v k (v.length:Int)=some (k,v))
  (e4:∀(a:List α) m k,hl a (m+1) k (a.length:Int)=some k)
  (aa:∀x (k:Int),0<=k->k+w x<=1099511627776->∃cf c,c<=w x/\∀m (d r:List α),d.length<=1099511627776->l (m+1) (d++x::r) k (d.length:Int)=l m (d++cf::r) (k+(c:Nat)) ((d.length+1:Nat):Int)/\
   hl (d++cf::r) (m+1) k (d.length:Int)=hl (d++cf::r) m (k+(c:Nat)) ((d.length+1:Nat):Int))
  (a:List α) (k:Int) (ai:0<=k) (II:a.length<=1099511627776) (U:k+fs w a<=1099511627776):∃b7 c,c<=fs w a/\cC (λn=>l n a k 0)=some (k+(c:Nat),b7)/\cC (λn=>hl b7 n k 0)=some (k+(c:Nat)):=by
 have key:∀(r:List α) (k:Int),0<=k->k+fs w r<=1099511627776->∃e0 c,c<=fs w r/\e0.length=r.length/\∀(d:List α) (m:Nat),d.length+r.length<=1099511627776->r.length<m->l m (d++r) k (d.length:Int)=some (k+(c:Nat),d++e0)/\
   hl (d++e0) m k (d.length:Int)=some (k+(c:Nat)):=by
  intro r;induction r with
  |nil=>
   intro k _ _;refine⟨[],0,Nat.le_refl _,rfl,λd m _ hm=>?_⟩;obtain⟨m,rfl⟩:∃j,m=j+1:=⟨m-1,by omega⟩
   rw[List.append_nil,ba,e4];simp
  |cons x r ih=>
   intro k ab ad;simp only[fs]at ad;obtain⟨cf,c,bx,bE⟩:=aa x k ab (by omega);obtain⟨e0,wc,aM,aV,aS⟩:=ih (k+c) (by omega) (by omega);refine⟨cf::e0,c+wc,by simp only[fs];omega,by simp only[List.length_cons,aV],λd m af hm=>?_⟩;simp only[List.length_cons]at af hm;obtain⟨m,rfl⟩:∃j,m=j+1:=⟨m-1,by omega⟩
   rw[(bE m d r (by omega)).1,(bE m d e0 (by omega)).2];have:=aS (d++[cf]) m (by simp only[List.length_append,List.length_cons,List.length_nil];omega) (by omega);simp only[List.length_append,List.length_cons,List.length_nil,List.append_assoc,List.cons_append,List.nil_append,Nat.zero_add]at this;rw[this.1,this.2];simp only[some.injEq,Prod.mk.injEq,and_true];exact⟨by omega,by omega⟩
 obtain⟨b7,c,aM,aV,aS⟩:=key a k ai U;refine⟨b7,c,aM,fV (a.length+1) λm hm=>?_,fV (a.length+1) λm hm=>?_⟩
 .have:=(aS [] m (by simpa using II) (by omega)).1;simpa using this
 .have:=(aS [] m (by simpa using II) (by omega)).2;simpa using this
set_option linter.unusedSimpArgs false
theorem IJ (x:Xs) (n:Int) (an:(x.length<=9223372036854775807/\∀y∈x,(-9223372036854775808<=y/\y<=9223372036854775807))) (ba:0<=n) (aU:n<=1048576):uG x n=some (hV n (x.length+0)):=by
 unfold uG;refine vk an.1 ba aU λh=>?_;rw[hG _ (by omega)];exact vl (by omega)
theorem IK (x:XB) (n:Int) (an:(x.length<=9223372036854775807/\∀y∈x,pI y)) (ba:0<=n) (aU:n<=1048576):sb x n=some (hV n (x.length+0)):=by
 unfold sb;refine vk an.1 ba aU λh=>?_;rw[hG _ (by omega)];exact vl (by omega)
theorem IL (x:Xz) (n:Int) (an:(x.length<=9223372036854775807/\∀y∈x,(y.length<=9223372036854775807/\∀z∈y,pI z))) (ba:0<=n) (aU:n<=1048576):uH x n=some (hV n (gK (λx=>x.length+0) x)):=by
 unfold uH;refine vk an.1 ba aU λh=>?_;rw[hG _ (by omega)];exact IF (f:=sb) (λx=>x.length+0) x (λ_ _ _=>rfl) (λy a2 n ba aU=>IK y n (an.2 y a2) ba aU) (by omega) _ (by omega) (by omega)
def m3 (x:hF):Nat:=((x.bw.length+0)+((x.Guard.length+0)+(x.Name.length+((gK (λx=>x.length+0) x.bP)+((gK (λx=>x.length+0) x.Next)+0)))))
theorem Ui (x:hF) (n:Int) (an:uF x) (ba:0<=n) (aU:n<=1048576):uI x n=some (hV n (m3 x)):=by
 unfold uI;unfold m3;obtain⟨w0,iG,ll,qR,CP⟩:=an;refine rm (IJ _ _ w0 (by omega) (by omega)) λmr=>?_;refine rm (IK _ _ iG (by omega) (by omega)) λbx=>?_;refine vk ll (by omega) (by omega) λbE=>?_;rw[hG (((n-(((x.bw.length+0):Nat):Int))-(((x.Guard.length+0):Nat):Int))-(x.Name.length:Int)) (by omega)];refine rm (IL _ _ qR (by omega) (by omega)) λEI=>?_;refine rm (IL _ _ CP (by omega) (by omega)) λmx=>?_;exact vl (by omega)
theorem Uj (x:XC) (n:Int) (an:(x.length<=9223372036854775807/\∀y∈x,uF y)) (ba:0<=n) (aU:n<=1048576):w8 x n=some (hV n (gK m3 x)):=by
 unfold w8;refine vk an.1 ba aU λh=>?_;rw[hG _ (by omega)];exact IF (f:=uI) m3 x (λ_ _ _=>rfl) (λy a2 n ba aU=>Ui y n (an.2 y a2) ba aU) (by omega) _ (by omega) (by omega)
def pV (x:kx):Nat:=((x.Start.length+0)+((gK m3 x.cY)+0))
theorem Uk (x:kx) (n:Int) (an:w7 x) (ba:0<=n) (aU:n<=1048576):w9 x n=some (hV n (pV x)):=by
 unfold w9;unfold pV;obtain⟨w0,iG,ll⟩:=an;refine rm (IJ _ _ iG (by omega) (by omega)) λbx=>?_;refine rm (Uj _ _ ll (by omega) (by omega)) λbE=>?_;exact vl (by omega)
theorem IM (x:Xs) (h:(x.length+0)<=1048576):uJ x=some x:=by
 unfold uJ;have hl:x.length<=1048576:=by omega
 rw[vm _ hl (by decide)];simp only[bind_some];rw[yr (f:=some) id x _ (λ_ _ _=>rfl) (λ_ _=>rfl) hl,List.map_id]
def pW (x:fI):aK:=⟨x.Kind,x.Value⟩
theorem Ul (x:fI):uK x=some (pW x):=by
 unfold uK;rfl
theorem IP (x:XB) (h:(x.length+0)<=1048576):sc x=some (x.map pW):=by
 unfold sc;have hl:x.length<=1048576:=by omega
 rw[vm _ hl (by decide)];simp only[bind_some];rw[yr (f:=uK) pW x _ (λ_ _ _=>rfl) (λy a2=>Ul y) hl]
theorem IQ (x:Xz) (h:(gK (λx=>x.length+0) x)<=1048576):uL x=some (x.map (List.map pW)):=by
 unfold uL;have hl:x.length<=1048576:=Nat.le_trans (pT _ _) h;rw[vm _ hl (by decide)];simp only[bind_some];rw[yr (f:=sc) (List.map pW) x _ (λ_ _ _=>rfl) (λy a2=>IP y (Nat.le_trans (s6 (f:=(λx=>x.length+0)) a2) h)) hl]
def s7 (x:hF):bD:=⟨x.bw,(x.Guard.map pW),x.Name,(x.bP.map (List.map pW)),(x.Next.map (List.map pW))⟩
def i6 (x:bD):Nat:=((x.bw.length+0)+((x.Guard.length+0)+(x.Name.length+((gK (λx=>x.length+0) x.bP)+((gK (λx=>x.length+0) x.Next)+0)))))
theorem Um (x:hF):i6 (s7 x)=m3 x:=by
 simp only[i6,m3,s7,IE,List.length_map]
theorem Un (x:hF) (h:(m3 x)<=1048576):uM x=some (s7 x):=by
 unfold uM;unfold m3 at h;rw[IM _ (by omega),IP _ (by omega),IQ _ (by omega),IQ _ (by omega)];rfl
theorem Uo (x:XC) (h:(gK m3 x)<=1048576):w_ x=some (x.map s7):=by
 unfold w_;have hl:x.length<=1048576:=Nat.le_trans (pT _ _) h;rw[vm _ hl (by decide)];simp only[bind_some];rw[yr (f:=uM) s7 x _ (λ_ _ _=>rfl) (λy a2=>Un y (Nat.le_trans (s6 (f:=m3) a2) h)) hl]
def vq (x:kx):cq:=⟨x.c1,x.Start,(x.cY.map s7)⟩
def nW (x:cq):Nat:=((x.Start.length+0)+((gK i6 x.cY)+0))
theorem Up (x:kx):nW (vq x)=pV x:=by
 simp only[nW,pV,vq,IE,List.length_map,Um]
theorem Uq (x:kx) (h:(pV x)<=1048576):qU x=some (vq x):=by
 unfold qU;unfold pV at h;rw[IM _ (by omega),Uo _ (by omega)];rfl
theorem CZ (x:Xs) (h:(x.length+0)<=1048576):pL x x=some true:=by
 unfold pL;have hl:x.length<=1048576:=by omega
 rw[yt,cond_false];exact Uf x (λ_ _=>rfl) ys hl
theorem Ur (x:aK):u1 x x=some true:=by
 unfold u1;simp only[ys,CU,CV,cond_false,bind_some,Bool.not_true]
theorem IU (x:XD) (h:(x.length+0)<=1048576):sI x x=some true:=by
 unfold sI;have hl:x.length<=1048576:=by omega
 rw[yt,cond_false];exact CT (f:=u1) x (λ_ _=>rfl) (λy a2=>Ur y) hl
theorem IV (x:XA) (h:(gK (λx=>x.length+0) x)<=1048576):u2 x x=some true:=by
 unfold u2;have hl:x.length<=1048576:=Nat.le_trans (pT _ _) h;rw[yt,cond_false];exact CT (f:=sI) x (λ_ _=>rfl) (λy a2=>IU y (Nat.le_trans (s6 (f:=(λx=>x.length+0)) a2) h)) hl
theorem Us (x:bD) (h:(i6 x)<=1048576):u3 x x=some true:=by
 unfold u3;unfold i6 at h;simp only[ys,CU,CV,cond_false,bind_some,Bool.not_true,CZ x.bw (by omega),IU x.Guard (by omega),IV x.bP (by omega),IV x.Next (by omega)]
theorem Ut (x:XE) (h:(gK i6 x)<=1048576):x0 x x=some true:=by
 unfold x0;have hl:x.length<=1048576:=Nat.le_trans (pT _ _) h;rw[yt,cond_false];exact CT (f:=u3) x (λ_ _=>rfl) (λy a2=>Us y (Nat.le_trans (s6 (f:=i6) a2) h)) hl
theorem Uu (x:cq) (h:(nW x)<=1048576):x1 x x=some true:=by
 unfold x1;unfold nW at h;simp only[ys,CU,CV,cond_false,bind_some,Bool.not_true,CZ x.Start (by omega),Ut x.cY (by omega)]
theorem Uv (k:Int) (ba:0<=k) (U:k<=1099511627776):∃t,x3 k=some t:=by
 have key:∀(n:Nat) (k:Int),0<=k->k<=n->n<=1099511627776->∀t:Xq,t.length+n<=1099511627776->∃r,∀m,n<m->q6 m k t=some r:=by
  intro n;induction n with
  |zero=>
   intro k ab ad aB t aN;refine⟨[109]++t,λm hm=>?_⟩;obtain⟨m,rfl⟩:∃j,m=j+1:=⟨m-1,by omega⟩
   simp only[q6,x2];rw[show decide (0<k)=false by simp;omega,cond_false,show m7 (1+t.length)=some () by unfold m7;rw[if_pos (by omega)]];rfl
  |succ n ih=>
   intro k ab ad aB t aN;by_cases ai:0<k
   .have af:Int.tdiv k 10=k/10:=Int.tdiv_eq_ediv_of_nonneg ab;have hw:IntKind.i64.wrap (Int.tdiv k 10)=k/10:=by rw[af];exact hG _ (by omega)
    obtain⟨r,aI⟩:=ih (k/10) (by omega) (by omega) (by omega) ([(n3 (IntKind.i64.wrap (48+(Int.tmod k 10))))]++t) (by simp only[List.length_append,List.length_cons,List.length_nil];omega);refine⟨r,λm hm=>?_⟩;obtain⟨m,rfl⟩:∃j,m=j+1:=⟨m-1,by omega⟩
    simp only[q6,x2];rw[show decide (0<k)=true by simp;omega,cond_true,show m7 (1+t.length)=some () by unfold m7;rw[if_pos (by omega)]];simp only[bind_some,hw];exact aI m (by omega)
   .refine⟨[109]++t,λm hm=>?_⟩;obtain⟨m,rfl⟩:∃j,m=j+1:=⟨m-1,by omega⟩
    simp only[q6,x2];rw[show decide (0<k)=false by simp;omega,cond_false,show m7 (1+t.length)=some () by unfold m7;rw[if_pos (by omega)]];rfl
 unfold x3;by_cases ai:k<=0
 .exact⟨_,by rw[show decide (k<=0)=true by simpa using ai];rfl⟩
 .obtain⟨r,aI⟩:=key k.toNat k ba (by omega) (by omega) [] (by simp only[List.length_nil];omega);exact⟨r,by rw[show decide (k<=0)=false by simp;omega,cond_false];exact fV (k.toNat+1) λm hm=>aI m (by omega)⟩
theorem C0 (x:Xs) (k:Int) (ba:0<=k) (U:k+64*(x.length+0)<=1099511627776):∃(cf:Xs) (c:Nat),c<=64*(x.length+0)/\sK x k=some (k+(c:Int),cf)/\u6 cf k=some (k+(c:Int)):=by
 unfold sK u6;have e:fs (λ_=>64) x=64*x.length:=CX 64 x;obtain⟨cf,c,ab,ad,aB⟩:=Uh (l:=sJ) (hl:=sP) (λ_=>64) (λm v k=>by simp only[sJ,B7];rw[fT (Nat.le_refl _)];rfl) (λa m k=>by simp only[sP,Ca];rw[fT (Nat.le_refl _)];rfl) (λx k ba U=>by
  have iG:IntKind.i64.wrap (k+1)=k+1:=hG _ (by omega);refine⟨k,1,by omega,λm d r af=>⟨?_,?_⟩⟩
  .simp only[sJ,B7];rw[vo];simp only[cond_true,vn,yv,bind_some,iG];rw[vp af];rw[show((k+1):Int)=k+((1:Nat):Int) by omega]
  .simp only[sP,Ca];rw[vo];simp only[cond_true,cond_false,vn,bind_some,bne_self_eq_false,beq_self_eq_true,Bool.not_true,iG];rw[vp af];rw[show((k+1):Int)=k+((1:Nat):Int) by omega]) x k ba (by omega) (by omega)
 exact⟨cf,c,by omega,ad,aB⟩
theorem IW (x:XD) (k:Int) (ba:0<=k) (U:k+64*(x.length+0)<=1099511627776):∃(cf:XD) (c:Nat),c<=64*(x.length+0)/\u4 x k=some (k+(c:Int),cf):=by
 unfold u4;have e:fs (λ_=>64) x=64*x.length:=CX 64 x;obtain⟨cf,c,ab,ad⟩:=CY (l:=sL) (λ_=>64) (λm v k=>by simp only[sL,B8];rw[fT (Nat.le_refl _)];rfl) (λx k ba U=>by
  have iG:IntKind.i64.wrap (k+1)=k+1:=hG _ (by omega);have ll:IntKind.i64.wrap ((k+1)+1)=(k+1)+1:=hG _ (by omega);refine⟨(aK.mk k (k+1)),1+1,by omega,λm d r af=>?_⟩;simp only[sL,B8];rw[vo];simp only[cond_true,vn,yv,bind_some,iG,ll];rw[vp af];rw[show(((k+1)+1):Int)=k+((1+1:Nat):Int) by omega]) x k ba (by omega) (by omega)
 exact⟨cf,c,by omega,ad⟩
theorem IX (x:XA) (k:Int) (ba:0<=k) (U:k+64*(gK (λx=>x.length+0) x)<=1099511627776):∃(cf:XA) (c:Nat),c<=64*(gK (λx=>x.length+0) x)/\u5 x k=some (k+(c:Int),cf):=by
 unfold u5;have e:fs (λx=>64*((x.length+0)+1)) x=64*gK (λx=>x.length+0) x:=CW (λx=>x.length+0) x;have hl:x.length<=gK (λx=>x.length+0) x:=pT _ _;obtain⟨cf,c,ab,ad⟩:=CY (l:=sM) (λx=>64*((x.length+0)+1)) (λm v k=>by simp only[sM,B9];rw[fT (Nat.le_refl _)];rfl) (λx k ba U=>by
  obtain⟨gC,bx,g7,dZ⟩:=IW x k (by omega) (by omega);refine⟨gC,bx,by omega,λm d r af=>?_⟩;simp only[sM,B9];rw[vo];simp only[cond_true,vn,yv,bind_some,dZ];rw[vp af]) x k ba (by omega) (by omega)
 exact⟨cf,c,by omega,ad⟩
theorem Uw (x:XE) (k:Int) (ba:0<=k) (U:k+64*(gK i6 x)<=1099511627776):∃(cf:XE) (c:Nat),c<=64*(gK i6 x)/\x4 x k=some (k+(c:Int),cf):=by
 unfold x4;have e:fs (λx=>64*((i6 x)+1)) x=64*gK i6 x:=CW i6 x;have hl:x.length<=gK i6 x:=pT _ _;obtain⟨cf,c,ab,ad⟩:=CY (l:=sN) (λx=>64*((i6 x)+1)) (λm v k=>by simp only[sN,B_];rw[fT (Nat.le_refl _)];rfl) (λx k ba U=>by
  simp only[i6]at U⊢;obtain⟨gC,bx,g7,dZ⟩:=C0 x.bw k (by omega) (by omega);obtain⟨h3,bE,gq,fj⟩:=IW x.Guard (k+(bx:Int)) (by omega) (by omega);obtain⟨qs,t3⟩:=Uv ((k+(bx:Int))+(bE:Int)) (by omega) (by omega);have qR:IntKind.i64.wrap (((k+(bx:Int))+(bE:Int))+1)=((k+(bx:Int))+(bE:Int))+1:=hG _ (by omega);obtain⟨s5,mx,cy,jT⟩:=IX x.bP (((k+(bx:Int))+(bE:Int))+1) (by omega) (by omega);obtain⟨Ux,ou,c0,la⟩:=IX x.Next ((((k+(bx:Int))+(bE:Int))+1)+(mx:Int)) (by omega) (by omega);refine⟨(bD.mk gC h3 qs s5 Ux),bx+bE+1+mx+ou,by omega,λm d r af=>?_⟩;simp only[sN,B_];rw[vo];simp only[cond_true,vn,yv,bind_some,dZ,fj,t3,qR,jT,la];rw[vp af];rw[show((((((k+(bx:Int))+(bE:Int))+1)+(mx:Int))+(ou:Int)):Int)=k+((bx+bE+1+mx+ou:Nat):Int) by omega]) x k ba (by omega) (by omega)
 exact⟨cf,c,by omega,ad⟩
theorem Uy (x:cq) (k:Int) (ba:0<=k) (U:k+64*((nW x)+1)<=1099511627776):∃(g1:Int) (gC:Xs) (h3:XE) (c:Nat),c<=64*((nW x)+1)/\x5 x.c1 x.Start x.cY k=some (k+(c:Int),g1,gC,h3):=by
 unfold x5;simp only[nW]at U⊢;obtain⟨gC,bx,g7,dZ⟩:=C0 x.Start k (by omega) (by omega);obtain⟨h3,bE,gq,fj⟩:=Uw x.cY (k+(bx:Int)) (by omega) (by omega);refine⟨x.c1,gC,h3,bx+bE,by omega,?_⟩;simp only[bind_some,dZ,fj];rw[show(k+((bx+bE:Nat):Int))=((k+(bx:Int))+(bE:Int)) by omega]
def fU (t:aK):Nat:=if t.Kind=2 then 2 else if t.Kind=3 then 1 else 0
theorem vr (t:aK):fU t<=2:=by unfold fU;split<;>(try split)<;>omega
theorem IY (t:aK):cond (t.Kind==2) (some 2) (cond (t.Kind==3) (some 1) (some 0))=some (fU t:Int):=by
 unfold fU;by_cases ad:t.Kind=2
 .simp[ad]
 .by_cases aB:t.Kind=3
  .simp[aB]
  .have aS:(t.Kind==2)=false:=by simpa using ad
   have aV:(t.Kind==3)=false:=by simpa using aB
   rw[aS,aV,if_neg ad,if_neg aB];rfl
def gL (n c9 aE:Int):Bool:=decide (c9<=n)&&decide (n<=aE)
def mm (t:aK) (v:Int):Bool:=cond (t.Kind==0) (gL t.Value 0 63) (cond (t.Kind==1) (gL t.Value 0 (v-1)) (cond (t.Kind==2) (gL t.Value 0 8) (cond (t.Kind==3) (t.Value==0) false)))
def kg (v:Int):XD->Nat->Bool
 |[],k=>k==0
 |t::r,k=> !(k==0)&&(mm t v&&kg v r (k+fU t-1))
def hx (e:XD) (v most:Int):Bool:=decide ((e.length:Int)<=most)&&kg v e 1
theorem Uz (t:aK) (v:Int) (aD: -1000000<=v/\v<=1000000):xd t v=some (mm t v):=by
 unfold xd mT mm gL;rw[hG (v-1) (by omega)];cases t.Kind==0<;>cases t.Kind==1<;>cases t.Kind==2<;>cases t.Kind==3<;>rfl
theorem UA (t:aK) (v:Int) (aD: -1000000<=v/\v<=1000000):xC t v=some (mm t v):=by
 unfold xC xr lq mm gL;rw[hG (v-1) (by omega)];cases t.Kind==0<;>cases t.Kind==1<;>cases t.Kind==2<;>cases t.Kind==3<;>rfl
theorem yw (t:aK):uO t=some (fU t:Int):=IY t
theorem IZ (t:aK):xD t=some (fU t:Int):=IY t
theorem C1 {k a:Nat} (ai:1<=k) (n7:k<=100000000) (bQ:a<=2):IntKind.i64.wrap ((k:Int)+IntKind.i64.wrap ((a:Int)-1))=((k+a-1:Nat):Int):=by
 rw[hG ((a:Int)-1) (by omega),hG _ (by omega)];omega
theorem yx (k:Nat):((k:Int)==0)=(k==0):=by
 by_cases h:k=0
 .subst h;rfl
 .have ab:((k:Int)==0)=false:=by simp;omega
  have ad:(k==0)=false:=by simpa using h
  rw[ab,ad]
theorem I0 (e:XD) (v most:Int) (aD: -1000000<=v/\v<=1000000) (he:e.length<=1048576):uP e v most=some (hx e v most):=by
 unfold uP hx;by_cases hm:(e.length:Int)<=most
 .have d1:decide (most<(e.length:Int))=false:=by simp;omega
  have d2:decide ((e.length:Int)<=most)=true:=by simpa using hm
  rw[d1,d2,cond_false,Bool.true_and];have key:∀i,i<=e.length->∀(k:Nat) m,k<=1+2*i->e.length-i<m->se e v m (k:Int) (i:Int)=some (kg v (e.drop i) k):=by
   refine down e.length ?_ ?_
   .intro k m _ hm;obtain⟨m,rfl⟩:∃j,m=j+1:=⟨m-1,by omega⟩
    simp only[se,Bi];rw[fT (Nat.le_refl _),List.drop_of_length_le (Nat.le_refl _),yx];rfl
   .intro i aE ih k m ai hm;obtain⟨m,rfl⟩:∃j,m=j+1:=⟨m-1,by omega⟩
    simp only[se,Bi];rw[g3 aE,hf _ i aE,gh i _ aE (by omega),drop_cons e i aE,yx];simp only[cond_true,bind_some,Uz _ v aD,yw,kg];by_cases ba:k=0
    .subst ba;rfl
    .have U:(k==0)=false:=by simpa using ba
     have bQ:=vr e[i];rw[U,C1 (by omega) (by omega) bQ,ih _ m (by omega) (by omega)];simp only[cond_false,Bool.not_false,Bool.true_and];cases mm e[i] v<;>rfl
  refine fV (e.length+1) λm hm=>?_;have:=key 0 (by omega) 1 m (by omega) (by omega);simpa using this
 .have d1:decide (most<(e.length:Int))=true:=by simp;omega
  have d2:decide ((e.length:Int)<=most)=false:=by simpa using hm
  rw[d1,d2];rfl
theorem UB (e:XD) (v most:Int) (aD:0<=v/\v<=29) (Xf:1<=most/\most<=60) (he:e.length<=1048576):xE e v most=some (hx e v most):=by
 unfold xE lq hx;have d1:(!(decide (0<=v)&&decide (v<=29)))=false:=by simp;omega
 have d2:(!(decide (1<=most)&&decide (most<=60)))=false:=by simp;omega
 simp only[bind_some,d1,d2,cond_false];by_cases ab:e.length=0
 .have:e=[]:=List.length_eq_zero_iff.1 ab;subst this;simp[kg]
 .by_cases hm:(e.length:Int)<=most
  .have d3:(!(decide ((1:Int)<=(e.length:Int))&&decide ((e.length:Int)<=most)))=false:=by simp;omega
   have d4:decide ((e.length:Int)<=most)=true:=by simpa using hm
   rw[d3,d4,cond_false,Bool.true_and];have key:∀i,i<=e.length->∀(k:Nat) m,k<=1+2*i->e.length-i<m->sy e v m (k:Int) (i:Int)=some (kg v (e.drop i) k):=by
    refine down e.length ?_ ?_
    .intro k m _ hm;obtain⟨m,rfl⟩:∃j,m=j+1:=⟨m-1,by omega⟩
     simp only[sy,BH];rw[fT (Nat.le_refl _),List.drop_of_length_le (Nat.le_refl _),yx];rfl
    .intro i aE ih k m ai hm;obtain⟨m,rfl⟩:∃j,m=j+1:=⟨m-1,by omega⟩
     simp only[sy,BH];rw[g3 aE,hf _ i aE,gh i _ aE (by omega),drop_cons e i aE,yx];simp only[cond_true,bind_some,UA _ v (by omega),IZ,kg];by_cases ba:k=0
     .subst ba;rfl
     .have U:(k==0)=false:=by simpa using ba
      have bQ:=vr e[i];rw[U,C1 (by omega) (by omega) bQ,ih _ m (by omega) (by omega)];simp only[cond_false,Bool.not_false,Bool.true_and];cases mm e[i] v<;>rfl
   refine fV (e.length+1) λm hm=>?_;have:=key 0 (by omega) 1 m (by omega) (by omega);simpa using this
  .have d3:(!(decide ((1:Int)<=(e.length:Int))&&decide ((e.length:Int)<=most)))=true:=by simp;omega
   have d4:decide ((e.length:Int)<=most)=false:=by simpa using hm
   rw[d3,d4];rfl
def small (c:UInt8):Bool:=decide (97<=(c.toNat:Int))&&decide ((c.toNat:Int)<=122)
def digit (c:UInt8):Bool:=decide (48<=(c.toNat:Int))&&decide ((c.toNat:Int)<=57)
def s8 (s:Xq):Bool:=decide (s.length<=10)&&(match s with|[]=>false|c::r=>small c&&r.all λc=>small c||digit c)
theorem UC (s:Xq):xe s=some (s8 s):=by
 unfold xe;cases s with
 |nil=>rfl
 |cons c r=>
  have fb:((c::r)==([]:Xq))=false:=rfl;rw[fb];simp only[cond_false];by_cases gw:10<(c::r).length
  .have:decide ((10:Int)<((c::r).length:Int))=true:=by simp at gw⊢;omega
   rw[this];have ad:decide ((c::r).length<=10)=false:=by simp at gw⊢;omega
   simp only[s8,ad];rfl
  .have:decide ((10:Int)<((c::r).length:Int))=false:=by simp at gw⊢;omega
   rw[this];have ad:decide ((c::r).length<=10)=true:=by simp at gw⊢;omega
   rw[pS];simp only[cond_false,bind_some,uR];simp only[s8,ad,Bool.true_and];show cond (!small c) _ _=_;cases aa:small c with
   |false=>rfl
   |true=>
    simp only[Bool.not_true,cond_false];rw[yp (n:=(c::r).length) (λi=>some (((c::r).drop i).all λc=>small c||digit c))]
    .simp[aa]
    .intro m;simp only[uS,Bl];rw[fT (Nat.le_refl _)];simp
    .intro i aE m ih;simp only[uS,Bl];rw[g3 aE,hf _ i aE,gh i _ aE (by omega),ih,drop_cons _ i aE];simp only[cond_true,bind_some,uR,Bk,List.all_cons];show cond (!small _) (cond (!digit _) _ _) _=_;cases small (c::r)[i]<;>cases digit (c::r)[i]<;>rfl
theorem UD (s:Xq) (aa:s.length<=140737488355328):xx s=some (s8 s):=by
 unfold xx;have a1:∀m,s.length-1<m->1<=s.length->pK s m ((1:Nat):Int)=some (((s.drop 1).all λc=>small c||digit c)&&(decide (1<=(s.length:Int))&&decide ((s.length:Int)<=10))):=by
  intro m hm ab;refine down s.length (P:=λi=>1<=i->∀m,s.length-i<m->pK s m (i:Int)=some (((s.drop i).all λc=>small c||digit c)&&(decide (1<=(s.length:Int))&&decide ((s.length:Int)<=10)))) ?_ ?_ 1 ab (Nat.le_refl _) m hm
  .intro _ m hm;obtain⟨k,rfl⟩:∃k,m=k+1:=⟨m-1,by omega⟩
   simp only[pK,xw];rw[fT (Nat.le_refl _)];simp
  .intro i aE ih z3 m hm;obtain⟨k,rfl⟩:∃k,m=k+1:=⟨m-1,by omega⟩
   simp only[pK,xw];rw[g3 aE,hf _ i aE,gh i _ aE (by omega),ih (by omega) k (by omega),drop_cons _ i aE];have e:((i:Int)==0)=false:=by simp;omega
   rw[e];simp only[cond_true,cond_false,bind_some,BB,List.all_cons];show cond (!small _) (cond (!digit _) _ _) _=_;cases small s[i]<;>cases digit s[i]<;>rfl
 refine fV (s.length+1) λm hm=>?_;obtain⟨k,rfl⟩:∃k,m=k+1:=⟨m-1,by omega⟩
 simp only[pK,xw];cases s with
 |nil=>rfl
 |cons c r=>
  have ai:=a1 k (by simp at hm⊢;omega) (by simp);rw[show((1:Nat):Int)=1 from rfl]at ai;rw[CQ (by simp),pS,Uc,ai];have e:((0:Int)==0)=true:=rfl;rw[e];simp only[cond_true,s8];show cond (!small c) _ _=_;have ab:decide (1<=((c::r).length:Int))=true:=by simp;omega
  have ad:decide (((c::r).length:Int)<=10)=decide ((c::r).length<=10):=by
   by_cases h:(c::r).length<=10<;>simp at h⊢<;>omega
  rw[ab,ad];cases small c with
  |false=>simp
  |true=>simp[Bool.and_comm]
section
variable {α β:Type}
theorem UE {l:Nat->Int->Option β} (a:List α) (F:List α->Option β) (ba:∀m,l (m+1) (a.length:Int)=F [])
  (aa:∀i (h:i<a.length) m,l m ((i+1:Nat):Int)=F (a.drop (i+1))->l (m+1) (i:Int)=F (a[i]::a.drop (i+1))):cC (λm=>l m 0)=F a:=by
 rw[yp (n:=a.length) (λi=>F (a.drop i))]
 .simp
 .intro m;rw[ba,List.drop_of_length_le (Nat.le_refl _)]
 .intro i aE m ih;rw[drop_cons a i aE];exact aa i aE m ih
theorem yy {l:Nat->Int->Xu} (a:List α) (p:α->Bool) (ba:∀m,l (m+1) (a.length:Int)=some true)
  (aa:∀i (h:i<a.length) m,l (m+1) (i:Int)=cond (p a[i]) (l m ((i+1:Nat):Int)) (some false)):cC (λm=>l m 0)=some (a.all p):=by
 refine UE a (λr=>some (r.all p)) ba λi h m ih=>?_;rw[aa i h m,ih,List.all_cons];cases p a[i]<;>rfl
def kh (p:α->Bool):Nat->List α->Int
 |_,[]=> -1
 |i,x::r=>if p x=true then(i:Int)else kh p (i+1) r
theorem s9 (p:α->Bool):∀(r:List α) (i:Nat),decide (0<=kh p i r)=r.any p
 |[],i=>by simp[kh]
 |x::r,i=>by
  simp only[kh,List.any_cons];by_cases h:p x=true
  .simp[h]
  .have e:p x=false:=by simpa using h
   simp[e,s9 p r (i+1)]
theorem I1 {l:Nat->Int->Xv} (a:List α) (p:α->Bool) (ba:∀m,l (m+1) (a.length:Int)=some (-1))
  (aa:∀i (h:i<a.length) m,l (m+1) (i:Int)=cond (p a[i]) (some (i:Int)) (l m ((i+1:Nat):Int))):cC (λm=>l m 0)=some (kh p 0 a):=by
 have key:∀i,i<=a.length->∀m,a.length-i<m->l m (i:Int)=some (kh p i (a.drop i)):=by
  refine down a.length ?_ ?_
  .intro m hm;obtain⟨m,rfl⟩:∃j,m=j+1:=⟨m-1,by omega⟩
   rw[ba,List.drop_of_length_le (Nat.le_refl _)];rfl
  .intro i aE ih m hm;obtain⟨m,rfl⟩:∃j,m=j+1:=⟨m-1,by omega⟩
   rw[aa i aE m,ih m (by omega),drop_cons a i aE];simp only[kh];cases p a[i]<;>rfl
 refine fV (a.length+1) λm hm=>?_;have:=key 0 (by omega) m (by omega);simpa using this
theorem vt {l:Nat->Int->Xv} {f:α->Xu} (a:List α) (p:α->Bool)
  (kf:∀m i,l (m+1) i=cond (decide (i<(a.length:Int))) ((bR a i).bind λx=>(f x).bind λy=>cond y (some i) (l m (IntKind.i64.wrap (i+1)))) (some (-1)))
  (bk:∀x∈a,f x=some (p x)) (bQ:a.length<=1099511627776):cC (λm=>l m 0)=some (kh p 0 a):=by
 refine I1 a p (λm=>by rw[kf,fT (Nat.le_refl _)];rfl) λi h m=>?_;rw[kf,g3 h,hf _ i h,gh i _ h (by omega)];simp only[cond_true,bind_some,bk _ (List.getElem_mem h)]
theorem yz (a:List α) (p:α->Bool):(a.any λx=> !p x)= !(a.all p):=by
 induction a with
 |nil=>rfl
 |cons x r ih=>simp only[List.any_cons,List.all_cons,ih];cases p x<;>simp
end
end Go.nI
