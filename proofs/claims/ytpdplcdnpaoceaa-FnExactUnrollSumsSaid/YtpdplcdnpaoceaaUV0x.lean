/- Part of a proof that a law returns true for every input. No condition. -/
import Derived.Test.YtpdplcdnpaoceaaFwA
import Derived.IntWalk
import Derived.Test.YtpdplcdnpaoceaaP3
namespace Go.nB
open Option Nat Or
open Go Go.cV
theorem fU (n:Int) (h: -9223372036854775808<=n/\n<=9223372036854775807):IntKind.i64.wrap n=n:=IntWalk.i64_in n h
theorem SV {α:Type} (a:List α) (i:Nat) (d:α) (h:i<a.length):ca a (i:Int)=some (a.getD i d):=by
 rw[Cx (by omega) (by simpa using h)];simp[List.getD,h]
theorem g2 {α:Type} (a:List α) (i:Nat) (h:i<a.length):ca a (i:Int)=some a[i]:=by
 rw[Cx (by omega) (by simpa using h)];rfl
theorem hU (i n:Nat) (h:i<n) (a2:n<=4611686018427387904):IntKind.i64.wrap ((i:Int)+1)=((i+1:Nat):Int):=by
 rw[fU _ (by omega)];omega
theorem hF {i n:Nat} (h:i<n):decide ((i:Int)<(n:Int))=true:=by simp;omega
theorem fV {i n:Nat} (h:n<=i):decide ((i:Int)<(n:Int))=false:=by simp;omega
theorem xJ {α:Type} (c:α) (r:List α):ca (c::r) 0=some c:=rfl
theorem B6 {n:Nat} (h:0<n):decide ((0:Int)<(n:Int))=true:=by simp;omega
theorem HO:IntKind.i64.wrap (0+1)=1:=by decide
theorem down (n:Nat) {P:Nat->Prop} (bt:P n) (R:∀i,i<n->P (i+1)->P i):∀i,i<=n->P i:=by
 have key:∀d,d<=n->P (n-d):=by
  intro d;induction d with
  |zero=>intro _;exact bt
  |succ d ih=>
   intro ad;have:=ih (by omega);refine R _ (by omega) ?_;rw[show n-(d+1)+1=n-d by omega];exact this
 intro i ay;have:=key (n-i) (by omega)
 rwa [show n-(n-i)=i by omega]at this
theorem up {β:Type} {l:Nat->Int->Option β} {n:Nat} (F:Nat->Option β) (bt:∀m,l (m+1) (n:Int)=F n)
  (R:∀i,i<n->∀m,(l m ((i+1:Nat):Int)=F (i+1))->l (m+1) (i:Int)=F i):∀i,i<=n->∀m,n-i<m->l m (i:Int)=F i:=by
 refine down n ?_ ?_
 .intro m hm;obtain⟨k,rfl⟩:∃k,m=k+1:=⟨m-1,by omega⟩
  exact bt k
 .intro i ay ih m hm;obtain⟨k,rfl⟩:∃k,m=k+1:=⟨m-1,by omega⟩
  exact R i ay k (ih k (by omega))
theorem xK {β:Type} {l:Nat->Int->Option β} {n:Nat} (F:Nat->Option β) (bt:∀m,l (m+1) (n:Int)=F n)
  (R:∀i,i<n->∀m,(l m ((i+1:Nat):Int)=F (i+1))->l (m+1) (i:Int)=F i):cX (λm=>l m 0)=F 0:=
 hc (n+1) λm hm=>up F bt R 0 (by omega) m (by omega)
theorem drop_cons {α:Type} (a:List α) (i:Nat) (h:i<a.length):a.drop i=a[i]::a.drop (i+1):=List.drop_eq_getElem_cons h
def hV (n:Int) (s:Nat):Int:=if(s:Int)<=n then n-s else-1
theorem B8 {n:Int} {s:Nat} (h:(s:Int)<=n):hV n s=n-s:=if_pos h
theorem xL {n:Int} {s:Nat} (h:n<s):hV n s= -1:=if_neg (by omega)
theorem SW {n:Int} (h:0<=n):hV n 0=n:=by rw[B8 (by simpa using h)];simp
theorem ry {f:Vo} {k:Int->Vo} {n:Int} {s t:Nat} (bd:f=some (hV n s)) (ak:(s:Int)<=n->k (n-s)=some (hV (n-s) t)):
  (f.bind λx=>cond (decide (x<0)) (some (-1)) (k x))=some (hV n (s+t)):=by
 rw[bd];simp only[bind_some];by_cases h:(s:Int)<=n
 .rw[B8 h];have:decide (n-(s:Int)<0)=false:=by simp;omega
  rw[this,cond_false,ak h];congr 1;unfold hV;by_cases aa:(t:Int)<=n-s
  .rw[if_pos aa,if_pos (by omega)];omega
  .rw[if_neg aa,if_neg (by omega)]
 .rw[xL (by omega)];have:decide ((-1:Int)<0)=true:=by decide
  rw[this,cond_true,xL (by omega)]
theorem vk {K:Vo} {n:Int} {s t:Nat} (R:s<=9223372036854775807) (bt:0<=n) (a2:n<=1048576) (ak:(s:Int)<=n->K=some (hV (n-s) t)):
  cond (decide (IntKind.i64.wrap (n-(s:Int))<0)) (some (-1)) K=some (hV n (s+t)):=by
 rw[fU _ (by omega)];by_cases h:(s:Int)<=n
 .have:decide (n-(s:Int)<0)=false:=by simp;omega
  rw[this,cond_false,ak h];congr 1;unfold hV;by_cases aa:(t:Int)<=n-s
  .rw[if_pos aa,if_pos (by omega)];omega
  .rw[if_neg aa,if_neg (by omega)]
 .have:decide (n-(s:Int)<0)=true:=by simp;omega
  rw[this,cond_true,xL (by omega)]
theorem vl {n:Int} (h:0<=n):some n=some (hV n 0):=by rw[SW h]
def fN {α:Type} (f:α->Nat):List α->Nat
 |[]=>0
 |x::r=>f x+fN f r
theorem HP {α:Type} {f:α->Nat}:∀{l:List α} {x:α},x∈l->f x<=fN f l
 |y::r,x,h=>by
  simp only[fN];rcases List.mem_cons.1 h with rfl|h
  .omega
  .have:=HP (f:=f) h;omega
theorem HQ {α β:Type} {f:β->Nat} {g:α->β}:∀l:List α,fN f (l.map g)=fN (λx=>f (g x)) l
 |[]=>rfl
 |x::r=>by simp only[List.map_cons,fN,HQ r]
def fW {α:Type} (f:α->Nat) (l:List α):Nat:=l.length+fN f l
theorem HR {α β:Type} (f:β->Nat) (g:α->β) (l:List α):fW f (l.map g)=fW (λx=>f (g x)) l:=by simp only[fW,List.length_map,HQ]
theorem pI {α:Type} (f:α->Nat) (l:List α):l.length<=fW f l:=le_add_right _ _
theorem sU {α:Type} {f:α->Nat} {l:List α} {x:α} (h:x∈l):f x<=fW f l:=Nat.le_trans (HP h) (le_add_left _ _)
theorem SX {α:Type} {l:Nat->Int->Int->Vo} {B:α->Int->(Int->Vo)->Vo} (sz:α->Nat) (a:List α)
  (jT:∀m n i,l (m+1) n i=cond (decide (i<(a.length:Int))) ((ca a i).bind λx=>B x n λy=>l m y (IntKind.i64.wrap (i+1))) (some n))
  (bd:∀x∈a,∀(n:Int) (k:Int->Vo) (t:Nat),0<=n->n<=1048576->((sz x:Int)<=n->k (n-sz x)=some (hV (n-sz x) t))->B x n k=some (hV n (sz x+t)))
  (b4:a.length<=1048576) (n:Int) (bt:0<=n) (a2:n<=1048576):cX (λm=>l m n 0)=some (hV n (fN sz a)):=by
 have key:∀i,i<=a.length->∀n:Int,0<=n->n<=1048576->∀m,a.length-i<m->l m n (i:Int)=some (hV n (fN sz (a.drop i))):=by
  refine down a.length ?_ ?_
  .intro n bt _ m hm;obtain⟨k,rfl⟩:∃k,m=k+1:=⟨m-1,by omega⟩
   rw[jT,fV (Nat.le_refl _),cond_false,List.drop_of_length_le (Nat.le_refl _)];exact vl bt
  .intro i ay ih n bt a2 m hm;obtain⟨k,rfl⟩:∃k,m=k+1:=⟨m-1,by omega⟩
   rw[jT,hF ay,cond_true,g2 _ i ay,hU i _ ay (by omega),drop_cons a i ay];simp only[bind_some,fN];exact bd _ (List.getElem_mem ay) n _ _ bt a2 λh=>ih _ (by omega) (by omega) k (by omega)
 refine hc (a.length+1) λm hm=>?_;have:=key 0 (by omega) n bt a2 m (by omega);simpa using this
theorem HS {α:Type} {l:Nat->Int->Int->Vo} {f:α->Int->Vo} (sz:α->Nat) (a:List α)
  (jT:∀m n i,l (m+1) n i=cond (decide (i<(a.length:Int))) ((ca a i).bind λx=>(f x n).bind λy=>cond (decide (y<0)) (some (-1)) (l m y (IntKind.i64.wrap (i+1)))) (some n))
  (bd:∀x∈a,∀n:Int,0<=n->n<=1048576->f x n=some (hV n (sz x))) (b4:a.length<=1048576) (n:Int) (bt:0<=n) (a2:n<=1048576):cX (λm=>l m n 0)=some (hV n (fN sz a)):=
 SX (B:=λx n k=>(f x n).bind λy=>cond (decide (y<0)) (some (-1)) (k y)) sz a jT (λx ae n _ _ bt a2 ak=>ry (bd x ae n bt a2) ak) b4 n bt a2
theorem xM {α β:Type} {l:Nat->List β->Int->Option (List β)} {f:α->Option β} (g:α->β) (a:List α) (z:β)
  (jT:∀m v i,l (m+1) v i=cond (decide (i<(a.length:Int))) ((ca a i).bind λx=>(f x).bind λy=>(ca v i).bind λ_=>l m (List.set v (Int.toNat i) y) (IntKind.i64.wrap (i+1))) (some v))
  (bd:∀x∈a,f x=some (g x)) (b4:a.length<=1048576):cX (λm=>l m (List.replicate (Int.toNat (a.length:Int)) z) 0)=some (a.map g):=by
 have key:∀i,i<=a.length->∀(v:List β) m,v.length=a.length->a.length-i<m->l m v (i:Int)=some (v.take i++(a.drop i).map g):=by
  refine down a.length ?_ ?_
  .intro v m aE hm;obtain⟨k,rfl⟩:∃k,m=k+1:=⟨m-1,by omega⟩
   rw[jT,fV (Nat.le_refl _)];simp[<-aE]
  .intro i ay ih v m aE hm;obtain⟨k,rfl⟩:∃k,m=k+1:=⟨m-1,by omega⟩
   rw[jT,hF ay,g2 _ i ay,hU i _ ay (by omega)];simp only[cond_true,bind_some,bd _ (List.getElem_mem ay)];rw[g2 v i (by omega)];simp only[bind_some,Int.toNat_natCast];rw[ih _ k (by simp[aE]) (by omega),drop_cons a i ay,List.map_cons,List.take_set,List.take_succ_eq_append_getElem (by omega),List.set_append_right _ _ (by simp;omega)];simp[show min i v.length=i by omega]
 refine hc (a.length+1) λm hm=>?_;have:=key 0 (by omega) (List.replicate (Int.toNat (a.length:Int)) z) m (by simp) (by omega);simpa using this
theorem sV (b:Nat) {n:Nat} (h:n<=1048576) (J:b<=4096):kT b (n:Int)=some ():=by
 have U:b*n<=4096*1048576:=Nat.mul_le_mul J h;have aa:((b:Int)*(n:Int))=((b*n:Nat):Int):=by simp
 unfold kT;rw[if_pos ⟨by omega,by rw[aa];omega,by omega⟩]
theorem B9 {α:Type} {l:Nat->Int->Vn} {f:α->α->Vn} (a:List α)
  (jT:∀m i,l (m+1) i=cond (decide (i<(a.length:Int))) ((ca a i).bind λx=>(ca a i).bind λy=>(f x y).bind λz=>cond (!z) (some false) (l m (IntKind.i64.wrap (i+1)))) (some true))
  (bd:∀x∈a,f x x=some true) (b4:a.length<=1048576):cX (λm=>l m 0)=some true:=by
 rw[xK (n:=a.length) (λ_=>some true)]
 .intro m;rw[jT,fV (Nat.le_refl _)];rfl
 .intro i ay m ih;rw[jT,hF ay,g2 _ i ay,hU i _ ay (by omega),ih];simp only[cond_true,bind_some,bd _ (List.getElem_mem ay),Bool.not_true,cond_false]
theorem SY {α:Type} {d:α->α->Bool} {l:Nat->Int->Vn} (a:List α)
  (jT:∀m i,l (m+1) i=cond (decide (i<(a.length:Int))) ((ca a i).bind λx=>(ca a i).bind λy=>cond (d x y) (some false) (l m (IntKind.i64.wrap (i+1)))) (some true))
  (ad:∀x,d x x=false) (b4:a.length<=1048576):cX (λm=>l m 0)=some true:=by
 rw[xK (n:=a.length) (λ_=>some true)]
 .intro m;rw[jT,fV (Nat.le_refl _)];rfl
 .intro i ay m ih;rw[jT,hF ay,g2 _ i ay,hU i _ ay (by omega),ih];simp only[cond_true,bind_some,ad,cond_false]
theorem xN (x:Int):(x !=x)=false:=by simp
theorem B_ (x:Vj):(!(x==x))=false:=by simp
theorem Ca (x:Bool):(!(x==x))=false:=by simp
theorem xO (n:Nat):((n:Int) !=(n:Int))=false:=by simp
theorem m3 {b n:Nat} (h:n*b<=140737488355328) (aa:n<=9223372036854775807):room b n=some ():=by unfold room;rw[if_pos ⟨h,aa⟩]
theorem pJ {α:Type} (d:List α) (x:α) (r:List α):ca (d++x::r) (d.length:Int)=some x:=by
 rw[g2 _ _ (by simp)];simp
theorem xP {α:Type} (d:List α) (x y:α) (r:List α):List.set (d++x::r) (Int.toNat (d.length:Int)) y=d++y::r:=by
 simp
theorem oK {k:Int} (h:0<=k):decide (k<0)=false:=by simp;omega
theorem pK {α:Type} (d:List α) (x:α) (r:List α):decide ((d.length:Int)<((d++x::r).length:Int))=true:=by simp;omega
theorem pL {α:Type} {d:List α} (h:d.length<=1099511627776):IntKind.i64.wrap ((d.length:Int)+1)=((d.length+1:Nat):Int):=by rw[fU _ (by omega)];omega
theorem Cb {α:Type} (f:α->Nat):∀a:List α,fN (λx=>64*(f x+1)) a=64*fW f a
 |[]=>rfl
 |x::r=>by
  have:=Cb f r;unfold fW at this⊢;simp only[fN,List.length_cons];omega
theorem Cc {α:Type} (n:Nat):∀a:List α,fN (λ_=>n) a=n*a.length
 |[]=>rfl
 |x::r=>by simp only[fN,Cc n r,List.length_cons,Nat.mul_add];omega
theorem xQ {α:Type} {l:Nat->List α->Int->Int->Option (Int×List α)} {hl:List α->Nat->Int->Int->Vo} (w:α->Nat) (bt:∀m (v:List α) k,l (m+1) v k (v.length:Int)=some (k,v))
  (fg:∀(a:List α) m k,hl a (m+1) k (a.length:Int)=some k)
  (R:∀x (k:Int),0<=k->k+w x<=1099511627776->∃cu c,c<=w x/\∀m (d r:List α),d.length<=1099511627776->l (m+1) (d++x::r) k (d.length:Int)=l m (d++cu::r) (k+(c:Nat)) ((d.length+1:Nat):Int)/\
   hl (d++cu::r) (m+1) k (d.length:Int)=hl (d++cu::r) m (k+(c:Nat)) ((d.length+1:Nat):Int))
  (a:List α) (k:Int) (ak:0<=k) (HT:a.length<=1099511627776) (J:k+fN w a<=1099511627776):∃bZ c,c<=fN w a/\cX (λn=>l n a k 0)=some (k+(c:Nat),bZ)/\cX (λn=>hl bZ n k 0)=some (k+(c:Nat)):=by
 have key:∀(r:List α) (k:Int),0<=k->k+fN w r<=1099511627776->∃gF c,c<=fN w r/\gF.length=r.length/\∀(d:List α) (m:Nat),d.length+r.length<=1099511627776->r.length<m->l m (d++r) k (d.length:Int)=some (k+(c:Nat),d++gF)/\
   hl (d++gF) m k (d.length:Int)=some (k+(c:Nat)):=by
  intro r;induction r with
  |nil=>
   intro k _ _;refine⟨[],0,Nat.le_refl _,rfl,λd m _ hm=>?_⟩;obtain⟨m,rfl⟩:∃aD,m=aD+1:=⟨m-1,by omega⟩
   rw[List.append_nil,bt,fg];simp
  |cons x r ih=>
   intro k U aa;simp only[fN]at aa;obtain⟨cu,c,bu,bN⟩:=R x k U (by omega);obtain⟨gF,DA,aI,aX,aR⟩:=ih (k+c) (by omega) (by omega);refine⟨cu::gF,c+DA,by simp only[fN];omega,by simp only[List.length_cons,aX],λd m ad hm=>?_⟩;simp only[List.length_cons]at ad hm;obtain⟨m,rfl⟩:∃aD,m=aD+1:=⟨m-1,by omega⟩
   rw[(bN m d r (by omega)).1,(bN m d gF (by omega)).2];have:=aR (d++[cu]) m (by simp only[List.length_append,List.length_cons,List.length_nil];omega) (by omega);simp only[List.length_append,List.length_cons,List.length_nil,List.append_assoc,List.cons_append,List.nil_append,Nat.zero_add]at this;rw[this.1,this.2];simp only[some.injEq,Prod.mk.injEq,and_true];exact⟨by omega,by omega⟩
 obtain⟨bZ,c,aI,aX,aR⟩:=key a k ak J;refine⟨bZ,c,aI,hc (a.length+1) λm hm=>?_,hc (a.length+1) λm hm=>?_⟩
 .have:=(aR [] m (by simpa using HT) (by omega)).1;simpa using this
 .have:=(aR [] m (by simpa using HT) (by omega)).2;simpa using this
set_option linter.unusedSimpArgs false
theorem HU (x:Vl) (n:Int) (ae:(x.length<=9223372036854775807/\∀y∈x,(-9223372036854775808<=y/\y<=9223372036854775807))) (bt:0<=n) (a2:n<=1048576):uC x n=some (hV n (x.length+0)):=by
 unfold uC;refine vk ae.1 bt a2 λh=>?_;rw[fU _ (by omega)];exact vl (by omega)
theorem HV (x:Vu) (n:Int) (ae:(x.length<=9223372036854775807/\∀y∈x,pw y)) (bt:0<=n) (a2:n<=1048576):sg x n=some (hV n (x.length+0)):=by
 unfold sg;refine vk ae.1 bt a2 λh=>?_;rw[fU _ (by omega)];exact vl (by omega)
theorem HW (x:Vs) (n:Int) (ae:(x.length<=9223372036854775807/\∀y∈x,(y.length<=9223372036854775807/\∀z∈y,pw z))) (bt:0<=n) (a2:n<=1048576):uD x n=some (hV n (fW (λx=>x.length+0) x)):=by
 unfold uD;refine vk ae.1 bt a2 λh=>?_;rw[fU _ (by omega)];exact HS (f:=sg) (λx=>x.length+0) x (λ_ _ _=>rfl) (λy a_ n bt a2=>HV y n (ae.2 y a_) bt a2) (by omega) _ (by omega) (by omega)
def m4 (x:hC):Nat:=((x.aY.length+0)+((x.Guard.length+0)+(x.Name.length+((fW (λx=>x.length+0) x.bG)+((fW (λx=>x.length+0) x.Next)+0)))))
theorem SZ (x:hC) (n:Int) (ae:uB x) (bt:0<=n) (a2:n<=1048576):uE x n=some (hV n (m4 x)):=by
 unfold uE;unfold m4;obtain⟨w0,jN,ke,nz,B5⟩:=ae;refine ry (HU _ _ w0 (by omega) (by omega)) λmf=>?_;refine ry (HV _ _ jN (by omega) (by omega)) λbu=>?_;refine vk ke (by omega) (by omega) λbN=>?_;rw[fU (((n-(((x.aY.length+0):Nat):Int))-(((x.Guard.length+0):Nat):Int))-(x.Name.length:Int)) (by omega)];refine ry (HW _ _ nz (by omega) (by omega)) λo9=>?_;refine ry (HW _ _ B5 (by omega) (by omega)) λiD=>?_;exact vl (by omega)
theorem S0 (x:Vv) (n:Int) (ae:(x.length<=9223372036854775807/\∀y∈x,uB y)) (bt:0<=n) (a2:n<=1048576):wR x n=some (hV n (fW m4 x)):=by
 unfold wR;refine vk ae.1 bt a2 λh=>?_;rw[fU _ (by omega)];exact HS (f:=uE) m4 x (λ_ _ _=>rfl) (λy a_ n bt a2=>SZ y n (ae.2 y a_) bt a2) (by omega) _ (by omega) (by omega)
def pM (x:kg):Nat:=((x.Start.length+0)+((fW m4 x.bJ)+0))
theorem S1 (x:kg) (n:Int) (ae:wQ x) (bt:0<=n) (a2:n<=1048576):wS x n=some (hV n (pM x)):=by
 unfold wS;unfold pM;obtain⟨w0,jN,ke⟩:=ae;refine ry (HU _ _ jN (by omega) (by omega)) λbu=>?_;refine ry (S0 _ _ ke (by omega) (by omega)) λbN=>?_;exact vl (by omega)
theorem HX (x:Vl) (h:(x.length+0)<=1048576):uF x=some x:=by
 unfold uF;have hl:x.length<=1048576:=by omega
 rw[sV _ hl (by decide)];simp only[bind_some];rw[xM (f:=some) id x _ (λ_ _ _=>rfl) (λ_ _=>rfl) hl,List.map_id]
def pN (x:fJ):aW:=⟨x.Kind,x.Value⟩
theorem S2 (x:fJ):uG x=some (pN x):=by
 unfold uG;rfl
theorem HY (x:Vu) (h:(x.length+0)<=1048576):si x=some (x.map pN):=by
 unfold si;have hl:x.length<=1048576:=by omega
 rw[sV _ hl (by decide)];simp only[bind_some];rw[xM (f:=uG) pN x _ (λ_ _ _=>rfl) (λy a_=>S2 y) hl]
theorem HZ (x:Vs) (h:(fW (λx=>x.length+0) x)<=1048576):uH x=some (x.map (List.map pN)):=by
 unfold uH;have hl:x.length<=1048576:=Nat.le_trans (pI _ _) h;rw[sV _ hl (by decide)];simp only[bind_some];rw[xM (f:=si) (List.map pN) x _ (λ_ _ _=>rfl) (λy a_=>HY y (Nat.le_trans (sU (f:=(λx=>x.length+0)) a_) h)) hl]
def sW (x:hC):aN:=⟨x.aY,(x.Guard.map pN),x.Name,(x.bG.map (List.map pN)),(x.Next.map (List.map pN))⟩
def h7 (x:aN):Nat:=((x.aY.length+0)+((x.Guard.length+0)+(x.Name.length+((fW (λx=>x.length+0) x.bG)+((fW (λx=>x.length+0) x.Next)+0)))))
theorem S3 (x:hC):h7 (sW x)=m4 x:=by
 simp only[h7,m4,sW,HR,List.length_map]
theorem S4 (x:hC) (h:(m4 x)<=1048576):uI x=some (sW x):=by
 unfold uI;unfold m4 at h;rw[HX _ (by omega),HY _ (by omega),HZ _ (by omega),HZ _ (by omega)];rfl
theorem S5 (x:Vv) (h:(fW m4 x)<=1048576):wT x=some (x.map sW):=by
 unfold wT;have hl:x.length<=1048576:=Nat.le_trans (pI _ _) h;rw[sV _ hl (by decide)];simp only[bind_some];rw[xM (f:=uI) sW x _ (λ_ _ _=>rfl) (λy a_=>S4 y (Nat.le_trans (sU (f:=m4) a_) h)) hl]
def vn (x:kg):b5:=⟨x.a7,x.Start,(x.bJ.map sW)⟩
def kQ (x:b5):Nat:=((x.Start.length+0)+((fW h7 x.bJ)+0))
theorem S6 (x:kg):kQ (vn x)=pM x:=by
 simp only[kQ,pM,vn,HR,List.length_map,S3]
theorem S7 (x:kg) (h:(pM x)<=1048576):qZ x=some (vn x):=by
 unfold qZ;unfold pM at h;rw[HX _ (by omega),S5 _ (by omega)];rfl
theorem H0 (x:Vl) (h:(x.length+0)<=1048576):uW x x=some true:=by
 unfold uW;have hl:x.length<=1048576:=by omega
 rw[xO,cond_false];exact SY x (λ_ _=>rfl) xN hl
theorem S8 (x:aW):uX x x=some true:=by
 unfold uX;simp only[xN,B_,Ca,cond_false,bind_some,Bool.not_true]
theorem H2 (x:Vw) (h:(x.length+0)<=1048576):sA x x=some true:=by
 unfold sA;have hl:x.length<=1048576:=by omega
 rw[xO,cond_false];exact B9 (f:=uX) x (λ_ _=>rfl) (λy a_=>S8 y) hl
theorem H3 (x:Vt) (h:(fW (λx=>x.length+0) x)<=1048576):uY x x=some true:=by
 unfold uY;have hl:x.length<=1048576:=Nat.le_trans (pI _ _) h;rw[xO,cond_false];exact B9 (f:=sA) x (λ_ _=>rfl) (λy a_=>H2 y (Nat.le_trans (sU (f:=(λx=>x.length+0)) a_) h)) hl
theorem S9 (x:aN) (h:(h7 x)<=1048576):uZ x x=some true:=by
 unfold uZ;unfold h7 at h;simp only[xN,B_,Ca,cond_false,bind_some,Bool.not_true,H0 x.aY (by omega),H2 x.Guard (by omega),H3 x.bG (by omega),H3 x.Next (by omega)]
theorem S_ (x:Vx) (h:(fW h7 x)<=1048576):xt x x=some true:=by
 unfold xt;have hl:x.length<=1048576:=Nat.le_trans (pI _ _) h;rw[xO,cond_false];exact B9 (f:=uZ) x (λ_ _=>rfl) (λy a_=>S9 y (Nat.le_trans (sU (f:=h7) a_) h)) hl
theorem H4 (x:b5) (h:(kQ x)<=1048576):ra x x=some true:=by
 unfold ra;unfold kQ at h;simp only[xN,B_,Ca,cond_false,bind_some,Bool.not_true,H0 x.Start (by omega),S_ x.bJ (by omega)]
theorem Ta (k:Int) (bt:0<=k) (J:k<=1099511627776):∃t,u2 k=some t:=by
 have key:∀(n:Nat) (k:Int),0<=k->k<=n->n<=1099511627776->∀t:Vj,t.length+n<=1099511627776->∃r,∀m,n<m->rb m k t=some r:=by
  intro n;induction n with
  |zero=>
   intro k U aa ax t aO;refine⟨[109]++t,λm hm=>?_⟩;obtain⟨m,rfl⟩:∃aD,m=aD+1:=⟨m-1,by omega⟩
   simp only[rb,xu];rw[show decide (0<k)=false by simp;omega,cond_false,show m7 (1+t.length)=some () by unfold m7;rw[if_pos (by omega)]];rfl
  |succ n ih=>
   intro k U aa ax t aO;by_cases ak:0<k
   .have ad:Int.tdiv k 10=k/10:=Int.tdiv_eq_ediv_of_nonneg U;have hw:IntKind.i64.wrap (Int.tdiv k 10)=k/10:=by rw[ad];exact fU _ (by omega)
    obtain⟨r,aG⟩:=ih (k/10) (by omega) (by omega) (by omega) ([(nL (IntKind.i64.wrap (48+(Int.tmod k 10))))]++t) (by simp only[List.length_append,List.length_cons,List.length_nil];omega);refine⟨r,λm hm=>?_⟩;obtain⟨m,rfl⟩:∃aD,m=aD+1:=⟨m-1,by omega⟩
    simp only[rb,xu];rw[show decide (0<k)=true by simp;omega,cond_true,show m7 (1+t.length)=some () by unfold m7;rw[if_pos (by omega)]];simp only[bind_some,hw];exact aG m (by omega)
   .refine⟨[109]++t,λm hm=>?_⟩;obtain⟨m,rfl⟩:∃aD,m=aD+1:=⟨m-1,by omega⟩
    simp only[rb,xu];rw[show decide (0<k)=false by simp;omega,cond_false,show m7 (1+t.length)=some () by unfold m7;rw[if_pos (by omega)]];rfl
 unfold u2;by_cases ak:k<=0
 .exact⟨_,by rw[show decide (k<=0)=true by simpa using ak];rfl⟩
 .obtain⟨r,aG⟩:=key k.toNat k bt (by omega) (by omega) [] (by simp only[List.length_nil];omega);exact⟨r,by rw[show decide (k<=0)=false by simp;omega,cond_false];exact hc (k.toNat+1) λm hm=>aG m (by omega)⟩
theorem H5 (x:Vl) (k:Int) (bt:0<=k) (J:k+64*(x.length+0)<=1099511627776):∃(cu:Vl) (c:Nat),c<=64*(x.length+0)/\u0 x k=some (k+(c:Int),cu)/\u5 cu k=some (k+(c:Int)):=by
 unfold u0 u5;have e:fN (λ_=>64) x=64*x.length:=Cc 64 x;obtain⟨cu,c,U,aa,ax⟩:=xQ (l:=sB) (hl:=sG) (λ_=>64) (λm v k=>by simp only[sB,Bq];rw[fV (Nat.le_refl _)];rfl) (λa m k=>by simp only[sG,Bu];rw[fV (Nat.le_refl _)];rfl) (λx k bt J=>by
  have jN:IntKind.i64.wrap (k+1)=k+1:=fU _ (by omega);refine⟨k,1,by omega,λm d r ad=>⟨?_,?_⟩⟩
  .simp only[sB,Bq];rw[pK];simp only[cond_true,pJ,xP,bind_some,jN];rw[pL ad];rw[show((k+1):Int)=k+((1:Nat):Int) by omega]
  .simp only[sG,Bu];rw[pK];simp only[cond_true,cond_false,pJ,bind_some,bne_self_eq_false,beq_self_eq_true,Bool.not_true,jN];rw[pL ad];rw[show((k+1):Int)=k+((1:Nat):Int) by omega]) x k bt (by omega) (by omega)
 exact⟨cu,c,by omega,aa,ax⟩
theorem H6 (x:Vw) (k:Int) (bt:0<=k) (J:k+64*(x.length+0)<=1099511627776):∃(cu:Vw) (c:Nat),c<=64*(x.length+0)/\u1 x k=some (k+(c:Int),cu)/\u6 cu k=some (k+(c:Int)):=by
 unfold u1 u6;have e:fN (λ_=>64) x=64*x.length:=Cc 64 x;obtain⟨cu,c,U,aa,ax⟩:=xQ (l:=sC) (hl:=sH) (λ_=>64) (λm v k=>by simp only[sC,Br];rw[fV (Nat.le_refl _)];rfl) (λa m k=>by simp only[sH,Bv];rw[fV (Nat.le_refl _)];rfl) (λx k bt J=>by
  have jN:IntKind.i64.wrap (k+1)=k+1:=fU _ (by omega);have ke:IntKind.i64.wrap ((k+1)+1)=(k+1)+1:=fU _ (by omega);refine⟨(aW.mk k (k+1)),1+1,by omega,λm d r ad=>⟨?_,?_⟩⟩
  .simp only[sC,Br];rw[pK];simp only[cond_true,pJ,xP,bind_some,jN,ke];rw[pL ad];rw[show(((k+1)+1):Int)=k+((1+1:Nat):Int) by omega]
  .simp only[sH,Bv];rw[pK];simp only[cond_true,cond_false,pJ,bind_some,bne_self_eq_false,beq_self_eq_true,Bool.not_true,jN,ke];rw[pL ad];rw[show(((k+1)+1):Int)=k+((1+1:Nat):Int) by omega]) x k bt (by omega) (by omega)
 exact⟨cu,c,by omega,aa,ax⟩
theorem H7 (x:Vt) (k:Int) (bt:0<=k) (J:k+64*(fW (λx=>x.length+0) x)<=1099511627776):∃(cu:Vt) (c:Nat),c<=64*(fW (λx=>x.length+0) x)/\u3 x k=some (k+(c:Int),cu)/\u7 cu k=some (k+(c:Int)):=by
 unfold u3 u7;have e:fN (λx=>64*((x.length+0)+1)) x=64*fW (λx=>x.length+0) x:=Cb (λx=>x.length+0) x;have hl:x.length<=fW (λx=>x.length+0) x:=pI _ _;obtain⟨cu,c,U,aa,ax⟩:=xQ (l:=sD) (hl:=sI) (λx=>64*((x.length+0)+1)) (λm v k=>by simp only[sD,Bs];rw[fV (Nat.le_refl _)];rfl) (λa m k=>by simp only[sI,Bw];rw[fV (Nat.le_refl _)];rfl) (λx k bt J=>by
  obtain⟨fR,bu,iF,ea,eS⟩:=H6 x k (by omega) (by omega);have iN:=oK (k:=(k+(bu:Int))) (by omega);refine⟨fR,bu,by omega,λm d r ad=>⟨?_,?_⟩⟩
  .simp only[sD,Bs];rw[pK];simp only[cond_true,pJ,xP,bind_some,ea];rw[pL ad]
  .simp only[sI,Bw];rw[pK];simp only[cond_true,cond_false,pJ,bind_some,bne_self_eq_false,beq_self_eq_true,Bool.not_true,eS,iN];rw[pL ad]) x k bt (by omega) (by omega)
 exact⟨cu,c,by omega,aa,ax⟩
theorem Tb (x:Vx) (k:Int) (bt:0<=k) (J:k+64*(fW h7 x)<=1099511627776):∃(cu:Vx) (c:Nat),c<=64*(fW h7 x)/\xv x k=some (k+(c:Int),cu)/\xw cu k=some (k+(c:Int)):=by
 unfold xv xw;have e:fN (λx=>64*((h7 x)+1)) x=64*fW h7 x:=Cb h7 x;have hl:x.length<=fW h7 x:=pI _ _;obtain⟨cu,c,U,aa,ax⟩:=xQ (l:=sE) (hl:=sJ) (λx=>64*((h7 x)+1)) (λm v k=>by simp only[sE,Bt];rw[fV (Nat.le_refl _)];rfl) (λa m k=>by simp only[sJ,Bx];rw[fV (Nat.le_refl _)];rfl) (λx k bt J=>by
  simp only[h7]at J⊢;obtain⟨fR,bu,iF,ea,eS⟩:=H5 x.aY k (by omega) (by omega);have iN:=oK (k:=(k+(bu:Int))) (by omega);obtain⟨hi,bN,gl,fh,dY⟩:=H6 x.Guard (k+(bu:Int)) (by omega) (by omega);have cf:=oK (k:=((k+(bu:Int))+(bN:Int))) (by omega);obtain⟨iK,t3⟩:=Ta ((k+(bu:Int))+(bN:Int)) (by omega) (by omega);have nz:IntKind.i64.wrap (((k+(bu:Int))+(bN:Int))+1)=((k+(bu:Int))+(bN:Int))+1:=fU _ (by omega);obtain⟨sT,iD,cO,j0,fQ⟩:=H7 x.bG (((k+(bu:Int))+(bN:Int))+1) (by omega) (by omega);have gv:=oK (k:=((((k+(bu:Int))+(bN:Int))+1)+(iD:Int))) (by omega);obtain⟨Tc,lS,c6,lF,nf⟩:=H7 x.Next ((((k+(bu:Int))+(bN:Int))+1)+(iD:Int)) (by omega) (by omega);have fq:=oK (k:=(((((k+(bu:Int))+(bN:Int))+1)+(iD:Int))+(lS:Int))) (by omega);refine⟨(aN.mk fR hi iK sT Tc),bu+bN+1+iD+lS,by omega,λm d r ad=>⟨?_,?_⟩⟩
  .simp only[sE,Bt];rw[pK];simp only[cond_true,pJ,xP,bind_some,ea,fh,t3,nz,j0,lF];rw[pL ad];rw[show((((((k+(bu:Int))+(bN:Int))+1)+(iD:Int))+(lS:Int)):Int)=k+((bu+bN+1+iD+lS:Nat):Int) by omega]
  .simp only[sJ,Bx];rw[pK];simp only[cond_true,cond_false,pJ,bind_some,bne_self_eq_false,beq_self_eq_true,Bool.not_true,eS,iN,dY,cf,fQ,gv,nf,fq,t3,nz];rw[pL ad];rw[show((((((k+(bu:Int))+(bN:Int))+1)+(iD:Int))+(lS:Int)):Int)=k+((bu+bN+1+iD+lS:Nat):Int) by omega]) x k bt (by omega) (by omega)
 exact⟨cu,c,by omega,aa,ax⟩
theorem H8 (x:b5) (k:Int) (bt:0<=k) (J:k+64*((kQ x)+1)<=1099511627776):∃(gY:Int) (fR:Vl) (hi:Vx) (c:Nat),c<=64*((kQ x)+1)/\u4 x.a7 x.Start x.bJ k=some (k+(c:Int),gY,fR,hi)/\u9 (b5.mk gY fR hi) k=some (k+(c:Int)):=by
 unfold u4 u9;simp only[kQ]at J⊢;obtain⟨fR,bu,iF,ea,eS⟩:=H5 x.Start k (by omega) (by omega);have iN:=oK (k:=(k+(bu:Int))) (by omega);obtain⟨hi,bN,gl,fh,dY⟩:=Tb x.bJ (k+(bu:Int)) (by omega) (by omega);have cf:=oK (k:=((k+(bu:Int))+(bN:Int))) (by omega);refine⟨x.a7,fR,hi,bu+bN,by omega,?_,?_⟩
 .simp only[bind_some,ea,fh];rw[show(k+((bu+bN:Nat):Int))=((k+(bu:Int))+(bN:Int)) by omega]
 .simp only[bind_some,cond_false,bne_self_eq_false,beq_self_eq_true,Bool.not_true,eS,iN,dY,cf];rw[show(k+((bu+bN:Nat):Int))=((k+(bu:Int))+(bN:Int)) by omega]
def rz (t:aW):Nat:=if t.Kind=2 then 2 else if t.Kind=3 then 1 else 0
theorem H9 (t:aW):rz t<=2:=by unfold rz;split<;>(try split)<;>omega
theorem H_ (t:aW):cond (t.Kind==2) (some 2) (cond (t.Kind==3) (some 1) (some 0))=some (rz t:Int):=by
 unfold rz;by_cases aa:t.Kind=2
 .simp[aa]
 .by_cases ax:t.Kind=3
  .simp[ax]
  .have aR:(t.Kind==2)=false:=by simpa using aa
   have aX:(t.Kind==3)=false:=by simpa using ax
   rw[aR,aX,if_neg aa,if_neg ax];rfl
def gO (n dE ay:Int):Bool:=decide (dE<=n)&&decide (n<=ay)
def oL (t:aW) (v:Int):Bool:=cond (t.Kind==0) (gO t.Value 0 63) (cond (t.Kind==1) (gO t.Value 0 (v-1)) (cond (t.Kind==2) (gO t.Value 0 8) (cond (t.Kind==3) (t.Value==0) false)))
def oM (v:Int):Vw->Nat->Bool
 |[],k=>k==0
 |t::r,k=> !(k==0)&&(oL t v&&oM v r (k+rz t-1))
def iZ (e:Vw) (v most:Int):Bool:=decide ((e.length:Int)<=most)&&oM v e 1
theorem Td (t:aW) (v:Int) (aE: -1000000<=v/\v<=1000000):wW t v=some (oL t v):=by
 unfold wW l4 oL gO;rw[fU (v-1) (by omega)];cases t.Kind==0<;>cases t.Kind==1<;>cases t.Kind==2<;>cases t.Kind==3<;>rfl
theorem Te (t:aW) (v:Int) (aE: -1000000<=v/\v<=1000000):xg t v=some (oL t v):=by
 unfold xg w7 ld oL gO;rw[fU (v-1) (by omega)];cases t.Kind==0<;>cases t.Kind==1<;>cases t.Kind==2<;>cases t.Kind==3<;>rfl
theorem Tf (t:aW):AM t=some (rz t:Int):=H_ t
theorem Tg (t:aW):A_ t=some (rz t:Int):=H_ t
theorem Ia {k a:Nat} (ak:1<=k) (nR:k<=100000000) (b4:a<=2):IntKind.i64.wrap ((k:Int)+IntKind.i64.wrap ((a:Int)-1))=((k+a-1:Nat):Int):=by
 rw[fU ((a:Int)-1) (by omega),fU _ (by omega)];omega
theorem xR (k:Nat):((k:Int)==0)=(k==0):=by
 by_cases h:k=0
 .subst h;rfl
 .have U:((k:Int)==0)=false:=by simp;omega
  have aa:(k==0)=false:=by simpa using h
  rw[U,aa]
theorem Ib (e:Vw) (v most:Int) (aE: -1000000<=v/\v<=1000000) (he:e.length<=1048576):uL e v most=some (iZ e v most):=by
 unfold uL iZ;by_cases hm:(e.length:Int)<=most
 .have d1:decide (most<(e.length:Int))=false:=by simp;omega
  have d2:decide ((e.length:Int)<=most)=true:=by simpa using hm
  rw[d1,d2,cond_false,Bool.true_and];have key:∀i,i<=e.length->∀(k:Nat) m,k<=1+2*i->e.length-i<m->sj e v m (k:Int) (i:Int)=some (oM v (e.drop i) k):=by
   refine down e.length ?_ ?_
   .intro k m _ hm;obtain⟨m,rfl⟩:∃aD,m=aD+1:=⟨m-1,by omega⟩
    simp only[sj,AN];rw[fV (Nat.le_refl _),List.drop_of_length_le (Nat.le_refl _),xR];rfl
   .intro i ay ih k m ak hm;obtain⟨m,rfl⟩:∃aD,m=aD+1:=⟨m-1,by omega⟩
    simp only[sj,AN];rw[hF ay,g2 _ i ay,hU i _ ay (by omega),drop_cons e i ay,xR];simp only[cond_true,bind_some,Td _ v aE,Tf,oM];by_cases bt:k=0
    .subst bt;rfl
    .have J:(k==0)=false:=by simpa using bt
     have b4:=H9 e[i];rw[J,Ia (by omega) (by omega) b4,ih _ m (by omega) (by omega)];simp only[cond_false,Bool.not_false,Bool.true_and];cases oL e[i] v<;>rfl
  refine hc (e.length+1) λm hm=>?_;have:=key 0 (by omega) 1 m (by omega) (by omega);simpa using this
 .have d1:decide (most<(e.length:Int))=true:=by simp;omega
  have d2:decide ((e.length:Int)<=most)=false:=by simpa using hm
  rw[d1,d2];rfl
theorem Th (e:Vw) (v most:Int) (aE:0<=v/\v<=29) (Vf:1<=most/\most<=60) (he:e.length<=1048576):xh e v most=some (iZ e v most):=by
 unfold xh ld iZ;have d1:(!(decide (0<=v)&&decide (v<=29)))=false:=by simp;omega
 have d2:(!(decide (1<=most)&&decide (most<=60)))=false:=by simp;omega
 simp only[bind_some,d1,d2,cond_false];by_cases U:e.length=0
 .have:e=[]:=List.length_eq_zero_iff.1 U;subst this;simp[oM]
 .by_cases hm:(e.length:Int)<=most
  .have d3:(!(decide ((1:Int)<=(e.length:Int))&&decide ((e.length:Int)<=most)))=false:=by simp;omega
   have d4:decide ((e.length:Int)<=most)=true:=by simpa using hm
   rw[d3,d4,cond_false,Bool.true_and];have key:∀i,i<=e.length->∀(k:Nat) m,k<=1+2*i->e.length-i<m->sv e v m (k:Int) (i:Int)=some (oM v (e.drop i) k):=by
    refine down e.length ?_ ?_
    .intro k m _ hm;obtain⟨m,rfl⟩:∃aD,m=aD+1:=⟨m-1,by omega⟩
     simp only[sv,Ba];rw[fV (Nat.le_refl _),List.drop_of_length_le (Nat.le_refl _),xR];rfl
    .intro i ay ih k m ak hm;obtain⟨m,rfl⟩:∃aD,m=aD+1:=⟨m-1,by omega⟩
     simp only[sv,Ba];rw[hF ay,g2 _ i ay,hU i _ ay (by omega),drop_cons e i ay,xR];simp only[cond_true,bind_some,Te _ v (by omega),Tg,oM];by_cases bt:k=0
     .subst bt;rfl
     .have J:(k==0)=false:=by simpa using bt
      have b4:=H9 e[i];rw[J,Ia (by omega) (by omega) b4,ih _ m (by omega) (by omega)];simp only[cond_false,Bool.not_false,Bool.true_and];cases oL e[i] v<;>rfl
   refine hc (e.length+1) λm hm=>?_;have:=key 0 (by omega) 1 m (by omega) (by omega);simpa using this
  .have d3:(!(decide ((1:Int)<=(e.length:Int))&&decide ((e.length:Int)<=most)))=true:=by simp;omega
   have d4:decide ((e.length:Int)<=most)=false:=by simpa using hm
   rw[d3,d4];rfl
def small (c:UInt8):Bool:=decide (97<=(c.toNat:Int))&&decide ((c.toNat:Int)<=122)
def digit (c:UInt8):Bool:=decide (48<=(c.toNat:Int))&&decide ((c.toNat:Int)<=57)
def rA (s:Vj):Bool:=decide (s.length<=10)&&(match s with|[]=>false|c::r=>small c&&r.all λc=>small c||digit c)
theorem Ti (s:Vj):wX s=some (rA s):=by
 unfold wX;cases s with
 |nil=>rfl
 |cons c r=>
  have fs:((c::r)==([]:Vj))=false:=rfl;rw[fs];simp only[cond_false];by_cases gi:10<(c::r).length
  .have:decide ((10:Int)<((c::r).length:Int))=true:=by simp at gi⊢;omega
   rw[this];have aa:decide ((c::r).length<=10)=false:=by simp at gi⊢;omega
   simp only[rA,aa];rfl
  .have:decide ((10:Int)<((c::r).length:Int))=false:=by simp at gi⊢;omega
   rw[this];have aa:decide ((c::r).length<=10)=true:=by simp at gi⊢;omega
   rw[xJ];simp only[cond_false,bind_some,uN];simp only[rA,aa,Bool.true_and];show cond (!small c) _ _=_;cases R:small c with
   |false=>rfl
   |true=>
    simp only[Bool.not_true,cond_false];rw[xK (n:=(c::r).length) (λi=>some (((c::r).drop i).all λc=>small c||digit c))]
    .simp[R]
    .intro m;simp only[uO,AQ];rw[fV (Nat.le_refl _)];simp
    .intro i ay m ih;simp only[uO,AQ];rw[hF ay,g2 _ i ay,hU i _ ay (by omega),ih,drop_cons _ i ay];simp only[cond_true,bind_some,uN,AP,List.all_cons];show cond (!small _) (cond (!digit _) _ _) _=_;cases small (c::r)[i]<;>cases digit (c::r)[i]<;>rfl
theorem Tj (s:Vj) (R:s.length<=140737488355328):xb s=some (rA s):=by
 unfold xb;have a3:∀m,s.length-1<m->1<=s.length->px s m ((1:Nat):Int)=some (((s.drop 1).all λc=>small c||digit c)&&(decide (1<=(s.length:Int))&&decide ((s.length:Int)<=10))):=by
  intro m hm U;refine down s.length (P:=λi=>1<=i->∀m,s.length-i<m->px s m (i:Int)=some (((s.drop i).all λc=>small c||digit c)&&(decide (1<=(s.length:Int))&&decide ((s.length:Int)<=10)))) ?_ ?_ 1 U (Nat.le_refl _) m hm
  .intro _ m hm;obtain⟨k,rfl⟩:∃k,m=k+1:=⟨m-1,by omega⟩
   simp only[px,xa];rw[fV (Nat.le_refl _)];simp
  .intro i ay ih zu m hm;obtain⟨k,rfl⟩:∃k,m=k+1:=⟨m-1,by omega⟩
   simp only[px,xa];rw[hF ay,g2 _ i ay,hU i _ ay (by omega),ih (by omega) k (by omega),drop_cons _ i ay];have e:((i:Int)==0)=false:=by simp;omega
   rw[e];simp only[cond_true,cond_false,bind_some,A4,List.all_cons];show cond (!small _) (cond (!digit _) _ _) _=_;cases small s[i]<;>cases digit s[i]<;>rfl
 refine hc (s.length+1) λm hm=>?_;obtain⟨k,rfl⟩:∃k,m=k+1:=⟨m-1,by omega⟩
 simp only[px,xa];cases s with
 |nil=>rfl
 |cons c r=>
  have ak:=a3 k (by simp at hm⊢;omega) (by simp);rw[show((1:Nat):Int)=1 from rfl]at ak;rw[B6 (by simp),xJ,HO,ak];have e:((0:Int)==0)=true:=rfl;rw[e];simp only[cond_true,rA];show cond (!small c) _ _=_;have U:decide (1<=((c::r).length:Int))=true:=by simp;omega
  have aa:decide (((c::r).length:Int)<=10)=decide ((c::r).length<=10):=by
   by_cases h:(c::r).length<=10<;>simp at h⊢<;>omega
  rw[U,aa];cases small c with
  |false=>simp
  |true=>simp[Bool.and_comm]
section
variable {α β:Type}
theorem Tk {l:Nat->Int->Option β} (a:List α) (F:List α->Option β) (bt:∀m,l (m+1) (a.length:Int)=F [])
  (R:∀i (h:i<a.length) m,l m ((i+1:Nat):Int)=F (a.drop (i+1))->l (m+1) (i:Int)=F (a[i]::a.drop (i+1))):cX (λm=>l m 0)=F a:=by
 rw[xK (n:=a.length) (λi=>F (a.drop i))]
 .simp
 .intro m;rw[bt,List.drop_of_length_le (Nat.le_refl _)]
 .intro i ay m ih;rw[drop_cons a i ay];exact R i ay m ih
theorem Cd {l:Nat->Int->Vn} (a:List α) (p:α->Bool) (bt:∀m,l (m+1) (a.length:Int)=some true)
  (R:∀i (h:i<a.length) m,l (m+1) (i:Int)=cond (p a[i]) (l m ((i+1:Nat):Int)) (some false)):cX (λm=>l m 0)=some (a.all p):=by
 refine Tk a (λr=>some (r.all p)) bt λi h m ih=>?_;rw[R i h m,ih,List.all_cons];cases p a[i]<;>rfl
def pO (p:α->Bool):Nat->List α->Int
 |_,[]=> -1
 |i,x::r=>if p x=true then(i:Int)else pO p (i+1) r
theorem xS (p:α->Bool):∀(r:List α) (i:Nat),decide (0<=pO p i r)=r.any p
 |[],i=>by simp[pO]
 |x::r,i=>by
  simp only[pO,List.any_cons];by_cases h:p x=true
  .simp[h]
  .have e:p x=false:=by simpa using h
   simp[e,xS p r (i+1)]
theorem Tl {l:Nat->Int->Vo} (a:List α) (p:α->Bool) (bt:∀m,l (m+1) (a.length:Int)=some (-1))
  (R:∀i (h:i<a.length) m,l (m+1) (i:Int)=cond (p a[i]) (some (i:Int)) (l m ((i+1:Nat):Int))):cX (λm=>l m 0)=some (pO p 0 a):=by
 have key:∀i,i<=a.length->∀m,a.length-i<m->l m (i:Int)=some (pO p i (a.drop i)):=by
  refine down a.length ?_ ?_
  .intro m hm;obtain⟨m,rfl⟩:∃aD,m=aD+1:=⟨m-1,by omega⟩
   rw[bt,List.drop_of_length_le (Nat.le_refl _)];rfl
  .intro i ay ih m hm;obtain⟨m,rfl⟩:∃aD,m=aD+1:=⟨m-1,by omega⟩
   rw[R i ay m,ih m (by omega),drop_cons a i ay];simp only[pO];cases p a[i]<;>rfl
 refine hc (a.length+1) λm hm=>?_;have:=key 0 (by omega) m (by omega);simpa using this
theorem Ce {l:Nat->Int->Vo} {f:α->Vn} (a:List α) (p:α->Bool)
  (jT:∀m i,l (m+1) i=cond (decide (i<(a.length:Int))) ((ca a i).bind λx=>(f x).bind λy=>cond y (some i) (l m (IntKind.i64.wrap (i+1)))) (some (-1)))
  (bd:∀x∈a,f x=some (p x)) (b4:a.length<=1099511627776):cX (λm=>l m 0)=some (pO p 0 a):=by
 refine Tl a p (λm=>by rw[jT,fV (Nat.le_refl _)];rfl) λi h m=>?_;rw[jT,hF h,g2 _ i h,hU i _ h (by omega)];simp only[cond_true,bind_some,bd _ (List.getElem_mem h)]
theorem Cf (a:List α) (p:α->Bool):(a.any λx=> !p x)= !(a.all p):=by
 induction a with
 |nil=>rfl
 |cons x r ih=>simp only[List.any_cons,List.all_cons,ih];cases p x<;>simp
end
end Go.nB
