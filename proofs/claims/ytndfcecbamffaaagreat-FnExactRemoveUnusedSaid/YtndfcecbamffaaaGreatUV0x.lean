/- Part of a proof that a law returns true for every input. No condition. -/
import Derived.Test.YtndfcecbamffaaaGreatFwA
import Derived.IntWalk
import Derived.Test.YtndfcecbamffaaaGreatP5
namespace Go.mn
open Option Nat Or
open Go Go.cW
theorem hs (n:Int) (h: -9223372036854775808<=n/\n<=9223372036854775807):IntKind.i64.wrap n=n:=IntWalk.i64_in n h
theorem YB {α:Type} (a:List α) (i:Nat) (d:α) (h:i<a.length):bS a (i:Int)=some (a.getD i d):=by
 rw[Bf (by omega) (by simpa using h)];simp[List.getD,h]
theorem eD {α:Type} (a:List α) (i:Nat) (h:i<a.length):bS a (i:Int)=some a[i]:=by
 rw[Bf (by omega) (by simpa using h)];rfl
theorem eT (i n:Nat) (h:i<n) (a7:n<=4611686018427387904):IntKind.i64.wrap ((i:Int)+1)=((i+1:Nat):Int):=by
 rw[hs _ (by omega)];omega
theorem e3 {i n:Nat} (h:i<n):decide ((i:Int)<(n:Int))=true:=by simp;omega
theorem eb {i n:Nat} (h:n<=i):decide ((i:Int)<(n:Int))=false:=by simp;omega
theorem Mx {α:Type} (c:α) (r:List α):bS (c::r) 0=some c:=rfl
theorem FZ {n:Nat} (h:0<n):decide ((0:Int)<(n:Int))=true:=by simp;omega
theorem YC:IntKind.i64.wrap (0+1)=1:=by decide
theorem down (n:Nat) {P:Nat->Prop} (bq:P n) (I:∀i,i<n->P (i+1)->P i):∀i,i<=n->P i:=by
 have key:∀d,d<=n->P (n-d):=by
  intro d;induction d with
  |zero=>intro _;exact bq
  |succ d ih=>
   intro ae;have:=ih (by omega);refine I _ (by omega) ?_;rw[show n-(d+1)+1=n-d by omega];exact this
 intro i aw;have:=key (n-i) (by omega)
 rwa [show n-(n-i)=i by omega]at this
theorem up {β:Type} {l:Nat->Int->Option β} {n:Nat} (F:Nat->Option β) (bq:∀m,l (m+1) (n:Int)=F n)
  (I:∀i,i<n->∀m,(l m ((i+1:Nat):Int)=F (i+1))->l (m+1) (i:Int)=F i):∀i,i<=n->∀m,n-i<m->l m (i:Int)=F i:=by
 refine down n ?_ ?_
 .intro m hm;obtain⟨k,rfl⟩:∃k,m=k+1:=⟨m-1,by omega⟩
  exact bq k
 .intro i aw ih m hm;obtain⟨k,rfl⟩:∃k,m=k+1:=⟨m-1,by omega⟩
  exact I i aw k (ih k (by omega))
theorem AP {β:Type} {l:Nat->Int->Option β} {n:Nat} (F:Nat->Option β) (bq:∀m,l (m+1) (n:Int)=F n)
  (I:∀i,i<n->∀m,(l m ((i+1:Nat):Int)=F (i+1))->l (m+1) (i:Int)=F i):lim (λm=>l m 0)=F 0:=
 hS (n+1) λm hm=>up F bq I 0 (by omega) m (by omega)
theorem drop_cons {α:Type} (a:List α) (i:Nat) (h:i<a.length):a.drop i=a[i]::a.drop (i+1):=List.drop_eq_getElem_cons h
def iu (n:Int) (s:Nat):Int:=if(s:Int)<=n then n-s else-1
theorem F2 {n:Int} {s:Nat} (h:(s:Int)<=n):iu n s=n-s:=if_pos h
theorem AQ {n:Int} {s:Nat} (h:n<s):iu n s= -1:=if_neg (by omega)
theorem YD {n:Int} (h:0<=n):iu n 0=n:=by rw[F2 (by simpa using h)];simp
theorem tu {f:abK} {k:Int->abK} {n:Int} {s t:Nat} (a6:f=some (iu n s)) (ak:(s:Int)<=n->k (n-s)=some (iu (n-s) t)):
  (f.bind λx=>cond (decide (x<0)) (some (-1)) (k x))=some (iu n (s+t)):=by
 rw[a6];simp only[bind_some];by_cases h:(s:Int)<=n
 .rw[F2 h];have:decide (n-(s:Int)<0)=false:=by simp;omega
  rw[this,cond_false,ak h];congr 1;unfold iu;by_cases U:(t:Int)<=n-s
  .rw[if_pos U,if_pos (by omega)];omega
  .rw[if_neg U,if_neg (by omega)]
 .rw[AQ (by omega)];have:decide ((-1:Int)<0)=true:=by decide
  rw[this,cond_true,AQ (by omega)]
theorem yc {K:abK} {n:Int} {s t:Nat} (I:s<=9223372036854775807) (bq:0<=n) (a7:n<=1048576) (ak:(s:Int)<=n->K=some (iu (n-s) t)):
  cond (decide (IntKind.i64.wrap (n-(s:Int))<0)) (some (-1)) K=some (iu n (s+t)):=by
 rw[hs _ (by omega)];by_cases h:(s:Int)<=n
 .have:decide (n-(s:Int)<0)=false:=by simp;omega
  rw[this,cond_false,ak h];congr 1;unfold iu;by_cases U:(t:Int)<=n-s
  .rw[if_pos U,if_pos (by omega)];omega
  .rw[if_neg U,if_neg (by omega)]
 .have:decide (n-(s:Int)<0)=true:=by simp;omega
  rw[this,cond_true,AQ (by omega)]
theorem yd {n:Int} (h:0<=n):some n=some (iu n 0):=by rw[YD h]
def gh {α:Type} (f:α->Nat):List α->Nat
 |[]=>0
 |x::r=>f x+gh f r
theorem My {α:Type} {f:α->Nat}:∀{l:List α} {x:α},x∈l->f x<=gh f l
 |y::r,x,h=>by
  simp only[gh];rcases List.mem_cons.1 h with rfl|h
  .omega
  .have:=My (f:=f) h;omega
theorem Mz {α β:Type} {f:β->Nat} {g:α->β}:∀l:List α,gh f (l.map g)=gh (λx=>f (g x)) l
 |[]=>rfl
 |x::r=>by simp only[List.map_cons,gh,Mz r]
def gB {α:Type} (f:α->Nat) (l:List α):Nat:=l.length+gh f l
theorem MA {α β:Type} (f:β->Nat) (g:α->β) (l:List α):gB f (l.map g)=gB (λx=>f (g x)) l:=by simp only[gB,List.length_map,Mz]
theorem rn {α:Type} (f:α->Nat) (l:List α):l.length<=gB f l:=le_add_right _ _
theorem vF {α:Type} {f:α->Nat} {l:List α} {x:α} (h:x∈l):f x<=gB f l:=Nat.le_trans (My h) (le_add_left _ _)
theorem YE {α:Type} {l:Nat->Int->Int->abK} {B:α->Int->(Int->abK)->abK} (sz:α->Nat) (a:List α)
  (kO:∀m n i,l (m+1) n i=cond (decide (i<(a.length:Int))) ((bS a i).bind λx=>B x n λy=>l m y (IntKind.i64.wrap (i+1))) (some n))
  (a6:∀x∈a,∀(n:Int) (k:Int->abK) (t:Nat),0<=n->n<=1048576->((sz x:Int)<=n->k (n-sz x)=some (iu (n-sz x) t))->B x n k=some (iu n (sz x+t)))
  (b8:a.length<=1048576) (n:Int) (bq:0<=n) (a7:n<=1048576):lim (λm=>l m n 0)=some (iu n (gh sz a)):=by
 have key:∀i,i<=a.length->∀n:Int,0<=n->n<=1048576->∀m,a.length-i<m->l m n (i:Int)=some (iu n (gh sz (a.drop i))):=by
  refine down a.length ?_ ?_
  .intro n bq _ m hm;obtain⟨k,rfl⟩:∃k,m=k+1:=⟨m-1,by omega⟩
   rw[kO,eb (Nat.le_refl _),cond_false,List.drop_of_length_le (Nat.le_refl _)];exact yd bq
  .intro i aw ih n bq a7 m hm;obtain⟨k,rfl⟩:∃k,m=k+1:=⟨m-1,by omega⟩
   rw[kO,e3 aw,cond_true,eD _ i aw,eT i _ aw (by omega),drop_cons a i aw];simp only[bind_some,gh];exact a6 _ (List.getElem_mem aw) n _ _ bq a7 λh=>ih _ (by omega) (by omega) k (by omega)
 refine hS (a.length+1) λm hm=>?_;have:=key 0 (by omega) n bq a7 m (by omega);simpa using this
theorem MB {α:Type} {l:Nat->Int->Int->abK} {f:α->Int->abK} (sz:α->Nat) (a:List α)
  (kO:∀m n i,l (m+1) n i=cond (decide (i<(a.length:Int))) ((bS a i).bind λx=>(f x n).bind λy=>cond (decide (y<0)) (some (-1)) (l m y (IntKind.i64.wrap (i+1)))) (some n))
  (a6:∀x∈a,∀n:Int,0<=n->n<=1048576->f x n=some (iu n (sz x))) (b8:a.length<=1048576) (n:Int) (bq:0<=n) (a7:n<=1048576):lim (λm=>l m n 0)=some (iu n (gh sz a)):=
 YE (B:=λx n k=>(f x n).bind λy=>cond (decide (y<0)) (some (-1)) (k y)) sz a kO (λx ag n _ _ bq a7 ak=>tu (a6 x ag n bq a7) ak) b8 n bq a7
theorem AR {α β:Type} {l:Nat->List β->Int->Option (List β)} {f:α->Option β} (g:α->β) (a:List α) (z:β)
  (kO:∀m v i,l (m+1) v i=cond (decide (i<(a.length:Int))) ((bS a i).bind λx=>(f x).bind λy=>(bS v i).bind λ_=>l m (List.set v (Int.toNat i) y) (IntKind.i64.wrap (i+1))) (some v))
  (a6:∀x∈a,f x=some (g x)) (b8:a.length<=1048576):lim (λm=>l m (List.replicate (Int.toNat (a.length:Int)) z) 0)=some (a.map g):=by
 have key:∀i,i<=a.length->∀(v:List β) m,v.length=a.length->a.length-i<m->l m v (i:Int)=some (v.take i++(a.drop i).map g):=by
  refine down a.length ?_ ?_
  .intro v m ay hm;obtain⟨k,rfl⟩:∃k,m=k+1:=⟨m-1,by omega⟩
   rw[kO,eb (Nat.le_refl _)];simp[<-ay]
  .intro i aw ih v m ay hm;obtain⟨k,rfl⟩:∃k,m=k+1:=⟨m-1,by omega⟩
   rw[kO,e3 aw,eD _ i aw,eT i _ aw (by omega)];simp only[cond_true,bind_some,a6 _ (List.getElem_mem aw)];rw[eD v i (by omega)];simp only[bind_some,Int.toNat_natCast];rw[ih _ k (by simp[ay]) (by omega),drop_cons a i aw,List.map_cons,List.take_set,List.take_succ_eq_append_getElem (by omega),List.set_append_right _ _ (by simp;omega)];simp[show min i v.length=i by omega]
 refine hS (a.length+1) λm hm=>?_;have:=key 0 (by omega) (List.replicate (Int.toNat (a.length:Int)) z) m (by simp) (by omega);simpa using this
theorem AS (b:Nat) {n:Nat} (h:n<=1048576) (J:b<=4096):lA b (n:Int)=some ():=by
 have R:b*n<=4096*1048576:=Nat.mul_le_mul J h;have U:((b:Int)*(n:Int))=((b*n:Nat):Int):=by simp
 unfold lA;rw[if_pos ⟨by omega,by rw[U];omega,by omega⟩]
theorem F3 {α:Type} {l:Nat->Int->abJ} {f:α->α->abJ} (a:List α)
  (kO:∀m i,l (m+1) i=cond (decide (i<(a.length:Int))) ((bS a i).bind λx=>(bS a i).bind λy=>(f x y).bind λz=>cond (!z) (some false) (l m (IntKind.i64.wrap (i+1)))) (some true))
  (a6:∀x∈a,f x x=some true) (b8:a.length<=1048576):lim (λm=>l m 0)=some true:=by
 rw[AP (n:=a.length) (λ_=>some true)]
 .intro m;rw[kO,eb (Nat.le_refl _)];rfl
 .intro i aw m ih;rw[kO,e3 aw,eD _ i aw,eT i _ aw (by omega),ih];simp only[cond_true,bind_some,a6 _ (List.getElem_mem aw),Bool.not_true,cond_false]
theorem YF {α:Type} {d:α->α->Bool} {l:Nat->Int->abJ} (a:List α)
  (kO:∀m i,l (m+1) i=cond (decide (i<(a.length:Int))) ((bS a i).bind λx=>(bS a i).bind λy=>cond (d x y) (some false) (l m (IntKind.i64.wrap (i+1)))) (some true))
  (ae:∀x,d x x=false) (b8:a.length<=1048576):lim (λm=>l m 0)=some true:=by
 rw[AP (n:=a.length) (λ_=>some true)]
 .intro m;rw[kO,eb (Nat.le_refl _)];rfl
 .intro i aw m ih;rw[kO,e3 aw,eD _ i aw,eT i _ aw (by omega),ih];simp only[cond_true,bind_some,ae,cond_false]
theorem AU (x:Int):(x !=x)=false:=by simp
theorem F4 (x:nq):(!(x==x))=false:=by simp
theorem F5 (x:Bool):(!(x==x))=false:=by simp
theorem AV (n:Nat):((n:Int) !=(n:Int))=false:=by simp
theorem ko {b n:Nat} (h:n*b<=140737488355328) (U:n<=9223372036854775807):room b n=some ():=by unfold room;rw[if_pos ⟨h,U⟩]
theorem rp {α:Type} (d:List α) (x:α) (r:List α):bS (d++x::r) (d.length:Int)=some x:=by
 rw[eD _ _ (by simp)];simp
theorem AW {α:Type} (d:List α) (x y:α) (r:List α):List.set (d++x::r) (Int.toNat (d.length:Int)) y=d++y::r:=by
 simp
theorem pJ {k:Int} (h:0<=k):decide (k<0)=false:=by simp;omega
theorem rq {α:Type} (d:List α) (x:α) (r:List α):decide ((d.length:Int)<((d++x::r).length:Int))=true:=by simp;omega
theorem rr {α:Type} {d:List α} (h:d.length<=1099511627776):IntKind.i64.wrap ((d.length:Int)+1)=((d.length+1:Nat):Int):=by rw[hs _ (by omega)];omega
theorem F6 {α:Type} (f:α->Nat):∀a:List α,gh (λx=>64*(f x+1)) a=64*gB f a
 |[]=>rfl
 |x::r=>by
  have:=F6 f r;unfold gB at this⊢;simp only[gh,List.length_cons];omega
theorem F7 {α:Type} (n:Nat):∀a:List α,gh (λ_=>n) a=n*a.length
 |[]=>rfl
 |x::r=>by simp only[gh,F7 n r,List.length_cons,Nat.mul_add];omega
theorem AX {α:Type} {l:Nat->List α->Int->Int->Option (Int×List α)} {hl:List α->Nat->Int->Int->abK} (w:α->Nat) (bq:∀m (v:List α) k,l (m+1) v k (v.length:Int)=some (k,v))
  (e9:∀(a:List α) m k,hl a (m+1) k (a.length:Int)=some k)
  (I:∀x (k:Int),0<=k->k+w x<=1099511627776->∃cq c,c<=w x/\∀m (d r:List α),d.length<=1099511627776->l (m+1) (d++x::r) k (d.length:Int)=l m (d++cq::r) (k+(c:Nat)) ((d.length+1:Nat):Int)/\
   hl (d++cq::r) (m+1) k (d.length:Int)=hl (d++cq::r) m (k+(c:Nat)) ((d.length+1:Nat):Int))
  (a:List α) (k:Int) (ak:0<=k) (MC:a.length<=1099511627776) (J:k+gh w a<=1099511627776):∃b3 c,c<=gh w a/\lim (λn=>l n a k 0)=some (k+(c:Nat),b3)/\lim (λn=>hl b3 n k 0)=some (k+(c:Nat)):=by
 have key:∀(r:List α) (k:Int),0<=k->k+gh w r<=1099511627776->∃gX c,c<=gh w r/\gX.length=r.length/\∀(d:List α) (m:Nat),d.length+r.length<=1099511627776->r.length<m->l m (d++r) k (d.length:Int)=some (k+(c:Nat),d++gX)/\
   hl (d++gX) m k (d.length:Int)=some (k+(c:Nat)):=by
  intro r;induction r with
  |nil=>
   intro k _ _;refine⟨[],0,Nat.le_refl _,rfl,λd m _ hm=>?_⟩;obtain⟨m,rfl⟩:∃au,m=au+1:=⟨m-1,by omega⟩
   rw[List.append_nil,bq,e9];simp
  |cons x r ih=>
   intro k R U;simp only[gh]at U;obtain⟨cq,c,bD,bH⟩:=I x k R (by omega);obtain⟨gX,HZ,aK,a1,aV⟩:=ih (k+c) (by omega) (by omega);refine⟨cq::gX,c+HZ,by simp only[gh];omega,by simp only[List.length_cons,a1],λd m ae hm=>?_⟩;simp only[List.length_cons]at ae hm;obtain⟨m,rfl⟩:∃au,m=au+1:=⟨m-1,by omega⟩
   rw[(bH m d r (by omega)).1,(bH m d gX (by omega)).2];have:=aV (d++[cq]) m (by simp only[List.length_append,List.length_cons,List.length_nil];omega) (by omega);simp only[List.length_append,List.length_cons,List.length_nil,List.append_assoc,List.cons_append,List.nil_append,Nat.zero_add]at this;rw[this.1,this.2];simp only[some.injEq,Prod.mk.injEq,and_true];exact⟨by omega,by omega⟩
 obtain⟨b3,c,aK,a1,aV⟩:=key a k ak J;refine⟨b3,c,aK,hS (a.length+1) λm hm=>?_,hS (a.length+1) λm hm=>?_⟩
 .have:=(aV [] m (by simpa using MC) (by omega)).1;simpa using this
 .have:=(aV [] m (by simpa using MC) (by omega)).2;simpa using this
set_option linter.unusedSimpArgs false
theorem MD (x:abH) (n:Int) (ag:(x.length<=9223372036854775807/\∀y∈x,(-9223372036854775808<=y/\y<=9223372036854775807))) (bq:0<=n) (a7:n<=1048576):xf x n=some (iu n (x.length+0)):=by
 unfold xf;refine yc ag.1 bq a7 λh=>?_;rw[hs _ (by omega)];exact yd (by omega)
theorem ME (x:abQ) (n:Int) (ag:(x.length<=9223372036854775807/\∀y∈x,q9 y)) (bq:0<=n) (a7:n<=1048576):uy x n=some (iu n (x.length+0)):=by
 unfold uy;refine yc ag.1 bq a7 λh=>?_;rw[hs _ (by omega)];exact yd (by omega)
theorem MF (x:abO) (n:Int) (ag:(x.length<=9223372036854775807/\∀y∈x,(y.length<=9223372036854775807/\∀z∈y,q9 z))) (bq:0<=n) (a7:n<=1048576):xg x n=some (iu n (gB (λx=>x.length+0) x)):=by
 unfold xg;refine yc ag.1 bq a7 λh=>?_;rw[hs _ (by omega)];exact MB (f:=uy) (λx=>x.length+0) x (λ_ _ _=>rfl) (λy bh n bq a7=>ME y n (ag.2 y bh) bq a7) (by omega) _ (by omega) (by omega)
def oE (x:h5):Nat:=((x.bs.length+0)+((x.Guard.length+0)+(x.Name.length+((gB (λx=>x.length+0) x.bl)+((gB (λx=>x.length+0) x.Next)+0)))))
theorem YG (x:h5) (n:Int) (ag:xe x) (bq:0<=n) (a7:n<=1048576):xh x n=some (iu n (oE x)):=by
 unfold xh;unfold oE;obtain⟨w0,ik,j0,pf,FY⟩:=ag;refine tu (MD _ _ w0 (by omega) (by omega)) λh7=>?_;refine tu (ME _ _ ik (by omega) (by omega)) λbD=>?_;refine yc j0 (by omega) (by omega) λbH=>?_;rw[hs (((n-(((x.bs.length+0):Nat):Int))-(((x.Guard.length+0):Nat):Int))-(x.Name.length:Int)) (by omega)];refine tu (MF _ _ pf (by omega) (by omega)) λy5=>?_;refine tu (MF _ _ FY (by omega) (by omega)) λi6=>?_;exact yd (by omega)
theorem YH (x:abR) (n:Int) (ag:(x.length<=9223372036854775807/\∀y∈x,xe y)) (bq:0<=n) (a7:n<=1048576):zI x n=some (iu n (gB oE x)):=by
 unfold zI;refine yc ag.1 bq a7 λh=>?_;rw[hs _ (by omega)];exact MB (f:=xh) oE x (λ_ _ _=>rfl) (λy bh n bq a7=>YG y n (ag.2 y bh) bq a7) (by omega) _ (by omega) (by omega)
def ru (x:lb):Nat:=((x.Start.length+0)+((gB oE x.aW)+0))
theorem YI (x:lb) (n:Int) (ag:zH x) (bq:0<=n) (a7:n<=1048576):zJ x n=some (iu n (ru x)):=by
 unfold zJ;unfold ru;obtain⟨w0,ik,j0⟩:=ag;refine tu (MD _ _ ik (by omega) (by omega)) λbD=>?_;refine tu (YH _ _ j0 (by omega) (by omega)) λbH=>?_;exact yd (by omega)
theorem MG (x:abH) (h:(x.length+0)<=1048576):xi x=some x:=by
 unfold xi;have hl:x.length<=1048576:=by omega
 rw[AS _ hl (by decide)];simp only[bind_some];rw[AR (f:=some) id x _ (λ_ _ _=>rfl) (λ_ _=>rfl) hl,List.map_id]
def rv (x:gu):aG:=⟨x.Kind,x.Value⟩
theorem YJ (x:gu):xj x=some (rv x):=by
 unfold xj;rfl
theorem MH (x:abQ) (h:(x.length+0)<=1048576):uz x=some (x.map rv):=by
 unfold uz;have hl:x.length<=1048576:=by omega
 rw[AS _ hl (by decide)];simp only[bind_some];rw[AR (f:=xj) rv x _ (λ_ _ _=>rfl) (λy bh=>YJ y) hl]
theorem MI (x:abO) (h:(gB (λx=>x.length+0) x)<=1048576):xk x=some (x.map (List.map rv)):=by
 unfold xk;have hl:x.length<=1048576:=Nat.le_trans (rn _ _) h;rw[AS _ hl (by decide)];simp only[bind_some];rw[AR (f:=uz) (List.map rv) x _ (λ_ _ _=>rfl) (λy bh=>MH y (Nat.le_trans (vF (f:=(λx=>x.length+0)) bh) h)) hl]
def vG (x:h5):bc:=⟨x.bs,(x.Guard.map rv),x.Name,(x.bl.map (List.map rv)),(x.Next.map (List.map rv))⟩
def iM (x:bc):Nat:=((x.bs.length+0)+((x.Guard.length+0)+(x.Name.length+((gB (λx=>x.length+0) x.bl)+((gB (λx=>x.length+0) x.Next)+0)))))
theorem YK (x:h5):iM (vG x)=oE x:=by
 simp only[iM,oE,vG,MA,List.length_map]
theorem YL (x:h5) (h:(oE x)<=1048576):xl x=some (vG x):=by
 unfold xl;unfold oE at h;rw[MG _ (by omega),MH _ (by omega),MI _ (by omega),MI _ (by omega)];rfl
theorem YM (x:abR) (h:(gB oE x)<=1048576):zK x=some (x.map vG):=by
 unfold zK;have hl:x.length<=1048576:=Nat.le_trans (rn _ _) h;rw[AS _ hl (by decide)];simp only[bind_some];rw[AR (f:=xl) vG x _ (λ_ _ _=>rfl) (λy bh=>YL y (Nat.le_trans (vF (f:=oE) bh) h)) hl]
def ye (x:lb):bj:=⟨x.a8,x.Start,(x.aW.map vG)⟩
def lu (x:bj):Nat:=((x.Start.length+0)+((gB iM x.aW)+0))
theorem YN (x:lb):lu (ye x)=ru x:=by
 simp only[lu,ru,ye,MA,List.length_map,YK]
theorem YO (x:lb) (h:(ru x)<=1048576):sJ x=some (ye x):=by
 unfold sJ;unfold ru at h;rw[MG _ (by omega),YM _ (by omega)];rfl
theorem F8 (x:abH) (h:(x.length+0)<=1048576):re x x=some true:=by
 unfold re;have hl:x.length<=1048576:=by omega
 rw[AV,cond_false];exact YF x (λ_ _=>rfl) AU hl
theorem YP (x:aG):xG x x=some true:=by
 unfold xG;simp only[AU,F4,F5,cond_false,bind_some,Bool.not_true]
theorem MJ (x:abS) (h:(x.length+0)<=1048576):vc x x=some true:=by
 unfold vc;have hl:x.length<=1048576:=by omega
 rw[AV,cond_false];exact F3 (f:=xG) x (λ_ _=>rfl) (λy bh=>YP y) hl
theorem MK (x:abP) (h:(gB (λx=>x.length+0) x)<=1048576):xH x x=some true:=by
 unfold xH;have hl:x.length<=1048576:=Nat.le_trans (rn _ _) h;rw[AV,cond_false];exact F3 (f:=vc) x (λ_ _=>rfl) (λy bh=>MJ y (Nat.le_trans (vF (f:=(λx=>x.length+0)) bh) h)) hl
theorem YQ (x:bc) (h:(iM x)<=1048576):xI x x=some true:=by
 unfold xI;unfold iM at h;simp only[AU,F4,F5,cond_false,bind_some,Bool.not_true,F8 x.bs (by omega),MJ x.Guard (by omega),MK x.bl (by omega),MK x.Next (by omega)]
theorem YR (x:abT) (h:(gB iM x)<=1048576):Ar x x=some true:=by
 unfold Ar;have hl:x.length<=1048576:=Nat.le_trans (rn _ _) h;rw[AV,cond_false];exact F3 (f:=xI) x (λ_ _=>rfl) (λy bh=>YQ y (Nat.le_trans (vF (f:=iM) bh) h)) hl
theorem ML (x:bj) (h:(lu x)<=1048576):s4 x x=some true:=by
 unfold s4;unfold lu at h;simp only[AU,F4,F5,cond_false,bind_some,Bool.not_true,F8 x.Start (by omega),YR x.aW (by omega)]
theorem YS (k:Int) (bq:0<=k) (J:k<=1099511627776):∃t,xK k=some t:=by
 have key:∀(n:Nat) (k:Int),0<=k->k<=n->n<=1099511627776->∀t:nq,t.length+n<=1099511627776->∃r,∀m,n<m->s5 m k t=some r:=by
  intro n;induction n with
  |zero=>
   intro k R U aA t aL;refine⟨[109]++t,λm hm=>?_⟩;obtain⟨m,rfl⟩:∃au,m=au+1:=⟨m-1,by omega⟩
   simp only[s5,As];rw[show decide (0<k)=false by simp;omega,cond_false,show oK (1+t.length)=some () by unfold oK;rw[if_pos (by omega)]];rfl
  |succ n ih=>
   intro k R U aA t aL;by_cases ak:0<k
   .have ae:Int.tdiv k 10=k/10:=Int.tdiv_eq_ediv_of_nonneg R;have hw:IntKind.i64.wrap (Int.tdiv k 10)=k/10:=by rw[ae];exact hs _ (by omega)
    obtain⟨r,aN⟩:=ih (k/10) (by omega) (by omega) (by omega) ([(pO (IntKind.i64.wrap (48+(Int.tmod k 10))))]++t) (by simp only[List.length_append,List.length_cons,List.length_nil];omega);refine⟨r,λm hm=>?_⟩;obtain⟨m,rfl⟩:∃au,m=au+1:=⟨m-1,by omega⟩
    simp only[s5,As];rw[show decide (0<k)=true by simp;omega,cond_true,show oK (1+t.length)=some () by unfold oK;rw[if_pos (by omega)]];simp only[bind_some,hw];exact aN m (by omega)
   .refine⟨[109]++t,λm hm=>?_⟩;obtain⟨m,rfl⟩:∃au,m=au+1:=⟨m-1,by omega⟩
    simp only[s5,As];rw[show decide (0<k)=false by simp;omega,cond_false,show oK (1+t.length)=some () by unfold oK;rw[if_pos (by omega)]];rfl
 unfold xK;by_cases ak:k<=0
 .exact⟨_,by rw[show decide (k<=0)=true by simpa using ak];rfl⟩
 .obtain⟨r,aN⟩:=key k.toNat k bq (by omega) (by omega) [] (by simp only[List.length_nil];omega);exact⟨r,by rw[show decide (k<=0)=false by simp;omega,cond_false];exact hS (k.toNat+1) λm hm=>aN m (by omega)⟩
theorem F9 (x:abH) (k:Int) (bq:0<=k) (J:k+64*(x.length+0)<=1099511627776):∃(cq:abH) (c:Nat),c<=64*(x.length+0)/\ve x k=some (k+(c:Int),cq)/\s8 cq k=some (k+(c:Int)):=by
 unfold ve s8;have e:gh (λ_=>64) x=64*x.length:=F7 64 x;obtain⟨cq,c,R,U,aA⟩:=AX (l:=vd) (hl:=vj) (λ_=>64) (λm v k=>by simp only[vd,EH];rw[eb (Nat.le_refl _)];rfl) (λa m k=>by simp only[vj,EL];rw[eb (Nat.le_refl _)];rfl) (λx k bq J=>by
  have ik:IntKind.i64.wrap (k+1)=k+1:=hs _ (by omega);refine⟨k,1,by omega,λm d r ae=>⟨?_,?_⟩⟩
  .simp only[vd,EH];rw[rq];simp only[cond_true,rp,AW,bind_some,ik];rw[rr ae];rw[show((k+1):Int)=k+((1:Nat):Int) by omega]
  .simp only[vj,EL];rw[rq];simp only[cond_true,cond_false,rp,bind_some,bne_self_eq_false,beq_self_eq_true,Bool.not_true,ik];rw[rr ae];rw[show((k+1):Int)=k+((1:Nat):Int) by omega]) x k bq (by omega) (by omega)
 exact⟨cq,c,by omega,U,aA⟩
theorem MM (x:abS) (k:Int) (bq:0<=k) (J:k+64*(x.length+0)<=1099511627776):∃(cq:abS) (c:Nat),c<=64*(x.length+0)/\xJ x k=some (k+(c:Int),cq)/\xN cq k=some (k+(c:Int)):=by
 unfold xJ xN;have e:gh (λ_=>64) x=64*x.length:=F7 64 x;obtain⟨cq,c,R,U,aA⟩:=AX (l:=vf) (hl:=vk) (λ_=>64) (λm v k=>by simp only[vf,EI];rw[eb (Nat.le_refl _)];rfl) (λa m k=>by simp only[vk,EM];rw[eb (Nat.le_refl _)];rfl) (λx k bq J=>by
  have ik:IntKind.i64.wrap (k+1)=k+1:=hs _ (by omega);have j0:IntKind.i64.wrap ((k+1)+1)=(k+1)+1:=hs _ (by omega);refine⟨(aG.mk k (k+1)),1+1,by omega,λm d r ae=>⟨?_,?_⟩⟩
  .simp only[vf,EI];rw[rq];simp only[cond_true,rp,AW,bind_some,ik,j0];rw[rr ae];rw[show(((k+1)+1):Int)=k+((1+1:Nat):Int) by omega]
  .simp only[vk,EM];rw[rq];simp only[cond_true,cond_false,rp,bind_some,bne_self_eq_false,beq_self_eq_true,Bool.not_true,ik,j0];rw[rr ae];rw[show(((k+1)+1):Int)=k+((1+1:Nat):Int) by omega]) x k bq (by omega) (by omega)
 exact⟨cq,c,by omega,U,aA⟩
theorem MN (x:abP) (k:Int) (bq:0<=k) (J:k+64*(gB (λx=>x.length+0) x)<=1099511627776):∃(cq:abP) (c:Nat),c<=64*(gB (λx=>x.length+0) x)/\xL x k=some (k+(c:Int),cq)/\xO cq k=some (k+(c:Int)):=by
 unfold xL xO;have e:gh (λx=>64*((x.length+0)+1)) x=64*gB (λx=>x.length+0) x:=F6 (λx=>x.length+0) x;have hl:x.length<=gB (λx=>x.length+0) x:=rn _ _;obtain⟨cq,c,R,U,aA⟩:=AX (l:=vg) (hl:=vl) (λx=>64*((x.length+0)+1)) (λm v k=>by simp only[vg,EJ];rw[eb (Nat.le_refl _)];rfl) (λa m k=>by simp only[vl,EN];rw[eb (Nat.le_refl _)];rfl) (λx k bq J=>by
  obtain⟨e7,bD,i7,ee,gb⟩:=MM x k (by omega) (by omega);have jW:=pJ (k:=(k+(bD:Int))) (by omega);refine⟨e7,bD,by omega,λm d r ae=>⟨?_,?_⟩⟩
  .simp only[vg,EJ];rw[rq];simp only[cond_true,rp,AW,bind_some,ee];rw[rr ae]
  .simp only[vl,EN];rw[rq];simp only[cond_true,cond_false,rp,bind_some,bne_self_eq_false,beq_self_eq_true,Bool.not_true,gb,jW];rw[rr ae]) x k bq (by omega) (by omega)
 exact⟨cq,c,by omega,U,aA⟩
theorem YT (x:abT) (k:Int) (bq:0<=k) (J:k+64*(gB iM x)<=1099511627776):∃(cq:abT) (c:Nat),c<=64*(gB iM x)/\Au x k=some (k+(c:Int),cq)/\Av cq k=some (k+(c:Int)):=by
 unfold Au Av;have e:gh (λx=>64*((iM x)+1)) x=64*gB iM x:=F6 iM x;have hl:x.length<=gB iM x:=rn _ _;obtain⟨cq,c,R,U,aA⟩:=AX (l:=vh) (hl:=vm) (λx=>64*((iM x)+1)) (λm v k=>by simp only[vh,EK];rw[eb (Nat.le_refl _)];rfl) (λa m k=>by simp only[vm,EO];rw[eb (Nat.le_refl _)];rfl) (λx k bq J=>by
  simp only[iM]at J⊢;obtain⟨e7,bD,i7,ee,gb⟩:=F9 x.bs k (by omega) (by omega);have jW:=pJ (k:=(k+(bD:Int))) (by omega);obtain⟨ia,bH,gz,fb,fC⟩:=MM x.Guard (k+(bD:Int)) (by omega) (by omega);have cz:=pJ (k:=((k+(bD:Int))+(bH:Int))) (by omega);obtain⟨hM,t3⟩:=YS ((k+(bD:Int))+(bH:Int)) (by omega) (by omega);have pf:IntKind.i64.wrap (((k+(bD:Int))+(bH:Int))+1)=((k+(bD:Int))+(bH:Int))+1:=hs _ (by omega);obtain⟨vD,i6,c1,jm,hI⟩:=MN x.bl (((k+(bD:Int))+(bH:Int))+1) (by omega) (by omega);have fX:=pJ (k:=((((k+(bD:Int))+(bH:Int))+1)+(i6:Int))) (by omega);obtain⟨YU,o1,df,jP,qH⟩:=MN x.Next ((((k+(bD:Int))+(bH:Int))+1)+(i6:Int)) (by omega) (by omega);have fP:=pJ (k:=(((((k+(bD:Int))+(bH:Int))+1)+(i6:Int))+(o1:Int))) (by omega);refine⟨(bc.mk e7 ia hM vD YU),bD+bH+1+i6+o1,by omega,λm d r ae=>⟨?_,?_⟩⟩
  .simp only[vh,EK];rw[rq];simp only[cond_true,rp,AW,bind_some,ee,fb,t3,pf,jm,jP];rw[rr ae];rw[show((((((k+(bD:Int))+(bH:Int))+1)+(i6:Int))+(o1:Int)):Int)=k+((bD+bH+1+i6+o1:Nat):Int) by omega]
  .simp only[vm,EO];rw[rq];simp only[cond_true,cond_false,rp,bind_some,bne_self_eq_false,beq_self_eq_true,Bool.not_true,gb,jW,fC,cz,hI,fX,qH,fP,t3,pf];rw[rr ae];rw[show((((((k+(bD:Int))+(bH:Int))+1)+(i6:Int))+(o1:Int)):Int)=k+((bD+bH+1+i6+o1:Nat):Int) by omega]) x k bq (by omega) (by omega)
 exact⟨cq,c,by omega,U,aA⟩
theorem MO (x:bj) (k:Int) (bq:0<=k) (J:k+64*((lu x)+1)<=1099511627776):∃(hf:Int) (e7:abH) (ia:abT) (c:Nat),c<=64*((lu x)+1)/\xM x.a8 x.Start x.aW k=some (k+(c:Int),hf,e7,ia)/\xP (bj.mk hf e7 ia) k=some (k+(c:Int)):=by
 unfold xM xP;simp only[lu]at J⊢;obtain⟨e7,bD,i7,ee,gb⟩:=F9 x.Start k (by omega) (by omega);have jW:=pJ (k:=(k+(bD:Int))) (by omega);obtain⟨ia,bH,gz,fb,fC⟩:=YT x.aW (k+(bD:Int)) (by omega) (by omega);have cz:=pJ (k:=((k+(bD:Int))+(bH:Int))) (by omega);refine⟨x.a8,e7,ia,bD+bH,by omega,?_,?_⟩
 .simp only[bind_some,ee,fb];rw[show(k+((bD+bH:Nat):Int))=((k+(bD:Int))+(bH:Int)) by omega]
 .simp only[bind_some,cond_false,bne_self_eq_false,beq_self_eq_true,Bool.not_true,gb,jW,fC,cz];rw[show(k+((bD+bH:Nat):Int))=((k+(bD:Int))+(bH:Int)) by omega]
def tv (t:aG):Nat:=if t.Kind=2 then 2 else if t.Kind=3 then 1 else 0
theorem MP (t:aG):tv t<=2:=by unfold tv;split<;>(try split)<;>omega
theorem MQ (t:aG):cond (t.Kind==2) (some 2) (cond (t.Kind==3) (some 1) (some 0))=some (tv t:Int):=by
 unfold tv;by_cases U:t.Kind=2
 .simp[U]
 .by_cases aA:t.Kind=3
  .simp[aA]
  .have aV:(t.Kind==2)=false:=by simpa using U
   have a1:(t.Kind==3)=false:=by simpa using aA
   rw[aV,a1,if_neg U,if_neg aA];rfl
def gO (n dU aw:Int):Bool:=decide (dU<=n)&&decide (n<=aw)
def oF (t:aG) (v:Int):Bool:=cond (t.Kind==0) (gO t.Value 0 63) (cond (t.Kind==1) (gO t.Value 0 (v-1)) (cond (t.Kind==2) (gO t.Value 0 8) (cond (t.Kind==3) (t.Value==0) false)))
def oG (v:Int):abS->Nat->Bool
 |[],k=>k==0
 |t::r,k=> !(k==0)&&(oF t v&&oG v r (k+tv t-1))
def ji (e:abS) (v most:Int):Bool:=decide ((e.length:Int)<=most)&&oG v e 1
theorem YV (t:aG) (v:Int) (ay: -1000000<=v/\v<=1000000):zO t v=some (oF t v):=by
 unfold zO oa oF gO;rw[hs (v-1) (by omega)];cases t.Kind==0<;>cases t.Kind==1<;>cases t.Kind==2<;>cases t.Kind==3<;>rfl
theorem YW (t:aG) (v:Int) (ay: -1000000<=v/\v<=1000000):Ad t v=some (oF t v):=by
 unfold Ad z1 mx oF gO;rw[hs (v-1) (by omega)];cases t.Kind==0<;>cases t.Kind==1<;>cases t.Kind==2<;>cases t.Kind==3<;>rfl
theorem YX (t:aG):DP t=some (tv t:Int):=MQ t
theorem YY (t:aG):Ej t=some (tv t:Int):=MQ t
theorem MR {k a:Nat} (ak:1<=k) (nJ:k<=100000000) (b8:a<=2):IntKind.i64.wrap ((k:Int)+IntKind.i64.wrap ((a:Int)-1))=((k+a-1:Nat):Int):=by
 rw[hs ((a:Int)-1) (by omega),hs _ (by omega)];omega
theorem AY (k:Nat):((k:Int)==0)=(k==0):=by
 by_cases h:k=0
 .subst h;rfl
 .have R:((k:Int)==0)=false:=by simp;omega
  have U:(k==0)=false:=by simpa using h
  rw[R,U]
theorem MS (e:abS) (v most:Int) (ay: -1000000<=v/\v<=1000000) (he:e.length<=1048576):xn e v most=some (ji e v most):=by
 unfold xn ji;by_cases hm:(e.length:Int)<=most
 .have d1:decide (most<(e.length:Int))=false:=by simp;omega
  have d2:decide ((e.length:Int)<=most)=true:=by simpa using hm
  rw[d1,d2,cond_false,Bool.true_and];have key:∀i,i<=e.length->∀(k:Nat) m,k<=1+2*i->e.length-i<m->uB e v m (k:Int) (i:Int)=some (oG v (e.drop i) k):=by
   refine down e.length ?_ ?_
   .intro k m _ hm;obtain⟨m,rfl⟩:∃au,m=au+1:=⟨m-1,by omega⟩
    simp only[uB,DQ];rw[eb (Nat.le_refl _),List.drop_of_length_le (Nat.le_refl _),AY];rfl
   .intro i aw ih k m ak hm;obtain⟨m,rfl⟩:∃au,m=au+1:=⟨m-1,by omega⟩
    simp only[uB,DQ];rw[e3 aw,eD _ i aw,eT i _ aw (by omega),drop_cons e i aw,AY];simp only[cond_true,bind_some,YV _ v ay,YX,oG];by_cases bq:k=0
    .subst bq;rfl
    .have J:(k==0)=false:=by simpa using bq
     have b8:=MP e[i];rw[J,MR (by omega) (by omega) b8,ih _ m (by omega) (by omega)];simp only[cond_false,Bool.not_false,Bool.true_and];cases oF e[i] v<;>rfl
  refine hS (e.length+1) λm hm=>?_;have:=key 0 (by omega) 1 m (by omega) (by omega);simpa using this
 .have d1:decide (most<(e.length:Int))=true:=by simp;omega
  have d2:decide ((e.length:Int)<=most)=false:=by simpa using hm
  rw[d1,d2];rfl
theorem YZ (e:abS) (v most:Int) (ay:0<=v/\v<=29) (abz:1<=most/\most<=60) (he:e.length<=1048576):Ae e v most=some (ji e v most):=by
 unfold Ae mx ji;have d1:(!(decide (0<=v)&&decide (v<=29)))=false:=by simp;omega
 have d2:(!(decide (1<=most)&&decide (most<=60)))=false:=by simp;omega
 simp only[bind_some,d1,d2,cond_false];by_cases R:e.length=0
 .have:e=[]:=List.length_eq_zero_iff.1 R;subst this;simp[oG]
 .by_cases hm:(e.length:Int)<=most
  .have d3:(!(decide ((1:Int)<=(e.length:Int))&&decide ((e.length:Int)<=most)))=false:=by simp;omega
   have d4:decide ((e.length:Int)<=most)=true:=by simpa using hm
   rw[d3,d4,cond_false,Bool.true_and];have key:∀i,i<=e.length->∀(k:Nat) m,k<=1+2*i->e.length-i<m->u1 e v m (k:Int) (i:Int)=some (oG v (e.drop i) k):=by
    refine down e.length ?_ ?_
    .intro k m _ hm;obtain⟨m,rfl⟩:∃au,m=au+1:=⟨m-1,by omega⟩
     simp only[u1,Ek];rw[eb (Nat.le_refl _),List.drop_of_length_le (Nat.le_refl _),AY];rfl
    .intro i aw ih k m ak hm;obtain⟨m,rfl⟩:∃au,m=au+1:=⟨m-1,by omega⟩
     simp only[u1,Ek];rw[e3 aw,eD _ i aw,eT i _ aw (by omega),drop_cons e i aw,AY];simp only[cond_true,bind_some,YW _ v (by omega),YY,oG];by_cases bq:k=0
     .subst bq;rfl
     .have J:(k==0)=false:=by simpa using bq
      have b8:=MP e[i];rw[J,MR (by omega) (by omega) b8,ih _ m (by omega) (by omega)];simp only[cond_false,Bool.not_false,Bool.true_and];cases oF e[i] v<;>rfl
   refine hS (e.length+1) λm hm=>?_;have:=key 0 (by omega) 1 m (by omega) (by omega);simpa using this
  .have d3:(!(decide ((1:Int)<=(e.length:Int))&&decide ((e.length:Int)<=most)))=true:=by simp;omega
   have d4:decide ((e.length:Int)<=most)=false:=by simpa using hm
   rw[d3,d4];rfl
def small (c:UInt8):Bool:=decide (97<=(c.toNat:Int))&&decide ((c.toNat:Int)<=122)
def digit (c:UInt8):Bool:=decide (48<=(c.toNat:Int))&&decide ((c.toNat:Int)<=57)
def tw (s:nq):Bool:=decide (s.length<=10)&&(match s with|[]=>false|c::r=>small c&&r.all λc=>small c||digit c)
theorem Y0 (s:nq):zP s=some (tw s):=by
 unfold zP;cases s with
 |nil=>rfl
 |cons c r=>
  have fi:((c::r)==([]:nq))=false:=rfl;rw[fi];simp only[cond_false];by_cases gx:10<(c::r).length
  .have:decide ((10:Int)<((c::r).length:Int))=true:=by simp at gx⊢;omega
   rw[this];have U:decide ((c::r).length<=10)=false:=by simp at gx⊢;omega
   simp only[tw,U];rfl
  .have:decide ((10:Int)<((c::r).length:Int))=false:=by simp at gx⊢;omega
   rw[this];have U:decide ((c::r).length<=10)=true:=by simp at gx⊢;omega
   rw[Mx];simp only[cond_false,bind_some,xp];simp only[tw,U,Bool.true_and];show cond (!small c) _ _=_;cases I:small c with
   |false=>rfl
   |true=>
    simp only[Bool.not_true,cond_false];rw[AP (n:=(c::r).length) (λi=>some (((c::r).drop i).all λc=>small c||digit c))]
    .simp[I]
    .intro m;simp only[xq,DT];rw[eb (Nat.le_refl _)];simp
    .intro i aw m ih;simp only[xq,DT];rw[e3 aw,eD _ i aw,eT i _ aw (by omega),ih,drop_cons _ i aw];simp only[cond_true,bind_some,xp,DS,List.all_cons];show cond (!small _) (cond (!digit _) _ _) _=_;cases small (c::r)[i]<;>cases digit (c::r)[i]<;>rfl
theorem Y1 (s:nq) (I:s.length<=140737488355328):z_ s=some (tw s):=by
 unfold z_;have aY:∀m,s.length-1<m->1<=s.length->ra s m ((1:Nat):Int)=some (((s.drop 1).all λc=>small c||digit c)&&(decide (1<=(s.length:Int))&&decide ((s.length:Int)<=10))):=by
  intro m hm R;refine down s.length (P:=λi=>1<=i->∀m,s.length-i<m->ra s m (i:Int)=some (((s.drop i).all λc=>small c||digit c)&&(decide (1<=(s.length:Int))&&decide ((s.length:Int)<=10)))) ?_ ?_ 1 R (Nat.le_refl _) m hm
  .intro _ m hm;obtain⟨k,rfl⟩:∃k,m=k+1:=⟨m-1,by omega⟩
   simp only[ra,z8];rw[eb (Nat.le_refl _)];simp
  .intro i aw ih CE m hm;obtain⟨k,rfl⟩:∃k,m=k+1:=⟨m-1,by omega⟩
   simp only[ra,z8];rw[e3 aw,eD _ i aw,eT i _ aw (by omega),ih (by omega) k (by omega),drop_cons _ i aw];have e:((i:Int)==0)=false:=by simp;omega
   rw[e];simp only[cond_true,cond_false,bind_some,Ed,List.all_cons];show cond (!small _) (cond (!digit _) _ _) _=_;cases small s[i]<;>cases digit s[i]<;>rfl
 refine hS (s.length+1) λm hm=>?_;obtain⟨k,rfl⟩:∃k,m=k+1:=⟨m-1,by omega⟩
 simp only[ra,z8];cases s with
 |nil=>rfl
 |cons c r=>
  have ak:=aY k (by simp at hm⊢;omega) (by simp);rw[show((1:Nat):Int)=1 from rfl]at ak;rw[FZ (by simp),Mx,YC,ak];have e:((0:Int)==0)=true:=rfl;rw[e];simp only[cond_true,tw];show cond (!small c) _ _=_;have R:decide (1<=((c::r).length:Int))=true:=by simp;omega
  have U:decide (((c::r).length:Int)<=10)=decide ((c::r).length<=10):=by
   by_cases h:(c::r).length<=10<;>simp at h⊢<;>omega
  rw[R,U];cases small c with
  |false=>simp
  |true=>simp[Bool.and_comm]
section
variable {α β:Type}
theorem Y2 {l:Nat->Int->Option β} (a:List α) (F:List α->Option β) (bq:∀m,l (m+1) (a.length:Int)=F [])
  (I:∀i (h:i<a.length) m,l m ((i+1:Nat):Int)=F (a.drop (i+1))->l (m+1) (i:Int)=F (a[i]::a.drop (i+1))):lim (λm=>l m 0)=F a:=by
 rw[AP (n:=a.length) (λi=>F (a.drop i))]
 .simp
 .intro m;rw[bq,List.drop_of_length_le (Nat.le_refl _)]
 .intro i aw m ih;rw[drop_cons a i aw];exact I i aw m ih
theorem F_ {l:Nat->Int->abJ} (a:List α) (p:α->Bool) (bq:∀m,l (m+1) (a.length:Int)=some true)
  (I:∀i (h:i<a.length) m,l (m+1) (i:Int)=cond (p a[i]) (l m ((i+1:Nat):Int)) (some false)):lim (λm=>l m 0)=some (a.all p):=by
 refine Y2 a (λr=>some (r.all p)) bq λi h m ih=>?_;rw[I i h m,ih,List.all_cons];cases p a[i]<;>rfl
def lv (p:α->Bool):Nat->List α->Int
 |_,[]=> -1
 |i,x::r=>if p x=true then(i:Int)else lv p (i+1) r
theorem yf (p:α->Bool):∀(r:List α) (i:Nat),decide (0<=lv p i r)=r.any p
 |[],i=>by simp[lv]
 |x::r,i=>by
  simp only[lv,List.any_cons];by_cases h:p x=true
  .simp[h]
  .have e:p x=false:=by simpa using h
   simp[e,yf p r (i+1)]
theorem Ga {l:Nat->Int->abK} (a:List α) (p:α->Bool) (bq:∀m,l (m+1) (a.length:Int)=some (-1))
  (I:∀i (h:i<a.length) m,l (m+1) (i:Int)=cond (p a[i]) (some (i:Int)) (l m ((i+1:Nat):Int))):lim (λm=>l m 0)=some (lv p 0 a):=by
 have key:∀i,i<=a.length->∀m,a.length-i<m->l m (i:Int)=some (lv p i (a.drop i)):=by
  refine down a.length ?_ ?_
  .intro m hm;obtain⟨m,rfl⟩:∃au,m=au+1:=⟨m-1,by omega⟩
   rw[bq,List.drop_of_length_le (Nat.le_refl _)];rfl
  .intro i aw ih m hm;obtain⟨m,rfl⟩:∃au,m=au+1:=⟨m-1,by omega⟩
   rw[I i aw m,ih m (by omega),drop_cons a i aw];simp only[lv];cases p a[i]<;>rfl
 refine hS (a.length+1) λm hm=>?_;have:=key 0 (by omega) m (by omega);simpa using this
theorem Gb {l:Nat->Int->abK} {f:α->abJ} (a:List α) (p:α->Bool)
  (kO:∀m i,l (m+1) i=cond (decide (i<(a.length:Int))) ((bS a i).bind λx=>(f x).bind λy=>cond y (some i) (l m (IntKind.i64.wrap (i+1)))) (some (-1)))
  (a6:∀x∈a,f x=some (p x)) (b8:a.length<=1099511627776):lim (λm=>l m 0)=some (lv p 0 a):=by
 refine Ga a p (λm=>by rw[kO,eb (Nat.le_refl _)];rfl) λi h m=>?_;rw[kO,e3 h,eD _ i h,eT i _ h (by omega)];simp only[cond_true,bind_some,a6 _ (List.getElem_mem h)]
theorem Gc (a:List α) (p:α->Bool):(a.any λx=> !p x)= !(a.all p):=by
 induction a with
 |nil=>rfl
 |cons x r ih=>simp only[List.any_cons,List.all_cons,ih];cases p x<;>simp
end
theorem qt {S α β:Type} {L:Nat->S->Int->Option β} (a:List α) (f:S->α->S) (yg:S->Prop) (E:S->Option β)
  (bq:∀m s,yg s->L (m+1) s (a.length:Int)=E s)
  (I:∀i (h:i<a.length) m s,yg s->yg (f s a[i])/\L (m+1) s (i:Int)=L m (f s a[i]) ((i+1:Nat):Int)) (s:S) (j3:yg s):
  lim (λm=>L m s 0)=E (a.foldl f s):=by
 have key:∀i,i<=a.length->∀s m,yg s->a.length-i<m->L m s (i:Int)=E ((a.drop i).foldl f s):=by
  refine down a.length ?_ ?_
  .intro s m j3 hm;obtain⟨m,rfl⟩:∃au,m=au+1:=⟨m-1,by omega⟩
   rw[bq m s j3,List.drop_of_length_le (Nat.le_refl _)];rfl
  .intro i aw ih s m j3 hm;obtain⟨m,rfl⟩:∃au,m=au+1:=⟨m-1,by omega⟩
   obtain⟨R,U⟩:=I i aw m s j3;rw[U,ih _ m R (by omega),drop_cons a i aw];rfl
 refine hS (a.length+1) λm hm=>?_;have:=key 0 (by omega) s m j3 (by omega);simpa using this
end Go.mn
