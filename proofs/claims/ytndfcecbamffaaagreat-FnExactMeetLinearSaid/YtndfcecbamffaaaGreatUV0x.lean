/- Part of a proof that a law returns true for every input. No condition. -/
import Derived.Test.YtndfcecbamffaaaGreatFwA
import Derived.IntWalk
import Derived.Test.YtndfcecbamffaaaGreatP4
namespace Go.ob
open Option Nat Or
open Go Go.dD
theorem gg (n:Int) (h: -9223372036854775808<=n/\n<=9223372036854775807):IntKind.i64.wrap n=n:=IntWalk.i64_in n h
theorem Aw {α:Type} (a:List α) (i:Nat) (d:α) (h:i<a.length):bZ a (i:Int)=some (a.getD i d):=by
 rw[JP (by omega) (by simpa using h)];simp[List.getD,h]
theorem fD {α:Type} (a:List α) (i:Nat) (h:i<a.length):bZ a (i:Int)=some a[i]:=by
 rw[JP (by omega) (by simpa using h)];rfl
theorem eW (i n:Nat) (h:i<n) (ba:n<=4611686018427387904):IntKind.i64.wrap ((i:Int)+1)=((i+1:Nat):Int):=by
 rw[gg _ (by omega)];omega
theorem eP {i n:Nat} (h:i<n):decide ((i:Int)<(n:Int))=true:=by simp;omega
theorem dY {i n:Nat} (h:n<=i):decide ((i:Int)<(n:Int))=false:=by simp;omega
theorem xQ {α:Type} (c:α) (r:List α):bZ (c::r) 0=some c:=rfl
theorem Jl {n:Nat} (h:0<n):decide ((0:Int)<(n:Int))=true:=by simp;omega
theorem aed:IntKind.i64.wrap (0+1)=1:=by decide
theorem down (n:Nat) {P:Nat->Prop} (bA:P n) (ae:∀i,i<n->P (i+1)->P i):∀i,i<=n->P i:=by
 have key:∀d,d<=n->P (n-d):=by
  intro d;induction d with
  |zero=>intro _;exact bA
  |succ d ih=>
   intro al;have:=ih (by omega);refine ae _ (by omega) ?_;rw[show n-(d+1)+1=n-d by omega];exact this
 intro i aq;have:=key (n-i) (by omega)
 rwa [show n-(n-i)=i by omega]at this
theorem up {β:Type} {l:Nat->Int->Option β} {n:Nat} (F:Nat->Option β) (bA:∀m,l (m+1) (n:Int)=F n)
  (ae:∀i,i<n->∀m,(l m ((i+1:Nat):Int)=F (i+1))->l (m+1) (i:Int)=F i):∀i,i<=n->∀m,n-i<m->l m (i:Int)=F i:=by
 refine down n ?_ ?_
 .intro m hm;obtain⟨k,rfl⟩:∃k,m=k+1:=⟨m-1,by omega⟩
  exact bA k
 .intro i aq ih m hm;obtain⟨k,rfl⟩:∃k,m=k+1:=⟨m-1,by omega⟩
  exact ae i aq k (ih k (by omega))
theorem tE {β:Type} {l:Nat->Int->Option β} {n:Nat} (F:Nat->Option β) (bA:∀m,l (m+1) (n:Int)=F n)
  (ae:∀i,i<n->∀m,(l m ((i+1:Nat):Int)=F (i+1))->l (m+1) (i:Int)=F i):cm (λm=>l m 0)=F 0:=
 hT (n+1) λm hm=>up F bA ae 0 (by omega) m (by omega)
theorem drop_cons {α:Type} (a:List α) (i:Nat) (h:i<a.length):a.drop i=a[i]::a.drop (i+1):=List.drop_eq_getElem_cons h
def jE (n:Int) (s:Nat):Int:=if(s:Int)<=n then n-s else-1
theorem Ax {n:Int} {s:Nat} (h:(s:Int)<=n):jE n s=n-s:=if_pos h
theorem xR {n:Int} {s:Nat} (h:n<s):jE n s= -1:=if_neg (by omega)
theorem aee {n:Int} (h:0<=n):jE n 0=n:=by rw[Ax (by simpa using h)];simp
theorem vv {f:ahE} {k:Int->ahE} {n:Int} {s t:Nat} (bS:f=some (jE n s)) (au:(s:Int)<=n->k (n-s)=some (jE (n-s) t)):
  (f.bind λx=>cond (decide (x<0)) (some (-1)) (k x))=some (jE n (s+t)):=by
 rw[bS];simp only[bind_some];by_cases h:(s:Int)<=n
 .rw[Ax h];have:decide (n-(s:Int)<0)=false:=by simp;omega
  rw[this,cond_false,au h];congr 1;unfold jE;by_cases ag:(t:Int)<=n-s
  .rw[if_pos ag,if_pos (by omega)];omega
  .rw[if_neg ag,if_neg (by omega)]
 .rw[xR (by omega)];have:decide ((-1:Int)<0)=true:=by decide
  rw[this,cond_true,xR (by omega)]
theorem si {K:ahE} {n:Int} {s t:Nat} (ae:s<=9223372036854775807) (bA:0<=n) (ba:n<=1048576) (au:(s:Int)<=n->K=some (jE (n-s) t)):
  cond (decide (IntKind.i64.wrap (n-(s:Int))<0)) (some (-1)) K=some (jE n (s+t)):=by
 rw[gg _ (by omega)];by_cases h:(s:Int)<=n
 .have:decide (n-(s:Int)<0)=false:=by simp;omega
  rw[this,cond_false,au h];congr 1;unfold jE;by_cases ag:(t:Int)<=n-s
  .rw[if_pos ag,if_pos (by omega)];omega
  .rw[if_neg ag,if_neg (by omega)]
 .have:decide (n-(s:Int)<0)=true:=by simp;omega
  rw[this,cond_true,xR (by omega)]
theorem xS {n:Int} (h:0<=n):some n=some (jE n 0):=by rw[aee h]
def eX {α:Type} (f:α->Nat):List α->Nat
 |[]=>0
 |x::r=>f x+eX f r
theorem P9 {α:Type} {f:α->Nat}:∀{l:List α} {x:α},x∈l->f x<=eX f l
 |y::r,x,h=>by
  simp only[eX];rcases List.mem_cons.1 h with rfl|h
  .omega
  .have:=P9 (f:=f) h;omega
theorem P_ {α β:Type} {f:β->Nat} {g:α->β}:∀l:List α,eX f (l.map g)=eX (λx=>f (g x)) l
 |[]=>rfl
 |x::r=>by simp only[List.map_cons,eX,P_ r]
def gb {α:Type} (f:α->Nat) (l:List α):Nat:=l.length+eX f l
theorem Dt {α β:Type} (f:β->Nat) (g:α->β) (l:List α):gb f (l.map g)=gb (λx=>f (g x)) l:=by simp only[gb,List.length_map,P_]
theorem pj {α:Type} (f:α->Nat) (l:List α):l.length<=gb f l:=le_add_right _ _
theorem sj {α:Type} {f:α->Nat} {l:List α} {x:α} (h:x∈l):f x<=gb f l:=Nat.le_trans (P9 h) (le_add_left _ _)
theorem aef {α:Type} {l:Nat->Int->Int->ahE} {B:α->Int->(Int->ahE)->ahE} (sz:α->Nat) (a:List α)
  (mK:∀m n i,l (m+1) n i=cond (decide (i<(a.length:Int))) ((bZ a i).bind λx=>B x n λy=>l m y (IntKind.i64.wrap (i+1))) (some n))
  (bS:∀x∈a,∀(n:Int) (k:Int->ahE) (t:Nat),0<=n->n<=1048576->((sz x:Int)<=n->k (n-sz x)=some (jE (n-sz x) t))->B x n k=some (jE n (sz x+t)))
  (bY:a.length<=1048576) (n:Int) (bA:0<=n) (ba:n<=1048576):cm (λm=>l m n 0)=some (jE n (eX sz a)):=by
 have key:∀i,i<=a.length->∀n:Int,0<=n->n<=1048576->∀m,a.length-i<m->l m n (i:Int)=some (jE n (eX sz (a.drop i))):=by
  refine down a.length ?_ ?_
  .intro n bA _ m hm;obtain⟨k,rfl⟩:∃k,m=k+1:=⟨m-1,by omega⟩
   rw[mK,dY (Nat.le_refl _),cond_false,List.drop_of_length_le (Nat.le_refl _)];exact xS bA
  .intro i aq ih n bA ba m hm;obtain⟨k,rfl⟩:∃k,m=k+1:=⟨m-1,by omega⟩
   rw[mK,eP aq,cond_true,fD _ i aq,eW i _ aq (by omega),drop_cons a i aq];simp only[bind_some,eX];exact bS _ (List.getElem_mem aq) n _ _ bA ba λh=>ih _ (by omega) (by omega) k (by omega)
 refine hT (a.length+1) λm hm=>?_;have:=key 0 (by omega) n bA ba m (by omega);simpa using this
theorem Jn {α:Type} {l:Nat->Int->Int->ahE} {f:α->Int->ahE} (sz:α->Nat) (a:List α)
  (mK:∀m n i,l (m+1) n i=cond (decide (i<(a.length:Int))) ((bZ a i).bind λx=>(f x n).bind λy=>cond (decide (y<0)) (some (-1)) (l m y (IntKind.i64.wrap (i+1)))) (some n))
  (bS:∀x∈a,∀n:Int,0<=n->n<=1048576->f x n=some (jE n (sz x))) (bY:a.length<=1048576) (n:Int) (bA:0<=n) (ba:n<=1048576):cm (λm=>l m n 0)=some (jE n (eX sz a)):=
 aef (B:=λx n k=>(f x n).bind λy=>cond (decide (y<0)) (some (-1)) (k y)) sz a mK (λx aA n _ _ bA ba au=>vv (bS x aA n bA ba) au) bY n bA ba
theorem Ay {α β:Type} {l:Nat->List β->Int->Option (List β)} {f:α->Option β} (g:α->β) (a:List α) (z:β)
  (mK:∀m v i,l (m+1) v i=cond (decide (i<(a.length:Int))) ((bZ a i).bind λx=>(f x).bind λy=>(bZ v i).bind λ_=>l m (List.set v (Int.toNat i) y) (IntKind.i64.wrap (i+1))) (some v))
  (bS:∀x∈a,f x=some (g x)) (bY:a.length<=1048576):cm (λm=>l m (List.replicate (Int.toNat (a.length:Int)) z) 0)=some (a.map g):=by
 have key:∀i,i<=a.length->∀(v:List β) m,v.length=a.length->a.length-i<m->l m v (i:Int)=some (v.take i++(a.drop i).map g):=by
  refine down a.length ?_ ?_
  .intro v m aP hm;obtain⟨k,rfl⟩:∃k,m=k+1:=⟨m-1,by omega⟩
   rw[mK,dY (Nat.le_refl _)];simp[<-aP]
  .intro i aq ih v m aP hm;obtain⟨k,rfl⟩:∃k,m=k+1:=⟨m-1,by omega⟩
   rw[mK,eP aq,fD _ i aq,eW i _ aq (by omega)];simp only[cond_true,bind_some,bS _ (List.getElem_mem aq)];rw[fD v i (by omega)];simp only[bind_some,Int.toNat_natCast];rw[ih _ k (by simp[aP]) (by omega),drop_cons a i aq,List.map_cons,List.take_set,List.take_succ_eq_append_getElem (by omega),List.set_append_right _ _ (by simp;omega)];simp[show min i v.length=i by omega]
 refine hT (a.length+1) λm hm=>?_;have:=key 0 (by omega) (List.replicate (Int.toNat (a.length:Int)) z) m (by simp) (by omega);simpa using this
theorem Az (b:Nat) {n:Nat} (h:n<=1048576) (U:b<=4096):lv b (n:Int)=some ():=by
 have af:b*n<=4096*1048576:=Nat.mul_le_mul U h;have ag:((b:Int)*(n:Int))=((b*n:Nat):Int):=by simp
 unfold lv;rw[if_pos ⟨by omega,by rw[ag];omega,by omega⟩]
theorem Du {α:Type} {l:Nat->Int->ahD} {f:α->α->ahD} (a:List α)
  (mK:∀m i,l (m+1) i=cond (decide (i<(a.length:Int))) ((bZ a i).bind λx=>(bZ a i).bind λy=>(f x y).bind λz=>cond (!z) (some false) (l m (IntKind.i64.wrap (i+1)))) (some true))
  (bS:∀x∈a,f x x=some true) (bY:a.length<=1048576):cm (λm=>l m 0)=some true:=by
 rw[tE (n:=a.length) (λ_=>some true)]
 .intro m;rw[mK,dY (Nat.le_refl _)];rfl
 .intro i aq m ih;rw[mK,eP aq,fD _ i aq,eW i _ aq (by omega),ih];simp only[cond_true,bind_some,bS _ (List.getElem_mem aq),Bool.not_true,cond_false]
theorem aeg {α:Type} {d:α->α->Bool} {l:Nat->Int->ahD} (a:List α)
  (mK:∀m i,l (m+1) i=cond (decide (i<(a.length:Int))) ((bZ a i).bind λx=>(bZ a i).bind λy=>cond (d x y) (some false) (l m (IntKind.i64.wrap (i+1)))) (some true))
  (al:∀x,d x x=false) (bY:a.length<=1048576):cm (λm=>l m 0)=some true:=by
 rw[tE (n:=a.length) (λ_=>some true)]
 .intro m;rw[mK,dY (Nat.le_refl _)];rfl
 .intro i aq m ih;rw[mK,eP aq,fD _ i aq,eW i _ aq (by omega),ih];simp only[cond_true,bind_some,al,cond_false]
theorem AA (x:Int):(x !=x)=false:=by simp
theorem Dv (x:ahz):(!(x==x))=false:=by simp
theorem Dw (x:Bool):(!(x==x))=false:=by simp
theorem AB (n:Nat):((n:Int) !=(n:Int))=false:=by simp
def pk (p:Nat->Bool) (n:Nat):Bool:=(List.range n).all p
theorem Jo {p:Nat->Bool} {n:Nat}:pk p n=true↔∀i,i<n->p i=true:=by simp[pk]
theorem aeh {l:Nat->Int->ahD} {n:Nat} (p:Nat->Bool) (bA:∀m,l (m+1) (n:Int)=some true)
  (ae:∀i,i<n->∀m,l (m+1) (i:Int)=cond (p i) (l m ((i+1:Nat):Int)) (some false)):cm (λm=>l m 0)=some (pk p n):=by
 rw[tE (n:=n) (λi=>some ((List.range' i (n-i)).all p))]
 .simp[pk,List.range_eq_range']
 .intro m;rw[bA];simp
 .intro i aq m ih;rw[ae i aq,ih,show n-i=(n-(i+1))+1 by omega,List.range'_succ];cases aw:p i<;>simp[aw]
def kK (p:Nat->Bool):Nat->Nat->Int
 |_,0=> -1
 |i,k+1=>if p i=true then(i:Int)else kK p (i+1) k
theorem Qa {p:Nat->Bool}:∀(k i:Nat),(∀az,i<=az->az<i+k->p az=false)->kK p i k= -1
 |0,_,_=>rfl
 |k+1,i,h=>by
  simp only[kK,h i (Nat.le_refl _) (by omega)];exact Qa k (i+1) λaz af ag=>h az (by omega) (by omega)
theorem Qb {p:Nat->Bool}:∀(k i az:Nat),i<=az->az<i+k->p az=true->0<=kK p i k
 |0,i,az,af,ag,_=>by omega
 |k+1,i,az,af,ag,aJ=>by
  simp only[kK];split
  .omega
  .rename_i h;refine Qb k (i+1) az ?_ (by omega) aJ;rcases Nat.lt_or_ge i az with h|h
   .exact h
   .have:i=az:=by omega
    subst this;exact absurd aJ (by assumption)
theorem aei (p:Nat->Bool) (n:Nat):decide (0<=kK p 0 n)= !(pk (λi=> !p i) n):=by
 by_cases h:∃az,az<n/\p az=true
 .obtain⟨az,af,ag⟩:=h;have aJ:=Qb n 0 az (zero_le _) (by omega) ag;have a_:pk (λi=> !p i) n=false:=by
   rw[Bool.eq_false_iff];intro i9;have:=Jo.1 i9 az af;simp[ag]at this
  rw[a_];simpa using aJ
 .have aJ:∀az,az<n->p az=false:=λaz ch=>by
   cases aw:p az
   .rfl
   .exact absurd ⟨az,ch,aw⟩ h
  rw[Qa n 0 λaz _ ag=>aJ az (by omega)];have a_:pk (λi=> !p i) n=true:=Jo.2 λi aq=>by simp[aJ i aq]
  rw[a_];rfl
theorem Qc {l:Nat->Int->ahE} {n:Nat} (p:Nat->Bool) (bA:∀m,l (m+1) (n:Int)=some (-1))
  (ae:∀i,i<n->∀m,l (m+1) (i:Int)=cond (p i) (some (i:Int)) (l m ((i+1:Nat):Int))):cm (λm=>l m 0)=some (kK p 0 n):=by
 rw[tE (n:=n) (λi=>some (kK p i (n-i)))]
 .simp
 .intro m;rw[bA];simp[kK]
 .intro i aq m ih;rw[ae i aq,ih,show n-i=(n-(i+1))+1 by omega];cases aw:p i<;>simp[aw,kK]
theorem Qd (i:Nat) (h:0<i) (ba:i<=4611686018427387904):IntKind.i64.wrap ((i:Int)-1)=((i-1:Nat):Int):=by
 rw[gg _ (by omega)];omega
theorem Qe:decide ((0:Int)<((0:Nat):Int))=false:=by decide
theorem Qf {i:Nat} (h:i≠0):decide ((0:Int)<(i:Int))=true:=by simp;omega
theorem aej {α:Type} (x:α) (l:List α):kv (x::l) 1 (((x::l).length:Nat):Int)=some l:=by
 unfold kv;rw[if_pos (by simp only[List.length_cons];omega)];simp
theorem gl {b n:Nat} (h:n*b<=140737488355328) (ag:n<=9223372036854775807):room b n=some ():=by unfold room;rw[if_pos ⟨h,ag⟩]
theorem sk {α:Type} (d:List α) (x:α) (r:List α):bZ (d++x::r) (d.length:Int)=some x:=by
 rw[fD _ _ (by simp)];simp
theorem AD {α:Type} (d:List α) (x y:α) (r:List α):List.set (d++x::r) (Int.toNat (d.length:Int)) y=d++y::r:=by
 simp
theorem sl {k:Int} (h:0<=k):decide (k<0)=false:=by simp;omega
theorem sm {α:Type} (d:List α) (x:α) (r:List α):decide ((d.length:Int)<((d++x::r).length:Int))=true:=by simp;omega
theorem sn {α:Type} {d:List α} (h:d.length<=1099511627776):IntKind.i64.wrap ((d.length:Int)+1)=((d.length+1:Nat):Int):=by rw[gg _ (by omega)];omega
theorem Dx {α:Type} (f:α->Nat):∀a:List α,eX (λx=>64*(f x+1)) a=64*gb f a
 |[]=>rfl
 |x::r=>by
  have:=Dx f r;unfold gb at this⊢;simp only[eX,List.length_cons];omega
theorem Jp {α:Type} (n:Nat):∀a:List α,eX (λ_=>n) a=n*a.length
 |[]=>rfl
 |x::r=>by simp only[eX,Jp n r,List.length_cons,Nat.mul_add];omega
theorem aek {α:Type} {l:Nat->List α->Int->Int->Option (Int×List α)} (w:α->Nat) (bA:∀m (v:List α) k,l (m+1) v k (v.length:Int)=some (k,v))
  (ae:∀x (k:Int),0<=k->k+w x<=1099511627776->∃cL c,c<=w x/\∀m (d r:List α),d.length<=1099511627776->l (m+1) (d++x::r) k (d.length:Int)=l m (d++cL::r) (k+(c:Nat)) ((d.length+1:Nat):Int))
  (a:List α) (k:Int) (au:0<=k) (hl:a.length<=1099511627776) (U:k+eX w a<=1099511627776):∃cj c,c<=eX w a/\cm (λn=>l n a k 0)=some (k+(c:Nat),cj):=by
 have key:∀(r:List α) (k:Int),0<=k->k+eX w r<=1099511627776->∃gv c,c<=eX w r/\∀(d:List α) (m:Nat),d.length+r.length<=1099511627776->r.length<m->l m (d++r) k (d.length:Int)=some (k+(c:Nat),d++gv):=by
  intro r;induction r with
  |nil=>
   intro k _ _;refine⟨[],0,Nat.le_refl _,λd m _ hm=>?_⟩;obtain⟨m,rfl⟩:∃az,m=az+1:=⟨m-1,by omega⟩
   rw[List.append_nil,bA];simp
  |cons x r ih=>
   intro k af ag;simp only[eX]at ag;obtain⟨cL,c,b1,cd⟩:=ae x k af (by omega);obtain⟨gv,Bh,a1,bc⟩:=ih (k+c) (by omega) (by omega);refine⟨cL::gv,c+Bh,by simp only[eX];omega,λd m al hm=>?_⟩;simp only[List.length_cons]at al hm;obtain⟨m,rfl⟩:∃az,m=az+1:=⟨m-1,by omega⟩
   rw[cd m d r (by omega)];have:=bc (d++[cL]) m (by simp only[List.length_append,List.length_cons,List.length_nil];omega) (by omega);simp only[List.length_append,List.length_cons,List.length_nil,List.append_assoc,List.cons_append,List.nil_append,Nat.zero_add]at this;rw[this];simp only[some.injEq,Prod.mk.injEq,and_true];omega
 obtain⟨cj,c,a1,bc⟩:=key a k au U;refine⟨cj,c,a1,hT (a.length+1) λm hm=>?_⟩;have:=bc [] m (by simpa using hl) (by omega);simpa using this
theorem Dy {α:Type} {l:Nat->List α->Int->Int->Option (Int×List α)} {hl:List α->Nat->Int->Int->ahE} (w:α->Nat) (bA:∀m (v:List α) k,l (m+1) v k (v.length:Int)=some (k,v))
  (gO:∀(a:List α) m k,hl a (m+1) k (a.length:Int)=some k)
  (ae:∀x (k:Int),0<=k->k+w x<=1099511627776->∃cL c,c<=w x/\∀m (d r:List α),d.length<=1099511627776->l (m+1) (d++x::r) k (d.length:Int)=l m (d++cL::r) (k+(c:Nat)) ((d.length+1:Nat):Int)/\
   hl (d++cL::r) (m+1) k (d.length:Int)=hl (d++cL::r) m (k+(c:Nat)) ((d.length+1:Nat):Int))
  (a:List α) (k:Int) (au:0<=k) (Qg:a.length<=1099511627776) (U:k+eX w a<=1099511627776):∃cj c,c<=eX w a/\cm (λn=>l n a k 0)=some (k+(c:Nat),cj)/\cm (λn=>hl cj n k 0)=some (k+(c:Nat)):=by
 have key:∀(r:List α) (k:Int),0<=k->k+eX w r<=1099511627776->∃gv c,c<=eX w r/\gv.length=r.length/\∀(d:List α) (m:Nat),d.length+r.length<=1099511627776->r.length<m->l m (d++r) k (d.length:Int)=some (k+(c:Nat),d++gv)/\
   hl (d++gv) m k (d.length:Int)=some (k+(c:Nat)):=by
  intro r;induction r with
  |nil=>
   intro k _ _;refine⟨[],0,Nat.le_refl _,rfl,λd m _ hm=>?_⟩;obtain⟨m,rfl⟩:∃az,m=az+1:=⟨m-1,by omega⟩
   rw[List.append_nil,bA,gO];simp
  |cons x r ih=>
   intro k af ag;simp only[eX]at ag;obtain⟨cL,c,b1,cd⟩:=ae x k af (by omega);obtain⟨gv,Bh,a1,bb,bc⟩:=ih (k+c) (by omega) (by omega);refine⟨cL::gv,c+Bh,by simp only[eX];omega,by simp only[List.length_cons,bb],λd m al hm=>?_⟩;simp only[List.length_cons]at al hm;obtain⟨m,rfl⟩:∃az,m=az+1:=⟨m-1,by omega⟩
   rw[(cd m d r (by omega)).1,(cd m d gv (by omega)).2];have:=bc (d++[cL]) m (by simp only[List.length_append,List.length_cons,List.length_nil];omega) (by omega);simp only[List.length_append,List.length_cons,List.length_nil,List.append_assoc,List.cons_append,List.nil_append,Nat.zero_add]at this;rw[this.1,this.2];simp only[some.injEq,Prod.mk.injEq,and_true];exact⟨by omega,by omega⟩
 obtain⟨cj,c,a1,bb,bc⟩:=key a k au U;refine⟨cj,c,a1,hT (a.length+1) λm hm=>?_,hT (a.length+1) λm hm=>?_⟩
 .have:=(bc [] m (by simpa using Qg) (by omega)).1;simpa using this
 .have:=(bc [] m (by simpa using Qg) (by omega)).2;simpa using this
set_option linter.unusedSimpArgs false
theorem Qh (x:ahB) (n:Int) (aA:(x.length<=9223372036854775807/\∀y∈x,(-9223372036854775808<=y/\y<=9223372036854775807))) (bA:0<=n) (ba:n<=1048576):zn x n=some (jE n (x.length+0)):=by
 unfold zn;refine si aA.1 bA ba λh=>?_;rw[gg _ (by omega)];exact xS (by omega)
theorem Qi (x:ahL) (n:Int) (aA:(x.length<=9223372036854775807/\∀y∈x,te y)) (bA:0<=n) (ba:n<=1048576):wN x n=some (jE n (x.length+0)):=by
 unfold wN;refine si aA.1 bA ba λh=>?_;rw[gg _ (by omega)];exact xS (by omega)
theorem Qj (x:ahJ) (n:Int) (aA:(x.length<=9223372036854775807/\∀y∈x,(y.length<=9223372036854775807/\∀z∈y,te z))) (bA:0<=n) (ba:n<=1048576):zo x n=some (jE n (gb (λx=>x.length+0) x)):=by
 unfold zo;refine si aA.1 bA ba λh=>?_;rw[gg _ (by omega)];exact Jn (f:=wN) (λx=>x.length+0) x (λ_ _ _=>rfl) (λy bu n bA ba=>Qi y n (aA.2 y bu) bA ba) (by omega) _ (by omega) (by omega)
def qp (x:jT):Nat:=((x.a5.length+0)+((x.Guard.length+0)+(x.Name.length+((gb (λx=>x.length+0) x.aW)+((gb (λx=>x.length+0) x.Next)+0)))))
theorem ael (x:jT) (n:Int) (aA:zm x) (bA:0<=n) (ba:n<=1048576):zp x n=some (jE n (qp x)):=by
 unfold zp;unfold qp;obtain⟨w0,hI,jR,o2,Au⟩:=aA;refine vv (Qh _ _ w0 (by omega) (by omega)) λmr=>?_;refine vv (Qi _ _ hI (by omega) (by omega)) λb1=>?_;refine si jR (by omega) (by omega) λcd=>?_;rw[gg (((n-(((x.a5.length+0):Nat):Int))-(((x.Guard.length+0):Nat):Int))-(x.Name.length:Int)) (by omega)];refine vv (Qj _ _ o2 (by omega) (by omega)) λLa=>?_;refine vv (Qj _ _ Au (by omega) (by omega)) λmR=>?_;exact xS (by omega)
theorem aem (x:ahM) (n:Int) (aA:(x.length<=9223372036854775807/\∀y∈x,zm y)) (bA:0<=n) (ba:n<=1048576):B4 x n=some (jE n (gb qp x)):=by
 unfold B4;refine si aA.1 bA ba λh=>?_;rw[gg _ (by omega)];exact Jn (f:=zp) qp x (λ_ _ _=>rfl) (λy bu n bA ba=>ael y n (aA.2 y bu) bA ba) (by omega) _ (by omega) (by omega)
def mj (x:l4):Nat:=((x.Start.length+0)+((gb qp x.aU)+0))
theorem Qk (x:l4) (n:Int) (aA:wI x) (bA:0<=n) (ba:n<=1048576):zq x n=some (jE n (mj x)):=by
 unfold zq;unfold mj;obtain⟨w0,hI,jR⟩:=aA;refine vv (Qh _ _ hI (by omega) (by omega)) λb1=>?_;refine vv (aem _ _ jR (by omega) (by omega)) λcd=>?_;exact xS (by omega)
def nV (x:jz):Nat:=(x.Left.length+(x.cf.length+(x.Result.length+0)))
theorem aen (x:jz) (n:Int) (aA:wJ x) (bA:0<=n) (ba:n<=1048576):zr x n=some (jE n (nV x)):=by
 unfold zr;unfold nV;obtain⟨w0,hI,jR⟩:=aA;refine si w0 (by omega) (by omega) λmr=>?_;rw[gg (n-(x.Left.length:Int)) (by omega)];refine si hI (by omega) (by omega) λb1=>?_;rw[gg ((n-(x.Left.length:Int))-(x.cf.length:Int)) (by omega)];refine si jR (by omega) (by omega) λcd=>?_;rw[gg (((n-(x.Left.length:Int))-(x.cf.length:Int))-(x.Result.length:Int)) (by omega)];exact xS (by omega)
theorem aeo (x:ahN) (n:Int) (aA:(x.length<=9223372036854775807/\∀y∈x,wJ y)) (bA:0<=n) (ba:n<=1048576):B5 x n=some (jE n (gb nV x)):=by
 unfold B5;refine si aA.1 bA ba λh=>?_;rw[gg _ (by omega)];exact Jn (f:=zr) nV x (λ_ _ _=>rfl) (λy bu n bA ba=>aen y n (aA.2 y bu) bA ba) (by omega) _ (by omega) (by omega)
theorem Ql (x:ahB) (h:(x.length+0)<=1048576):zs x=some x:=by
 unfold zs;have hl:x.length<=1048576:=by omega
 rw[Az _ hl (by decide)];simp only[bind_some];rw[Ay (f:=some) id x _ (λ_ _ _=>rfl) (λ_ _=>rfl) hl,List.map_id]
def tF (x:hA):ar:=⟨x.Kind,x.Value⟩
theorem aep (x:hA):zt x=some (tF x):=by
 unfold zt;rfl
theorem Qm (x:ahL) (h:(x.length+0)<=1048576):wO x=some (x.map tF):=by
 unfold wO;have hl:x.length<=1048576:=by omega
 rw[Az _ hl (by decide)];simp only[bind_some];rw[Ay (f:=zt) tF x _ (λ_ _ _=>rfl) (λy bu=>aep y) hl]
theorem Qn (x:ahJ) (h:(gb (λx=>x.length+0) x)<=1048576):zu x=some (x.map (List.map tF)):=by
 unfold zu;have hl:x.length<=1048576:=Nat.le_trans (pj _ _) h;rw[Az _ hl (by decide)];simp only[bind_some];rw[Ay (f:=wO) (List.map tF) x _ (λ_ _ _=>rfl) (λy bu=>Qm y (Nat.le_trans (sj (f:=(λx=>x.length+0)) bu) h)) hl]
def xT (x:jT):aN:=⟨x.a5,(x.Guard.map tF),x.Name,(x.aW.map (List.map tF)),(x.Next.map (List.map tF))⟩
def ku (x:aN):Nat:=((x.a5.length+0)+((x.Guard.length+0)+(x.Name.length+((gb (λx=>x.length+0) x.aW)+((gb (λx=>x.length+0) x.Next)+0)))))
theorem aeq (x:jT):ku (xT x)=qp x:=by
 simp only[ku,qp,xT,Dt,List.length_map]
theorem aer (x:jT) (h:(qp x)<=1048576):zv x=some (xT x):=by
 unfold zv;unfold qp at h;rw[Ql _ (by omega),Qm _ (by omega),Qn _ (by omega),Qn _ (by omega)];rfl
theorem aes (x:ahM) (h:(gb qp x)<=1048576):B6 x=some (x.map xT):=by
 unfold B6;have hl:x.length<=1048576:=Nat.le_trans (pj _ _) h;rw[Az _ hl (by decide)];simp only[bind_some];rw[Ay (f:=zv) xT x _ (λ_ _ _=>rfl) (λy bu=>aer y (Nat.le_trans (sj (f:=qp) bu) h)) hl]
def vw (x:l4):a8:=⟨x.aE,x.Start,(x.aU.map xT)⟩
def mL (x:a8):Nat:=((x.Start.length+0)+((gb ku x.aU)+0))
theorem Qo (x:l4):mL (vw x)=mj x:=by
 simp only[mL,mj,vw,Dt,List.length_map,aeq]
theorem Qp (x:l4) (h:(mj x)<=1048576):p8 x=some (vw x):=by
 unfold p8;unfold mj at h;rw[Ql _ (by omega),aes _ (by omega)];rfl
def tG (x:jz):bQ:=⟨x.Left,x.cf,x.Result⟩
def k6 (x:bQ):Nat:=(x.Left.length+(x.cf.length+(x.Result.length+0)))
theorem aet (x:jz):k6 (tG x)=nV x:=by
 simp only[k6,nV,tG,Dt,List.length_map]
theorem aeu (x:jz) (h:(nV x)<=1048576):zw x=some (tG x):=by
 unfold zw;unfold nV at h;rfl
theorem aev (x:ahN) (h:(gb nV x)<=1048576):uW x=some (x.map tG):=by
 unfold uW;have hl:x.length<=1048576:=Nat.le_trans (pj _ _) h;rw[Az _ hl (by decide)];simp only[bind_some];rw[Ay (f:=zw) tG x _ (λ_ _ _=>rfl) (λy bu=>aeu y (Nat.le_trans (sj (f:=nV) bu) h)) hl]
theorem Qq (x:ahB) (h:(x.length+0)<=1048576):zY x x=some true:=by
 unfold zY;have hl:x.length<=1048576:=by omega
 rw[AB,cond_false];exact aeg x (λ_ _=>rfl) AA hl
theorem aew (x:ar):zZ x x=some true:=by
 unfold zZ;simp only[AA,Dv,Dw,cond_false,bind_some,Bool.not_true]
theorem Qr (x:ahO) (h:(x.length+0)<=1048576):xr x x=some true:=by
 unfold xr;have hl:x.length<=1048576:=by omega
 rw[AB,cond_false];exact Du (f:=zZ) x (λ_ _=>rfl) (λy bu=>aew y) hl
theorem Qs (x:ahK) (h:(gb (λx=>x.length+0) x)<=1048576):z0 x x=some true:=by
 unfold z0;have hl:x.length<=1048576:=Nat.le_trans (pj _ _) h;rw[AB,cond_false];exact Du (f:=xr) x (λ_ _=>rfl) (λy bu=>Qr y (Nat.le_trans (sj (f:=(λx=>x.length+0)) bu) h)) hl
theorem aex (x:aN) (h:(ku x)<=1048576):z1 x x=some true:=by
 unfold z1;unfold ku at h;simp only[AA,Dv,Dw,cond_false,bind_some,Bool.not_true,Qq x.a5 (by omega),Qr x.Guard (by omega),Qs x.aW (by omega),Qs x.Next (by omega)]
theorem aey (x:ahP) (h:(gb ku x)<=1048576):CW x x=some true:=by
 unfold CW;have hl:x.length<=1048576:=Nat.le_trans (pj _ _) h;rw[AB,cond_false];exact Du (f:=z1) x (λ_ _=>rfl) (λy bu=>aex y (Nat.le_trans (sj (f:=ku) bu) h)) hl
theorem Jq (x:a8) (h:(mL x)<=1048576):tq x x=some true:=by
 unfold tq;unfold mL at h;simp only[AA,Dv,Dw,cond_false,bind_some,Bool.not_true,Qq x.Start (by omega),aey x.aU (by omega)]
theorem aez (x:bQ) (h:(k6 x)<=1048576):z2 x x=some true:=by
 unfold z2;unfold k6 at h;simp only[AA,Dv,Dw,cond_false,bind_some,Bool.not_true]
theorem aeA (x:ahQ) (h:(gb k6 x)<=1048576):CX x x=some true:=by
 unfold CX;have hl:x.length<=1048576:=Nat.le_trans (pj _ _) h;rw[AB,cond_false];exact Du (f:=z2) x (λ_ _=>rfl) (λy bu=>aez y (Nat.le_trans (sj (f:=k6) bu) h)) hl
theorem Dz (k:Int) (bA:0<=k) (U:k<=1099511627776):∃t,tr k=some t:=by
 have key:∀(n:Nat) (k:Int),0<=k->k<=n->n<=1099511627776->∀t:ahz,t.length+n<=1099511627776->∃r,∀m,n<m->vf m k t=some r:=by
  intro n;induction n with
  |zero=>
   intro k af ag aJ t aZ;refine⟨[109]++t,λm hm=>?_⟩;obtain⟨m,rfl⟩:∃az,m=az+1:=⟨m-1,by omega⟩
   simp only[vf,CY];rw[show decide (0<k)=false by simp;omega,cond_false,show qw (1+t.length)=some () by unfold qw;rw[if_pos (by omega)]];rfl
  |succ n ih=>
   intro k af ag aJ t aZ;by_cases au:0<k
   .have al:Int.tdiv k 10=k/10:=Int.tdiv_eq_ediv_of_nonneg af;have hw:IntKind.i64.wrap (Int.tdiv k 10)=k/10:=by rw[al];exact gg _ (by omega)
    obtain⟨r,aV⟩:=ih (k/10) (by omega) (by omega) (by omega) ([(rm (IntKind.i64.wrap (48+(Int.tmod k 10))))]++t) (by simp only[List.length_append,List.length_cons,List.length_nil];omega);refine⟨r,λm hm=>?_⟩;obtain⟨m,rfl⟩:∃az,m=az+1:=⟨m-1,by omega⟩
    simp only[vf,CY];rw[show decide (0<k)=true by simp;omega,cond_true,show qw (1+t.length)=some () by unfold qw;rw[if_pos (by omega)]];simp only[bind_some,hw];exact aV m (by omega)
   .refine⟨[109]++t,λm hm=>?_⟩;obtain⟨m,rfl⟩:∃az,m=az+1:=⟨m-1,by omega⟩
    simp only[vf,CY];rw[show decide (0<k)=false by simp;omega,cond_false,show qw (1+t.length)=some () by unfold qw;rw[if_pos (by omega)]];rfl
 unfold tr;by_cases au:k<=0
 .exact⟨_,by rw[show decide (k<=0)=true by simpa using au];rfl⟩
 .obtain⟨r,aV⟩:=key k.toNat k bA (by omega) (by omega) [] (by simp only[List.length_nil];omega);exact⟨r,by rw[show decide (k<=0)=false by simp;omega,cond_false];exact hT (k.toNat+1) λm hm=>aV m (by omega)⟩
theorem Qt (x:ahB) (k:Int) (bA:0<=k) (U:k+64*(x.length+0)<=1099511627776):∃(cL:ahB) (c:Nat),c<=64*(x.length+0)/\z3 x k=some (k+(c:Int),cL)/\z6 cL k=some (k+(c:Int)):=by
 unfold z3 z6;have e:eX (λ_=>64) x=64*x.length:=Jp 64 x;obtain⟨cL,c,af,ag,aJ⟩:=Dy (l:=xt) (hl:=xz) (λ_=>64) (λm v k=>by simp only[xt,H5];rw[dY (Nat.le_refl _)];rfl) (λa m k=>by simp only[xz,H_];rw[dY (Nat.le_refl _)];rfl) (λx k bA U=>by
  have hI:IntKind.i64.wrap (k+1)=k+1:=gg _ (by omega);refine⟨k,1,by omega,λm d r al=>⟨?_,?_⟩⟩
  .simp only[xt,H5];rw[sm];simp only[cond_true,sk,AD,bind_some,hI];rw[sn al];rw[show((k+1):Int)=k+((1:Nat):Int) by omega]
  .simp only[xz,H_];rw[sm];simp only[cond_true,cond_false,sk,bind_some,bne_self_eq_false,beq_self_eq_true,Bool.not_true,hI];rw[sn al];rw[show((k+1):Int)=k+((1:Nat):Int) by omega]) x k bA (by omega) (by omega)
 exact⟨cL,c,by omega,ag,aJ⟩
theorem Qu (x:ahO) (k:Int) (bA:0<=k) (U:k+64*(x.length+0)<=1099511627776):∃(cL:ahO) (c:Nat),c<=64*(x.length+0)/\z4 x k=some (k+(c:Int),cL)/\z7 cL k=some (k+(c:Int)):=by
 unfold z4 z7;have e:eX (λ_=>64) x=64*x.length:=Jp 64 x;obtain⟨cL,c,af,ag,aJ⟩:=Dy (l:=xu) (hl:=xA) (λ_=>64) (λm v k=>by simp only[xu,H6];rw[dY (Nat.le_refl _)];rfl) (λa m k=>by simp only[xA,Ia];rw[dY (Nat.le_refl _)];rfl) (λx k bA U=>by
  have hI:IntKind.i64.wrap (k+1)=k+1:=gg _ (by omega);have jR:IntKind.i64.wrap ((k+1)+1)=(k+1)+1:=gg _ (by omega);refine⟨(ar.mk k (k+1)),1+1,by omega,λm d r al=>⟨?_,?_⟩⟩
  .simp only[xu,H6];rw[sm];simp only[cond_true,sk,AD,bind_some,hI,jR];rw[sn al];rw[show(((k+1)+1):Int)=k+((1+1:Nat):Int) by omega]
  .simp only[xA,Ia];rw[sm];simp only[cond_true,cond_false,sk,bind_some,bne_self_eq_false,beq_self_eq_true,Bool.not_true,hI,jR];rw[sn al];rw[show(((k+1)+1):Int)=k+((1+1:Nat):Int) by omega]) x k bA (by omega) (by omega)
 exact⟨cL,c,by omega,ag,aJ⟩
theorem Qv (x:ahK) (k:Int) (bA:0<=k) (U:k+64*(gb (λx=>x.length+0) x)<=1099511627776):∃(cL:ahK) (c:Nat),c<=64*(gb (λx=>x.length+0) x)/\z5 x k=some (k+(c:Int),cL)/\z8 cL k=some (k+(c:Int)):=by
 unfold z5 z8;have e:eX (λx=>64*((x.length+0)+1)) x=64*gb (λx=>x.length+0) x:=Dx (λx=>x.length+0) x;have hl:x.length<=gb (λx=>x.length+0) x:=pj _ _;obtain⟨cL,c,af,ag,aJ⟩:=Dy (l:=xv) (hl:=xB) (λx=>64*((x.length+0)+1)) (λm v k=>by simp only[xv,H7];rw[dY (Nat.le_refl _)];rfl) (λa m k=>by simp only[xB,Ib];rw[dY (Nat.le_refl _)];rfl) (λx k bA U=>by
  obtain⟨fg,b1,gr,fY,gu⟩:=Qu x k (by omega) (by omega);have jx:=sl (k:=(k+(b1:Int))) (by omega);refine⟨fg,b1,by omega,λm d r al=>⟨?_,?_⟩⟩
  .simp only[xv,H7];rw[sm];simp only[cond_true,sk,AD,bind_some,fY];rw[sn al]
  .simp only[xB,Ib];rw[sm];simp only[cond_true,cond_false,sk,bind_some,bne_self_eq_false,beq_self_eq_true,Bool.not_true,gu,jx];rw[sn al]) x k bA (by omega) (by omega)
 exact⟨cL,c,by omega,ag,aJ⟩
theorem aeB (x:ahP) (k:Int) (bA:0<=k) (U:k+64*(gb ku x)<=1099511627776):∃(cL:ahP) (c:Nat),c<=64*(gb ku x)/\CZ x k=some (k+(c:Int),cL)/\C1 cL k=some (k+(c:Int)):=by
 unfold CZ C1;have e:eX (λx=>64*((ku x)+1)) x=64*gb ku x:=Dx ku x;have hl:x.length<=gb ku x:=pj _ _;obtain⟨cL,c,af,ag,aJ⟩:=Dy (l:=xw) (hl:=xC) (λx=>64*((ku x)+1)) (λm v k=>by simp only[xw,H8];rw[dY (Nat.le_refl _)];rfl) (λa m k=>by simp only[xC,Ic];rw[dY (Nat.le_refl _)];rfl) (λx k bA U=>by
  simp only[ku]at U⊢;obtain⟨fg,b1,gr,fY,gu⟩:=Qt x.a5 k (by omega) (by omega);have jx:=sl (k:=(k+(b1:Int))) (by omega);obtain⟨gd,cd,dL,g6,fF⟩:=Qu x.Guard (k+(b1:Int)) (by omega) (by omega);have cu:=sl (k:=((k+(b1:Int))+(cd:Int))) (by omega);obtain⟨kV,t3⟩:=Dz ((k+(b1:Int))+(cd:Int)) (by omega) (by omega);have o2:IntKind.i64.wrap (((k+(b1:Int))+(cd:Int))+1)=((k+(b1:Int))+(cd:Int))+1:=gg _ (by omega);obtain⟨oz,mR,cX,mS,iC⟩:=Qv x.aW (((k+(b1:Int))+(cd:Int))+1) (by omega) (by omega);have gp:=sl (k:=((((k+(b1:Int))+(cd:Int))+1)+(mR:Int))) (by omega);obtain⟨AE,sP,c9,nt,mx⟩:=Qv x.Next ((((k+(b1:Int))+(cd:Int))+1)+(mR:Int)) (by omega) (by omega);have fM:=sl (k:=(((((k+(b1:Int))+(cd:Int))+1)+(mR:Int))+(sP:Int))) (by omega);refine⟨(aN.mk fg gd kV oz AE),b1+cd+1+mR+sP,by omega,λm d r al=>⟨?_,?_⟩⟩
  .simp only[xw,H8];rw[sm];simp only[cond_true,sk,AD,bind_some,fY,g6,t3,o2,mS,nt];rw[sn al];rw[show((((((k+(b1:Int))+(cd:Int))+1)+(mR:Int))+(sP:Int)):Int)=k+((b1+cd+1+mR+sP:Nat):Int) by omega]
  .simp only[xC,Ic];rw[sm];simp only[cond_true,cond_false,sk,bind_some,bne_self_eq_false,beq_self_eq_true,Bool.not_true,gu,jx,fF,cu,iC,gp,mx,fM,t3,o2];rw[sn al];rw[show((((((k+(b1:Int))+(cd:Int))+1)+(mR:Int))+(sP:Int)):Int)=k+((b1+cd+1+mR+sP:Nat):Int) by omega]) x k bA (by omega) (by omega)
 exact⟨cL,c,by omega,ag,aJ⟩
theorem Jr (x:a8) (k:Int) (bA:0<=k) (U:k+64*((mL x)+1)<=1099511627776):∃(hy:Int) (fg:ahB) (gd:ahP) (c:Nat),c<=64*((mL x)+1)/\xx x.aE x.Start x.aU k=some (k+(c:Int),hy,fg,gd)/\z9 (a8.mk hy fg gd) k=some (k+(c:Int)):=by
 unfold xx z9;simp only[mL]at U⊢;obtain⟨fg,b1,gr,fY,gu⟩:=Qt x.Start k (by omega) (by omega);have jx:=sl (k:=(k+(b1:Int))) (by omega);obtain⟨gd,cd,dL,g6,fF⟩:=aeB x.aU (k+(b1:Int)) (by omega) (by omega);have cu:=sl (k:=((k+(b1:Int))+(cd:Int))) (by omega);refine⟨x.aE,fg,gd,b1+cd,by omega,?_,?_⟩
 .simp only[bind_some,fY,g6];rw[show(k+((b1+cd:Nat):Int))=((k+(b1:Int))+(cd:Int)) by omega]
 .simp only[bind_some,cond_false,bne_self_eq_false,beq_self_eq_true,Bool.not_true,gu,jx,fF,cu];rw[show(k+((b1+cd:Nat):Int))=((k+(b1:Int))+(cd:Int)) by omega]
theorem aeC (x:ahQ) (k:Int) (bA:0<=k) (U:k+64*(gb k6 x)<=1099511627776):∃(cL:ahQ) (c:Nat),c<=64*(gb k6 x)/\C0 x k=some (k+(c:Int),cL):=by
 unfold C0;have e:eX (λx=>64*((k6 x)+1)) x=64*gb k6 x:=Dx k6 x;have hl:x.length<=gb k6 x:=pj _ _;obtain⟨cL,c,af,ag⟩:=aek (l:=xy) (λx=>64*((k6 x)+1)) (λm v k=>by simp only[xy,H9];rw[dY (Nat.le_refl _)];rfl) (λx k bA U=>by
  simp only[k6]at U⊢;obtain⟨s1,t1⟩:=Dz k (by omega) (by omega);have hI:IntKind.i64.wrap (k+1)=k+1:=gg _ (by omega);obtain⟨s2,t2⟩:=Dz (k+1) (by omega) (by omega);have jR:IntKind.i64.wrap ((k+1)+1)=(k+1)+1:=gg _ (by omega);obtain⟨kV,t3⟩:=Dz ((k+1)+1) (by omega) (by omega);have o2:IntKind.i64.wrap (((k+1)+1)+1)=((k+1)+1)+1:=gg _ (by omega);refine⟨(bQ.mk s1 s2 kV),1+1+1,by omega,λm d r al=>?_⟩;simp only[xy,H9];rw[sm];simp only[cond_true,sk,AD,bind_some,t1,hI,t2,jR,t3,o2];rw[sn al];rw[show((((k+1)+1)+1):Int)=k+((1+1+1:Nat):Int) by omega]) x k bA (by omega) (by omega)
 exact⟨cL,c,by omega,ag⟩
def vx (t:ar):Nat:=if t.Kind=2 then 2 else if t.Kind=3 then 1 else 0
theorem Qw (t:ar):vx t<=2:=by unfold vx;split<;>(try split)<;>omega
theorem Qx (t:ar):cond (t.Kind==2) (some 2) (cond (t.Kind==3) (some 1) (some 0))=some (vx t:Int):=by
 unfold vx;by_cases ag:t.Kind=2
 .simp[ag]
 .by_cases aJ:t.Kind=3
  .simp[aJ]
  .have bc:(t.Kind==2)=false:=by simpa using ag
   have bb:(t.Kind==3)=false:=by simpa using aJ
   rw[bc,bb,if_neg ag,if_neg aJ];rfl
def iX (n e5 aq:Int):Bool:=decide (e5<=n)&&decide (n<=aq)
def tH (t:ar) (v:Int):Bool:=cond (t.Kind==0) (iX t.Value 0 63) (cond (t.Kind==1) (iX t.Value 0 (v-1)) (cond (t.Kind==2) (iX t.Value 0 8) (cond (t.Kind==3) (t.Value==0) false)))
def so (v:Int):ahO->Nat->Bool
 |[],k=>k==0
 |t::r,k=> !(k==0)&&(tH t v&&so v r (k+vx t-1))
def kL (e:ahO) (v most:Int):Bool:=decide ((e.length:Int)<=most)&&so v e 1
theorem aeD (t:ar) (v:Int) (aP: -1000000<=v/\v<=1000000):B_ t v=some (tH t v):=by
 unfold B_ p9 tH iX;rw[gg (v-1) (by omega)];cases t.Kind==0<;>cases t.Kind==1<;>cases t.Kind==2<;>cases t.Kind==3<;>rfl
theorem aeE (t:ar) (v:Int) (aP: -1000000<=v/\v<=1000000):Cu t v=some (tH t v):=by
 unfold Cu Cm og tH iX;rw[gg (v-1) (by omega)];cases t.Kind==0<;>cases t.Kind==1<;>cases t.Kind==2<;>cases t.Kind==3<;>rfl
theorem aeF (t:ar):GM t=some (vx t:Int):=Qx t
theorem aeG (t:ar):Hk t=some (vx t:Int):=Qx t
theorem Qy {k a:Nat} (au:1<=k) (pz:k<=100000000) (bY:a<=2):IntKind.i64.wrap ((k:Int)+IntKind.i64.wrap ((a:Int)-1))=((k+a-1:Nat):Int):=by
 rw[gg ((a:Int)-1) (by omega),gg _ (by omega)];omega
theorem DA (k:Nat):((k:Int)==0)=(k==0):=by
 by_cases h:k=0
 .subst h;rfl
 .have af:((k:Int)==0)=false:=by simp;omega
  have ag:(k==0)=false:=by simpa using h
  rw[af,ag]
theorem Qz (e:ahO) (v most:Int) (aP: -1000000<=v/\v<=1000000) (he:e.length<=1048576):zy e v most=some (kL e v most):=by
 unfold zy kL;by_cases hm:(e.length:Int)<=most
 .have d1:decide (most<(e.length:Int))=false:=by simp;omega
  have d2:decide ((e.length:Int)<=most)=true:=by simpa using hm
  rw[d1,d2,cond_false,Bool.true_and];have key:∀i,i<=e.length->∀(k:Nat) m,k<=1+2*i->e.length-i<m->wQ e v m (k:Int) (i:Int)=some (so v (e.drop i) k):=by
   refine down e.length ?_ ?_
   .intro k m _ hm;obtain⟨m,rfl⟩:∃az,m=az+1:=⟨m-1,by omega⟩
    simp only[wQ,GN];rw[dY (Nat.le_refl _),List.drop_of_length_le (Nat.le_refl _),DA];rfl
   .intro i aq ih k m au hm;obtain⟨m,rfl⟩:∃az,m=az+1:=⟨m-1,by omega⟩
    simp only[wQ,GN];rw[eP aq,fD _ i aq,eW i _ aq (by omega),drop_cons e i aq,DA];simp only[cond_true,bind_some,aeD _ v aP,aeF,so];by_cases bA:k=0
    .subst bA;rfl
    .have U:(k==0)=false:=by simpa using bA
     have bY:=Qw e[i];rw[U,Qy (by omega) (by omega) bY,ih _ m (by omega) (by omega)];simp only[cond_false,Bool.not_false,Bool.true_and];cases tH e[i] v<;>rfl
  refine hT (e.length+1) λm hm=>?_;have:=key 0 (by omega) 1 m (by omega) (by omega);simpa using this
 .have d1:decide (most<(e.length:Int))=true:=by simp;omega
  have d2:decide ((e.length:Int)<=most)=false:=by simpa using hm
  rw[d1,d2];rfl
theorem aeH (e:ahO) (v most:Int) (aP:0<=v/\v<=29) (ahv:1<=most/\most<=60) (he:e.length<=1048576):Cv e v most=some (kL e v most):=by
 unfold Cv og kL;have d1:(!(decide (0<=v)&&decide (v<=29)))=false:=by simp;omega
 have d2:(!(decide (1<=most)&&decide (most<=60)))=false:=by simp;omega
 simp only[bind_some,d1,d2,cond_false];by_cases af:e.length=0
 .have:e=[]:=List.length_eq_zero_iff.1 af;subst this;simp[so]
 .by_cases hm:(e.length:Int)<=most
  .have d3:(!(decide ((1:Int)<=(e.length:Int))&&decide ((e.length:Int)<=most)))=false:=by simp;omega
   have d4:decide ((e.length:Int)<=most)=true:=by simpa using hm
   rw[d3,d4,cond_false,Bool.true_and];have key:∀i,i<=e.length->∀(k:Nat) m,k<=1+2*i->e.length-i<m->w9 e v m (k:Int) (i:Int)=some (so v (e.drop i) k):=by
    refine down e.length ?_ ?_
    .intro k m _ hm;obtain⟨m,rfl⟩:∃az,m=az+1:=⟨m-1,by omega⟩
     simp only[w9,Hl];rw[dY (Nat.le_refl _),List.drop_of_length_le (Nat.le_refl _),DA];rfl
    .intro i aq ih k m au hm;obtain⟨m,rfl⟩:∃az,m=az+1:=⟨m-1,by omega⟩
     simp only[w9,Hl];rw[eP aq,fD _ i aq,eW i _ aq (by omega),drop_cons e i aq,DA];simp only[cond_true,bind_some,aeE _ v (by omega),aeG,so];by_cases bA:k=0
     .subst bA;rfl
     .have U:(k==0)=false:=by simpa using bA
      have bY:=Qw e[i];rw[U,Qy (by omega) (by omega) bY,ih _ m (by omega) (by omega)];simp only[cond_false,Bool.not_false,Bool.true_and];cases tH e[i] v<;>rfl
   refine hT (e.length+1) λm hm=>?_;have:=key 0 (by omega) 1 m (by omega) (by omega);simpa using this
  .have d3:(!(decide ((1:Int)<=(e.length:Int))&&decide ((e.length:Int)<=most)))=true:=by simp;omega
   have d4:decide ((e.length:Int)<=most)=false:=by simpa using hm
   rw[d3,d4];rfl
def small (c:UInt8):Bool:=decide (97<=(c.toNat:Int))&&decide ((c.toNat:Int)<=122)
def digit (c:UInt8):Bool:=decide (48<=(c.toNat:Int))&&decide ((c.toNat:Int)<=57)
def tI (s:ahz):Bool:=decide (s.length<=10)&&(match s with|[]=>false|c::r=>small c&&r.all λc=>small c||digit c)
theorem aeI (s:ahz):Ca s=some (tI s):=by
 unfold Ca;cases s with
 |nil=>rfl
 |cons c r=>
  have fV:((c::r)==([]:ahz))=false:=rfl;rw[fV];simp only[cond_false];by_cases jG:10<(c::r).length
  .have:decide ((10:Int)<((c::r).length:Int))=true:=by simp at jG⊢;omega
   rw[this];have ag:decide ((c::r).length<=10)=false:=by simp at jG⊢;omega
   simp only[tI,ag];rfl
  .have:decide ((10:Int)<((c::r).length:Int))=false:=by simp at jG⊢;omega
   rw[this];have ag:decide ((c::r).length<=10)=true:=by simp at jG⊢;omega
   rw[xQ];simp only[cond_false,bind_some,zA];simp only[tI,ag,Bool.true_and];show cond (!small c) _ _=_;cases ae:small c with
   |false=>rfl
   |true=>
    simp only[Bool.not_true,cond_false];rw[tE (n:=(c::r).length) (λi=>some (((c::r).drop i).all λc=>small c||digit c))]
    .simp[ae]
    .intro m;simp only[zB,GQ];rw[dY (Nat.le_refl _)];simp
    .intro i aq m ih;simp only[zB,GQ];rw[eP aq,fD _ i aq,eW i _ aq (by omega),ih,drop_cons _ i aq];simp only[cond_true,bind_some,zA,GP,List.all_cons];show cond (!small _) (cond (!digit _) _ _) _=_;cases small (c::r)[i]<;>cases digit (c::r)[i]<;>rfl
theorem aeJ (s:ahz) (ae:s.length<=140737488355328):Cr s=some (tI s):=by
 unfold Cr;have bm:∀m,s.length-1<m->1<=s.length->th s m ((1:Nat):Int)=some (((s.drop 1).all λc=>small c||digit c)&&(decide (1<=(s.length:Int))&&decide ((s.length:Int)<=10))):=by
  intro m hm af;refine down s.length (P:=λi=>1<=i->∀m,s.length-i<m->th s m (i:Int)=some (((s.drop i).all λc=>small c||digit c)&&(decide (1<=(s.length:Int))&&decide ((s.length:Int)<=10)))) ?_ ?_ 1 af (Nat.le_refl _) m hm
  .intro _ m hm;obtain⟨k,rfl⟩:∃k,m=k+1:=⟨m-1,by omega⟩
   simp only[th,Cq];rw[dY (Nat.le_refl _)];simp
  .intro i aq ih n4 m hm;obtain⟨k,rfl⟩:∃k,m=k+1:=⟨m-1,by omega⟩
   simp only[th,Cq];rw[eP aq,fD _ i aq,eW i _ aq (by omega),ih (by omega) k (by omega),drop_cons _ i aq];have e:((i:Int)==0)=false:=by simp;omega
   rw[e];simp only[cond_true,cond_false,bind_some,Hf,List.all_cons];show cond (!small _) (cond (!digit _) _ _) _=_;cases small s[i]<;>cases digit s[i]<;>rfl
 refine hT (s.length+1) λm hm=>?_;obtain⟨k,rfl⟩:∃k,m=k+1:=⟨m-1,by omega⟩
 simp only[th,Cq];cases s with
 |nil=>rfl
 |cons c r=>
  have au:=bm k (by simp at hm⊢;omega) (by simp);rw[show((1:Nat):Int)=1 from rfl]at au;rw[Jl (by simp),xQ,aed,au];have e:((0:Int)==0)=true:=rfl;rw[e];simp only[cond_true,tI];show cond (!small c) _ _=_;have af:decide (1<=((c::r).length:Int))=true:=by simp;omega
  have ag:decide (((c::r).length:Int)<=10)=decide ((c::r).length<=10):=by
   by_cases h:(c::r).length<=10<;>simp at h⊢<;>omega
  rw[af,ag];cases small c with
  |false=>simp
  |true=>simp[Bool.and_comm]
end Go.ob
