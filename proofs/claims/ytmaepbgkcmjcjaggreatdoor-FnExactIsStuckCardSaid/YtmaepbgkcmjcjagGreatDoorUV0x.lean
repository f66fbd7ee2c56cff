/- Part of a proof that a law returns true for every input. No condition. -/
import Derived.Test.YtmaepbgkcmjcjagGreatDoorFwA
import Derived.IntWalk
import Derived.Test.YtmaepbgkcmjcjagGreatDoorP3
import Derived.Lib.ParseIntB
import Derived.Lib.ItoaNum
namespace Go.lZ
open Nat
open Go Go.ef
theorem fk (n:Int) (h: -9223372036854775808<=n/\n<=9223372036854775807):IntKind.i64.wrap n=n:=IntWalk.i64_in n h
theorem l6 {α:Type} (a:List α) (i:Nat) (d:α) (h:i<a.length):bm a (i:Int)=some (a.getD i d):=by
 rw[Sj (by omega) (by simpa using h)];simp[List.getD,h]
theorem dM {α:Type} (a:List α) (i:Nat) (h:i<a.length):bm a (i:Int)=some a[i]:=by
 rw[Sj (by omega) (by simpa using h)];rfl
theorem vW {α:Type} (a:List α) (n:Nat) (h:n<=a.length):gC a 0 (n:Int)=some (a.take n):=by
 unfold gC;rw[if_pos (by omega)];simp
theorem d_ (i n:Nat) (h:i<n) (aS:n<=4611686018427387904):IntKind.i64.wrap ((i:Int)+1)=((i+1:Nat):Int):=by
 rw[fk _ (by omega)];omega
theorem el {i n:Nat} (h:i<n):decide ((i:Int)<(n:Int))=true:=by simp;omega
theorem eL {i n:Nat} (h:n<=i):decide ((i:Int)<(n:Int))=false:=by simp;omega
theorem GI {α:Type} (c:α) (r:List α):bm (c::r) 0=some c:=rfl
theorem zO {n:Nat} (h:0<n):decide ((0:Int)<(n:Int))=true:=by simp;omega
theorem ap4:IntKind.i64.wrap (0+1)=1:=by decide
theorem down (n:Nat) {P:Nat->Prop} (bb:P n) (aa:∀i,i<n->P (i+1)->P i):∀i,i<=n->P i:=by
 have key:∀d,d<=n->P (n-d):=by
  intro d;induction d with
  |zero=>intro _;exact bb
  |succ d ih=>
   intro al;have:=ih (by omega);refine aa _ (by omega) ?_;rw[show n-(d+1)+1=n-d by omega];exact this
 intro i ag;have:=key (n-i) (by omega)
 rwa [show n-(n-i)=i by omega]at this
theorem up {β:Type} {l:Nat->Int->Option β} {n:Nat} (F:Nat->Option β) (bb:∀m,l (m+1) (n:Int)=F n)
  (aa:∀i,i<n->∀m,(l m ((i+1:Nat):Int)=F (i+1))->l (m+1) (i:Int)=F i):∀i,i<=n->∀m,n-i<m->l m (i:Int)=F i:=by
 refine down n ?_ ?_
 .intro m hm;obtain⟨k,rfl⟩:∃k,m=k+1:=⟨m-1,by omega⟩
  exact bb k
 .intro i ag ih m hm;obtain⟨k,rfl⟩:∃k,m=k+1:=⟨m-1,by omega⟩
  exact aa i ag k (ih k (by omega))
theorem pW {β:Type} {l:Nat->Int->Option β} {n:Nat} (F:Nat->Option β) (bb:∀m,l (m+1) (n:Int)=F n)
  (aa:∀i,i<n->∀m,(l m ((i+1:Nat):Int)=F (i+1))->l (m+1) (i:Int)=F i):b6 (λm=>l m 0)=F 0:=
 fa (n+1) λm hm=>up F bb aa 0 (by omega) m (by omega)
theorem drop_cons {α:Type} (a:List α) (i:Nat) (h:i<a.length):a.drop i=a[i]::a.drop (i+1):=List.drop_eq_getElem_cons h
def iG (n:Int) (s:Nat):Int:=if(s:Int)<=n then n-s else-1
theorem GJ {n:Int} {s:Nat} (h:(s:Int)<=n):iG n s=n-s:=if_pos h
theorem GK {n:Int} {s:Nat} (h:n<s):iG n s= -1:=if_neg (by omega)
theorem ap5 {n:Int} (h:0<=n):iG n 0=n:=by rw[GJ (by simpa using h)];simp
theorem uH {f:axf} {k:Int->axf} {n:Int} {s t:Nat} (bF:f=some (iG n s)) (au:(s:Int)<=n->k (n-s)=some (iG (n-s) t)):
  (f.bind λx=>cond (decide (x<0)) (some (-1)) (k x))=some (iG n (s+t)):=by
 rw[bF];simp only[Option.bind_some];by_cases h:(s:Int)<=n
 .rw[GJ h];have:decide (n-(s:Int)<0)=false:=by simp;omega
  rw[this,cond_false,au h];congr 1;unfold iG;by_cases ae:(t:Int)<=n-s
  .rw[if_pos ae,if_pos (by omega)];omega
  .rw[if_neg ae,if_neg (by omega)]
 .rw[GK (by omega)];have:decide ((-1:Int)<0)=true:=by decide
  rw[this,cond_true,GK (by omega)]
theorem ph {K:axf} {n:Int} {s t:Nat} (aa:s<=9223372036854775807) (bb:0<=n) (aS:n<=1048576) (au:(s:Int)<=n->K=some (iG (n-s) t)):
  cond (decide (IntKind.i64.wrap (n-(s:Int))<0)) (some (-1)) K=some (iG n (s+t)):=by
 rw[fk _ (by omega)];by_cases h:(s:Int)<=n
 .have:decide (n-(s:Int)<0)=false:=by simp;omega
  rw[this,cond_false,au h];congr 1;unfold iG;by_cases ae:(t:Int)<=n-s
  .rw[if_pos ae,if_pos (by omega)];omega
  .rw[if_neg ae,if_neg (by omega)]
 .have:decide (n-(s:Int)<0)=true:=by simp;omega
  rw[this,cond_true,GK (by omega)]
theorem vX {n:Int} (h:0<=n):some n=some (iG n 0):=by rw[ap5 h]
def rB {α:Type} (f:α->Nat):List α->Nat
 |[]=>0
 |x::r=>f x+rB f r
theorem YU {α:Type} {f:α->Nat}:∀{l:List α} {x:α},x∈l->f x<=rB f l
 |y::r,x,h=>by
  simp only[rB];rcases List.mem_cons.1 h with rfl|h
  .omega
  .have:=YU (f:=f) h;omega
theorem YV {α β:Type} {f:β->Nat} {g:α->β}:∀l:List α,rB f (l.map g)=rB (λx=>f (g x)) l
 |[]=>rfl
 |x::r=>by simp only[List.map_cons,rB,YV r]
def fR {α:Type} (f:α->Nat) (l:List α):Nat:=l.length+rB f l
theorem zP {α β:Type} (f:β->Nat) (g:α->β) (l:List α):fR f (l.map g)=fR (λx=>f (g x)) l:=by simp only[fR,List.length_map,YV]
theorem l7 {α:Type} (f:α->Nat) (l:List α):l.length<=fR f l:=le_add_right _ _
theorem mV {α:Type} {f:α->Nat} {l:List α} {x:α} (h:x∈l):f x<=fR f l:=Nat.le_trans (YU h) (le_add_left _ _)
theorem YW {α:Type} {l:Nat->Int->Int->axf} {B:α->Int->(Int->axf)->axf} (sz:α->Nat) (a:List α)
  (pj:∀m n i,l (m+1) n i=cond (decide (i<(a.length:Int))) ((bm a i).bind λx=>B x n λy=>l m y (IntKind.i64.wrap (i+1))) (some n))
  (bF:∀x∈a,∀(n:Int) (k:Int->axf) (t:Nat),0<=n->n<=1048576->((sz x:Int)<=n->k (n-sz x)=some (iG (n-sz x) t))->B x n k=some (iG n (sz x+t)))
  (bl:a.length<=1048576) (n:Int) (bb:0<=n) (aS:n<=1048576):b6 (λm=>l m n 0)=some (iG n (rB sz a)):=by
 have key:∀i,i<=a.length->∀n:Int,0<=n->n<=1048576->∀m,a.length-i<m->l m n (i:Int)=some (iG n (rB sz (a.drop i))):=by
  refine down a.length ?_ ?_
  .intro n bb _ m hm;obtain⟨k,rfl⟩:∃k,m=k+1:=⟨m-1,by omega⟩
   rw[pj,eL (Nat.le_refl _),cond_false,List.drop_of_length_le (Nat.le_refl _)];exact vX bb
  .intro i ag ih n bb aS m hm;obtain⟨k,rfl⟩:∃k,m=k+1:=⟨m-1,by omega⟩
   rw[pj,el ag,cond_true,dM _ i ag,d_ i _ ag (by omega),drop_cons a i ag];simp only[Option.bind_some,rB];exact bF _ (List.getElem_mem ag) n _ _ bb aS λh=>ih _ (by omega) (by omega) k (by omega)
 refine fa (a.length+1) λm hm=>?_;have:=key 0 (by omega) n bb aS m (by omega);simpa using this
theorem CR {α:Type} {l:Nat->Int->Int->axf} {f:α->Int->axf} (sz:α->Nat) (a:List α)
  (pj:∀m n i,l (m+1) n i=cond (decide (i<(a.length:Int))) ((bm a i).bind λx=>(f x n).bind λy=>cond (decide (y<0)) (some (-1)) (l m y (IntKind.i64.wrap (i+1)))) (some n))
  (bF:∀x∈a,∀n:Int,0<=n->n<=1048576->f x n=some (iG n (sz x))) (bl:a.length<=1048576) (n:Int) (bb:0<=n) (aS:n<=1048576):b6 (λm=>l m n 0)=some (iG n (rB sz a)):=
 YW (B:=λx n k=>(f x n).bind λy=>cond (decide (y<0)) (some (-1)) (k y)) sz a pj (λx an n _ _ bb aS au=>uH (bF x an n bb aS) au) bl n bb aS
theorem ap6 {l:Nat->Int->Int->axf} (a:awZ)
  (pj:∀m n i,l (m+1) n i=cond (decide (i<(a.length:Int))) ((bm a i).bind λx=>cond (decide (IntKind.i64.wrap (n-(x.length:Int))<0)) (some (-1)) (l m (IntKind.i64.wrap (n-(x.length:Int))) (IntKind.i64.wrap (i+1)))) (some n))
  (bF:∀x∈a,x.length<=9223372036854775807) (bl:a.length<=1048576) (n:Int) (bb:0<=n) (aS:n<=1048576):b6 (λm=>l m n 0)=some (iG n (rB List.length a)):=
 YW (B:=λx n k=>cond (decide (IntKind.i64.wrap (n-(x.length:Int))<0)) (some (-1)) (k (IntKind.i64.wrap (n-(x.length:Int))))) List.length a (by intro m n i;rw[pj]) (by
  intro x an n k t bb aS au;have aC:=bF x an;refine ph aC bb aS λh=>?_;have e:IntKind.i64.wrap (n-(x.length:Int))=n-(x.length:Int):=fk _ (by omega);rw[e];exact au h) bl n bb aS
theorem vY {α β:Type} {l:Nat->List β->Int->Option (List β)} {f:α->Option β} (g:α->β) (a:List α) (z:β)
  (pj:∀m v i,l (m+1) v i=cond (decide (i<(a.length:Int))) ((bm a i).bind λx=>(f x).bind λy=>(bm v i).bind λ_=>l m (List.set v (Int.toNat i) y) (IntKind.i64.wrap (i+1))) (some v))
  (bF:∀x∈a,f x=some (g x)) (bl:a.length<=1048576):b6 (λm=>l m (List.replicate (Int.toNat (a.length:Int)) z) 0)=some (a.map g):=by
 have key:∀i,i<=a.length->∀(v:List β) m,v.length=a.length->a.length-i<m->l m v (i:Int)=some (v.take i++(a.drop i).map g):=by
  refine down a.length ?_ ?_
  .intro v m aE hm;obtain⟨k,rfl⟩:∃k,m=k+1:=⟨m-1,by omega⟩
   rw[pj,eL (Nat.le_refl _)];simp[<-aE]
  .intro i ag ih v m aE hm;obtain⟨k,rfl⟩:∃k,m=k+1:=⟨m-1,by omega⟩
   rw[pj,el ag,dM _ i ag,d_ i _ ag (by omega)];simp only[cond_true,Option.bind_some,bF _ (List.getElem_mem ag)];rw[dM v i (by omega)];simp only[Option.bind_some,Int.toNat_natCast];rw[ih _ k (by simp[aE]) (by omega),drop_cons a i ag,List.map_cons,List.take_set,List.take_succ_eq_append_getElem (by omega),List.set_append_right _ _ (by simp;omega)];simp[show min i v.length=i by omega]
 refine fa (a.length+1) λm hm=>?_;have:=key 0 (by omega) (List.replicate (Int.toNat (a.length:Int)) z) m (by simp) (by omega);simpa using this
theorem s0 (b:Nat) {n:Nat} (h:n<=1048576) (ab:b<=4096):nr b (n:Int)=some ():=by
 have ad:b*n<=4096*1048576:=Nat.mul_le_mul ab h;have ae:((b:Int)*(n:Int))=((b*n:Nat):Int):=by simp
 unfold nr;rw[if_pos ⟨by omega,by rw[ae];omega,by omega⟩]
theorem zQ {α:Type} {l:Nat->Int->axe} {f:α->α->axe} (a:List α)
  (pj:∀m i,l (m+1) i=cond (decide (i<(a.length:Int))) ((bm a i).bind λx=>(bm a i).bind λy=>(f x y).bind λz=>cond (!z) (some false) (l m (IntKind.i64.wrap (i+1)))) (some true))
  (bF:∀x∈a,f x x=some true) (bl:a.length<=1048576):b6 (λm=>l m 0)=some true:=by
 rw[pW (n:=a.length) (λ_=>some true)]
 .intro m;rw[pj,eL (Nat.le_refl _)];rfl
 .intro i ag m ih;rw[pj,el ag,dM _ i ag,d_ i _ ag (by omega),ih];simp only[cond_true,Option.bind_some,bF _ (List.getElem_mem ag),Bool.not_true,cond_false]
theorem YX {α:Type} {d:α->α->Bool} {l:Nat->Int->axe} (a:List α)
  (pj:∀m i,l (m+1) i=cond (decide (i<(a.length:Int))) ((bm a i).bind λx=>(bm a i).bind λy=>cond (d x y) (some false) (l m (IntKind.i64.wrap (i+1)))) (some true))
  (al:∀x,d x x=false) (bl:a.length<=1048576):b6 (λm=>l m 0)=some true:=by
 rw[pW (n:=a.length) (λ_=>some true)]
 .intro m;rw[pj,eL (Nat.le_refl _)];rfl
 .intro i ag m ih;rw[pj,el ag,dM _ i ag,d_ i _ ag (by omega),ih];simp only[cond_true,Option.bind_some,al,cond_false]
theorem xT (x:Int):(x !=x)=false:=by simp
theorem xU (x:axa):(!(x==x))=false:=by simp
theorem zR (x:Bool):(!(x==x))=false:=by simp
theorem vZ (n:Nat):((n:Int) !=(n:Int))=false:=by simp
def f_ (p:Nat->Bool) (n:Nat):Bool:=(List.range n).all p
theorem oI {p:Nat->Bool} {n:Nat}:f_ p n=true↔∀i,i<n->p i=true:=by simp[f_]
theorem GL {l:Nat->Int->axe} {n:Nat} (p:Nat->Bool) (bb:∀m,l (m+1) (n:Int)=some true)
  (aa:∀i,i<n->∀m,l (m+1) (i:Int)=cond (p i) (l m ((i+1:Nat):Int)) (some false)):b6 (λm=>l m 0)=some (f_ p n):=by
 rw[pW (n:=n) (λi=>some ((List.range' i (n-i)).all p))]
 .simp[f_,List.range_eq_range']
 .intro m;rw[bb];simp
 .intro i ag m ih;rw[aa i ag,ih,show n-i=(n-(i+1))+1 by omega,List.range'_succ];cases ax:p i<;>simp[ax]
def jZ (p:Nat->Bool):Nat->Nat->Int
 |_,0=> -1
 |i,k+1=>if p i=true then(i:Int)else jZ p (i+1) k
theorem YY {p:Nat->Bool}:∀(k i:Nat),(∀j,i<=j->j<i+k->p j=false)->jZ p i k= -1
 |0,_,_=>rfl
 |k+1,i,h=>by
  simp only[jZ,h i (Nat.le_refl _) (by omega)];exact YY k (i+1) λj ad ae=>h j (by omega) (by omega)
theorem YZ {p:Nat->Bool}:∀(k i j:Nat),i<=j->j<i+k->p j=true->0<=jZ p i k
 |0,i,j,ad,ae,_=>by omega
 |k+1,i,j,ad,ae,aI=>by
  simp only[jZ];split
  .omega
  .rename_i h;refine YZ k (i+1) j ?_ (by omega) aI;rcases Nat.lt_or_ge i j with h|h
   .exact h
   .have:i=j:=by omega
    subst this;exact absurd aI (by assumption)
theorem v7 (p:Nat->Bool) (n:Nat):decide (0<=jZ p 0 n)= !(f_ (λi=> !p i) n):=by
 by_cases h:∃j,j<n/\p j=true
 .obtain⟨j,ad,ae⟩:=h;have aI:=YZ n 0 j (zero_le _) (by omega) ae;have bc:f_ (λi=> !p i) n=false:=by
   rw[Bool.eq_false_iff];intro lQ;have:=oI.1 lQ j ad;simp[ae]at this
  rw[bc];simpa using aI
 .have aI:∀j,j<n->p j=false:=λj bE=>by
   cases ax:p j
   .rfl
   .exact absurd ⟨j,bE,ax⟩ h
  rw[YY n 0 λj _ ae=>aI j (by omega)];have bc:f_ (λi=> !p i) n=true:=oI.2 λi ag=>by simp[aI i ag]
  rw[bc];rfl
theorem s3 {l:Nat->Int->axf} {n:Nat} (p:Nat->Bool) (bb:∀m,l (m+1) (n:Int)=some (-1))
  (aa:∀i,i<n->∀m,l (m+1) (i:Int)=cond (p i) (some (i:Int)) (l m ((i+1:Nat):Int))):b6 (λm=>l m 0)=some (jZ p 0 n):=by
 rw[pW (n:=n) (λi=>some (jZ p i (n-i)))]
 .simp
 .intro m;rw[bb];simp[jZ]
 .intro i ag m ih;rw[aa i ag,ih,show n-i=(n-(i+1))+1 by omega];cases ax:p i<;>simp[ax,jZ]
theorem GM (i:Nat) (h:0<i) (aS:i<=4611686018427387904):IntKind.i64.wrap ((i:Int)-1)=((i-1:Nat):Int):=by
 rw[fk _ (by omega)];omega
theorem zS:decide ((0:Int)<((0:Nat):Int))=false:=by decide
theorem Re {i:Nat} (h:i≠0):decide ((0:Int)<(i:Int))=true:=by simp;omega
def v8 (b:Bool):Int:=cond b 1 0
theorem KC (b:Bool):(cond b (some 1) (some 0):axf)=some (v8 b):=by cases b<;>rfl
theorem ap7 {α:Type} (x:α) (l:List α):gC (x::l) 1 (((x::l).length:Nat):Int)=some l:=by
 unfold gC;rw[if_pos (by simp only[List.length_cons];omega)];simp
theorem KD {α:Type} (a b c:List α) {i j:Int} (ag:i=(a.length:Int)) (bE:j=((a.length+b.length:Nat):Int)):gC (a++(b++c)) i j=some b:=by
 unfold gC;have aN:i.toNat=a.length:=by omega
 have aU:j.toNat=a.length+b.length:=by omega
 rw[if_pos (by simp only[List.length_append];omega),aN,aU,<-List.append_assoc,List.take_left' (by simp),List.drop_left' rfl]
theorem lK {b n:Nat} (h:n*b<=140737488355328) (ae:n<=9223372036854775807):room b n=some ():=by unfold room;rw[if_pos ⟨h,ae⟩]
def glue (p:axa):awZ->awZ
 |[]=>[p]
 |h::t=>(p++h)::t
def lL (c:UInt8):axa->awZ
 |[]=>[[]]
 |x::r=>if x=c then []::lL c r else glue [x] (lL c r)
theorem Y0:∀{l:awZ},l≠[]->glue [] l=l
 |[],h=>(h rfl).elim
 |_::_,_=>rfl
theorem ap8 (p q:axa):∀l:awZ,glue p (glue q l)=glue (p++q) l
 |[]=>rfl
 |h::t=>by simp only[glue,List.append_assoc]
theorem Y1 (c:UInt8):∀s,lL c s≠[]
 |[]=>by simp[lL]
 |x::r=>by
  simp only[lL];split
  .simp
  .cases h:lL c r<;>simp[glue]
theorem Rf (c:UInt8):∀s,c∉s->lL c s=[s]
 |[],_=>rfl
 |x::r,h=>by
  simp only[List.mem_cons,not_or]at h;simp only[lL];rw[if_neg (λe=>h.1 e.symm),Rf c r h.2];rfl
theorem Rg (c:UInt8):∀p q,c∉p->lL c (p++c::q)=p::lL c q
 |[],q,_=>by simp[lL]
 |x::r,q,h=>by
  simp only[List.mem_cons,not_or]at h;simp only[List.cons_append,lL];rw[if_neg (λe=>h.1 e.symm),Rg c r q h.2];rfl
theorem Y2 (c:UInt8):∀s,c∉s->sC s c= -1
 |[],_=>rfl
 |x::r,h=>by
  simp only[List.mem_cons,not_or]at h;have lQ:(x==c)=false:=by simpa using λe=>h.1 e.symm
  simp only[sC,lQ,Y2 c r h.2];rfl
theorem Y3 (c:UInt8):∀p q,c∉p->sC (p++c::q) c=(p.length:Int)
 |[],q,_=>by simp[sC]
 |x::r,q,h=>by
  simp only[List.mem_cons,not_or]at h;have lQ:(x==c)=false:=by simpa using λe=>h.1 e.symm
  have ih:=Y3 c r q h.2;simp only[List.cons_append,sC,lQ,ih];have:((r.length:Int)== -1)=false:=by simp
  rw[this];simp
theorem Y4 {c:UInt8}:∀{s:axa},c∈s->∃p q,s=p++c::q/\c∉p
 |x::r,h=>by
  by_cases e:x=c
  .subst e;exact⟨[],r,rfl,by simp⟩
  .have bB:c∈r:=by
    rcases List.mem_cons.1 h with h|h
    .exact(e h.symm).elim
    .exact h
   obtain⟨p,q,rfl,ax⟩:=Y4 bB;exact⟨x::p,q,rfl,by simp only[List.mem_cons,not_or];exact⟨λh=>e h.symm,ax⟩⟩
theorem Y5 (s:axa) (c:UInt8) (aa:1<=s.length\/True):vB s [c]=some (if s=[c]then 0 else sC s c):=by
 unfold vB Pe Pd;by_cases h:s=[c]
 .subst h;simp
 .have e:([c]==s)=false:=by simpa using λbB=>h bB.symm
  rw[if_neg h,e];rfl
theorem ap9 {s:axa} {c:UInt8} (h:c∉s):vB s [c]=some (-1):=by
 rw[Y5 s c (.inr trivial),if_neg (by rintro rfl;simp at h),Y2 c s h]
theorem Y6 (p q:axa) {c:UInt8} (h:c∉p):vB (p++c::q) [c]=some (p.length:Int):=by
 rw[Y5 _ c (.inr trivial),Y3 c p q h];split
 .rename_i e;cases p with
  |nil=>rfl
  |cons x r=>have:=congrArg List.length e;simp at this
 .rfl
theorem ap_ (s t:axa):FF s t=vB s t:=by
 unfold FF;cases vB s t<;>rfl
theorem aqa {s:axa} {c:UInt8} (h:c∉s):Cb s [c]=some (s,[],false):=by
 unfold Cb Ju;rw[ap9 h];rfl
theorem aqb (p q:axa) {c:UInt8} (h:c∉p) (aC:(p++c::q).length<=1048576):Cb (p++c::q) [c]=some (p,q,true):=by
 unfold Cb Ju;rw[Y6 p q h];simp only[List.length_append,List.length_cons]at aC;have e:decide ((0:Int)<=(p.length:Int))=true:=by simp
 simp only[Option.bind_some,e,cond_true];rw[vW _ _ (by simp),fk ((p.length:Int)+([c].length:Int)) (by simp;omega)];have aU:gC (p++c::q) ((p.length:Int)+([c].length:Int)) ((p++c::q).length:Int)=some q:=by
  have:=KD (p++[c]) q [] (i:=((p.length:Int)+([c].length:Int))) (j:=(((p++c::q).length:Nat):Int)) (by simp) (by simp;omega);simpa using this
 rw[aU];simp
theorem aqc (q:axa) {c:UInt8} (aC:q.length<=1048576):strings_TrimSuffix (q++[c]) [c]=some q:=by
 unfold strings_TrimSuffix Pg Pf;have e:decide (([c].length:Int)<=((q++[c]).length:Int))=true:=by simp;omega
 have aqd:IntKind.i64.wrap (((q++[c]).length:Int)-([c].length:Int))=(q.length:Int):=by
  rw[fk _ (by simp;omega)];simp
 rw[e,aqd];have aU:=KD q [c] [] (i:=(q.length:Int)) (j:=(((q++[c]).length:Nat):Int)) rfl (by simp);simp only[List.append_nil]at aU;rw[aU,vW _ _ (by simp)];simp
theorem Y7 {α:Type} (a:List α) (x y:α) (b:List α):(a++x::b).set a.length y=a++y::b:=by
 rw[List.set_append_right _ _ (Nat.le_refl _),Nat.sub_self,List.set_cons_zero]
theorem Y8 {α:Type} (a:List α) (x:α) (b:List α):bm (a++x::b) (a.length:Int)=some x:=by
 rw[dM _ _ (by simp)];simp
theorem aqe {α:Type} (a:List α) (x:α) (b:List α):gC (a++x::b) 0 ((a.length+1:Nat):Int)=some (a++[x]):=by
 rw[vW _ _ (by simp)];congr 1;rw[show a++x::b=(a++[x])++b by simp,List.take_left' (by simp)]
theorem aqf (c:UInt8) (s:axa) (aa:s.length<=1048576) (N:Nat) (zT:N=s.count c+1):
  ∀(k:Nat) (r:axa) (d:awZ),r.count c=k->d.length+k+1=N->r.length<=s.length->∀m,k<m->
   zn s [c] 0 (N:Int) m r (d++List.replicate (k+1) []) (d.length:Int)=some (d++lL c r):=by
 have ar:s.count c<=s.length:=List.count_le_length;have Y9:kH false (N:Int) (IntKind.i64.wrap ((s.length:Int)+1))=(N:Int):=by
  rw[fk _ (by omega)];unfold kH;simp;omega
 have GN:∀(r:axa) (d:awZ),d.length<N->c∉r->FG s [c] 0 (N:Int) r (d++List.replicate 1 []) (d.length:Int)=some (d++lL c r):=by
  intro r d al aQ;unfold FG;simp only[List.replicate_succ,List.replicate_zero];rw[Y8,Option.bind_some,Int.toNat_natCast,Y7,fk _ (by omega),show((d.length:Int)+1)=((d.length+1:Nat):Int) by omega,aqe,Rf c r aQ];rfl
 intro k;induction k with
 |zero=>
  intro r d aQ al aC m hm;obtain⟨m,rfl⟩:∃j,m=j+1:=⟨m-1,by omega⟩
  simp only[zn,Pl];have e:decide ((d.length:Int)<IntKind.i64.wrap (kH false (N:Int) (IntKind.i64.wrap ((s.length:Int)+1))-1))=false:=by
   rw[Y9,fk _ (by omega)];simp;omega
  rw[e,cond_false];exact GN r d (by omega) (List.count_eq_zero.1 aQ)
 |succ k ih=>
  intro r d aQ al aC m hm;obtain⟨m,rfl⟩:∃j,m=j+1:=⟨m-1,by omega⟩
  obtain⟨p,q,rfl,ax⟩:=Y4 (c:=c) (s:=r) (List.count_pos_iff.1 (by omega));simp only[zn,Pl];have e:decide ((d.length:Int)<IntKind.i64.wrap (kH false (N:Int) (IntKind.i64.wrap ((s.length:Int)+1))-1))=true:=by
   rw[Y9,fk _ (by omega)];simp;omega
  simp only[List.length_append,List.length_cons]at aC;rw[e,cond_true,ap_,Y6 p q ax,Option.bind_some];have aU:decide ((p.length:Int)<0)=false:=by simp
  rw[aU,cond_false,fk ((p.length:Int)+0) (by omega),Int.add_zero,vW _ _ (by simp)];have aR:gC (p++c::q) (IntKind.i64.wrap ((p.length:Int)+([c].length:Int))) ((p++c::q).length:Int)=some q:=by
   rw[fk _ (by simp;omega)];have:=KD (p++[c]) q [] (i:=((p.length:Int)+([c].length:Int))) (j:=(((p++c::q).length:Nat):Int)) (by simp) (by simp;omega);simpa using this
  rw[Option.bind_some,List.take_left' rfl,show List.replicate (k+1+1) ([]:axa)=[]::List.replicate (k+1) []from rfl,Y8,Option.bind_some,aR,Option.bind_some,Int.toNat_natCast,Y7,fk ((d.length:Int)+1) (by omega)];have aqg:q.count c=k:=by
   rw[List.count_append,List.count_cons_self,List.count_eq_zero.2 ax]at aQ;omega
  have:=ih q (d++[p]) aqg (by simp;omega) (by omega) m (by omega);simp only[List.append_assoc,List.singleton_append,List.length_append,List.length_cons,List.length_nil]at this;rw[Rg c p q ax,<-this];congr 1
theorem aqh (c:UInt8) (s:axa) (aa:s.length<=1048576):Jw s [c]=some (lL c s):=by
 have ar:s.count c<=s.length:=List.count_le_length;unfold Jw Pm Pk Ph Jv;have aN:((-1:Int)==0)=false:=by decide
 have aU:([c]==([]:axa))=false:=rfl;have aR:decide ((-1:Int)<0)=true:=by decide
 have bW:(([c].length:Int)==0)=false:=rfl;have cM:(([c].length:Int)==1)=true:=rfl;rw[aN,aU,aR,bW,cM];simp only[cond_false,cond_true,GI,Option.bind_some];rw[fk ((s.count c:Int)+1) (by omega),fk ((s.length:Int)+1) (by omega)];have hm:kH false ((s.count c:Int)+1) ((s.length:Int)+1)=((s.count c+1:Nat):Int):=by
  unfold kH;simp;omega
 have au:nr 16 ((s.count c+1:Nat):Int)=some ():=by
  unfold nr;rw[if_pos ⟨by omega,by omega,by omega⟩]
 have aC:b6 (λn=>zn s [c] 0 ((s.count c:Int)+1) n s (List.replicate (s.count c+1) []) 0)=some (lL c s):=by
  refine fa (s.count c+1) λm hm=>?_;have:=aqf c s aa (s.count c+1) rfl (s.count c) s [] rfl (by simp) (Nat.le_refl _) m (by omega);simpa using this
 rw[hm,au];simp only[Option.bind_some,Int.toNat_natCast];rw[aC];rfl
theorem aqi (c:UInt8) (s:axa) (aa:s.length<=1048576):IQ s c=some (lL c s):=by
 have key:∀i,i<=s.length->∀m,s.length-i<m->∀(v:awZ) (f:Nat),f<=i->v.length<=i->
   y8 s c m v (f:Int) (i:Int)=some (v++glue ((s.take i).drop f) (lL c (s.drop i))):=by
  refine down s.length ?_ ?_
  .intro m hm v f bF aE;obtain⟨m,rfl⟩:∃j,m=j+1:=⟨m-1,by omega⟩
   simp only[y8,Oi];rw[eL (Nat.le_refl _),cond_false];have e:gC s (f:Int) (s.length:Int)=some (s.drop f):=by
    unfold gC;rw[if_pos ⟨by omega,by omega,by omega⟩];simp
   rw[e,Option.bind_some,lK (by omega) (by omega),Option.bind_some,List.take_length,List.drop_length];simp[lL,glue]
  .intro i ag ih m hm v f bF aE;obtain⟨m,rfl⟩:∃j,m=j+1:=⟨m-1,by omega⟩
   simp only[y8,Oi,IP];rw[el ag,cond_true,dM s i ag,Option.bind_some,drop_cons s i ag];simp only[lL];by_cases ar:s[i]=c
   .have e:((s[i].toNat:Int)==(c.toNat:Int))=true:=by rw[ar];simp
    have aU:gC s (f:Int) (i:Int)=some ((s.take i).drop f):=by
     unfold gC;rw[if_pos ⟨by omega,by omega,by omega⟩];simp
    rw[e,cond_true,aU,Option.bind_some,lK (by omega) (by omega),Option.bind_some,if_pos ar,d_ i s.length ag (by omega),ih m (by omega) _ (i+1) (Nat.le_refl _) (by simp;omega)];rw[List.drop_of_length_le (l:=List.take (i+1) s) (by rw[List.length_take];omega),Y0 (Y1 _ _)];simp[glue]
   .have e:((s[i].toNat:Int)==(c.toNat:Int))=false:=by
     simp only[beq_eq_false_iff_ne,ne_eq];intro h;exact ar (UInt8.toNat_inj.1 (by omega))
    rw[e,cond_false,if_neg ar,d_ i s.length ag (by omega),ih m (by omega) _ f (by omega) (by omega),ap8];congr 3;rw[List.take_succ_eq_append_getElem ag,List.drop_append_of_le_length (by simp;omega)]
 unfold IQ;refine fa (s.length+1) λm hm=>?_;have:=key 0 (by omega) m (by omega) [] 0 (Nat.le_refl _) (zero_le _);simpa [Y0 (Y1 c s)]using this
theorem aqj:∀d:Fin 10,IntKind.i64.wrap (IntKind.u8.wrap (((48+d.val:Nat):Int)-48))=((d.val:Nat):Int):=by decide
theorem u8_in:∀c:UInt8,gQ c=true->IntKind.i64.wrap (IntKind.u8.wrap ((c.toNat:Int)-48))=((c.toNat-48:Nat):Int):=by
 intro c h;simp only[gQ,Bool.and_eq_true,decide_eq_true_eq]at h;have:=aqj ⟨c.toNat-48,by omega⟩;simp only at this
 rwa [show 48+(c.toNat-48)=c.toNat by omega]at this
theorem aqk (c:UInt8):Ba c=some (gQ c):=by
 unfold Ba gQ;congr 2
 .rw[decide_eq_decide];omega
 .rw[decide_eq_decide];omega
def np (n:Nat) (d:axa):Nat:=d.foldl (λn c=>10*n+(c.toNat-48)) n
theorem Y_:∀(d:axa) (n k:Nat),d.all gQ=true->n<10^k->np n d<10^(k+d.length)
 |[],n,k,_,h=>by simpa [np]using h
 |c::r,n,k,al,h=>by
  simp only[List.all_cons,Bool.and_eq_true]at al;have ar:=al.1;simp only[gQ,Bool.and_eq_true,decide_eq_true_eq]at ar;have:=Y_ r (10*n+(c.toNat-48)) (k+1) al.2 (by rw[Nat.pow_succ];omega);rw[List.length_cons,show k+(r.length+1)=k+1+r.length by omega];exact this
theorem Za (s:axa) (a:Int) (aa:s.length<=1048576):∀(d:axa) (i n k:Nat),s.drop i=d->i<=s.length->n<10^k->k+d.length<=18->∀m,d.length<m->
  vr s a m (n:Int) (i:Int)=some (if d.all gQ=true then(if a=1 then-(np n d:Int)else np n d,true)else(0,false))
 |[],i,n,k,al,ag,aS,au,m,hm=>by
  obtain⟨m,rfl⟩:∃j,m=j+1:=⟨m-1,by simp at hm;omega⟩
  have aql:i=s.length:=by
   have:=congrArg List.length al;rw[List.length_drop]at this;simp at this;omega
  subst aql;have wT:n<10^18:=Nat.lt_of_lt_of_le aS (Nat.pow_le_pow_right (by omega) (by simpa using au));simp only[vr,Oj,Fa];rw[eL (Nat.le_refl _),cond_false];by_cases bl:a=1
  .subst bl;simp only[BEq.rfl,cond_true];rw[fk _ (by omega)];simp[np]
  .have:(a==1)=false:=by simpa using bl
   rw[this,cond_false];simp[np,bl]
 |c::r,i,n,k,al,ag,aS,au,m,hm=>by
  obtain⟨m,rfl⟩:∃j,m=j+1:=⟨m-1,by simp at hm;omega⟩
  have v_:i<s.length:=by
   have:=congrArg List.length al;rw[List.length_drop]at this;simp at this;omega
  rw[drop_cons s i v_]at al;injection al with ad ae;simp only[List.length_cons]at au hm;have wT:n<10^17:=Nat.lt_of_lt_of_le aS (Nat.pow_le_pow_right (by omega) (by omega));simp only[vr,Oj];rw[el v_,cond_true,dM s i v_,Option.bind_some,ad,aqk,Option.bind_some,List.all_cons];cases ar:gQ c
  .simp
  .have CS:=ar;simp only[gQ,Bool.and_eq_true,decide_eq_true_eq]at CS;simp only[Bool.not_true,cond_false,Bool.true_and];rw[u8_in c ar,fk (10*(n:Int)) (by omega),fk _ (by omega),d_ i s.length v_ (by omega),show(10*(n:Int)+((c.toNat-48:Nat):Int))=((10*n+(c.toNat-48):Nat):Int) by omega];exact Za s a aa r (i+1) (10*n+(c.toNat-48)) (k+1) ae v_ (by rw[Nat.pow_succ];omega) (by omega) m (by omega)
theorem Rh (s:axa) (k:Nat) (aa:s.length<=1048576) (au:k<=1) (aC:k<=s.length):BF s (k:Int)=some (pL k (s.drop k)):=by
 unfold BF pL;by_cases bb:s.length=k
 .have e:((s.length:Int)==(k:Int))=true:=by simp;omega
  rw[e,cond_true,List.drop_of_length_le (by omega)];simp
 have e:((s.length:Int)==(k:Int))=false:=by simp;omega
 rw[e,cond_false,fk _ (by omega)];have Zb:(s.drop k).length=s.length-k:=List.length_drop;have dQ:s.drop k≠[]:=by
  intro h;rw[h]at Zb;simp at Zb;omega
 by_cases ad:18<s.length-k
 .have e:decide (18<(s.length:Int)-(k:Int))=true:=by simp;omega
  rw[e,cond_true,if_neg (by intro h;omega)]
 have e:decide (18<(s.length:Int)-(k:Int))=false:=by simp;omega
 have Em:k<s.length:=by omega
 rw[e,cond_false,dM s k Em,Option.bind_some];have lQ:(s.drop k).head? =some s[k]:=by rw[drop_cons s k Em];rfl
 have Zc:b6 (λn=>vr s (k:Int) n 0 (k:Int))=some (if(s.drop k).all gQ=true then(if(k:Int)=1 then-(np 0 (s.drop k):Int)else np 0 (s.drop k),true)else(0,false)):=by
  refine fa (s.length+1) λm hm=>?_;exact Za s (k:Int) aa (s.drop k) k 0 0 rfl aC (by omega) (by omega) m (by omega)
 have aE:mN (s.drop k)=np 0 (s.drop k):=rfl;have tJ:((k:Int)=1)=(k=1):=by apply propext;omega
 simp only[tJ]at Zc;rw[Zc,lQ,aE];by_cases og:s[k]=48
 .have e:((s[k].toNat:Int)==48)=true:=by rw[og];rfl
  rw[e,cond_true];by_cases ae:1<s.length
  .have e:decide ((1:Int)<(s.length:Int))=true:=by simp;omega
   rw[e,cond_true,if_neg (by intro h;exact h.2.2.2 ⟨by rw[og],by omega⟩)]
  .have e:decide ((1:Int)<(s.length:Int))=false:=by simp;omega
   rw[e,cond_false];by_cases bl:(s.drop k).all gQ=true
   .rw[if_pos bl,if_pos (show s.drop k≠[]/\(s.drop k).length<=18/\(s.drop k).all gQ=true/\¬(some s[k]=some 48/\1<(s.drop k).length+k)from⟨dQ,by omega,bl,by rintro⟨_,h⟩;omega⟩)]
   .rw[if_neg bl,if_neg (λh=>bl h.2.2.1)]
 .have e:((s[k].toNat:Int)==48)=false:=by
   simp only[beq_eq_false_iff_ne,ne_eq];intro h;exact og (UInt8.toNat_inj.1 (by rw[show(48:UInt8).toNat=48 from rfl];omega))
  rw[e,cond_false];by_cases bl:(s.drop k).all gQ=true
  .rw[if_pos bl,if_pos (show s.drop k≠[]/\(s.drop k).length<=18/\(s.drop k).all gQ=true/\¬(some s[k]=some 48/\1<(s.drop k).length+k)from⟨dQ,by omega,bl,by rintro⟨h,_⟩;exact og (Option.some.inj h)⟩)]
  .rw[if_neg bl,if_neg (λh=>bl h.2.2.1)]
theorem aqm (s:axa) (aa:s.length<=1048576):IU s=some (jV s):=by
 unfold IU jV;cases s with
 |nil=>exact Rh [] 0 (by simp) (by omega) (by simp)
 |cons c r=>
  rw[show decide ((0:Int)<(((c::r).length:Nat):Int))=true from zO (by simp),cond_true,GI,Option.bind_some];by_cases h:c=45
  .subst h;have e:(((45:UInt8).toNat:Int)==45)=true:=rfl;rw[e,cond_true,if_pos (show(45::r).head? =some 45 from rfl)];exact Rh (45::r) 1 aa (by omega) (by simp)
  .have e:((c.toNat:Int)==45)=false:=by
    simp only[beq_eq_false_iff_ne,ne_eq];intro bB;exact h (UInt8.toNat_inj.1 (by rw[show(45:UInt8).toNat=45 from rfl];omega))
   rw[e,cond_false,if_neg (by intro bB;exact h (Option.some.inj bB))];exact Rh (c::r) 0 aa (by omega) (by simp)
theorem Zd:∀c:UInt8,gQ c=true->UInt8.ofNat (48+(c.toNat-48))=c:=by
 intro c h;simp only[gQ,Bool.and_eq_true,decide_eq_true_eq]at h;rw[show 48+(c.toNat-48)=c.toNat by omega];exact UInt8.ofNat_toNat
def GO:Lib.NumEnd Nat:=Lib.parseUintB 64 []
theorem Ze:∀(d:axa) (n k:Nat),n<10^k->k+d.length<=18->Lib.parseUintM 18446744073709551615 n d=if d.all gQ=true then .ok (np n d)else GO
 |[],n,k,_,_=>by simp[Lib.parseUintM,np]
 |c::r,n,k,aS,au=>by
  simp only[List.length_cons]at au;have wT:n<10^17:=Nat.lt_of_lt_of_le aS (Nat.pow_le_pow_right (by omega) (by omega));simp only[Lib.parseUintM];have mY:(c::r).all gQ=(gQ c&&r.all gQ):=rfl;by_cases ar:gQ c=true
  .have CS:=ar;simp only[gQ,Bool.and_eq_true,decide_eq_true_eq]at CS;have Ri:(c::r).all gQ=r.all gQ:=by rw[mY,ar];rfl
   rw[if_pos CS,if_neg (by omega),if_neg (by omega),Ri,show n*10+(c.toNat-48)=10*n+(c.toNat-48) by omega,Ze r _ (k+1) (by rw[Nat.pow_succ];omega) (by omega)];rfl
  .have CS:¬(48<=c.toNat/\c.toNat<=57):=λh=>ar (by simp only[gQ,Bool.and_eq_true,decide_eq_true_eq];exact h);have aqn:gQ c=false:=by simpa using ar
   have Ri:(c::r).all gQ=false:=by rw[mY,aqn];rfl
   rw[if_neg CS,Ri];simp;rfl
theorem aqo (n x:Nat) (aS:1<=n) (an:x<=9):Lib.decDigits (10*n+x)=Lib.decDigits n++[UInt8.ofNat (48+x)]:=by
 rw[Lib.decDigits,dif_neg (by omega),show(10*n+x)/10=n by omega,show(10*n+x)%10=x by omega]
theorem Zf:∀(d:axa) (n:Nat),1<=n->d.all gQ=true->Lib.decDigits (np n d)=Lib.decDigits n++d
 |[],n,_,_=>by simp[np]
 |c::r,n,aS,al=>by
  simp only[List.all_cons,Bool.and_eq_true]at al;have ar:=al.1;have e:=Zd c al.1;simp only[gQ,Bool.and_eq_true,decide_eq_true_eq]at ar;show Lib.decDigits (np (10*n+(c.toNat-48)) r)=_;rw[Zf r _ (by omega) al.2,aqo n (c.toNat-48) aS (by omega),e];simp
theorem Rj (u:Nat):∃c t,Lib.decDigits u=c::t/\gQ c=true/\(1<=u->c≠48):=by
 induction u using Nat.strongRecOn with
 |_ u ih=>
  rw[Lib.decDigits];by_cases h:u<10
  .rw[dif_pos h];refine⟨_,_,rfl,?_,?_⟩
   .have:∀i:Fin 10,gQ (UInt8.ofNat (48+i.val))=true:=by decide
    exact this ⟨u,h⟩
   .have:∀i:Fin 10,1<=i.val->UInt8.ofNat (48+i.val)≠48:=by decide
    exact this ⟨u,h⟩
  .rw[dif_neg h];obtain⟨c,t,ad,ae,aI⟩:=ih (u/10) (by omega);exact⟨c,t++_,by rw[ad];rfl,ae,λ_=>aI (by omega)⟩
theorem Zg (c:UInt8) (r:axa) (al:(c::r).all gQ=true):Lib.decDigits (mN (c::r))=c::r↔(c≠48\/r=[]):=by
 simp only[List.all_cons,Bool.and_eq_true]at al;have ar:=al.1;have e:=Zd c al.1;simp only[gQ,Bool.and_eq_true,decide_eq_true_eq]at ar;have aE:mN (c::r)=np (c.toNat-48) r:=by
  show np (10*0+(c.toNat-48)) r=_;rw[Nat.mul_zero,Nat.zero_add]
 rw[aE];by_cases og:c=48
 .subst og;constructor
  .intro h;cases r with
   |nil=>exact .inr rfl
   |cons x t=>
    exfalso;obtain⟨Hw,Nu,ad,ae,aI⟩:=Rj (np ((48:UInt8).toNat-48) (x::t));rw[ad]at h;injection h with bc bY;by_cases dt:1<=np ((48:UInt8).toNat-48) (x::t)
    .exact aI dt bc
    .have bb:np ((48:UInt8).toNat-48) (x::t)=0:=by omega
     rw[bb,Lib.decDigits,dif_pos (by omega)]at ad;injection ad with _ dv;rw[<-dv]at bY;cases bY
  .rintro(h|rfl)
   .exact(h rfl).elim
   .show Lib.decDigits 0=_;rw[Lib.decDigits,dif_pos (by omega)];rfl
 .have ad:1<=c.toNat-48:=by
   rcases Nat.lt_or_ge 48 c.toNat with h|h
   .omega
   .exact(og (UInt8.toNat_inj.1 (by rw[show(48:UInt8).toNat=48 from rfl];omega))).elim
  refine⟨λ_=>.inl og,λ_=>?_⟩;rw[Zf r _ ad al.2,Lib.decDigits,dif_pos (by omega),e];rfl
theorem Rk (d:axa) (h:d.all gQ=true) (aC:d.length<=18):mN d<10^18:=by
 have:=Y_ d 0 0 h (by omega);have ae:(10:Nat)^(0+d.length)<=10^18:=Nat.pow_le_pow_right (by omega) (by omega);exact Nat.lt_of_lt_of_le this ae
theorem Rl (d:axa) (aC:d.length<=18):Lib.parseUintB 64 d=if d≠[]/\d.all gQ=true then .ok (mN d)else GO:=by
 unfold Lib.parseUintB;by_cases h:d=[]
 .rw[if_pos h,if_neg (λbB=>bB.1 h)];rfl
 .rw[if_neg h,show(2^64-1:Nat)=18446744073709551615 from rfl,Ze d 0 0 (by omega) (by omega)];by_cases al:d.all gQ=true
  .rw[if_pos al,if_pos ⟨h,al⟩];rfl
  .rw[if_neg al,if_neg (λbB=>al bB.2)]
def uE (s:axa):Int×Bool:=match Lib.parseIntB 64 s with
 | .ok v=>if Lib.itoa v=s then(v,true)else(0,false)
 |_=>(0,false)
theorem Rm {k:Nat} {d:axa} (h:¬(d≠[]/\d.all gQ=true)):pL k d=(0,false):=by
 unfold pL;rw[if_neg (λbB=>h ⟨bB.1,bB.2.2.1⟩)]
theorem Zh {k:Nat} {d:axa} (ad:d.head? =some 48) (ae:1<d.length+k):pL k d=(0,false):=by
 unfold pL;rw[if_neg (λbB=>bB.2.2.2 ⟨ad,ae⟩)]
theorem Zi {k:Nat} {d:axa} (h:d≠[]/\d.length<=18/\d.all gQ=true/\¬(d.head? =some 48/\1<d.length+k)):pL k d=(if k=1 then-(mN d:Int)else mN d,true):=by
 unfold pL;rw[if_pos h]
theorem akZ (s:axa) (h:(if s.head? =some 45 then s.tail else s).length<=18):Lib.parseIntB 64 s≠.range/\uE s=jV s:=by
 unfold uE jV;cases s with
 |nil=>exact⟨by simp[Lib.parseIntB],by simp[Lib.parseIntB,pL]⟩
 |cons c r=>
  by_cases Rn:c=45
  .subst Rn;rw[if_pos (show(45::r).head? =some 45 from rfl)]at h⊢;simp only[List.tail_cons]at h⊢;have CB:(45:UInt8).toNat=45:=rfl;simp only[Lib.parseIntB,CB,or_true,if_true];rw[Rl r h];by_cases aQ:r≠[]/\r.all gQ=true
   .rw[if_pos aQ];have eB:=Rk r aQ.2 h;have yt:(2:Nat)^(64-1)=9223372036854775808:=by decide
    simp only[not_true,false_and,if_false,yt,true_and];rw[if_neg (by omega)];refine⟨by simp,?_⟩;simp only;obtain⟨x,t,rfl⟩:∃x t,r=x::t:=by
     cases r with
     |nil=>exact(aQ.1 rfl).elim
     |cons x t=>exact⟨x,t,rfl⟩
    have GP:=Zg x t aQ.2;by_cases og:x=48
    .rw[Zh (by rw[og];rfl) (by simp)];rw[if_neg];intro ag;by_cases bb:mN (x::t)=0
     .rw[bb]at ag;have j3:Lib.decDigits 0=[48]:=by rw[Lib.decDigits,dif_pos (by omega)];rfl
      simp[Lib.itoa,j3]at ag
     .unfold Lib.itoa at ag;rw[if_pos (by omega)]at ag;injection ag with _ ag;rw[show(-(mN (x::t):Int)).natAbs=mN (x::t) by omega]at ag;obtain⟨Hw,Nu,hj,gO,iJ⟩:=Rj (mN (x::t));rw[hj]at ag;injection ag with D2 _;exact iJ (by omega) (D2.trans og)
    .have aeK:1<=mN (x::t):=by
      have:=(GP.2 (.inl og))
      rcases eq_zero_or_pos (mN (x::t))with bb|bb
      .rw[bb,Lib.decDigits,dif_pos (by omega)]at this;injection this with this _;exact(og this.symm).elim
      .exact bb
     rw[Zi ⟨by simp,h,aQ.2,λbB=>og (Option.some.inj bB.1)⟩];rw[if_pos]
     .simp
     .unfold Lib.itoa;rw[if_pos (by omega),show(-(mN (x::t):Int)).natAbs=mN (x::t) by omega,GP.2 (.inl og)]
   .rw[if_neg aQ,Rm aQ];exact⟨by simp[GO,Lib.parseUintB],rfl⟩
  .have lQ:¬((c::r).head? =some 45):=λe=>Rn (Option.some.inj e);rw[if_neg lQ]at h⊢;have QW:c.toNat≠45:=λe=>Rn (UInt8.toNat_inj.1 (by rw[show(45:UInt8).toNat=45 from rfl];exact e));have yt:(2:Nat)^(64-1)=9223372036854775808:=by decide
   by_cases Zj:c.toNat=43
   .simp only[Lib.parseIntB,Zj,true_or,if_true];have Zk:r.length<=18:=by simp at h;omega
    rw[Rl r Zk];have ns:pL 0 (c::r)=(0,false):=Rm λbB=>by
     have:=bB.2;simp only[List.all_cons,Bool.and_eq_true]at this;have:=this.1;simp only[gQ,Bool.and_eq_true,decide_eq_true_eq]at this;omega
    rw[ns];by_cases aQ:r≠[]/\r.all gQ=true
    .rw[if_pos aQ];have eB:=Rk r aQ.2 Zk;simp only[show¬((43:Nat)=45)from by decide,not_false_eq_true,true_and,false_and,if_false,yt];rw[if_neg (by omega)];refine⟨by simp,?_⟩;simp only;rw[if_neg];intro ag;unfold Lib.itoa at ag;rw[if_neg (by omega),Int.toNat_natCast]at ag;obtain⟨Hw,Nu,hj,gO,_⟩:=Rj (mN r);rw[hj]at ag;injection ag with ag _;rw[ag]at gO;simp only[gQ,Bool.and_eq_true,decide_eq_true_eq]at gO;omega
    .rw[if_neg aQ];exact⟨by simp[GO,Lib.parseUintB],rfl⟩
   .simp only[Lib.parseIntB,Zj,QW,or_self,if_false];rw[Rl (c::r) h];by_cases aQ:(c::r)≠[]/\(c::r).all gQ=true
    .rw[if_pos aQ];have eB:=Rk (c::r) aQ.2 h;simp only[not_false_eq_true,true_and,false_and,if_false,yt];rw[if_neg (by omega)];refine⟨by simp,?_⟩;simp only;have GP:=Zg c r aQ.2;have aqp:Lib.itoa (mN (c::r):Int)=Lib.decDigits (mN (c::r)):=by
      unfold Lib.itoa;rw[if_neg (by omega),Int.toNat_natCast]
     rw[aqp];by_cases GQ:c≠48\/r=[]
     .rw[if_pos (GP.2 GQ),Zi ⟨by simp,h,aQ.2,λbB=>by
       rcases GQ with ad|ad
       .exact ad (Option.some.inj bB.1)
       .subst ad;simp at bB⟩]
      simp
     .have og:c=48:=by
       by_cases q:c=48
       .exact q
       .exact(GQ (.inl q)).elim
      have dQ:r≠[]:=λq=>GQ (.inr q);rw[if_neg (λbB=>GQ (GP.1 bB)),Zh (by rw[og];rfl) (by
       cases r with
       |nil=>exact(dQ rfl).elim
       |cons x t=>simp)]
    .rw[if_neg aQ,Rm aQ];exact⟨by simp[GO,Lib.parseUintB],rfl⟩
end Go.lZ
