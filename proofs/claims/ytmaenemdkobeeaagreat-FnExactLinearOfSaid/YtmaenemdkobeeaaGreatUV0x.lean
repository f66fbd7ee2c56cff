/- Part of a proof that a law returns true for every input. No condition. -/
import Derived.Test.YtmaenemdkobeeaaGreatFwA
import Derived.IntWalk
import GoSem.Op.String
import Derived.Test.YtmaenemdkobeeaaGreatP3
namespace Go.mc
open Option Nat Or
open Go Go.ek
theorem fl (n:Int) (h: -9223372036854775808<=n/\n<=9223372036854775807):IntKind.i64.wrap n=n:=IntWalk.i64_in n h
theorem lT {α:Type} (a:List α) (i:Nat) (d:α) (h:i<a.length):a_ a (i:Int)=some (a.getD i d):=by
 rw[PD (by omega) (by simpa using h)];simp[List.getD,h]
theorem er {α:Type} (a:List α) (i:Nat) (h:i<a.length):a_ a (i:Int)=some a[i]:=by
 rw[PD (by omega) (by simpa using h)];rfl
theorem Vt {α:Type} (a:List α) (n:Nat) (h:n<=a.length):jY a 0 (n:Int)=some (a.take n):=by
 unfold jY;rw[if_pos (by omega)];simp
theorem et (i n:Nat) (h:i<n) (aZ:n<=4611686018427387904):IntKind.i64.wrap ((i:Int)+1)=((i+1:Nat):Int):=by
 rw[fl _ (by omega)];omega
theorem eI {i n:Nat} (h:i<n):decide ((i:Int)<(n:Int))=true:=by simp;omega
theorem dX {i n:Nat} (h:n<=i):decide ((i:Int)<(n:Int))=false:=by simp;omega
theorem HW {α:Type} (c:α) (r:List α):a_ (c::r) 0=some c:=rfl
theorem xP {n:Nat} (h:0<n):decide ((0:Int)<(n:Int))=true:=by simp;omega
theorem Vu:IntKind.i64.wrap (0+1)=1:=by decide
theorem down (n:Nat) {P:Nat->Prop} (a5:P n) (ad:∀i,i<n->P (i+1)->P i):∀i,i<=n->P i:=by
 have key:∀d,d<=n->P (n-d):=by
  intro d;induction d with
  |zero=>intro _;exact a5
  |succ d ih=>
   intro ak;have:=ih (by omega);refine ad _ (by omega) ?_;rw[show n-(d+1)+1=n-d by omega];exact this
 intro i al;have:=key (n-i) (by omega)
 rwa [show n-(n-i)=i by omega]at this
theorem up {β:Type} {l:Nat->Int->Option β} {n:Nat} (F:Nat->Option β) (a5:∀m,l (m+1) (n:Int)=F n)
  (ad:∀i,i<n->∀m,(l m ((i+1:Nat):Int)=F (i+1))->l (m+1) (i:Int)=F i):∀i,i<=n->∀m,n-i<m->l m (i:Int)=F i:=by
 refine down n ?_ ?_
 .intro m hm;obtain⟨k,rfl⟩:∃k,m=k+1:=⟨m-1,by omega⟩
  exact a5 k
 .intro i al ih m hm;obtain⟨k,rfl⟩:∃k,m=k+1:=⟨m-1,by omega⟩
  exact ad i al k (ih k (by omega))
theorem vE {β:Type} {l:Nat->Int->Option β} {n:Nat} (F:Nat->Option β) (a5:∀m,l (m+1) (n:Int)=F n)
  (ad:∀i,i<n->∀m,(l m ((i+1:Nat):Int)=F (i+1))->l (m+1) (i:Int)=F i):bU (λm=>l m 0)=F 0:=
 fO (n+1) λm hm=>up F a5 ad 0 (by omega) m (by omega)
theorem drop_cons {α:Type} (a:List α) (i:Nat) (h:i<a.length):a.drop i=a[i]::a.drop (i+1):=List.drop_eq_getElem_cons h
def iT (n:Int) (s:Nat):Int:=if(s:Int)<=n then n-s else-1
theorem HX {n:Int} {s:Nat} (h:(s:Int)<=n):iT n s=n-s:=if_pos h
theorem HY {n:Int} {s:Nat} (h:n<s):iT n s= -1:=if_neg (by omega)
theorem al1 {n:Int} (h:0<=n):iT n 0=n:=by rw[HX (by simpa using h)];simp
theorem uh {f:arJ} {k:Int->arJ} {n:Int} {s t:Nat} (bo:f=some (iT n s)) (ao:(s:Int)<=n->k (n-s)=some (iT (n-s) t)):
  (f.bind λx=>cond (decide (x<0)) (some (-1)) (k x))=some (iT n (s+t)):=by
 rw[bo];simp only[bind_some];by_cases h:(s:Int)<=n
 .rw[HX h];have:decide (n-(s:Int)<0)=false:=by simp;omega
  rw[this,cond_false,ao h];congr 1;unfold iT;by_cases ag:(t:Int)<=n-s
  .rw[if_pos ag,if_pos (by omega)];omega
  .rw[if_neg ag,if_neg (by omega)]
 .rw[HY (by omega)];have:decide ((-1:Int)<0)=true:=by decide
  rw[this,cond_true,HY (by omega)]
theorem o1 {K:arJ} {n:Int} {s t:Nat} (ad:s<=9223372036854775807) (a5:0<=n) (aZ:n<=1048576) (ao:(s:Int)<=n->K=some (iT (n-s) t)):
  cond (decide (IntKind.i64.wrap (n-(s:Int))<0)) (some (-1)) K=some (iT n (s+t)):=by
 rw[fl _ (by omega)];by_cases h:(s:Int)<=n
 .have:decide (n-(s:Int)<0)=false:=by simp;omega
  rw[this,cond_false,ao h];congr 1;unfold iT;by_cases ag:(t:Int)<=n-s
  .rw[if_pos ag,if_pos (by omega)];omega
  .rw[if_neg ag,if_neg (by omega)]
 .have:decide (n-(s:Int)<0)=true:=by simp;omega
  rw[this,cond_true,HY (by omega)]
theorem vF {n:Int} (h:0<=n):some n=some (iT n 0):=by rw[al1 h]
def fV {α:Type} (f:α->Nat):List α->Nat
 |[]=>0
 |x::r=>f x+fV f r
theorem Vv {α:Type} {f:α->Nat}:∀{l:List α} {x:α},x∈l->f x<=fV f l
 |y::r,x,h=>by
  simp only[fV];rcases List.mem_cons.1 h with rfl|h
  .omega
  .have:=Vv (f:=f) h;omega
theorem Vw {α β:Type} {f:β->Nat} {g:α->β}:∀l:List α,fV f (l.map g)=fV (λx=>f (g x)) l
 |[]=>rfl
 |x::r=>by simp only[List.map_cons,fV,Vw r]
def ea {α:Type} (f:α->Nat) (l:List α):Nat:=l.length+fV f l
theorem DT {α β:Type} (f:β->Nat) (g:α->β) (l:List α):ea f (l.map g)=ea (λx=>f (g x)) l:=by simp only[ea,List.length_map,Vw]
theorem jJ {α:Type} (f:α->Nat) (l:List α):l.length<=ea f l:=le_add_right _ _
theorem mL {α:Type} {f:α->Nat} {l:List α} {x:α} (h:x∈l):f x<=ea f l:=Nat.le_trans (Vv h) (le_add_left _ _)
theorem Vx {α:Type} {l:Nat->Int->Int->arJ} {B:α->Int->(Int->arJ)->arJ} (sz:α->Nat) (a:List α)
  (mM:∀m n i,l (m+1) n i=cond (decide (i<(a.length:Int))) ((a_ a i).bind λx=>B x n λy=>l m y (IntKind.i64.wrap (i+1))) (some n))
  (bo:∀x∈a,∀(n:Int) (k:Int->arJ) (t:Nat),0<=n->n<=1048576->((sz x:Int)<=n->k (n-sz x)=some (iT (n-sz x) t))->B x n k=some (iT n (sz x+t)))
  (b6:a.length<=1048576) (n:Int) (a5:0<=n) (aZ:n<=1048576):bU (λm=>l m n 0)=some (iT n (fV sz a)):=by
 have key:∀i,i<=a.length->∀n:Int,0<=n->n<=1048576->∀m,a.length-i<m->l m n (i:Int)=some (iT n (fV sz (a.drop i))):=by
  refine down a.length ?_ ?_
  .intro n a5 _ m hm;obtain⟨k,rfl⟩:∃k,m=k+1:=⟨m-1,by omega⟩
   rw[mM,dX (Nat.le_refl _),cond_false,List.drop_of_length_le (Nat.le_refl _)];exact vF a5
  .intro i al ih n a5 aZ m hm;obtain⟨k,rfl⟩:∃k,m=k+1:=⟨m-1,by omega⟩
   rw[mM,eI al,cond_true,er _ i al,et i _ al (by omega),drop_cons a i al];simp only[bind_some,fV];exact bo _ (List.getElem_mem al) n _ _ a5 aZ λh=>ih _ (by omega) (by omega) k (by omega)
 refine fO (a.length+1) λm hm=>?_;have:=key 0 (by omega) n a5 aZ m (by omega);simpa using this
theorem DU {α:Type} {l:Nat->Int->Int->arJ} {f:α->Int->arJ} (sz:α->Nat) (a:List α)
  (mM:∀m n i,l (m+1) n i=cond (decide (i<(a.length:Int))) ((a_ a i).bind λx=>(f x n).bind λy=>cond (decide (y<0)) (some (-1)) (l m y (IntKind.i64.wrap (i+1)))) (some n))
  (bo:∀x∈a,∀n:Int,0<=n->n<=1048576->f x n=some (iT n (sz x))) (b6:a.length<=1048576) (n:Int) (a5:0<=n) (aZ:n<=1048576):bU (λm=>l m n 0)=some (iT n (fV sz a)):=
 Vx (B:=λx n k=>(f x n).bind λy=>cond (decide (y<0)) (some (-1)) (k y)) sz a mM (λx ay n _ _ a5 aZ ao=>uh (bo x ay n a5 aZ) ao) b6 n a5 aZ
theorem al2 {l:Nat->Int->Int->arJ} (a:arD)
  (mM:∀m n i,l (m+1) n i=cond (decide (i<(a.length:Int))) ((a_ a i).bind λx=>cond (decide (IntKind.i64.wrap (n-(x.length:Int))<0)) (some (-1)) (l m (IntKind.i64.wrap (n-(x.length:Int))) (IntKind.i64.wrap (i+1)))) (some n))
  (bo:∀x∈a,x.length<=9223372036854775807) (b6:a.length<=1048576) (n:Int) (a5:0<=n) (aZ:n<=1048576):bU (λm=>l m n 0)=some (iT n (fV List.length a)):=
 Vx (B:=λx n k=>cond (decide (IntKind.i64.wrap (n-(x.length:Int))<0)) (some (-1)) (k (IntKind.i64.wrap (n-(x.length:Int))))) List.length a (by intro m n i;rw[mM]) (by
  intro x ay n k t a5 aZ ao;have hl:=bo x ay;refine o1 hl a5 aZ λh=>?_;have e:IntKind.i64.wrap (n-(x.length:Int))=n-(x.length:Int):=fl _ (by omega);rw[e];exact ao h) b6 n a5 aZ
theorem vG {α β:Type} {l:Nat->List β->Int->Option (List β)} {f:α->Option β} (g:α->β) (a:List α) (z:β)
  (mM:∀m v i,l (m+1) v i=cond (decide (i<(a.length:Int))) ((a_ a i).bind λx=>(f x).bind λy=>(a_ v i).bind λ_=>l m (List.set v (Int.toNat i) y) (IntKind.i64.wrap (i+1))) (some v))
  (bo:∀x∈a,f x=some (g x)) (b6:a.length<=1048576):bU (λm=>l m (List.replicate (Int.toNat (a.length:Int)) z) 0)=some (a.map g):=by
 have key:∀i,i<=a.length->∀(v:List β) m,v.length=a.length->a.length-i<m->l m v (i:Int)=some (v.take i++(a.drop i).map g):=by
  refine down a.length ?_ ?_
  .intro v m aE hm;obtain⟨k,rfl⟩:∃k,m=k+1:=⟨m-1,by omega⟩
   rw[mM,dX (Nat.le_refl _)];simp[<-aE]
  .intro i al ih v m aE hm;obtain⟨k,rfl⟩:∃k,m=k+1:=⟨m-1,by omega⟩
   rw[mM,eI al,er _ i al,et i _ al (by omega)];simp only[cond_true,bind_some,bo _ (List.getElem_mem al)];rw[er v i (by omega)];simp only[bind_some,Int.toNat_natCast];rw[ih _ k (by simp[aE]) (by omega),drop_cons a i al,List.map_cons,List.take_set,List.take_succ_eq_append_getElem (by omega),List.set_append_right _ _ (by simp;omega)];simp[show min i v.length=i by omega]
 refine fO (a.length+1) λm hm=>?_;have:=key 0 (by omega) (List.replicate (Int.toNat (a.length:Int)) z) m (by simp) (by omega);simpa using this
theorem ui (b:Nat) {n:Nat} (h:n<=1048576) (ab:b<=4096):l0 b (n:Int)=some ():=by
 have ae:b*n<=4096*1048576:=Nat.mul_le_mul ab h;have ag:((b:Int)*(n:Int))=((b*n:Nat):Int):=by simp
 unfold l0;rw[if_pos ⟨by omega,by rw[ag];omega,by omega⟩]
theorem xQ {α:Type} {l:Nat->Int->arI} {f:α->α->arI} (a:List α)
  (mM:∀m i,l (m+1) i=cond (decide (i<(a.length:Int))) ((a_ a i).bind λx=>(a_ a i).bind λy=>(f x y).bind λz=>cond (!z) (some false) (l m (IntKind.i64.wrap (i+1)))) (some true))
  (bo:∀x∈a,f x x=some true) (b6:a.length<=1048576):bU (λm=>l m 0)=some true:=by
 rw[vE (n:=a.length) (λ_=>some true)]
 .intro m;rw[mM,dX (Nat.le_refl _)];rfl
 .intro i al m ih;rw[mM,eI al,er _ i al,et i _ al (by omega),ih];simp only[cond_true,bind_some,bo _ (List.getElem_mem al),Bool.not_true,cond_false]
theorem Vy {α:Type} {d:α->α->Bool} {l:Nat->Int->arI} (a:List α)
  (mM:∀m i,l (m+1) i=cond (decide (i<(a.length:Int))) ((a_ a i).bind λx=>(a_ a i).bind λy=>cond (d x y) (some false) (l m (IntKind.i64.wrap (i+1)))) (some true))
  (ak:∀x,d x x=false) (b6:a.length<=1048576):bU (λm=>l m 0)=some true:=by
 rw[vE (n:=a.length) (λ_=>some true)]
 .intro m;rw[mM,dX (Nat.le_refl _)];rfl
 .intro i al m ih;rw[mM,eI al,er _ i al,et i _ al (by omega),ih];simp only[cond_true,bind_some,ak,cond_false]
theorem uj (x:Int):(x !=x)=false:=by simp
theorem uk (x:arE):(!(x==x))=false:=by simp
theorem vH (x:Bool):(!(x==x))=false:=by simp
theorem um (n:Nat):((n:Int) !=(n:Int))=false:=by simp
def gN (p:Nat->Bool) (n:Nat):Bool:=(List.range n).all p
theorem s5 {p:Nat->Bool} {n:Nat}:gN p n=true↔∀i,i<n->p i=true:=by simp[gN]
theorem HZ {l:Nat->Int->arI} {n:Nat} (p:Nat->Bool) (a5:∀m,l (m+1) (n:Int)=some true)
  (ad:∀i,i<n->∀m,l (m+1) (i:Int)=cond (p i) (l m ((i+1:Nat):Int)) (some false)):bU (λm=>l m 0)=some (gN p n):=by
 rw[vE (n:=n) (λi=>some ((List.range' i (n-i)).all p))]
 .simp[gN,List.range_eq_range']
 .intro m;rw[a5];simp
 .intro i al m ih;rw[ad i al,ih,show n-i=(n-(i+1))+1 by omega,List.range'_succ];cases aw:p i<;>simp[aw]
def s6 (p:Nat->Bool):Nat->Nat->Int
 |_,0=> -1
 |i,k+1=>if p i=true then(i:Int)else s6 p (i+1) k
theorem Vz {p:Nat->Bool}:∀(k i:Nat),(∀j,i<=j->j<i+k->p j=false)->s6 p i k= -1
 |0,_,_=>rfl
 |k+1,i,h=>by
  simp only[s6,h i (Nat.le_refl _) (by omega)];exact Vz k (i+1) λj ae ag=>h j (by omega) (by omega)
theorem VA {p:Nat->Bool}:∀(k i j:Nat),i<=j->j<i+k->p j=true->0<=s6 p i k
 |0,i,j,ae,ag,_=>by omega
 |k+1,i,j,ae,ag,aK=>by
  simp only[s6];split
  .omega
  .rename_i h;refine VA k (i+1) j ?_ (by omega) aK;rcases Nat.lt_or_ge i j with h|h
   .exact h
   .have:i=j:=by omega
    subst this;exact absurd aK (by assumption)
theorem Ae (p:Nat->Bool) (n:Nat):decide (0<=s6 p 0 n)= !(gN (λi=> !p i) n):=by
 by_cases h:∃j,j<n/\p j=true
 .obtain⟨j,ae,ag⟩:=h;have aK:=VA n 0 j (zero_le _) (by omega) ag;have a3:gN (λi=> !p i) n=false:=by
   rw[Bool.eq_false_iff];intro k6;have:=s5.1 k6 j ae;simp[ag]at this
  rw[a3];simpa using aK
 .have aK:∀j,j<n->p j=false:=λj bP=>by
   cases aw:p j
   .rfl
   .exact absurd ⟨j,bP,aw⟩ h
  rw[Vz n 0 λj _ ag=>aK j (by omega)];have a3:gN (λi=> !p i) n=true:=s5.2 λi al=>by simp[aK i al]
  rw[a3];rfl
theorem Af {l:Nat->Int->arJ} {n:Nat} (p:Nat->Bool) (a5:∀m,l (m+1) (n:Int)=some (-1))
  (ad:∀i,i<n->∀m,l (m+1) (i:Int)=cond (p i) (some (i:Int)) (l m ((i+1:Nat):Int))):bU (λm=>l m 0)=some (s6 p 0 n):=by
 rw[vE (n:=n) (λi=>some (s6 p i (n-i)))]
 .simp
 .intro m;rw[a5];simp[s6]
 .intro i al m ih;rw[ad i al,ih,show n-i=(n-(i+1))+1 by omega];cases aw:p i<;>simp[aw,s6]
theorem Ag (i:Nat) (h:0<i) (aZ:i<=4611686018427387904):IntKind.i64.wrap ((i:Int)-1)=((i-1:Nat):Int):=by
 rw[fl _ (by omega)];omega
theorem uo:decide ((0:Int)<((0:Nat):Int))=false:=by decide
theorem OR {i:Nat} (h:i≠0):decide ((0:Int)<(i:Int))=true:=by simp;omega
theorem al3 {α:Type} (x:α) (l:List α):jY (x::l) 1 (((x::l).length:Nat):Int)=some l:=by
 unfold jY;rw[if_pos (by simp only[List.length_cons];omega)];simp
theorem h_ {b n:Nat} (h:n*b<=140737488355328) (ag:n<=9223372036854775807):room b n=some ():=by unfold room;rw[if_pos ⟨h,ag⟩]
set_option linter.unusedSimpArgs false
theorem VB (a b:arE):(!(Op.bytesLess a b))=(Op.bytesLess b a||b==a):=by
 induction a generalizing b with
 |nil=>cases b<;>simp[Op.bytesLess]
 |cons x a ih=>
  cases b with
  |nil=>simp[Op.bytesLess]
  |cons y b=>
   simp only[Op.bytesLess];have:=ih b;by_cases ae:x<y
   .have ag:¬y<x:=λh=>by have:=UInt8.lt_asymm ae h;exact this
    have aK:y≠x:=λh=>by subst h;exact absurd ae (UInt8.lt_irrefl _)
    simp[ae,ag,aK]
   .by_cases ag:y<x
    .have aK:x≠y:=λh=>by subst h;exact absurd ag (UInt8.lt_irrefl _)
     simp[ae,ag,aK]
    .have aK:x=y:=by
      have aW:=UInt8.not_lt.1 ae;have a8:=UInt8.not_lt.1 ag;exact UInt8.le_antisymm a8 aW
     subst aK;simp[ae,this]
theorem al4 (a:arE):Op.bytesLess a a=false:=by
 have:=VB a a;cases h:Op.bytesLess a a with
 |false=>rfl
 |true=>rw[h]at this;simp at this
def xR (t:aF):Nat:=if t.Kind=2 then 2 else if t.Kind=3 then 1 else 0
theorem VC (t:aF):xR t<=2:=by unfold xR;split<;>(try split)<;>omega
theorem VD (t:aF):cond (t.Kind==2) (some 2) (cond (t.Kind==3) (some 1) (some 0))=some (xR t:Int):=by
 unfold xR;by_cases ag:t.Kind=2
 .simp[ag]
 .by_cases aK:t.Kind=3
  .simp[aK]
  .have a8:(t.Kind==2)=false:=by simpa using ag
   have aY:(t.Kind==3)=false:=by simpa using aK
   rw[a8,aY,if_neg ag,if_neg aK];rfl
def iU (n fB al:Int):Bool:=decide (fB<=n)&&decide (n<=al)
def xS (t:aF) (v:Int):Bool:=cond (t.Kind==0) (iU t.Value 0 63) (cond (t.Kind==1) (iU t.Value 0 (v-1)) (cond (t.Kind==2) (iU t.Value 0 8) (cond (t.Kind==3) (t.Value==0) false)))
def xT (v:Int):arU->Nat->Bool
 |[],k=>k==0
 |t::r,k=> !(k==0)&&(xS t v&&xT v r (k+xR t-1))
def k2 (e:arU) (v most:Int):Bool:=decide ((e.length:Int)<=most)&&xT v e 1
theorem al5 (t:aF) (v:Int) (aE: -1000000<=v/\v<=1000000):FP t v=some (xS t v):=by
 unfold FP kF xS iU;rw[fl (v-1) (by omega)];cases t.Kind==0<;>cases t.Kind==1<;>cases t.Kind==2<;>cases t.Kind==3<;>rfl
theorem al6 (t:aF) (v:Int) (aE: -1000000<=v/\v<=1000000):Gj t v=some (xS t v):=by
 unfold Gj CJ jD xS iU;rw[fl (v-1) (by omega)];cases t.Kind==0<;>cases t.Kind==1<;>cases t.Kind==2<;>cases t.Kind==3<;>rfl
theorem al7 (t:aF):Ld t=some (xR t:Int):=VD t
theorem al8 (t:aF):LX t=some (xR t:Int):=VD t
theorem VE {k a:Nat} (ao:1<=k) (oB:k<=100000000) (b6:a<=2):IntKind.i64.wrap ((k:Int)+IntKind.i64.wrap ((a:Int)-1))=((k+a-1:Nat):Int):=by
 rw[fl ((a:Int)-1) (by omega),fl _ (by omega)];omega
theorem Ah (k:Nat):((k:Int)==0)=(k==0):=by
 by_cases h:k=0
 .subst h;rfl
 .have ae:((k:Int)==0)=false:=by simp;omega
  have ag:(k==0)=false:=by simpa using h
  rw[ae,ag]
theorem OS (e:arU) (v most:Int) (aE: -1000000<=v/\v<=1000000) (he:e.length<=1048576):yY e v most=some (k2 e v most):=by
 unfold yY k2;by_cases hm:(e.length:Int)<=most
 .have d1:decide (most<(e.length:Int))=false:=by simp;omega
  have d2:decide ((e.length:Int)<=most)=true:=by simpa using hm
  rw[d1,d2,cond_false,Bool.true_and];have key:∀i,i<=e.length->∀(k:Nat) m,k<=1+2*i->e.length-i<m->yX e v m (k:Int) (i:Int)=some (xT v (e.drop i) k):=by
   refine down e.length ?_ ?_
   .intro k m _ hm;obtain⟨m,rfl⟩:∃j,m=j+1:=⟨m-1,by omega⟩
    simp only[yX,Le];rw[dX (Nat.le_refl _),List.drop_of_length_le (Nat.le_refl _),Ah];rfl
   .intro i al ih k m ao hm;obtain⟨m,rfl⟩:∃j,m=j+1:=⟨m-1,by omega⟩
    simp only[yX,Le];rw[eI al,er _ i al,et i _ al (by omega),drop_cons e i al,Ah];simp only[cond_true,bind_some,al5 _ v aE,al7,xT];by_cases a5:k=0
    .subst a5;rfl
    .have ab:(k==0)=false:=by simpa using a5
     have b6:=VC e[i];rw[ab,VE (by omega) (by omega) b6,ih _ m (by omega) (by omega)];simp only[cond_false,Bool.not_false,Bool.true_and];cases xS e[i] v<;>rfl
  refine fO (e.length+1) λm hm=>?_;have:=key 0 (by omega) 1 m (by omega) (by omega);simpa using this
 .have d1:decide (most<(e.length:Int))=true:=by simp;omega
  have d2:decide ((e.length:Int)<=most)=false:=by simpa using hm
  rw[d1,d2];rfl
theorem VF (e:arU) (v most:Int) (aE:0<=v/\v<=29) (al9:1<=most/\most<=60) (he:e.length<=1048576):CK e v most=some (k2 e v most):=by
 unfold CK jD k2;have d1:(!(decide (0<=v)&&decide (v<=29)))=false:=by simp;omega
 have d2:(!(decide (1<=most)&&decide (most<=60)))=false:=by simp;omega
 simp only[bind_some,d1,d2,cond_false];by_cases ae:e.length=0
 .have:e=[]:=List.length_eq_zero_iff.1 ae;subst this;simp[xT]
 .by_cases hm:(e.length:Int)<=most
  .have d3:(!(decide ((1:Int)<=(e.length:Int))&&decide ((e.length:Int)<=most)))=false:=by simp;omega
   have d4:decide ((e.length:Int)<=most)=true:=by simpa using hm
   rw[d3,d4,cond_false,Bool.true_and];have key:∀i,i<=e.length->∀(k:Nat) m,k<=1+2*i->e.length-i<m->zn e v m (k:Int) (i:Int)=some (xT v (e.drop i) k):=by
    refine down e.length ?_ ?_
    .intro k m _ hm;obtain⟨m,rfl⟩:∃j,m=j+1:=⟨m-1,by omega⟩
     simp only[zn,LY];rw[dX (Nat.le_refl _),List.drop_of_length_le (Nat.le_refl _),Ah];rfl
    .intro i al ih k m ao hm;obtain⟨m,rfl⟩:∃j,m=j+1:=⟨m-1,by omega⟩
     simp only[zn,LY];rw[eI al,er _ i al,et i _ al (by omega),drop_cons e i al,Ah];simp only[cond_true,bind_some,al6 _ v (by omega),al8,xT];by_cases a5:k=0
     .subst a5;rfl
     .have ab:(k==0)=false:=by simpa using a5
      have b6:=VC e[i];rw[ab,VE (by omega) (by omega) b6,ih _ m (by omega) (by omega)];simp only[cond_false,Bool.not_false,Bool.true_and];cases xS e[i] v<;>rfl
   refine fO (e.length+1) λm hm=>?_;have:=key 0 (by omega) 1 m (by omega) (by omega);simpa using this
  .have d3:(!(decide ((1:Int)<=(e.length:Int))&&decide ((e.length:Int)<=most)))=true:=by simp;omega
   have d4:decide ((e.length:Int)<=most)=false:=by simpa using hm
   rw[d3,d4];rfl
def small (c:UInt8):Bool:=decide (97<=(c.toNat:Int))&&decide ((c.toNat:Int)<=122)
def digit (c:UInt8):Bool:=decide (48<=(c.toNat:Int))&&decide ((c.toNat:Int)<=57)
def kM (s:arE):Bool:=decide (s.length<=10)&&(match s with|[]=>false|c::r=>small c&&r.all λc=>small c||digit c)
theorem DV (s:arE):w3 s=some (kM s):=by
 unfold w3;cases s with
 |nil=>rfl
 |cons c r=>
  have fS:((c::r)==([]:arE))=false:=rfl;rw[fS];simp only[cond_false];by_cases kf:10<(c::r).length
  .have:decide ((10:Int)<((c::r).length:Int))=true:=by simp at kf⊢;omega
   rw[this];have ag:decide ((c::r).length<=10)=false:=by simp at kf⊢;omega
   simp only[kM,ag];rfl
  .have:decide ((10:Int)<((c::r).length:Int))=false:=by simp at kf⊢;omega
   rw[this];have ag:decide ((c::r).length<=10)=true:=by simp at kf⊢;omega
   rw[HW];simp only[cond_false,bind_some,B_];simp only[kM,ag,Bool.true_and];show cond (!small c) _ _=_;cases ad:small c with
   |false=>rfl
   |true=>
    simp only[Bool.not_true,cond_false];rw[vE (n:=(c::r).length) (λi=>some (((c::r).drop i).all λc=>small c||digit c))]
    .simp[ad]
    .intro m;simp only[Ca,K_];rw[dX (Nat.le_refl _)];simp
    .intro i al m ih;simp only[Ca,K_];rw[eI al,er _ i al,et i _ al (by omega),ih,drop_cons _ i al];simp only[cond_true,bind_some,B_,K9,List.all_cons];show cond (!small _) (cond (!digit _) _ _) _=_;cases small (c::r)[i]<;>cases digit (c::r)[i]<;>rfl
theorem OT (s:arE) (ad:s.length<=140737488355328):CE s=some (kM s):=by
 unfold CE;have bt:∀m,s.length-1<m->1<=s.length->vm s m ((1:Nat):Int)=some (((s.drop 1).all λc=>small c||digit c)&&(decide (1<=(s.length:Int))&&decide ((s.length:Int)<=10))):=by
  intro m hm ae;refine down s.length (P:=λi=>1<=i->∀m,s.length-i<m->vm s m (i:Int)=some (((s.drop i).all λc=>small c||digit c)&&(decide (1<=(s.length:Int))&&decide ((s.length:Int)<=10)))) ?_ ?_ 1 ae (Nat.le_refl _) m hm
  .intro _ m hm;obtain⟨k,rfl⟩:∃k,m=k+1:=⟨m-1,by omega⟩
   simp only[vm,Gf];rw[dX (Nat.le_refl _)];simp
  .intro i al ih JP m hm;obtain⟨k,rfl⟩:∃k,m=k+1:=⟨m-1,by omega⟩
   simp only[vm,Gf];rw[eI al,er _ i al,et i _ al (by omega),ih (by omega) k (by omega),drop_cons _ i al];have e:((i:Int)==0)=false:=by simp;omega
   rw[e];simp only[cond_true,cond_false,bind_some,LN,List.all_cons];show cond (!small _) (cond (!digit _) _ _) _=_;cases small s[i]<;>cases digit s[i]<;>rfl
 refine fO (s.length+1) λm hm=>?_;obtain⟨k,rfl⟩:∃k,m=k+1:=⟨m-1,by omega⟩
 simp only[vm,Gf];cases s with
 |nil=>rfl
 |cons c r=>
  have ao:=bt k (by simp at hm⊢;omega) (by simp);rw[show((1:Nat):Int)=1 from rfl]at ao;rw[xP (by simp),HW,Vu,ao];have e:((0:Int)==0)=true:=rfl;rw[e];simp only[cond_true,kM];show cond (!small c) _ _=_;have ae:decide (1<=((c::r).length:Int))=true:=by simp;omega
  have ag:decide (((c::r).length:Int)<=10)=decide ((c::r).length<=10):=by
   by_cases h:(c::r).length<=10<;>simp at h⊢<;>omega
  rw[ae,ag];cases small c with
  |false=>simp
  |true=>simp[Bool.and_comm]
def dZ (p:bk):Nat:=if p.Kind=1\/p.Kind=3\/p.Kind=4 then 1 else if p.Kind=2 then 2 else 0
theorem xU (p:bk):dZ p<=2:=by unfold dZ;split<;>(try split)<;>omega
theorem VG (p:bk) (K:Bool->arJ) (hK:∀b,K b=cond b (some 1) (cond (p.Kind==2) (some 2) (some 0))):
  cond (p.Kind==1) (K true) (cond (p.Kind==3) (K true) (K (p.Kind==4)))=some (dZ p:Int):=by
 simp only[hK,dZ];by_cases ae:p.Kind=1
 .simp[ae]
 .by_cases aK:p.Kind=3
  .simp[aK]
  .by_cases a3:p.Kind=4
   .simp[a3]
   .by_cases ag:p.Kind=2
    .simp[ag]
    .have aW:(p.Kind==1)=false:=by simpa using ae
     have aY:(p.Kind==3)=false:=by simpa using aK
     have bT:(p.Kind==4)=false:=by simpa using a3
     have a8:(p.Kind==2)=false:=by simpa using ag
     simp[aW,aY,bT,a8,ae,aK,a3,ag]
theorem VH (p:bk):Cc p=some (dZ p:Int):=by
 unfold Cc;exact VG p (Cb p) λ_=>rfl
theorem VI (p:bk):CH p=some (dZ p:Int):=by
 unfold CH;exact VG p (CG p) λ_=>rfl
def vI:arV->Nat->Bool
 |[],k=>k==0
 |p::r,k=> !(k==0)&&vI r (k+dZ p-1)
def dP:arV->Nat->Option Nat
 |[],0=>some 0
 |[],_+1=>none
 |_::_,0=>some 0
 |p::r,k+1=>(dP r (k+dZ p)).map (·+1)
theorem xV (l:arV):dP l 0=some 0:=by cases l<;>rfl
theorem nN {p:bk} {r:arV} {a k:Nat}:dP (p::r) (a+1)=some k↔∃cZ,dP r (a+dZ p)=some cZ/\k=cZ+1:=by
 simp only[dP,map_eq_some_iff];constructor
 .rintro⟨cZ,h,rfl⟩;exact⟨cZ,h,rfl⟩
 .rintro⟨cZ,h,rfl⟩;exact⟨cZ,h,rfl⟩
theorem kN:∀{l:arV} {a k:Nat},dP l a=some k->a<=k/\k<=l.length
 |[],0,k,h=>by simp only[dP,some.injEq]at h;subst h;simp
 |[],a+1,k,h=>by simp[dP]at h
 |_::_,0,k,h=>by simp only[dP,some.injEq]at h;subst h;simp
 |p::r,a+1,k,h=>by
  obtain⟨cZ,bM,rfl⟩:=nN.1 h;have:=kN bM;simp only[List.length_cons];omega
theorem OU:∀(l:arV) (k:Nat),vI l k=(dP l k==some l.length)
 |[],0=>rfl
 |[],k+1=>rfl
 |p::r,0=>rfl
 |p::r,k+1=>by
  have e:k+1+dZ p-1=k+dZ p:=by omega
  simp only[vI,e,OU r (k+dZ p)];have fS:(k+1==0)=false:=rfl;rw[fS];simp only[Bool.not_false,Bool.true_and,dP];cases dP r (k+dZ p)with
  |none=>rfl
  |some n=>simp
theorem rW:∀{l:arV} {a b k:Nat},dP l (a+b)=some k->∃b3 cv,dP l a=some b3/\dP (l.drop b3) b=some cv/\k=b3+cv
 |l,0,b,k,h=>⟨0,k,xV l,by simpa using h,by omega⟩
 |[],a+1,b,k,h=>by rw[show a+1+b=(a+b)+1 by omega]at h;simp[dP]at h
 |p::r,a+1,b,k,h=>by
  rw[show a+1+b=(a+b)+1 by omega]at h;obtain⟨cZ,bM,rfl⟩:=nN.1 h;rw[show a+b+dZ p=(a+dZ p)+b by omega]at bM;obtain⟨b3,cv,ae,ag,rfl⟩:=rW bM;exact⟨b3+1,cv,nN.2 ⟨b3,ae,rfl⟩,by simpa using ag,by omega⟩
theorem DW:∀{l:arV} {a k:Nat},dP l a=some k->∀i,i<k->∃m,1<=m/\dP (l.drop i) m=some (k-i)
 |[],0,k,h,i,al=>by simp only[dP,some.injEq]at h;omega
 |[],a+1,k,h,i,al=>by simp[dP]at h
 |_::_,0,k,h,i,al=>by simp only[dP,some.injEq]at h;omega
 |p::r,a+1,k,h,i,al=>by
  cases i with
  |zero=>exact⟨a+1,by omega,by simpa using h⟩
  |succ i=>
   obtain⟨cZ,bM,rfl⟩:=nN.1 h;obtain⟨m,ae,ag⟩:=DW bM i (by omega);exact⟨m,ae,by simp only[List.drop_succ_cons];rw[ag];congr 1;omega⟩
theorem xW {l:arV} {a k i:Nat} (h:dP l a=some k) (al:i<k):∃e,dP (l.drop i) 1=some e/\i+e<=k/\1<=e:=by
 obtain⟨m,ae,ag⟩:=DW h i al;obtain⟨m,rfl⟩:∃j,m=1+j:=⟨m-1,by omega⟩
 obtain⟨b3,cv,aK,a3,bI⟩:=rW ag;have:=kN aK;exact⟨b3,aK,by omega,by omega⟩
theorem H0 {k a:Nat} (ao:1<=k) (oB:k<=100000000) (b6:a<=2):IntKind.i64.wrap ((k:Int)+IntKind.i64.wrap ((a:Int)-1))=((k+a-1:Nat):Int):=by
 rw[fl ((a:Int)-1) (by omega),fl _ (by omega)];omega
theorem al_ (e:arV) (he:e.length<=1048576):FN e=some ((decide (1<=e.length)&&decide (e.length<=20))&&vI e 1):=by
 unfold FN;by_cases hm:1<=e.length/\e.length<=20
 .have d1:(((e.length:Int)==0)||decide ((20:Int)<(e.length:Int)))=false:=by
   rw[Bool.or_eq_false_iff,beq_eq_false_iff_ne,decide_eq_false_iff_not];omega
  have d2:(decide (1<=e.length)&&decide (e.length<=20))=true:=by simp;omega
  rw[d1,d2,cond_false,Bool.true_and];have key:∀i,i<=e.length->∀(k:Nat) m,k<=1+2*i->e.length-i<m->yV e m (k:Int) (i:Int)=some (vI (e.drop i) k):=by
   refine down e.length ?_ ?_
   .intro k m _ hm;obtain⟨m,rfl⟩:∃j,m=j+1:=⟨m-1,by omega⟩
    simp only[yV,La];rw[dX (Nat.le_refl _),List.drop_of_length_le (Nat.le_refl _),Ah];rfl
   .intro i al ih k m ao hm;obtain⟨m,rfl⟩:∃j,m=j+1:=⟨m-1,by omega⟩
    simp only[yV,La];rw[eI al,er _ i al,et i _ al (by omega),drop_cons e i al,Ah];simp only[cond_true,bind_some,VH,vI];by_cases a5:k=0
    .subst a5;rfl
    .have ab:(k==0)=false:=by simpa using a5
     have b6:=xU e[i];rw[ab,H0 (by omega) (by omega) b6,ih _ m (by omega) (by omega)];simp only[cond_false,Bool.not_false,Bool.true_and]
  refine fO (e.length+1) λm hm=>?_;have:=key 0 (by omega) 1 m (by omega) (by omega);simpa using this
 .have d1:(((e.length:Int)==0)||decide ((20:Int)<(e.length:Int)))=true:=by
   by_cases h:e.length=0
   .simp[h]
   .have:decide ((20:Int)<(e.length:Int))=true:=by simp;omega
    rw[this,Bool.or_true]
  have d2:(decide (1<=e.length)&&decide (e.length<=20))=false:=by
   rw[Bool.and_eq_false_iff,decide_eq_false_iff_not,decide_eq_false_iff_not];omega
  rw[d1,d2];rfl
def rX (i:Nat):Option Nat->Int
 |none=> -1
 |some n=>((i+n:Nat):Int)
theorem VJ (d:bg) (ak:d.Body.length<=1048576) (jZ:Nat) (a5:jZ<=d.Body.length):CI d (jZ:Int)=some (rX jZ (dP (d.Body.drop jZ) 1)):=by
 unfold CI;have key:∀i,i<=d.Body.length->∀(k:Nat) m,k<=1+2*i->d.Body.length-i<m->zm d m (i:Int) (k:Int)=some (rX i (dP (d.Body.drop i) k)):=by
  refine down d.Body.length ?_ ?_
  .intro k m _ hm;obtain⟨m,rfl⟩:∃j,m=j+1:=⟨m-1,by omega⟩
   simp only[zm,LR];rw[List.drop_of_length_le (Nat.le_refl _)];cases k with
   |zero=>rw[uo];simp[dP,rX]
   |succ k=>
    rw[xP (succ_pos k)];have:decide ((d.Body.length:Int)<=(d.Body.length:Int))=true:=by simp
    rw[this];rfl
  .intro i al ih k m ao hm;obtain⟨m,rfl⟩:∃j,m=j+1:=⟨m-1,by omega⟩
   simp only[zm,LR];cases k with
   |zero=>rw[uo,xV];simp[rX]
   |succ k=>
    have d1:decide ((d.Body.length:Int)<=(i:Int))=false:=by simp;omega
    rw[xP (succ_pos k),d1,er _ i al,et i _ al (by omega),drop_cons _ i al];simp only[cond_true,cond_false,bind_some,VI];have b6:=xU d.Body[i];rw[H0 (by omega) (by omega) b6,ih _ m (by omega) (by omega),show k+1+dZ d.Body[i]-1=k+dZ d.Body[i] by omega];simp only[dP];cases dP (d.Body.drop (i+1)) (k+dZ d.Body[i])with
    |none=>rfl
    |some n=>simp only[map_some,rX];congr 2;omega
 refine fO (d.Body.length+1) λm hm=>?_;refine down d.Body.length (P:=λ_=>True) trivial (λ_ _ _=>trivial) 0 (zero_le _)|>λ_=>?_;have b3:=key jZ a5 1 m (by omega) (by omega);simpa using b3
theorem ama (b:arV) (ab:b.length<=1048576) (jZ n:Nat) (h:dP (b.drop jZ) 1=some n):FO b (jZ:Int)=some ((jZ+n:Nat):Int):=by
 unfold FO;have a5:jZ<b.length:=by
  have:=kN h;rw[List.length_drop]at this;omega
 have key:∀i,i<=b.length->∀(k n:Nat) m,k<=1+2*i->b.length-i<m->dP (b.drop i) k=some n->yW b m (i:Int) (k:Int)=some ((i+n:Nat):Int):=by
  refine down b.length ?_ ?_
  .intro k n m _ hm he;obtain⟨m,rfl⟩:∃j,m=j+1:=⟨m-1,by omega⟩
   simp only[yW,Lb];rw[List.drop_of_length_le (Nat.le_refl _)]at he;cases k with
   |zero=>rw[uo];simp only[dP,some.injEq]at he;subst he;simp
   |succ k=>simp[dP]at he
  .intro i al ih k n m ao hm he;obtain⟨m,rfl⟩:∃j,m=j+1:=⟨m-1,by omega⟩
   simp only[yW,Lb];cases k with
   |zero=>rw[xV]at he;cases he;rw[uo];simp
   |succ k=>
    rw[drop_cons _ i al]at he;obtain⟨A9,kW,rfl⟩:=nN.1 he;rw[xP (succ_pos k),er _ i al,et i _ al (by omega)];simp only[cond_true,bind_some,VH];have b6:=xU b[i];rw[H0 (by omega) (by omega) b6,show k+1+dZ b[i]-1=k+dZ b[i] by omega,ih _ A9 m (by omega) (by omega) kW];congr 2;omega
 refine fO (b.length+1) λm hm=>?_;have b3:=key jZ (by omega) 1 n m (by omega) (by omega) h;simpa using b3
def below (p:bk) (s:dv):dv:=⟨if p.Kind=4 then s.scope+1 else s.scope,p.Kind==1⟩
def g6:arV->asa->asa
 |[],_=>[]
 |_::_,[]=>[]
 |p::r,s::st=>s::g6 r (List.replicate (dZ p) (below p s)++st)
theorem amb (l:arV):g6 l []=[]:=by cases l<;>rfl
theorem xX:∀{l:arV} {st:asa} {k:Nat},dP l st.length=some k->(g6 l st).length=k
 |[],[],k,h=>by simp only[List.length_nil,dP,some.injEq]at h;subst h;rfl
 |[],s::st,k,h=>by simp[dP]at h
 |p::r,[],k,h=>by simp only[List.length_nil,dP,some.injEq]at h;subst h;rfl
 |p::r,s::st,k,h=>by
  obtain⟨cZ,bM,rfl⟩:=nN.1 h;simp only[g6,List.length_cons];rw[xX (k:=cZ) (by rw[List.length_append,List.length_replicate,Nat.add_comm];exact bM)]
theorem VK:∀{l:arV} {s1 s2:asa} {k:Nat},dP l s1.length=some k->g6 l (s1++s2)=g6 l s1++g6 (l.drop k) s2
 |[],[],s2,k,h=>by simp only[List.length_nil,dP,some.injEq]at h;subst h;rfl
 |[],s::st,s2,k,h=>by simp[dP]at h
 |p::r,[],s2,k,h=>by simp only[List.length_nil,dP,some.injEq]at h;subst h;simp[g6]
 |p::r,s::st,s2,k,h=>by
  obtain⟨cZ,bM,rfl⟩:=nN.1 h;simp only[g6,List.cons_append,List.drop_succ_cons];rw[<-List.append_assoc,VK (k:=cZ) (by rw[List.length_append,List.length_replicate,Nat.add_comm];exact bM)]
def patch (out:asa) (i:Nat) (new:asa):asa:=out.take i++(new++out.drop (i+new.length))
theorem amc (out:asa) (i:Nat):patch out i []=out:=by simp[patch]
theorem VL {out:asa} {i:Nat} {new:asa} (h:i+new.length<=out.length):(patch out i new).length=out.length:=by
 simp[patch];omega
theorem VM {out:asa} {i j:Nat} {a b:asa} (bP:j=i+a.length) (h:i+a.length+b.length<=out.length):patch (patch out i a) j b=patch out i (a++b):=by
 subst bP;unfold patch;have aW:(out.take i).length=i:=by rw[List.length_take];omega
 have t1:(out.take i++(a++out.drop (i+a.length))).take (i+a.length)=out.take i++a:=by
  rw[<-List.append_assoc,List.take_left' (by rw[List.length_append,aW])]
 have t2:(out.take i++(a++out.drop (i+a.length))).drop (i+a.length+b.length)=out.drop (i+a.length+b.length):=by
  rw[<-List.append_assoc,<-List.drop_drop,List.drop_left' (by rw[List.length_append,aW]),List.drop_drop]
 rw[t1,t2];simp only[List.append_assoc,List.length_append,Nat.add_assoc]
theorem amd {out:asa} {i:Nat} {s:dv} (h:i<out.length):out.set i s=patch out i [s]:=by
 unfold patch;apply List.ext_getElem?;intro j;rw[List.getElem?_set];rcases Nat.lt_trichotomy i j with H2|H2|H2
 .rw[if_neg (by omega),List.getElem?_append_right (by simp;omega)];have aW:(out.take i).length=i:=by simp;omega
  rw[aW];obtain⟨d,rfl⟩:∃d,j=i+(d+1):=⟨j-i-1,by omega⟩
  rw[show i+(d+1)-i=d+1 by omega];simp only[List.singleton_append,List.getElem?_cons_succ,List.length_singleton,List.getElem?_drop];congr 1;omega
 .subst H2;rw[if_pos rfl,if_pos h,List.getElem?_append_right (by simp;omega)];have aW:(out.take i).length=i:=by simp;omega
  rw[aW];simp
 .rw[if_neg (by omega),List.getElem?_append_left (by simp;omega),List.getElem?_take,if_pos H2]
theorem ame (n:Int) (h:0<=n) (ag:n<=1000000):IntKind.i64.wrap (n+1)=n+1:=fl _ (by omega)
theorem VN {rec:Int->dv->asa->bg->Option (Int×asa)} {d:bg} {n:Nat} (ak:d.Body.length<=1048576)
  (VO:∀(at_ k:Nat) (s:dv) (out:asa),out.length=d.Body.length->dP (d.Body.drop at_) 1=some k->k<=n->0<=s.scope->s.scope+k<=1000000->
   rec (at_:Int) s out d=some (((at_+k:Nat):Int),patch out at_ (g6 (d.Body.drop at_) [s])))
  (cR:Int) (p:bk) (f:Nat) (bo:f<=2):∀(c j at_ k:Nat) (out:asa) (m:Nat),j+c=f->c<m->out.length=d.Body.length->dP (d.Body.drop at_) c=some k->k<=n->0<=cR->cR+k<=1000000->
   xg rec d cR p (f:Int) m out (at_:Int) (j:Int)=some (((at_+k:Nat):Int),patch out at_ (g6 (d.Body.drop at_) (List.replicate c ⟨cR,p.Kind==1⟩)))
 |0,j,at_,k,out,m,bP,hm,b_,he,ao,a5,ae=>by
  obtain⟨m,rfl⟩:∃i,m=i+1:=⟨m-1,by omega⟩
  rw[xV]at he;cases he;simp only[xg,LS];rw[dX (by omega)];simp[amb,amc]
 |c+1,j,at_,k,out,m,bP,hm,b_,he,ao,a5,ae=>by
  obtain⟨m,rfl⟩:∃i,m=i+1:=⟨m-1,by omega⟩
  rw[Nat.add_comm c 1]at he;obtain⟨b3,cv,aW,a8,rfl⟩:=rW he;have fA:=kN aW;have l2:=kN a8;rw[List.length_drop]at fA;rw[List.drop_drop,List.length_drop]at l2;have hlen:(g6 (d.Body.drop at_) [⟨cR,p.Kind==1⟩]).length=b3:=xX (st:=[_]) aW;simp only[xg,LS];rw[eI (by omega),VO at_ b3 _ out b_ aW (by omega) a5 (by show cR+(b3:Int)<=_;omega),et j f (by omega) (by omega)];simp only[cond_true,bind_some];have ew:(patch out at_ (g6 (d.Body.drop at_) [⟨cR,p.Kind==1⟩])).length=d.Body.length:=by
   rw[VL (by rw[hlen];omega),b_]
  rw[List.drop_drop]at a8;rw[VN ak VO cR p f bo c (j+1) (at_+b3) cv _ m (by omega) (by omega) ew a8 (by omega) a5 (by omega)];have amf:(g6 (d.Body.drop (at_+b3)) (List.replicate c ⟨cR,p.Kind==1⟩)).length=cv:=xX (by rw[List.length_replicate];exact a8);have amg:g6 (d.Body.drop at_) (List.replicate (c+1) ⟨cR,p.Kind==1⟩)=g6 (d.Body.drop at_) [⟨cR,p.Kind==1⟩]++g6 (d.Body.drop (at_+b3)) (List.replicate c ⟨cR,p.Kind==1⟩):=by
   rw[List.replicate_succ,<-List.singleton_append,VK (k:=b3) (s1:=[_]) aW,List.drop_drop]
  rw[amg,VM (by rw[hlen]) (by rw[hlen,amf];omega),Nat.add_assoc]
end Go.mc
