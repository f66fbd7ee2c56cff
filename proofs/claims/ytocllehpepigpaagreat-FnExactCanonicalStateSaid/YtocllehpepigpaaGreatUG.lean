/- Part of a proof that a law returns true for every input. No condition. -/
import Derived.Test.YtocllehpepigpaaGreatU0
namespace Go.eN
open Go Go.cZ
def hX (n:Int) (s:Nat):Int:=if(s:Int)≤n then n-s else-1
theorem AA {n:Int} {s:Nat} (h:(s:Int)≤n):hX n s=n-s:=if_pos h
theorem AB {n:Int} {s:Nat} (h:n<s):hX n s= -1:=if_neg (by omega)
theorem aAY {n:Int} (h:0≤n):hX n 0=n:=by rw[AA (by simpa using h)];simp
theorem qt {f:Option Int} {k:Int→Option Int} {n:Int} {s t:Nat} (bC:f=some (hX n s)) (hk:(s:Int)≤n→k (n-s)=some (hX (n-s) t)):
  (f.bind fun x=>cond (decide (x<0)) (some (-1)) (k x))=some (hX n (s+t)):=by
 rw[bC]
 simp only[Option.bind_some]
 by_cases h:(s:Int)≤n
 ·rw[AA h]
  have:decide (n-(s:Int)<0)=false:=by simp;omega
  rw[this,cond_false,hk h]
  congr 1
  unfold hX
  by_cases ah:(t:Int)≤n-s
  ·rw[if_pos ah,if_pos (by omega)];omega
  ·rw[if_neg ah,if_neg (by omega)]
 ·rw[AB (by omega)]
  have:decide ((-1:Int)<0)=true:=by decide
  rw[this,cond_true,AB (by omega)]
theorem mS {K:Option Int} {n:Int} {s t:Nat} (ag:s≤9223372036854775807) (bf:0≤n) (a6:n≤1048576) (hk:(s:Int)≤n→K=some (hX (n-s) t)):
  cond (decide (IntKind.i64.wrap (n-(s:Int))<0)) (some (-1)) K=some (hX n (s+t)):=by
 rw[fl _ (by omega)]
 by_cases h:(s:Int)≤n
 ·have:decide (n-(s:Int)<0)=false:=by simp;omega
  rw[this,cond_false,hk h]
  congr 1
  unfold hX
  by_cases ah:(t:Int)≤n-s
  ·rw[if_pos ah,if_pos (by omega)];omega
  ·rw[if_neg ah,if_neg (by omega)]
 ·have:decide (n-(s:Int)<0)=true:=by simp;omega
  rw[this,cond_true,AB (by omega)]
theorem rb {n:Int} (h:0≤n):some n=some (hX n 0):=by rw[aAY h]
def gB {α:Type} (f:α→Nat):List α→Nat
 |[]=>0
 |x::r=>f x+gB f r
theorem Qo {α:Type} {f:α→Nat}:∀{l:List α} {x:α},x∈l→f x≤gB f l
 |y::r,x,h=>by
  simp only[gB]
  rcases List.mem_cons.1 h with rfl|h
  ·omega
  ·have:=Qo (f:=f) h;omega
theorem Qp {α β:Type} {f:β→Nat} {g:α→β}:∀l:List α,gB f (l.map g)=gB (fun x=>f (g x)) l
 |[]=>rfl
 |x::r=>by simp only[List.map_cons,gB,Qp r]
def dm {α:Type} (f:α→Nat) (l:List α):Nat:=l.length+gB f l
theorem uN {α β:Type} (f:β→Nat) (g:α→β) (l:List α):dm f (l.map g)=dm (fun x=>f (g x)) l:=by simp only[dm,List.length_map,Qp]
theorem iN {α:Type} (f:α→Nat) (l:List α):l.length≤dm f l:=Nat.le_add_right _ _
theorem kL {α:Type} {f:α→Nat} {l:List α} {x:α} (h:x∈l):f x≤dm f l:=Nat.le_trans (Qo h) (Nat.le_add_left _ _)
theorem Qq {α:Type} {l:Nat→Int→Int→Option Int} {B:α→Int→(Int→Option Int)→Option Int} (sz:α→Nat) (a:List α)
  (mT:∀m n i,l (m+1) n i=cond (decide (i<(a.length:Int))) ((bF a i).bind fun x=>B x n fun y=>l m y (IntKind.i64.wrap (i+1))) (some n))
  (bC:∀x∈a,∀(n:Int) (k:Int→Option Int) (t:Nat),0≤n→n≤1048576→((sz x:Int)≤n→k (n-sz x)=some (hX (n-sz x) t))→B x n k=some (hX n (sz x+t)))
  (cE:a.length≤1048576) (n:Int) (bf:0≤n) (a6:n≤1048576):lim (fun m=>l m n 0)=some (hX n (gB sz a)):=by
 have key:∀i,i≤a.length→∀n:Int,0≤n→n≤1048576→∀m,a.length-i<m→l m n (i:Int)=some (hX n (gB sz (a.drop i))):=by
  refine down a.length ?_ ?_
  ·intro n bf _ m hm
   obtain⟨k,rfl⟩:∃k,m=k+1:=⟨m-1,by omega⟩
   rw[mT,fq (Nat.le_refl _),cond_false,List.drop_of_length_le (Nat.le_refl _)]
   exact rb bf
  ·intro i ao ih n bf a6 m hm
   obtain⟨k,rfl⟩:∃k,m=k+1:=⟨m-1,by omega⟩
   rw[mT,gP ao,cond_true,gm _ i ao,gA i _ ao (by omega),drop_cons a i ao]
   simp only[Option.bind_some,gB]
   exact bC _ (List.getElem_mem ao) n _ _ bf a6 fun h=>ih _ (by omega) (by omega) k (by omega)
 refine iX (a.length+1) fun m hm=> ?_
 have:=key 0 (by omega) n bf a6 m (by omega)
 simpa using this
theorem xd {α:Type} {l:Nat→Int→Int→Option Int} {f:α→Int→Option Int} (sz:α→Nat) (a:List α)
  (mT:∀m n i,l (m+1) n i=cond (decide (i<(a.length:Int))) ((bF a i).bind fun x=>(f x n).bind fun y=>cond (decide (y<0)) (some (-1)) (l m y (IntKind.i64.wrap (i+1)))) (some n))
  (bC:∀x∈a,∀n:Int,0≤n→n≤1048576→f x n=some (hX n (sz x))) (cE:a.length≤1048576) (n:Int) (bf:0≤n) (a6:n≤1048576):lim (fun m=>l m n 0)=some (hX n (gB sz a)):=
 Qq (B:=fun x n k=>(f x n).bind fun y=>cond (decide (y<0)) (some (-1)) (k y)) sz a mT (fun x aw n _ _ bf a6 hk=>qt (bC x aw n bf a6) hk) cE n bf a6
theorem aAZ {l:Nat→Int→Int→Option Int} (a:List (List UInt8))
  (mT:∀m n i,l (m+1) n i=cond (decide (i<(a.length:Int))) ((bF a i).bind fun x=>cond (decide (IntKind.i64.wrap (n-(x.length:Int))<0)) (some (-1)) (l m (IntKind.i64.wrap (n-(x.length:Int))) (IntKind.i64.wrap (i+1)))) (some n))
  (bC:∀x∈a,x.length≤9223372036854775807) (cE:a.length≤1048576) (n:Int) (bf:0≤n) (a6:n≤1048576):lim (fun m=>l m n 0)=some (hX n (gB List.length a)):=
 Qq (B:=fun x n k=>cond (decide (IntKind.i64.wrap (n-(x.length:Int))<0)) (some (-1)) (k (IntKind.i64.wrap (n-(x.length:Int))))) List.length a (by intro m n i;rw[mT]) (by
  intro x aw n k t bf a6 hk
  have hl:=bC x aw
  refine mS hl bf a6 fun h=> ?_
  have e:IntKind.i64.wrap (n-(x.length:Int))=n-(x.length:Int):=fl _ (by omega)
  rw[e]
  exact hk h) cE n bf a6
theorem re {α β:Type} {l:Nat→List β→Int→Option (List β)} {f:α→Option β} (g:α→β) (a:List α) (z:β)
  (mT:∀m v i,l (m+1) v i=cond (decide (i<(a.length:Int))) ((bF a i).bind fun x=>(f x).bind fun y=>(bF v i).bind fun _=>l m (List.set v (Int.toNat i) y) (IntKind.i64.wrap (i+1))) (some v))
  (bC:∀x∈a,f x=some (g x)) (cE:a.length≤1048576):lim (fun m=>l m (List.replicate (Int.toNat (a.length:Int)) z) 0)=some (a.map g):=by
 have key:∀i,i≤a.length→∀(v:List β) m,v.length=a.length→a.length-i<m→l m v (i:Int)=some (v.take i++(a.drop i).map g):=by
  refine down a.length ?_ ?_
  ·intro v m aM hm
   obtain⟨k,rfl⟩:∃k,m=k+1:=⟨m-1,by omega⟩
   rw[mT,fq (Nat.le_refl _)]
   simp[←aM]
  ·intro i ao ih v m aM hm
   obtain⟨k,rfl⟩:∃k,m=k+1:=⟨m-1,by omega⟩
   rw[mT,gP ao,gm _ i ao,gA i _ ao (by omega)]
   simp only[cond_true,Option.bind_some,bC _ (List.getElem_mem ao)]
   rw[gm v i (by omega)]
   simp only[Option.bind_some,Int.toNat_natCast]
   rw[ih _ k (by simp[aM]) (by omega),drop_cons a i ao,List.map_cons,List.take_set,List.take_succ_eq_append_getElem (by omega),List.set_append_right _ _ (by simp;omega)]
   simp[show min i v.length=i by omega]
 refine iX (a.length+1) fun m hm=> ?_
 have:=key 0 (by omega) (List.replicate (Int.toNat (a.length:Int)) z) m (by simp) (by omega)
 simpa using this
theorem qu (b:Nat) {n:Nat} (h:n≤1048576) (ae:b≤4096):mU b (n:Int)=some ():=by
 have h1:b*n≤4096*1048576:=Nat.mul_le_mul ae h
 have ah:((b:Int)*(n:Int))=((b*n:Nat):Int):=by simp
 unfold mU
 rw[if_pos ⟨by omega,by rw[ah];omega,by omega⟩]
theorem uO {α:Type} {l:Nat→Int→Option Bool} {f:α→α→Option Bool} (a:List α)
  (mT:∀m i,l (m+1) i=cond (decide (i<(a.length:Int))) ((bF a i).bind fun x=>(bF a i).bind fun y=>(f x y).bind fun z=>cond (!z) (some false) (l m (IntKind.i64.wrap (i+1)))) (some true))
  (bC:∀x∈a,f x x=some true) (cE:a.length≤1048576):lim (fun m=>l m 0)=some true:=by
 rw[ra (n:=a.length) (fun _=>some true)]
 ·intro m
  rw[mT,fq (Nat.le_refl _)];rfl
 ·intro i ao m ih
  rw[mT,gP ao,gm _ i ao,gA i _ ao (by omega),ih]
  simp only[cond_true,Option.bind_some,bC _ (List.getElem_mem ao),Bool.not_true,cond_false]
theorem Qr {α:Type} {d:α→α→Bool} {l:Nat→Int→Option Bool} (a:List α)
  (mT:∀m i,l (m+1) i=cond (decide (i<(a.length:Int))) ((bF a i).bind fun x=>(bF a i).bind fun y=>cond (d x y) (some false) (l m (IntKind.i64.wrap (i+1)))) (some true))
  (aj:∀x,d x x=false) (cE:a.length≤1048576):lim (fun m=>l m 0)=some true:=by
 rw[ra (n:=a.length) (fun _=>some true)]
 ·intro m
  rw[mT,fq (Nat.le_refl _)];rfl
 ·intro i ao m ih
  rw[mT,gP ao,gm _ i ao,gA i _ ao (by omega),ih]
  simp only[cond_true,Option.bind_some,aj,cond_false]
theorem sv (x:Int):(x !=x)=false:=by simp
theorem sw (x:List UInt8):(!(x==x))=false:=by simp
theorem uP (x:Bool):(!(x==x))=false:=by simp
theorem rf (n:Nat):((n:Int) !=(n:Int))=false:=by simp
def fP (p:Nat→Bool) (n:Nat):Bool:=(List.range n).all p
theorem sx {p:Nat→Bool} {n:Nat}:fP p n=true↔∀i,i<n→p i=true:=by simp[fP]
theorem AD {l:Nat→Int→Option Bool} {n:Nat} (p:Nat→Bool) (bf:∀m,l (m+1) (n:Int)=some true)
  (ag:∀i,i<n→∀m,l (m+1) (i:Int)=cond (p i) (l m ((i+1:Nat):Int)) (some false)):lim (fun m=>l m 0)=some (fP p n):=by
 rw[ra (n:=n) (fun i=>some ((List.range' i (n-i)).all p))]
 ·simp[fP,List.range_eq_range']
 ·intro m;rw[bf];simp
 ·intro i ao m ih
  rw[ag i ao,ih,show n-i=(n-(i+1))+1 by omega,List.range'_succ]
  cases au:p i<;>simp[au]
def qv (p:Nat→Bool):Nat→Nat→Int
 |_,0=> -1
 |i,k+1=>if p i=true then(i:Int)else qv p (i+1) k
theorem Qs {p:Nat→Bool}:∀(k i:Nat),(∀j,i≤j→j<i+k→p j=false)→qv p i k= -1
 |0,_,_=>rfl
 |k+1,i,h=>by
  simp only[qv,h i (Nat.le_refl _) (by omega)]
  exact Qs k (i+1) fun j h1 ah=>h j (by omega) (by omega)
theorem Qt {p:Nat→Bool}:∀(k i j:Nat),i≤j→j<i+k→p j=true→0≤qv p i k
 |0,i,j,h1,ah,_=>by omega
 |k+1,i,j,h1,ah,aC=>by
  simp only[qv]
  split
  ·omega
  ·rename_i h
   refine Qt k (i+1) j ?_ (by omega) aC
   rcases Nat.lt_or_ge i j with h|h
   ·exact h
   ·have:i=j:=by omega
    subst this;exact absurd aC (by assumption)
theorem uQ (p:Nat→Bool) (n:Nat):decide (0≤qv p 0 n)= !(fP (fun i=> !p i) n):=by
 by_cases h:∃j,j<n∧p j=true
 ·obtain⟨j,h1,ah⟩:=h
  have aC:=Qt n 0 j (Nat.zero_le _) (by omega) ah
  have a8:fP (fun i=> !p i) n=false:=by
   rw[Bool.eq_false_iff];intro kT
   have:=sx.1 kT j h1
   simp[ah]at this
  rw[a8];simpa using aC
 ·have aC:∀j,j<n→p j=false:=fun j b_=>by
   cases au:p j
   ·rfl
   ·exact absurd ⟨j,b_,au⟩ h
  rw[Qs n 0 fun j _ ah=>aC j (by omega)]
  have a8:fP (fun i=> !p i) n=true:=sx.2 fun i ao=>by simp[aC i ao]
  rw[a8];rfl
theorem uR {l:Nat→Int→Option Int} {n:Nat} (p:Nat→Bool) (bf:∀m,l (m+1) (n:Int)=some (-1))
  (ag:∀i,i<n→∀m,l (m+1) (i:Int)=cond (p i) (some (i:Int)) (l m ((i+1:Nat):Int))):lim (fun m=>l m 0)=some (qv p 0 n):=by
 rw[ra (n:=n) (fun i=>some (qv p i (n-i)))]
 ·simp
 ·intro m;rw[bf];simp[qv]
 ·intro i ao m ih
  rw[ag i ao,ih,show n-i=(n-(i+1))+1 by omega]
  cases au:p i<;>simp[au,qv]
theorem AE (i:Nat) (h:0<i) (a6:i≤4611686018427387904):IntKind.i64.wrap ((i:Int)-1)=((i-1:Nat):Int):=by
 rw[fl _ (by omega)];omega
theorem uS:decide ((0:Int)<((0:Nat):Int))=false:=by decide
theorem IV {i:Nat} (h:i≠0):decide ((0:Int)<(i:Int))=true:=by simp;omega
theorem AF {b n:Nat} (h:n*b≤140737488355328) (ah:n≤9223372036854775807):room b n=some ():=by unfold room;rw[if_pos ⟨h,ah⟩]
end Go.eN
