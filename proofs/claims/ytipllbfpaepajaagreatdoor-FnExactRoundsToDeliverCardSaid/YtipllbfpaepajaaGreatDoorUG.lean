/- Part of a proof that a law returns true for every input. No condition. -/
import Derived.Test.YtipllbfpaepajaaGreatDoorU0
namespace Go.e3
open Go Go.b9
def kI (n:Int) (s:Nat):Int:=if(s:Int)≤n then n-s else-1
theorem FM {n:Int} {s:Nat} (h:(s:Int)≤n):kI n s=n-s:=if_pos h
theorem FN {n:Int} {s:Nat} (h:n<s):kI n s= -1:=if_neg (by omega)
theorem Xy {n:Int} (h:0≤n):kI n 0=n:=by rw[FM (by simpa using h)];simp
theorem FO {K:Option Int} {n:Int} {s t:Nat} (U:s≤9223372036854775807) (bz:0≤n) (aW:n≤1048576) (ar:(s:Int)≤n→K=some (kI (n-s) t)):
  cond (decide (IntKind.i64.wrap (n-(s:Int))<0)) (some (-1)) K=some (kI n (s+t)):=by
 rw[dn _ (by omega)]
 by_cases h:(s:Int)≤n
 ·have:decide (n-(s:Int)<0)=false:=by simp;omega
  rw[this,cond_false,ar h]
  congr 1
  unfold kI
  by_cases ad:(t:Int)≤n-s
  ·rw[if_pos ad,if_pos (by omega)];omega
  ·rw[if_neg ad,if_neg (by omega)]
 ·have:decide (n-(s:Int)<0)=true:=by simp;omega
  rw[this,cond_true,FN (by omega)]
theorem Xz {n:Int} (h:0≤n):some n=some (kI n 0):=by rw[Xy h]
def oV {α:Type} (f:α→Nat):List α→Nat
 |[]=>0
 |x::r=>f x+oV f r
theorem FP {α:Type} {f:α→Nat}:∀{l:List α} {x:α},x∈l→f x≤oV f l
 |y::r,x,h=>by
  simp only[oV]
  rcases List.mem_cons.1 h with rfl|h
  ·omega
  ·have:=FP (f:=f) h;omega
def qg {α:Type} (f:α→Nat) (l:List α):Nat:=l.length+oV f l
theorem Aa {α:Type} (f:α→Nat) (l:List α):l.length≤qg f l:=Nat.le_add_right _ _
theorem XA {α:Type} {f:α→Nat} {l:List α} {x:α} (h:x∈l):f x≤qg f l:=Nat.le_trans (FP h) (Nat.le_add_left _ _)
theorem XB {α:Type} {l:Nat→Int→Int→Option Int} {B:α→Int→(Int→Option Int)→Option Int} (sz:α→Nat) (a:List α)
  (mR:∀m n i,l (m+1) n i=cond (decide (i<(a.length:Int))) ((cF a i).bind fun x=>B x n fun y=>l m y (IntKind.i64.wrap (i+1))) (some n))
  (bh:∀x∈a,∀(n:Int) (k:Int→Option Int) (t:Nat),0≤n→n≤1048576→((sz x:Int)≤n→k (n-sz x)=some (kI (n-sz x) t))→B x n k=some (kI n (sz x+t)))
  (bQ:a.length≤1048576) (n:Int) (bz:0≤n) (aW:n≤1048576):en (fun m=>l m n 0)=some (kI n (oV sz a)):=by
 have key:∀i,i≤a.length→∀n:Int,0≤n→n≤1048576→∀m,a.length-i<m→l m n (i:Int)=some (kI n (oV sz (a.drop i))):=by
  refine down a.length ?_ ?_
  ·intro n bz _ m hm
   obtain⟨k,rfl⟩:∃k,m=k+1:=⟨m-1,by omega⟩
   rw[mR,ji (Nat.le_refl _),cond_false,List.drop_of_length_le (Nat.le_refl _)]
   exact Xz bz
  ·intro i aA ih n bz aW m hm
   obtain⟨k,rfl⟩:∃k,m=k+1:=⟨m-1,by omega⟩
   rw[mR,jh aA,cond_true,gE _ i aA,iR i _ aA (by omega),drop_cons a i aA]
   simp only[Option.bind_some,oV]
   exact bh _ (List.getElem_mem aA) n _ _ bz aW fun h=>ih _ (by omega) (by omega) k (by omega)
 refine ki (a.length+1) fun m hm=> ?_
 have:=key 0 (by omega) n bz aW m (by omega)
 simpa using this
theorem XC {l:Nat→Int→Int→Option Int} (a:List (List UInt8))
  (mR:∀m n i,l (m+1) n i=cond (decide (i<(a.length:Int))) ((cF a i).bind fun x=>cond (decide (IntKind.i64.wrap (n-(x.length:Int))<0)) (some (-1)) (l m (IntKind.i64.wrap (n-(x.length:Int))) (IntKind.i64.wrap (i+1)))) (some n))
  (bh:∀x∈a,x.length≤9223372036854775807) (bQ:a.length≤1048576) (n:Int) (bz:0≤n) (aW:n≤1048576):en (fun m=>l m n 0)=some (kI n (oV List.length a)):=
 XB (B:=fun x n k=>cond (decide (IntKind.i64.wrap (n-(x.length:Int))<0)) (some (-1)) (k (IntKind.i64.wrap (n-(x.length:Int))))) List.length a (by intro m n i;rw[mR]) (by
  intro x ao n k t bz aW ar
  have aJ:=bh x ao
  refine FO aJ bz aW fun h=> ?_
  have e:IntKind.i64.wrap (n-(x.length:Int))=n-(x.length:Int):=dn _ (by omega)
  rw[e]
  exact ar h) bQ n bz aW
theorem FQ {α β:Type} {l:Nat→List β→Int→Option (List β)} {f:α→Option β} (g:α→β) (a:List α) (z:β)
  (mR:∀m v i,l (m+1) v i=cond (decide (i<(a.length:Int))) ((cF a i).bind fun x=>(f x).bind fun y=>(cF v i).bind fun _=>l m (List.set v (Int.toNat i) y) (IntKind.i64.wrap (i+1))) (some v))
  (bh:∀x∈a,f x=some (g x)) (bQ:a.length≤1048576):en (fun m=>l m (List.replicate (Int.toNat (a.length:Int)) z) 0)=some (a.map g):=by
 have key:∀i,i≤a.length→∀(v:List β) m,v.length=a.length→a.length-i<m→l m v (i:Int)=some (v.take i++(a.drop i).map g):=by
  refine down a.length ?_ ?_
  ·intro v m aE hm
   obtain⟨k,rfl⟩:∃k,m=k+1:=⟨m-1,by omega⟩
   rw[mR,ji (Nat.le_refl _)]
   simp[←aE]
  ·intro i aA ih v m aE hm
   obtain⟨k,rfl⟩:∃k,m=k+1:=⟨m-1,by omega⟩
   rw[mR,jh aA,gE _ i aA,iR i _ aA (by omega)]
   simp only[cond_true,Option.bind_some,bh _ (List.getElem_mem aA)]
   rw[gE v i (by omega)]
   simp only[Option.bind_some,Int.toNat_natCast]
   rw[ih _ k (by simp[aE]) (by omega),drop_cons a i aA,List.map_cons,List.take_set,List.take_succ_eq_append_getElem (by omega),List.set_append_right _ _ (by simp;omega)]
   simp[show min i v.length=i by omega]
 refine ki (a.length+1) fun m hm=> ?_
 have:=key 0 (by omega) (List.replicate (Int.toNat (a.length:Int)) z) m (by simp) (by omega)
 simpa using this
theorem Ab (b:Nat) {n:Nat} (h:n≤1048576) (R:b≤4096):l3 b (n:Int)=some ():=by
 have aa:b*n≤4096*1048576:=Nat.mul_le_mul R h
 have ad:((b:Int)*(n:Int))=((b*n:Nat):Int):=by simp
 unfold l3
 rw[if_pos ⟨by omega,by rw[ad];omega,by omega⟩]
theorem FR {α:Type} {d:α→α→Bool} {l:Nat→Int→Option Bool} (a:List α)
  (mR:∀m i,l (m+1) i=cond (decide (i<(a.length:Int))) ((cF a i).bind fun x=>(cF a i).bind fun y=>cond (d x y) (some false) (l m (IntKind.i64.wrap (i+1)))) (some true))
  (ae:∀x,d x x=false) (bQ:a.length≤1048576):en (fun m=>l m 0)=some true:=by
 rw[rY (n:=a.length) (fun _=>some true)]
 ·intro m
  rw[mR,ji (Nat.le_refl _)];rfl
 ·intro i aA m ih
  rw[mR,jh aA,gE _ i aA,iR i _ aA (by omega),ih]
  simp only[cond_true,Option.bind_some,ae,cond_false]
theorem XD (x:Int):(x !=x)=false:=by simp
theorem XE (x:List UInt8):(!(x==x))=false:=by simp
theorem FT (n:Nat):((n:Int) !=(n:Int))=false:=by simp
def tZ (p:Nat→Bool) (n:Nat):Bool:=(List.range n).all p
theorem t_ {p:Nat→Bool} {n:Nat}:tZ p n=true↔∀i,i<n→p i=true:=by simp[tZ]
def mS (p:Nat→Bool):Nat→Nat→Int
 |_,0=> -1
 |i,k+1=>if p i=true then(i:Int)else mS p (i+1) k
theorem FU {p:Nat→Bool}:∀(k i:Nat),(∀j,i≤j→j<i+k→p j=false)→mS p i k= -1
 |0,_,_=>rfl
 |k+1,i,h=>by
  simp only[mS,h i (Nat.le_refl _) (by omega)]
  exact FU k (i+1) fun j aa ad=>h j (by omega) (by omega)
theorem FV {p:Nat→Bool}:∀(k i j:Nat),i≤j→j<i+k→p j=true→0≤mS p i k
 |0,i,j,aa,ad,_=>by omega
 |k+1,i,j,aa,ad,aB=>by
  simp only[mS]
  split
  ·omega
  ·rename_i h
   refine FV k (i+1) j ?_ (by omega) aB
   rcases Nat.lt_or_ge i j with h|h
   ·exact h
   ·have:i=j:=by omega
    subst this;exact absurd aB (by assumption)
theorem Ac (p:Nat→Bool) (n:Nat):decide (0≤mS p 0 n)= !(tZ (fun i=> !p i) n):=by
 by_cases h:∃j,j<n∧p j=true
 ·obtain⟨j,aa,ad⟩:=h
  have aB:=FV n 0 j (Nat.zero_le _) (by omega) ad
  have aO:tZ (fun i=> !p i) n=false:=by
   rw[Bool.eq_false_iff];intro fb
   have:=t_.1 fb j aa
   simp[ad]at this
  rw[aO];simpa using aB
 ·have aB:∀j,j<n→p j=false:=fun j bY=>by
   cases ak:p j
   ·rfl
   ·exact absurd ⟨j,bY,ak⟩ h
  rw[FU n 0 fun j _ ad=>aB j (by omega)]
  have aO:tZ (fun i=> !p i) n=true:=t_.2 fun i aA=>by simp[aB i aA]
  rw[aO];rfl
theorem Ad {l:Nat→Int→Option Int} {n:Nat} (p:Nat→Bool) (bz:∀m,l (m+1) (n:Int)=some (-1))
  (U:∀i,i<n→∀m,l (m+1) (i:Int)=cond (p i) (some (i:Int)) (l m ((i+1:Nat):Int))):en (fun m=>l m 0)=some (mS p 0 n):=by
 rw[rY (n:=n) (fun i=>some (mS p i (n-i)))]
 ·simp
 ·intro m;rw[bz];simp[mS]
 ·intro i aA m ih
  rw[U i aA,ih,show n-i=(n-(i+1))+1 by omega]
  cases ak:p i<;>simp[ak,mS]
theorem ua {α:Type} (a b c:List α) {i j:Int} (aA:i=(a.length:Int)) (bY:j=((a.length+b.length:Nat):Int)):ej (a++(b++c)) i j=some b:=by
 unfold ej
 have aF:i.toNat=a.length:=by omega
 have aI:j.toNat=a.length+b.length:=by omega
 rw[if_pos (by simp only[List.length_append];omega),aF,aI,←List.append_assoc,List.take_left' (by simp),List.drop_left' rfl]
theorem wM {b n:Nat} (h:n*b≤140737488355328) (ad:n≤9223372036854775807):room b n=some ():=by unfold room;rw[if_pos ⟨h,ad⟩]
end Go.e3
