/- Part of a proof that a law returns true for every input. No condition. -/
import Derived.Test.YtipllbfpaepajaaGreatDoorU0
namespace Go.ff
open Go Go.ca
def lx (n:Int) (s:Nat):Int:=if(s:Int)≤n then n-s else-1
theorem GK {n:Int} {s:Nat} (h:(s:Int)≤n):lx n s=n-s:=if_pos h
theorem GL {n:Int} {s:Nat} (h:n<s):lx n s= -1:=if_neg (by omega)
theorem Z2 {n:Int} (h:0≤n):lx n 0=n:=by rw[GK (by simpa using h)];simp
theorem GM {K:Option Int} {n:Int} {s t:Nat} (U:s≤9223372036854775807) (bm:0≤n) (aW:n≤1048576) (al:(s:Int)≤n→K=some (lx (n-s) t)):
  cond (decide (IntKind.i64.wrap (n-(s:Int))<0)) (some (-1)) K=some (lx n (s+t)):=by
 rw[dq _ (by omega)]
 by_cases h:(s:Int)≤n
 ·have:decide (n-(s:Int)<0)=false:=by simp;omega
  rw[this,cond_false,al h]
  congr 1
  unfold lx
  by_cases ad:(t:Int)≤n-s
  ·rw[if_pos ad,if_pos (by omega)];omega
  ·rw[if_neg ad,if_neg (by omega)]
 ·have:decide (n-(s:Int)<0)=true:=by simp;omega
  rw[this,cond_true,GL (by omega)]
theorem Z3 {n:Int} (h:0≤n):some n=some (lx n 0):=by rw[Z2 h]
def fq {α:Type} (f:α→Nat):List α→Nat
 |[]=>0
 |x::r=>f x+fq f r
theorem GN {α:Type} {f:α→Nat}:∀{l:List α} {x:α},x∈l→f x≤fq f l
 |y::r,x,h=>by
  simp only[fq]
  rcases List.mem_cons.1 h with rfl|h
  ·omega
  ·have:=GN (f:=f) h;omega
def iq {α:Type} (f:α→Nat) (l:List α):Nat:=l.length+fq f l
theorem xx {α:Type} (f:α→Nat) (l:List α):l.length≤iq f l:=Nat.le_add_right _ _
theorem Z4 {α:Type} {f:α→Nat} {l:List α} {x:α} (h:x∈l):f x≤iq f l:=Nat.le_trans (GN h) (Nat.le_add_left _ _)
theorem Z5 {α:Type} {l:Nat→Int→Int→Option Int} {B:α→Int→(Int→Option Int)→Option Int} (sz:α→Nat) (a:List α)
  (ny:∀m n i,l (m+1) n i=cond (decide (i<(a.length:Int))) ((cD a i).bind fun x=>B x n fun y=>l m y (IntKind.i64.wrap (i+1))) (some n))
  (bk:∀x∈a,∀(n:Int) (k:Int→Option Int) (t:Nat),0≤n→n≤1048576→((sz x:Int)≤n→k (n-sz x)=some (lx (n-sz x) t))→B x n k=some (lx n (sz x+t)))
  (bT:a.length≤1048576) (n:Int) (bm:0≤n) (aW:n≤1048576):dG (fun m=>l m n 0)=some (lx n (fq sz a)):=by
 have key:∀i,i≤a.length→∀n:Int,0≤n→n≤1048576→∀m,a.length-i<m→l m n (i:Int)=some (lx n (fq sz (a.drop i))):=by
  refine down a.length ?_ ?_
  ·intro n bm _ m hm
   obtain⟨k,rfl⟩:∃k,m=k+1:=⟨m-1,by omega⟩
   rw[ny,im (Nat.le_refl _),cond_false,List.drop_of_length_le (Nat.le_refl _)]
   exact Z3 bm
  ·intro i aA ih n bm aW m hm
   obtain⟨k,rfl⟩:∃k,m=k+1:=⟨m-1,by omega⟩
   rw[ny,jJ aA,cond_true,gJ _ i aA,jo i _ aA (by omega),drop_cons a i aA]
   simp only[Option.bind_some,fq]
   exact bk _ (List.getElem_mem aA) n _ _ bm aW fun h=>ih _ (by omega) (by omega) k (by omega)
 refine iQ (a.length+1) fun m hm=> ?_
 have:=key 0 (by omega) n bm aW m (by omega)
 simpa using this
theorem Z6 {l:Nat→Int→Int→Option Int} (a:List (List UInt8))
  (ny:∀m n i,l (m+1) n i=cond (decide (i<(a.length:Int))) ((cD a i).bind fun x=>cond (decide (IntKind.i64.wrap (n-(x.length:Int))<0)) (some (-1)) (l m (IntKind.i64.wrap (n-(x.length:Int))) (IntKind.i64.wrap (i+1)))) (some n))
  (bk:∀x∈a,x.length≤9223372036854775807) (bT:a.length≤1048576) (n:Int) (bm:0≤n) (aW:n≤1048576):dG (fun m=>l m n 0)=some (lx n (fq List.length a)):=
 Z5 (B:=fun x n k=>cond (decide (IntKind.i64.wrap (n-(x.length:Int))<0)) (some (-1)) (k (IntKind.i64.wrap (n-(x.length:Int))))) List.length a (by intro m n i;rw[ny]) (by
  intro x aq n k t bm aW al
  have hl:=bk x aq
  refine GM hl bm aW fun h=> ?_
  have e:IntKind.i64.wrap (n-(x.length:Int))=n-(x.length:Int):=dq _ (by omega)
  rw[e]
  exact al h) bT n bm aW
theorem GO {α β:Type} {l:Nat→List β→Int→Option (List β)} {f:α→Option β} (g:α→β) (a:List α) (z:β)
  (ny:∀m v i,l (m+1) v i=cond (decide (i<(a.length:Int))) ((cD a i).bind fun x=>(f x).bind fun y=>(cD v i).bind fun _=>l m (List.set v (Int.toNat i) y) (IntKind.i64.wrap (i+1))) (some v))
  (bk:∀x∈a,f x=some (g x)) (bT:a.length≤1048576):dG (fun m=>l m (List.replicate (Int.toNat (a.length:Int)) z) 0)=some (a.map g):=by
 have key:∀i,i≤a.length→∀(v:List β) m,v.length=a.length→a.length-i<m→l m v (i:Int)=some (v.take i++(a.drop i).map g):=by
  refine down a.length ?_ ?_
  ·intro v m aG hm
   obtain⟨k,rfl⟩:∃k,m=k+1:=⟨m-1,by omega⟩
   rw[ny,im (Nat.le_refl _)]
   simp[←aG]
  ·intro i aA ih v m aG hm
   obtain⟨k,rfl⟩:∃k,m=k+1:=⟨m-1,by omega⟩
   rw[ny,jJ aA,gJ _ i aA,jo i _ aA (by omega)]
   simp only[cond_true,Option.bind_some,bk _ (List.getElem_mem aA)]
   rw[gJ v i (by omega)]
   simp only[Option.bind_some,Int.toNat_natCast]
   rw[ih _ k (by simp[aG]) (by omega),drop_cons a i aA,List.map_cons,List.take_set,List.take_succ_eq_append_getElem (by omega),List.set_append_right _ _ (by simp;omega)]
   simp[show min i v.length=i by omega]
 refine iQ (a.length+1) fun m hm=> ?_
 have:=key 0 (by omega) (List.replicate (Int.toNat (a.length:Int)) z) m (by simp) (by omega)
 simpa using this
theorem AR (b:Nat) {n:Nat} (h:n≤1048576) (R:b≤4096):mF b (n:Int)=some ():=by
 have ab:b*n≤4096*1048576:=Nat.mul_le_mul R h
 have ad:((b:Int)*(n:Int))=((b*n:Nat):Int):=by simp
 unfold mF
 rw[if_pos ⟨by omega,by rw[ad];omega,by omega⟩]
theorem GP {α:Type} {d:α→α→Bool} {l:Nat→Int→Option Bool} (a:List α)
  (ny:∀m i,l (m+1) i=cond (decide (i<(a.length:Int))) ((cD a i).bind fun x=>(cD a i).bind fun y=>cond (d x y) (some false) (l m (IntKind.i64.wrap (i+1)))) (some true))
  (ae:∀x,d x x=false) (bT:a.length≤1048576):dG (fun m=>l m 0)=some true:=by
 rw[su (n:=a.length) (fun _=>some true)]
 ·intro m
  rw[ny,im (Nat.le_refl _)];rfl
 ·intro i aA m ih
  rw[ny,jJ aA,gJ _ i aA,jo i _ aA (by omega),ih]
  simp only[cond_true,Option.bind_some,ae,cond_false]
theorem Z7 (x:Int):(x !=x)=false:=by simp
theorem Z8 (x:List UInt8):(!(x==x))=false:=by simp
theorem GQ (n:Nat):((n:Int) !=(n:Int))=false:=by simp
def uP (p:Nat→Bool) (n:Nat):Bool:=(List.range n).all p
theorem uQ {p:Nat→Bool} {n:Nat}:uP p n=true↔∀i,i<n→p i=true:=by simp[uP]
def nz (p:Nat→Bool):Nat→Nat→Int
 |_,0=> -1
 |i,k+1=>if p i=true then(i:Int)else nz p (i+1) k
theorem GR {p:Nat→Bool}:∀(k i:Nat),(∀j,i≤j→j<i+k→p j=false)→nz p i k= -1
 |0,_,_=>rfl
 |k+1,i,h=>by
  simp only[nz,h i (Nat.le_refl _) (by omega)]
  exact GR k (i+1) fun j ab ad=>h j (by omega) (by omega)
theorem GS {p:Nat→Bool}:∀(k i j:Nat),i≤j→j<i+k→p j=true→0≤nz p i k
 |0,i,j,ab,ad,_=>by omega
 |k+1,i,j,ab,ad,aB=>by
  simp only[nz]
  split
  ·omega
  ·rename_i h
   refine GS k (i+1) j ?_ (by omega) aB
   rcases Nat.lt_or_ge i j with h|h
   ·exact h
   ·have:i=j:=by omega
    subst this;exact absurd aB (by assumption)
theorem AU (p:Nat→Bool) (n:Nat):decide (0≤nz p 0 n)= !(uP (fun i=> !p i) n):=by
 by_cases h:∃j,j<n∧p j=true
 ·obtain⟨j,ab,ad⟩:=h
  have aB:=GS n 0 j (Nat.zero_le _) (by omega) ad
  have aR:uP (fun i=> !p i) n=false:=by
   rw[Bool.eq_false_iff];intro fu
   have:=uQ.1 fu j ab
   simp[ad]at this
  rw[aR];simpa using aB
 ·have aB:∀j,j<n→p j=false:=fun j b2=>by
   cases ak:p j
   ·rfl
   ·exact absurd ⟨j,b2,ak⟩ h
  rw[GR n 0 fun j _ ad=>aB j (by omega)]
  have aR:uP (fun i=> !p i) n=true:=uQ.2 fun i aA=>by simp[aB i aA]
  rw[aR];rfl
theorem AV {l:Nat→Int→Option Int} {n:Nat} (p:Nat→Bool) (bm:∀m,l (m+1) (n:Int)=some (-1))
  (U:∀i,i<n→∀m,l (m+1) (i:Int)=cond (p i) (some (i:Int)) (l m ((i+1:Nat):Int))):dG (fun m=>l m 0)=some (nz p 0 n):=by
 rw[su (n:=n) (fun i=>some (nz p i (n-i)))]
 ·simp
 ·intro m;rw[bm];simp[nz]
 ·intro i aA m ih
  rw[U i aA,ih,show n-i=(n-(i+1))+1 by omega]
  cases ak:p i<;>simp[ak,nz]
theorem uR {α:Type} (a b c:List α) {i j:Int} (aA:i=(a.length:Int)) (b2:j=((a.length+b.length:Nat):Int)):ea (a++(b++c)) i j=some b:=by
 unfold ea
 have aH:i.toNat=a.length:=by omega
 have aJ:j.toNat=a.length+b.length:=by omega
 rw[if_pos (by simp only[List.length_append];omega),aH,aJ,←List.append_assoc,List.take_left' (by simp),List.drop_left' rfl]
theorem sv {b n:Nat} (h:n*b≤140737488355328) (ad:n≤9223372036854775807):room b n=some ():=by unfold room;rw[if_pos ⟨h,ad⟩]
end Go.ff
