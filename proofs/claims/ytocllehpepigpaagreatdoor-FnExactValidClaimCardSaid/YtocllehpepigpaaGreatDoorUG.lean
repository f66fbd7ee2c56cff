/- Part of a proof that a law returns true for every input. No condition. -/
import Derived.Test.YtocllehpepigpaaGreatDoorU0
namespace Go.gB
open Go Go.cI
def hO (n:Int) (s:Nat):Int:=if(s:Int)≤n then n-s else-1
theorem zY {n:Int} {s:Nat} (h:(s:Int)≤n):hO n s=n-s:=if_pos h
theorem wL {n:Int} {s:Nat} (h:n<s):hO n s= -1:=if_neg (by omega)
theorem ajX {n:Int} (h:0≤n):hO n 0=n:=by rw[zY (by simpa using h)];simp
theorem qJ {f:Option Int} {k:Int→Option Int} {n:Int} {s t:Nat} (br:f=some (hO n s)) (ax:(s:Int)≤n→k (n-s)=some (hO (n-s) t)):
  (f.bind fun x=>cond (decide (x<0)) (some (-1)) (k x))=some (hO n (s+t)):=by
 rw[br]
 simp only[Option.bind_some]
 by_cases h:(s:Int)≤n
 ·rw[zY h]
  have:decide (n-(s:Int)<0)=false:=by simp;omega
  rw[this,cond_false,ax h]
  congr 1
  unfold hO
  by_cases ag:(t:Int)≤n-s
  ·rw[if_pos ag,if_pos (by omega)];omega
  ·rw[if_neg ag,if_neg (by omega)]
 ·rw[wL (by omega)]
  have:decide ((-1:Int)<0)=true:=by decide
  rw[this,cond_true,wL (by omega)]
theorem pL {K:Option Int} {n:Int} {s t:Nat} (aa:s≤9223372036854775807) (bm:0≤n) (aV:n≤1048576) (ax:(s:Int)≤n→K=some (hO (n-s) t)):
  cond (decide (IntKind.i64.wrap (n-(s:Int))<0)) (some (-1)) K=some (hO n (s+t)):=by
 rw[e0 _ (by omega)]
 by_cases h:(s:Int)≤n
 ·have:decide (n-(s:Int)<0)=false:=by simp;omega
  rw[this,cond_false,ax h]
  congr 1
  unfold hO
  by_cases ag:(t:Int)≤n-s
  ·rw[if_pos ag,if_pos (by omega)];omega
  ·rw[if_neg ag,if_neg (by omega)]
 ·have:decide (n-(s:Int)<0)=true:=by simp;omega
  rw[this,cond_true,wL (by omega)]
theorem r4 {n:Int} (h:0≤n):some n=some (hO n 0):=by rw[ajX h]
def nK {α:Type} (f:α→Nat):List α→Nat
 |[]=>0
 |x::r=>f x+nK f r
theorem J6 {α:Type} {f:α→Nat}:∀{l:List α} {x:α},x∈l→f x≤nK f l
 |y::r,x,h=>by
  simp only[nK]
  rcases List.mem_cons.1 h with rfl|h
  ·omega
  ·have:=J6 (f:=f) h;omega
theorem J7 {α β:Type} {f:β→Nat} {g:α→β}:∀l:List α,nK f (l.map g)=nK (fun x=>f (g x)) l
 |[]=>rfl
 |x::r=>by simp only[List.map_cons,nK,J7 r]
def ha {α:Type} (f:α→Nat) (l:List α):Nat:=l.length+nK f l
theorem zZ {α β:Type} (f:β→Nat) (g:α→β) (l:List α):ha f (l.map g)=ha (fun x=>f (g x)) l:=by simp only[ha,List.length_map,J7]
theorem mw {α:Type} (f:α→Nat) (l:List α):l.length≤ha f l:=Nat.le_add_right _ _
theorem nL {α:Type} {f:α→Nat} {l:List α} {x:α} (h:x∈l):f x≤ha f l:=Nat.le_trans (J6 h) (Nat.le_add_left _ _)
theorem J8 {α:Type} {l:Nat→Int→Int→Option Int} {B:α→Int→(Int→Option Int)→Option Int} (sz:α→Nat) (a:List α)
  (l4:∀m n i,l (m+1) n i=cond (decide (i<(a.length:Int))) ((bX a i).bind fun x=>B x n fun y=>l m y (IntKind.i64.wrap (i+1))) (some n))
  (br:∀x∈a,∀(n:Int) (k:Int→Option Int) (t:Nat),0≤n→n≤1048576→((sz x:Int)≤n→k (n-sz x)=some (hO (n-sz x) t))→B x n k=some (hO n (sz x+t)))
  (cb:a.length≤1048576) (n:Int) (bm:0≤n) (aV:n≤1048576):cY (fun m=>l m n 0)=some (hO n (nK sz a)):=by
 have key:∀i,i≤a.length→∀n:Int,0≤n→n≤1048576→∀m,a.length-i<m→l m n (i:Int)=some (hO n (nK sz (a.drop i))):=by
  refine down a.length ?_ ?_
  ·intro n bm _ m hm
   obtain⟨k,rfl⟩:∃k,m=k+1:=⟨m-1,by omega⟩
   rw[l4,iC (Nat.le_refl _),cond_false,List.drop_of_length_le (Nat.le_refl _)]
   exact r4 bm
  ·intro i ay ih n bm aV m hm
   obtain⟨k,rfl⟩:∃k,m=k+1:=⟨m-1,by omega⟩
   rw[l4,iB ay,cond_true,fy _ i ay,h1 i _ ay (by omega),drop_cons a i ay]
   simp only[Option.bind_some,nK]
   exact br _ (List.getElem_mem ay) n _ _ bm aV fun h=>ih _ (by omega) (by omega) k (by omega)
 refine j8 (a.length+1) fun m hm=> ?_
 have:=key 0 (by omega) n bm aV m (by omega)
 simpa using this
theorem z1 {α:Type} {l:Nat→Int→Int→Option Int} {f:α→Int→Option Int} (sz:α→Nat) (a:List α)
  (l4:∀m n i,l (m+1) n i=cond (decide (i<(a.length:Int))) ((bX a i).bind fun x=>(f x n).bind fun y=>cond (decide (y<0)) (some (-1)) (l m y (IntKind.i64.wrap (i+1)))) (some n))
  (br:∀x∈a,∀n:Int,0≤n→n≤1048576→f x n=some (hO n (sz x))) (cb:a.length≤1048576) (n:Int) (bm:0≤n) (aV:n≤1048576):cY (fun m=>l m n 0)=some (hO n (nK sz a)):=
 J8 (B:=fun x n k=>(f x n).bind fun y=>cond (decide (y<0)) (some (-1)) (k y)) sz a l4 (fun x ai n _ _ bm aV ax=>qJ (br x ai n bm aV) ax) cb n bm aV
theorem ajY {l:Nat→Int→Int→Option Int} (a:List (List UInt8))
  (l4:∀m n i,l (m+1) n i=cond (decide (i<(a.length:Int))) ((bX a i).bind fun x=>cond (decide (IntKind.i64.wrap (n-(x.length:Int))<0)) (some (-1)) (l m (IntKind.i64.wrap (n-(x.length:Int))) (IntKind.i64.wrap (i+1)))) (some n))
  (br:∀x∈a,x.length≤9223372036854775807) (cb:a.length≤1048576) (n:Int) (bm:0≤n) (aV:n≤1048576):cY (fun m=>l m n 0)=some (hO n (nK List.length a)):=
 J8 (B:=fun x n k=>cond (decide (IntKind.i64.wrap (n-(x.length:Int))<0)) (some (-1)) (k (IntKind.i64.wrap (n-(x.length:Int))))) List.length a (by intro m n i;rw[l4]) (by
  intro x ai n k t bm aV ax
  have aO:=br x ai
  refine pL aO bm aV fun h=> ?_
  have e:IntKind.i64.wrap (n-(x.length:Int))=n-(x.length:Int):=e0 _ (by omega)
  rw[e]
  exact ax h) cb n bm aV
theorem r5 {α β:Type} {l:Nat→List β→Int→Option (List β)} {f:α→Option β} (g:α→β) (a:List α) (z:β)
  (l4:∀m v i,l (m+1) v i=cond (decide (i<(a.length:Int))) ((bX a i).bind fun x=>(f x).bind fun y=>(bX v i).bind fun _=>l m (List.set v (Int.toNat i) y) (IntKind.i64.wrap (i+1))) (some v))
  (br:∀x∈a,f x=some (g x)) (cb:a.length≤1048576):cY (fun m=>l m (List.replicate (Int.toNat (a.length:Int)) z) 0)=some (a.map g):=by
 have key:∀i,i≤a.length→∀(v:List β) m,v.length=a.length→a.length-i<m→l m v (i:Int)=some (v.take i++(a.drop i).map g):=by
  refine down a.length ?_ ?_
  ·intro v m aI hm
   obtain⟨k,rfl⟩:∃k,m=k+1:=⟨m-1,by omega⟩
   rw[l4,iC (Nat.le_refl _)]
   simp[←aI]
  ·intro i ay ih v m aI hm
   obtain⟨k,rfl⟩:∃k,m=k+1:=⟨m-1,by omega⟩
   rw[l4,iB ay,fy _ i ay,h1 i _ ay (by omega)]
   simp only[cond_true,Option.bind_some,br _ (List.getElem_mem ay)]
   rw[fy v i (by omega)]
   simp only[Option.bind_some,Int.toNat_natCast]
   rw[ih _ k (by simp[aI]) (by omega),drop_cons a i ay,List.map_cons,List.take_set,List.take_succ_eq_append_getElem (by omega),List.set_append_right _ _ (by simp;omega)]
   simp[show min i v.length=i by omega]
 refine j8 (a.length+1) fun m hm=> ?_
 have:=key 0 (by omega) (List.replicate (Int.toNat (a.length:Int)) z) m (by simp) (by omega)
 simpa using this
theorem qK (b:Nat) {n:Nat} (h:n≤1048576) (U:b≤4096):lz b (n:Int)=some ():=by
 have ad:b*n≤4096*1048576:=Nat.mul_le_mul U h
 have ag:((b:Int)*(n:Int))=((b*n:Nat):Int):=by simp
 unfold lz
 rw[if_pos ⟨by omega,by rw[ag];omega,by omega⟩]
theorem wM {α:Type} {l:Nat→Int→Option Bool} {f:α→α→Option Bool} (a:List α)
  (l4:∀m i,l (m+1) i=cond (decide (i<(a.length:Int))) ((bX a i).bind fun x=>(bX a i).bind fun y=>(f x y).bind fun z=>cond (!z) (some false) (l m (IntKind.i64.wrap (i+1)))) (some true))
  (br:∀x∈a,f x x=some true) (cb:a.length≤1048576):cY (fun m=>l m 0)=some true:=by
 rw[wK (n:=a.length) (fun _=>some true)]
 ·intro m
  rw[l4,iC (Nat.le_refl _)];rfl
 ·intro i ay m ih
  rw[l4,iB ay,fy _ i ay,h1 i _ ay (by omega),ih]
  simp only[cond_true,Option.bind_some,br _ (List.getElem_mem ay),Bool.not_true,cond_false]
theorem J9 {α:Type} {d:α→α→Bool} {l:Nat→Int→Option Bool} (a:List α)
  (l4:∀m i,l (m+1) i=cond (decide (i<(a.length:Int))) ((bX a i).bind fun x=>(bX a i).bind fun y=>cond (d x y) (some false) (l m (IntKind.i64.wrap (i+1)))) (some true))
  (ah:∀x,d x x=false) (cb:a.length≤1048576):cY (fun m=>l m 0)=some true:=by
 rw[wK (n:=a.length) (fun _=>some true)]
 ·intro m
  rw[l4,iC (Nat.le_refl _)];rfl
 ·intro i ay m ih
  rw[l4,iB ay,fy _ i ay,h1 i _ ay (by omega),ih]
  simp only[cond_true,Option.bind_some,ah,cond_false]
theorem tZ (x:Int):(x !=x)=false:=by simp
theorem t_ (x:List UInt8):(!(x==x))=false:=by simp
theorem wN (x:Bool):(!(x==x))=false:=by simp
theorem r6 (n:Nat):((n:Int) !=(n:Int))=false:=by simp
def wO (p:Nat→Bool) (n:Nat):Bool:=(List.range n).all p
theorem DO {p:Nat→Bool} {n:Nat}:wO p n=true↔∀i,i<n→p i=true:=by simp[wO]
def lx (p:Nat→Bool):Nat→Nat→Int
 |_,0=> -1
 |i,k+1=>if p i=true then(i:Int)else lx p (i+1) k
theorem J_ {p:Nat→Bool}:∀(k i:Nat),(∀j,i≤j→j<i+k→p j=false)→lx p i k= -1
 |0,_,_=>rfl
 |k+1,i,h=>by
  simp only[lx,h i (Nat.le_refl _) (by omega)]
  exact J_ k (i+1) fun j ad ag=>h j (by omega) (by omega)
theorem Ka {p:Nat→Bool}:∀(k i j:Nat),i≤j→j<i+k→p j=true→0≤lx p i k
 |0,i,j,ad,ag,_=>by omega
 |k+1,i,j,ad,ag,aF=>by
  simp only[lx]
  split
  ·omega
  ·rename_i h
   refine Ka k (i+1) j ?_ (by omega) aF
   rcases Nat.lt_or_ge i j with h|h
   ·exact h
   ·have:i=j:=by omega
    subst this;exact absurd aF (by assumption)
theorem ajZ (p:Nat→Bool) (n:Nat):decide (0≤lx p 0 n)= !(wO (fun i=> !p i) n):=by
 by_cases h:∃j,j<n∧p j=true
 ·obtain⟨j,ad,ag⟩:=h
  have aF:=Ka n 0 j (Nat.zero_le _) (by omega) ag
  have a8:wO (fun i=> !p i) n=false:=by
   rw[Bool.eq_false_iff];intro hD
   have:=DO.1 hD j ad
   simp[ag]at this
  rw[a8];simpa using aF
 ·have aF:∀j,j<n→p j=false:=fun j b6=>by
   cases ao:p j
   ·rfl
   ·exact absurd ⟨j,b6,ao⟩ h
  rw[J_ n 0 fun j _ ag=>aF j (by omega)]
  have a8:wO (fun i=> !p i) n=true:=DO.2 fun i ay=>by simp[aF i ay]
  rw[a8];rfl
theorem DP {l:Nat→Int→Option Int} {n:Nat} (p:Nat→Bool) (bm:∀m,l (m+1) (n:Int)=some (-1))
  (aa:∀i,i<n→∀m,l (m+1) (i:Int)=cond (p i) (some (i:Int)) (l m ((i+1:Nat):Int))):cY (fun m=>l m 0)=some (lx p 0 n):=by
 rw[wK (n:=n) (fun i=>some (lx p i (n-i)))]
 ·simp
 ·intro m;rw[bm];simp[lx]
 ·intro i ay m ih
  rw[aa i ay,ih,show n-i=(n-(i+1))+1 by omega]
  cases ao:p i<;>simp[ao,lx]
theorem ua {α:Type} (a b c:List α) {i j:Int} (ay:i=(a.length:Int)) (b6:j=((a.length+b.length:Nat):Int)):e1 (a++(b++c)) i j=some b:=by
 unfold e1
 have aT:i.toNat=a.length:=by omega
 have aX:j.toNat=a.length+b.length:=by omega
 rw[if_pos (by simp only[List.length_append];omega),aT,aX,←List.append_assoc,List.take_left' (by simp),List.drop_left' rfl]
theorem z6 {b n:Nat} (h:n*b≤140737488355328) (ag:n≤9223372036854775807):room b n=some ():=by unfold room;rw[if_pos ⟨h,ag⟩]
end Go.gB
