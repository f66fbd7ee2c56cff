/- Part of a proof that a law returns true for every input. No condition. -/
import Derived.Test.YtikimdcnadipbaaGreatDoorU0
namespace Go.eL
open Go Go.bZ
def hL (n:Int) (s:Nat):Int:=if(s:Int)≤n then n-s else-1
theorem zR {n:Int} {s:Nat} (h:(s:Int)≤n):hL n s=n-s:=if_pos h
theorem wC {n:Int} {s:Nat} (h:n<s):hL n s= -1:=if_neg (by omega)
theorem WX {n:Int} (h:0≤n):hL n 0=n:=by rw[zR (by simpa using h)];simp
theorem WY {f:Option Int} {k:Int→Option Int} {n:Int} {s t:Nat} (bc:f=some (hL n s)) (al:(s:Int)≤n→k (n-s)=some (hL (n-s) t)):
  (f.bind fun x=>cond (decide (x<0)) (some (-1)) (k x))=some (hL n (s+t)):=by
 rw[bc]
 simp only[Option.bind_some]
 by_cases h:(s:Int)≤n
 ·rw[zR h]
  have:decide (n-(s:Int)<0)=false:=by simp;omega
  rw[this,cond_false,al h]
  congr 1
  unfold hL
  by_cases ab:(t:Int)≤n-s
  ·rw[if_pos ab,if_pos (by omega)];omega
  ·rw[if_neg ab,if_neg (by omega)]
 ·rw[wC (by omega)]
  have:decide ((-1:Int)<0)=true:=by decide
  rw[this,cond_true,wC (by omega)]
theorem FF {K:Option Int} {n:Int} {s t:Nat} (U:s≤9223372036854775807) (bl:0≤n) (aQ:n≤1048576) (al:(s:Int)≤n→K=some (hL (n-s) t)):
  cond (decide (IntKind.i64.wrap (n-(s:Int))<0)) (some (-1)) K=some (hL n (s+t)):=by
 rw[eO _ (by omega)]
 by_cases h:(s:Int)≤n
 ·have:decide (n-(s:Int)<0)=false:=by simp;omega
  rw[this,cond_false,al h]
  congr 1
  unfold hL
  by_cases ab:(t:Int)≤n-s
  ·rw[if_pos ab,if_pos (by omega)];omega
  ·rw[if_neg ab,if_neg (by omega)]
 ·have:decide (n-(s:Int)<0)=true:=by simp;omega
  rw[this,cond_true,wC (by omega)]
theorem FG {n:Int} (h:0≤n):some n=some (hL n 0):=by rw[WX h]
def lW {α:Type} (f:α→Nat):List α→Nat
 |[]=>0
 |x::r=>f x+lW f r
theorem FH {α:Type} {f:α→Nat}:∀{l:List α} {x:α},x∈l→f x≤lW f l
 |y::r,x,h=>by
  simp only[lW]
  rcases List.mem_cons.1 h with rfl|h
  ·omega
  ·have:=FH (f:=f) h;omega
theorem FI {α β:Type} {f:β→Nat} {g:α→β}:∀l:List α,lW f (l.map g)=lW (fun x=>f (g x)) l
 |[]=>rfl
 |x::r=>by simp only[List.map_cons,lW,FI r]
def lk {α:Type} (f:α→Nat) (l:List α):Nat:=l.length+lW f l
theorem FJ {α β:Type} (f:β→Nat) (g:α→β) (l:List α):lk f (l.map g)=lk (fun x=>f (g x)) l:=by simp only[lk,List.length_map,FI]
theorem zS {α:Type} (f:α→Nat) (l:List α):l.length≤lk f l:=Nat.le_add_right _ _
theorem zT {α:Type} {f:α→Nat} {l:List α} {x:α} (h:x∈l):f x≤lk f l:=Nat.le_trans (FH h) (Nat.le_add_left _ _)
theorem WZ {α:Type} {l:Nat→Int→Int→Option Int} {B:α→Int→(Int→Option Int)→Option Int} (sz:α→Nat) (a:List α)
  (mJ:∀m n i,l (m+1) n i=cond (decide (i<(a.length:Int))) ((c1 a i).bind fun x=>B x n fun y=>l m y (IntKind.i64.wrap (i+1))) (some n))
  (bc:∀x∈a,∀(n:Int) (k:Int→Option Int) (t:Nat),0≤n→n≤1048576→((sz x:Int)≤n→k (n-sz x)=some (hL (n-sz x) t))→B x n k=some (hL n (sz x+t)))
  (br:a.length≤1048576) (n:Int) (bl:0≤n) (aQ:n≤1048576):dT (fun m=>l m n 0)=some (hL n (lW sz a)):=by
 have key:∀i,i≤a.length→∀n:Int,0≤n→n≤1048576→∀m,a.length-i<m→l m n (i:Int)=some (hL n (lW sz (a.drop i))):=by
  refine down a.length ?_ ?_
  ·intro n bl _ m hm
   obtain⟨k,rfl⟩:∃k,m=k+1:=⟨m-1,by omega⟩
   rw[mJ,je (Nat.le_refl _),cond_false,List.drop_of_length_le (Nat.le_refl _)]
   exact FG bl
  ·intro i ay ih n bl aQ m hm
   obtain⟨k,rfl⟩:∃k,m=k+1:=⟨m-1,by omega⟩
   rw[mJ,jd ay,cond_true,gP _ i ay,iH i _ ay (by omega),drop_cons a i ay]
   simp only[Option.bind_some,lW]
   exact bc _ (List.getElem_mem ay) n _ _ bl aQ fun h=>ih _ (by omega) (by omega) k (by omega)
 refine hM (a.length+1) fun m hm=> ?_
 have:=key 0 (by omega) n bl aQ m (by omega)
 simpa using this
theorem W0 {α:Type} {l:Nat→Int→Int→Option Int} {f:α→Int→Option Int} (sz:α→Nat) (a:List α)
  (mJ:∀m n i,l (m+1) n i=cond (decide (i<(a.length:Int))) ((c1 a i).bind fun x=>(f x n).bind fun y=>cond (decide (y<0)) (some (-1)) (l m y (IntKind.i64.wrap (i+1)))) (some n))
  (bc:∀x∈a,∀n:Int,0≤n→n≤1048576→f x n=some (hL n (sz x))) (br:a.length≤1048576) (n:Int) (bl:0≤n) (aQ:n≤1048576):dT (fun m=>l m n 0)=some (hL n (lW sz a)):=
 WZ (B:=fun x n k=>(f x n).bind fun y=>cond (decide (y<0)) (some (-1)) (k y)) sz a mJ (fun x ai n _ _ bl aQ al=>WY (bc x ai n bl aQ) al) br n bl aQ
theorem W1 {α β:Type} {l:Nat→List β→Int→Option (List β)} {f:α→Option β} (g:α→β) (a:List α) (z:β)
  (mJ:∀m v i,l (m+1) v i=cond (decide (i<(a.length:Int))) ((c1 a i).bind fun x=>(f x).bind fun y=>(c1 v i).bind fun _=>l m (List.set v (Int.toNat i) y) (IntKind.i64.wrap (i+1))) (some v))
  (bc:∀x∈a,f x=some (g x)) (br:a.length≤1048576):dT (fun m=>l m (List.replicate (Int.toNat (a.length:Int)) z) 0)=some (a.map g):=by
 have key:∀i,i≤a.length→∀(v:List β) m,v.length=a.length→a.length-i<m→l m v (i:Int)=some (v.take i++(a.drop i).map g):=by
  refine down a.length ?_ ?_
  ·intro v m aD hm
   obtain⟨k,rfl⟩:∃k,m=k+1:=⟨m-1,by omega⟩
   rw[mJ,je (Nat.le_refl _)]
   simp[←aD]
  ·intro i ay ih v m aD hm
   obtain⟨k,rfl⟩:∃k,m=k+1:=⟨m-1,by omega⟩
   rw[mJ,jd ay,gP _ i ay,iH i _ ay (by omega)]
   simp only[cond_true,Option.bind_some,bc _ (List.getElem_mem ay)]
   rw[gP v i (by omega)]
   simp only[Option.bind_some,Int.toNat_natCast]
   rw[ih _ k (by simp[aD]) (by omega),drop_cons a i ay,List.map_cons,List.take_set,List.take_succ_eq_append_getElem (by omega),List.set_append_right _ _ (by simp;omega)]
   simp[show min i v.length=i by omega]
 refine hM (a.length+1) fun m hm=> ?_
 have:=key 0 (by omega) (List.replicate (Int.toNat (a.length:Int)) z) m (by simp) (by omega)
 simpa using this
theorem zU (b:Nat) {n:Nat} (h:n≤1048576) (J:b≤4096):mM b (n:Int)=some ():=by
 have aa:b*n≤4096*1048576:=Nat.mul_le_mul J h
 have ab:((b:Int)*(n:Int))=((b*n:Nat):Int):=by simp
 unfold mM
 rw[if_pos ⟨by omega,by rw[ab];omega,by omega⟩]
theorem W2 {α:Type} {l:Nat→Int→Option Bool} {f:α→α→Option Bool} (a:List α)
  (mJ:∀m i,l (m+1) i=cond (decide (i<(a.length:Int))) ((c1 a i).bind fun x=>(c1 a i).bind fun y=>(f x y).bind fun z=>cond (!z) (some false) (l m (IntKind.i64.wrap (i+1)))) (some true))
  (bc:∀x∈a,f x x=some true) (br:a.length≤1048576):dT (fun m=>l m 0)=some true:=by
 rw[tK (n:=a.length) (fun _=>some true)]
 ·intro m
  rw[mJ,je (Nat.le_refl _)];rfl
 ·intro i ay m ih
  rw[mJ,jd ay,gP _ i ay,iH i _ ay (by omega),ih]
  simp only[cond_true,Option.bind_some,bc _ (List.getElem_mem ay),Bool.not_true,cond_false]
theorem W3 (x:Int):(x !=x)=false:=by simp
theorem W4 (x:List UInt8):(!(x==x))=false:=by simp
theorem W5 (x:Bool):(!(x==x))=false:=by simp
theorem W6 (n:Nat):((n:Int) !=(n:Int))=false:=by simp
def rF (p:Nat→Bool) (n:Nat):Bool:=(List.range n).all p
theorem wD {p:Nat→Bool} {n:Nat}:rF p n=true↔∀i,i<n→p i=true:=by simp[rF]
def mK (p:Nat→Bool):Nat→Nat→Int
 |_,0=> -1
 |i,k+1=>if p i=true then(i:Int)else mK p (i+1) k
theorem FK {p:Nat→Bool}:∀(k i:Nat),(∀j,i≤j→j<i+k→p j=false)→mK p i k= -1
 |0,_,_=>rfl
 |k+1,i,h=>by
  simp only[mK,h i (Nat.le_refl _) (by omega)]
  exact FK k (i+1) fun j aa ab=>h j (by omega) (by omega)
theorem FL {p:Nat→Bool}:∀(k i j:Nat),i≤j→j<i+k→p j=true→0≤mK p i k
 |0,i,j,aa,ab,_=>by omega
 |k+1,i,j,aa,ab,aB=>by
  simp only[mK]
  split
  ·omega
  ·rename_i h
   refine FL k (i+1) j ?_ (by omega) aB
   rcases Nat.lt_or_ge i j with h|h
   ·exact h
   ·have:i=j:=by omega
    subst this;exact absurd aB (by assumption)
theorem FM (p:Nat→Bool) (n:Nat):decide (0≤mK p 0 n)= !(rF (fun i=> !p i) n):=by
 by_cases h:∃j,j<n∧p j=true
 ·obtain⟨j,aa,ab⟩:=h
  have aB:=FL n 0 j (Nat.zero_le _) (by omega) ab
  have aP:rF (fun i=> !p i) n=false:=by
   rw[Bool.eq_false_iff];intro fs
   have:=wD.1 fs j aa
   simp[ab]at this
  rw[aP];simpa using aB
 ·have aB:∀j,j<n→p j=false:=fun j bE=>by
   cases ah:p j
   ·rfl
   ·exact absurd ⟨j,bE,ah⟩ h
  rw[FK n 0 fun j _ ab=>aB j (by omega)]
  have aP:rF (fun i=> !p i) n=true:=wD.2 fun i ay=>by simp[aB i ay]
  rw[aP];rfl
theorem FN {l:Nat→Int→Option Int} {n:Nat} (p:Nat→Bool) (bl:∀m,l (m+1) (n:Int)=some (-1))
  (U:∀i,i<n→∀m,l (m+1) (i:Int)=cond (p i) (some (i:Int)) (l m ((i+1:Nat):Int))):dT (fun m=>l m 0)=some (mK p 0 n):=by
 rw[tK (n:=n) (fun i=>some (mK p i (n-i)))]
 ·simp
 ·intro m;rw[bl];simp[mK]
 ·intro i ay m ih
  rw[U i ay,ih,show n-i=(n-(i+1))+1 by omega]
  cases ah:p i<;>simp[ah,mK]
theorem tL {α:Type} (a b c:List α) {i j:Int} (ay:i=(a.length:Int)) (bE:j=((a.length+b.length:Nat):Int)):dZ (a++(b++c)) i j=some b:=by
 unfold dZ
 have aF:i.toNat=a.length:=by omega
 have aJ:j.toNat=a.length+b.length:=by omega
 rw[if_pos (by simp only[List.length_append];omega),aF,aJ,←List.append_assoc,List.take_left' (by simp),List.drop_left' rfl]
theorem oL {b n:Nat} (h:n*b≤140737488355328) (ab:n≤9223372036854775807):room b n=some ():=by unfold room;rw[if_pos ⟨h,ab⟩]
end Go.eL
