/- Part of a proof that a law returns true for every input. No condition. -/
import Derived.Test.YtpddiknnnoomoaaU0
namespace Go.fm
open Go Go.bZ
def ho (n:Int) (s:Nat):Int:=if(s:Int)≤n then n-s else-1
theorem uC {n:Int} {s:Nat} (h:(s:Int)≤n):ho n s=n-s:=if_pos h
theorem sH {n:Int} {s:Nat} (h:n<s):ho n s= -1:=if_neg (by omega)
theorem QM {n:Int} (h:0≤n):ho n 0=n:=by rw[uC (by simpa using h)];simp
theorem QN {f:Option Int} {k:Int→Option Int} {n:Int} {s t:Nat} (bc:f=some (ho n s)) (al:(s:Int)≤n→k (n-s)=some (ho (n-s) t)):
  (f.bind fun x=>cond (decide (x<0)) (some (-1)) (k x))=some (ho n (s+t)):=by
 rw[bc]
 simp only[Option.bind_some]
 by_cases h:(s:Int)≤n
 ·rw[uC h]
  have:decide (n-(s:Int)<0)=false:=by simp;omega
  rw[this,cond_false,al h]
  congr 1
  unfold ho
  by_cases aa:(t:Int)≤n-s
  ·rw[if_pos aa,if_pos (by omega)];omega
  ·rw[if_neg aa,if_neg (by omega)]
 ·rw[sH (by omega)]
  have:decide ((-1:Int)<0)=true:=by decide
  rw[this,cond_true,sH (by omega)]
theorem xW {K:Option Int} {n:Int} {s t:Nat} (R:s≤9223372036854775807) (bu:0≤n) (aR:n≤1048576) (al:(s:Int)≤n→K=some (ho (n-s) t)):
  cond (decide (IntKind.i64.wrap (n-(s:Int))<0)) (some (-1)) K=some (ho n (s+t)):=by
 rw[g8 _ (by omega)]
 by_cases h:(s:Int)≤n
 ·have:decide (n-(s:Int)<0)=false:=by simp;omega
  rw[this,cond_false,al h]
  congr 1
  unfold ho
  by_cases aa:(t:Int)≤n-s
  ·rw[if_pos aa,if_pos (by omega)];omega
  ·rw[if_neg aa,if_neg (by omega)]
 ·have:decide (n-(s:Int)<0)=true:=by simp;omega
  rw[this,cond_true,sH (by omega)]
theorem C8 {n:Int} (h:0≤n):some n=some (ho n 0):=by rw[QM h]
def gl {α:Type} (f:α→Nat):List α→Nat
 |[]=>0
 |x::r=>f x+gl f r
theorem C9 {α:Type} {f:α→Nat}:∀{l:List α} {x:α},x∈l→f x≤gl f l
 |y::r,x,h=>by
  simp only[gl]
  rcases List.mem_cons.1 h with rfl|h
  ·omega
  ·have:=C9 (f:=f) h;omega
theorem C_ {α β:Type} {f:β→Nat} {g:α→β}:∀l:List α,gl f (l.map g)=gl (fun x=>f (g x)) l
 |[]=>rfl
 |x::r=>by simp only[List.map_cons,gl,C_ r]
def ep {α:Type} (f:α→Nat) (l:List α):Nat:=l.length+gl f l
theorem Da {α β:Type} (f:β→Nat) (g:α→β) (l:List α):ep f (l.map g)=ep (fun x=>f (g x)) l:=by simp only[ep,List.length_map,C_]
theorem uD {α:Type} (f:α→Nat) (l:List α):l.length≤ep f l:=Nat.le_add_right _ _
theorem uE {α:Type} {f:α→Nat} {l:List α} {x:α} (h:x∈l):f x≤ep f l:=Nat.le_trans (C9 h) (Nat.le_add_left _ _)
theorem QO {α:Type} {l:Nat→Int→Int→Option Int} {B:α→Int→(Int→Option Int)→Option Int} (sz:α→Nat) (a:List α)
  (mf:∀m n i,l (m+1) n i=cond (decide (i<(a.length:Int))) ((cX a i).bind fun x=>B x n fun y=>l m y (IntKind.i64.wrap (i+1))) (some n))
  (bc:∀x∈a,∀(n:Int) (k:Int→Option Int) (t:Nat),0≤n→n≤1048576→((sz x:Int)≤n→k (n-sz x)=some (ho (n-sz x) t))→B x n k=some (ho n (sz x+t)))
  (bN:a.length≤1048576) (n:Int) (bu:0≤n) (aR:n≤1048576):ft (fun m=>l m n 0)=some (ho n (gl sz a)):=by
 have key:∀i,i≤a.length→∀n:Int,0≤n→n≤1048576→∀m,a.length-i<m→l m n (i:Int)=some (ho n (gl sz (a.drop i))):=by
  refine down a.length ?_ ?_
  ·intro n bu _ m hm
   obtain⟨k,rfl⟩:∃k,m=k+1:=⟨m-1,by omega⟩
   rw[mf,jV (Nat.le_refl _),cond_false,List.drop_of_length_le (Nat.le_refl _)]
   exact C8 bu
  ·intro i ay ih n bu aR m hm
   obtain⟨k,rfl⟩:∃k,m=k+1:=⟨m-1,by omega⟩
   rw[mf,ll ay,cond_true,mc _ i ay,me i _ ay (by omega),drop_cons a i ay]
   simp only[Option.bind_some,gl]
   exact bc _ (List.getElem_mem ay) n _ _ bu aR fun h=>ih _ (by omega) (by omega) k (by omega)
 refine kz (a.length+1) fun m hm=> ?_
 have:=key 0 (by omega) n bu aR m (by omega)
 simpa using this
theorem QP {α:Type} {l:Nat→Int→Int→Option Int} {f:α→Int→Option Int} (sz:α→Nat) (a:List α)
  (mf:∀m n i,l (m+1) n i=cond (decide (i<(a.length:Int))) ((cX a i).bind fun x=>(f x n).bind fun y=>cond (decide (y<0)) (some (-1)) (l m y (IntKind.i64.wrap (i+1)))) (some n))
  (bc:∀x∈a,∀n:Int,0≤n→n≤1048576→f x n=some (ho n (sz x))) (bN:a.length≤1048576) (n:Int) (bu:0≤n) (aR:n≤1048576):ft (fun m=>l m n 0)=some (ho n (gl sz a)):=
 QO (B:=fun x n k=>(f x n).bind fun y=>cond (decide (y<0)) (some (-1)) (k y)) sz a mf (fun x ao n _ _ bu aR al=>QN (bc x ao n bu aR) al) bN n bu aR
theorem QQ {α β:Type} {l:Nat→List β→Int→Option (List β)} {f:α→Option β} (g:α→β) (a:List α) (z:β)
  (mf:∀m v i,l (m+1) v i=cond (decide (i<(a.length:Int))) ((cX a i).bind fun x=>(f x).bind fun y=>(cX v i).bind fun _=>l m (List.set v (Int.toNat i) y) (IntKind.i64.wrap (i+1))) (some v))
  (bc:∀x∈a,f x=some (g x)) (bN:a.length≤1048576):ft (fun m=>l m (List.replicate (Int.toNat (a.length:Int)) z) 0)=some (a.map g):=by
 have key:∀i,i≤a.length→∀(v:List β) m,v.length=a.length→a.length-i<m→l m v (i:Int)=some (v.take i++(a.drop i).map g):=by
  refine down a.length ?_ ?_
  ·intro v m aC hm
   obtain⟨k,rfl⟩:∃k,m=k+1:=⟨m-1,by omega⟩
   rw[mf,jV (Nat.le_refl _)]
   simp[←aC]
  ·intro i ay ih v m aC hm
   obtain⟨k,rfl⟩:∃k,m=k+1:=⟨m-1,by omega⟩
   rw[mf,ll ay,mc _ i ay,me i _ ay (by omega)]
   simp only[cond_true,Option.bind_some,bc _ (List.getElem_mem ay)]
   rw[mc v i (by omega)]
   simp only[Option.bind_some,Int.toNat_natCast]
   rw[ih _ k (by simp[aC]) (by omega),drop_cons a i ay,List.map_cons,List.take_set,List.take_succ_eq_append_getElem (by omega),List.set_append_right _ _ (by simp;omega)]
   simp[show min i v.length=i by omega]
 refine kz (a.length+1) fun m hm=> ?_
 have:=key 0 (by omega) (List.replicate (Int.toNat (a.length:Int)) z) m (by simp) (by omega)
 simpa using this
theorem QR (b:Nat) {n:Nat} (h:n≤1048576) (I:b≤4096):qO b (n:Int)=some ():=by
 have U:b*n≤4096*1048576:=Nat.mul_le_mul I h
 have aa:((b:Int)*(n:Int))=((b*n:Nat):Int):=by simp
 unfold qO
 rw[if_pos ⟨by omega,by rw[aa];omega,by omega⟩]
theorem QS {α:Type} {l:Nat→Int→Option Bool} {f:α→α→Option Bool} (a:List α)
  (mf:∀m i,l (m+1) i=cond (decide (i<(a.length:Int))) ((cX a i).bind fun x=>(cX a i).bind fun y=>(f x y).bind fun z=>cond (!z) (some false) (l m (IntKind.i64.wrap (i+1)))) (some true))
  (bc:∀x∈a,f x x=some true) (bN:a.length≤1048576):ft (fun m=>l m 0)=some true:=by
 rw[sG (n:=a.length) (fun _=>some true)]
 ·intro m
  rw[mf,jV (Nat.le_refl _)];rfl
 ·intro i ay m ih
  rw[mf,ll ay,mc _ i ay,me i _ ay (by omega),ih]
  simp only[cond_true,Option.bind_some,bc _ (List.getElem_mem ay),Bool.not_true,cond_false]
theorem QT (x:Int):(x !=x)=false:=by simp
theorem QU (x:List UInt8):(!(x==x))=false:=by simp
theorem QV (x:Bool):(!(x==x))=false:=by simp
theorem QW (n:Nat):((n:Int) !=(n:Int))=false:=by simp
theorem uF {b n:Nat} (h:n*b≤140737488355328) (aa:n≤9223372036854775807):room b n=some ():=by unfold room;rw[if_pos ⟨h,aa⟩]
end Go.fm
