/- Part of a proof that a law returns true for every input. No condition. -/
import Derived.Test.YtipllbfpaepajaaGreatDoorUG
import Derived.Test.YtipllbfpaepajaaGreatDoorP3
namespace Go.e3
open Go Go.b9
theorem join_one (x s:List UInt8):hq [x] s=x:=by simp[hq,List.intercalate,List.intersperse]
theorem join_cons (x y:List UInt8) (r:List (List UInt8)) (s:List UInt8):hq (x::y::r) s=x++(s++hq (y::r) s):=by simp[hq,List.intercalate,List.intersperse]
theorem FX (c:UInt8) (k:Nat):∀l:List (List UInt8),(∀x∈l,x.length≤k)→(hq l [c]).length≤l.length*(k+1)
 |[],_=>by simp[hq,List.intercalate,List.intersperse]
 |[x],h=>by rw[join_one];have:=h x (by simp);simp only[List.length_cons,List.length_nil];omega
 |x::y::r,h=>by
  rw[join_cons]
  have aa:=h x (by simp)
  have ad:=FX c k (y::r) fun z bl=>h z (by simp[bl])
  simp only[List.length_append,List.length_cons,List.length_nil,Nat.add_mul]at ad⊢
  omega
theorem XL (n:Nat) (h:n<100):tC (n:Int)=some (lp n):=by
 unfold tC tB
 first
 |(rw[if_pos ⟨by omega,by omega,rfl⟩];rfl)
 |(rw[if_pos ⟨by omega,by omega,rfl⟩]
   unfold ZS lp XM
   rw[if_neg (by omega),Int.toNat_natCast]
   by_cases aa:n<10
   ·rw[dif_pos aa,if_pos aa];rfl
   ·unfold XM
    rw[dif_neg aa,if_neg aa,dif_pos (by omega)];rfl)
theorem XN (n:Nat):(lp n).length≤2:=by unfold lp;split<;>simp
theorem XO {α γ β:Type} {L:Nat→List γ→Int→Option β} (a:List α) (t:α→γ) (w:List γ) (hw:w.length=a.length) (E:List γ→Option β)
  (bz:∀m v,L (m+1) v (a.length:Int)=E v)
  (U:∀i (h:i<a.length) m v,v.length=a.length→L (m+1) v (i:Int)=L m (v.set i (t a[i])) ((i+1:Nat):Int)):en (fun m=>L m w 0)=E (a.map t):=by
 have key:∀i,i≤a.length→∀m,a.length-i<m→L m ((a.take i).map t++w.drop i) (i:Int)=E (a.map t):=by
  refine down a.length ?_ ?_
  ·intro m hm
   obtain⟨m,rfl⟩:∃j,m=j+1:=⟨m-1,by omega⟩
   rw[bz,List.take_length,List.drop_of_length_le (by omega),List.append_nil]
  ·intro i aA ih m hm
   obtain⟨m,rfl⟩:∃j,m=j+1:=⟨m-1,by omega⟩
   have e:((a.take i).map t).length=i:=by simp;omega
   rw[U i aA m _ (by simp only[List.length_append,e,List.length_drop];omega),←ih m (by omega)]
   congr 1
   rw[List.set_append_right i _ (by rw[e];omega),e,Nat.sub_self,drop_cons w i (by omega),List.set_cons_zero,List.take_succ_eq_append_getElem aA,List.map_append]
   simp
 refine ki (a.length+1) fun m hm=> ?_
 have:=key 0 (by omega) m (by omega)
 simpa using this
def nP (n:Int):List UInt8:=lp n.toNat
theorem XP (n:Int):(nP n).length≤2:=XN _
theorem XQ {x:Int} (h:0≤x∧x≤63):tC x=some (nP x):=by
 have:=XL x.toNat (by omega)
 rwa [Int.toNat_of_nonneg h.1]at this
theorem XR (a:List Int) (h:a.length≤64) (aE:∀x∈a,0≤x∧x≤63):vS a [44]=some (hq (a.map nP) [44]):=by
 unfold vS
 rw[Ab 16 (by omega) (by omega)]
 simp only[Option.bind_some,Int.toNat_natCast]
 have bY:strings_Join (a.map nP) [44]=some (hq (a.map nP) [44]):=by
  unfold strings_Join
  have:=FX 44 2 (a.map nP) fun x ao=>by
   obtain⟨y,_,rfl⟩:=List.mem_map.1 ao
   exact XP y
  rw[List.length_map]at this
  rw[if_pos ⟨by rw[List.length_map];omega,by omega⟩]
 rw[XO (L:=pU a [44]) a nP (List.replicate a.length []) (by simp) (fun v=>(strings_Join v [44]).bind fun bE=>some bE) (fun m v=> ?_) (fun i aA m v aJ=> ?_),bY]
 ·rfl
 ·simp only[pU,vR];rw[ji (Nat.le_refl _)];rfl
 ·simp only[pU,vR]
  rw[jh aA,gE _ i aA,iR i _ aA (by omega),gE v i (by omega)]
  simp only[cond_true,Option.bind_some]
  rw[XQ (aE _ (List.getElem_mem aA))]
  simp only[Option.bind_some,Int.toNat_natCast]
end Go.e3
