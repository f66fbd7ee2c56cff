/- Part of a proof that a law returns true for every input. No condition. -/
import Derived.Test.YtikimdcnadipbaaGreatDoorUG
import Derived.Test.YtikimdcnadipbaaGreatDoorP4
namespace Go.eL
open Go Go.bZ
theorem join_one (x s:List UInt8):gy [x] s=x:=by simp[gy,List.intercalate,List.intersperse]
theorem join_cons (x y:List UInt8) (r:List (List UInt8)) (s:List UInt8):gy (x::y::r) s=x++(s++gy (y::r) s):=by simp[gy,List.intercalate,List.intersperse]
theorem zV (c:UInt8) (k:Nat):∀l:List (List UInt8),(∀x∈l,x.length≤k)→(gy l [c]).length≤l.length*(k+1)
 |[],_=>by simp[gy,List.intercalate,List.intersperse]
 |[x],h=>by rw[join_one];have:=h x (by simp);simp only[List.length_cons,List.length_nil];omega
 |x::y::r,h=>by
  rw[join_cons]
  have aa:=h x (by simp)
  have ab:=zV c k (y::r) fun z bd=>h z (by simp[bd])
  simp only[List.length_append,List.length_cons,List.length_nil,Nat.add_mul]at ab⊢
  omega
theorem Xe (n:Nat) (h:n<100):mB (n:Int)=some (nM n):=by
 unfold mB rm
 first
 |(rw[if_pos ⟨by omega,by omega,rfl⟩];rfl)
 |(rw[if_pos ⟨by omega,by omega,rfl⟩]
   unfold fb nM h9
   rw[if_neg (by omega),Int.toNat_natCast]
   by_cases aa:n<10
   ·rw[dif_pos aa,if_pos aa];rfl
   ·unfold h9
    rw[dif_neg aa,if_neg aa,dif_pos (by omega)];rfl)
theorem Xf (n:Nat):(nM n).length≤2:=by unfold nM;split<;>simp
theorem FP {α γ β:Type} {L:Nat→List γ→Int→Option β} (a:List α) (t:α→γ) (w:List γ) (hw:w.length=a.length) (E:List γ→Option β)
  (bl:∀m v,L (m+1) v (a.length:Int)=E v)
  (U:∀i (h:i<a.length) m v,v.length=a.length→L (m+1) v (i:Int)=L m (v.set i (t a[i])) ((i+1:Nat):Int)):dT (fun m=>L m w 0)=E (a.map t):=by
 have key:∀i,i≤a.length→∀m,a.length-i<m→L m ((a.take i).map t++w.drop i) (i:Int)=E (a.map t):=by
  refine down a.length ?_ ?_
  ·intro m hm
   obtain⟨m,rfl⟩:∃j,m=j+1:=⟨m-1,by omega⟩
   rw[bl,List.take_length,List.drop_of_length_le (by omega),List.append_nil]
  ·intro i ay ih m hm
   obtain⟨m,rfl⟩:∃j,m=j+1:=⟨m-1,by omega⟩
   have e:((a.take i).map t).length=i:=by simp;omega
   rw[U i ay m _ (by simp only[List.length_append,e,List.length_drop];omega),←ih m (by omega)]
   congr 1
   rw[List.set_append_right i _ (by rw[e];omega),e,Nat.sub_self,drop_cons w i (by omega),List.set_cons_zero,List.take_succ_eq_append_getElem ay,List.map_append]
   simp
 refine hM (a.length+1) fun m hm=> ?_
 have:=key 0 (by omega) m (by omega)
 simpa using this
def nJ (n:Int):List UInt8:=nM n.toNat
theorem Xg (n:Int):(nJ n).length≤2:=Xf _
theorem Xh {x:Int} (h:0≤x∧x≤63):mB x=some (nJ x):=by
 have:=Xe x.toNat (by omega)
 rwa [Int.toNat_of_nonneg h.1]at this
theorem Xi (a:List Int) (h:a.length≤64) (aD:∀x∈a,0≤x∧x≤63):pM a [44]=some (gy (a.map nJ) [44]):=by
 unfold pM
 rw[zU 16 (by omega) (by omega)]
 simp only[Option.bind_some,Int.toNat_natCast]
 have bE:strings_Join (a.map nJ) [44]=some (gy (a.map nJ) [44]):=by
  unfold strings_Join
  have:=zV 44 2 (a.map nJ) fun x ai=>by
   obtain⟨y,_,rfl⟩:=List.mem_map.1 ai
   exact Xg y
  rw[List.length_map]at this
  rw[if_pos ⟨by rw[List.length_map];omega,by omega⟩]
 rw[FP (L:=mC a [44]) a nJ (List.replicate a.length []) (by simp) (fun v=>(strings_Join v [44]).bind fun bV=>some bV) (fun m v=> ?_) (fun i ay m v aI=> ?_),bE]
 ·rfl
 ·simp only[mC,rn];rw[je (Nat.le_refl _)];rfl
 ·simp only[mC,rn]
  rw[jd ay,gP _ i ay,iH i _ ay (by omega),gP v i (by omega)]
  simp only[cond_true,Option.bind_some]
  rw[Xh (aD _ (List.getElem_mem ay))]
  simp only[Option.bind_some,Int.toNat_natCast]
end Go.eL
