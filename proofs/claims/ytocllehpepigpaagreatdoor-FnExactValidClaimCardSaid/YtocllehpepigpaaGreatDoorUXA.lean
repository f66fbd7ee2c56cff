/- Part of a proof that a law returns true for every input. No condition. -/
import Derived.Test.YtocllehpepigpaaGreatDoorUG
import Derived.Test.YtocllehpepigpaaGreatDoorP3
namespace Go.gB
open Go Go.cI
theorem join_one (x s:List UInt8):jN [x] s=x:=by simp[jN,List.intercalate,List.intersperse]
theorem join_cons (x y:List UInt8) (r:List (List UInt8)) (s:List UInt8):jN (x::y::r) s=x++(s++jN (y::r) s):=by simp[jN,List.intercalate,List.intersperse]
theorem Kj (c:UInt8) (k:Nat):∀l:List (List UInt8),(∀x∈l,x.length≤k)→(jN l [c]).length≤l.length*(k+1)
 |[],_=>by simp[jN,List.intercalate,List.intersperse]
 |[x],h=>by rw[join_one];have:=h x (by simp);simp only[List.length_cons,List.length_nil];omega
 |x::y::r,h=>by
  rw[join_cons]
  have ad:=h x (by simp)
  have ag:=Kj c k (y::r) fun z bG=>h z (by simp[bG])
  simp only[List.length_append,List.length_cons,List.length_nil,Nat.add_mul]at ag⊢
  omega
theorem akv (n:Nat) (h:n<100):vT (n:Int)=some (nO n):=by
 unfold vT vS
 first
 |(rw[if_pos ⟨by omega,by omega,rfl⟩];rfl)
 |(rw[if_pos ⟨by omega,by omega,rfl⟩]
   unfold anb nO akw
   rw[if_neg (by omega),Int.toNat_natCast]
   by_cases ad:n<10
   ·rw[dif_pos ad,if_pos ad];rfl
   ·unfold akw
    rw[dif_neg ad,if_neg ad,dif_pos (by omega)];rfl)
theorem akx (n:Nat):(nO n).length≤2:=by unfold nO;split<;>simp
theorem aky {α γ β:Type} {L:Nat→List γ→Int→Option β} (a:List α) (t:α→γ) (w:List γ) (hw:w.length=a.length) (E:List γ→Option β)
  (bm:∀m v,L (m+1) v (a.length:Int)=E v)
  (aa:∀i (h:i<a.length) m v,v.length=a.length→L (m+1) v (i:Int)=L m (v.set i (t a[i])) ((i+1:Nat):Int)):cY (fun m=>L m w 0)=E (a.map t):=by
 have key:∀i,i≤a.length→∀m,a.length-i<m→L m ((a.take i).map t++w.drop i) (i:Int)=E (a.map t):=by
  refine down a.length ?_ ?_
  ·intro m hm
   obtain⟨m,rfl⟩:∃j,m=j+1:=⟨m-1,by omega⟩
   rw[bm,List.take_length,List.drop_of_length_le (by omega),List.append_nil]
  ·intro i ay ih m hm
   obtain⟨m,rfl⟩:∃j,m=j+1:=⟨m-1,by omega⟩
   have e:((a.take i).map t).length=i:=by simp;omega
   rw[aa i ay m _ (by simp only[List.length_append,e,List.length_drop];omega),←ih m (by omega)]
   congr 1
   rw[List.set_append_right i _ (by rw[e];omega),e,Nat.sub_self,drop_cons w i (by omega),List.set_cons_zero,List.take_succ_eq_append_getElem ay,List.map_append]
   simp
 refine j8 (a.length+1) fun m hm=> ?_
 have:=key 0 (by omega) m (by omega)
 simpa using this
def pM (n:Int):List UInt8:=nO n.toNat
theorem akz (n:Int):(pM n).length≤2:=akx _
theorem akA {x:Int} (h:0≤x∧x≤63):vT x=some (pM x):=by
 have:=akv x.toNat (by omega)
 rwa [Int.toNat_of_nonneg h.1]at this
theorem akB (a:List Int) (h:a.length≤64) (aI:∀x∈a,0≤x∧x≤63):yW a [44]=some (jN (a.map pM) [44]):=by
 unfold yW
 rw[qK 16 (by omega) (by omega)]
 simp only[Option.bind_some,Int.toNat_natCast]
 have b6:strings_Join (a.map pM) [44]=some (jN (a.map pM) [44]):=by
  unfold strings_Join
  have:=Kj 44 2 (a.map pM) fun x ai=>by
   obtain⟨y,_,rfl⟩:=List.mem_map.1 ai
   exact akz y
  rw[List.length_map]at this
  rw[if_pos ⟨by rw[List.length_map];omega,by omega⟩]
 rw[aky (L:=rM a [44]) a pM (List.replicate a.length []) (by simp) (fun v=>(strings_Join v [44]).bind fun bo=>some bo) (fun m v=> ?_) (fun i ay m v aO=> ?_),b6]
 ·rfl
 ·simp only[rM,yV];rw[iC (Nat.le_refl _)];rfl
 ·simp only[rM,yV]
  rw[iB ay,fy _ i ay,h1 i _ ay (by omega),fy v i (by omega)]
  simp only[cond_true,Option.bind_some]
  rw[akA (aI _ (List.getElem_mem ay))]
  simp only[Option.bind_some,Int.toNat_natCast]
end Go.gB
