/- Part of a proof that a law returns true for every input. No condition. -/
import Derived.Test.YtipllbfpaepajaaGreatDoorUG
import Derived.Test.YtipllbfpaepajaaGreatDoorP6
namespace Go.ff
open Go Go.ca
theorem join_one (x s:List UInt8):hN [x] s=x:=by simp[hN,List.intercalate,List.intersperse]
theorem join_cons (x y:List UInt8) (r:List (List UInt8)) (s:List UInt8):hN (x::y::r) s=x++(s++hN (y::r) s):=by simp[hN,List.intercalate,List.intersperse]
theorem G1 (c:UInt8) (k:Nat):∀l:List (List UInt8),(∀x∈l,x.length≤k)→(hN l [c]).length≤l.length*(k+1)
 |[],_=>by simp[hN,List.intercalate,List.intersperse]
 |[x],h=>by rw[join_one];have:=h x (by simp);simp only[List.length_cons,List.length_nil];omega
 |x::y::r,h=>by
  rw[join_cons]
  have ab:=h x (by simp)
  have ad:=G1 c k (y::r) fun z bp=>h z (by simp[bp])
  simp only[List.length_append,List.length_cons,List.length_nil,Nat.add_mul]at ad⊢
  omega
theorem aah (n:Nat) (h:n<100):uh (n:Int)=some (l4 n):=by
 unfold uh ug
 first
 |(rw[if_pos ⟨by omega,by omega,rfl⟩];rfl)
 |(rw[if_pos ⟨by omega,by omega,rfl⟩]
   unfold acE l4 aai
   rw[if_neg (by omega),Int.toNat_natCast]
   by_cases ab:n<10
   ·rw[dif_pos ab,if_pos ab];rfl
   ·unfold aai
    rw[dif_neg ab,if_neg ab,dif_pos (by omega)];rfl)
theorem aaj (n:Nat):(l4 n).length≤2:=by unfold l4;split<;>simp
theorem aak {α γ β:Type} {L:Nat→List γ→Int→Option β} (a:List α) (t:α→γ) (w:List γ) (hw:w.length=a.length) (E:List γ→Option β)
  (bm:∀m v,L (m+1) v (a.length:Int)=E v)
  (U:∀i (h:i<a.length) m v,v.length=a.length→L (m+1) v (i:Int)=L m (v.set i (t a[i])) ((i+1:Nat):Int)):dG (fun m=>L m w 0)=E (a.map t):=by
 have key:∀i,i≤a.length→∀m,a.length-i<m→L m ((a.take i).map t++w.drop i) (i:Int)=E (a.map t):=by
  refine down a.length ?_ ?_
  ·intro m hm
   obtain⟨m,rfl⟩:∃j,m=j+1:=⟨m-1,by omega⟩
   rw[bm,List.take_length,List.drop_of_length_le (by omega),List.append_nil]
  ·intro i aA ih m hm
   obtain⟨m,rfl⟩:∃j,m=j+1:=⟨m-1,by omega⟩
   have e:((a.take i).map t).length=i:=by simp;omega
   rw[U i aA m _ (by simp only[List.length_append,e,List.length_drop];omega),←ih m (by omega)]
   congr 1
   rw[List.set_append_right i _ (by rw[e];omega),e,Nat.sub_self,drop_cons w i (by omega),List.set_cons_zero,List.take_succ_eq_append_getElem aA,List.map_append]
   simp
 refine iQ (a.length+1) fun m hm=> ?_
 have:=key 0 (by omega) m (by omega)
 simpa using this
def om (n:Int):List UInt8:=l4 n.toNat
theorem aal (n:Int):(om n).length≤2:=aaj _
theorem aam {x:Int} (h:0≤x∧x≤63):uh x=some (om x):=by
 have:=aah x.toNat (by omega)
 rwa [Int.toNat_of_nonneg h.1]at this
theorem aan (a:List Int) (h:a.length≤64) (aG:∀x∈a,0≤x∧x≤63):wL a [44]=some (hN (a.map om) [44]):=by
 unfold wL
 rw[AR 16 (by omega) (by omega)]
 simp only[Option.bind_some,Int.toNat_natCast]
 have b2:strings_Join (a.map om) [44]=some (hN (a.map om) [44]):=by
  unfold strings_Join
  have:=G1 44 2 (a.map om) fun x aq=>by
   obtain⟨y,_,rfl⟩:=List.mem_map.1 aq
   exact aal y
  rw[List.length_map]at this
  rw[if_pos ⟨by rw[List.length_map];omega,by omega⟩]
 rw[aak (L:=qi a [44]) a om (List.replicate a.length []) (by simp) (fun v=>(strings_Join v [44]).bind fun a6=>some a6) (fun m v=> ?_) (fun i aA m v hl=> ?_),b2]
 ·rfl
 ·simp only[qi,wK];rw[im (Nat.le_refl _)];rfl
 ·simp only[qi,wK]
  rw[jJ aA,gJ _ i aA,jo i _ aA (by omega),gJ v i (by omega)]
  simp only[cond_true,Option.bind_some]
  rw[aam (aG _ (List.getElem_mem aA))]
  simp only[Option.bind_some,Int.toNat_natCast]
end Go.ff
