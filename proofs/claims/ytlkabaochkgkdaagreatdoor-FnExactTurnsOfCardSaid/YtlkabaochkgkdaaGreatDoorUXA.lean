/- Part of a proof that a law returns true for every input. No condition. -/
import Derived.Test.YtlkabaochkgkdaaGreatDoorUG
import Derived.Test.YtlkabaochkgkdaaGreatDoorP3
namespace Go.eU
open Go Go.c_
theorem join_one (x s:List UInt8):k5 [x] s=x:=by simp[k5,List.intercalate,List.intersperse]
theorem join_cons (x y:List UInt8) (r:List (List UInt8)) (s:List UInt8):k5 (x::y::r) s=x++(s++k5 (y::r) s):=by simp[k5,List.intercalate,List.intersperse]
theorem St (c:UInt8) (k:Nat):∀l:List (List UInt8),(∀x∈l,x.length<=k)->(k5 l [c]).length<=l.length*(k+1)
 |[],_=>by simp[k5,List.intercalate,List.intersperse]
 |[x],h=>by rw[join_one];have:=h x (by simp);simp only[List.length_cons,List.length_nil];omega
 |x::y::r,h=>by
  rw[join_cons];have ag:=h x (by simp);have ah:=St c k (y::r) λz cg=>h z (by simp[cg]);simp only[List.length_append,List.length_cons,List.length_nil,Nat.add_mul]at ah⊢;omega
theorem aE6 (n:Nat) (h:n<100):AJ (n:Int)=some (pF n):=by
 unfold AJ AH;first
 |(rw[if_pos ⟨by omega,by omega,rfl⟩];rfl)
 |(rw[if_pos ⟨by omega,by omega,rfl⟩]
   unfold aI8 pF aE7;rw[if_neg (by omega),Int.toNat_natCast];by_cases ag:n<10
   .rw[dif_pos ag,if_pos ag];rfl
   .unfold aE7;rw[dif_neg ag,if_neg ag,dif_pos (by omega)];rfl)
theorem aE8 (n:Nat):(pF n).length<=2:=by unfold pF;split<;>simp
theorem aE9 {α γ β:Type} {L:Nat->List γ->Int->Option β} (a:List α) (t:α->γ) (w:List γ) (hw:w.length=a.length) (E:List γ->Option β)
  (ba:∀m v,L (m+1) v (a.length:Int)=E v)
  (ae:∀i (h:i<a.length) m v,v.length=a.length->L (m+1) v (i:Int)=L m (v.set i (t a[i])) ((i+1:Nat):Int)):cB (λm=>L m w 0)=E (a.map t):=by
 have key:∀i,i<=a.length->∀m,a.length-i<m->L m ((a.take i).map t++w.drop i) (i:Int)=E (a.map t):=by
  refine down a.length ?_ ?_
  .intro m hm;obtain⟨m,rfl⟩:∃j,m=j+1:=⟨m-1,by omega⟩
   rw[ba,List.take_length,List.drop_of_length_le (by omega),List.append_nil]
  .intro i an ih m hm;obtain⟨m,rfl⟩:∃j,m=j+1:=⟨m-1,by omega⟩
   have e:((a.take i).map t).length=i:=by simp;omega
   rw[ae i an m _ (by simp only[List.length_append,e,List.length_drop];omega),<-ih m (by omega)];congr 1;rw[List.set_append_right i _ (by rw[e];omega),e,Nat.sub_self,drop_cons w i (by omega),List.set_cons_zero,List.take_succ_eq_append_getElem an,List.map_append];simp
 refine ij (a.length+1) λm hm=>?_;have:=key 0 (by omega) m (by omega);simpa using this
def sg (n:Int):List UInt8:=pF n.toNat
theorem aE_ (n:Int):(sg n).length<=2:=aE8 _
theorem aFa {x:Int} (h:0<=x/\x<=63):AJ x=some (sg x):=by
 have:=aE6 x.toNat (by omega)
 rwa [Int.toNat_of_nonneg h.1]at this
theorem aFb (a:List Int) (h:a.length<=64) (aT:∀x∈a,0<=x/\x<=63):EP a [44]=some (k5 (a.map sg) [44]):=by
 unfold EP;rw[pD 16 (by omega) (by omega)];simp only[Option.bind_some,Int.toNat_natCast];have cH:strings_Join (a.map sg) [44]=some (k5 (a.map sg) [44]):=by
  unfold strings_Join;have:=St 44 2 (a.map sg) λx aw=>by
   obtain⟨y,_,rfl⟩:=List.mem_map.1 aw;exact aE_ y
  rw[List.length_map]at this;rw[if_pos ⟨by rw[List.length_map];omega,by omega⟩]
 rw[aE9 (L:=u6 a [44]) a sg (List.replicate a.length []) (by simp) (λv=>(strings_Join v [44]).bind λa8=>some a8) (λm v=>?_) (λi an m v hl=>?_),cH]
 .rfl
 .simp only[u6,EO];rw[fh (Nat.le_refl _)];rfl
 .simp only[u6,EO];rw[fX an,gN _ i an,fO i _ an (by omega),gN v i (by omega)];simp only[cond_true,Option.bind_some];rw[aFa (aT _ (List.getElem_mem an))];simp only[Option.bind_some,Int.toNat_natCast]
end Go.eU
