/- Part of a proof that a law returns true for every input. No condition. -/
import Derived.Test.YtpddiknnnoomoaaU2
namespace Go.eF
open Go Go.bV
def small (c:UInt8):Bool:=decide (97≤(c.toNat:Int))&&decide ((c.toNat:Int)≤122)
def digit (c:UInt8):Bool:=decide (48≤(c.toNat:Int))&&decide ((c.toNat:Int)≤57)
def lr (s:List UInt8):Bool:=decide (s.length≤10)&&(match s with|[]=>false|c::r=>small c&&r.all fun c=>small c||digit c)
theorem OZ (s:List UInt8):sY s=some (lr s):=by
 unfold sY
 cases s with
 |nil=>rfl
 |cons c r=>
  have eD:((c::r)==([]:List UInt8))=false:=rfl
  rw[eD]
  simp only[cond_false]
  by_cases eI:10<(c::r).length
  ·have:decide ((10:Int)<((c::r).length:Int))=true:=by simp at eI⊢;omega
   rw[this]
   have aa:decide ((c::r).length≤10)=false:=by simp at eI⊢;omega
   simp only[lr,aa];rfl
  ·have:decide ((10:Int)<((c::r).length:Int))=false:=by simp at eI⊢;omega
   rw[this]
   have aa:decide ((c::r).length≤10)=true:=by simp at eI⊢;omega
   rw[xd]
   simp only[cond_false,Option.bind_some,rf]
   simp only[lr,aa,Bool.true_and]
   show cond (!small c) _ _=_
   cases R:small c with
   |false=>rfl
   |true=>
    simp only[Bool.not_true,cond_false]
    rw[Ce (n:=(c::r).length) (fun i=>some (((c::r).drop i).all fun c=>small c||digit c))]
    ·simp[R]
    ·intro m
     simp only[pE,sX]
     rw[kA (Nat.le_refl _)];simp
    ·intro i az m ih
     simp only[pE,sX]
     rw[mb az,p2 _ i az,m7 i _ az (by omega),ih,drop_cons _ i az]
     simp only[cond_true,Option.bind_some,rf,wB,List.all_cons]
     show cond (!small _) (cond (!digit _) _ _) _=_
     cases small (c::r)[i]<;>cases digit (c::r)[i]<;>rfl
theorem O0 (s:List UInt8) (R:s.length≤140737488355328):s9 s=some (lr s):=by
 unfold s9
 have aR:∀m,s.length-1<m→1≤s.length→lY s m ((1:Nat):Int)=some (((s.drop 1).all fun c=>small c||digit c)&&(decide (1≤(s.length:Int))&&decide ((s.length:Int)≤10))):=by
  intro m hm U
  refine down s.length (P:=fun i=>1≤i→∀m,s.length-i<m→lY s m (i:Int)=some (((s.drop i).all fun c=>small c||digit c)&&(decide (1≤(s.length:Int))&&decide ((s.length:Int)≤10)))) ?_ ?_ 1 U (Nat.le_refl _) m hm
  ·intro _ m hm
   obtain⟨k,rfl⟩:∃k,m=k+1:=⟨m-1,by omega⟩
   simp only[lY,rm]
   rw[kA (Nat.le_refl _)];simp
  ·intro i az ih vt m hm
   obtain⟨k,rfl⟩:∃k,m=k+1:=⟨m-1,by omega⟩
   simp only[lY,rm]
   rw[mb az,p2 _ i az,m7 i _ az (by omega),ih (by omega) k (by omega),drop_cons _ i az]
   have e:((i:Int)==0)=false:=by simp;omega
   rw[e]
   simp only[cond_true,cond_false,Option.bind_some,wE,List.all_cons]
   show cond (!small _) (cond (!digit _) _ _) _=_
   cases small s[i]<;>cases digit s[i]<;>rfl
 refine jh (s.length+1) fun m hm=> ?_
 obtain⟨k,rfl⟩:∃k,m=k+1:=⟨m-1,by omega⟩
 simp only[lY,rm]
 cases s with
 |nil=>rfl
 |cons c r=>
  have ai:=aR k (by simp at hm⊢;omega) (by simp)
  rw[show((1:Nat):Int)=1 from rfl]at ai
  rw[xb (by simp),xd,OO,ai]
  have e:((0:Int)==0)=true:=rfl
  rw[e]
  simp only[cond_true,lr]
  show cond (!small c) _ _=_
  have U:decide (1≤((c::r).length:Int))=true:=by simp;omega
  have aa:decide (((c::r).length:Int)≤10)=decide ((c::r).length≤10):=by
   by_cases h:(c::r).length≤10<;>simp at h⊢<;>omega
  rw[U,aa]
  cases small c with
  |false=>simp
  |true=>simp[Bool.and_comm]
end Go.eF
