/- Part of a proof that a law returns true for every input. No condition. -/
import Derived.Test.YtikimdcnadipbaaGreatDoorUG
import Derived.Test.YtikimdcnadipbaaGreatDoorP4
namespace Go.eL
open Go Go.bZ
def small (c:UInt8):Bool:=decide (97≤(c.toNat:Int))&&decide ((c.toNat:Int)≤122)
def digit (c:UInt8):Bool:=decide (48≤(c.toNat:Int))&&decide ((c.toNat:Int)≤57)
def oM (s:List UInt8):Bool:=decide (s.length≤10)&&(match s with|[]=>false|c::r=>small c&&r.all fun c=>small c||digit c)
theorem FO (s:List UInt8):s8 s=some (oM s):=by
 unfold s8
 cases s with
 |nil=>rfl
 |cons c r=>
  have eG:((c::r)==([]:List UInt8))=false:=rfl
  rw[eG]
  simp only[cond_false]
  by_cases eZ:10<(c::r).length
  ·have:decide ((10:Int)<((c::r).length:Int))=true:=by simp at eZ⊢;omega
   rw[this]
   have ab:decide ((c::r).length≤10)=false:=by simp at eZ⊢;omega
   simp only[oM,ab];rfl
  ·have:decide ((10:Int)<((c::r).length:Int))=false:=by simp at eZ⊢;omega
   rw[this]
   have ab:decide ((c::r).length≤10)=true:=by simp at eZ⊢;omega
   rw[wB]
   simp only[cond_false,Option.bind_some,s7]
   simp only[oM,ab,Bool.true_and]
   show cond (!small c) _ _=_
   cases U:small c with
   |false=>rfl
   |true=>
    simp only[Bool.not_true,cond_false]
    rw[tK (n:=(c::r).length) (fun i=>some (((c::r).drop i).all fun c=>small c||digit c))]
    ·simp[U]
    ·intro m
     simp only[q9,vg]
     rw[je (Nat.le_refl _)];simp
    ·intro i ay m ih
     simp only[q9,vg]
     rw[jd ay,gP _ i ay,iH i _ ay (by omega),ih,drop_cons _ i ay]
     simp only[cond_true,Option.bind_some,s7,q7,List.all_cons]
     show cond (!small _) (cond (!digit _) _ _) _=_
     cases small (c::r)[i]<;>cases digit (c::r)[i]<;>rfl
theorem Xd (s:List UInt8) (U:s.length≤140737488355328):vH s=some (oM s):=by
 unfold vH
 have aW:∀m,s.length-1<m→1≤s.length→nz s m ((1:Nat):Int)=some (((s.drop 1).all fun c=>small c||digit c)&&(decide (1≤(s.length:Int))&&decide ((s.length:Int)≤10))):=by
  intro m hm aa
  refine down s.length (P:=fun i=>1≤i→∀m,s.length-i<m→nz s m (i:Int)=some (((s.drop i).all fun c=>small c||digit c)&&(decide (1≤(s.length:Int))&&decide ((s.length:Int)≤10)))) ?_ ?_ 1 aa (Nat.le_refl _) m hm
  ·intro _ m hm
   obtain⟨k,rfl⟩:∃k,m=k+1:=⟨m-1,by omega⟩
   simp only[nz,ti]
   rw[je (Nat.le_refl _)];simp
  ·intro i ay ih sD m hm
   obtain⟨k,rfl⟩:∃k,m=k+1:=⟨m-1,by omega⟩
   simp only[nz,ti]
   rw[jd ay,gP _ i ay,iH i _ ay (by omega),ih (by omega) k (by omega),drop_cons _ i ay]
   have e:((i:Int)==0)=false:=by simp;omega
   rw[e]
   simp only[cond_true,cond_false,Option.bind_some,y3,List.all_cons]
   show cond (!small _) (cond (!digit _) _ _) _=_
   cases small s[i]<;>cases digit s[i]<;>rfl
 refine hM (s.length+1) fun m hm=> ?_
 obtain⟨k,rfl⟩:∃k,m=k+1:=⟨m-1,by omega⟩
 simp only[nz,ti]
 cases s with
 |nil=>rfl
 |cons c r=>
  have al:=aW k (by simp at hm⊢;omega) (by simp)
  rw[show((1:Nat):Int)=1 from rfl]at al
  rw[wy (by simp),wB,WW,al]
  have e:((0:Int)==0)=true:=rfl
  rw[e]
  simp only[cond_true,oM]
  show cond (!small c) _ _=_
  have aa:decide (1≤((c::r).length:Int))=true:=by simp;omega
  have ab:decide (((c::r).length:Int)≤10)=decide ((c::r).length≤10):=by
   by_cases h:(c::r).length≤10<;>simp at h⊢<;>omega
  rw[aa,ab]
  cases small c with
  |false=>simp
  |true=>simp[Bool.and_comm]
end Go.eL
