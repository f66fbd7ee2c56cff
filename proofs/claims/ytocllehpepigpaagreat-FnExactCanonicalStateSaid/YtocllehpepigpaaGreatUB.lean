/- Part of a proof that a law returns true for every input. No condition. -/
import Derived.Test.YtocllehpepigpaaGreatUG
import Derived.Test.YtocllehpepigpaaGreatP3
namespace Go.eN
open Go Go.cZ
def small (c:UInt8):Bool:=decide (97≤(c.toNat:Int))&&decide ((c.toNat:Int)≤122)
def digit (c:UInt8):Bool:=decide (48≤(c.toNat:Int))&&decide ((c.toNat:Int)≤57)
def kP (s:List UInt8):Bool:=decide (s.length≤10)&&(match s with|[]=>false|c::r=>small c&&r.all fun c=>small c||digit c)
theorem IY (s:List UInt8):wA s=some (kP s):=by
 unfold wA
 cases s with
 |nil=>rfl
 |cons c r=>
  have gT:((c::r)==([]:List UInt8))=false:=rfl
  rw[gT]
  simp only[cond_false]
  by_cases h3:10<(c::r).length
  ·have:decide ((10:Int)<((c::r).length:Int))=true:=by simp at h3⊢;omega
   rw[this]
   have ah:decide ((c::r).length≤10)=false:=by simp at h3⊢;omega
   simp only[kP,ah];rfl
  ·have:decide ((10:Int)<((c::r).length:Int))=false:=by simp at h3⊢;omega
   rw[this]
   have ah:decide ((c::r).length≤10)=true:=by simp at h3⊢;omega
   rw[Qn]
   simp only[cond_false,Option.bind_some,y7]
   simp only[kP,ah,Bool.true_and]
   show cond (!small c) _ _=_
   cases ag:small c with
   |false=>rfl
   |true=>
    simp only[Bool.not_true,cond_false]
    rw[ra (n:=(c::r).length) (fun i=>some (((c::r).drop i).all fun c=>small c||digit c))]
    ·simp[ag]
    ·intro m
     simp only[wz,Ct]
     rw[fq (Nat.le_refl _)];simp
    ·intro i ao m ih
     simp only[wz,Ct]
     rw[gP ao,gm _ i ao,gA i _ ao (by omega),ih,drop_cons _ i ao]
     simp only[cond_true,Option.bind_some,y7,Hq,List.all_cons]
     show cond (!small _) (cond (!digit _) _ _) _=_
     cases small (c::r)[i]<;>cases digit (c::r)[i]<;>rfl
theorem QK (s:List UInt8) (ag:s.length≤140737488355328):zo s=some (kP s):=by
 unfold zo
 have bI:∀m,s.length-1<m→1≤s.length→q3 s m ((1:Nat):Int)=some (((s.drop 1).all fun c=>small c||digit c)&&(decide (1≤(s.length:Int))&&decide ((s.length:Int)≤10))):=by
  intro m hm h1
  refine down s.length (P:=fun i=>1≤i→∀m,s.length-i<m→q3 s m (i:Int)=some (((s.drop i).all fun c=>small c||digit c)&&(decide (1≤(s.length:Int))&&decide ((s.length:Int)≤10)))) ?_ ?_ 1 h1 (Nat.le_refl _) m hm
  ·intro _ m hm
   obtain⟨k,rfl⟩:∃k,m=k+1:=⟨m-1,by omega⟩
   simp only[q3,zn]
   rw[fq (Nat.le_refl _)];simp
  ·intro i ao ih Gk m hm
   obtain⟨k,rfl⟩:∃k,m=k+1:=⟨m-1,by omega⟩
   simp only[q3,zn]
   rw[gP ao,gm _ i ao,gA i _ ao (by omega),ih (by omega) k (by omega),drop_cons _ i ao]
   have e:((i:Int)==0)=false:=by simp;omega
   rw[e]
   simp only[cond_true,cond_false,Option.bind_some,Hw,List.all_cons]
   show cond (!small _) (cond (!digit _) _ _) _=_
   cases small s[i]<;>cases digit s[i]<;>rfl
 refine iX (s.length+1) fun m hm=> ?_
 obtain⟨k,rfl⟩:∃k,m=k+1:=⟨m-1,by omega⟩
 simp only[q3,zn]
 cases s with
 |nil=>rfl
 |cons c r=>
  have hk:=bI k (by simp at hm⊢;omega) (by simp)
  rw[show((1:Nat):Int)=1 from rfl]at hk
  rw[xc (by simp),Qn,aAX,hk]
  have e:((0:Int)==0)=true:=rfl
  rw[e]
  simp only[cond_true,kP]
  show cond (!small c) _ _=_
  have h1:decide (1≤((c::r).length:Int))=true:=by simp;omega
  have ah:decide (((c::r).length:Int)≤10)=decide ((c::r).length≤10):=by
   by_cases h:(c::r).length≤10<;>simp at h⊢<;>omega
  rw[h1,ah]
  cases small c with
  |false=>simp
  |true=>simp[Bool.and_comm]
end Go.eN
