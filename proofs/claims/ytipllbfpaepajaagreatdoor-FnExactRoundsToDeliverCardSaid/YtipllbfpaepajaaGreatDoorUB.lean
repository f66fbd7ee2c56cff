/- Part of a proof that a law returns true for every input. No condition. -/
import Derived.Test.YtipllbfpaepajaaGreatDoorUG
import Derived.Test.YtipllbfpaepajaaGreatDoorP3
namespace Go.e3
open Go Go.b9
def small (c:UInt8):Bool:=decide (97≤(c.toNat:Int))&&decide ((c.toNat:Int)≤122)
def digit (c:UInt8):Bool:=decide (48≤(c.toNat:Int))&&decide ((c.toNat:Int)≤57)
def oW (s:List UInt8):Bool:=decide (s.length≤10)&&(match s with|[]=>false|c::r=>small c&&r.all fun c=>small c||digit c)
theorem FW (s:List UInt8):th s=some (oW s):=by
 unfold th
 cases s with
 |nil=>rfl
 |cons c r=>
  have eS:((c::r)==([]:List UInt8))=false:=rfl
  rw[eS]
  simp only[cond_false]
  by_cases fj:10<(c::r).length
  ·have:decide ((10:Int)<((c::r).length:Int))=true:=by simp at fj⊢;omega
   rw[this]
   have ad:decide ((c::r).length≤10)=false:=by simp at fj⊢;omega
   simp only[oW,ad];rfl
  ·have:decide ((10:Int)<((c::r).length:Int))=false:=by simp at fj⊢;omega
   rw[this]
   have ad:decide ((c::r).length≤10)=true:=by simp at fj⊢;omega
   rw[wL]
   simp only[cond_false,Option.bind_some,tg]
   simp only[oW,ad,Bool.true_and]
   show cond (!small c) _ _=_
   cases U:small c with
   |false=>rfl
   |true=>
    simp only[Bool.not_true,cond_false]
    rw[rY (n:=(c::r).length) (fun i=>some (((c::r).drop i).all fun c=>small c||digit c))]
    ·simp[U]
    ·intro m
     simp only[rm,vo]
     rw[ji (Nat.le_refl _)];simp
    ·intro i aA m ih
     simp only[rm,vo]
     rw[jh aA,gE _ i aA,iR i _ aA (by omega),ih,drop_cons _ i aA]
     simp only[cond_true,Option.bind_some,tg,rl,List.all_cons]
     show cond (!small _) (cond (!digit _) _ _) _=_
     cases small (c::r)[i]<;>cases digit (c::r)[i]<;>rfl
theorem XK (s:List UInt8) (U:s.length≤140737488355328):vN s=some (oW s):=by
 unfold vN
 have aX:∀m,s.length-1<m→1≤s.length→nF s m ((1:Nat):Int)=some (((s.drop 1).all fun c=>small c||digit c)&&(decide (1≤(s.length:Int))&&decide ((s.length:Int)≤10))):=by
  intro m hm aa
  refine down s.length (P:=fun i=>1≤i→∀m,s.length-i<m→nF s m (i:Int)=some (((s.drop i).all fun c=>small c||digit c)&&(decide (1≤(s.length:Int))&&decide ((s.length:Int)≤10)))) ?_ ?_ 1 aa (Nat.le_refl _) m hm
  ·intro _ m hm
   obtain⟨k,rfl⟩:∃k,m=k+1:=⟨m-1,by omega⟩
   simp only[nF,tz]
   rw[ji (Nat.le_refl _)];simp
  ·intro i aA ih sV m hm
   obtain⟨k,rfl⟩:∃k,m=k+1:=⟨m-1,by omega⟩
   simp only[nF,tz]
   rw[jh aA,gE _ i aA,iR i _ aA (by omega),ih (by omega) k (by omega),drop_cons _ i aA]
   have e:((i:Int)==0)=false:=by simp;omega
   rw[e]
   simp only[cond_true,cond_false,Option.bind_some,zc,List.all_cons]
   show cond (!small _) (cond (!digit _) _ _) _=_
   cases small s[i]<;>cases digit s[i]<;>rfl
 refine ki (s.length+1) fun m hm=> ?_
 obtain⟨k,rfl⟩:∃k,m=k+1:=⟨m-1,by omega⟩
 simp only[nF,tz]
 cases s with
 |nil=>rfl
 |cons c r=>
  have ar:=aX k (by simp at hm⊢;omega) (by simp)
  rw[show((1:Nat):Int)=1 from rfl]at ar
  rw[wI (by simp),wL,Xx,ar]
  have e:((0:Int)==0)=true:=rfl
  rw[e]
  simp only[cond_true,oW]
  show cond (!small c) _ _=_
  have aa:decide (1≤((c::r).length:Int))=true:=by simp;omega
  have ad:decide (((c::r).length:Int)≤10)=decide ((c::r).length≤10):=by
   by_cases h:(c::r).length≤10<;>simp at h⊢<;>omega
  rw[aa,ad]
  cases small c with
  |false=>simp
  |true=>simp[Bool.and_comm]
end Go.e3
