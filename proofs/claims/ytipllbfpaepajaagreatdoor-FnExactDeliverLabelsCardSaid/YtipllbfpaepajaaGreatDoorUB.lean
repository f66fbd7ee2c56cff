/- Part of a proof that a law returns true for every input. No condition. -/
import Derived.Test.YtipllbfpaepajaaGreatDoorUG
import Derived.Test.YtipllbfpaepajaaGreatDoorP6
namespace Go.ff
open Go Go.ca
def small (c:UInt8):Bool:=decide (97≤(c.toNat:Int))&&decide ((c.toNat:Int)≤122)
def digit (c:UInt8):Bool:=decide (48≤(c.toNat:Int))&&decide ((c.toNat:Int)≤57)
def pk (s:List UInt8):Bool:=decide (s.length≤10)&&(match s with|[]=>false|c::r=>small c&&r.all fun c=>small c||digit c)
theorem G0 (s:List UInt8):tP s=some (pk s):=by
 unfold tP
 cases s with
 |nil=>rfl
 |cons c r=>
  have eY:((c::r)==([]:List UInt8))=false:=rfl
  rw[eY]
  simp only[cond_false]
  by_cases fB:10<(c::r).length
  ·have:decide ((10:Int)<((c::r).length:Int))=true:=by simp at fB⊢;omega
   rw[this]
   have ad:decide ((c::r).length≤10)=false:=by simp at fB⊢;omega
   simp only[pk,ad];rfl
  ·have:decide ((10:Int)<((c::r).length:Int))=false:=by simp at fB⊢;omega
   rw[this]
   have ad:decide ((c::r).length≤10)=true:=by simp at fB⊢;omega
   rw[xw]
   simp only[cond_false,Option.bind_some,tO]
   simp only[pk,ad,Bool.true_and]
   show cond (!small c) _ _=_
   cases U:small c with
   |false=>rfl
   |true=>
    simp only[Bool.not_true,cond_false]
    rw[su (n:=(c::r).length) (fun i=>some (((c::r).drop i).all fun c=>small c||digit c))]
    ·simp[U]
    ·intro m
     simp only[rU,wa]
     rw[im (Nat.le_refl _)];simp
    ·intro i aA m ih
     simp only[rU,wa]
     rw[jJ aA,gJ _ i aA,jo i _ aA (by omega),ih,drop_cons _ i aA]
     simp only[cond_true,Option.bind_some,tO,rT,List.all_cons]
     show cond (!small _) (cond (!digit _) _ _) _=_
     cases small (c::r)[i]<;>cases digit (c::r)[i]<;>rfl
theorem aag (s:List UInt8) (U:s.length≤140737488355328):wG s=some (pk s):=by
 unfold wG
 have a1:∀m,s.length-1<m→1≤s.length→n8 s m ((1:Nat):Int)=some (((s.drop 1).all fun c=>small c||digit c)&&(decide (1≤(s.length:Int))&&decide ((s.length:Int)≤10))):=by
  intro m hm ab
  refine down s.length (P:=fun i=>1≤i→∀m,s.length-i<m→n8 s m (i:Int)=some (((s.drop i).all fun c=>small c||digit c)&&(decide (1≤(s.length:Int))&&decide ((s.length:Int)≤10)))) ?_ ?_ 1 ab (Nat.le_refl _) m hm
  ·intro _ m hm
   obtain⟨k,rfl⟩:∃k,m=k+1:=⟨m-1,by omega⟩
   simp only[n8,ue]
   rw[im (Nat.le_refl _)];simp
  ·intro i aA ih ts m hm
   obtain⟨k,rfl⟩:∃k,m=k+1:=⟨m-1,by omega⟩
   simp only[n8,ue]
   rw[jJ aA,gJ _ i aA,jo i _ aA (by omega),ih (by omega) k (by omega),drop_cons _ i aA]
   have e:((i:Int)==0)=false:=by simp;omega
   rw[e]
   simp only[cond_true,cond_false,Option.bind_some,zT,List.all_cons]
   show cond (!small _) (cond (!digit _) _ _) _=_
   cases small s[i]<;>cases digit s[i]<;>rfl
 refine iQ (s.length+1) fun m hm=> ?_
 obtain⟨k,rfl⟩:∃k,m=k+1:=⟨m-1,by omega⟩
 simp only[n8,ue]
 cases s with
 |nil=>rfl
 |cons c r=>
  have al:=a1 k (by simp at hm⊢;omega) (by simp)
  rw[show((1:Nat):Int)=1 from rfl]at al
  rw[xt (by simp),xw,Z1,al]
  have e:((0:Int)==0)=true:=rfl
  rw[e]
  simp only[cond_true,pk]
  show cond (!small c) _ _=_
  have ab:decide (1≤((c::r).length:Int))=true:=by simp;omega
  have ad:decide (((c::r).length:Int)≤10)=decide ((c::r).length≤10):=by
   by_cases h:(c::r).length≤10<;>simp at h⊢<;>omega
  rw[ab,ad]
  cases small c with
  |false=>simp
  |true=>simp[Bool.and_comm]
end Go.ff
