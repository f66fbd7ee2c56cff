/- Part of a proof that a law returns true for every input. No condition. -/
import Derived.Test.YtocllehpepigpaaGreatDoorUG
import Derived.Test.YtocllehpepigpaaGreatDoorP3
namespace Go.gB
open Go Go.cI
def small (c:UInt8):Bool:=decide (97≤(c.toNat:Int))&&decide ((c.toNat:Int)≤122)
def digit (c:UInt8):Bool:=decide (48≤(c.toNat:Int))&&decide ((c.toNat:Int)≤57)
def nM (s:List UInt8):Bool:=decide (s.length≤10)&&(match s with|[]=>false|c::r=>small c&&r.all fun c=>small c||digit c)
theorem z_ (s:List UInt8):tp s=some (nM s):=by
 unfold tp
 cases s with
 |nil=>rfl
 |cons c r=>
  have gf:((c::r)==([]:List UInt8))=false:=rfl
  rw[gf]
  simp only[cond_false]
  by_cases hn:10<(c::r).length
  ·have:decide ((10:Int)<((c::r).length:Int))=true:=by simp at hn⊢;omega
   rw[this]
   have ag:decide ((c::r).length≤10)=false:=by simp at hn⊢;omega
   simp only[nM,ag];rfl
  ·have:decide ((10:Int)<((c::r).length:Int))=false:=by simp at hn⊢;omega
   rw[this]
   have ag:decide ((c::r).length≤10)=true:=by simp at hn⊢;omega
   rw[zX]
   simp only[cond_false,Option.bind_some,vE]
   simp only[nM,ag,Bool.true_and]
   show cond (!small c) _ _=_
   cases aa:small c with
   |false=>rfl
   |true=>
    simp only[Bool.not_true,cond_false]
    rw[wK (n:=(c::r).length) (fun i=>some (((c::r).drop i).all fun c=>small c||digit c))]
    ·simp[aa]
    ·intro m
     simp only[tn,yh]
     rw[iC (Nat.le_refl _)];simp
    ·intro i ay m ih
     simp only[tn,yh]
     rw[iB ay,fy _ i ay,h1 i _ ay (by omega),ih,drop_cons _ i ay]
     simp only[cond_true,Option.bind_some,vE,tm,List.all_cons]
     show cond (!small _) (cond (!digit _) _ _) _=_
     cases small (c::r)[i]<;>cases digit (c::r)[i]<;>rfl
theorem Ki (s:List UInt8) (aa:s.length≤140737488355328):vO s=some (nM s):=by
 unfold vO
 have bl:∀m,s.length-1<m→1≤s.length→pD s m ((1:Nat):Int)=some (((s.drop 1).all fun c=>small c||digit c)&&(decide (1≤(s.length:Int))&&decide ((s.length:Int)≤10))):=by
  intro m hm ad
  refine down s.length (P:=fun i=>1≤i→∀m,s.length-i<m→pD s m (i:Int)=some (((s.drop i).all fun c=>small c||digit c)&&(decide (1≤(s.length:Int))&&decide ((s.length:Int)≤10)))) ?_ ?_ 1 ad (Nat.le_refl _) m hm
  ·intro _ m hm
   obtain⟨k,rfl⟩:∃k,m=k+1:=⟨m-1,by omega⟩
   simp only[pD,vN]
   rw[iC (Nat.le_refl _)];simp
  ·intro i ay ih u_ m hm
   obtain⟨k,rfl⟩:∃k,m=k+1:=⟨m-1,by omega⟩
   simp only[pD,vN]
   rw[iB ay,fy _ i ay,h1 i _ ay (by omega),ih (by omega) k (by omega),drop_cons _ i ay]
   have e:((i:Int)==0)=false:=by simp;omega
   rw[e]
   simp only[cond_true,cond_false,Option.bind_some,CJ,List.all_cons]
   show cond (!small _) (cond (!digit _) _ _) _=_
   cases small s[i]<;>cases digit s[i]<;>rfl
 refine j8 (s.length+1) fun m hm=> ?_
 obtain⟨k,rfl⟩:∃k,m=k+1:=⟨m-1,by omega⟩
 simp only[pD,vN]
 cases s with
 |nil=>rfl
 |cons c r=>
  have ax:=bl k (by simp at hm⊢;omega) (by simp)
  rw[show((1:Nat):Int)=1 from rfl]at ax
  rw[zU (by simp),zX,ajW,ax]
  have e:((0:Int)==0)=true:=rfl
  rw[e]
  simp only[cond_true,nM]
  show cond (!small c) _ _=_
  have ad:decide (1≤((c::r).length:Int))=true:=by simp;omega
  have ag:decide (((c::r).length:Int)≤10)=decide ((c::r).length≤10):=by
   by_cases h:(c::r).length≤10<;>simp at h⊢<;>omega
  rw[ad,ag]
  cases small c with
  |false=>simp
  |true=>simp[Bool.and_comm]
end Go.gB
