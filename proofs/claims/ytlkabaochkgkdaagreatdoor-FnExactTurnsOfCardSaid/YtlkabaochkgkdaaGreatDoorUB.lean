/- Part of a proof that a law returns true for every input. No condition. -/
import Derived.Test.YtlkabaochkgkdaaGreatDoorUG
import Derived.Test.YtlkabaochkgkdaaGreatDoorP3
namespace Go.eU
open Go Go.c_
def small (c:UInt8):Bool:=decide (97<=(c.toNat:Int))&&decide ((c.toNat:Int)<=122)
def digit (c:UInt8):Bool:=decide (48<=(c.toNat:Int))&&decide ((c.toNat:Int)<=57)
def kG (s:List UInt8):Bool:=decide (s.length<=10)&&(match s with|[]=>false|c::r=>small c&&r.all λc=>small c||digit c)
theorem BB (s:List UInt8):uI s=some (kG s):=by
 unfold uI;cases s with
 |nil=>rfl
 |cons c r=>
  have gx:((c::r)==([]:List UInt8))=false:=rfl;rw[gx];simp only[cond_false];by_cases iB:10<(c::r).length
  .have:decide ((10:Int)<((c::r).length:Int))=true:=by simp at iB⊢;omega
   rw[this];have ah:decide ((c::r).length<=10)=false:=by simp at iB⊢;omega
   simp only[kG,ah];rfl
  .have:decide ((10:Int)<((c::r).length:Int))=false:=by simp at iB⊢;omega
   rw[this];have ah:decide ((c::r).length<=10)=true:=by simp at iB⊢;omega
   rw[Gk];simp only[cond_false,Option.bind_some,Ab];simp only[kG,ah,Bool.true_and];show cond (!small c) _ _=_;cases ae:small c with
   |false=>rfl
   |true=>
    simp only[Bool.not_true,cond_false];rw[sa (n:=(c::r).length) (λi=>some (((c::r).drop i).all λc=>small c||digit c))]
    .simp[ae]
    .intro m;simp only[xA,Du];rw[fh (Nat.le_refl _)];simp
    .intro i an m ih;simp only[xA,Du];rw[fX an,gN _ i an,fO i _ an (by omega),ih,drop_cons _ i an];simp only[cond_true,Option.bind_some,Ab,xz,List.all_cons];show cond (!small _) (cond (!digit _) _ _) _=_;cases small (c::r)[i]<;>cases digit (c::r)[i]<;>rfl
theorem KK (s:List UInt8) (ae:s.length<=140737488355328):As s=some (kG s):=by
 unfold As;have bL:∀m,s.length-1<m->1<=s.length->rW s m ((1:Nat):Int)=some (((s.drop 1).all λc=>small c||digit c)&&(decide (1<=(s.length:Int))&&decide ((s.length:Int)<=10))):=by
  intro m hm ag;refine down s.length (P:=λi=>1<=i->∀m,s.length-i<m->rW s m (i:Int)=some (((s.drop i).all λc=>small c||digit c)&&(decide (1<=(s.length:Int))&&decide ((s.length:Int)<=10)))) ?_ ?_ 1 ag (Nat.le_refl _) m hm
  .intro _ m hm;obtain⟨k,rfl⟩:∃k,m=k+1:=⟨m-1,by omega⟩
   simp only[rW,Ar];rw[fh (Nat.le_refl _)];simp
  .intro i an ih zo m hm;obtain⟨k,rfl⟩:∃k,m=k+1:=⟨m-1,by omega⟩
   simp only[rW,Ar];rw[fX an,gN _ i an,fO i _ an (by omega),ih (by omega) k (by omega),drop_cons _ i an];have e:((i:Int)==0)=false:=by simp;omega
   rw[e];simp only[cond_true,cond_false,Option.bind_some,Jj,List.all_cons];show cond (!small _) (cond (!digit _) _ _) _=_;cases small s[i]<;>cases digit s[i]<;>rfl
 refine ij (s.length+1) λm hm=>?_;obtain⟨k,rfl⟩:∃k,m=k+1:=⟨m-1,by omega⟩
 simp only[rW,Ar];cases s with
 |nil=>rfl
 |cons c r=>
  have ay:=bL k (by simp at hm⊢;omega) (by simp);rw[show((1:Nat):Int)=1 from rfl]at ay;rw[vN (by simp),Gk,aD8,ay];have e:((0:Int)==0)=true:=rfl;rw[e];simp only[cond_true,kG];show cond (!small c) _ _=_;have ag:decide (1<=((c::r).length:Int))=true:=by simp;omega
  have ah:decide (((c::r).length:Int)<=10)=decide ((c::r).length<=10):=by
   by_cases h:(c::r).length<=10<;>simp at h⊢<;>omega
  rw[ag,ah];cases small c with
  |false=>simp
  |true=>simp[Bool.and_comm]
end Go.eU
