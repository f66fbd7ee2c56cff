/- Part of a proof that a law returns true for every input. No condition. -/
import Derived.Test.YtipllbfpaepajaaGreatDoorUH5
namespace Go.e3
open Go Go.b9
def jj (x:Int):Bool:=decide (0≤x)&&decide (x≤3)
theorem Yw {x:Int} (h:jj x=true):x=0∨x=1∨x=2∨x=3:=by
 simp only[jj,Bool.and_eq_true,decide_eq_true_eq]at h;omega
theorem Yx (a:List (List UInt8)) (h:a.length≤1048576) (hw:∀w∈a,w.length≤1048576):vW a=some (a.all l1):=by
 unfold vW zj zi
 rw[Ad (n:=a.length) (l:=pW a) (fun i=> !l1 (a.getD i [])) (fun m=> ?_) (fun i aA m=> ?_)]
 ·simp only[Option.bind_some,Ac,Bool.not_not]
  congr 1
  rw[Bool.eq_iff_iff,t_,List.all_eq_true]
  constructor
  ·intro q x ao
   obtain⟨k,ar,rfl⟩:=List.mem_iff_getElem.1 ao
   have:=q k ar
   simpa [List.getD,ar]using this
  ·intro q i aA
   have:=q _ (List.getElem_mem aA)
   simpa [List.getD,aA]using this
 ·simp only[pW,vV]
  rw[ji (Nat.le_refl _)];rfl
 ·simp only[pW,vV,zh]
  rw[jh aA,gE _ i aA,iR i _ aA (by omega)]
  simp only[cond_true,Option.bind_some]
  rw[(Gr _ (hw _ (List.getElem_mem aA))).2]
  have e:a.getD i []=a[i]:=by simp[List.getD,aA]
  rw[e]
  rfl
theorem Yy (a:List Int) (h:a.length≤1048576):vY a=some (!(a.all jj)):=by
 unfold vY zl
 rw[Ad (n:=a.length) (l:=pX a) (fun i=> !jj (a.getD i 0)) (fun m=> ?_) (fun i aA m=> ?_)]
 ·simp only[Option.bind_some,Ac,Bool.not_not]
  congr 2
  rw[Bool.eq_iff_iff,t_,List.all_eq_true]
  constructor
  ·intro q x ao
   obtain⟨k,ar,rfl⟩:=List.mem_iff_getElem.1 ao
   have:=q k ar
   simpa [List.getD,ar]using this
  ·intro q i aA
   have:=q _ (List.getElem_mem aA)
   simpa [List.getD,aA]using this
 ·simp only[pX,vX]
  rw[ji (Nat.le_refl _)];rfl
 ·simp only[pX,vX,zk,tA]
  rw[jh aA,gE _ i aA,iR i _ aA (by omega)]
  simp only[cond_true,Option.bind_some]
  have e:a.getD i 0=a[i]:=by simp[List.getD,aA]
  rw[e]
  rfl
noncomputable def codeOf (a:List (List UInt8)) (af:List Int):Int:=
 if 60<a.length∨a.all l1=false then 2 else if 200<af.length∨af.all jj=false then 7 else 0
theorem Yz (af:List Int) (aJ:af.length≤1048576):en (fun n=>pO af n 0)=some (if af.all jj=true then 0 else 7):=by
 rw[rY (n:=af.length) (fun i=>some (if(af.drop i).all jj=true then 0 else 7))]
 ·simp
 ·intro m
  simp only[pO,vw]
  rw[ji (Nat.le_refl _)];simp
 ·intro i aA m ih
  simp only[pO,vw,tk]
  rw[jh aA,gE _ i aA,iR i _ aA (by omega),ih,drop_cons _ i aA]
  simp only[cond_true,Option.bind_some,List.all_cons]
  show cond (!jj af[i]) _ _=_
  by_cases ai:jj af[i]=true
  ·simp[ai]
  ·have ue:jj af[i]=false:=by simpa using ai
   simp[ue]
theorem YA (a:List (List UInt8)) (af:List Int) (h:a.length≤1048576) (hw:∀w∈a,w.length≤1048576) (aJ:af.length≤1048576):
  vy a af=some (codeOf a af)∧vZ a af=some (codeOf a af):=by
 unfold vy vZ codeOf
 by_cases Gz:60<a.length
 ·have e:decide ((60:Int)<(a.length:Int))=true:=by simp;omega
  rw[e,if_pos (.inl Gz)];exact⟨rfl,rfl⟩
 have e:decide ((60:Int)<(a.length:Int))=false:=by simp;omega
 rw[e]
 simp only[cond_false]
 rw[Yx a h hw,Yy af aJ]
 have U:en (fun n=>pP a af n 0)=some (if a.all l1=true then(if 200<af.length∨af.all jj=false then 7 else 0)else 2):=by
  rw[rY (n:=a.length) (fun i=>some (if(a.drop i).all l1=true then(if 200<af.length∨af.all jj=false then 7 else 0)else 2))]
  ·simp
  ·intro m
   simp only[pP,vx]
   rw[ji (Nat.le_refl _),cond_false,Yz af aJ]
   by_cases ad:200<af.length
   ·have e:decide ((200:Int)<(af.length:Int))=true:=by simp;omega
    rw[e];simp[ad]
   ·have e:decide ((200:Int)<(af.length:Int))=false:=by simp;omega
    rw[e]
    cases af.all jj<;>simp[ad]
  ·intro i aA m ih
   simp only[pP,vx]
   rw[jh aA,gE _ i aA,iR i _ aA (by omega),ih,drop_cons _ i aA]
   simp only[cond_true,Option.bind_some,List.all_cons]
   rw[(Gr _ (hw _ (List.getElem_mem aA))).1]
   simp only[Option.bind_some]
   by_cases ai:l1 a[i]=true
   ·simp[ai]
   ·have ue:l1 a[i]=false:=by simpa using ai
    simp[ue]
 rw[U]
 cases bQ:a.all l1
 ·simp
 ·simp only[Gz,false_or,Bool.true_eq_false,if_false,Option.bind_some,Bool.not_true,cond_false,if_true]
  by_cases ad:200<af.length
  ·have e:decide ((200:Int)<(af.length:Int))=true:=by simp;omega
   rw[e];simp[ad]
  ·have e:decide ((200:Int)<(af.length:Int))=false:=by simp;omega
   rw[e]
   cases af.all jj<;>simp[ad]
theorem YB {a:List (List UInt8)} {af:List Int} (h:codeOf a af=0):∀x∈af,x=0∨x=1∨x=2∨x=3:=by
 intro x ao
 unfold codeOf at h
 split at h
 ·cases h
 ·split at h
  ·cases h
  ·rename_i ad
   have:af.all jj=true:=by
    cases fb:af.all jj
    ·exact(ad (.inr fb)).elim
    ·rfl
   exact Yw (List.all_eq_true.1 this x ao)
end Go.e3
