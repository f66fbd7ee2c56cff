/- Part of a proof that a law returns true for every input. No condition. -/
import Derived.Test.YtipllbfpaepajaaGreatDoorUH5
namespace Go.ff
open Go Go.ca
def jK (x:Int):Bool:=decide (0≤x)&&decide (x≤3)
theorem aa3 {x:Int} (h:jK x=true):x=0∨x=1∨x=2∨x=3:=by
 simp only[jK,Bool.and_eq_true,decide_eq_true_eq]at h;omega
theorem aa4 (a:List (List UInt8)) (h:a.length≤1048576) (hw:∀w∈a,w.length≤1048576):wP a=some (a.all mE):=by
 unfold wP z1 zZ
 rw[AV (n:=a.length) (l:=qk a) (fun i=> !mE (a.getD i [])) (fun m=> ?_) (fun i aA m=> ?_)]
 ·simp only[Option.bind_some,AU,Bool.not_not]
  congr 1
  rw[Bool.eq_iff_iff,uQ,List.all_eq_true]
  constructor
  ·intro q x aq
   obtain⟨k,al,rfl⟩:=List.mem_iff_getElem.1 aq
   have:=q k al
   simpa [List.getD,al]using this
  ·intro q i aA
   have:=q _ (List.getElem_mem aA)
   simpa [List.getD,aA]using this
 ·simp only[qk,wO]
  rw[im (Nat.le_refl _)];rfl
 ·simp only[qk,wO,zY]
  rw[jJ aA,gJ _ i aA,jo i _ aA (by omega)]
  simp only[cond_true,Option.bind_some]
  rw[(Ht _ (hw _ (List.getElem_mem aA))).2]
  have e:a.getD i []=a[i]:=by simp[List.getD,aA]
  rw[e]
  rfl
theorem aa5 (a:List Int) (h:a.length≤1048576):wR a=some (!(a.all jK)):=by
 unfold wR z7
 rw[AV (n:=a.length) (l:=ql a) (fun i=> !jK (a.getD i 0)) (fun m=> ?_) (fun i aA m=> ?_)]
 ·simp only[Option.bind_some,AU,Bool.not_not]
  congr 2
  rw[Bool.eq_iff_iff,uQ,List.all_eq_true]
  constructor
  ·intro q x aq
   obtain⟨k,al,rfl⟩:=List.mem_iff_getElem.1 aq
   have:=q k al
   simpa [List.getD,al]using this
  ·intro q i aA
   have:=q _ (List.getElem_mem aA)
   simpa [List.getD,aA]using this
 ·simp only[ql,wQ]
  rw[im (Nat.le_refl _)];rfl
 ·simp only[ql,wQ,z6,uf]
  rw[jJ aA,gJ _ i aA,jo i _ aA (by omega)]
  simp only[cond_true,Option.bind_some]
  have e:a.getD i 0=a[i]:=by simp[List.getD,aA]
  rw[e]
  rfl
noncomputable def codeOf (a:List (List UInt8)) (ag:List Int):Int:=
 if 60<a.length∨a.all mE=false then 2 else if 200<ag.length∨ag.all jK=false then 7 else 0
theorem aa6 (ag:List Int) (hl:ag.length≤1048576):dG (fun n=>qc ag n 0)=some (if ag.all jK=true then 0 else 7):=by
 rw[su (n:=ag.length) (fun i=>some (if(ag.drop i).all jK=true then 0 else 7))]
 ·simp
 ·intro m
  simp only[qc,wj]
  rw[im (Nat.le_refl _)];simp
 ·intro i aA m ih
  simp only[qc,wj,tS]
  rw[jJ aA,gJ _ i aA,jo i _ aA (by omega),ih,drop_cons _ i aA]
  simp only[cond_true,Option.bind_some,List.all_cons]
  show cond (!jK ag[i]) _ _=_
  by_cases ai:jK ag[i]=true
  ·simp[ai]
  ·have uV:jK ag[i]=false:=by simpa using ai
   simp[uV]
theorem aa7 (a:List (List UInt8)) (ag:List Int) (h:a.length≤1048576) (hw:∀w∈a,w.length≤1048576) (hl:ag.length≤1048576):
  wm a ag=some (codeOf a ag)∧wS a ag=some (codeOf a ag):=by
 unfold wm wS codeOf
 by_cases HB:60<a.length
 ·have e:decide ((60:Int)<(a.length:Int))=true:=by simp;omega
  rw[e,if_pos (.inl HB)];exact⟨rfl,rfl⟩
 have e:decide ((60:Int)<(a.length:Int))=false:=by simp;omega
 rw[e]
 simp only[cond_false]
 rw[aa4 a h hw,aa5 ag hl]
 have U:dG (fun n=>qd a ag n 0)=some (if a.all mE=true then(if 200<ag.length∨ag.all jK=false then 7 else 0)else 2):=by
  rw[su (n:=a.length) (fun i=>some (if(a.drop i).all mE=true then(if 200<ag.length∨ag.all jK=false then 7 else 0)else 2))]
  ·simp
  ·intro m
   simp only[qd,wk]
   rw[im (Nat.le_refl _),cond_false,aa6 ag hl]
   by_cases ad:200<ag.length
   ·have e:decide ((200:Int)<(ag.length:Int))=true:=by simp;omega
    rw[e];simp[ad]
   ·have e:decide ((200:Int)<(ag.length:Int))=false:=by simp;omega
    rw[e]
    cases ag.all jK<;>simp[ad]
  ·intro i aA m ih
   simp only[qd,wk]
   rw[jJ aA,gJ _ i aA,jo i _ aA (by omega),ih,drop_cons _ i aA]
   simp only[cond_true,Option.bind_some,List.all_cons]
   rw[(Ht _ (hw _ (List.getElem_mem aA))).1]
   simp only[Option.bind_some]
   by_cases ai:mE a[i]=true
   ·simp[ai]
   ·have uV:mE a[i]=false:=by simpa using ai
    simp[uV]
 rw[U]
 cases bT:a.all mE
 ·simp
 ·simp only[HB,false_or,Bool.true_eq_false,if_false,Option.bind_some,Bool.not_true,cond_false,if_true]
  by_cases ad:200<ag.length
  ·have e:decide ((200:Int)<(ag.length:Int))=true:=by simp;omega
   rw[e];simp[ad]
  ·have e:decide ((200:Int)<(ag.length:Int))=false:=by simp;omega
   rw[e]
   cases ag.all jK<;>simp[ad]
theorem aa8 {a:List (List UInt8)} {ag:List Int} (h:codeOf a ag=0):∀x∈ag,x=0∨x=1∨x=2∨x=3:=by
 intro x aq
 unfold codeOf at h
 split at h
 ·cases h
 ·split at h
  ·cases h
  ·rename_i ad
   have:ag.all jK=true:=by
    cases fu:ag.all jK
    ·exact(ad (.inr fu)).elim
    ·rfl
   exact aa3 (List.all_eq_true.1 this x aq)
end Go.ff
