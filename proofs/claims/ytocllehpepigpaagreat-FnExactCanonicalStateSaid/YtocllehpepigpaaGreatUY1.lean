/- Part of a proof that a law returns true for every input. No condition. -/
import Derived.Test.YtocllehpepigpaaGreatUO
import Derived.Test.YtocllehpepigpaaGreatUD14
namespace Go.eN
open Go Go.cZ
set_option linter.unusedSimpArgs false
def jE (s:List UInt8):Bool:=kP s&& !(s==([116,97,117]:List UInt8))
theorem Ra (s:List UInt8):tO s=some (jE s):=by unfold tO;rw[IY];rfl
theorem ER (s:List UInt8) (ag:s.length≤1048576):q4 s=some (jE s):=Q2 s ag
theorem aCC {β:Type} {l:Nat→Int→Option β} {n:Nat} (p:Nat→Bool) (pL bad:Option β) (bf:∀m,l (m+1) (n:Int)=pL)
  (ag:∀i,i<n→∀m,l (m+1) (i:Int)=cond (p i) (l m ((i+1:Nat):Int)) bad) (i0:Nat) (ao:i0≤n):lim (fun m=>l m (i0:Int))=cond ((List.range' i0 (n-i0)).all p) pL bad:=by
 refine iX (n+1) fun m hm=> ?_
 refine up (fun i=>cond ((List.range' i (n-i)).all p) pL bad) (fun m=> ?_) (fun i ao m ih=> ?_) i0 ao m (by omega)
 ·rw[bf];simp
 ·rw[ag i ao,ih,show n-i=(n-(i+1))+1 by omega,List.range'_succ]
  cases au:p i<;>simp[au]
def nw (a:List (List UInt8)) (i:Nat):Bool:=decide (i=0)||Op.bytesLess (a.getD (i-1) []) (a.getD i [])
def qz (a:List (List UInt8)):Bool:=decide (a.length≤12)&&(fP (fun i=>jE (a.getD i [])) a.length&&fP (nw a) a.length)
theorem Rb (a:List (List UInt8)) (h:a.length≤1048576):zj a=some (qz a):=by
 unfold zj qz
 by_cases hl:12<a.length
 ·have d1:decide ((12:Int)<(a.length:Int))=true:=decide_eq_true (by omega)
  have d2:decide (a.length≤12)=false:=decide_eq_false (by omega)
  rw[d1,d2];rfl
 ·have d1:decide ((12:Int)<(a.length:Int))=false:=decide_eq_false (by omega)
  have d2:decide (a.length≤12)=true:=decide_eq_true (by omega)
  have I5:CP a=some (fP (fun i=>jE (a.getD i [])) a.length):=by
   unfold CP
   refine AD (l:=fun m i=>tP a m i) _ (fun m=> ?_) (fun i ao m=> ?_)
   ·simp only[tP,CO]
    rw[fq (Nat.le_refl _)];rfl
   ·simp only[tP,CO]
    rw[gP ao,lW _ i [] ao,gA i _ ao (by omega)]
    simp only[cond_true,Option.bind_some,Ra]
    cases jE (a.getD i [])<;>rfl
  rw[d1,d2,I5]
  simp only[cond_false,Option.bind_some,Bool.true_and]
  cases fP (fun i=>jE (a.getD i [])) a.length
  ·rfl
  ·simp only[Bool.not_true,cond_false,Bool.true_and]
   by_cases bf:a.length=0
   ·rw[iX (x:=some true) 1 (fun m hm=>by
     obtain⟨k,rfl⟩:∃k,m=k+1:=⟨m-1,by omega⟩
     simp only[nT,zi]
     rw[bf];rfl)]
    rw[bf];rfl
   ·have key:=aCC (l:=fun m i=>nT a m i) (n:=a.length) (fun i=>decide (i=0)||Op.bytesLess (a.getD (i-1) []) (a.getD i [])) (some true) (some false)
    have cf:nT a=nT a:=rfl
    have:∀i,1≤i→i≤a.length→∀m,a.length-i<m→nT a m (i:Int)=cond ((List.range' i (a.length-i)).all (nw a)) (some true) (some false):=by
     intro i h1 ah
     refine down a.length (P:=fun i=>1≤i→∀m,a.length-i<m→nT a m (i:Int)=cond ((List.range' i (a.length-i)).all (nw a)) (some true) (some false)) ?_ ?_ i ah h1
     ·intro _ m hm
      obtain⟨k,rfl⟩:∃k,m=k+1:=⟨m-1,by omega⟩
      simp only[nT,zi]
      rw[fq (Nat.le_refl _)];simp
     ·intro i ao ih h1 m hm
      obtain⟨k,rfl⟩:∃k,m=k+1:=⟨m-1,by omega⟩
      simp only[nT,zi]
      rw[gP ao,AE i (by omega) (by omega),lW _ (i-1) [] (by omega),lW _ i [] ao,gA i _ ao (by omega),ih (by omega) k (by omega),show a.length-i=(a.length-(i+1))+1 by omega,List.range'_succ]
      have aX:nw a i=Op.bytesLess (a.getD (i-1) []) (a.getD i []):=by
       unfold nw
       have:decide (i=0)=false:=decide_eq_false (by omega)
       rw[this,Bool.false_or]
      simp only[cond_true,Option.bind_some,List.all_cons,aX]
      cases Op.bytesLess (a.getD (i-1) []) (a.getD i [])<;>rfl
    have I8:=iX (f:=fun m=>nT a m 1) (a.length+1) (fun m hm=>this 1 (by omega) (by omega) m (by omega))
    rw[I8]
    have e:fP (nw a) a.length=(List.range' 1 (a.length-1)).all (nw a):=by
     unfold fP
     rw[List.range_eq_range',show a.length=(a.length-1)+1 by omega,List.range'_succ]
     simp[nw]
    rw[e]
    cases(List.range' 1 (a.length-1)).all (nw a)<;>rfl
theorem aCD {p q:Nat→Bool} {n:Nat}:(fP p n&&fP q n)=fP (fun i=>p i&&q i) n:=rq.symm
theorem Rc (a:List (List UInt8)) (h:a.length≤1048576) (ag:∀s∈a,s.length≤1048576):zB a=some (qz a):=by
 unfold zB qz
 rw[aCD]
 rw[uZ (l:=fun m i=>tZ a m i) (n:=a.length) (fun i=>jE (a.getD i [])&&nw a i) (some (decide ((a.length:Int)≤12))) (some false)]
 ·have e:decide ((a.length:Int)≤12)=decide (a.length≤12):=decide_eq_decide.2 (by omega)
  rw[e]
  cases fP (fun i=>jE (a.getD i [])&&nw a i) a.length<;>cases decide (a.length≤12)<;>rfl
 ·intro m
  simp only[tZ,Ds]
  rw[fq (Nat.le_refl _)];rfl
 ·intro i ao m
  simp only[tZ,Ds]
  have hm:(a.getD i []).length≤1048576:=by
   have:a.getD i []=a[i]:=by simp[List.getD,ao]
   rw[this];exact ag _ (List.getElem_mem ao)
  rw[gP ao,lW _ i [] ao,gA i _ ao (by omega)]
  simp only[cond_true,Option.bind_some,ER _ hm]
  by_cases bf:i=0
  ·subst bf
   rw[uS]
   simp only[cond_false,nw,decide_true,Bool.true_or,Bool.and_true]
   cases jE (a.getD 0 [])<;>rfl
  ·rw[IV bf,AE i (by omega) (by omega),lW _ (i-1) [] (by omega)]
   have aX:nw a i=Op.bytesLess (a.getD (i-1) []) (a.getD i []):=by
    unfold nw
    have:decide (i=0)=false:=decide_eq_false bf
    rw[this,Bool.false_or]
   have ba:=Q_ (a.getD (i-1) []) (a.getD i [])
   simp only[cond_true,Option.bind_some,aX,←ba]
   cases jE (a.getD i [])<;>cases Op.bytesLess (a.getD (i-1) []) (a.getD i [])<;>rfl
end Go.eN
