/- Part of a proof that a law returns true for every input. No condition. -/
import Derived.Test.YtpddiknnnoomoaaU6
namespace Go.fm
open Go Go.bZ
def fA (a:List aP) (i:Nat):List UInt8:=(a.getD i ⟨[],[]⟩).Name
def uI (a:List aP):Prop:=∀i,0<i→i<a.length→Op.bytesLess (fA a (i-1)) (fA a i)=true
theorem Rb {a:List aP} (h:pe a=true):uI a∧a.length≤16:=by
 simp only[pe,Bool.and_eq_true,decide_eq_true_eq,allI,List.all_eq_true,List.mem_range'_1]at h
 refine⟨fun i bu ay=> ?_,h.1⟩
 have:=h.2 i (by omega)
 simp only[pd,Bool.and_eq_true,Bool.or_eq_true,decide_eq_true_eq]at this
 exact this.2.resolve_left (by omega)
theorem Dx {a:List aP} (h:uI a):∀d i,i+d+1<a.length→Op.bytesLess (fA a i) (fA a (i+d+1))=true:=by
 intro d
 induction d with
 |zero=>intro i ay;exact h (i+1) (by omega) ay
 |succ d ih=>
  intro i ay
  have U:=ih i (by omega)
  have aa:=h (i+(d+1)+1) (by omega) ay
  rw[show i+(d+1)+1-1=i+d+1 by omega]at aa
  exact Dw _ _ _ U aa
theorem mid (bC ay:Nat) (h:bC+ay≤1000000000):IntKind.i64.wrap (Int.fdiv (IntKind.u64.wrap (IntKind.i64.wrap ((bC:Int)+ay))) 2)=(((bC+ay)/2:Nat):Int):=by
 rw[g8 ((bC:Int)+ay) (by omega),IntWalk.u64_in _ (by omega),Int.fdiv_eq_ediv_of_nonneg _ (by omega),g8 _ (by omega)]
 omega
theorem Dy (x:aP) (s:List UInt8):ub x s=some (eC x.Name s):=rfl
theorem Dz (a:List aP) (s:List UInt8) (hl:a.length≤1048576):∀(d bC ay n:Nat),ay-bC≤d→bC≤ay→ay≤a.length→d<n→(∀ad,ad<bC→eC (fA a ad) s<0)→(∀ad,ay≤ad→ad<a.length→¬eC (fA a ad) s<0)→
  (∀i ad,i≤ad→ad<a.length→eC (fA a ad) s<0→eC (fA a i) s<0)→
  ∃k:Nat,k≤a.length∧(∀ad,ad<k→eC (fA a ad) s<0)∧(∀ad,k≤ad→ad<a.length→¬eC (fA a ad) s<0)∧
   oU a s n bC ay=some ((k:Int),decide (k<a.length)&&(eC (fA a k) s==0)):=by
 intro d
 induction d with
 |zero=>
  intro bC ay n U aa aw aR hX hY _
  obtain⟨m,rfl⟩:∃m,n=m+1:=⟨n-1,by omega⟩
  have:bC=ay:=by omega
  subst this
  refine⟨bC,aw,hX,hY,?_⟩
  simp only[oU,uc]
  rw[jV (Nat.le_refl _)]
  by_cases he:bC<a.length
  ·rw[ll he,ky a bC ⟨[],[]⟩ he]
   simp only[cond_false,cond_true,Option.bind_some,Dy,he,decide_true,Bool.true_and]
   rfl
  ·rw[jV (by omega)]
   simp[he]
 |succ d ih=>
  intro bC ay n U aa aw aR hX hY hm
  by_cases he:bC=ay
  ·subst he;exact ih bC bC n (by omega) (by omega) aw (by omega) hX hY hm
  ·obtain⟨m,rfl⟩:∃m,n=m+1:=⟨n-1,by omega⟩
   simp only[oU,uc]
   have x1:(bC+ay)/2<a.length:=by omega
   rw[ll (by omega),mid bC ay (by omega),ky a ((bC+ay)/2) ⟨[],[]⟩ x1,me _ _ x1 (by omega)]
   simp only[cond_true,Option.bind_some,Dy]
   by_cases ae:eC (fA a ((bC+ay)/2)) s<0
   ·have:decide (eC (a.getD ((bC+ay)/2) ⟨[],[]⟩).Name s<0)=true:=by simpa [fA]using ae
    rw[this]
    exact ih _ _ m (by omega) (by omega) aw (by omega) (fun ad aU=>hm ad _ (by omega) x1 ae) hY hm
   ·have:decide (eC (a.getD ((bC+ay)/2) ⟨[],[]⟩).Name s<0)=false:=by simpa [fA]using ae
    rw[this]
    exact ih _ _ m (by omega) (by omega) (by omega) (by omega) hX (fun ad aN a8 bI=>ae (hm _ ad aN a8 bI)) hm
end Go.fm
