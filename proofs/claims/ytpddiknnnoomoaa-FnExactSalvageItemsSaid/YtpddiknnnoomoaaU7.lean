/- Part of a proof that a law returns true for every input. No condition. -/
import Derived.Test.YtpddiknnnoomoaaU6
namespace Go.eF
open Go Go.bV
def dx (a:List aP) (i:Nat):List UInt8:=(a.getD i ⟨[],[]⟩).Name
def rX (a:List aP):Prop:=∀i,0<i→i<a.length→Op.bytesLess (dx a (i-1)) (dx a i)=true
theorem xg {a:List aP} (h:rX a):∀d i,i+d+1<a.length→Op.bytesLess (dx a i) (dx a (i+d+1))=true:=by
 intro d
 induction d with
 |zero=>intro i az;exact h (i+1) (by omega) az
 |succ d ih=>
  intro i az
  have U:=ih i (by omega)
  have aa:=h (i+(d+1)+1) (by omega) az
  rw[show i+(d+1)+1-1=i+d+1 by omega]at aa
  exact Cr _ _ _ U aa
theorem mid (bw az:Nat) (h:bw+az≤1000000000):IntKind.i64.wrap (Int.fdiv (IntKind.u64.wrap (IntKind.i64.wrap ((bw:Int)+az))) 2)=(((bw+az)/2:Nat):Int):=by
 rw[fp ((bw:Int)+az) (by omega),IntWalk.u64_in _ (by omega),Int.fdiv_eq_ediv_of_nonneg _ (by omega),fp _ (by omega)]
 omega
theorem Cs (x:aP) (s:List UInt8):tf x s=some (dQ x.Name s):=rfl
theorem Ct (a:List aP) (s:List UInt8) (hl:a.length≤1048576):∀(d bw az n:Nat),az-bw≤d→bw≤az→az≤a.length→d<n→(∀ad,ad<bw→dQ (dx a ad) s<0)→(∀ad,az≤ad→ad<a.length→¬dQ (dx a ad) s<0)→
  (∀i ad,i≤ad→ad<a.length→dQ (dx a ad) s<0→dQ (dx a i) s<0)→
  ∃k:Nat,k≤a.length∧(∀ad,ad<k→dQ (dx a ad) s<0)∧(∀ad,k≤ad→ad<a.length→¬dQ (dx a ad) s<0)∧
   n2 a s n bw az=some ((k:Int),decide (k<a.length)&&(dQ (dx a k) s==0)):=by
 intro d
 induction d with
 |zero=>
  intro bw az n U aa aw aV hn ho _
  obtain⟨m,rfl⟩:∃m,n=m+1:=⟨n-1,by omega⟩
  have:bw=az:=by omega
  subst this
  refine⟨bw,aw,hn,ho,?_⟩
  simp only[n2,tg]
  rw[kA (Nat.le_refl _)]
  by_cases he:bw<a.length
  ·rw[mb he,m6 a bw ⟨[],[]⟩ he]
   simp only[cond_false,cond_true,Option.bind_some,Cs,he,decide_true,Bool.true_and]
   rfl
  ·rw[kA (by omega)]
   simp[he]
 |succ d ih=>
  intro bw az n U aa aw aV hn ho hm
  by_cases he:bw=az
  ·subst he;exact ih bw bw n (by omega) (by omega) aw (by omega) hn ho hm
  ·obtain⟨m,rfl⟩:∃m,n=m+1:=⟨n-1,by omega⟩
   simp only[n2,tg]
   have xh:(bw+az)/2<a.length:=by omega
   rw[mb (by omega),mid bw az (by omega),m6 a ((bw+az)/2) ⟨[],[]⟩ xh,m7 _ _ xh (by omega)]
   simp only[cond_true,Option.bind_some,Cs]
   by_cases ae:dQ (dx a ((bw+az)/2)) s<0
   ·have:decide (dQ (a.getD ((bw+az)/2) ⟨[],[]⟩).Name s<0)=true:=by simpa [dx]using ae
    rw[this]
    exact ih _ _ m (by omega) (by omega) aw (by omega) (fun ad aS=>hm ad _ (by omega) xh ae) ho hm
   ·have:decide (dQ (a.getD ((bw+az)/2) ⟨[],[]⟩).Name s<0)=false:=by simpa [dx]using ae
    rw[this]
    exact ih _ _ m (by omega) (by omega) (by omega) (by omega) hn (fun ad aN a2 bJ=>ae (hm _ ad aN a2 bJ)) hm
end Go.eF
