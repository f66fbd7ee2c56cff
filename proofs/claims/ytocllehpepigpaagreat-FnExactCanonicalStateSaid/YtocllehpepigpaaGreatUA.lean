/- Part of a proof that a law returns true for every input. No condition. -/
import Derived.Test.YtocllehpepigpaaGreatUG
import Derived.Test.YtocllehpepigpaaGreatP3
namespace Go.eN
open Go Go.cZ
def uU (t:b7):Nat:=if t.Kind=2 then 2 else if t.Kind=3 then 1 else 0
theorem QH (t:b7):uU t≤2:=by unfold uU;split<;>(try split)<;>omega
theorem QI (t:b7):cond (t.Kind==2) (some 2) (cond (t.Kind==3) (some 1) (some 0))=some (uU t:Int):=by
 unfold uU
 by_cases ah:t.Kind=2
 ·simp[ah]
 ·by_cases aC:t.Kind=3
  ·simp[aC]
  ·have aZ:(t.Kind==2)=false:=by simpa using ah
   have aQ:(t.Kind==3)=false:=by simpa using aC
   rw[aZ,aQ,if_neg ah,if_neg aC];rfl
def rj (n dv ao:Int):Bool:=decide (dv≤n)&&decide (n≤ao)
def uV (t:b7) (v:Int):Bool:=cond (t.Kind==0) (rj t.Value 0 63) (cond (t.Kind==1) (rj t.Value 0 (v-1)) (cond (t.Kind==2) (rj t.Value 0 8) (cond (t.Kind==3) (t.Value==0) false)))
def uW (v:Int):List b7→Nat→Bool
 |[],k=>k==0
 |t::r,k=> !(k==0)&&(uV t v&&uW v r (k+uU t-1))
def uX (e:List b7) (v most:Int):Bool:=decide ((e.length:Int)≤most)&&uW v e 1
theorem aBQ (t:b7) (v:Int) (aM: -1000000≤v∧v≤1000000):CA t v=some (uV t v):=by
 unfold CA lv uV rj
 rw[fl (v-1) (by omega)]
 cases t.Kind==0<;>cases t.Kind==1<;>cases t.Kind==2<;>cases t.Kind==3<;>rfl
theorem aBR (t:b7) (v:Int) (aM: -1000000≤v∧v≤1000000):Da t v=some (uV t v):=by
 unfold Da zr jX uV rj
 rw[fl (v-1) (by omega)]
 cases t.Kind==0<;>cases t.Kind==1<;>cases t.Kind==2<;>cases t.Kind==3<;>rfl
theorem aBS (t:b7):Hs t=some (uU t:Int):=QI t
theorem aBT (t:b7):HC t=some (uU t:Int):=QI t
theorem QJ {k a:Nat} (hk:1≤k) (oZ:k≤100000000) (cE:a≤2):IntKind.i64.wrap ((k:Int)+IntKind.i64.wrap ((a:Int)-1))=((k+a-1:Nat):Int):=by
 rw[fl ((a:Int)-1) (by omega),fl _ (by omega)];omega
theorem xk (k:Nat):((k:Int)==0)=(k==0):=by
 by_cases h:k=0
 ·subst h;rfl
 ·have h1:((k:Int)==0)=false:=by simp;omega
  have ah:(k==0)=false:=by simpa using h
  rw[h1,ah]
theorem aBU (e:List b7) (v most:Int) (aM: -1000000≤v∧v≤1000000) (he:e.length≤1048576):CC e v most=some (uX e v most):=by
 unfold CC uX
 by_cases hm:(e.length:Int)≤most
 ·have d1:decide (most<(e.length:Int))=false:=by simp;omega
  have d2:decide ((e.length:Int)≤most)=true:=by simpa using hm
  rw[d1,d2,cond_false,Bool.true_and]
  have key:∀i,i≤e.length→∀(k:Nat) m,k≤1+2*i→e.length-i<m→tH e v m (k:Int) (i:Int)=some (uW v (e.drop i) k):=by
   refine down e.length ?_ ?_
   ·intro k m _ hm
    obtain⟨m,rfl⟩:∃j,m=j+1:=⟨m-1,by omega⟩
    simp only[tH,CB]
    rw[fq (Nat.le_refl _),List.drop_of_length_le (Nat.le_refl _),xk];rfl
   ·intro i ao ih k m hk hm
    obtain⟨m,rfl⟩:∃j,m=j+1:=⟨m-1,by omega⟩
    simp only[tH,CB]
    rw[gP ao,gm _ i ao,gA i _ ao (by omega),drop_cons e i ao,xk]
    simp only[cond_true,Option.bind_some,aBQ _ v aM,aBS,uW]
    by_cases bf:k=0
    ·subst bf;rfl
    ·have ae:(k==0)=false:=by simpa using bf
     have cE:=QH e[i]
     rw[ae,QJ (by omega) (by omega) cE,ih _ m (by omega) (by omega)]
     simp only[cond_false,Bool.not_false,Bool.true_and]
     cases uV e[i] v<;>rfl
  refine iX (e.length+1) fun m hm=> ?_
  have:=key 0 (by omega) 1 m (by omega) (by omega)
  simpa using this
 ·have d1:decide (most<(e.length:Int))=true:=by simp;omega
  have d2:decide ((e.length:Int)≤most)=false:=by simpa using hm
  rw[d1,d2];rfl
theorem aBV (e:List b7) (v most:Int) (aM:0≤v∧v≤29) (aFK:1≤most∧most≤60) (he:e.length≤1048576):Dc e v most=some (uX e v most):=by
 unfold Dc jX uX
 have d1:(!(decide (0≤v)&&decide (v≤29)))=false:=by simp;omega
 have d2:(!(decide (1≤most)&&decide (most≤60)))=false:=by simp;omega
 simp only[Option.bind_some,d1,d2,cond_false]
 by_cases h1:e.length=0
 ·have:e=[]:=List.length_eq_zero_iff.1 h1
  subst this
  simp[uW]
 ·by_cases hm:(e.length:Int)≤most
  ·have d3:(!(decide ((1:Int)≤(e.length:Int))&&decide ((e.length:Int)≤most)))=false:=by simp;omega
   have d4:decide ((e.length:Int)≤most)=true:=by simpa using hm
   rw[d3,d4,cond_false,Bool.true_and]
   have key:∀i,i≤e.length→∀(k:Nat) m,k≤1+2*i→e.length-i<m→tV e v m (k:Int) (i:Int)=some (uW v (e.drop i) k):=by
    refine down e.length ?_ ?_
    ·intro k m _ hm
     obtain⟨m,rfl⟩:∃j,m=j+1:=⟨m-1,by omega⟩
     simp only[tV,Db]
     rw[fq (Nat.le_refl _),List.drop_of_length_le (Nat.le_refl _),xk];rfl
    ·intro i ao ih k m hk hm
     obtain⟨m,rfl⟩:∃j,m=j+1:=⟨m-1,by omega⟩
     simp only[tV,Db]
     rw[gP ao,gm _ i ao,gA i _ ao (by omega),drop_cons e i ao,xk]
     simp only[cond_true,Option.bind_some,aBR _ v (by omega),aBT,uW]
     by_cases bf:k=0
     ·subst bf;rfl
     ·have ae:(k==0)=false:=by simpa using bf
      have cE:=QH e[i]
      rw[ae,QJ (by omega) (by omega) cE,ih _ m (by omega) (by omega)]
      simp only[cond_false,Bool.not_false,Bool.true_and]
      cases uV e[i] v<;>rfl
   refine iX (e.length+1) fun m hm=> ?_
   have:=key 0 (by omega) 1 m (by omega) (by omega)
   simpa using this
  ·have d3:(!(decide ((1:Int)≤(e.length:Int))&&decide ((e.length:Int)≤most)))=true:=by simp;omega
   have d4:decide ((e.length:Int)≤most)=false:=by simpa using hm
   rw[d3,d4];rfl
end Go.eN
