/- Part of a proof that a law returns true for every input. No condition. -/
import Derived.Test.YtpddiknnnoomoaaU3
namespace Go.fm
open Go Go.bZ
set_option linter.unusedSimpArgs false
theorem Q7 (a b:List UInt8):(!(Op.bytesLess a b))=(Op.bytesLess b a||b==a):=by
 induction a generalizing b with
 |nil=>cases b<;>simp[Op.bytesLess]
 |cons x a ih=>
  cases b with
  |nil=>simp[Op.bytesLess]
  |cons y b=>
   simp only[Op.bytesLess]
   have:=ih b
   by_cases U:x<y
   ·have aa:¬y<x:=fun h=>by have:=UInt8.lt_asymm U h;exact this
    have aw:y≠x:=fun h=>by subst h;exact absurd U (UInt8.lt_irrefl _)
    simp[U,aa,aw]
   ·by_cases aa:y<x
    ·have aw:x≠y:=fun h=>by subst h;exact absurd aa (UInt8.lt_irrefl _)
     simp[U,aa,aw]
    ·have aw:x=y:=by
      have aG:=UInt8.not_lt.1 U
      have aL:=UInt8.not_lt.1 aa
      exact UInt8.le_antisymm aL aG
     subst aw
     simp[U,this]
def sJ (x:aP):Bool:=ln x.Name&&((m3 x.ck).2==0)
def pd (a:List aP) (i:Nat):Bool:=sJ (a.getD i ⟨[],[]⟩)&&(decide (i=0)||Op.bytesLess (a.getD (i-1) ⟨[],[]⟩).Name (a.getD i ⟨[],[]⟩).Name)
def allI (a:List aP) (i:Nat):Bool:=(List.range' i (a.length-i)).all (pd a)
def pe (a:List aP):Bool:=decide (a.length≤16)&&allI a 0
theorem Dt (a:List aP):allI a a.length=true:=by simp[allI]
theorem Du (a:List aP) (i:Nat) (h:i<a.length):allI a i=(pd a i&&allI a (i+1)):=by
 unfold allI
 rw[show a.length-i=(a.length-(i+1))+1 by omega,List.range'_succ]
 simp
def sK (a:List aP):Prop:=a.length≤1048576∧∀x∈a,x.Name.length≤1048576∧x.ck.length≤1048576
theorem xY {a:List aP} (h:sK a) (i:Nat):(a.getD i ⟨[],[]⟩).Name.length≤1048576∧(a.getD i ⟨[],[]⟩).ck.length≤1048576:=by
 by_cases ay:i<a.length
 ·have:a.getD i ⟨[],[]⟩=a[i]:=by simp[List.getD,ay]
  rw[this];exact h.2 _ (List.getElem_mem ay)
 ·have:a.getD i ⟨[],[]⟩=⟨[],[]⟩:=by simp[List.getD,List.getElem?_eq_none (by omega:a.length≤i)]
  rw[this];simp
theorem Dv (i:Nat) (h:0<i) (aR:i≤4611686018427387904):IntKind.i64.wrap ((i:Int)-1)=((i-1:Nat):Int):=by
 rw[g8 _ (by omega)];omega
theorem Q8 (a:List aP) (h:sK a):tQ a=some (pe a):=by
 unfold tQ pe
 by_cases xZ:16<a.length
 ·have aG:decide ((16:Int)<a.length)=true:=by simp;omega
  have aL:decide (a.length≤16)=false:=by simp;omega
  rw[aG,aL];rfl
 ·have aG:decide ((16:Int)<a.length)=false:=by simp;omega
  have aL:decide (a.length≤16)=true:=by simp;omega
  rw[aG,aL,sG (n:=a.length) (fun i=>some (allI a i))]
  ·rfl
  ·intro m
   simp only[qu,tP]
   rw[jV (Nat.le_refl _),Dt];rfl
  ·intro i ay m ih
   simp only[qu,tP]
   rw[ll ay,ky _ i ⟨[],[]⟩ ay,me i _ ay (by omega),ih,Du _ _ ay]
   simp only[cond_true,Option.bind_some,Dr]
   have al:=xX (a.getD i ⟨[],[]⟩).ck (by have:=(xY h i).2;omega)
   rw[al]
   simp only[Option.bind_some]
   by_cases bu:i=0
   ·subst bu
    have e:decide ((0:Int)<((0:Nat):Int))=false:=by decide
    rw[e]
    simp only[cond_false,pd,sJ]
    cases ln (a.getD 0 ⟨[],[]⟩).Name with
    |false=>rfl
    |true=>
     generalize m3 (a.getD 0 ⟨[],[]⟩).ck=z
     obtain⟨r1,mN⟩:=z
     cases I:(mN==0)<;>simp[bne,I]
   ·have e:decide ((0:Int)<(i:Int))=true:=by simp;omega
    rw[e,Dv i (by omega) (by have:=h.1;omega),ky _ (i-1) ⟨[],[]⟩ (by omega)]
    simp only[cond_true,Option.bind_some,pd,sJ,bu,decide_false,Bool.false_or]
    cases ln (a.getD i ⟨[],[]⟩).Name with
    |false=>rfl
    |true=>
     generalize m3 (a.getD i ⟨[],[]⟩).ck=z
     obtain⟨r1,mN⟩:=z
     cases I:(mN==0)<;>cases Op.bytesLess (a.getD (i-1) ⟨[],[]⟩).Name (a.getD i ⟨[],[]⟩).Name<;>simp[bne,I]
theorem Q9 (a:List aP) (h:sK a):t_ a=some (pe a):=by
 unfold t_ pe
 have fz:decide ((a.length:Int)≤16)=decide (a.length≤16):=by
  by_cases h:a.length≤16<;>simp<;>omega
 rw[sG (n:=a.length) (fun i=>some (decide (a.length≤16)&&allI a i))]
 ·intro m
  simp only[qB,tZ]
  rw[jV (Nat.le_refl _),Dt,fz];simp
 ·intro i ay m ih
  simp only[qB,tZ]
  rw[ll ay,ky _ i ⟨[],[]⟩ ay,me i _ ay (by have:=h.1;omega),ih,Du _ _ ay]
  simp only[cond_true,Option.bind_some,xj]
  have aR:=Ds (a.getD i ⟨[],[]⟩).Name (by have:=(xY h i).1;omega)
  have al:=Dq (a.getD i ⟨[],[]⟩).ck (by have:=(xY h i).2;omega)
  rw[aR,al]
  simp only[Option.bind_some]
  by_cases bu:i=0
  ·subst bu
   have e:decide ((0:Int)<((0:Nat):Int))=false:=by decide
   rw[e]
   simp only[cond_false,pd,sJ]
   cases ln (a.getD 0 ⟨[],[]⟩).Name with
   |false=>simp
   |true=>
    generalize m3 (a.getD 0 ⟨[],[]⟩).ck=z
    obtain⟨r1,mN⟩:=z
    cases I:(mN==0)<;>simp[bne,I]
  ·have e:decide ((0:Int)<(i:Int))=true:=by simp;omega
   rw[e,Dv i (by omega) (by have:=h.1;omega),ky _ (i-1) ⟨[],[]⟩ (by omega)]
   simp only[cond_true,Option.bind_some,pd,sJ,bu,decide_false,Bool.false_or,←Q7]
   cases ln (a.getD i ⟨[],[]⟩).Name with
   |false=>simp
   |true=>
    generalize m3 (a.getD i ⟨[],[]⟩).ck=z
    obtain⟨r1,mN⟩:=z
    cases I:(mN==0)<;>cases Op.bytesLess (a.getD (i-1) ⟨[],[]⟩).Name (a.getD i ⟨[],[]⟩).Name<;>simp[bne,I]
end Go.fm
