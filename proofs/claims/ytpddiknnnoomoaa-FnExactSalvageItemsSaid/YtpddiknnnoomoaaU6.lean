/- Part of a proof that a law returns true for every input. No condition. -/
import Derived.Test.YtpddiknnnoomoaaU5
namespace Go.eF
open Go Go.bV
theorem og (a b:List UInt8):dQ a b<0↔Op.bytesLess a b=true:=by
 induction a generalizing b with
 |nil=>cases b<;>simp[dQ,Op.bytesLess]
 |cons x a ih=>
  cases b with
  |nil=>simp[dQ,Op.bytesLess]
  |cons y b=>
   simp only[dQ,Op.bytesLess]
   by_cases U:x<y
   ·simp[U]
   ·by_cases aa:y<x
    ·have aw:x≠y:=fun h=>by subst h;exact absurd aa (UInt8.lt_irrefl _)
     simp[U,aa,aw]
    ·have aw:x=y:=UInt8.le_antisymm (UInt8.not_lt.1 aa) (UInt8.not_lt.1 U)
     subst aw
     simp[ih b]
theorem p3 (a b:List UInt8):dQ a b=0↔a=b:=by
 induction a generalizing b with
 |nil=>cases b<;>simp[dQ]
 |cons x a ih=>
  cases b with
  |nil=>simp[dQ]
  |cons y b=>
   simp only[dQ]
   by_cases U:x<y
   ·have aw:x≠y:=fun h=>by subst h;exact absurd U (UInt8.lt_irrefl _)
    simp[U,aw]
   ·by_cases aa:y<x
    ·have aw:x≠y:=fun h=>by subst h;exact absurd aa (UInt8.lt_irrefl _)
     simp[U,aa,aw]
    ·have aw:x=y:=UInt8.le_antisymm (UInt8.not_lt.1 aa) (UInt8.not_lt.1 U)
     subst aw
     simp[ih b]
theorem Cr (a b c:List UInt8) (U:Op.bytesLess a b=true) (aa:Op.bytesLess b c=true):Op.bytesLess a c=true:=by
 induction a generalizing b c with
 |nil=>
  cases c with
  |nil=>cases b<;>simp[Op.bytesLess]at U aa
  |cons z c=>rfl
 |cons x a ih=>
  cases b with
  |nil=>simp[Op.bytesLess]at U
  |cons y b=>
   cases c with
   |nil=>simp[Op.bytesLess]at aa
   |cons z c=>
    simp only[Op.bytesLess,Bool.or_eq_true,decide_eq_true_eq,Bool.and_eq_true,beq_iff_eq]at U aa⊢
    rcases U with U|⟨rfl,U⟩<;>rcases aa with aa|⟨rfl,aa⟩
    ·exact .inl (UInt8.lt_trans U aa)
    ·exact .inl U
    ·exact .inl aa
    ·exact .inr ⟨rfl,ih _ _ U aa⟩
end Go.eF
