/- Part of a proof that a law returns true for every input. No condition. -/
import Derived.Test.YtpddiknnnoomoaaU3
namespace Go.eF
open Go Go.bV
set_option linter.unusedSimpArgs false
theorem O_ (a b:List UInt8):(!(Op.bytesLess a b))=(Op.bytesLess b a||b==a):=by
 induction a generalizing b with
 |nil=>cases b<;>simp[Op.bytesLess]
 |cons x a ih=>
  cases b with
  |nil=>simp[Op.bytesLess]
  |cons y b=>
   simp only[Op.bytesLess]
   have:=ih b
   by_cases U:x<y
   ·have aa:¬y<x:=fun h=>by have:=UInt8.lt_asymm U h;exact this
    have aw:y≠x:=fun h=>by subst h;exact absurd U (UInt8.lt_irrefl _)
    simp[U,aa,aw]
   ·by_cases aa:y<x
    ·have aw:x≠y:=fun h=>by subst h;exact absurd aa (UInt8.lt_irrefl _)
     simp[U,aa,aw]
    ·have aw:x=y:=by
      have aE:=UInt8.not_lt.1 U
      have aL:=UInt8.not_lt.1 aa
      exact UInt8.le_antisymm aL aE
     subst aw
     simp[U,this]
end Go.eF
