/- Part of a proof that a law returns true for every input. No condition. -/
import Derived.Test.YtocllehpepigpaaGreatDoorUG
import GoSem.Op.String
namespace Go.gB
open Go Go.cI
set_option linter.unusedSimpArgs false
theorem akC (a b:List UInt8):(!(Op.bytesLess a b))=(Op.bytesLess b a||b==a):=by
 induction a generalizing b with
 |nil=>cases b<;>simp[Op.bytesLess]
 |cons x a ih=>
  cases b with
  |nil=>simp[Op.bytesLess]
  |cons y b=>
   simp only[Op.bytesLess]
   have:=ih b
   by_cases ad:x<y
   ·have ag:¬y<x:=fun h=>by have:=UInt8.lt_asymm ad h;exact this
    have aF:y≠x:=fun h=>by subst h;exact absurd ad (UInt8.lt_irrefl _)
    simp[ad,ag,aF]
   ·by_cases ag:y<x
    ·have aF:x≠y:=fun h=>by subst h;exact absurd ag (UInt8.lt_irrefl _)
     simp[ad,ag,aF]
    ·have aF:x=y:=by
      have aT:=UInt8.not_lt.1 ad
      have aX:=UInt8.not_lt.1 ag
      exact UInt8.le_antisymm aX aT
     subst aF
     simp[ad,this]
end Go.gB
