/- Part of a proof that a law returns true for every input. No condition. -/
import Derived.Test.YtocllehpepigpaaGreatUG
import GoSem.Op.String
namespace Go.eN
open Go Go.cZ
set_option linter.unusedSimpArgs false
theorem Q_ (a b:List UInt8):(!(Op.bytesLess a b))=(Op.bytesLess b a||b==a):=by
 induction a generalizing b with
 |nil=>cases b<;>simp[Op.bytesLess]
 |cons x a ih=>
  cases b with
  |nil=>simp[Op.bytesLess]
  |cons y b=>
   simp only[Op.bytesLess]
   have:=ih b
   by_cases h1:x<y
   ·have ah:¬y<x:=fun h=>by have:=UInt8.lt_asymm h1 h;exact this
    have aC:y≠x:=fun h=>by subst h;exact absurd h1 (UInt8.lt_irrefl _)
    simp[h1,ah,aC]
   ·by_cases ah:y<x
    ·have aC:x≠y:=fun h=>by subst h;exact absurd ah (UInt8.lt_irrefl _)
     simp[h1,ah,aC]
    ·have aC:x=y:=by
      have aS:=UInt8.not_lt.1 h1
      have aZ:=UInt8.not_lt.1 ah
      exact UInt8.le_antisymm aZ aS
     subst aC
     simp[h1,this]
theorem aCB (a:List UInt8):Op.bytesLess a a=false:=by
 have:=Q_ a a
 cases h:Op.bytesLess a a with
 |false=>rfl
 |true=>rw[h]at this;simp at this
end Go.eN
