/- Part of a proof that a law returns true for every input. No condition. -/
import Derived.Test.YtlkabaochkgkdaaGreatDoorUG
import GoSem.Op.String
namespace Go.eU
open Go Go.c_
set_option linter.unusedSimpArgs false
theorem S2 (a b:List UInt8):(!(Op.bytesLess a b))=(Op.bytesLess b a||b==a):=by
 induction a generalizing b with
 |nil=>cases b<;>simp[Op.bytesLess]
 |cons x a ih=>
  cases b with
  |nil=>simp[Op.bytesLess]
  |cons y b=>
   simp only[Op.bytesLess];have:=ih b;by_cases ag:x<y
   .have ah:¬y<x:=λh=>by have:=UInt8.lt_asymm ag h;exact this
    have aN:y≠x:=λh=>by subst h;exact absurd ag (UInt8.lt_irrefl _)
    simp[ag,ah,aN]
   .by_cases ah:y<x
    .have aN:x≠y:=λh=>by subst h;exact absurd ah (UInt8.lt_irrefl _)
     simp[ag,ah,aN]
    .have aN:x=y:=by
      have aX:=UInt8.not_lt.1 ag;have a6:=UInt8.not_lt.1 ah;exact UInt8.le_antisymm a6 aX
     subst aN;simp[ag,this]
theorem aFH (a:List UInt8):Op.bytesLess a a=false:=by
 have:=S2 a a;cases h:Op.bytesLess a a with
 |false=>rfl
 |true=>rw[h]at this;simp at this
end Go.eU
