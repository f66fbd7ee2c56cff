/- Part of the proof that the law FnExactClaimName returns true for every input. No condition. -/
import Derived.Test.YtncnipaofaeaiaaSh
namespace Go.Sh
open Go Go.Fw
set_option linter.unusedVariables false



/-- loop.example/g01075/spec.l00In -/
noncomputable def spec_l00In (a0 : Int) (a1 : Int) (a2 : Int) : Option Bool :=
  some ((decide (a1 ≤ a0)) && (decide (a0 ≤ a2)))

def spec_ClaimName_c1 : List (List UInt8) := [([115, 116, 114, 111, 110, 103] : List UInt8), ([98, 114, 97, 110, 99, 104, 105, 110, 103] : List UInt8), ([115, 105, 109, 117, 108, 97, 116, 101, 115] : List UInt8), ([97, 112, 97, 114, 116] : List UInt8), ([104, 111, 108, 100, 115] : List UInt8), ([102, 97, 105, 108, 115] : List UInt8), ([100, 101, 97, 100, 108, 111, 99, 107] : List UInt8), ([108, 105, 118, 101] : List UInt8)]
/-- loop.example/g01075/spec.ClaimName -/
noncomputable def spec_ClaimName (a0 : Int) : Option ((List UInt8)) :=
  (spec_l00In a0 0 (IntKind.i64.wrap ((spec_ClaimName_c1.length : Int) - 1))).bind fun x1 => cond (!x1) (some ([] : List UInt8)) ((getI spec_ClaimName_c1 a0).bind fun x2 => some x2)

/-- loop.example/g01075/impl.within -/
noncomputable def impl_within (a0 : Int) (a1 : Int) (a2 : Int) : Option Bool :=
  some ((decide (a1 ≤ a0)) && (decide (a0 ≤ a2)))

/-- loop.example/g01075/impl.index -/
noncomputable def impl_index (a0 : Int) (a1 : Int) : Option Bool :=
  (impl_within a0 0 (IntKind.i64.wrap (a1 - 1))).bind fun x1 => some x1

def impl_ClaimName_c1 : List (List UInt8) := [([115, 116, 114, 111, 110, 103] : List UInt8), ([98, 114, 97, 110, 99, 104, 105, 110, 103] : List UInt8), ([115, 105, 109, 117, 108, 97, 116, 101, 115] : List UInt8), ([97, 112, 97, 114, 116] : List UInt8), ([104, 111, 108, 100, 115] : List UInt8), ([102, 97, 105, 108, 115] : List UInt8), ([100, 101, 97, 100, 108, 111, 99, 107] : List UInt8), ([108, 105, 118, 101] : List UInt8)]
/-- loop.example/g01075/impl.ClaimName -/
noncomputable def impl_ClaimName (a0 : Int) : Option ((List UInt8)) :=
  (impl_index a0 (impl_ClaimName_c1.length : Int)).bind fun x1 => cond (!x1) (some ([] : List UInt8)) ((getI impl_ClaimName_c1 a0).bind fun x2 => some x2)

/-- loop.example/g01075/laws.FnExactClaimName -/
noncomputable def laws_FnExactClaimName (a0 : Int) : Option Bool :=
  (spec_ClaimName a0).bind fun x1 => (impl_ClaimName a0).bind fun x2 => cond (!(x2 == x1)) (some false) (some true)

end Go.Sh
