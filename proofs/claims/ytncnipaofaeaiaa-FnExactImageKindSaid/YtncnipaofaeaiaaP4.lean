/- Part of the proof that the law FnExactImageKind returns true for every input. No condition. -/
import Derived.Test.YtncnipaofaeaiaaSh
namespace Go.Sh
open Go Go.Fw
set_option linter.unusedVariables false



noncomputable def spec_l01Crc_k36 (k6 : Int → Int → Option Int) (k20 : Int → Int → Int → Option Int) (a0 : List UInt8) (v1_36 : Int) (v5_36 : Int) (v6_36 : Int) : Option Int :=
  k20 v1_36 v5_36 (IntKind.i64.wrap (v6_36 + 1))
noncomputable def spec_l01Crc_b20 (k6 : Int → Int → Option Int) (k20 : Int → Int → Int → Option Int) (a0 : List UInt8) (v1_20 : Int) (v5_20 : Int) (v6_20 : Int) : Option Int :=
  cond (decide (v6_20 < 8)) (cond (decide (65535 < (IntKind.i64.wrap (v1_20 * 2 ^ (min (Int.toNat 1) 64))))) (spec_l01Crc_k36 k6 k20 a0 (bitsOf .xor .i64 (bitsOf .and .i64 (IntKind.i64.wrap (v1_20 * 2 ^ (min (Int.toNat 1) 64))) 65535) 4129) v5_20 v6_20) (spec_l01Crc_k36 k6 k20 a0 (IntKind.i64.wrap (v1_20 * 2 ^ (min (Int.toNat 1) 64))) v5_20 v6_20)) (k6 v1_20 (IntKind.i64.wrap (v5_20 + 1)))
noncomputable def spec_l01Crc_l20 (k6 : Int → Int → Option Int) (a0 : List UInt8) : Nat → Int → Int → Int → Option Int
  | 0, _, _, _ => none
  | n + 1, v1_20, v5_20, v6_20 => spec_l01Crc_b20 k6 (spec_l01Crc_l20 k6 a0 n) a0 v1_20 v5_20 v6_20
noncomputable def spec_l01Crc_b6 (k6 : Int → Int → Option Int) (a0 : List UInt8) (v1_6 : Int) (v5_6 : Int) : Option Int :=
  cond (decide (v5_6 < (a0.length : Int))) ((getI a0 v5_6).bind fun x1 => lim fun n => spec_l01Crc_l20 k6 a0 n (bitsOf .xor .i64 v1_6 (IntKind.i64.wrap ((x1.toNat : Int) * 2 ^ (min (Int.toNat 8) 64)))) v5_6 0) (some v1_6)
noncomputable def spec_l01Crc_l6 (a0 : List UInt8) : Nat → Int → Int → Option Int
  | 0, _, _ => none
  | n + 1, v1_6, v5_6 => spec_l01Crc_b6  (spec_l01Crc_l6  a0 n) a0 v1_6 v5_6
/-- loop.example/g01075/spec.l01Crc -/
noncomputable def spec_l01Crc (a0 : List UInt8) (a1 : Int) : Option Int :=
  lim fun n => spec_l01Crc_l6 a0 n a1 0

/-- loop.example/g01075/spec.l00In -/
noncomputable def spec_l00In (a0 : Int) (a1 : Int) (a2 : Int) : Option Bool :=
  some ((decide (a1 ≤ a0)) && (decide (a0 ≤ a2)))

/-- loop.example/g01075/spec.l32Kind -/
noncomputable def spec_l32Kind (a0 : List UInt8) : Option (Int × Int) :=
  cond (decide ((a0.length : Int) < 3)) (some (0, 11)) ((subL a0 0 (IntKind.i64.wrap ((a0.length : Int) - 2))).bind fun x1 => (spec_l01Crc x1 65535).bind fun x2 => (getI a0 (IntKind.i64.wrap ((a0.length : Int) - 2))).bind fun x3 => (getI a0 (IntKind.i64.wrap ((a0.length : Int) - 1))).bind fun x4 => cond (x2 != (IntKind.i64.wrap ((IntKind.i64.wrap ((x3.toNat : Int) * 256)) + (x4.toNat : Int)))) (some (0, 10)) ((getI a0 0).bind fun x5 => (spec_l00In (x5.toNat : Int) 1 3).bind fun x6 => cond ((!x6) || (decide (6000 < (a0.length : Int)))) (some (0, 9)) (some ((x5.toNat : Int), 0))))

/-- loop.example/g01075/spec.ImageKind -/
noncomputable def spec_ImageKind (a0 : List UInt8) : Option (Int × Int) :=
  (spec_l32Kind a0).bind fun x1 => some (x1.1, x1.2)

/-- loop.example/g01075/impl.within -/
noncomputable def impl_within (a0 : Int) (a1 : Int) (a2 : Int) : Option Bool :=
  some ((decide (a1 ≤ a0)) && (decide (a0 ≤ a2)))

noncomputable def impl_Crc16_k48 (k16 : Int → Int → Option Int) (k32 : Int → Int → Int → Option Int) (a0 : List UInt8) (v5_48 : Int) (v13_48 : Int) (v23_48 : Int) : Option Int :=
  k32 v5_48 v13_48 (IntKind.i64.wrap (v23_48 + 1))
noncomputable def impl_Crc16_b32 (k16 : Int → Int → Option Int) (k32 : Int → Int → Int → Option Int) (a0 : List UInt8) (v5_32 : Int) (v13_32 : Int) (v23_32 : Int) : Option Int :=
  cond (decide (v23_32 < 8)) (cond (decide (65535 < (IntKind.i64.wrap (v5_32 * 2)))) (impl_Crc16_k48 k16 k32 a0 (bitsOf .xor .i64 (bitsOf .and .i64 (IntKind.i64.wrap (v5_32 * 2)) 65535) 4129) v13_32 v23_32) (impl_Crc16_k48 k16 k32 a0 (IntKind.i64.wrap (v5_32 * 2)) v13_32 v23_32)) (k16 v5_32 (IntKind.i64.wrap (v13_32 + 1)))
noncomputable def impl_Crc16_l32 (k16 : Int → Int → Option Int) (a0 : List UInt8) : Nat → Int → Int → Int → Option Int
  | 0, _, _, _ => none
  | n + 1, v5_32, v13_32, v23_32 => impl_Crc16_b32 k16 (impl_Crc16_l32 k16 a0 n) a0 v5_32 v13_32 v23_32
noncomputable def impl_Crc16_b16 (k16 : Int → Int → Option Int) (a0 : List UInt8) (v5_16 : Int) (v13_16 : Int) : Option Int :=
  cond (decide (v13_16 < (a0.length : Int))) ((getI a0 v13_16).bind fun x2 => lim fun n => impl_Crc16_l32 k16 a0 n (bitsOf .xor .i64 v5_16 (IntKind.i64.wrap ((x2.toNat : Int) * 256))) v13_16 0) (some v5_16)
noncomputable def impl_Crc16_l16 (a0 : List UInt8) : Nat → Int → Int → Option Int
  | 0, _, _ => none
  | n + 1, v5_16, v13_16 => impl_Crc16_b16  (impl_Crc16_l16  a0 n) a0 v5_16 v13_16
/-- loop.example/g01075/impl.Crc16 -/
noncomputable def impl_Crc16 (a0 : List UInt8) (a1 : Int) : Option Int :=
  (impl_within a1 0 65535).bind fun x1 => cond (!x1) (some 0) (lim fun n => impl_Crc16_l16 a0 n a1 0)

/-- loop.example/g01075/impl.ImageKind -/
noncomputable def impl_ImageKind (a0 : List UInt8) : Option (Int × Int) :=
  cond (decide ((a0.length : Int) < 3)) (some (0, 11)) ((subL a0 0 (IntKind.i64.wrap ((a0.length : Int) - 2))).bind fun x1 => (impl_Crc16 x1 65535).bind fun x2 => (getI a0 0).bind fun x3 => (getI a0 (IntKind.i64.wrap ((a0.length : Int) - 2))).bind fun x4 => (getI a0 (IntKind.i64.wrap ((a0.length : Int) - 1))).bind fun x5 => cond ((IntKind.i64.wrap ((IntKind.i64.wrap ((x4.toNat : Int) * 256)) + (x5.toNat : Int))) != x2) (some (0, 10)) ((impl_within (x3.toNat : Int) 1 3).bind fun x6 => cond ((!x6) || (decide (6000 < (a0.length : Int)))) (some (0, 9)) (some ((x3.toNat : Int), 0))))

/-- loop.example/g01075/laws.FnExactImageKind -/
noncomputable def laws_FnExactImageKind (a0 : List UInt8) : Option Bool :=
  cond (decide (1048576 < (a0.length : Int))) (some true) ((spec_ImageKind a0).bind fun x1 => (impl_ImageKind a0).bind fun x2 => cond ((x2.1 != x1.1) || (x2.2 != x1.2)) (some false) (some true))

end Go.Sh
