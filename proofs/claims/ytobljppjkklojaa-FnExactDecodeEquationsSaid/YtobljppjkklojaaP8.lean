/- Part of a proof that a law returns true for every input. No condition. -/
import Derived.Test.YtobljppjkklojaaFwA
namespace Go.Sh
open Go Go.Fw
set_option linter.unusedVariables false

structure impl_Equation where
  Greatest : Bool
  All : Bool
  Terms : List Int
def wf_impl_Equation (x : impl_Equation) : Prop := True ∧ True ∧ (x.Terms.length ≤ 9223372036854775807 ∧ ∀ y ∈ x.Terms, (-9223372036854775808 ≤ y ∧ y ≤ 9223372036854775807))

noncomputable def spec_l01Crc_k36 (k6 : Int → Int → Option Int) (k20 : Int → Int → Int → Option Int) (a0 : List UInt8) (v1_36 : Int) (v5_36 : Int) (v6_36 : Int) : Option Int :=
  k20 v1_36 v5_36 (IntKind.i64.wrap (v6_36 + 1))
noncomputable def spec_l01Crc_b20 (k6 : Int → Int → Option Int) (k20 : Int → Int → Int → Option Int) (a0 : List UInt8) (v1_20 : Int) (v5_20 : Int) (v6_20 : Int) : Option Int :=
  cond (decide (v6_20 < 8)) (cond (decide (65535 < (IntKind.i64.wrap (v1_20 * 2 ^ (min (Int.toNat 1) 64))))) (spec_l01Crc_k36 k6 k20 a0 (bitsOf .xor .i64 (bitsOf .and .i64 (IntKind.i64.wrap (v1_20 * 2 ^ (min (Int.toNat 1) 64))) 65535) 4129) v5_20 v6_20) (spec_l01Crc_k36 k6 k20 a0 (IntKind.i64.wrap (v1_20 * 2 ^ (min (Int.toNat 1) 64))) v5_20 v6_20)) (k6 v1_20 (IntKind.i64.wrap (v5_20 + 1)))
noncomputable def spec_l01Crc_l20 (k6 : Int → Int → Option Int) (a0 : List UInt8) : Nat → Int → Int → Int → Option Int
  | 0, _, _, _ => none
  | n + 1, v1_20, v5_20, v6_20 => spec_l01Crc_b20  k6 (spec_l01Crc_l20  k6 a0 n) a0 v1_20 v5_20 v6_20
noncomputable def spec_l01Crc_b6 (k6 : Int → Int → Option Int) (a0 : List UInt8) (v1_6 : Int) (v5_6 : Int) : Option Int :=
  cond (decide (v5_6 < (a0.length : Int))) ((getI a0 v5_6).bind fun x1 => lim fun n => spec_l01Crc_l20 k6 a0 n (bitsOf .xor .i64 v1_6 (IntKind.i64.wrap ((x1.toNat : Int) * 2 ^ (min (Int.toNat 8) 64)))) v5_6 0) (some v1_6)
noncomputable def spec_l01Crc_l6 (a0 : List UInt8) : Nat → Int → Int → Option Int
  | 0, _, _ => none
  | n + 1, v1_6, v5_6 => spec_l01Crc_b6   (spec_l01Crc_l6   a0 n) a0 v1_6 v5_6
/-- loop.example/g01075/spec.l01Crc -/
noncomputable def spec_l01Crc (a0 : List UInt8) (a1 : Int) : Option Int :=
  lim fun n => spec_l01Crc_l6 a0 n a1 0

/-- loop.example/g01075/spec.l00In -/
noncomputable def spec_l00In (a0 : Int) (a1 : Int) (a2 : Int) : Option Bool :=
  some ((decide (a1 ≤ a0)) && (decide (a0 ≤ a2)))

/-- loop.example/g01075/spec.l32Kind -/
noncomputable def spec_l32Kind (a0 : List UInt8) : Option (Int × Int) :=
  cond (decide ((a0.length : Int) < 3)) (some (0, 11)) ((subL a0 0 (IntKind.i64.wrap ((a0.length : Int) - 2))).bind fun x1 => (spec_l01Crc x1 65535).bind fun x2 => (getI a0 (IntKind.i64.wrap ((a0.length : Int) - 2))).bind fun x3 => (getI a0 (IntKind.i64.wrap ((a0.length : Int) - 1))).bind fun x4 => cond (x2 != (IntKind.i64.wrap ((IntKind.i64.wrap ((x3.toNat : Int) * 256)) + (x4.toNat : Int)))) (some (0, 10)) ((getI a0 0).bind fun x5 => (spec_l00In (x5.toNat : Int) 1 3).bind fun x6 => cond ((!x6) || (decide (6000 < (a0.length : Int)))) (some (0, 9)) (some ((x5.toNat : Int), 0))))

/-- loop.example/g01075/spec.l32Open -/
noncomputable def spec_l32Open (a0 : List UInt8) (a1 : Int) : Option ((Option ((List UInt8) × Int × Bool)) × Int) :=
  (spec_l32Kind a0).bind fun x1 => cond (x1.2 != 0) (some (none, x1.2)) (cond (x1.1 != a1) (some (none, 6)) ((subL a0 1 (IntKind.i64.wrap ((a0.length : Int) - 2))).bind fun x2 => some ((some (x2, 0, false)), 0)))

noncomputable def spec_l32Reader_number_b10 (k10 : Int → Int → Int → Int → Option (Int × (List UInt8) × Int × Bool)) (a000 : List UInt8) (a002 : Bool) (v0_10 : Int) (v3_10 : Int) (v4_10 : Int) (v5_10 : Int) : Option (Int × (List UInt8) × Int × Bool) :=
  cond (decide (v5_10 < 3)) (cond (decide ((a000.length : Int) ≤ v0_10)) (some (0, a000, v0_10, true)) ((getI a000 v0_10).bind fun x1 => cond (decide ((x1.toNat : Int) < 128)) (some ((IntKind.i64.wrap (v3_10 + (IntKind.i64.wrap ((Int.tmod (x1.toNat : Int) 128) * v4_10)))), a000, (IntKind.i64.wrap (v0_10 + 1)), a002)) (k10 (IntKind.i64.wrap (v0_10 + 1)) (IntKind.i64.wrap (v3_10 + (IntKind.i64.wrap ((Int.tmod (x1.toNat : Int) 128) * v4_10)))) (IntKind.i64.wrap (v4_10 * 128)) (IntKind.i64.wrap (v5_10 + 1))))) (some (0, a000, v0_10, true))
noncomputable def spec_l32Reader_number_l10 (a000 : List UInt8) (a002 : Bool) : Nat → Int → Int → Int → Int → Option (Int × (List UInt8) × Int × Bool)
  | 0, _, _, _, _ => none
  | n + 1, v0_10, v3_10, v4_10, v5_10 => spec_l32Reader_number_b10   (spec_l32Reader_number_l10   a000 a002 n) a000 a002 v0_10 v3_10 v4_10 v5_10
/-- (*loop.example/g01075/spec.l32Reader).number -/
noncomputable def spec_l32Reader_number (a000 : List UInt8) (a001 : Int) (a002 : Bool) : Option (Int × (List UInt8) × Int × Bool) :=
  lim fun n => spec_l32Reader_number_l10 a000 a002 n a001 0 1 0

noncomputable def spec_l22Count_k22 (k8 : Int → Int → Option Int) (a0 : List impl_Equation) (v3_22 : Int) (v4_22 : Int) : Option Int :=
  k8 v3_22 (IntKind.i64.wrap (v4_22 + 1))
noncomputable def spec_l22Count_b8 (k8 : Int → Int → Option Int) (a0 : List impl_Equation) (v3_8 : Int) (v4_8 : Int) : Option Int :=
  cond (decide (v4_8 < (a0.length : Int))) ((getI a0 v4_8).bind fun x1 => (getI a0 (IntKind.i64.wrap (v4_8 - 1))).bind fun x2 => cond (!(x1.Greatest == x2.Greatest)) (spec_l22Count_k22 k8 a0 (IntKind.i64.wrap (v3_8 + 1)) v4_8) (spec_l22Count_k22 k8 a0 v3_8 v4_8)) (some v3_8)
noncomputable def spec_l22Count_l8 (a0 : List impl_Equation) : Nat → Int → Int → Option Int
  | 0, _, _ => none
  | n + 1, v3_8, v4_8 => spec_l22Count_b8   (spec_l22Count_l8   a0 n) a0 v3_8 v4_8
/-- loop.example/g01075/spec.l22Count -/
noncomputable def spec_l22Count (a0 : List impl_Equation) : Option Int :=
  lim fun n => spec_l22Count_l8 a0 n 1 1

noncomputable def spec_l00Rises_b6 (k6 : Int → Option Bool) (a0 : List Int) (a1 : Int) (a2 : Int) (v7_6 : Int) : Option Bool :=
  cond (decide (v7_6 < (a0.length : Int))) ((getI a0 v7_6).bind fun x1 => (spec_l00In x1 a1 a2).bind fun x2 => cond (!x2) (some false) (cond (decide (0 < v7_6)) ((getI a0 (IntKind.i64.wrap (v7_6 - 1))).bind fun x3 => cond (decide (x1 ≤ x3)) (some false) (k6 (IntKind.i64.wrap (v7_6 + 1)))) (k6 (IntKind.i64.wrap (v7_6 + 1))))) (some true)
noncomputable def spec_l00Rises_l6 (a0 : List Int) (a1 : Int) (a2 : Int) : Nat → Int → Option Bool
  | 0, _ => none
  | n + 1, v7_6 => spec_l00Rises_b6   (spec_l00Rises_l6   a0 a1 a2 n) a0 a1 a2 v7_6
/-- loop.example/g01075/spec.l00Rises -/
noncomputable def spec_l00Rises (a0 : List Int) (a1 : Int) (a2 : Int) : Option Bool :=
  lim fun n => spec_l00Rises_l6 a0 a1 a2 n 0

noncomputable def spec_l22Is_b14 (k14 : Int → Option Bool) (a0 : List impl_Equation) (v3_14 : Int) : Option Bool :=
  cond (decide (v3_14 < (a0.length : Int))) ((getI a0 v3_14).bind fun x2 => (spec_l00Rises x2.Terms 0 (IntKind.i64.wrap ((a0.length : Int) - 1))).bind fun x3 => cond (!x3) (some false) (k14 (IntKind.i64.wrap (v3_14 + 1)))) (some true)
noncomputable def spec_l22Is_l14 (a0 : List impl_Equation) : Nat → Int → Option Bool
  | 0, _ => none
  | n + 1, v3_14 => spec_l22Is_b14   (spec_l22Is_l14   a0 n) a0 v3_14
/-- loop.example/g01075/spec.l22Is -/
noncomputable def spec_l22Is (a0 : List impl_Equation) : Option Bool :=
  cond (decide ((a0.length : Int) < 1)) (some false) (cond (decide (120 < (a0.length : Int))) (some false) ((spec_l22Count a0).bind fun x1 => cond (decide (9 < x1)) (some false) (lim fun n => spec_l22Is_l14 a0 n 0)))

noncomputable def spec_l32Number_b6 (k6 : Int → (List UInt8) → Option ((List UInt8))) (v0_6 : Int) (v3_6 : List UInt8) : Option ((List UInt8)) :=
  cond (decide (128 ≤ v0_6)) ((room 1 (v3_6.length + 1)).bind fun _ => k6 (IntKind.i64.wrap (Int.tdiv v0_6 128)) (v3_6 ++ [(toB (IntKind.i64.wrap (128 + (Int.tmod v0_6 128))))])) ((room 1 (v3_6.length + 1)).bind fun _ => some (v3_6 ++ [(toB v0_6)]))
noncomputable def spec_l32Number_l6 : Nat → Int → (List UInt8) → Option ((List UInt8))
  | 0, _, _ => none
  | n + 1, v0_6, v3_6 => spec_l32Number_b6   (spec_l32Number_l6    n)  v0_6 v3_6
/-- loop.example/g01075/spec.l32Number -/
noncomputable def spec_l32Number (a0 : Int) : Option ((List UInt8)) :=
  lim fun n => spec_l32Number_l6 n a0 []

/-- loop.example/g01075/spec.l03Truth -/
noncomputable def spec_l03Truth (a0 : Bool) : Option Int :=
  cond a0 (some 1) (some 0)

/-- loop.example/g01075/spec.l32Seal -/
noncomputable def spec_l32Seal (a0 : Int) (a1 : List UInt8) : Option ((List UInt8)) :=
  (okLen (1 + a1.length)).bind fun _ => cond (decide (6000 < (IntKind.i64.wrap ((([(toB a0)] ++ a1).length : Int) + 2)))) (some ([] : List UInt8)) ((spec_l01Crc ([(toB a0)] ++ a1) 65535).bind fun x1 => (okLen (([(toB a0)] ++ a1).length + 2)).bind fun _ => some (([(toB a0)] ++ a1) ++ [(toB (IntKind.i64.wrap (Int.tdiv x1 256))), (toB (Int.tmod x1 256))]))

noncomputable def spec_l32Equations_b23 (k8 : (List UInt8) → Int → Option ((List UInt8))) (k23 : (List UInt8) → Int → Int → Option ((List UInt8))) (a0 : List impl_Equation) (v3_23 : List UInt8) (v4_23 : Int) (v5_23 : Int) : Option ((List UInt8)) :=
  (getI a0 v4_23).bind fun x7 => cond (decide (v5_23 < (x7.Terms.length : Int))) ((getI x7.Terms v5_23).bind fun x8 => (spec_l32Number x8).bind fun x9 => (okLen (v3_23.length + x9.length)).bind fun _ => k23 (v3_23 ++ x9) v4_23 (IntKind.i64.wrap (v5_23 + 1))) (cond (decide (6000 < (v3_23.length : Int))) (some ([] : List UInt8)) (k8 v3_23 (IntKind.i64.wrap (v4_23 + 1))))
noncomputable def spec_l32Equations_l23 (k8 : (List UInt8) → Int → Option ((List UInt8))) (a0 : List impl_Equation) : Nat → (List UInt8) → Int → Int → Option ((List UInt8))
  | 0, _, _, _ => none
  | n + 1, v3_23, v4_23, v5_23 => spec_l32Equations_b23  k8 (spec_l32Equations_l23  k8 a0 n) a0 v3_23 v4_23 v5_23
noncomputable def spec_l32Equations_b8 (k8 : (List UInt8) → Int → Option ((List UInt8))) (a0 : List impl_Equation) (v3_8 : List UInt8) (v4_8 : Int) : Option ((List UInt8)) :=
  cond (decide (v4_8 < (a0.length : Int))) ((getI a0 v4_8).bind fun x2 => (spec_l03Truth x2.Greatest).bind fun x3 => (spec_l03Truth x2.All).bind fun x4 => (spec_l32Number (IntKind.i64.wrap (x3 + (IntKind.i64.wrap (2 * x4))))).bind fun x5 => (spec_l32Number (x2.Terms.length : Int)).bind fun x6 => (okLen (x5.length + x6.length)).bind fun _ => (okLen (v3_8.length + (x5 ++ x6).length)).bind fun _ => lim fun n => spec_l32Equations_l23 k8 a0 n (v3_8 ++ (x5 ++ x6)) v4_8 0) ((spec_l32Seal 3 v3_8).bind fun x10 => some x10)
noncomputable def spec_l32Equations_l8 (a0 : List impl_Equation) : Nat → (List UInt8) → Int → Option ((List UInt8))
  | 0, _, _ => none
  | n + 1, v3_8, v4_8 => spec_l32Equations_b8   (spec_l32Equations_l8   a0 n) a0 v3_8 v4_8
/-- loop.example/g01075/spec.l32Equations -/
noncomputable def spec_l32Equations (a0 : List impl_Equation) : Option ((List UInt8)) :=
  (spec_l32Number (a0.length : Int)).bind fun x1 => lim fun n => spec_l32Equations_l8 a0 n x1 0

noncomputable def spec_DecodeEquations_b35 (k18 : (List UInt8) → Int → Bool → (List impl_Equation) → Int → Option ((List impl_Equation) × Int)) (k35 : (List UInt8) → Int → Bool → (List impl_Equation) → Int → (List Int) → Int → Option ((List impl_Equation) × Int)) (a0 : List UInt8) (x4 : Int × (List UInt8) × Int × Bool) (v4_35 : List UInt8) (v4a_35 : Int) (v4b_35 : Bool) (v6_35 : List impl_Equation) (v7_35 : Int) (v9_35 : List Int) (v10_35 : Int) : Option ((List impl_Equation) × Int) :=
  cond ((decide (0 < v10_35)) && (!v4b_35)) ((spec_l32Reader_number v4_35 v4a_35 v4b_35).bind fun x6 => (room 8 (v9_35.length + 1)).bind fun _ => k35 x6.2.1 x6.2.2.1 x6.2.2.2 v6_35 v7_35 (v9_35 ++ [x6.1]) (IntKind.i64.wrap (v10_35 - 1))) ((room 32 (v6_35.length + 1)).bind fun _ => k18 v4_35 v4a_35 v4b_35 (v6_35 ++ [(impl_Equation.mk ((Int.tmod x4.1 2) == 1) ((IntKind.i64.wrap (Int.tdiv x4.1 2)) == 1) v9_35)]) (IntKind.i64.wrap (v7_35 - 1)))
noncomputable def spec_DecodeEquations_l35 (k18 : (List UInt8) → Int → Bool → (List impl_Equation) → Int → Option ((List impl_Equation) × Int)) (a0 : List UInt8) (x4 : Int × (List UInt8) × Int × Bool) : Nat → (List UInt8) → Int → Bool → (List impl_Equation) → Int → (List Int) → Int → Option ((List impl_Equation) × Int)
  | 0, _, _, _, _, _, _, _ => none
  | n + 1, v4_35, v4a_35, v4b_35, v6_35, v7_35, v9_35, v10_35 => spec_DecodeEquations_b35  k18 (spec_DecodeEquations_l35  k18 a0 x4 n) a0 x4 v4_35 v4a_35 v4b_35 v6_35 v7_35 v9_35 v10_35
noncomputable def spec_DecodeEquations_b18 (k18 : (List UInt8) → Int → Bool → (List impl_Equation) → Int → Option ((List impl_Equation) × Int)) (a0 : List UInt8) (v4_18 : List UInt8) (v4a_18 : Int) (v4b_18 : Bool) (v6_18 : List impl_Equation) (v7_18 : Int) : Option ((List impl_Equation) × Int) :=
  cond ((decide (0 < v7_18)) && (!v4b_18)) ((spec_l32Reader_number v4_18 v4a_18 v4b_18).bind fun x4 => (spec_l32Reader_number x4.2.1 x4.2.2.1 x4.2.2.2).bind fun x5 => lim fun n => spec_DecodeEquations_l35 k18 a0 x4 n x5.2.1 x5.2.2.1 x5.2.2.2 v6_18 v7_18 [] x5.1) (cond v4b_18 (some ([], 9)) ((spec_l22Is v6_18).bind fun x7 => cond (!x7) (some ([], 9)) ((spec_l32Equations v6_18).bind fun x8 => cond (!(x8 == a0)) (some ([], 9)) (some (v6_18, 0)))))
noncomputable def spec_DecodeEquations_l18 (a0 : List UInt8) : Nat → (List UInt8) → Int → Bool → (List impl_Equation) → Int → Option ((List impl_Equation) × Int)
  | 0, _, _, _, _, _ => none
  | n + 1, v4_18, v4a_18, v4b_18, v6_18, v7_18 => spec_DecodeEquations_b18   (spec_DecodeEquations_l18   a0 n) a0 v4_18 v4a_18 v4b_18 v6_18 v7_18
/-- loop.example/g01075/spec.DecodeEquations -/
noncomputable def spec_DecodeEquations (a0 : List UInt8) : Option ((List impl_Equation) × Int) :=
  (spec_l32Open a0 3).bind fun x1 => Option.elim x1.1 (cond (x1.2 != 0) (some ([], x1.2)) (none)) (fun x2 => cond (x1.2 != 0) (some ([], x1.2)) ((spec_l32Reader_number x2.1 x2.2.1 x2.2.2).bind fun x3 => lim fun n => spec_DecodeEquations_l18 a0 n x3.2.1 x3.2.2.1 x3.2.2.2 [] x3.1))

/-- loop.example/g01075/impl.within -/
noncomputable def impl_within (a0 : Int) (a1 : Int) (a2 : Int) : Option Bool :=
  some ((decide (a1 ≤ a0)) && (decide (a0 ≤ a2)))

noncomputable def impl_Crc16_k48 (k16 : Int → Int → Option Int) (k32 : Int → Int → Int → Option Int) (a0 : List UInt8) (v5_48 : Int) (v13_48 : Int) (v23_48 : Int) : Option Int :=
  k32 v5_48 v13_48 (IntKind.i64.wrap (v23_48 + 1))
noncomputable def impl_Crc16_b32 (k16 : Int → Int → Option Int) (k32 : Int → Int → Int → Option Int) (a0 : List UInt8) (v5_32 : Int) (v13_32 : Int) (v23_32 : Int) : Option Int :=
  cond (decide (v23_32 < 8)) (cond (decide (65535 < (IntKind.i64.wrap (v5_32 * 2)))) (impl_Crc16_k48 k16 k32 a0 (bitsOf .xor .i64 (bitsOf .and .i64 (IntKind.i64.wrap (v5_32 * 2)) 65535) 4129) v13_32 v23_32) (impl_Crc16_k48 k16 k32 a0 (IntKind.i64.wrap (v5_32 * 2)) v13_32 v23_32)) (k16 v5_32 (IntKind.i64.wrap (v13_32 + 1)))
noncomputable def impl_Crc16_l32 (k16 : Int → Int → Option Int) (a0 : List UInt8) : Nat → Int → Int → Int → Option Int
  | 0, _, _, _ => none
  | n + 1, v5_32, v13_32, v23_32 => impl_Crc16_b32  k16 (impl_Crc16_l32  k16 a0 n) a0 v5_32 v13_32 v23_32
noncomputable def impl_Crc16_b16 (k16 : Int → Int → Option Int) (a0 : List UInt8) (v5_16 : Int) (v13_16 : Int) : Option Int :=
  cond (decide (v13_16 < (a0.length : Int))) ((getI a0 v13_16).bind fun x2 => lim fun n => impl_Crc16_l32 k16 a0 n (bitsOf .xor .i64 v5_16 (IntKind.i64.wrap ((x2.toNat : Int) * 256))) v13_16 0) (some v5_16)
noncomputable def impl_Crc16_l16 (a0 : List UInt8) : Nat → Int → Int → Option Int
  | 0, _, _ => none
  | n + 1, v5_16, v13_16 => impl_Crc16_b16   (impl_Crc16_l16   a0 n) a0 v5_16 v13_16
/-- loop.example/g01075/impl.Crc16 -/
noncomputable def impl_Crc16 (a0 : List UInt8) (a1 : Int) : Option Int :=
  (impl_within a1 0 65535).bind fun x1 => cond (!x1) (some 0) (lim fun n => impl_Crc16_l16 a0 n a1 0)

/-- loop.example/g01075/impl.ImageKind -/
noncomputable def impl_ImageKind (a0 : List UInt8) : Option (Int × Int) :=
  cond (decide ((a0.length : Int) < 3)) (some (0, 11)) ((subL a0 0 (IntKind.i64.wrap ((a0.length : Int) - 2))).bind fun x1 => (impl_Crc16 x1 65535).bind fun x2 => (getI a0 0).bind fun x3 => (getI a0 (IntKind.i64.wrap ((a0.length : Int) - 2))).bind fun x4 => (getI a0 (IntKind.i64.wrap ((a0.length : Int) - 1))).bind fun x5 => cond ((IntKind.i64.wrap ((IntKind.i64.wrap ((x4.toNat : Int) * 256)) + (x5.toNat : Int))) != x2) (some (0, 10)) ((impl_within (x3.toNat : Int) 1 3).bind fun x6 => cond ((!x6) || (decide (6000 < (a0.length : Int)))) (some (0, 9)) (some ((x3.toNat : Int), 0))))

/-- loop.example/g01075/impl.contents -/
noncomputable def impl_contents (a0 : List UInt8) (a1 : Int) : Option ((Option ((List UInt8) × Bool)) × Int) :=
  (impl_ImageKind a0).bind fun x1 => cond (x1.2 != 0) (some (none, x1.2)) (cond (x1.1 != a1) (some (none, 6)) ((subL a0 1 (IntKind.i64.wrap ((a0.length : Int) - 2))).bind fun x2 => some ((some (x2, false)), 0)))

/-- (*loop.example/g01075/impl.unpacker).byte -/
noncomputable def impl_unpacker_byte (a000 : List UInt8) (a001 : Bool) : Option (Int × (List UInt8) × Bool) :=
  cond (a000 == ([] : List UInt8)) (some (0, a000, true)) ((getI a000 0).bind fun x1 => (subL a000 1 (a000.length : Int)).bind fun x2 => some ((x1.toNat : Int), x2, a001))

noncomputable def impl_unpacker_number_b8 (k8 : (List UInt8) → Bool → Int → Int → Int → Option (Int × (List UInt8) × Bool)) (v0_8 : List UInt8) (v0a_8 : Bool) (v3_8 : Int) (v4_8 : Int) (v6_8 : Int) : Option (Int × (List UInt8) × Bool) :=
  cond (decide (v6_8 < 4)) ((impl_unpacker_byte v0_8 v0a_8).bind fun x1 => cond (decide (x1.1 < 128)) (some ((IntKind.i64.wrap (v3_8 + (IntKind.i64.wrap ((Int.tmod x1.1 128) * v4_8)))), x1.2.1, x1.2.2)) (k8 x1.2.1 x1.2.2 (IntKind.i64.wrap (v3_8 + (IntKind.i64.wrap ((Int.tmod x1.1 128) * v4_8)))) (IntKind.i64.wrap (v4_8 * 128)) (IntKind.i64.wrap (v6_8 + 1)))) (some (0, v0_8, true))
noncomputable def impl_unpacker_number_l8 : Nat → (List UInt8) → Bool → Int → Int → Int → Option (Int × (List UInt8) × Bool)
  | 0, _, _, _, _, _ => none
  | n + 1, v0_8, v0a_8, v3_8, v4_8, v6_8 => impl_unpacker_number_b8   (impl_unpacker_number_l8    n)  v0_8 v0a_8 v3_8 v4_8 v6_8
/-- (*loop.example/g01075/impl.unpacker).number -/
noncomputable def impl_unpacker_number (a000 : List UInt8) (a001 : Bool) : Option (Int × (List UInt8) × Bool) :=
  lim fun n => impl_unpacker_number_l8 n a000 a001 0 1 0

noncomputable def impl_unpacker_numbers_b8 (k8 : (List UInt8) → Bool → (List Int) → Int → Option ((List Int) × (List UInt8) × Bool)) (a1 : Int) (v0_8 : List UInt8) (v0a_8 : Bool) (v5_8 : List Int) (v6_8 : Int) : Option ((List Int) × (List UInt8) × Bool) :=
  cond ((decide (v6_8 < a1)) && (!v0a_8)) ((impl_unpacker_number v0_8 v0a_8).bind fun x1 => (room 8 (v5_8.length + 1)).bind fun _ => k8 x1.2.1 x1.2.2 (v5_8 ++ [x1.1]) (IntKind.i64.wrap (v6_8 + 1))) (some (v5_8, v0_8, v0a_8))
noncomputable def impl_unpacker_numbers_l8 (a1 : Int) : Nat → (List UInt8) → Bool → (List Int) → Int → Option ((List Int) × (List UInt8) × Bool)
  | 0, _, _, _, _ => none
  | n + 1, v0_8, v0a_8, v5_8, v6_8 => impl_unpacker_numbers_b8   (impl_unpacker_numbers_l8   a1 n) a1 v0_8 v0a_8 v5_8 v6_8
/-- (*loop.example/g01075/impl.unpacker).numbers -/
noncomputable def impl_unpacker_numbers (a000 : List UInt8) (a001 : Bool) (a1 : Int) : Option ((List Int) × (List UInt8) × Bool) :=
  lim fun n => impl_unpacker_numbers_l8 a1 n a000 a001 [] 0

noncomputable def impl_equationBlocks_k27 (k10 : (List Int) → Int → Int → Option ((List Int))) (a0 : List impl_Equation) (v3_27 : List Int) (v4_27 : Int) (v9_27 : Int) : Option ((List Int)) :=
  (room 8 (v3_27.length + 1)).bind fun _ => k10 (v3_27 ++ [v4_27]) v4_27 (IntKind.i64.wrap (v9_27 + 1))
noncomputable def impl_equationBlocks_b10 (k10 : (List Int) → Int → Int → Option ((List Int))) (a0 : List impl_Equation) (v3_10 : List Int) (v4_10 : Int) (v9_10 : Int) : Option ((List Int)) :=
  cond (decide (v9_10 < (a0.length : Int))) ((getI a0 v9_10).bind fun x1 => cond (decide (0 < v9_10)) ((getI a0 (IntKind.i64.wrap (v9_10 - 1))).bind fun x2 => cond (!(x1.Greatest == x2.Greatest)) (impl_equationBlocks_k27 k10 a0 v3_10 (IntKind.i64.wrap (v4_10 + 1)) v9_10) (impl_equationBlocks_k27 k10 a0 v3_10 v4_10 v9_10)) (impl_equationBlocks_k27 k10 a0 v3_10 v4_10 v9_10)) (some v3_10)
noncomputable def impl_equationBlocks_l10 (a0 : List impl_Equation) : Nat → (List Int) → Int → Int → Option ((List Int))
  | 0, _, _, _ => none
  | n + 1, v3_10, v4_10, v9_10 => impl_equationBlocks_b10   (impl_equationBlocks_l10   a0 n) a0 v3_10 v4_10 v9_10
/-- loop.example/g01075/impl.equationBlocks -/
noncomputable def impl_equationBlocks (a0 : List impl_Equation) : Option ((List Int)) :=
  lim fun n => impl_equationBlocks_l10 a0 n [] 0 0

/-- loop.example/g01075/impl.last[int64] -/
noncomputable def impl_last_int64 (a0 : List Int) : Option Int :=
  (getI a0 (IntKind.i64.wrap ((a0.length : Int) - 1))).bind fun x1 => some x1

/-- loop.example/g01075/impl.blocksFit -/
noncomputable def impl_blocksFit (a0 : List impl_Equation) : Option Bool :=
  (impl_equationBlocks a0).bind fun x1 => (impl_last_int64 x1).bind fun x2 => some (decide (x2 < 9))

/-- loop.example/g01075/impl.index -/
noncomputable def impl_index (a0 : Int) (a1 : Int) : Option Bool :=
  (impl_within a0 0 (IntKind.i64.wrap (a1 - 1))).bind fun x1 => some x1

noncomputable def impl_increasing_b6 (k6 : Int → Option Bool) (a0 : List Int) (a1 : Int) (v9_6 : Int) : Option Bool :=
  cond (decide (v9_6 < (a0.length : Int))) ((getI a0 v9_6).bind fun x1 => (impl_index x1 a1).bind fun x2 => cond (!x2) (some false) (cond (decide (0 < v9_6)) ((getI a0 (IntKind.i64.wrap (v9_6 - 1))).bind fun x3 => cond (decide (x1 ≤ x3)) (some false) (k6 (IntKind.i64.wrap (v9_6 + 1)))) (k6 (IntKind.i64.wrap (v9_6 + 1))))) (some true)
noncomputable def impl_increasing_l6 (a0 : List Int) (a1 : Int) : Nat → Int → Option Bool
  | 0, _ => none
  | n + 1, v9_6 => impl_increasing_b6   (impl_increasing_l6   a0 a1 n) a0 a1 v9_6
/-- loop.example/g01075/impl.increasing -/
noncomputable def impl_increasing (a0 : List Int) (a1 : Int) : Option Bool :=
  lim fun n => impl_increasing_l6 a0 a1 n 0

/-- loop.example/g01075/impl.ValidEquations$1 -/
noncomputable def impl_ValidEquations_c1_2 (a0 : impl_Equation) (a1 : List impl_Equation) : Option Bool :=
  (impl_increasing a0.Terms (a1.length : Int)).bind fun x1 => some (!x1)

noncomputable def slices_IndexFunc_impl_Equation__impl_ValidEquations_c1_b6 (k6 : Int → Option Int) (a0 : List impl_Equation) (a1 : List impl_Equation) (v8_6 : Int) : Option Int :=
  cond (decide (v8_6 < (a0.length : Int))) ((getI a0 v8_6).bind fun x1 => (impl_ValidEquations_c1_2 x1 a1).bind fun x2 => cond x2 (some v8_6) (k6 (IntKind.i64.wrap (v8_6 + 1)))) (some (-1))
noncomputable def slices_IndexFunc_impl_Equation__impl_ValidEquations_c1_l6 (a0 : List impl_Equation) (a1 : List impl_Equation) : Nat → Int → Option Int
  | 0, _ => none
  | n + 1, v8_6 => slices_IndexFunc_impl_Equation__impl_ValidEquations_c1_b6   (slices_IndexFunc_impl_Equation__impl_ValidEquations_c1_l6   a0 a1 n) a0 a1 v8_6
/-- slices.IndexFunc[[]loop.example/g01075/impl.Equation,loop.example/g01075/impl.Equation] -/
noncomputable def slices_IndexFunc_impl_Equation__impl_ValidEquations_c1 (a0 : List impl_Equation) (a1 : List impl_Equation) : Option Int :=
  lim fun n => slices_IndexFunc_impl_Equation__impl_ValidEquations_c1_l6 a0 a1 n 0

/-- slices.ContainsFunc[[]loop.example/g01075/impl.Equation,loop.example/g01075/impl.Equation] -/
noncomputable def slices_ContainsFunc_impl_Equation__impl_ValidEquations_c1 (a0 : List impl_Equation) (a1 : List impl_Equation) : Option Bool :=
  (slices_IndexFunc_impl_Equation__impl_ValidEquations_c1 a0 a1).bind fun x1 => some (decide (0 ≤ x1))

/-- loop.example/g01075/impl.ValidEquations -/
noncomputable def impl_ValidEquations (a0 : List impl_Equation) : Option Bool :=
  (impl_within (a0.length : Int) 1 120).bind fun x1 => cond (!x1) (some false) ((impl_blocksFit a0).bind fun x2 => cond (!x2) (some false) ((slices_ContainsFunc_impl_Equation__impl_ValidEquations_c1 a0 a0).bind fun x3 => some (!x3)))

noncomputable def impl_writer_number_b16 (k3 : (List UInt8) → Int → Option ((List UInt8))) (k16 : (List UInt8) → Int → Int → Option ((List UInt8))) (a1 : List Int) (v0_16 : List UInt8) (v5_16 : Int) (v8_16 : Int) : Option ((List UInt8)) :=
  cond (decide (128 ≤ v5_16)) ((room 1 (v0_16.length + 1)).bind fun _ => k16 (v0_16 ++ [(toB (IntKind.i64.wrap (128 + (Int.tmod v5_16 128))))]) (IntKind.i64.wrap (Int.tdiv v5_16 128)) v8_16) ((room 1 (v0_16.length + 1)).bind fun _ => k3 (v0_16 ++ [(toB v5_16)]) (IntKind.i64.wrap (v8_16 + 1)))
noncomputable def impl_writer_number_l16 (k3 : (List UInt8) → Int → Option ((List UInt8))) (a1 : List Int) : Nat → (List UInt8) → Int → Int → Option ((List UInt8))
  | 0, _, _, _ => none
  | n + 1, v0_16, v5_16, v8_16 => impl_writer_number_b16  k3 (impl_writer_number_l16  k3 a1 n) a1 v0_16 v5_16 v8_16
noncomputable def impl_writer_number_b3 (k3 : (List UInt8) → Int → Option ((List UInt8))) (a1 : List Int) (v0_3 : List UInt8) (v8_3 : Int) : Option ((List UInt8)) :=
  cond (decide (v8_3 < (a1.length : Int))) ((getI a1 v8_3).bind fun x1 => lim fun n => impl_writer_number_l16 k3 a1 n v0_3 x1 v8_3) (some v0_3)
noncomputable def impl_writer_number_l3 (a1 : List Int) : Nat → (List UInt8) → Int → Option ((List UInt8))
  | 0, _, _ => none
  | n + 1, v0_3, v8_3 => impl_writer_number_b3   (impl_writer_number_l3   a1 n) a1 v0_3 v8_3
/-- (*loop.example/g01075/impl.writer).number -/
noncomputable def impl_writer_number (a0 : List UInt8) (a1 : List Int) : Option ((List UInt8)) :=
  lim fun n => impl_writer_number_l3 a1 n a0 0

/-- loop.example/g01075/impl.truth -/
noncomputable def impl_truth (a0 : Bool) : Option Int :=
  cond a0 (some 1) (some 0)

/-- (*loop.example/g01075/impl.writer).image -/
noncomputable def impl_writer_image (a0 : List UInt8) : Option ((List UInt8)) :=
  (impl_Crc16 a0 65535).bind fun x1 => (room 1 (a0.length + 2)).bind fun _ => cond (decide (6000 < ((a0 ++ [(toB (IntKind.i64.wrap (Int.tdiv x1 256))), (toB (Int.tmod x1 256))]).length : Int))) (some ([] : List UInt8)) (some (a0 ++ [(toB (IntKind.i64.wrap (Int.tdiv x1 256))), (toB (Int.tmod x1 256))]))

noncomputable def impl_EncodeEquations_b18 (k18 : (List UInt8) → Int → Option ((List UInt8))) (a0 : List impl_Equation) (v3_18 : List UInt8) (v19_18 : Int) : Option ((List UInt8)) :=
  cond (decide (v19_18 < (a0.length : Int))) ((getI a0 v19_18).bind fun x3 => (impl_truth x3.Greatest).bind fun x4 => (impl_truth x3.All).bind fun x5 => (impl_writer_number v3_18 [(IntKind.i64.wrap (x4 + (IntKind.i64.wrap (2 * x5)))), (x3.Terms.length : Int)]).bind fun x6 => (impl_writer_number x6 x3.Terms).bind fun x7 => k18 x7 (IntKind.i64.wrap (v19_18 + 1))) ((impl_writer_image v3_18).bind fun x8 => some x8)
noncomputable def impl_EncodeEquations_l18 (a0 : List impl_Equation) : Nat → (List UInt8) → Int → Option ((List UInt8))
  | 0, _, _ => none
  | n + 1, v3_18, v19_18 => impl_EncodeEquations_b18   (impl_EncodeEquations_l18   a0 n) a0 v3_18 v19_18
/-- loop.example/g01075/impl.EncodeEquations -/
noncomputable def impl_EncodeEquations (a0 : List impl_Equation) : Option ((List UInt8)) :=
  (impl_ValidEquations a0).bind fun x1 => cond (!x1) (some ([] : List UInt8)) ((impl_writer_number [(3 : UInt8)] [(a0.length : Int)]).bind fun x2 => lim fun n => impl_EncodeEquations_l18 a0 n x2 0)

noncomputable def impl_DecodeEquations_b18 (k18 : (List UInt8) → Bool → (List impl_Equation) → Int → Option ((List impl_Equation) × Int)) (a0 : List UInt8) (v4_18 : List UInt8) (v4a_18 : Bool) (v6_18 : List impl_Equation) (v7_18 : Int) : Option ((List impl_Equation) × Int) :=
  cond ((decide (0 < v7_18)) && (!v4a_18)) ((impl_unpacker_number v4_18 v4a_18).bind fun x4 => (impl_unpacker_number x4.2.1 x4.2.2).bind fun x5 => (impl_unpacker_numbers x5.2.1 x5.2.2 x5.1).bind fun x6 => (room 32 (v6_18.length + 1)).bind fun _ => k18 x6.2.1 x6.2.2 (v6_18 ++ [(impl_Equation.mk ((Int.tmod x4.1 2) == 1) ((IntKind.i64.wrap (Int.tdiv x4.1 2)) == 1) x6.1)]) (IntKind.i64.wrap (v7_18 - 1))) ((impl_EncodeEquations v6_18).bind fun x7 => cond (!(x7 == a0)) (some ([], 9)) (some (v6_18, 0)))
noncomputable def impl_DecodeEquations_l18 (a0 : List UInt8) : Nat → (List UInt8) → Bool → (List impl_Equation) → Int → Option ((List impl_Equation) × Int)
  | 0, _, _, _, _ => none
  | n + 1, v4_18, v4a_18, v6_18, v7_18 => impl_DecodeEquations_b18   (impl_DecodeEquations_l18   a0 n) a0 v4_18 v4a_18 v6_18 v7_18
/-- loop.example/g01075/impl.DecodeEquations -/
noncomputable def impl_DecodeEquations (a0 : List UInt8) : Option ((List impl_Equation) × Int) :=
  (impl_contents a0 3).bind fun x1 => Option.elim x1.1 (cond (x1.2 != 0) (some ([], x1.2)) (none)) (fun x2 => cond (x1.2 != 0) (some ([], x1.2)) ((impl_unpacker_number x2.1 x2.2).bind fun x3 => lim fun n => impl_DecodeEquations_l18 a0 n x3.2.1 x3.2.2 [] x3.1))

noncomputable def laws_eqInt64S_b14 (k14 : Int → Option Bool) (a0 : List Int) (a1 : List Int) (v5_14 : Int) : Option Bool :=
  cond (decide (v5_14 < (a0.length : Int))) ((getI a0 v5_14).bind fun x1 => (getI a1 v5_14).bind fun x2 => cond (x1 != x2) (some false) (k14 (IntKind.i64.wrap (v5_14 + 1)))) (some true)
noncomputable def laws_eqInt64S_l14 (a0 : List Int) (a1 : List Int) : Nat → Int → Option Bool
  | 0, _ => none
  | n + 1, v5_14 => laws_eqInt64S_b14   (laws_eqInt64S_l14   a0 a1 n) a0 a1 v5_14
/-- loop.example/g01075/laws.eqInt64S -/
noncomputable def laws_eqInt64S (a0 : List Int) (a1 : List Int) : Option Bool :=
  cond ((a0.length : Int) != (a1.length : Int)) (some false) (lim fun n => laws_eqInt64S_l14 a0 a1 n 0)

/-- loop.example/g01075/laws.eqEquation -/
noncomputable def laws_eqEquation (a0 : impl_Equation) (a1 : impl_Equation) : Option Bool :=
  cond (!(a0.Greatest == a1.Greatest)) (some false) (cond (!(a0.All == a1.All)) (some false) ((laws_eqInt64S a0.Terms a1.Terms).bind fun x1 => cond (!x1) (some false) (some true)))

noncomputable def laws_eqEquationS_b14 (k14 : Int → Option Bool) (a0 : List impl_Equation) (a1 : List impl_Equation) (v5_14 : Int) : Option Bool :=
  cond (decide (v5_14 < (a0.length : Int))) ((getI a0 v5_14).bind fun x1 => (getI a1 v5_14).bind fun x2 => (laws_eqEquation x1 x2).bind fun x3 => cond (!x3) (some false) (k14 (IntKind.i64.wrap (v5_14 + 1)))) (some true)
noncomputable def laws_eqEquationS_l14 (a0 : List impl_Equation) (a1 : List impl_Equation) : Nat → Int → Option Bool
  | 0, _ => none
  | n + 1, v5_14 => laws_eqEquationS_b14   (laws_eqEquationS_l14   a0 a1 n) a0 a1 v5_14
/-- loop.example/g01075/laws.eqEquationS -/
noncomputable def laws_eqEquationS (a0 : List impl_Equation) (a1 : List impl_Equation) : Option Bool :=
  cond ((a0.length : Int) != (a1.length : Int)) (some false) (lim fun n => laws_eqEquationS_l14 a0 a1 n 0)

noncomputable def laws_markInt64S_b6 (k6 : (List Int) → Int → Int → Option (Int × (List Int))) (v0_6 : List Int) (v1_6 : Int) (v5_6 : Int) : Option (Int × (List Int)) :=
  cond (decide (v5_6 < (v0_6.length : Int))) ((getI v0_6 v5_6).bind fun x1 => k6 (List.set v0_6 (Int.toNat v5_6) v1_6) (IntKind.i64.wrap (v1_6 + 1)) (IntKind.i64.wrap (v5_6 + 1))) (some (v1_6, v0_6))
noncomputable def laws_markInt64S_l6 : Nat → (List Int) → Int → Int → Option (Int × (List Int))
  | 0, _, _, _ => none
  | n + 1, v0_6, v1_6, v5_6 => laws_markInt64S_b6   (laws_markInt64S_l6    n)  v0_6 v1_6 v5_6
/-- loop.example/g01075/laws.markInt64S -/
noncomputable def laws_markInt64S (a0 : List Int) (a1 : Int) : Option (Int × (List Int)) :=
  lim fun n => laws_markInt64S_l6 n a0 a1 0

noncomputable def laws_markEquationS_b6 (k6 : (List impl_Equation) → Int → Int → Option (Int × (List impl_Equation))) (v0_6 : List impl_Equation) (v1_6 : Int) (v5_6 : Int) : Option (Int × (List impl_Equation)) :=
  cond (decide (v5_6 < (v0_6.length : Int))) ((getI v0_6 v5_6).bind fun x1 => (getI (List.set v0_6 (Int.toNat v5_6) (impl_Equation.mk ((Int.tmod v1_6 3) == 0) x1.All x1.Terms)) v5_6).bind fun x2 => (getI (List.set (List.set v0_6 (Int.toNat v5_6) (impl_Equation.mk ((Int.tmod v1_6 3) == 0) x1.All x1.Terms)) (Int.toNat v5_6) (impl_Equation.mk x2.Greatest ((Int.tmod (IntKind.i64.wrap (v1_6 + 1)) 3) == 0) x2.Terms)) v5_6).bind fun x3 => (laws_markInt64S x3.Terms (IntKind.i64.wrap ((IntKind.i64.wrap (v1_6 + 1)) + 1))).bind fun x4 => k6 (List.set (List.set (List.set v0_6 (Int.toNat v5_6) (impl_Equation.mk ((Int.tmod v1_6 3) == 0) x1.All x1.Terms)) (Int.toNat v5_6) (impl_Equation.mk x2.Greatest ((Int.tmod (IntKind.i64.wrap (v1_6 + 1)) 3) == 0) x2.Terms)) (Int.toNat v5_6) (impl_Equation.mk x3.Greatest x3.All x4.2)) x4.1 (IntKind.i64.wrap (v5_6 + 1))) (some (v1_6, v0_6))
noncomputable def laws_markEquationS_l6 : Nat → (List impl_Equation) → Int → Int → Option (Int × (List impl_Equation))
  | 0, _, _, _ => none
  | n + 1, v0_6, v1_6, v5_6 => laws_markEquationS_b6   (laws_markEquationS_l6    n)  v0_6 v1_6 v5_6
/-- loop.example/g01075/laws.markEquationS -/
noncomputable def laws_markEquationS (a0 : List impl_Equation) (a1 : Int) : Option (Int × (List impl_Equation)) :=
  lim fun n => laws_markEquationS_l6 n a0 a1 0

noncomputable def laws_heldInt64S_b6 (k6 : Int → Int → Option Int) (a0 : List Int) (v1_6 : Int) (v5_6 : Int) : Option Int :=
  cond (decide (v5_6 < (a0.length : Int))) ((getI a0 v5_6).bind fun x1 => cond (x1 != v1_6) (some (-1)) (k6 (IntKind.i64.wrap (v1_6 + 1)) (IntKind.i64.wrap (v5_6 + 1)))) (some v1_6)
noncomputable def laws_heldInt64S_l6 (a0 : List Int) : Nat → Int → Int → Option Int
  | 0, _, _ => none
  | n + 1, v1_6, v5_6 => laws_heldInt64S_b6   (laws_heldInt64S_l6   a0 n) a0 v1_6 v5_6
/-- loop.example/g01075/laws.heldInt64S -/
noncomputable def laws_heldInt64S (a0 : List Int) (a1 : Int) : Option Int :=
  lim fun n => laws_heldInt64S_l6 a0 n a1 0

noncomputable def laws_heldEquationS_b6 (k6 : Int → Int → Option Int) (a0 : List impl_Equation) (v1_6 : Int) (v5_6 : Int) : Option Int :=
  cond (decide (v5_6 < (a0.length : Int))) ((getI a0 v5_6).bind fun x1 => cond (!(x1.Greatest == ((Int.tmod v1_6 3) == 0))) (some (-1)) (cond (!(x1.All == ((Int.tmod (IntKind.i64.wrap (v1_6 + 1)) 3) == 0))) (some (-1)) ((laws_heldInt64S x1.Terms (IntKind.i64.wrap ((IntKind.i64.wrap (v1_6 + 1)) + 1))).bind fun x2 => cond (decide (x2 < 0)) (some (-1)) (k6 x2 (IntKind.i64.wrap (v5_6 + 1)))))) (some v1_6)
noncomputable def laws_heldEquationS_l6 (a0 : List impl_Equation) : Nat → Int → Int → Option Int
  | 0, _, _ => none
  | n + 1, v1_6, v5_6 => laws_heldEquationS_b6   (laws_heldEquationS_l6   a0 n) a0 v1_6 v5_6
/-- loop.example/g01075/laws.heldEquationS -/
noncomputable def laws_heldEquationS (a0 : List impl_Equation) (a1 : Int) : Option Int :=
  lim fun n => laws_heldEquationS_l6 a0 n a1 0

/-- loop.example/g01075/laws.FnExactDecodeEquations -/
noncomputable def laws_FnExactDecodeEquations (a0 : List UInt8) : Option Bool :=
  cond (decide (1048576 < (a0.length : Int))) (some true) ((spec_DecodeEquations a0).bind fun x1 => (impl_DecodeEquations a0).bind fun x2 => (laws_eqEquationS x2.1 x1.1).bind fun x3 => cond ((!x3) || (x2.2 != x1.2)) (some false) ((laws_markEquationS x2.1 1).bind fun x4 => (laws_heldEquationS x4.2 1).bind fun x5 => cond (decide (x5 < 0)) (some false) (cond (x5 != x4.1) (some false) ((impl_DecodeEquations a0).bind fun x6 => (laws_eqEquationS x6.1 x1.1).bind fun x7 => cond ((!x7) || (x6.2 != x1.2)) (some false) ((laws_heldEquationS x4.2 1).bind fun x8 => cond (decide (x8 < 0)) (some false) (cond (x8 != x4.1) (some false) (some true)))))))

end Go.Sh
