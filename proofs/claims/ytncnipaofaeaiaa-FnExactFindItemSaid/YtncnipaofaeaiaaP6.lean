/- Part of a proof that a law returns true for every input. No condition. -/
import Derived.Test.YtncnipaofaeaiaaSh
namespace Go.Sh
open Go Go.Fw
set_option linter.unusedVariables false

structure laws_Item where
  Name : List UInt8
  Image : List UInt8
def wf_laws_Item (x : laws_Item) : Prop := x.Name.length ≤ 9223372036854775807 ∧ x.Image.length ≤ 9223372036854775807
structure impl_Item where
  Name : List UInt8
  Image : List UInt8
def wf_impl_Item (x : impl_Item) : Prop := x.Name.length ≤ 9223372036854775807 ∧ x.Image.length ≤ 9223372036854775807

/-- loop.example/g01075/laws.szItem -/
noncomputable def laws_szItem (a0 : laws_Item) (a1 : Int) : Option Int :=
  cond (decide ((IntKind.i64.wrap (a1 - (a0.Name.length : Int))) < 0)) (some (-1)) (cond (decide ((IntKind.i64.wrap ((IntKind.i64.wrap (a1 - (a0.Name.length : Int))) - (a0.Image.length : Int))) < 0)) (some (-1)) (some (IntKind.i64.wrap ((IntKind.i64.wrap (a1 - (a0.Name.length : Int))) - (a0.Image.length : Int)))))

noncomputable def laws_szItemS_b16 (k16 : Int → Int → Option Int) (a0 : List laws_Item) (v1_16 : Int) (v5_16 : Int) : Option Int :=
  cond (decide (v5_16 < (a0.length : Int))) ((getI a0 v5_16).bind fun x1 => (laws_szItem x1 v1_16).bind fun x2 => cond (decide (x2 < 0)) (some (-1)) (k16 x2 (IntKind.i64.wrap (v5_16 + 1)))) (some v1_16)
noncomputable def laws_szItemS_l16 (a0 : List laws_Item) : Nat → Int → Int → Option Int
  | 0, _, _ => none
  | n + 1, v1_16, v5_16 => laws_szItemS_b16  (laws_szItemS_l16  a0 n) a0 v1_16 v5_16
/-- loop.example/g01075/laws.szItemS -/
noncomputable def laws_szItemS (a0 : List laws_Item) (a1 : Int) : Option Int :=
  cond (decide ((IntKind.i64.wrap (a1 - (a0.length : Int))) < 0)) (some (-1)) (lim fun n => laws_szItemS_l16 a0 n (IntKind.i64.wrap (a1 - (a0.length : Int))) 0)

/-- loop.example/g01075/laws.toItem -/
noncomputable def laws_toItem (a0 : laws_Item) : Option impl_Item :=
  some (impl_Item.mk a0.Name a0.Image)

noncomputable def laws_toItemS_b8 (k8 : (List impl_Item) → Int → Option ((List impl_Item))) (a0 : List laws_Item) (v3_8 : List impl_Item) (v4_8 : Int) : Option ((List impl_Item)) :=
  cond (decide (v4_8 < (a0.length : Int))) ((getI a0 v4_8).bind fun x1 => (laws_toItem x1).bind fun x2 => (getI v3_8 v4_8).bind fun x3 => k8 (List.set v3_8 (Int.toNat v4_8) x2) (IntKind.i64.wrap (v4_8 + 1))) (some v3_8)
noncomputable def laws_toItemS_l8 (a0 : List laws_Item) : Nat → (List impl_Item) → Int → Option ((List impl_Item))
  | 0, _, _ => none
  | n + 1, v3_8, v4_8 => laws_toItemS_b8  (laws_toItemS_l8  a0 n) a0 v3_8 v4_8
/-- loop.example/g01075/laws.toItemS -/
noncomputable def laws_toItemS (a0 : List laws_Item) : Option ((List impl_Item)) :=
  (mkOk 32 (a0.length : Int)).bind fun _ => lim fun n => laws_toItemS_l8 a0 n (List.replicate (Int.toNat (a0.length : Int)) (impl_Item.mk ([] : List UInt8) ([] : List UInt8))) 0

/-- loop.example/g01075/spec.l01Small -/
noncomputable def spec_l01Small (a0 : UInt8) : Option Bool :=
  some ((decide (97 ≤ (a0.toNat : Int))) && (decide ((a0.toNat : Int) ≤ 122)))

/-- loop.example/g01075/spec.l01Digit -/
noncomputable def spec_l01Digit (a0 : UInt8) : Option Bool :=
  some ((decide (48 ≤ (a0.toNat : Int))) && (decide ((a0.toNat : Int) ≤ 57)))

noncomputable def spec_l01Name_b14 (k14 : Int → Option Bool) (a0 : List UInt8) (v3_14 : Int) : Option Bool :=
  cond (decide (v3_14 < (a0.length : Int))) ((getI a0 v3_14).bind fun x3 => (spec_l01Small x3).bind fun x4 => cond (!x4) ((spec_l01Digit x3).bind fun x5 => cond (!x5) (some false) (k14 (IntKind.i64.wrap (v3_14 + 1)))) (k14 (IntKind.i64.wrap (v3_14 + 1)))) (some true)
noncomputable def spec_l01Name_l14 (a0 : List UInt8) : Nat → Int → Option Bool
  | 0, _ => none
  | n + 1, v3_14 => spec_l01Name_b14  (spec_l01Name_l14  a0 n) a0 v3_14
/-- loop.example/g01075/spec.l01Name -/
noncomputable def spec_l01Name (a0 : List UInt8) : Option Bool :=
  cond (a0 == ([] : List UInt8)) (some false) (cond (decide (10 < (a0.length : Int))) (some false) ((getI a0 0).bind fun x1 => (spec_l01Small x1).bind fun x2 => cond (!x2) (some false) (lim fun n => spec_l01Name_l14 a0 n 0)))

noncomputable def spec_l01Crc_k36 (k6 : Int → Int → Option Int) (k20 : Int → Int → Int → Option Int) (a0 : List UInt8) (v1_36 : Int) (v5_36 : Int) (v6_36 : Int) : Option Int :=
  k20 v1_36 v5_36 (IntKind.i64.wrap (v6_36 + 1))
noncomputable def spec_l01Crc_b20 (k6 : Int → Int → Option Int) (k20 : Int → Int → Int → Option Int) (a0 : List UInt8) (v1_20 : Int) (v5_20 : Int) (v6_20 : Int) : Option Int :=
  cond (decide (v6_20 < 8)) (cond (decide (65535 < (IntKind.i64.wrap (v1_20 * 2 ^ (min (Int.toNat 1) 64))))) (spec_l01Crc_k36 k6 k20 a0 (bitsOf .xor .i64 (bitsOf .and .i64 (IntKind.i64.wrap (v1_20 * 2 ^ (min (Int.toNat 1) 64))) 65535) 4129) v5_20 v6_20) (spec_l01Crc_k36 k6 k20 a0 (IntKind.i64.wrap (v1_20 * 2 ^ (min (Int.toNat 1) 64))) v5_20 v6_20)) (k6 v1_20 (IntKind.i64.wrap (v5_20 + 1)))
noncomputable def spec_l01Crc_l20 (k6 : Int → Int → Option Int) (a0 : List UInt8) : Nat → Int → Int → Int → Option Int
  | 0, _, _, _ => none
  | n + 1, v1_20, v5_20, v6_20 => spec_l01Crc_b20 k6 (spec_l01Crc_l20 k6 a0 n) a0 v1_20 v5_20 v6_20
noncomputable def spec_l01Crc_b6 (k6 : Int → Int → Option Int) (a0 : List UInt8) (v1_6 : Int) (v5_6 : Int) : Option Int :=
  cond (decide (v5_6 < (a0.length : Int))) ((getI a0 v5_6).bind fun x1 => lim fun n => spec_l01Crc_l20 k6 a0 n (bitsOf .xor .i64 v1_6 (IntKind.i64.wrap ((x1.toNat : Int) * 2 ^ (min (Int.toNat 8) 64)))) v5_6 0) (some v1_6)
noncomputable def spec_l01Crc_l6 (a0 : List UInt8) : Nat → Int → Int → Option Int
  | 0, _, _ => none
  | n + 1, v1_6, v5_6 => spec_l01Crc_b6  (spec_l01Crc_l6  a0 n) a0 v1_6 v5_6
/-- loop.example/g01075/spec.l01Crc -/
noncomputable def spec_l01Crc (a0 : List UInt8) (a1 : Int) : Option Int :=
  lim fun n => spec_l01Crc_l6 a0 n a1 0

/-- loop.example/g01075/spec.l00In -/
noncomputable def spec_l00In (a0 : Int) (a1 : Int) (a2 : Int) : Option Bool :=
  some ((decide (a1 ≤ a0)) && (decide (a0 ≤ a2)))

/-- loop.example/g01075/spec.l32Kind -/
noncomputable def spec_l32Kind (a0 : List UInt8) : Option (Int × Int) :=
  cond (decide ((a0.length : Int) < 3)) (some (0, 11)) ((subL a0 0 (IntKind.i64.wrap ((a0.length : Int) - 2))).bind fun x1 => (spec_l01Crc x1 65535).bind fun x2 => (getI a0 (IntKind.i64.wrap ((a0.length : Int) - 2))).bind fun x3 => (getI a0 (IntKind.i64.wrap ((a0.length : Int) - 1))).bind fun x4 => cond (x2 != (IntKind.i64.wrap ((IntKind.i64.wrap ((x3.toNat : Int) * 256)) + (x4.toNat : Int)))) (some (0, 10)) ((getI a0 0).bind fun x5 => (spec_l00In (x5.toNat : Int) 1 3).bind fun x6 => cond ((!x6) || (decide (6000 < (a0.length : Int)))) (some (0, 9)) (some ((x5.toNat : Int), 0))))

noncomputable def spec_l32Items_b14 (k14 : Int → Option Bool) (a0 : List impl_Item) (v3_14 : Int) : Option Bool :=
  cond (decide (v3_14 < (a0.length : Int))) ((getI a0 v3_14).bind fun x1 => (spec_l01Name x1.Name).bind fun x2 => cond (!x2) (some false) (cond (decide (0 < v3_14)) ((getI a0 (IntKind.i64.wrap (v3_14 - 1))).bind fun x3 => cond (!(Op.bytesLess x3.Name x1.Name)) (some false) ((spec_l32Kind x1.Image).bind fun x4 => cond (x4.2 != 0) (some false) (k14 (IntKind.i64.wrap (v3_14 + 1))))) ((spec_l32Kind x1.Image).bind fun x5 => cond (x5.2 != 0) (some false) (k14 (IntKind.i64.wrap (v3_14 + 1)))))) (some true)
noncomputable def spec_l32Items_l14 (a0 : List impl_Item) : Nat → Int → Option Bool
  | 0, _ => none
  | n + 1, v3_14 => spec_l32Items_b14  (spec_l32Items_l14  a0 n) a0 v3_14
/-- loop.example/g01075/spec.l32Items -/
noncomputable def spec_l32Items (a0 : List impl_Item) : Option Bool :=
  cond (decide (16 < (a0.length : Int))) (some false) (lim fun n => spec_l32Items_l14 a0 n 0)

noncomputable def spec_FindItem_b14 (k14 : Int → Option ((List UInt8) × Int)) (a0 : List impl_Item) (a1 : List UInt8) (v6_14 : Int) : Option ((List UInt8) × Int) :=
  cond (decide (v6_14 < (a0.length : Int))) ((getI a0 v6_14).bind fun x2 => cond (x2.Name == a1) (some (x2.Image, 0)) (k14 (IntKind.i64.wrap (v6_14 + 1)))) (some (([] : List UInt8), 3))
noncomputable def spec_FindItem_l14 (a0 : List impl_Item) (a1 : List UInt8) : Nat → Int → Option ((List UInt8) × Int)
  | 0, _ => none
  | n + 1, v6_14 => spec_FindItem_b14  (spec_FindItem_l14  a0 a1 n) a0 a1 v6_14
/-- loop.example/g01075/spec.FindItem -/
noncomputable def spec_FindItem (a0 : List impl_Item) (a1 : List UInt8) : Option ((List UInt8) × Int) :=
  (spec_l32Items a0).bind fun x1 => cond (!x1) (some (([] : List UInt8), 1)) (lim fun n => spec_FindItem_l14 a0 a1 n 0)

/-- loop.example/g01075/impl.isDigit -/
noncomputable def impl_isDigit (a0 : UInt8) : Option Bool :=
  some ((decide (48 ≤ (a0.toNat : Int))) && (decide ((a0.toNat : Int) ≤ 57)))

noncomputable def impl_IsName_b6 (k6 : Int → Option Bool) (a0 : List UInt8) (v7_6 : Int) : Option Bool :=
  cond (decide (v7_6 < (a0.length : Int))) ((getI a0 v7_6).bind fun x1 => cond (!((decide (97 ≤ (x1.toNat : Int))) && (decide ((x1.toNat : Int) ≤ 122)))) (cond (v7_6 == 0) (some false) ((impl_isDigit x1).bind fun x2 => cond (!x2) (some false) (k6 (IntKind.i64.wrap (v7_6 + 1))))) (k6 (IntKind.i64.wrap (v7_6 + 1)))) (some ((decide (1 ≤ (a0.length : Int))) && (decide ((a0.length : Int) ≤ 10))))
noncomputable def impl_IsName_l6 (a0 : List UInt8) : Nat → Int → Option Bool
  | 0, _ => none
  | n + 1, v7_6 => impl_IsName_b6  (impl_IsName_l6  a0 n) a0 v7_6
/-- loop.example/g01075/impl.IsName -/
noncomputable def impl_IsName (a0 : List UInt8) : Option Bool :=
  lim fun n => impl_IsName_l6 a0 n 0

/-- loop.example/g01075/impl.within -/
noncomputable def impl_within (a0 : Int) (a1 : Int) (a2 : Int) : Option Bool :=
  some ((decide (a1 ≤ a0)) && (decide (a0 ≤ a2)))

noncomputable def impl_Crc16_k48 (k16 : Int → Int → Option Int) (k32 : Int → Int → Int → Option Int) (a0 : List UInt8) (v5_48 : Int) (v13_48 : Int) (v23_48 : Int) : Option Int :=
  k32 v5_48 v13_48 (IntKind.i64.wrap (v23_48 + 1))
noncomputable def impl_Crc16_b32 (k16 : Int → Int → Option Int) (k32 : Int → Int → Int → Option Int) (a0 : List UInt8) (v5_32 : Int) (v13_32 : Int) (v23_32 : Int) : Option Int :=
  cond (decide (v23_32 < 8)) (cond (decide (65535 < (IntKind.i64.wrap (v5_32 * 2)))) (impl_Crc16_k48 k16 k32 a0 (bitsOf .xor .i64 (bitsOf .and .i64 (IntKind.i64.wrap (v5_32 * 2)) 65535) 4129) v13_32 v23_32) (impl_Crc16_k48 k16 k32 a0 (IntKind.i64.wrap (v5_32 * 2)) v13_32 v23_32)) (k16 v5_32 (IntKind.i64.wrap (v13_32 + 1)))
noncomputable def impl_Crc16_l32 (k16 : Int → Int → Option Int) (a0 : List UInt8) : Nat → Int → Int → Int → Option Int
  | 0, _, _, _ => none
  | n + 1, v5_32, v13_32, v23_32 => impl_Crc16_b32 k16 (impl_Crc16_l32 k16 a0 n) a0 v5_32 v13_32 v23_32
noncomputable def impl_Crc16_b16 (k16 : Int → Int → Option Int) (a0 : List UInt8) (v5_16 : Int) (v13_16 : Int) : Option Int :=
  cond (decide (v13_16 < (a0.length : Int))) ((getI a0 v13_16).bind fun x2 => lim fun n => impl_Crc16_l32 k16 a0 n (bitsOf .xor .i64 v5_16 (IntKind.i64.wrap ((x2.toNat : Int) * 256))) v13_16 0) (some v5_16)
noncomputable def impl_Crc16_l16 (a0 : List UInt8) : Nat → Int → Int → Option Int
  | 0, _, _ => none
  | n + 1, v5_16, v13_16 => impl_Crc16_b16  (impl_Crc16_l16  a0 n) a0 v5_16 v13_16
/-- loop.example/g01075/impl.Crc16 -/
noncomputable def impl_Crc16 (a0 : List UInt8) (a1 : Int) : Option Int :=
  (impl_within a1 0 65535).bind fun x1 => cond (!x1) (some 0) (lim fun n => impl_Crc16_l16 a0 n a1 0)

/-- loop.example/g01075/impl.ImageKind -/
noncomputable def impl_ImageKind (a0 : List UInt8) : Option (Int × Int) :=
  cond (decide ((a0.length : Int) < 3)) (some (0, 11)) ((subL a0 0 (IntKind.i64.wrap ((a0.length : Int) - 2))).bind fun x1 => (impl_Crc16 x1 65535).bind fun x2 => (getI a0 0).bind fun x3 => (getI a0 (IntKind.i64.wrap ((a0.length : Int) - 2))).bind fun x4 => (getI a0 (IntKind.i64.wrap ((a0.length : Int) - 1))).bind fun x5 => cond ((IntKind.i64.wrap ((IntKind.i64.wrap ((x4.toNat : Int) * 256)) + (x5.toNat : Int))) != x2) (some (0, 10)) ((impl_within (x3.toNat : Int) 1 3).bind fun x6 => cond ((!x6) || (decide (6000 < (a0.length : Int)))) (some (0, 9)) (some ((x3.toNat : Int), 0))))

/-- loop.example/g01075/impl.isImage -/
noncomputable def impl_isImage (a0 : List UInt8) : Option Bool :=
  (impl_ImageKind a0).bind fun x1 => some (x1.2 == 0)

noncomputable def impl_ValidItems_b6 (k6 : Int → Option Bool) (a0 : List impl_Item) (v7_6 : Int) : Option Bool :=
  cond (decide (v7_6 < (a0.length : Int))) ((getI a0 v7_6).bind fun x1 => (impl_IsName x1.Name).bind fun x2 => cond (!x2) (some false) ((impl_isImage x1.Image).bind fun x3 => cond (!x3) (some false) (cond (decide (0 < v7_6)) ((getI a0 (IntKind.i64.wrap (v7_6 - 1))).bind fun x4 => cond (Op.bytesLess x1.Name x4.Name || x1.Name == x4.Name) (some false) (k6 (IntKind.i64.wrap (v7_6 + 1)))) (k6 (IntKind.i64.wrap (v7_6 + 1)))))) (some (decide ((a0.length : Int) ≤ 16)))
noncomputable def impl_ValidItems_l6 (a0 : List impl_Item) : Nat → Int → Option Bool
  | 0, _ => none
  | n + 1, v7_6 => impl_ValidItems_b6  (impl_ValidItems_l6  a0 n) a0 v7_6
/-- loop.example/g01075/impl.ValidItems -/
noncomputable def impl_ValidItems (a0 : List impl_Item) : Option Bool :=
  lim fun n => impl_ValidItems_l6 a0 n 0

def cmpS : List UInt8 → List UInt8 → Int
  | [], [] => 0
  | [], _ :: _ => -1
  | _ :: _, [] => 1
  | a :: x, b :: y => if a < b then -1 else if b < a then 1 else cmpS x y
def bytealg_cmpstring (a0 : List UInt8) (a1 : List UInt8) : Option Int := some (cmpS a0 a1)

/-- internal/bytealg.CompareString -/
noncomputable def internal_bytealg_CompareString (a0 : List UInt8) (a1 : List UInt8) : Option Int :=
  (bytealg_cmpstring a0 a1).bind fun x1 => some x1

/-- strings.Compare -/
noncomputable def strings_Compare (a0 : List UInt8) (a1 : List UInt8) : Option Int :=
  (internal_bytealg_CompareString a0 a1).bind fun x1 => some x1

/-- loop.example/g01075/impl.compareItems -/
noncomputable def impl_compareItems (a0 : impl_Item) (a1 : List UInt8) : Option Int :=
  (strings_Compare a0.Name a1).bind fun x1 => some x1

noncomputable def slices_BinarySearchFunc_Item_string__impl_compareItems_b8 (k8 : Int → Int → Option (Int × Bool)) (a0 : List impl_Item) (a1 : List UInt8) (v9_8 : Int) (v10_8 : Int) : Option (Int × Bool) :=
  cond (decide (v9_8 < v10_8)) ((getI a0 (IntKind.i64.wrap (Int.fdiv (IntKind.u64.wrap (IntKind.i64.wrap (v9_8 + v10_8))) (2 ^ (min (Int.toNat 1) 64))))).bind fun x1 => (impl_compareItems x1 a1).bind fun x2 => cond (decide (x2 < 0)) (k8 (IntKind.i64.wrap ((IntKind.i64.wrap (Int.fdiv (IntKind.u64.wrap (IntKind.i64.wrap (v9_8 + v10_8))) (2 ^ (min (Int.toNat 1) 64)))) + 1)) v10_8) (k8 v9_8 (IntKind.i64.wrap (Int.fdiv (IntKind.u64.wrap (IntKind.i64.wrap (v9_8 + v10_8))) (2 ^ (min (Int.toNat 1) 64)))))) (cond (decide (v9_8 < (a0.length : Int))) ((getI a0 v9_8).bind fun x3 => (impl_compareItems x3 a1).bind fun x4 => some (v9_8, (x4 == 0))) (some (v9_8, false)))
noncomputable def slices_BinarySearchFunc_Item_string__impl_compareItems_l8 (a0 : List impl_Item) (a1 : List UInt8) : Nat → Int → Int → Option (Int × Bool)
  | 0, _, _ => none
  | n + 1, v9_8, v10_8 => slices_BinarySearchFunc_Item_string__impl_compareItems_b8  (slices_BinarySearchFunc_Item_string__impl_compareItems_l8  a0 a1 n) a0 a1 v9_8 v10_8
/-- slices.BinarySearchFunc[[]loop.example/g01075/impl.Item,loop.example/g01075/impl.Item,string] -/
noncomputable def slices_BinarySearchFunc_Item_string__impl_compareItems (a0 : List impl_Item) (a1 : List UInt8) : Option (Int × Bool) :=
  lim fun n => slices_BinarySearchFunc_Item_string__impl_compareItems_l8 a0 a1 n 0 (a0.length : Int)

/-- loop.example/g01075/impl.FindItem -/
noncomputable def impl_FindItem (a0 : List impl_Item) (a1 : List UInt8) : Option ((List UInt8) × Int) :=
  (impl_ValidItems a0).bind fun x1 => cond (!x1) (some (([] : List UInt8), 1)) ((slices_BinarySearchFunc_Item_string__impl_compareItems a0 a1).bind fun x2 => cond (!x2.2) (some (([] : List UInt8), 3)) ((getI a0 x2.1).bind fun x3 => some (x3.Image, 0)))

/-- loop.example/g01075/laws.eqItem -/
noncomputable def laws_eqItem (a0 : impl_Item) (a1 : impl_Item) : Option Bool :=
  cond (!(a0.Name == a1.Name)) (some false) (cond (!(a0.Image == a1.Image)) (some false) (some true))

noncomputable def laws_eqItemS_b14 (k14 : Int → Option Bool) (a0 : List impl_Item) (a1 : List impl_Item) (v5_14 : Int) : Option Bool :=
  cond (decide (v5_14 < (a0.length : Int))) ((getI a0 v5_14).bind fun x1 => (getI a1 v5_14).bind fun x2 => (laws_eqItem x1 x2).bind fun x3 => cond (!x3) (some false) (k14 (IntKind.i64.wrap (v5_14 + 1)))) (some true)
noncomputable def laws_eqItemS_l14 (a0 : List impl_Item) (a1 : List impl_Item) : Nat → Int → Option Bool
  | 0, _ => none
  | n + 1, v5_14 => laws_eqItemS_b14  (laws_eqItemS_l14  a0 a1 n) a0 a1 v5_14
/-- loop.example/g01075/laws.eqItemS -/
noncomputable def laws_eqItemS (a0 : List impl_Item) (a1 : List impl_Item) : Option Bool :=
  cond ((a0.length : Int) != (a1.length : Int)) (some false) (lim fun n => laws_eqItemS_l14 a0 a1 n 0)

/-- loop.example/g01075/laws.FnExactFindItem -/
noncomputable def laws_FnExactFindItem (a0 : List laws_Item) (a1 : List UInt8) : Option Bool :=
  cond (decide (1048576 < (a1.length : Int))) (some true) ((laws_szItemS a0 1048576).bind fun x1 => cond (decide (x1 < 0)) (some true) ((laws_toItemS a0).bind fun x2 => (spec_FindItem x2 a1).bind fun x3 => (laws_toItemS a0).bind fun x4 => (impl_FindItem x4 a1).bind fun x5 => cond ((!(x5.1 == x3.1)) || (x5.2 != x3.2)) (some false) ((laws_toItemS a0).bind fun x6 => (laws_eqItemS x4 x6).bind fun x7 => cond (!x7) (some false) (some true))))

end Go.Sh
