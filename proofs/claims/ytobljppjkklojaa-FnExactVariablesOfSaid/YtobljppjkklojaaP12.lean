/- Part of a proof that a law returns true for every input. No condition. -/
import Derived.Test.YtobljppjkklojaaFwA
namespace Go.Sh
open Go Go.Fw
set_option linter.unusedVariables false
noncomputable section
structure laws_Term where
  Kind : Int
  Value : Int
def wf_laws_Term (x : laws_Term) : Prop := (-9223372036854775808 ≤ x.Kind ∧ x.Kind ≤ 9223372036854775807) ∧ (-9223372036854775808 ≤ x.Value ∧ x.Value ≤ 9223372036854775807)
structure impl_Term where
  Kind : Int
  Value : Int
def wf_impl_Term (x : impl_Term) : Prop := (-9223372036854775808 ≤ x.Kind ∧ x.Kind ≤ 9223372036854775807) ∧ (-9223372036854775808 ≤ x.Value ∧ x.Value ≤ 9223372036854775807)
def laws_szTermS (a0 : List laws_Term) (a1 : Int) : Option Int :=
  cond (decide ((IntKind.i64.wrap (a1 - (a0.length : Int))) < 0)) (some (-1)) (some (IntKind.i64.wrap (a1 - (a0.length : Int))))
def laws_toTerm (a0 : laws_Term) : Option impl_Term :=
  some (impl_Term.mk a0.Kind a0.Value)
def laws_toTermS_b8 (k8 : (List impl_Term) → Int → Option ((List impl_Term))) (a0 : List laws_Term) (v3_8 : List impl_Term) (v4_8 : Int) : Option ((List impl_Term)) :=
  cond (decide (v4_8 < (a0.length : Int))) ((getI a0 v4_8).bind fun x1 => (laws_toTerm x1).bind fun x2 => (getI v3_8 v4_8).bind fun x3 => k8 (List.set v3_8 (Int.toNat v4_8) x2) (IntKind.i64.wrap (v4_8 + 1))) (some v3_8)
def laws_toTermS_l8 (a0 : List laws_Term) : Nat → (List impl_Term) → Int → Option ((List impl_Term))
  | 0, _, _ => none
  | n + 1, v3_8, v4_8 => laws_toTermS_b8 (laws_toTermS_l8 a0 n) a0 v3_8 v4_8
def laws_toTermS (a0 : List laws_Term) : Option ((List impl_Term)) :=
  (mkOk 16 (a0.length : Int)).bind fun _ => lim fun n => laws_toTermS_l8 a0 n (List.replicate (Int.toNat (a0.length : Int)) (impl_Term.mk 0 0)) 0
def spec_l00In (a0 : Int) (a1 : Int) (a2 : Int) : Option Bool :=
  some ((decide (a1 ≤ a0)) && (decide (a0 ≤ a2)))
def spec_l03Term (a0 : impl_Term) (a1 : Int) : Option Bool :=
  cond (a0.Kind == 0) ((spec_l00In a0.Value 0 63).bind fun x1 => some x1) (cond (a0.Kind == 1) ((spec_l00In a0.Value 0 (IntKind.i64.wrap (a1 - 1))).bind fun x2 => some x2) (cond (a0.Kind == 2) ((spec_l00In a0.Value 0 8).bind fun x3 => some x3) (cond (a0.Kind == 3) (some (a0.Value == 0)) (some false))))
def spec_l03Arity (a0 : impl_Term) : Option Int :=
  cond (a0.Kind == 2) (some 2) (cond (a0.Kind == 3) (some 1) (some 0))
def spec_l03Is_b16 (k16 : Int → Int → Option Bool) (a0 : List impl_Term) (a1 : Int) (v7_16 : Int) (v8_16 : Int) : Option Bool :=
  cond (decide (v8_16 < (a0.length : Int))) (cond (v7_16 == 0) (some false) ((getI a0 v8_16).bind fun x1 => (spec_l03Term x1 a1).bind fun x2 => cond (!x2) (some false) ((spec_l03Arity x1).bind fun x3 => k16 (IntKind.i64.wrap (v7_16 + (IntKind.i64.wrap (x3 - 1)))) (IntKind.i64.wrap (v8_16 + 1))))) (some (v7_16 == 0))
def spec_l03Is_l16 (a0 : List impl_Term) (a1 : Int) : Nat → Int → Int → Option Bool
  | 0, _, _ => none
  | n + 1, v7_16, v8_16 => spec_l03Is_b16 (spec_l03Is_l16 a0 a1 n) a0 a1 v7_16 v8_16
def spec_l03Is (a0 : List impl_Term) (a1 : Int) (a2 : Int) : Option Bool :=
  cond (decide (a2 < (a0.length : Int))) (some false) (lim fun n => spec_l03Is_l16 a0 a1 n 1 0)
def spec_l03Any (a0 : List impl_Term) : Option Bool :=
  (spec_l03Is a0 29 60).bind fun x1 => some x1
def spec_l00Put_k31 (k10 : (List Int) → Bool → Int → Option ((List Int))) (a0 : List Int) (a1 : Int) (v5_31 : List Int) (v6_31 : Bool) (v7_31 : Int) : Option ((List Int)) :=
  (getI a0 v7_31).bind fun x1 => (room 8 (v5_31.length + 1)).bind fun _ => k10 (v5_31 ++ [x1]) v6_31 (IntKind.i64.wrap (v7_31 + 1))
def spec_l00Put_k39 (v5_39 : List Int) : Option ((List Int)) :=
  some v5_39
def spec_l00Put_b10 (k10 : (List Int) → Bool → Int → Option ((List Int))) (a0 : List Int) (a1 : Int) (v5_10 : List Int) (v6_10 : Bool) (v7_10 : Int) : Option ((List Int)) :=
  cond (decide (v7_10 < (a0.length : Int))) (cond (!v6_10) ((getI a0 v7_10).bind fun x2 => cond (decide (a1 ≤ x2)) (cond (decide (a1 < x2)) ((room 8 (v5_10.length + 1)).bind fun _ => spec_l00Put_k31 k10 a0 a1 (v5_10 ++ [a1]) true v7_10) (spec_l00Put_k31 k10 a0 a1 v5_10 true v7_10)) (spec_l00Put_k31 k10 a0 a1 v5_10 false v7_10)) (spec_l00Put_k31 k10 a0 a1 v5_10 true v7_10)) (cond (!v6_10) ((room 8 (v5_10.length + 1)).bind fun _ => spec_l00Put_k39 (v5_10 ++ [a1])) (spec_l00Put_k39 v5_10))
def spec_l00Put_l10 (a0 : List Int) (a1 : Int) : Nat → (List Int) → Bool → Int → Option ((List Int))
  | 0, _, _, _ => none
  | n + 1, v5_10, v6_10, v7_10 => spec_l00Put_b10 (spec_l00Put_l10 a0 a1 n) a0 a1 v5_10 v6_10 v7_10
def spec_l00Put (a0 : List Int) (a1 : Int) : Option ((List Int)) :=
  lim fun n => spec_l00Put_l10 a0 a1 n [] false 0
def spec_l03Names_k22 (k8 : (List Int) → Int → Option ((List Int))) (a0 : List impl_Term) (v3_22 : List Int) (v4_22 : Int) : Option ((List Int)) :=
  k8 v3_22 (IntKind.i64.wrap (v4_22 + 1))
def spec_l03Names_b8 (k8 : (List Int) → Int → Option ((List Int))) (a0 : List impl_Term) (v3_8 : List Int) (v4_8 : Int) : Option ((List Int)) :=
  cond (decide (v4_8 < (a0.length : Int))) ((getI a0 v4_8).bind fun x1 => cond (x1.Kind == 1) ((spec_l00Put v3_8 x1.Value).bind fun x2 => spec_l03Names_k22 k8 a0 x2 v4_8) (spec_l03Names_k22 k8 a0 v3_8 v4_8)) (some v3_8)
def spec_l03Names_l8 (a0 : List impl_Term) : Nat → (List Int) → Int → Option ((List Int))
  | 0, _, _ => none
  | n + 1, v3_8, v4_8 => spec_l03Names_b8 (spec_l03Names_l8 a0 n) a0 v3_8 v4_8
def spec_l03Names (a0 : List impl_Term) : Option ((List Int)) :=
  lim fun n => spec_l03Names_l8 a0 n [] 0
def spec_VariablesOf (a0 : List impl_Term) : Option ((List Int) × Int) :=
  (spec_l03Any a0).bind fun x1 => cond (!x1) (some ([], 1)) ((spec_l03Names a0).bind fun x2 => some (x2, 0))
def impl_within (a0 : Int) (a1 : Int) (a2 : Int) : Option Bool :=
  some ((decide (a1 ≤ a0)) && (decide (a0 ≤ a2)))
def impl_isValue (a0 : Int) : Option Bool :=
  (impl_within a0 0 63).bind fun x1 => some x1
def impl_Term_valid (a0 : impl_Term) (a1 : Int) : Option Bool :=
  cond (a0.Kind == 0) ((impl_isValue a0.Value).bind fun x1 => some x1) (cond (a0.Kind == 1) ((impl_within a0.Value 0 (IntKind.i64.wrap (a1 - 1))).bind fun x2 => some x2) (cond (a0.Kind == 2) ((impl_within a0.Value 0 8).bind fun x3 => some x3) (cond (a0.Kind == 3) (some (a0.Value == 0)) (some false))))
def impl_Term_operands (a0 : impl_Term) : Option Int :=
  cond (a0.Kind == 2) (some 2) (cond (a0.Kind == 3) (some 1) (some 0))
def impl_ValidTerms_b16 (k16 : Int → Int → Option Bool) (a0 : List impl_Term) (a1 : Int) (v7_16 : Int) (v27_16 : Int) : Option Bool :=
  cond (decide (v27_16 < (a0.length : Int))) ((getI a0 v27_16).bind fun x4 => cond (v7_16 == 0) (some false) ((impl_Term_valid x4 a1).bind fun x5 => cond (!x5) (some false) ((impl_Term_operands x4).bind fun x6 => k16 (IntKind.i64.wrap (v7_16 + (IntKind.i64.wrap (x6 - 1)))) (IntKind.i64.wrap (v27_16 + 1))))) (some (v7_16 == 0))
def impl_ValidTerms_l16 (a0 : List impl_Term) (a1 : Int) : Nat → Int → Int → Option Bool
  | 0, _, _ => none
  | n + 1, v7_16, v27_16 => impl_ValidTerms_b16 (impl_ValidTerms_l16 a0 a1 n) a0 a1 v7_16 v27_16
def impl_ValidTerms (a0 : List impl_Term) (a1 : Int) (a2 : Int) : Option Bool :=
  (impl_within a1 0 29).bind fun x1 => cond (!x1) (some false) ((impl_within a2 1 60).bind fun x2 => cond (!x2) (some false) ((impl_within (a0.length : Int) 1 a2).bind fun x3 => cond (!x3) (some false) (lim fun n => impl_ValidTerms_l16 a0 a1 n 1 0)))
def impl_termsOk (a0 : List impl_Term) : Option Bool :=
  (impl_ValidTerms a0 29 60).bind fun x1 => some x1
def slices_Sort_int64_int64 (a0 : List Int) : Option (List Int) := if a0.length < 4611686018427387904 then some (a0.mergeSort fun x y => decide (x ≤ y)) else none
def slices_Compact_int64_int64 (a0 : List Int) : Option (List Int) := some (cpt none a0)
def impl_variables_k24 (k8 : (List Int) → Int → Option ((List Int))) (a0 : List impl_Term) (v3_24 : List Int) (v8_24 : Int) : Option ((List Int)) :=
  k8 v3_24 (IntKind.i64.wrap (v8_24 + 1))
def impl_variables_b8 (k8 : (List Int) → Int → Option ((List Int))) (a0 : List impl_Term) (v3_8 : List Int) (v8_8 : Int) : Option ((List Int)) :=
  cond (decide (v8_8 < (a0.length : Int))) ((getI a0 v8_8).bind fun x1 => cond (x1.Kind == 1) ((room 8 (v3_8.length + 1)).bind fun _ => impl_variables_k24 k8 a0 (v3_8 ++ [x1.Value]) v8_8) (impl_variables_k24 k8 a0 v3_8 v8_8)) ((slices_Sort_int64_int64 v3_8).bind fun x2 => (slices_Compact_int64_int64 x2).bind fun x3 => some x3)
def impl_variables_l8 (a0 : List impl_Term) : Nat → (List Int) → Int → Option ((List Int))
  | 0, _, _ => none
  | n + 1, v3_8, v8_8 => impl_variables_b8 (impl_variables_l8 a0 n) a0 v3_8 v8_8
def impl_variables (a0 : List impl_Term) : Option ((List Int)) :=
  lim fun n => impl_variables_l8 a0 n [] 0
def impl_VariablesOf (a0 : List impl_Term) : Option ((List Int) × Int) :=
  (impl_termsOk a0).bind fun x1 => cond (!x1) (some ([], 1)) ((impl_variables a0).bind fun x2 => some (x2, 0))
def laws_eqInt64S_b14 (k14 : Int → Option Bool) (a0 : List Int) (a1 : List Int) (v5_14 : Int) : Option Bool :=
  cond (decide (v5_14 < (a0.length : Int))) ((getI a0 v5_14).bind fun x1 => (getI a1 v5_14).bind fun x2 => cond (x1 != x2) (some false) (k14 (IntKind.i64.wrap (v5_14 + 1)))) (some true)
def laws_eqInt64S_l14 (a0 : List Int) (a1 : List Int) : Nat → Int → Option Bool
  | 0, _ => none
  | n + 1, v5_14 => laws_eqInt64S_b14 (laws_eqInt64S_l14 a0 a1 n) a0 a1 v5_14
def laws_eqInt64S (a0 : List Int) (a1 : List Int) : Option Bool :=
  cond ((a0.length : Int) != (a1.length : Int)) (some false) (lim fun n => laws_eqInt64S_l14 a0 a1 n 0)
def laws_eqTerm (a0 : impl_Term) (a1 : impl_Term) : Option Bool :=
  cond (a0.Kind != a1.Kind) (some false) (cond (a0.Value != a1.Value) (some false) (some true))
def laws_eqTermS_b14 (k14 : Int → Option Bool) (a0 : List impl_Term) (a1 : List impl_Term) (v5_14 : Int) : Option Bool :=
  cond (decide (v5_14 < (a0.length : Int))) ((getI a0 v5_14).bind fun x1 => (getI a1 v5_14).bind fun x2 => (laws_eqTerm x1 x2).bind fun x3 => cond (!x3) (some false) (k14 (IntKind.i64.wrap (v5_14 + 1)))) (some true)
def laws_eqTermS_l14 (a0 : List impl_Term) (a1 : List impl_Term) : Nat → Int → Option Bool
  | 0, _ => none
  | n + 1, v5_14 => laws_eqTermS_b14 (laws_eqTermS_l14 a0 a1 n) a0 a1 v5_14
def laws_eqTermS (a0 : List impl_Term) (a1 : List impl_Term) : Option Bool :=
  cond ((a0.length : Int) != (a1.length : Int)) (some false) (lim fun n => laws_eqTermS_l14 a0 a1 n 0)
def laws_markTermS_b6 (k6 : (List impl_Term) → Int → Int → Option (Int × (List impl_Term))) (v0_6 : List impl_Term) (v1_6 : Int) (v5_6 : Int) : Option (Int × (List impl_Term)) :=
  cond (decide (v5_6 < (v0_6.length : Int))) ((getI v0_6 v5_6).bind fun x1 => (getI (List.set v0_6 (Int.toNat v5_6) (impl_Term.mk v1_6 x1.Value)) v5_6).bind fun x2 => k6 (List.set (List.set v0_6 (Int.toNat v5_6) (impl_Term.mk v1_6 x1.Value)) (Int.toNat v5_6) (impl_Term.mk x2.Kind (IntKind.i64.wrap (v1_6 + 1)))) (IntKind.i64.wrap ((IntKind.i64.wrap (v1_6 + 1)) + 1)) (IntKind.i64.wrap (v5_6 + 1))) (some (v1_6, v0_6))
def laws_markTermS_l6 : Nat → (List impl_Term) → Int → Int → Option (Int × (List impl_Term))
  | 0, _, _, _ => none
  | n + 1, v0_6, v1_6, v5_6 => laws_markTermS_b6 (laws_markTermS_l6 n) v0_6 v1_6 v5_6
def laws_markTermS (a0 : List impl_Term) (a1 : Int) : Option (Int × (List impl_Term)) :=
  lim fun n => laws_markTermS_l6 n a0 a1 0
def laws_markInt64S_b6 (k6 : (List Int) → Int → Int → Option (Int × (List Int))) (v0_6 : List Int) (v1_6 : Int) (v5_6 : Int) : Option (Int × (List Int)) :=
  cond (decide (v5_6 < (v0_6.length : Int))) ((getI v0_6 v5_6).bind fun x1 => k6 (List.set v0_6 (Int.toNat v5_6) v1_6) (IntKind.i64.wrap (v1_6 + 1)) (IntKind.i64.wrap (v5_6 + 1))) (some (v1_6, v0_6))
def laws_markInt64S_l6 : Nat → (List Int) → Int → Int → Option (Int × (List Int))
  | 0, _, _, _ => none
  | n + 1, v0_6, v1_6, v5_6 => laws_markInt64S_b6 (laws_markInt64S_l6 n) v0_6 v1_6 v5_6
def laws_markInt64S (a0 : List Int) (a1 : Int) : Option (Int × (List Int)) :=
  lim fun n => laws_markInt64S_l6 n a0 a1 0
def laws_heldInt64S_b6 (k6 : Int → Int → Option Int) (a0 : List Int) (v1_6 : Int) (v5_6 : Int) : Option Int :=
  cond (decide (v5_6 < (a0.length : Int))) ((getI a0 v5_6).bind fun x1 => cond (x1 != v1_6) (some (-1)) (k6 (IntKind.i64.wrap (v1_6 + 1)) (IntKind.i64.wrap (v5_6 + 1)))) (some v1_6)
def laws_heldInt64S_l6 (a0 : List Int) : Nat → Int → Int → Option Int
  | 0, _, _ => none
  | n + 1, v1_6, v5_6 => laws_heldInt64S_b6 (laws_heldInt64S_l6 a0 n) a0 v1_6 v5_6
def laws_heldInt64S (a0 : List Int) (a1 : Int) : Option Int :=
  lim fun n => laws_heldInt64S_l6 a0 n a1 0
def laws_FnExactVariablesOf (a0 : List laws_Term) : Option Bool :=
  (laws_szTermS a0 1048576).bind fun x1 => cond (decide (x1 < 0)) (some true) ((laws_toTermS a0).bind fun x2 => (spec_VariablesOf x2).bind fun x3 => (laws_toTermS a0).bind fun x4 => (impl_VariablesOf x4).bind fun x5 => (laws_eqInt64S x5.1 x3.1).bind fun x6 => cond ((!x6) || (x5.2 != x3.2)) (some false) ((laws_toTermS a0).bind fun x7 => (laws_eqTermS x4 x7).bind fun x8 => cond (!x8) (some false) ((laws_markTermS x4 1).bind fun x9 => cond (decide (x9.1 < 0)) (some false) ((laws_eqInt64S x5.1 x3.1).bind fun x10 => cond ((!x10) || (x5.2 != x3.2)) (some false) ((laws_markInt64S x5.1 1).bind fun x11 => (laws_heldInt64S x11.2 1).bind fun x12 => cond (decide (x12 < 0)) (some false) (cond (x12 != x11.1) (some false) ((laws_toTermS a0).bind fun x13 => (impl_VariablesOf x13).bind fun x14 => (laws_eqInt64S x14.1 x3.1).bind fun x15 => cond ((!x15) || (x14.2 != x3.2)) (some false) ((laws_heldInt64S x11.2 1).bind fun x16 => cond (decide (x16 < 0)) (some false) (cond (x16 != x11.1) (some false) (some true))))))))))
end
end Go.Sh
