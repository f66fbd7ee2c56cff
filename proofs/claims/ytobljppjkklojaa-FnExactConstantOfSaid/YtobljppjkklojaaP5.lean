/- Part of a proof that a law returns true for every input. No condition. -/
import Derived.Test.YtobljppjkklojaaFwA
namespace Go.Sh
open Go Go.Fw
set_option linter.unusedVariables false

structure laws_Term where
  Kind : Int
  Value : Int
def wf_laws_Term (x : laws_Term) : Prop := (-9223372036854775808 ≤ x.Kind ∧ x.Kind ≤ 9223372036854775807) ∧ (-9223372036854775808 ≤ x.Value ∧ x.Value ≤ 9223372036854775807)
structure impl_Term where
  Kind : Int
  Value : Int
def wf_impl_Term (x : impl_Term) : Prop := (-9223372036854775808 ≤ x.Kind ∧ x.Kind ≤ 9223372036854775807) ∧ (-9223372036854775808 ≤ x.Value ∧ x.Value ≤ 9223372036854775807)
inductive impl_expr where
  | mk (term : impl_Term) (args : List impl_expr)
def impl_expr.term : impl_expr → impl_Term
  | .mk a _ => a
def impl_expr.args : impl_expr → List impl_expr
  | .mk _ a => a

/-- loop.example/g01075/laws.szTermS -/
noncomputable def laws_szTermS (a0 : List laws_Term) (a1 : Int) : Option Int :=
  cond (decide ((IntKind.i64.wrap (a1 - (a0.length : Int))) < 0)) (some (-1)) (some (IntKind.i64.wrap (a1 - (a0.length : Int))))

/-- loop.example/g01075/laws.toTerm -/
noncomputable def laws_toTerm (a0 : laws_Term) : Option impl_Term :=
  some (impl_Term.mk a0.Kind a0.Value)

noncomputable def laws_toTermS_b8 (k8 : (List impl_Term) → Int → Option ((List impl_Term))) (a0 : List laws_Term) (v3_8 : List impl_Term) (v4_8 : Int) : Option ((List impl_Term)) :=
  cond (decide (v4_8 < (a0.length : Int))) ((getI a0 v4_8).bind fun x1 => (laws_toTerm x1).bind fun x2 => (getI v3_8 v4_8).bind fun x3 => k8 (List.set v3_8 (Int.toNat v4_8) x2) (IntKind.i64.wrap (v4_8 + 1))) (some v3_8)
noncomputable def laws_toTermS_l8 (a0 : List laws_Term) : Nat → (List impl_Term) → Int → Option ((List impl_Term))
  | 0, _, _ => none
  | n + 1, v3_8, v4_8 => laws_toTermS_b8   (laws_toTermS_l8   a0 n) a0 v3_8 v4_8
/-- loop.example/g01075/laws.toTermS -/
noncomputable def laws_toTermS (a0 : List laws_Term) : Option ((List impl_Term)) :=
  (mkOk 16 (a0.length : Int)).bind fun _ => lim fun n => laws_toTermS_l8 a0 n (List.replicate (Int.toNat (a0.length : Int)) (impl_Term.mk 0 0)) 0

/-- loop.example/g01075/spec.l00In -/
noncomputable def spec_l00In (a0 : Int) (a1 : Int) (a2 : Int) : Option Bool :=
  some ((decide (a1 ≤ a0)) && (decide (a0 ≤ a2)))

/-- loop.example/g01075/spec.l03Term -/
noncomputable def spec_l03Term (a0 : impl_Term) (a1 : Int) : Option Bool :=
  cond (a0.Kind == 0) ((spec_l00In a0.Value 0 63).bind fun x1 => some x1) (cond (a0.Kind == 1) ((spec_l00In a0.Value 0 (IntKind.i64.wrap (a1 - 1))).bind fun x2 => some x2) (cond (a0.Kind == 2) ((spec_l00In a0.Value 0 8).bind fun x3 => some x3) (cond (a0.Kind == 3) (some (a0.Value == 0)) (some false))))

/-- loop.example/g01075/spec.l03Arity -/
noncomputable def spec_l03Arity (a0 : impl_Term) : Option Int :=
  cond (a0.Kind == 2) (some 2) (cond (a0.Kind == 3) (some 1) (some 0))

noncomputable def spec_l03Is_b16 (k16 : Int → Int → Option Bool) (a0 : List impl_Term) (a1 : Int) (v7_16 : Int) (v8_16 : Int) : Option Bool :=
  cond (decide (v8_16 < (a0.length : Int))) (cond (v7_16 == 0) (some false) ((getI a0 v8_16).bind fun x1 => (spec_l03Term x1 a1).bind fun x2 => cond (!x2) (some false) ((spec_l03Arity x1).bind fun x3 => k16 (IntKind.i64.wrap (v7_16 + (IntKind.i64.wrap (x3 - 1)))) (IntKind.i64.wrap (v8_16 + 1))))) (some (v7_16 == 0))
noncomputable def spec_l03Is_l16 (a0 : List impl_Term) (a1 : Int) : Nat → Int → Int → Option Bool
  | 0, _, _ => none
  | n + 1, v7_16, v8_16 => spec_l03Is_b16   (spec_l03Is_l16   a0 a1 n) a0 a1 v7_16 v8_16
/-- loop.example/g01075/spec.l03Is -/
noncomputable def spec_l03Is (a0 : List impl_Term) (a1 : Int) (a2 : Int) : Option Bool :=
  cond (decide (a2 < (a0.length : Int))) (some false) (lim fun n => spec_l03Is_l16 a0 a1 n 1 0)

/-- loop.example/g01075/spec.l03Any -/
noncomputable def spec_l03Any (a0 : List impl_Term) : Option Bool :=
  (spec_l03Is a0 29 60).bind fun x1 => some x1

/-- loop.example/g01075/spec.l03Own -/
noncomputable def spec_l03Own (a0 : List impl_Term) : Option ((List impl_Term)) :=
  (room 16 (a0.length)).bind fun _ => some a0

noncomputable def spec_l03End_b6 (k6 : Int → Int → Option Int) (a0 : List impl_Term) (v1_6 : Int) (v5_6 : Int) : Option Int :=
  cond (decide (0 < v5_6)) ((getI a0 v1_6).bind fun x1 => (spec_l03Arity x1).bind fun x2 => k6 (IntKind.i64.wrap (v1_6 + 1)) (IntKind.i64.wrap (v5_6 + (IntKind.i64.wrap (x2 - 1))))) (some v1_6)
noncomputable def spec_l03End_l6 (a0 : List impl_Term) : Nat → Int → Int → Option Int
  | 0, _, _ => none
  | n + 1, v1_6, v5_6 => spec_l03End_b6   (spec_l03End_l6   a0 n) a0 v1_6 v5_6
/-- loop.example/g01075/spec.l03End -/
noncomputable def spec_l03End (a0 : List impl_Term) (a1 : Int) : Option Int :=
  lim fun n => spec_l03End_l6 a0 n a1 1

/-- loop.example/g01075/spec.l03Truth -/
noncomputable def spec_l03Truth (a0 : Bool) : Option Int :=
  cond a0 (some 1) (some 0)

/-- loop.example/g01075/spec.l03Op -/
noncomputable def spec_l03Op (a0 : Int) (a1 : Int) (a2 : Int) : Option Int :=
  cond (a0 == 0) (some (Int.tmod (IntKind.i64.wrap (a1 + a2)) 64)) (cond (a0 == 1) (some (Int.tmod (IntKind.i64.wrap ((IntKind.i64.wrap (a1 - a2)) + 64)) 64)) (cond (a0 == 2) (some (Int.tmod (IntKind.i64.wrap (a1 * a2)) 64)) (cond (a0 == 3) ((spec_l03Truth (a1 == a2)).bind fun x1 => some x1) (cond (a0 == 4) ((spec_l03Truth (a1 != a2)).bind fun x2 => some x2) (cond (a0 == 5) ((spec_l03Truth (decide (a1 < a2))).bind fun x3 => some x3) (cond (a0 == 6) ((spec_l03Truth (decide (a1 ≤ a2))).bind fun x4 => some x4) (cond (a0 == 7) (cond (a1 != 0) ((spec_l03Truth (a2 != 0)).bind fun x5 => some x5) ((spec_l03Truth false).bind fun x6 => some x6)) (cond (a1 != 0) ((spec_l03Truth true).bind fun x7 => some x7) ((spec_l03Truth (a2 != 0)).bind fun x8 => some x8)))))))))

/-- loop.example/g01075/spec.l03Fold -/
noncomputable def spec_l03Fold_f (rec11 : (List impl_Term) → Option ((List impl_Term))) (a0 : List impl_Term) : Option ((List impl_Term)) :=
  (getI a0 0).bind fun x1 => (spec_l03Arity x1).bind fun x2 => cond (x2 == 0) ((spec_l03Own a0).bind fun x3 => some x3) ((spec_l03End a0 1).bind fun x4 => (subL a0 1 x4).bind fun x5 => (rec11 x5).bind fun x6 => cond (x1.Kind == 3) ((getI x6 0).bind fun x7 => cond (x7.Kind == 0) ((spec_l03Truth (x7.Value == 0)).bind fun x8 => some [(impl_Term.mk 0 x8)]) ((room 16 (1 + x6.length)).bind fun _ => some ([x1] ++ x6))) ((subL a0 x4 (a0.length : Int)).bind fun x9 => (rec11 x9).bind fun x10 => (getI x6 0).bind fun x11 => cond (x11.Kind == 0) ((getI x10 0).bind fun x12 => cond (x12.Kind == 0) ((spec_l03Op x1.Value x11.Value x12.Value).bind fun x13 => some [(impl_Term.mk 0 x13)]) ((room 16 (1 + x6.length)).bind fun _ => (room 16 (([x1] ++ x6).length + x10.length)).bind fun _ => some (([x1] ++ x6) ++ x10))) ((room 16 (1 + x6.length)).bind fun _ => (room 16 (([x1] ++ x6).length + x10.length)).bind fun _ => some (([x1] ++ x6) ++ x10))))
noncomputable def spec_l03Fold_r : Nat → (List impl_Term) → Option ((List impl_Term))
  | 0, _ => none
  | n + 1, a0 => spec_l03Fold_f  (spec_l03Fold_r  n) a0
noncomputable def spec_l03Fold (a0 : List impl_Term) : Option ((List impl_Term)) :=
  lim fun n => spec_l03Fold_r  n a0

/-- loop.example/g01075/spec.ConstantOf -/
noncomputable def spec_ConstantOf (a0 : List impl_Term) : Option (Int × Int) :=
  (spec_l03Any a0).bind fun x1 => cond (!x1) (some (0, 1)) ((spec_l03Fold a0).bind fun x2 => (getI x2 0).bind fun x3 => cond (x3.Kind != 0) (some (0, 3)) (some (x3.Value, 0)))

/-- loop.example/g01075/impl.within -/
noncomputable def impl_within (a0 : Int) (a1 : Int) (a2 : Int) : Option Bool :=
  some ((decide (a1 ≤ a0)) && (decide (a0 ≤ a2)))

/-- loop.example/g01075/impl.isValue -/
noncomputable def impl_isValue (a0 : Int) : Option Bool :=
  (impl_within a0 0 63).bind fun x1 => some x1

/-- (loop.example/g01075/impl.Term).valid -/
noncomputable def impl_Term_valid (a0 : impl_Term) (a1 : Int) : Option Bool :=
  cond (a0.Kind == 0) ((impl_isValue a0.Value).bind fun x1 => some x1) (cond (a0.Kind == 1) ((impl_within a0.Value 0 (IntKind.i64.wrap (a1 - 1))).bind fun x2 => some x2) (cond (a0.Kind == 2) ((impl_within a0.Value 0 8).bind fun x3 => some x3) (cond (a0.Kind == 3) (some (a0.Value == 0)) (some false))))

/-- (loop.example/g01075/impl.Term).operands -/
noncomputable def impl_Term_operands (a0 : impl_Term) : Option Int :=
  cond (a0.Kind == 2) (some 2) (cond (a0.Kind == 3) (some 1) (some 0))

noncomputable def impl_ValidTerms_b16 (k16 : Int → Int → Option Bool) (a0 : List impl_Term) (a1 : Int) (v7_16 : Int) (v27_16 : Int) : Option Bool :=
  cond (decide (v27_16 < (a0.length : Int))) ((getI a0 v27_16).bind fun x4 => cond (v7_16 == 0) (some false) ((impl_Term_valid x4 a1).bind fun x5 => cond (!x5) (some false) ((impl_Term_operands x4).bind fun x6 => k16 (IntKind.i64.wrap (v7_16 + (IntKind.i64.wrap (x6 - 1)))) (IntKind.i64.wrap (v27_16 + 1))))) (some (v7_16 == 0))
noncomputable def impl_ValidTerms_l16 (a0 : List impl_Term) (a1 : Int) : Nat → Int → Int → Option Bool
  | 0, _, _ => none
  | n + 1, v7_16, v27_16 => impl_ValidTerms_b16   (impl_ValidTerms_l16   a0 a1 n) a0 a1 v7_16 v27_16
/-- loop.example/g01075/impl.ValidTerms -/
noncomputable def impl_ValidTerms (a0 : List impl_Term) (a1 : Int) (a2 : Int) : Option Bool :=
  (impl_within a1 0 29).bind fun x1 => cond (!x1) (some false) ((impl_within a2 1 60).bind fun x2 => cond (!x2) (some false) ((impl_within (a0.length : Int) 1 a2).bind fun x3 => cond (!x3) (some false) (lim fun n => impl_ValidTerms_l16 a0 a1 n 1 0)))

/-- loop.example/g01075/impl.termsOk -/
noncomputable def impl_termsOk (a0 : List impl_Term) : Option Bool :=
  (impl_ValidTerms a0 29 60).bind fun x1 => some x1

noncomputable def impl_treeFrom_b10 (rec24 : (List impl_Term) → Option (impl_Term × (List impl_expr) × (List impl_Term))) (k10 : (List impl_expr) → (List impl_Term) → Int → Option (impl_Term × (List impl_expr) × (List impl_Term))) (x1 : impl_Term) (x3 : Int) (v4_10 : List impl_expr) (v5_10 : List impl_Term) (v18_10 : Int) : Option (impl_Term × (List impl_expr) × (List impl_Term)) :=
  cond (decide (v18_10 < x3)) ((rec24 v5_10).bind fun x4 => (room 8 (v4_10.length + 1)).bind fun _ => k10 (v4_10 ++ [(impl_expr.mk x4.1 x4.2.1)]) x4.2.2 (IntKind.i64.wrap (v18_10 + 1))) (some (x1, v4_10, v5_10))
noncomputable def impl_treeFrom_l10 (rec24 : (List impl_Term) → Option (impl_Term × (List impl_expr) × (List impl_Term))) (x1 : impl_Term) (x3 : Int) : Nat → (List impl_expr) → (List impl_Term) → Int → Option (impl_Term × (List impl_expr) × (List impl_Term))
  | 0, _, _, _ => none
  | n + 1, v4_10, v5_10, v18_10 => impl_treeFrom_b10 rec24  (impl_treeFrom_l10 rec24  x1 x3 n) x1 x3 v4_10 v5_10 v18_10
/-- loop.example/g01075/impl.treeFrom -/
noncomputable def impl_treeFrom_f (rec24 : (List impl_Term) → Option (impl_Term × (List impl_expr) × (List impl_Term))) (a0 : List impl_Term) : Option (impl_Term × (List impl_expr) × (List impl_Term)) :=
  (getI a0 0).bind fun x1 => (subL a0 1 (a0.length : Int)).bind fun x2 => (impl_Term_operands x1).bind fun x3 => lim fun n => impl_treeFrom_l10 rec24 x1 x3 n [] x2 0
noncomputable def impl_treeFrom_r : Nat → (List impl_Term) → Option (impl_Term × (List impl_expr) × (List impl_Term))
  | 0, _ => none
  | n + 1, a0 => impl_treeFrom_f  (impl_treeFrom_r  n) a0
noncomputable def impl_treeFrom (a0 : List impl_Term) : Option (impl_Term × (List impl_expr) × (List impl_Term)) :=
  lim fun n => impl_treeFrom_r  n a0

/-- loop.example/g01075/impl.tree -/
noncomputable def impl_tree (a0 : List impl_Term) : Option (impl_Term × (List impl_expr)) :=
  (impl_treeFrom a0).bind fun x1 => some (x1.1, x1.2.1)

/-- loop.example/g01075/impl.truth -/
noncomputable def impl_truth (a0 : Bool) : Option Int :=
  cond a0 (some 1) (some 0)

/-- loop.example/g01075/impl.operate -/
noncomputable def impl_operate (a0 : Int) (a1 : Int) (a2 : Int) : Option Int :=
  cond (a0 == 0) (some (Int.tmod (IntKind.i64.wrap (a1 + a2)) 64)) (cond (a0 == 1) (some (Int.tmod (IntKind.i64.wrap ((IntKind.i64.wrap (a1 - a2)) + 64)) 64)) (cond (a0 == 2) (some (Int.tmod (IntKind.i64.wrap (a1 * a2)) 64)) (cond (a0 == 3) ((impl_truth (a1 == a2)).bind fun x1 => some x1) (cond (a0 == 4) ((impl_truth (a1 != a2)).bind fun x2 => some x2) (cond (a0 == 5) ((impl_truth (decide (a1 < a2))).bind fun x3 => some x3) (cond (a0 == 6) ((impl_truth (decide (a1 ≤ a2))).bind fun x4 => some x4) (cond (a0 == 7) (cond (a1 != 0) ((impl_truth (a2 != 0)).bind fun x5 => some x5) ((impl_truth false).bind fun x6 => some x6)) (cond (a1 != 0) ((impl_truth true).bind fun x7 => some x7) ((impl_truth (a2 != 0)).bind fun x8 => some x8)))))))))

/-- (*loop.example/g01075/impl.expr).value -/
noncomputable def impl_expr_value_f (rec26 : impl_expr → (List Int) → Option Int) (a0 : impl_expr) (a1 : List Int) : Option Int :=
  cond (a0.term.Kind == 0) (some a0.term.Value) (cond (a0.term.Kind == 1) ((getI a1 a0.term.Value).bind fun x1 => some x1) (cond (a0.term.Kind == 3) ((getI a0.args 0).bind fun x2 => (rec26 x2 a1).bind fun x3 => (impl_truth (x3 == 0)).bind fun x4 => some x4) ((getI a0.args 0).bind fun x5 => (rec26 x5 a1).bind fun x6 => (getI a0.args 1).bind fun x7 => (rec26 x7 a1).bind fun x8 => (impl_operate a0.term.Value x6 x8).bind fun x9 => some x9)))
noncomputable def impl_expr_value_r : Nat → impl_expr → (List Int) → Option Int
  | 0, _, _ => none
  | n + 1, a0, a1 => impl_expr_value_f  (impl_expr_value_r  n) a0 a1
noncomputable def impl_expr_value (a0 : impl_expr) (a1 : List Int) : Option Int :=
  lim fun n => impl_expr_value_r  n a0 a1

/-- loop.example/g01075/impl.number -/
noncomputable def impl_number (a0 : Int) : Option (Int × Int) :=
  some (0, a0)

noncomputable def impl_expr_fold_b18 (rec25 : impl_expr → Option impl_expr) (k18 : (List impl_expr) → Bool → Int → Option impl_expr) (a0 : impl_expr) (v3_18 : List impl_expr) (v4_18 : Bool) (v26_18 : Int) : Option impl_expr :=
  cond (decide (v26_18 < (a0.args.length : Int))) ((getI a0.args v26_18).bind fun x1 => (rec25 x1).bind fun x2 => (room 8 (v3_18.length + 1)).bind fun _ => k18 (v3_18 ++ [x2]) (v4_18 && (x2.term.Kind == 0)) (IntKind.i64.wrap (v26_18 + 1))) (cond v4_18 ((impl_expr_value (impl_expr.mk a0.term v3_18) []).bind fun x3 => (impl_number x3).bind fun x4 => some (impl_expr.mk (impl_Term.mk x4.1 x4.2) [])) (some (impl_expr.mk a0.term v3_18)))
noncomputable def impl_expr_fold_l18 (rec25 : impl_expr → Option impl_expr) (a0 : impl_expr) : Nat → (List impl_expr) → Bool → Int → Option impl_expr
  | 0, _, _, _ => none
  | n + 1, v3_18, v4_18, v26_18 => impl_expr_fold_b18 rec25  (impl_expr_fold_l18 rec25  a0 n) a0 v3_18 v4_18 v26_18
/-- (*loop.example/g01075/impl.expr).fold -/
noncomputable def impl_expr_fold_f (rec25 : impl_expr → Option impl_expr) (a0 : impl_expr) : Option impl_expr :=
  cond ((a0.args.length : Int) == 0) (some a0) (lim fun n => impl_expr_fold_l18 rec25 a0 n [] true 0)
noncomputable def impl_expr_fold_r : Nat → impl_expr → Option impl_expr
  | 0, _ => none
  | n + 1, a0 => impl_expr_fold_f  (impl_expr_fold_r  n) a0
noncomputable def impl_expr_fold (a0 : impl_expr) : Option impl_expr :=
  lim fun n => impl_expr_fold_r  n a0

/-- loop.example/g01075/impl.ConstantOf -/
noncomputable def impl_ConstantOf (a0 : List impl_Term) : Option (Int × Int) :=
  (impl_termsOk a0).bind fun x1 => cond (!x1) (some (0, 1)) ((impl_tree a0).bind fun x2 => (impl_expr_fold (impl_expr.mk x2.1 x2.2)).bind fun x3 => cond (x3.term.Kind != 0) (some (0, 3)) (some (x3.term.Value, 0)))

/-- loop.example/g01075/laws.eqTerm -/
noncomputable def laws_eqTerm (a0 : impl_Term) (a1 : impl_Term) : Option Bool :=
  cond (a0.Kind != a1.Kind) (some false) (cond (a0.Value != a1.Value) (some false) (some true))

noncomputable def laws_eqTermS_b14 (k14 : Int → Option Bool) (a0 : List impl_Term) (a1 : List impl_Term) (v5_14 : Int) : Option Bool :=
  cond (decide (v5_14 < (a0.length : Int))) ((getI a0 v5_14).bind fun x1 => (getI a1 v5_14).bind fun x2 => (laws_eqTerm x1 x2).bind fun x3 => cond (!x3) (some false) (k14 (IntKind.i64.wrap (v5_14 + 1)))) (some true)
noncomputable def laws_eqTermS_l14 (a0 : List impl_Term) (a1 : List impl_Term) : Nat → Int → Option Bool
  | 0, _ => none
  | n + 1, v5_14 => laws_eqTermS_b14   (laws_eqTermS_l14   a0 a1 n) a0 a1 v5_14
/-- loop.example/g01075/laws.eqTermS -/
noncomputable def laws_eqTermS (a0 : List impl_Term) (a1 : List impl_Term) : Option Bool :=
  cond ((a0.length : Int) != (a1.length : Int)) (some false) (lim fun n => laws_eqTermS_l14 a0 a1 n 0)

/-- loop.example/g01075/laws.FnExactConstantOf -/
noncomputable def laws_FnExactConstantOf (a0 : List laws_Term) : Option Bool :=
  (laws_szTermS a0 1048576).bind fun x1 => cond (decide (x1 < 0)) (some true) ((laws_toTermS a0).bind fun x2 => (spec_ConstantOf x2).bind fun x3 => (laws_toTermS a0).bind fun x4 => (impl_ConstantOf x4).bind fun x5 => cond ((x5.1 != x3.1) || (x5.2 != x3.2)) (some false) ((laws_toTermS a0).bind fun x6 => (laws_eqTermS x4 x6).bind fun x7 => cond (!x7) (some false) (some true)))

end Go.Sh
