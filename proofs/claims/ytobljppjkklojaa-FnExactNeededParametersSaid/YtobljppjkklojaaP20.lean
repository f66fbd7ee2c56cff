/- Part of a proof that a law returns true for every input. No condition. -/
import Derived.Test.YtobljppjkklojaaFwA
namespace Go.Sh
open Go Go.Fw
set_option linter.unusedVariables false
noncomputable section
structure laws_Term where
  Kind : Int
  Value : Int
def wf_laws_Term (x : laws_Term) : Prop := (-9223372036854775808 ≤ x.Kind ∧ x.Kind ≤ 9223372036854775807) ∧ (-9223372036854775808 ≤ x.Value ∧ x.Value ≤ 9223372036854775807)
structure laws_Summand where
  Sums : List Int
  Guard : List laws_Term
  Name : List UInt8
  Arguments : List (List laws_Term)
  Next : List (List laws_Term)
def wf_laws_Summand (x : laws_Summand) : Prop := (x.Sums.length ≤ 9223372036854775807 ∧ ∀ y ∈ x.Sums, (-9223372036854775808 ≤ y ∧ y ≤ 9223372036854775807)) ∧ (x.Guard.length ≤ 9223372036854775807 ∧ ∀ y ∈ x.Guard, wf_laws_Term y) ∧ x.Name.length ≤ 9223372036854775807 ∧ (x.Arguments.length ≤ 9223372036854775807 ∧ ∀ y ∈ x.Arguments, (y.length ≤ 9223372036854775807 ∧ ∀ z ∈ y, wf_laws_Term z)) ∧ (x.Next.length ≤ 9223372036854775807 ∧ ∀ y ∈ x.Next, (y.length ≤ 9223372036854775807 ∧ ∀ z ∈ y, wf_laws_Term z))
structure laws_Linear where
  Parameters : Int
  Start : List Int
  Summands : List laws_Summand
def wf_laws_Linear (x : laws_Linear) : Prop := (-9223372036854775808 ≤ x.Parameters ∧ x.Parameters ≤ 9223372036854775807) ∧ (x.Start.length ≤ 9223372036854775807 ∧ ∀ y ∈ x.Start, (-9223372036854775808 ≤ y ∧ y ≤ 9223372036854775807)) ∧ (x.Summands.length ≤ 9223372036854775807 ∧ ∀ y ∈ x.Summands, wf_laws_Summand y)
structure impl_Term where
  Kind : Int
  Value : Int
def wf_impl_Term (x : impl_Term) : Prop := (-9223372036854775808 ≤ x.Kind ∧ x.Kind ≤ 9223372036854775807) ∧ (-9223372036854775808 ≤ x.Value ∧ x.Value ≤ 9223372036854775807)
structure impl_Summand where
  Sums : List Int
  Guard : List impl_Term
  Name : List UInt8
  Arguments : List (List impl_Term)
  Next : List (List impl_Term)
def wf_impl_Summand (x : impl_Summand) : Prop := (x.Sums.length ≤ 9223372036854775807 ∧ ∀ y ∈ x.Sums, (-9223372036854775808 ≤ y ∧ y ≤ 9223372036854775807)) ∧ (x.Guard.length ≤ 9223372036854775807 ∧ ∀ y ∈ x.Guard, wf_impl_Term y) ∧ x.Name.length ≤ 9223372036854775807 ∧ (x.Arguments.length ≤ 9223372036854775807 ∧ ∀ y ∈ x.Arguments, (y.length ≤ 9223372036854775807 ∧ ∀ z ∈ y, wf_impl_Term z)) ∧ (x.Next.length ≤ 9223372036854775807 ∧ ∀ y ∈ x.Next, (y.length ≤ 9223372036854775807 ∧ ∀ z ∈ y, wf_impl_Term z))
structure impl_Linear where
  Parameters : Int
  Start : List Int
  Summands : List impl_Summand
def wf_impl_Linear (x : impl_Linear) : Prop := (-9223372036854775808 ≤ x.Parameters ∧ x.Parameters ≤ 9223372036854775807) ∧ (x.Start.length ≤ 9223372036854775807 ∧ ∀ y ∈ x.Start, (-9223372036854775808 ≤ y ∧ y ≤ 9223372036854775807)) ∧ (x.Summands.length ≤ 9223372036854775807 ∧ ∀ y ∈ x.Summands, wf_impl_Summand y)
def laws_szInt64S (a0 : List Int) (a1 : Int) : Option Int :=
  cond (decide ((IntKind.i64.wrap (a1 - (a0.length : Int))) < 0)) (some (-1)) (some (IntKind.i64.wrap (a1 - (a0.length : Int))))
def laws_szTermS (a0 : List laws_Term) (a1 : Int) : Option Int :=
  cond (decide ((IntKind.i64.wrap (a1 - (a0.length : Int))) < 0)) (some (-1)) (some (IntKind.i64.wrap (a1 - (a0.length : Int))))
def laws_szTermSS_b16 (k16 : Int → Int → Option Int) (a0 : List (List laws_Term)) (v1_16 : Int) (v5_16 : Int) : Option Int :=
  cond (decide (v5_16 < (a0.length : Int))) ((getI a0 v5_16).bind fun x1 => (laws_szTermS x1 v1_16).bind fun x2 => cond (decide (x2 < 0)) (some (-1)) (k16 x2 (IntKind.i64.wrap (v5_16 + 1)))) (some v1_16)
def laws_szTermSS_l16 (a0 : List (List laws_Term)) : Nat → Int → Int → Option Int
  | 0, _, _ => none
  | n + 1, v1_16, v5_16 => laws_szTermSS_b16 (laws_szTermSS_l16 a0 n) a0 v1_16 v5_16
def laws_szTermSS (a0 : List (List laws_Term)) (a1 : Int) : Option Int :=
  cond (decide ((IntKind.i64.wrap (a1 - (a0.length : Int))) < 0)) (some (-1)) (lim fun n => laws_szTermSS_l16 a0 n (IntKind.i64.wrap (a1 - (a0.length : Int))) 0)
def laws_szSummand (a0 : laws_Summand) (a1 : Int) : Option Int :=
  (laws_szInt64S a0.Sums a1).bind fun x1 => cond (decide (x1 < 0)) (some (-1)) ((laws_szTermS a0.Guard x1).bind fun x2 => cond (decide (x2 < 0)) (some (-1)) (cond (decide ((IntKind.i64.wrap (x2 - (a0.Name.length : Int))) < 0)) (some (-1)) ((laws_szTermSS a0.Arguments (IntKind.i64.wrap (x2 - (a0.Name.length : Int)))).bind fun x3 => cond (decide (x3 < 0)) (some (-1)) ((laws_szTermSS a0.Next x3).bind fun x4 => cond (decide (x4 < 0)) (some (-1)) (some x4)))))
def laws_szSummandS_b16 (k16 : Int → Int → Option Int) (a0 : List laws_Summand) (v1_16 : Int) (v5_16 : Int) : Option Int :=
  cond (decide (v5_16 < (a0.length : Int))) ((getI a0 v5_16).bind fun x1 => (laws_szSummand x1 v1_16).bind fun x2 => cond (decide (x2 < 0)) (some (-1)) (k16 x2 (IntKind.i64.wrap (v5_16 + 1)))) (some v1_16)
def laws_szSummandS_l16 (a0 : List laws_Summand) : Nat → Int → Int → Option Int
  | 0, _, _ => none
  | n + 1, v1_16, v5_16 => laws_szSummandS_b16 (laws_szSummandS_l16 a0 n) a0 v1_16 v5_16
def laws_szSummandS (a0 : List laws_Summand) (a1 : Int) : Option Int :=
  cond (decide ((IntKind.i64.wrap (a1 - (a0.length : Int))) < 0)) (some (-1)) (lim fun n => laws_szSummandS_l16 a0 n (IntKind.i64.wrap (a1 - (a0.length : Int))) 0)
def laws_szLinear (a0 : laws_Linear) (a1 : Int) : Option Int :=
  (laws_szInt64S a0.Start a1).bind fun x1 => cond (decide (x1 < 0)) (some (-1)) ((laws_szSummandS a0.Summands x1).bind fun x2 => cond (decide (x2 < 0)) (some (-1)) (some x2))
def laws_toInt64S_b8 (k8 : (List Int) → Int → Option ((List Int))) (a0 : List Int) (v3_8 : List Int) (v4_8 : Int) : Option ((List Int)) :=
  cond (decide (v4_8 < (a0.length : Int))) ((getI a0 v4_8).bind fun x1 => (getI v3_8 v4_8).bind fun x2 => k8 (List.set v3_8 (Int.toNat v4_8) x1) (IntKind.i64.wrap (v4_8 + 1))) (some v3_8)
def laws_toInt64S_l8 (a0 : List Int) : Nat → (List Int) → Int → Option ((List Int))
  | 0, _, _ => none
  | n + 1, v3_8, v4_8 => laws_toInt64S_b8 (laws_toInt64S_l8 a0 n) a0 v3_8 v4_8
def laws_toInt64S (a0 : List Int) : Option ((List Int)) :=
  (mkOk 8 (a0.length : Int)).bind fun _ => lim fun n => laws_toInt64S_l8 a0 n (List.replicate (Int.toNat (a0.length : Int)) 0) 0
def laws_toTerm (a0 : laws_Term) : Option impl_Term :=
  some (impl_Term.mk a0.Kind a0.Value)
def laws_toTermS_b8 (k8 : (List impl_Term) → Int → Option ((List impl_Term))) (a0 : List laws_Term) (v3_8 : List impl_Term) (v4_8 : Int) : Option ((List impl_Term)) :=
  cond (decide (v4_8 < (a0.length : Int))) ((getI a0 v4_8).bind fun x1 => (laws_toTerm x1).bind fun x2 => (getI v3_8 v4_8).bind fun x3 => k8 (List.set v3_8 (Int.toNat v4_8) x2) (IntKind.i64.wrap (v4_8 + 1))) (some v3_8)
def laws_toTermS_l8 (a0 : List laws_Term) : Nat → (List impl_Term) → Int → Option ((List impl_Term))
  | 0, _, _ => none
  | n + 1, v3_8, v4_8 => laws_toTermS_b8 (laws_toTermS_l8 a0 n) a0 v3_8 v4_8
def laws_toTermS (a0 : List laws_Term) : Option ((List impl_Term)) :=
  (mkOk 16 (a0.length : Int)).bind fun _ => lim fun n => laws_toTermS_l8 a0 n (List.replicate (Int.toNat (a0.length : Int)) (impl_Term.mk 0 0)) 0
def laws_toTermSS_b8 (k8 : (List (List impl_Term)) → Int → Option ((List (List impl_Term)))) (a0 : List (List laws_Term)) (v3_8 : List (List impl_Term)) (v4_8 : Int) : Option ((List (List impl_Term))) :=
  cond (decide (v4_8 < (a0.length : Int))) ((getI a0 v4_8).bind fun x1 => (laws_toTermS x1).bind fun x2 => (getI v3_8 v4_8).bind fun x3 => k8 (List.set v3_8 (Int.toNat v4_8) x2) (IntKind.i64.wrap (v4_8 + 1))) (some v3_8)
def laws_toTermSS_l8 (a0 : List (List laws_Term)) : Nat → (List (List impl_Term)) → Int → Option ((List (List impl_Term)))
  | 0, _, _ => none
  | n + 1, v3_8, v4_8 => laws_toTermSS_b8 (laws_toTermSS_l8 a0 n) a0 v3_8 v4_8
def laws_toTermSS (a0 : List (List laws_Term)) : Option ((List (List impl_Term))) :=
  (mkOk 24 (a0.length : Int)).bind fun _ => lim fun n => laws_toTermSS_l8 a0 n (List.replicate (Int.toNat (a0.length : Int)) []) 0
def laws_toSummand (a0 : laws_Summand) : Option impl_Summand :=
  (laws_toInt64S a0.Sums).bind fun x1 => (laws_toTermS a0.Guard).bind fun x2 => (laws_toTermSS a0.Arguments).bind fun x3 => (laws_toTermSS a0.Next).bind fun x4 => some (impl_Summand.mk x1 x2 a0.Name x3 x4)
def laws_toSummandS_b8 (k8 : (List impl_Summand) → Int → Option ((List impl_Summand))) (a0 : List laws_Summand) (v3_8 : List impl_Summand) (v4_8 : Int) : Option ((List impl_Summand)) :=
  cond (decide (v4_8 < (a0.length : Int))) ((getI a0 v4_8).bind fun x1 => (laws_toSummand x1).bind fun x2 => (getI v3_8 v4_8).bind fun x3 => k8 (List.set v3_8 (Int.toNat v4_8) x2) (IntKind.i64.wrap (v4_8 + 1))) (some v3_8)
def laws_toSummandS_l8 (a0 : List laws_Summand) : Nat → (List impl_Summand) → Int → Option ((List impl_Summand))
  | 0, _, _ => none
  | n + 1, v3_8, v4_8 => laws_toSummandS_b8 (laws_toSummandS_l8 a0 n) a0 v3_8 v4_8
def laws_toSummandS (a0 : List laws_Summand) : Option ((List impl_Summand)) :=
  (mkOk 112 (a0.length : Int)).bind fun _ => lim fun n => laws_toSummandS_l8 a0 n (List.replicate (Int.toNat (a0.length : Int)) (impl_Summand.mk [] [] ([] : List UInt8) [] [])) 0
def laws_toLinear (a0 : laws_Linear) : Option impl_Linear :=
  (laws_toInt64S a0.Start).bind fun x1 => (laws_toSummandS a0.Summands).bind fun x2 => some (impl_Linear.mk a0.Parameters x1 x2)
def spec_l00In (a0 : Int) (a1 : Int) (a2 : Int) : Option Bool :=
  some ((decide (a1 ≤ a0)) && (decide (a0 ≤ a2)))
def spec_l03Data_b6 (k6 : Int → Option Bool) (a0 : List Int) (v3_6 : Int) : Option Bool :=
  cond (decide (v3_6 < (a0.length : Int))) ((getI a0 v3_6).bind fun x1 => (spec_l00In x1 0 63).bind fun x2 => cond (!x2) (some false) (k6 (IntKind.i64.wrap (v3_6 + 1)))) (some true)
def spec_l03Data_l6 (a0 : List Int) : Nat → Int → Option Bool
  | 0, _ => none
  | n + 1, v3_6 => spec_l03Data_b6 (spec_l03Data_l6 a0 n) a0 v3_6
def spec_l03Data (a0 : List Int) : Option Bool :=
  lim fun n => spec_l03Data_l6 a0 n 0
def spec_l08Data (a0 : List Int) (a1 : Int) : Option Bool :=
  cond ((a0.length : Int) == a1) ((spec_l03Data a0).bind fun x1 => some x1) (some false)
def spec_l08Tries_b16 (k16 : Int → Int → Option Int) (a0 : List Int) (v3_16 : Int) (v4_16 : Int) : Option Int :=
  cond (decide (v4_16 < (a0.length : Int))) ((getI a0 v4_16).bind fun x1 => (spec_l00In x1 1 7).bind fun x2 => cond (!x2) (some 0) (k16 (IntKind.i64.wrap (v3_16 * (IntKind.i64.wrap (x1 + 1)))) (IntKind.i64.wrap (v4_16 + 1)))) (cond (decide (4096 < v3_16)) (some 0) (some v3_16))
def spec_l08Tries_l16 (a0 : List Int) : Nat → Int → Int → Option Int
  | 0, _, _ => none
  | n + 1, v3_16, v4_16 => spec_l08Tries_b16 (spec_l08Tries_l16 a0 n) a0 v3_16 v4_16
def spec_l08Tries (a0 : List Int) : Option Int :=
  cond (decide (8 < (a0.length : Int))) (some 0) (lim fun n => spec_l08Tries_l16 a0 n 1 0)
def spec_l03Term (a0 : impl_Term) (a1 : Int) : Option Bool :=
  cond (a0.Kind == 0) ((spec_l00In a0.Value 0 63).bind fun x1 => some x1) (cond (a0.Kind == 1) ((spec_l00In a0.Value 0 (IntKind.i64.wrap (a1 - 1))).bind fun x2 => some x2) (cond (a0.Kind == 2) ((spec_l00In a0.Value 0 8).bind fun x3 => some x3) (cond (a0.Kind == 3) (some (a0.Value == 0)) (some false))))
def spec_l03Arity (a0 : impl_Term) : Option Int :=
  cond (a0.Kind == 2) (some 2) (cond (a0.Kind == 3) (some 1) (some 0))
def spec_l03Is_b16 (k16 : Int → Int → Option Bool) (a0 : List impl_Term) (a1 : Int) (v7_16 : Int) (v8_16 : Int) : Option Bool :=
  cond (decide (v8_16 < (a0.length : Int))) (cond (v7_16 == 0) (some false) ((getI a0 v8_16).bind fun x1 => (spec_l03Term x1 a1).bind fun x2 => cond (!x2) (some false) ((spec_l03Arity x1).bind fun x3 => k16 (IntKind.i64.wrap (v7_16 + (IntKind.i64.wrap (x3 - 1)))) (IntKind.i64.wrap (v8_16 + 1))))) (some (v7_16 == 0))
def spec_l03Is_l16 (a0 : List impl_Term) (a1 : Int) : Nat → Int → Int → Option Bool
  | 0, _, _ => none
  | n + 1, v7_16, v8_16 => spec_l03Is_b16 (spec_l03Is_l16 a0 a1 n) a0 a1 v7_16 v8_16
def spec_l03Is (a0 : List impl_Term) (a1 : Int) (a2 : Int) : Option Bool :=
  cond (decide (a2 < (a0.length : Int))) (some false) (lim fun n => spec_l03Is_l16 a0 a1 n 1 0)
def spec_l08Each_b6 (k6 : Int → Option Bool) (a0 : List (List impl_Term)) (a1 : Int) (v5_6 : Int) : Option Bool :=
  cond (decide (v5_6 < (a0.length : Int))) ((getI a0 v5_6).bind fun x1 => (spec_l03Is x1 a1 60).bind fun x2 => cond (!x2) (some false) (k6 (IntKind.i64.wrap (v5_6 + 1)))) (some true)
def spec_l08Each_l6 (a0 : List (List impl_Term)) (a1 : Int) : Nat → Int → Option Bool
  | 0, _ => none
  | n + 1, v5_6 => spec_l08Each_b6 (spec_l08Each_l6 a0 a1 n) a0 a1 v5_6
def spec_l08Each (a0 : List (List impl_Term)) (a1 : Int) : Option Bool :=
  lim fun n => spec_l08Each_l6 a0 a1 n 0
def spec_l01Small (a0 : UInt8) : Option Bool :=
  some ((decide (97 ≤ (a0.toNat : Int))) && (decide ((a0.toNat : Int) ≤ 122)))
def spec_l01Digit (a0 : UInt8) : Option Bool :=
  some ((decide (48 ≤ (a0.toNat : Int))) && (decide ((a0.toNat : Int) ≤ 57)))
def spec_l01Name_b14 (k14 : Int → Option Bool) (a0 : List UInt8) (v3_14 : Int) : Option Bool :=
  cond (decide (v3_14 < (a0.length : Int))) ((getI a0 v3_14).bind fun x3 => (spec_l01Small x3).bind fun x4 => cond (!x4) ((spec_l01Digit x3).bind fun x5 => cond (!x5) (some false) (k14 (IntKind.i64.wrap (v3_14 + 1)))) (k14 (IntKind.i64.wrap (v3_14 + 1)))) (some true)
def spec_l01Name_l14 (a0 : List UInt8) : Nat → Int → Option Bool
  | 0, _ => none
  | n + 1, v3_14 => spec_l01Name_b14 (spec_l01Name_l14 a0 n) a0 v3_14
def spec_l01Name (a0 : List UInt8) : Option Bool :=
  cond (a0 == ([] : List UInt8)) (some false) (cond (decide (10 < (a0.length : Int))) (some false) ((getI a0 0).bind fun x1 => (spec_l01Small x1).bind fun x2 => cond (!x2) (some false) (lim fun n => spec_l01Name_l14 a0 n 0)))
def spec_l01Action (a0 : List UInt8) : Option Bool :=
  (spec_l01Name a0).bind fun x1 => some (x1 && (!(a0 == ([116, 97, 117] : List UInt8))))
def spec_l08Summand (a0 : impl_Summand) (a1 : Int) : Option Bool :=
  (spec_l08Tries a0.Sums).bind fun x1 => cond (x1 == 0) (some false) ((spec_l03Is a0.Guard (IntKind.i64.wrap (a1 + (a0.Sums.length : Int))) 60).bind fun x2 => cond ((!x2) || ((a0.Next.length : Int) != a1)) (some false) (cond (a0.Name == ([116, 97, 117] : List UInt8)) (cond (decide (0 < (a0.Arguments.length : Int))) (some false) (cond (decide (2 < (a0.Arguments.length : Int))) (some false) ((spec_l08Each a0.Arguments (IntKind.i64.wrap (a1 + (a0.Sums.length : Int)))).bind fun x3 => cond x3 ((spec_l08Each a0.Next (IntKind.i64.wrap (a1 + (a0.Sums.length : Int)))).bind fun x4 => some x4) (some false)))) ((spec_l01Action a0.Name).bind fun x5 => cond (!x5) (some false) (cond (decide (2 < (a0.Arguments.length : Int))) (some false) ((spec_l08Each a0.Arguments (IntKind.i64.wrap (a1 + (a0.Sums.length : Int)))).bind fun x6 => cond x6 ((spec_l08Each a0.Next (IntKind.i64.wrap (a1 + (a0.Sums.length : Int)))).bind fun x7 => some x7) (some false))))))
def spec_l08Is_b14 (k14 : Int → Option Bool) (a0 : impl_Linear) (v3_14 : Int) : Option Bool :=
  cond (decide (v3_14 < (a0.Summands.length : Int))) ((getI a0.Summands v3_14).bind fun x3 => (spec_l08Summand x3 a0.Parameters).bind fun x4 => cond (!x4) (some false) (k14 (IntKind.i64.wrap (v3_14 + 1)))) (some true)
def spec_l08Is_l14 (a0 : impl_Linear) : Nat → Int → Option Bool
  | 0, _ => none
  | n + 1, v3_14 => spec_l08Is_b14 (spec_l08Is_l14 a0 n) a0 v3_14
def spec_l08Is (a0 : impl_Linear) : Option Bool :=
  (spec_l00In a0.Parameters 0 21).bind fun x1 => cond (!x1) (some false) ((spec_l08Data a0.Start a0.Parameters).bind fun x2 => cond ((!x2) || (decide (60 < (a0.Summands.length : Int)))) (some false) (lim fun n => spec_l08Is_l14 a0 n 0))
def spec_l08Occur_k17 (k3 : (List Bool) → Int → Option ((List Bool))) (a0 : List impl_Term) (v1_17 : List Bool) (v4_17 : Int) : Option ((List Bool)) :=
  k3 v1_17 (IntKind.i64.wrap (v4_17 + 1))
def spec_l08Occur_b3 (k3 : (List Bool) → Int → Option ((List Bool))) (a0 : List impl_Term) (v1_3 : List Bool) (v4_3 : Int) : Option ((List Bool)) :=
  cond (decide (v4_3 < (a0.length : Int))) ((getI a0 v4_3).bind fun x1 => cond ((x1.Kind == 1) && (decide (x1.Value < (v1_3.length : Int)))) ((getI v1_3 x1.Value).bind fun x2 => spec_l08Occur_k17 k3 a0 (List.set v1_3 (Int.toNat x1.Value) true) v4_3) (spec_l08Occur_k17 k3 a0 v1_3 v4_3)) (some v1_3)
def spec_l08Occur_l3 (a0 : List impl_Term) : Nat → (List Bool) → Int → Option ((List Bool))
  | 0, _, _ => none
  | n + 1, v1_3, v4_3 => spec_l08Occur_b3 (spec_l08Occur_l3 a0 n) a0 v1_3 v4_3
def spec_l08Occur (a0 : List impl_Term) (a1 : List Bool) : Option ((List Bool)) :=
  lim fun n => spec_l08Occur_l3 a0 n a1 0
def spec_l08Needed_b22 (k8 : (List Bool) → Int → Option ((List Bool))) (k22 : (List Bool) → Int → Int → Option ((List Bool))) (a0 : impl_Linear) (v3_22 : List Bool) (v4_22 : Int) (v5_22 : Int) : Option ((List Bool)) :=
  (getI a0.Summands v4_22).bind fun x3 => cond (decide (v5_22 < (x3.Arguments.length : Int))) ((getI x3.Arguments v5_22).bind fun x4 => (spec_l08Occur x4 v3_22).bind fun x5 => k22 x5 v4_22 (IntKind.i64.wrap (v5_22 + 1))) (k8 v3_22 (IntKind.i64.wrap (v4_22 + 1)))
def spec_l08Needed_l22 (k8 : (List Bool) → Int → Option ((List Bool))) (a0 : impl_Linear) : Nat → (List Bool) → Int → Int → Option ((List Bool))
  | 0, _, _, _ => none
  | n + 1, v3_22, v4_22, v5_22 => spec_l08Needed_b22 k8 (spec_l08Needed_l22 k8 a0 n) a0 v3_22 v4_22 v5_22
def spec_l08Needed_k76 (k38 : (List Bool) → Int → Option ((List Bool))) (k50 : (List Bool) → Int → Int → Option ((List Bool))) (k62 : (List Bool) → Int → Int → Int → Option ((List Bool))) (a0 : impl_Linear) (v3_76 : List Bool) (v6_76 : Int) (v7_76 : Int) (v8_76 : Int) : Option ((List Bool)) :=
  k62 v3_76 v6_76 v7_76 (IntKind.i64.wrap (v8_76 + 1))
def spec_l08Needed_b62 (k38 : (List Bool) → Int → Option ((List Bool))) (k50 : (List Bool) → Int → Int → Option ((List Bool))) (k62 : (List Bool) → Int → Int → Int → Option ((List Bool))) (a0 : impl_Linear) (v3_62 : List Bool) (v6_62 : Int) (v7_62 : Int) (v8_62 : Int) : Option ((List Bool)) :=
  cond (decide (v8_62 < a0.Parameters)) ((getI v3_62 v8_62).bind fun x6 => cond x6 ((getI a0.Summands v7_62).bind fun x7 => (getI x7.Next v8_62).bind fun x8 => (spec_l08Occur x8 v3_62).bind fun x9 => spec_l08Needed_k76 k38 k50 k62 a0 x9 v6_62 v7_62 v8_62) (spec_l08Needed_k76 k38 k50 k62 a0 v3_62 v6_62 v7_62 v8_62)) (k50 v3_62 v6_62 (IntKind.i64.wrap (v7_62 + 1)))
def spec_l08Needed_l62 (k38 : (List Bool) → Int → Option ((List Bool))) (k50 : (List Bool) → Int → Int → Option ((List Bool))) (a0 : impl_Linear) : Nat → (List Bool) → Int → Int → Int → Option ((List Bool))
  | 0, _, _, _, _ => none
  | n + 1, v3_62, v6_62, v7_62, v8_62 => spec_l08Needed_b62 k38 k50 (spec_l08Needed_l62 k38 k50 a0 n) a0 v3_62 v6_62 v7_62 v8_62
def spec_l08Needed_b50 (k38 : (List Bool) → Int → Option ((List Bool))) (k50 : (List Bool) → Int → Int → Option ((List Bool))) (a0 : impl_Linear) (v3_50 : List Bool) (v6_50 : Int) (v7_50 : Int) : Option ((List Bool)) :=
  cond (decide (v7_50 < (a0.Summands.length : Int))) (lim fun n => spec_l08Needed_l62 k38 k50 a0 n v3_50 v6_50 v7_50 0) (k38 v3_50 (IntKind.i64.wrap (v6_50 + 1)))
def spec_l08Needed_l50 (k38 : (List Bool) → Int → Option ((List Bool))) (a0 : impl_Linear) : Nat → (List Bool) → Int → Int → Option ((List Bool))
  | 0, _, _, _ => none
  | n + 1, v3_50, v6_50, v7_50 => spec_l08Needed_b50 k38 (spec_l08Needed_l50 k38 a0 n) a0 v3_50 v6_50 v7_50
def spec_l08Needed_b38 (k38 : (List Bool) → Int → Option ((List Bool))) (a0 : impl_Linear) (v3_38 : List Bool) (v6_38 : Int) : Option ((List Bool)) :=
  cond (decide (v6_38 ≤ a0.Parameters)) (lim fun n => spec_l08Needed_l50 k38 a0 n v3_38 v6_38 0) (some v3_38)
def spec_l08Needed_l38 (a0 : impl_Linear) : Nat → (List Bool) → Int → Option ((List Bool))
  | 0, _, _ => none
  | n + 1, v3_38, v6_38 => spec_l08Needed_b38 (spec_l08Needed_l38 a0 n) a0 v3_38 v6_38
def spec_l08Needed_b8 (k8 : (List Bool) → Int → Option ((List Bool))) (a0 : impl_Linear) (v3_8 : List Bool) (v4_8 : Int) : Option ((List Bool)) :=
  cond (decide (v4_8 < (a0.Summands.length : Int))) ((getI a0.Summands v4_8).bind fun x1 => (spec_l08Occur x1.Guard v3_8).bind fun x2 => lim fun n => spec_l08Needed_l22 k8 a0 n x2 v4_8 0) (lim fun n => spec_l08Needed_l38 a0 n v3_8 0)
def spec_l08Needed_l8 (a0 : impl_Linear) : Nat → (List Bool) → Int → Option ((List Bool))
  | 0, _, _ => none
  | n + 1, v3_8, v4_8 => spec_l08Needed_b8 (spec_l08Needed_l8 a0 n) a0 v3_8 v4_8
def spec_l08Needed (a0 : impl_Linear) : Option ((List Bool)) :=
  (mkOk 1 a0.Parameters).bind fun _ => lim fun n => spec_l08Needed_l8 a0 n (List.replicate (Int.toNat a0.Parameters) false) 0
def spec_l08Marked_k22 (k8 : (List Int) → Int → Option ((List Int))) (a0 : List Bool) (a1 : Bool) (v5_22 : List Int) (v6_22 : Int) : Option ((List Int)) :=
  k8 v5_22 (IntKind.i64.wrap (v6_22 + 1))
def spec_l08Marked_b8 (k8 : (List Int) → Int → Option ((List Int))) (a0 : List Bool) (a1 : Bool) (v5_8 : List Int) (v6_8 : Int) : Option ((List Int)) :=
  cond (decide (v6_8 < (a0.length : Int))) ((getI a0 v6_8).bind fun x1 => cond (x1 == a1) ((room 8 (v5_8.length + 1)).bind fun _ => spec_l08Marked_k22 k8 a0 a1 (v5_8 ++ [v6_8]) v6_8) (spec_l08Marked_k22 k8 a0 a1 v5_8 v6_8)) (some v5_8)
def spec_l08Marked_l8 (a0 : List Bool) (a1 : Bool) : Nat → (List Int) → Int → Option ((List Int))
  | 0, _, _ => none
  | n + 1, v5_8, v6_8 => spec_l08Marked_b8 (spec_l08Marked_l8 a0 a1 n) a0 a1 v5_8 v6_8
def spec_l08Marked (a0 : List Bool) (a1 : Bool) : Option ((List Int)) :=
  lim fun n => spec_l08Marked_l8 a0 a1 n [] 0
def spec_NeededParameters (a0 : impl_Linear) : Option ((List Int) × Int) :=
  (spec_l08Is a0).bind fun x1 => cond (!x1) (some ([], 1)) ((spec_l08Needed a0).bind fun x2 => (spec_l08Marked x2 true).bind fun x3 => some (x3, 0))
def impl_within (a0 : Int) (a1 : Int) (a2 : Int) : Option Bool :=
  some ((decide (a1 ≤ a0)) && (decide (a0 ≤ a2)))
def impl_isValue (a0 : Int) : Option Bool :=
  (impl_within a0 0 63).bind fun x1 => some x1
def impl_areValues_c1 (a0 : Int) : Option Bool :=
  (impl_isValue a0).bind fun x1 => some (!x1)
def slices_IndexFunc_int64_int64__impl_areValues_c1_b6 (k6 : Int → Option Int) (a0 : List Int) (v8_6 : Int) : Option Int :=
  cond (decide (v8_6 < (a0.length : Int))) ((getI a0 v8_6).bind fun x1 => (impl_areValues_c1 x1).bind fun x2 => cond x2 (some v8_6) (k6 (IntKind.i64.wrap (v8_6 + 1)))) (some (-1))
def slices_IndexFunc_int64_int64__impl_areValues_c1_l6 (a0 : List Int) : Nat → Int → Option Int
  | 0, _ => none
  | n + 1, v8_6 => slices_IndexFunc_int64_int64__impl_areValues_c1_b6 (slices_IndexFunc_int64_int64__impl_areValues_c1_l6 a0 n) a0 v8_6
def slices_IndexFunc_int64_int64__impl_areValues_c1 (a0 : List Int) : Option Int :=
  lim fun n => slices_IndexFunc_int64_int64__impl_areValues_c1_l6 a0 n 0
def slices_ContainsFunc_int64_int64__impl_areValues_c1 (a0 : List Int) : Option Bool :=
  (slices_IndexFunc_int64_int64__impl_areValues_c1 a0).bind fun x1 => some (decide (0 ≤ x1))
def impl_areValues (a0 : List Int) : Option Bool :=
  (slices_ContainsFunc_int64_int64__impl_areValues_c1 a0).bind fun x1 => some (!x1)
def impl_Linear_isState (a0 : impl_Linear) (a1 : List Int) : Option Bool :=
  cond ((a1.length : Int) == a0.Parameters) ((impl_areValues a1).bind fun x1 => some x1) (some false)
def impl_Summand_sumsOk_b8 (k8 : Int → Int → Option Bool) (a0 : impl_Summand) (v3_8 : Int) (v9_8 : Int) : Option Bool :=
  cond (decide (v9_8 < (a0.Sums.length : Int))) ((getI a0.Sums v9_8).bind fun x1 => (impl_within x1 1 7).bind fun x2 => cond (!x2) (some false) (k8 (IntKind.i64.wrap (v3_8 * (IntKind.i64.wrap (x1 + 1)))) (IntKind.i64.wrap (v9_8 + 1)))) (some ((decide ((a0.Sums.length : Int) ≤ 8)) && (decide (v3_8 ≤ 4096))))
def impl_Summand_sumsOk_l8 (a0 : impl_Summand) : Nat → Int → Int → Option Bool
  | 0, _, _ => none
  | n + 1, v3_8, v9_8 => impl_Summand_sumsOk_b8 (impl_Summand_sumsOk_l8 a0 n) a0 v3_8 v9_8
def impl_Summand_sumsOk (a0 : impl_Summand) : Option Bool :=
  lim fun n => impl_Summand_sumsOk_l8 a0 n 1 0
def impl_isDigit (a0 : UInt8) : Option Bool :=
  some ((decide (48 ≤ (a0.toNat : Int))) && (decide ((a0.toNat : Int) ≤ 57)))
def impl_IsName_b6 (k6 : Int → Option Bool) (a0 : List UInt8) (v7_6 : Int) : Option Bool :=
  cond (decide (v7_6 < (a0.length : Int))) ((getI a0 v7_6).bind fun x1 => cond (!((decide (97 ≤ (x1.toNat : Int))) && (decide ((x1.toNat : Int) ≤ 122)))) (cond (v7_6 == 0) (some false) ((impl_isDigit x1).bind fun x2 => cond (!x2) (some false) (k6 (IntKind.i64.wrap (v7_6 + 1))))) (k6 (IntKind.i64.wrap (v7_6 + 1)))) (some ((decide (1 ≤ (a0.length : Int))) && (decide ((a0.length : Int) ≤ 10))))
def impl_IsName_l6 (a0 : List UInt8) : Nat → Int → Option Bool
  | 0, _ => none
  | n + 1, v7_6 => impl_IsName_b6 (impl_IsName_l6 a0 n) a0 v7_6
def impl_IsName (a0 : List UInt8) : Option Bool :=
  lim fun n => impl_IsName_l6 a0 n 0
def impl_IsAction (a0 : List UInt8) : Option Bool :=
  (impl_IsName a0).bind fun x1 => some (x1 && (!(a0 == ([116, 97, 117] : List UInt8))))
def slices_Grow_impl_Term_k16 : Option ((List (List impl_Term))) :=
  some []
def slices_Grow_impl_Term_k8 (a1 : Int) : Option ((List (List impl_Term))) :=
  cond (decide (0 < (IntKind.i64.wrap (a1 - (IntKind.i64.wrap 0))))) ((mkOk 24 (IntKind.i64.wrap (a1 - (IntKind.i64.wrap 0)))).bind fun _ => slices_Grow_impl_Term_k16) (slices_Grow_impl_Term_k16)
def slices_Grow_impl_Term (a1 : Int) : Option ((List (List impl_Term))) :=
  cond (decide (a1 < 0)) (none) (slices_Grow_impl_Term_k8 a1)
def slices_Concat_impl_Term_k26 (k8 : Int → Int → Option ((List (List impl_Term)))) (a0 : List (List (List impl_Term))) (v3_26 : Int) (v11_26 : Int) : Option ((List (List impl_Term))) :=
  k8 v3_26 (IntKind.i64.wrap (v11_26 + 1))
def slices_Concat_impl_Term_b33 (k33 : (List (List impl_Term)) → Int → Option ((List (List impl_Term)))) (a0 : List (List (List impl_Term))) (v6_33 : List (List impl_Term)) (v27_33 : Int) : Option ((List (List impl_Term))) :=
  cond (decide (v27_33 < (a0.length : Int))) ((getI a0 v27_33).bind fun x3 => (room 24 (v6_33.length + x3.length)).bind fun _ => k33 (v6_33 ++ x3) (IntKind.i64.wrap (v27_33 + 1))) (some v6_33)
def slices_Concat_impl_Term_l33 (a0 : List (List (List impl_Term))) : Nat → (List (List impl_Term)) → Int → Option ((List (List impl_Term)))
  | 0, _, _ => none
  | n + 1, v6_33, v27_33 => slices_Concat_impl_Term_b33 (slices_Concat_impl_Term_l33 a0 n) a0 v6_33 v27_33
def slices_Concat_impl_Term_b8 (k8 : Int → Int → Option ((List (List impl_Term)))) (a0 : List (List (List impl_Term))) (v3_8 : Int) (v11_8 : Int) : Option ((List (List impl_Term))) :=
  cond (decide (v11_8 < (a0.length : Int))) ((getI a0 v11_8).bind fun x1 => cond (decide ((IntKind.i64.wrap (v3_8 + (x1.length : Int))) < 0)) (none) (slices_Concat_impl_Term_k26 k8 a0 (IntKind.i64.wrap (v3_8 + (x1.length : Int))) v11_8)) ((slices_Grow_impl_Term v3_8).bind fun x2 => lim fun n => slices_Concat_impl_Term_l33 a0 n x2 0)
def slices_Concat_impl_Term_l8 (a0 : List (List (List impl_Term))) : Nat → Int → Int → Option ((List (List impl_Term)))
  | 0, _, _ => none
  | n + 1, v3_8, v11_8 => slices_Concat_impl_Term_b8 (slices_Concat_impl_Term_l8 a0 n) a0 v3_8 v11_8
def slices_Concat_impl_Term (a0 : List (List (List impl_Term))) : Option ((List (List impl_Term))) :=
  lim fun n => slices_Concat_impl_Term_l8 a0 n 0 0
def impl_Summand_expressions (a0 : impl_Summand) : Option ((List (List impl_Term))) :=
  (slices_Concat_impl_Term [[a0.Guard], a0.Arguments, a0.Next]).bind fun x1 => some x1
def impl_Term_valid (a0 : impl_Term) (a1 : Int) : Option Bool :=
  cond (a0.Kind == 0) ((impl_isValue a0.Value).bind fun x1 => some x1) (cond (a0.Kind == 1) ((impl_within a0.Value 0 (IntKind.i64.wrap (a1 - 1))).bind fun x2 => some x2) (cond (a0.Kind == 2) ((impl_within a0.Value 0 8).bind fun x3 => some x3) (cond (a0.Kind == 3) (some (a0.Value == 0)) (some false))))
def impl_Term_operands (a0 : impl_Term) : Option Int :=
  cond (a0.Kind == 2) (some 2) (cond (a0.Kind == 3) (some 1) (some 0))
def impl_ValidTerms_b16 (k16 : Int → Int → Option Bool) (a0 : List impl_Term) (a1 : Int) (v7_16 : Int) (v27_16 : Int) : Option Bool :=
  cond (decide (v27_16 < (a0.length : Int))) ((getI a0 v27_16).bind fun x4 => cond (v7_16 == 0) (some false) ((impl_Term_valid x4 a1).bind fun x5 => cond (!x5) (some false) ((impl_Term_operands x4).bind fun x6 => k16 (IntKind.i64.wrap (v7_16 + (IntKind.i64.wrap (x6 - 1)))) (IntKind.i64.wrap (v27_16 + 1))))) (some (v7_16 == 0))
def impl_ValidTerms_l16 (a0 : List impl_Term) (a1 : Int) : Nat → Int → Int → Option Bool
  | 0, _, _ => none
  | n + 1, v7_16, v27_16 => impl_ValidTerms_b16 (impl_ValidTerms_l16 a0 a1 n) a0 a1 v7_16 v27_16
def impl_ValidTerms (a0 : List impl_Term) (a1 : Int) (a2 : Int) : Option Bool :=
  (impl_within a1 0 29).bind fun x1 => cond (!x1) (some false) ((impl_within a2 1 60).bind fun x2 => cond (!x2) (some false) ((impl_within (a0.length : Int) 1 a2).bind fun x3 => cond (!x3) (some false) (lim fun n => impl_ValidTerms_l16 a0 a1 n 1 0)))
def impl_Summand_valid_c1_2 (a0 : List impl_Term) (a1 : Int) (a2 : impl_Summand) : Option Bool :=
  (impl_ValidTerms a0 (IntKind.i64.wrap (a1 + (a2.Sums.length : Int))) 60).bind fun x1 => some (!x1)
def slices_IndexFunc_impl_Term__impl_Summand_valid_c1_b6 (k6 : Int → Option Int) (a0 : List (List impl_Term)) (a100 : Int) (a101 : impl_Summand) (v8_6 : Int) : Option Int :=
  cond (decide (v8_6 < (a0.length : Int))) ((getI a0 v8_6).bind fun x1 => (impl_Summand_valid_c1_2 x1 a100 a101).bind fun x2 => cond x2 (some v8_6) (k6 (IntKind.i64.wrap (v8_6 + 1)))) (some (-1))
def slices_IndexFunc_impl_Term__impl_Summand_valid_c1_l6 (a0 : List (List impl_Term)) (a100 : Int) (a101 : impl_Summand) : Nat → Int → Option Int
  | 0, _ => none
  | n + 1, v8_6 => slices_IndexFunc_impl_Term__impl_Summand_valid_c1_b6 (slices_IndexFunc_impl_Term__impl_Summand_valid_c1_l6 a0 a100 a101 n) a0 a100 a101 v8_6
def slices_IndexFunc_impl_Term__impl_Summand_valid_c1 (a0 : List (List impl_Term)) (a100 : Int) (a101 : impl_Summand) : Option Int :=
  lim fun n => slices_IndexFunc_impl_Term__impl_Summand_valid_c1_l6 a0 a100 a101 n 0
def slices_ContainsFunc_impl_Term__impl_Summand_valid_c1 (a0 : List (List impl_Term)) (a100 : Int) (a101 : impl_Summand) : Option Bool :=
  (slices_IndexFunc_impl_Term__impl_Summand_valid_c1 a0 a100 a101).bind fun x1 => some (decide (0 ≤ x1))
def impl_Summand_valid (a0 : impl_Summand) (a1 : Int) : Option Bool :=
  (impl_Summand_sumsOk a0).bind fun x1 => cond ((!x1) || ((a0.Next.length : Int) != a1)) (some false) (cond (decide (0 < (a0.Arguments.length : Int))) (cond (a0.Name == ([116, 97, 117] : List UInt8)) (some false) (cond (decide (2 < (a0.Arguments.length : Int))) (some false) ((impl_IsAction a0.Name).bind fun x2 => cond (!x2) (some false) ((impl_Summand_expressions a0).bind fun x3 => (slices_ContainsFunc_impl_Term__impl_Summand_valid_c1 x3 a1 a0).bind fun x4 => some (!x4))))) (cond (!(a0.Name == ([116, 97, 117] : List UInt8))) ((impl_IsAction a0.Name).bind fun x5 => cond (!x5) (some false) ((impl_Summand_expressions a0).bind fun x6 => (slices_ContainsFunc_impl_Term__impl_Summand_valid_c1 x6 a1 a0).bind fun x7 => some (!x7))) ((impl_Summand_expressions a0).bind fun x8 => (slices_ContainsFunc_impl_Term__impl_Summand_valid_c1 x8 a1 a0).bind fun x9 => some (!x9))))
def impl_ValidLinear_c1_2 (a0 : impl_Summand) (a1 : impl_Linear) : Option Bool :=
  (impl_Summand_valid a0 a1.Parameters).bind fun x1 => some (!x1)
def slices_IndexFunc_impl_Summand__impl_ValidLinear_c1_b6 (k6 : Int → Option Int) (a0 : List impl_Summand) (a1 : impl_Linear) (v8_6 : Int) : Option Int :=
  cond (decide (v8_6 < (a0.length : Int))) ((getI a0 v8_6).bind fun x1 => (impl_ValidLinear_c1_2 x1 a1).bind fun x2 => cond x2 (some v8_6) (k6 (IntKind.i64.wrap (v8_6 + 1)))) (some (-1))
def slices_IndexFunc_impl_Summand__impl_ValidLinear_c1_l6 (a0 : List impl_Summand) (a1 : impl_Linear) : Nat → Int → Option Int
  | 0, _ => none
  | n + 1, v8_6 => slices_IndexFunc_impl_Summand__impl_ValidLinear_c1_b6 (slices_IndexFunc_impl_Summand__impl_ValidLinear_c1_l6 a0 a1 n) a0 a1 v8_6
def slices_IndexFunc_impl_Summand__impl_ValidLinear_c1 (a0 : List impl_Summand) (a1 : impl_Linear) : Option Int :=
  lim fun n => slices_IndexFunc_impl_Summand__impl_ValidLinear_c1_l6 a0 a1 n 0
def slices_ContainsFunc_impl_Summand__impl_ValidLinear_c1 (a0 : List impl_Summand) (a1 : impl_Linear) : Option Bool :=
  (slices_IndexFunc_impl_Summand__impl_ValidLinear_c1 a0 a1).bind fun x1 => some (decide (0 ≤ x1))
def impl_ValidLinear (a0 : impl_Linear) : Option Bool :=
  (impl_within a0.Parameters 0 21).bind fun x1 => cond (!x1) (some false) ((impl_Linear_isState a0 a0.Start).bind fun x2 => cond ((!x2) || (decide (60 < (a0.Summands.length : Int)))) (some false) ((slices_ContainsFunc_impl_Summand__impl_ValidLinear_c1 a0.Summands a0).bind fun x3 => some (!x3)))
def slices_Sort_int64_int64 (a0 : List Int) : Option (List Int) := if a0.length < 4611686018427387904 then some (a0.mergeSort fun x y => decide (x ≤ y)) else none
def slices_Compact_int64_int64 (a0 : List Int) : Option (List Int) := some (cpt none a0)
def impl_variables_k24 (k8 : (List Int) → Int → Option ((List Int))) (a0 : List impl_Term) (v3_24 : List Int) (v8_24 : Int) : Option ((List Int)) :=
  k8 v3_24 (IntKind.i64.wrap (v8_24 + 1))
def impl_variables_b8 (k8 : (List Int) → Int → Option ((List Int))) (a0 : List impl_Term) (v3_8 : List Int) (v8_8 : Int) : Option ((List Int)) :=
  cond (decide (v8_8 < (a0.length : Int))) ((getI a0 v8_8).bind fun x1 => cond (x1.Kind == 1) ((room 8 (v3_8.length + 1)).bind fun _ => impl_variables_k24 k8 a0 (v3_8 ++ [x1.Value]) v8_8) (impl_variables_k24 k8 a0 v3_8 v8_8)) ((slices_Sort_int64_int64 v3_8).bind fun x2 => (slices_Compact_int64_int64 x2).bind fun x3 => some x3)
def impl_variables_l8 (a0 : List impl_Term) : Nat → (List Int) → Int → Option ((List Int))
  | 0, _, _ => none
  | n + 1, v3_8, v8_8 => impl_variables_b8 (impl_variables_l8 a0 n) a0 v3_8 v8_8
def impl_variables (a0 : List impl_Term) : Option ((List Int)) :=
  lim fun n => impl_variables_l8 a0 n [] 0
def slices_Index_int64_int64_b6 (k6 : Int → Option Int) (a0 : List Int) (a1 : Int) (v8_6 : Int) : Option Int :=
  cond (decide (v8_6 < (a0.length : Int))) ((getI a0 v8_6).bind fun x1 => cond (a1 == x1) (some v8_6) (k6 (IntKind.i64.wrap (v8_6 + 1)))) (some (-1))
def slices_Index_int64_int64_l6 (a0 : List Int) (a1 : Int) : Nat → Int → Option Int
  | 0, _ => none
  | n + 1, v8_6 => slices_Index_int64_int64_b6 (slices_Index_int64_int64_l6 a0 a1 n) a0 a1 v8_6
def slices_Index_int64_int64 (a0 : List Int) (a1 : Int) : Option Int :=
  lim fun n => slices_Index_int64_int64_l6 a0 a1 n 0
def slices_Contains_int64_int64 (a0 : List Int) (a1 : Int) : Option Bool :=
  (slices_Index_int64_int64 a0 a1).bind fun x1 => some (decide (0 ≤ x1))
def impl_Linear_needed_c1_k26 (k8 : (List Int) → Bool → Int → Option (Bool × (List Int))) (a1 : impl_Linear) (x1 : (List Int)) (v2_26 : List Int) (v5_26 : Bool) (v11_26 : Int) : Option (Bool × (List Int)) :=
  k8 v2_26 v5_26 (IntKind.i64.wrap (v11_26 + 1))
def impl_Linear_needed_c1_b8 (k8 : (List Int) → Bool → Int → Option (Bool × (List Int))) (a1 : impl_Linear) (x1 : (List Int)) (v2_8 : List Int) (v5_8 : Bool) (v11_8 : Int) : Option (Bool × (List Int)) :=
  cond (decide (v11_8 < (x1.length : Int))) ((getI x1 v11_8).bind fun x2 => cond (decide (x2 < a1.Parameters)) ((slices_Contains_int64_int64 v2_8 x2).bind fun x3 => cond (!x3) ((room 8 (v2_8.length + 1)).bind fun _ => impl_Linear_needed_c1_k26 k8 a1 x1 (v2_8 ++ [x2]) true v11_8) (impl_Linear_needed_c1_k26 k8 a1 x1 v2_8 v5_8 v11_8)) (impl_Linear_needed_c1_k26 k8 a1 x1 v2_8 v5_8 v11_8)) (some (v5_8, v2_8))
def impl_Linear_needed_c1_l8 (a1 : impl_Linear) (x1 : (List Int)) : Nat → (List Int) → Bool → Int → Option (Bool × (List Int))
  | 0, _, _, _ => none
  | n + 1, v2_8, v5_8, v11_8 => impl_Linear_needed_c1_b8 (impl_Linear_needed_c1_l8 a1 x1 n) a1 x1 v2_8 v5_8 v11_8
def impl_Linear_needed_c1 (a0 : List impl_Term) (a1 : impl_Linear) : Option (Bool × (List Int)) :=
  (impl_variables a0).bind fun x1 => lim fun n => impl_Linear_needed_c1_l8 a1 x1 n [] false 0
def impl_Linear_needed_c1_2_k26 (k8 : (List Int) → Bool → Int → Option (Bool × (List Int))) (a1 : impl_Linear) (x1 : (List Int)) (v2_26 : List Int) (v5_26 : Bool) (v11_26 : Int) : Option (Bool × (List Int)) :=
  k8 v2_26 v5_26 (IntKind.i64.wrap (v11_26 + 1))
def impl_Linear_needed_c1_2_b8 (k8 : (List Int) → Bool → Int → Option (Bool × (List Int))) (a1 : impl_Linear) (x1 : (List Int)) (v2_8 : List Int) (v5_8 : Bool) (v11_8 : Int) : Option (Bool × (List Int)) :=
  cond (decide (v11_8 < (x1.length : Int))) ((getI x1 v11_8).bind fun x2 => cond (decide (x2 < a1.Parameters)) ((slices_Contains_int64_int64 v2_8 x2).bind fun x3 => cond (!x3) ((room 8 (v2_8.length + 1)).bind fun _ => impl_Linear_needed_c1_2_k26 k8 a1 x1 (v2_8 ++ [x2]) true v11_8) (impl_Linear_needed_c1_2_k26 k8 a1 x1 v2_8 v5_8 v11_8)) (impl_Linear_needed_c1_2_k26 k8 a1 x1 v2_8 v5_8 v11_8)) (some (v5_8, v2_8))
def impl_Linear_needed_c1_2_l8 (a1 : impl_Linear) (x1 : (List Int)) : Nat → (List Int) → Bool → Int → Option (Bool × (List Int))
  | 0, _, _, _ => none
  | n + 1, v2_8, v5_8, v11_8 => impl_Linear_needed_c1_2_b8 (impl_Linear_needed_c1_2_l8 a1 x1 n) a1 x1 v2_8 v5_8 v11_8
def impl_Linear_needed_c1_2 (a0 : List impl_Term) (a1 : impl_Linear) (a2 : List Int) : Option (Bool × (List Int)) :=
  (impl_variables a0).bind fun x1 => lim fun n => impl_Linear_needed_c1_2_l8 a1 x1 n a2 false 0
def impl_Linear_needed_b24 (k10 : (List Int) → Int → Option ((List Int))) (k24 : (List Int) → Int → (List (List impl_Term)) → Int → Int → Option ((List Int))) (a0 : impl_Linear) (v3_24 : List Int) (v16_24 : Int) (v26_24 : List (List impl_Term)) (v27_24 : Int) (v28_24 : Int) : Option ((List Int)) :=
  cond (decide (v28_24 < v27_24)) ((getI v26_24 v28_24).bind fun x3 => (impl_Linear_needed_c1_2 x3 a0 v3_24).bind fun x4 => k24 x4.2 v16_24 v26_24 v27_24 (IntKind.i64.wrap (v28_24 + 1))) (k10 v3_24 (IntKind.i64.wrap (v16_24 + 1)))
def impl_Linear_needed_l24 (k10 : (List Int) → Int → Option ((List Int))) (a0 : impl_Linear) : Nat → (List Int) → Int → (List (List impl_Term)) → Int → Int → Option ((List Int))
  | 0, _, _, _, _, _ => none
  | n + 1, v3_24, v16_24, v26_24, v27_24, v28_24 => impl_Linear_needed_b24 k10 (impl_Linear_needed_l24 k10 a0 n) a0 v3_24 v16_24 v26_24 v27_24 v28_24
def impl_Linear_needed_b54 (k42 : (List Int) → Int → Option ((List Int))) (k54 : (List Int) → Int → Int → Option ((List Int))) (a0 : impl_Linear) (v3_54 : List Int) (v9_54 : Int) (v46_54 : Int) : Option ((List Int)) :=
  cond (decide (v46_54 < (a0.Summands.length : Int))) ((getI a0.Summands v46_54).bind fun x5 => (getI v3_54 v9_54).bind fun x6 => (getI x5.Next x6).bind fun x7 => (impl_Linear_needed_c1_2 x7 a0 v3_54).bind fun x8 => k54 x8.2 v9_54 (IntKind.i64.wrap (v46_54 + 1))) (k42 v3_54 (IntKind.i64.wrap (v9_54 + 1)))
def impl_Linear_needed_l54 (k42 : (List Int) → Int → Option ((List Int))) (a0 : impl_Linear) : Nat → (List Int) → Int → Int → Option ((List Int))
  | 0, _, _, _ => none
  | n + 1, v3_54, v9_54, v46_54 => impl_Linear_needed_b54 k42 (impl_Linear_needed_l54 k42 a0 n) a0 v3_54 v9_54 v46_54
def impl_Linear_needed_b42 (k42 : (List Int) → Int → Option ((List Int))) (a0 : impl_Linear) (v3_42 : List Int) (v9_42 : Int) : Option ((List Int)) :=
  cond (decide (v9_42 < (v3_42.length : Int))) (lim fun n => impl_Linear_needed_l54 k42 a0 n v3_42 v9_42 0) ((slices_Sort_int64_int64 v3_42).bind fun x9 => some x9)
def impl_Linear_needed_l42 (a0 : impl_Linear) : Nat → (List Int) → Int → Option ((List Int))
  | 0, _, _ => none
  | n + 1, v3_42, v9_42 => impl_Linear_needed_b42 (impl_Linear_needed_l42 a0 n) a0 v3_42 v9_42
def impl_Linear_needed_b10 (k10 : (List Int) → Int → Option ((List Int))) (a0 : impl_Linear) (v3_10 : List Int) (v16_10 : Int) : Option ((List Int)) :=
  cond (decide (v16_10 < (a0.Summands.length : Int))) ((getI a0.Summands v16_10).bind fun x1 => (slices_Concat_impl_Term [[x1.Guard], x1.Arguments]).bind fun x2 => lim fun n => impl_Linear_needed_l24 k10 a0 n v3_10 v16_10 x2 (x2.length : Int) 0) (lim fun n => impl_Linear_needed_l42 a0 n v3_10 0)
def impl_Linear_needed_l10 (a0 : impl_Linear) : Nat → (List Int) → Int → Option ((List Int))
  | 0, _, _ => none
  | n + 1, v3_10, v16_10 => impl_Linear_needed_b10 (impl_Linear_needed_l10 a0 n) a0 v3_10 v16_10
def impl_Linear_needed (a0 : impl_Linear) : Option ((List Int)) :=
  lim fun n => impl_Linear_needed_l10 a0 n [] 0
def impl_NeededParameters (a0 : impl_Linear) : Option ((List Int) × Int) :=
  (impl_ValidLinear a0).bind fun x1 => cond (!x1) (some ([], 1)) ((impl_Linear_needed a0).bind fun x2 => some (x2, 0))
def laws_eqInt64S_b14 (k14 : Int → Option Bool) (a0 : List Int) (a1 : List Int) (v5_14 : Int) : Option Bool :=
  cond (decide (v5_14 < (a0.length : Int))) ((getI a0 v5_14).bind fun x1 => (getI a1 v5_14).bind fun x2 => cond (x1 != x2) (some false) (k14 (IntKind.i64.wrap (v5_14 + 1)))) (some true)
def laws_eqInt64S_l14 (a0 : List Int) (a1 : List Int) : Nat → Int → Option Bool
  | 0, _ => none
  | n + 1, v5_14 => laws_eqInt64S_b14 (laws_eqInt64S_l14 a0 a1 n) a0 a1 v5_14
def laws_eqInt64S (a0 : List Int) (a1 : List Int) : Option Bool :=
  cond ((a0.length : Int) != (a1.length : Int)) (some false) (lim fun n => laws_eqInt64S_l14 a0 a1 n 0)
def laws_eqTerm (a0 : impl_Term) (a1 : impl_Term) : Option Bool :=
  cond (a0.Kind != a1.Kind) (some false) (cond (a0.Value != a1.Value) (some false) (some true))
def laws_eqTermS_b14 (k14 : Int → Option Bool) (a0 : List impl_Term) (a1 : List impl_Term) (v5_14 : Int) : Option Bool :=
  cond (decide (v5_14 < (a0.length : Int))) ((getI a0 v5_14).bind fun x1 => (getI a1 v5_14).bind fun x2 => (laws_eqTerm x1 x2).bind fun x3 => cond (!x3) (some false) (k14 (IntKind.i64.wrap (v5_14 + 1)))) (some true)
def laws_eqTermS_l14 (a0 : List impl_Term) (a1 : List impl_Term) : Nat → Int → Option Bool
  | 0, _ => none
  | n + 1, v5_14 => laws_eqTermS_b14 (laws_eqTermS_l14 a0 a1 n) a0 a1 v5_14
def laws_eqTermS (a0 : List impl_Term) (a1 : List impl_Term) : Option Bool :=
  cond ((a0.length : Int) != (a1.length : Int)) (some false) (lim fun n => laws_eqTermS_l14 a0 a1 n 0)
def laws_eqTermSS_b14 (k14 : Int → Option Bool) (a0 : List (List impl_Term)) (a1 : List (List impl_Term)) (v5_14 : Int) : Option Bool :=
  cond (decide (v5_14 < (a0.length : Int))) ((getI a0 v5_14).bind fun x1 => (getI a1 v5_14).bind fun x2 => (laws_eqTermS x1 x2).bind fun x3 => cond (!x3) (some false) (k14 (IntKind.i64.wrap (v5_14 + 1)))) (some true)
def laws_eqTermSS_l14 (a0 : List (List impl_Term)) (a1 : List (List impl_Term)) : Nat → Int → Option Bool
  | 0, _ => none
  | n + 1, v5_14 => laws_eqTermSS_b14 (laws_eqTermSS_l14 a0 a1 n) a0 a1 v5_14
def laws_eqTermSS (a0 : List (List impl_Term)) (a1 : List (List impl_Term)) : Option Bool :=
  cond ((a0.length : Int) != (a1.length : Int)) (some false) (lim fun n => laws_eqTermSS_l14 a0 a1 n 0)
def laws_eqSummand (a0 : impl_Summand) (a1 : impl_Summand) : Option Bool :=
  (laws_eqInt64S a0.Sums a1.Sums).bind fun x1 => cond (!x1) (some false) ((laws_eqTermS a0.Guard a1.Guard).bind fun x2 => cond (!x2) (some false) (cond (!(a0.Name == a1.Name)) (some false) ((laws_eqTermSS a0.Arguments a1.Arguments).bind fun x3 => cond (!x3) (some false) ((laws_eqTermSS a0.Next a1.Next).bind fun x4 => cond (!x4) (some false) (some true)))))
def laws_eqSummandS_b14 (k14 : Int → Option Bool) (a0 : List impl_Summand) (a1 : List impl_Summand) (v5_14 : Int) : Option Bool :=
  cond (decide (v5_14 < (a0.length : Int))) ((getI a0 v5_14).bind fun x1 => (getI a1 v5_14).bind fun x2 => (laws_eqSummand x1 x2).bind fun x3 => cond (!x3) (some false) (k14 (IntKind.i64.wrap (v5_14 + 1)))) (some true)
def laws_eqSummandS_l14 (a0 : List impl_Summand) (a1 : List impl_Summand) : Nat → Int → Option Bool
  | 0, _ => none
  | n + 1, v5_14 => laws_eqSummandS_b14 (laws_eqSummandS_l14 a0 a1 n) a0 a1 v5_14
def laws_eqSummandS (a0 : List impl_Summand) (a1 : List impl_Summand) : Option Bool :=
  cond ((a0.length : Int) != (a1.length : Int)) (some false) (lim fun n => laws_eqSummandS_l14 a0 a1 n 0)
def laws_eqLinear (a0 : impl_Linear) (a1 : impl_Linear) : Option Bool :=
  cond (a0.Parameters != a1.Parameters) (some false) ((laws_eqInt64S a0.Start a1.Start).bind fun x1 => cond (!x1) (some false) ((laws_eqSummandS a0.Summands a1.Summands).bind fun x2 => cond (!x2) (some false) (some true)))
def laws_markInt64S_b6 (k6 : (List Int) → Int → Int → Option (Int × (List Int))) (v0_6 : List Int) (v1_6 : Int) (v5_6 : Int) : Option (Int × (List Int)) :=
  cond (decide (v5_6 < (v0_6.length : Int))) ((getI v0_6 v5_6).bind fun x1 => k6 (List.set v0_6 (Int.toNat v5_6) v1_6) (IntKind.i64.wrap (v1_6 + 1)) (IntKind.i64.wrap (v5_6 + 1))) (some (v1_6, v0_6))
def laws_markInt64S_l6 : Nat → (List Int) → Int → Int → Option (Int × (List Int))
  | 0, _, _, _ => none
  | n + 1, v0_6, v1_6, v5_6 => laws_markInt64S_b6 (laws_markInt64S_l6 n) v0_6 v1_6 v5_6
def laws_markInt64S (a0 : List Int) (a1 : Int) : Option (Int × (List Int)) :=
  lim fun n => laws_markInt64S_l6 n a0 a1 0
def laws_markTermS_b6 (k6 : (List impl_Term) → Int → Int → Option (Int × (List impl_Term))) (v0_6 : List impl_Term) (v1_6 : Int) (v5_6 : Int) : Option (Int × (List impl_Term)) :=
  cond (decide (v5_6 < (v0_6.length : Int))) ((getI v0_6 v5_6).bind fun x1 => (getI (List.set v0_6 (Int.toNat v5_6) (impl_Term.mk v1_6 x1.Value)) v5_6).bind fun x2 => k6 (List.set (List.set v0_6 (Int.toNat v5_6) (impl_Term.mk v1_6 x1.Value)) (Int.toNat v5_6) (impl_Term.mk x2.Kind (IntKind.i64.wrap (v1_6 + 1)))) (IntKind.i64.wrap ((IntKind.i64.wrap (v1_6 + 1)) + 1)) (IntKind.i64.wrap (v5_6 + 1))) (some (v1_6, v0_6))
def laws_markTermS_l6 : Nat → (List impl_Term) → Int → Int → Option (Int × (List impl_Term))
  | 0, _, _, _ => none
  | n + 1, v0_6, v1_6, v5_6 => laws_markTermS_b6 (laws_markTermS_l6 n) v0_6 v1_6 v5_6
def laws_markTermS (a0 : List impl_Term) (a1 : Int) : Option (Int × (List impl_Term)) :=
  lim fun n => laws_markTermS_l6 n a0 a1 0
def laws_markText_b14 (k14 : Int → (List UInt8) → Option ((List UInt8))) (v0_14 : Int) (v3_14 : List UInt8) : Option ((List UInt8)) :=
  cond (decide (0 < v0_14)) ((okLen (1 + v3_14.length)).bind fun _ => k14 (IntKind.i64.wrap (Int.tdiv v0_14 10)) ([(toB (IntKind.i64.wrap (48 + (Int.tmod v0_14 10))))] ++ v3_14)) ((okLen (1 + v3_14.length)).bind fun _ => some (([109] : List UInt8) ++ v3_14))
def laws_markText_l14 : Nat → Int → (List UInt8) → Option ((List UInt8))
  | 0, _, _ => none
  | n + 1, v0_14, v3_14 => laws_markText_b14 (laws_markText_l14 n) v0_14 v3_14
def laws_markText (a0 : Int) : Option ((List UInt8)) :=
  cond (decide (a0 ≤ 0)) (some ([109, 48] : List UInt8)) (lim fun n => laws_markText_l14 n a0 ([] : List UInt8))
def laws_markTermSS_b6 (k6 : (List (List impl_Term)) → Int → Int → Option (Int × (List (List impl_Term)))) (v0_6 : List (List impl_Term)) (v1_6 : Int) (v5_6 : Int) : Option (Int × (List (List impl_Term))) :=
  cond (decide (v5_6 < (v0_6.length : Int))) ((getI v0_6 v5_6).bind fun x1 => (laws_markTermS x1 v1_6).bind fun x2 => k6 (List.set v0_6 (Int.toNat v5_6) x2.2) x2.1 (IntKind.i64.wrap (v5_6 + 1))) (some (v1_6, v0_6))
def laws_markTermSS_l6 : Nat → (List (List impl_Term)) → Int → Int → Option (Int × (List (List impl_Term)))
  | 0, _, _, _ => none
  | n + 1, v0_6, v1_6, v5_6 => laws_markTermSS_b6 (laws_markTermSS_l6 n) v0_6 v1_6 v5_6
def laws_markTermSS (a0 : List (List impl_Term)) (a1 : Int) : Option (Int × (List (List impl_Term))) :=
  lim fun n => laws_markTermSS_l6 n a0 a1 0
def laws_markSummandS_b6 (k6 : (List impl_Summand) → Int → Int → Option (Int × (List impl_Summand))) (v0_6 : List impl_Summand) (v1_6 : Int) (v5_6 : Int) : Option (Int × (List impl_Summand)) :=
  cond (decide (v5_6 < (v0_6.length : Int))) ((getI v0_6 v5_6).bind fun x1 => (laws_markInt64S x1.Sums v1_6).bind fun x2 => (getI (List.set v0_6 (Int.toNat v5_6) (impl_Summand.mk x2.2 x1.Guard x1.Name x1.Arguments x1.Next)) v5_6).bind fun x3 => (laws_markTermS x3.Guard x2.1).bind fun x4 => (laws_markText x4.1).bind fun x5 => (getI (List.set (List.set v0_6 (Int.toNat v5_6) (impl_Summand.mk x2.2 x1.Guard x1.Name x1.Arguments x1.Next)) (Int.toNat v5_6) (impl_Summand.mk x3.Sums x4.2 x3.Name x3.Arguments x3.Next)) v5_6).bind fun x6 => (getI (List.set (List.set (List.set v0_6 (Int.toNat v5_6) (impl_Summand.mk x2.2 x1.Guard x1.Name x1.Arguments x1.Next)) (Int.toNat v5_6) (impl_Summand.mk x3.Sums x4.2 x3.Name x3.Arguments x3.Next)) (Int.toNat v5_6) (impl_Summand.mk x6.Sums x6.Guard x5 x6.Arguments x6.Next)) v5_6).bind fun x7 => (laws_markTermSS x7.Arguments (IntKind.i64.wrap (x4.1 + 1))).bind fun x8 => (getI (List.set (List.set (List.set (List.set v0_6 (Int.toNat v5_6) (impl_Summand.mk x2.2 x1.Guard x1.Name x1.Arguments x1.Next)) (Int.toNat v5_6) (impl_Summand.mk x3.Sums x4.2 x3.Name x3.Arguments x3.Next)) (Int.toNat v5_6) (impl_Summand.mk x6.Sums x6.Guard x5 x6.Arguments x6.Next)) (Int.toNat v5_6) (impl_Summand.mk x7.Sums x7.Guard x7.Name x8.2 x7.Next)) v5_6).bind fun x9 => (laws_markTermSS x9.Next x8.1).bind fun x10 => k6 (List.set (List.set (List.set (List.set (List.set v0_6 (Int.toNat v5_6) (impl_Summand.mk x2.2 x1.Guard x1.Name x1.Arguments x1.Next)) (Int.toNat v5_6) (impl_Summand.mk x3.Sums x4.2 x3.Name x3.Arguments x3.Next)) (Int.toNat v5_6) (impl_Summand.mk x6.Sums x6.Guard x5 x6.Arguments x6.Next)) (Int.toNat v5_6) (impl_Summand.mk x7.Sums x7.Guard x7.Name x8.2 x7.Next)) (Int.toNat v5_6) (impl_Summand.mk x9.Sums x9.Guard x9.Name x9.Arguments x10.2)) x10.1 (IntKind.i64.wrap (v5_6 + 1))) (some (v1_6, v0_6))
def laws_markSummandS_l6 : Nat → (List impl_Summand) → Int → Int → Option (Int × (List impl_Summand))
  | 0, _, _, _ => none
  | n + 1, v0_6, v1_6, v5_6 => laws_markSummandS_b6 (laws_markSummandS_l6 n) v0_6 v1_6 v5_6
def laws_markSummandS (a0 : List impl_Summand) (a1 : Int) : Option (Int × (List impl_Summand)) :=
  lim fun n => laws_markSummandS_l6 n a0 a1 0
def laws_markLinear (a000 : Int) (a001 : List Int) (a002 : List impl_Summand) (a1 : Int) : Option (Int × Int × (List Int) × (List impl_Summand)) :=
  (laws_markInt64S a001 a1).bind fun x1 => (laws_markSummandS a002 x1.1).bind fun x2 => some (x2.1, a000, x1.2, x2.2)
def laws_heldInt64S_b6 (k6 : Int → Int → Option Int) (a0 : List Int) (v1_6 : Int) (v5_6 : Int) : Option Int :=
  cond (decide (v5_6 < (a0.length : Int))) ((getI a0 v5_6).bind fun x1 => cond (x1 != v1_6) (some (-1)) (k6 (IntKind.i64.wrap (v1_6 + 1)) (IntKind.i64.wrap (v5_6 + 1)))) (some v1_6)
def laws_heldInt64S_l6 (a0 : List Int) : Nat → Int → Int → Option Int
  | 0, _, _ => none
  | n + 1, v1_6, v5_6 => laws_heldInt64S_b6 (laws_heldInt64S_l6 a0 n) a0 v1_6 v5_6
def laws_heldInt64S (a0 : List Int) (a1 : Int) : Option Int :=
  lim fun n => laws_heldInt64S_l6 a0 n a1 0
def laws_FnExactNeededParameters (a0 : laws_Linear) : Option Bool :=
  (laws_szLinear a0 1048576).bind fun x1 => cond (decide (x1 < 0)) (some true) ((laws_toLinear a0).bind fun x2 => (spec_NeededParameters x2).bind fun x3 => (laws_toLinear a0).bind fun x4 => (impl_NeededParameters x4).bind fun x5 => (laws_eqInt64S x5.1 x3.1).bind fun x6 => cond ((!x6) || (x5.2 != x3.2)) (some false) ((laws_toLinear a0).bind fun x7 => (laws_eqLinear x4 x7).bind fun x8 => cond (!x8) (some false) ((laws_markLinear x4.Parameters x4.Start x4.Summands 1).bind fun x9 => cond (decide (x9.1 < 0)) (some false) ((laws_eqInt64S x5.1 x3.1).bind fun x10 => cond ((!x10) || (x5.2 != x3.2)) (some false) ((laws_markInt64S x5.1 1).bind fun x11 => (laws_heldInt64S x11.2 1).bind fun x12 => cond (decide (x12 < 0)) (some false) (cond (x12 != x11.1) (some false) ((laws_toLinear a0).bind fun x13 => (impl_NeededParameters x13).bind fun x14 => (laws_eqInt64S x14.1 x3.1).bind fun x15 => cond ((!x15) || (x14.2 != x3.2)) (some false) ((laws_heldInt64S x11.2 1).bind fun x16 => cond (decide (x16 < 0)) (some false) (cond (x16 != x11.1) (some false) (some true))))))))))
end
end Go.Sh
