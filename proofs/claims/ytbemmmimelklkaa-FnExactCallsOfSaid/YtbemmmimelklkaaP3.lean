/- Part of a proof that a law returns true for every input. No condition. -/
import Derived.Test.YtbemmmimelklkaaFwA
namespace Go.Sh
open Go Go.Fw
set_option linter.unusedVariables false
noncomputable section
structure laws_Term where
  Kind : Int
  Value : Int
def wf_laws_Term (x : laws_Term) : Prop := (-9223372036854775808 ≤ x.Kind ∧ x.Kind ≤ 9223372036854775807) ∧ (-9223372036854775808 ≤ x.Value ∧ x.Value ≤ 9223372036854775807)
structure laws_Part where
  Kind : Int
  Number : Int
  Name : List UInt8
  Arguments : List (List laws_Term)
def wf_laws_Part (x : laws_Part) : Prop := (-9223372036854775808 ≤ x.Kind ∧ x.Kind ≤ 9223372036854775807) ∧ (-9223372036854775808 ≤ x.Number ∧ x.Number ≤ 9223372036854775807) ∧ x.Name.length ≤ 9223372036854775807 ∧ (x.Arguments.length ≤ 9223372036854775807 ∧ ∀ y ∈ x.Arguments, (y.length ≤ 9223372036854775807 ∧ ∀ z ∈ y, wf_laws_Term z))
structure laws_Definition where
  Name : List UInt8
  Parameters : Int
  Body : List laws_Part
def wf_laws_Definition (x : laws_Definition) : Prop := x.Name.length ≤ 9223372036854775807 ∧ (-9223372036854775808 ≤ x.Parameters ∧ x.Parameters ≤ 9223372036854775807) ∧ (x.Body.length ≤ 9223372036854775807 ∧ ∀ y ∈ x.Body, wf_laws_Part y)
structure impl_Term where
  Kind : Int
  Value : Int
def wf_impl_Term (x : impl_Term) : Prop := (-9223372036854775808 ≤ x.Kind ∧ x.Kind ≤ 9223372036854775807) ∧ (-9223372036854775808 ≤ x.Value ∧ x.Value ≤ 9223372036854775807)
structure impl_Part where
  Kind : Int
  Number : Int
  Name : List UInt8
  Arguments : List (List impl_Term)
def wf_impl_Part (x : impl_Part) : Prop := (-9223372036854775808 ≤ x.Kind ∧ x.Kind ≤ 9223372036854775807) ∧ (-9223372036854775808 ≤ x.Number ∧ x.Number ≤ 9223372036854775807) ∧ x.Name.length ≤ 9223372036854775807 ∧ (x.Arguments.length ≤ 9223372036854775807 ∧ ∀ y ∈ x.Arguments, (y.length ≤ 9223372036854775807 ∧ ∀ z ∈ y, wf_impl_Term z))
structure impl_Definition where
  Name : List UInt8
  Parameters : Int
  Body : List impl_Part
def wf_impl_Definition (x : impl_Definition) : Prop := x.Name.length ≤ 9223372036854775807 ∧ (-9223372036854775808 ≤ x.Parameters ∧ x.Parameters ≤ 9223372036854775807) ∧ (x.Body.length ≤ 9223372036854775807 ∧ ∀ y ∈ x.Body, wf_impl_Part y)
structure impl_place where
  scope : Int
  behind : Bool
def wf_impl_place (x : impl_place) : Prop := (-9223372036854775808 ≤ x.scope ∧ x.scope ≤ 9223372036854775807) ∧ True
def laws_szTermS (a0 : List laws_Term) (a1 : Int) : Option Int :=
  cond (decide ((IntKind.i64.wrap (a1 - (a0.length : Int))) < 0)) (some (-1)) (some (IntKind.i64.wrap (a1 - (a0.length : Int))))
def laws_szTermSS_b16 (k16 : Int → Int → Option Int) (a0 : List (List laws_Term)) (v1_16 : Int) (v5_16 : Int) : Option Int :=
  cond (decide (v5_16 < (a0.length : Int))) ((getI a0 v5_16).bind fun x1 => (laws_szTermS x1 v1_16).bind fun x2 => cond (decide (x2 < 0)) (some (-1)) (k16 x2 (IntKind.i64.wrap (v5_16 + 1)))) (some v1_16)
def laws_szTermSS_l16 (a0 : List (List laws_Term)) : Nat → Int → Int → Option Int
  | 0, _, _ => none
  | n + 1, v1_16, v5_16 => laws_szTermSS_b16 (laws_szTermSS_l16 a0 n) a0 v1_16 v5_16
def laws_szTermSS (a0 : List (List laws_Term)) (a1 : Int) : Option Int :=
  cond (decide ((IntKind.i64.wrap (a1 - (a0.length : Int))) < 0)) (some (-1)) (lim fun n => laws_szTermSS_l16 a0 n (IntKind.i64.wrap (a1 - (a0.length : Int))) 0)
def laws_szPart (a0 : laws_Part) (a1 : Int) : Option Int :=
  cond (decide ((IntKind.i64.wrap (a1 - (a0.Name.length : Int))) < 0)) (some (-1)) ((laws_szTermSS a0.Arguments (IntKind.i64.wrap (a1 - (a0.Name.length : Int)))).bind fun x1 => cond (decide (x1 < 0)) (some (-1)) (some x1))
def laws_szPartS_b16 (k16 : Int → Int → Option Int) (a0 : List laws_Part) (v1_16 : Int) (v5_16 : Int) : Option Int :=
  cond (decide (v5_16 < (a0.length : Int))) ((getI a0 v5_16).bind fun x1 => (laws_szPart x1 v1_16).bind fun x2 => cond (decide (x2 < 0)) (some (-1)) (k16 x2 (IntKind.i64.wrap (v5_16 + 1)))) (some v1_16)
def laws_szPartS_l16 (a0 : List laws_Part) : Nat → Int → Int → Option Int
  | 0, _, _ => none
  | n + 1, v1_16, v5_16 => laws_szPartS_b16 (laws_szPartS_l16 a0 n) a0 v1_16 v5_16
def laws_szPartS (a0 : List laws_Part) (a1 : Int) : Option Int :=
  cond (decide ((IntKind.i64.wrap (a1 - (a0.length : Int))) < 0)) (some (-1)) (lim fun n => laws_szPartS_l16 a0 n (IntKind.i64.wrap (a1 - (a0.length : Int))) 0)
def laws_szDefinition (a0 : laws_Definition) (a1 : Int) : Option Int :=
  cond (decide ((IntKind.i64.wrap (a1 - (a0.Name.length : Int))) < 0)) (some (-1)) ((laws_szPartS a0.Body (IntKind.i64.wrap (a1 - (a0.Name.length : Int)))).bind fun x1 => cond (decide (x1 < 0)) (some (-1)) (some x1))
def laws_szDefinitionS_b16 (k16 : Int → Int → Option Int) (a0 : List laws_Definition) (v1_16 : Int) (v5_16 : Int) : Option Int :=
  cond (decide (v5_16 < (a0.length : Int))) ((getI a0 v5_16).bind fun x1 => (laws_szDefinition x1 v1_16).bind fun x2 => cond (decide (x2 < 0)) (some (-1)) (k16 x2 (IntKind.i64.wrap (v5_16 + 1)))) (some v1_16)
def laws_szDefinitionS_l16 (a0 : List laws_Definition) : Nat → Int → Int → Option Int
  | 0, _, _ => none
  | n + 1, v1_16, v5_16 => laws_szDefinitionS_b16 (laws_szDefinitionS_l16 a0 n) a0 v1_16 v5_16
def laws_szDefinitionS (a0 : List laws_Definition) (a1 : Int) : Option Int :=
  cond (decide ((IntKind.i64.wrap (a1 - (a0.length : Int))) < 0)) (some (-1)) (lim fun n => laws_szDefinitionS_l16 a0 n (IntKind.i64.wrap (a1 - (a0.length : Int))) 0)
def laws_toTerm (a0 : laws_Term) : Option impl_Term :=
  some (impl_Term.mk a0.Kind a0.Value)
def laws_toTermS_b8 (k8 : (List impl_Term) → Int → Option ((List impl_Term))) (a0 : List laws_Term) (v3_8 : List impl_Term) (v4_8 : Int) : Option ((List impl_Term)) :=
  cond (decide (v4_8 < (a0.length : Int))) ((getI a0 v4_8).bind fun x1 => (laws_toTerm x1).bind fun x2 => (getI v3_8 v4_8).bind fun x3 => k8 (List.set v3_8 (Int.toNat v4_8) x2) (IntKind.i64.wrap (v4_8 + 1))) (some v3_8)
def laws_toTermS_l8 (a0 : List laws_Term) : Nat → (List impl_Term) → Int → Option ((List impl_Term))
  | 0, _, _ => none
  | n + 1, v3_8, v4_8 => laws_toTermS_b8 (laws_toTermS_l8 a0 n) a0 v3_8 v4_8
def laws_toTermS (a0 : List laws_Term) : Option ((List impl_Term)) :=
  (mkOk 16 (a0.length : Int)).bind fun _ => lim fun n => laws_toTermS_l8 a0 n (List.replicate (Int.toNat (a0.length : Int)) (impl_Term.mk 0 0)) 0
def laws_toTermSS_b8 (k8 : (List (List impl_Term)) → Int → Option ((List (List impl_Term)))) (a0 : List (List laws_Term)) (v3_8 : List (List impl_Term)) (v4_8 : Int) : Option ((List (List impl_Term))) :=
  cond (decide (v4_8 < (a0.length : Int))) ((getI a0 v4_8).bind fun x1 => (laws_toTermS x1).bind fun x2 => (getI v3_8 v4_8).bind fun x3 => k8 (List.set v3_8 (Int.toNat v4_8) x2) (IntKind.i64.wrap (v4_8 + 1))) (some v3_8)
def laws_toTermSS_l8 (a0 : List (List laws_Term)) : Nat → (List (List impl_Term)) → Int → Option ((List (List impl_Term)))
  | 0, _, _ => none
  | n + 1, v3_8, v4_8 => laws_toTermSS_b8 (laws_toTermSS_l8 a0 n) a0 v3_8 v4_8
def laws_toTermSS (a0 : List (List laws_Term)) : Option ((List (List impl_Term))) :=
  (mkOk 24 (a0.length : Int)).bind fun _ => lim fun n => laws_toTermSS_l8 a0 n (List.replicate (Int.toNat (a0.length : Int)) []) 0
def laws_toPart (a0 : laws_Part) : Option impl_Part :=
  (laws_toTermSS a0.Arguments).bind fun x1 => some (impl_Part.mk a0.Kind a0.Number a0.Name x1)
def laws_toPartS_b8 (k8 : (List impl_Part) → Int → Option ((List impl_Part))) (a0 : List laws_Part) (v3_8 : List impl_Part) (v4_8 : Int) : Option ((List impl_Part)) :=
  cond (decide (v4_8 < (a0.length : Int))) ((getI a0 v4_8).bind fun x1 => (laws_toPart x1).bind fun x2 => (getI v3_8 v4_8).bind fun x3 => k8 (List.set v3_8 (Int.toNat v4_8) x2) (IntKind.i64.wrap (v4_8 + 1))) (some v3_8)
def laws_toPartS_l8 (a0 : List laws_Part) : Nat → (List impl_Part) → Int → Option ((List impl_Part))
  | 0, _, _ => none
  | n + 1, v3_8, v4_8 => laws_toPartS_b8 (laws_toPartS_l8 a0 n) a0 v3_8 v4_8
def laws_toPartS (a0 : List laws_Part) : Option ((List impl_Part)) :=
  (mkOk 56 (a0.length : Int)).bind fun _ => lim fun n => laws_toPartS_l8 a0 n (List.replicate (Int.toNat (a0.length : Int)) (impl_Part.mk 0 0 ([] : List UInt8) [])) 0
def laws_toDefinition (a0 : laws_Definition) : Option impl_Definition :=
  (laws_toPartS a0.Body).bind fun x1 => some (impl_Definition.mk a0.Name a0.Parameters x1)
def laws_toDefinitionS_b8 (k8 : (List impl_Definition) → Int → Option ((List impl_Definition))) (a0 : List laws_Definition) (v3_8 : List impl_Definition) (v4_8 : Int) : Option ((List impl_Definition)) :=
  cond (decide (v4_8 < (a0.length : Int))) ((getI a0 v4_8).bind fun x1 => (laws_toDefinition x1).bind fun x2 => (getI v3_8 v4_8).bind fun x3 => k8 (List.set v3_8 (Int.toNat v4_8) x2) (IntKind.i64.wrap (v4_8 + 1))) (some v3_8)
def laws_toDefinitionS_l8 (a0 : List laws_Definition) : Nat → (List impl_Definition) → Int → Option ((List impl_Definition))
  | 0, _, _ => none
  | n + 1, v3_8, v4_8 => laws_toDefinitionS_b8 (laws_toDefinitionS_l8 a0 n) a0 v3_8 v4_8
def laws_toDefinitionS (a0 : List laws_Definition) : Option ((List impl_Definition)) :=
  (mkOk 48 (a0.length : Int)).bind fun _ => lim fun n => laws_toDefinitionS_l8 a0 n (List.replicate (Int.toNat (a0.length : Int)) (impl_Definition.mk ([] : List UInt8) 0 [])) 0
def spec_l01Small (a0 : UInt8) : Option Bool :=
  some ((decide (97 ≤ (a0.toNat : Int))) && (decide ((a0.toNat : Int) ≤ 122)))
def spec_l01Digit (a0 : UInt8) : Option Bool :=
  some ((decide (48 ≤ (a0.toNat : Int))) && (decide ((a0.toNat : Int) ≤ 57)))
def spec_l01Name_b14 (k14 : Int → Option Bool) (a0 : List UInt8) (v3_14 : Int) : Option Bool :=
  cond (decide (v3_14 < (a0.length : Int))) ((getI a0 v3_14).bind fun x3 => (spec_l01Small x3).bind fun x4 => cond (!x4) ((spec_l01Digit x3).bind fun x5 => cond (!x5) (some false) (k14 (IntKind.i64.wrap (v3_14 + 1)))) (k14 (IntKind.i64.wrap (v3_14 + 1)))) (some true)
def spec_l01Name_l14 (a0 : List UInt8) : Nat → Int → Option Bool
  | 0, _ => none
  | n + 1, v3_14 => spec_l01Name_b14 (spec_l01Name_l14 a0 n) a0 v3_14
def spec_l01Name (a0 : List UInt8) : Option Bool :=
  cond (a0 == ([] : List UInt8)) (some false) (cond (decide (10 < (a0.length : Int))) (some false) ((getI a0 0).bind fun x1 => (spec_l01Small x1).bind fun x2 => cond (!x2) (some false) (lim fun n => spec_l01Name_l14 a0 n 0)))
def spec_l00In (a0 : Int) (a1 : Int) (a2 : Int) : Option Bool :=
  some ((decide (a1 ≤ a0)) && (decide (a0 ≤ a2)))
def spec_l05Follow_k16 (a0 : impl_Part) (v7_16 : Bool) : Option Int :=
  cond v7_16 (some 1) (cond (a0.Kind == 2) (some 2) (some 0))
def spec_l05Follow (a0 : impl_Part) : Option Int :=
  cond (a0.Kind == 1) (spec_l05Follow_k16 a0 true) (cond (a0.Kind == 3) (spec_l05Follow_k16 a0 true) (spec_l05Follow_k16 a0 (a0.Kind == 4)))
def spec_l05Shape_b16 (k16 : Int → Int → Option Bool) (a0 : List impl_Part) (v3_16 : Int) (v4_16 : Int) : Option Bool :=
  cond (decide (v4_16 < (a0.length : Int))) (cond (v3_16 == 0) (some false) ((getI a0 v4_16).bind fun x1 => (spec_l05Follow x1).bind fun x2 => k16 (IntKind.i64.wrap (v3_16 + (IntKind.i64.wrap (x2 - 1)))) (IntKind.i64.wrap (v4_16 + 1)))) (some (v3_16 == 0))
def spec_l05Shape_l16 (a0 : List impl_Part) : Nat → Int → Int → Option Bool
  | 0, _, _ => none
  | n + 1, v3_16, v4_16 => spec_l05Shape_b16 (spec_l05Shape_l16 a0 n) a0 v3_16 v4_16
def spec_l05Shape (a0 : List impl_Part) : Option Bool :=
  cond (((a0.length : Int) == 0) || (decide (20 < (a0.length : Int)))) (some false) (lim fun n => spec_l05Shape_l16 a0 n 1 0)
def spec_l05Kind_k12 (a0 : impl_Part) (v7_12 : Bool) : Option Bool :=
  cond v7_12 (some (((a0.Number == 0) && (a0.Name == ([] : List UInt8))) && ((a0.Arguments.length : Int) == 0))) (cond (a0.Kind == 1) (some (a0.Number == 0)) (cond (a0.Kind == 3) (some ((a0.Number == 0) && (a0.Name == ([] : List UInt8)))) (cond (a0.Kind == 4) (some ((a0.Name == ([] : List UInt8)) && ((a0.Arguments.length : Int) == 0))) (cond (a0.Kind == 5) (some (a0.Name == ([] : List UInt8))) (some false)))))
def spec_l05Kind (a0 : impl_Part) : Option Bool :=
  cond (a0.Kind == 0) (spec_l05Kind_k12 a0 true) (spec_l05Kind_k12 a0 (a0.Kind == 2))
def spec_l05End_b6 (k6 : Int → Int → Option Int) (a0 : List impl_Part) (v1_6 : Int) (v5_6 : Int) : Option Int :=
  cond (decide (0 < v5_6)) ((getI a0 v1_6).bind fun x1 => (spec_l05Follow x1).bind fun x2 => k6 (IntKind.i64.wrap (v1_6 + 1)) (IntKind.i64.wrap (v5_6 + (IntKind.i64.wrap (x2 - 1))))) (some v1_6)
def spec_l05End_l6 (a0 : List impl_Part) : Nat → Int → Int → Option Int
  | 0, _, _ => none
  | n + 1, v1_6, v5_6 => spec_l05End_b6 (spec_l05End_l6 a0 n) a0 v1_6 v5_6
def spec_l05End (a0 : List impl_Part) (a1 : Int) : Option Int :=
  lim fun n => spec_l05End_l6 a0 n a1 1
def spec_l05Scope_k22 (k8 : Int → Int → Option Int) (a0 : impl_Definition) (a1 : Int) (v5_22 : Int) (v6_22 : Int) : Option Int :=
  k8 v5_22 (IntKind.i64.wrap (v6_22 + 1))
def spec_l05Scope_b8 (k8 : Int → Int → Option Int) (a0 : impl_Definition) (a1 : Int) (v5_8 : Int) (v6_8 : Int) : Option Int :=
  cond (decide (v6_8 < a1)) ((getI a0.Body v6_8).bind fun x1 => cond (x1.Kind == 4) ((spec_l05End a0.Body v6_8).bind fun x2 => cond (decide (a1 < x2)) (spec_l05Scope_k22 k8 a0 a1 (IntKind.i64.wrap (v5_8 + 1)) v6_8) (spec_l05Scope_k22 k8 a0 a1 v5_8 v6_8)) (spec_l05Scope_k22 k8 a0 a1 v5_8 v6_8)) (some v5_8)
def spec_l05Scope_l8 (a0 : impl_Definition) (a1 : Int) : Nat → Int → Int → Option Int
  | 0, _, _ => none
  | n + 1, v5_8, v6_8 => spec_l05Scope_b8 (spec_l05Scope_l8 a0 a1 n) a0 a1 v5_8 v6_8
def spec_l05Scope (a0 : impl_Definition) (a1 : Int) : Option Int :=
  lim fun n => spec_l05Scope_l8 a0 a1 n a0.Parameters 0
def spec_l03Term (a0 : impl_Term) (a1 : Int) : Option Bool :=
  cond (a0.Kind == 0) ((spec_l00In a0.Value 0 63).bind fun x1 => some x1) (cond (a0.Kind == 1) ((spec_l00In a0.Value 0 (IntKind.i64.wrap (a1 - 1))).bind fun x2 => some x2) (cond (a0.Kind == 2) ((spec_l00In a0.Value 0 8).bind fun x3 => some x3) (cond (a0.Kind == 3) (some (a0.Value == 0)) (some false))))
def spec_l03Arity (a0 : impl_Term) : Option Int :=
  cond (a0.Kind == 2) (some 2) (cond (a0.Kind == 3) (some 1) (some 0))
def spec_l03Is_b16 (k16 : Int → Int → Option Bool) (a0 : List impl_Term) (a1 : Int) (v7_16 : Int) (v8_16 : Int) : Option Bool :=
  cond (decide (v8_16 < (a0.length : Int))) (cond (v7_16 == 0) (some false) ((getI a0 v8_16).bind fun x1 => (spec_l03Term x1 a1).bind fun x2 => cond (!x2) (some false) ((spec_l03Arity x1).bind fun x3 => k16 (IntKind.i64.wrap (v7_16 + (IntKind.i64.wrap (x3 - 1)))) (IntKind.i64.wrap (v8_16 + 1))))) (some (v7_16 == 0))
def spec_l03Is_l16 (a0 : List impl_Term) (a1 : Int) : Nat → Int → Int → Option Bool
  | 0, _, _ => none
  | n + 1, v7_16, v8_16 => spec_l03Is_b16 (spec_l03Is_l16 a0 a1 n) a0 a1 v7_16 v8_16
def spec_l03Is (a0 : List impl_Term) (a1 : Int) (a2 : Int) : Option Bool :=
  cond (decide (a2 < (a0.length : Int))) (some false) (lim fun n => spec_l03Is_l16 a0 a1 n 1 0)
def spec_l05Reason_b87 (k87 : Int → Int → Option Int) (x1 : impl_Part) (v9_87 : Int) (v10_87 : Int) : Option Int :=
  cond (decide (v10_87 < (x1.Arguments.length : Int))) ((getI x1.Arguments v10_87).bind fun x4 => (spec_l03Is x4 v9_87 15).bind fun x5 => cond (!x5) (some 8) (k87 v9_87 (IntKind.i64.wrap (v10_87 + 1)))) (some 0)
def spec_l05Reason_l87 (x1 : impl_Part) : Nat → Int → Int → Option Int
  | 0, _, _ => none
  | n + 1, v9_87, v10_87 => spec_l05Reason_b87 (spec_l05Reason_l87 x1 n) x1 v9_87 v10_87
def spec_l05Reason_k68 (a1 : impl_Definition) (a2 : Int) (x1 : impl_Part) (v102_68 : Bool) : Option Int :=
  cond v102_68 (some 6) ((spec_l05Scope a1 a2).bind fun x3 => cond ((x1.Kind == 4) && (decide (6 ≤ x3))) (some 7) (lim fun n => spec_l05Reason_l87 x1 n x3 0))
def spec_l05Reason_k65 (a1 : impl_Definition) (a2 : Int) (x1 : impl_Part) : Option Int :=
  cond (x1.Kind == 5) (cond (a2 == 0) (spec_l05Reason_k68 a1 a2 x1 true) ((getI a1.Body (IntKind.i64.wrap (a2 - 1))).bind fun x6 => spec_l05Reason_k68 a1 a2 x1 (x6.Kind != 1))) (spec_l05Reason_k68 a1 a2 x1 false)
def spec_l05Reason_k23 (a0 : List impl_Definition) (a1 : impl_Definition) (a2 : Int) (x1 : impl_Part) (v51_23 : Bool) : Option Int :=
  cond v51_23 (some 4) (cond (x1.Kind == 1) (cond ((decide (2 < (x1.Arguments.length : Int))) || ((decide (0 < (x1.Arguments.length : Int))) && (x1.Name == ([116, 97, 117] : List UInt8)))) (some 5) (spec_l05Reason_k65 a1 a2 x1)) (cond (x1.Kind == 3) (cond ((x1.Arguments.length : Int) != 1) (some 5) (spec_l05Reason_k65 a1 a2 x1)) (cond (x1.Kind == 5) ((getI a0 x1.Number).bind fun x7 => cond ((x1.Arguments.length : Int) != x7.Parameters) (some 5) (spec_l05Reason_k65 a1 a2 x1)) (spec_l05Reason_k65 a1 a2 x1))))
def spec_l05Reason_k15 (a0 : List impl_Definition) (a1 : impl_Definition) (a2 : Int) (x1 : impl_Part) (v28_15 : Bool) : Option Int :=
  cond v28_15 (some 3) (cond (x1.Kind == 4) ((spec_l00In x1.Number 1 7).bind fun x8 => cond (!x8) (spec_l05Reason_k23 a0 a1 a2 x1 true) (cond (x1.Kind == 5) ((spec_l00In x1.Number 0 (IntKind.i64.wrap ((a0.length : Int) - 1))).bind fun x9 => spec_l05Reason_k23 a0 a1 a2 x1 (!x9)) (spec_l05Reason_k23 a0 a1 a2 x1 false))) (cond (x1.Kind == 5) ((spec_l00In x1.Number 0 (IntKind.i64.wrap ((a0.length : Int) - 1))).bind fun x10 => spec_l05Reason_k23 a0 a1 a2 x1 (!x10)) (spec_l05Reason_k23 a0 a1 a2 x1 false)))
def spec_l05Reason (a0 : List impl_Definition) (a1 : impl_Definition) (a2 : Int) : Option Int :=
  (getI a1.Body a2).bind fun x1 => (spec_l05Kind x1).bind fun x2 => cond (!x2) (some 2) (cond (x1.Kind == 1) ((spec_l01Name x1.Name).bind fun x11 => spec_l05Reason_k15 a0 a1 a2 x1 (!x11)) (spec_l05Reason_k15 a0 a1 a2 x1 false))
def spec_l05Body_b14 (k14 : Int → Option (Int × Int)) (a0 : List impl_Definition) (a1 : impl_Definition) (v6_14 : Int) : Option (Int × Int) :=
  cond (decide (v6_14 < (a1.Body.length : Int))) ((spec_l05Reason a0 a1 v6_14).bind fun x2 => cond (decide (0 < x2)) (some (v6_14, x2)) (k14 (IntKind.i64.wrap (v6_14 + 1)))) (some (0, 0))
def spec_l05Body_l14 (a0 : List impl_Definition) (a1 : impl_Definition) : Nat → Int → Option (Int × Int)
  | 0, _ => none
  | n + 1, v6_14 => spec_l05Body_b14 (spec_l05Body_l14 a0 a1 n) a0 a1 v6_14
def spec_l05Body (a0 : List impl_Definition) (a1 : impl_Definition) : Option (Int × Int) :=
  (spec_l05Shape a1.Body).bind fun x1 => cond (!x1) (some (0, 1)) (lim fun n => spec_l05Body_l14 a0 a1 n 0)
def spec_l05Defs_b34 (k14 : Int → Option Bool) (k34 : Int → Int → Option Bool) (a0 : List impl_Definition) (v3_34 : Int) (v4_34 : Int) : Option Bool :=
  cond (decide (v4_34 < v3_34)) ((getI a0 v4_34).bind fun x4 => (getI a0 v3_34).bind fun x5 => cond (x4.Name == x5.Name) (some false) (k34 v3_34 (IntKind.i64.wrap (v4_34 + 1)))) (k14 (IntKind.i64.wrap (v3_34 + 1)))
def spec_l05Defs_l34 (k14 : Int → Option Bool) (a0 : List impl_Definition) : Nat → Int → Int → Option Bool
  | 0, _, _ => none
  | n + 1, v3_34, v4_34 => spec_l05Defs_b34 k14 (spec_l05Defs_l34 k14 a0 n) a0 v3_34 v4_34
def spec_l05Defs_b56 (k56 : Int → Option Bool) (a0 : List impl_Definition) (v5_56 : Int) : Option Bool :=
  cond (decide (v5_56 < (a0.length : Int))) ((getI a0 v5_56).bind fun x6 => (spec_l05Body a0 x6).bind fun x7 => cond (decide (0 < x7.2)) (some false) (k56 (IntKind.i64.wrap (v5_56 + 1)))) (some true)
def spec_l05Defs_l56 (a0 : List impl_Definition) : Nat → Int → Option Bool
  | 0, _ => none
  | n + 1, v5_56 => spec_l05Defs_b56 (spec_l05Defs_l56 a0 n) a0 v5_56
def spec_l05Defs_b14 (k14 : Int → Option Bool) (a0 : List impl_Definition) (v3_14 : Int) : Option Bool :=
  cond (decide (v3_14 < (a0.length : Int))) ((getI a0 v3_14).bind fun x1 => (spec_l01Name x1.Name).bind fun x2 => cond (!x2) (some false) ((spec_l00In x1.Parameters 0 3).bind fun x3 => cond (!x3) (some false) (lim fun n => spec_l05Defs_l34 k14 a0 n v3_14 0))) (lim fun n => spec_l05Defs_l56 a0 n 0)
def spec_l05Defs_l14 (a0 : List impl_Definition) : Nat → Int → Option Bool
  | 0, _ => none
  | n + 1, v3_14 => spec_l05Defs_b14 (spec_l05Defs_l14 a0 n) a0 v3_14
def spec_l05Defs (a0 : List impl_Definition) : Option Bool :=
  cond (((a0.length : Int) == 0) || (decide (4 < (a0.length : Int)))) (some false) (lim fun n => spec_l05Defs_l14 a0 n 0)
def spec_l05Ask (a0 : List impl_Definition) (a1 : Int) (a2 : Int) : Option Int :=
  (spec_l05Defs a0).bind fun x1 => cond (!x1) (some 1) ((spec_l00In a1 0 (IntKind.i64.wrap ((a0.length : Int) - 1))).bind fun x2 => cond (!x2) (some 2) ((getI a0 a1).bind fun x3 => (spec_l00In a2 0 (IntKind.i64.wrap ((x3.Body.length : Int) - 1))).bind fun x4 => cond (!x4) (some 2) (some 0)))
def spec_l00Put_k31 (k10 : (List Int) → Bool → Int → Option ((List Int))) (a0 : List Int) (a1 : Int) (v5_31 : List Int) (v6_31 : Bool) (v7_31 : Int) : Option ((List Int)) :=
  (getI a0 v7_31).bind fun x1 => (room 8 (v5_31.length + 1)).bind fun _ => k10 (v5_31 ++ [x1]) v6_31 (IntKind.i64.wrap (v7_31 + 1))
def spec_l00Put_k39 (v5_39 : List Int) : Option ((List Int)) :=
  some v5_39
def spec_l00Put_b10 (k10 : (List Int) → Bool → Int → Option ((List Int))) (a0 : List Int) (a1 : Int) (v5_10 : List Int) (v6_10 : Bool) (v7_10 : Int) : Option ((List Int)) :=
  cond (decide (v7_10 < (a0.length : Int))) (cond (!v6_10) ((getI a0 v7_10).bind fun x2 => cond (decide (a1 ≤ x2)) (cond (decide (a1 < x2)) ((room 8 (v5_10.length + 1)).bind fun _ => spec_l00Put_k31 k10 a0 a1 (v5_10 ++ [a1]) true v7_10) (spec_l00Put_k31 k10 a0 a1 v5_10 true v7_10)) (spec_l00Put_k31 k10 a0 a1 v5_10 false v7_10)) (spec_l00Put_k31 k10 a0 a1 v5_10 true v7_10)) (cond (!v6_10) ((room 8 (v5_10.length + 1)).bind fun _ => spec_l00Put_k39 (v5_10 ++ [a1])) (spec_l00Put_k39 v5_10))
def spec_l00Put_l10 (a0 : List Int) (a1 : Int) : Nat → (List Int) → Bool → Int → Option ((List Int))
  | 0, _, _, _ => none
  | n + 1, v5_10, v6_10, v7_10 => spec_l00Put_b10 (spec_l00Put_l10 a0 a1 n) a0 a1 v5_10 v6_10 v7_10
def spec_l00Put (a0 : List Int) (a1 : Int) : Option ((List Int)) :=
  lim fun n => spec_l00Put_l10 a0 a1 n [] false 0
def spec_l05Calls_k22 (k8 : (List Int) → Int → Option ((List Int))) (a0 : List impl_Part) (v3_22 : List Int) (v4_22 : Int) : Option ((List Int)) :=
  k8 v3_22 (IntKind.i64.wrap (v4_22 + 1))
def spec_l05Calls_b8 (k8 : (List Int) → Int → Option ((List Int))) (a0 : List impl_Part) (v3_8 : List Int) (v4_8 : Int) : Option ((List Int)) :=
  cond (decide (v4_8 < (a0.length : Int))) ((getI a0 v4_8).bind fun x1 => cond (x1.Kind == 5) ((spec_l00Put v3_8 x1.Number).bind fun x2 => spec_l05Calls_k22 k8 a0 x2 v4_8) (spec_l05Calls_k22 k8 a0 v3_8 v4_8)) (some v3_8)
def spec_l05Calls_l8 (a0 : List impl_Part) : Nat → (List Int) → Int → Option ((List Int))
  | 0, _, _ => none
  | n + 1, v3_8, v4_8 => spec_l05Calls_b8 (spec_l05Calls_l8 a0 n) a0 v3_8 v4_8
def spec_l05Calls (a0 : List impl_Part) : Option ((List Int)) :=
  lim fun n => spec_l05Calls_l8 a0 n [] 0
def spec_CallsOf (a0 : List impl_Definition) (a1 : Int) : Option ((List Int) × Int) :=
  (spec_l05Ask a0 a1 0).bind fun x1 => cond (x1 != 0) (some ([], x1)) ((getI a0 a1).bind fun x2 => (spec_l05Calls x2.Body).bind fun x3 => some (x3, 0))
def impl_within (a0 : Int) (a1 : Int) (a2 : Int) : Option Bool :=
  some ((decide (a1 ≤ a0)) && (decide (a0 ≤ a2)))
def impl_parametersOk_c1 (a0 : impl_Definition) : Option Bool :=
  (impl_within a0.Parameters 0 3).bind fun x1 => some (!x1)
def slices_IndexFunc_impl_Definition__impl_parametersOk_c1_b6 (k6 : Int → Option Int) (a0 : List impl_Definition) (v8_6 : Int) : Option Int :=
  cond (decide (v8_6 < (a0.length : Int))) ((getI a0 v8_6).bind fun x1 => (impl_parametersOk_c1 x1).bind fun x2 => cond x2 (some v8_6) (k6 (IntKind.i64.wrap (v8_6 + 1)))) (some (-1))
def slices_IndexFunc_impl_Definition__impl_parametersOk_c1_l6 (a0 : List impl_Definition) : Nat → Int → Option Int
  | 0, _ => none
  | n + 1, v8_6 => slices_IndexFunc_impl_Definition__impl_parametersOk_c1_b6 (slices_IndexFunc_impl_Definition__impl_parametersOk_c1_l6 a0 n) a0 v8_6
def slices_IndexFunc_impl_Definition__impl_parametersOk_c1 (a0 : List impl_Definition) : Option Int :=
  lim fun n => slices_IndexFunc_impl_Definition__impl_parametersOk_c1_l6 a0 n 0
def slices_ContainsFunc_impl_Definition__impl_parametersOk_c1 (a0 : List impl_Definition) : Option Bool :=
  (slices_IndexFunc_impl_Definition__impl_parametersOk_c1 a0).bind fun x1 => some (decide (0 ≤ x1))
def impl_parametersOk (a0 : List impl_Definition) : Option Bool :=
  (slices_ContainsFunc_impl_Definition__impl_parametersOk_c1 a0).bind fun x1 => some (!x1)
def impl_isDigit (a0 : UInt8) : Option Bool :=
  some ((decide (48 ≤ (a0.toNat : Int))) && (decide ((a0.toNat : Int) ≤ 57)))
def impl_IsName_b6 (k6 : Int → Option Bool) (a0 : List UInt8) (v7_6 : Int) : Option Bool :=
  cond (decide (v7_6 < (a0.length : Int))) ((getI a0 v7_6).bind fun x1 => cond (!((decide (97 ≤ (x1.toNat : Int))) && (decide ((x1.toNat : Int) ≤ 122)))) (cond (v7_6 == 0) (some false) ((impl_isDigit x1).bind fun x2 => cond (!x2) (some false) (k6 (IntKind.i64.wrap (v7_6 + 1))))) (k6 (IntKind.i64.wrap (v7_6 + 1)))) (some ((decide (1 ≤ (a0.length : Int))) && (decide ((a0.length : Int) ≤ 10))))
def impl_IsName_l6 (a0 : List UInt8) : Nat → Int → Option Bool
  | 0, _ => none
  | n + 1, v7_6 => impl_IsName_b6 (impl_IsName_l6 a0 n) a0 v7_6
def impl_IsName (a0 : List UInt8) : Option Bool :=
  lim fun n => impl_IsName_l6 a0 n 0
def impl_definitionNamed_c1_2 (a0 : impl_Definition) (a1 : List UInt8) : Option Bool :=
  some (a0.Name == a1)
def slices_IndexFunc_impl_Definition__impl_definitionNamed_c1_b6 (k6 : Int → Option Int) (a0 : List impl_Definition) (a1 : List UInt8) (v8_6 : Int) : Option Int :=
  cond (decide (v8_6 < (a0.length : Int))) ((getI a0 v8_6).bind fun x1 => (impl_definitionNamed_c1_2 x1 a1).bind fun x2 => cond x2 (some v8_6) (k6 (IntKind.i64.wrap (v8_6 + 1)))) (some (-1))
def slices_IndexFunc_impl_Definition__impl_definitionNamed_c1_l6 (a0 : List impl_Definition) (a1 : List UInt8) : Nat → Int → Option Int
  | 0, _ => none
  | n + 1, v8_6 => slices_IndexFunc_impl_Definition__impl_definitionNamed_c1_b6 (slices_IndexFunc_impl_Definition__impl_definitionNamed_c1_l6 a0 a1 n) a0 a1 v8_6
def slices_IndexFunc_impl_Definition__impl_definitionNamed_c1 (a0 : List impl_Definition) (a1 : List UInt8) : Option Int :=
  lim fun n => slices_IndexFunc_impl_Definition__impl_definitionNamed_c1_l6 a0 a1 n 0
def impl_definitionNamed (a0 : List impl_Definition) (a1 : List UInt8) : Option Int :=
  (slices_IndexFunc_impl_Definition__impl_definitionNamed_c1 a0 a1).bind fun x1 => some x1
def impl_Part_follow_k16 (a0 : impl_Part) (v5_16 : Bool) : Option Int :=
  cond v5_16 (some 1) (cond (a0.Kind == 2) (some 2) (some 0))
def impl_Part_follow (a0 : impl_Part) : Option Int :=
  cond (a0.Kind == 1) (impl_Part_follow_k16 a0 true) (cond (a0.Kind == 3) (impl_Part_follow_k16 a0 true) (impl_Part_follow_k16 a0 (a0.Kind == 4)))
def impl_Definition_end_b6 (k6 : Int → Int → Option Int) (a0 : impl_Definition) (v1_6 : Int) (v5_6 : Int) : Option Int :=
  cond (decide (0 < v5_6)) (cond (decide ((a0.Body.length : Int) ≤ v1_6)) (some (-1)) ((getI a0.Body v1_6).bind fun x1 => (impl_Part_follow x1).bind fun x2 => k6 (IntKind.i64.wrap (v1_6 + 1)) (IntKind.i64.wrap (v5_6 + (IntKind.i64.wrap (x2 - 1)))))) (some v1_6)
def impl_Definition_end_l6 (a0 : impl_Definition) : Nat → Int → Int → Option Int
  | 0, _, _ => none
  | n + 1, v1_6, v5_6 => impl_Definition_end_b6 (impl_Definition_end_l6 a0 n) a0 v1_6 v5_6
def impl_Definition_end (a0 : impl_Definition) (a1 : Int) : Option Int :=
  lim fun n => impl_Definition_end_l6 a0 n a1 1
def impl_Definition_places_c1_b20 (rec52 : Int → impl_place → (List impl_place) → impl_Definition → Option (Int × (List impl_place))) (k20 : (List impl_place) → Int → Int → Option (Int × (List impl_place))) (a3 : impl_Definition) (v9_14 : Int) (x2 : impl_Part) (x3 : Int) (v2_20 : List impl_place) (v10_20 : Int) (v37_20 : Int) : Option (Int × (List impl_place)) :=
  cond (decide (v37_20 < x3)) ((rec52 v10_20 (impl_place.mk v9_14 (x2.Kind == 1)) v2_20 a3).bind fun x4 => k20 x4.2 x4.1 (IntKind.i64.wrap (v37_20 + 1))) (some (v10_20, v2_20))
def impl_Definition_places_c1_l20 (rec52 : Int → impl_place → (List impl_place) → impl_Definition → Option (Int × (List impl_place))) (a3 : impl_Definition) (v9_14 : Int) (x2 : impl_Part) (x3 : Int) : Nat → (List impl_place) → Int → Int → Option (Int × (List impl_place))
  | 0, _, _, _ => none
  | n + 1, v2_20, v10_20, v37_20 => impl_Definition_places_c1_b20 rec52 (impl_Definition_places_c1_l20 rec52 a3 v9_14 x2 x3 n) a3 v9_14 x2 x3 v2_20 v10_20 v37_20
def impl_Definition_places_c1_k14 (rec52 : Int → impl_place → (List impl_place) → impl_Definition → Option (Int × (List impl_place))) (a0 : Int) (a1 : impl_place) (a2 : List impl_place) (a3 : impl_Definition) (x2 : impl_Part) (v9_14 : Int) : Option (Int × (List impl_place)) :=
  (impl_Part_follow x2).bind fun x3 => lim fun n => impl_Definition_places_c1_l20 rec52 a3 v9_14 x2 x3 n (List.set a2 (Int.toNat a0) a1) (IntKind.i64.wrap (a0 + 1)) 0
def impl_Definition_places_c1_f (rec52 : Int → impl_place → (List impl_place) → impl_Definition → Option (Int × (List impl_place))) (a0 : Int) (a1 : impl_place) (a2 : List impl_place) (a3 : impl_Definition) : Option (Int × (List impl_place)) :=
  (getI a2 a0).bind fun x1 => (getI a3.Body a0).bind fun x2 => cond (x2.Kind == 4) (impl_Definition_places_c1_k14 rec52 a0 a1 a2 a3 x2 (IntKind.i64.wrap (a1.scope + 1))) (impl_Definition_places_c1_k14 rec52 a0 a1 a2 a3 x2 a1.scope)
def impl_Definition_places_c1_r : Nat → Int → impl_place → (List impl_place) → impl_Definition → Option (Int × (List impl_place))
  | 0, _, _, _, _ => none
  | n + 1, a0, a1, a2, a3 => impl_Definition_places_c1_f (impl_Definition_places_c1_r n) a0 a1 a2 a3
def impl_Definition_places_c1 (a0 : Int) (a1 : impl_place) (a2 : List impl_place) (a3 : impl_Definition) : Option (Int × (List impl_place)) :=
  lim fun n => impl_Definition_places_c1_r n a0 a1 a2 a3
def impl_Definition_places (a0 : impl_Definition) : Option ((List impl_place)) :=
  (mkOk 16 (a0.Body.length : Int)).bind fun _ => (impl_Definition_places_c1 0 (impl_place.mk a0.Parameters false) (List.replicate (Int.toNat (a0.Body.length : Int)) (impl_place.mk 0 false)) a0).bind fun x1 => some x1.2
def impl_Part_kindOk (a0 : impl_Part) : Option Bool :=
  (impl_within a0.Kind 0 5).bind fun x1 => some (((x1 && (((a0.Kind == 4) || (a0.Kind == 5)) || (a0.Number == 0))) && ((a0.Kind == 1) || (a0.Name == ([] : List UInt8)))) && ((((a0.Kind == 1) || (a0.Kind == 3)) || (a0.Kind == 5)) || ((a0.Arguments.length : Int) == 0)))
def impl_IsAction (a0 : List UInt8) : Option Bool :=
  (impl_IsName a0).bind fun x1 => some (x1 && (!(a0 == ([116, 97, 117] : List UInt8))))
def impl_index (a0 : Int) (a1 : Int) : Option Bool :=
  (impl_within a0 0 (IntKind.i64.wrap (a1 - 1))).bind fun x1 => some x1
def impl_Part_countOk (a0 : impl_Part) (a1 : List impl_Definition) : Option Bool :=
  cond (a0.Kind == 1) (some (((a0.Arguments.length : Int) == 0) || ((!(a0.Name == ([116, 97, 117] : List UInt8))) && (decide ((a0.Arguments.length : Int) ≤ 2))))) (cond (a0.Kind == 3) (some ((a0.Arguments.length : Int) == 1)) (cond (a0.Kind == 5) ((getI a1 a0.Number).bind fun x1 => some ((a0.Arguments.length : Int) == x1.Parameters)) (some true)))
def impl_isValue (a0 : Int) : Option Bool :=
  (impl_within a0 0 63).bind fun x1 => some x1
def impl_Term_valid (a0 : impl_Term) (a1 : Int) : Option Bool :=
  cond (a0.Kind == 0) ((impl_isValue a0.Value).bind fun x1 => some x1) (cond (a0.Kind == 1) ((impl_within a0.Value 0 (IntKind.i64.wrap (a1 - 1))).bind fun x2 => some x2) (cond (a0.Kind == 2) ((impl_within a0.Value 0 8).bind fun x3 => some x3) (cond (a0.Kind == 3) (some (a0.Value == 0)) (some false))))
def impl_Term_operands (a0 : impl_Term) : Option Int :=
  cond (a0.Kind == 2) (some 2) (cond (a0.Kind == 3) (some 1) (some 0))
def impl_ValidTerms_b16 (k16 : Int → Int → Option Bool) (a0 : List impl_Term) (a1 : Int) (v7_16 : Int) (v27_16 : Int) : Option Bool :=
  cond (decide (v27_16 < (a0.length : Int))) ((getI a0 v27_16).bind fun x4 => cond (v7_16 == 0) (some false) ((impl_Term_valid x4 a1).bind fun x5 => cond (!x5) (some false) ((impl_Term_operands x4).bind fun x6 => k16 (IntKind.i64.wrap (v7_16 + (IntKind.i64.wrap (x6 - 1)))) (IntKind.i64.wrap (v27_16 + 1))))) (some (v7_16 == 0))
def impl_ValidTerms_l16 (a0 : List impl_Term) (a1 : Int) : Nat → Int → Int → Option Bool
  | 0, _, _ => none
  | n + 1, v7_16, v27_16 => impl_ValidTerms_b16 (impl_ValidTerms_l16 a0 a1 n) a0 a1 v7_16 v27_16
def impl_ValidTerms (a0 : List impl_Term) (a1 : Int) (a2 : Int) : Option Bool :=
  (impl_within a1 0 29).bind fun x1 => cond (!x1) (some false) ((impl_within a2 1 60).bind fun x2 => cond (!x2) (some false) ((impl_within (a0.length : Int) 1 a2).bind fun x3 => cond (!x3) (some false) (lim fun n => impl_ValidTerms_l16 a0 a1 n 1 0)))
def impl_Part_reason_c1_2 (a0 : List impl_Term) (a1 : impl_place) : Option Bool :=
  (impl_ValidTerms a0 a1.scope 15).bind fun x1 => some (!x1)
def slices_IndexFunc_impl_Term__impl_Part_reason_c1_b6 (k6 : Int → Option Int) (a0 : List (List impl_Term)) (a1 : impl_place) (v8_6 : Int) : Option Int :=
  cond (decide (v8_6 < (a0.length : Int))) ((getI a0 v8_6).bind fun x1 => (impl_Part_reason_c1_2 x1 a1).bind fun x2 => cond x2 (some v8_6) (k6 (IntKind.i64.wrap (v8_6 + 1)))) (some (-1))
def slices_IndexFunc_impl_Term__impl_Part_reason_c1_l6 (a0 : List (List impl_Term)) (a1 : impl_place) : Nat → Int → Option Int
  | 0, _ => none
  | n + 1, v8_6 => slices_IndexFunc_impl_Term__impl_Part_reason_c1_b6 (slices_IndexFunc_impl_Term__impl_Part_reason_c1_l6 a0 a1 n) a0 a1 v8_6
def slices_IndexFunc_impl_Term__impl_Part_reason_c1 (a0 : List (List impl_Term)) (a1 : impl_place) : Option Int :=
  lim fun n => slices_IndexFunc_impl_Term__impl_Part_reason_c1_l6 a0 a1 n 0
def slices_ContainsFunc_impl_Term__impl_Part_reason_c1 (a0 : List (List impl_Term)) (a1 : impl_place) : Option Bool :=
  (slices_IndexFunc_impl_Term__impl_Part_reason_c1 a0 a1).bind fun x1 => some (decide (0 ≤ x1))
def impl_Part_reason_k18 (a0 : impl_Part) (a1 : List impl_Definition) (a2 : impl_place) (v26_18 : Bool) : Option Int :=
  cond v26_18 (some 4) ((impl_Part_countOk a0 a1).bind fun x2 => cond (!x2) (some 5) (cond ((a0.Kind == 5) && (!a2.behind)) (some 6) (cond ((a0.Kind == 4) && (decide (6 ≤ a2.scope))) (some 7) ((slices_ContainsFunc_impl_Term__impl_Part_reason_c1 a0.Arguments a2).bind fun x3 => cond x3 (some 8) (some 0)))))
def impl_Part_reason_k12 (a0 : impl_Part) (a1 : List impl_Definition) (a2 : impl_place) (v11_12 : Bool) : Option Int :=
  cond v11_12 (some 3) (cond (a0.Kind == 4) ((impl_within a0.Number 1 7).bind fun x4 => cond (!x4) (impl_Part_reason_k18 a0 a1 a2 true) (cond (a0.Kind == 5) ((impl_index a0.Number (a1.length : Int)).bind fun x5 => impl_Part_reason_k18 a0 a1 a2 (!x5)) (impl_Part_reason_k18 a0 a1 a2 false))) (cond (a0.Kind == 5) ((impl_index a0.Number (a1.length : Int)).bind fun x6 => impl_Part_reason_k18 a0 a1 a2 (!x6)) (impl_Part_reason_k18 a0 a1 a2 false)))
def impl_Part_reason (a0 : impl_Part) (a1 : List impl_Definition) (a2 : impl_place) : Option Int :=
  (impl_Part_kindOk a0).bind fun x1 => cond (!x1) (some 2) (cond (a0.Kind == 1) (cond (!(a0.Name == ([116, 97, 117] : List UInt8))) ((impl_IsAction a0.Name).bind fun x7 => impl_Part_reason_k12 a0 a1 a2 (!x7)) (impl_Part_reason_k12 a0 a1 a2 false)) (impl_Part_reason_k12 a0 a1 a2 false))
def impl_bodyFault_b16 (k16 : Int → Option (Int × Int)) (a0 : List impl_Definition) (a1 : impl_Definition) (x3 : (List impl_place)) (v28_16 : Int) : Option (Int × Int) :=
  cond (decide (v28_16 < (a1.Body.length : Int))) ((getI a1.Body v28_16).bind fun x4 => (getI x3 v28_16).bind fun x5 => (impl_Part_reason x4 a0 x5).bind fun x6 => cond (x6 != 0) (some (v28_16, x6)) (k16 (IntKind.i64.wrap (v28_16 + 1)))) (some (0, 0))
def impl_bodyFault_l16 (a0 : List impl_Definition) (a1 : impl_Definition) (x3 : (List impl_place)) : Nat → Int → Option (Int × Int)
  | 0, _ => none
  | n + 1, v28_16 => impl_bodyFault_b16 (impl_bodyFault_l16 a0 a1 x3 n) a0 a1 x3 v28_16
def impl_bodyFault (a0 : List impl_Definition) (a1 : impl_Definition) : Option (Int × Int) :=
  (impl_within (a1.Body.length : Int) 1 20).bind fun x1 => cond (!x1) (some (0, 1)) ((impl_Definition_end a1 0).bind fun x2 => cond (x2 != (a1.Body.length : Int)) (some (0, 1)) ((impl_Definition_places a1).bind fun x3 => lim fun n => impl_bodyFault_l16 a0 a1 x3 n 0))
def impl_ValidDefinitions_b14 (k14 : Int → Option Bool) (a0 : List impl_Definition) (v18_14 : Int) : Option Bool :=
  cond (decide (v18_14 < (a0.length : Int))) ((getI a0 v18_14).bind fun x3 => (impl_IsName x3.Name).bind fun x4 => cond (!x4) (some false) ((subL a0 0 v18_14).bind fun x5 => (impl_definitionNamed x5 x3.Name).bind fun x6 => cond (decide (0 ≤ x6)) (some false) ((impl_bodyFault a0 x3).bind fun x7 => cond (x7.2 != 0) (some false) (k14 (IntKind.i64.wrap (v18_14 + 1)))))) (some true)
def impl_ValidDefinitions_l14 (a0 : List impl_Definition) : Nat → Int → Option Bool
  | 0, _ => none
  | n + 1, v18_14 => impl_ValidDefinitions_b14 (impl_ValidDefinitions_l14 a0 n) a0 v18_14
def impl_ValidDefinitions (a0 : List impl_Definition) : Option Bool :=
  (impl_within (a0.length : Int) 1 4).bind fun x1 => cond (!x1) (some false) ((impl_parametersOk a0).bind fun x2 => cond (!x2) (some false) (lim fun n => impl_ValidDefinitions_l14 a0 n 0))
def impl_partCode (a0 : List impl_Definition) (a1 : Int) (a2 : Int) : Option Int :=
  (impl_ValidDefinitions a0).bind fun x1 => cond (!x1) (some 1) ((impl_index a1 (a0.length : Int)).bind fun x2 => cond (!x2) (some 2) ((getI a0 a1).bind fun x3 => (impl_index a2 (x3.Body.length : Int)).bind fun x4 => cond (!x4) (some 2) (some 0)))
def slices_Sort_int64_int64 (a0 : List Int) : Option (List Int) := if a0.length < 4611686018427387904 then some (a0.mergeSort fun x y => decide (x ≤ y)) else none
def slices_Compact_int64_int64 (a0 : List Int) : Option (List Int) := some (cpt none a0)
def impl_Definition_calls_k24 (k8 : (List Int) → Int → Option ((List Int))) (a0 : impl_Definition) (v3_24 : List Int) (v9_24 : Int) : Option ((List Int)) :=
  k8 v3_24 (IntKind.i64.wrap (v9_24 + 1))
def impl_Definition_calls_b8 (k8 : (List Int) → Int → Option ((List Int))) (a0 : impl_Definition) (v3_8 : List Int) (v9_8 : Int) : Option ((List Int)) :=
  cond (decide (v9_8 < (a0.Body.length : Int))) ((getI a0.Body v9_8).bind fun x1 => cond (x1.Kind == 5) ((room 8 (v3_8.length + 1)).bind fun _ => impl_Definition_calls_k24 k8 a0 (v3_8 ++ [x1.Number]) v9_8) (impl_Definition_calls_k24 k8 a0 v3_8 v9_8)) ((slices_Sort_int64_int64 v3_8).bind fun x2 => (slices_Compact_int64_int64 x2).bind fun x3 => some x3)
def impl_Definition_calls_l8 (a0 : impl_Definition) : Nat → (List Int) → Int → Option ((List Int))
  | 0, _, _ => none
  | n + 1, v3_8, v9_8 => impl_Definition_calls_b8 (impl_Definition_calls_l8 a0 n) a0 v3_8 v9_8
def impl_Definition_calls (a0 : impl_Definition) : Option ((List Int)) :=
  lim fun n => impl_Definition_calls_l8 a0 n [] 0
def impl_CallsOf (a0 : List impl_Definition) (a1 : Int) : Option ((List Int) × Int) :=
  (impl_partCode a0 a1 0).bind fun x1 => cond (x1 != 0) (some ([], x1)) ((getI a0 a1).bind fun x2 => (impl_Definition_calls x2).bind fun x3 => some (x3, 0))
def laws_eqInt64S_b14 (k14 : Int → Option Bool) (a0 : List Int) (a1 : List Int) (v5_14 : Int) : Option Bool :=
  cond (decide (v5_14 < (a0.length : Int))) ((getI a0 v5_14).bind fun x1 => (getI a1 v5_14).bind fun x2 => cond (x1 != x2) (some false) (k14 (IntKind.i64.wrap (v5_14 + 1)))) (some true)
def laws_eqInt64S_l14 (a0 : List Int) (a1 : List Int) : Nat → Int → Option Bool
  | 0, _ => none
  | n + 1, v5_14 => laws_eqInt64S_b14 (laws_eqInt64S_l14 a0 a1 n) a0 a1 v5_14
def laws_eqInt64S (a0 : List Int) (a1 : List Int) : Option Bool :=
  cond ((a0.length : Int) != (a1.length : Int)) (some false) (lim fun n => laws_eqInt64S_l14 a0 a1 n 0)
def laws_eqTerm (a0 : impl_Term) (a1 : impl_Term) : Option Bool :=
  cond (a0.Kind != a1.Kind) (some false) (cond (a0.Value != a1.Value) (some false) (some true))
def laws_eqTermS_b14 (k14 : Int → Option Bool) (a0 : List impl_Term) (a1 : List impl_Term) (v5_14 : Int) : Option Bool :=
  cond (decide (v5_14 < (a0.length : Int))) ((getI a0 v5_14).bind fun x1 => (getI a1 v5_14).bind fun x2 => (laws_eqTerm x1 x2).bind fun x3 => cond (!x3) (some false) (k14 (IntKind.i64.wrap (v5_14 + 1)))) (some true)
def laws_eqTermS_l14 (a0 : List impl_Term) (a1 : List impl_Term) : Nat → Int → Option Bool
  | 0, _ => none
  | n + 1, v5_14 => laws_eqTermS_b14 (laws_eqTermS_l14 a0 a1 n) a0 a1 v5_14
def laws_eqTermS (a0 : List impl_Term) (a1 : List impl_Term) : Option Bool :=
  cond ((a0.length : Int) != (a1.length : Int)) (some false) (lim fun n => laws_eqTermS_l14 a0 a1 n 0)
def laws_eqTermSS_b14 (k14 : Int → Option Bool) (a0 : List (List impl_Term)) (a1 : List (List impl_Term)) (v5_14 : Int) : Option Bool :=
  cond (decide (v5_14 < (a0.length : Int))) ((getI a0 v5_14).bind fun x1 => (getI a1 v5_14).bind fun x2 => (laws_eqTermS x1 x2).bind fun x3 => cond (!x3) (some false) (k14 (IntKind.i64.wrap (v5_14 + 1)))) (some true)
def laws_eqTermSS_l14 (a0 : List (List impl_Term)) (a1 : List (List impl_Term)) : Nat → Int → Option Bool
  | 0, _ => none
  | n + 1, v5_14 => laws_eqTermSS_b14 (laws_eqTermSS_l14 a0 a1 n) a0 a1 v5_14
def laws_eqTermSS (a0 : List (List impl_Term)) (a1 : List (List impl_Term)) : Option Bool :=
  cond ((a0.length : Int) != (a1.length : Int)) (some false) (lim fun n => laws_eqTermSS_l14 a0 a1 n 0)
def laws_eqPart (a0 : impl_Part) (a1 : impl_Part) : Option Bool :=
  cond (a0.Kind != a1.Kind) (some false) (cond (a0.Number != a1.Number) (some false) (cond (!(a0.Name == a1.Name)) (some false) ((laws_eqTermSS a0.Arguments a1.Arguments).bind fun x1 => cond (!x1) (some false) (some true))))
def laws_eqPartS_b14 (k14 : Int → Option Bool) (a0 : List impl_Part) (a1 : List impl_Part) (v5_14 : Int) : Option Bool :=
  cond (decide (v5_14 < (a0.length : Int))) ((getI a0 v5_14).bind fun x1 => (getI a1 v5_14).bind fun x2 => (laws_eqPart x1 x2).bind fun x3 => cond (!x3) (some false) (k14 (IntKind.i64.wrap (v5_14 + 1)))) (some true)
def laws_eqPartS_l14 (a0 : List impl_Part) (a1 : List impl_Part) : Nat → Int → Option Bool
  | 0, _ => none
  | n + 1, v5_14 => laws_eqPartS_b14 (laws_eqPartS_l14 a0 a1 n) a0 a1 v5_14
def laws_eqPartS (a0 : List impl_Part) (a1 : List impl_Part) : Option Bool :=
  cond ((a0.length : Int) != (a1.length : Int)) (some false) (lim fun n => laws_eqPartS_l14 a0 a1 n 0)
def laws_eqDefinition (a0 : impl_Definition) (a1 : impl_Definition) : Option Bool :=
  cond (!(a0.Name == a1.Name)) (some false) (cond (a0.Parameters != a1.Parameters) (some false) ((laws_eqPartS a0.Body a1.Body).bind fun x1 => cond (!x1) (some false) (some true)))
def laws_eqDefinitionS_b14 (k14 : Int → Option Bool) (a0 : List impl_Definition) (a1 : List impl_Definition) (v5_14 : Int) : Option Bool :=
  cond (decide (v5_14 < (a0.length : Int))) ((getI a0 v5_14).bind fun x1 => (getI a1 v5_14).bind fun x2 => (laws_eqDefinition x1 x2).bind fun x3 => cond (!x3) (some false) (k14 (IntKind.i64.wrap (v5_14 + 1)))) (some true)
def laws_eqDefinitionS_l14 (a0 : List impl_Definition) (a1 : List impl_Definition) : Nat → Int → Option Bool
  | 0, _ => none
  | n + 1, v5_14 => laws_eqDefinitionS_b14 (laws_eqDefinitionS_l14 a0 a1 n) a0 a1 v5_14
def laws_eqDefinitionS (a0 : List impl_Definition) (a1 : List impl_Definition) : Option Bool :=
  cond ((a0.length : Int) != (a1.length : Int)) (some false) (lim fun n => laws_eqDefinitionS_l14 a0 a1 n 0)
def laws_markText_b14 (k14 : Int → (List UInt8) → Option ((List UInt8))) (v0_14 : Int) (v3_14 : List UInt8) : Option ((List UInt8)) :=
  cond (decide (0 < v0_14)) ((okLen (1 + v3_14.length)).bind fun _ => k14 (IntKind.i64.wrap (Int.tdiv v0_14 10)) ([(toB (IntKind.i64.wrap (48 + (Int.tmod v0_14 10))))] ++ v3_14)) ((okLen (1 + v3_14.length)).bind fun _ => some (([109] : List UInt8) ++ v3_14))
def laws_markText_l14 : Nat → Int → (List UInt8) → Option ((List UInt8))
  | 0, _, _ => none
  | n + 1, v0_14, v3_14 => laws_markText_b14 (laws_markText_l14 n) v0_14 v3_14
def laws_markText (a0 : Int) : Option ((List UInt8)) :=
  cond (decide (a0 ≤ 0)) (some ([109, 48] : List UInt8)) (lim fun n => laws_markText_l14 n a0 ([] : List UInt8))
def laws_markTermS_b6 (k6 : (List impl_Term) → Int → Int → Option (Int × (List impl_Term))) (v0_6 : List impl_Term) (v1_6 : Int) (v5_6 : Int) : Option (Int × (List impl_Term)) :=
  cond (decide (v5_6 < (v0_6.length : Int))) ((getI v0_6 v5_6).bind fun x1 => (getI (List.set v0_6 (Int.toNat v5_6) (impl_Term.mk v1_6 x1.Value)) v5_6).bind fun x2 => k6 (List.set (List.set v0_6 (Int.toNat v5_6) (impl_Term.mk v1_6 x1.Value)) (Int.toNat v5_6) (impl_Term.mk x2.Kind (IntKind.i64.wrap (v1_6 + 1)))) (IntKind.i64.wrap ((IntKind.i64.wrap (v1_6 + 1)) + 1)) (IntKind.i64.wrap (v5_6 + 1))) (some (v1_6, v0_6))
def laws_markTermS_l6 : Nat → (List impl_Term) → Int → Int → Option (Int × (List impl_Term))
  | 0, _, _, _ => none
  | n + 1, v0_6, v1_6, v5_6 => laws_markTermS_b6 (laws_markTermS_l6 n) v0_6 v1_6 v5_6
def laws_markTermS (a0 : List impl_Term) (a1 : Int) : Option (Int × (List impl_Term)) :=
  lim fun n => laws_markTermS_l6 n a0 a1 0
def laws_markTermSS_b6 (k6 : (List (List impl_Term)) → Int → Int → Option (Int × (List (List impl_Term)))) (v0_6 : List (List impl_Term)) (v1_6 : Int) (v5_6 : Int) : Option (Int × (List (List impl_Term))) :=
  cond (decide (v5_6 < (v0_6.length : Int))) ((getI v0_6 v5_6).bind fun x1 => (laws_markTermS x1 v1_6).bind fun x2 => k6 (List.set v0_6 (Int.toNat v5_6) x2.2) x2.1 (IntKind.i64.wrap (v5_6 + 1))) (some (v1_6, v0_6))
def laws_markTermSS_l6 : Nat → (List (List impl_Term)) → Int → Int → Option (Int × (List (List impl_Term)))
  | 0, _, _, _ => none
  | n + 1, v0_6, v1_6, v5_6 => laws_markTermSS_b6 (laws_markTermSS_l6 n) v0_6 v1_6 v5_6
def laws_markTermSS (a0 : List (List impl_Term)) (a1 : Int) : Option (Int × (List (List impl_Term))) :=
  lim fun n => laws_markTermSS_l6 n a0 a1 0
def laws_markPartS_b6 (k6 : (List impl_Part) → Int → Int → Option (Int × (List impl_Part))) (v0_6 : List impl_Part) (v1_6 : Int) (v5_6 : Int) : Option (Int × (List impl_Part)) :=
  cond (decide (v5_6 < (v0_6.length : Int))) ((getI v0_6 v5_6).bind fun x1 => (getI (List.set v0_6 (Int.toNat v5_6) (impl_Part.mk v1_6 x1.Number x1.Name x1.Arguments)) v5_6).bind fun x2 => (laws_markText (IntKind.i64.wrap ((IntKind.i64.wrap (v1_6 + 1)) + 1))).bind fun x3 => (getI (List.set (List.set v0_6 (Int.toNat v5_6) (impl_Part.mk v1_6 x1.Number x1.Name x1.Arguments)) (Int.toNat v5_6) (impl_Part.mk x2.Kind (IntKind.i64.wrap (v1_6 + 1)) x2.Name x2.Arguments)) v5_6).bind fun x4 => (getI (List.set (List.set (List.set v0_6 (Int.toNat v5_6) (impl_Part.mk v1_6 x1.Number x1.Name x1.Arguments)) (Int.toNat v5_6) (impl_Part.mk x2.Kind (IntKind.i64.wrap (v1_6 + 1)) x2.Name x2.Arguments)) (Int.toNat v5_6) (impl_Part.mk x4.Kind x4.Number x3 x4.Arguments)) v5_6).bind fun x5 => (laws_markTermSS x5.Arguments (IntKind.i64.wrap ((IntKind.i64.wrap ((IntKind.i64.wrap (v1_6 + 1)) + 1)) + 1))).bind fun x6 => k6 (List.set (List.set (List.set (List.set v0_6 (Int.toNat v5_6) (impl_Part.mk v1_6 x1.Number x1.Name x1.Arguments)) (Int.toNat v5_6) (impl_Part.mk x2.Kind (IntKind.i64.wrap (v1_6 + 1)) x2.Name x2.Arguments)) (Int.toNat v5_6) (impl_Part.mk x4.Kind x4.Number x3 x4.Arguments)) (Int.toNat v5_6) (impl_Part.mk x5.Kind x5.Number x5.Name x6.2)) x6.1 (IntKind.i64.wrap (v5_6 + 1))) (some (v1_6, v0_6))
def laws_markPartS_l6 : Nat → (List impl_Part) → Int → Int → Option (Int × (List impl_Part))
  | 0, _, _, _ => none
  | n + 1, v0_6, v1_6, v5_6 => laws_markPartS_b6 (laws_markPartS_l6 n) v0_6 v1_6 v5_6
def laws_markPartS (a0 : List impl_Part) (a1 : Int) : Option (Int × (List impl_Part)) :=
  lim fun n => laws_markPartS_l6 n a0 a1 0
def laws_markDefinitionS_b6 (k6 : (List impl_Definition) → Int → Int → Option (Int × (List impl_Definition))) (v0_6 : List impl_Definition) (v1_6 : Int) (v5_6 : Int) : Option (Int × (List impl_Definition)) :=
  cond (decide (v5_6 < (v0_6.length : Int))) ((laws_markText v1_6).bind fun x1 => (getI v0_6 v5_6).bind fun x2 => (getI (List.set v0_6 (Int.toNat v5_6) (impl_Definition.mk x1 x2.Parameters x2.Body)) v5_6).bind fun x3 => (getI (List.set (List.set v0_6 (Int.toNat v5_6) (impl_Definition.mk x1 x2.Parameters x2.Body)) (Int.toNat v5_6) (impl_Definition.mk x3.Name (IntKind.i64.wrap (v1_6 + 1)) x3.Body)) v5_6).bind fun x4 => (laws_markPartS x4.Body (IntKind.i64.wrap ((IntKind.i64.wrap (v1_6 + 1)) + 1))).bind fun x5 => k6 (List.set (List.set (List.set v0_6 (Int.toNat v5_6) (impl_Definition.mk x1 x2.Parameters x2.Body)) (Int.toNat v5_6) (impl_Definition.mk x3.Name (IntKind.i64.wrap (v1_6 + 1)) x3.Body)) (Int.toNat v5_6) (impl_Definition.mk x4.Name x4.Parameters x5.2)) x5.1 (IntKind.i64.wrap (v5_6 + 1))) (some (v1_6, v0_6))
def laws_markDefinitionS_l6 : Nat → (List impl_Definition) → Int → Int → Option (Int × (List impl_Definition))
  | 0, _, _, _ => none
  | n + 1, v0_6, v1_6, v5_6 => laws_markDefinitionS_b6 (laws_markDefinitionS_l6 n) v0_6 v1_6 v5_6
def laws_markDefinitionS (a0 : List impl_Definition) (a1 : Int) : Option (Int × (List impl_Definition)) :=
  lim fun n => laws_markDefinitionS_l6 n a0 a1 0
def laws_markInt64S_b6 (k6 : (List Int) → Int → Int → Option (Int × (List Int))) (v0_6 : List Int) (v1_6 : Int) (v5_6 : Int) : Option (Int × (List Int)) :=
  cond (decide (v5_6 < (v0_6.length : Int))) ((getI v0_6 v5_6).bind fun x1 => k6 (List.set v0_6 (Int.toNat v5_6) v1_6) (IntKind.i64.wrap (v1_6 + 1)) (IntKind.i64.wrap (v5_6 + 1))) (some (v1_6, v0_6))
def laws_markInt64S_l6 : Nat → (List Int) → Int → Int → Option (Int × (List Int))
  | 0, _, _, _ => none
  | n + 1, v0_6, v1_6, v5_6 => laws_markInt64S_b6 (laws_markInt64S_l6 n) v0_6 v1_6 v5_6
def laws_markInt64S (a0 : List Int) (a1 : Int) : Option (Int × (List Int)) :=
  lim fun n => laws_markInt64S_l6 n a0 a1 0
def laws_heldInt64S_b6 (k6 : Int → Int → Option Int) (a0 : List Int) (v1_6 : Int) (v5_6 : Int) : Option Int :=
  cond (decide (v5_6 < (a0.length : Int))) ((getI a0 v5_6).bind fun x1 => cond (x1 != v1_6) (some (-1)) (k6 (IntKind.i64.wrap (v1_6 + 1)) (IntKind.i64.wrap (v5_6 + 1)))) (some v1_6)
def laws_heldInt64S_l6 (a0 : List Int) : Nat → Int → Int → Option Int
  | 0, _, _ => none
  | n + 1, v1_6, v5_6 => laws_heldInt64S_b6 (laws_heldInt64S_l6 a0 n) a0 v1_6 v5_6
def laws_heldInt64S (a0 : List Int) (a1 : Int) : Option Int :=
  lim fun n => laws_heldInt64S_l6 a0 n a1 0
def laws_FnExactCallsOf (a0 : List laws_Definition) (a1 : Int) : Option Bool :=
  (laws_szDefinitionS a0 1048576).bind fun x1 => cond (decide (x1 < 0)) (some true) ((laws_toDefinitionS a0).bind fun x2 => (spec_CallsOf x2 a1).bind fun x3 => (laws_toDefinitionS a0).bind fun x4 => (impl_CallsOf x4 a1).bind fun x5 => (laws_eqInt64S x5.1 x3.1).bind fun x6 => cond ((!x6) || (x5.2 != x3.2)) (some false) ((laws_toDefinitionS a0).bind fun x7 => (laws_eqDefinitionS x4 x7).bind fun x8 => cond (!x8) (some false) ((laws_markDefinitionS x4 1).bind fun x9 => cond (decide (x9.1 < 0)) (some false) ((laws_eqInt64S x5.1 x3.1).bind fun x10 => cond ((!x10) || (x5.2 != x3.2)) (some false) ((laws_markInt64S x5.1 1).bind fun x11 => (laws_heldInt64S x11.2 1).bind fun x12 => cond (decide (x12 < 0)) (some false) (cond (x12 != x11.1) (some false) ((laws_toDefinitionS a0).bind fun x13 => (impl_CallsOf x13 a1).bind fun x14 => (laws_eqInt64S x14.1 x3.1).bind fun x15 => cond ((!x15) || (x14.2 != x3.2)) (some false) ((laws_heldInt64S x11.2 1).bind fun x16 => cond (decide (x16 < 0)) (some false) (cond (x16 != x11.1) (some false) (some true))))))))))
end
end Go.Sh
