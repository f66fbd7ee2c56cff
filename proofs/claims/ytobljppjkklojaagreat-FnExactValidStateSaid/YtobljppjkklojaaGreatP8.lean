/- Part of a proof that a law returns true for every input. No condition. -/
import Derived.Test.YtobljppjkklojaaGreatFwA
namespace Go.Sh
open Go Go.Fw
set_option linter.unusedVariables false
noncomputable section
structure laws_Term where
  Kind : Int
  Value : Int
def wf_laws_Term (x : laws_Term) : Prop := (-9223372036854775808 ≤ x.Kind ∧ x.Kind ≤ 9223372036854775807) ∧ (-9223372036854775808 ≤ x.Value ∧ x.Value ≤ 9223372036854775807)
structure laws_Part where
  Kind : Int
  Number : Int
  Name : List UInt8
  Arguments : List (List laws_Term)
def wf_laws_Part (x : laws_Part) : Prop := (-9223372036854775808 ≤ x.Kind ∧ x.Kind ≤ 9223372036854775807) ∧ (-9223372036854775808 ≤ x.Number ∧ x.Number ≤ 9223372036854775807) ∧ x.Name.length ≤ 9223372036854775807 ∧ (x.Arguments.length ≤ 9223372036854775807 ∧ ∀ y ∈ x.Arguments, (y.length ≤ 9223372036854775807 ∧ ∀ z ∈ y, wf_laws_Term z))
structure laws_Definition where
  Name : List UInt8
  Parameters : Int
  Body : List laws_Part
def wf_laws_Definition (x : laws_Definition) : Prop := x.Name.length ≤ 9223372036854775807 ∧ (-9223372036854775808 ≤ x.Parameters ∧ x.Parameters ≤ 9223372036854775807) ∧ (x.Body.length ≤ 9223372036854775807 ∧ ∀ y ∈ x.Body, wf_laws_Part y)
structure laws_Component where
  Definition : Int
  Values : List Int
def wf_laws_Component (x : laws_Component) : Prop := (-9223372036854775808 ≤ x.Definition ∧ x.Definition ≤ 9223372036854775807) ∧ (x.Values.length ≤ 9223372036854775807 ∧ ∀ y ∈ x.Values, (-9223372036854775808 ≤ y ∧ y ≤ 9223372036854775807))
structure laws_Meeting where
  Left : List UInt8
  Right : List UInt8
  Result : List UInt8
def wf_laws_Meeting (x : laws_Meeting) : Prop := x.Left.length ≤ 9223372036854775807 ∧ x.Right.length ≤ 9223372036854775807 ∧ x.Result.length ≤ 9223372036854775807
structure laws_System where
  Definitions : List laws_Definition
  Components : List laws_Component
  Meetings : List laws_Meeting
  Allowed : List (List UInt8)
  Hidden : List (List UInt8)
def wf_laws_System (x : laws_System) : Prop := (x.Definitions.length ≤ 9223372036854775807 ∧ ∀ y ∈ x.Definitions, wf_laws_Definition y) ∧ (x.Components.length ≤ 9223372036854775807 ∧ ∀ y ∈ x.Components, wf_laws_Component y) ∧ (x.Meetings.length ≤ 9223372036854775807 ∧ ∀ y ∈ x.Meetings, wf_laws_Meeting y) ∧ (x.Allowed.length ≤ 9223372036854775807 ∧ ∀ y ∈ x.Allowed, y.length ≤ 9223372036854775807) ∧ (x.Hidden.length ≤ 9223372036854775807 ∧ ∀ y ∈ x.Hidden, y.length ≤ 9223372036854775807)
structure laws_Point where
  Definition : Int
  Part : Int
  Values : List Int
def wf_laws_Point (x : laws_Point) : Prop := (-9223372036854775808 ≤ x.Definition ∧ x.Definition ≤ 9223372036854775807) ∧ (-9223372036854775808 ≤ x.Part ∧ x.Part ≤ 9223372036854775807) ∧ (x.Values.length ≤ 9223372036854775807 ∧ ∀ y ∈ x.Values, (-9223372036854775808 ≤ y ∧ y ≤ 9223372036854775807))
structure impl_Term where
  Kind : Int
  Value : Int
def wf_impl_Term (x : impl_Term) : Prop := (-9223372036854775808 ≤ x.Kind ∧ x.Kind ≤ 9223372036854775807) ∧ (-9223372036854775808 ≤ x.Value ∧ x.Value ≤ 9223372036854775807)
structure impl_Part where
  Kind : Int
  Number : Int
  Name : List UInt8
  Arguments : List (List impl_Term)
def wf_impl_Part (x : impl_Part) : Prop := (-9223372036854775808 ≤ x.Kind ∧ x.Kind ≤ 9223372036854775807) ∧ (-9223372036854775808 ≤ x.Number ∧ x.Number ≤ 9223372036854775807) ∧ x.Name.length ≤ 9223372036854775807 ∧ (x.Arguments.length ≤ 9223372036854775807 ∧ ∀ y ∈ x.Arguments, (y.length ≤ 9223372036854775807 ∧ ∀ z ∈ y, wf_impl_Term z))
structure impl_Definition where
  Name : List UInt8
  Parameters : Int
  Body : List impl_Part
def wf_impl_Definition (x : impl_Definition) : Prop := x.Name.length ≤ 9223372036854775807 ∧ (-9223372036854775808 ≤ x.Parameters ∧ x.Parameters ≤ 9223372036854775807) ∧ (x.Body.length ≤ 9223372036854775807 ∧ ∀ y ∈ x.Body, wf_impl_Part y)
structure impl_Component where
  Definition : Int
  Values : List Int
def wf_impl_Component (x : impl_Component) : Prop := (-9223372036854775808 ≤ x.Definition ∧ x.Definition ≤ 9223372036854775807) ∧ (x.Values.length ≤ 9223372036854775807 ∧ ∀ y ∈ x.Values, (-9223372036854775808 ≤ y ∧ y ≤ 9223372036854775807))
structure impl_Meeting where
  Left : List UInt8
  Right : List UInt8
  Result : List UInt8
def wf_impl_Meeting (x : impl_Meeting) : Prop := x.Left.length ≤ 9223372036854775807 ∧ x.Right.length ≤ 9223372036854775807 ∧ x.Result.length ≤ 9223372036854775807
structure impl_System where
  Definitions : List impl_Definition
  Components : List impl_Component
  Meetings : List impl_Meeting
  Allowed : List (List UInt8)
  Hidden : List (List UInt8)
def wf_impl_System (x : impl_System) : Prop := (x.Definitions.length ≤ 9223372036854775807 ∧ ∀ y ∈ x.Definitions, wf_impl_Definition y) ∧ (x.Components.length ≤ 9223372036854775807 ∧ ∀ y ∈ x.Components, wf_impl_Component y) ∧ (x.Meetings.length ≤ 9223372036854775807 ∧ ∀ y ∈ x.Meetings, wf_impl_Meeting y) ∧ (x.Allowed.length ≤ 9223372036854775807 ∧ ∀ y ∈ x.Allowed, y.length ≤ 9223372036854775807) ∧ (x.Hidden.length ≤ 9223372036854775807 ∧ ∀ y ∈ x.Hidden, y.length ≤ 9223372036854775807)
structure impl_Point where
  Definition : Int
  Part : Int
  Values : List Int
def wf_impl_Point (x : impl_Point) : Prop := (-9223372036854775808 ≤ x.Definition ∧ x.Definition ≤ 9223372036854775807) ∧ (-9223372036854775808 ≤ x.Part ∧ x.Part ≤ 9223372036854775807) ∧ (x.Values.length ≤ 9223372036854775807 ∧ ∀ y ∈ x.Values, (-9223372036854775808 ≤ y ∧ y ≤ 9223372036854775807))
structure impl_place where
  scope : Int
  behind : Bool
def wf_impl_place (x : impl_place) : Prop := (-9223372036854775808 ≤ x.scope ∧ x.scope ≤ 9223372036854775807) ∧ True
def laws_szTermS (a0 : List laws_Term) (a1 : Int) : Option Int :=
  cond (decide ((IntKind.i64.wrap (a1 - (a0.length : Int))) < 0)) (some (-1)) (some (IntKind.i64.wrap (a1 - (a0.length : Int))))
def laws_szTermSS_b16 (k16 : Int → Int → Option Int) (a0 : List (List laws_Term)) (v1_16 : Int) (v5_16 : Int) : Option Int :=
  cond (decide (v5_16 < (a0.length : Int))) ((getI a0 v5_16).bind fun x1 => (laws_szTermS x1 v1_16).bind fun x2 => cond (decide (x2 < 0)) (some (-1)) (k16 x2 (IntKind.i64.wrap (v5_16 + 1)))) (some v1_16)
def laws_szTermSS_l16 (a0 : List (List laws_Term)) : Nat → Int → Int → Option Int
  | 0, _, _ => none
  | n + 1, v1_16, v5_16 => laws_szTermSS_b16 (laws_szTermSS_l16 a0 n) a0 v1_16 v5_16
def laws_szTermSS (a0 : List (List laws_Term)) (a1 : Int) : Option Int :=
  cond (decide ((IntKind.i64.wrap (a1 - (a0.length : Int))) < 0)) (some (-1)) (lim fun n => laws_szTermSS_l16 a0 n (IntKind.i64.wrap (a1 - (a0.length : Int))) 0)
def laws_szPart (a0 : laws_Part) (a1 : Int) : Option Int :=
  cond (decide ((IntKind.i64.wrap (a1 - (a0.Name.length : Int))) < 0)) (some (-1)) ((laws_szTermSS a0.Arguments (IntKind.i64.wrap (a1 - (a0.Name.length : Int)))).bind fun x1 => cond (decide (x1 < 0)) (some (-1)) (some x1))
def laws_szPartS_b16 (k16 : Int → Int → Option Int) (a0 : List laws_Part) (v1_16 : Int) (v5_16 : Int) : Option Int :=
  cond (decide (v5_16 < (a0.length : Int))) ((getI a0 v5_16).bind fun x1 => (laws_szPart x1 v1_16).bind fun x2 => cond (decide (x2 < 0)) (some (-1)) (k16 x2 (IntKind.i64.wrap (v5_16 + 1)))) (some v1_16)
def laws_szPartS_l16 (a0 : List laws_Part) : Nat → Int → Int → Option Int
  | 0, _, _ => none
  | n + 1, v1_16, v5_16 => laws_szPartS_b16 (laws_szPartS_l16 a0 n) a0 v1_16 v5_16
def laws_szPartS (a0 : List laws_Part) (a1 : Int) : Option Int :=
  cond (decide ((IntKind.i64.wrap (a1 - (a0.length : Int))) < 0)) (some (-1)) (lim fun n => laws_szPartS_l16 a0 n (IntKind.i64.wrap (a1 - (a0.length : Int))) 0)
def laws_szDefinition (a0 : laws_Definition) (a1 : Int) : Option Int :=
  cond (decide ((IntKind.i64.wrap (a1 - (a0.Name.length : Int))) < 0)) (some (-1)) ((laws_szPartS a0.Body (IntKind.i64.wrap (a1 - (a0.Name.length : Int)))).bind fun x1 => cond (decide (x1 < 0)) (some (-1)) (some x1))
def laws_szDefinitionS_b16 (k16 : Int → Int → Option Int) (a0 : List laws_Definition) (v1_16 : Int) (v5_16 : Int) : Option Int :=
  cond (decide (v5_16 < (a0.length : Int))) ((getI a0 v5_16).bind fun x1 => (laws_szDefinition x1 v1_16).bind fun x2 => cond (decide (x2 < 0)) (some (-1)) (k16 x2 (IntKind.i64.wrap (v5_16 + 1)))) (some v1_16)
def laws_szDefinitionS_l16 (a0 : List laws_Definition) : Nat → Int → Int → Option Int
  | 0, _, _ => none
  | n + 1, v1_16, v5_16 => laws_szDefinitionS_b16 (laws_szDefinitionS_l16 a0 n) a0 v1_16 v5_16
def laws_szDefinitionS (a0 : List laws_Definition) (a1 : Int) : Option Int :=
  cond (decide ((IntKind.i64.wrap (a1 - (a0.length : Int))) < 0)) (some (-1)) (lim fun n => laws_szDefinitionS_l16 a0 n (IntKind.i64.wrap (a1 - (a0.length : Int))) 0)
def laws_szInt64S (a0 : List Int) (a1 : Int) : Option Int :=
  cond (decide ((IntKind.i64.wrap (a1 - (a0.length : Int))) < 0)) (some (-1)) (some (IntKind.i64.wrap (a1 - (a0.length : Int))))
def laws_szComponent (a0 : laws_Component) (a1 : Int) : Option Int :=
  (laws_szInt64S a0.Values a1).bind fun x1 => cond (decide (x1 < 0)) (some (-1)) (some x1)
def laws_szComponentS_b16 (k16 : Int → Int → Option Int) (a0 : List laws_Component) (v1_16 : Int) (v5_16 : Int) : Option Int :=
  cond (decide (v5_16 < (a0.length : Int))) ((getI a0 v5_16).bind fun x1 => (laws_szComponent x1 v1_16).bind fun x2 => cond (decide (x2 < 0)) (some (-1)) (k16 x2 (IntKind.i64.wrap (v5_16 + 1)))) (some v1_16)
def laws_szComponentS_l16 (a0 : List laws_Component) : Nat → Int → Int → Option Int
  | 0, _, _ => none
  | n + 1, v1_16, v5_16 => laws_szComponentS_b16 (laws_szComponentS_l16 a0 n) a0 v1_16 v5_16
def laws_szComponentS (a0 : List laws_Component) (a1 : Int) : Option Int :=
  cond (decide ((IntKind.i64.wrap (a1 - (a0.length : Int))) < 0)) (some (-1)) (lim fun n => laws_szComponentS_l16 a0 n (IntKind.i64.wrap (a1 - (a0.length : Int))) 0)
def laws_szMeeting (a0 : laws_Meeting) (a1 : Int) : Option Int :=
  cond (decide ((IntKind.i64.wrap (a1 - (a0.Left.length : Int))) < 0)) (some (-1)) (cond (decide ((IntKind.i64.wrap ((IntKind.i64.wrap (a1 - (a0.Left.length : Int))) - (a0.Right.length : Int))) < 0)) (some (-1)) (cond (decide ((IntKind.i64.wrap ((IntKind.i64.wrap ((IntKind.i64.wrap (a1 - (a0.Left.length : Int))) - (a0.Right.length : Int))) - (a0.Result.length : Int))) < 0)) (some (-1)) (some (IntKind.i64.wrap ((IntKind.i64.wrap ((IntKind.i64.wrap (a1 - (a0.Left.length : Int))) - (a0.Right.length : Int))) - (a0.Result.length : Int))))))
def laws_szMeetingS_b16 (k16 : Int → Int → Option Int) (a0 : List laws_Meeting) (v1_16 : Int) (v5_16 : Int) : Option Int :=
  cond (decide (v5_16 < (a0.length : Int))) ((getI a0 v5_16).bind fun x1 => (laws_szMeeting x1 v1_16).bind fun x2 => cond (decide (x2 < 0)) (some (-1)) (k16 x2 (IntKind.i64.wrap (v5_16 + 1)))) (some v1_16)
def laws_szMeetingS_l16 (a0 : List laws_Meeting) : Nat → Int → Int → Option Int
  | 0, _, _ => none
  | n + 1, v1_16, v5_16 => laws_szMeetingS_b16 (laws_szMeetingS_l16 a0 n) a0 v1_16 v5_16
def laws_szMeetingS (a0 : List laws_Meeting) (a1 : Int) : Option Int :=
  cond (decide ((IntKind.i64.wrap (a1 - (a0.length : Int))) < 0)) (some (-1)) (lim fun n => laws_szMeetingS_l16 a0 n (IntKind.i64.wrap (a1 - (a0.length : Int))) 0)
def laws_szStringS_b16 (k16 : Int → Int → Option Int) (a0 : List (List UInt8)) (v1_16 : Int) (v5_16 : Int) : Option Int :=
  cond (decide (v5_16 < (a0.length : Int))) ((getI a0 v5_16).bind fun x1 => cond (decide ((IntKind.i64.wrap (v1_16 - (x1.length : Int))) < 0)) (some (-1)) (k16 (IntKind.i64.wrap (v1_16 - (x1.length : Int))) (IntKind.i64.wrap (v5_16 + 1)))) (some v1_16)
def laws_szStringS_l16 (a0 : List (List UInt8)) : Nat → Int → Int → Option Int
  | 0, _, _ => none
  | n + 1, v1_16, v5_16 => laws_szStringS_b16 (laws_szStringS_l16 a0 n) a0 v1_16 v5_16
def laws_szStringS (a0 : List (List UInt8)) (a1 : Int) : Option Int :=
  cond (decide ((IntKind.i64.wrap (a1 - (a0.length : Int))) < 0)) (some (-1)) (lim fun n => laws_szStringS_l16 a0 n (IntKind.i64.wrap (a1 - (a0.length : Int))) 0)
def laws_szSystem (a0 : laws_System) (a1 : Int) : Option Int :=
  (laws_szDefinitionS a0.Definitions a1).bind fun x1 => cond (decide (x1 < 0)) (some (-1)) ((laws_szComponentS a0.Components x1).bind fun x2 => cond (decide (x2 < 0)) (some (-1)) ((laws_szMeetingS a0.Meetings x2).bind fun x3 => cond (decide (x3 < 0)) (some (-1)) ((laws_szStringS a0.Allowed x3).bind fun x4 => cond (decide (x4 < 0)) (some (-1)) ((laws_szStringS a0.Hidden x4).bind fun x5 => cond (decide (x5 < 0)) (some (-1)) (some x5)))))
def laws_szPoint (a0 : laws_Point) (a1 : Int) : Option Int :=
  (laws_szInt64S a0.Values a1).bind fun x1 => cond (decide (x1 < 0)) (some (-1)) (some x1)
def laws_szPointS_b16 (k16 : Int → Int → Option Int) (a0 : List laws_Point) (v1_16 : Int) (v5_16 : Int) : Option Int :=
  cond (decide (v5_16 < (a0.length : Int))) ((getI a0 v5_16).bind fun x1 => (laws_szPoint x1 v1_16).bind fun x2 => cond (decide (x2 < 0)) (some (-1)) (k16 x2 (IntKind.i64.wrap (v5_16 + 1)))) (some v1_16)
def laws_szPointS_l16 (a0 : List laws_Point) : Nat → Int → Int → Option Int
  | 0, _, _ => none
  | n + 1, v1_16, v5_16 => laws_szPointS_b16 (laws_szPointS_l16 a0 n) a0 v1_16 v5_16
def laws_szPointS (a0 : List laws_Point) (a1 : Int) : Option Int :=
  cond (decide ((IntKind.i64.wrap (a1 - (a0.length : Int))) < 0)) (some (-1)) (lim fun n => laws_szPointS_l16 a0 n (IntKind.i64.wrap (a1 - (a0.length : Int))) 0)
def laws_toTerm (a0 : laws_Term) : Option impl_Term :=
  some (impl_Term.mk a0.Kind a0.Value)
def laws_toTermS_b8 (k8 : (List impl_Term) → Int → Option ((List impl_Term))) (a0 : List laws_Term) (v3_8 : List impl_Term) (v4_8 : Int) : Option ((List impl_Term)) :=
  cond (decide (v4_8 < (a0.length : Int))) ((getI a0 v4_8).bind fun x1 => (laws_toTerm x1).bind fun x2 => (getI v3_8 v4_8).bind fun x3 => k8 (List.set v3_8 (Int.toNat v4_8) x2) (IntKind.i64.wrap (v4_8 + 1))) (some v3_8)
def laws_toTermS_l8 (a0 : List laws_Term) : Nat → (List impl_Term) → Int → Option ((List impl_Term))
  | 0, _, _ => none
  | n + 1, v3_8, v4_8 => laws_toTermS_b8 (laws_toTermS_l8 a0 n) a0 v3_8 v4_8
def laws_toTermS (a0 : List laws_Term) : Option ((List impl_Term)) :=
  (mkOk 16 (a0.length : Int)).bind fun _ => lim fun n => laws_toTermS_l8 a0 n (List.replicate (Int.toNat (a0.length : Int)) (impl_Term.mk 0 0)) 0
def laws_toTermSS_b8 (k8 : (List (List impl_Term)) → Int → Option ((List (List impl_Term)))) (a0 : List (List laws_Term)) (v3_8 : List (List impl_Term)) (v4_8 : Int) : Option ((List (List impl_Term))) :=
  cond (decide (v4_8 < (a0.length : Int))) ((getI a0 v4_8).bind fun x1 => (laws_toTermS x1).bind fun x2 => (getI v3_8 v4_8).bind fun x3 => k8 (List.set v3_8 (Int.toNat v4_8) x2) (IntKind.i64.wrap (v4_8 + 1))) (some v3_8)
def laws_toTermSS_l8 (a0 : List (List laws_Term)) : Nat → (List (List impl_Term)) → Int → Option ((List (List impl_Term)))
  | 0, _, _ => none
  | n + 1, v3_8, v4_8 => laws_toTermSS_b8 (laws_toTermSS_l8 a0 n) a0 v3_8 v4_8
def laws_toTermSS (a0 : List (List laws_Term)) : Option ((List (List impl_Term))) :=
  (mkOk 24 (a0.length : Int)).bind fun _ => lim fun n => laws_toTermSS_l8 a0 n (List.replicate (Int.toNat (a0.length : Int)) []) 0
def laws_toPart (a0 : laws_Part) : Option impl_Part :=
  (laws_toTermSS a0.Arguments).bind fun x1 => some (impl_Part.mk a0.Kind a0.Number a0.Name x1)
def laws_toPartS_b8 (k8 : (List impl_Part) → Int → Option ((List impl_Part))) (a0 : List laws_Part) (v3_8 : List impl_Part) (v4_8 : Int) : Option ((List impl_Part)) :=
  cond (decide (v4_8 < (a0.length : Int))) ((getI a0 v4_8).bind fun x1 => (laws_toPart x1).bind fun x2 => (getI v3_8 v4_8).bind fun x3 => k8 (List.set v3_8 (Int.toNat v4_8) x2) (IntKind.i64.wrap (v4_8 + 1))) (some v3_8)
def laws_toPartS_l8 (a0 : List laws_Part) : Nat → (List impl_Part) → Int → Option ((List impl_Part))
  | 0, _, _ => none
  | n + 1, v3_8, v4_8 => laws_toPartS_b8 (laws_toPartS_l8 a0 n) a0 v3_8 v4_8
def laws_toPartS (a0 : List laws_Part) : Option ((List impl_Part)) :=
  (mkOk 56 (a0.length : Int)).bind fun _ => lim fun n => laws_toPartS_l8 a0 n (List.replicate (Int.toNat (a0.length : Int)) (impl_Part.mk 0 0 ([] : List UInt8) [])) 0
def laws_toDefinition (a0 : laws_Definition) : Option impl_Definition :=
  (laws_toPartS a0.Body).bind fun x1 => some (impl_Definition.mk a0.Name a0.Parameters x1)
def laws_toDefinitionS_b8 (k8 : (List impl_Definition) → Int → Option ((List impl_Definition))) (a0 : List laws_Definition) (v3_8 : List impl_Definition) (v4_8 : Int) : Option ((List impl_Definition)) :=
  cond (decide (v4_8 < (a0.length : Int))) ((getI a0 v4_8).bind fun x1 => (laws_toDefinition x1).bind fun x2 => (getI v3_8 v4_8).bind fun x3 => k8 (List.set v3_8 (Int.toNat v4_8) x2) (IntKind.i64.wrap (v4_8 + 1))) (some v3_8)
def laws_toDefinitionS_l8 (a0 : List laws_Definition) : Nat → (List impl_Definition) → Int → Option ((List impl_Definition))
  | 0, _, _ => none
  | n + 1, v3_8, v4_8 => laws_toDefinitionS_b8 (laws_toDefinitionS_l8 a0 n) a0 v3_8 v4_8
def laws_toDefinitionS (a0 : List laws_Definition) : Option ((List impl_Definition)) :=
  (mkOk 48 (a0.length : Int)).bind fun _ => lim fun n => laws_toDefinitionS_l8 a0 n (List.replicate (Int.toNat (a0.length : Int)) (impl_Definition.mk ([] : List UInt8) 0 [])) 0
def laws_toInt64S_b8 (k8 : (List Int) → Int → Option ((List Int))) (a0 : List Int) (v3_8 : List Int) (v4_8 : Int) : Option ((List Int)) :=
  cond (decide (v4_8 < (a0.length : Int))) ((getI a0 v4_8).bind fun x1 => (getI v3_8 v4_8).bind fun x2 => k8 (List.set v3_8 (Int.toNat v4_8) x1) (IntKind.i64.wrap (v4_8 + 1))) (some v3_8)
def laws_toInt64S_l8 (a0 : List Int) : Nat → (List Int) → Int → Option ((List Int))
  | 0, _, _ => none
  | n + 1, v3_8, v4_8 => laws_toInt64S_b8 (laws_toInt64S_l8 a0 n) a0 v3_8 v4_8
def laws_toInt64S (a0 : List Int) : Option ((List Int)) :=
  (mkOk 8 (a0.length : Int)).bind fun _ => lim fun n => laws_toInt64S_l8 a0 n (List.replicate (Int.toNat (a0.length : Int)) 0) 0
def laws_toComponent (a0 : laws_Component) : Option impl_Component :=
  (laws_toInt64S a0.Values).bind fun x1 => some (impl_Component.mk a0.Definition x1)
def laws_toComponentS_b8 (k8 : (List impl_Component) → Int → Option ((List impl_Component))) (a0 : List laws_Component) (v3_8 : List impl_Component) (v4_8 : Int) : Option ((List impl_Component)) :=
  cond (decide (v4_8 < (a0.length : Int))) ((getI a0 v4_8).bind fun x1 => (laws_toComponent x1).bind fun x2 => (getI v3_8 v4_8).bind fun x3 => k8 (List.set v3_8 (Int.toNat v4_8) x2) (IntKind.i64.wrap (v4_8 + 1))) (some v3_8)
def laws_toComponentS_l8 (a0 : List laws_Component) : Nat → (List impl_Component) → Int → Option ((List impl_Component))
  | 0, _, _ => none
  | n + 1, v3_8, v4_8 => laws_toComponentS_b8 (laws_toComponentS_l8 a0 n) a0 v3_8 v4_8
def laws_toComponentS (a0 : List laws_Component) : Option ((List impl_Component)) :=
  (mkOk 32 (a0.length : Int)).bind fun _ => lim fun n => laws_toComponentS_l8 a0 n (List.replicate (Int.toNat (a0.length : Int)) (impl_Component.mk 0 [])) 0
def laws_toMeeting (a0 : laws_Meeting) : Option impl_Meeting :=
  some (impl_Meeting.mk a0.Left a0.Right a0.Result)
def laws_toMeetingS_b8 (k8 : (List impl_Meeting) → Int → Option ((List impl_Meeting))) (a0 : List laws_Meeting) (v3_8 : List impl_Meeting) (v4_8 : Int) : Option ((List impl_Meeting)) :=
  cond (decide (v4_8 < (a0.length : Int))) ((getI a0 v4_8).bind fun x1 => (laws_toMeeting x1).bind fun x2 => (getI v3_8 v4_8).bind fun x3 => k8 (List.set v3_8 (Int.toNat v4_8) x2) (IntKind.i64.wrap (v4_8 + 1))) (some v3_8)
def laws_toMeetingS_l8 (a0 : List laws_Meeting) : Nat → (List impl_Meeting) → Int → Option ((List impl_Meeting))
  | 0, _, _ => none
  | n + 1, v3_8, v4_8 => laws_toMeetingS_b8 (laws_toMeetingS_l8 a0 n) a0 v3_8 v4_8
def laws_toMeetingS (a0 : List laws_Meeting) : Option ((List impl_Meeting)) :=
  (mkOk 48 (a0.length : Int)).bind fun _ => lim fun n => laws_toMeetingS_l8 a0 n (List.replicate (Int.toNat (a0.length : Int)) (impl_Meeting.mk ([] : List UInt8) ([] : List UInt8) ([] : List UInt8))) 0
def laws_toStringS_b8 (k8 : (List (List UInt8)) → Int → Option ((List (List UInt8)))) (a0 : List (List UInt8)) (v3_8 : List (List UInt8)) (v4_8 : Int) : Option ((List (List UInt8))) :=
  cond (decide (v4_8 < (a0.length : Int))) ((getI a0 v4_8).bind fun x1 => (getI v3_8 v4_8).bind fun x2 => k8 (List.set v3_8 (Int.toNat v4_8) x1) (IntKind.i64.wrap (v4_8 + 1))) (some v3_8)
def laws_toStringS_l8 (a0 : List (List UInt8)) : Nat → (List (List UInt8)) → Int → Option ((List (List UInt8)))
  | 0, _, _ => none
  | n + 1, v3_8, v4_8 => laws_toStringS_b8 (laws_toStringS_l8 a0 n) a0 v3_8 v4_8
def laws_toStringS (a0 : List (List UInt8)) : Option ((List (List UInt8))) :=
  (mkOk 16 (a0.length : Int)).bind fun _ => lim fun n => laws_toStringS_l8 a0 n (List.replicate (Int.toNat (a0.length : Int)) ([] : List UInt8)) 0
def laws_toSystem (a0 : laws_System) : Option impl_System :=
  (laws_toDefinitionS a0.Definitions).bind fun x1 => (laws_toComponentS a0.Components).bind fun x2 => (laws_toMeetingS a0.Meetings).bind fun x3 => (laws_toStringS a0.Allowed).bind fun x4 => (laws_toStringS a0.Hidden).bind fun x5 => some (impl_System.mk x1 x2 x3 x4 x5)
def laws_toPoint (a0 : laws_Point) : Option impl_Point :=
  (laws_toInt64S a0.Values).bind fun x1 => some (impl_Point.mk a0.Definition a0.Part x1)
def laws_toPointS_b8 (k8 : (List impl_Point) → Int → Option ((List impl_Point))) (a0 : List laws_Point) (v3_8 : List impl_Point) (v4_8 : Int) : Option ((List impl_Point)) :=
  cond (decide (v4_8 < (a0.length : Int))) ((getI a0 v4_8).bind fun x1 => (laws_toPoint x1).bind fun x2 => (getI v3_8 v4_8).bind fun x3 => k8 (List.set v3_8 (Int.toNat v4_8) x2) (IntKind.i64.wrap (v4_8 + 1))) (some v3_8)
def laws_toPointS_l8 (a0 : List laws_Point) : Nat → (List impl_Point) → Int → Option ((List impl_Point))
  | 0, _, _ => none
  | n + 1, v3_8, v4_8 => laws_toPointS_b8 (laws_toPointS_l8 a0 n) a0 v3_8 v4_8
def laws_toPointS (a0 : List laws_Point) : Option ((List impl_Point)) :=
  (mkOk 40 (a0.length : Int)).bind fun _ => lim fun n => laws_toPointS_l8 a0 n (List.replicate (Int.toNat (a0.length : Int)) (impl_Point.mk 0 0 [])) 0
def spec_l01Small (a0 : UInt8) : Option Bool :=
  some ((decide (97 ≤ (a0.toNat : Int))) && (decide ((a0.toNat : Int) ≤ 122)))
def spec_l01Digit (a0 : UInt8) : Option Bool :=
  some ((decide (48 ≤ (a0.toNat : Int))) && (decide ((a0.toNat : Int) ≤ 57)))
def spec_l01Name_b14 (k14 : Int → Option Bool) (a0 : List UInt8) (v3_14 : Int) : Option Bool :=
  cond (decide (v3_14 < (a0.length : Int))) ((getI a0 v3_14).bind fun x3 => (spec_l01Small x3).bind fun x4 => cond (!x4) ((spec_l01Digit x3).bind fun x5 => cond (!x5) (some false) (k14 (IntKind.i64.wrap (v3_14 + 1)))) (k14 (IntKind.i64.wrap (v3_14 + 1)))) (some true)
def spec_l01Name_l14 (a0 : List UInt8) : Nat → Int → Option Bool
  | 0, _ => none
  | n + 1, v3_14 => spec_l01Name_b14 (spec_l01Name_l14 a0 n) a0 v3_14
def spec_l01Name (a0 : List UInt8) : Option Bool :=
  cond (a0 == ([] : List UInt8)) (some false) (cond (decide (10 < (a0.length : Int))) (some false) ((getI a0 0).bind fun x1 => (spec_l01Small x1).bind fun x2 => cond (!x2) (some false) (lim fun n => spec_l01Name_l14 a0 n 0)))
def spec_l00In (a0 : Int) (a1 : Int) (a2 : Int) : Option Bool :=
  some ((decide (a1 ≤ a0)) && (decide (a0 ≤ a2)))
def spec_l05Follow_k16 (a0 : impl_Part) (v7_16 : Bool) : Option Int :=
  cond v7_16 (some 1) (cond (a0.Kind == 2) (some 2) (some 0))
def spec_l05Follow (a0 : impl_Part) : Option Int :=
  cond (a0.Kind == 1) (spec_l05Follow_k16 a0 true) (cond (a0.Kind == 3) (spec_l05Follow_k16 a0 true) (spec_l05Follow_k16 a0 (a0.Kind == 4)))
def spec_l05Shape_b16 (k16 : Int → Int → Option Bool) (a0 : List impl_Part) (v3_16 : Int) (v4_16 : Int) : Option Bool :=
  cond (decide (v4_16 < (a0.length : Int))) (cond (v3_16 == 0) (some false) ((getI a0 v4_16).bind fun x1 => (spec_l05Follow x1).bind fun x2 => k16 (IntKind.i64.wrap (v3_16 + (IntKind.i64.wrap (x2 - 1)))) (IntKind.i64.wrap (v4_16 + 1)))) (some (v3_16 == 0))
def spec_l05Shape_l16 (a0 : List impl_Part) : Nat → Int → Int → Option Bool
  | 0, _, _ => none
  | n + 1, v3_16, v4_16 => spec_l05Shape_b16 (spec_l05Shape_l16 a0 n) a0 v3_16 v4_16
def spec_l05Shape (a0 : List impl_Part) : Option Bool :=
  cond (((a0.length : Int) == 0) || (decide (20 < (a0.length : Int)))) (some false) (lim fun n => spec_l05Shape_l16 a0 n 1 0)
def spec_l05Kind_k12 (a0 : impl_Part) (v7_12 : Bool) : Option Bool :=
  cond v7_12 (some (((a0.Number == 0) && (a0.Name == ([] : List UInt8))) && ((a0.Arguments.length : Int) == 0))) (cond (a0.Kind == 1) (some (a0.Number == 0)) (cond (a0.Kind == 3) (some ((a0.Number == 0) && (a0.Name == ([] : List UInt8)))) (cond (a0.Kind == 4) (some ((a0.Name == ([] : List UInt8)) && ((a0.Arguments.length : Int) == 0))) (cond (a0.Kind == 5) (some (a0.Name == ([] : List UInt8))) (some false)))))
def spec_l05Kind (a0 : impl_Part) : Option Bool :=
  cond (a0.Kind == 0) (spec_l05Kind_k12 a0 true) (spec_l05Kind_k12 a0 (a0.Kind == 2))
def spec_l05End_b6 (k6 : Int → Int → Option Int) (a0 : List impl_Part) (v1_6 : Int) (v5_6 : Int) : Option Int :=
  cond (decide (0 < v5_6)) ((getI a0 v1_6).bind fun x1 => (spec_l05Follow x1).bind fun x2 => k6 (IntKind.i64.wrap (v1_6 + 1)) (IntKind.i64.wrap (v5_6 + (IntKind.i64.wrap (x2 - 1))))) (some v1_6)
def spec_l05End_l6 (a0 : List impl_Part) : Nat → Int → Int → Option Int
  | 0, _, _ => none
  | n + 1, v1_6, v5_6 => spec_l05End_b6 (spec_l05End_l6 a0 n) a0 v1_6 v5_6
def spec_l05End (a0 : List impl_Part) (a1 : Int) : Option Int :=
  lim fun n => spec_l05End_l6 a0 n a1 1
def spec_l05Scope_k22 (k8 : Int → Int → Option Int) (a0 : impl_Definition) (a1 : Int) (v5_22 : Int) (v6_22 : Int) : Option Int :=
  k8 v5_22 (IntKind.i64.wrap (v6_22 + 1))
def spec_l05Scope_b8 (k8 : Int → Int → Option Int) (a0 : impl_Definition) (a1 : Int) (v5_8 : Int) (v6_8 : Int) : Option Int :=
  cond (decide (v6_8 < a1)) ((getI a0.Body v6_8).bind fun x1 => cond (x1.Kind == 4) ((spec_l05End a0.Body v6_8).bind fun x2 => cond (decide (a1 < x2)) (spec_l05Scope_k22 k8 a0 a1 (IntKind.i64.wrap (v5_8 + 1)) v6_8) (spec_l05Scope_k22 k8 a0 a1 v5_8 v6_8)) (spec_l05Scope_k22 k8 a0 a1 v5_8 v6_8)) (some v5_8)
def spec_l05Scope_l8 (a0 : impl_Definition) (a1 : Int) : Nat → Int → Int → Option Int
  | 0, _, _ => none
  | n + 1, v5_8, v6_8 => spec_l05Scope_b8 (spec_l05Scope_l8 a0 a1 n) a0 a1 v5_8 v6_8
def spec_l05Scope (a0 : impl_Definition) (a1 : Int) : Option Int :=
  lim fun n => spec_l05Scope_l8 a0 a1 n a0.Parameters 0
def spec_l03Term (a0 : impl_Term) (a1 : Int) : Option Bool :=
  cond (a0.Kind == 0) ((spec_l00In a0.Value 0 63).bind fun x1 => some x1) (cond (a0.Kind == 1) ((spec_l00In a0.Value 0 (IntKind.i64.wrap (a1 - 1))).bind fun x2 => some x2) (cond (a0.Kind == 2) ((spec_l00In a0.Value 0 8).bind fun x3 => some x3) (cond (a0.Kind == 3) (some (a0.Value == 0)) (some false))))
def spec_l03Arity (a0 : impl_Term) : Option Int :=
  cond (a0.Kind == 2) (some 2) (cond (a0.Kind == 3) (some 1) (some 0))
def spec_l03Is_b16 (k16 : Int → Int → Option Bool) (a0 : List impl_Term) (a1 : Int) (v7_16 : Int) (v8_16 : Int) : Option Bool :=
  cond (decide (v8_16 < (a0.length : Int))) (cond (v7_16 == 0) (some false) ((getI a0 v8_16).bind fun x1 => (spec_l03Term x1 a1).bind fun x2 => cond (!x2) (some false) ((spec_l03Arity x1).bind fun x3 => k16 (IntKind.i64.wrap (v7_16 + (IntKind.i64.wrap (x3 - 1)))) (IntKind.i64.wrap (v8_16 + 1))))) (some (v7_16 == 0))
def spec_l03Is_l16 (a0 : List impl_Term) (a1 : Int) : Nat → Int → Int → Option Bool
  | 0, _, _ => none
  | n + 1, v7_16, v8_16 => spec_l03Is_b16 (spec_l03Is_l16 a0 a1 n) a0 a1 v7_16 v8_16
def spec_l03Is (a0 : List impl_Term) (a1 : Int) (a2 : Int) : Option Bool :=
  cond (decide (a2 < (a0.length : Int))) (some false) (lim fun n => spec_l03Is_l16 a0 a1 n 1 0)
def spec_l05Reason_b87 (k87 : Int → Int → Option Int) (x1 : impl_Part) (v9_87 : Int) (v10_87 : Int) : Option Int :=
  cond (decide (v10_87 < (x1.Arguments.length : Int))) ((getI x1.Arguments v10_87).bind fun x4 => (spec_l03Is x4 v9_87 15).bind fun x5 => cond (!x5) (some 8) (k87 v9_87 (IntKind.i64.wrap (v10_87 + 1)))) (some 0)
def spec_l05Reason_l87 (x1 : impl_Part) : Nat → Int → Int → Option Int
  | 0, _, _ => none
  | n + 1, v9_87, v10_87 => spec_l05Reason_b87 (spec_l05Reason_l87 x1 n) x1 v9_87 v10_87
def spec_l05Reason_k68 (a1 : impl_Definition) (a2 : Int) (x1 : impl_Part) (v102_68 : Bool) : Option Int :=
  cond v102_68 (some 6) ((spec_l05Scope a1 a2).bind fun x3 => cond ((x1.Kind == 4) && (decide (6 ≤ x3))) (some 7) (lim fun n => spec_l05Reason_l87 x1 n x3 0))
def spec_l05Reason_k65 (a1 : impl_Definition) (a2 : Int) (x1 : impl_Part) : Option Int :=
  cond (x1.Kind == 5) (cond (a2 == 0) (spec_l05Reason_k68 a1 a2 x1 true) ((getI a1.Body (IntKind.i64.wrap (a2 - 1))).bind fun x6 => spec_l05Reason_k68 a1 a2 x1 (x6.Kind != 1))) (spec_l05Reason_k68 a1 a2 x1 false)
def spec_l05Reason_k23 (a0 : List impl_Definition) (a1 : impl_Definition) (a2 : Int) (x1 : impl_Part) (v51_23 : Bool) : Option Int :=
  cond v51_23 (some 4) (cond (x1.Kind == 1) (cond ((decide (2 < (x1.Arguments.length : Int))) || ((decide (0 < (x1.Arguments.length : Int))) && (x1.Name == ([116, 97, 117] : List UInt8)))) (some 5) (spec_l05Reason_k65 a1 a2 x1)) (cond (x1.Kind == 3) (cond ((x1.Arguments.length : Int) != 1) (some 5) (spec_l05Reason_k65 a1 a2 x1)) (cond (x1.Kind == 5) ((getI a0 x1.Number).bind fun x7 => cond ((x1.Arguments.length : Int) != x7.Parameters) (some 5) (spec_l05Reason_k65 a1 a2 x1)) (spec_l05Reason_k65 a1 a2 x1))))
def spec_l05Reason_k15 (a0 : List impl_Definition) (a1 : impl_Definition) (a2 : Int) (x1 : impl_Part) (v28_15 : Bool) : Option Int :=
  cond v28_15 (some 3) (cond (x1.Kind == 4) ((spec_l00In x1.Number 1 7).bind fun x8 => cond (!x8) (spec_l05Reason_k23 a0 a1 a2 x1 true) (cond (x1.Kind == 5) ((spec_l00In x1.Number 0 (IntKind.i64.wrap ((a0.length : Int) - 1))).bind fun x9 => spec_l05Reason_k23 a0 a1 a2 x1 (!x9)) (spec_l05Reason_k23 a0 a1 a2 x1 false))) (cond (x1.Kind == 5) ((spec_l00In x1.Number 0 (IntKind.i64.wrap ((a0.length : Int) - 1))).bind fun x10 => spec_l05Reason_k23 a0 a1 a2 x1 (!x10)) (spec_l05Reason_k23 a0 a1 a2 x1 false)))
def spec_l05Reason (a0 : List impl_Definition) (a1 : impl_Definition) (a2 : Int) : Option Int :=
  (getI a1.Body a2).bind fun x1 => (spec_l05Kind x1).bind fun x2 => cond (!x2) (some 2) (cond (x1.Kind == 1) ((spec_l01Name x1.Name).bind fun x11 => spec_l05Reason_k15 a0 a1 a2 x1 (!x11)) (spec_l05Reason_k15 a0 a1 a2 x1 false))
def spec_l05Body_b14 (k14 : Int → Option (Int × Int)) (a0 : List impl_Definition) (a1 : impl_Definition) (v6_14 : Int) : Option (Int × Int) :=
  cond (decide (v6_14 < (a1.Body.length : Int))) ((spec_l05Reason a0 a1 v6_14).bind fun x2 => cond (decide (0 < x2)) (some (v6_14, x2)) (k14 (IntKind.i64.wrap (v6_14 + 1)))) (some (0, 0))
def spec_l05Body_l14 (a0 : List impl_Definition) (a1 : impl_Definition) : Nat → Int → Option (Int × Int)
  | 0, _ => none
  | n + 1, v6_14 => spec_l05Body_b14 (spec_l05Body_l14 a0 a1 n) a0 a1 v6_14
def spec_l05Body (a0 : List impl_Definition) (a1 : impl_Definition) : Option (Int × Int) :=
  (spec_l05Shape a1.Body).bind fun x1 => cond (!x1) (some (0, 1)) (lim fun n => spec_l05Body_l14 a0 a1 n 0)
def spec_l05Defs_b34 (k14 : Int → Option Bool) (k34 : Int → Int → Option Bool) (a0 : List impl_Definition) (v3_34 : Int) (v4_34 : Int) : Option Bool :=
  cond (decide (v4_34 < v3_34)) ((getI a0 v4_34).bind fun x4 => (getI a0 v3_34).bind fun x5 => cond (x4.Name == x5.Name) (some false) (k34 v3_34 (IntKind.i64.wrap (v4_34 + 1)))) (k14 (IntKind.i64.wrap (v3_34 + 1)))
def spec_l05Defs_l34 (k14 : Int → Option Bool) (a0 : List impl_Definition) : Nat → Int → Int → Option Bool
  | 0, _, _ => none
  | n + 1, v3_34, v4_34 => spec_l05Defs_b34 k14 (spec_l05Defs_l34 k14 a0 n) a0 v3_34 v4_34
def spec_l05Defs_b56 (k56 : Int → Option Bool) (a0 : List impl_Definition) (v5_56 : Int) : Option Bool :=
  cond (decide (v5_56 < (a0.length : Int))) ((getI a0 v5_56).bind fun x6 => (spec_l05Body a0 x6).bind fun x7 => cond (decide (0 < x7.2)) (some false) (k56 (IntKind.i64.wrap (v5_56 + 1)))) (some true)
def spec_l05Defs_l56 (a0 : List impl_Definition) : Nat → Int → Option Bool
  | 0, _ => none
  | n + 1, v5_56 => spec_l05Defs_b56 (spec_l05Defs_l56 a0 n) a0 v5_56
def spec_l05Defs_b14 (k14 : Int → Option Bool) (a0 : List impl_Definition) (v3_14 : Int) : Option Bool :=
  cond (decide (v3_14 < (a0.length : Int))) ((getI a0 v3_14).bind fun x1 => (spec_l01Name x1.Name).bind fun x2 => cond (!x2) (some false) ((spec_l00In x1.Parameters 0 3).bind fun x3 => cond (!x3) (some false) (lim fun n => spec_l05Defs_l34 k14 a0 n v3_14 0))) (lim fun n => spec_l05Defs_l56 a0 n 0)
def spec_l05Defs_l14 (a0 : List impl_Definition) : Nat → Int → Option Bool
  | 0, _ => none
  | n + 1, v3_14 => spec_l05Defs_b14 (spec_l05Defs_l14 a0 n) a0 v3_14
def spec_l05Defs (a0 : List impl_Definition) : Option Bool :=
  cond (((a0.length : Int) == 0) || (decide (4 < (a0.length : Int)))) (some false) (lim fun n => spec_l05Defs_l14 a0 n 0)
def spec_l03Data_b6 (k6 : Int → Option Bool) (a0 : List Int) (v3_6 : Int) : Option Bool :=
  cond (decide (v3_6 < (a0.length : Int))) ((getI a0 v3_6).bind fun x1 => (spec_l00In x1 0 63).bind fun x2 => cond (!x2) (some false) (k6 (IntKind.i64.wrap (v3_6 + 1)))) (some true)
def spec_l03Data_l6 (a0 : List Int) : Nat → Int → Option Bool
  | 0, _ => none
  | n + 1, v3_6 => spec_l03Data_b6 (spec_l03Data_l6 a0 n) a0 v3_6
def spec_l03Data (a0 : List Int) : Option Bool :=
  lim fun n => spec_l03Data_l6 a0 n 0
def spec_l05Components_b14 (k14 : Int → Option Bool) (a0 : impl_System) (v3_14 : Int) : Option Bool :=
  cond (decide (v3_14 < (a0.Components.length : Int))) ((getI a0.Components v3_14).bind fun x1 => (spec_l00In x1.Definition 0 (IntKind.i64.wrap ((a0.Definitions.length : Int) - 1))).bind fun x2 => cond (!x2) (some false) ((getI a0.Definitions x1.Definition).bind fun x3 => cond ((x1.Values.length : Int) != x3.Parameters) (some false) ((spec_l03Data x1.Values).bind fun x4 => cond (!x4) (some false) (k14 (IntKind.i64.wrap (v3_14 + 1)))))) (some true)
def spec_l05Components_l14 (a0 : impl_System) : Nat → Int → Option Bool
  | 0, _ => none
  | n + 1, v3_14 => spec_l05Components_b14 (spec_l05Components_l14 a0 n) a0 v3_14
def spec_l05Components (a0 : impl_System) : Option Bool :=
  cond (((a0.Components.length : Int) == 0) || (decide (3 < (a0.Components.length : Int)))) (some false) (lim fun n => spec_l05Components_l14 a0 n 0)
def spec_l01Action (a0 : List UInt8) : Option Bool :=
  (spec_l01Name a0).bind fun x1 => some (x1 && (!(a0 == ([116, 97, 117] : List UInt8))))
def spec_l05Meetings_b44 (k14 : Int → Option Bool) (k44 : Int → Int → Option Bool) (a0 : List impl_Meeting) (x1 : impl_Meeting) (v3_44 : Int) (v5_44 : Int) : Option Bool :=
  cond (decide (v5_44 < (a0.length : Int))) ((getI a0 v5_44).bind fun x7 => cond ((x7.Left == x1.Result) || (x7.Right == x1.Result)) (some false) (k44 v3_44 (IntKind.i64.wrap (v5_44 + 1)))) (k14 (IntKind.i64.wrap (v3_44 + 1)))
def spec_l05Meetings_l44 (k14 : Int → Option Bool) (a0 : List impl_Meeting) (x1 : impl_Meeting) : Nat → Int → Int → Option Bool
  | 0, _, _ => none
  | n + 1, v3_44, v5_44 => spec_l05Meetings_b44 k14 (spec_l05Meetings_l44 k14 a0 x1 n) a0 x1 v3_44 v5_44
def spec_l05Meetings_b14 (k14 : Int → Option Bool) (a0 : List impl_Meeting) (v3_14 : Int) : Option Bool :=
  cond (decide (v3_14 < (a0.length : Int))) ((getI a0 v3_14).bind fun x1 => (spec_l01Action x1.Left).bind fun x2 => cond (!x2) (some false) ((spec_l01Action x1.Right).bind fun x3 => cond (!x3) (some false) ((spec_l01Action x1.Result).bind fun x4 => cond ((!x4) || (!(Op.bytesLess x1.Left x1.Right || x1.Left == x1.Right))) (some false) (cond (decide (0 < v3_14)) ((getI a0 (IntKind.i64.wrap (v3_14 - 1))).bind fun x5 => cond ((!(Op.bytesLess x5.Left x1.Left || x5.Left == x1.Left)) || ((x5.Left == x1.Left) && (!(Op.bytesLess x5.Right x1.Right)))) (some false) (lim fun n => spec_l05Meetings_l44 k14 a0 x1 n v3_14 0)) (lim fun n => spec_l05Meetings_l44 k14 a0 x1 n v3_14 0))))) (some true)
def spec_l05Meetings_l14 (a0 : List impl_Meeting) : Nat → Int → Option Bool
  | 0, _ => none
  | n + 1, v3_14 => spec_l05Meetings_b14 (spec_l05Meetings_l14 a0 n) a0 v3_14
def spec_l05Meetings (a0 : List impl_Meeting) : Option Bool :=
  cond (decide (6 < (a0.length : Int))) (some false) (lim fun n => spec_l05Meetings_l14 a0 n 0)
def spec_l11Actions_b6 (k6 : Int → Option Bool) (a0 : List (List UInt8)) (v3_6 : Int) : Option Bool :=
  cond (decide (v3_6 < (a0.length : Int))) ((getI a0 v3_6).bind fun x1 => (spec_l01Action x1).bind fun x2 => cond (!x2) (some false) (k6 (IntKind.i64.wrap (v3_6 + 1)))) (some true)
def spec_l11Actions_l6 (a0 : List (List UInt8)) : Nat → Int → Option Bool
  | 0, _ => none
  | n + 1, v3_6 => spec_l11Actions_b6 (spec_l11Actions_l6 a0 n) a0 v3_6
def spec_l11Actions (a0 : List (List UInt8)) : Option Bool :=
  lim fun n => spec_l11Actions_l6 a0 n 0
def spec_l05Names_b14 (k14 : Int → Option Bool) (a0 : List (List UInt8)) (v3_14 : Int) : Option Bool :=
  cond (decide (v3_14 < (a0.length : Int))) ((getI a0 (IntKind.i64.wrap (v3_14 - 1))).bind fun x2 => (getI a0 v3_14).bind fun x3 => cond (!(Op.bytesLess x2 x3)) (some false) (k14 (IntKind.i64.wrap (v3_14 + 1)))) (some true)
def spec_l05Names_l14 (a0 : List (List UInt8)) : Nat → Int → Option Bool
  | 0, _ => none
  | n + 1, v3_14 => spec_l05Names_b14 (spec_l05Names_l14 a0 n) a0 v3_14
def spec_l05Names (a0 : List (List UInt8)) : Option Bool :=
  cond (decide (12 < (a0.length : Int))) (some false) ((spec_l11Actions a0).bind fun x1 => cond (!x1) (some false) (lim fun n => spec_l05Names_l14 a0 n 1))
def spec_l05Fault (a0 : impl_System) : Option Int :=
  (spec_l05Defs a0.Definitions).bind fun x1 => cond (!x1) (some 1) ((spec_l05Components a0).bind fun x2 => cond (!x2) (some 2) ((spec_l05Meetings a0.Meetings).bind fun x3 => cond (!x3) (some 3) ((spec_l05Names a0.Allowed).bind fun x4 => cond (!x4) (some 4) ((spec_l05Names a0.Hidden).bind fun x5 => cond (!x5) (some 5) (some 0)))))
def spec_l05Is (a0 : impl_System) : Option Bool :=
  (spec_l05Fault a0).bind fun x1 => some (x1 == 0)
def spec_l07Is (a0 : List impl_Definition) (a1 : impl_Point) : Option Bool :=
  (spec_l00In a1.Definition 0 (IntKind.i64.wrap ((a0.length : Int) - 1))).bind fun x1 => cond (!x1) (some false) ((getI a0 a1.Definition).bind fun x2 => (spec_l00In a1.Part 0 (IntKind.i64.wrap ((x2.Body.length : Int) - 1))).bind fun x3 => cond (!x3) (some false) ((getI x2.Body a1.Part).bind fun x4 => cond (x4.Kind == 5) (some false) ((spec_l05Scope x2 a1.Part).bind fun x5 => cond ((a1.Values.length : Int) == x5) ((spec_l03Data a1.Values).bind fun x6 => some x6) (some false))))
def spec_l07State_b14 (k14 : Int → Option Bool) (a0 : impl_System) (a1 : List impl_Point) (v5_14 : Int) : Option Bool :=
  cond (decide (v5_14 < (a1.length : Int))) ((getI a1 v5_14).bind fun x1 => (spec_l07Is a0.Definitions x1).bind fun x2 => cond (!x2) (some false) (k14 (IntKind.i64.wrap (v5_14 + 1)))) (some true)
def spec_l07State_l14 (a0 : impl_System) (a1 : List impl_Point) : Nat → Int → Option Bool
  | 0, _ => none
  | n + 1, v5_14 => spec_l07State_b14 (spec_l07State_l14 a0 a1 n) a0 a1 v5_14
def spec_l07State (a0 : impl_System) (a1 : List impl_Point) : Option Bool :=
  cond ((a1.length : Int) != (a0.Components.length : Int)) (some false) (lim fun n => spec_l07State_l14 a0 a1 n 0)
def spec_ValidState (a0 : impl_System) (a1 : List impl_Point) : Option Bool :=
  (spec_l05Is a0).bind fun x1 => cond x1 ((spec_l07State a0 a1).bind fun x2 => some x2) (some false)
def impl_within (a0 : Int) (a1 : Int) (a2 : Int) : Option Bool :=
  some ((decide (a1 ≤ a0)) && (decide (a0 ≤ a2)))
def impl_parametersOk_c1 (a0 : impl_Definition) : Option Bool :=
  (impl_within a0.Parameters 0 3).bind fun x1 => some (!x1)
def slices_IndexFunc_impl_Definition__impl_parametersOk_c1_b6 (k6 : Int → Option Int) (a0 : List impl_Definition) (v8_6 : Int) : Option Int :=
  cond (decide (v8_6 < (a0.length : Int))) ((getI a0 v8_6).bind fun x1 => (impl_parametersOk_c1 x1).bind fun x2 => cond x2 (some v8_6) (k6 (IntKind.i64.wrap (v8_6 + 1)))) (some (-1))
def slices_IndexFunc_impl_Definition__impl_parametersOk_c1_l6 (a0 : List impl_Definition) : Nat → Int → Option Int
  | 0, _ => none
  | n + 1, v8_6 => slices_IndexFunc_impl_Definition__impl_parametersOk_c1_b6 (slices_IndexFunc_impl_Definition__impl_parametersOk_c1_l6 a0 n) a0 v8_6
def slices_IndexFunc_impl_Definition__impl_parametersOk_c1 (a0 : List impl_Definition) : Option Int :=
  lim fun n => slices_IndexFunc_impl_Definition__impl_parametersOk_c1_l6 a0 n 0
def slices_ContainsFunc_impl_Definition__impl_parametersOk_c1 (a0 : List impl_Definition) : Option Bool :=
  (slices_IndexFunc_impl_Definition__impl_parametersOk_c1 a0).bind fun x1 => some (decide (0 ≤ x1))
def impl_parametersOk (a0 : List impl_Definition) : Option Bool :=
  (slices_ContainsFunc_impl_Definition__impl_parametersOk_c1 a0).bind fun x1 => some (!x1)
def impl_isDigit (a0 : UInt8) : Option Bool :=
  some ((decide (48 ≤ (a0.toNat : Int))) && (decide ((a0.toNat : Int) ≤ 57)))
def impl_IsName_b6 (k6 : Int → Option Bool) (a0 : List UInt8) (v7_6 : Int) : Option Bool :=
  cond (decide (v7_6 < (a0.length : Int))) ((getI a0 v7_6).bind fun x1 => cond (!((decide (97 ≤ (x1.toNat : Int))) && (decide ((x1.toNat : Int) ≤ 122)))) (cond (v7_6 == 0) (some false) ((impl_isDigit x1).bind fun x2 => cond (!x2) (some false) (k6 (IntKind.i64.wrap (v7_6 + 1))))) (k6 (IntKind.i64.wrap (v7_6 + 1)))) (some ((decide (1 ≤ (a0.length : Int))) && (decide ((a0.length : Int) ≤ 10))))
def impl_IsName_l6 (a0 : List UInt8) : Nat → Int → Option Bool
  | 0, _ => none
  | n + 1, v7_6 => impl_IsName_b6 (impl_IsName_l6 a0 n) a0 v7_6
def impl_IsName (a0 : List UInt8) : Option Bool :=
  lim fun n => impl_IsName_l6 a0 n 0
def impl_definitionNamed_c1_2 (a0 : impl_Definition) (a1 : List UInt8) : Option Bool :=
  some (a0.Name == a1)
def slices_IndexFunc_impl_Definition__impl_definitionNamed_c1_b6 (k6 : Int → Option Int) (a0 : List impl_Definition) (a1 : List UInt8) (v8_6 : Int) : Option Int :=
  cond (decide (v8_6 < (a0.length : Int))) ((getI a0 v8_6).bind fun x1 => (impl_definitionNamed_c1_2 x1 a1).bind fun x2 => cond x2 (some v8_6) (k6 (IntKind.i64.wrap (v8_6 + 1)))) (some (-1))
def slices_IndexFunc_impl_Definition__impl_definitionNamed_c1_l6 (a0 : List impl_Definition) (a1 : List UInt8) : Nat → Int → Option Int
  | 0, _ => none
  | n + 1, v8_6 => slices_IndexFunc_impl_Definition__impl_definitionNamed_c1_b6 (slices_IndexFunc_impl_Definition__impl_definitionNamed_c1_l6 a0 a1 n) a0 a1 v8_6
def slices_IndexFunc_impl_Definition__impl_definitionNamed_c1 (a0 : List impl_Definition) (a1 : List UInt8) : Option Int :=
  lim fun n => slices_IndexFunc_impl_Definition__impl_definitionNamed_c1_l6 a0 a1 n 0
def impl_definitionNamed (a0 : List impl_Definition) (a1 : List UInt8) : Option Int :=
  (slices_IndexFunc_impl_Definition__impl_definitionNamed_c1 a0 a1).bind fun x1 => some x1
def impl_Part_follow_k16 (a0 : impl_Part) (v5_16 : Bool) : Option Int :=
  cond v5_16 (some 1) (cond (a0.Kind == 2) (some 2) (some 0))
def impl_Part_follow (a0 : impl_Part) : Option Int :=
  cond (a0.Kind == 1) (impl_Part_follow_k16 a0 true) (cond (a0.Kind == 3) (impl_Part_follow_k16 a0 true) (impl_Part_follow_k16 a0 (a0.Kind == 4)))
def impl_Definition_end_b6 (k6 : Int → Int → Option Int) (a0 : impl_Definition) (v1_6 : Int) (v5_6 : Int) : Option Int :=
  cond (decide (0 < v5_6)) (cond (decide ((a0.Body.length : Int) ≤ v1_6)) (some (-1)) ((getI a0.Body v1_6).bind fun x1 => (impl_Part_follow x1).bind fun x2 => k6 (IntKind.i64.wrap (v1_6 + 1)) (IntKind.i64.wrap (v5_6 + (IntKind.i64.wrap (x2 - 1)))))) (some v1_6)
def impl_Definition_end_l6 (a0 : impl_Definition) : Nat → Int → Int → Option Int
  | 0, _, _ => none
  | n + 1, v1_6, v5_6 => impl_Definition_end_b6 (impl_Definition_end_l6 a0 n) a0 v1_6 v5_6
def impl_Definition_end (a0 : impl_Definition) (a1 : Int) : Option Int :=
  lim fun n => impl_Definition_end_l6 a0 n a1 1
def impl_Definition_places_c1_b20 (rec78 : Int → impl_place → (List impl_place) → impl_Definition → Option (Int × (List impl_place))) (k20 : (List impl_place) → Int → Int → Option (Int × (List impl_place))) (a3 : impl_Definition) (v9_14 : Int) (x2 : impl_Part) (x3 : Int) (v2_20 : List impl_place) (v10_20 : Int) (v37_20 : Int) : Option (Int × (List impl_place)) :=
  cond (decide (v37_20 < x3)) ((rec78 v10_20 (impl_place.mk v9_14 (x2.Kind == 1)) v2_20 a3).bind fun x4 => k20 x4.2 x4.1 (IntKind.i64.wrap (v37_20 + 1))) (some (v10_20, v2_20))
def impl_Definition_places_c1_l20 (rec78 : Int → impl_place → (List impl_place) → impl_Definition → Option (Int × (List impl_place))) (a3 : impl_Definition) (v9_14 : Int) (x2 : impl_Part) (x3 : Int) : Nat → (List impl_place) → Int → Int → Option (Int × (List impl_place))
  | 0, _, _, _ => none
  | n + 1, v2_20, v10_20, v37_20 => impl_Definition_places_c1_b20 rec78 (impl_Definition_places_c1_l20 rec78 a3 v9_14 x2 x3 n) a3 v9_14 x2 x3 v2_20 v10_20 v37_20
def impl_Definition_places_c1_k14 (rec78 : Int → impl_place → (List impl_place) → impl_Definition → Option (Int × (List impl_place))) (a0 : Int) (a1 : impl_place) (a2 : List impl_place) (a3 : impl_Definition) (x2 : impl_Part) (v9_14 : Int) : Option (Int × (List impl_place)) :=
  (impl_Part_follow x2).bind fun x3 => lim fun n => impl_Definition_places_c1_l20 rec78 a3 v9_14 x2 x3 n (List.set a2 (Int.toNat a0) a1) (IntKind.i64.wrap (a0 + 1)) 0
def impl_Definition_places_c1_f (rec78 : Int → impl_place → (List impl_place) → impl_Definition → Option (Int × (List impl_place))) (a0 : Int) (a1 : impl_place) (a2 : List impl_place) (a3 : impl_Definition) : Option (Int × (List impl_place)) :=
  (getI a2 a0).bind fun x1 => (getI a3.Body a0).bind fun x2 => cond (x2.Kind == 4) (impl_Definition_places_c1_k14 rec78 a0 a1 a2 a3 x2 (IntKind.i64.wrap (a1.scope + 1))) (impl_Definition_places_c1_k14 rec78 a0 a1 a2 a3 x2 a1.scope)
def impl_Definition_places_c1_r : Nat → Int → impl_place → (List impl_place) → impl_Definition → Option (Int × (List impl_place))
  | 0, _, _, _, _ => none
  | n + 1, a0, a1, a2, a3 => impl_Definition_places_c1_f (impl_Definition_places_c1_r n) a0 a1 a2 a3
def impl_Definition_places_c1 (a0 : Int) (a1 : impl_place) (a2 : List impl_place) (a3 : impl_Definition) : Option (Int × (List impl_place)) :=
  lim fun n => impl_Definition_places_c1_r n a0 a1 a2 a3
def impl_Definition_places (a0 : impl_Definition) : Option ((List impl_place)) :=
  (mkOk 16 (a0.Body.length : Int)).bind fun _ => (impl_Definition_places_c1 0 (impl_place.mk a0.Parameters false) (List.replicate (Int.toNat (a0.Body.length : Int)) (impl_place.mk 0 false)) a0).bind fun x1 => some x1.2
def impl_Part_kindOk (a0 : impl_Part) : Option Bool :=
  (impl_within a0.Kind 0 5).bind fun x1 => some (((x1 && (((a0.Kind == 4) || (a0.Kind == 5)) || (a0.Number == 0))) && ((a0.Kind == 1) || (a0.Name == ([] : List UInt8)))) && ((((a0.Kind == 1) || (a0.Kind == 3)) || (a0.Kind == 5)) || ((a0.Arguments.length : Int) == 0)))
def impl_IsAction (a0 : List UInt8) : Option Bool :=
  (impl_IsName a0).bind fun x1 => some (x1 && (!(a0 == ([116, 97, 117] : List UInt8))))
def impl_index (a0 : Int) (a1 : Int) : Option Bool :=
  (impl_within a0 0 (IntKind.i64.wrap (a1 - 1))).bind fun x1 => some x1
def impl_Part_countOk (a0 : impl_Part) (a1 : List impl_Definition) : Option Bool :=
  cond (a0.Kind == 1) (some (((a0.Arguments.length : Int) == 0) || ((!(a0.Name == ([116, 97, 117] : List UInt8))) && (decide ((a0.Arguments.length : Int) ≤ 2))))) (cond (a0.Kind == 3) (some ((a0.Arguments.length : Int) == 1)) (cond (a0.Kind == 5) ((getI a1 a0.Number).bind fun x1 => some ((a0.Arguments.length : Int) == x1.Parameters)) (some true)))
def impl_isValue (a0 : Int) : Option Bool :=
  (impl_within a0 0 63).bind fun x1 => some x1
def impl_Term_valid (a0 : impl_Term) (a1 : Int) : Option Bool :=
  cond (a0.Kind == 0) ((impl_isValue a0.Value).bind fun x1 => some x1) (cond (a0.Kind == 1) ((impl_within a0.Value 0 (IntKind.i64.wrap (a1 - 1))).bind fun x2 => some x2) (cond (a0.Kind == 2) ((impl_within a0.Value 0 8).bind fun x3 => some x3) (cond (a0.Kind == 3) (some (a0.Value == 0)) (some false))))
def impl_Term_operands (a0 : impl_Term) : Option Int :=
  cond (a0.Kind == 2) (some 2) (cond (a0.Kind == 3) (some 1) (some 0))
def impl_ValidTerms_b16 (k16 : Int → Int → Option Bool) (a0 : List impl_Term) (a1 : Int) (v7_16 : Int) (v27_16 : Int) : Option Bool :=
  cond (decide (v27_16 < (a0.length : Int))) ((getI a0 v27_16).bind fun x4 => cond (v7_16 == 0) (some false) ((impl_Term_valid x4 a1).bind fun x5 => cond (!x5) (some false) ((impl_Term_operands x4).bind fun x6 => k16 (IntKind.i64.wrap (v7_16 + (IntKind.i64.wrap (x6 - 1)))) (IntKind.i64.wrap (v27_16 + 1))))) (some (v7_16 == 0))
def impl_ValidTerms_l16 (a0 : List impl_Term) (a1 : Int) : Nat → Int → Int → Option Bool
  | 0, _, _ => none
  | n + 1, v7_16, v27_16 => impl_ValidTerms_b16 (impl_ValidTerms_l16 a0 a1 n) a0 a1 v7_16 v27_16
def impl_ValidTerms (a0 : List impl_Term) (a1 : Int) (a2 : Int) : Option Bool :=
  (impl_within a1 0 29).bind fun x1 => cond (!x1) (some false) ((impl_within a2 1 60).bind fun x2 => cond (!x2) (some false) ((impl_within (a0.length : Int) 1 a2).bind fun x3 => cond (!x3) (some false) (lim fun n => impl_ValidTerms_l16 a0 a1 n 1 0)))
def impl_Part_reason_c1_2 (a0 : List impl_Term) (a1 : impl_place) : Option Bool :=
  (impl_ValidTerms a0 a1.scope 15).bind fun x1 => some (!x1)
def slices_IndexFunc_impl_Term__impl_Part_reason_c1_b6 (k6 : Int → Option Int) (a0 : List (List impl_Term)) (a1 : impl_place) (v8_6 : Int) : Option Int :=
  cond (decide (v8_6 < (a0.length : Int))) ((getI a0 v8_6).bind fun x1 => (impl_Part_reason_c1_2 x1 a1).bind fun x2 => cond x2 (some v8_6) (k6 (IntKind.i64.wrap (v8_6 + 1)))) (some (-1))
def slices_IndexFunc_impl_Term__impl_Part_reason_c1_l6 (a0 : List (List impl_Term)) (a1 : impl_place) : Nat → Int → Option Int
  | 0, _ => none
  | n + 1, v8_6 => slices_IndexFunc_impl_Term__impl_Part_reason_c1_b6 (slices_IndexFunc_impl_Term__impl_Part_reason_c1_l6 a0 a1 n) a0 a1 v8_6
def slices_IndexFunc_impl_Term__impl_Part_reason_c1 (a0 : List (List impl_Term)) (a1 : impl_place) : Option Int :=
  lim fun n => slices_IndexFunc_impl_Term__impl_Part_reason_c1_l6 a0 a1 n 0
def slices_ContainsFunc_impl_Term__impl_Part_reason_c1 (a0 : List (List impl_Term)) (a1 : impl_place) : Option Bool :=
  (slices_IndexFunc_impl_Term__impl_Part_reason_c1 a0 a1).bind fun x1 => some (decide (0 ≤ x1))
def impl_Part_reason_k18 (a0 : impl_Part) (a1 : List impl_Definition) (a2 : impl_place) (v26_18 : Bool) : Option Int :=
  cond v26_18 (some 4) ((impl_Part_countOk a0 a1).bind fun x2 => cond (!x2) (some 5) (cond ((a0.Kind == 5) && (!a2.behind)) (some 6) (cond ((a0.Kind == 4) && (decide (6 ≤ a2.scope))) (some 7) ((slices_ContainsFunc_impl_Term__impl_Part_reason_c1 a0.Arguments a2).bind fun x3 => cond x3 (some 8) (some 0)))))
def impl_Part_reason_k12 (a0 : impl_Part) (a1 : List impl_Definition) (a2 : impl_place) (v11_12 : Bool) : Option Int :=
  cond v11_12 (some 3) (cond (a0.Kind == 4) ((impl_within a0.Number 1 7).bind fun x4 => cond (!x4) (impl_Part_reason_k18 a0 a1 a2 true) (cond (a0.Kind == 5) ((impl_index a0.Number (a1.length : Int)).bind fun x5 => impl_Part_reason_k18 a0 a1 a2 (!x5)) (impl_Part_reason_k18 a0 a1 a2 false))) (cond (a0.Kind == 5) ((impl_index a0.Number (a1.length : Int)).bind fun x6 => impl_Part_reason_k18 a0 a1 a2 (!x6)) (impl_Part_reason_k18 a0 a1 a2 false)))
def impl_Part_reason (a0 : impl_Part) (a1 : List impl_Definition) (a2 : impl_place) : Option Int :=
  (impl_Part_kindOk a0).bind fun x1 => cond (!x1) (some 2) (cond (a0.Kind == 1) (cond (!(a0.Name == ([116, 97, 117] : List UInt8))) ((impl_IsAction a0.Name).bind fun x7 => impl_Part_reason_k12 a0 a1 a2 (!x7)) (impl_Part_reason_k12 a0 a1 a2 false)) (impl_Part_reason_k12 a0 a1 a2 false))
def impl_bodyFault_b16 (k16 : Int → Option (Int × Int)) (a0 : List impl_Definition) (a1 : impl_Definition) (x3 : (List impl_place)) (v28_16 : Int) : Option (Int × Int) :=
  cond (decide (v28_16 < (a1.Body.length : Int))) ((getI a1.Body v28_16).bind fun x4 => (getI x3 v28_16).bind fun x5 => (impl_Part_reason x4 a0 x5).bind fun x6 => cond (x6 != 0) (some (v28_16, x6)) (k16 (IntKind.i64.wrap (v28_16 + 1)))) (some (0, 0))
def impl_bodyFault_l16 (a0 : List impl_Definition) (a1 : impl_Definition) (x3 : (List impl_place)) : Nat → Int → Option (Int × Int)
  | 0, _ => none
  | n + 1, v28_16 => impl_bodyFault_b16 (impl_bodyFault_l16 a0 a1 x3 n) a0 a1 x3 v28_16
def impl_bodyFault (a0 : List impl_Definition) (a1 : impl_Definition) : Option (Int × Int) :=
  (impl_within (a1.Body.length : Int) 1 20).bind fun x1 => cond (!x1) (some (0, 1)) ((impl_Definition_end a1 0).bind fun x2 => cond (x2 != (a1.Body.length : Int)) (some (0, 1)) ((impl_Definition_places a1).bind fun x3 => lim fun n => impl_bodyFault_l16 a0 a1 x3 n 0))
def impl_ValidDefinitions_b14 (k14 : Int → Option Bool) (a0 : List impl_Definition) (v18_14 : Int) : Option Bool :=
  cond (decide (v18_14 < (a0.length : Int))) ((getI a0 v18_14).bind fun x3 => (impl_IsName x3.Name).bind fun x4 => cond (!x4) (some false) ((subL a0 0 v18_14).bind fun x5 => (impl_definitionNamed x5 x3.Name).bind fun x6 => cond (decide (0 ≤ x6)) (some false) ((impl_bodyFault a0 x3).bind fun x7 => cond (x7.2 != 0) (some false) (k14 (IntKind.i64.wrap (v18_14 + 1)))))) (some true)
def impl_ValidDefinitions_l14 (a0 : List impl_Definition) : Nat → Int → Option Bool
  | 0, _ => none
  | n + 1, v18_14 => impl_ValidDefinitions_b14 (impl_ValidDefinitions_l14 a0 n) a0 v18_14
def impl_ValidDefinitions (a0 : List impl_Definition) : Option Bool :=
  (impl_within (a0.length : Int) 1 4).bind fun x1 => cond (!x1) (some false) ((impl_parametersOk a0).bind fun x2 => cond (!x2) (some false) (lim fun n => impl_ValidDefinitions_l14 a0 n 0))
def impl_areValues_c1 (a0 : Int) : Option Bool :=
  (impl_isValue a0).bind fun x1 => some (!x1)
def slices_IndexFunc_int64_int64__impl_areValues_c1_b6 (k6 : Int → Option Int) (a0 : List Int) (v8_6 : Int) : Option Int :=
  cond (decide (v8_6 < (a0.length : Int))) ((getI a0 v8_6).bind fun x1 => (impl_areValues_c1 x1).bind fun x2 => cond x2 (some v8_6) (k6 (IntKind.i64.wrap (v8_6 + 1)))) (some (-1))
def slices_IndexFunc_int64_int64__impl_areValues_c1_l6 (a0 : List Int) : Nat → Int → Option Int
  | 0, _ => none
  | n + 1, v8_6 => slices_IndexFunc_int64_int64__impl_areValues_c1_b6 (slices_IndexFunc_int64_int64__impl_areValues_c1_l6 a0 n) a0 v8_6
def slices_IndexFunc_int64_int64__impl_areValues_c1 (a0 : List Int) : Option Int :=
  lim fun n => slices_IndexFunc_int64_int64__impl_areValues_c1_l6 a0 n 0
def slices_ContainsFunc_int64_int64__impl_areValues_c1 (a0 : List Int) : Option Bool :=
  (slices_IndexFunc_int64_int64__impl_areValues_c1 a0).bind fun x1 => some (decide (0 ≤ x1))
def impl_areValues (a0 : List Int) : Option Bool :=
  (slices_ContainsFunc_int64_int64__impl_areValues_c1 a0).bind fun x1 => some (!x1)
def impl_componentOk (a0 : List impl_Definition) (a1 : impl_Component) : Option Bool :=
  (impl_index a1.Definition (a0.length : Int)).bind fun x1 => cond x1 ((getI a0 a1.Definition).bind fun x2 => cond ((a1.Values.length : Int) == x2.Parameters) ((impl_areValues a1.Values).bind fun x3 => some x3) (some false)) (some false)
def impl_SystemFault_c1_2 (a0 : impl_Component) (a1 : impl_System) : Option Bool :=
  (impl_componentOk a1.Definitions a0).bind fun x1 => some (!x1)
def slices_IndexFunc_impl_Component__impl_SystemFault_c1_b6 (k6 : Int → Option Int) (a0 : List impl_Component) (a1 : impl_System) (v8_6 : Int) : Option Int :=
  cond (decide (v8_6 < (a0.length : Int))) ((getI a0 v8_6).bind fun x1 => (impl_SystemFault_c1_2 x1 a1).bind fun x2 => cond x2 (some v8_6) (k6 (IntKind.i64.wrap (v8_6 + 1)))) (some (-1))
def slices_IndexFunc_impl_Component__impl_SystemFault_c1_l6 (a0 : List impl_Component) (a1 : impl_System) : Nat → Int → Option Int
  | 0, _ => none
  | n + 1, v8_6 => slices_IndexFunc_impl_Component__impl_SystemFault_c1_b6 (slices_IndexFunc_impl_Component__impl_SystemFault_c1_l6 a0 a1 n) a0 a1 v8_6
def slices_IndexFunc_impl_Component__impl_SystemFault_c1 (a0 : List impl_Component) (a1 : impl_System) : Option Int :=
  lim fun n => slices_IndexFunc_impl_Component__impl_SystemFault_c1_l6 a0 a1 n 0
def slices_ContainsFunc_impl_Component__impl_SystemFault_c1 (a0 : List impl_Component) (a1 : impl_System) : Option Bool :=
  (slices_IndexFunc_impl_Component__impl_SystemFault_c1 a0 a1).bind fun x1 => some (decide (0 ≤ x1))
def cmp_isNaN_string (a0 : List UInt8) : Option Bool :=
  some false
def cmp_Compare_string (a0 : List UInt8) (a1 : List UInt8) : Option Int :=
  (cmp_isNaN_string a0).bind fun x1 => (cmp_isNaN_string a1).bind fun x2 => cond x1 (cond x2 (some 0) (some (-1))) (cond x2 (some 1) (cond (Op.bytesLess a0 a1) (some (-1)) (cond (!(Op.bytesLess a0 a1 || a0 == a1)) (some 1) (some 0))))
def slices_Compare_string_string_b6 (k6 : Int → Option Int) (a0 : List (List UInt8)) (a1 : List (List UInt8)) (v11_6 : Int) : Option Int :=
  cond (decide (v11_6 < (a0.length : Int))) ((getI a0 v11_6).bind fun x1 => cond (decide ((a1.length : Int) ≤ v11_6)) (some 1) ((getI a1 v11_6).bind fun x2 => (cmp_Compare_string x1 x2).bind fun x3 => cond (x3 != 0) (some x3) (k6 (IntKind.i64.wrap (v11_6 + 1))))) (cond (decide ((a0.length : Int) < (a1.length : Int))) (some (-1)) (some 0))
def slices_Compare_string_string_l6 (a0 : List (List UInt8)) (a1 : List (List UInt8)) : Nat → Int → Option Int
  | 0, _ => none
  | n + 1, v11_6 => slices_Compare_string_string_b6 (slices_Compare_string_string_l6 a0 a1 n) a0 a1 v11_6
def slices_Compare_string_string (a0 : List (List UInt8)) (a1 : List (List UInt8)) : Option Int :=
  lim fun n => slices_Compare_string_string_l6 a0 a1 n 0
def impl_compareMeetings (a0 : impl_Meeting) (a1 : impl_Meeting) : Option Int :=
  (slices_Compare_string_string [a0.Left, a0.Right] [a1.Left, a1.Right]).bind fun x1 => some x1
def impl_meetingsOk_c1_2 (a0 : impl_Meeting) (a1 : impl_Meeting) : Option Bool :=
  some ((a0.Left == a1.Result) || (a0.Right == a1.Result))
def slices_IndexFunc_impl_Meeting__impl_meetingsOk_c1_b6 (k6 : Int → Option Int) (a0 : List impl_Meeting) (a1 : impl_Meeting) (v8_6 : Int) : Option Int :=
  cond (decide (v8_6 < (a0.length : Int))) ((getI a0 v8_6).bind fun x1 => (impl_meetingsOk_c1_2 x1 a1).bind fun x2 => cond x2 (some v8_6) (k6 (IntKind.i64.wrap (v8_6 + 1)))) (some (-1))
def slices_IndexFunc_impl_Meeting__impl_meetingsOk_c1_l6 (a0 : List impl_Meeting) (a1 : impl_Meeting) : Nat → Int → Option Int
  | 0, _ => none
  | n + 1, v8_6 => slices_IndexFunc_impl_Meeting__impl_meetingsOk_c1_b6 (slices_IndexFunc_impl_Meeting__impl_meetingsOk_c1_l6 a0 a1 n) a0 a1 v8_6
def slices_IndexFunc_impl_Meeting__impl_meetingsOk_c1 (a0 : List impl_Meeting) (a1 : impl_Meeting) : Option Int :=
  lim fun n => slices_IndexFunc_impl_Meeting__impl_meetingsOk_c1_l6 a0 a1 n 0
def slices_ContainsFunc_impl_Meeting__impl_meetingsOk_c1 (a0 : List impl_Meeting) (a1 : impl_Meeting) : Option Bool :=
  (slices_IndexFunc_impl_Meeting__impl_meetingsOk_c1 a0 a1).bind fun x1 => some (decide (0 ≤ x1))
def impl_meetingsOk_b6 (k6 : Int → Option Bool) (a0 : List impl_Meeting) (v7_6 : Int) : Option Bool :=
  cond (decide (v7_6 < (a0.length : Int))) ((getI a0 v7_6).bind fun x1 => (impl_IsAction x1.Left).bind fun x5 => cond (!x5) (some false) ((impl_IsAction x1.Right).bind fun x6 => cond (!x6) (some false) ((impl_IsAction x1.Result).bind fun x7 => cond (!x7) (some false) (cond (!(Op.bytesLess x1.Left x1.Right || x1.Left == x1.Right)) (some false) (cond (decide (0 < v7_6)) ((getI a0 (IntKind.i64.wrap (v7_6 - 1))).bind fun x8 => (impl_compareMeetings x8 x1).bind fun x9 => cond (decide (0 ≤ x9)) (some false) ((slices_ContainsFunc_impl_Meeting__impl_meetingsOk_c1 a0 x1).bind fun x10 => cond x10 (some false) (k6 (IntKind.i64.wrap (v7_6 + 1))))) ((slices_ContainsFunc_impl_Meeting__impl_meetingsOk_c1 a0 x1).bind fun x11 => cond x11 (some false) (k6 (IntKind.i64.wrap (v7_6 + 1))))))))) (some (decide ((a0.length : Int) ≤ 6)))
def impl_meetingsOk_l6 (a0 : List impl_Meeting) : Nat → Int → Option Bool
  | 0, _ => none
  | n + 1, v7_6 => impl_meetingsOk_b6 (impl_meetingsOk_l6 a0 n) a0 v7_6
def impl_meetingsOk (a0 : List impl_Meeting) : Option Bool :=
  lim fun n => impl_meetingsOk_l6 a0 n 0
def impl_namesOk_b6 (k6 : Int → Option Bool) (a0 : List (List UInt8)) (v7_6 : Int) : Option Bool :=
  cond (decide (v7_6 < (a0.length : Int))) ((getI a0 v7_6).bind fun x1 => (impl_IsAction x1).bind fun x2 => cond (!x2) (some false) (cond (decide (0 < v7_6)) ((getI a0 (IntKind.i64.wrap (v7_6 - 1))).bind fun x3 => cond (Op.bytesLess x1 x3 || x1 == x3) (some false) (k6 (IntKind.i64.wrap (v7_6 + 1)))) (k6 (IntKind.i64.wrap (v7_6 + 1))))) (some (decide ((a0.length : Int) ≤ 12)))
def impl_namesOk_l6 (a0 : List (List UInt8)) : Nat → Int → Option Bool
  | 0, _ => none
  | n + 1, v7_6 => impl_namesOk_b6 (impl_namesOk_l6 a0 n) a0 v7_6
def impl_namesOk (a0 : List (List UInt8)) : Option Bool :=
  lim fun n => impl_namesOk_l6 a0 n 0
def impl_SystemFault (a0 : impl_System) : Option Int :=
  (impl_ValidDefinitions a0.Definitions).bind fun x1 => cond (!x1) (some 1) ((impl_within (a0.Components.length : Int) 1 3).bind fun x2 => cond (!x2) (some 2) ((slices_ContainsFunc_impl_Component__impl_SystemFault_c1 a0.Components a0).bind fun x3 => cond x3 (some 2) ((impl_meetingsOk a0.Meetings).bind fun x4 => cond (!x4) (some 3) ((impl_namesOk a0.Allowed).bind fun x5 => cond (!x5) (some 4) ((impl_namesOk a0.Hidden).bind fun x6 => cond (!x6) (some 5) (some 0))))))
def impl_ValidSystem (a0 : impl_System) : Option Bool :=
  (impl_SystemFault a0).bind fun x1 => some (x1 == 0)
def impl_pointOk (a0 : List impl_Definition) (a1 : impl_Point) : Option Bool :=
  (impl_index a1.Definition (a0.length : Int)).bind fun x1 => cond (!x1) (some false) ((getI a0 a1.Definition).bind fun x2 => (impl_index a1.Part (x2.Body.length : Int)).bind fun x3 => cond (!x3) (some false) ((getI x2.Body a1.Part).bind fun x4 => cond (x4.Kind != 5) ((impl_Definition_places x2).bind fun x5 => (getI x5 a1.Part).bind fun x6 => cond ((a1.Values.length : Int) == x6.scope) ((impl_areValues a1.Values).bind fun x7 => some x7) (some false)) (some false)))
def impl_ValidState_c1_2 (a0 : impl_Point) (a1 : impl_System) : Option Bool :=
  (impl_pointOk a1.Definitions a0).bind fun x1 => some (!x1)
def slices_IndexFunc_impl_Point__impl_ValidState_c1_b6 (k6 : Int → Option Int) (a0 : List impl_Point) (a1 : impl_System) (v8_6 : Int) : Option Int :=
  cond (decide (v8_6 < (a0.length : Int))) ((getI a0 v8_6).bind fun x1 => (impl_ValidState_c1_2 x1 a1).bind fun x2 => cond x2 (some v8_6) (k6 (IntKind.i64.wrap (v8_6 + 1)))) (some (-1))
def slices_IndexFunc_impl_Point__impl_ValidState_c1_l6 (a0 : List impl_Point) (a1 : impl_System) : Nat → Int → Option Int
  | 0, _ => none
  | n + 1, v8_6 => slices_IndexFunc_impl_Point__impl_ValidState_c1_b6 (slices_IndexFunc_impl_Point__impl_ValidState_c1_l6 a0 a1 n) a0 a1 v8_6
def slices_IndexFunc_impl_Point__impl_ValidState_c1 (a0 : List impl_Point) (a1 : impl_System) : Option Int :=
  lim fun n => slices_IndexFunc_impl_Point__impl_ValidState_c1_l6 a0 a1 n 0
def slices_ContainsFunc_impl_Point__impl_ValidState_c1 (a0 : List impl_Point) (a1 : impl_System) : Option Bool :=
  (slices_IndexFunc_impl_Point__impl_ValidState_c1 a0 a1).bind fun x1 => some (decide (0 ≤ x1))
def impl_ValidState (a0 : impl_System) (a1 : List impl_Point) : Option Bool :=
  (impl_ValidSystem a0).bind fun x2 => cond x2 (cond ((a1.length : Int) == (a0.Components.length : Int)) ((slices_ContainsFunc_impl_Point__impl_ValidState_c1 a1 a0).bind fun x3 => some (!x3)) (some false)) (some false)
def laws_eqTerm (a0 : impl_Term) (a1 : impl_Term) : Option Bool :=
  cond (a0.Kind != a1.Kind) (some false) (cond (a0.Value != a1.Value) (some false) (some true))
def laws_eqTermS_b14 (k14 : Int → Option Bool) (a0 : List impl_Term) (a1 : List impl_Term) (v5_14 : Int) : Option Bool :=
  cond (decide (v5_14 < (a0.length : Int))) ((getI a0 v5_14).bind fun x1 => (getI a1 v5_14).bind fun x2 => (laws_eqTerm x1 x2).bind fun x3 => cond (!x3) (some false) (k14 (IntKind.i64.wrap (v5_14 + 1)))) (some true)
def laws_eqTermS_l14 (a0 : List impl_Term) (a1 : List impl_Term) : Nat → Int → Option Bool
  | 0, _ => none
  | n + 1, v5_14 => laws_eqTermS_b14 (laws_eqTermS_l14 a0 a1 n) a0 a1 v5_14
def laws_eqTermS (a0 : List impl_Term) (a1 : List impl_Term) : Option Bool :=
  cond ((a0.length : Int) != (a1.length : Int)) (some false) (lim fun n => laws_eqTermS_l14 a0 a1 n 0)
def laws_eqTermSS_b14 (k14 : Int → Option Bool) (a0 : List (List impl_Term)) (a1 : List (List impl_Term)) (v5_14 : Int) : Option Bool :=
  cond (decide (v5_14 < (a0.length : Int))) ((getI a0 v5_14).bind fun x1 => (getI a1 v5_14).bind fun x2 => (laws_eqTermS x1 x2).bind fun x3 => cond (!x3) (some false) (k14 (IntKind.i64.wrap (v5_14 + 1)))) (some true)
def laws_eqTermSS_l14 (a0 : List (List impl_Term)) (a1 : List (List impl_Term)) : Nat → Int → Option Bool
  | 0, _ => none
  | n + 1, v5_14 => laws_eqTermSS_b14 (laws_eqTermSS_l14 a0 a1 n) a0 a1 v5_14
def laws_eqTermSS (a0 : List (List impl_Term)) (a1 : List (List impl_Term)) : Option Bool :=
  cond ((a0.length : Int) != (a1.length : Int)) (some false) (lim fun n => laws_eqTermSS_l14 a0 a1 n 0)
def laws_eqPart (a0 : impl_Part) (a1 : impl_Part) : Option Bool :=
  cond (a0.Kind != a1.Kind) (some false) (cond (a0.Number != a1.Number) (some false) (cond (!(a0.Name == a1.Name)) (some false) ((laws_eqTermSS a0.Arguments a1.Arguments).bind fun x1 => cond (!x1) (some false) (some true))))
def laws_eqPartS_b14 (k14 : Int → Option Bool) (a0 : List impl_Part) (a1 : List impl_Part) (v5_14 : Int) : Option Bool :=
  cond (decide (v5_14 < (a0.length : Int))) ((getI a0 v5_14).bind fun x1 => (getI a1 v5_14).bind fun x2 => (laws_eqPart x1 x2).bind fun x3 => cond (!x3) (some false) (k14 (IntKind.i64.wrap (v5_14 + 1)))) (some true)
def laws_eqPartS_l14 (a0 : List impl_Part) (a1 : List impl_Part) : Nat → Int → Option Bool
  | 0, _ => none
  | n + 1, v5_14 => laws_eqPartS_b14 (laws_eqPartS_l14 a0 a1 n) a0 a1 v5_14
def laws_eqPartS (a0 : List impl_Part) (a1 : List impl_Part) : Option Bool :=
  cond ((a0.length : Int) != (a1.length : Int)) (some false) (lim fun n => laws_eqPartS_l14 a0 a1 n 0)
def laws_eqDefinition (a0 : impl_Definition) (a1 : impl_Definition) : Option Bool :=
  cond (!(a0.Name == a1.Name)) (some false) (cond (a0.Parameters != a1.Parameters) (some false) ((laws_eqPartS a0.Body a1.Body).bind fun x1 => cond (!x1) (some false) (some true)))
def laws_eqDefinitionS_b14 (k14 : Int → Option Bool) (a0 : List impl_Definition) (a1 : List impl_Definition) (v5_14 : Int) : Option Bool :=
  cond (decide (v5_14 < (a0.length : Int))) ((getI a0 v5_14).bind fun x1 => (getI a1 v5_14).bind fun x2 => (laws_eqDefinition x1 x2).bind fun x3 => cond (!x3) (some false) (k14 (IntKind.i64.wrap (v5_14 + 1)))) (some true)
def laws_eqDefinitionS_l14 (a0 : List impl_Definition) (a1 : List impl_Definition) : Nat → Int → Option Bool
  | 0, _ => none
  | n + 1, v5_14 => laws_eqDefinitionS_b14 (laws_eqDefinitionS_l14 a0 a1 n) a0 a1 v5_14
def laws_eqDefinitionS (a0 : List impl_Definition) (a1 : List impl_Definition) : Option Bool :=
  cond ((a0.length : Int) != (a1.length : Int)) (some false) (lim fun n => laws_eqDefinitionS_l14 a0 a1 n 0)
def laws_eqInt64S_b14 (k14 : Int → Option Bool) (a0 : List Int) (a1 : List Int) (v5_14 : Int) : Option Bool :=
  cond (decide (v5_14 < (a0.length : Int))) ((getI a0 v5_14).bind fun x1 => (getI a1 v5_14).bind fun x2 => cond (x1 != x2) (some false) (k14 (IntKind.i64.wrap (v5_14 + 1)))) (some true)
def laws_eqInt64S_l14 (a0 : List Int) (a1 : List Int) : Nat → Int → Option Bool
  | 0, _ => none
  | n + 1, v5_14 => laws_eqInt64S_b14 (laws_eqInt64S_l14 a0 a1 n) a0 a1 v5_14
def laws_eqInt64S (a0 : List Int) (a1 : List Int) : Option Bool :=
  cond ((a0.length : Int) != (a1.length : Int)) (some false) (lim fun n => laws_eqInt64S_l14 a0 a1 n 0)
def laws_eqComponent (a0 : impl_Component) (a1 : impl_Component) : Option Bool :=
  cond (a0.Definition != a1.Definition) (some false) ((laws_eqInt64S a0.Values a1.Values).bind fun x1 => cond (!x1) (some false) (some true))
def laws_eqComponentS_b14 (k14 : Int → Option Bool) (a0 : List impl_Component) (a1 : List impl_Component) (v5_14 : Int) : Option Bool :=
  cond (decide (v5_14 < (a0.length : Int))) ((getI a0 v5_14).bind fun x1 => (getI a1 v5_14).bind fun x2 => (laws_eqComponent x1 x2).bind fun x3 => cond (!x3) (some false) (k14 (IntKind.i64.wrap (v5_14 + 1)))) (some true)
def laws_eqComponentS_l14 (a0 : List impl_Component) (a1 : List impl_Component) : Nat → Int → Option Bool
  | 0, _ => none
  | n + 1, v5_14 => laws_eqComponentS_b14 (laws_eqComponentS_l14 a0 a1 n) a0 a1 v5_14
def laws_eqComponentS (a0 : List impl_Component) (a1 : List impl_Component) : Option Bool :=
  cond ((a0.length : Int) != (a1.length : Int)) (some false) (lim fun n => laws_eqComponentS_l14 a0 a1 n 0)
def laws_eqMeeting (a0 : impl_Meeting) (a1 : impl_Meeting) : Option Bool :=
  cond (!(a0.Left == a1.Left)) (some false) (cond (!(a0.Right == a1.Right)) (some false) (cond (!(a0.Result == a1.Result)) (some false) (some true)))
def laws_eqMeetingS_b14 (k14 : Int → Option Bool) (a0 : List impl_Meeting) (a1 : List impl_Meeting) (v5_14 : Int) : Option Bool :=
  cond (decide (v5_14 < (a0.length : Int))) ((getI a0 v5_14).bind fun x1 => (getI a1 v5_14).bind fun x2 => (laws_eqMeeting x1 x2).bind fun x3 => cond (!x3) (some false) (k14 (IntKind.i64.wrap (v5_14 + 1)))) (some true)
def laws_eqMeetingS_l14 (a0 : List impl_Meeting) (a1 : List impl_Meeting) : Nat → Int → Option Bool
  | 0, _ => none
  | n + 1, v5_14 => laws_eqMeetingS_b14 (laws_eqMeetingS_l14 a0 a1 n) a0 a1 v5_14
def laws_eqMeetingS (a0 : List impl_Meeting) (a1 : List impl_Meeting) : Option Bool :=
  cond ((a0.length : Int) != (a1.length : Int)) (some false) (lim fun n => laws_eqMeetingS_l14 a0 a1 n 0)
def laws_eqStringS_b14 (k14 : Int → Option Bool) (a0 : List (List UInt8)) (a1 : List (List UInt8)) (v5_14 : Int) : Option Bool :=
  cond (decide (v5_14 < (a0.length : Int))) ((getI a0 v5_14).bind fun x1 => (getI a1 v5_14).bind fun x2 => cond (!(x1 == x2)) (some false) (k14 (IntKind.i64.wrap (v5_14 + 1)))) (some true)
def laws_eqStringS_l14 (a0 : List (List UInt8)) (a1 : List (List UInt8)) : Nat → Int → Option Bool
  | 0, _ => none
  | n + 1, v5_14 => laws_eqStringS_b14 (laws_eqStringS_l14 a0 a1 n) a0 a1 v5_14
def laws_eqStringS (a0 : List (List UInt8)) (a1 : List (List UInt8)) : Option Bool :=
  cond ((a0.length : Int) != (a1.length : Int)) (some false) (lim fun n => laws_eqStringS_l14 a0 a1 n 0)
def laws_eqSystem (a0 : impl_System) (a1 : impl_System) : Option Bool :=
  (laws_eqDefinitionS a0.Definitions a1.Definitions).bind fun x1 => cond (!x1) (some false) ((laws_eqComponentS a0.Components a1.Components).bind fun x2 => cond (!x2) (some false) ((laws_eqMeetingS a0.Meetings a1.Meetings).bind fun x3 => cond (!x3) (some false) ((laws_eqStringS a0.Allowed a1.Allowed).bind fun x4 => cond (!x4) (some false) ((laws_eqStringS a0.Hidden a1.Hidden).bind fun x5 => cond (!x5) (some false) (some true)))))
def laws_eqPoint (a0 : impl_Point) (a1 : impl_Point) : Option Bool :=
  cond (a0.Definition != a1.Definition) (some false) (cond (a0.Part != a1.Part) (some false) ((laws_eqInt64S a0.Values a1.Values).bind fun x1 => cond (!x1) (some false) (some true)))
def laws_eqPointS_b14 (k14 : Int → Option Bool) (a0 : List impl_Point) (a1 : List impl_Point) (v5_14 : Int) : Option Bool :=
  cond (decide (v5_14 < (a0.length : Int))) ((getI a0 v5_14).bind fun x1 => (getI a1 v5_14).bind fun x2 => (laws_eqPoint x1 x2).bind fun x3 => cond (!x3) (some false) (k14 (IntKind.i64.wrap (v5_14 + 1)))) (some true)
def laws_eqPointS_l14 (a0 : List impl_Point) (a1 : List impl_Point) : Nat → Int → Option Bool
  | 0, _ => none
  | n + 1, v5_14 => laws_eqPointS_b14 (laws_eqPointS_l14 a0 a1 n) a0 a1 v5_14
def laws_eqPointS (a0 : List impl_Point) (a1 : List impl_Point) : Option Bool :=
  cond ((a0.length : Int) != (a1.length : Int)) (some false) (lim fun n => laws_eqPointS_l14 a0 a1 n 0)
def laws_FnExactValidState (a0 : laws_System) (a1 : List laws_Point) : Option Bool :=
  (laws_szSystem a0 1048576).bind fun x1 => cond (decide (x1 < 0)) (some true) ((laws_szPointS a1 x1).bind fun x2 => cond (decide (x2 < 0)) (some true) ((laws_toSystem a0).bind fun x3 => (laws_toPointS a1).bind fun x4 => (spec_ValidState x3 x4).bind fun x5 => (laws_toSystem a0).bind fun x6 => (laws_toPointS a1).bind fun x7 => (impl_ValidState x6 x7).bind fun x8 => cond (!(x8 == x5)) (some false) ((laws_toSystem a0).bind fun x9 => (laws_eqSystem x6 x9).bind fun x10 => cond (!x10) (some false) ((laws_toPointS a1).bind fun x11 => (laws_eqPointS x7 x11).bind fun x12 => cond (!x12) (some false) (some true)))))
end
end Go.Sh
