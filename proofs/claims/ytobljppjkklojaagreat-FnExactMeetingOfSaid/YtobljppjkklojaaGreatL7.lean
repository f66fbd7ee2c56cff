/- The law FnExactMeetingOf of the given program returns true for every input, and each argument reads afterwards as before. No condition. -/
import Derived.Test.YtobljppjkklojaaGreatRows
import Derived.Test.YtobljppjkklojaaGreatW7
import Derived.Test.YtobljppjkklojaaGreatFwI
import Derived.Test.YtobljppjkklojaaGreatUY7
import Derived.WalkKit
import Derived.ProofKit
import Derived.OpenShut
import Derived.ChangeOld
import Derived.Below
import Derived.Carry
namespace Go.Proofs.YtobljppjkklojaaGreat.fnExactMeetingOf
open Go.ChangeShapes Go.WideShapes Go.ChangeAt Go.RowKit
open Go.Fw Go.Sh
set_option linter.unusedVariables false

theorem own : ownKnob Tryz.prog.godebug = none := by kernel_rfl
theorem laidOut : laidOutB Tryz.prog = true := by kernel_rfl

theorem rd9 {H : Type} {enc : TypeId × Value → H} {w : World} {base : Nat} {sp : Nat → Bool} {held : Bool} : Rds enc Tryz.prog w base sp held 9 (fun x : List UInt8 => .str x) (fun x : List UInt8 => x.length ≤ 9223372036854775807) := rds_str Tryz.underlying9
theorem rd2 {H : Type} {enc : TypeId × Value → H} {w : World} {base : Nat} {sp : Nat → Bool} {held : Bool} : Rds enc Tryz.prog w base sp held 2 (fun x : Int => .int .i64 x) (fun x : Int => (-9223372036854775808 ≤ x ∧ x ≤ 9223372036854775807)) := rds_i64 Tryz.underlying2
theorem rd256 {H : Type} {enc : TypeId × Value → H} {w : World} {base : Nat} {sp : Nat → Bool} {held : Bool} : Rds enc Tryz.prog w base sp held 256 e_laws_Term (fun x : laws_Term => wf_laws_Term x) := by
  intro fuel cs x hx
  obtain ⟨xs, n, _, _, hl, hn, hf⟩ := DataW.trod_struct Tryz.underlying256 hx
  have hcs : cs.length = 2 := hl.trans (by kernel_rfl)
  obtain ⟨y0, w0, r0⟩ := fld_get rd2 (hf 0 _ rfl) (by rw [List.getElem?_eq_getElem (by rw [hn]; decide)]; rfl)
  change RV w (F0 w) (.int .i64 y0) ((cs.drop 0).take (Tryz.prog.cellsOf 2)) _ at r0
  rw [show Tryz.prog.cellsOf 2 = 1 by kernel_rfl] at r0
  obtain ⟨y1, w1, r1⟩ := fld_get rd2 (hf 1 _ rfl) (by rw [List.getElem?_eq_getElem (by rw [hn]; decide)]; rfl)
  change RV w (F0 w) (.int .i64 y1) ((cs.drop 1).take (Tryz.prog.cellsOf 2)) _ at r1
  rw [show Tryz.prog.cellsOf 2 = 1 by kernel_rfl] at r1
  have key := flds_rvs [(.int .i64 y0, 0, 1), (.int .i64 y1, 1, 1)] 0 (by rw [hcs]; rfl) ⟨r0, r1, trivial⟩
  refine ⟨⟨y0, y1⟩, ⟨w0, w1⟩, ?_⟩
  show RV w (F0 w) (.agg [.int .i64 y0, .int .i64 y1]) cs _
  rw [RV]
  exact key
theorem rd138 {H : Type} {enc : TypeId × Value → H} {w : World} {base : Nat} {sp : Nat → Bool} {held : Bool} : Rds enc Tryz.prog w base sp held 138 (fun x : List laws_Term => .slice (x.map e_laws_Term)) (fun x : List laws_Term => (x.length ≤ 9223372036854775807 ∧ ∀ y ∈ x, wf_laws_Term y)) := rds_slice (sz := 2) (ec := e_laws_Term) Tryz.underlying138 (by kernel_rfl) (by decide) (fun _ => rfl) rd256
theorem rd139 {H : Type} {enc : TypeId × Value → H} {w : World} {base : Nat} {sp : Nat → Bool} {held : Bool} : Rds enc Tryz.prog w base sp held 139 (fun x : List (List laws_Term) => .slice (x.map e_s_laws_Term)) (fun x : List (List laws_Term) => (x.length ≤ 9223372036854775807 ∧ ∀ y ∈ x, (y.length ≤ 9223372036854775807 ∧ ∀ z ∈ y, wf_laws_Term z))) := rds_slice (sz := 1) (ec := e_s_laws_Term) Tryz.underlying139 (by kernel_rfl) (by decide) (fun _ => rfl) rd138
theorem rd261 {H : Type} {enc : TypeId × Value → H} {w : World} {base : Nat} {sp : Nat → Bool} {held : Bool} : Rds enc Tryz.prog w base sp held 261 e_laws_Part (fun x : laws_Part => wf_laws_Part x) := by
  intro fuel cs x hx
  obtain ⟨xs, n, _, _, hl, hn, hf⟩ := DataW.trod_struct Tryz.underlying261 hx
  have hcs : cs.length = 4 := hl.trans (by kernel_rfl)
  obtain ⟨y0, w0, r0⟩ := fld_get rd2 (hf 0 _ rfl) (by rw [List.getElem?_eq_getElem (by rw [hn]; decide)]; rfl)
  change RV w (F0 w) (.int .i64 y0) ((cs.drop 0).take (Tryz.prog.cellsOf 2)) _ at r0
  rw [show Tryz.prog.cellsOf 2 = 1 by kernel_rfl] at r0
  obtain ⟨y1, w1, r1⟩ := fld_get rd2 (hf 1 _ rfl) (by rw [List.getElem?_eq_getElem (by rw [hn]; decide)]; rfl)
  change RV w (F0 w) (.int .i64 y1) ((cs.drop 1).take (Tryz.prog.cellsOf 2)) _ at r1
  rw [show Tryz.prog.cellsOf 2 = 1 by kernel_rfl] at r1
  obtain ⟨y2, w2, r2⟩ := fld_get rd9 (hf 2 _ rfl) (by rw [List.getElem?_eq_getElem (by rw [hn]; decide)]; rfl)
  change RV w (F0 w) (.str y2) ((cs.drop 2).take (Tryz.prog.cellsOf 9)) _ at r2
  rw [show Tryz.prog.cellsOf 9 = 1 by kernel_rfl] at r2
  obtain ⟨y3, w3, r3⟩ := fld_get rd139 (hf 3 _ rfl) (by rw [List.getElem?_eq_getElem (by rw [hn]; decide)]; rfl)
  change RV w (F0 w) (.slice (y3.map e_s_laws_Term)) ((cs.drop 3).take (Tryz.prog.cellsOf 139)) _ at r3
  rw [show Tryz.prog.cellsOf 139 = 1 by kernel_rfl] at r3
  have key := flds_rvs [(.int .i64 y0, 0, 1), (.int .i64 y1, 1, 1), (.str y2, 2, 1), (.slice (y3.map e_s_laws_Term), 3, 1)] 0 (by rw [hcs]; rfl) ⟨r0, r1, r2, r3, trivial⟩
  refine ⟨⟨y0, y1, y2, y3⟩, ⟨w0, w1, w2, w3⟩, ?_⟩
  show RV w (F0 w) (.agg [.int .i64 y0, .int .i64 y1, .str y2, .slice (y3.map e_s_laws_Term)]) cs _
  rw [RV]
  exact key
theorem rd171 {H : Type} {enc : TypeId × Value → H} {w : World} {base : Nat} {sp : Nat → Bool} {held : Bool} : Rds enc Tryz.prog w base sp held 171 (fun x : List laws_Part => .slice (x.map e_laws_Part)) (fun x : List laws_Part => (x.length ≤ 9223372036854775807 ∧ ∀ y ∈ x, wf_laws_Part y)) := rds_slice (sz := 4) (ec := e_laws_Part) Tryz.underlying171 (by kernel_rfl) (by decide) (fun _ => rfl) rd261
theorem rd173 {H : Type} {enc : TypeId × Value → H} {w : World} {base : Nat} {sp : Nat → Bool} {held : Bool} : Rds enc Tryz.prog w base sp held 173 e_laws_Definition (fun x : laws_Definition => wf_laws_Definition x) := by
  intro fuel cs x hx
  obtain ⟨xs, n, _, _, hl, hn, hf⟩ := DataW.trod_struct Tryz.underlying173 hx
  have hcs : cs.length = 3 := hl.trans (by kernel_rfl)
  obtain ⟨y0, w0, r0⟩ := fld_get rd9 (hf 0 _ rfl) (by rw [List.getElem?_eq_getElem (by rw [hn]; decide)]; rfl)
  change RV w (F0 w) (.str y0) ((cs.drop 0).take (Tryz.prog.cellsOf 9)) _ at r0
  rw [show Tryz.prog.cellsOf 9 = 1 by kernel_rfl] at r0
  obtain ⟨y1, w1, r1⟩ := fld_get rd2 (hf 1 _ rfl) (by rw [List.getElem?_eq_getElem (by rw [hn]; decide)]; rfl)
  change RV w (F0 w) (.int .i64 y1) ((cs.drop 1).take (Tryz.prog.cellsOf 2)) _ at r1
  rw [show Tryz.prog.cellsOf 2 = 1 by kernel_rfl] at r1
  obtain ⟨y2, w2, r2⟩ := fld_get rd171 (hf 2 _ rfl) (by rw [List.getElem?_eq_getElem (by rw [hn]; decide)]; rfl)
  change RV w (F0 w) (.slice (y2.map e_laws_Part)) ((cs.drop 2).take (Tryz.prog.cellsOf 171)) _ at r2
  rw [show Tryz.prog.cellsOf 171 = 1 by kernel_rfl] at r2
  have key := flds_rvs [(.str y0, 0, 1), (.int .i64 y1, 1, 1), (.slice (y2.map e_laws_Part), 2, 1)] 0 (by rw [hcs]; rfl) ⟨r0, r1, r2, trivial⟩
  refine ⟨⟨y0, y1, y2⟩, ⟨w0, w1, w2⟩, ?_⟩
  show RV w (F0 w) (.agg [.str y0, .int .i64 y1, .slice (y2.map e_laws_Part)]) cs _
  rw [RV]
  exact key
theorem rd38 {H : Type} {enc : TypeId × Value → H} {w : World} {base : Nat} {sp : Nat → Bool} {held : Bool} : Rds enc Tryz.prog w base sp held 38 (fun x : List laws_Definition => .slice (x.map e_laws_Definition)) (fun x : List laws_Definition => (x.length ≤ 9223372036854775807 ∧ ∀ y ∈ x, wf_laws_Definition y)) := rds_slice (sz := 3) (ec := e_laws_Definition) Tryz.underlying38 (by kernel_rfl) (by decide) (fun _ => rfl) rd173
theorem rd22 {H : Type} {enc : TypeId × Value → H} {w : World} {base : Nat} {sp : Nat → Bool} {held : Bool} : Rds enc Tryz.prog w base sp held 22 (fun x : List Int => .slice (x.map e_i64)) (fun x : List Int => (x.length ≤ 9223372036854775807 ∧ ∀ y ∈ x, (-9223372036854775808 ≤ y ∧ y ≤ 9223372036854775807))) := rds_slice (sz := 1) (ec := e_i64) Tryz.underlying22 (by kernel_rfl) (by decide) (fun _ => rfl) rd2
theorem rd175 {H : Type} {enc : TypeId × Value → H} {w : World} {base : Nat} {sp : Nat → Bool} {held : Bool} : Rds enc Tryz.prog w base sp held 175 e_laws_Component (fun x : laws_Component => wf_laws_Component x) := by
  intro fuel cs x hx
  obtain ⟨xs, n, _, _, hl, hn, hf⟩ := DataW.trod_struct Tryz.underlying175 hx
  have hcs : cs.length = 2 := hl.trans (by kernel_rfl)
  obtain ⟨y0, w0, r0⟩ := fld_get rd2 (hf 0 _ rfl) (by rw [List.getElem?_eq_getElem (by rw [hn]; decide)]; rfl)
  change RV w (F0 w) (.int .i64 y0) ((cs.drop 0).take (Tryz.prog.cellsOf 2)) _ at r0
  rw [show Tryz.prog.cellsOf 2 = 1 by kernel_rfl] at r0
  obtain ⟨y1, w1, r1⟩ := fld_get rd22 (hf 1 _ rfl) (by rw [List.getElem?_eq_getElem (by rw [hn]; decide)]; rfl)
  change RV w (F0 w) (.slice (y1.map e_i64)) ((cs.drop 1).take (Tryz.prog.cellsOf 22)) _ at r1
  rw [show Tryz.prog.cellsOf 22 = 1 by kernel_rfl] at r1
  have key := flds_rvs [(.int .i64 y0, 0, 1), (.slice (y1.map e_i64), 1, 1)] 0 (by rw [hcs]; rfl) ⟨r0, r1, trivial⟩
  refine ⟨⟨y0, y1⟩, ⟨w0, w1⟩, ?_⟩
  show RV w (F0 w) (.agg [.int .i64 y0, .slice (y1.map e_i64)]) cs _
  rw [RV]
  exact key
theorem rd39 {H : Type} {enc : TypeId × Value → H} {w : World} {base : Nat} {sp : Nat → Bool} {held : Bool} : Rds enc Tryz.prog w base sp held 39 (fun x : List laws_Component => .slice (x.map e_laws_Component)) (fun x : List laws_Component => (x.length ≤ 9223372036854775807 ∧ ∀ y ∈ x, wf_laws_Component y)) := rds_slice (sz := 2) (ec := e_laws_Component) Tryz.underlying39 (by kernel_rfl) (by decide) (fun _ => rfl) rd175
theorem rd116 {H : Type} {enc : TypeId × Value → H} {w : World} {base : Nat} {sp : Nat → Bool} {held : Bool} : Rds enc Tryz.prog w base sp held 116 e_laws_Meeting (fun x : laws_Meeting => wf_laws_Meeting x) := by
  intro fuel cs x hx
  obtain ⟨xs, n, _, _, hl, hn, hf⟩ := DataW.trod_struct Tryz.underlying116 hx
  have hcs : cs.length = 3 := hl.trans (by kernel_rfl)
  obtain ⟨y0, w0, r0⟩ := fld_get rd9 (hf 0 _ rfl) (by rw [List.getElem?_eq_getElem (by rw [hn]; decide)]; rfl)
  change RV w (F0 w) (.str y0) ((cs.drop 0).take (Tryz.prog.cellsOf 9)) _ at r0
  rw [show Tryz.prog.cellsOf 9 = 1 by kernel_rfl] at r0
  obtain ⟨y1, w1, r1⟩ := fld_get rd9 (hf 1 _ rfl) (by rw [List.getElem?_eq_getElem (by rw [hn]; decide)]; rfl)
  change RV w (F0 w) (.str y1) ((cs.drop 1).take (Tryz.prog.cellsOf 9)) _ at r1
  rw [show Tryz.prog.cellsOf 9 = 1 by kernel_rfl] at r1
  obtain ⟨y2, w2, r2⟩ := fld_get rd9 (hf 2 _ rfl) (by rw [List.getElem?_eq_getElem (by rw [hn]; decide)]; rfl)
  change RV w (F0 w) (.str y2) ((cs.drop 2).take (Tryz.prog.cellsOf 9)) _ at r2
  rw [show Tryz.prog.cellsOf 9 = 1 by kernel_rfl] at r2
  have key := flds_rvs [(.str y0, 0, 1), (.str y1, 1, 1), (.str y2, 2, 1)] 0 (by rw [hcs]; rfl) ⟨r0, r1, r2, trivial⟩
  refine ⟨⟨y0, y1, y2⟩, ⟨w0, w1, w2⟩, ?_⟩
  show RV w (F0 w) (.agg [.str y0, .str y1, .str y2]) cs _
  rw [RV]
  exact key
theorem rd40 {H : Type} {enc : TypeId × Value → H} {w : World} {base : Nat} {sp : Nat → Bool} {held : Bool} : Rds enc Tryz.prog w base sp held 40 (fun x : List laws_Meeting => .slice (x.map e_laws_Meeting)) (fun x : List laws_Meeting => (x.length ≤ 9223372036854775807 ∧ ∀ y ∈ x, wf_laws_Meeting y)) := rds_slice (sz := 3) (ec := e_laws_Meeting) Tryz.underlying40 (by kernel_rfl) (by decide) (fun _ => rfl) rd116
theorem rd41 {H : Type} {enc : TypeId × Value → H} {w : World} {base : Nat} {sp : Nat → Bool} {held : Bool} : Rds enc Tryz.prog w base sp held 41 (fun x : List (List UInt8) => .slice (x.map e_str)) (fun x : List (List UInt8) => (x.length ≤ 9223372036854775807 ∧ ∀ y ∈ x, y.length ≤ 9223372036854775807)) := rds_slice (sz := 1) (ec := e_str) Tryz.underlying41 (by kernel_rfl) (by decide) (fun _ => rfl) rd9
theorem rd43 {H : Type} {enc : TypeId × Value → H} {w : World} {base : Nat} {sp : Nat → Bool} {held : Bool} : Rds enc Tryz.prog w base sp held 43 e_laws_System (fun x : laws_System => wf_laws_System x) := by
  intro fuel cs x hx
  obtain ⟨xs, n, _, _, hl, hn, hf⟩ := DataW.trod_struct Tryz.underlying43 hx
  have hcs : cs.length = 5 := hl.trans (by kernel_rfl)
  obtain ⟨y0, w0, r0⟩ := fld_get rd38 (hf 0 _ rfl) (by rw [List.getElem?_eq_getElem (by rw [hn]; decide)]; rfl)
  change RV w (F0 w) (.slice (y0.map e_laws_Definition)) ((cs.drop 0).take (Tryz.prog.cellsOf 38)) _ at r0
  rw [show Tryz.prog.cellsOf 38 = 1 by kernel_rfl] at r0
  obtain ⟨y1, w1, r1⟩ := fld_get rd39 (hf 1 _ rfl) (by rw [List.getElem?_eq_getElem (by rw [hn]; decide)]; rfl)
  change RV w (F0 w) (.slice (y1.map e_laws_Component)) ((cs.drop 1).take (Tryz.prog.cellsOf 39)) _ at r1
  rw [show Tryz.prog.cellsOf 39 = 1 by kernel_rfl] at r1
  obtain ⟨y2, w2, r2⟩ := fld_get rd40 (hf 2 _ rfl) (by rw [List.getElem?_eq_getElem (by rw [hn]; decide)]; rfl)
  change RV w (F0 w) (.slice (y2.map e_laws_Meeting)) ((cs.drop 2).take (Tryz.prog.cellsOf 40)) _ at r2
  rw [show Tryz.prog.cellsOf 40 = 1 by kernel_rfl] at r2
  obtain ⟨y3, w3, r3⟩ := fld_get rd41 (hf 3 _ rfl) (by rw [List.getElem?_eq_getElem (by rw [hn]; decide)]; rfl)
  change RV w (F0 w) (.slice (y3.map e_str)) ((cs.drop 3).take (Tryz.prog.cellsOf 41)) _ at r3
  rw [show Tryz.prog.cellsOf 41 = 1 by kernel_rfl] at r3
  obtain ⟨y4, w4, r4⟩ := fld_get rd41 (hf 4 _ rfl) (by rw [List.getElem?_eq_getElem (by rw [hn]; decide)]; rfl)
  change RV w (F0 w) (.slice (y4.map e_str)) ((cs.drop 4).take (Tryz.prog.cellsOf 41)) _ at r4
  rw [show Tryz.prog.cellsOf 41 = 1 by kernel_rfl] at r4
  have key := flds_rvs [(.slice (y0.map e_laws_Definition), 0, 1), (.slice (y1.map e_laws_Component), 1, 1), (.slice (y2.map e_laws_Meeting), 2, 1), (.slice (y3.map e_str), 3, 1), (.slice (y4.map e_str), 4, 1)] 0 (by rw [hcs]; rfl) ⟨r0, r1, r2, r3, r4, trivial⟩
  refine ⟨⟨y0, y1, y2, y3, y4⟩, ⟨w0, w1, w2, w3, w4⟩, ?_⟩
  show RV w (F0 w) (.agg [.slice (y0.map e_laws_Definition), .slice (y1.map e_laws_Component), .slice (y2.map e_laws_Meeting), .slice (y3.map e_str), .slice (y4.map e_str)]) cs _
  rw [RV]
  exact key
theorem walk (w : World) (y0 : laws_System) (u0 : wf_laws_System y0) (v0 : Value) (y1 : List UInt8) (u1 : y1.length ≤ maxLen) (v1 : Value) (y2 : List UInt8) (u2 : y2.length ≤ maxLen) (v2 : Value) (g0 : Arg w (.agg [.slice (y0.Definitions.map e_laws_Definition), .slice (y0.Components.map e_laws_Component), .slice (y0.Meetings.map e_laws_Meeting), .slice (y0.Allowed.map e_str), .slice (y0.Hidden.map e_str)]) v0) (g1 : Arg w (.str y1) v1) (g2 : Arg w (.str y2) v2) :
    Calls Tryz.prog 7 #[v0, v1, v2] w fun e w' => e = .returned (.bool true) ∧ RowKit.Below w.heap.size w w' :=
  OkAt.law (C := Cc) (ok_laws_FnExactMeetingOf y0 y1 y2 true (MeetingOf_true y0 y1 y2 u0)) Tryz.func7 rfl rfl (.cons g0 (.cons g1 (.cons g2 (.nil))))

set_option maxRecDepth 100000 in
theorem lifted (os : Os) (started : os.Started) (H : Type) (enc : TypeId × Value → H) :
    ReturnsInHanded {} Tryz.checked os 7 .any (Rows.fnExactMeetingOfSpec.pre6 enc Tryz.prog Tryz.f7 Rows.fnExactMeetingOfRow.domain false) (Rows.fnExactMeetingOfSpec.post enc Tryz.prog Tryz.f7 false true false false) := by
  refine returnsInHanded_of_change (C := Tryz.checked) own started (by kernel_rfl) Tryz.func7
    (ChangeSpec.witness6 (enc := enc) (C := Tryz.checked) false ⟨#[], #[.agg #[.slice none 0 0, .slice none 0 0, .slice none 0 0, .slice none 0 0, .slice none 0 0], .string ⟨#[]⟩, .string ⟨#[]⟩], []⟩ 8 (by kernel_rfl) (by kernel_rfl) (by kernel_rfl) (by kernel_rfl)) ?_
  intro W base args ds gs before hval0 hW hcnd _
  have hval : ∀ (j : Nat) t v, Tryz.f7.params[j]? = some t → args[j]? = some v → Value.okWide Tryz.prog W .any base t v := hval0
  have hW' := hW
  obtain ⟨p, q, hA0, hV, rfl, hfz, hnd⟩ := hW
  have hA : DataW.TrodAll enc Tryz.prog W 0 (fun _ => true) true Tryz.f7.params.toList args.toList ds p := hA0
  rw [Tryz.params7] at hA hval
  obtain ⟨v0, vs0, d0, ds0, p0, q0, hargs, rfl, rfl, h0, r0⟩ := trodAll_cons hA
  obtain ⟨v1, vs1, d1, ds1, p1, q1, rfl, rfl, rfl, h1, r1⟩ := trodAll_cons r0
  obtain ⟨v2, vs2, d2, ds2, p2, q2, rfl, rfl, rfl, h2, r2⟩ := trodAll_cons r1
  obtain ⟨rfl, rfl, rfl⟩ := trodAll_nil r2
  obtain rfl : args = #[v0, v1, v2] := by cases args; simp_all
  obtain ⟨rfl, rfl⟩ := trodVars_none hV
  have lt0 : ∀ x ∈ p0, x.block < W.heap.size := by obtain ⟨m, hm⟩ := h0; exact DataW.trod_lt m _ _ _ hm
  obtain ⟨y0, g0, u0⟩ := arg_struct (es := fun y : laws_System => [.slice (y.Definitions.map e_laws_Definition), .slice (y.Components.map e_laws_Component), .slice (y.Meetings.map e_laws_Meeting), .slice (y.Allowed.map e_str), .slice (y.Hidden.map e_str)]) Tryz.underlying43 rd43 (hval 0 43 v0 rfl rfl) h0
  have lt1 : ∀ x ∈ p1, x.block < W.heap.size := by obtain ⟨m, hm⟩ := h1; exact DataW.trod_lt m _ _ _ hm
  obtain ⟨y1, g1, u1⟩ := arg_str Tryz.underlying9 (hval 1 9 v1 rfl rfl) h1
  have lt2 : ∀ x ∈ p2, x.block < W.heap.size := by obtain ⟨m, hm⟩ := h2; exact DataW.trod_lt m _ _ _ hm
  obtain ⟨y2, g2, u2⟩ := arg_str Tryz.underlying9 (hval 2 9 v2 rfl rfl) h2
  clear hA0 hval0
  refine (walk W y0 u0 v0 y1 u1 v1 y2 u2 v2 g0 g1 g2).mono fun e W' ⟨he, bel⟩ => ?_
  subst he
  exact ⟨_, rfl, _, _, _, [], _, [], hW', trodAll_mk1 (shut_bool Tryz.underlying4 _), (trodAll_cons_mk (Below.trod laidOut (by kernel_rfl) (of_decide_eq_true (by kernel_rfl)) h0 bel lt0) (trodAll_cons_mk (Below.trod laidOut (by kernel_rfl) (of_decide_eq_true (by kernel_rfl)) h1 bel lt1) (trodAll_cons_mk (Below.trod laidOut (by kernel_rfl) (of_decide_eq_true (by kernel_rfl)) h2 bel lt2) trodAll_mk0))), rfl, bel.frame _, fun h => by cases h⟩

def headL : List Char := List.map Char.ofNat [104, 97, 114, 110, 101, 115, 115, 32, 57, 102, 100, 52, 100, 56, 53, 101, 101, 102, 97, 101, 101, 97, 48, 50, 51, 97, 52, 48, 57, 98, 97, 50, 99, 54, 48, 102, 100, 54, 48, 98, 50, 97, 99, 101, 48, 48, 50, 56, 55, 102, 102, 54, 50, 57, 102, 55, 50, 49, 99, 97, 55, 99, 53, 101, 102, 97, 99, 55, 98, 101, 51, 99, 32, 99, 117, 116, 32, 97, 116, 32, 108, 111, 111, 112, 46, 101, 120, 97, 109, 112, 108, 101, 47, 103, 48, 49, 48, 55, 53, 47, 108, 97, 119, 115, 46, 70, 110, 69, 120, 97, 99, 116, 82, 101, 109, 111, 118, 101, 67, 111, 110, 115, 116, 97, 110, 116, 115, 32, 108, 111, 111, 112, 46, 101, 120, 97, 109, 112, 108, 101, 47, 103, 48, 49, 48, 55, 53, 47, 108, 97, 119, 115, 46, 70, 110, 69, 120, 97, 99, 116, 83, 121, 115, 116, 101, 109, 70, 97, 117, 108, 116, 32, 108, 111, 111, 112, 46, 101, 120, 97, 109, 112, 108, 101, 47, 103, 48, 49, 48, 55, 53, 47, 108, 97, 119, 115, 46, 70, 110, 69, 120, 97, 99, 116, 86, 97, 108, 105, 100, 83, 121, 115, 116, 101, 109, 32, 108, 111, 111, 112, 46, 101, 120, 97, 109, 112, 108, 101, 47, 103, 48, 49, 48, 55, 53, 47, 108, 97, 119, 115, 46, 70, 110, 69, 120, 97, 99, 116, 77, 101, 101, 116, 76, 105, 110, 101, 97, 114, 32, 108, 111, 111, 112, 46, 101, 120, 97, 109, 112, 108, 101, 47, 103, 48, 49, 48, 55, 53, 47, 108, 97, 119, 115, 46, 70, 110, 69, 120, 97, 99, 116, 77, 101, 101, 116, 105, 110, 103, 79, 102, 32, 108, 111, 111, 112, 46, 101, 120, 97, 109, 112, 108, 101, 47, 103, 48, 49, 48, 55, 53, 47, 108, 97, 119, 115, 46, 70, 110, 69, 120, 97, 99, 116, 86, 97, 108, 105, 100, 83, 116, 97, 116, 101]
def cutL : List Char := List.map Char.ofNat [99, 117, 116]
theorem head0 : Tryz.prog.initOrder = String.ofList headL := by kernel_rfl
theorem headE : Tryz.prog.initOrder.toList = headL := by rw [head0]; exact String.toList_ofList
theorem headW : behindMainWord (wordsSigns headL) = cutL :: (behindMainWord (wordsSigns headL)).tail := by kernel_rfl
theorem make_cut {P : Program} {L : List Char} {r : List (List Char)} (h : P.initOrder.toList = L) (hw : behindMainWord (wordsSigns L) = cutL :: r) : P.make = some .cut := by
  unfold Program.make; rw [h, hw]; rfl
theorem enter_cut {P : Program} {L : List Char} {r : List (List Char)} (h : P.initOrder.toList = L) (hw : behindMainWord (wordsSigns L) = cutL :: r) (h1 : P.laysLater = false) (h2 : P.bearsReflect = false) (h3 : P.doorFits [] = true) : P.mayEnter = true := by
  unfold Program.mayEnter; rw [h, hw]
  have e : stripLifts liftWords (cutL :: r) = ([], cutL :: r) := rfl
  simp only [e, h1, h2, h3]
  rfl
theorem liftsE : Tryz.prog.liftsFinal = false := by unfold Program.liftsFinal Program.headLifts; rw [headE]; kernel_rfl
theorem enterE : Tryz.prog.mayEnter = true := enter_cut headE headW (by kernel_rfl) (by kernel_rfl) (by kernel_rfl)
theorem makeE : Tryz.prog.make = some .cut := make_cut headE headW
theorem joined : joinedFacts Tryz.prog 7 Tryz.f7 Rows.fnExactMeetingOfSpec Rows.fnExactMeetingOfRow = true := by
  unfold joinedFacts
  rw [liftsE, enterE, makeE]
  kernel_rfl

theorem over : Rows.fnExactMeetingOfRow.holds Tryz.pinned (OpenSpec.ofChange Rows.fnExactMeetingOfSpec) :=
  OpenClaim.holds_of_wide 7 Tryz.f7 rfl rfl rfl rfl rfl rfl rfl ⟨rfl, rfl, rfl, rfl, rfl⟩ rfl rfl rfl rfl rfl (by kernel_rfl) Tryz.func7 joined
    (of_decide_eq_true (by kernel_rfl)) (by unfold Func.isWrapper; first | (rw [if_pos (by decide +kernel)]; kernel_rfl) | (rw [if_neg (by decide +kernel)]; exact ⟨rfl, rfl⟩))
    (fun os started H enc _ => lifted os started H enc)

theorem proved : Rows.FnExactMeetingOfSaid := over

end Go.Proofs.YtobljppjkklojaaGreat.fnExactMeetingOf
