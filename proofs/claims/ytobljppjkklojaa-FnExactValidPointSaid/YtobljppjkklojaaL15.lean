/- The law FnExactValidPoint of the given program returns true for every input, and each argument reads afterwards as before. No condition. -/
import Derived.Test.YtobljppjkklojaaRows
import Derived.Test.YtobljppjkklojaaW15
import Derived.Test.YtobljppjkklojaaFwI
import Derived.Test.YtobljppjkklojaaUD15
import Derived.WalkKit
import Derived.ProofKit
import Derived.OpenShut
import Derived.ChangeOld
import Derived.Below
import Derived.Carry
namespace Go.Proofs.Ytobljppjkklojaa.fnExactValidPoint
open Go.ChangeShapes Go.WideShapes Go.ChangeAt Go.RowKit
open Go.Fw Go.Sh
set_option linter.unusedVariables false

theorem own : ownKnob Try.prog.godebug = none := by kernel_rfl
theorem laidOut : laidOutB Try.prog = true := by kernel_rfl

theorem rd9 {H : Type} {enc : TypeId × Value → H} {w : World} {base : Nat} {sp : Nat → Bool} {held : Bool} : Rds enc Try.prog w base sp held 9 (fun x : List UInt8 => .str x) (fun x : List UInt8 => x.length ≤ 9223372036854775807) := rds_str Try.underlying9
theorem rd2 {H : Type} {enc : TypeId × Value → H} {w : World} {base : Nat} {sp : Nat → Bool} {held : Bool} : Rds enc Try.prog w base sp held 2 (fun x : Int => .int .i64 x) (fun x : Int => (-9223372036854775808 ≤ x ∧ x ≤ 9223372036854775807)) := rds_i64 Try.underlying2
theorem rd133 {H : Type} {enc : TypeId × Value → H} {w : World} {base : Nat} {sp : Nat → Bool} {held : Bool} : Rds enc Try.prog w base sp held 133 e_laws_Term (fun x : laws_Term => wf_laws_Term x) := by
  intro fuel cs x hx
  obtain ⟨xs, n, _, _, hl, hn, hf⟩ := DataW.trod_struct Try.underlying133 hx
  have hcs : cs.length = 2 := hl.trans (by kernel_rfl)
  obtain ⟨y0, w0, r0⟩ := fld_get rd2 (hf 0 _ rfl) (by rw [List.getElem?_eq_getElem (by rw [hn]; decide)]; rfl)
  change RV w (F0 w) (.int .i64 y0) ((cs.drop 0).take (Try.prog.cellsOf 2)) _ at r0
  rw [show Try.prog.cellsOf 2 = 1 by kernel_rfl] at r0
  obtain ⟨y1, w1, r1⟩ := fld_get rd2 (hf 1 _ rfl) (by rw [List.getElem?_eq_getElem (by rw [hn]; decide)]; rfl)
  change RV w (F0 w) (.int .i64 y1) ((cs.drop 1).take (Try.prog.cellsOf 2)) _ at r1
  rw [show Try.prog.cellsOf 2 = 1 by kernel_rfl] at r1
  have key := flds_rvs [(.int .i64 y0, 0, 1), (.int .i64 y1, 1, 1)] 0 (by rw [hcs]; rfl) ⟨r0, r1, trivial⟩
  refine ⟨⟨y0, y1⟩, ⟨w0, w1⟩, ?_⟩
  show RV w (F0 w) (.agg [.int .i64 y0, .int .i64 y1]) cs _
  rw [RV]
  exact key
theorem rd36 {H : Type} {enc : TypeId × Value → H} {w : World} {base : Nat} {sp : Nat → Bool} {held : Bool} : Rds enc Try.prog w base sp held 36 (fun x : List laws_Term => .slice (x.map e_laws_Term)) (fun x : List laws_Term => (x.length ≤ 9223372036854775807 ∧ ∀ y ∈ x, wf_laws_Term y)) := rds_slice (sz := 2) (ec := e_laws_Term) Try.underlying36 (by kernel_rfl) (by decide) (fun _ => rfl) rd133
theorem rd260 {H : Type} {enc : TypeId × Value → H} {w : World} {base : Nat} {sp : Nat → Bool} {held : Bool} : Rds enc Try.prog w base sp held 260 (fun x : List (List laws_Term) => .slice (x.map e_s_laws_Term)) (fun x : List (List laws_Term) => (x.length ≤ 9223372036854775807 ∧ ∀ y ∈ x, (y.length ≤ 9223372036854775807 ∧ ∀ z ∈ y, wf_laws_Term z))) := rds_slice (sz := 1) (ec := e_s_laws_Term) Try.underlying260 (by kernel_rfl) (by decide) (fun _ => rfl) rd36
theorem rd291 {H : Type} {enc : TypeId × Value → H} {w : World} {base : Nat} {sp : Nat → Bool} {held : Bool} : Rds enc Try.prog w base sp held 291 e_laws_Part (fun x : laws_Part => wf_laws_Part x) := by
  intro fuel cs x hx
  obtain ⟨xs, n, _, _, hl, hn, hf⟩ := DataW.trod_struct Try.underlying291 hx
  have hcs : cs.length = 4 := hl.trans (by kernel_rfl)
  obtain ⟨y0, w0, r0⟩ := fld_get rd2 (hf 0 _ rfl) (by rw [List.getElem?_eq_getElem (by rw [hn]; decide)]; rfl)
  change RV w (F0 w) (.int .i64 y0) ((cs.drop 0).take (Try.prog.cellsOf 2)) _ at r0
  rw [show Try.prog.cellsOf 2 = 1 by kernel_rfl] at r0
  obtain ⟨y1, w1, r1⟩ := fld_get rd2 (hf 1 _ rfl) (by rw [List.getElem?_eq_getElem (by rw [hn]; decide)]; rfl)
  change RV w (F0 w) (.int .i64 y1) ((cs.drop 1).take (Try.prog.cellsOf 2)) _ at r1
  rw [show Try.prog.cellsOf 2 = 1 by kernel_rfl] at r1
  obtain ⟨y2, w2, r2⟩ := fld_get rd9 (hf 2 _ rfl) (by rw [List.getElem?_eq_getElem (by rw [hn]; decide)]; rfl)
  change RV w (F0 w) (.str y2) ((cs.drop 2).take (Try.prog.cellsOf 9)) _ at r2
  rw [show Try.prog.cellsOf 9 = 1 by kernel_rfl] at r2
  obtain ⟨y3, w3, r3⟩ := fld_get rd260 (hf 3 _ rfl) (by rw [List.getElem?_eq_getElem (by rw [hn]; decide)]; rfl)
  change RV w (F0 w) (.slice (y3.map e_s_laws_Term)) ((cs.drop 3).take (Try.prog.cellsOf 260)) _ at r3
  rw [show Try.prog.cellsOf 260 = 1 by kernel_rfl] at r3
  have key := flds_rvs [(.int .i64 y0, 0, 1), (.int .i64 y1, 1, 1), (.str y2, 2, 1), (.slice (y3.map e_s_laws_Term), 3, 1)] 0 (by rw [hcs]; rfl) ⟨r0, r1, r2, r3, trivial⟩
  refine ⟨⟨y0, y1, y2, y3⟩, ⟨w0, w1, w2, w3⟩, ?_⟩
  show RV w (F0 w) (.agg [.int .i64 y0, .int .i64 y1, .str y2, .slice (y3.map e_s_laws_Term)]) cs _
  rw [RV]
  exact key
theorem rd165 {H : Type} {enc : TypeId × Value → H} {w : World} {base : Nat} {sp : Nat → Bool} {held : Bool} : Rds enc Try.prog w base sp held 165 (fun x : List laws_Part => .slice (x.map e_laws_Part)) (fun x : List laws_Part => (x.length ≤ 9223372036854775807 ∧ ∀ y ∈ x, wf_laws_Part y)) := rds_slice (sz := 4) (ec := e_laws_Part) Try.underlying165 (by kernel_rfl) (by decide) (fun _ => rfl) rd291
theorem rd167 {H : Type} {enc : TypeId × Value → H} {w : World} {base : Nat} {sp : Nat → Bool} {held : Bool} : Rds enc Try.prog w base sp held 167 e_laws_Definition (fun x : laws_Definition => wf_laws_Definition x) := by
  intro fuel cs x hx
  obtain ⟨xs, n, _, _, hl, hn, hf⟩ := DataW.trod_struct Try.underlying167 hx
  have hcs : cs.length = 3 := hl.trans (by kernel_rfl)
  obtain ⟨y0, w0, r0⟩ := fld_get rd9 (hf 0 _ rfl) (by rw [List.getElem?_eq_getElem (by rw [hn]; decide)]; rfl)
  change RV w (F0 w) (.str y0) ((cs.drop 0).take (Try.prog.cellsOf 9)) _ at r0
  rw [show Try.prog.cellsOf 9 = 1 by kernel_rfl] at r0
  obtain ⟨y1, w1, r1⟩ := fld_get rd2 (hf 1 _ rfl) (by rw [List.getElem?_eq_getElem (by rw [hn]; decide)]; rfl)
  change RV w (F0 w) (.int .i64 y1) ((cs.drop 1).take (Try.prog.cellsOf 2)) _ at r1
  rw [show Try.prog.cellsOf 2 = 1 by kernel_rfl] at r1
  obtain ⟨y2, w2, r2⟩ := fld_get rd165 (hf 2 _ rfl) (by rw [List.getElem?_eq_getElem (by rw [hn]; decide)]; rfl)
  change RV w (F0 w) (.slice (y2.map e_laws_Part)) ((cs.drop 2).take (Try.prog.cellsOf 165)) _ at r2
  rw [show Try.prog.cellsOf 165 = 1 by kernel_rfl] at r2
  have key := flds_rvs [(.str y0, 0, 1), (.int .i64 y1, 1, 1), (.slice (y2.map e_laws_Part), 2, 1)] 0 (by rw [hcs]; rfl) ⟨r0, r1, r2, trivial⟩
  refine ⟨⟨y0, y1, y2⟩, ⟨w0, w1, w2⟩, ?_⟩
  show RV w (F0 w) (.agg [.str y0, .int .i64 y1, .slice (y2.map e_laws_Part)]) cs _
  rw [RV]
  exact key
theorem rd58 {H : Type} {enc : TypeId × Value → H} {w : World} {base : Nat} {sp : Nat → Bool} {held : Bool} : Rds enc Try.prog w base sp held 58 (fun x : List laws_Definition => .slice (x.map e_laws_Definition)) (fun x : List laws_Definition => (x.length ≤ 9223372036854775807 ∧ ∀ y ∈ x, wf_laws_Definition y)) := rds_slice (sz := 3) (ec := e_laws_Definition) Try.underlying58 (by kernel_rfl) (by decide) (fun _ => rfl) rd167
theorem rd68 {H : Type} {enc : TypeId × Value → H} {w : World} {base : Nat} {sp : Nat → Bool} {held : Bool} : Rds enc Try.prog w base sp held 68 (fun x : List Int => .slice (x.map e_i64)) (fun x : List Int => (x.length ≤ 9223372036854775807 ∧ ∀ y ∈ x, (-9223372036854775808 ≤ y ∧ y ≤ 9223372036854775807))) := rds_slice (sz := 1) (ec := e_i64) Try.underlying68 (by kernel_rfl) (by decide) (fun _ => rfl) rd2
theorem rd77 {H : Type} {enc : TypeId × Value → H} {w : World} {base : Nat} {sp : Nat → Bool} {held : Bool} : Rds enc Try.prog w base sp held 77 e_laws_Point (fun x : laws_Point => wf_laws_Point x) := by
  intro fuel cs x hx
  obtain ⟨xs, n, _, _, hl, hn, hf⟩ := DataW.trod_struct Try.underlying77 hx
  have hcs : cs.length = 3 := hl.trans (by kernel_rfl)
  obtain ⟨y0, w0, r0⟩ := fld_get rd2 (hf 0 _ rfl) (by rw [List.getElem?_eq_getElem (by rw [hn]; decide)]; rfl)
  change RV w (F0 w) (.int .i64 y0) ((cs.drop 0).take (Try.prog.cellsOf 2)) _ at r0
  rw [show Try.prog.cellsOf 2 = 1 by kernel_rfl] at r0
  obtain ⟨y1, w1, r1⟩ := fld_get rd2 (hf 1 _ rfl) (by rw [List.getElem?_eq_getElem (by rw [hn]; decide)]; rfl)
  change RV w (F0 w) (.int .i64 y1) ((cs.drop 1).take (Try.prog.cellsOf 2)) _ at r1
  rw [show Try.prog.cellsOf 2 = 1 by kernel_rfl] at r1
  obtain ⟨y2, w2, r2⟩ := fld_get rd68 (hf 2 _ rfl) (by rw [List.getElem?_eq_getElem (by rw [hn]; decide)]; rfl)
  change RV w (F0 w) (.slice (y2.map e_i64)) ((cs.drop 2).take (Try.prog.cellsOf 68)) _ at r2
  rw [show Try.prog.cellsOf 68 = 1 by kernel_rfl] at r2
  have key := flds_rvs [(.int .i64 y0, 0, 1), (.int .i64 y1, 1, 1), (.slice (y2.map e_i64), 2, 1)] 0 (by rw [hcs]; rfl) ⟨r0, r1, r2, trivial⟩
  refine ⟨⟨y0, y1, y2⟩, ⟨w0, w1, w2⟩, ?_⟩
  show RV w (F0 w) (.agg [.int .i64 y0, .int .i64 y1, .slice (y2.map e_i64)]) cs _
  rw [RV]
  exact key
theorem walk (w : World) (y0 : List laws_Definition) (u0 : (y0.length ≤ 9223372036854775807 ∧ ∀ y ∈ y0, wf_laws_Definition y)) (v0 : Value) (y1 : laws_Point) (u1 : wf_laws_Point y1) (v1 : Value) (g0 : Arg w (.slice (y0.map e_laws_Definition)) v0) (g1 : Arg w (.agg [.int .i64 y1.Definition, .int .i64 y1.Part, .slice (y1.Values.map e_i64)]) v1) :
    Calls Try.prog 15 #[v0, v1] w fun e w' => e = .returned (.bool true) ∧ RowKit.Below w.heap.size w w' :=
  OkAt.law (C := Cc) (ok_laws_FnExactValidPoint y0 y1 true (ValidPoint_true y0 y1 u0 u1)) Try.func15 rfl rfl (.cons g0 (.cons g1 (.nil)))

set_option maxRecDepth 100000 in
theorem lifted (os : Os) (started : os.Started) (H : Type) (enc : TypeId × Value → H) :
    ReturnsInHanded {} Try.checked os 15 .any (Rows.fnExactValidPointSpec.pre6 enc Try.prog Try.f15 Rows.fnExactValidPointRow.domain false) (Rows.fnExactValidPointSpec.post enc Try.prog Try.f15 false true false false) := by
  refine returnsInHanded_of_change (C := Try.checked) own started (by kernel_rfl) Try.func15
    (ChangeSpec.witness6 (enc := enc) (C := Try.checked) false ⟨#[], #[.slice none 0 0, .agg #[.int .i64 0, .int .i64 0, .slice none 0 0]], []⟩ 8 (by kernel_rfl) (by kernel_rfl) (by kernel_rfl) (by kernel_rfl)) ?_
  intro W base args ds gs before hval0 hW hcnd _
  have hval : ∀ (j : Nat) t v, Try.f15.params[j]? = some t → args[j]? = some v → Value.okWide Try.prog W .any base t v := hval0
  have hW' := hW
  obtain ⟨p, q, hA0, hV, rfl, hfz, hnd⟩ := hW
  have hA : DataW.TrodAll enc Try.prog W 0 (fun _ => true) true Try.f15.params.toList args.toList ds p := hA0
  rw [Try.params15] at hA hval
  obtain ⟨v0, vs0, d0, ds0, p0, q0, hargs, rfl, rfl, h0, r0⟩ := trodAll_cons hA
  obtain ⟨v1, vs1, d1, ds1, p1, q1, rfl, rfl, rfl, h1, r1⟩ := trodAll_cons r0
  obtain ⟨rfl, rfl, rfl⟩ := trodAll_nil r1
  obtain rfl : args = #[v0, v1] := by cases args; simp_all
  obtain ⟨rfl, rfl⟩ := trodVars_none hV
  have lt0 : ∀ x ∈ p0, x.block < W.heap.size := by obtain ⟨m, hm⟩ := h0; exact DataW.trod_lt m _ _ _ hm
  obtain ⟨y0, g0, u0⟩ := arg_slice Try.underlying58 rd58 (hval 0 58 v0 rfl rfl) h0
  have lt1 : ∀ x ∈ p1, x.block < W.heap.size := by obtain ⟨m, hm⟩ := h1; exact DataW.trod_lt m _ _ _ hm
  obtain ⟨y1, g1, u1⟩ := arg_struct (es := fun y : laws_Point => [.int .i64 y.Definition, .int .i64 y.Part, .slice (y.Values.map e_i64)]) Try.underlying77 rd77 (hval 1 77 v1 rfl rfl) h1
  clear hA0 hval0
  refine (walk W y0 u0 v0 y1 u1 v1 g0 g1).mono fun e W' ⟨he, bel⟩ => ?_
  subst he
  exact ⟨_, rfl, _, _, _, [], _, [], hW', trodAll_mk1 (shut_bool Try.underlying4 _), (trodAll_cons_mk (Below.trod laidOut (by kernel_rfl) (of_decide_eq_true (by kernel_rfl)) h0 bel lt0) (trodAll_cons_mk (Below.trod laidOut (by kernel_rfl) (of_decide_eq_true (by kernel_rfl)) h1 bel lt1) trodAll_mk0)), rfl, bel.frame _, fun h => by cases h⟩

def headL : List Char := List.map Char.ofNat [104, 97, 114, 110, 101, 115, 115, 32, 50, 52, 99, 49, 52, 55, 101, 48, 97, 98, 55, 52, 56, 98, 50, 50, 56, 49, 49, 102, 97, 98, 100, 48, 55, 100, 102, 100, 48, 50, 56, 48, 98, 99, 48, 49, 99, 101, 102, 53, 98, 49, 55, 53, 99, 54, 50, 97, 100, 50, 50, 102, 49, 57, 49, 101, 101, 54, 50, 102, 100, 99, 98, 55, 32, 99, 117, 116, 32, 97, 116, 32, 108, 111, 111, 112, 46, 101, 120, 97, 109, 112, 108, 101, 47, 103, 48, 49, 48, 55, 53, 47, 108, 97, 119, 115, 46, 70, 110, 69, 120, 97, 99, 116, 80, 97, 99, 107, 73, 116, 101, 109, 115, 32, 108, 111, 111, 112, 46, 101, 120, 97, 109, 112, 108, 101, 47, 103, 48, 49, 48, 55, 53, 47, 108, 97, 119, 115, 46, 70, 110, 69, 120, 97, 99, 116, 69, 110, 99, 111, 100, 101, 69, 113, 117, 97, 116, 105, 111, 110, 115, 32, 108, 111, 111, 112, 46, 101, 120, 97, 109, 112, 108, 101, 47, 103, 48, 49, 48, 55, 53, 47, 108, 97, 119, 115, 46, 70, 110, 69, 120, 97, 99, 116, 67, 111, 110, 115, 116, 97, 110, 116, 79, 102, 32, 108, 111, 111, 112, 46, 101, 120, 97, 109, 112, 108, 101, 47, 103, 48, 49, 48, 55, 53, 47, 108, 97, 119, 115, 46, 70, 110, 69, 120, 97, 99, 116, 85, 110, 112, 97, 99, 107, 73, 116, 101, 109, 115, 32, 108, 111, 111, 112, 46, 101, 120, 97, 109, 112, 108, 101, 47, 103, 48, 49, 48, 55, 53, 47, 108, 97, 119, 115, 46, 70, 110, 69, 120, 97, 99, 116, 83, 97, 108, 118, 97, 103, 101, 73, 116, 101, 109, 115, 32, 108, 111, 111, 112, 46, 101, 120, 97, 109, 112, 108, 101, 47, 103, 48, 49, 48, 55, 53, 47, 108, 97, 119, 115, 46, 70, 110, 69, 120, 97, 99, 116, 68, 101, 99, 111, 100, 101, 69, 113, 117, 97, 116, 105, 111, 110, 115, 32, 108, 111, 111, 112, 46, 101, 120, 97, 109, 112, 108, 101, 47, 103, 48, 49, 48, 55, 53, 47, 108, 97, 119, 115, 46, 70, 110, 69, 120, 97, 99, 116, 80, 117, 116, 73, 116, 101, 109, 32, 108, 111, 111, 112, 46, 101, 120, 97, 109, 112, 108, 101, 47, 103, 48, 49, 48, 55, 53, 47, 108, 97, 119, 115, 46, 70, 110, 69, 120, 97, 99, 116, 66, 111, 100, 121, 70, 97, 117, 108, 116, 32, 108, 111, 111, 112, 46, 101, 120, 97, 109, 112, 108, 101, 47, 103, 48, 49, 48, 55, 53, 47, 108, 97, 119, 115, 46, 70, 110, 69, 120, 97, 99, 116, 86, 97, 108, 105, 100, 68, 101, 102, 105, 110, 105, 116, 105, 111, 110, 115, 32, 108, 111, 111, 112, 46, 101, 120, 97, 109, 112, 108, 101, 47, 103, 48, 49, 48, 55, 53, 47, 108, 97, 119, 115, 46, 70, 110, 69, 120, 97, 99, 116, 86, 97, 114, 105, 97, 98, 108, 101, 115, 79, 102, 32, 108, 111, 111, 112, 46, 101, 120, 97, 109, 112, 108, 101, 47, 103, 48, 49, 48, 55, 53, 47, 108, 97, 119, 115, 46, 70, 110, 69, 120, 97, 99, 116, 80, 97, 114, 116, 69, 110, 100, 32, 108, 111, 111, 112, 46, 101, 120, 97, 109, 112, 108, 101, 47, 103, 48, 49, 48, 55, 53, 47, 108, 97, 119, 115, 46, 70, 110, 69, 120, 97, 99, 116, 83, 99, 111, 112, 101, 65, 116, 32, 108, 111, 111, 112, 46, 101, 120, 97, 109, 112, 108, 101, 47, 103, 48, 49, 48, 55, 53, 47, 108, 97, 119, 115, 46, 70, 110, 69, 120, 97, 99, 116, 86, 97, 108, 105, 100, 80, 111, 105, 110, 116, 32, 108, 111, 111, 112, 46, 101, 120, 97, 109, 112, 108, 101, 47, 103, 48, 49, 48, 55, 53, 47, 108, 97, 119, 115, 46, 70, 110, 69, 120, 97, 99, 116, 85, 110, 114, 111, 108, 108, 83, 117, 109, 115, 32, 108, 111, 111, 112, 46, 101, 120, 97, 109, 112, 108, 101, 47, 103, 48, 49, 48, 55, 53, 47, 108, 97, 119, 115, 46, 70, 110, 69, 120, 97, 99, 116, 73, 110, 116, 101, 114, 108, 101, 97, 118, 101, 76, 105, 110, 101, 97, 114, 32, 108, 111, 111, 112, 46, 101, 120, 97, 109, 112, 108, 101, 47, 103, 48, 49, 48, 55, 53, 47, 108, 97, 119, 115, 46, 70, 110, 69, 120, 97, 99, 116, 67, 111, 110, 115, 116, 97, 110, 116, 80, 97, 114, 97, 109, 101, 116, 101, 114, 115, 32, 108, 111, 111, 112, 46, 101, 120, 97, 109, 112, 108, 101, 47, 103, 48, 49, 48, 55, 53, 47, 108, 97, 119, 115, 46, 70, 110, 69, 120, 97, 99, 116, 76, 105, 110, 101, 97, 114, 78, 97, 109, 101, 115, 32, 108, 111, 111, 112, 46, 101, 120, 97, 109, 112, 108, 101, 47, 103, 48, 49, 48, 55, 53, 47, 108, 97, 119, 115, 46, 70, 110, 69, 120, 97, 99, 116, 78, 101, 101, 100, 101, 100, 80, 97, 114, 97, 109, 101, 116, 101, 114, 115]
def cutL : List Char := List.map Char.ofNat [99, 117, 116]
theorem head0 : Try.prog.initOrder = String.ofList headL := by kernel_rfl
theorem headE : Try.prog.initOrder.toList = headL := by rw [head0]; exact String.toList_ofList
theorem headW : behindMainWord (wordsSigns headL) = cutL :: (behindMainWord (wordsSigns headL)).tail := by kernel_rfl
theorem make_cut {P : Program} {L : List Char} {r : List (List Char)} (h : P.initOrder.toList = L) (hw : behindMainWord (wordsSigns L) = cutL :: r) : P.make = some .cut := by
  unfold Program.make; rw [h, hw]; rfl
theorem enter_cut {P : Program} {L : List Char} {r : List (List Char)} (h : P.initOrder.toList = L) (hw : behindMainWord (wordsSigns L) = cutL :: r) (h1 : P.laysLater = false) (h2 : P.bearsReflect = false) (h3 : P.doorFits [] = true) : P.mayEnter = true := by
  unfold Program.mayEnter; rw [h, hw]
  have e : stripLifts liftWords (cutL :: r) = ([], cutL :: r) := rfl
  simp only [e, h1, h2, h3]
  rfl
theorem liftsE : Try.prog.liftsFinal = false := by unfold Program.liftsFinal Program.headLifts; rw [headE]; kernel_rfl
theorem enterE : Try.prog.mayEnter = true := enter_cut headE headW (by kernel_rfl) (by kernel_rfl) (by kernel_rfl)
theorem makeE : Try.prog.make = some .cut := make_cut headE headW
theorem joined : joinedFacts Try.prog 15 Try.f15 Rows.fnExactValidPointSpec Rows.fnExactValidPointRow = true := by
  unfold joinedFacts
  rw [liftsE, enterE, makeE]
  kernel_rfl

theorem over : Rows.fnExactValidPointRow.holds Try.pinned (OpenSpec.ofChange Rows.fnExactValidPointSpec) :=
  OpenClaim.holds_of_wide 15 Try.f15 rfl rfl rfl rfl rfl rfl rfl ⟨rfl, rfl, rfl, rfl, rfl⟩ rfl rfl rfl rfl rfl (by kernel_rfl) Try.func15 joined
    (of_decide_eq_true (by kernel_rfl)) (by unfold Func.isWrapper; first | (rw [if_pos (by decide +kernel)]; kernel_rfl) | (rw [if_neg (by decide +kernel)]; exact ⟨rfl, rfl⟩))
    (fun os started H enc _ => lifted os started H enc)

theorem proved : Rows.FnExactValidPointSaid := over

end Go.Proofs.Ytobljppjkklojaa.fnExactValidPoint
