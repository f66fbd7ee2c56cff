/- The law FnExactEncodeEquations of the given program returns true for every input, and each argument reads afterwards as before. No condition. -/
import Derived.Test.YtncnipaofaeaiaaRows
import Derived.Test.YtncnipaofaeaiaaW8
import Derived.Test.YtncnipaofaeaiaaFwI
import Derived.Test.YtncnipaofaeaiaaU10
import Derived.WalkKit
import Derived.ProofKit
import Derived.OpenShut
import Derived.ChangeOld
import Derived.Below
import Derived.Carry
namespace Go.Proofs.Ytncnipaofaeaiaa.fnExactEncodeEquations
open Go.ChangeShapes Go.WideShapes Go.ChangeAt Go.RowKit
open Go.Fw Go.Sh
set_option linter.unusedVariables false

theorem own : ownKnob Try.prog.godebug = none := by kernel_rfl
theorem laidOut : laidOutB Try.prog = true := by kernel_rfl

theorem rd4 {H : Type} {enc : TypeId × Value → H} {w : World} {base : Nat} {sp : Nat → Bool} {held : Bool} : Rds enc Try.prog w base sp held 4 (fun x : Bool => .bool x) (fun x : Bool => True) := rds_bool Try.underlying4
theorem rd2 {H : Type} {enc : TypeId × Value → H} {w : World} {base : Nat} {sp : Nat → Bool} {held : Bool} : Rds enc Try.prog w base sp held 2 (fun x : Int => .int .i64 x) (fun x : Int => (-9223372036854775808 ≤ x ∧ x ≤ 9223372036854775807)) := rds_i64 Try.underlying2
theorem rd68 {H : Type} {enc : TypeId × Value → H} {w : World} {base : Nat} {sp : Nat → Bool} {held : Bool} : Rds enc Try.prog w base sp held 68 (fun x : List Int => .slice (x.map e_i64)) (fun x : List Int => (x.length ≤ 9223372036854775807 ∧ ∀ y ∈ x, (-9223372036854775808 ≤ y ∧ y ≤ 9223372036854775807))) := rds_slice (sz := 1) (ec := e_i64) Try.underlying68 (by kernel_rfl) (by decide) (fun _ => rfl) rd2
theorem rd70 {H : Type} {enc : TypeId × Value → H} {w : World} {base : Nat} {sp : Nat → Bool} {held : Bool} : Rds enc Try.prog w base sp held 70 e_laws_Equation (fun x : laws_Equation => wf_laws_Equation x) := by
  intro fuel cs x hx
  obtain ⟨xs, n, _, _, hl, hn, hf⟩ := DataW.trod_struct Try.underlying70 hx
  have hcs : cs.length = 3 := hl.trans (by kernel_rfl)
  obtain ⟨y0, w0, r0⟩ := fld_get rd4 (hf 0 _ rfl) (by rw [List.getElem?_eq_getElem (by rw [hn]; decide)]; rfl)
  change RV w (F0 w) (.bool y0) ((cs.drop 0).take (Try.prog.cellsOf 4)) _ at r0
  rw [show Try.prog.cellsOf 4 = 1 by kernel_rfl] at r0
  obtain ⟨y1, w1, r1⟩ := fld_get rd4 (hf 1 _ rfl) (by rw [List.getElem?_eq_getElem (by rw [hn]; decide)]; rfl)
  change RV w (F0 w) (.bool y1) ((cs.drop 1).take (Try.prog.cellsOf 4)) _ at r1
  rw [show Try.prog.cellsOf 4 = 1 by kernel_rfl] at r1
  obtain ⟨y2, w2, r2⟩ := fld_get rd68 (hf 2 _ rfl) (by rw [List.getElem?_eq_getElem (by rw [hn]; decide)]; rfl)
  change RV w (F0 w) (.slice (y2.map e_i64)) ((cs.drop 2).take (Try.prog.cellsOf 68)) _ at r2
  rw [show Try.prog.cellsOf 68 = 1 by kernel_rfl] at r2
  have key := flds_rvs [(.bool y0, 0, 1), (.bool y1, 1, 1), (.slice (y2.map e_i64), 2, 1)] 0 (by rw [hcs]; rfl) ⟨r0, r1, r2, trivial⟩
  refine ⟨⟨y0, y1, y2⟩, ⟨w0, w1, w2⟩, ?_⟩
  show RV w (F0 w) (.agg [.bool y0, .bool y1, .slice (y2.map e_i64)]) cs _
  rw [RV]
  exact key
theorem rd38 {H : Type} {enc : TypeId × Value → H} {w : World} {base : Nat} {sp : Nat → Bool} {held : Bool} : Rds enc Try.prog w base sp held 38 (fun x : List laws_Equation => .slice (x.map e_laws_Equation)) (fun x : List laws_Equation => (x.length ≤ 9223372036854775807 ∧ ∀ y ∈ x, wf_laws_Equation y)) := rds_slice (sz := 3) (ec := e_laws_Equation) Try.underlying38 (by kernel_rfl) (by decide) (fun _ => rfl) rd70
theorem walk (w : World) (y0 : List laws_Equation) (u0 : (y0.length ≤ 9223372036854775807 ∧ ∀ y ∈ y0, wf_laws_Equation y)) (v0 : Value) (g0 : Arg w (.slice (y0.map e_laws_Equation)) v0) :
    Calls Try.prog 8 #[v0] w fun e w' => e = .returned (.bool true) ∧ RowKit.Below w.heap.size w w' :=
  OkAt.law (C := Cc) (ok_laws_FnExactEncodeEquations y0 true (EncodeEquations_true y0 u0)) Try.func8 rfl rfl (.cons g0 (.nil))

set_option maxRecDepth 100000 in
theorem lifted (os : Os) (started : os.Started) (H : Type) (enc : TypeId × Value → H) :
    ReturnsInHanded {} Try.checked os 8 .any (Rows.fnExactEncodeEquationsSpec.pre6 enc Try.prog Try.f8 Rows.fnExactEncodeEquationsRow.domain false) (Rows.fnExactEncodeEquationsSpec.post enc Try.prog Try.f8 false true false false) := by
  refine returnsInHanded_of_change (C := Try.checked) own started (by kernel_rfl) Try.func8
    (ChangeSpec.witness6 (enc := enc) (C := Try.checked) false ⟨#[], #[.slice none 0 0], []⟩ 8 (by kernel_rfl) (by kernel_rfl) (by kernel_rfl) (by kernel_rfl)) ?_
  intro W base args ds gs before hval0 hW hcnd _
  have hval : ∀ (j : Nat) t v, Try.f8.params[j]? = some t → args[j]? = some v → Value.okWide Try.prog W .any base t v := hval0
  have hW' := hW
  obtain ⟨p, q, hA0, hV, rfl, hfz, hnd⟩ := hW
  have hA : DataW.TrodAll enc Try.prog W 0 (fun _ => true) true Try.f8.params.toList args.toList ds p := hA0
  rw [Try.params8] at hA hval
  obtain ⟨v0, vs0, d0, ds0, p0, q0, hargs, rfl, rfl, h0, r0⟩ := trodAll_cons hA
  obtain ⟨rfl, rfl, rfl⟩ := trodAll_nil r0
  obtain rfl : args = #[v0] := by cases args; simp_all
  obtain ⟨rfl, rfl⟩ := trodVars_none hV
  have lt0 : ∀ x ∈ p0, x.block < W.heap.size := by obtain ⟨m, hm⟩ := h0; exact DataW.trod_lt m _ _ _ hm
  obtain ⟨y0, g0, u0⟩ := arg_slice Try.underlying38 rd38 (hval 0 38 v0 rfl rfl) h0
  clear hA0 hval0
  refine (walk W y0 u0 v0 g0).mono fun e W' ⟨he, bel⟩ => ?_
  subst he
  exact ⟨_, rfl, _, _, _, [], _, [], hW', trodAll_mk1 (shut_bool Try.underlying4 _), (trodAll_cons_mk (Below.trod laidOut (by kernel_rfl) (of_decide_eq_true (by kernel_rfl)) h0 bel lt0) trodAll_mk0), rfl, bel.frame _, fun h => by cases h⟩

theorem over : Rows.fnExactEncodeEquationsRow.holds Try.pinned (OpenSpec.ofChange Rows.fnExactEncodeEquationsSpec) :=
  OpenClaim.holds_of_wide 8 Try.f8 rfl rfl rfl rfl rfl rfl rfl ⟨rfl, rfl, rfl, rfl, rfl⟩ rfl rfl rfl rfl rfl (by kernel_rfl) Try.func8 (by kernel_rfl)
    (of_decide_eq_true (by kernel_rfl)) (by unfold Func.isWrapper; first | (rw [if_pos (by decide +kernel)]; kernel_rfl) | (rw [if_neg (by decide +kernel)]; exact ⟨rfl, rfl⟩))
    (fun os started H enc _ => lifted os started H enc)

theorem proved : Rows.FnExactEncodeEquationsSaid := over

end Go.Proofs.Ytncnipaofaeaiaa.fnExactEncodeEquations
