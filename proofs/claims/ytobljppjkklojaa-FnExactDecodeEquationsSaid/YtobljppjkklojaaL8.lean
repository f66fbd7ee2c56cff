/- The law FnExactDecodeEquations of the given program returns true for every input, and each argument reads afterwards as before. No condition. -/
import Derived.Test.YtobljppjkklojaaRows
import Derived.Test.YtobljppjkklojaaW8
import Derived.Test.YtobljppjkklojaaFwI
import Derived.Test.YtobljppjkklojaaU18
import Derived.WalkKit
import Derived.ProofKit
import Derived.OpenShut
import Derived.ChangeOld
import Derived.Below
import Derived.Carry
namespace Go.Proofs.Ytobljppjkklojaa.fnExactDecodeEquations
open Go.ChangeShapes Go.WideShapes Go.ChangeAt Go.RowKit
open Go.Fw Go.Sh
set_option linter.unusedVariables false

theorem own : ownKnob Try.prog.godebug = none := by kernel_rfl
theorem laidOut : laidOutB Try.prog = true := by kernel_rfl


theorem walk (w : World) (y0 : List UInt8) (u0 : y0.length ≤ maxLen) (v0 : Value) (g0 : Arg w (.str y0) v0) :
    Calls Try.prog 8 #[v0] w fun e w' => e = .returned (.bool true) ∧ RowKit.Below w.heap.size w w' :=
  OkAt.law (C := Cc) (ok_laws_FnExactDecodeEquations y0 true (DecodeEquations_true y0)) Try.func8 rfl rfl (.cons g0 (.nil))

set_option maxRecDepth 100000 in
theorem lifted (os : Os) (started : os.Started) (H : Type) (enc : TypeId × Value → H) :
    ReturnsInHanded {} Try.checked os 8 .any (Rows.fnExactDecodeEquationsSpec.pre6 enc Try.prog Try.f8 Rows.fnExactDecodeEquationsRow.domain false) (Rows.fnExactDecodeEquationsSpec.post enc Try.prog Try.f8 false true false false) := by
  refine returnsInHanded_of_change (C := Try.checked) own started (by kernel_rfl) Try.func8
    (ChangeSpec.witness6 (enc := enc) (C := Try.checked) false ⟨#[], #[.string ⟨#[]⟩], []⟩ 8 (by kernel_rfl) (by kernel_rfl) (by kernel_rfl) (by kernel_rfl)) ?_
  intro W base args ds gs before hval0 hW hcnd _
  have hval : ∀ (j : Nat) t v, Try.f8.params[j]? = some t → args[j]? = some v → Value.okWide Try.prog W .any base t v := hval0
  have hW' := hW
  obtain ⟨p, q, hA0, hV, rfl, hfz, hnd⟩ := hW
  have hA : DataW.TrodAll enc Try.prog W 0 (fun _ => true) true Try.f8.params.toList args.toList ds p := hA0
  rw [Try.params8] at hA hval
  obtain ⟨v0, vs0, d0, ds0, p0, q0, hargs, rfl, rfl, h0, r0⟩ := trodAll_cons hA
  obtain ⟨rfl, rfl, rfl⟩ := trodAll_nil r0
  obtain rfl : args = #[v0] := by cases args; simp_all
  obtain ⟨rfl, rfl⟩ := trodVars_none hV
  have lt0 : ∀ x ∈ p0, x.block < W.heap.size := by obtain ⟨m, hm⟩ := h0; exact DataW.trod_lt m _ _ _ hm
  obtain ⟨y0, g0, u0⟩ := arg_str Try.underlying9 (hval 0 9 v0 rfl rfl) h0
  clear hA0 hval0
  refine (walk W y0 u0 v0 g0).mono fun e W' ⟨he, bel⟩ => ?_
  subst he
  exact ⟨_, rfl, _, _, _, [], _, [], hW', trodAll_mk1 (shut_bool Try.underlying4 _), (trodAll_cons_mk (Below.trod laidOut (by kernel_rfl) (of_decide_eq_true (by kernel_rfl)) h0 bel lt0) trodAll_mk0), rfl, bel.frame _, fun h => by cases h⟩

def headL : List Char := List.map Char.ofNat [104, 97, 114, 110, 101, 115, 115, 32, 50, 52, 99, 49, 52, 55, 101, 48, 97, 98, 55, 52, 56, 98, 50, 50, 56, 49, 49, 102, 97, 98, 100, 48, 55, 100, 102, 100, 48, 50, 56, 48, 98, 99, 48, 49, 99, 101, 102, 53, 98, 49, 55, 53, 99, 54, 50, 97, 100, 50, 50, 102, 49, 57, 49, 101, 101, 54, 50, 102, 100, 99, 98, 55, 32, 99, 117, 116, 32, 97, 116, 32, 108, 111, 111, 112, 46, 101, 120, 97, 109, 112, 108, 101, 47, 103, 48, 49, 48, 55, 53, 47, 108, 97, 119, 115, 46, 70, 110, 69, 120, 97, 99, 116, 80, 97, 99, 107, 73, 116, 101, 109, 115, 32, 108, 111, 111, 112, 46, 101, 120, 97, 109, 112, 108, 101, 47, 103, 48, 49, 48, 55, 53, 47, 108, 97, 119, 115, 46, 70, 110, 69, 120, 97, 99, 116, 69, 110, 99, 111, 100, 101, 69, 113, 117, 97, 116, 105, 111, 110, 115, 32, 108, 111, 111, 112, 46, 101, 120, 97, 109, 112, 108, 101, 47, 103, 48, 49, 48, 55, 53, 47, 108, 97, 119, 115, 46, 70, 110, 69, 120, 97, 99, 116, 67, 111, 110, 115, 116, 97, 110, 116, 79, 102, 32, 108, 111, 111, 112, 46, 101, 120, 97, 109, 112, 108, 101, 47, 103, 48, 49, 48, 55, 53, 47, 108, 97, 119, 115, 46, 70, 110, 69, 120, 97, 99, 116, 85, 110, 112, 97, 99, 107, 73, 116, 101, 109, 115, 32, 108, 111, 111, 112, 46, 101, 120, 97, 109, 112, 108, 101, 47, 103, 48, 49, 48, 55, 53, 47, 108, 97, 119, 115, 46, 70, 110, 69, 120, 97, 99, 116, 83, 97, 108, 118, 97, 103, 101, 73, 116, 101, 109, 115, 32, 108, 111, 111, 112, 46, 101, 120, 97, 109, 112, 108, 101, 47, 103, 48, 49, 48, 55, 53, 47, 108, 97, 119, 115, 46, 70, 110, 69, 120, 97, 99, 116, 68, 101, 99, 111, 100, 101, 69, 113, 117, 97, 116, 105, 111, 110, 115, 32, 108, 111, 111, 112, 46, 101, 120, 97, 109, 112, 108, 101, 47, 103, 48, 49, 48, 55, 53, 47, 108, 97, 119, 115, 46, 70, 110, 69, 120, 97, 99, 116, 80, 117, 116, 73, 116, 101, 109, 32, 108, 111, 111, 112, 46, 101, 120, 97, 109, 112, 108, 101, 47, 103, 48, 49, 48, 55, 53, 47, 108, 97, 119, 115, 46, 70, 110, 69, 120, 97, 99, 116, 66, 111, 100, 121, 70, 97, 117, 108, 116, 32, 108, 111, 111, 112, 46, 101, 120, 97, 109, 112, 108, 101, 47, 103, 48, 49, 48, 55, 53, 47, 108, 97, 119, 115, 46, 70, 110, 69, 120, 97, 99, 116, 86, 97, 108, 105, 100, 68, 101, 102, 105, 110, 105, 116, 105, 111, 110, 115, 32, 108, 111, 111, 112, 46, 101, 120, 97, 109, 112, 108, 101, 47, 103, 48, 49, 48, 55, 53, 47, 108, 97, 119, 115, 46, 70, 110, 69, 120, 97, 99, 116, 86, 97, 114, 105, 97, 98, 108, 101, 115, 79, 102, 32, 108, 111, 111, 112, 46, 101, 120, 97, 109, 112, 108, 101, 47, 103, 48, 49, 48, 55, 53, 47, 108, 97, 119, 115, 46, 70, 110, 69, 120, 97, 99, 116, 80, 97, 114, 116, 69, 110, 100, 32, 108, 111, 111, 112, 46, 101, 120, 97, 109, 112, 108, 101, 47, 103, 48, 49, 48, 55, 53, 47, 108, 97, 119, 115, 46, 70, 110, 69, 120, 97, 99, 116, 83, 99, 111, 112, 101, 65, 116, 32, 108, 111, 111, 112, 46, 101, 120, 97, 109, 112, 108, 101, 47, 103, 48, 49, 48, 55, 53, 47, 108, 97, 119, 115, 46, 70, 110, 69, 120, 97, 99, 116, 86, 97, 108, 105, 100, 80, 111, 105, 110, 116, 32, 108, 111, 111, 112, 46, 101, 120, 97, 109, 112, 108, 101, 47, 103, 48, 49, 48, 55, 53, 47, 108, 97, 119, 115, 46, 70, 110, 69, 120, 97, 99, 116, 85, 110, 114, 111, 108, 108, 83, 117, 109, 115, 32, 108, 111, 111, 112, 46, 101, 120, 97, 109, 112, 108, 101, 47, 103, 48, 49, 48, 55, 53, 47, 108, 97, 119, 115, 46, 70, 110, 69, 120, 97, 99, 116, 73, 110, 116, 101, 114, 108, 101, 97, 118, 101, 76, 105, 110, 101, 97, 114, 32, 108, 111, 111, 112, 46, 101, 120, 97, 109, 112, 108, 101, 47, 103, 48, 49, 48, 55, 53, 47, 108, 97, 119, 115, 46, 70, 110, 69, 120, 97, 99, 116, 67, 111, 110, 115, 116, 97, 110, 116, 80, 97, 114, 97, 109, 101, 116, 101, 114, 115, 32, 108, 111, 111, 112, 46, 101, 120, 97, 109, 112, 108, 101, 47, 103, 48, 49, 48, 55, 53, 47, 108, 97, 119, 115, 46, 70, 110, 69, 120, 97, 99, 116, 76, 105, 110, 101, 97, 114, 78, 97, 109, 101, 115, 32, 108, 111, 111, 112, 46, 101, 120, 97, 109, 112, 108, 101, 47, 103, 48, 49, 48, 55, 53, 47, 108, 97, 119, 115, 46, 70, 110, 69, 120, 97, 99, 116, 78, 101, 101, 100, 101, 100, 80, 97, 114, 97, 109, 101, 116, 101, 114, 115]
def cutL : List Char := List.map Char.ofNat [99, 117, 116]
theorem head0 : Try.prog.initOrder = String.ofList headL := by kernel_rfl
theorem headE : Try.prog.initOrder.toList = headL := by rw [head0]; exact String.toList_ofList
theorem headW : behindMainWord (wordsSigns headL) = cutL :: (behindMainWord (wordsSigns headL)).tail := by kernel_rfl
theorem make_cut {P : Program} {L : List Char} {r : List (List Char)} (h : P.initOrder.toList = L) (hw : behindMainWord (wordsSigns L) = cutL :: r) : P.make = some .cut := by
  unfold Program.make; rw [h, hw]; rfl
theorem enter_cut {P : Program} {L : List Char} {r : List (List Char)} (h : P.initOrder.toList = L) (hw : behindMainWord (wordsSigns L) = cutL :: r) (h1 : P.laysLater = false) (h2 : P.bearsReflect = false) (h3 : P.doorFits [] = true) : P.mayEnter = true := by
  unfold Program.mayEnter; rw [h, hw]
  have e : stripLifts liftWords (cutL :: r) = ([], cutL :: r) := rfl
  simp only [e, h1, h2, h3]
  rfl
theorem liftsE : Try.prog.liftsFinal = false := by unfold Program.liftsFinal Program.headLifts; rw [headE]; kernel_rfl
theorem enterE : Try.prog.mayEnter = true := enter_cut headE headW (by kernel_rfl) (by kernel_rfl) (by kernel_rfl)
theorem makeE : Try.prog.make = some .cut := make_cut headE headW
theorem joined : joinedFacts Try.prog 8 Try.f8 Rows.fnExactDecodeEquationsSpec Rows.fnExactDecodeEquationsRow = true := by
  unfold joinedFacts
  rw [liftsE, enterE, makeE]
  kernel_rfl

theorem over : Rows.fnExactDecodeEquationsRow.holds Try.pinned (OpenSpec.ofChange Rows.fnExactDecodeEquationsSpec) :=
  OpenClaim.holds_of_wide 8 Try.f8 rfl rfl rfl rfl rfl rfl rfl ⟨rfl, rfl, rfl, rfl, rfl⟩ rfl rfl rfl rfl rfl (by kernel_rfl) Try.func8 joined
    (of_decide_eq_true (by kernel_rfl)) (by unfold Func.isWrapper; first | (rw [if_pos (by decide +kernel)]; kernel_rfl) | (rw [if_neg (by decide +kernel)]; exact ⟨rfl, rfl⟩))
    (fun os started H enc _ => lifted os started H enc)

theorem proved : Rows.FnExactDecodeEquationsSaid := over

end Go.Proofs.Ytobljppjkklojaa.fnExactDecodeEquations
