/- The law FnExactDecodeEquations of the given program returns true for every input, and each argument reads afterwards as before. No condition. -/
import Derived.Test.YtobljppjkklojaaRows
import Derived.Test.YtobljppjkklojaaW8
import Derived.Test.YtobljppjkklojaaFwI
import Derived.Test.YtobljppjkklojaaU18
import Derived.WalkKit
import Derived.ProofKit
import Derived.OpenShut
import Derived.ChangeOld
import Derived.Below
import Derived.Carry
namespace Go.Proofs.Ytobljppjkklojaa.fnExactDecodeEquations
open Go.ChangeShapes Go.WideShapes Go.ChangeAt Go.RowKit
open Go.Fw Go.Sh
set_option linter.unusedVariables false

theorem own : ownKnob Try.prog.godebug = none := by kernel_rfl
theorem laidOut : laidOutB Try.prog = true := by kernel_rfl


theorem walk (w : World) (y0 : List UInt8) (u0 : y0.length ≤ maxLen) (v0 : Value) (g0 : Arg w (.str y0) v0) :
    Calls Try.prog 8 #[v0] w fun e w' => e = .returned (.bool true) ∧ RowKit.Below w.heap.size w w' :=
  OkAt.law (C := Cc) (ok_laws_FnExactDecodeEquations y0 true (DecodeEquations_true y0)) Try.func8 rfl rfl (.cons g0 (.nil))

set_option maxRecDepth 100000 in
theorem lifted (os : Os) (started : os.Started) (H : Type) (enc : TypeId × Value → H) :
    ReturnsInHanded {} Try.checked os 8 .any (Rows.fnExactDecodeEquationsSpec.pre6 enc Try.prog Try.f8 Rows.fnExactDecodeEquationsRow.domain false) (Rows.fnExactDecodeEquationsSpec.post enc Try.prog Try.f8 false true false false) := by
  refine returnsInHanded_of_change (C := Try.checked) own started (by kernel_rfl) Try.func8
    (ChangeSpec.witness6 (enc := enc) (C := Try.checked) false ⟨#[], #[.string ⟨#[]⟩], []⟩ 8 (by kernel_rfl) (by kernel_rfl) (by kernel_rfl) (by kernel_rfl)) ?_
  intro W base args ds gs before hval0 hW hcnd _
  have hval : ∀ (j : Nat) t v, Try.f8.params[j]? = some t → args[j]? = some v → Value.okWide Try.prog W .any base t v := hval0
  have hW' := hW
  obtain ⟨p, q, hA0, hV, rfl, hfz, hnd⟩ := hW
  have hA : DataW.TrodAll enc Try.prog W 0 (fun _ => true) true Try.f8.params.toList args.toList ds p := hA0
  rw [Try.params8] at hA hval
  obtain ⟨v0, vs0, d0, ds0, p0, q0, hargs, rfl, rfl, h0, r0⟩ := trodAll_cons hA
  obtain ⟨rfl, rfl, rfl⟩ := trodAll_nil r0
  obtain rfl : args = #[v0] := by cases args; simp_all
  obtain ⟨rfl, rfl⟩ := trodVars_none hV
  have lt0 : ∀ x ∈ p0, x.block < W.heap.size := by obtain ⟨m, hm⟩ := h0; exact DataW.trod_lt m _ _ _ hm
  obtain ⟨y0, g0, u0⟩ := arg_str Try.underlying9 (hval 0 9 v0 rfl rfl) h0
  clear hA0 hval0
  refine (walk W y0 u0 v0 g0).mono fun e W' ⟨he, bel⟩ => ?_
  subst he
  exact ⟨_, rfl, _, _, _, [], _, [], hW', trodAll_mk1 (shut_bool Try.underlying4 _), (trodAll_cons_mk (Below.trod laidOut (by kernel_rfl) (of_decide_eq_true (by kernel_rfl)) h0 bel lt0) trodAll_mk0), rfl, bel.frame _, fun h => by cases h⟩

def headL : List Char := ['h', 'a', 'r', 'n', 'e', 's', 's', ' ', '2', '4', 'c', '1', '4', '7', 'e', '0', 'a', 'b', '7', '4', '8', 'b', '2', '2', '8', '1', '1', 'f', 'a', 'b', 'd', '0', '7', 'd', 'f', 'd', '0', '2', '8', '0', 'b', 'c', '0', '1', 'c', 'e', 'f', '5', 'b', '1', '7', '5', 'c', '6', '2', 'a', 'd', '2', '2', 'f', '1', '9', '1', 'e', 'e', '6', '2', 'f', 'd', 'c', 'b', '7', ' ', 'c', 'u', 't', ' ', 'a', 't', ' ', 'l', 'o', 'o', 'p', '.', 'e', 'x', 'a', 'm', 'p', 'l', 'e', '/', 'g', '0', '1', '0', '7', '5', '/', 'l', 'a', 'w', 's', '.', 'F', 'n', 'E', 'x', 'a', 'c', 't', 'P', 'a', 'c', 'k', 'I', 't', 'e', 'm', 's', ' ', 'l', 'o', 'o', 'p', '.', 'e', 'x', 'a', 'm', 'p', 'l', 'e', '/', 'g', '0', '1', '0', '7', '5', '/', 'l', 'a', 'w', 's', '.', 'F', 'n', 'E', 'x', 'a', 'c', 't', 'E', 'n', 'c', 'o', 'd', 'e', 'E', 'q', 'u', 'a', 't', 'i', 'o', 'n', 's', ' ', 'l', 'o', 'o', 'p', '.', 'e', 'x', 'a', 'm', 'p', 'l', 'e', '/', 'g', '0', '1', '0', '7', '5', '/', 'l', 'a', 'w', 's', '.', 'F', 'n', 'E', 'x', 'a', 'c', 't', 'C', 'o', 'n', 's', 't', 'a', 'n', 't', 'O', 'f', ' ', 'l', 'o', 'o', 'p', '.', 'e', 'x', 'a', 'm', 'p', 'l', 'e', '/', 'g', '0', '1', '0', '7', '5', '/', 'l', 'a', 'w', 's', '.', 'F', 'n', 'E', 'x', 'a', 'c', 't', 'U', 'n', 'p', 'a', 'c', 'k', 'I', 't', 'e', 'm', 's', ' ', 'l', 'o', 'o', 'p', '.', 'e', 'x', 'a', 'm', 'p', 'l', 'e', '/', 'g', '0', '1', '0', '7', '5', '/', 'l', 'a', 'w', 's', '.', 'F', 'n', 'E', 'x', 'a', 'c', 't', 'S', 'a', 'l', 'v', 'a', 'g', 'e', 'I', 't', 'e', 'm', 's', ' ', 'l', 'o', 'o', 'p', '.', 'e', 'x', 'a', 'm', 'p', 'l', 'e', '/', 'g', '0', '1', '0', '7', '5', '/', 'l', 'a', 'w', 's', '.', 'F', 'n', 'E', 'x', 'a', 'c', 't', 'D', 'e', 'c', 'o', 'd', 'e', 'E', 'q', 'u', 'a', 't', 'i', 'o', 'n', 's', ' ', 'l', 'o', 'o', 'p', '.', 'e', 'x', 'a', 'm', 'p', 'l', 'e', '/', 'g', '0', '1', '0', '7', '5', '/', 'l', 'a', 'w', 's', '.', 'F', 'n', 'E', 'x', 'a', 'c', 't', 'P', 'u', 't', 'I', 't', 'e', 'm', ' ', 'l', 'o', 'o', 'p', '.', 'e', 'x', 'a', 'm', 'p', 'l', 'e', '/', 'g', '0', '1', '0', '7', '5', '/', 'l', 'a', 'w', 's', '.', 'F', 'n', 'E', 'x', 'a', 'c', 't', 'B', 'o', 'd', 'y', 'F', 'a', 'u', 'l', 't', ' ', 'l', 'o', 'o', 'p', '.', 'e', 'x', 'a', 'm', 'p', 'l', 'e', '/', 'g', '0', '1', '0', '7', '5', '/', 'l', 'a', 'w', 's', '.', 'F', 'n', 'E', 'x', 'a', 'c', 't', 'V', 'a', 'l', 'i', 'd', 'D', 'e', 'f', 'i', 'n', 'i', 't', 'i', 'o', 'n', 's', ' ', 'l', 'o', 'o', 'p', '.', 'e', 'x', 'a', 'm', 'p', 'l', 'e', '/', 'g', '0', '1', '0', '7', '5', '/', 'l', 'a', 'w', 's', '.', 'F', 'n', 'E', 'x', 'a', 'c', 't', 'V', 'a', 'r', 'i', 'a', 'b', 'l', 'e', 's', 'O', 'f', ' ', 'l', 'o', 'o', 'p', '.', 'e', 'x', 'a', 'm', 'p', 'l', 'e', '/', 'g', '0', '1', '0', '7', '5', '/', 'l', 'a', 'w', 's', '.', 'F', 'n', 'E', 'x', 'a', 'c', 't', 'P', 'a', 'r', 't', 'E', 'n', 'd', ' ', 'l', 'o', 'o', 'p', '.', 'e', 'x', 'a', 'm', 'p', 'l', 'e', '/', 'g', '0', '1', '0', '7', '5', '/', 'l', 'a', 'w', 's', '.', 'F', 'n', 'E', 'x', 'a', 'c', 't', 'S', 'c', 'o', 'p', 'e', 'A', 't', ' ', 'l', 'o', 'o', 'p', '.', 'e', 'x', 'a', 'm', 'p', 'l', 'e', '/', 'g', '0', '1', '0', '7', '5', '/', 'l', 'a', 'w', 's', '.', 'F', 'n', 'E', 'x', 'a', 'c', 't', 'V', 'a', 'l', 'i', 'd', 'P', 'o', 'i', 'n', 't', ' ', 'l', 'o', 'o', 'p', '.', 'e', 'x', 'a', 'm', 'p', 'l', 'e', '/', 'g', '0', '1', '0', '7', '5', '/', 'l', 'a', 'w', 's', '.', 'F', 'n', 'E', 'x', 'a', 'c', 't', 'U', 'n', 'r', 'o', 'l', 'l', 'S', 'u', 'm', 's', ' ', 'l', 'o', 'o', 'p', '.', 'e', 'x', 'a', 'm', 'p', 'l', 'e', '/', 'g', '0', '1', '0', '7', '5', '/', 'l', 'a', 'w', 's', '.', 'F', 'n', 'E', 'x', 'a', 'c', 't', 'I', 'n', 't', 'e', 'r', 'l', 'e', 'a', 'v', 'e', 'L', 'i', 'n', 'e', 'a', 'r', ' ', 'l', 'o', 'o', 'p', '.', 'e', 'x', 'a', 'm', 'p', 'l', 'e', '/', 'g', '0', '1', '0', '7', '5', '/', 'l', 'a', 'w', 's', '.', 'F', 'n', 'E', 'x', 'a', 'c', 't', 'C', 'o', 'n', 's', 't', 'a', 'n', 't', 'P', 'a', 'r', 'a', 'm', 'e', 't', 'e', 'r', 's', ' ', 'l', 'o', 'o', 'p', '.', 'e', 'x', 'a', 'm', 'p', 'l', 'e', '/', 'g', '0', '1', '0', '7', '5', '/', 'l', 'a', 'w', 's', '.', 'F', 'n', 'E', 'x', 'a', 'c', 't', 'L', 'i', 'n', 'e', 'a', 'r', 'N', 'a', 'm', 'e', 's', ' ', 'l', 'o', 'o', 'p', '.', 'e', 'x', 'a', 'm', 'p', 'l', 'e', '/', 'g', '0', '1', '0', '7', '5', '/', 'l', 'a', 'w', 's', '.', 'F', 'n', 'E', 'x', 'a', 'c', 't', 'N', 'e', 'e', 'd', 'e', 'd', 'P', 'a', 'r', 'a', 'm', 'e', 't', 'e', 'r', 's']
theorem head0 : Try.prog.initOrder = String.ofList headL := by kernel_rfl
theorem headE : Try.prog.initOrder.toList = headL := by rw [head0]; exact String.toList_ofList
theorem headW : behindMainWord (wordsSigns headL) = ['c', 'u', 't'] :: (behindMainWord (wordsSigns headL)).tail := by kernel_rfl
theorem make_cut {P : Program} {L : List Char} {r : List (List Char)} (h : P.initOrder.toList = L) (hw : behindMainWord (wordsSigns L) = ['c', 'u', 't'] :: r) : P.make = some .cut := by
  unfold Program.make; rw [h, hw]; rfl
theorem enter_cut {P : Program} {L : List Char} {r : List (List Char)} (h : P.initOrder.toList = L) (hw : behindMainWord (wordsSigns L) = ['c', 'u', 't'] :: r) (h1 : P.laysLater = false) (h2 : P.bearsReflect = false) (h3 : P.doorFits [] = true) : P.mayEnter = true := by
  unfold Program.mayEnter; rw [h, hw]
  have e : stripLifts liftWords (['c', 'u', 't'] :: r) = ([], ['c', 'u', 't'] :: r) := rfl
  simp only [e, h1, h2, h3]
  rfl
theorem liftsE : Try.prog.liftsFinal = false := by unfold Program.liftsFinal Program.headLifts; rw [headE]; kernel_rfl
theorem enterE : Try.prog.mayEnter = true := enter_cut headE headW (by kernel_rfl) (by kernel_rfl) (by kernel_rfl)
theorem makeE : Try.prog.make = some .cut := make_cut headE headW
theorem joined : joinedFacts Try.prog 8 Try.f8 Rows.fnExactDecodeEquationsSpec Rows.fnExactDecodeEquationsRow = true := by
  unfold joinedFacts
  rw [liftsE, enterE, makeE]
  kernel_rfl

theorem over : Rows.fnExactDecodeEquationsRow.holds Try.pinned (OpenSpec.ofChange Rows.fnExactDecodeEquationsSpec) :=
  OpenClaim.holds_of_wide 8 Try.f8 rfl rfl rfl rfl rfl rfl rfl ⟨rfl, rfl, rfl, rfl, rfl⟩ rfl rfl rfl rfl rfl (by kernel_rfl) Try.func8 joined
    (of_decide_eq_true (by kernel_rfl)) (by unfold Func.isWrapper; first | (rw [if_pos (by decide +kernel)]; kernel_rfl) | (rw [if_neg (by decide +kernel)]; exact ⟨rfl, rfl⟩))
    (fun os started H enc _ => lifted os started H enc)

theorem proved : Rows.FnExactDecodeEquationsSaid := over

end Go.Proofs.Ytobljppjkklojaa.fnExactDecodeEquations
