/- Part of a proof that a law returns true for every input. No condition. -/
import Derived.Test.YtjedocbdhlppdaaRows
import Derived.Test.YtjedocbdhlppdaaW4
import Derived.Test.YtjedocbdhlppdaaFwI
import Derived.Test.YtjedocbdhlppdaaUK4
import Derived.WalkKit
import Derived.ProofKit
import Derived.OpenShut
import Derived.ChangeOld
import Derived.Below
import Derived.Carry
namespace Go.Proofs.Ytjedocbdhlppdaa.fnExactUnpackItems
open Go.ChangeShapes Go.WideShapes Go.ChangeAt Go.RowKit
open Go.b7 Go.fi
set_option linter.unusedVariables false
theorem own : ownKnob Try.prog.godebug = none := by kernel_rfl
theorem laidOut : laidOutB Try.prog = true := by kernel_rfl
theorem walk (w : World) (pB : List UInt8) (uU : pB.length ≤ maxLen) (v0 : Value) (g0 : Arg w (.str pB) v0) :
  Calls Try.prog 4 #[v0] w fun e ao => e = .returned (.bool true) ∧ RowKit.Below w.heap.size w ao :=
 b5.law (C := aP) (M6 pB true (Nd pB)) Try.func4 rfl rfl (.cons g0 (.nil))
set_option maxRecDepth 100000 in
theorem lifted (os : Os) (started : os.Started) (H : Type) (enc : TypeId × Value → H) :
  ReturnsInHanded {} Try.checked os 4 .any (Rows.fnExactUnpackItemsSpec.pre6 enc Try.prog Try.f4 Rows.fnExactUnpackItemsRow.domain false) (Rows.fnExactUnpackItemsSpec.post enc Try.prog Try.f4 false true false false) := by
 refine returnsInHanded_of_change (C := Try.checked) own started (by kernel_rfl) Try.func4
  (ChangeSpec.witness6 (enc := enc) (C := Try.checked) false ⟨#[], #[.string ⟨#[]⟩], []⟩ 8 (by kernel_rfl) (by kernel_rfl) (by kernel_rfl) (by kernel_rfl)) ?_
 intro W base args ds gs before Ba Bb O5 _
 have ns : ∀ (ay : Nat) t v, Try.f4.params[ay]? = some t → args[ay]? = some v → Value.okWide Try.prog W .any base t v := Ba
 have Nf := Bb
 obtain ⟨p, q, oo, j2, rfl, O6, oD⟩ := Bb
 have fz : DataW.TrodAll enc Try.prog W 0 (fun _ => true) true Try.f4.params.toList args.toList ds p := oo
 rw [Try.params4] at fz ns
 obtain ⟨v0, O7, d0, O8, eM, rF, iL, rfl, rfl, bz, bt⟩ := trodAll_cons fz
 obtain ⟨rfl, rfl, rfl⟩ := trodAll_nil bt
 obtain rfl : args = #[v0] := by cases args; simp_all
 obtain ⟨rfl, rfl⟩ := trodVars_none j2
 have wm : ∀ x ∈ eM, x.block < W.heap.size := by obtain ⟨m, hm⟩ := bz; exact DataW.trod_lt m _ _ _ hm
 obtain ⟨pB, g0, uU⟩ := arg_str Try.underlying9 (ns 0 9 v0 rfl rfl) bz
 clear oo Ba
 refine (walk W pB uU v0 g0).mono fun e O9 ⟨he, Bc⟩ => ?_
 subst he
 exact ⟨_, rfl, _, _, _, [], _, [], Nf, trodAll_mk1 (shut_bool Try.underlying4 _), (trodAll_cons_mk (Below.trod laidOut (by kernel_rfl) (of_decide_eq_true (by kernel_rfl)) bz Bc wm) trodAll_mk0), rfl, Bc.frame _, fun h => by cases h⟩
def s_ : List Char := List.map Char.ofNat [104, 97, 114, 110, 101, 115, 115, 32, 101, 102, 99, 49, 53, 48, 102, 50, 50, 102, 55, 53, 57, 99, 48, 48, 52, 50, 99, 49, 97, 48, 50, 99, 50, 51, 48, 99, 100, 54, 52, 102, 53, 53, 54, 100, 54, 56, 49, 100, 48, 51, 56, 53, 55, 48, 102, 56, 51, 54, 53, 49, 100, 57, 54, 49, 49, 97, 99, 98, 55, 48, 101, 56, 32, 99, 117, 116, 32, 97, 116, 32, 108, 111, 111, 112, 46, 101, 120, 97, 109, 112, 108, 101, 47, 103, 48, 49, 48, 55, 53, 47, 108, 97, 119, 115, 46, 70, 110, 69, 120, 97, 99, 116, 80, 97, 99, 107, 73, 116, 101, 109, 115, 32, 108, 111, 111, 112, 46, 101, 120, 97, 109, 112, 108, 101, 47, 103, 48, 49, 48, 55, 53, 47, 108, 97, 119, 115, 46, 70, 110, 69, 120, 97, 99, 116, 85, 110, 112, 97, 99, 107, 73, 116, 101, 109, 115, 32, 108, 111, 111, 112, 46, 101, 120, 97, 109, 112, 108, 101, 47, 103, 48, 49, 48, 55, 53, 47, 108, 97, 119, 115, 46, 70, 110, 69, 120, 97, 99, 116, 83, 97, 108, 118, 97, 103, 101, 73, 116, 101, 109, 115, 32, 108, 111, 111, 112, 46, 101, 120, 97, 109, 112, 108, 101, 47, 103, 48, 49, 48, 55, 53, 47, 108, 97, 119, 115, 46, 70, 110, 69, 120, 97, 99, 116, 80, 117, 116, 73, 116, 101, 109, 32, 108, 111, 111, 112, 46, 101, 120, 97, 109, 112, 108, 101, 47, 103, 48, 49, 48, 55, 53, 47, 108, 97, 119, 115, 46, 70, 110, 69, 120, 97, 99, 116, 85, 110, 114, 111, 108, 108, 83, 117, 109, 115, 32, 108, 111, 111, 112, 46, 101, 120, 97, 109, 112, 108, 101, 47, 103, 48, 49, 48, 55, 53, 47, 108, 97, 119, 115, 46, 70, 110, 69, 120, 97, 99, 116, 73, 110, 116, 101, 114, 108, 101, 97, 118, 101, 76, 105, 110, 101, 97, 114, 32, 108, 111, 111, 112, 46, 101, 120, 97, 109, 112, 108, 101, 47, 103, 48, 49, 48, 55, 53, 47, 108, 97, 119, 115, 46, 70, 110, 69, 120, 97, 99, 116, 67, 111, 110, 115, 116, 97, 110, 116, 80, 97, 114, 97, 109, 101, 116, 101, 114, 115]
def rk : List Char := List.map Char.ofNat [99, 117, 116]
theorem Ng : Try.prog.initOrder = String.ofList s_ := by kernel_rfl
theorem wo : Try.prog.initOrder.toList = s_ := by rw [Ng]; exact String.toList_ofList
theorem Bd : behindMainWord (wordsSigns s_) = rk :: (behindMainWord (wordsSigns s_)).tail := by kernel_rfl
theorem Nh {P : Program} {L : List Char} {r : List (List Char)} (h : P.initOrder.toList = L) (hw : behindMainWord (wordsSigns L) = rk :: r) : P.make = some .cut := by
 unfold Program.make; rw [h, hw]; rfl
theorem Ni {P : Program} {L : List Char} {r : List (List Char)} (h : P.initOrder.toList = L) (hw : behindMainWord (wordsSigns L) = rk :: r) (U : P.laysLater = false) (aa : P.bearsReflect = false) (au : P.doorFits [] = true) : P.mayEnter = true := by
 unfold Program.mayEnter; rw [h, hw]
 have e : stripLifts liftWords (rk :: r) = ([], rk :: r) := rfl
 simp only [e, U, aa, au]
 rfl
theorem Nj : Try.prog.liftsFinal = false := by unfold Program.liftsFinal Program.headLifts; rw [wo]; kernel_rfl
theorem Nk : Try.prog.mayEnter = true := Ni wo Bd (by kernel_rfl) (by kernel_rfl) (by kernel_rfl)
theorem Nl : Try.prog.make = some .cut := Nh wo Bd
theorem Nn : joinedFacts Try.prog 4 Try.f4 Rows.fnExactUnpackItemsSpec Rows.fnExactUnpackItemsRow = true := by
 unfold joinedFacts
 rw [Nj, Nk, Nl]
 kernel_rfl
theorem over : Rows.fnExactUnpackItemsRow.holds Try.pinned (OpenSpec.ofChange Rows.fnExactUnpackItemsSpec) :=
 OpenClaim.holds_of_wide 4 Try.f4 rfl rfl rfl rfl rfl rfl rfl ⟨rfl, rfl, rfl, rfl, rfl⟩ rfl rfl rfl rfl rfl (by kernel_rfl) Try.func4 Nn
  (of_decide_eq_true (by kernel_rfl)) (by unfold Func.isWrapper; first | (rw [if_pos (by decide +kernel)]; kernel_rfl) | (rw [if_neg (by decide +kernel)]; exact ⟨rfl, rfl⟩))
  (fun os started H enc _ => lifted os started H enc)
theorem proved : Rows.FnExactUnpackItemsSaid := over
end Go.Proofs.Ytjedocbdhlppdaa.fnExactUnpackItems
