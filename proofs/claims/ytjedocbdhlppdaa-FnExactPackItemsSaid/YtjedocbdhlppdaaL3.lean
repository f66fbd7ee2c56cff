/- Part of a proof that a law returns true for every input. No condition. -/
import Derived.Test.YtjedocbdhlppdaaRows
import Derived.Test.YtjedocbdhlppdaaW3
import Derived.Test.YtjedocbdhlppdaaFwI
import Derived.Test.YtjedocbdhlppdaaUK2
import Derived.WalkKit
import Derived.ProofKit
import Derived.OpenShut
import Derived.ChangeOld
import Derived.Below
import Derived.Carry
namespace Go.Proofs.Ytjedocbdhlppdaa.fnExactPackItems
open Go.ChangeShapes Go.WideShapes Go.ChangeAt Go.RowKit
open Go.b1 Go.fg
set_option linter.unusedVariables false
theorem own : ownKnob Try.prog.godebug = none := by kernel_rfl
theorem laidOut : laidOutB Try.prog = true := by kernel_rfl
theorem z6 {H : Type} {enc : TypeId × Value → H} {w : World} {base : Nat} {sp : Nat → Bool} {held : Bool} : lH enc Try.prog w base sp held 9 (fun x : List UInt8 => .str x) (fun x : List UInt8 => x.length ≤ 9223372036854775807) := EB Try.underlying9
theorem KG {H : Type} {enc : TypeId × Value → H} {w : World} {base : Nat} {sp : Nat → Bool} {held : Bool} : lH enc Try.prog w base sp held 34 eX (fun x : dL => lL x) := by
 intro fuel cs x aj
 obtain ⟨xs, n, _, _, aI, aL, bb⟩ := DataW.trod_struct Try.underlying34 aj
 have fp : cs.length = 2 := aI.trans (by kernel_rfl)
 obtain ⟨ir, w0, bJ⟩ := yW z6 (bb 0 _ rfl) (by rw [List.getElem?_eq_getElem (by rw [aL]; decide)]; rfl)
 change ag w (F0 w) (.str ir) ((cs.drop 0).take (Try.prog.cellsOf 9)) _ at bJ
 rw [show Try.prog.cellsOf 9 = 1 by kernel_rfl] at bJ
 obtain ⟨j9, hL, c5⟩ := yW z6 (bb 1 _ rfl) (by rw [List.getElem?_eq_getElem (by rw [aL]; decide)]; rfl)
 change ag w (F0 w) (.str j9) ((cs.drop 1).take (Try.prog.cellsOf 9)) _ at c5
 rw [show Try.prog.cellsOf 9 = 1 by kernel_rfl] at c5
 have key := EG [(.str ir, 0, 1), (.str j9, 1, 1)] 0 (by rw [fp]; rfl) ⟨bJ, c5, trivial⟩
 refine ⟨⟨ir, j9⟩, ⟨w0, hL⟩, ?_⟩
 show ag w (F0 w) (.agg [.str ir, .str j9]) cs _
 rw [ag]
 exact key
theorem KH {H : Type} {enc : TypeId × Value → H} {w : World} {base : Nat} {sp : Nat → Bool} {held : Bool} : lH enc Try.prog w base sp held 22 (fun x : List dL => .slice (x.map eX)) (fun x : List dL => (x.length ≤ 9223372036854775807 ∧ ∀ y ∈ x, lL y)) := EE (sz := 2) (ec := eX) Try.underlying22 (by kernel_rfl) (by decide) (fun _ => rfl) KG
theorem walk (w : World) (ir : List dL) (rl : (ir.length ≤ 9223372036854775807 ∧ ∀ y ∈ ir, lL y)) (v0 : Value) (g0 : Arg w (.slice (ir.map eX)) v0) :
  Calls Try.prog 3 #[v0] w fun e an => e = .returned (.bool true) ∧ RowKit.Below w.heap.size w an :=
 b3.law (C := a7) (KF ir true (KI ir rl)) Try.func3 rfl rfl (.cons g0 (.nil))
set_option maxRecDepth 100000 in
theorem lifted (os : Os) (started : os.Started) (H : Type) (enc : TypeId × Value → H) :
  ReturnsInHanded {} Try.checked os 3 .any (Rows.fnExactPackItemsSpec.pre6 enc Try.prog Try.f3 Rows.fnExactPackItemsRow.domain false) (Rows.fnExactPackItemsSpec.post enc Try.prog Try.f3 false true false false) := by
 refine returnsInHanded_of_change (C := Try.checked) own started (by kernel_rfl) Try.func3
  (ChangeSpec.witness6 (enc := enc) (C := Try.checked) false ⟨#[], #[.slice none 0 0], []⟩ 8 (by kernel_rfl) (by kernel_rfl) (by kernel_rfl) (by kernel_rfl)) ?_
 intro W base args ds gs before z7 z8 Mp _
 have mE : ∀ (ay : Nat) t v, Try.f3.params[ay]? = some t → args[ay]? = some v → Value.okWide Try.prog W .any base t v := z7
 have KJ := z8
 obtain ⟨p, q, nz, jk, rfl, Mq, nN⟩ := z8
 have fb : DataW.TrodAll enc Try.prog W 0 (fun _ => true) true Try.f3.params.toList args.toList ds p := nz
 rw [Try.params3] at fb mE
 obtain ⟨v0, Mr, d0, Ms, eu, qS, hX, rfl, rfl, bk, bJ⟩ := trodAll_cons fb
 obtain ⟨rfl, rfl, rfl⟩ := trodAll_nil bJ
 obtain rfl : args = #[v0] := by cases args; simp_all
 obtain ⟨rfl, rfl⟩ := trodVars_none jk
 have vw : ∀ x ∈ eu, x.block < W.heap.size := by obtain ⟨m, hm⟩ := bk; exact DataW.trod_lt m _ _ _ hm
 obtain ⟨ir, g0, rl⟩ := EH Try.underlying22 KH (mE 0 22 v0 rfl rfl) bk
 clear nz z7
 refine (walk W ir rl v0 g0).mono fun e Mt ⟨he, z_⟩ => ?_
 subst he
 exact ⟨_, rfl, _, _, _, [], _, [], KJ, trodAll_mk1 (shut_bool Try.underlying4 _), (trodAll_cons_mk (Below.trod laidOut (by kernel_rfl) (of_decide_eq_true (by kernel_rfl)) bk z_ vw) trodAll_mk0), rfl, z_.frame _, fun h => by cases h⟩
def sm : List Char := List.map Char.ofNat [104, 97, 114, 110, 101, 115, 115, 32, 101, 102, 99, 49, 53, 48, 102, 50, 50, 102, 55, 53, 57, 99, 48, 48, 52, 50, 99, 49, 97, 48, 50, 99, 50, 51, 48, 99, 100, 54, 52, 102, 53, 53, 54, 100, 54, 56, 49, 100, 48, 51, 56, 53, 55, 48, 102, 56, 51, 54, 53, 49, 100, 57, 54, 49, 49, 97, 99, 98, 55, 48, 101, 56, 32, 99, 117, 116, 32, 97, 116, 32, 108, 111, 111, 112, 46, 101, 120, 97, 109, 112, 108, 101, 47, 103, 48, 49, 48, 55, 53, 47, 108, 97, 119, 115, 46, 70, 110, 69, 120, 97, 99, 116, 80, 97, 99, 107, 73, 116, 101, 109, 115, 32, 108, 111, 111, 112, 46, 101, 120, 97, 109, 112, 108, 101, 47, 103, 48, 49, 48, 55, 53, 47, 108, 97, 119, 115, 46, 70, 110, 69, 120, 97, 99, 116, 85, 110, 112, 97, 99, 107, 73, 116, 101, 109, 115, 32, 108, 111, 111, 112, 46, 101, 120, 97, 109, 112, 108, 101, 47, 103, 48, 49, 48, 55, 53, 47, 108, 97, 119, 115, 46, 70, 110, 69, 120, 97, 99, 116, 83, 97, 108, 118, 97, 103, 101, 73, 116, 101, 109, 115, 32, 108, 111, 111, 112, 46, 101, 120, 97, 109, 112, 108, 101, 47, 103, 48, 49, 48, 55, 53, 47, 108, 97, 119, 115, 46, 70, 110, 69, 120, 97, 99, 116, 80, 117, 116, 73, 116, 101, 109, 32, 108, 111, 111, 112, 46, 101, 120, 97, 109, 112, 108, 101, 47, 103, 48, 49, 48, 55, 53, 47, 108, 97, 119, 115, 46, 70, 110, 69, 120, 97, 99, 116, 85, 110, 114, 111, 108, 108, 83, 117, 109, 115, 32, 108, 111, 111, 112, 46, 101, 120, 97, 109, 112, 108, 101, 47, 103, 48, 49, 48, 55, 53, 47, 108, 97, 119, 115, 46, 70, 110, 69, 120, 97, 99, 116, 73, 110, 116, 101, 114, 108, 101, 97, 118, 101, 76, 105, 110, 101, 97, 114, 32, 108, 111, 111, 112, 46, 101, 120, 97, 109, 112, 108, 101, 47, 103, 48, 49, 48, 55, 53, 47, 108, 97, 119, 115, 46, 70, 110, 69, 120, 97, 99, 116, 67, 111, 110, 115, 116, 97, 110, 116, 80, 97, 114, 97, 109, 101, 116, 101, 114, 115]
def qC : List Char := List.map Char.ofNat [99, 117, 116]
theorem KK : Try.prog.initOrder = String.ofList sm := by kernel_rfl
theorem vx : Try.prog.initOrder.toList = sm := by rw [KK]; exact String.toList_ofList
theorem Aa : behindMainWord (wordsSigns sm) = qC :: (behindMainWord (wordsSigns sm)).tail := by kernel_rfl
theorem KL {P : Program} {L : List Char} {r : List (List Char)} (h : P.initOrder.toList = L) (hw : behindMainWord (wordsSigns L) = qC :: r) : P.make = some .cut := by
 unfold Program.make; rw [h, hw]; rfl
theorem KM {P : Program} {L : List Char} {r : List (List Char)} (h : P.initOrder.toList = L) (hw : behindMainWord (wordsSigns L) = qC :: r) (U : P.laysLater = false) (aa : P.bearsReflect = false) (aw : P.doorFits [] = true) : P.mayEnter = true := by
 unfold Program.mayEnter; rw [h, hw]
 have e : stripLifts liftWords (qC :: r) = ([], qC :: r) := rfl
 simp only [e, U, aa, aw]
 rfl
theorem KN : Try.prog.liftsFinal = false := by unfold Program.liftsFinal Program.headLifts; rw [vx]; kernel_rfl
theorem KO : Try.prog.mayEnter = true := KM vx Aa (by kernel_rfl) (by kernel_rfl) (by kernel_rfl)
theorem KP : Try.prog.make = some .cut := KL vx Aa
theorem KQ : joinedFacts Try.prog 3 Try.f3 Rows.fnExactPackItemsSpec Rows.fnExactPackItemsRow = true := by
 unfold joinedFacts
 rw [KN, KO, KP]
 kernel_rfl
theorem over : Rows.fnExactPackItemsRow.holds Try.pinned (OpenSpec.ofChange Rows.fnExactPackItemsSpec) :=
 OpenClaim.holds_of_wide 3 Try.f3 rfl rfl rfl rfl rfl rfl rfl ⟨rfl, rfl, rfl, rfl, rfl⟩ rfl rfl rfl rfl rfl (by kernel_rfl) Try.func3 KQ
  (of_decide_eq_true (by kernel_rfl)) (by unfold Func.isWrapper; first | (rw [if_pos (by decide +kernel)]; kernel_rfl) | (rw [if_neg (by decide +kernel)]; exact ⟨rfl, rfl⟩))
  (fun os started H enc _ => lifted os started H enc)
theorem proved : Rows.FnExactPackItemsSaid := over
end Go.Proofs.Ytjedocbdhlppdaa.fnExactPackItems
