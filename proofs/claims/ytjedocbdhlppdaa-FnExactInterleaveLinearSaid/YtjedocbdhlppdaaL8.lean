/- Part of a proof that a law returns true for every input. No condition. -/
import Derived.Test.YtjedocbdhlppdaaRows
import Derived.Test.YtjedocbdhlppdaaW8
import Derived.Test.YtjedocbdhlppdaaFwI
import Derived.Test.YtjedocbdhlppdaaUI3
import Derived.WalkKit
import Derived.ProofKit
import Derived.OpenShut
import Derived.ChangeOld
import Derived.Below
import Derived.Carry
namespace Go.Proofs.Ytjedocbdhlppdaa.fnExactInterleaveLinear
open Go.ChangeShapes Go.WideShapes Go.ChangeAt Go.RowKit
open Go.dp Go.gV
set_option linter.unusedVariables false
theorem own : ownKnob Try.prog.godebug = none := by kernel_rfl
theorem laidOut : laidOutB Try.prog = true := by kernel_rfl
theorem zE {H : Type} {enc : TypeId × Value → H} {w : World} {base : Nat} {sp : Nat → Bool} {held : Bool} : kT enc Try.prog w base sp held 2 (fun x : Int => .int .i64 x) (fun x : Int => (-9223372036854775808 ≤ x ∧ x ≤ 9223372036854775807)) := OY Try.underlying2
theorem JP {H : Type} {enc : TypeId × Value → H} {w : World} {base : Nat} {sp : Nat → Bool} {held : Bool} : kT enc Try.prog w base sp held 40 (fun x : List Int => .slice (x.map aD)) (fun x : List Int => (x.length ≤ 9223372036854775807 ∧ ∀ y ∈ x, (-9223372036854775808 ≤ y ∧ y ≤ 9223372036854775807))) := xF (sz := 1) (ec := aD) Try.underlying40 (by kernel_rfl) (by decide) (fun _ => rfl) zE
theorem ahR {H : Type} {enc : TypeId × Value → H} {w : World} {base : Nat} {sp : Nat → Bool} {held : Bool} : kT enc Try.prog w base sp held 187 e3 (fun x : fY => pW x) := by
 intro fuel cs x aw
 obtain ⟨xs, n, _, _, hl, bh, bY⟩ := DataW.trod_struct Try.underlying187 aw
 have iJ : cs.length = 2 := hl.trans (by kernel_rfl)
 obtain ⟨hP, w0, aJ⟩ := ob zE (bY 0 _ rfl) (by rw [List.getElem?_eq_getElem (by rw [bh]; decide)]; rfl)
 change ax w (F0 w) (.int .i64 hP) ((cs.drop 0).take (Try.prog.cellsOf 2)) _ at aJ
 rw [show Try.prog.cellsOf 2 = 1 by kernel_rfl] at aJ
 obtain ⟨fO, kV, eE⟩ := ob zE (bY 1 _ rfl) (by rw [List.getElem?_eq_getElem (by rw [bh]; decide)]; rfl)
 change ax w (F0 w) (.int .i64 fO) ((cs.drop 1).take (Try.prog.cellsOf 2)) _ at eE
 rw [show Try.prog.cellsOf 2 = 1 by kernel_rfl] at eE
 have key := BR [(.int .i64 hP, 0, 1), (.int .i64 fO, 1, 1)] 0 (by rw [iJ]; rfl) ⟨aJ, eE, trivial⟩
 refine ⟨⟨hP, fO⟩, ⟨w0, kV⟩, ?_⟩
 show ax w (F0 w) (.agg [.int .i64 hP, .int .i64 fO]) cs _
 rw [ax]
 exact key
theorem JQ {H : Type} {enc : TypeId × Value → H} {w : World} {base : Nat} {sp : Nat → Bool} {held : Bool} : kT enc Try.prog w base sp held 125 (fun x : List fY => .slice (x.map e3)) (fun x : List fY => (x.length ≤ 9223372036854775807 ∧ ∀ y ∈ x, pW y)) := xF (sz := 2) (ec := e3) Try.underlying125 (by kernel_rfl) (by decide) (fun _ => rfl) ahR
theorem ahS {H : Type} {enc : TypeId × Value → H} {w : World} {base : Nat} {sp : Nat → Bool} {held : Bool} : kT enc Try.prog w base sp held 9 (fun x : List UInt8 => .str x) (fun x : List UInt8 => x.length ≤ 9223372036854775807) := OZ Try.underlying9
theorem JR {H : Type} {enc : TypeId × Value → H} {w : World} {base : Nat} {sp : Nat → Bool} {held : Bool} : kT enc Try.prog w base sp held 126 (fun x : List (List fY) => .slice (x.map fs)) (fun x : List (List fY) => (x.length ≤ 9223372036854775807 ∧ ∀ y ∈ x, (y.length ≤ 9223372036854775807 ∧ ∀ z ∈ y, pW z))) := xF (sz := 1) (ec := fs) Try.underlying126 (by kernel_rfl) (by decide) (fun _ => rfl) JQ
theorem ahT {H : Type} {enc : TypeId × Value → H} {w : World} {base : Nat} {sp : Nat → Bool} {held : Bool} : kT enc Try.prog w base sp held 128 ft (fun x : hQ => u4 x) := by
 intro fuel cs x aw
 obtain ⟨xs, n, _, _, hl, bh, bY⟩ := DataW.trod_struct Try.underlying128 aw
 have iJ : cs.length = 5 := hl.trans (by kernel_rfl)
 obtain ⟨hP, w0, aJ⟩ := ob JP (bY 0 _ rfl) (by rw [List.getElem?_eq_getElem (by rw [bh]; decide)]; rfl)
 change ax w (F0 w) (.slice (hP.map aD)) ((cs.drop 0).take (Try.prog.cellsOf 40)) _ at aJ
 rw [show Try.prog.cellsOf 40 = 1 by kernel_rfl] at aJ
 obtain ⟨fO, kV, eE⟩ := ob JQ (bY 1 _ rfl) (by rw [List.getElem?_eq_getElem (by rw [bh]; decide)]; rfl)
 change ax w (F0 w) (.slice (fO.map e3)) ((cs.drop 1).take (Try.prog.cellsOf 125)) _ at eE
 rw [show Try.prog.cellsOf 125 = 1 by kernel_rfl] at eE
 obtain ⟨iZ, lU, fN⟩ := ob ahS (bY 2 _ rfl) (by rw [List.getElem?_eq_getElem (by rw [bh]; decide)]; rfl)
 change ax w (F0 w) (.str iZ) ((cs.drop 2).take (Try.prog.cellsOf 9)) _ at fN
 rw [show Try.prog.cellsOf 9 = 1 by kernel_rfl] at fN
 obtain ⟨zF, pT, kL⟩ := ob JR (bY 3 _ rfl) (by rw [List.getElem?_eq_getElem (by rw [bh]; decide)]; rfl)
 change ax w (F0 w) (.slice (zF.map fs)) ((cs.drop 3).take (Try.prog.cellsOf 126)) _ at kL
 rw [show Try.prog.cellsOf 126 = 1 by kernel_rfl] at kL
 obtain ⟨tC, Dc, k_⟩ := ob JR (bY 4 _ rfl) (by rw [List.getElem?_eq_getElem (by rw [bh]; decide)]; rfl)
 change ax w (F0 w) (.slice (tC.map fs)) ((cs.drop 4).take (Try.prog.cellsOf 126)) _ at k_
 rw [show Try.prog.cellsOf 126 = 1 by kernel_rfl] at k_
 have key := BR [(.slice (hP.map aD), 0, 1), (.slice (fO.map e3), 1, 1), (.str iZ, 2, 1), (.slice (zF.map fs), 3, 1), (.slice (tC.map fs), 4, 1)] 0 (by rw [iJ]; rfl) ⟨aJ, eE, fN, kL, k_, trivial⟩
 refine ⟨⟨hP, fO, iZ, zF, tC⟩, ⟨w0, kV, lU, pT, Dc⟩, ?_⟩
 show ax w (F0 w) (.agg [.slice (hP.map aD), .slice (fO.map e3), .str iZ, .slice (zF.map fs), .slice (tC.map fs)]) cs _
 rw [ax]
 exact key
theorem ahU {H : Type} {enc : TypeId × Value → H} {w : World} {base : Nat} {sp : Nat → Bool} {held : Bool} : kT enc Try.prog w base sp held 41 (fun x : List hQ => .slice (x.map ft)) (fun x : List hQ => (x.length ≤ 9223372036854775807 ∧ ∀ y ∈ x, u4 y)) := xF (sz := 5) (ec := ft) Try.underlying41 (by kernel_rfl) (by decide) (fun _ => rfl) ahT
theorem JS {H : Type} {enc : TypeId × Value → H} {w : World} {base : Nat} {sp : Nat → Bool} {held : Bool} : kT enc Try.prog w base sp held 43 gr (fun x : jf => td x) := by
 intro fuel cs x aw
 obtain ⟨xs, n, _, _, hl, bh, bY⟩ := DataW.trod_struct Try.underlying43 aw
 have iJ : cs.length = 3 := hl.trans (by kernel_rfl)
 obtain ⟨hP, w0, aJ⟩ := ob zE (bY 0 _ rfl) (by rw [List.getElem?_eq_getElem (by rw [bh]; decide)]; rfl)
 change ax w (F0 w) (.int .i64 hP) ((cs.drop 0).take (Try.prog.cellsOf 2)) _ at aJ
 rw [show Try.prog.cellsOf 2 = 1 by kernel_rfl] at aJ
 obtain ⟨fO, kV, eE⟩ := ob JP (bY 1 _ rfl) (by rw [List.getElem?_eq_getElem (by rw [bh]; decide)]; rfl)
 change ax w (F0 w) (.slice (fO.map aD)) ((cs.drop 1).take (Try.prog.cellsOf 40)) _ at eE
 rw [show Try.prog.cellsOf 40 = 1 by kernel_rfl] at eE
 obtain ⟨iZ, lU, fN⟩ := ob ahU (bY 2 _ rfl) (by rw [List.getElem?_eq_getElem (by rw [bh]; decide)]; rfl)
 change ax w (F0 w) (.slice (iZ.map ft)) ((cs.drop 2).take (Try.prog.cellsOf 41)) _ at fN
 rw [show Try.prog.cellsOf 41 = 1 by kernel_rfl] at fN
 have key := BR [(.int .i64 hP, 0, 1), (.slice (fO.map aD), 1, 1), (.slice (iZ.map ft), 2, 1)] 0 (by rw [iJ]; rfl) ⟨aJ, eE, fN, trivial⟩
 refine ⟨⟨hP, fO, iZ⟩, ⟨w0, kV, lU⟩, ?_⟩
 show ax w (F0 w) (.agg [.int .i64 hP, .slice (fO.map aD), .slice (iZ.map ft)]) cs _
 rw [ax]
 exact key
theorem walk (w : World) (hP : jf) (q0 : td hP) (v0 : Value) (fO : jf) (oI : td fO) (v1 : Value) (g6 : Arg w (.agg [.int .i64 hP.aV, .slice (hP.Start.map aD), .slice (hP.bG.map ft)]) v0) (a8 : Arg w (.agg [.int .i64 fO.aV, .slice (fO.Start.map aD), .slice (fO.bG.map ft)]) v1) :
  Calls Try.prog 8 #[v0, v1] w fun e aS => e = .returned (.bool true) ∧ RowKit.Below w.heap.size w aS :=
 a0.law (C := aq) (ahB hP fO true (ahV hP fO q0 oI)) Try.func8 rfl rfl (.cons g6 (.cons a8 (.nil)))
set_option maxRecDepth 100000 in
theorem lifted (os : Os) (started : os.Started) (H : Type) (enc : TypeId × Value → H) :
  ReturnsInHanded {} Try.checked os 8 .any (Rows.fnExactInterleaveLinearSpec.pre6 enc Try.prog Try.f8 Rows.fnExactInterleaveLinearRow.domain false) (Rows.fnExactInterleaveLinearSpec.post enc Try.prog Try.f8 false true false false) := by
 refine returnsInHanded_of_change (C := Try.checked) own started (by kernel_rfl) Try.func8
  (ChangeSpec.witness6 (enc := enc) (C := Try.checked) false ⟨#[], #[.agg #[.int .i64 0, .slice none 0 0, .slice none 0 0], .agg #[.int .i64 0, .slice none 0 0, .slice none 0 0]], []⟩ 8 (by kernel_rfl) (by kernel_rfl) (by kernel_rfl) (by kernel_rfl)) ?_
 intro W base args ds gs before JT JU akV _
 have pE : ∀ (aK : Nat) t v, Try.f8.params[aK]? = some t → args[aK]? = some v → Value.okWide Try.prog W .any base t v := JT
 have ahW := JU
 obtain ⟨p, q, sm, m8, rfl, akW, sD⟩ := JU
 have ix : DataW.TrodAll enc Try.prog W 0 (fun _ => true) true Try.f8.params.toList args.toList ds p := sm
 rw [Try.params8] at ix pE
 obtain ⟨v0, akX, d0, akY, g5, wY, lO, rfl, rfl, bM, aJ⟩ := trodAll_cons ix
 obtain ⟨v1, akZ, d1, ak0, e5, gm, rfl, rfl, rfl, ag, eE⟩ := trodAll_cons aJ
 obtain ⟨rfl, rfl, rfl⟩ := trodAll_nil eE
 obtain rfl : args = #[v0, v1] := by cases args; simp_all
 obtain ⟨rfl, rfl⟩ := trodVars_none m8
 have Dd : ∀ x ∈ g5, x.block < W.heap.size := by obtain ⟨m, hm⟩ := bM; exact DataW.trod_lt m _ _ _ hm
 obtain ⟨hP, g6, q0⟩ := GW (es := fun y : jf => [.int .i64 y.aV, .slice (y.Start.map aD), .slice (y.bG.map ft)]) Try.underlying43 JS (pE 0 43 v0 rfl rfl) bM
 have ahX : ∀ x ∈ e5, x.block < W.heap.size := by obtain ⟨m, hm⟩ := ag; exact DataW.trod_lt m _ _ _ hm
 obtain ⟨fO, a8, oI⟩ := GW (es := fun y : jf => [.int .i64 y.aV, .slice (y.Start.map aD), .slice (y.bG.map ft)]) Try.underlying43 JS (pE 1 43 v1 rfl rfl) ag
 clear sm JT
 refine (walk W hP q0 v0 fO oI v1 g6 a8).mono fun e ak1 ⟨he, De⟩ => ?_
 subst he
 exact ⟨_, rfl, _, _, _, [], _, [], ahW, trodAll_mk1 (shut_bool Try.underlying4 _), (trodAll_cons_mk (Below.trod laidOut (by kernel_rfl) (of_decide_eq_true (by kernel_rfl)) bM De Dd) (trodAll_cons_mk (Below.trod laidOut (by kernel_rfl) (of_decide_eq_true (by kernel_rfl)) ag De ahX) trodAll_mk0)), rfl, De.frame _, fun h => by cases h⟩
def zG : List Char := List.map Char.ofNat [104, 97, 114, 110, 101, 115, 115, 32, 101, 102, 99, 49, 53, 48, 102, 50, 50, 102, 55, 53, 57, 99, 48, 48, 52, 50, 99, 49, 97, 48, 50, 99, 50, 51, 48, 99, 100, 54, 52, 102, 53, 53, 54, 100, 54, 56, 49, 100, 48, 51, 56, 53, 55, 48, 102, 56, 51, 54, 53, 49, 100, 57, 54, 49, 49, 97, 99, 98, 55, 48, 101, 56, 32, 99, 117, 116, 32, 97, 116, 32, 108, 111, 111, 112, 46, 101, 120, 97, 109, 112, 108, 101, 47, 103, 48, 49, 48, 55, 53, 47, 108, 97, 119, 115, 46, 70, 110, 69, 120, 97, 99, 116, 80, 97, 99, 107, 73, 116, 101, 109, 115, 32, 108, 111, 111, 112, 46, 101, 120, 97, 109, 112, 108, 101, 47, 103, 48, 49, 48, 55, 53, 47, 108, 97, 119, 115, 46, 70, 110, 69, 120, 97, 99, 116, 85, 110, 112, 97, 99, 107, 73, 116, 101, 109, 115, 32, 108, 111, 111, 112, 46, 101, 120, 97, 109, 112, 108, 101, 47, 103, 48, 49, 48, 55, 53, 47, 108, 97, 119, 115, 46, 70, 110, 69, 120, 97, 99, 116, 83, 97, 108, 118, 97, 103, 101, 73, 116, 101, 109, 115, 32, 108, 111, 111, 112, 46, 101, 120, 97, 109, 112, 108, 101, 47, 103, 48, 49, 48, 55, 53, 47, 108, 97, 119, 115, 46, 70, 110, 69, 120, 97, 99, 116, 80, 117, 116, 73, 116, 101, 109, 32, 108, 111, 111, 112, 46, 101, 120, 97, 109, 112, 108, 101, 47, 103, 48, 49, 48, 55, 53, 47, 108, 97, 119, 115, 46, 70, 110, 69, 120, 97, 99, 116, 85, 110, 114, 111, 108, 108, 83, 117, 109, 115, 32, 108, 111, 111, 112, 46, 101, 120, 97, 109, 112, 108, 101, 47, 103, 48, 49, 48, 55, 53, 47, 108, 97, 119, 115, 46, 70, 110, 69, 120, 97, 99, 116, 73, 110, 116, 101, 114, 108, 101, 97, 118, 101, 76, 105, 110, 101, 97, 114, 32, 108, 111, 111, 112, 46, 101, 120, 97, 109, 112, 108, 101, 47, 103, 48, 49, 48, 55, 53, 47, 108, 97, 119, 115, 46, 70, 110, 69, 120, 97, 99, 116, 67, 111, 110, 115, 116, 97, 110, 116, 80, 97, 114, 97, 109, 101, 116, 101, 114, 115]
def wE : List Char := List.map Char.ofNat [99, 117, 116]
theorem ahY : Try.prog.initOrder = String.ofList zG := by kernel_rfl
theorem Df : Try.prog.initOrder.toList = zG := by rw [ahY]; exact String.toList_ofList
theorem JV : behindMainWord (wordsSigns zG) = wE :: (behindMainWord (wordsSigns zG)).tail := by kernel_rfl
theorem ahZ {P : Program} {L : List Char} {r : List (List Char)} (h : P.initOrder.toList = L) (hw : behindMainWord (wordsSigns L) = wE :: r) : P.make = some .cut := by
 unfold Program.make; rw [h, hw]; rfl
theorem ah0 {P : Program} {L : List Char} {r : List (List Char)} (h : P.initOrder.toList = L) (hw : behindMainWord (wordsSigns L) = wE :: r) (ag : P.laysLater = false) (ah : P.bearsReflect = false) (aM : P.doorFits [] = true) : P.mayEnter = true := by
 unfold Program.mayEnter; rw [h, hw]
 have e : stripLifts liftWords (wE :: r) = ([], wE :: r) := rfl
 simp only [e, ag, ah, aM]
 rfl
theorem ah1 : Try.prog.liftsFinal = false := by unfold Program.liftsFinal Program.headLifts; rw [Df]; kernel_rfl
theorem ah2 : Try.prog.mayEnter = true := ah0 Df JV (by kernel_rfl) (by kernel_rfl) (by kernel_rfl)
theorem ah3 : Try.prog.make = some .cut := ahZ Df JV
theorem ah4 : joinedFacts Try.prog 8 Try.f8 Rows.fnExactInterleaveLinearSpec Rows.fnExactInterleaveLinearRow = true := by
 unfold joinedFacts
 rw [ah1, ah2, ah3]
 kernel_rfl
theorem over : Rows.fnExactInterleaveLinearRow.holds Try.pinned (OpenSpec.ofChange Rows.fnExactInterleaveLinearSpec) :=
 OpenClaim.holds_of_wide 8 Try.f8 rfl rfl rfl rfl rfl rfl rfl ⟨rfl, rfl, rfl, rfl, rfl⟩ rfl rfl rfl rfl rfl (by kernel_rfl) Try.func8 ah4
  (of_decide_eq_true (by kernel_rfl)) (by unfold Func.isWrapper; first | (rw [if_pos (by decide +kernel)]; kernel_rfl) | (rw [if_neg (by decide +kernel)]; exact ⟨rfl, rfl⟩))
  (fun os started H enc _ => lifted os started H enc)
theorem proved : Rows.FnExactInterleaveLinearSaid := over
end Go.Proofs.Ytjedocbdhlppdaa.fnExactInterleaveLinear
