/- Part of a proof that a law returns true for every input. No condition. -/
import Derived.Test.YtgpmnlkgmadglaaGreatDoorRows
import Derived.Test.YtgpmnlkgmadglaaGreatDoorTie
import Derived.Test.YtgpmnlkgmadglaaGreatDoorCards
import Derived.SevenTiedAt
import Derived.MakeChecks
import Derived.LaidMore
import Derived.Stop.Joined
import Derived.Test.YtgpmnlkgmadglaaGreatDoorW9
import Derived.Test.YtgpmnlkgmadglaaGreatDoorFwI
import Derived.Test.YtgpmnlkgmadglaaGreatDoorUR7
import Derived.WalkKit
import Derived.ProofKit
import Derived.OpenShut
import Derived.ChangeOld
import Derived.Below
import Derived.Carry
namespace Go.Proofs.YtgpmnlkgmadglaaGreatDoor.fnExactStepsOfCard
open Go.ChangeShapes Go.WideShapes Go.ChangeAt Go.RowKit
open Go.cY Go.eR
set_option linter.unusedVariables false
theorem own : ownKnob Tryz.prog.godebug = none := by kernel_rfl
theorem laidOut : laidOutB Tryz.prog = true := by kernel_rfl
theorem av1 (os : Os) (args : Array Value) : laidMetH Tryz.prog Rows.fnExactStepsOfRow.laid ((World.doorLaid Tryz.prog 400 os).forCall (fun _ _ => 0) ⟨#[], args, []⟩).memory :=
 laidMetH_of_parts3 (fuel := 8) (laidMet_of_run' 8 (by kernel_rfl) (by kernel_rfl)) (by kernel_rfl) (by kernel_rfl)
theorem Ql {H : Type} {enc : TypeId × Value → H} {w : World} {base : Nat} {sp : Nat → Bool} {held : Bool} : k9 enc Tryz.prog w base sp held 9 (fun x : List UInt8 => .str x) (fun x : List UInt8 => x.length ≤ 9223372036854775807) := Vz Tryz.underlying9
theorem sZ {H : Type} {enc : TypeId × Value → H} {w : World} {base : Nat} {sp : Nat → Bool} {held : Bool} : k9 enc Tryz.prog w base sp held 2 (fun x : Int => .int .i64 x) (fun x : Int => (-9223372036854775808 ≤ x ∧ x ≤ 9223372036854775807)) := Vy Tryz.underlying2
theorem av2 {H : Type} {enc : TypeId × Value → H} {w : World} {base : Nat} {sp : Nat → Bool} {held : Bool} : k9 enc Tryz.prog w base sp held 326 fb (fun x : hp => wJ x) := by
 intro fuel cs x aq
 obtain ⟨xs, n, _, _, hl, bc, bz⟩ := DataW.trod_struct Tryz.underlying326 aq
 have iI : cs.length = 2 := hl.trans (by kernel_rfl)
 obtain ⟨h2, w0, aC⟩ := oB sZ (bz 0 _ rfl) (by rw [List.getElem?_eq_getElem (by rw [bc]; decide)]; rfl)
 change ay w (F0 w) (.int .i64 h2) ((cs.drop 0).take (Tryz.prog.cellsOf 2)) _ at aC
 rw [show Tryz.prog.cellsOf 2 = 1 by kernel_rfl] at aC
 obtain ⟨fM, gO, dR⟩ := oB sZ (bz 1 _ rfl) (by rw [List.getElem?_eq_getElem (by rw [bc]; decide)]; rfl)
 change ay w (F0 w) (.int .i64 fM) ((cs.drop 1).take (Tryz.prog.cellsOf 2)) _ at dR
 rw [show Tryz.prog.cellsOf 2 = 1 by kernel_rfl] at dR
 have key := BM [(.int .i64 h2, 0, 1), (.int .i64 fM, 1, 1)] 0 (by rw [iI]; rfl) ⟨aC, dR, trivial⟩
 refine ⟨⟨h2, fM⟩, ⟨w0, gO⟩, ?_⟩
 show ay w (F0 w) (.agg [.int .i64 h2, .int .i64 fM]) cs _
 rw [ay]
 exact key
theorem av3 {H : Type} {enc : TypeId × Value → H} {w : World} {base : Nat} {sp : Nat → Bool} {held : Bool} : k9 enc Tryz.prog w base sp held 179 (fun x : List hp => .slice (x.map fb)) (fun x : List hp => (x.length ≤ 9223372036854775807 ∧ ∀ y ∈ x, wJ y)) := yS (sz := 2) (ec := fb) Tryz.underlying179 (by kernel_rfl) (by decide) (fun _ => rfl) av2
theorem av4 {H : Type} {enc : TypeId × Value → H} {w : World} {base : Nat} {sp : Nat → Bool} {held : Bool} : k9 enc Tryz.prog w base sp held 180 (fun x : List (List hp) => .slice (x.map fk)) (fun x : List (List hp) => (x.length ≤ 9223372036854775807 ∧ ∀ y ∈ x, (y.length ≤ 9223372036854775807 ∧ ∀ z ∈ y, wJ z))) := yS (sz := 1) (ec := fk) Tryz.underlying180 (by kernel_rfl) (by decide) (fun _ => rfl) av3
theorem av5 {H : Type} {enc : TypeId × Value → H} {w : World} {base : Nat} {sp : Nat → Bool} {held : Bool} : k9 enc Tryz.prog w base sp held 298 fH (fun x : iN => y5 x) := by
 intro fuel cs x aq
 obtain ⟨xs, n, _, _, hl, bc, bz⟩ := DataW.trod_struct Tryz.underlying298 aq
 have iI : cs.length = 4 := hl.trans (by kernel_rfl)
 obtain ⟨h2, w0, aC⟩ := oB sZ (bz 0 _ rfl) (by rw [List.getElem?_eq_getElem (by rw [bc]; decide)]; rfl)
 change ay w (F0 w) (.int .i64 h2) ((cs.drop 0).take (Tryz.prog.cellsOf 2)) _ at aC
 rw [show Tryz.prog.cellsOf 2 = 1 by kernel_rfl] at aC
 obtain ⟨fM, gO, dR⟩ := oB sZ (bz 1 _ rfl) (by rw [List.getElem?_eq_getElem (by rw [bc]; decide)]; rfl)
 change ay w (F0 w) (.int .i64 fM) ((cs.drop 1).take (Tryz.prog.cellsOf 2)) _ at dR
 rw [show Tryz.prog.cellsOf 2 = 1 by kernel_rfl] at dR
 obtain ⟨iT, jJ, br⟩ := oB Ql (bz 2 _ rfl) (by rw [List.getElem?_eq_getElem (by rw [bc]; decide)]; rfl)
 change ay w (F0 w) (.str iT) ((cs.drop 2).take (Tryz.prog.cellsOf 9)) _ at br
 rw [show Tryz.prog.cellsOf 9 = 1 by kernel_rfl] at br
 obtain ⟨sw, qw, dQ⟩ := oB av4 (bz 3 _ rfl) (by rw [List.getElem?_eq_getElem (by rw [bc]; decide)]; rfl)
 change ay w (F0 w) (.slice (sw.map fk)) ((cs.drop 3).take (Tryz.prog.cellsOf 180)) _ at dQ
 rw [show Tryz.prog.cellsOf 180 = 1 by kernel_rfl] at dQ
 have key := BM [(.int .i64 h2, 0, 1), (.int .i64 fM, 1, 1), (.str iT, 2, 1), (.slice (sw.map fk), 3, 1)] 0 (by rw [iI]; rfl) ⟨aC, dR, br, dQ, trivial⟩
 refine ⟨⟨h2, fM, iT, sw⟩, ⟨w0, gO, jJ, qw⟩, ?_⟩
 show ay w (F0 w) (.agg [.int .i64 h2, .int .i64 fM, .str iT, .slice (sw.map fk)]) cs _
 rw [ay]
 exact key
theorem av6 {H : Type} {enc : TypeId × Value → H} {w : World} {base : Nat} {sp : Nat → Bool} {held : Bool} : k9 enc Tryz.prog w base sp held 148 (fun x : List iN => .slice (x.map fH)) (fun x : List iN => (x.length ≤ 9223372036854775807 ∧ ∀ y ∈ x, y5 y)) := yS (sz := 4) (ec := fH) Tryz.underlying148 (by kernel_rfl) (by decide) (fun _ => rfl) av5
theorem av7 {H : Type} {enc : TypeId × Value → H} {w : World} {base : Nat} {sp : Nat → Bool} {held : Bool} : k9 enc Tryz.prog w base sp held 150 gd (fun x : ic => t_ x) := by
 intro fuel cs x aq
 obtain ⟨xs, n, _, _, hl, bc, bz⟩ := DataW.trod_struct Tryz.underlying150 aq
 have iI : cs.length = 3 := hl.trans (by kernel_rfl)
 obtain ⟨h2, w0, aC⟩ := oB Ql (bz 0 _ rfl) (by rw [List.getElem?_eq_getElem (by rw [bc]; decide)]; rfl)
 change ay w (F0 w) (.str h2) ((cs.drop 0).take (Tryz.prog.cellsOf 9)) _ at aC
 rw [show Tryz.prog.cellsOf 9 = 1 by kernel_rfl] at aC
 obtain ⟨fM, gO, dR⟩ := oB sZ (bz 1 _ rfl) (by rw [List.getElem?_eq_getElem (by rw [bc]; decide)]; rfl)
 change ay w (F0 w) (.int .i64 fM) ((cs.drop 1).take (Tryz.prog.cellsOf 2)) _ at dR
 rw [show Tryz.prog.cellsOf 2 = 1 by kernel_rfl] at dR
 obtain ⟨iT, jJ, br⟩ := oB av6 (bz 2 _ rfl) (by rw [List.getElem?_eq_getElem (by rw [bc]; decide)]; rfl)
 change ay w (F0 w) (.slice (iT.map fH)) ((cs.drop 2).take (Tryz.prog.cellsOf 148)) _ at br
 rw [show Tryz.prog.cellsOf 148 = 1 by kernel_rfl] at br
 have key := BM [(.str h2, 0, 1), (.int .i64 fM, 1, 1), (.slice (iT.map fH), 2, 1)] 0 (by rw [iI]; rfl) ⟨aC, dR, br, trivial⟩
 refine ⟨⟨h2, fM, iT⟩, ⟨w0, gO, jJ⟩, ?_⟩
 show ay w (F0 w) (.agg [.str h2, .int .i64 fM, .slice (iT.map fH)]) cs _
 rw [ay]
 exact key
theorem av8 {H : Type} {enc : TypeId × Value → H} {w : World} {base : Nat} {sp : Nat → Bool} {held : Bool} : k9 enc Tryz.prog w base sp held 64 (fun x : List ic => .slice (x.map gd)) (fun x : List ic => (x.length ≤ 9223372036854775807 ∧ ∀ y ∈ x, t_ y)) := yS (sz := 3) (ec := gd) Tryz.underlying64 (by kernel_rfl) (by decide) (fun _ => rfl) av7
theorem av9 {H : Type} {enc : TypeId × Value → H} {w : World} {base : Nat} {sp : Nat → Bool} {held : Bool} : k9 enc Tryz.prog w base sp held 22 (fun x : List Int => .slice (x.map aE)) (fun x : List Int => (x.length ≤ 9223372036854775807 ∧ ∀ y ∈ x, (-9223372036854775808 ≤ y ∧ y ≤ 9223372036854775807))) := yS (sz := 1) (ec := aE) Tryz.underlying22 (by kernel_rfl) (by decide) (fun _ => rfl) sZ
theorem av_ {H : Type} {enc : TypeId × Value → H} {w : World} {base : Nat} {sp : Nat → Bool} {held : Bool} : k9 enc Tryz.prog w base sp held 66 i_ (fun x : lE => B7 x) := by
 intro fuel cs x aq
 obtain ⟨xs, n, _, _, hl, bc, bz⟩ := DataW.trod_struct Tryz.underlying66 aq
 have iI : cs.length = 3 := hl.trans (by kernel_rfl)
 obtain ⟨h2, w0, aC⟩ := oB sZ (bz 0 _ rfl) (by rw [List.getElem?_eq_getElem (by rw [bc]; decide)]; rfl)
 change ay w (F0 w) (.int .i64 h2) ((cs.drop 0).take (Tryz.prog.cellsOf 2)) _ at aC
 rw [show Tryz.prog.cellsOf 2 = 1 by kernel_rfl] at aC
 obtain ⟨fM, gO, dR⟩ := oB sZ (bz 1 _ rfl) (by rw [List.getElem?_eq_getElem (by rw [bc]; decide)]; rfl)
 change ay w (F0 w) (.int .i64 fM) ((cs.drop 1).take (Tryz.prog.cellsOf 2)) _ at dR
 rw [show Tryz.prog.cellsOf 2 = 1 by kernel_rfl] at dR
 obtain ⟨iT, jJ, br⟩ := oB av9 (bz 2 _ rfl) (by rw [List.getElem?_eq_getElem (by rw [bc]; decide)]; rfl)
 change ay w (F0 w) (.slice (iT.map aE)) ((cs.drop 2).take (Tryz.prog.cellsOf 22)) _ at br
 rw [show Tryz.prog.cellsOf 22 = 1 by kernel_rfl] at br
 have key := BM [(.int .i64 h2, 0, 1), (.int .i64 fM, 1, 1), (.slice (iT.map aE), 2, 1)] 0 (by rw [iI]; rfl) ⟨aC, dR, br, trivial⟩
 refine ⟨⟨h2, fM, iT⟩, ⟨w0, gO, jJ⟩, ?_⟩
 show ay w (F0 w) (.agg [.int .i64 h2, .int .i64 fM, .slice (iT.map aE)]) cs _
 rw [ay]
 exact key
theorem walk (w : World) (h2 : List ic) (vK : (h2.length ≤ 9223372036854775807 ∧ ∀ y ∈ h2, t_ y)) (v0 : Value) (fM : lE) (qd : B7 fM) (v1 : Value) (g0 : Arg w (.slice (h2.map gd)) v0) (g1 : Arg w (.agg [.int .i64 fM.dO, .int .i64 fM.Part, .slice (fM.cD.map aE)]) v1) :
  Calls Tryz.prog 9 #[v0, v1] w fun e aL => e = .returned (.bool true) ∧ RowKit.Below w.heap.size w aL :=
 bm.law (C := aA) (avF h2 fM true (awa h2 fM vK qd)) Tryz.func9 rfl rfl (.cons g0 (.cons g1 (.nil)))
set_option maxRecDepth 100000 in
theorem lifted (os : Os) (started : os.Started) (H : Type) (enc : TypeId × Value → H) :
  ReturnsInHanded {} Tryz.checked os 9 .any (fun w args => (Rows.fnExactStepsOfSpec.pre enc Tryz.prog Tryz.f9 Rows.fnExactStepsOfRow.domain false w args ∧ laidMetH Tryz.prog Rows.fnExactStepsOfRow.laid w) ∧ sizedMet enc Tryz.prog Tryz.f9 (OpenSpec.ofChange Rows.fnExactStepsOfSpec) false w args) (Rows.fnExactStepsOfSpec.post enc Tryz.prog Tryz.f9 false true false false) := by
 refine returnsInHanded_of_change_and (C := Tryz.checked) (X := fun w _ => laidMetH Tryz.prog Rows.fnExactStepsOfRow.laid w) (fun _ _ _ ko h => h.of_heap ko) own started (by kernel_rfl) Tryz.func9
  (ChangeSpec.witness_shaped (enc := enc) (C := Tryz.checked) (os := os) (X := fun w _ => laidMetH Tryz.prog Rows.fnExactStepsOfRow.laid w) false (World.doorLaid Tryz.prog 400 os) #[.slice none 0 0, .agg #[.int .i64 0, .int .i64 0, .slice none 0 0]] 8 rfl (World.shaped_of_RefB (by kernel_rfl) (by kernel_rfl)) (by kernel_rfl) (by kernel_rfl) (by kernel_rfl) (av1 os _)) ?_
 intro W base args ds gs before Qm Qn _ _ sg _
 have qq : ∀ (j : Nat) t v, Tryz.f9.params[j]? = some t → args[j]? = some v → Value.okWide Tryz.prog W .any base t v := Qm
 have awb := Qn
 obtain ⟨p, q, vD, pb, rfl, aAt, vQ⟩ := Qn
 have ju : DataW.TrodAll enc Tryz.prog W 0 (fun _ => true) true Tryz.f9.params.toList args.toList ds p := vD
 rw [Tryz.params9] at ju qq
 obtain ⟨v0, aAu, d0, aAv, hW, vp, nf, rfl, rfl, bn, aC⟩ := trodAll_cons ju
 obtain ⟨v1, aAw, d1, aAx, fD, gC, rfl, rfl, rfl, af, dR⟩ := trodAll_cons aC
 obtain ⟨rfl, rfl, rfl⟩ := trodAll_nil dR
 obtain rfl : args = #[v0, v1] := by cases args; simp_all
 obtain ⟨rfl, rfl⟩ := trodVars_none pb
 have xq : ∀ x ∈ hW, x.block < W.heap.size := by obtain ⟨m, hm⟩ := bn; exact DataW.trod_lt m _ _ _ hm
 obtain ⟨h2, g0, vK⟩ := VD Tryz.underlying64 av8 (qq 0 64 v0 rfl rfl) bn
 have awc : ∀ x ∈ fD, x.block < W.heap.size := by obtain ⟨m, hm⟩ := af; exact DataW.trod_lt m _ _ _ hm
 obtain ⟨fM, g1, qd⟩ := VE (es := fun y : lE => [.int .i64 y.dO, .int .i64 y.Part, .slice (y.cD.map aE)]) Tryz.underlying66 av_ (qq 1 66 v1 rfl rfl) af
 clear vD Qm
 refine (walk W h2 vK v0 fM qd v1 g0 g1).mono fun e aAy ⟨he, I2⟩ => ?_
 subst he
 exact ⟨_, rfl, _, _, _, [], _, [], awb, trodAll_mk1 (shut_bool Tryz.underlying4 _), (trodAll_cons_mk (Below.trod laidOut (by kernel_rfl) (of_decide_eq_true (by kernel_rfl)) bn I2 xq) (trodAll_cons_mk (Below.trod laidOut (by kernel_rfl) (of_decide_eq_true (by kernel_rfl)) af I2 awc) trodAll_mk0)), rfl, I2.frame _, fun h => by cases h⟩
def Em : List Char := List.map Char.ofNat [104, 97, 114, 110, 101, 115, 115, 32, 52, 50, 98, 53, 99, 48, 51, 49, 57, 50, 102, 100, 50, 50, 101, 50, 99, 97, 50, 57, 101, 98, 57, 100, 54, 54, 101, 49, 49, 49, 51, 57, 50, 51, 98, 55, 101, 48, 99, 99, 50, 98, 102, 52, 55, 97, 98, 53, 56, 55, 102, 55, 53, 97, 102, 97, 97, 54, 99, 51, 101, 98, 102, 100, 32, 99, 117, 116, 32, 97, 116, 32, 108, 111, 111, 112, 46, 101, 120, 97, 109, 112, 108, 101, 47, 103, 48, 49, 48, 55, 53, 47, 108, 97, 119, 115, 46, 70, 110, 69, 120, 97, 99, 116, 76, 105, 110, 101, 97, 114, 77, 111, 118, 101, 115, 32, 108, 111, 111, 112, 46, 101, 120, 97, 109, 112, 108, 101, 47, 103, 48, 49, 48, 55, 53, 47, 108, 97, 119, 115, 46, 70, 110, 69, 120, 97, 99, 116, 76, 111, 103, 84, 101, 120, 116, 32, 108, 111, 111, 112, 46, 101, 120, 97, 109, 112, 108, 101, 47, 103, 48, 49, 48, 55, 53, 47, 108, 97, 119, 115, 46, 70, 110, 69, 120, 97, 99, 116, 82, 111, 117, 110, 100, 115, 84, 111, 68, 101, 108, 105, 118, 101, 114, 32, 108, 111, 111, 112, 46, 101, 120, 97, 109, 112, 108, 101, 47, 103, 48, 49, 48, 55, 53, 47, 108, 97, 119, 115, 46, 70, 110, 69, 120, 97, 99, 116, 82, 101, 99, 111, 118, 101, 114, 76, 111, 103, 32, 108, 111, 111, 112, 46, 101, 120, 97, 109, 112, 108, 101, 47, 103, 48, 49, 48, 55, 53, 47, 108, 97, 119, 115, 46, 70, 110, 69, 120, 97, 99, 116, 82, 101, 97, 100, 76, 111, 103, 32, 108, 111, 111, 112, 46, 101, 120, 97, 109, 112, 108, 101, 47, 103, 48, 49, 48, 55, 53, 47, 108, 97, 119, 115, 46, 70, 110, 69, 120, 97, 99, 116, 68, 101, 108, 105, 118, 101, 114, 76, 97, 98, 101, 108, 115, 32, 108, 111, 111, 112, 46, 101, 120, 97, 109, 112, 108, 101, 47, 103, 48, 49, 48, 55, 53, 47, 108, 97, 119, 115, 46, 70, 110, 69, 120, 97, 99, 116, 83, 116, 101, 112, 115, 79, 102, 32, 108, 111, 111, 112, 46, 101, 120, 97, 109, 112, 108, 101, 47, 103, 48, 49, 48, 55, 53, 47, 108, 97, 119, 115, 46, 70, 110, 69, 120, 97, 99, 116, 83, 116, 97, 116, 101, 84, 101, 120, 116]
def Au : List Char := List.map Char.ofNat [99, 117, 116]
theorem awd : Tryz.prog.initOrder = String.ofList Em := by kernel_rfl
theorem En : Tryz.prog.initOrder.toList = Em := by rw [awd]; exact String.toList_ofList
theorem Qo : behindMainWord (wordsSigns Em) = Au :: (behindMainWord (wordsSigns Em)).tail := by kernel_rfl
theorem awe {P : Program} {L : List Char} {r : List (List Char)} (h : P.initOrder.toList = L) (hw : behindMainWord (wordsSigns L) = Au :: r) : P.make = some .cut := by
 unfold Program.make; rw [h, hw]; rfl
theorem awf {P : Program} {L : List Char} {r : List (List Char)} (h : P.initOrder.toList = L) (hw : behindMainWord (wordsSigns L) = Au :: r) (af : P.laysLater = false) (ag : P.bearsReflect = false) (aF : P.doorFits [] = true) : P.mayEnter = true := by
 unfold Program.mayEnter; rw [h, hw]
 have e : stripLifts liftWords (Au :: r) = ([], Au :: r) := rfl
 simp only [e, af, ag, aF]
 rfl
theorem awg : Tryz.prog.liftsFinal = false := by unfold Program.liftsFinal Program.headLifts; rw [En]; kernel_rfl
theorem awh : Tryz.prog.mayEnter = true := awf En Qo (by kernel_rfl) (by kernel_rfl) (by kernel_rfl)
theorem awi : Tryz.prog.make = some .cut := awe En Qo
theorem awj : joinedFacts Tryz.prog 9 Tryz.f9 Rows.fnExactStepsOfSpec Rows.fnExactStepsOfRow = true := by
 unfold joinedFacts
 rw [awg, awh, awi]
 kernel_rfl
theorem over : Rows.fnExactStepsOfRow.holds Tryz.pinned (OpenSpec.ofChange Rows.fnExactStepsOfSpec) :=
 OpenClaim.holds_of_wide 9 Tryz.f9 rfl rfl rfl rfl rfl rfl rfl ⟨rfl, rfl, rfl, rfl, rfl⟩ rfl rfl rfl rfl rfl (by kernel_rfl) Tryz.func9 awj
  (of_decide_eq_true (by kernel_rfl)) (by unfold Func.isWrapper; first | (rw [if_pos (by decide +kernel)]; kernel_rfl) | (rw [if_neg (by decide +kernel)]; exact ⟨rfl, rfl⟩))
  (fun os started H enc _ => lifted os started H enc)
theorem awk : Tryz.prog.mainIs = some (Rows.fnExactStepsOfCard.stood.harness.1, Rows.fnExactStepsOfCard.stood.harness.2.toList) := by
 unfold Program.mainIs
 rw [En]
 kernel_rfl
theorem proved : Rows.FnExactStepsOfCardSaid :=
 Claim7.holds_tied_plain_at .later [] Rows.fnExactStepsOfCard.laidKinds true Rows.fnExactStepsOfCard.stood.harness true
  over (fun _ h => by cases h) (by kernel_rfl) (fun _ h => by cases h) fnExactStepsOf_row_tie rfl ⟨rfl, rfl⟩ awk rfl
  (fun f fn bz awl => by
   obtain rfl : f = 9 := Option.some.inj ((show Tryz.prog.funcNamed Rows.fnExactStepsOfRow.func = some 9 by kernel_rfl).symm.trans bz) |>.symm
   obtain rfl : fn = Tryz.f9 := (Option.some.inj (Tryz.func9.symm.trans awl)).symm
   exact ⟨by kernel_rfl, fun j t a1 => by
    rw [Tryz.params9] at a1
    have hm : t ∈ [64, 66] := by simpa using Array.mem_of_getElem? a1
    have na : ([64, 66].all fun u => !Tryz.prog.wantsStandIn u) = true := by kernel_rfl
    exact (show Tryz.prog.wantsStandIn t = false by simpa using List.all_eq_true.1 na t hm)⟩)
  (by kernel_rfl)
end Go.Proofs.YtgpmnlkgmadglaaGreatDoor.fnExactStepsOfCard
