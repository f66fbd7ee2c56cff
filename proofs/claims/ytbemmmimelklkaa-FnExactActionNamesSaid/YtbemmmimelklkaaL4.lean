/- Part of a proof that a law returns true for every input. No condition. -/
import Derived.Test.YtbemmmimelklkaaRows
import Derived.Test.YtbemmmimelklkaaW4
import Derived.Test.YtbemmmimelklkaaFwI
import Derived.Test.YtbemmmimelklkaaUJ3
import Derived.WalkKit
import Derived.ProofKit
import Derived.OpenShut
import Derived.ChangeOld
import Derived.Below
import Derived.Carry
namespace Go.Proofs.Ytbemmmimelklkaa.fnExactActionNames
open Go.ChangeShapes Go.WideShapes Go.ChangeAt Go.RowKit
open Go.cB Go.eJ
set_option linter.unusedVariables false
theorem own : ownKnob Try.prog.godebug = none := by kernel_rfl
theorem laidOut : laidOutB Try.prog = true := by kernel_rfl
theorem Ij {H : Type} {enc : TypeId × Value → H} {w : World} {base : Nat} {sp : Nat → Bool} {held : Bool} : j5 enc Try.prog w base sp held 9 (fun x : List UInt8 => .str x) (fun x : List UInt8 => x.length ≤ 9223372036854775807) := M3 Try.underlying9
theorem vu {H : Type} {enc : TypeId × Value → H} {w : World} {base : Nat} {sp : Nat → Bool} {held : Bool} : j5 enc Try.prog w base sp held 2 (fun x : Int => .int .i64 x) (fun x : Int => (-9223372036854775808 ≤ x ∧ x ≤ 9223372036854775807)) := M1 Try.underlying2
theorem ae1 {H : Type} {enc : TypeId × Value → H} {w : World} {base : Nat} {sp : Nat → Bool} {held : Bool} : j5 enc Try.prog w base sp held 155 ev (fun x : fM => r9 x) := by
 intro fuel cs x au
 obtain ⟨xs, n, _, _, hl, bl, bB⟩ := DataW.trod_struct Try.underlying155 au
 have hr : cs.length = 2 := hl.trans (by kernel_rfl)
 obtain ⟨hX, w0, aI⟩ := nT vu (bB 0 _ rfl) (by rw [List.getElem?_eq_getElem (by rw [bl]; decide)]; rfl)
 change ax w (F0 w) (.int .i64 hX) ((cs.drop 0).take (Try.prog.cellsOf 2)) _ at aI
 rw [show Try.prog.cellsOf 2 = 1 by kernel_rfl] at aI
 obtain ⟨fZ, ie, dx⟩ := nT vu (bB 1 _ rfl) (by rw [List.getElem?_eq_getElem (by rw [bl]; decide)]; rfl)
 change ax w (F0 w) (.int .i64 fZ) ((cs.drop 1).take (Try.prog.cellsOf 2)) _ at dx
 rw [show Try.prog.cellsOf 2 = 1 by kernel_rfl] at dx
 have key := A7 [(.int .i64 hX, 0, 1), (.int .i64 fZ, 1, 1)] 0 (by rw [hr]; rfl) ⟨aI, dx, trivial⟩
 refine ⟨⟨hX, fZ⟩, ⟨w0, ie⟩, ?_⟩
 show ax w (F0 w) (.agg [.int .i64 hX, .int .i64 fZ]) cs _
 rw [ax]
 exact key
theorem ae2 {H : Type} {enc : TypeId × Value → H} {w : World} {base : Nat} {sp : Nat → Bool} {held : Bool} : j5 enc Try.prog w base sp held 131 (fun x : List fM => .slice (x.map ev)) (fun x : List fM => (x.length ≤ 9223372036854775807 ∧ ∀ y ∈ x, r9 y)) := wX (sz := 2) (ec := ev) Try.underlying131 (by kernel_rfl) (by decide) (fun _ => rfl) ae1
theorem ae3 {H : Type} {enc : TypeId × Value → H} {w : World} {base : Nat} {sp : Nat → Bool} {held : Bool} : j5 enc Try.prog w base sp held 74 (fun x : List (List fM) => .slice (x.map eM)) (fun x : List (List fM) => (x.length ≤ 9223372036854775807 ∧ ∀ y ∈ x, (y.length ≤ 9223372036854775807 ∧ ∀ z ∈ y, r9 z))) := wX (sz := 1) (ec := eM) Try.underlying74 (by kernel_rfl) (by decide) (fun _ => rfl) ae2
theorem ae4 {H : Type} {enc : TypeId × Value → H} {w : World} {base : Nat} {sp : Nat → Bool} {held : Bool} : j5 enc Try.prog w base sp held 76 eN (fun x : gV => tW x) := by
 intro fuel cs x au
 obtain ⟨xs, n, _, _, hl, bl, bB⟩ := DataW.trod_struct Try.underlying76 au
 have hr : cs.length = 4 := hl.trans (by kernel_rfl)
 obtain ⟨hX, w0, aI⟩ := nT vu (bB 0 _ rfl) (by rw [List.getElem?_eq_getElem (by rw [bl]; decide)]; rfl)
 change ax w (F0 w) (.int .i64 hX) ((cs.drop 0).take (Try.prog.cellsOf 2)) _ at aI
 rw [show Try.prog.cellsOf 2 = 1 by kernel_rfl] at aI
 obtain ⟨fZ, ie, dx⟩ := nT vu (bB 1 _ rfl) (by rw [List.getElem?_eq_getElem (by rw [bl]; decide)]; rfl)
 change ax w (F0 w) (.int .i64 fZ) ((cs.drop 1).take (Try.prog.cellsOf 2)) _ at dx
 rw [show Try.prog.cellsOf 2 = 1 by kernel_rfl] at dx
 obtain ⟨jF, iR, eb⟩ := nT Ij (bB 2 _ rfl) (by rw [List.getElem?_eq_getElem (by rw [bl]; decide)]; rfl)
 change ax w (F0 w) (.str jF) ((cs.drop 2).take (Try.prog.cellsOf 9)) _ at eb
 rw [show Try.prog.cellsOf 9 = 1 by kernel_rfl] at eb
 obtain ⟨oU, qb, hH⟩ := nT ae3 (bB 3 _ rfl) (by rw [List.getElem?_eq_getElem (by rw [bl]; decide)]; rfl)
 change ax w (F0 w) (.slice (oU.map eM)) ((cs.drop 3).take (Try.prog.cellsOf 74)) _ at hH
 rw [show Try.prog.cellsOf 74 = 1 by kernel_rfl] at hH
 have key := A7 [(.int .i64 hX, 0, 1), (.int .i64 fZ, 1, 1), (.str jF, 2, 1), (.slice (oU.map eM), 3, 1)] 0 (by rw [hr]; rfl) ⟨aI, dx, eb, hH, trivial⟩
 refine ⟨⟨hX, fZ, jF, oU⟩, ⟨w0, ie, iR, qb⟩, ?_⟩
 show ax w (F0 w) (.agg [.int .i64 hX, .int .i64 fZ, .str jF, .slice (oU.map eM)]) cs _
 rw [ax]
 exact key
theorem ae5 {H : Type} {enc : TypeId × Value → H} {w : World} {base : Nat} {sp : Nat → Bool} {held : Bool} : j5 enc Try.prog w base sp held 40 (fun x : List gV => .slice (x.map eN)) (fun x : List gV => (x.length ≤ 9223372036854775807 ∧ ∀ y ∈ x, tW y)) := wX (sz := 4) (ec := eN) Try.underlying40 (by kernel_rfl) (by decide) (fun _ => rfl) ae4
theorem ae6 {H : Type} {enc : TypeId × Value → H} {w : World} {base : Nat} {sp : Nat → Bool} {held : Bool} : j5 enc Try.prog w base sp held 42 e7 (fun x : gF => qf x) := by
 intro fuel cs x au
 obtain ⟨xs, n, _, _, hl, bl, bB⟩ := DataW.trod_struct Try.underlying42 au
 have hr : cs.length = 3 := hl.trans (by kernel_rfl)
 obtain ⟨hX, w0, aI⟩ := nT Ij (bB 0 _ rfl) (by rw [List.getElem?_eq_getElem (by rw [bl]; decide)]; rfl)
 change ax w (F0 w) (.str hX) ((cs.drop 0).take (Try.prog.cellsOf 9)) _ at aI
 rw [show Try.prog.cellsOf 9 = 1 by kernel_rfl] at aI
 obtain ⟨fZ, ie, dx⟩ := nT vu (bB 1 _ rfl) (by rw [List.getElem?_eq_getElem (by rw [bl]; decide)]; rfl)
 change ax w (F0 w) (.int .i64 fZ) ((cs.drop 1).take (Try.prog.cellsOf 2)) _ at dx
 rw [show Try.prog.cellsOf 2 = 1 by kernel_rfl] at dx
 obtain ⟨jF, iR, eb⟩ := nT ae5 (bB 2 _ rfl) (by rw [List.getElem?_eq_getElem (by rw [bl]; decide)]; rfl)
 change ax w (F0 w) (.slice (jF.map eN)) ((cs.drop 2).take (Try.prog.cellsOf 40)) _ at eb
 rw [show Try.prog.cellsOf 40 = 1 by kernel_rfl] at eb
 have key := A7 [(.str hX, 0, 1), (.int .i64 fZ, 1, 1), (.slice (jF.map eN), 2, 1)] 0 (by rw [hr]; rfl) ⟨aI, dx, eb, trivial⟩
 refine ⟨⟨hX, fZ, jF⟩, ⟨w0, ie, iR⟩, ?_⟩
 show ax w (F0 w) (.agg [.str hX, .int .i64 fZ, .slice (jF.map eN)]) cs _
 rw [ax]
 exact key
theorem ae7 {H : Type} {enc : TypeId × Value → H} {w : World} {base : Nat} {sp : Nat → Bool} {held : Bool} : j5 enc Try.prog w base sp held 22 (fun x : List gF => .slice (x.map e7)) (fun x : List gF => (x.length ≤ 9223372036854775807 ∧ ∀ y ∈ x, qf y)) := wX (sz := 3) (ec := e7) Try.underlying22 (by kernel_rfl) (by decide) (fun _ => rfl) ae6
theorem walk (w : World) (hX : List gF) (wE : (hX.length ≤ 9223372036854775807 ∧ ∀ y ∈ hX, qf y)) (v0 : Value) (fZ : Int) (pH : (Lit.int .i64 fZ).wf = true) (v1 : Value) (gr : Arg w (.slice (hX.map e7)) v0) (aY : Arg w (.int .i64 fZ) v1) :
  Calls Try.prog 4 #[v0, v1] w fun e aD => e = .returned (.bool true) ∧ RowKit.Below w.heap.size w aD :=
 aU.law (C := aN) (aeQ hX fZ true (ae8 hX fZ wE)) Try.func4 rfl rfl (.cons gr (.cons aY (.nil)))
set_option maxRecDepth 100000 in
theorem lifted (os : Os) (started : os.Started) (H : Type) (enc : TypeId × Value → H) :
  ReturnsInHanded {} Try.checked os 4 .any (Rows.fnExactActionNamesSpec.pre6 enc Try.prog Try.f4 Rows.fnExactActionNamesRow.domain false) (Rows.fnExactActionNamesSpec.post enc Try.prog Try.f4 false true false false) := by
 refine returnsInHanded_of_change (C := Try.checked) own started (by kernel_rfl) Try.func4
  (ChangeSpec.witness6 (enc := enc) (C := Try.checked) false ⟨#[], #[.slice none 0 0, .int .i64 0], []⟩ 8 (by kernel_rfl) (by kernel_rfl) (by kernel_rfl) (by kernel_rfl)) ?_
 intro W base args ds gs before Ik Il aiC _
 have nm : ∀ (j : Nat) t v, Try.f4.params[j]? = some t → args[j]? = some v → Value.okWide Try.prog W .any base t v := Ik
 have ae9 := Il
 obtain ⟨p, q, rh, oj, rfl, aiD, rv⟩ := Il
 have hx : DataW.TrodAll enc Try.prog W 0 (fun _ => true) true Try.f4.params.toList args.toList ds p := rh
 rw [Try.params4] at hx nm
 obtain ⟨v0, aiE, d0, aiF, gQ, vW, kK, rfl, rfl, bh, aI⟩ := trodAll_cons hx
 obtain ⟨v1, aiG, d1, aiH, fo, ia, rfl, rfl, rfl, ab, dx⟩ := trodAll_cons aI
 obtain ⟨rfl, rfl, rfl⟩ := trodAll_nil dx
 obtain rfl : args = #[v0, v1] := by cases args; simp_all
 obtain ⟨rfl, rfl⟩ := trodVars_none oj
 have sG : ∀ x ∈ gQ, x.block < W.heap.size := by obtain ⟨m, hm⟩ := bh; exact DataW.trod_lt m _ _ _ hm
 obtain ⟨hX, gr, wE⟩ := M7 Try.underlying22 ae7 (nm 0 22 v0 rfl rfl) bh
 have ae_ : ∀ x ∈ fo, x.block < W.heap.size := by obtain ⟨m, hm⟩ := ab; exact DataW.trod_lt m _ _ _ hm
 obtain ⟨fZ, aY, pH⟩ := MZ Try.underlying2 (nm 1 2 v1 rfl rfl) ab
 clear rh Ik
 refine (walk W hX wE v0 fZ pH v1 gr aY).mono fun e aiI ⟨he, Ct⟩ => ?_
 subst he
 exact ⟨_, rfl, _, _, _, [], _, [], ae9, trodAll_mk1 (shut_bool Try.underlying4 _), (trodAll_cons_mk (Below.trod laidOut (by kernel_rfl) (of_decide_eq_true (by kernel_rfl)) bh Ct sG) (trodAll_cons_mk (Below.trod laidOut (by kernel_rfl) (of_decide_eq_true (by kernel_rfl)) ab Ct ae_) trodAll_mk0)), rfl, Ct.frame _, fun h => by cases h⟩
def yM : List Char := List.map Char.ofNat [104, 97, 114, 110, 101, 115, 115, 32, 101, 51, 51, 51, 99, 57, 50, 97, 48, 54, 53, 53, 97, 54, 56, 52, 56, 102, 50, 51, 57, 51, 98, 50, 49, 102, 100, 57, 48, 57, 98, 52, 57, 53, 98, 56, 56, 55, 97, 52, 100, 99, 52, 52, 57, 53, 99, 100, 102, 52, 98, 54, 100, 56, 49, 100, 57, 52, 98, 99, 54, 97, 52, 101, 32, 99, 117, 116, 32, 97, 116, 32, 108, 111, 111, 112, 46, 101, 120, 97, 109, 112, 108, 101, 47, 103, 48, 49, 48, 55, 53, 47, 108, 97, 119, 115, 46, 70, 110, 69, 120, 97, 99, 116, 67, 97, 108, 108, 115, 79, 102, 32, 108, 111, 111, 112, 46, 101, 120, 97, 109, 112, 108, 101, 47, 103, 48, 49, 48, 55, 53, 47, 108, 97, 119, 115, 46, 70, 110, 69, 120, 97, 99, 116, 65, 99, 116, 105, 111, 110, 78, 97, 109, 101, 115]
def vv : List Char := List.map Char.ofNat [99, 117, 116]
theorem afa : Try.prog.initOrder = String.ofList yM := by kernel_rfl
theorem Cu : Try.prog.initOrder.toList = yM := by rw [afa]; exact String.toList_ofList
theorem Im : behindMainWord (wordsSigns yM) = vv :: (behindMainWord (wordsSigns yM)).tail := by kernel_rfl
theorem afb {P : Program} {L : List Char} {r : List (List Char)} (h : P.initOrder.toList = L) (hw : behindMainWord (wordsSigns L) = vv :: r) : P.make = some .cut := by
 unfold Program.make; rw [h, hw]; rfl
theorem afc {P : Program} {L : List Char} {r : List (List Char)} (h : P.initOrder.toList = L) (hw : behindMainWord (wordsSigns L) = vv :: r) (ab : P.laysLater = false) (af : P.bearsReflect = false) (aF : P.doorFits [] = true) : P.mayEnter = true := by
 unfold Program.mayEnter; rw [h, hw]
 have e : stripLifts liftWords (vv :: r) = ([], vv :: r) := rfl
 simp only [e, ab, af, aF]
 rfl
theorem afd : Try.prog.liftsFinal = false := by unfold Program.liftsFinal Program.headLifts; rw [Cu]; kernel_rfl
theorem afe : Try.prog.mayEnter = true := afc Cu Im (by kernel_rfl) (by kernel_rfl) (by kernel_rfl)
theorem aff : Try.prog.make = some .cut := afb Cu Im
theorem afg : joinedFacts Try.prog 4 Try.f4 Rows.fnExactActionNamesSpec Rows.fnExactActionNamesRow = true := by
 unfold joinedFacts
 rw [afd, afe, aff]
 kernel_rfl
theorem over : Rows.fnExactActionNamesRow.holds Try.pinned (OpenSpec.ofChange Rows.fnExactActionNamesSpec) :=
 OpenClaim.holds_of_wide 4 Try.f4 rfl rfl rfl rfl rfl rfl rfl ⟨rfl, rfl, rfl, rfl, rfl⟩ rfl rfl rfl rfl rfl (by kernel_rfl) Try.func4 afg
  (of_decide_eq_true (by kernel_rfl)) (by unfold Func.isWrapper; first | (rw [if_pos (by decide +kernel)]; kernel_rfl) | (rw [if_neg (by decide +kernel)]; exact ⟨rfl, rfl⟩))
  (fun os started H enc _ => lifted os started H enc)
theorem proved : Rows.FnExactActionNamesSaid := over
end Go.Proofs.Ytbemmmimelklkaa.fnExactActionNames
