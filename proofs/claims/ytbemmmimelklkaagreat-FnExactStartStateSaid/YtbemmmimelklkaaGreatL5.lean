/- Part of a proof that a law returns true for every input. No condition. -/
import Derived.Test.YtbemmmimelklkaaGreatRows
import Derived.Test.YtbemmmimelklkaaGreatW5
import Derived.Test.YtbemmmimelklkaaGreatFwI
import Derived.Test.YtbemmmimelklkaaGreatUP3
import Derived.WalkKit
import Derived.ProofKit
import Derived.OpenShut
import Derived.ChangeOld
import Derived.Below
import Derived.Carry
namespace Go.Proofs.YtbemmmimelklkaaGreat.fnExactStartState
open Go.ChangeShapes Go.WideShapes Go.ChangeAt Go.RowKit
open Go.dk Go.f_
set_option linter.unusedVariables false
theorem own : ownKnob Tryz.prog.godebug = none := by kernel_rfl
theorem laidOut : laidOutB Tryz.prog = true := by kernel_rfl
theorem uS {H : Type} {enc : TypeId × Value → H} {w : World} {base : Nat} {sp : Nat → Bool} {held : Bool} : jb enc Tryz.prog w base sp held 9 (fun x : List UInt8 => .str x) (fun x : List UInt8 => x.length ≤ 9223372036854775807) := QP Tryz.underlying9
theorem sD {H : Type} {enc : TypeId × Value → H} {w : World} {base : Nat} {sp : Nat → Bool} {held : Bool} : jb enc Tryz.prog w base sp held 2 (fun x : Int => .int .i64 x) (fun x : Int => (-9223372036854775808 ≤ x ∧ x ≤ 9223372036854775807)) := QO Tryz.underlying2
theorem ar7 {H : Type} {enc : TypeId × Value → H} {w : World} {base : Nat} {sp : Nat → Bool} {held : Bool} : jb enc Tryz.prog w base sp held 226 fj (fun x : gS => ug x) := by
 intro fuel cs x aC
 obtain ⟨xs, n, _, _, hl, bg, bH⟩ := DataW.trod_struct Tryz.underlying226 aC
 have ic : cs.length = 2 := hl.trans (by kernel_rfl)
 obtain ⟨fW, w0, an⟩ := ke sD (bH 0 _ rfl) (by rw [List.getElem?_eq_getElem (by rw [bg]; decide)]; rfl)
 change aB w (F0 w) (.int .i64 fW) ((cs.drop 0).take (Tryz.prog.cellsOf 2)) _ at an
 rw [show Tryz.prog.cellsOf 2 = 1 by kernel_rfl] at an
 obtain ⟨fE, fM, dX⟩ := ke sD (bH 1 _ rfl) (by rw [List.getElem?_eq_getElem (by rw [bg]; decide)]; rfl)
 change aB w (F0 w) (.int .i64 fE) ((cs.drop 1).take (Tryz.prog.cellsOf 2)) _ at dX
 rw [show Tryz.prog.cellsOf 2 = 1 by kernel_rfl] at dX
 have key := ua [(.int .i64 fW, 0, 1), (.int .i64 fE, 1, 1)] 0 (by rw [ic]; rfl) ⟨an, dX, trivial⟩
 refine ⟨⟨fW, fE⟩, ⟨w0, fM⟩, ?_⟩
 show aB w (F0 w) (.agg [.int .i64 fW, .int .i64 fE]) cs _
 rw [aB]
 exact key
theorem ar8 {H : Type} {enc : TypeId × Value → H} {w : World} {base : Nat} {sp : Nat → Bool} {held : Bool} : jb enc Tryz.prog w base sp held 139 (fun x : List gS => .slice (x.map fj)) (fun x : List gS => (x.length ≤ 9223372036854775807 ∧ ∀ y ∈ x, ug y)) := qg (sz := 2) (ec := fj) Tryz.underlying139 (by kernel_rfl) (by decide) (fun _ => rfl) ar7
theorem ar9 {H : Type} {enc : TypeId × Value → H} {w : World} {base : Nat} {sp : Nat → Bool} {held : Bool} : jb enc Tryz.prog w base sp held 140 (fun x : List (List gS) => .slice (x.map fu)) (fun x : List (List gS) => (x.length ≤ 9223372036854775807 ∧ ∀ y ∈ x, (y.length ≤ 9223372036854775807 ∧ ∀ z ∈ y, ug z))) := qg (sz := 1) (ec := fu) Tryz.underlying140 (by kernel_rfl) (by decide) (fun _ => rfl) ar8
theorem ar_ {H : Type} {enc : TypeId × Value → H} {w : World} {base : Nat} {sp : Nat → Bool} {held : Bool} : jb enc Tryz.prog w base sp held 209 fv (fun x : h_ => wg x) := by
 intro fuel cs x aC
 obtain ⟨xs, n, _, _, hl, bg, bH⟩ := DataW.trod_struct Tryz.underlying209 aC
 have ic : cs.length = 4 := hl.trans (by kernel_rfl)
 obtain ⟨fW, w0, an⟩ := ke sD (bH 0 _ rfl) (by rw [List.getElem?_eq_getElem (by rw [bg]; decide)]; rfl)
 change aB w (F0 w) (.int .i64 fW) ((cs.drop 0).take (Tryz.prog.cellsOf 2)) _ at an
 rw [show Tryz.prog.cellsOf 2 = 1 by kernel_rfl] at an
 obtain ⟨fE, fM, dX⟩ := ke sD (bH 1 _ rfl) (by rw [List.getElem?_eq_getElem (by rw [bg]; decide)]; rfl)
 change aB w (F0 w) (.int .i64 fE) ((cs.drop 1).take (Tryz.prog.cellsOf 2)) _ at dX
 rw [show Tryz.prog.cellsOf 2 = 1 by kernel_rfl] at dX
 obtain ⟨g_, gZ, eS⟩ := ke uS (bH 2 _ rfl) (by rw [List.getElem?_eq_getElem (by rw [bg]; decide)]; rfl)
 change aB w (F0 w) (.str g_) ((cs.drop 2).take (Tryz.prog.cellsOf 9)) _ at eS
 rw [show Tryz.prog.cellsOf 9 = 1 by kernel_rfl] at eS
 obtain ⟨jZ, mz, h6⟩ := ke ar9 (bH 3 _ rfl) (by rw [List.getElem?_eq_getElem (by rw [bg]; decide)]; rfl)
 change aB w (F0 w) (.slice (jZ.map fu)) ((cs.drop 3).take (Tryz.prog.cellsOf 140)) _ at h6
 rw [show Tryz.prog.cellsOf 140 = 1 by kernel_rfl] at h6
 have key := ua [(.int .i64 fW, 0, 1), (.int .i64 fE, 1, 1), (.str g_, 2, 1), (.slice (jZ.map fu), 3, 1)] 0 (by rw [ic]; rfl) ⟨an, dX, eS, h6, trivial⟩
 refine ⟨⟨fW, fE, g_, jZ⟩, ⟨w0, fM, gZ, mz⟩, ?_⟩
 show aB w (F0 w) (.agg [.int .i64 fW, .int .i64 fE, .str g_, .slice (jZ.map fu)]) cs _
 rw [aB]
 exact key
theorem asa {H : Type} {enc : TypeId × Value → H} {w : World} {base : Nat} {sp : Nat → Bool} {held : Bool} : jb enc Tryz.prog w base sp held 107 (fun x : List h_ => .slice (x.map fv)) (fun x : List h_ => (x.length ≤ 9223372036854775807 ∧ ∀ y ∈ x, wg y)) := qg (sz := 4) (ec := fv) Tryz.underlying107 (by kernel_rfl) (by decide) (fun _ => rfl) ar_
theorem asb {H : Type} {enc : TypeId × Value → H} {w : World} {base : Nat} {sp : Nat → Bool} {held : Bool} : jb enc Tryz.prog w base sp held 109 fO (fun x : hZ => uh x) := by
 intro fuel cs x aC
 obtain ⟨xs, n, _, _, hl, bg, bH⟩ := DataW.trod_struct Tryz.underlying109 aC
 have ic : cs.length = 3 := hl.trans (by kernel_rfl)
 obtain ⟨fW, w0, an⟩ := ke uS (bH 0 _ rfl) (by rw [List.getElem?_eq_getElem (by rw [bg]; decide)]; rfl)
 change aB w (F0 w) (.str fW) ((cs.drop 0).take (Tryz.prog.cellsOf 9)) _ at an
 rw [show Tryz.prog.cellsOf 9 = 1 by kernel_rfl] at an
 obtain ⟨fE, fM, dX⟩ := ke sD (bH 1 _ rfl) (by rw [List.getElem?_eq_getElem (by rw [bg]; decide)]; rfl)
 change aB w (F0 w) (.int .i64 fE) ((cs.drop 1).take (Tryz.prog.cellsOf 2)) _ at dX
 rw [show Tryz.prog.cellsOf 2 = 1 by kernel_rfl] at dX
 obtain ⟨g_, gZ, eS⟩ := ke asa (bH 2 _ rfl) (by rw [List.getElem?_eq_getElem (by rw [bg]; decide)]; rfl)
 change aB w (F0 w) (.slice (g_.map fv)) ((cs.drop 2).take (Tryz.prog.cellsOf 107)) _ at eS
 rw [show Tryz.prog.cellsOf 107 = 1 by kernel_rfl] at eS
 have key := ua [(.str fW, 0, 1), (.int .i64 fE, 1, 1), (.slice (g_.map fv), 2, 1)] 0 (by rw [ic]; rfl) ⟨an, dX, eS, trivial⟩
 refine ⟨⟨fW, fE, g_⟩, ⟨w0, fM, gZ⟩, ?_⟩
 show aB w (F0 w) (.agg [.str fW, .int .i64 fE, .slice (g_.map fv)]) cs _
 rw [aB]
 exact key
theorem asc {H : Type} {enc : TypeId × Value → H} {w : World} {base : Nat} {sp : Nat → Bool} {held : Bool} : jb enc Tryz.prog w base sp held 22 (fun x : List hZ => .slice (x.map fO)) (fun x : List hZ => (x.length ≤ 9223372036854775807 ∧ ∀ y ∈ x, uh y)) := qg (sz := 3) (ec := fO) Tryz.underlying22 (by kernel_rfl) (by decide) (fun _ => rfl) asb
theorem asd {H : Type} {enc : TypeId × Value → H} {w : World} {base : Nat} {sp : Nat → Bool} {held : Bool} : jb enc Tryz.prog w base sp held 43 (fun x : List Int => .slice (x.map bA)) (fun x : List Int => (x.length ≤ 9223372036854775807 ∧ ∀ y ∈ x, (-9223372036854775808 ≤ y ∧ y ≤ 9223372036854775807))) := qg (sz := 1) (ec := bA) Tryz.underlying43 (by kernel_rfl) (by decide) (fun _ => rfl) sD
theorem ase {H : Type} {enc : TypeId × Value → H} {w : World} {base : Nat} {sp : Nat → Bool} {held : Bool} : jb enc Tryz.prog w base sp held 112 fP (fun x : ia => wh x) := by
 intro fuel cs x aC
 obtain ⟨xs, n, _, _, hl, bg, bH⟩ := DataW.trod_struct Tryz.underlying112 aC
 have ic : cs.length = 2 := hl.trans (by kernel_rfl)
 obtain ⟨fW, w0, an⟩ := ke sD (bH 0 _ rfl) (by rw [List.getElem?_eq_getElem (by rw [bg]; decide)]; rfl)
 change aB w (F0 w) (.int .i64 fW) ((cs.drop 0).take (Tryz.prog.cellsOf 2)) _ at an
 rw [show Tryz.prog.cellsOf 2 = 1 by kernel_rfl] at an
 obtain ⟨fE, fM, dX⟩ := ke asd (bH 1 _ rfl) (by rw [List.getElem?_eq_getElem (by rw [bg]; decide)]; rfl)
 change aB w (F0 w) (.slice (fE.map bA)) ((cs.drop 1).take (Tryz.prog.cellsOf 43)) _ at dX
 rw [show Tryz.prog.cellsOf 43 = 1 by kernel_rfl] at dX
 have key := ua [(.int .i64 fW, 0, 1), (.slice (fE.map bA), 1, 1)] 0 (by rw [ic]; rfl) ⟨an, dX, trivial⟩
 refine ⟨⟨fW, fE⟩, ⟨w0, fM⟩, ?_⟩
 show aB w (F0 w) (.agg [.int .i64 fW, .slice (fE.map bA)]) cs _
 rw [aB]
 exact key
theorem asf {H : Type} {enc : TypeId × Value → H} {w : World} {base : Nat} {sp : Nat → Bool} {held : Bool} : jb enc Tryz.prog w base sp held 23 (fun x : List ia => .slice (x.map fP)) (fun x : List ia => (x.length ≤ 9223372036854775807 ∧ ∀ y ∈ x, wh y)) := qg (sz := 2) (ec := fP) Tryz.underlying23 (by kernel_rfl) (by decide) (fun _ => rfl) ase
theorem asg {H : Type} {enc : TypeId × Value → H} {w : World} {base : Nat} {sp : Nat → Bool} {held : Bool} : jb enc Tryz.prog w base sp held 115 fG (fun x : h0 => wi x) := by
 intro fuel cs x aC
 obtain ⟨xs, n, _, _, hl, bg, bH⟩ := DataW.trod_struct Tryz.underlying115 aC
 have ic : cs.length = 3 := hl.trans (by kernel_rfl)
 obtain ⟨fW, w0, an⟩ := ke uS (bH 0 _ rfl) (by rw [List.getElem?_eq_getElem (by rw [bg]; decide)]; rfl)
 change aB w (F0 w) (.str fW) ((cs.drop 0).take (Tryz.prog.cellsOf 9)) _ at an
 rw [show Tryz.prog.cellsOf 9 = 1 by kernel_rfl] at an
 obtain ⟨fE, fM, dX⟩ := ke uS (bH 1 _ rfl) (by rw [List.getElem?_eq_getElem (by rw [bg]; decide)]; rfl)
 change aB w (F0 w) (.str fE) ((cs.drop 1).take (Tryz.prog.cellsOf 9)) _ at dX
 rw [show Tryz.prog.cellsOf 9 = 1 by kernel_rfl] at dX
 obtain ⟨g_, gZ, eS⟩ := ke uS (bH 2 _ rfl) (by rw [List.getElem?_eq_getElem (by rw [bg]; decide)]; rfl)
 change aB w (F0 w) (.str g_) ((cs.drop 2).take (Tryz.prog.cellsOf 9)) _ at eS
 rw [show Tryz.prog.cellsOf 9 = 1 by kernel_rfl] at eS
 have key := ua [(.str fW, 0, 1), (.str fE, 1, 1), (.str g_, 2, 1)] 0 (by rw [ic]; rfl) ⟨an, dX, eS, trivial⟩
 refine ⟨⟨fW, fE, g_⟩, ⟨w0, fM, gZ⟩, ?_⟩
 show aB w (F0 w) (.agg [.str fW, .str fE, .str g_]) cs _
 rw [aB]
 exact key
theorem ash {H : Type} {enc : TypeId × Value → H} {w : World} {base : Nat} {sp : Nat → Bool} {held : Bool} : jb enc Tryz.prog w base sp held 24 (fun x : List h0 => .slice (x.map fG)) (fun x : List h0 => (x.length ≤ 9223372036854775807 ∧ ∀ y ∈ x, wi y)) := qg (sz := 3) (ec := fG) Tryz.underlying24 (by kernel_rfl) (by decide) (fun _ => rfl) asg
theorem L7 {H : Type} {enc : TypeId × Value → H} {w : World} {base : Nat} {sp : Nat → Bool} {held : Bool} : jb enc Tryz.prog w base sp held 25 (fun x : List (List UInt8) => .slice (x.map bu)) (fun x : List (List UInt8) => (x.length ≤ 9223372036854775807 ∧ ∀ y ∈ x, y.length ≤ 9223372036854775807)) := qg (sz := 1) (ec := bu) Tryz.underlying25 (by kernel_rfl) (by decide) (fun _ => rfl) uS
theorem asi {H : Type} {enc : TypeId × Value → H} {w : World} {base : Nat} {sp : Nat → Bool} {held : Bool} : jb enc Tryz.prog w base sp held 27 iA (fun x : kg => wj x) := by
 intro fuel cs x aC
 obtain ⟨xs, n, _, _, hl, bg, bH⟩ := DataW.trod_struct Tryz.underlying27 aC
 have ic : cs.length = 5 := hl.trans (by kernel_rfl)
 obtain ⟨fW, w0, an⟩ := ke asc (bH 0 _ rfl) (by rw [List.getElem?_eq_getElem (by rw [bg]; decide)]; rfl)
 change aB w (F0 w) (.slice (fW.map fO)) ((cs.drop 0).take (Tryz.prog.cellsOf 22)) _ at an
 rw [show Tryz.prog.cellsOf 22 = 1 by kernel_rfl] at an
 obtain ⟨fE, fM, dX⟩ := ke asf (bH 1 _ rfl) (by rw [List.getElem?_eq_getElem (by rw [bg]; decide)]; rfl)
 change aB w (F0 w) (.slice (fE.map fP)) ((cs.drop 1).take (Tryz.prog.cellsOf 23)) _ at dX
 rw [show Tryz.prog.cellsOf 23 = 1 by kernel_rfl] at dX
 obtain ⟨g_, gZ, eS⟩ := ke ash (bH 2 _ rfl) (by rw [List.getElem?_eq_getElem (by rw [bg]; decide)]; rfl)
 change aB w (F0 w) (.slice (g_.map fG)) ((cs.drop 2).take (Tryz.prog.cellsOf 24)) _ at eS
 rw [show Tryz.prog.cellsOf 24 = 1 by kernel_rfl] at eS
 obtain ⟨jZ, mz, h6⟩ := ke L7 (bH 3 _ rfl) (by rw [List.getElem?_eq_getElem (by rw [bg]; decide)]; rfl)
 change aB w (F0 w) (.slice (jZ.map bu)) ((cs.drop 3).take (Tryz.prog.cellsOf 25)) _ at h6
 rw [show Tryz.prog.cellsOf 25 = 1 by kernel_rfl] at h6
 obtain ⟨od, FJ, jQ⟩ := ke L7 (bH 4 _ rfl) (by rw [List.getElem?_eq_getElem (by rw [bg]; decide)]; rfl)
 change aB w (F0 w) (.slice (od.map bu)) ((cs.drop 4).take (Tryz.prog.cellsOf 25)) _ at jQ
 rw [show Tryz.prog.cellsOf 25 = 1 by kernel_rfl] at jQ
 have key := ua [(.slice (fW.map fO), 0, 1), (.slice (fE.map fP), 1, 1), (.slice (g_.map fG), 2, 1), (.slice (jZ.map bu), 3, 1), (.slice (od.map bu), 4, 1)] 0 (by rw [ic]; rfl) ⟨an, dX, eS, h6, jQ, trivial⟩
 refine ⟨⟨fW, fE, g_, jZ, od⟩, ⟨w0, fM, gZ, mz, FJ⟩, ?_⟩
 show aB w (F0 w) (.agg [.slice (fW.map fO), .slice (fE.map fP), .slice (g_.map fG), .slice (jZ.map bu), .slice (od.map bu)]) cs _
 rw [aB]
 exact key
theorem walk (w : World) (fW : kg) (yY : wj fW) (v0 : Value) (hF : Arg w (.agg [.slice (fW.e8.map fO), .slice (fW.b_.map fP), .slice (fW.g1.map fG), .slice (fW.gT.map bu), .slice (fW.gU.map bu)]) v0) :
  Calls Tryz.prog 5 #[v0] w fun e aU => e = .returned (.bool true) ∧ RowKit.Below w.heap.size w aU :=
 aR.law (C := aJ) (arS fW true (asj fW yY)) Tryz.func5 rfl rfl (.cons hF (.nil))
set_option maxRecDepth 100000 in
theorem lifted (os : Os) (started : os.Started) (H : Type) (enc : TypeId × Value → H) :
  ReturnsInHanded {} Tryz.checked os 5 .any (Rows.fnExactStartStateSpec.pre6 enc Tryz.prog Tryz.f5 Rows.fnExactStartStateRow.domain false) (Rows.fnExactStartStateSpec.post enc Tryz.prog Tryz.f5 false true false false) := by
 refine returnsInHanded_of_change (C := Tryz.checked) own started (by kernel_rfl) Tryz.func5
  (ChangeSpec.witness6 (enc := enc) (C := Tryz.checked) false ⟨#[], #[.agg #[.slice none 0 0, .slice none 0 0, .slice none 0 0, .slice none 0 0, .slice none 0 0]], []⟩ 8 (by kernel_rfl) (by kernel_rfl) (by kernel_rfl) (by kernel_rfl)) ?_
 intro W base args ds gs before L8 L9 awv _
 have rq : ∀ (j : Nat) t v, Tryz.f5.params[j]? = some t → args[j]? = some v → Value.okWide Tryz.prog W .any base t v := L8
 have asl := L9
 obtain ⟨p, q, tf, pW, rfl, aww, tr⟩ := L9
 have iK : DataW.TrodAll enc Tryz.prog W 0 (fun _ => true) true Tryz.f5.params.toList args.toList ds p := tf
 rw [Tryz.params5] at iK rq
 obtain ⟨v0, awx, d0, awy, h3, ys, lU, rfl, rfl, a9, an⟩ := trodAll_cons iK
 obtain ⟨rfl, rfl, rfl⟩ := trodAll_nil an
 obtain rfl : args = #[v0] := by cases args; simp_all
 obtain ⟨rfl, rfl⟩ := trodVars_none pW
 have uT : ∀ x ∈ h3, x.block < W.heap.size := by obtain ⟨m, hm⟩ := a9; exact DataW.trod_lt m _ _ _ hm
 obtain ⟨fW, hF, yY⟩ := QT (es := fun y : kg => [.slice (y.e8.map fO), .slice (y.b_.map fP), .slice (y.g1.map fG), .slice (y.gT.map bu), .slice (y.gU.map bu)]) Tryz.underlying27 asi (rq 0 27 v0 rfl rfl) a9
 clear tf L8
 refine (walk W fW yY v0 hF).mono fun e awz ⟨he, L_⟩ => ?_
 subst he
 exact ⟨_, rfl, _, _, _, [], _, [], asl, trodAll_mk1 (shut_bool Tryz.underlying4 _), (trodAll_cons_mk (Below.trod laidOut (by kernel_rfl) (of_decide_eq_true (by kernel_rfl)) a9 L_ uT) trodAll_mk0), rfl, L_.frame _, fun h => by cases h⟩
def BX : List Char := List.map Char.ofNat [104, 97, 114, 110, 101, 115, 115, 32, 57, 55, 56, 50, 100, 100, 55, 99, 57, 99, 99, 52, 54, 102, 50, 102, 49, 55, 50, 102, 49, 52, 56, 54, 101, 98, 57, 56, 98, 55, 51, 50, 49, 98, 48, 97, 55, 101, 56, 51, 48, 54, 101, 55, 48, 54, 56, 100, 57, 99, 56, 51, 53, 56, 97, 52, 57, 53, 99, 52, 56, 99, 97, 56, 32, 99, 117, 116, 32, 97, 116, 32, 108, 111, 111, 112, 46, 101, 120, 97, 109, 112, 108, 101, 47, 103, 48, 49, 48, 55, 53, 47, 108, 97, 119, 115, 46, 70, 110, 69, 120, 97, 99, 116, 80, 108, 97, 99, 101, 115, 79, 102, 32, 108, 111, 111, 112, 46, 101, 120, 97, 109, 112, 108, 101, 47, 103, 48, 49, 48, 55, 53, 47, 108, 97, 119, 115, 46, 70, 110, 69, 120, 97, 99, 116, 82, 101, 109, 111, 118, 101, 85, 110, 117, 115, 101, 100, 32, 108, 111, 111, 112, 46, 101, 120, 97, 109, 112, 108, 101, 47, 103, 48, 49, 48, 55, 53, 47, 108, 97, 119, 115, 46, 70, 110, 69, 120, 97, 99, 116, 83, 116, 97, 114, 116, 83, 116, 97, 116, 101, 32, 108, 111, 111, 112, 46, 101, 120, 97, 109, 112, 108, 101, 47, 103, 48, 49, 48, 55, 53, 47, 108, 97, 119, 115, 46, 70, 110, 69, 120, 97, 99, 116, 85, 115, 101, 100, 68, 101, 102, 105, 110, 105, 116, 105, 111, 110, 115]
def x5 : List Char := List.map Char.ofNat [99, 117, 116]
theorem asm : Tryz.prog.initOrder = String.ofList BX := by kernel_rfl
theorem FK : Tryz.prog.initOrder.toList = BX := by rw [asm]; exact String.toList_ofList
theorem Ma : behindMainWord (wordsSigns BX) = x5 :: (behindMainWord (wordsSigns BX)).tail := by kernel_rfl
theorem asn {P : Program} {L : List Char} {r : List (List Char)} (h : P.initOrder.toList = L) (hw : behindMainWord (wordsSigns L) = x5 :: r) : P.make = some .cut := by
 unfold Program.make; rw [h, hw]; rfl
theorem aso {P : Program} {L : List Char} {r : List (List Char)} (h : P.initOrder.toList = L) (hw : behindMainWord (wordsSigns L) = x5 :: r) (ai : P.laysLater = false) (aj : P.bearsReflect = false) (aQ : P.doorFits [] = true) : P.mayEnter = true := by
 unfold Program.mayEnter; rw [h, hw]
 have e : stripLifts liftWords (x5 :: r) = ([], x5 :: r) := rfl
 simp only [e, ai, aj, aQ]
 rfl
theorem asp : Tryz.prog.liftsFinal = false := by unfold Program.liftsFinal Program.headLifts; rw [FK]; kernel_rfl
theorem asq : Tryz.prog.mayEnter = true := aso FK Ma (by kernel_rfl) (by kernel_rfl) (by kernel_rfl)
theorem asr : Tryz.prog.make = some .cut := asn FK Ma
theorem ass : joinedFacts Tryz.prog 5 Tryz.f5 Rows.fnExactStartStateSpec Rows.fnExactStartStateRow = true := by
 unfold joinedFacts
 rw [asp, asq, asr]
 kernel_rfl
theorem over : Rows.fnExactStartStateRow.holds Tryz.pinned (OpenSpec.ofChange Rows.fnExactStartStateSpec) :=
 OpenClaim.holds_of_wide 5 Tryz.f5 rfl rfl rfl rfl rfl rfl rfl ⟨rfl, rfl, rfl, rfl, rfl⟩ rfl rfl rfl rfl rfl (by kernel_rfl) Tryz.func5 ass
  (of_decide_eq_true (by kernel_rfl)) (by unfold Func.isWrapper; first | (rw [if_pos (by decide +kernel)]; kernel_rfl) | (rw [if_neg (by decide +kernel)]; exact ⟨rfl, rfl⟩))
  (fun os started H enc _ => lifted os started H enc)
theorem proved : Rows.FnExactStartStateSaid := over
end Go.Proofs.YtbemmmimelklkaaGreat.fnExactStartState
