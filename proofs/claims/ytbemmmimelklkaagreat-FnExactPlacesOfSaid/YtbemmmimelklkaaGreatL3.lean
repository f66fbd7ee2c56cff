/- Part of a proof that a law returns true for every input. No condition. -/
import Derived.Test.YtbemmmimelklkaaGreatRows
import Derived.Test.YtbemmmimelklkaaGreatW3
import Derived.Test.YtbemmmimelklkaaGreatFwI
import Derived.Test.YtbemmmimelklkaaGreatUP2
import Derived.WalkKit
import Derived.ProofKit
import Derived.OpenShut
import Derived.ChangeOld
import Derived.Below
import Derived.Carry
namespace Go.Proofs.YtbemmmimelklkaaGreat.fnExactPlacesOf
open Go.ChangeShapes Go.WideShapes Go.ChangeAt Go.RowKit
open Go.dg Go.fJ
set_option linter.unusedVariables false
theorem own : ownKnob Tryz.prog.godebug = none := by kernel_rfl
theorem laidOut : laidOutB Tryz.prog = true := by kernel_rfl
theorem vh {H : Type} {enc : TypeId × Value → H} {w : World} {base : Nat} {sp : Nat → Bool} {held : Bool} : je enc Tryz.prog w base sp held 9 (fun x : List UInt8 => .str x) (fun x : List UInt8 => x.length ≤ 9223372036854775807) := Re Tryz.underlying9
theorem sX {H : Type} {enc : TypeId × Value → H} {w : World} {base : Nat} {sp : Nat → Bool} {held : Bool} : je enc Tryz.prog w base sp held 2 (fun x : Int => .int .i64 x) (fun x : Int => (-9223372036854775808 ≤ x ∧ x ≤ 9223372036854775807)) := Rd Tryz.underlying2
theorem asb {H : Type} {enc : TypeId × Value → H} {w : World} {base : Nat} {sp : Nat → Bool} {held : Bool} : je enc Tryz.prog w base sp held 226 ff (fun x : gO => uD x) := by
 intro fuel cs x aA
 obtain ⟨xs, n, _, _, hl, bd, bF⟩ := DataW.trod_struct Tryz.underlying226 aA
 have ig : cs.length = 2 := hl.trans (by kernel_rfl)
 obtain ⟨fS, w0, ao⟩ := kk sX (bF 0 _ rfl) (by rw [List.getElem?_eq_getElem (by rw [bd]; decide)]; rfl)
 change aC w (F0 w) (.int .i64 fS) ((cs.drop 0).take (Tryz.prog.cellsOf 2)) _ at ao
 rw [show Tryz.prog.cellsOf 2 = 1 by kernel_rfl] at ao
 obtain ⟨fp, f_, dV⟩ := kk sX (bF 1 _ rfl) (by rw [List.getElem?_eq_getElem (by rw [bd]; decide)]; rfl)
 change aC w (F0 w) (.int .i64 fp) ((cs.drop 1).take (Tryz.prog.cellsOf 2)) _ at dV
 rw [show Tryz.prog.cellsOf 2 = 1 by kernel_rfl] at dV
 have key := ux [(.int .i64 fS, 0, 1), (.int .i64 fp, 1, 1)] 0 (by rw [ig]; rfl) ⟨ao, dV, trivial⟩
 refine ⟨⟨fS, fp⟩, ⟨w0, f_⟩, ?_⟩
 show aC w (F0 w) (.agg [.int .i64 fS, .int .i64 fp]) cs _
 rw [aC]
 exact key
theorem asc {H : Type} {enc : TypeId × Value → H} {w : World} {base : Nat} {sp : Nat → Bool} {held : Bool} : je enc Tryz.prog w base sp held 139 (fun x : List gO => .slice (x.map ff)) (fun x : List gO => (x.length ≤ 9223372036854775807 ∧ ∀ y ∈ x, uD y)) := qC (sz := 2) (ec := ff) Tryz.underlying139 (by kernel_rfl) (by decide) (fun _ => rfl) asb
theorem asd {H : Type} {enc : TypeId × Value → H} {w : World} {base : Nat} {sp : Nat → Bool} {held : Bool} : je enc Tryz.prog w base sp held 140 (fun x : List (List gO) => .slice (x.map ft)) (fun x : List (List gO) => (x.length ≤ 9223372036854775807 ∧ ∀ y ∈ x, (y.length ≤ 9223372036854775807 ∧ ∀ z ∈ y, uD z))) := qC (sz := 1) (ec := ft) Tryz.underlying140 (by kernel_rfl) (by decide) (fun _ => rfl) asc
theorem ase {H : Type} {enc : TypeId × Value → H} {w : World} {base : Nat} {sp : Nat → Bool} {held : Bool} : je enc Tryz.prog w base sp held 209 fu (fun x : ic => wO x) := by
 intro fuel cs x aA
 obtain ⟨xs, n, _, _, hl, bd, bF⟩ := DataW.trod_struct Tryz.underlying209 aA
 have ig : cs.length = 4 := hl.trans (by kernel_rfl)
 obtain ⟨fS, w0, ao⟩ := kk sX (bF 0 _ rfl) (by rw [List.getElem?_eq_getElem (by rw [bd]; decide)]; rfl)
 change aC w (F0 w) (.int .i64 fS) ((cs.drop 0).take (Tryz.prog.cellsOf 2)) _ at ao
 rw [show Tryz.prog.cellsOf 2 = 1 by kernel_rfl] at ao
 obtain ⟨fp, f_, dV⟩ := kk sX (bF 1 _ rfl) (by rw [List.getElem?_eq_getElem (by rw [bd]; decide)]; rfl)
 change aC w (F0 w) (.int .i64 fp) ((cs.drop 1).take (Tryz.prog.cellsOf 2)) _ at dV
 rw [show Tryz.prog.cellsOf 2 = 1 by kernel_rfl] at dV
 obtain ⟨g6, hv, eS⟩ := kk vh (bF 2 _ rfl) (by rw [List.getElem?_eq_getElem (by rw [bd]; decide)]; rfl)
 change aC w (F0 w) (.str g6) ((cs.drop 2).take (Tryz.prog.cellsOf 9)) _ at eS
 rw [show Tryz.prog.cellsOf 9 = 1 by kernel_rfl] at eS
 obtain ⟨kJ, mJ, h8⟩ := kk asd (bF 3 _ rfl) (by rw [List.getElem?_eq_getElem (by rw [bd]; decide)]; rfl)
 change aC w (F0 w) (.slice (kJ.map ft)) ((cs.drop 3).take (Tryz.prog.cellsOf 140)) _ at h8
 rw [show Tryz.prog.cellsOf 140 = 1 by kernel_rfl] at h8
 have key := ux [(.int .i64 fS, 0, 1), (.int .i64 fp, 1, 1), (.str g6, 2, 1), (.slice (kJ.map ft), 3, 1)] 0 (by rw [ig]; rfl) ⟨ao, dV, eS, h8, trivial⟩
 refine ⟨⟨fS, fp, g6, kJ⟩, ⟨w0, f_, hv, mJ⟩, ?_⟩
 show aC w (F0 w) (.agg [.int .i64 fS, .int .i64 fp, .str g6, .slice (kJ.map ft)]) cs _
 rw [aC]
 exact key
theorem asf {H : Type} {enc : TypeId × Value → H} {w : World} {base : Nat} {sp : Nat → Bool} {held : Bool} : je enc Tryz.prog w base sp held 107 (fun x : List ic => .slice (x.map fu)) (fun x : List ic => (x.length ≤ 9223372036854775807 ∧ ∀ y ∈ x, wO y)) := qC (sz := 4) (ec := fu) Tryz.underlying107 (by kernel_rfl) (by decide) (fun _ => rfl) ase
theorem asg {H : Type} {enc : TypeId × Value → H} {w : World} {base : Nat} {sp : Nat → Bool} {held : Bool} : je enc Tryz.prog w base sp held 109 fL (fun x : h2 => uE x) := by
 intro fuel cs x aA
 obtain ⟨xs, n, _, _, hl, bd, bF⟩ := DataW.trod_struct Tryz.underlying109 aA
 have ig : cs.length = 3 := hl.trans (by kernel_rfl)
 obtain ⟨fS, w0, ao⟩ := kk vh (bF 0 _ rfl) (by rw [List.getElem?_eq_getElem (by rw [bd]; decide)]; rfl)
 change aC w (F0 w) (.str fS) ((cs.drop 0).take (Tryz.prog.cellsOf 9)) _ at ao
 rw [show Tryz.prog.cellsOf 9 = 1 by kernel_rfl] at ao
 obtain ⟨fp, f_, dV⟩ := kk sX (bF 1 _ rfl) (by rw [List.getElem?_eq_getElem (by rw [bd]; decide)]; rfl)
 change aC w (F0 w) (.int .i64 fp) ((cs.drop 1).take (Tryz.prog.cellsOf 2)) _ at dV
 rw [show Tryz.prog.cellsOf 2 = 1 by kernel_rfl] at dV
 obtain ⟨g6, hv, eS⟩ := kk asf (bF 2 _ rfl) (by rw [List.getElem?_eq_getElem (by rw [bd]; decide)]; rfl)
 change aC w (F0 w) (.slice (g6.map fu)) ((cs.drop 2).take (Tryz.prog.cellsOf 107)) _ at eS
 rw [show Tryz.prog.cellsOf 107 = 1 by kernel_rfl] at eS
 have key := ux [(.str fS, 0, 1), (.int .i64 fp, 1, 1), (.slice (g6.map fu), 2, 1)] 0 (by rw [ig]; rfl) ⟨ao, dV, eS, trivial⟩
 refine ⟨⟨fS, fp, g6⟩, ⟨w0, f_, hv⟩, ?_⟩
 show aC w (F0 w) (.agg [.str fS, .int .i64 fp, .slice (g6.map fu)]) cs _
 rw [aC]
 exact key
theorem ash {H : Type} {enc : TypeId × Value → H} {w : World} {base : Nat} {sp : Nat → Bool} {held : Bool} : je enc Tryz.prog w base sp held 22 (fun x : List h2 => .slice (x.map fL)) (fun x : List h2 => (x.length ≤ 9223372036854775807 ∧ ∀ y ∈ x, uE y)) := qC (sz := 3) (ec := fL) Tryz.underlying22 (by kernel_rfl) (by decide) (fun _ => rfl) asg
theorem asi {H : Type} {enc : TypeId × Value → H} {w : World} {base : Nat} {sp : Nat → Bool} {held : Bool} : je enc Tryz.prog w base sp held 43 (fun x : List Int => .slice (x.map b3)) (fun x : List Int => (x.length ≤ 9223372036854775807 ∧ ∀ y ∈ x, (-9223372036854775808 ≤ y ∧ y ≤ 9223372036854775807))) := qC (sz := 1) (ec := b3) Tryz.underlying43 (by kernel_rfl) (by decide) (fun _ => rfl) sX
theorem asj {H : Type} {enc : TypeId × Value → H} {w : World} {base : Nat} {sp : Nat → Bool} {held : Bool} : je enc Tryz.prog w base sp held 112 fM (fun x : ie => wP x) := by
 intro fuel cs x aA
 obtain ⟨xs, n, _, _, hl, bd, bF⟩ := DataW.trod_struct Tryz.underlying112 aA
 have ig : cs.length = 2 := hl.trans (by kernel_rfl)
 obtain ⟨fS, w0, ao⟩ := kk sX (bF 0 _ rfl) (by rw [List.getElem?_eq_getElem (by rw [bd]; decide)]; rfl)
 change aC w (F0 w) (.int .i64 fS) ((cs.drop 0).take (Tryz.prog.cellsOf 2)) _ at ao
 rw [show Tryz.prog.cellsOf 2 = 1 by kernel_rfl] at ao
 obtain ⟨fp, f_, dV⟩ := kk asi (bF 1 _ rfl) (by rw [List.getElem?_eq_getElem (by rw [bd]; decide)]; rfl)
 change aC w (F0 w) (.slice (fp.map b3)) ((cs.drop 1).take (Tryz.prog.cellsOf 43)) _ at dV
 rw [show Tryz.prog.cellsOf 43 = 1 by kernel_rfl] at dV
 have key := ux [(.int .i64 fS, 0, 1), (.slice (fp.map b3), 1, 1)] 0 (by rw [ig]; rfl) ⟨ao, dV, trivial⟩
 refine ⟨⟨fS, fp⟩, ⟨w0, f_⟩, ?_⟩
 show aC w (F0 w) (.agg [.int .i64 fS, .slice (fp.map b3)]) cs _
 rw [aC]
 exact key
theorem asl {H : Type} {enc : TypeId × Value → H} {w : World} {base : Nat} {sp : Nat → Bool} {held : Bool} : je enc Tryz.prog w base sp held 23 (fun x : List ie => .slice (x.map fM)) (fun x : List ie => (x.length ≤ 9223372036854775807 ∧ ∀ y ∈ x, wP y)) := qC (sz := 2) (ec := fM) Tryz.underlying23 (by kernel_rfl) (by decide) (fun _ => rfl) asj
theorem asm {H : Type} {enc : TypeId × Value → H} {w : World} {base : Nat} {sp : Nat → Bool} {held : Bool} : je enc Tryz.prog w base sp held 115 fE (fun x : h3 => wQ x) := by
 intro fuel cs x aA
 obtain ⟨xs, n, _, _, hl, bd, bF⟩ := DataW.trod_struct Tryz.underlying115 aA
 have ig : cs.length = 3 := hl.trans (by kernel_rfl)
 obtain ⟨fS, w0, ao⟩ := kk vh (bF 0 _ rfl) (by rw [List.getElem?_eq_getElem (by rw [bd]; decide)]; rfl)
 change aC w (F0 w) (.str fS) ((cs.drop 0).take (Tryz.prog.cellsOf 9)) _ at ao
 rw [show Tryz.prog.cellsOf 9 = 1 by kernel_rfl] at ao
 obtain ⟨fp, f_, dV⟩ := kk vh (bF 1 _ rfl) (by rw [List.getElem?_eq_getElem (by rw [bd]; decide)]; rfl)
 change aC w (F0 w) (.str fp) ((cs.drop 1).take (Tryz.prog.cellsOf 9)) _ at dV
 rw [show Tryz.prog.cellsOf 9 = 1 by kernel_rfl] at dV
 obtain ⟨g6, hv, eS⟩ := kk vh (bF 2 _ rfl) (by rw [List.getElem?_eq_getElem (by rw [bd]; decide)]; rfl)
 change aC w (F0 w) (.str g6) ((cs.drop 2).take (Tryz.prog.cellsOf 9)) _ at eS
 rw [show Tryz.prog.cellsOf 9 = 1 by kernel_rfl] at eS
 have key := ux [(.str fS, 0, 1), (.str fp, 1, 1), (.str g6, 2, 1)] 0 (by rw [ig]; rfl) ⟨ao, dV, eS, trivial⟩
 refine ⟨⟨fS, fp, g6⟩, ⟨w0, f_, hv⟩, ?_⟩
 show aC w (F0 w) (.agg [.str fS, .str fp, .str g6]) cs _
 rw [aC]
 exact key
theorem asn {H : Type} {enc : TypeId × Value → H} {w : World} {base : Nat} {sp : Nat → Bool} {held : Bool} : je enc Tryz.prog w base sp held 24 (fun x : List h3 => .slice (x.map fE)) (fun x : List h3 => (x.length ≤ 9223372036854775807 ∧ ∀ y ∈ x, wQ y)) := qC (sz := 3) (ec := fE) Tryz.underlying24 (by kernel_rfl) (by decide) (fun _ => rfl) asm
theorem Mw {H : Type} {enc : TypeId × Value → H} {w : World} {base : Nat} {sp : Nat → Bool} {held : Bool} : je enc Tryz.prog w base sp held 25 (fun x : List (List UInt8) => .slice (x.map bu)) (fun x : List (List UInt8) => (x.length ≤ 9223372036854775807 ∧ ∀ y ∈ x, y.length ≤ 9223372036854775807)) := qC (sz := 1) (ec := bu) Tryz.underlying25 (by kernel_rfl) (by decide) (fun _ => rfl) vh
theorem aso {H : Type} {enc : TypeId × Value → H} {w : World} {base : Nat} {sp : Nat → Bool} {held : Bool} : je enc Tryz.prog w base sp held 27 iD (fun x : km => wR x) := by
 intro fuel cs x aA
 obtain ⟨xs, n, _, _, hl, bd, bF⟩ := DataW.trod_struct Tryz.underlying27 aA
 have ig : cs.length = 5 := hl.trans (by kernel_rfl)
 obtain ⟨fS, w0, ao⟩ := kk ash (bF 0 _ rfl) (by rw [List.getElem?_eq_getElem (by rw [bd]; decide)]; rfl)
 change aC w (F0 w) (.slice (fS.map fL)) ((cs.drop 0).take (Tryz.prog.cellsOf 22)) _ at ao
 rw [show Tryz.prog.cellsOf 22 = 1 by kernel_rfl] at ao
 obtain ⟨fp, f_, dV⟩ := kk asl (bF 1 _ rfl) (by rw [List.getElem?_eq_getElem (by rw [bd]; decide)]; rfl)
 change aC w (F0 w) (.slice (fp.map fM)) ((cs.drop 1).take (Tryz.prog.cellsOf 23)) _ at dV
 rw [show Tryz.prog.cellsOf 23 = 1 by kernel_rfl] at dV
 obtain ⟨g6, hv, eS⟩ := kk asn (bF 2 _ rfl) (by rw [List.getElem?_eq_getElem (by rw [bd]; decide)]; rfl)
 change aC w (F0 w) (.slice (g6.map fE)) ((cs.drop 2).take (Tryz.prog.cellsOf 24)) _ at eS
 rw [show Tryz.prog.cellsOf 24 = 1 by kernel_rfl] at eS
 obtain ⟨kJ, mJ, h8⟩ := kk Mw (bF 3 _ rfl) (by rw [List.getElem?_eq_getElem (by rw [bd]; decide)]; rfl)
 change aC w (F0 w) (.slice (kJ.map bu)) ((cs.drop 3).take (Tryz.prog.cellsOf 25)) _ at h8
 rw [show Tryz.prog.cellsOf 25 = 1 by kernel_rfl] at h8
 obtain ⟨ow, F6, jT⟩ := kk Mw (bF 4 _ rfl) (by rw [List.getElem?_eq_getElem (by rw [bd]; decide)]; rfl)
 change aC w (F0 w) (.slice (ow.map bu)) ((cs.drop 4).take (Tryz.prog.cellsOf 25)) _ at jT
 rw [show Tryz.prog.cellsOf 25 = 1 by kernel_rfl] at jT
 have key := ux [(.slice (fS.map fL), 0, 1), (.slice (fp.map fM), 1, 1), (.slice (g6.map fE), 2, 1), (.slice (kJ.map bu), 3, 1), (.slice (ow.map bu), 4, 1)] 0 (by rw [ig]; rfl) ⟨ao, dV, eS, h8, jT, trivial⟩
 refine ⟨⟨fS, fp, g6, kJ, ow⟩, ⟨w0, f_, hv, mJ, F6⟩, ?_⟩
 show aC w (F0 w) (.agg [.slice (fS.map fL), .slice (fp.map fM), .slice (g6.map fE), .slice (kJ.map bu), .slice (ow.map bu)]) cs _
 rw [aC]
 exact key
theorem walk (w : World) (fS : km) (zr : wR fS) (v0 : Value) (hG : Arg w (.agg [.slice (fS.bQ.map fL), .slice (fS.cX.map fM), .slice (fS.gX.map fE), .slice (fS.gQ.map bu), .slice (fS.gR.map bu)]) v0) :
  Calls Tryz.prog 3 #[v0] w fun e aS => e = .returned (.bool true) ∧ RowKit.Below w.heap.size w aS :=
 aT.law (C := aI) (arX fS true (asp fS zr)) Tryz.func3 rfl rfl (.cons hG (.nil))
set_option maxRecDepth 100000 in
theorem lifted (os : Os) (started : os.Started) (H : Type) (enc : TypeId × Value → H) :
  ReturnsInHanded {} Tryz.checked os 3 .any (Rows.fnExactPlacesOfSpec.pre6 enc Tryz.prog Tryz.f3 Rows.fnExactPlacesOfRow.domain false) (Rows.fnExactPlacesOfSpec.post enc Tryz.prog Tryz.f3 false true false false) := by
 refine returnsInHanded_of_change (C := Tryz.checked) own started (by kernel_rfl) Tryz.func3
  (ChangeSpec.witness6 (enc := enc) (C := Tryz.checked) false ⟨#[], #[.agg #[.slice none 0 0, .slice none 0 0, .slice none 0 0, .slice none 0 0, .slice none 0 0]], []⟩ 8 (by kernel_rfl) (by kernel_rfl) (by kernel_rfl) (by kernel_rfl)) ?_
 intro W base args ds gs before Mx My awE _
 have rO : ∀ (j : Nat) t v, Tryz.f3.params[j]? = some t → args[j]? = some v → Value.okWide Tryz.prog W .any base t v := Mx
 have asq := My
 obtain ⟨p, q, tC, qa, rfl, awF, tN⟩ := My
 have iN : DataW.TrodAll enc Tryz.prog W 0 (fun _ => true) true Tryz.f3.params.toList args.toList ds p := tC
 rw [Tryz.params3] at iN rO
 obtain ⟨v0, awG, d0, awH, h5, yW, l4, rfl, rfl, ba, ao⟩ := trodAll_cons iN
 obtain ⟨rfl, rfl, rfl⟩ := trodAll_nil ao
 obtain rfl : args = #[v0] := by cases args; simp_all
 obtain ⟨rfl, rfl⟩ := trodVars_none qa
 have vi : ∀ x ∈ h5, x.block < W.heap.size := by obtain ⟨m, hm⟩ := ba; exact DataW.trod_lt m _ _ _ hm
 obtain ⟨fS, hG, zr⟩ := Ri (es := fun y : km => [.slice (y.bQ.map fL), .slice (y.cX.map fM), .slice (y.gX.map fE), .slice (y.gQ.map bu), .slice (y.gR.map bu)]) Tryz.underlying27 aso (rO 0 27 v0 rfl rfl) ba
 clear tC Mx
 refine (walk W fS zr v0 hG).mono fun e awI ⟨he, Mz⟩ => ?_
 subst he
 exact ⟨_, rfl, _, _, _, [], _, [], asq, trodAll_mk1 (shut_bool Tryz.underlying4 _), (trodAll_cons_mk (Below.trod laidOut (by kernel_rfl) (of_decide_eq_true (by kernel_rfl)) ba Mz vi) trodAll_mk0), rfl, Mz.frame _, fun h => by cases h⟩
def Cl : List Char := List.map Char.ofNat [104, 97, 114, 110, 101, 115, 115, 32, 57, 55, 56, 50, 100, 100, 55, 99, 57, 99, 99, 52, 54, 102, 50, 102, 49, 55, 50, 102, 49, 52, 56, 54, 101, 98, 57, 56, 98, 55, 51, 50, 49, 98, 48, 97, 55, 101, 56, 51, 48, 54, 101, 55, 48, 54, 56, 100, 57, 99, 56, 51, 53, 56, 97, 52, 57, 53, 99, 52, 56, 99, 97, 56, 32, 99, 117, 116, 32, 97, 116, 32, 108, 111, 111, 112, 46, 101, 120, 97, 109, 112, 108, 101, 47, 103, 48, 49, 48, 55, 53, 47, 108, 97, 119, 115, 46, 70, 110, 69, 120, 97, 99, 116, 80, 108, 97, 99, 101, 115, 79, 102, 32, 108, 111, 111, 112, 46, 101, 120, 97, 109, 112, 108, 101, 47, 103, 48, 49, 48, 55, 53, 47, 108, 97, 119, 115, 46, 70, 110, 69, 120, 97, 99, 116, 82, 101, 109, 111, 118, 101, 85, 110, 117, 115, 101, 100, 32, 108, 111, 111, 112, 46, 101, 120, 97, 109, 112, 108, 101, 47, 103, 48, 49, 48, 55, 53, 47, 108, 97, 119, 115, 46, 70, 110, 69, 120, 97, 99, 116, 83, 116, 97, 114, 116, 83, 116, 97, 116, 101, 32, 108, 111, 111, 112, 46, 101, 120, 97, 109, 112, 108, 101, 47, 103, 48, 49, 48, 55, 53, 47, 108, 97, 119, 115, 46, 70, 110, 69, 120, 97, 99, 116, 85, 115, 101, 100, 68, 101, 102, 105, 110, 105, 116, 105, 111, 110, 115]
def yx : List Char := List.map Char.ofNat [99, 117, 116]
theorem asr : Tryz.prog.initOrder = String.ofList Cl := by kernel_rfl
theorem F7 : Tryz.prog.initOrder.toList = Cl := by rw [asr]; exact String.toList_ofList
theorem MA : behindMainWord (wordsSigns Cl) = yx :: (behindMainWord (wordsSigns Cl)).tail := by kernel_rfl
theorem ass {P : Program} {L : List Char} {r : List (List Char)} (h : P.initOrder.toList = L) (hw : behindMainWord (wordsSigns L) = yx :: r) : P.make = some .cut := by
 unfold Program.make; rw [h, hw]; rfl
theorem ast {P : Program} {L : List Char} {r : List (List Char)} (h : P.initOrder.toList = L) (hw : behindMainWord (wordsSigns L) = yx :: r) (ai : P.laysLater = false) (aj : P.bearsReflect = false) (aP : P.doorFits [] = true) : P.mayEnter = true := by
 unfold Program.mayEnter; rw [h, hw]
 have e : stripLifts liftWords (yx :: r) = ([], yx :: r) := rfl
 simp only [e, ai, aj, aP]
 rfl
theorem asu : Tryz.prog.liftsFinal = false := by unfold Program.liftsFinal Program.headLifts; rw [F7]; kernel_rfl
theorem asv : Tryz.prog.mayEnter = true := ast F7 MA (by kernel_rfl) (by kernel_rfl) (by kernel_rfl)
theorem asw : Tryz.prog.make = some .cut := ass F7 MA
theorem asx : joinedFacts Tryz.prog 3 Tryz.f3 Rows.fnExactPlacesOfSpec Rows.fnExactPlacesOfRow = true := by
 unfold joinedFacts
 rw [asu, asv, asw]
 kernel_rfl
theorem over : Rows.fnExactPlacesOfRow.holds Tryz.pinned (OpenSpec.ofChange Rows.fnExactPlacesOfSpec) :=
 OpenClaim.holds_of_wide 3 Tryz.f3 rfl rfl rfl rfl rfl rfl rfl ⟨rfl, rfl, rfl, rfl, rfl⟩ rfl rfl rfl rfl rfl (by kernel_rfl) Tryz.func3 asx
  (of_decide_eq_true (by kernel_rfl)) (by unfold Func.isWrapper; first | (rw [if_pos (by decide +kernel)]; kernel_rfl) | (rw [if_neg (by decide +kernel)]; exact ⟨rfl, rfl⟩))
  (fun os started H enc _ => lifted os started H enc)
theorem proved : Rows.FnExactPlacesOfSaid := over
end Go.Proofs.YtbemmmimelklkaaGreat.fnExactPlacesOf
