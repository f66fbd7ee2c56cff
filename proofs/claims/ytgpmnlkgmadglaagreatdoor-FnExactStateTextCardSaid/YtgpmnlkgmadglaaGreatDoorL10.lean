/- Part of a proof that a law returns true for every input. No condition. -/
import Derived.Test.YtgpmnlkgmadglaaGreatDoorRows
import Derived.Test.YtgpmnlkgmadglaaGreatDoorTie
import Derived.Test.YtgpmnlkgmadglaaGreatDoorCards
import Derived.SevenTiedAt
import Derived.MakeChecks
import Derived.LaidMore
import Derived.Stop.Joined
import Derived.Test.YtgpmnlkgmadglaaGreatDoorW10
import Derived.Test.YtgpmnlkgmadglaaGreatDoorFwI
import Derived.Test.YtgpmnlkgmadglaaGreatDoorUX2
import Derived.WalkKit
import Derived.ProofKit
import Derived.OpenShut
import Derived.ChangeOld
import Derived.Below
import Derived.Carry
namespace Go.Proofs.YtgpmnlkgmadglaaGreatDoor.fnExactStateTextCard
open Go.ChangeShapes Go.WideShapes Go.ChangeAt Go.RowKit
open Go.c0 Go.eV
set_option linter.unusedVariables false
theorem own : ownKnob Tryz.prog.godebug = none := by kernel_rfl
theorem laidOut : laidOutB Tryz.prog = true := by kernel_rfl
theorem atS (os : Os) (args : Array Value) : laidMetH Tryz.prog Rows.fnExactStateTextRow.laid ((World.doorLaid Tryz.prog 400 os).forCall (fun _ _ => 0) ⟨#[], args, []⟩).memory :=
 laidMetH_of_parts3 (fuel := 8) (laidMet_of_run' 8 (by kernel_rfl) (by kernel_rfl)) (by kernel_rfl) (by kernel_rfl)
theorem u6 {H : Type} {enc : TypeId × Value → H} {w : World} {base : Nat} {sp : Nat → Bool} {held : Bool} : iU enc Tryz.prog w base sp held 9 (fun x : List UInt8 => .str x) (fun x : List UInt8 => x.length ≤ 9223372036854775807) := Sz Tryz.underlying9
theorem p8 {H : Type} {enc : TypeId × Value → H} {w : World} {base : Nat} {sp : Nat → Bool} {held : Bool} : iU enc Tryz.prog w base sp held 2 (fun x : Int => .int .i64 x) (fun x : Int => (-9223372036854775808 ≤ x ∧ x ≤ 9223372036854775807)) := Sy Tryz.underlying2
theorem atT {H : Type} {enc : TypeId × Value → H} {w : World} {base : Nat} {sp : Nat → Bool} {held : Bool} : iU enc Tryz.prog w base sp held 326 fH (fun x : gU => uz x) := by
 intro fuel cs x aq
 obtain ⟨xs, n, _, _, aR, aY, br⟩ := DataW.trod_struct Tryz.underlying326 aq
 have hj : cs.length = 2 := aR.trans (by kernel_rfl)
 obtain ⟨fs, w0, an⟩ := jM p8 (br 0 _ rfl) (by rw [List.getElem?_eq_getElem (by rw [aY]; decide)]; rfl)
 change au w (F0 w) (.int .i64 fs) ((cs.drop 0).take (Tryz.prog.cellsOf 2)) _ at an
 rw [show Tryz.prog.cellsOf 2 = 1 by kernel_rfl] at an
 obtain ⟨e1, h7, dB⟩ := jM p8 (br 1 _ rfl) (by rw [List.getElem?_eq_getElem (by rw [aY]; decide)]; rfl)
 change au w (F0 w) (.int .i64 e1) ((cs.drop 1).take (Tryz.prog.cellsOf 2)) _ at dB
 rw [show Tryz.prog.cellsOf 2 = 1 by kernel_rfl] at dB
 have key := r5 [(.int .i64 fs, 0, 1), (.int .i64 e1, 1, 1)] 0 (by rw [hj]; rfl) ⟨an, dB, trivial⟩
 refine ⟨⟨fs, e1⟩, ⟨w0, h7⟩, ?_⟩
 show au w (F0 w) (.agg [.int .i64 fs, .int .i64 e1]) cs _
 rw [au]
 exact key
theorem atU {H : Type} {enc : TypeId × Value → H} {w : World} {base : Nat} {sp : Nat → Bool} {held : Bool} : iU enc Tryz.prog w base sp held 179 (fun x : List gU => .slice (x.map fH)) (fun x : List gU => (x.length ≤ 9223372036854775807 ∧ ∀ y ∈ x, uz y)) := pQ (sz := 2) (ec := fH) Tryz.underlying179 (by kernel_rfl) (by decide) (fun _ => rfl) atT
theorem atV {H : Type} {enc : TypeId × Value → H} {w : World} {base : Nat} {sp : Nat → Bool} {held : Bool} : iU enc Tryz.prog w base sp held 180 (fun x : List (List gU) => .slice (x.map fQ)) (fun x : List (List gU) => (x.length ≤ 9223372036854775807 ∧ ∀ y ∈ x, (y.length ≤ 9223372036854775807 ∧ ∀ z ∈ y, uz z))) := pQ (sz := 1) (ec := fQ) Tryz.underlying180 (by kernel_rfl) (by decide) (fun _ => rfl) atU
theorem atW {H : Type} {enc : TypeId × Value → H} {w : World} {base : Nat} {sp : Nat → Bool} {held : Bool} : iU enc Tryz.prog w base sp held 298 gg (fun x : iB => wK x) := by
 intro fuel cs x aq
 obtain ⟨xs, n, _, _, aR, aY, br⟩ := DataW.trod_struct Tryz.underlying298 aq
 have hj : cs.length = 4 := aR.trans (by kernel_rfl)
 obtain ⟨fs, w0, an⟩ := jM p8 (br 0 _ rfl) (by rw [List.getElem?_eq_getElem (by rw [aY]; decide)]; rfl)
 change au w (F0 w) (.int .i64 fs) ((cs.drop 0).take (Tryz.prog.cellsOf 2)) _ at an
 rw [show Tryz.prog.cellsOf 2 = 1 by kernel_rfl] at an
 obtain ⟨e1, h7, dB⟩ := jM p8 (br 1 _ rfl) (by rw [List.getElem?_eq_getElem (by rw [aY]; decide)]; rfl)
 change au w (F0 w) (.int .i64 e1) ((cs.drop 1).take (Tryz.prog.cellsOf 2)) _ at dB
 rw [show Tryz.prog.cellsOf 2 = 1 by kernel_rfl] at dB
 obtain ⟨hD, iz, bg⟩ := jM u6 (br 2 _ rfl) (by rw [List.getElem?_eq_getElem (by rw [aY]; decide)]; rfl)
 change au w (F0 w) (.str hD) ((cs.drop 2).take (Tryz.prog.cellsOf 9)) _ at bg
 rw [show Tryz.prog.cellsOf 9 = 1 by kernel_rfl] at bg
 obtain ⟨oi, pR, dm⟩ := jM atV (br 3 _ rfl) (by rw [List.getElem?_eq_getElem (by rw [aY]; decide)]; rfl)
 change au w (F0 w) (.slice (oi.map fQ)) ((cs.drop 3).take (Tryz.prog.cellsOf 180)) _ at dm
 rw [show Tryz.prog.cellsOf 180 = 1 by kernel_rfl] at dm
 have key := r5 [(.int .i64 fs, 0, 1), (.int .i64 e1, 1, 1), (.str hD, 2, 1), (.slice (oi.map fQ), 3, 1)] 0 (by rw [hj]; rfl) ⟨an, dB, bg, dm, trivial⟩
 refine ⟨⟨fs, e1, hD, oi⟩, ⟨w0, h7, iz, pR⟩, ?_⟩
 show au w (F0 w) (.agg [.int .i64 fs, .int .i64 e1, .str hD, .slice (oi.map fQ)]) cs _
 rw [au]
 exact key
theorem atX {H : Type} {enc : TypeId × Value → H} {w : World} {base : Nat} {sp : Nat → Bool} {held : Bool} : iU enc Tryz.prog w base sp held 148 (fun x : List iB => .slice (x.map gg)) (fun x : List iB => (x.length ≤ 9223372036854775807 ∧ ∀ y ∈ x, wK y)) := pQ (sz := 4) (ec := gg) Tryz.underlying148 (by kernel_rfl) (by decide) (fun _ => rfl) atW
theorem atY {H : Type} {enc : TypeId × Value → H} {w : World} {base : Nat} {sp : Nat → Bool} {held : Bool} : iU enc Tryz.prog w base sp held 150 gC (fun x : iu => uA x) := by
 intro fuel cs x aq
 obtain ⟨xs, n, _, _, aR, aY, br⟩ := DataW.trod_struct Tryz.underlying150 aq
 have hj : cs.length = 3 := aR.trans (by kernel_rfl)
 obtain ⟨fs, w0, an⟩ := jM u6 (br 0 _ rfl) (by rw [List.getElem?_eq_getElem (by rw [aY]; decide)]; rfl)
 change au w (F0 w) (.str fs) ((cs.drop 0).take (Tryz.prog.cellsOf 9)) _ at an
 rw [show Tryz.prog.cellsOf 9 = 1 by kernel_rfl] at an
 obtain ⟨e1, h7, dB⟩ := jM p8 (br 1 _ rfl) (by rw [List.getElem?_eq_getElem (by rw [aY]; decide)]; rfl)
 change au w (F0 w) (.int .i64 e1) ((cs.drop 1).take (Tryz.prog.cellsOf 2)) _ at dB
 rw [show Tryz.prog.cellsOf 2 = 1 by kernel_rfl] at dB
 obtain ⟨hD, iz, bg⟩ := jM atX (br 2 _ rfl) (by rw [List.getElem?_eq_getElem (by rw [aY]; decide)]; rfl)
 change au w (F0 w) (.slice (hD.map gg)) ((cs.drop 2).take (Tryz.prog.cellsOf 148)) _ at bg
 rw [show Tryz.prog.cellsOf 148 = 1 by kernel_rfl] at bg
 have key := r5 [(.str fs, 0, 1), (.int .i64 e1, 1, 1), (.slice (hD.map gg), 2, 1)] 0 (by rw [hj]; rfl) ⟨an, dB, bg, trivial⟩
 refine ⟨⟨fs, e1, hD⟩, ⟨w0, h7, iz⟩, ?_⟩
 show au w (F0 w) (.agg [.str fs, .int .i64 e1, .slice (hD.map gg)]) cs _
 rw [au]
 exact key
theorem atZ {H : Type} {enc : TypeId × Value → H} {w : World} {base : Nat} {sp : Nat → Bool} {held : Bool} : iU enc Tryz.prog w base sp held 64 (fun x : List iu => .slice (x.map gC)) (fun x : List iu => (x.length ≤ 9223372036854775807 ∧ ∀ y ∈ x, uA y)) := pQ (sz := 3) (ec := gC) Tryz.underlying64 (by kernel_rfl) (by decide) (fun _ => rfl) atY
theorem Nx {H : Type} {enc : TypeId × Value → H} {w : World} {base : Nat} {sp : Nat → Bool} {held : Bool} : iU enc Tryz.prog w base sp held 22 (fun x : List Int => .slice (x.map bD)) (fun x : List Int => (x.length ≤ 9223372036854775807 ∧ ∀ y ∈ x, (-9223372036854775808 ≤ y ∧ y ≤ 9223372036854775807))) := pQ (sz := 1) (ec := bD) Tryz.underlying22 (by kernel_rfl) (by decide) (fun _ => rfl) p8
theorem at0 {H : Type} {enc : TypeId × Value → H} {w : World} {base : Nat} {sp : Nat → Bool} {held : Bool} : iU enc Tryz.prog w base sp held 241 gD (fun x : iC => wL x) := by
 intro fuel cs x aq
 obtain ⟨xs, n, _, _, aR, aY, br⟩ := DataW.trod_struct Tryz.underlying241 aq
 have hj : cs.length = 2 := aR.trans (by kernel_rfl)
 obtain ⟨fs, w0, an⟩ := jM p8 (br 0 _ rfl) (by rw [List.getElem?_eq_getElem (by rw [aY]; decide)]; rfl)
 change au w (F0 w) (.int .i64 fs) ((cs.drop 0).take (Tryz.prog.cellsOf 2)) _ at an
 rw [show Tryz.prog.cellsOf 2 = 1 by kernel_rfl] at an
 obtain ⟨e1, h7, dB⟩ := jM Nx (br 1 _ rfl) (by rw [List.getElem?_eq_getElem (by rw [aY]; decide)]; rfl)
 change au w (F0 w) (.slice (e1.map bD)) ((cs.drop 1).take (Tryz.prog.cellsOf 22)) _ at dB
 rw [show Tryz.prog.cellsOf 22 = 1 by kernel_rfl] at dB
 have key := r5 [(.int .i64 fs, 0, 1), (.slice (e1.map bD), 1, 1)] 0 (by rw [hj]; rfl) ⟨an, dB, trivial⟩
 refine ⟨⟨fs, e1⟩, ⟨w0, h7⟩, ?_⟩
 show au w (F0 w) (.agg [.int .i64 fs, .slice (e1.map bD)]) cs _
 rw [au]
 exact key
theorem at1 {H : Type} {enc : TypeId × Value → H} {w : World} {base : Nat} {sp : Nat → Bool} {held : Bool} : iU enc Tryz.prog w base sp held 83 (fun x : List iC => .slice (x.map gD)) (fun x : List iC => (x.length ≤ 9223372036854775807 ∧ ∀ y ∈ x, wL y)) := pQ (sz := 2) (ec := gD) Tryz.underlying83 (by kernel_rfl) (by decide) (fun _ => rfl) at0
theorem at2 {H : Type} {enc : TypeId × Value → H} {w : World} {base : Nat} {sp : Nat → Bool} {held : Bool} : iU enc Tryz.prog w base sp held 244 gw (fun x : iv => wM x) := by
 intro fuel cs x aq
 obtain ⟨xs, n, _, _, aR, aY, br⟩ := DataW.trod_struct Tryz.underlying244 aq
 have hj : cs.length = 3 := aR.trans (by kernel_rfl)
 obtain ⟨fs, w0, an⟩ := jM u6 (br 0 _ rfl) (by rw [List.getElem?_eq_getElem (by rw [aY]; decide)]; rfl)
 change au w (F0 w) (.str fs) ((cs.drop 0).take (Tryz.prog.cellsOf 9)) _ at an
 rw [show Tryz.prog.cellsOf 9 = 1 by kernel_rfl] at an
 obtain ⟨e1, h7, dB⟩ := jM u6 (br 1 _ rfl) (by rw [List.getElem?_eq_getElem (by rw [aY]; decide)]; rfl)
 change au w (F0 w) (.str e1) ((cs.drop 1).take (Tryz.prog.cellsOf 9)) _ at dB
 rw [show Tryz.prog.cellsOf 9 = 1 by kernel_rfl] at dB
 obtain ⟨hD, iz, bg⟩ := jM u6 (br 2 _ rfl) (by rw [List.getElem?_eq_getElem (by rw [aY]; decide)]; rfl)
 change au w (F0 w) (.str hD) ((cs.drop 2).take (Tryz.prog.cellsOf 9)) _ at bg
 rw [show Tryz.prog.cellsOf 9 = 1 by kernel_rfl] at bg
 have key := r5 [(.str fs, 0, 1), (.str e1, 1, 1), (.str hD, 2, 1)] 0 (by rw [hj]; rfl) ⟨an, dB, bg, trivial⟩
 refine ⟨⟨fs, e1, hD⟩, ⟨w0, h7, iz⟩, ?_⟩
 show au w (F0 w) (.agg [.str fs, .str e1, .str hD]) cs _
 rw [au]
 exact key
theorem at3 {H : Type} {enc : TypeId × Value → H} {w : World} {base : Nat} {sp : Nat → Bool} {held : Bool} : iU enc Tryz.prog w base sp held 84 (fun x : List iv => .slice (x.map gw)) (fun x : List iv => (x.length ≤ 9223372036854775807 ∧ ∀ y ∈ x, wM y)) := pQ (sz := 3) (ec := gw) Tryz.underlying84 (by kernel_rfl) (by decide) (fun _ => rfl) at2
theorem Ny {H : Type} {enc : TypeId × Value → H} {w : World} {base : Nat} {sp : Nat → Bool} {held : Bool} : iU enc Tryz.prog w base sp held 49 (fun x : List (List UInt8) => .slice (x.map bw)) (fun x : List (List UInt8) => (x.length ≤ 9223372036854775807 ∧ ∀ y ∈ x, y.length ≤ 9223372036854775807)) := pQ (sz := 1) (ec := bw) Tryz.underlying49 (by kernel_rfl) (by decide) (fun _ => rfl) u6
theorem at4 {H : Type} {enc : TypeId × Value → H} {w : World} {base : Nat} {sp : Nat → Bool} {held : Bool} : iU enc Tryz.prog w base sp held 86 mo (fun x : kx => wN x) := by
 intro fuel cs x aq
 obtain ⟨xs, n, _, _, aR, aY, br⟩ := DataW.trod_struct Tryz.underlying86 aq
 have hj : cs.length = 5 := aR.trans (by kernel_rfl)
 obtain ⟨fs, w0, an⟩ := jM atZ (br 0 _ rfl) (by rw [List.getElem?_eq_getElem (by rw [aY]; decide)]; rfl)
 change au w (F0 w) (.slice (fs.map gC)) ((cs.drop 0).take (Tryz.prog.cellsOf 64)) _ at an
 rw [show Tryz.prog.cellsOf 64 = 1 by kernel_rfl] at an
 obtain ⟨e1, h7, dB⟩ := jM at1 (br 1 _ rfl) (by rw [List.getElem?_eq_getElem (by rw [aY]; decide)]; rfl)
 change au w (F0 w) (.slice (e1.map gD)) ((cs.drop 1).take (Tryz.prog.cellsOf 83)) _ at dB
 rw [show Tryz.prog.cellsOf 83 = 1 by kernel_rfl] at dB
 obtain ⟨hD, iz, bg⟩ := jM at3 (br 2 _ rfl) (by rw [List.getElem?_eq_getElem (by rw [aY]; decide)]; rfl)
 change au w (F0 w) (.slice (hD.map gw)) ((cs.drop 2).take (Tryz.prog.cellsOf 84)) _ at bg
 rw [show Tryz.prog.cellsOf 84 = 1 by kernel_rfl] at bg
 obtain ⟨oi, pR, dm⟩ := jM Ny (br 3 _ rfl) (by rw [List.getElem?_eq_getElem (by rw [aY]; decide)]; rfl)
 change au w (F0 w) (.slice (oi.map bw)) ((cs.drop 3).take (Tryz.prog.cellsOf 49)) _ at dm
 rw [show Tryz.prog.cellsOf 49 = 1 by kernel_rfl] at dm
 obtain ⟨B9, Gq, ch⟩ := jM Ny (br 4 _ rfl) (by rw [List.getElem?_eq_getElem (by rw [aY]; decide)]; rfl)
 change au w (F0 w) (.slice (B9.map bw)) ((cs.drop 4).take (Tryz.prog.cellsOf 49)) _ at ch
 rw [show Tryz.prog.cellsOf 49 = 1 by kernel_rfl] at ch
 have key := r5 [(.slice (fs.map gC), 0, 1), (.slice (e1.map gD), 1, 1), (.slice (hD.map gw), 2, 1), (.slice (oi.map bw), 3, 1), (.slice (B9.map bw), 4, 1)] 0 (by rw [hj]; rfl) ⟨an, dB, bg, dm, ch, trivial⟩
 refine ⟨⟨fs, e1, hD, oi, B9⟩, ⟨w0, h7, iz, pR, Gq⟩, ?_⟩
 show au w (F0 w) (.agg [.slice (fs.map gC), .slice (e1.map gD), .slice (hD.map gw), .slice (oi.map bw), .slice (B9.map bw)]) cs _
 rw [au]
 exact key
theorem at5 {H : Type} {enc : TypeId × Value → H} {w : World} {base : Nat} {sp : Nat → Bool} {held : Bool} : iU enc Tryz.prog w base sp held 66 hH (fun x : iw => uB x) := by
 intro fuel cs x aq
 obtain ⟨xs, n, _, _, aR, aY, br⟩ := DataW.trod_struct Tryz.underlying66 aq
 have hj : cs.length = 3 := aR.trans (by kernel_rfl)
 obtain ⟨fs, w0, an⟩ := jM p8 (br 0 _ rfl) (by rw [List.getElem?_eq_getElem (by rw [aY]; decide)]; rfl)
 change au w (F0 w) (.int .i64 fs) ((cs.drop 0).take (Tryz.prog.cellsOf 2)) _ at an
 rw [show Tryz.prog.cellsOf 2 = 1 by kernel_rfl] at an
 obtain ⟨e1, h7, dB⟩ := jM p8 (br 1 _ rfl) (by rw [List.getElem?_eq_getElem (by rw [aY]; decide)]; rfl)
 change au w (F0 w) (.int .i64 e1) ((cs.drop 1).take (Tryz.prog.cellsOf 2)) _ at dB
 rw [show Tryz.prog.cellsOf 2 = 1 by kernel_rfl] at dB
 obtain ⟨hD, iz, bg⟩ := jM Nx (br 2 _ rfl) (by rw [List.getElem?_eq_getElem (by rw [aY]; decide)]; rfl)
 change au w (F0 w) (.slice (hD.map bD)) ((cs.drop 2).take (Tryz.prog.cellsOf 22)) _ at bg
 rw [show Tryz.prog.cellsOf 22 = 1 by kernel_rfl] at bg
 have key := r5 [(.int .i64 fs, 0, 1), (.int .i64 e1, 1, 1), (.slice (hD.map bD), 2, 1)] 0 (by rw [hj]; rfl) ⟨an, dB, bg, trivial⟩
 refine ⟨⟨fs, e1, hD⟩, ⟨w0, h7, iz⟩, ?_⟩
 show au w (F0 w) (.agg [.int .i64 fs, .int .i64 e1, .slice (hD.map bD)]) cs _
 rw [au]
 exact key
theorem at6 {H : Type} {enc : TypeId × Value → H} {w : World} {base : Nat} {sp : Nat → Bool} {held : Bool} : iU enc Tryz.prog w base sp held 87 (fun x : List iw => .slice (x.map hH)) (fun x : List iw => (x.length ≤ 9223372036854775807 ∧ ∀ y ∈ x, uB y)) := pQ (sz := 3) (ec := hH) Tryz.underlying87 (by kernel_rfl) (by decide) (fun _ => rfl) at5
theorem walk (w : World) (fs : kx) (y2 : wN fs) (v0 : Value) (e1 : List iw) (qu : (e1.length ≤ 9223372036854775807 ∧ ∀ y ∈ e1, uB y)) (v1 : Value) (g0 : Arg w (.agg [.slice (fs.df.map gC), .slice (fs.cY.map gD), .slice (fs.hR.map gw), .slice (fs.hF.map bw), .slice (fs.hG.map bw)]) v0) (g1 : Arg w (.slice (e1.map hH)) v1) :
  Calls Tryz.prog 10 #[v0, v1] w fun e aL => e = .returned (.bool true) ∧ RowKit.Below w.heap.size w aL :=
 bh.law (C := aE) (atQ fs e1 true (at7 fs e1 y2 qu)) Tryz.func10 rfl rfl (.cons g0 (.cons g1 (.nil)))
set_option maxRecDepth 100000 in
theorem lifted (os : Os) (started : os.Started) (H : Type) (enc : TypeId × Value → H) :
  ReturnsInHanded {} Tryz.checked os 10 .any (fun w args => (Rows.fnExactStateTextSpec.pre enc Tryz.prog Tryz.f10 Rows.fnExactStateTextRow.domain false w args ∧ laidMetH Tryz.prog Rows.fnExactStateTextRow.laid w) ∧ sizedMet enc Tryz.prog Tryz.f10 (OpenSpec.ofChange Rows.fnExactStateTextSpec) false w args) (Rows.fnExactStateTextSpec.post enc Tryz.prog Tryz.f10 false true false false) := by
 refine returnsInHanded_of_change_and (C := Tryz.checked) (X := fun w _ => laidMetH Tryz.prog Rows.fnExactStateTextRow.laid w) (fun _ _ _ jW h => h.of_heap jW) own started (by kernel_rfl) Tryz.func10
  (ChangeSpec.witness_shaped (enc := enc) (C := Tryz.checked) (os := os) (X := fun w _ => laidMetH Tryz.prog Rows.fnExactStateTextRow.laid w) false (World.doorLaid Tryz.prog 400 os) #[.agg #[.slice none 0 0, .slice none 0 0, .slice none 0 0, .slice none 0 0, .slice none 0 0], .slice none 0 0] 8 rfl (World.shaped_of_RefB (by kernel_rfl) (by kernel_rfl)) (by kernel_rfl) (by kernel_rfl) (by kernel_rfl) (atS os _)) ?_
 intro W base args ds gs before Nz NA _ _ qA _
 have o8 : ∀ (j : Nat) t v, Tryz.f10.params[j]? = some t → args[j]? = some v → Value.okWide Tryz.prog W .any base t v := Nz
 have aua := NA
 obtain ⟨p, q, ts, nS, rfl, ayn, tE⟩ := NA
 have i6 : DataW.TrodAll enc Tryz.prog W 0 (fun _ => true) true Tryz.f10.params.toList args.toList ds p := ts
 rw [Tryz.params10] at i6 o8
 obtain ⟨v0, ayo, d0, ayp, hL, yB, mb, rfl, rfl, bc, an⟩ := trodAll_cons i6
 obtain ⟨v1, ayq, d1, ayr, fp, gM, rfl, rfl, rfl, ag, dB⟩ := trodAll_cons an
 obtain ⟨rfl, rfl, rfl⟩ := trodAll_nil dB
 obtain rfl : args = #[v0, v1] := by cases args; simp_all
 obtain ⟨rfl, rfl⟩ := trodVars_none nS
 have u7 : ∀ x ∈ hL, x.block < W.heap.size := by obtain ⟨m, hm⟩ := bc; exact DataW.trod_lt m _ _ _ hm
 obtain ⟨fs, g0, y2⟩ := SE (es := fun y : kx => [.slice (y.df.map gC), .slice (y.cY.map gD), .slice (y.hR.map gw), .slice (y.hF.map bw), .slice (y.hG.map bw)]) Tryz.underlying86 at4 (o8 0 86 v0 rfl rfl) bc
 have aub : ∀ x ∈ fp, x.block < W.heap.size := by obtain ⟨m, hm⟩ := ag; exact DataW.trod_lt m _ _ _ hm
 obtain ⟨e1, g1, qu⟩ := SD Tryz.underlying87 at6 (o8 1 87 v1 rfl rfl) ag
 clear ts Nz
 refine (walk W fs y2 v0 e1 qu v1 g0 g1).mono fun e ays ⟨he, Gr⟩ => ?_
 subst he
 exact ⟨_, rfl, _, _, _, [], _, [], aua, trodAll_mk1 (shut_bool Tryz.underlying4 _), (trodAll_cons_mk (Below.trod laidOut (by kernel_rfl) (of_decide_eq_true (by kernel_rfl)) bc Gr u7) (trodAll_cons_mk (Below.trod laidOut (by kernel_rfl) (of_decide_eq_true (by kernel_rfl)) ag Gr aub) trodAll_mk0)), rfl, Gr.frame _, fun h => by cases h⟩
def B_ : List Char := List.map Char.ofNat [104, 97, 114, 110, 101, 115, 115, 32, 52, 50, 98, 53, 99, 48, 51, 49, 57, 50, 102, 100, 50, 50, 101, 50, 99, 97, 50, 57, 101, 98, 57, 100, 54, 54, 101, 49, 49, 49, 51, 57, 50, 51, 98, 55, 101, 48, 99, 99, 50, 98, 102, 52, 55, 97, 98, 53, 56, 55, 102, 55, 53, 97, 102, 97, 97, 54, 99, 51, 101, 98, 102, 100, 32, 99, 117, 116, 32, 97, 116, 32, 108, 111, 111, 112, 46, 101, 120, 97, 109, 112, 108, 101, 47, 103, 48, 49, 48, 55, 53, 47, 108, 97, 119, 115, 46, 70, 110, 69, 120, 97, 99, 116, 76, 105, 110, 101, 97, 114, 77, 111, 118, 101, 115, 32, 108, 111, 111, 112, 46, 101, 120, 97, 109, 112, 108, 101, 47, 103, 48, 49, 48, 55, 53, 47, 108, 97, 119, 115, 46, 70, 110, 69, 120, 97, 99, 116, 76, 111, 103, 84, 101, 120, 116, 32, 108, 111, 111, 112, 46, 101, 120, 97, 109, 112, 108, 101, 47, 103, 48, 49, 48, 55, 53, 47, 108, 97, 119, 115, 46, 70, 110, 69, 120, 97, 99, 116, 82, 111, 117, 110, 100, 115, 84, 111, 68, 101, 108, 105, 118, 101, 114, 32, 108, 111, 111, 112, 46, 101, 120, 97, 109, 112, 108, 101, 47, 103, 48, 49, 48, 55, 53, 47, 108, 97, 119, 115, 46, 70, 110, 69, 120, 97, 99, 116, 82, 101, 99, 111, 118, 101, 114, 76, 111, 103, 32, 108, 111, 111, 112, 46, 101, 120, 97, 109, 112, 108, 101, 47, 103, 48, 49, 48, 55, 53, 47, 108, 97, 119, 115, 46, 70, 110, 69, 120, 97, 99, 116, 82, 101, 97, 100, 76, 111, 103, 32, 108, 111, 111, 112, 46, 101, 120, 97, 109, 112, 108, 101, 47, 103, 48, 49, 48, 55, 53, 47, 108, 97, 119, 115, 46, 70, 110, 69, 120, 97, 99, 116, 68, 101, 108, 105, 118, 101, 114, 76, 97, 98, 101, 108, 115, 32, 108, 111, 111, 112, 46, 101, 120, 97, 109, 112, 108, 101, 47, 103, 48, 49, 48, 55, 53, 47, 108, 97, 119, 115, 46, 70, 110, 69, 120, 97, 99, 116, 83, 116, 101, 112, 115, 79, 102, 32, 108, 111, 111, 112, 46, 101, 120, 97, 109, 112, 108, 101, 47, 103, 48, 49, 48, 55, 53, 47, 108, 97, 119, 115, 46, 70, 110, 69, 120, 97, 99, 116, 83, 116, 97, 116, 101, 84, 101, 120, 116]
def yh : List Char := List.map Char.ofNat [99, 117, 116]
theorem auc : Tryz.prog.initOrder = String.ofList B_ := by kernel_rfl
theorem Ca : Tryz.prog.initOrder.toList = B_ := by rw [auc]; exact String.toList_ofList
theorem NB : behindMainWord (wordsSigns B_) = yh :: (behindMainWord (wordsSigns B_)).tail := by kernel_rfl
theorem aud {P : Program} {L : List Char} {r : List (List Char)} (h : P.initOrder.toList = L) (hw : behindMainWord (wordsSigns L) = yh :: r) : P.make = some .cut := by
 unfold Program.make; rw [h, hw]; rfl
theorem aue {P : Program} {L : List Char} {r : List (List Char)} (h : P.initOrder.toList = L) (hw : behindMainWord (wordsSigns L) = yh :: r) (ag : P.laysLater = false) (ah : P.bearsReflect = false) (aI : P.doorFits [] = true) : P.mayEnter = true := by
 unfold Program.mayEnter; rw [h, hw]
 have e : stripLifts liftWords (yh :: r) = ([], yh :: r) := rfl
 simp only [e, ag, ah, aI]
 rfl
theorem auf : Tryz.prog.liftsFinal = false := by unfold Program.liftsFinal Program.headLifts; rw [Ca]; kernel_rfl
theorem aug : Tryz.prog.mayEnter = true := aue Ca NB (by kernel_rfl) (by kernel_rfl) (by kernel_rfl)
theorem auh : Tryz.prog.make = some .cut := aud Ca NB
theorem aui : joinedFacts Tryz.prog 10 Tryz.f10 Rows.fnExactStateTextSpec Rows.fnExactStateTextRow = true := by
 unfold joinedFacts
 rw [auf, aug, auh]
 kernel_rfl
theorem over : Rows.fnExactStateTextRow.holds Tryz.pinned (OpenSpec.ofChange Rows.fnExactStateTextSpec) :=
 OpenClaim.holds_of_wide 10 Tryz.f10 rfl rfl rfl rfl rfl rfl rfl ⟨rfl, rfl, rfl, rfl, rfl⟩ rfl rfl rfl rfl rfl (by kernel_rfl) Tryz.func10 aui
  (of_decide_eq_true (by kernel_rfl)) (by unfold Func.isWrapper; first | (rw [if_pos (by decide +kernel)]; kernel_rfl) | (rw [if_neg (by decide +kernel)]; exact ⟨rfl, rfl⟩))
  (fun os started H enc _ => lifted os started H enc)
theorem auj : Tryz.prog.mainIs = some (Rows.fnExactStateTextCard.stood.harness.1, Rows.fnExactStateTextCard.stood.harness.2.toList) := by
 unfold Program.mainIs
 rw [Ca]
 kernel_rfl
theorem proved : Rows.FnExactStateTextCardSaid :=
 Claim7.holds_tied_plain_at .later [] Rows.fnExactStateTextCard.laidKinds true Rows.fnExactStateTextCard.stood.harness true
  over (fun _ h => by cases h) (by kernel_rfl) (fun _ h => by cases h) fnExactStateText_row_tie rfl ⟨rfl, rfl⟩ auj rfl
  (fun f fn br auk => by
   obtain rfl : f = 10 := Option.some.inj ((show Tryz.prog.funcNamed Rows.fnExactStateTextRow.func = some 10 by kernel_rfl).symm.trans br) |>.symm
   obtain rfl : fn = Tryz.f10 := (Option.some.inj (Tryz.func10.symm.trans auk)).symm
   exact ⟨by kernel_rfl, fun j t bb => by
    rw [Tryz.params10] at bb
    have hm : t ∈ [86, 87] := by simpa using Array.mem_of_getElem? bb
    have l6 : ([86, 87].all fun u => !Tryz.prog.wantsStandIn u) = true := by kernel_rfl
    exact (show Tryz.prog.wantsStandIn t = false by simpa using List.all_eq_true.1 l6 t hm)⟩)
  (by kernel_rfl)
end Go.Proofs.YtgpmnlkgmadglaaGreatDoor.fnExactStateTextCard
