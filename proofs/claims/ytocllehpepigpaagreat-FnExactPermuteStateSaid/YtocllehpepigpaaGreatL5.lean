/- Part of a proof that a law returns true for every input. No condition. -/
import Derived.Test.YtocllehpepigpaaGreatRows
import Derived.Test.YtocllehpepigpaaGreatW5
import Derived.Test.YtocllehpepigpaaGreatFwI
import Derived.Test.YtocllehpepigpaaGreatUZ4
import Derived.WalkKit
import Derived.ProofKit
import Derived.OpenShut
import Derived.ChangeOld
import Derived.Below
import Derived.Carry
namespace Go.Proofs.YtocllehpepigpaaGreat.fnExactPermuteState
open Go.ChangeShapes Go.WideShapes Go.ChangeAt Go.RowKit
open Go.dg Go.e1
set_option linter.unusedVariables false
theorem own : ownKnob Tryz.prog.godebug = none := by kernel_rfl
theorem laidOut : laidOutB Tryz.prog = true := by kernel_rfl
theorem wF {H : Type} {enc : TypeId × Value → H} {w : World} {base : Nat} {sp : Nat → Bool} {held : Bool} : i_ enc Tryz.prog w base sp held 9 (fun x : List UInt8 => .str x) (fun x : List UInt8 => x.length ≤ 9223372036854775807) := Uv Tryz.underlying9
theorem qW {H : Type} {enc : TypeId × Value → H} {w : World} {base : Nat} {sp : Nat → Bool} {held : Bool} : i_ enc Tryz.prog w base sp held 2 (fun x : Int => .int .i64 x) (fun x : Int => (-9223372036854775808 ≤ x ∧ x ≤ 9223372036854775807)) := Uu Tryz.underlying2
theorem aym {H : Type} {enc : TypeId × Value → H} {w : World} {base : Nat} {sp : Nat → Bool} {held : Bool} : i_ enc Tryz.prog w base sp held 316 gn (fun x : hz => vP x) := by
 intro fuel cs x aq
 obtain ⟨xs, n, _, _, hl, a_, bF⟩ := DataW.trod_struct Tryz.underlying316 aq
 have hh : cs.length = 2 := hl.trans (by kernel_rfl)
 obtain ⟨fF, w0, an⟩ := j3 qW (bF 0 _ rfl) (by rw [List.getElem?_eq_getElem (by rw [a_]; decide)]; rfl)
 change aw w (F0 w) (.int .i64 fF) ((cs.drop 0).take (Tryz.prog.cellsOf 2)) _ at an
 rw [show Tryz.prog.cellsOf 2 = 1 by kernel_rfl] at an
 obtain ⟨e4, fP, dK⟩ := j3 qW (bF 1 _ rfl) (by rw [List.getElem?_eq_getElem (by rw [a_]; decide)]; rfl)
 change aw w (F0 w) (.int .i64 e4) ((cs.drop 1).take (Tryz.prog.cellsOf 2)) _ at dK
 rw [show Tryz.prog.cellsOf 2 = 1 by kernel_rfl] at dK
 have key := s0 [(.int .i64 fF, 0, 1), (.int .i64 e4, 1, 1)] 0 (by rw [hh]; rfl) ⟨an, dK, trivial⟩
 refine ⟨⟨fF, e4⟩, ⟨w0, fP⟩, ?_⟩
 show aw w (F0 w) (.agg [.int .i64 fF, .int .i64 e4]) cs _
 rw [aw]
 exact key
theorem ayn {H : Type} {enc : TypeId × Value → H} {w : World} {base : Nat} {sp : Nat → Bool} {held : Bool} : i_ enc Tryz.prog w base sp held 301 (fun x : List hz => .slice (x.map gn)) (fun x : List hz => (x.length ≤ 9223372036854775807 ∧ ∀ y ∈ x, vP y)) := qy (sz := 2) (ec := gn) Tryz.underlying301 (by kernel_rfl) (by decide) (fun _ => rfl) aym
theorem ayo {H : Type} {enc : TypeId × Value → H} {w : World} {base : Nat} {sp : Nat → Bool} {held : Bool} : i_ enc Tryz.prog w base sp held 218 (fun x : List (List hz) => .slice (x.map gz)) (fun x : List (List hz) => (x.length ≤ 9223372036854775807 ∧ ∀ y ∈ x, (y.length ≤ 9223372036854775807 ∧ ∀ z ∈ y, vP z))) := qy (sz := 1) (ec := gz) Tryz.underlying218 (by kernel_rfl) (by decide) (fun _ => rfl) ayn
theorem ayp {H : Type} {enc : TypeId × Value → H} {w : World} {base : Nat} {sp : Nat → Bool} {held : Bool} : i_ enc Tryz.prog w base sp held 220 gL (fun x : iR => x_ x) := by
 intro fuel cs x aq
 obtain ⟨xs, n, _, _, hl, a_, bF⟩ := DataW.trod_struct Tryz.underlying220 aq
 have hh : cs.length = 4 := hl.trans (by kernel_rfl)
 obtain ⟨fF, w0, an⟩ := j3 qW (bF 0 _ rfl) (by rw [List.getElem?_eq_getElem (by rw [a_]; decide)]; rfl)
 change aw w (F0 w) (.int .i64 fF) ((cs.drop 0).take (Tryz.prog.cellsOf 2)) _ at an
 rw [show Tryz.prog.cellsOf 2 = 1 by kernel_rfl] at an
 obtain ⟨e4, fP, dK⟩ := j3 qW (bF 1 _ rfl) (by rw [List.getElem?_eq_getElem (by rw [a_]; decide)]; rfl)
 change aw w (F0 w) (.int .i64 e4) ((cs.drop 1).take (Tryz.prog.cellsOf 2)) _ at dK
 rw [show Tryz.prog.cellsOf 2 = 1 by kernel_rfl] at dK
 obtain ⟨fT, g8, bj⟩ := j3 wF (bF 2 _ rfl) (by rw [List.getElem?_eq_getElem (by rw [a_]; decide)]; rfl)
 change aw w (F0 w) (.str fT) ((cs.drop 2).take (Tryz.prog.cellsOf 9)) _ at bj
 rw [show Tryz.prog.cellsOf 9 = 1 by kernel_rfl] at bj
 obtain ⟨kD, nz, dD⟩ := j3 ayo (bF 3 _ rfl) (by rw [List.getElem?_eq_getElem (by rw [a_]; decide)]; rfl)
 change aw w (F0 w) (.slice (kD.map gz)) ((cs.drop 3).take (Tryz.prog.cellsOf 218)) _ at dD
 rw [show Tryz.prog.cellsOf 218 = 1 by kernel_rfl] at dD
 have key := s0 [(.int .i64 fF, 0, 1), (.int .i64 e4, 1, 1), (.str fT, 2, 1), (.slice (kD.map gz), 3, 1)] 0 (by rw [hh]; rfl) ⟨an, dK, bj, dD, trivial⟩
 refine ⟨⟨fF, e4, fT, kD⟩, ⟨w0, fP, g8, nz⟩, ?_⟩
 show aw w (F0 w) (.agg [.int .i64 fF, .int .i64 e4, .str fT, .slice (kD.map gz)]) cs _
 rw [aw]
 exact key
theorem ayq {H : Type} {enc : TypeId × Value → H} {w : World} {base : Nat} {sp : Nat → Bool} {held : Bool} : i_ enc Tryz.prog w base sp held 107 (fun x : List iR => .slice (x.map gL)) (fun x : List iR => (x.length ≤ 9223372036854775807 ∧ ∀ y ∈ x, x_ y)) := qy (sz := 4) (ec := gL) Tryz.underlying107 (by kernel_rfl) (by decide) (fun _ => rfl) ayp
theorem ayr {H : Type} {enc : TypeId × Value → H} {w : World} {base : Nat} {sp : Nat → Bool} {held : Bool} : i_ enc Tryz.prog w base sp held 109 g9 (fun x : iE => vQ x) := by
 intro fuel cs x aq
 obtain ⟨xs, n, _, _, hl, a_, bF⟩ := DataW.trod_struct Tryz.underlying109 aq
 have hh : cs.length = 3 := hl.trans (by kernel_rfl)
 obtain ⟨fF, w0, an⟩ := j3 wF (bF 0 _ rfl) (by rw [List.getElem?_eq_getElem (by rw [a_]; decide)]; rfl)
 change aw w (F0 w) (.str fF) ((cs.drop 0).take (Tryz.prog.cellsOf 9)) _ at an
 rw [show Tryz.prog.cellsOf 9 = 1 by kernel_rfl] at an
 obtain ⟨e4, fP, dK⟩ := j3 qW (bF 1 _ rfl) (by rw [List.getElem?_eq_getElem (by rw [a_]; decide)]; rfl)
 change aw w (F0 w) (.int .i64 e4) ((cs.drop 1).take (Tryz.prog.cellsOf 2)) _ at dK
 rw [show Tryz.prog.cellsOf 2 = 1 by kernel_rfl] at dK
 obtain ⟨fT, g8, bj⟩ := j3 ayq (bF 2 _ rfl) (by rw [List.getElem?_eq_getElem (by rw [a_]; decide)]; rfl)
 change aw w (F0 w) (.slice (fT.map gL)) ((cs.drop 2).take (Tryz.prog.cellsOf 107)) _ at bj
 rw [show Tryz.prog.cellsOf 107 = 1 by kernel_rfl] at bj
 have key := s0 [(.str fF, 0, 1), (.int .i64 e4, 1, 1), (.slice (fT.map gL), 2, 1)] 0 (by rw [hh]; rfl) ⟨an, dK, bj, trivial⟩
 refine ⟨⟨fF, e4, fT⟩, ⟨w0, fP, g8⟩, ?_⟩
 show aw w (F0 w) (.agg [.str fF, .int .i64 e4, .slice (fT.map gL)]) cs _
 rw [aw]
 exact key
theorem ays {H : Type} {enc : TypeId × Value → H} {w : World} {base : Nat} {sp : Nat → Bool} {held : Bool} : i_ enc Tryz.prog w base sp held 22 (fun x : List iE => .slice (x.map g9)) (fun x : List iE => (x.length ≤ 9223372036854775807 ∧ ∀ y ∈ x, vQ y)) := qy (sz := 3) (ec := g9) Tryz.underlying22 (by kernel_rfl) (by decide) (fun _ => rfl) ayr
theorem H2 {H : Type} {enc : TypeId × Value → H} {w : World} {base : Nat} {sp : Nat → Bool} {held : Bool} : i_ enc Tryz.prog w base sp held 46 (fun x : List Int => .slice (x.map a1)) (fun x : List Int => (x.length ≤ 9223372036854775807 ∧ ∀ y ∈ x, (-9223372036854775808 ≤ y ∧ y ≤ 9223372036854775807))) := qy (sz := 1) (ec := a1) Tryz.underlying46 (by kernel_rfl) (by decide) (fun _ => rfl) qW
theorem ayt {H : Type} {enc : TypeId × Value → H} {w : World} {base : Nat} {sp : Nat → Bool} {held : Bool} : i_ enc Tryz.prog w base sp held 111 g_ (fun x : iS => ya x) := by
 intro fuel cs x aq
 obtain ⟨xs, n, _, _, hl, a_, bF⟩ := DataW.trod_struct Tryz.underlying111 aq
 have hh : cs.length = 2 := hl.trans (by kernel_rfl)
 obtain ⟨fF, w0, an⟩ := j3 qW (bF 0 _ rfl) (by rw [List.getElem?_eq_getElem (by rw [a_]; decide)]; rfl)
 change aw w (F0 w) (.int .i64 fF) ((cs.drop 0).take (Tryz.prog.cellsOf 2)) _ at an
 rw [show Tryz.prog.cellsOf 2 = 1 by kernel_rfl] at an
 obtain ⟨e4, fP, dK⟩ := j3 H2 (bF 1 _ rfl) (by rw [List.getElem?_eq_getElem (by rw [a_]; decide)]; rfl)
 change aw w (F0 w) (.slice (e4.map a1)) ((cs.drop 1).take (Tryz.prog.cellsOf 46)) _ at dK
 rw [show Tryz.prog.cellsOf 46 = 1 by kernel_rfl] at dK
 have key := s0 [(.int .i64 fF, 0, 1), (.slice (e4.map a1), 1, 1)] 0 (by rw [hh]; rfl) ⟨an, dK, trivial⟩
 refine ⟨⟨fF, e4⟩, ⟨w0, fP⟩, ?_⟩
 show aw w (F0 w) (.agg [.int .i64 fF, .slice (e4.map a1)]) cs _
 rw [aw]
 exact key
theorem ayu {H : Type} {enc : TypeId × Value → H} {w : World} {base : Nat} {sp : Nat → Bool} {held : Bool} : i_ enc Tryz.prog w base sp held 23 (fun x : List iS => .slice (x.map g_)) (fun x : List iS => (x.length ≤ 9223372036854775807 ∧ ∀ y ∈ x, ya y)) := qy (sz := 2) (ec := g_) Tryz.underlying23 (by kernel_rfl) (by decide) (fun _ => rfl) ayt
theorem ayv {H : Type} {enc : TypeId × Value → H} {w : World} {base : Nat} {sp : Nat → Bool} {held : Bool} : i_ enc Tryz.prog w base sp held 114 gZ (fun x : iF => yb x) := by
 intro fuel cs x aq
 obtain ⟨xs, n, _, _, hl, a_, bF⟩ := DataW.trod_struct Tryz.underlying114 aq
 have hh : cs.length = 3 := hl.trans (by kernel_rfl)
 obtain ⟨fF, w0, an⟩ := j3 wF (bF 0 _ rfl) (by rw [List.getElem?_eq_getElem (by rw [a_]; decide)]; rfl)
 change aw w (F0 w) (.str fF) ((cs.drop 0).take (Tryz.prog.cellsOf 9)) _ at an
 rw [show Tryz.prog.cellsOf 9 = 1 by kernel_rfl] at an
 obtain ⟨e4, fP, dK⟩ := j3 wF (bF 1 _ rfl) (by rw [List.getElem?_eq_getElem (by rw [a_]; decide)]; rfl)
 change aw w (F0 w) (.str e4) ((cs.drop 1).take (Tryz.prog.cellsOf 9)) _ at dK
 rw [show Tryz.prog.cellsOf 9 = 1 by kernel_rfl] at dK
 obtain ⟨fT, g8, bj⟩ := j3 wF (bF 2 _ rfl) (by rw [List.getElem?_eq_getElem (by rw [a_]; decide)]; rfl)
 change aw w (F0 w) (.str fT) ((cs.drop 2).take (Tryz.prog.cellsOf 9)) _ at bj
 rw [show Tryz.prog.cellsOf 9 = 1 by kernel_rfl] at bj
 have key := s0 [(.str fF, 0, 1), (.str e4, 1, 1), (.str fT, 2, 1)] 0 (by rw [hh]; rfl) ⟨an, dK, bj, trivial⟩
 refine ⟨⟨fF, e4, fT⟩, ⟨w0, fP, g8⟩, ?_⟩
 show aw w (F0 w) (.agg [.str fF, .str e4, .str fT]) cs _
 rw [aw]
 exact key
theorem ayw {H : Type} {enc : TypeId × Value → H} {w : World} {base : Nat} {sp : Nat → Bool} {held : Bool} : i_ enc Tryz.prog w base sp held 24 (fun x : List iF => .slice (x.map gZ)) (fun x : List iF => (x.length ≤ 9223372036854775807 ∧ ∀ y ∈ x, yb y)) := qy (sz := 3) (ec := gZ) Tryz.underlying24 (by kernel_rfl) (by decide) (fun _ => rfl) ayv
theorem Pn {H : Type} {enc : TypeId × Value → H} {w : World} {base : Nat} {sp : Nat → Bool} {held : Bool} : i_ enc Tryz.prog w base sp held 25 (fun x : List (List UInt8) => .slice (x.map bG)) (fun x : List (List UInt8) => (x.length ≤ 9223372036854775807 ∧ ∀ y ∈ x, y.length ≤ 9223372036854775807)) := qy (sz := 1) (ec := bG) Tryz.underlying25 (by kernel_rfl) (by decide) (fun _ => rfl) wF
theorem ayx {H : Type} {enc : TypeId × Value → H} {w : World} {base : Nat} {sp : Nat → Bool} {held : Bool} : i_ enc Tryz.prog w base sp held 27 jv (fun x : k5 => yc x) := by
 intro fuel cs x aq
 obtain ⟨xs, n, _, _, hl, a_, bF⟩ := DataW.trod_struct Tryz.underlying27 aq
 have hh : cs.length = 5 := hl.trans (by kernel_rfl)
 obtain ⟨fF, w0, an⟩ := j3 ays (bF 0 _ rfl) (by rw [List.getElem?_eq_getElem (by rw [a_]; decide)]; rfl)
 change aw w (F0 w) (.slice (fF.map g9)) ((cs.drop 0).take (Tryz.prog.cellsOf 22)) _ at an
 rw [show Tryz.prog.cellsOf 22 = 1 by kernel_rfl] at an
 obtain ⟨e4, fP, dK⟩ := j3 ayu (bF 1 _ rfl) (by rw [List.getElem?_eq_getElem (by rw [a_]; decide)]; rfl)
 change aw w (F0 w) (.slice (e4.map g_)) ((cs.drop 1).take (Tryz.prog.cellsOf 23)) _ at dK
 rw [show Tryz.prog.cellsOf 23 = 1 by kernel_rfl] at dK
 obtain ⟨fT, g8, bj⟩ := j3 ayw (bF 2 _ rfl) (by rw [List.getElem?_eq_getElem (by rw [a_]; decide)]; rfl)
 change aw w (F0 w) (.slice (fT.map gZ)) ((cs.drop 2).take (Tryz.prog.cellsOf 24)) _ at bj
 rw [show Tryz.prog.cellsOf 24 = 1 by kernel_rfl] at bj
 obtain ⟨kD, nz, dD⟩ := j3 Pn (bF 3 _ rfl) (by rw [List.getElem?_eq_getElem (by rw [a_]; decide)]; rfl)
 change aw w (F0 w) (.slice (kD.map bG)) ((cs.drop 3).take (Tryz.prog.cellsOf 25)) _ at dD
 rw [show Tryz.prog.cellsOf 25 = 1 by kernel_rfl] at dD
 obtain ⟨pj, H3, ch⟩ := j3 Pn (bF 4 _ rfl) (by rw [List.getElem?_eq_getElem (by rw [a_]; decide)]; rfl)
 change aw w (F0 w) (.slice (pj.map bG)) ((cs.drop 4).take (Tryz.prog.cellsOf 25)) _ at ch
 rw [show Tryz.prog.cellsOf 25 = 1 by kernel_rfl] at ch
 have key := s0 [(.slice (fF.map g9), 0, 1), (.slice (e4.map g_), 1, 1), (.slice (fT.map gZ), 2, 1), (.slice (kD.map bG), 3, 1), (.slice (pj.map bG), 4, 1)] 0 (by rw [hh]; rfl) ⟨an, dK, bj, dD, ch, trivial⟩
 refine ⟨⟨fF, e4, fT, kD, pj⟩, ⟨w0, fP, g8, nz, H3⟩, ?_⟩
 show aw w (F0 w) (.agg [.slice (fF.map g9), .slice (e4.map g_), .slice (fT.map gZ), .slice (kD.map bG), .slice (pj.map bG)]) cs _
 rw [aw]
 exact key
theorem ayy {H : Type} {enc : TypeId × Value → H} {w : World} {base : Nat} {sp : Nat → Bool} {held : Bool} : i_ enc Tryz.prog w base sp held 73 gM (fun x : iG => vR x) := by
 intro fuel cs x aq
 obtain ⟨xs, n, _, _, hl, a_, bF⟩ := DataW.trod_struct Tryz.underlying73 aq
 have hh : cs.length = 3 := hl.trans (by kernel_rfl)
 obtain ⟨fF, w0, an⟩ := j3 qW (bF 0 _ rfl) (by rw [List.getElem?_eq_getElem (by rw [a_]; decide)]; rfl)
 change aw w (F0 w) (.int .i64 fF) ((cs.drop 0).take (Tryz.prog.cellsOf 2)) _ at an
 rw [show Tryz.prog.cellsOf 2 = 1 by kernel_rfl] at an
 obtain ⟨e4, fP, dK⟩ := j3 qW (bF 1 _ rfl) (by rw [List.getElem?_eq_getElem (by rw [a_]; decide)]; rfl)
 change aw w (F0 w) (.int .i64 e4) ((cs.drop 1).take (Tryz.prog.cellsOf 2)) _ at dK
 rw [show Tryz.prog.cellsOf 2 = 1 by kernel_rfl] at dK
 obtain ⟨fT, g8, bj⟩ := j3 H2 (bF 2 _ rfl) (by rw [List.getElem?_eq_getElem (by rw [a_]; decide)]; rfl)
 change aw w (F0 w) (.slice (fT.map a1)) ((cs.drop 2).take (Tryz.prog.cellsOf 46)) _ at bj
 rw [show Tryz.prog.cellsOf 46 = 1 by kernel_rfl] at bj
 have key := s0 [(.int .i64 fF, 0, 1), (.int .i64 e4, 1, 1), (.slice (fT.map a1), 2, 1)] 0 (by rw [hh]; rfl) ⟨an, dK, bj, trivial⟩
 refine ⟨⟨fF, e4, fT⟩, ⟨w0, fP, g8⟩, ?_⟩
 show aw w (F0 w) (.agg [.int .i64 fF, .int .i64 e4, .slice (fT.map a1)]) cs _
 rw [aw]
 exact key
theorem ayz {H : Type} {enc : TypeId × Value → H} {w : World} {base : Nat} {sp : Nat → Bool} {held : Bool} : i_ enc Tryz.prog w base sp held 28 (fun x : List iG => .slice (x.map gM)) (fun x : List iG => (x.length ≤ 9223372036854775807 ∧ ∀ y ∈ x, vR y)) := qy (sz := 3) (ec := gM) Tryz.underlying28 (by kernel_rfl) (by decide) (fun _ => rfl) ayy
theorem walk (w : World) (fF : k5) (AG : yc fF) (v0 : Value) (e4 : List iG) (rp : (e4.length ≤ 9223372036854775807 ∧ ∀ y ∈ e4, vR y)) (v1 : Value) (fT : List Int) (sC : (fT.length ≤ 9223372036854775807 ∧ ∀ y ∈ fT, (-9223372036854775808 ≤ y ∧ y ≤ 9223372036854775807))) (v2 : Value) (h8 : Arg w (.agg [.slice (fF.eH.map g9), .slice (fF.c_.map g_), .slice (fF.hH.map gZ), .slice (fF.hA.map bG), .slice (fF.hB.map bG)]) v0) (bc : Arg w (.slice (e4.map gM)) v1) (bA : Arg w (.slice (fT.map a1)) v2) :
  Calls Tryz.prog 5 #[v0, v1, v2] w fun e aO => e = .returned (.bool true) ∧ RowKit.Below w.heap.size w aO :=
 bm.law (C := aD) (axZ fF e4 fT true (ayA fF e4 fT AG rp)) Tryz.func5 rfl rfl (.cons h8 (.cons bc (.cons bA (.nil))))
set_option maxRecDepth 100000 in
theorem lifted (os : Os) (started : os.Started) (H : Type) (enc : TypeId × Value → H) :
  ReturnsInHanded {} Tryz.checked os 5 .any (Rows.fnExactPermuteStateSpec.pre6 enc Tryz.prog Tryz.f5 Rows.fnExactPermuteStateRow.domain false) (Rows.fnExactPermuteStateSpec.post enc Tryz.prog Tryz.f5 false true false false) := by
 refine returnsInHanded_of_change (C := Tryz.checked) own started (by kernel_rfl) Tryz.func5
  (ChangeSpec.witness6 (enc := enc) (C := Tryz.checked) false ⟨#[], #[.agg #[.slice none 0 0, .slice none 0 0, .slice none 0 0, .slice none 0 0, .slice none 0 0], .slice none 0 0, .slice none 0 0], []⟩ 8 (by kernel_rfl) (by kernel_rfl) (by kernel_rfl) (by kernel_rfl)) ?_
 intro W base args ds gs before Po Pp aC7 _
 have o1 : ∀ (j : Nat) t v, Tryz.f5.params[j]? = some t → args[j]? = some v → Value.okWide Tryz.prog W .any base t v := Po
 have ayB := Pp
 obtain ⟨p, q, uT, oD, rfl, aC8, u4⟩ := Pp
 have jm : DataW.TrodAll enc Tryz.prog W 0 (fun _ => true) true Tryz.f5.params.toList args.toList ds p := uT
 rw [Tryz.params5] at jm o1
 obtain ⟨v0, aC9, d0, aC_, h7, Ab, mO, rfl, rfl, bf, an⟩ := trodAll_cons jm
 obtain ⟨v1, aDa, d1, aDb, f_, hG, rfl, rfl, rfl, ae, dK⟩ := trodAll_cons an
 obtain ⟨v2, aDc, d2, aDd, hk, hg, rfl, rfl, rfl, ah, bj⟩ := trodAll_cons dK
 obtain ⟨rfl, rfl, rfl⟩ := trodAll_nil bj
 obtain rfl : args = #[v0, v1, v2] := by cases args; simp_all
 obtain ⟨rfl, rfl⟩ := trodVars_none oD
 have wG : ∀ x ∈ h7, x.block < W.heap.size := by obtain ⟨m, hm⟩ := bf; exact DataW.trod_lt m _ _ _ hm
 obtain ⟨fF, h8, AG⟩ := Uz (es := fun y : k5 => [.slice (y.eH.map g9), .slice (y.c_.map g_), .slice (y.hH.map gZ), .slice (y.hA.map bG), .slice (y.hB.map bG)]) Tryz.underlying27 ayx (o1 0 27 v0 rfl rfl) bf
 have ayC : ∀ x ∈ f_, x.block < W.heap.size := by obtain ⟨m, hm⟩ := ae; exact DataW.trod_lt m _ _ _ hm
 obtain ⟨e4, bc, rp⟩ := LB Tryz.underlying28 ayz (o1 1 28 v1 rfl rfl) ae
 have ayD : ∀ x ∈ hk, x.block < W.heap.size := by obtain ⟨m, hm⟩ := ah; exact DataW.trod_lt m _ _ _ hm
 obtain ⟨fT, bA, sC⟩ := LB Tryz.underlying46 H2 (o1 2 46 v2 rfl rfl) ah
 clear uT Po
 refine (walk W fF AG v0 e4 rp v1 fT sC v2 h8 bc bA).mono fun e aDe ⟨he, DU⟩ => ?_
 subst he
 exact ⟨_, rfl, _, _, _, [], _, [], ayB, trodAll_mk1 (shut_bool Tryz.underlying4 _), (trodAll_cons_mk (Below.trod laidOut (by kernel_rfl) (of_decide_eq_true (by kernel_rfl)) bf DU wG) (trodAll_cons_mk (Below.trod laidOut (by kernel_rfl) (of_decide_eq_true (by kernel_rfl)) ae DU ayC) (trodAll_cons_mk (Below.trod laidOut (by kernel_rfl) (of_decide_eq_true (by kernel_rfl)) ah DU ayD) trodAll_mk0))), rfl, DU.frame _, fun h => by cases h⟩
def DV : List Char := List.map Char.ofNat [104, 97, 114, 110, 101, 115, 115, 32, 55, 99, 49, 49, 52, 50, 54, 50, 55, 53, 57, 101, 48, 102, 51, 53, 54, 48, 48, 100, 54, 48, 54, 51, 53, 50, 97, 99, 50, 54, 98, 53, 98, 55, 53, 48, 97, 100, 54, 102, 55, 55, 97, 54, 56, 50, 51, 55, 99, 100, 100, 100, 54, 48, 100, 97, 48, 55, 53, 48, 97, 99, 99, 102, 32, 99, 117, 116, 32, 97, 116, 32, 108, 111, 111, 112, 46, 101, 120, 97, 109, 112, 108, 101, 47, 103, 48, 49, 48, 55, 53, 47, 108, 97, 119, 115, 46, 70, 110, 69, 120, 97, 99, 116, 67, 97, 110, 111, 110, 105, 99, 97, 108, 83, 116, 97, 116, 101, 32, 108, 111, 111, 112, 46, 101, 120, 97, 109, 112, 108, 101, 47, 103, 48, 49, 48, 55, 53, 47, 108, 97, 119, 115, 46, 70, 110, 69, 120, 97, 99, 116, 76, 105, 110, 101, 97, 114, 79, 102, 32, 108, 111, 111, 112, 46, 101, 120, 97, 109, 112, 108, 101, 47, 103, 48, 49, 48, 55, 53, 47, 108, 97, 119, 115, 46, 70, 110, 69, 120, 97, 99, 116, 80, 101, 114, 109, 117, 116, 101, 83, 116, 97, 116, 101, 32, 108, 111, 111, 112, 46, 101, 120, 97, 109, 112, 108, 101, 47, 103, 48, 49, 48, 55, 53, 47, 108, 97, 119, 115, 46, 70, 110, 69, 120, 97, 99, 116, 79, 114, 98, 105, 116, 83, 105, 122, 101, 32, 108, 111, 111, 112, 46, 101, 120, 97, 109, 112, 108, 101, 47, 103, 48, 49, 48, 55, 53, 47, 108, 97, 119, 115, 46, 70, 110, 69, 120, 97, 99, 116, 79, 114, 98, 105, 116, 79, 102]
def zL : List Char := List.map Char.ofNat [99, 117, 116]
theorem ayE : Tryz.prog.initOrder = String.ofList DV := by kernel_rfl
theorem H4 : Tryz.prog.initOrder.toList = DV := by rw [ayE]; exact String.toList_ofList
theorem Pq : behindMainWord (wordsSigns DV) = zL :: (behindMainWord (wordsSigns DV)).tail := by kernel_rfl
theorem ayF {P : Program} {L : List Char} {r : List (List Char)} (h : P.initOrder.toList = L) (hw : behindMainWord (wordsSigns L) = zL :: r) : P.make = some .cut := by
 unfold Program.make; rw [h, hw]; rfl
theorem ayG {P : Program} {L : List Char} {r : List (List Char)} (h : P.initOrder.toList = L) (hw : behindMainWord (wordsSigns L) = zL :: r) (ae : P.laysLater = false) (ah : P.bearsReflect = false) (aH : P.doorFits [] = true) : P.mayEnter = true := by
 unfold Program.mayEnter; rw [h, hw]
 have e : stripLifts liftWords (zL :: r) = ([], zL :: r) := rfl
 simp only [e, ae, ah, aH]
 rfl
theorem ayH : Tryz.prog.liftsFinal = false := by unfold Program.liftsFinal Program.headLifts; rw [H4]; kernel_rfl
theorem ayI : Tryz.prog.mayEnter = true := ayG H4 Pq (by kernel_rfl) (by kernel_rfl) (by kernel_rfl)
theorem ayJ : Tryz.prog.make = some .cut := ayF H4 Pq
theorem ayK : joinedFacts Tryz.prog 5 Tryz.f5 Rows.fnExactPermuteStateSpec Rows.fnExactPermuteStateRow = true := by
 unfold joinedFacts
 rw [ayH, ayI, ayJ]
 kernel_rfl
theorem over : Rows.fnExactPermuteStateRow.holds Tryz.pinned (OpenSpec.ofChange Rows.fnExactPermuteStateSpec) :=
 OpenClaim.holds_of_wide 5 Tryz.f5 rfl rfl rfl rfl rfl rfl rfl ⟨rfl, rfl, rfl, rfl, rfl⟩ rfl rfl rfl rfl rfl (by kernel_rfl) Tryz.func5 ayK
  (of_decide_eq_true (by kernel_rfl)) (by unfold Func.isWrapper; first | (rw [if_pos (by decide +kernel)]; kernel_rfl) | (rw [if_neg (by decide +kernel)]; exact ⟨rfl, rfl⟩))
  (fun os started H enc _ => lifted os started H enc)
theorem proved : Rows.FnExactPermuteStateSaid := over
end Go.Proofs.YtocllehpepigpaaGreat.fnExactPermuteState
