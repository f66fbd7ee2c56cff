/- Part of a proof that a law returns true for every input. No condition. -/
import Derived.Test.YtbemmmimelklkaaGreatRows
import Derived.Test.YtbemmmimelklkaaGreatW6
import Derived.Test.YtbemmmimelklkaaGreatFwI
import Derived.Test.YtbemmmimelklkaaGreatUW3
import Derived.WalkKit
import Derived.ProofKit
import Derived.OpenShut
import Derived.ChangeOld
import Derived.Below
import Derived.Carry
namespace Go.Proofs.YtbemmmimelklkaaGreat.fnExactUsedDefinitions
open Go.ChangeShapes Go.WideShapes Go.ChangeAt Go.RowKit
open Go.c5 Go.eR
set_option linter.unusedVariables false
theorem own : ownKnob Tryz.prog.godebug = none := by kernel_rfl
theorem laidOut : laidOutB Tryz.prog = true := by kernel_rfl
theorem v8 {H : Type} {enc : TypeId × Value → H} {w : World} {base : Nat} {sp : Nat → Bool} {held : Bool} : js enc Tryz.prog w base sp held 9 (fun x : List UInt8 => .str x) (fun x : List UInt8 => x.length ≤ 9223372036854775807) := Tg Tryz.underlying9
theorem tv {H : Type} {enc : TypeId × Value → H} {w : World} {base : Nat} {sp : Nat → Bool} {held : Bool} : js enc Tryz.prog w base sp held 2 (fun x : Int => .int .i64 x) (fun x : Int => (-9223372036854775808 ≤ x ∧ x ≤ 9223372036854775807)) := Tf Tryz.underlying2
theorem auH {H : Type} {enc : TypeId × Value → H} {w : World} {base : Nat} {sp : Nat → Bool} {held : Bool} : js enc Tryz.prog w base sp held 226 ft (fun x : gY => vd x) := by
 intro fuel cs x aq
 obtain ⟨xs, n, _, _, hl, bl, bJ⟩ := DataW.trod_struct Tryz.underlying226 aq
 have hH : cs.length = 2 := hl.trans (by kernel_rfl)
 obtain ⟨fQ, w0, an⟩ := km tv (bJ 0 _ rfl) (by rw [List.getElem?_eq_getElem (by rw [bl]; decide)]; rfl)
 change aB w (F0 w) (.int .i64 fQ) ((cs.drop 0).take (Tryz.prog.cellsOf 2)) _ at an
 rw [show Tryz.prog.cellsOf 2 = 1 by kernel_rfl] at an
 obtain ⟨fE, gk, df⟩ := km tv (bJ 1 _ rfl) (by rw [List.getElem?_eq_getElem (by rw [bl]; decide)]; rfl)
 change aB w (F0 w) (.int .i64 fE) ((cs.drop 1).take (Tryz.prog.cellsOf 2)) _ at df
 rw [show Tryz.prog.cellsOf 2 = 1 by kernel_rfl] at df
 have key := u1 [(.int .i64 fQ, 0, 1), (.int .i64 fE, 1, 1)] 0 (by rw [hH]; rfl) ⟨an, df, trivial⟩
 refine ⟨⟨fQ, fE⟩, ⟨w0, gk⟩, ?_⟩
 show aB w (F0 w) (.agg [.int .i64 fQ, .int .i64 fE]) cs _
 rw [aB]
 exact key
theorem auI {H : Type} {enc : TypeId × Value → H} {w : World} {base : Nat} {sp : Nat → Bool} {held : Bool} : js enc Tryz.prog w base sp held 139 (fun x : List gY => .slice (x.map ft)) (fun x : List gY => (x.length ≤ 9223372036854775807 ∧ ∀ y ∈ x, vd y)) := q4 (sz := 2) (ec := ft) Tryz.underlying139 (by kernel_rfl) (by decide) (fun _ => rfl) auH
theorem auJ {H : Type} {enc : TypeId × Value → H} {w : World} {base : Nat} {sp : Nat → Bool} {held : Bool} : js enc Tryz.prog w base sp held 140 (fun x : List (List gY) => .slice (x.map fG)) (fun x : List (List gY) => (x.length ≤ 9223372036854775807 ∧ ∀ y ∈ x, (y.length ≤ 9223372036854775807 ∧ ∀ z ∈ y, vd z))) := q4 (sz := 1) (ec := fG) Tryz.underlying140 (by kernel_rfl) (by decide) (fun _ => rfl) auI
theorem auK {H : Type} {enc : TypeId × Value → H} {w : World} {base : Nat} {sp : Nat → Bool} {held : Bool} : js enc Tryz.prog w base sp held 209 fH (fun x : ij => xD x) := by
 intro fuel cs x aq
 obtain ⟨xs, n, _, _, hl, bl, bJ⟩ := DataW.trod_struct Tryz.underlying209 aq
 have hH : cs.length = 4 := hl.trans (by kernel_rfl)
 obtain ⟨fQ, w0, an⟩ := km tv (bJ 0 _ rfl) (by rw [List.getElem?_eq_getElem (by rw [bl]; decide)]; rfl)
 change aB w (F0 w) (.int .i64 fQ) ((cs.drop 0).take (Tryz.prog.cellsOf 2)) _ at an
 rw [show Tryz.prog.cellsOf 2 = 1 by kernel_rfl] at an
 obtain ⟨fE, gk, df⟩ := km tv (bJ 1 _ rfl) (by rw [List.getElem?_eq_getElem (by rw [bl]; decide)]; rfl)
 change aB w (F0 w) (.int .i64 fE) ((cs.drop 1).take (Tryz.prog.cellsOf 2)) _ at df
 rw [show Tryz.prog.cellsOf 2 = 1 by kernel_rfl] at df
 obtain ⟨hb, hz, ea⟩ := km v8 (bJ 2 _ rfl) (by rw [List.getElem?_eq_getElem (by rw [bl]; decide)]; rfl)
 change aB w (F0 w) (.str hb) ((cs.drop 2).take (Tryz.prog.cellsOf 9)) _ at ea
 rw [show Tryz.prog.cellsOf 9 = 1 by kernel_rfl] at ea
 obtain ⟨kQ, m2, gU⟩ := km auJ (bJ 3 _ rfl) (by rw [List.getElem?_eq_getElem (by rw [bl]; decide)]; rfl)
 change aB w (F0 w) (.slice (kQ.map fG)) ((cs.drop 3).take (Tryz.prog.cellsOf 140)) _ at gU
 rw [show Tryz.prog.cellsOf 140 = 1 by kernel_rfl] at gU
 have key := u1 [(.int .i64 fQ, 0, 1), (.int .i64 fE, 1, 1), (.str hb, 2, 1), (.slice (kQ.map fG), 3, 1)] 0 (by rw [hH]; rfl) ⟨an, df, ea, gU, trivial⟩
 refine ⟨⟨fQ, fE, hb, kQ⟩, ⟨w0, gk, hz, m2⟩, ?_⟩
 show aB w (F0 w) (.agg [.int .i64 fQ, .int .i64 fE, .str hb, .slice (kQ.map fG)]) cs _
 rw [aB]
 exact key
theorem auL {H : Type} {enc : TypeId × Value → H} {w : World} {base : Nat} {sp : Nat → Bool} {held : Bool} : js enc Tryz.prog w base sp held 107 (fun x : List ij => .slice (x.map fH)) (fun x : List ij => (x.length ≤ 9223372036854775807 ∧ ∀ y ∈ x, xD y)) := q4 (sz := 4) (ec := fH) Tryz.underlying107 (by kernel_rfl) (by decide) (fun _ => rfl) auK
theorem auM {H : Type} {enc : TypeId × Value → H} {w : World} {base : Nat} {sp : Nat → Bool} {held : Bool} : js enc Tryz.prog w base sp held 109 gd (fun x : h4 => ve x) := by
 intro fuel cs x aq
 obtain ⟨xs, n, _, _, hl, bl, bJ⟩ := DataW.trod_struct Tryz.underlying109 aq
 have hH : cs.length = 3 := hl.trans (by kernel_rfl)
 obtain ⟨fQ, w0, an⟩ := km v8 (bJ 0 _ rfl) (by rw [List.getElem?_eq_getElem (by rw [bl]; decide)]; rfl)
 change aB w (F0 w) (.str fQ) ((cs.drop 0).take (Tryz.prog.cellsOf 9)) _ at an
 rw [show Tryz.prog.cellsOf 9 = 1 by kernel_rfl] at an
 obtain ⟨fE, gk, df⟩ := km tv (bJ 1 _ rfl) (by rw [List.getElem?_eq_getElem (by rw [bl]; decide)]; rfl)
 change aB w (F0 w) (.int .i64 fE) ((cs.drop 1).take (Tryz.prog.cellsOf 2)) _ at df
 rw [show Tryz.prog.cellsOf 2 = 1 by kernel_rfl] at df
 obtain ⟨hb, hz, ea⟩ := km auL (bJ 2 _ rfl) (by rw [List.getElem?_eq_getElem (by rw [bl]; decide)]; rfl)
 change aB w (F0 w) (.slice (hb.map fH)) ((cs.drop 2).take (Tryz.prog.cellsOf 107)) _ at ea
 rw [show Tryz.prog.cellsOf 107 = 1 by kernel_rfl] at ea
 have key := u1 [(.str fQ, 0, 1), (.int .i64 fE, 1, 1), (.slice (hb.map fH), 2, 1)] 0 (by rw [hH]; rfl) ⟨an, df, ea, trivial⟩
 refine ⟨⟨fQ, fE, hb⟩, ⟨w0, gk, hz⟩, ?_⟩
 show aB w (F0 w) (.agg [.str fQ, .int .i64 fE, .slice (hb.map fH)]) cs _
 rw [aB]
 exact key
theorem auN {H : Type} {enc : TypeId × Value → H} {w : World} {base : Nat} {sp : Nat → Bool} {held : Bool} : js enc Tryz.prog w base sp held 22 (fun x : List h4 => .slice (x.map gd)) (fun x : List h4 => (x.length ≤ 9223372036854775807 ∧ ∀ y ∈ x, ve y)) := q4 (sz := 3) (ec := gd) Tryz.underlying22 (by kernel_rfl) (by decide) (fun _ => rfl) auM
theorem auO {H : Type} {enc : TypeId × Value → H} {w : World} {base : Nat} {sp : Nat → Bool} {held : Bool} : js enc Tryz.prog w base sp held 43 (fun x : List Int => .slice (x.map aU)) (fun x : List Int => (x.length ≤ 9223372036854775807 ∧ ∀ y ∈ x, (-9223372036854775808 ≤ y ∧ y ≤ 9223372036854775807))) := q4 (sz := 1) (ec := aU) Tryz.underlying43 (by kernel_rfl) (by decide) (fun _ => rfl) tv
theorem auP {H : Type} {enc : TypeId × Value → H} {w : World} {base : Nat} {sp : Nat → Bool} {held : Bool} : js enc Tryz.prog w base sp held 112 gf (fun x : ik => xE x) := by
 intro fuel cs x aq
 obtain ⟨xs, n, _, _, hl, bl, bJ⟩ := DataW.trod_struct Tryz.underlying112 aq
 have hH : cs.length = 2 := hl.trans (by kernel_rfl)
 obtain ⟨fQ, w0, an⟩ := km tv (bJ 0 _ rfl) (by rw [List.getElem?_eq_getElem (by rw [bl]; decide)]; rfl)
 change aB w (F0 w) (.int .i64 fQ) ((cs.drop 0).take (Tryz.prog.cellsOf 2)) _ at an
 rw [show Tryz.prog.cellsOf 2 = 1 by kernel_rfl] at an
 obtain ⟨fE, gk, df⟩ := km auO (bJ 1 _ rfl) (by rw [List.getElem?_eq_getElem (by rw [bl]; decide)]; rfl)
 change aB w (F0 w) (.slice (fE.map aU)) ((cs.drop 1).take (Tryz.prog.cellsOf 43)) _ at df
 rw [show Tryz.prog.cellsOf 43 = 1 by kernel_rfl] at df
 have key := u1 [(.int .i64 fQ, 0, 1), (.slice (fE.map aU), 1, 1)] 0 (by rw [hH]; rfl) ⟨an, df, trivial⟩
 refine ⟨⟨fQ, fE⟩, ⟨w0, gk⟩, ?_⟩
 show aB w (F0 w) (.agg [.int .i64 fQ, .slice (fE.map aU)]) cs _
 rw [aB]
 exact key
theorem auQ {H : Type} {enc : TypeId × Value → H} {w : World} {base : Nat} {sp : Nat → Bool} {held : Bool} : js enc Tryz.prog w base sp held 23 (fun x : List ik => .slice (x.map gf)) (fun x : List ik => (x.length ≤ 9223372036854775807 ∧ ∀ y ∈ x, xE y)) := q4 (sz := 2) (ec := gf) Tryz.underlying23 (by kernel_rfl) (by decide) (fun _ => rfl) auP
theorem auR {H : Type} {enc : TypeId × Value → H} {w : World} {base : Nat} {sp : Nat → Bool} {held : Bool} : js enc Tryz.prog w base sp held 115 fR (fun x : h5 => xF x) := by
 intro fuel cs x aq
 obtain ⟨xs, n, _, _, hl, bl, bJ⟩ := DataW.trod_struct Tryz.underlying115 aq
 have hH : cs.length = 3 := hl.trans (by kernel_rfl)
 obtain ⟨fQ, w0, an⟩ := km v8 (bJ 0 _ rfl) (by rw [List.getElem?_eq_getElem (by rw [bl]; decide)]; rfl)
 change aB w (F0 w) (.str fQ) ((cs.drop 0).take (Tryz.prog.cellsOf 9)) _ at an
 rw [show Tryz.prog.cellsOf 9 = 1 by kernel_rfl] at an
 obtain ⟨fE, gk, df⟩ := km v8 (bJ 1 _ rfl) (by rw [List.getElem?_eq_getElem (by rw [bl]; decide)]; rfl)
 change aB w (F0 w) (.str fE) ((cs.drop 1).take (Tryz.prog.cellsOf 9)) _ at df
 rw [show Tryz.prog.cellsOf 9 = 1 by kernel_rfl] at df
 obtain ⟨hb, hz, ea⟩ := km v8 (bJ 2 _ rfl) (by rw [List.getElem?_eq_getElem (by rw [bl]; decide)]; rfl)
 change aB w (F0 w) (.str hb) ((cs.drop 2).take (Tryz.prog.cellsOf 9)) _ at ea
 rw [show Tryz.prog.cellsOf 9 = 1 by kernel_rfl] at ea
 have key := u1 [(.str fQ, 0, 1), (.str fE, 1, 1), (.str hb, 2, 1)] 0 (by rw [hH]; rfl) ⟨an, df, ea, trivial⟩
 refine ⟨⟨fQ, fE, hb⟩, ⟨w0, gk, hz⟩, ?_⟩
 show aB w (F0 w) (.agg [.str fQ, .str fE, .str hb]) cs _
 rw [aB]
 exact key
theorem auS {H : Type} {enc : TypeId × Value → H} {w : World} {base : Nat} {sp : Nat → Bool} {held : Bool} : js enc Tryz.prog w base sp held 24 (fun x : List h5 => .slice (x.map fR)) (fun x : List h5 => (x.length ≤ 9223372036854775807 ∧ ∀ y ∈ x, xF y)) := q4 (sz := 3) (ec := fR) Tryz.underlying24 (by kernel_rfl) (by decide) (fun _ => rfl) auR
theorem Ol {H : Type} {enc : TypeId × Value → H} {w : World} {base : Nat} {sp : Nat → Bool} {held : Bool} : js enc Tryz.prog w base sp held 25 (fun x : List (List UInt8) => .slice (x.map bF)) (fun x : List (List UInt8) => (x.length ≤ 9223372036854775807 ∧ ∀ y ∈ x, y.length ≤ 9223372036854775807)) := q4 (sz := 1) (ec := bF) Tryz.underlying25 (by kernel_rfl) (by decide) (fun _ => rfl) v8
theorem auT {H : Type} {enc : TypeId × Value → H} {w : World} {base : Nat} {sp : Nat → Bool} {held : Bool} : js enc Tryz.prog w base sp held 27 jh (fun x : kn => xG x) := by
 intro fuel cs x aq
 obtain ⟨xs, n, _, _, hl, bl, bJ⟩ := DataW.trod_struct Tryz.underlying27 aq
 have hH : cs.length = 5 := hl.trans (by kernel_rfl)
 obtain ⟨fQ, w0, an⟩ := km auN (bJ 0 _ rfl) (by rw [List.getElem?_eq_getElem (by rw [bl]; decide)]; rfl)
 change aB w (F0 w) (.slice (fQ.map gd)) ((cs.drop 0).take (Tryz.prog.cellsOf 22)) _ at an
 rw [show Tryz.prog.cellsOf 22 = 1 by kernel_rfl] at an
 obtain ⟨fE, gk, df⟩ := km auQ (bJ 1 _ rfl) (by rw [List.getElem?_eq_getElem (by rw [bl]; decide)]; rfl)
 change aB w (F0 w) (.slice (fE.map gf)) ((cs.drop 1).take (Tryz.prog.cellsOf 23)) _ at df
 rw [show Tryz.prog.cellsOf 23 = 1 by kernel_rfl] at df
 obtain ⟨hb, hz, ea⟩ := km auS (bJ 2 _ rfl) (by rw [List.getElem?_eq_getElem (by rw [bl]; decide)]; rfl)
 change aB w (F0 w) (.slice (hb.map fR)) ((cs.drop 2).take (Tryz.prog.cellsOf 24)) _ at ea
 rw [show Tryz.prog.cellsOf 24 = 1 by kernel_rfl] at ea
 obtain ⟨kQ, m2, gU⟩ := km Ol (bJ 3 _ rfl) (by rw [List.getElem?_eq_getElem (by rw [bl]; decide)]; rfl)
 change aB w (F0 w) (.slice (kQ.map bF)) ((cs.drop 3).take (Tryz.prog.cellsOf 25)) _ at gU
 rw [show Tryz.prog.cellsOf 25 = 1 by kernel_rfl] at gU
 obtain ⟨oS, Hr, i9⟩ := km Ol (bJ 4 _ rfl) (by rw [List.getElem?_eq_getElem (by rw [bl]; decide)]; rfl)
 change aB w (F0 w) (.slice (oS.map bF)) ((cs.drop 4).take (Tryz.prog.cellsOf 25)) _ at i9
 rw [show Tryz.prog.cellsOf 25 = 1 by kernel_rfl] at i9
 have key := u1 [(.slice (fQ.map gd), 0, 1), (.slice (fE.map gf), 1, 1), (.slice (hb.map fR), 2, 1), (.slice (kQ.map bF), 3, 1), (.slice (oS.map bF), 4, 1)] 0 (by rw [hH]; rfl) ⟨an, df, ea, gU, i9, trivial⟩
 refine ⟨⟨fQ, fE, hb, kQ, oS⟩, ⟨w0, gk, hz, m2, Hr⟩, ?_⟩
 show aB w (F0 w) (.agg [.slice (fQ.map gd), .slice (fE.map gf), .slice (hb.map fR), .slice (kQ.map bF), .slice (oS.map bF)]) cs _
 rw [aB]
 exact key
theorem walk (w : World) (fQ : kn) (Ak : xG fQ) (v0 : Value) (hG : Arg w (.agg [.slice (fQ.b3.map gd), .slice (fQ.cn.map gf), .slice (fQ.g7.map fR), .slice (fQ.gZ.map bF), .slice (fQ.g0.map bF)]) v0) :
  Calls Tryz.prog 6 #[v0] w fun e aP => e = .returned (.bool true) ∧ RowKit.Below w.heap.size w aP :=
 aQ.law (C := aG) (auw fQ true (auU fQ Ak)) Tryz.func6 rfl rfl (.cons hG (.nil))
set_option maxRecDepth 100000 in
theorem lifted (os : Os) (started : os.Started) (H : Type) (enc : TypeId × Value → H) :
  ReturnsInHanded {} Tryz.checked os 6 .any (Rows.fnExactUsedDefinitionsSpec.pre6 enc Tryz.prog Tryz.f6 Rows.fnExactUsedDefinitionsRow.domain false) (Rows.fnExactUsedDefinitionsSpec.post enc Tryz.prog Tryz.f6 false true false false) := by
 refine returnsInHanded_of_change (C := Tryz.checked) own started (by kernel_rfl) Tryz.func6
  (ChangeSpec.witness6 (enc := enc) (C := Tryz.checked) false ⟨#[], #[.agg #[.slice none 0 0, .slice none 0 0, .slice none 0 0, .slice none 0 0, .slice none 0 0]], []⟩ 8 (by kernel_rfl) (by kernel_rfl) (by kernel_rfl) (by kernel_rfl)) ?_
 intro W base args ds gs before Om Dw azl _
 have sq : ∀ (j : Nat) t v, Tryz.f6.params[j]? = some t → args[j]? = some v → Value.okWide Tryz.prog W .any base t v := Om
 have auV := Dw
 obtain ⟨p, q, ug, qI, rfl, azm, uw⟩ := Dw
 have iL : DataW.TrodAll enc Tryz.prog W 0 (fun _ => true) true Tryz.f6.params.toList args.toList ds p := ug
 rw [Tryz.params6] at iL sq
 obtain ⟨v0, azn, d0, azo, h8, zN, mj, rfl, rfl, bc, an⟩ := trodAll_cons iL
 obtain ⟨rfl, rfl, rfl⟩ := trodAll_nil an
 obtain rfl : args = #[v0] := by cases args; simp_all
 obtain ⟨rfl, rfl⟩ := trodVars_none qI
 have v_ : ∀ x ∈ h8, x.block < W.heap.size := by obtain ⟨m, hm⟩ := bc; exact DataW.trod_lt m _ _ _ hm
 obtain ⟨fQ, hG, Ak⟩ := Tk (es := fun y : kn => [.slice (y.b3.map gd), .slice (y.cn.map gf), .slice (y.g7.map fR), .slice (y.gZ.map bF), .slice (y.g0.map bF)]) Tryz.underlying27 auT (sq 0 27 v0 rfl rfl) bc
 clear ug Om
 refine (walk W fQ Ak v0 hG).mono fun e azp ⟨he, On⟩ => ?_
 subst he
 exact ⟨_, rfl, _, _, _, [], _, [], auV, trodAll_mk1 (shut_bool Tryz.underlying4 _), (trodAll_cons_mk (Below.trod laidOut (by kernel_rfl) (of_decide_eq_true (by kernel_rfl)) bc On v_) trodAll_mk0), rfl, On.frame _, fun h => by cases h⟩
def Dx : List Char := List.map Char.ofNat [104, 97, 114, 110, 101, 115, 115, 32, 57, 55, 56, 50, 100, 100, 55, 99, 57, 99, 99, 52, 54, 102, 50, 102, 49, 55, 50, 102, 49, 52, 56, 54, 101, 98, 57, 56, 98, 55, 51, 50, 49, 98, 48, 97, 55, 101, 56, 51, 48, 54, 101, 55, 48, 54, 56, 100, 57, 99, 56, 51, 53, 56, 97, 52, 57, 53, 99, 52, 56, 99, 97, 56, 32, 99, 117, 116, 32, 97, 116, 32, 108, 111, 111, 112, 46, 101, 120, 97, 109, 112, 108, 101, 47, 103, 48, 49, 48, 55, 53, 47, 108, 97, 119, 115, 46, 70, 110, 69, 120, 97, 99, 116, 80, 108, 97, 99, 101, 115, 79, 102, 32, 108, 111, 111, 112, 46, 101, 120, 97, 109, 112, 108, 101, 47, 103, 48, 49, 48, 55, 53, 47, 108, 97, 119, 115, 46, 70, 110, 69, 120, 97, 99, 116, 82, 101, 109, 111, 118, 101, 85, 110, 117, 115, 101, 100, 32, 108, 111, 111, 112, 46, 101, 120, 97, 109, 112, 108, 101, 47, 103, 48, 49, 48, 55, 53, 47, 108, 97, 119, 115, 46, 70, 110, 69, 120, 97, 99, 116, 83, 116, 97, 114, 116, 83, 116, 97, 116, 101, 32, 108, 111, 111, 112, 46, 101, 120, 97, 109, 112, 108, 101, 47, 103, 48, 49, 48, 55, 53, 47, 108, 97, 119, 115, 46, 70, 110, 69, 120, 97, 99, 116, 85, 115, 101, 100, 68, 101, 102, 105, 110, 105, 116, 105, 111, 110, 115]
def zk : List Char := List.map Char.ofNat [99, 117, 116]
theorem auW : Tryz.prog.initOrder = String.ofList Dx := by kernel_rfl
theorem Hs : Tryz.prog.initOrder.toList = Dx := by rw [auW]; exact String.toList_ofList
theorem Oo : behindMainWord (wordsSigns Dx) = zk :: (behindMainWord (wordsSigns Dx)).tail := by kernel_rfl
theorem auX {P : Program} {L : List Char} {r : List (List Char)} (h : P.initOrder.toList = L) (hw : behindMainWord (wordsSigns L) = zk :: r) : P.make = some .cut := by
 unfold Program.make; rw [h, hw]; rfl
theorem auY {P : Program} {L : List Char} {r : List (List Char)} (h : P.initOrder.toList = L) (hw : behindMainWord (wordsSigns L) = zk :: r) (af : P.laysLater = false) (ai : P.bearsReflect = false) (aN : P.doorFits [] = true) : P.mayEnter = true := by
 unfold Program.mayEnter; rw [h, hw]
 have e : stripLifts liftWords (zk :: r) = ([], zk :: r) := rfl
 simp only [e, af, ai, aN]
 rfl
theorem auZ : Tryz.prog.liftsFinal = false := by unfold Program.liftsFinal Program.headLifts; rw [Hs]; kernel_rfl
theorem au0 : Tryz.prog.mayEnter = true := auY Hs Oo (by kernel_rfl) (by kernel_rfl) (by kernel_rfl)
theorem au1 : Tryz.prog.make = some .cut := auX Hs Oo
theorem au2 : joinedFacts Tryz.prog 6 Tryz.f6 Rows.fnExactUsedDefinitionsSpec Rows.fnExactUsedDefinitionsRow = true := by
 unfold joinedFacts
 rw [auZ, au0, au1]
 kernel_rfl
theorem over : Rows.fnExactUsedDefinitionsRow.holds Tryz.pinned (OpenSpec.ofChange Rows.fnExactUsedDefinitionsSpec) :=
 OpenClaim.holds_of_wide 6 Tryz.f6 rfl rfl rfl rfl rfl rfl rfl ⟨rfl, rfl, rfl, rfl, rfl⟩ rfl rfl rfl rfl rfl (by kernel_rfl) Tryz.func6 au2
  (of_decide_eq_true (by kernel_rfl)) (by unfold Func.isWrapper; first | (rw [if_pos (by decide +kernel)]; kernel_rfl) | (rw [if_neg (by decide +kernel)]; exact ⟨rfl, rfl⟩))
  (fun os started H enc _ => lifted os started H enc)
theorem proved : Rows.FnExactUsedDefinitionsSaid := over
end Go.Proofs.YtbemmmimelklkaaGreat.fnExactUsedDefinitions
