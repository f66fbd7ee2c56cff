/- Part of a proof that a law returns true for every input. No condition. -/
import Derived.Test.YtobljppjkklojaaRows
import Derived.Test.YtobljppjkklojaaW19
import Derived.Test.YtobljppjkklojaaFwI
import Derived.Test.YtobljppjkklojaaUJ2
import Derived.WalkKit
import Derived.ProofKit
import Derived.OpenShut
import Derived.ChangeOld
import Derived.Below
import Derived.Carry
namespace Go.Proofs.Ytobljppjkklojaa.fnExactLinearNames
open Go.ChangeShapes Go.WideShapes Go.ChangeAt Go.RowKit
open Go.cM Go.fH
set_option linter.unusedVariables false
theorem own : ownKnob Try.prog.godebug = none := by kernel_rfl
theorem laidOut : laidOutB Try.prog = true := by kernel_rfl
theorem wo {H : Type} {enc : TypeId × Value → H} {w : World} {base : Nat} {sp : Nat → Bool} {held : Bool} : jC enc Try.prog w base sp held 2 (fun x : Int => .int .i64 x) (fun x : Int => (-9223372036854775808 ≤ x ∧ x ≤ 9223372036854775807)) := Ka Try.underlying2
theorem E9 {H : Type} {enc : TypeId × Value → H} {w : World} {base : Nat} {sp : Nat → Bool} {held : Bool} : jC enc Try.prog w base sp held 68 (fun x : List Int => .slice (x.map bf)) (fun x : List Int => (x.length ≤ 9223372036854775807 ∧ ∀ y ∈ x, (-9223372036854775808 ≤ y ∧ y ≤ 9223372036854775807))) := uK (sz := 1) (ec := bf) Try.underlying68 (by kernel_rfl) (by decide) (fun _ => rfl) wo
theorem YC {H : Type} {enc : TypeId × Value → H} {w : World} {base : Nat} {sp : Nat → Bool} {held : Bool} : jC enc Try.prog w base sp held 133 dT (fun x : fb => nU x) := by
 intro fuel cs x ai
 obtain ⟨xs, n, _, _, hl, bh, bL⟩ := DataW.trod_struct Try.underlying133 ai
 have hF : cs.length = 2 := hl.trans (by kernel_rfl)
 obtain ⟨gM, w0, aI⟩ := mJ wo (bL 0 _ rfl) (by rw [List.getElem?_eq_getElem (by rw [bh]; decide)]; rfl)
 change aq w (F0 w) (.int .i64 gM) ((cs.drop 0).take (Try.prog.cellsOf 2)) _ at aI
 rw [show Try.prog.cellsOf 2 = 1 by kernel_rfl] at aI
 obtain ⟨gk, jn, eh⟩ := mJ wo (bL 1 _ rfl) (by rw [List.getElem?_eq_getElem (by rw [bh]; decide)]; rfl)
 change aq w (F0 w) (.int .i64 gk) ((cs.drop 1).take (Try.prog.cellsOf 2)) _ at eh
 rw [show Try.prog.cellsOf 2 = 1 by kernel_rfl] at eh
 have key := yx [(.int .i64 gM, 0, 1), (.int .i64 gk, 1, 1)] 0 (by rw [hF]; rfl) ⟨aI, eh, trivial⟩
 refine ⟨⟨gM, gk⟩, ⟨w0, jn⟩, ?_⟩
 show aq w (F0 w) (.agg [.int .i64 gM, .int .i64 gk]) cs _
 rw [aq]
 exact key
theorem E_ {H : Type} {enc : TypeId × Value → H} {w : World} {base : Nat} {sp : Nat → Bool} {held : Bool} : jC enc Try.prog w base sp held 36 (fun x : List fb => .slice (x.map dT)) (fun x : List fb => (x.length ≤ 9223372036854775807 ∧ ∀ y ∈ x, nU y)) := uK (sz := 2) (ec := dT) Try.underlying36 (by kernel_rfl) (by decide) (fun _ => rfl) YC
theorem YD {H : Type} {enc : TypeId × Value → H} {w : World} {base : Nat} {sp : Nat → Bool} {held : Bool} : jC enc Try.prog w base sp held 9 (fun x : List UInt8 => .str x) (fun x : List UInt8 => x.length ≤ 9223372036854775807) := Kb Try.underlying9
theorem Fa {H : Type} {enc : TypeId × Value → H} {w : World} {base : Nat} {sp : Nat → Bool} {held : Bool} : jC enc Try.prog w base sp held 260 (fun x : List (List fb) => .slice (x.map el)) (fun x : List (List fb) => (x.length ≤ 9223372036854775807 ∧ ∀ y ∈ x, (y.length ≤ 9223372036854775807 ∧ ∀ z ∈ y, nU z))) := uK (sz := 1) (ec := el) Try.underlying260 (by kernel_rfl) (by decide) (fun _ => rfl) E_
theorem YE {H : Type} {enc : TypeId × Value → H} {w : World} {base : Nat} {sp : Nat → Bool} {held : Bool} : jC enc Try.prog w base sp held 262 eB (fun x : gD => sB x) := by
 intro fuel cs x ai
 obtain ⟨xs, n, _, _, hl, bh, bL⟩ := DataW.trod_struct Try.underlying262 ai
 have hF : cs.length = 5 := hl.trans (by kernel_rfl)
 obtain ⟨gM, w0, aI⟩ := mJ E9 (bL 0 _ rfl) (by rw [List.getElem?_eq_getElem (by rw [bh]; decide)]; rfl)
 change aq w (F0 w) (.slice (gM.map bf)) ((cs.drop 0).take (Try.prog.cellsOf 68)) _ at aI
 rw [show Try.prog.cellsOf 68 = 1 by kernel_rfl] at aI
 obtain ⟨gk, jn, eh⟩ := mJ E_ (bL 1 _ rfl) (by rw [List.getElem?_eq_getElem (by rw [bh]; decide)]; rfl)
 change aq w (F0 w) (.slice (gk.map dT)) ((cs.drop 1).take (Try.prog.cellsOf 36)) _ at eh
 rw [show Try.prog.cellsOf 36 = 1 by kernel_rfl] at eh
 obtain ⟨hT, kR, eZ⟩ := mJ YD (bL 2 _ rfl) (by rw [List.getElem?_eq_getElem (by rw [bh]; decide)]; rfl)
 change aq w (F0 w) (.str hT) ((cs.drop 2).take (Try.prog.cellsOf 9)) _ at eZ
 rw [show Try.prog.cellsOf 9 = 1 by kernel_rfl] at eZ
 obtain ⟨wq, o_, jt⟩ := mJ Fa (bL 3 _ rfl) (by rw [List.getElem?_eq_getElem (by rw [bh]; decide)]; rfl)
 change aq w (F0 w) (.slice (wq.map el)) ((cs.drop 3).take (Try.prog.cellsOf 260)) _ at jt
 rw [show Try.prog.cellsOf 260 = 1 by kernel_rfl] at jt
 obtain ⟨rl, zA, jT⟩ := mJ Fa (bL 4 _ rfl) (by rw [List.getElem?_eq_getElem (by rw [bh]; decide)]; rfl)
 change aq w (F0 w) (.slice (rl.map el)) ((cs.drop 4).take (Try.prog.cellsOf 260)) _ at jT
 rw [show Try.prog.cellsOf 260 = 1 by kernel_rfl] at jT
 have key := yx [(.slice (gM.map bf), 0, 1), (.slice (gk.map dT), 1, 1), (.str hT, 2, 1), (.slice (wq.map el), 3, 1), (.slice (rl.map el), 4, 1)] 0 (by rw [hF]; rfl) ⟨aI, eh, eZ, jt, jT, trivial⟩
 refine ⟨⟨gM, gk, hT, wq, rl⟩, ⟨w0, jn, kR, o_, zA⟩, ?_⟩
 show aq w (F0 w) (.agg [.slice (gM.map bf), .slice (gk.map dT), .str hT, .slice (wq.map el), .slice (rl.map el)]) cs _
 rw [aq]
 exact key
theorem YF {H : Type} {enc : TypeId × Value → H} {w : World} {base : Nat} {sp : Nat → Bool} {held : Bool} : jC enc Try.prog w base sp held 84 (fun x : List gD => .slice (x.map eB)) (fun x : List gD => (x.length ≤ 9223372036854775807 ∧ ∀ y ∈ x, sB y)) := uK (sz := 5) (ec := eB) Try.underlying84 (by kernel_rfl) (by decide) (fun _ => rfl) YE
theorem YG {H : Type} {enc : TypeId × Value → H} {w : World} {base : Nat} {sp : Nat → Bool} {held : Bool} : jC enc Try.prog w base sp held 86 hA (fun x : i2 => uP x) := by
 intro fuel cs x ai
 obtain ⟨xs, n, _, _, hl, bh, bL⟩ := DataW.trod_struct Try.underlying86 ai
 have hF : cs.length = 3 := hl.trans (by kernel_rfl)
 obtain ⟨gM, w0, aI⟩ := mJ wo (bL 0 _ rfl) (by rw [List.getElem?_eq_getElem (by rw [bh]; decide)]; rfl)
 change aq w (F0 w) (.int .i64 gM) ((cs.drop 0).take (Try.prog.cellsOf 2)) _ at aI
 rw [show Try.prog.cellsOf 2 = 1 by kernel_rfl] at aI
 obtain ⟨gk, jn, eh⟩ := mJ E9 (bL 1 _ rfl) (by rw [List.getElem?_eq_getElem (by rw [bh]; decide)]; rfl)
 change aq w (F0 w) (.slice (gk.map bf)) ((cs.drop 1).take (Try.prog.cellsOf 68)) _ at eh
 rw [show Try.prog.cellsOf 68 = 1 by kernel_rfl] at eh
 obtain ⟨hT, kR, eZ⟩ := mJ YF (bL 2 _ rfl) (by rw [List.getElem?_eq_getElem (by rw [bh]; decide)]; rfl)
 change aq w (F0 w) (.slice (hT.map eB)) ((cs.drop 2).take (Try.prog.cellsOf 84)) _ at eZ
 rw [show Try.prog.cellsOf 84 = 1 by kernel_rfl] at eZ
 have key := yx [(.int .i64 gM, 0, 1), (.slice (gk.map bf), 1, 1), (.slice (hT.map eB), 2, 1)] 0 (by rw [hF]; rfl) ⟨aI, eh, eZ, trivial⟩
 refine ⟨⟨gM, gk, hT⟩, ⟨w0, jn, kR⟩, ?_⟩
 show aq w (F0 w) (.agg [.int .i64 gM, .slice (gk.map bf), .slice (hT.map eB)]) cs _
 rw [aq]
 exact key
theorem walk (w : World) (gM : i2) (uw : uP gM) (v0 : Value) (fQ : Arg w (.agg [.int .i64 gM.dK, .slice (gM.Start.map bf), .slice (gM.cG.map eB)]) v0) :
  Calls Try.prog 19 #[v0] w fun e aB => e = .returned (.bool true) ∧ RowKit.Below w.heap.size w aB :=
 aX.law (C := aN) (Yr gM true (YH gM uw)) Try.func19 rfl rfl (.cons fQ (.nil))
set_option maxRecDepth 100000 in
theorem lifted (os : Os) (started : os.Started) (H : Type) (enc : TypeId × Value → H) :
  ReturnsInHanded {} Try.checked os 19 .any (Rows.fnExactLinearNamesSpec.pre6 enc Try.prog Try.f19 Rows.fnExactLinearNamesRow.domain false) (Rows.fnExactLinearNamesSpec.post enc Try.prog Try.f19 false true false false) := by
 refine returnsInHanded_of_change (C := Try.checked) own started (by kernel_rfl) Try.func19
  (ChangeSpec.witness6 (enc := enc) (C := Try.checked) false ⟨#[], #[.agg #[.int .i64 0, .slice none 0 0, .slice none 0 0]], []⟩ 8 (by kernel_rfl) (by kernel_rfl) (by kernel_rfl) (by kernel_rfl)) ?_
 intro W base args ds gs before Fb Fe abP _
 have oV : ∀ (ar : Nat) t v, Try.f19.params[ar]? = some t → args[ar]? = some v → Value.okWide Try.prog W .any base t v := Fb
 have YI := Fe
 obtain ⟨p, q, p1, nv, rfl, abQ, qd⟩ := Fe
 have hd : DataW.TrodAll enc Try.prog W 0 (fun _ => true) true Try.f19.params.toList args.toList ds p := p1
 rw [Try.params19] at hd oV
 obtain ⟨v0, abR, d0, abS, gw, tO, kj, rfl, rfl, bp, aI⟩ := trodAll_cons hd
 obtain ⟨rfl, rfl, rfl⟩ := trodAll_nil aI
 obtain rfl : args = #[v0] := by cases args; simp_all
 obtain ⟨rfl, rfl⟩ := trodVars_none nv
 have zB : ∀ x ∈ gw, x.block < W.heap.size := by obtain ⟨m, hm⟩ := bp; exact DataW.trod_lt m _ _ _ hm
 obtain ⟨gM, fQ, uw⟩ := Kf (es := fun y : i2 => [.int .i64 y.dK, .slice (y.Start.map bf), .slice (y.cG.map eB)]) Try.underlying86 YG (oV 0 86 v0 rfl rfl) bp
 clear p1 Fb
 refine (walk W gM uw v0 fQ).mono fun e abT ⟨he, Ff⟩ => ?_
 subst he
 exact ⟨_, rfl, _, _, _, [], _, [], YI, trodAll_mk1 (shut_bool Try.underlying4 _), (trodAll_cons_mk (Below.trod laidOut (by kernel_rfl) (of_decide_eq_true (by kernel_rfl)) bp Ff zB) trodAll_mk0), rfl, Ff.frame _, fun h => by cases h⟩
def wt : List Char := List.map Char.ofNat [104, 97, 114, 110, 101, 115, 115, 32, 50, 52, 99, 49, 52, 55, 101, 48, 97, 98, 55, 52, 56, 98, 50, 50, 56, 49, 49, 102, 97, 98, 100, 48, 55, 100, 102, 100, 48, 50, 56, 48, 98, 99, 48, 49, 99, 101, 102, 53, 98, 49, 55, 53, 99, 54, 50, 97, 100, 50, 50, 102, 49, 57, 49, 101, 101, 54, 50, 102, 100, 99, 98, 55, 32, 99, 117, 116, 32, 97, 116, 32, 108, 111, 111, 112, 46, 101, 120, 97, 109, 112, 108, 101, 47, 103, 48, 49, 48, 55, 53, 47, 108, 97, 119, 115, 46, 70, 110, 69, 120, 97, 99, 116, 80, 97, 99, 107, 73, 116, 101, 109, 115, 32, 108, 111, 111, 112, 46, 101, 120, 97, 109, 112, 108, 101, 47, 103, 48, 49, 48, 55, 53, 47, 108, 97, 119, 115, 46, 70, 110, 69, 120, 97, 99, 116, 69, 110, 99, 111, 100, 101, 69, 113, 117, 97, 116, 105, 111, 110, 115, 32, 108, 111, 111, 112, 46, 101, 120, 97, 109, 112, 108, 101, 47, 103, 48, 49, 48, 55, 53, 47, 108, 97, 119, 115, 46, 70, 110, 69, 120, 97, 99, 116, 67, 111, 110, 115, 116, 97, 110, 116, 79, 102, 32, 108, 111, 111, 112, 46, 101, 120, 97, 109, 112, 108, 101, 47, 103, 48, 49, 48, 55, 53, 47, 108, 97, 119, 115, 46, 70, 110, 69, 120, 97, 99, 116, 85, 110, 112, 97, 99, 107, 73, 116, 101, 109, 115, 32, 108, 111, 111, 112, 46, 101, 120, 97, 109, 112, 108, 101, 47, 103, 48, 49, 48, 55, 53, 47, 108, 97, 119, 115, 46, 70, 110, 69, 120, 97, 99, 116, 83, 97, 108, 118, 97, 103, 101, 73, 116, 101, 109, 115, 32, 108, 111, 111, 112, 46, 101, 120, 97, 109, 112, 108, 101, 47, 103, 48, 49, 48, 55, 53, 47, 108, 97, 119, 115, 46, 70, 110, 69, 120, 97, 99, 116, 68, 101, 99, 111, 100, 101, 69, 113, 117, 97, 116, 105, 111, 110, 115, 32, 108, 111, 111, 112, 46, 101, 120, 97, 109, 112, 108, 101, 47, 103, 48, 49, 48, 55, 53, 47, 108, 97, 119, 115, 46, 70, 110, 69, 120, 97, 99, 116, 80, 117, 116, 73, 116, 101, 109, 32, 108, 111, 111, 112, 46, 101, 120, 97, 109, 112, 108, 101, 47, 103, 48, 49, 48, 55, 53, 47, 108, 97, 119, 115, 46, 70, 110, 69, 120, 97, 99, 116, 66, 111, 100, 121, 70, 97, 117, 108, 116, 32, 108, 111, 111, 112, 46, 101, 120, 97, 109, 112, 108, 101, 47, 103, 48, 49, 48, 55, 53, 47, 108, 97, 119, 115, 46, 70, 110, 69, 120, 97, 99, 116, 86, 97, 108, 105, 100, 68, 101, 102, 105, 110, 105, 116, 105, 111, 110, 115, 32, 108, 111, 111, 112, 46, 101, 120, 97, 109, 112, 108, 101, 47, 103, 48, 49, 48, 55, 53, 47, 108, 97, 119, 115, 46, 70, 110, 69, 120, 97, 99, 116, 86, 97, 114, 105, 97, 98, 108, 101, 115, 79, 102, 32, 108, 111, 111, 112, 46, 101, 120, 97, 109, 112, 108, 101, 47, 103, 48, 49, 48, 55, 53, 47, 108, 97, 119, 115, 46, 70, 110, 69, 120, 97, 99, 116, 80, 97, 114, 116, 69, 110, 100, 32, 108, 111, 111, 112, 46, 101, 120, 97, 109, 112, 108, 101, 47, 103, 48, 49, 48, 55, 53, 47, 108, 97, 119, 115, 46, 70, 110, 69, 120, 97, 99, 116, 83, 99, 111, 112, 101, 65, 116, 32, 108, 111, 111, 112, 46, 101, 120, 97, 109, 112, 108, 101, 47, 103, 48, 49, 48, 55, 53, 47, 108, 97, 119, 115, 46, 70, 110, 69, 120, 97, 99, 116, 86, 97, 108, 105, 100, 80, 111, 105, 110, 116, 32, 108, 111, 111, 112, 46, 101, 120, 97, 109, 112, 108, 101, 47, 103, 48, 49, 48, 55, 53, 47, 108, 97, 119, 115, 46, 70, 110, 69, 120, 97, 99, 116, 85, 110, 114, 111, 108, 108, 83, 117, 109, 115, 32, 108, 111, 111, 112, 46, 101, 120, 97, 109, 112, 108, 101, 47, 103, 48, 49, 48, 55, 53, 47, 108, 97, 119, 115, 46, 70, 110, 69, 120, 97, 99, 116, 73, 110, 116, 101, 114, 108, 101, 97, 118, 101, 76, 105, 110, 101, 97, 114, 32, 108, 111, 111, 112, 46, 101, 120, 97, 109, 112, 108, 101, 47, 103, 48, 49, 48, 55, 53, 47, 108, 97, 119, 115, 46, 70, 110, 69, 120, 97, 99, 116, 67, 111, 110, 115, 116, 97, 110, 116, 80, 97, 114, 97, 109, 101, 116, 101, 114, 115, 32, 108, 111, 111, 112, 46, 101, 120, 97, 109, 112, 108, 101, 47, 103, 48, 49, 48, 55, 53, 47, 108, 97, 119, 115, 46, 70, 110, 69, 120, 97, 99, 116, 76, 105, 110, 101, 97, 114, 78, 97, 109, 101, 115, 32, 108, 111, 111, 112, 46, 101, 120, 97, 109, 112, 108, 101, 47, 103, 48, 49, 48, 55, 53, 47, 108, 97, 119, 115, 46, 70, 110, 69, 120, 97, 99, 116, 78, 101, 101, 100, 101, 100, 80, 97, 114, 97, 109, 101, 116, 101, 114, 115]
def tn : List Char := List.map Char.ofNat [99, 117, 116]
theorem YJ : Try.prog.initOrder = String.ofList wt := by kernel_rfl
theorem zC : Try.prog.initOrder.toList = wt := by rw [YJ]; exact String.toList_ofList
theorem Fg : behindMainWord (wordsSigns wt) = tn :: (behindMainWord (wordsSigns wt)).tail := by kernel_rfl
theorem YK {P : Program} {L : List Char} {r : List (List Char)} (h : P.initOrder.toList = L) (hw : behindMainWord (wordsSigns L) = tn :: r) : P.make = some .cut := by
 unfold Program.make; rw [h, hw]; rfl
theorem YL {P : Program} {L : List Char} {r : List (List Char)} (h : P.initOrder.toList = L) (hw : behindMainWord (wordsSigns L) = tn :: r) (aa : P.laysLater = false) (ab : P.bearsReflect = false) (aE : P.doorFits [] = true) : P.mayEnter = true := by
 unfold Program.mayEnter; rw [h, hw]
 have e : stripLifts liftWords (tn :: r) = ([], tn :: r) := rfl
 simp only [e, aa, ab, aE]
 rfl
theorem YM : Try.prog.liftsFinal = false := by unfold Program.liftsFinal Program.headLifts; rw [zC]; kernel_rfl
theorem YN : Try.prog.mayEnter = true := YL zC Fg (by kernel_rfl) (by kernel_rfl) (by kernel_rfl)
theorem YO : Try.prog.make = some .cut := YK zC Fg
theorem YP : joinedFacts Try.prog 19 Try.f19 Rows.fnExactLinearNamesSpec Rows.fnExactLinearNamesRow = true := by
 unfold joinedFacts
 rw [YM, YN, YO]
 kernel_rfl
theorem over : Rows.fnExactLinearNamesRow.holds Try.pinned (OpenSpec.ofChange Rows.fnExactLinearNamesSpec) :=
 OpenClaim.holds_of_wide 19 Try.f19 rfl rfl rfl rfl rfl rfl rfl ⟨rfl, rfl, rfl, rfl, rfl⟩ rfl rfl rfl rfl rfl (by kernel_rfl) Try.func19 YP
  (of_decide_eq_true (by kernel_rfl)) (by unfold Func.isWrapper; first | (rw [if_pos (by decide +kernel)]; kernel_rfl) | (rw [if_neg (by decide +kernel)]; exact ⟨rfl, rfl⟩))
  (fun os started H enc _ => lifted os started H enc)
theorem proved : Rows.FnExactLinearNamesSaid := over
end Go.Proofs.Ytobljppjkklojaa.fnExactLinearNames
