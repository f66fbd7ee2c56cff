/- The law FnExactFindItem of the given program returns true for every input, and each argument reads afterwards as before. No condition. -/
import Derived.Test.YtncnipaofaeaiaaRows
import Derived.Test.YtncnipaofaeaiaaW6
import Derived.Test.YtncnipaofaeaiaaFw37
import Derived.Test.YtncnipaofaeaiaaU8
import Derived.WalkKit
import Derived.ProofKit
import Derived.OpenShut
import Derived.ChangeOld
import Derived.Below
import Derived.Carry
namespace Go.Proofs.Ytncnipaofaeaiaa.fnExactFindItem
open Go.ChangeShapes Go.WideShapes Go.ChangeAt Go.RowKit
open Go.Fw Go.Sh
set_option linter.unusedVariables false

theorem own : ownKnob Try.prog.godebug = none := by kernel_rfl
theorem laidOut : laidOutB Try.prog = true := by kernel_rfl

theorem rd9 {H : Type} {enc : TypeId × Value → H} {w : World} {base : Nat} {sp : Nat → Bool} {held : Bool} : Rds enc Try.prog w base sp held 9 (fun x : List UInt8 => .str x) (fun x : List UInt8 => x.length ≤ 9223372036854775807) := rds_str Try.underlying9
theorem rd51 {H : Type} {enc : TypeId × Value → H} {w : World} {base : Nat} {sp : Nat → Bool} {held : Bool} : Rds enc Try.prog w base sp held 51 e_laws_Item (fun x : laws_Item => wf_laws_Item x) := by
  intro fuel cs x hx
  obtain ⟨xs, n, _, _, hl, hn, hf⟩ := DataW.trod_struct Try.underlying51 hx
  have hcs : cs.length = 2 := hl.trans (by kernel_rfl)
  obtain ⟨y0, w0, r0⟩ := fld_get rd9 (hf 0 _ rfl) (by rw [List.getElem?_eq_getElem (by rw [hn]; decide)]; rfl)
  change RV w (F0 w) (.str y0) ((cs.drop 0).take (Try.prog.cellsOf 9)) _ at r0
  rw [show Try.prog.cellsOf 9 = 1 by kernel_rfl] at r0
  obtain ⟨y1, w1, r1⟩ := fld_get rd9 (hf 1 _ rfl) (by rw [List.getElem?_eq_getElem (by rw [hn]; decide)]; rfl)
  change RV w (F0 w) (.str y1) ((cs.drop 1).take (Try.prog.cellsOf 9)) _ at r1
  rw [show Try.prog.cellsOf 9 = 1 by kernel_rfl] at r1
  have key := flds_rvs [(.str y0, 0, 1), (.str y1, 1, 1)] 0 (by rw [hcs]; rfl) ⟨r0, r1, trivial⟩
  refine ⟨⟨y0, y1⟩, ⟨w0, w1⟩, ?_⟩
  show RV w (F0 w) (.agg [.str y0, .str y1]) cs _
  rw [RV]
  exact key
theorem rd27 {H : Type} {enc : TypeId × Value → H} {w : World} {base : Nat} {sp : Nat → Bool} {held : Bool} : Rds enc Try.prog w base sp held 27 (fun x : List laws_Item => .slice (x.map e_laws_Item)) (fun x : List laws_Item => (x.length ≤ 9223372036854775807 ∧ ∀ y ∈ x, wf_laws_Item y)) := rds_slice (sz := 2) (ec := e_laws_Item) Try.underlying27 (by kernel_rfl) (by decide) (fun _ => rfl) rd51
theorem walk (w : World) (y0 : List laws_Item) (u0 : (y0.length ≤ 9223372036854775807 ∧ ∀ y ∈ y0, wf_laws_Item y)) (v0 : Value) (y1 : List UInt8) (u1 : y1.length ≤ maxLen) (v1 : Value) (g0 : Arg w (.slice (y0.map e_laws_Item)) v0) (g1 : Arg w (.str y1) v1) :
    Calls Try.prog 6 #[v0, v1] w fun e w' => e = .returned (.bool true) ∧ RowKit.Below w.heap.size w w' :=
  OkAt.law (C := Cc) (ok_laws_FnExactFindItem y0 y1 true (FindItem_true y0 y1 u0 u1)) Try.func6 rfl rfl (.cons g0 (.cons g1 (.nil)))

set_option maxRecDepth 100000 in
theorem lifted (os : Os) (started : os.Started) (H : Type) (enc : TypeId × Value → H) :
    ReturnsInHanded {} Try.checked os 6 .any (Rows.fnExactFindItemSpec.pre6 enc Try.prog Try.f6 Rows.fnExactFindItemRow.domain false) (Rows.fnExactFindItemSpec.post enc Try.prog Try.f6 false true false false) := by
  refine returnsInHanded_of_change (C := Try.checked) own started (by kernel_rfl) Try.func6
    (ChangeSpec.witness6 (enc := enc) (C := Try.checked) false ⟨#[], #[.slice none 0 0, .string ⟨#[]⟩], []⟩ 8 (by kernel_rfl) (by kernel_rfl) (by kernel_rfl) (by kernel_rfl)) ?_
  intro W base args ds gs before hval0 hW hcnd _
  have hval : ∀ (j : Nat) t v, Try.f6.params[j]? = some t → args[j]? = some v → Value.okWide Try.prog W .any base t v := hval0
  have hW' := hW
  obtain ⟨p, q, hA0, hV, rfl, hfz, hnd⟩ := hW
  have hA : DataW.TrodAll enc Try.prog W 0 (fun _ => true) true Try.f6.params.toList args.toList ds p := hA0
  rw [Try.params6] at hA hval
  obtain ⟨v0, vs0, d0, ds0, p0, q0, hargs, rfl, rfl, h0, r0⟩ := trodAll_cons hA
  obtain ⟨v1, vs1, d1, ds1, p1, q1, rfl, rfl, rfl, h1, r1⟩ := trodAll_cons r0
  obtain ⟨rfl, rfl, rfl⟩ := trodAll_nil r1
  obtain rfl : args = #[v0, v1] := by cases args; simp_all
  obtain ⟨rfl, rfl⟩ := trodVars_none hV
  have lt0 : ∀ x ∈ p0, x.block < W.heap.size := by obtain ⟨m, hm⟩ := h0; exact DataW.trod_lt m _ _ _ hm
  obtain ⟨y0, g0, u0⟩ := arg_slice Try.underlying27 rd27 (hval 0 27 v0 rfl rfl) h0
  have lt1 : ∀ x ∈ p1, x.block < W.heap.size := by obtain ⟨m, hm⟩ := h1; exact DataW.trod_lt m _ _ _ hm
  obtain ⟨y1, g1, u1⟩ := arg_str Try.underlying9 (hval 1 9 v1 rfl rfl) h1
  clear hA0 hval0
  refine (walk W y0 u0 v0 y1 u1 v1 g0 g1).mono fun e W' ⟨he, bel⟩ => ?_
  subst he
  exact ⟨_, rfl, _, _, _, [], _, [], hW', trodAll_mk1 (shut_bool Try.underlying4 _), (trodAll_cons_mk (Below.trod laidOut (by kernel_rfl) (of_decide_eq_true (by kernel_rfl)) h0 bel lt0) (trodAll_cons_mk (Below.trod laidOut (by kernel_rfl) (of_decide_eq_true (by kernel_rfl)) h1 bel lt1) trodAll_mk0)), rfl, bel.frame _, fun h => by cases h⟩

theorem over : Rows.fnExactFindItemRow.holds Try.pinned (OpenSpec.ofChange Rows.fnExactFindItemSpec) :=
  OpenClaim.holds_of_wide 6 Try.f6 rfl rfl rfl rfl rfl rfl rfl ⟨rfl, rfl, rfl, rfl, rfl⟩ rfl rfl rfl rfl rfl (by kernel_rfl) Try.func6 (by kernel_rfl)
    (of_decide_eq_true (by kernel_rfl)) (by unfold Func.isWrapper; first | (rw [if_pos (by decide +kernel)]; kernel_rfl) | (rw [if_neg (by decide +kernel)]; exact ⟨rfl, rfl⟩))
    (fun os started H enc _ => lifted os started H enc)

theorem proved : Rows.FnExactFindItemSaid := over

end Go.Proofs.Ytncnipaofaeaiaa.fnExactFindItem
