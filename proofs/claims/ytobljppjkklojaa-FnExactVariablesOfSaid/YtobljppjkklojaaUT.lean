/- Part of a proof that a law returns true for every input. No condition. -/
import Derived.Test.YtobljppjkklojaaP12
import Derived.Test.YtobljppjkklojaaUN
namespace Go.Sh
open Go Go.Fw
set_option linter.unusedSimpArgs false
theorem sz_TermS (x : List laws_Term) (n : Int) (hx : (x.length ≤ 9223372036854775807 ∧ ∀ y ∈ x, wf_laws_Term y)) (h0 : 0 ≤ n) (hn : n ≤ 1048576) : laws_szTermS x n = some (bud n (x.length + 0)) := by
 unfold laws_szTermS
 refine st_len hx.1 h0 hn fun h => ?_
 rw [w64 _ (by omega)]
 exact st_end (by omega)
def conv_laws_Term (x : laws_Term) : impl_Term := ⟨x.Kind, x.Value⟩
theorem to_Term (x : laws_Term) : laws_toTerm x = some (conv_laws_Term x) := by
 unfold laws_toTerm
 rfl
theorem to_TermS (x : List laws_Term) (h : (x.length + 0) ≤ 1048576) : laws_toTermS x = some (x.map conv_laws_Term) := by
 unfold laws_toTermS
 have hl : x.length ≤ 1048576 := by omega
 rw [mkOk_small _ hl (by decide)]
 simp only [Option.bind_some]
 rw [to_loop (f := laws_toTerm) conv_laws_Term x _ (fun _ _ _ => rfl) (fun y hy => to_Term y) hl]
theorem eq_Int64S (x : List Int) (h : (x.length + 0) ≤ 1048576) : laws_eqInt64S x x = some true := by
 unfold laws_eqInt64S
 have hl : x.length ≤ 1048576 := by omega
 rw [neL, cond_false]
 exact eq_loopS x (fun _ _ => rfl) neI hl
theorem eq_Term (x : impl_Term) : laws_eqTerm x x = some true := by
 unfold laws_eqTerm
 simp only [neI, neS, neB, cond_false, Option.bind_some, Bool.not_true]
theorem eq_TermS (x : List impl_Term) (h : (x.length + 0) ≤ 1048576) : laws_eqTermS x x = some true := by
 unfold laws_eqTermS
 have hl : x.length ≤ 1048576 := by omega
 rw [neL, cond_false]
 exact eq_loop (f := laws_eqTerm) x (fun _ _ => rfl) (fun y hy => eq_Term y) hl
theorem mk_TermS (x : List impl_Term) (k : Int) (h0 : 0 ≤ k) (hb : k + 64 * (x.length + 0) ≤ 1099511627776) : ∃ (x' : List impl_Term) (c : Nat), c ≤ 64 * (x.length + 0) ∧ laws_markTermS x k = some (k + (c : Int), x') := by
 unfold laws_markTermS
 have e : sumS (fun _ => 64) x = 64 * x.length := sumS_c 64 x
 obtain ⟨x', c, h1, h2⟩ := mark_ex (l := laws_markTermS_l6) (fun _ => 64) (fun m v k => by simp only [laws_markTermS_l6, laws_markTermS_b6]; rw [ltF (Nat.le_refl _)]; rfl) (fun x k h0 hb => by
  have w1 : IntKind.i64.wrap (k + 1) = k + 1 := w64 _ (by omega)
  have w2 : IntKind.i64.wrap ((k + 1) + 1) = (k + 1) + 1 := w64 _ (by omega)
  refine ⟨(impl_Term.mk k (k + 1)), 1 + 1, by omega, fun m d r hd => ?_⟩
  simp only [laws_markTermS_l6, laws_markTermS_b6]
  rw [ltM]
  simp only [cond_true, getI_mid, set_midI, Option.bind_some, w1, w2]
  rw [wsM hd]
  rw [show (((k + 1) + 1) : Int) = k + ((1 + 1 : Nat) : Int) by omega]) x k h0 (by omega) (by omega)
 exact ⟨x', c, by omega, h2⟩
theorem mk_Int64S (x : List Int) (k : Int) (h0 : 0 ≤ k) (hb : k + 64 * (x.length + 0) ≤ 1099511627776) : ∃ (x' : List Int) (c : Nat), c ≤ 64 * (x.length + 0) ∧ laws_markInt64S x k = some (k + (c : Int), x') ∧ laws_heldInt64S x' k = some (k + (c : Int)) := by
 unfold laws_markInt64S laws_heldInt64S
 have e : sumS (fun _ => 64) x = 64 * x.length := sumS_c 64 x
 obtain ⟨x', c, h1, h2, h3⟩ := held_ex (l := laws_markInt64S_l6) (hl := laws_heldInt64S_l6) (fun _ => 64) (fun m v k => by simp only [laws_markInt64S_l6, laws_markInt64S_b6]; rw [ltF (Nat.le_refl _)]; rfl) (fun a m k => by simp only [laws_heldInt64S_l6, laws_heldInt64S_b6]; rw [ltF (Nat.le_refl _)]; rfl) (fun x k h0 hb => by
  have w1 : IntKind.i64.wrap (k + 1) = k + 1 := w64 _ (by omega)
  refine ⟨k, 1, by omega, fun m d r hd => ⟨?_, ?_⟩⟩
  ·simp only [laws_markInt64S_l6, laws_markInt64S_b6]
   rw [ltM]
   simp only [cond_true, getI_mid, set_midI, Option.bind_some, w1]
   rw [wsM hd]
   rw [show ((k + 1) : Int) = k + ((1 : Nat) : Int) by omega]
  ·simp only [laws_heldInt64S_l6, laws_heldInt64S_b6]
   rw [ltM]
   simp only [cond_true, cond_false, getI_mid, Option.bind_some, bne_self_eq_false, beq_self_eq_true, Bool.not_true, w1]
   rw [wsM hd]
   rw [show ((k + 1) : Int) = k + ((1 : Nat) : Int) by omega]) x k h0 (by omega) (by omega)
 exact ⟨x', c, by omega, h2, h3⟩
end Go.Sh
