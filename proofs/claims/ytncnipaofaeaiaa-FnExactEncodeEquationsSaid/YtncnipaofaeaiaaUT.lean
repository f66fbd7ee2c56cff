/- Part of a proof that a law returns true for every input. No condition. -/
import Derived.Test.YtncnipaofaeaiaaP8
import Derived.Test.YtncnipaofaeaiaaUG
namespace Go.Sh
open Go Go.Fw
set_option linter.unusedSimpArgs false

theorem sz_Int64S (x : List Int) (n : Int) (hx : (x.length ≤ 9223372036854775807 ∧ ∀ y ∈ x, (-9223372036854775808 ≤ y ∧ y ≤ 9223372036854775807))) (h0 : 0 ≤ n) (hn : n ≤ 1048576) : laws_szInt64S x n = some (bud n (x.length + 0)) := by
  unfold laws_szInt64S
  refine st_len hx.1 h0 hn fun h => ?_
  rw [w64 _ (by omega)]
  exact st_end (by omega)
def size_laws_Equation (x : laws_Equation) : Nat := ((x.Terms.length + 0) + 0)
theorem sz_Equation (x : laws_Equation) (n : Int) (hx : wf_laws_Equation x) (h0 : 0 ≤ n) (hn : n ≤ 1048576) : laws_szEquation x n = some (bud n (size_laws_Equation x)) := by
  unfold laws_szEquation
  unfold size_laws_Equation
  obtain ⟨w0, w1, w2⟩ := hx
  refine st_call (sz_Int64S _ _ w2 (by omega) (by omega)) fun c2 => ?_
  exact st_end (by omega)
theorem sz_EquationS (x : List laws_Equation) (n : Int) (hx : (x.length ≤ 9223372036854775807 ∧ ∀ y ∈ x, wf_laws_Equation y)) (h0 : 0 ≤ n) (hn : n ≤ 1048576) : laws_szEquationS x n = some (bud n (sizeL size_laws_Equation x)) := by
  unfold laws_szEquationS
  refine st_len hx.1 h0 hn fun h => ?_
  rw [w64 _ (by omega)]
  exact sz_loop size_laws_Equation x (fun _ _ _ => rfl) (fun y hy n h0 hn => sz_Equation y n (hx.2 y hy) h0 hn) (by omega) _ (by omega) (by omega)
theorem to_Int64S (x : List Int) (h : (x.length + 0) ≤ 1048576) : laws_toInt64S x = some x := by
  unfold laws_toInt64S
  have hl : x.length ≤ 1048576 := by omega
  rw [mkOk_small _ hl (by decide)]
  simp only [Option.bind_some]
  rw [to_loop (f := some) id x _ (fun _ _ _ => rfl) (fun _ _ => rfl) hl, List.map_id]
def conv_laws_Equation (x : laws_Equation) : impl_Equation := ⟨x.Greatest, x.All, x.Terms⟩
def size_impl_Equation (x : impl_Equation) : Nat := ((x.Terms.length + 0) + 0)
theorem sc_laws_Equation (x : laws_Equation) : size_impl_Equation (conv_laws_Equation x) = size_laws_Equation x := by
  simp only [size_impl_Equation, size_laws_Equation, conv_laws_Equation, sizeL_map, List.length_map]
theorem to_Equation (x : laws_Equation) (h : (size_laws_Equation x) ≤ 1048576) : laws_toEquation x = some (conv_laws_Equation x) := by
  unfold laws_toEquation
  unfold size_laws_Equation at h
  rw [to_Int64S _ (by omega)]
  rfl
theorem to_EquationS (x : List laws_Equation) (h : (sizeL size_laws_Equation x) ≤ 1048576) : laws_toEquationS x = some (x.map conv_laws_Equation) := by
  unfold laws_toEquationS
  have hl : x.length ≤ 1048576 := Nat.le_trans (sizeL_len _ _) h
  rw [mkOk_small _ hl (by decide)]
  simp only [Option.bind_some]
  rw [to_loop (f := laws_toEquation) conv_laws_Equation x _ (fun _ _ _ => rfl) (fun y hy => to_Equation y (Nat.le_trans (sizeL_mem hy) h)) hl]
theorem eq_Int64S (x : List Int) (h : (x.length + 0) ≤ 1048576) : laws_eqInt64S x x = some true := by
  unfold laws_eqInt64S
  have hl : x.length ≤ 1048576 := by omega
  rw [neL, cond_false]
  exact eq_loopS x (fun _ _ => rfl) neI hl
theorem eq_Equation (x : impl_Equation) (h : (size_impl_Equation x) ≤ 1048576) : laws_eqEquation x x = some true := by
  unfold laws_eqEquation
  unfold size_impl_Equation at h
  simp only [neI, neS, neB, cond_false, Option.bind_some, Bool.not_true, eq_Int64S _ (by omega)]
theorem eq_EquationS (x : List impl_Equation) (h : (sizeL size_impl_Equation x) ≤ 1048576) : laws_eqEquationS x x = some true := by
  unfold laws_eqEquationS
  have hl : x.length ≤ 1048576 := Nat.le_trans (sizeL_len _ _) h
  rw [neL, cond_false]
  exact eq_loop (f := laws_eqEquation) x (fun _ _ => rfl) (fun y hy => eq_Equation y (Nat.le_trans (sizeL_mem hy) h)) hl

end Go.Sh
