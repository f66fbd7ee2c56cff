/- Part of a proof that a law returns true for every input. No condition. -/
import Derived.Test.YtobljppjkklojaaP8
import Derived.Test.YtobljppjkklojaaUG
namespace Go.Sh
open Go Go.Fw
set_option linter.unusedSimpArgs false

theorem eq_Int64S (x : List Int) (h : (x.length + 0) ≤ 1048576) : laws_eqInt64S x x = some true := by
  unfold laws_eqInt64S
  have hl : x.length ≤ 1048576 := by omega
  rw [neL, cond_false]
  exact eq_loopS x (fun _ _ => rfl) neI hl
def size_impl_Equation (x : impl_Equation) : Nat := ((x.Terms.length + 0) + 0)
theorem eq_Equation (x : impl_Equation) (h : (size_impl_Equation x) ≤ 1048576) : laws_eqEquation x x = some true := by
  unfold laws_eqEquation
  unfold size_impl_Equation at h
  simp only [neI, neS, neB, cond_false, Option.bind_some, Bool.not_true, eq_Int64S _ (by omega)]
theorem eq_EquationS (x : List impl_Equation) (h : (sizeL size_impl_Equation x) ≤ 1048576) : laws_eqEquationS x x = some true := by
  unfold laws_eqEquationS
  have hl : x.length ≤ 1048576 := Nat.le_trans (sizeL_len _ _) h
  rw [neL, cond_false]
  exact eq_loop (f := laws_eqEquation) x (fun _ _ => rfl) (fun y hy => eq_Equation y (Nat.le_trans (sizeL_mem hy) h)) hl

end Go.Sh
