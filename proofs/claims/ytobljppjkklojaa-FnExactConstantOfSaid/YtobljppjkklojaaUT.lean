/- Part of a proof that a law returns true for every input. No condition. -/
import Derived.Test.YtobljppjkklojaaP5
import Derived.Test.YtobljppjkklojaaUG
namespace Go.Sh
open Go Go.Fw
set_option linter.unusedSimpArgs false

theorem sz_TermS (x : List laws_Term) (n : Int) (hx : (x.length ≤ 9223372036854775807 ∧ ∀ y ∈ x, wf_laws_Term y)) (h0 : 0 ≤ n) (hn : n ≤ 1048576) : laws_szTermS x n = some (bud n (x.length + 0)) := by
  unfold laws_szTermS
  refine st_len hx.1 h0 hn fun h => ?_
  rw [w64 _ (by omega)]
  exact st_end (by omega)
def conv_laws_Term (x : laws_Term) : impl_Term := ⟨x.Kind, x.Value⟩
theorem to_Term (x : laws_Term) : laws_toTerm x = some (conv_laws_Term x) := by
  unfold laws_toTerm
  rfl
theorem to_TermS (x : List laws_Term) (h : (x.length + 0) ≤ 1048576) : laws_toTermS x = some (x.map conv_laws_Term) := by
  unfold laws_toTermS
  have hl : x.length ≤ 1048576 := by omega
  rw [mkOk_small _ hl (by decide)]
  simp only [Option.bind_some]
  rw [to_loop (f := laws_toTerm) conv_laws_Term x _ (fun _ _ _ => rfl) (fun y hy => to_Term y) hl]
theorem eq_Term (x : impl_Term) : laws_eqTerm x x = some true := by
  unfold laws_eqTerm
  simp only [neI, neS, neB, cond_false, Option.bind_some, Bool.not_true]
theorem eq_TermS (x : List impl_Term) (h : (x.length + 0) ≤ 1048576) : laws_eqTermS x x = some true := by
  unfold laws_eqTermS
  have hl : x.length ≤ 1048576 := by omega
  rw [neL, cond_false]
  exact eq_loop (f := laws_eqTerm) x (fun _ _ => rfl) (fun y hy => eq_Term y) hl

end Go.Sh
