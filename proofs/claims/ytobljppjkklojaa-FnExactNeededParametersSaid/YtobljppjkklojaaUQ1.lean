/- Part of a proof that a law returns true for every input. No condition. -/
import Derived.Test.YtobljppjkklojaaUA
import Derived.Test.YtobljppjkklojaaUQ
namespace Go.Sh
open Go Go.Fw
def varsT (e : List impl_Term) : List Int := (e.filter fun t => t.Kind == 1).map (·.Value)
theorem varsT_cons (t : impl_Term) (e : List impl_Term) : varsT (t :: e) = if t.Kind = 1 then t.Value :: varsT e else varsT e := by
 unfold varsT
 by_cases h : t.Kind = 1 <;> simp [h]
theorem varsT_len (e : List impl_Term) : (varsT e).length ≤ e.length := by
 unfold varsT; rw [List.length_map]; exact List.length_filter_le ..
theorem impl_vars (e : List impl_Term) (h : e.length ≤ 1048576) : impl_variables e = some (insAll ltI [] (varsT e)) := by
 unfold impl_variables
 have key : ∀ i, i ≤ e.length → ∀ (v : List Int) m, v.length ≤ i → e.length - i < m → impl_variables_l8 e m v (i : Int) = some (insAll ltI [] (v ++ varsT (e.drop i))) := by
  refine down e.length ?_ ?_
  ·intro v m hv hm
   obtain ⟨m, rfl⟩ : ∃ j, m = j + 1 := ⟨m - 1, by omega⟩
   simp only [impl_variables_l8, impl_variables_b8, slices_Sort_int64_int64, slices_Compact_int64_int64]
   rw [ltF (Nat.le_refl _), List.drop_of_length_le (Nat.le_refl _), if_pos (by omega)]
   simp only [cond_false, Option.bind_some]
   rw [sort_ins ordI (fun a b => leI a b)]
   simp [varsT]
  ·intro i hi ih v m hv hm
   obtain ⟨m, rfl⟩ : ∃ j, m = j + 1 := ⟨m - 1, by omega⟩
   simp only [impl_variables_l8, impl_variables_b8, impl_variables_k24]
   rw [ltT hi, getI_lt _ i hi, drop_cons e i hi, varsT_cons, wsucc i _ hi (by omega), room_ok (by omega) (by omega)]
   simp only [cond_true, Option.bind_some]
   rw [ih _ m (by simp only [List.length_append, List.length_cons, List.length_nil]; omega) (by omega), ih _ m (by omega) (by omega)]
   by_cases h1 : e[i].Kind = 1
   ·simp [h1]
   ·have h2 : (e[i].Kind == 1) = false := by simpa using h1
    simp [h1, h2]
 refine lim_of (e.length + 1) fun m hm => ?_
 have := key 0 (by omega) [] m (by simp) (by omega)
 simpa using this
end Go.Sh
