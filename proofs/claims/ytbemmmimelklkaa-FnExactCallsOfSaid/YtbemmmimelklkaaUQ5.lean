/- Part of a proof that a law returns true for every input. No condition. -/
import Derived.Test.YtbemmmimelklkaaUD10
import Derived.Test.YtbemmmimelklkaaUQ4
namespace Go.Sh
open Go Go.Fw
def callsP (b : List impl_Part) : List Int := (b.filter fun p => p.Kind == 5).map (·.Number)
theorem callsP_cons (p : impl_Part) (b : List impl_Part) : callsP (p :: b) = if p.Kind = 5 then p.Number :: callsP b else callsP b := by
 unfold callsP
 by_cases h : p.Kind = 5 <;> simp [h]
theorem callsP_len (b : List impl_Part) : (callsP b).length ≤ b.length := by
 unfold callsP; rw [List.length_map]; exact List.length_filter_le ..
theorem spec_calls (b : List impl_Part) (h : b.length ≤ 1048576) : spec_l05Calls b = some (insAll ltI [] (callsP b)) := by
 unfold spec_l05Calls
 have key : ∀ i, i ≤ b.length → ∀ (v : List Int) m, v.length ≤ i → b.length - i < m → spec_l05Calls_l8 b m v (i : Int) = some (insAll ltI v (callsP (b.drop i))) := by
  refine down b.length ?_ ?_
  ·intro v m hv hm
   obtain ⟨m, rfl⟩ : ∃ j, m = j + 1 := ⟨m - 1, by omega⟩
   simp only [spec_l05Calls_l8, spec_l05Calls_b8]
   rw [ltF (Nat.le_refl _), List.drop_of_length_le (Nat.le_refl _)]
   rfl
  ·intro i hi ih v m hv hm
   obtain ⟨m, rfl⟩ : ∃ j, m = j + 1 := ⟨m - 1, by omega⟩
   simp only [spec_l05Calls_l8, spec_l05Calls_b8, spec_l05Calls_k22]
   rw [ltT hi, getI_lt _ i hi, drop_cons b i hi, callsP_cons, wsucc i _ hi (by omega)]
   simp only [cond_true, Option.bind_some]
   rw [spec_put v _ (by omega)]
   simp only [Option.bind_some]
   have hl := ins_len (lt := ltI) b[i].Number v
   rw [ih _ m (by omega) (by omega), ih _ m (by omega) (by omega)]
   by_cases h1 : b[i].Kind = 5
   ·simp [h1, insAll]
   ·have h2 : (b[i].Kind == 5) = false := by simpa using h1
    simp [h1, h2]
 refine lim_of (b.length + 1) fun m hm => ?_
 have := key 0 (by omega) [] m (by simp) (by omega)
 simpa using this
theorem impl_calls (d : impl_Definition) (h : d.Body.length ≤ 1048576) : impl_Definition_calls d = some (insAll ltI [] (callsP d.Body)) := by
 unfold impl_Definition_calls
 have key : ∀ i, i ≤ d.Body.length → ∀ (v : List Int) m, v.length ≤ i → d.Body.length - i < m → impl_Definition_calls_l8 d m v (i : Int) = some (insAll ltI [] (v ++ callsP (d.Body.drop i))) := by
  refine down d.Body.length ?_ ?_
  ·intro v m hv hm
   obtain ⟨m, rfl⟩ : ∃ j, m = j + 1 := ⟨m - 1, by omega⟩
   simp only [impl_Definition_calls_l8, impl_Definition_calls_b8, slices_Sort_int64_int64, slices_Compact_int64_int64]
   rw [ltF (Nat.le_refl _), List.drop_of_length_le (Nat.le_refl _), if_pos (by omega)]
   simp only [cond_false, Option.bind_some]
   rw [sort_ins ordI (fun a b => leI a b)]
   simp [callsP]
  ·intro i hi ih v m hv hm
   obtain ⟨m, rfl⟩ : ∃ j, m = j + 1 := ⟨m - 1, by omega⟩
   simp only [impl_Definition_calls_l8, impl_Definition_calls_b8, impl_Definition_calls_k24]
   rw [ltT hi, getI_lt _ i hi, drop_cons d.Body i hi, callsP_cons, wsucc i _ hi (by omega), room_ok (by omega) (by omega)]
   simp only [cond_true, Option.bind_some]
   rw [ih _ m (by simp only [List.length_append, List.length_cons, List.length_nil]; omega) (by omega), ih _ m (by omega) (by omega)]
   by_cases h1 : d.Body[i].Kind = 5
   ·simp [h1]
   ·have h2 : (d.Body[i].Kind == 5) = false := by simpa using h1
    simp [h1, h2]
 refine lim_of (d.Body.length + 1) fun m hm => ?_
 have := key 0 (by omega) [] m (by simp) (by omega)
 simpa using this
end Go.Sh
