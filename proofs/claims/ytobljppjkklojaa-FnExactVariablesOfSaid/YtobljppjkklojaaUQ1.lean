/- Part of a proof that a law returns true for every input. No condition. -/
import Derived.Test.YtobljppjkklojaaUA
import Derived.Test.YtobljppjkklojaaUQ
namespace Go.Sh
open Go Go.Fw
abbrev ltI : Int → Int → Bool := fun a b => decide (a < b)
theorem spec_put (a : List Int) (x : Int) (h : a.length ≤ 1048576) : spec_l00Put a x = some (ins ltI x a) := by
 unfold spec_l00Put
 have key : ∀ i, i ≤ a.length → ∀ (v : List Int) (d : Bool) m, v.length ≤ 2 * i + 1 → a.length - i < m → spec_l00Put_l10 a x m v d (i : Int) = some (v ++ (if d = true then a.drop i else ins ltI x (a.drop i))) := by
  refine down a.length ?_ ?_
  ·intro v d m hv hm
   obtain ⟨m, rfl⟩ : ∃ j, m = j + 1 := ⟨m - 1, by omega⟩
   simp only [spec_l00Put_l10, spec_l00Put_b10, spec_l00Put_k39]
   rw [ltF (Nat.le_refl _), List.drop_of_length_le (Nat.le_refl _), room_ok (by omega) (by omega)]
   cases d <;> simp [ins]
  ·intro i hi ih v d m hv hm
   obtain ⟨m, rfl⟩ : ∃ j, m = j + 1 := ⟨m - 1, by omega⟩
   have hnext : ∀ (w : List Int) (d : Bool), w.length ≤ 2 * i + 2 → spec_l00Put_k31 (spec_l00Put_l10 a x m) a x w d (i : Int) = some (w ++ (a[i] :: (if d = true then a.drop (i + 1) else ins ltI x (a.drop (i + 1))))) := by
    intro w d hw
    simp only [spec_l00Put_k31]
    rw [getI_lt _ i hi, wsucc i _ hi (by omega)]
    simp only [Option.bind_some]
    rw [room_ok (by omega) (by omega)]
    simp only [Option.bind_some]
    rw [ih (w ++ [a[i]]) d m (by simp only [List.length_append, List.length_cons, List.length_nil]; omega) (by omega)]
    simp
   simp only [spec_l00Put_l10, spec_l00Put_b10]
   rw [ltT hi, getI_lt _ i hi, drop_cons a i hi, room_ok (by omega) (by omega)]
   simp only [cond_true, Option.bind_some]
   rw [hnext _ _ (by simp only [List.length_append, List.length_cons, List.length_nil]; omega), hnext _ _ (by omega), hnext _ _ (by omega)]
   cases d
   ·simp only [Bool.not_false, cond_true, ins, Bool.false_eq_true, if_false]
    by_cases h1 : x < a[i]
    ·have h2 : x ≤ a[i] := by omega
     simp [h1, h2]
    ·by_cases h2 : x = a[i]
     ·have h3 : x ≤ a[i] := by omega
      simp [h1, h2]
     ·have h3 : ¬ x ≤ a[i] := by omega
      simp [h1, h2, h3]
   ·simp
 refine lim_of (a.length + 1) fun m hm => ?_
 have := key 0 (by omega) [] false m (by simp) (by omega)
 simpa using this
def varsT (e : List impl_Term) : List Int := (e.filter fun t => t.Kind == 1).map (·.Value)
theorem varsT_cons (t : impl_Term) (e : List impl_Term) : varsT (t :: e) = if t.Kind = 1 then t.Value :: varsT e else varsT e := by
 unfold varsT
 by_cases h : t.Kind = 1 <;> simp [h]
theorem varsT_len (e : List impl_Term) : (varsT e).length ≤ e.length := by
 unfold varsT; rw [List.length_map]; exact List.length_filter_le ..
theorem spec_names (e : List impl_Term) (h : e.length ≤ 1048576) : spec_l03Names e = some (insAll ltI [] (varsT e)) := by
 unfold spec_l03Names
 have key : ∀ i, i ≤ e.length → ∀ (v : List Int) m, v.length ≤ i → e.length - i < m → spec_l03Names_l8 e m v (i : Int) = some (insAll ltI v (varsT (e.drop i))) := by
  refine down e.length ?_ ?_
  ·intro v m hv hm
   obtain ⟨m, rfl⟩ : ∃ j, m = j + 1 := ⟨m - 1, by omega⟩
   simp only [spec_l03Names_l8, spec_l03Names_b8]
   rw [ltF (Nat.le_refl _), List.drop_of_length_le (Nat.le_refl _)]
   rfl
  ·intro i hi ih v m hv hm
   obtain ⟨m, rfl⟩ : ∃ j, m = j + 1 := ⟨m - 1, by omega⟩
   simp only [spec_l03Names_l8, spec_l03Names_b8, spec_l03Names_k22]
   rw [ltT hi, getI_lt _ i hi, drop_cons e i hi, varsT_cons, wsucc i _ hi (by omega)]
   simp only [cond_true, Option.bind_some]
   rw [spec_put v _ (by omega)]
   simp only [Option.bind_some]
   have hl := ins_len (lt := ltI) e[i].Value v
   rw [ih _ m (by omega) (by omega), ih _ m (by omega) (by omega)]
   by_cases h1 : e[i].Kind = 1
   ·simp [h1, insAll]
   ·have h2 : (e[i].Kind == 1) = false := by simpa using h1
    simp [h1, h2]
 refine lim_of (e.length + 1) fun m hm => ?_
 have := key 0 (by omega) [] m (by simp) (by omega)
 simpa using this
theorem impl_vars (e : List impl_Term) (h : e.length ≤ 1048576) : impl_variables e = some (insAll ltI [] (varsT e)) := by
 unfold impl_variables
 have key : ∀ i, i ≤ e.length → ∀ (v : List Int) m, v.length ≤ i → e.length - i < m → impl_variables_l8 e m v (i : Int) = some (insAll ltI [] (v ++ varsT (e.drop i))) := by
  refine down e.length ?_ ?_
  ·intro v m hv hm
   obtain ⟨m, rfl⟩ : ∃ j, m = j + 1 := ⟨m - 1, by omega⟩
   simp only [impl_variables_l8, impl_variables_b8, slices_Sort_int64_int64, slices_Compact_int64_int64]
   rw [ltF (Nat.le_refl _), List.drop_of_length_le (Nat.le_refl _), if_pos (by omega)]
   simp only [cond_false, Option.bind_some]
   rw [sort_ins ordI (fun a b => leI a b)]
   simp [varsT]
  ·intro i hi ih v m hv hm
   obtain ⟨m, rfl⟩ : ∃ j, m = j + 1 := ⟨m - 1, by omega⟩
   simp only [impl_variables_l8, impl_variables_b8, impl_variables_k24]
   rw [ltT hi, getI_lt _ i hi, drop_cons e i hi, varsT_cons, wsucc i _ hi (by omega), room_ok (by omega) (by omega)]
   simp only [cond_true, Option.bind_some]
   rw [ih _ m (by simp only [List.length_append, List.length_cons, List.length_nil]; omega) (by omega), ih _ m (by omega) (by omega)]
   by_cases h1 : e[i].Kind = 1
   ·simp [h1]
   ·have h2 : (e[i].Kind == 1) = false := by simpa using h1
    simp [h1, h2]
 refine lim_of (e.length + 1) fun m hm => ?_
 have := key 0 (by omega) [] m (by simp) (by omega)
 simpa using this
theorem impl_any (e : List impl_Term) (he : e.length ≤ 1048576) : impl_termsOk e = some (termsV e 29 60) := by
 unfold impl_termsOk
 rw [impl_valid e 29 60 (by omega) (by omega) he]; rfl
theorem spec_any (e : List impl_Term) (he : e.length ≤ 1048576) : spec_l03Any e = some (termsV e 29 60) := by
 unfold spec_l03Any
 rw [spec_is e 29 60 (by omega) he]; rfl
end Go.Sh
