/- Part of a proof that a law returns true for every input. No condition. -/
import Derived.Test.YtbemmmimelklkaaUQ
import Derived.Test.YtbemmmimelklkaaP3
namespace Go.Sh
open Go Go.Fw
theorem spec_put (a : List Int) (x : Int) (h : a.length ≤ 1048576) : spec_l00Put a x = some (ins ltI x a) := by
 unfold spec_l00Put
 have key : ∀ i, i ≤ a.length → ∀ (v : List Int) (d : Bool) m, v.length ≤ 2 * i + 1 → a.length - i < m → spec_l00Put_l10 a x m v d (i : Int) = some (v ++ (if d = true then a.drop i else ins ltI x (a.drop i))) := by
  refine down a.length ?_ ?_
  ·intro v d m hv hm
   obtain ⟨m, rfl⟩ : ∃ j, m = j + 1 := ⟨m - 1, by omega⟩
   simp only [spec_l00Put_l10, spec_l00Put_b10, spec_l00Put_k39]
   rw [ltF (Nat.le_refl _), List.drop_of_length_le (Nat.le_refl _), room_ok (by omega) (by omega)]
   cases d <;> simp [ins]
  ·intro i hi ih v d m hv hm
   obtain ⟨m, rfl⟩ : ∃ j, m = j + 1 := ⟨m - 1, by omega⟩
   have hnext : ∀ (w : List Int) (d : Bool), w.length ≤ 2 * i + 2 → spec_l00Put_k31 (spec_l00Put_l10 a x m) a x w d (i : Int) = some (w ++ (a[i] :: (if d = true then a.drop (i + 1) else ins ltI x (a.drop (i + 1))))) := by
    intro w d hw
    simp only [spec_l00Put_k31]
    rw [getI_lt _ i hi, wsucc i _ hi (by omega)]
    simp only [Option.bind_some]
    rw [room_ok (by omega) (by omega)]
    simp only [Option.bind_some]
    rw [ih (w ++ [a[i]]) d m (by simp only [List.length_append, List.length_cons, List.length_nil]; omega) (by omega)]
    simp
   simp only [spec_l00Put_l10, spec_l00Put_b10]
   rw [ltT hi, getI_lt _ i hi, drop_cons a i hi, room_ok (by omega) (by omega)]
   simp only [cond_true, Option.bind_some]
   rw [hnext _ _ (by simp only [List.length_append, List.length_cons, List.length_nil]; omega), hnext _ _ (by omega), hnext _ _ (by omega)]
   cases d
   ·simp only [Bool.not_false, cond_true, ins, Bool.false_eq_true, if_false]
    by_cases h1 : x < a[i]
    ·have h2 : x ≤ a[i] := by omega
     simp [h1, h2]
    ·by_cases h2 : x = a[i]
     ·have h3 : x ≤ a[i] := by omega
      simp [h1, h2]
     ·have h3 : ¬ x ≤ a[i] := by omega
      simp [h1, h2, h3]
   ·simp
 refine lim_of (a.length + 1) fun m hm => ?_
 have := key 0 (by omega) [] false m (by simp) (by omega)
 simpa using this
end Go.Sh
