/- Part of a proof that a law returns true for every input. No condition. -/
import Derived.Test.YtbemmmimelklkaaGreatUQ
import Derived.Test.YtbemmmimelklkaaGreatP6
namespace Go.eR
open Go Go.c5
theorem HM (a : List Int) (x : Int) (h : a.length ≤ 1048576) : vn a x = some (ins hr x a) := by
 unfold vn
 have key : ∀ i, i ≤ a.length → ∀ (v : List Int) (d : Bool) m, v.length ≤ 2 * i + 1 → a.length - i < m → qe a x m v d (i : Int) = some (v ++ (if d = true then a.drop i else ins hr x (a.drop i))) := by
  refine down a.length ?_ ?_
  ·intro v d m aR hm
   obtain ⟨m, rfl⟩ : ∃ j, m = j + 1 := ⟨m - 1, by omega⟩
   simp only [qe, BJ, BI]
   rw [fa (Nat.le_refl _), List.drop_of_length_le (Nat.le_refl _), tA (by omega) (by omega)]
   cases d <;> simp [ins]
  ·intro i ao ih v d m aR hm
   obtain ⟨m, rfl⟩ : ∃ j, m = j + 1 := ⟨m - 1, by omega⟩
   have HN : ∀ (w : List Int) (d : Bool), w.length ≤ 2 * i + 2 → sP (qe a x m) a x w d (i : Int) = some (w ++ (a[i] :: (if d = true then a.drop (i + 1) else ins hr x (a.drop (i + 1))))) := by
    intro w d hw
    simp only [sP]
    rw [gx _ i ao, fA i _ ao (by omega)]
    simp only [Option.bind_some]
    rw [tA (by omega) (by omega)]
    simp only [Option.bind_some]
    rw [ih (w ++ [a[i]]) d m (by simp only [List.length_append, List.length_cons, List.length_nil]; omega) (by omega)]
    simp
   simp only [qe, BJ]
   rw [fB ao, gx _ i ao, drop_cons a i ao, tA (by omega) (by omega)]
   simp only [cond_true, Option.bind_some]
   rw [HN _ _ (by simp only [List.length_append, List.length_cons, List.length_nil]; omega), HN _ _ (by omega), HN _ _ (by omega)]
   cases d
   ·simp only [Bool.not_false, cond_true, ins, Bool.false_eq_true, if_false]
    by_cases af : x < a[i]
    ·have ai : x ≤ a[i] := by omega
     simp [af, ai]
    ·by_cases ai : x = a[i]
     ·have aN : x ≤ a[i] := by omega
      simp [af, ai]
     ·have aN : ¬ x ≤ a[i] := by omega
      simp [af, ai, aN]
   ·simp
 refine hP (a.length + 1) fun m hm => ?_
 have := key 0 (by omega) [] false m (by simp) (by omega)
 simpa using this
end Go.eR
