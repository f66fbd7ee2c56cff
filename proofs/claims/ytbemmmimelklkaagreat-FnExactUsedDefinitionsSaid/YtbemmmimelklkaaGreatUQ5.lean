/- Part of a proof that a law returns true for every input. No condition. -/
import Derived.Test.YtbemmmimelklkaaGreatUQ4
namespace Go.eR
open Go Go.c5
def mO (b : List bE) : List Int := (b.filter fun p => p.Kind == 5).map (·.Number)
theorem Pu (p : bE) (b : List bE) : mO (p :: b) = if p.Kind = 5 then p.Number :: mO b else mO b := by
 unfold mO
 by_cases h : p.Kind = 5 <;> simp [h]
theorem azC (b : List bE) : (mO b).length ≤ b.length := by
 unfold mO; rw [List.length_map]; exact List.length_filter_le ..
theorem awY (b : List bE) (h : b.length ≤ 1048576) : BN b = some (hX hr [] (mO b)) := by
 unfold BN
 have key : ∀ i, i ≤ b.length → ∀ (v : List Int) m, v.length ≤ i → b.length - i < m → rk b m v (i : Int) = some (hX hr v (mO (b.drop i))) := by
  refine down b.length ?_ ?_
  ·intro v m aR hm
   obtain ⟨m, rfl⟩ : ∃ j, m = j + 1 := ⟨m - 1, by omega⟩
   simp only [rk, BM]
   rw [fa (Nat.le_refl _), List.drop_of_length_le (Nat.le_refl _)]
   rfl
  ·intro i ao ih v m aR hm
   obtain ⟨m, rfl⟩ : ∃ j, m = j + 1 := ⟨m - 1, by omega⟩
   simp only [rk, BM, BL]
   rw [fB ao, gx _ i ao, drop_cons b i ao, Pu, fA i _ ao (by omega)]
   simp only [cond_true, Option.bind_some]
   rw [HM v _ (by omega)]
   simp only [Option.bind_some]
   have hl := HI (lt := hr) b[i].Number v
   rw [ih _ m (by omega) (by omega), ih _ m (by omega) (by omega)]
   by_cases af : b[i].Kind = 5
   ·simp [af, hX]
   ·have ai : (b[i].Kind == 5) = false := by simpa using af
    simp [af, ai]
 refine hP (b.length + 1) fun m hm => ?_
 have := key 0 (by omega) [] m (by simp) (by omega)
 simpa using this
theorem awZ (d : bg) (h : d.Body.length ≤ 1048576) : Cp d = some (hX hr [] (mO d.Body)) := by
 unfold Cp
 have key : ∀ i, i ≤ d.Body.length → ∀ (v : List Int) m, v.length ≤ i → d.Body.length - i < m → rp d m v (i : Int) = some (hX hr [] (v ++ mO (d.Body.drop i))) := by
  refine down d.Body.length ?_ ?_
  ·intro v m aR hm
   obtain ⟨m, rfl⟩ : ∃ j, m = j + 1 := ⟨m - 1, by omega⟩
   simp only [rp, Co, sY, vz]
   rw [fa (Nat.le_refl _), List.drop_of_length_le (Nat.le_refl _), if_pos (by omega)]
   simp only [cond_false, Option.bind_some]
   rw [Pn tM (fun a b => Po a b)]
   simp [mO]
  ·intro i ao ih v m aR hm
   obtain ⟨m, rfl⟩ : ∃ j, m = j + 1 := ⟨m - 1, by omega⟩
   simp only [rp, Co, Cn]
   rw [fB ao, gx _ i ao, drop_cons d.Body i ao, Pu, fA i _ ao (by omega), tA (by omega) (by omega)]
   simp only [cond_true, Option.bind_some]
   rw [ih _ m (by simp only [List.length_append, List.length_cons, List.length_nil]; omega) (by omega), ih _ m (by omega) (by omega)]
   by_cases af : d.Body[i].Kind = 5
   ·simp [af]
   ·have ai : (d.Body[i].Kind == 5) = false := by simpa using af
    simp [af, ai]
 refine hP (d.Body.length + 1) fun m hm => ?_
 have := key 0 (by omega) [] m (by simp) (by omega)
 simpa using this
end Go.eR
