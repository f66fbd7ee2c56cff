/- Part of a proof that a law returns true for every input. No condition. -/
import Derived.Test.YtocllehpepigpaaGreatUD8
namespace Go.e1
open Go Go.dg
theorem aAi {e : List bk} (h : oA e) (aQ : me e = true) {i j : Nat} (au : i < e.length) (cH : j < e[i].Body.length) :
  rN e[i] (j : Int) = some (oz e[i] j).scope ∧ ∃ ps, v7 e[i] = some ps ∧ bK ps (j : Int) = some (oz e[i] j) := by
 obtain ⟨_, _, aj⟩ := aAh h aQ
 obtain ⟨az, af, _⟩ := aj i au
 obtain ⟨s1, s2, fo⟩ := Il af
 have ad := (h.2 _ (List.getElem_mem au)).2.1
 obtain ⟨hG, _, _, _, nV⟩ := Qa e[i] af az j cH
 exact ⟨hG, _, P1 e[i] ad s1 az.1 (by omega), by unfold bK; rw [if_pos (by omega)]; exact nV⟩
end Go.e1
