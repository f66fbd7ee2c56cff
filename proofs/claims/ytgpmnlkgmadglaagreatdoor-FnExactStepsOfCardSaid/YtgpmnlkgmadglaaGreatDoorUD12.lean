/- Part of a proof that a law returns true for every input. No condition. -/
import Derived.Test.YtgpmnlkgmadglaaGreatDoorUD8
namespace Go.eR
open Go Go.cY
theorem Q4 {e : List aS} (h : o0 e) (aK : o2 e = true) {i j : Nat} (an : i < e.length) (bw : j < e[i].Body.length) :
  rr e[i] (j : Int) = some (il e[i] j).scope ∧ ∃ ps, wV e[i] = some ps ∧ bP ps (j : Int) = some (il e[i] j) := by
 obtain ⟨_, _, ai⟩ := EB h aK
 obtain ⟨aw, ab, _⟩ := ai i an
 obtain ⟨s1, s2, fi⟩ := xD ab
 have aa := (h.2 _ (List.getElem_mem an)).2.1
 obtain ⟨gC, _, _, _, mh⟩ := Ez e[i] ab aw j bw
 exact ⟨gC, _, QO e[i] aa s1 aw.1 (by omega), by unfold bP; rw [if_pos (by omega)]; exact mh⟩
end Go.eR
