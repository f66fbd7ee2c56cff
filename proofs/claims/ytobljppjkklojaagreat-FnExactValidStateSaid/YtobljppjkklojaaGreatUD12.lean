/- Part of a proof that a law returns true for every input. No condition. -/
import Derived.Test.YtobljppjkklojaaGreatUD8
namespace Go.Sh
open Go Go.Fw
theorem scope_both {e : List impl_Definition} (h : smallDs e) (hv : defsV e = true) {i j : Nat} (hi : i < e.length) (hj : j < e[i].Body.length) :
  spec_l05Scope e[i] (j : Int) = some (placeAt e[i] j).scope ∧ ∃ ps, impl_Definition_places e[i] = some ps ∧ getI ps (j : Int) = some (placeAt e[i] j) := by
 obtain ⟨_, _, hd⟩ := defs_get h hv
 obtain ⟨hp, hs, _⟩ := hd i hi
 obtain ⟨s1, s2, s3⟩ := shape_end hs
 have hb := (h.2 _ (List.getElem_mem hi)).2.1
 obtain ⟨q1, _, _, _, q5⟩ := place_spec e[i] hs hp j hj
 exact ⟨q1, _, impl_places e[i] hb s1 hp.1 (by omega), by unfold getI; rw [if_pos (by omega)]; exact q5⟩
end Go.Sh
