/- Part of a proof that a law returns true for every input. No condition. -/
import Derived.Test.YtbemmmimelklkaaUD5
import Derived.Test.YtbemmmimelklkaaUT
namespace Go.Sh
open Go Go.Fw
theorem size_small {list : List impl_Definition} (h : sizeL size_impl_Definition list ≤ 1048576) : smallDs list := by
 refine ⟨Nat.le_trans (sizeL_len _ _) h, fun d hd => ?_⟩
 have h1 := Nat.le_trans (sizeL_mem (f := size_impl_Definition) hd) h
 unfold size_impl_Definition at h1
 refine ⟨by omega, Nat.le_trans (sizeL_len size_impl_Part _) (by omega), fun p hp => ?_⟩
 have h0 : size_impl_Part p ≤ sizeL size_impl_Part d.Body := sizeL_mem hp
 have h2 : size_impl_Part p ≤ 1048576 := by omega
 clear h0
 unfold size_impl_Part at h2
 have h3 := sizeL_len (fun x : List impl_Term => x.length + 0) p.Arguments
 refine ⟨by omega, by omega, fun e he => ?_⟩
 have h4 : e.length + 0 ≤ _ := sizeL_mem (f := fun x : List impl_Term => x.length + 0) he
 omega
theorem law_defs (a : List laws_Definition) (ha : a.length ≤ 9223372036854775807 ∧ ∀ y ∈ a, wf_laws_Definition y) :
  ∃ r, laws_szDefinitionS a 1048576 = some r ∧ (decide (r < 0) = false → laws_toDefinitionS a = some (a.map conv_laws_Definition) ∧ laws_eqDefinitionS (a.map conv_laws_Definition) (a.map conv_laws_Definition) = some true ∧
    smallDs (a.map conv_laws_Definition) ∧ r = 1048576 - (sizeL size_laws_Definition a : Nat) ∧ 0 ≤ r) := by
 refine ⟨_, sz_DefinitionS a 1048576 ha (by omega) (by omega), fun h => ?_⟩
 by_cases hs : sizeL size_laws_Definition a ≤ 1048576
 ·have hs2 : sizeL size_impl_Definition (a.map conv_laws_Definition) ≤ 1048576 := by
   rw [sizeL_map]; simp only [sc_laws_Definition]; exact hs
  refine ⟨to_DefinitionS a hs, eq_DefinitionS _ hs2, size_small hs2, bud_le (by omega), by rw [bud_le (by omega)]; omega⟩
 ·rw [bud_gt (by omega)] at h; simp at h
theorem neI3 (x y z : Int) : (((x != x) || (y != y)) || (z != z)) = false := by simp
end Go.Sh
