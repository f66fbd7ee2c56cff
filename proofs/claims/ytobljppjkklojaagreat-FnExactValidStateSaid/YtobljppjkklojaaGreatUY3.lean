/- Part of a proof that a law returns true for every input. No condition. -/
import Derived.Test.YtobljppjkklojaaGreatUY2
import Derived.Test.YtobljppjkklojaaGreatUD6
namespace Go.Sh
open Go Go.Fw
def smallY (s : impl_System) : Prop := smallDs s.Definitions ∧ (s.Components.length ≤ 1048576 ∧ ∀ c ∈ s.Components, c.Values.length ≤ 1048576) ∧ smallM s.Meetings ∧
 (s.Allowed.length ≤ 1048576 ∧ ∀ x ∈ s.Allowed, x.length ≤ 1048576) ∧ (s.Hidden.length ≤ 1048576 ∧ ∀ x ∈ s.Hidden, x.length ≤ 1048576)
noncomputable def faultV (s : impl_System) : Int := cond (!defsV s.Definitions) 1 (cond (!compsV s) 2 (cond (!meetsV s.Meetings) 3 (cond (!namesV s.Allowed) 4 (cond (!namesV s.Hidden) 5 0))))
theorem spec_fault (s : impl_System) (h : smallY s) : spec_l05Fault s = some (faultV s) := by
 obtain ⟨h1, h2, h3, h4, h5⟩ := h
 unfold spec_l05Fault faultV
 rw [spec_defs _ h1, spec_comps s h1.1 h2.1 h2.2, spec_meets _ h3, spec_names _ h4.1, spec_names _ h5.1]
 simp only [Option.bind_some]
 cases defsV s.Definitions <;> cases compsV s <;> cases meetsV s.Meetings <;> cases namesV s.Allowed <;> cases namesV s.Hidden <;> rfl
theorem impl_fault (s : impl_System) (h : smallY s) : impl_SystemFault s = some (faultV s) := by
 obtain ⟨h1, h2, h3, h4, h5⟩ := h
 unfold impl_SystemFault impl_within faultV compsV
 have hc1 : decide ((1 : Int) ≤ (s.Components.length : Int)) = decide (1 ≤ s.Components.length) := decide_eq_decide.2 (by omega)
 have hc2 : decide ((s.Components.length : Int) ≤ 3) = decide (s.Components.length ≤ 3) := decide_eq_decide.2 (by omega)
 rw [impl_defs _ h1, impl_comps s h1.1 h2.1 h2.2, impl_meets _ h3, impl_names _ h4.1 h4.2, impl_names _ h5.1 h5.2]
 simp only [Option.bind_some]
 rw [hc1, hc2]
 cases defsV s.Definitions <;> cases (decide (1 ≤ s.Components.length) && decide (s.Components.length ≤ 3)) <;> cases allN (fun i => compV s.Definitions (cAt s.Components i)) s.Components.length <;>
  cases meetsV s.Meetings <;> cases namesV s.Allowed <;> cases namesV s.Hidden <;> rfl
theorem size_smallY {s : impl_System} (h : size_impl_System s ≤ 1048576) : smallY s := by
 unfold size_impl_System at h
 refine ⟨size_small (by omega), ⟨Nat.le_trans (sizeL_len size_impl_Component _) (by omega), fun c hc => ?_⟩, ⟨Nat.le_trans (sizeL_len size_impl_Meeting _) (by omega), fun m hm => ?_⟩, ⟨Nat.le_trans (sizeL_len List.length _) (by omega), fun x hx => ?_⟩, ⟨Nat.le_trans (sizeL_len List.length _) (by omega), fun x hx => ?_⟩⟩
 ·have h1 : size_impl_Component c ≤ sizeL size_impl_Component s.Components := sizeL_mem hc
  have h2 : size_impl_Component c ≤ 1048576 := by omega
  clear h1
  unfold size_impl_Component at h2; omega
 ·have h1 : size_impl_Meeting m ≤ sizeL size_impl_Meeting s.Meetings := sizeL_mem hm
  have h2 : size_impl_Meeting m ≤ 1048576 := by omega
  clear h1
  unfold size_impl_Meeting at h2; omega
 ·have h1 : x.length ≤ sizeL List.length s.Allowed := sizeL_mem hx
  omega
 ·have h1 : x.length ≤ sizeL List.length s.Hidden := sizeL_mem hx
  omega
theorem law_sys (a : laws_System) (ha : wf_laws_System a) :
  ∃ r, laws_szSystem a 1048576 = some r ∧ (decide (r < 0) = false → laws_toSystem a = some (conv_laws_System a) ∧ laws_eqSystem (conv_laws_System a) (conv_laws_System a) = some true ∧
    smallY (conv_laws_System a) ∧ r = 1048576 - (size_laws_System a : Nat) ∧ 0 ≤ r) := by
 refine ⟨_, sz_System a 1048576 ha (by omega) (by omega), fun h => ?_⟩
 by_cases hs : size_laws_System a ≤ 1048576
 ·have hs2 : size_impl_System (conv_laws_System a) ≤ 1048576 := by rw [sc_laws_System]; exact hs
  exact ⟨to_System a hs, eq_System _ hs2, size_smallY hs2, bud_le (by omega), by rw [bud_le (by omega)]; omega⟩
 ·rw [bud_gt (by omega)] at h; simp at h
end Go.Sh
