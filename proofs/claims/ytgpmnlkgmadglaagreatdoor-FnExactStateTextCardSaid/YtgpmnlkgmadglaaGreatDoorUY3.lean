/- Part of a proof that a law returns true for every input. No condition. -/
import Derived.Test.YtgpmnlkgmadglaaGreatDoorUY2
import Derived.Test.YtgpmnlkgmadglaaGreatDoorUD6
namespace Go.eV
open Go Go.c0
def rf (s : dh) : Prop := mW s.df ∧ (s.cY.length ≤ 1048576 ∧ ∀ c ∈ s.cY, c.cX.length ≤ 1048576) ∧ Cm s.hR ∧
 (s.hF.length ≤ 1048576 ∧ ∀ x ∈ s.hF, x.length ≤ 1048576) ∧ (s.hG.length ≤ 1048576 ∧ ∀ x ∈ s.hG, x.length ≤ 1048576)
noncomputable def qj (s : dh) : Int := cond (!kS s.df) 1 (cond (!yn s) 2 (cond (!s9 s.hR) 3 (cond (!pr s.hF) 4 (cond (!pr s.hG) 5 0))))
theorem av4 (s : dh) (h : rf s) : Ap s = some (qj s) := by
 obtain ⟨ag, ah, aI, a_, bN⟩ := h
 unfold Ap qj
 rw [avL _ ag, avT s ag.1 ah.1 ah.2, av1 _ aI, Ou _ a_.1, Ou _ bN.1]
 simp only [Option.bind_some]
 cases kS s.df <;> cases yn s <;> cases s9 s.hR <;> cases pr s.hF <;> cases pr s.hG <;> rfl
theorem av5 (s : dh) (h : rf s) : A9 s = some (qj s) := by
 obtain ⟨ag, ah, aI, a_, bN⟩ := h
 unfold A9 je qj yn
 have mD : decide ((1 : Int) ≤ (s.cY.length : Int)) = decide (1 ≤ s.cY.length) := decide_eq_decide.2 (by omega)
 have l9 : decide ((s.cY.length : Int) ≤ 3) = decide (s.cY.length ≤ 3) := decide_eq_decide.2 (by omega)
 rw [avN _ ag, avV s ag.1 ah.1 ah.2, av3 _ aI, Ov _ a_.1 a_.2, Ov _ bN.1 bN.2]
 simp only [Option.bind_some]
 rw [mD, l9]
 cases kS s.df <;> cases (decide (1 ≤ s.cY.length) && decide (s.cY.length ≤ 3)) <;> cases e9 (fun i => s6 s.df (j9 s.cY i)) s.cY.length <;>
  cases s9 s.hR <;> cases pr s.hF <;> cases pr s.hG <;> rfl
theorem av6 {s : dh} (h : sY s ≤ 1048576) : rf s := by
 unfold sY at h
 refine ⟨Ol (by omega), ⟨Nat.le_trans (jT nM _) (by omega), fun c aw => ?_⟩, ⟨Nat.le_trans (jT nN _) (by omega), fun m hm => ?_⟩, ⟨Nat.le_trans (jT List.length _) (by omega), fun x aq => ?_⟩, ⟨Nat.le_trans (jT List.length _) (by omega), fun x aq => ?_⟩⟩
 ·have ag : nM c ≤ eQ nM s.cY := kp aw
  have ah : nM c ≤ 1048576 := by omega
  clear ag
  unfold nM at ah; omega
 ·have ag : nN m ≤ eQ nN s.hR := kp hm
  have ah : nN m ≤ 1048576 := by omega
  clear ag
  unfold nN at ah; omega
 ·have ag : x.length ≤ eQ List.length s.hF := kp aq
  omega
 ·have ag : x.length ≤ eQ List.length s.hG := kp aq
  omega
theorem av7 (a : kx) (b_ : wN a) :
  ∃ r, wW a 1048576 = some r ∧ (decide (r < 0) = false → r_ a = some (q9 a) ∧ xN (q9 a) (q9 a) = some true ∧
    rf (q9 a) ∧ r = 1048576 - (q8 a : Nat) ∧ 0 ≤ r) := by
 refine ⟨_, auB a 1048576 b_ (by omega) (by omega), fun h => ?_⟩
 by_cases ad : q8 a ≤ 1048576
 ·have mJ : sY (q9 a) ≤ 1048576 := by rw [auR]; exact ad
  exact ⟨auS a ad, au6 _ mJ, av6 mJ, sU (by omega), by rw [sU (by omega)]; omega⟩
 ·rw [u9 (by omega)] at h; simp at h
end Go.eV
