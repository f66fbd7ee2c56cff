/- Part of a proof that a law returns true for every input. No condition. -/
import Derived.Test.YtbemmmimelklkaaGreatUY2
import Derived.Test.YtbemmmimelklkaaGreatUD6
namespace Go.f_
open Go Go.dk
def sU (s : ev) : Prop := sP s.e8 ∧ (s.b_.length ≤ 1048576 ∧ ∀ c ∈ s.b_, c.c3.length ≤ 1048576) ∧ B9 s.g1 ∧
 (s.gT.length ≤ 1048576 ∧ ∀ x ∈ s.gT, x.length ≤ 1048576) ∧ (s.gU.length ≤ 1048576 ∧ ∀ x ∈ s.gU, x.length ≤ 1048576)
noncomputable def pT (s : ev) : Int := cond (!ov s.e8) 1 (cond (!yb s) 2 (cond (!sT s.g1) 3 (cond (!o8 s.gT) 4 (cond (!o8 s.gU) 5 0))))
theorem aui (s : ev) (h : sU s) : Ah s = some (pT s) := by
 obtain ⟨ai, aj, aQ, bd, b3⟩ := h
 unfold Ah pT
 rw [atY _ ai, at7 s ai.1 aj.1 aj.2, auf _ aQ, M0 _ bd.1, M0 _ b3.1]
 simp only [Option.bind_some]
 cases ov s.e8 <;> cases yb s <;> cases sT s.g1 <;> cases o8 s.gT <;> cases o8 s.gU <;> rfl
theorem auj (s : ev) (h : sU s) : AU s = some (pT s) := by
 obtain ⟨ai, aj, aQ, bd, b3⟩ := h
 unfold AU jc pT yb
 have mr : decide ((1 : Int) ≤ (s.b_.length : Int)) = decide (1 ≤ s.b_.length) := decide_eq_decide.2 (by omega)
 have lQ : decide ((s.b_.length : Int) ≤ 3) = decide (s.b_.length ≤ 3) := decide_eq_decide.2 (by omega)
 rw [at0 _ ai, at9 s ai.1 aj.1 aj.2, auh _ aQ, M1 _ bd.1 bd.2, M1 _ b3.1 b3.2]
 simp only [Option.bind_some]
 rw [mr, lQ]
 cases ov s.e8 <;> cases (decide (1 ≤ s.b_.length) && decide (s.b_.length ≤ 3)) <;> cases fI (fun i => sQ s.e8 (jN s.b_ i)) s.b_.length <;>
  cases sT s.g1 <;> cases o8 s.gT <;> cases o8 s.gU <;> rfl
theorem auk {s : ev} (h : mQ s ≤ 1048576) : sU s := by
 unfold mQ at h
 refine ⟨MW (by omega), ⟨Nat.le_trans (ik iQ _) (by omega), fun c ay => ?_⟩, ⟨Nat.le_trans (ik j5 _) (by omega), fun m hm => ?_⟩, ⟨Nat.le_trans (ik List.length _) (by omega), fun x aC => ?_⟩, ⟨Nat.le_trans (ik List.length _) (by omega), fun x aC => ?_⟩⟩
 ·have ai : iQ c ≤ de iQ s.b_ := kG ay
  have aj : iQ c ≤ 1048576 := by omega
  clear ai
  unfold iQ at aj; omega
 ·have ai : j5 m ≤ de j5 s.g1 := kG hm
  have aj : j5 m ≤ 1048576 := by omega
  clear ai
  unfold j5 at aj; omega
 ·have ai : x.length ≤ de List.length s.gT := kG aC
  omega
 ·have ai : x.length ≤ de List.length s.gU := kG aC
  omega
theorem aul (a : kg) (cw : wj a) :
  ∃ r, wx a 1048576 = some r ∧ (decide (r < 0) = false → qq a = some (o5 a) ∧ xi (o5 a) (o5 a) = some true ∧
    sU (o5 a) ∧ r = 1048576 - (qL a : Nat) ∧ 0 ≤ r) := by
 refine ⟨_, asH a 1048576 cw (by omega) (by omega), fun h => ?_⟩
 by_cases ah : qL a ≤ 1048576
 ·have oQ : mQ (o5 a) ≤ 1048576 := by rw [Mq]; exact ah
  exact ⟨asW a ah, as9 _ oQ, auk oQ, uU (by omega), by rw [uU (by omega)]; omega⟩
 ·rw [x6 (by omega)] at h; simp at h
end Go.f_
