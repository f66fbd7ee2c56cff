/- Part of a proof that a law returns true for every input. No condition. -/
import Derived.Test.YtbemmmimelklkaaGreatUY2
import Derived.Test.YtbemmmimelklkaaGreatUD6
namespace Go.fJ
open Go Go.dg
def tg (s : dU) : Prop := q7 s.bQ ∧ (s.cX.length ≤ 1048576 ∧ ∀ c ∈ s.cX, c.fk.length ≤ 1048576) ∧ Cw s.gX ∧
 (s.gQ.length ≤ 1048576 ∧ ∀ x ∈ s.gQ, x.length ≤ 1048576) ∧ (s.gR.length ≤ 1048576 ∧ ∀ x ∈ s.gR, x.length ≤ 1048576)
noncomputable def p8 (s : dU) : Int := cond (!nG s.bQ) 1 (cond (!yF s) 2 (cond (!tf s.gX) 3 (cond (!pn s.gQ) 4 (cond (!pn s.gR) 5 0))))
theorem auj (s : dU) (h : tg s) : AL s = some (p8 s) := by
 obtain ⟨ai, aj, aP, bb, b5⟩ := h
 unfold AL p8
 rw [atZ _ ai, at8 s ai.1 aj.1 aj.2, aug _ aP, Nt _ bb.1, Nt _ b5.1]
 simp only [Option.bind_some]
 cases nG s.bQ <;> cases yF s <;> cases tf s.gX <;> cases pn s.gQ <;> cases pn s.gR <;> rfl
theorem auk (s : dU) (h : tg s) : Bk s = some (p8 s) := by
 obtain ⟨ai, aj, aP, bb, b5⟩ := h
 unfold Bk jf p8 yF
 have mD : decide ((1 : Int) ≤ (s.cX.length : Int)) = decide (1 ≤ s.cX.length) := decide_eq_decide.2 (by omega)
 have lY : decide ((s.cX.length : Int) ≤ 3) = decide (s.cX.length ≤ 3) := decide_eq_decide.2 (by omega)
 rw [at1 _ ai, aua s ai.1 aj.1 aj.2, aui _ aP, Nu _ bb.1 bb.2, Nu _ b5.1 b5.2]
 simp only [Option.bind_some]
 rw [mD, lY]
 cases nG s.bQ <;> cases (decide (1 ≤ s.cX.length) && decide (s.cX.length ≤ 3)) <;> cases fG (fun i => tc s.bQ (jQ s.cX i)) s.cX.length <;>
  cases tf s.gX <;> cases pn s.gQ <;> cases pn s.gR <;> rfl
theorem aul {s : dU} (h : oE s ≤ 1048576) : tg s := by
 unfold oE at h
 refine ⟨Np (by omega), ⟨Nat.le_trans (iq ka _) (by omega), fun c ay => ?_⟩, ⟨Nat.le_trans (iq kb _) (by omega), fun m hm => ?_⟩, ⟨Nat.le_trans (iq List.length _) (by omega), fun x aA => ?_⟩, ⟨Nat.le_trans (iq List.length _) (by omega), fun x aA => ?_⟩⟩
 ·have ai : ka c ≤ dm ka s.cX := kN ay
  have aj : ka c ≤ 1048576 := by omega
  clear ai
  unfold ka at aj; omega
 ·have ai : kb m ≤ dm kb s.gX := kN hm
  have aj : kb m ≤ 1048576 := by omega
  clear ai
  unfold kb at aj; omega
 ·have ai : x.length ≤ dm List.length s.gQ := kN aA
  omega
 ·have ai : x.length ≤ dm List.length s.gR := kN aA
  omega
theorem aum (a : km) (cw : wR a) :
  ∃ r, wZ a 1048576 = some r ∧ (decide (r < 0) = false → qK a = some (ph a) ∧ xN (ph a) (ph a) = some true ∧
    tg (ph a) ∧ r = 1048576 - (q2 a : Nat) ∧ 0 ≤ r) := by
 refine ⟨_, asL a 1048576 cw (by omega) (by omega), fun h => ?_⟩
 by_cases ah : q2 a ≤ 1048576
 ·have o0 : oE (ph a) ≤ 1048576 := by rw [MR]; exact ah
  exact ⟨as0 a ah, atb _ o0, aul o0, vj (by omega), by rw [vj (by omega)]; omega⟩
 ·rw [yy (by omega)] at h; simp at h
end Go.fJ
