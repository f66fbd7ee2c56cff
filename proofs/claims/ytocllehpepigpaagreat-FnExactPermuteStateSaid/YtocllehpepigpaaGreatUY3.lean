/- Part of a proof that a law returns true for every input. No condition. -/
import Derived.Test.YtocllehpepigpaaGreatUY2
import Derived.Test.YtocllehpepigpaaGreatUD6
namespace Go.e1
open Go Go.dg
def uy (s : eo) : Prop := oA s.eH ∧ (s.c_.length ≤ 1048576 ∧ ∀ c ∈ s.c_, c.cF.length ≤ 1048576) ∧ D5 s.hH ∧
 (s.hA.length ≤ 1048576 ∧ ∀ x ∈ s.hA, x.length ≤ 1048576) ∧ (s.hB.length ≤ 1048576 ∧ ∀ x ∈ s.hB, x.length ≤ 1048576)
noncomputable def q_ (s : eo) : Int := cond (!me s.eH) 1 (cond (!zR s) 2 (cond (!ux s.hH) 3 (cond (!qc s.hA) 4 (cond (!qc s.hB) 5 0))))
theorem aAz (s : eo) (h : uy s) : B4 s = some (q_ s) := by
 obtain ⟨ae, ah, aH, a6, bN⟩ := h
 unfold B4 q_
 rw [aAd _ ae, aAp s ae.1 ah.1 ah.2, aAx _ aH, Qh _ a6.1, Qh _ bN.1]
 simp only [Option.bind_some]
 cases me s.eH <;> cases zR s <;> cases ux s.hH <;> cases qc s.hA <;> cases qc s.hB <;> rfl
theorem aAA (s : eo) (h : uy s) : CC s = some (q_ s) := by
 obtain ⟨ae, ah, aH, a6, bN⟩ := h
 unfold CC jQ q_ zR
 have nq : decide ((1 : Int) ≤ (s.c_.length : Int)) = decide (1 ≤ s.c_.length) := decide_eq_decide.2 (by omega)
 have mK : decide ((s.c_.length : Int) ≤ 3) = decide (s.c_.length ≤ 3) := decide_eq_decide.2 (by omega)
 rw [aAf _ ae, aAr s ae.1 ah.1 ah.2, aAy _ aH, Qi _ a6.1 a6.2, Qi _ bN.1 bN.2]
 simp only [Option.bind_some]
 rw [nq, mK]
 cases me s.eH <;> cases (decide (1 ≤ s.c_.length) && decide (s.c_.length ≤ 3)) <;> cases fL (fun i => uu s.eH (ks s.c_ i)) s.c_.length <;>
  cases ux s.hH <;> cases qc s.hA <;> cases qc s.hB <;> rfl
theorem aAB {s : eo} (h : px s ≤ 1048576) : uy s := by
 unfold px at h
 refine ⟨Qc (by omega), ⟨Nat.le_trans (iJ kM _) (by omega), fun c ax => ?_⟩, ⟨Nat.le_trans (iJ kN _) (by omega), fun m hm => ?_⟩, ⟨Nat.le_trans (iJ List.length _) (by omega), fun x aq => ?_⟩, ⟨Nat.le_trans (iJ List.length _) (by omega), fun x aq => ?_⟩⟩
 ·have ae : kM c ≤ dn kM s.c_ := kK ax
  have ah : kM c ≤ 1048576 := by omega
  clear ae
  unfold kM at ah; omega
 ·have ae : kN m ≤ dn kN s.hH := kK hm
  have ah : kN m ≤ 1048576 := by omega
  clear ae
  unfold kN at ah; omega
 ·have ae : x.length ≤ dn List.length s.hA := kK aq
  omega
 ·have ae : x.length ≤ dn List.length s.hB := kK aq
  omega
theorem aAC (a : k5) (cJ : yc a) :
  ∃ r, yl a 1048576 = some r ∧ (decide (r < 0) = false → rL a = some (p_ a) ∧ zd (p_ a) (p_ a) = some true ∧
    uy (p_ a) ∧ r = 1048576 - (r4 a : Nat) ∧ 0 ≤ r) := by
 refine ⟨_, ayY a 1048576 cJ (by omega) (by omega), fun h => ?_⟩
 by_cases af : r4 a ≤ 1048576
 ·have ny : px (p_ a) ≤ 1048576 := by rw [PG]; exact af
  exact ⟨azd a af, azs _ ny, aAB ny, ud (by omega), by rw [ud (by omega)]; omega⟩
 ·rw [wH (by omega)] at h; simp at h
end Go.e1
