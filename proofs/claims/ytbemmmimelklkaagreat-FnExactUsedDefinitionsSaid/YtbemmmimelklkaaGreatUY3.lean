/- Part of a proof that a law returns true for every input. No condition. -/
import Derived.Test.YtbemmmimelklkaaGreatUY2
import Derived.Test.YtbemmmimelklkaaGreatUD6
namespace Go.eR
open Go Go.c5
def rP (s : dv) : Prop := tI s.b3 ∧ (s.cn.length ≤ 1048576 ∧ ∀ c ∈ s.cn, c.fq.length ≤ 1048576) ∧ DH s.g7 ∧
 (s.gZ.length ≤ 1048576 ∧ ∀ x ∈ s.gZ, x.length ≤ 1048576) ∧ (s.g0.length ≤ 1048576 ∧ ∀ x ∈ s.g0, x.length ≤ 1048576)
noncomputable def o3 (s : dv) : Int := cond (!o2 s.b3) 1 (cond (!rO s) 2 (cond (!tL s.g7) 3 (cond (!pK s.gZ) 4 (cond (!pK s.g0) 5 0))))
theorem awO (s : dv) (h : rP s) : BG s = some (o3 s) := by
 obtain ⟨af, ai, aN, bk, cc⟩ := h
 unfold BG o3
 rw [awu _ af, awE s af.1 ai.1 ai.2, awM _ aN, Pf _ bk.1, Pf _ cc.1]
 simp only [Option.bind_some]
 cases o2 s.b3 <;> cases rO s <;> cases tL s.g7 <;> cases pK s.gZ <;> cases pK s.g0 <;> rfl
theorem awP (s : dv) (h : rP s) : Cl s = some (o3 s) := by
 obtain ⟨af, ai, aN, bk, cc⟩ := h
 unfold Cl jt o3 rO
 have mV : decide ((1 : Int) ≤ (s.cn.length : Int)) = decide (1 ≤ s.cn.length) := decide_eq_decide.2 (by omega)
 have me : decide ((s.cn.length : Int) ≤ 3) = decide (s.cn.length ≤ 3) := decide_eq_decide.2 (by omega)
 rw [aww _ af, awG s af.1 ai.1 ai.2, awN _ aN, Pg _ bk.1 bk.2, Pg _ cc.1 cc.2]
 simp only [Option.bind_some]
 rw [mV, me]
 cases o2 s.b3 <;> cases (decide (1 ≤ s.cn.length) && decide (s.cn.length ≤ 3)) <;> cases fJ (fun i => rN s.b3 (jA s.cn i)) s.cn.length <;>
  cases tL s.g7 <;> cases pK s.gZ <;> cases pK s.g0 <;> rfl
theorem awQ {s : dv} (h : oY s ≤ 1048576) : rP s := by
 unfold oY at h
 refine ⟨Pc (by omega), ⟨Nat.le_trans (i2 kc _) (by omega), fun c ay => ?_⟩, ⟨Nat.le_trans (i2 kd _) (by omega), fun m hm => ?_⟩, ⟨Nat.le_trans (i2 List.length _) (by omega), fun x aq => ?_⟩, ⟨Nat.le_trans (i2 List.length _) (by omega), fun x aq => ?_⟩⟩
 ·have af : kc c ≤ dS kc s.cn := lo ay
  have ai : kc c ≤ 1048576 := by omega
  clear af
  unfold kc at ai; omega
 ·have af : kd m ≤ dS kd s.g7 := lo hm
  have ai : kd m ≤ 1048576 := by omega
  clear af
  unfold kd at ai; omega
 ·have af : x.length ≤ dS List.length s.gZ := lo aq
  omega
 ·have af : x.length ≤ dS List.length s.g0 := lo aq
  omega
theorem awR (a : kn) (cz : xG a) :
  ∃ r, xO a 1048576 = some r ∧ (decide (r < 0) = false → ra a = some (pH a) ∧ yz (pH a) (pH a) = some true ∧
    rP (pH a) ∧ r = 1048576 - (rI a : Nat) ∧ 0 ≤ r) := by
 refine ⟨_, avh a 1048576 cz (by omega) (by omega), fun h => ?_⟩
 by_cases ah : rI a ≤ 1048576
 ·have pk : oY (pH a) ≤ 1048576 := by rw [OH]; exact ah
  exact ⟨avw a ah, avH _ pk, awQ pk, wa (by omega), by rw [wa (by omega)]; omega⟩
 ·rw [zl (by omega)] at h; simp at h
end Go.eR
