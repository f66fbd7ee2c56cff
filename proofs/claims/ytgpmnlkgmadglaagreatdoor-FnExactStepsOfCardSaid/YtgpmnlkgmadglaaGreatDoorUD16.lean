/- Part of a proof that a law returns true for every input. No condition. -/
import Derived.Test.YtgpmnlkgmadglaaGreatDoorUD14
import Derived.Test.YtgpmnlkgmadglaaGreatDoorUD12
namespace Go.eR
open Go Go.cY
theorem axG (e : List aS) (h : o0 e) (aK : o2 e = true) (p : dP) (aw : p.cD.length ≤ 1048576) : ∃ b, wQ e p = some b ∧ Db e p = some b := by
 unfold wQ Db lF
 rw [Jf _ e.length h.1, fW ((e.length : Int) - 1) (by have := h.1; omega)]
 simp only [Option.bind_some]
 cases ar : (decide (0 ≤ p.dO) && decide (p.dO ≤ (e.length : Int) - 1))
 ·exact ⟨false, rfl, rfl⟩
 ·simp only [Bool.and_eq_true, decide_eq_true_eq] at ar
  obtain ⟨i, xG⟩ : ∃ i : Nat, p.dO = i := ⟨p.dO.toNat, by omega⟩
  rw [xG] at ar ⊢
  have an : i < e.length := by omega
  have aa := (h.2 _ (List.getElem_mem an)).2.1
  rw [fp e i an]
  simp only [Bool.not_true, cond_false, Option.bind_some]
  rw [Jf _ e[i].Body.length aa, fW ((e[i].Body.length : Int) - 1) (by omega)]
  simp only [Option.bind_some]
  cases cG : (decide (0 ≤ p.Part) && decide (p.Part ≤ (e[i].Body.length : Int) - 1))
  ·exact ⟨false, rfl, rfl⟩
  ·simp only [Bool.and_eq_true, decide_eq_true_eq] at cG
   obtain ⟨j, qA⟩ : ∃ j : Nat, p.Part = j := ⟨p.Part.toNat, by omega⟩
   rw [qA] at cG ⊢
   have bw : j < e[i].Body.length := by omega
   obtain ⟨gC, ps, f_, hO⟩ := Q4 h aK an bw
   rw [fp e[i].Body j bw]
   simp only [Bool.not_true, cond_false, Option.bind_some, gC, f_, hO, Q2 _ aw, Q3 _ aw]
   have dC : (e[i].Body[j].Kind != 5) = !(e[i].Body[j].Kind == 5) := rfl
   rw [dC]
   cases e[i].Body[j].Kind == 5
   ·simp only [Bool.not_false, cond_true, cond_false]
    cases ((p.cD.length : Int) == (il e[i] j).scope)
    ·exact ⟨_, rfl, rfl⟩
    ·exact ⟨_, rfl, rfl⟩
   ·exact ⟨_, rfl, rfl⟩
end Go.eR
