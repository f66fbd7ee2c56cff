/- Part of a proof that a law returns true for every input. No condition. -/
import Derived.Test.YtgpmnlkgmadglaaGreatDoorUD14
import Derived.Test.YtgpmnlkgmadglaaGreatDoorUD12
namespace Go.eV
open Go Go.c0
theorem avP (e : List bm) (h : mW e) (aN : kS e = true) (p : c8) (ar : p.cX.length ≤ 1048576) : ∃ b, sn e p = some b ∧ xC e p = some b := by
 unfold sn xC ky
 rw [Ce _ e.length h.1, hg ((e.length : Int) - 1) (by have := h.1; omega)]
 simp only [Option.bind_some]
 cases az : (decide (0 ≤ p.dT) && decide (p.dT ≤ (e.length : Int) - 1))
 ·exact ⟨false, rfl, rfl⟩
 ·simp only [Bool.and_eq_true, decide_eq_true_eq] at az
  obtain ⟨i, Cj⟩ : ∃ i : Nat, p.dT = i := ⟨p.dT.toNat, by omega⟩
  rw [Cj] at az ⊢
  have al : i < e.length := by omega
  have ab := (h.2 _ (List.getElem_mem al)).2.1
  rw [gG e i al]
  simp only [Bool.not_true, cond_false, Option.bind_some]
  rw [Ce _ e[i].Body.length ab, hg ((e[i].Body.length : Int) - 1) (by omega)]
  simp only [Option.bind_some]
  cases cv : (decide (0 ≤ p.Part) && decide (p.Part ≤ (e[i].Body.length : Int) - 1))
  ·exact ⟨false, rfl, rfl⟩
  ·simp only [Bool.and_eq_true, decide_eq_true_eq] at cv
   obtain ⟨j, Ck⟩ : ∃ j : Nat, p.Part = j := ⟨p.Part.toNat, by omega⟩
   rw [Ck] at cv ⊢
   have b3 : j < e[i].Body.length := by omega
   obtain ⟨gM, ps, gJ, iK⟩ := Oo h aN al b3
   rw [gG e[i].Body j b3]
   simp only [Bool.not_true, cond_false, Option.bind_some, gM, gJ, iK, GG _ ar, On _ ar]
   have dQ : (e[i].Body[j].Kind != 5) = !(e[i].Body[j].Kind == 5) := rfl
   rw [dQ]
   cases e[i].Body[j].Kind == 5
   ·simp only [Bool.not_false, cond_true, cond_false]
    cases ((p.cX.length : Int) == (mV e[i] j).scope)
    ·exact ⟨_, rfl, rfl⟩
    ·exact ⟨_, rfl, rfl⟩
   ·exact ⟨_, rfl, rfl⟩
end Go.eV
