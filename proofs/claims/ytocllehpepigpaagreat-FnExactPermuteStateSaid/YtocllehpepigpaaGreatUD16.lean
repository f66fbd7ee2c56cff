/- Part of a proof that a law returns true for every input. No condition. -/
import Derived.Test.YtocllehpepigpaaGreatUD14
import Derived.Test.YtocllehpepigpaaGreatUD12
namespace Go.e1
open Go Go.dg
theorem aAj (e : List bk) (h : oA e) (aQ : me e = true) (p : bM) (az : p.cF.length ≤ 1048576) : ∃ b, vX e p = some b ∧ y1 e p = some b := by
 unfold vX y1 kF
 rw [DZ _ e.length h.1, fK ((e.length : Int) - 1) (by have := h.1; omega)]
 simp only [Option.bind_some]
 cases aA : (decide (0 ≤ p.dG) && decide (p.dG ≤ (e.length : Int) - 1))
 ·exact ⟨false, rfl, rfl⟩
 ·simp only [Bool.and_eq_true, decide_eq_true_eq] at aA
  obtain ⟨i, aAk⟩ : ∃ i : Nat, p.dG = i := ⟨p.dG.toNat, by omega⟩
  rw [aAk] at aA ⊢
  have au : i < e.length := by omega
  have ad := (h.2 _ (List.getElem_mem au)).2.1
  rw [hW e i au]
  simp only [Bool.not_true, cond_false, Option.bind_some]
  rw [DZ _ e[i].Body.length ad, fK ((e[i].Body.length : Int) - 1) (by omega)]
  simp only [Option.bind_some]
  cases c4 : (decide (0 ≤ p.Part) && decide (p.Part ≤ (e[i].Body.length : Int) - 1))
  ·exact ⟨false, rfl, rfl⟩
  ·simp only [Bool.and_eq_true, decide_eq_true_eq] at c4
   obtain ⟨j, aAl⟩ : ∃ j : Nat, p.Part = j := ⟨p.Part.toNat, by omega⟩
   rw [aAl] at c4 ⊢
   have cH : j < e[i].Body.length := by omega
   obtain ⟨hG, ps, hg, iw⟩ := aAi h aQ au cH
   rw [hW e[i].Body j cH]
   simp only [Bool.not_true, cond_false, Option.bind_some, hG, hg, iw, Qd _ az, Qe _ az]
   have dL : (e[i].Body[j].Kind != 5) = !(e[i].Body[j].Kind == 5) := rfl
   rw [dL]
   cases e[i].Body[j].Kind == 5
   ·simp only [Bool.not_false, cond_true, cond_false]
    cases ((p.cF.length : Int) == (oz e[i] j).scope)
    ·exact ⟨_, rfl, rfl⟩
    ·exact ⟨_, rfl, rfl⟩
   ·exact ⟨_, rfl, rfl⟩
end Go.e1
