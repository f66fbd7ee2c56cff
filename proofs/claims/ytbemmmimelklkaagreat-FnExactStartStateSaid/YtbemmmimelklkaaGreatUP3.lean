/- Part of a proof that a law returns true for every input. No condition. -/
import Derived.Test.YtbemmmimelklkaaGreatUY5
namespace Go.f_
open Go Go.dk
def o9 (cs : List cX) : List cU := cs.map fun c => cU.mk c.eo 0 c.c3
theorem auo (v : List Int) (h : v.length ≤ 1048576) : Aj v = some v := by unfold Aj; rw [B0 (by omega) (by omega)]; rfl
theorem aup (v : List Int) (h : v.length ≤ 1048576) : AW v = some v := by
 unfold AW
 rw [B0 (by omega) (by omega)]
 cases v with
 | nil => exact M5 _
 | cons x r => rfl
section
variable {s : ev} (hl : s.b_.length ≤ 1048576) (a3 : ∀ c ∈ s.b_, c.c3.length ≤ 1048576)
include hl a3
theorem auq : Al s = some (o9 s.b_) := by
 unfold Al
 have key : ∀ i, i ≤ s.b_.length → ∀ (v : List cU) m, v.length ≤ i → s.b_.length - i < m → r1 s m v (i : Int) = some (v ++ o9 (s.b_.drop i)) := by
  refine down s.b_.length ?_ ?_
  ·intro v m te hm
   obtain ⟨m, rfl⟩ : ∃ j, m = j + 1 := ⟨m - 1, by omega⟩
   simp only [r1, Ak]
   rw [fH (Nat.le_refl _), List.drop_of_length_le (Nat.le_refl _)]
   simp [o9]
  ·intro i au ih v m te hm
   obtain ⟨m, rfl⟩ : ∃ j, m = j + 1 := ⟨m - 1, by omega⟩
   simp only [r1, Ak]
   rw [gM au, h2 _ i au, gL i _ au (by omega)]
   simp only [cond_true, Option.bind_some]
   rw [auo _ (a3 _ (List.getElem_mem au)), B0 (by omega) (by omega)]
   simp only [Option.bind_some]
   rw [ih _ m (by simp only [List.length_append, List.length_cons, List.length_nil]; omega) (by omega), drop_cons _ i au]
   simp only [o9, List.map_cons, List.append_assoc, List.cons_append, List.nil_append]
 refine iS (s.b_.length + 1) fun m hm => ?_
 have := key 0 (by omega) [] m (by simp) (by omega)
 simpa using this
theorem aur : AY s = some (o9 s.b_) := by
 unfold AY
 have key : ∀ i, i ≤ s.b_.length → ∀ (v : List cU) m, v.length ≤ i → s.b_.length - i < m → r9 s m v (i : Int) = some (v ++ o9 (s.b_.drop i)) := by
  refine down s.b_.length ?_ ?_
  ·intro v m te hm
   obtain ⟨m, rfl⟩ : ∃ j, m = j + 1 := ⟨m - 1, by omega⟩
   simp only [r9, AX]
   rw [fH (Nat.le_refl _), List.drop_of_length_le (Nat.le_refl _)]
   simp [o9]
  ·intro i au ih v m te hm
   obtain ⟨m, rfl⟩ : ∃ j, m = j + 1 := ⟨m - 1, by omega⟩
   simp only [r9, AX]
   rw [gM au, h2 _ i au, gL i _ au (by omega)]
   simp only [cond_true, Option.bind_some]
   rw [aup _ (a3 _ (List.getElem_mem au)), B0 (by omega) (by omega)]
   simp only [Option.bind_some]
   rw [ih _ m (by simp only [List.length_append, List.length_cons, List.length_nil]; omega) (by omega), drop_cons _ i au]
   simp only [o9, List.map_cons, List.append_assoc, List.cons_append, List.nil_append]
 refine iS (s.b_.length + 1) fun m hm => ?_
 have := key 0 (by omega) [] m (by simp) (by omega)
 simpa using this
end
theorem aus : ∀ cs : List cX, de k2 (o9 cs) ≤ de iQ cs := by
 intro cs
 unfold o9
 rw [sF]
 have : (fun c : cX => k2 (cU.mk c.eo 0 c.c3)) = iQ := by
  funext c
  simp only [k2, iQ]
 rw [this]
 exact Nat.le_refl _
theorem aut (s : ev) (h : sU s) : ∃ r : List cU × Int, Am s = some r ∧ w8 s = some r ∧ de k2 r.1 ≤ de iQ s.b_ := by
 unfold Am w8
 rw [aum _ h, aun _ h]
 simp only [Option.bind_some]
 cases bH : (pT s == 0)
 ·exact ⟨_, rfl, rfl, by simp [de, gD]⟩
 ·rw [auq h.2.1.1 h.2.1.2, aur h.2.1.1 h.2.1.2]
  exact ⟨_, rfl, rfl, aus _⟩
theorem asj (a : kg) (cw : wj a) : ER a = some true := by
 unfold ER
 obtain ⟨r, ai, aj⟩ := aul a cw
 rw [ai]
 simp only [Option.bind_some]
 cases a7 : decide (r < 0)
 ·obtain ⟨aQ, bd, b3, cG, cp⟩ := aj a7
  have ah : mQ (o5 a) ≤ 1048576 := by rw [Mq]; omega
  rw [aQ]
  simp only [cond_false, Option.bind_some]
  generalize o5 a = e at bd b3 ah
  obtain ⟨q, i9, bj, dO⟩ := aut e b3
  have dd : de k2 q.1 ≤ 1048576 := by
   have : de iQ e.b_ ≤ mQ e := by unfold mQ; omega
   omega
  obtain ⟨fW, fE, g_, jZ, od, c, cE, fS⟩ := atf e 1 (by omega) (by omega)
  obtain ⟨jP, d, d1, gG, hg⟩ := ath q.1 1 (by omega) (by omega)
  simp only [i9, bj, Option.bind_some, asY q.1 dd, bd, fS, gG, hg, Bool.not_true, bne_self_eq_false, Bool.or_self, cond_false, FM (k := 1 + (c : Int)) (by omega), FM (k := 1 + (d : Int)) (by omega)]
 ·rfl
end Go.f_
