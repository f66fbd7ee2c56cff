/- Part of a proof that a law returns true for every input. No condition. -/
import Derived.Test.YtbemmmimelklkaaGreatUY5
namespace Go.fJ
open Go Go.dg
def Gl (b : List bx) (j : Nat) : Bool := ta b j && (b.getD j ⟨0, 0, [], []⟩).Kind != 5
def mw (i : Nat) (b : List bx) : Nat → Nat → List (List Int)
 | _, 0 => []
 | j, k + 1 => if Gl b j = true then [(i : Int), (j : Int)] :: mw i b (j + 1) k else mw i b (j + 1) k
theorem Cx (i : Nat) (b : List bx) : ∀ (k j : Nat), (mw i b j k).length ≤ k
 | 0, j => Nat.le_refl _
 | k + 1, j => by
   have := Cx i b k (j + 1)
   simp only [mw]; split
   ·simp only [List.length_cons]; omega
   ·omega
theorem Gm (i : Nat) (b : List bx) : ∀ (k j : Nat), ∀ x ∈ mw i b j k, x.length = 2
 | 0, j, x, h => by cases h
 | k + 1, j, x, h => by
   simp only [mw] at h
   split at h
   ·rcases List.mem_cons.1 h with rfl | h
    ·rfl
    ·exact Gm i b k _ x h
   ·exact Gm i b k _ x h
def th (i : Nat) (b : List bx) : List (List Int) := [(i : Int), 0] :: mw i b 1 (b.length - 1)
def lU : List a9 → Nat → List (List Int)
 | [], _ => []
 | d :: r, i => th i d.Body ++ lU r (i + 1)
theorem auq : ∀ (l : List a9) (i : Nat), (∀ d ∈ l, 1 ≤ d.Body.length ∧ d.Body.length ≤ 20) → (lU l i).length ≤ 20 * l.length
 | [], i, _ => Nat.le_refl _
 | d :: r, i, h => by
   have ai := auq r (i + 1) fun x aA => h x (by simp [aA])
   have aj := Cx i d.Body (d.Body.length - 1) 1
   have aP := h d (by simp)
   simp only [lU, th, List.length_append, List.length_cons]; omega
theorem Nw : ∀ (l : List a9) (i : Nat), ∀ x ∈ lU l i, x.length = 2
 | d :: r, i, x, h => by
   simp only [lU, th, List.cons_append, List.mem_cons, List.mem_append] at h
   rcases h with rfl | h | h
   ·rfl
   ·exact Gm _ _ _ _ x h
   ·exact Nw r _ x h
section
variable {s : dU} (h : q7 s.bQ) (a2 : nG s.bQ = true)
include h a2
theorem Nx {i : Nat} (ar : i < s.bQ.length) : 1 ≤ s.bQ[i].Body.length ∧ s.bQ[i].Body.length ≤ 20 :=
 let ⟨_, _, al⟩ := yE h a2
 (yD (al i ar).2.1).2
theorem aur (K : List (List Int) → Int → Option (List (List Int))) (i : Nat) (ar : i < s.bQ.length) (v : List (List Int)) (na : v.length ≤ 1000) :
  cO (fun n => pM K s s.bQ[i] n v (i : Int) 1) = K (v ++ mw i s.bQ[i].Body 1 (s.bQ[i].Body.length - 1)) ((i + 1 : Nat) : Int) := by
 obtain ⟨j0, h_⟩ := Nx h a2 ar
 obtain ⟨_, bb, _⟩ := yE h a2
 have key : ∀ k j, 1 ≤ j → j + k = s.bQ[i].Body.length → ∀ (v : List (List Int)) m, v.length ≤ 1000 + j → k < m →
   pM K s s.bQ[i] m v (i : Int) (j : Int) = K (v ++ mw i s.bQ[i].Body j k) ((i + 1 : Nat) : Int) := by
  intro k
  induction k with
  | zero =>
    intro j cx re v m na hm
    obtain ⟨m, rfl⟩ : ∃ j, m = j + 1 := ⟨m - 1, by omega⟩
    simp only [pM, AN]
    rw [fw (by omega), gy i _ ar (by omega)]
    simp [mw]
  | succ k ih =>
    intro j cx re v m na hm
    obtain ⟨m, rfl⟩ : ∃ j, m = j + 1 := ⟨m - 1, by omega⟩
    have po : j < s.bQ[i].Body.length := by omega
    have zq : j - 1 < s.bQ[i].Body.length := by omega
    simp only [pM, AN, xl]
    rw [gz po, vo j (by omega) (by omega), hD _ (j - 1) zq, hD _ j po, gy j _ po (by omega), Cn (by omega) (by omega)]
    simp only [cond_true, Option.bind_some]
    rw [ih (j + 1) (by omega) (by omega) v m (by omega) (by omega), ih (j + 1) (by omega) (by omega) (v ++ [[(i : Int), (j : Int)]]) m (by simp only [List.length_append, List.length_cons, List.length_nil]; omega) (by omega)]
    have a4 : ta s.bQ[i].Body j = (s.bQ[i].Body[j - 1].Kind == 1) := by
     obtain ⟨q, rfl⟩ : ∃ q, j = q + 1 := ⟨j - 1, by omega⟩
     simp only [ta, Nat.add_sub_cancel, List.getElem?_eq_getElem zq]
     rw [List.getElem?_eq_getElem (by omega)]
    have a_ : s.bQ[i].Body.getD j ⟨0, 0, [], []⟩ = s.bQ[i].Body[j] := by rw [List.getD_eq_getElem?_getD, List.getElem?_eq_getElem po]; rfl
    simp only [mw, Gl, a4, a_]
    cases (s.bQ[i].Body[j - 1].Kind == 1) <;> cases (s.bQ[i].Body[j].Kind != 5) <;> simp
 refine ir (s.bQ[i].Body.length + 1) fun m hm => ?_
 have := key (s.bQ[i].Body.length - 1) 1 (by omega) (by omega) v m (by omega) (by omega)
 simpa using this
theorem aus : AP s = some (lU s.bQ 0) := by
 obtain ⟨_, bb, _⟩ := yE h a2
 unfold AP
 have key : ∀ i, i ≤ s.bQ.length → ∀ (v : List (List Int)) m, v.length ≤ 20 * i → s.bQ.length - i < m → nw s m v (i : Int) = some (v ++ lU (s.bQ.drop i) i) := by
  refine down s.bQ.length ?_ ?_
  ·intro v m na hm
   obtain ⟨m, rfl⟩ : ∃ j, m = j + 1 := ⟨m - 1, by omega⟩
   simp only [nw, AO]
   rw [fw (Nat.le_refl _), List.drop_of_length_le (Nat.le_refl _)]
   simp [lU]
  ·intro i ar ih v m na hm
   obtain ⟨m, rfl⟩ : ∃ j, m = j + 1 := ⟨m - 1, by omega⟩
   obtain ⟨j0, h_⟩ := Nx h a2 ar
   have he := Cx i s.bQ[i].Body (s.bQ[i].Body.length - 1) 1
   simp only [nw, AO]
   rw [gz ar, hD _ i ar, Cn (by omega) (by omega)]
   simp only [cond_true, Option.bind_some]
   rw [aur h a2 _ i ar _ (by simp only [List.length_append, List.length_cons, List.length_nil]; omega), ih _ m (by simp only [List.length_append, List.length_cons, List.length_nil]; omega) (by omega), drop_cons _ i ar]
   simp [lU, th]
 refine ir (s.bQ.length + 1) fun m hm => ?_
 have := key 0 (by omega) [] m (by simp) (by omega)
 simpa using this
theorem aut (K : List (List Int) → Int → Option (List (List Int))) (i : Nat) (ar : i < s.bQ.length) (v : List (List Int)) (na : v.length ≤ 1000) :
  cO (fun n => o7 K s s.bQ[i] (gb s.bQ[i].Body [⟨s.bQ[i].cZ, false⟩]) n v (i : Int) (i : Int) 0) = K (v ++ th i s.bQ[i].Body) ((i + 1 : Nat) : Int) := by
 obtain ⟨_, bb, al⟩ := yE h a2
 obtain ⟨ax, ah, _⟩ := al i ar
 obtain ⟨s1, j0, h_⟩ := yD ah
 have fV : (gb s.bQ[i].Body [⟨s.bQ[i].cZ, false⟩]).length = s.bQ[i].Body.length := s_ (st := [_]) s1
 have key : ∀ k j, 1 ≤ j → j + k = s.bQ[i].Body.length → ∀ (v : List (List Int)) m, v.length ≤ 1001 + j → k < m →
   o7 K s s.bQ[i] (gb s.bQ[i].Body [⟨s.bQ[i].cZ, false⟩]) m v (i : Int) (i : Int) (j : Int) = K (v ++ mw i s.bQ[i].Body j k) ((i + 1 : Nat) : Int) := by
  intro k
  induction k with
  | zero =>
    intro j cx re v m na hm
    obtain ⟨m, rfl⟩ : ∃ j, m = j + 1 := ⟨m - 1, by omega⟩
    simp only [o7, xD]
    rw [fV, fw (by omega), gy i _ ar (by omega)]
    simp [mw]
  | succ k ih =>
    intro j cx re v m na hm
    obtain ⟨m, rfl⟩ : ∃ j, m = j + 1 := ⟨m - 1, by omega⟩
    have po : j < s.bQ[i].Body.length := by omega
    obtain ⟨_, _, _, b9, dD⟩ := Gh s.bQ[i] ah ax j po
    have b6 : bI (gb s.bQ[i].Body [⟨s.bQ[i].cZ, false⟩]) (j : Int) = some (oH s.bQ[i] j) := by unfold bI; rw [if_pos (by omega)]; exact dD
    simp only [o7, xD, sq]
    rw [fV, gz po, b6, hD _ j po, gy j _ po (by omega), Cn (by omega) (by omega)]
    have d0 : ((j : Int) == 0) = false := by simp; omega
    simp only [cond_true, Option.bind_some, d0, cond_false, b9]
    rw [ih (j + 1) (by omega) (by omega) v m (by omega) (by omega), ih (j + 1) (by omega) (by omega) (v ++ [[(i : Int), (j : Int)]]) m (by simp only [List.length_append, List.length_cons, List.length_nil]; omega) (by omega)]
    have a_ : s.bQ[i].Body.getD j ⟨0, 0, [], []⟩ = s.bQ[i].Body[j] := by rw [List.getD_eq_getElem?_getD, List.getElem?_eq_getElem po]; rfl
    simp only [mw, Gl, a_]
    cases ta s.bQ[i].Body j <;> cases (s.bQ[i].Body[j].Kind != 5) <;> simp
 refine ir (s.bQ[i].Body.length + 2) fun m hm => ?_
 obtain ⟨m, rfl⟩ : ∃ j, m = j + 1 := ⟨m - 1, by omega⟩
 obtain ⟨_, _, _, b9, dD⟩ := Gh s.bQ[i] ah ax 0 (by omega)
 have b6 : bI (gb s.bQ[i].Body [⟨s.bQ[i].cZ, false⟩]) 0 = some (oH s.bQ[i] 0) := by unfold bI; rw [if_pos (by omega)]; exact dD
 simp only [o7, xD, sq]
 rw [fV, show decide ((0 : Int) < (s.bQ[i].Body.length : Int)) = true by simp; omega, b6, Cn (by omega) (by omega), MD]
 simp only [cond_true, Option.bind_some, show ((0 : Int) == 0) = true from rfl]
 have := key (s.bQ[i].Body.length - 1) 1 (by omega) (by omega) (v ++ [[(i : Int), 0]]) m (by simp only [List.length_append, List.length_cons, List.length_nil]; omega) (by omega)
 rw [show ((1 : Nat) : Int) = 1 from rfl] at this
 rw [this]
 simp [th]
theorem auu : Bn s = some (lU s.bQ 0) := by
 obtain ⟨_, bb, al⟩ := yE h a2
 unfold Bn
 have key : ∀ i, i ≤ s.bQ.length → ∀ (v : List (List Int)) m, v.length ≤ 20 * i → s.bQ.length - i < m → ny s m v (i : Int) = some (v ++ lU (s.bQ.drop i) i) := by
  refine down s.bQ.length ?_ ?_
  ·intro v m na hm
   obtain ⟨m, rfl⟩ : ∃ j, m = j + 1 := ⟨m - 1, by omega⟩
   simp only [ny, Bm]
   rw [fw (Nat.le_refl _), List.drop_of_length_le (Nat.le_refl _)]
   simp [lU]
  ·intro i ar ih v m na hm
   obtain ⟨m, rfl⟩ : ∃ j, m = j + 1 := ⟨m - 1, by omega⟩
   obtain ⟨ax, ah, _⟩ := al i ar
   obtain ⟨s1, j0, h_⟩ := yD ah
   have ae := (h.2 _ (List.getElem_mem ar)).2.1
   have he := Cx i s.bQ[i].Body (s.bQ[i].Body.length - 1) 1
   simp only [ny, Bm]
   rw [gz ar, hD _ i ar]
   simp only [cond_true, Option.bind_some]
   rw [Nb _ ae s1 ax.1 (by omega)]
   simp only [Option.bind_some]
   rw [aut h a2 _ i ar _ (by omega), ih _ m (by simp only [th, List.length_append, List.length_cons]; omega) (by omega), drop_cons _ i ar]
   simp [lU]
 refine ir (s.bQ.length + 1) fun m hm => ?_
 have := key 0 (by omega) [] m (by simp) (by omega)
 simpa using this
end
theorem auv (s : dU) (h : tg s) : ∃ r : List (List Int) × Int, AQ s = some r ∧ xE s = some r ∧ r.1.length ≤ 64 ∧ ∀ x ∈ r.1, x.length = 2 := by
 unfold AQ xE
 rw [aun _ h, auo _ h]
 simp only [Option.bind_some]
 cases bF : (p8 s == 0)
 ·exact ⟨_, rfl, rfl, by simp, by simp⟩
 ·have al := aup bF
  rw [aus h.1 al, auu h.1 al]
  simp only [Option.bind_some, Bool.not_true, cond_false]
  cases hl : decide ((64 : Int) < ((lU s.bQ 0).length : Int))
  ·refine ⟨_, rfl, rfl, ?_, Nw _ _⟩
   simp only [decide_eq_false_iff_not] at hl
   show (lU s.bQ 0).length ≤ 64
   omega
  ·exact ⟨_, rfl, rfl, by simp, by simp⟩
end Go.fJ
