/- Part of a proof that a law returns true for every input. No condition. -/
import Derived.Test.YtgpmnlkgmadglaaGreatDoorUR3
import Derived.Test.YtgpmnlkgmadglaaGreatDoorUX1
import Derived.Test.YtgpmnlkgmadglaaGreatDoorUD14
namespace Go.eR
open Go Go.cY
theorem Rj {α : Type} {L : Nat → List Int → Int → Option (List Int)} (a : List α) (f : α → Int) (bn : ∀ m v, L (m + 1) v (a.length : Int) = some v)
  (ab : ∀ i (h : i < a.length) m v, v.length = i → L (m + 1) v (i : Int) = L m (v ++ [f a[i]]) ((i + 1 : Nat) : Int)) : c2 (fun m => L m [] 0) = some (a.map f) := by
 have key : ∀ i, i ≤ a.length → ∀ (v : List Int) m, v.length = i → a.length - i < m → L m v (i : Int) = some (v ++ (a.drop i).map f) := by
  refine down a.length ?_ ?_
  ·intro v m aK hm
   obtain ⟨m, rfl⟩ : ∃ j, m = j + 1 := ⟨m - 1, by omega⟩
   rw [bn, List.drop_of_length_le (Nat.le_refl _), List.map_nil, List.append_nil]
  ·intro i an ih v m aK hm
   obtain ⟨m, rfl⟩ : ∃ j, m = j + 1 := ⟨m - 1, by omega⟩
   rw [ab i an m v aK, ih (v ++ [f a[i]]) m (by simp [aK]) (by omega), drop_cons a i an, List.map_cons, List.append_assoc]; rfl
 refine hE (a.length + 1) fun m hm => ?_
 have := key 0 (by omega) [] m rfl (by omega)
 rwa [List.drop_zero, List.nil_append] at this
theorem EK (l : List (List ba)) (hl : l.length ≤ 1048576) (a : List Int) (h : ∀ e ∈ l, mY e a.length 15 = true) :
  zn l a = some (mw l a) ∧ zE l a = some (mw l a) := by
 constructor
 ·unfold zn mw
  refine Rj (L := uj l a) l (o3 a) (fun m v => ?_) fun i an m v aK => ?_
  ·simp only [uj, CG]; rw [gI (Nat.le_refl _)]; rfl
  ·simp only [uj, CG]
   rw [hx an, fp _ i an, hg i _ an (by omega)]
   simp only [cond_true, Option.bind_some, (EG (by omega) (h _ (List.getElem_mem an))).1]
   rw [qU (by omega) (by omega)]; rfl
 ·unfold zE mw
  refine Rj (L := uD l a) l (o3 a) (fun m v => ?_) fun i an m v aK => ?_
  ·simp only [uD, Df]; rw [gI (Nat.le_refl _)]; rfl
  ·simp only [uD, Df]
   rw [hx an, fp _ i an, hg i _ an (by omega)]
   simp only [cond_true, Option.bind_some, (EG (by omega) (h _ (List.getElem_mem an))).2.1]
   rw [qU (by omega) (by omega)]; rfl
theorem EL {l : List (List ba)} {a : List Int} (bF : ∀ x ∈ a, gS x) (h : ∀ e ∈ l, mY e a.length 15 = true) : ∀ x ∈ mw l a, gS x := by
 intro x aq
 unfold mw at aq
 obtain ⟨e, he, rfl⟩ := List.mem_map.1 aq
 exact (EG (by omega) (h e he)).2.2 bF
theorem o4 {n : Nat} (h : n ≤ 1099511627776) : iF n = some () := by unfold iF; rw [if_pos (by omega)]
theorem Ju (a : List Int) : ((a.length : Int) == 0) = decide (a.length = 0) := by
 by_cases h : a.length = 0
 ·rw [h]; rfl
 ·rw [decide_eq_false h]; simp; exact fun ag => h (by rw [ag]; rfl)
theorem ayg (n : List UInt8) (a : List Int) (bc : n.length ≤ 10) (hl : a.length ≤ 64) (aK : ∀ x ∈ a, gS x) : CN n a = some (qY n a) := by
 unfold CN qY
 rw [Ju]
 by_cases h : a.length = 0
 ·rw [decide_eq_true h, if_pos h]; rfl
 ·have af := EE a
  rw [decide_eq_false h, if_neg h, cond_false, o4 (by omega), axQ a hl aK]
  simp only [Option.bind_some]
  rw [o4 (by simp only [List.length_append, List.length_cons, List.length_nil]; omega), o4 (by simp only [List.length_append, List.length_cons, List.length_nil]; omega)]; rfl
theorem ayh (a : List Int) (hl : a.length ≤ 64) (aK : ∀ x ∈ a, gS x) (h : a.length ≠ 0) : w2 a [44] = some (mv a) := by
 have := Q9 a hl aK
 unfold zH at this
 rw [Q8 a hl aK, Ju, decide_eq_false h] at this
 simp only [Option.bind_some, Bool.not_true, cond_false] at this
 cases bw : w2 a [44] with
 | none => rw [bw] at this; cases this
 | some x => rw [bw] at this; exact this
theorem ayi (n : List UInt8) (a : List Int) (bc : iS n = true) (hl : a.length ≤ 2) (a1 : (n == ([116, 97, 117] : List UInt8)) = true → a.length = 0) (aK : ∀ x ∈ a, gS x) :
  ∃ b, Dh n a = some (qY n a, b) := by
 have Jv : n.length ≤ 10 := by simp only [iS, Bool.and_eq_true, decide_eq_true_eq] at bc; exact bc.1
 unfold Dh
 cases ar : n == ([116, 97, 117] : List UInt8)
 ·have ai : xF a = true := by
   simp only [xF, pW]
   intro k ar
   have := aK _ (List.getElem_mem ar)
   simp only [oX, Bool.and_eq_true, decide_eq_true_eq, List.getD_eq_getElem?_getD, List.getElem?_eq_getElem ar, Option.getD_some]
   exact this
  rw [cond_false, QW n (by omega), bc, ar]
  simp only [Option.bind_some, Bool.not_false, Bool.and_self, Bool.not_true, cond_false]
  rw [show decide (2 < (a.length : Int)) = false from decide_eq_false (by omega), cond_false, Q3 a (by omega), ai]
  simp only [Option.bind_some, Bool.not_true, cond_false]
  rw [Ju]
  unfold qY
  by_cases h : a.length = 0
  ·rw [decide_eq_true h, if_pos h]; exact ⟨_, rfl⟩
  ·have af := EE a
   rw [decide_eq_false h, if_neg h, cond_false, o4 (by omega), ayh a (by omega) aK h]
   simp only [Option.bind_some]
   rw [o4 (by simp only [List.length_append, List.length_cons, List.length_nil]; omega), o4 (by simp only [List.length_append, List.length_cons, List.length_nil]; omega)]
   exact ⟨_, rfl⟩
 ·rw [cond_true]
  unfold qY
  rw [if_pos (a1 ar), eq_of_beq ar]
  exact ⟨_, rfl⟩
theorem Rk (a : List Int) (h : a.length ≤ 1048576) : zG a = some a := by
 unfold zG
 rw [qU (by omega) (by omega)]
 cases a with
 | nil => simp [both]
 | cons x r => rfl
theorem Rl (a : List Int) (h : a.length ≤ 1048576) : zm a = some a := by
 unfold zm
 rw [qU (by omega) (by omega)]; rfl
structure iq (s : bd) : Prop where
 EM : s.Label.length ≤ 400 ∧ (32 : UInt8) ∉ s.Label
 Jw : ∃ i : Nat, i < 100 ∧ s.Next.dO = (i : Int)
 Jx : ∃ j : Nat, j < 100 ∧ s.Next.Part = (j : Int)
 xJ : s.Next.cD.length ≤ 64 ∧ ∀ x ∈ s.Next.cD, gS x
theorem EN (n : Nat) (bc : n < 100) : ∀ c ∈ jS n, 48 ≤ c.toNat ∧ c.toNat ≤ 57 := by
 intro c ao
 unfold jS at ao
 have key : ∀ d, d < 10 → 48 ≤ (UInt8.ofNat (48 + d)).toNat ∧ (UInt8.ofNat (48 + d)).toNat ≤ 57 := by
  intro d ai
  rw [UInt8.toNat_ofNat', Nat.mod_eq_of_lt (by omega)]; omega
 split at ao
 ·rw [List.mem_singleton] at ao; subst ao; exact key n (by omega)
 ·rw [List.mem_cons, List.mem_singleton] at ao
  rcases ao with rfl | rfl
  ·exact key _ (by omega)
  ·exact key _ (by omega)
theorem Rm (p : UInt8 → Prop) (Rn : p 44) : ∀ l : List (List UInt8), (∀ x ∈ l, ∀ c ∈ x, p c) → ∀ c ∈ jR l [44], p c
 | [], _, c, ao => by simp [jR, List.intercalate, List.intersperse] at ao
 | [x], h, c, ao => by rw [join_one] at ao; exact h x (by simp) c ao
 | x :: y :: r, h, c, ao => by
   rw [join_cons, List.mem_append, List.mem_append, List.mem_singleton] at ao
   rcases ao with ao | rfl | ao
   ·exact h x (by simp) c ao
   ·exact Rn
   ·exact Rm p Rn (y :: r) (fun z bS => h z (List.mem_cons_of_mem _ bS)) c ao
theorem ayj (a : List Int) (aK : ∀ x ∈ a, gS x) : ∀ c ∈ mv a, 44 ≤ c.toNat ∧ c.toNat ≤ 57 := by
 intro c ao
 unfold mv at ao
 split at ao
 ·rw [List.mem_singleton] at ao; subst ao; decide
 ·refine Rm (fun c => 44 ≤ c.toNat ∧ c.toNat ≤ 57) (by decide) _ (fun x aq d ai => ?_) c ao
  obtain ⟨y, hy, rfl⟩ := List.mem_map.1 aq
  have af := aK y hy
  unfold gS at af
  have := EN y.toNat (by omega) d ai
  omega
theorem Ro {n : List UInt8} (h : iS n = true) : ∀ c ∈ n, 48 ≤ c.toNat := by
 intro c ao
 simp only [iS, Bool.and_eq_true] at h
 have ag := h.2
 cases n with
 | nil => cases ag
 | cons x r =>
   simp only [Bool.and_eq_true, List.all_eq_true, small, digit, Bool.or_eq_true, decide_eq_true_eq] at ag
   rcases List.mem_cons.1 ao with rfl | ao
   ·omega
   ·have := ag.2 c ao; omega
theorem ayk {n : List UInt8} {a : List Int} (bc : iS n = true) (hl : a.length ≤ 64) (aK : ∀ x ∈ a, gS x) : (qY n a).length ≤ 400 ∧ (32 : UInt8) ∉ qY n a := by
 have Jv : n.length ≤ 10 := by simp only [iS, Bool.and_eq_true, decide_eq_true_eq] at bc; exact bc.1
 have af := EE a
 unfold qY
 split
 ·refine ⟨by omega, fun hm => ?_⟩
  have := Ro bc _ hm
  revert this; decide
 ·refine ⟨by simp only [List.length_append, List.length_cons, List.length_nil]; omega, fun hm => ?_⟩
  rw [List.mem_append, List.mem_append, List.mem_append, List.mem_singleton, List.mem_singleton] at hm
  rcases hm with ((hm | hm) | hm) | hm
  ·have := Ro bc _ hm
   revert this; decide
  ·revert hm; decide
  ·have := (ayj a aK _ hm).1
   revert this; decide
  ·revert hm; decide
end Go.eR
