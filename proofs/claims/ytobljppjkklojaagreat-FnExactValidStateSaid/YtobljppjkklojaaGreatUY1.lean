/- Part of a proof that a law returns true for every input. No condition. -/
import Derived.Test.YtobljppjkklojaaGreatUD14
namespace Go.Sh
open Go Go.Fw
set_option linter.unusedSimpArgs false
theorem less_total (a b : List UInt8) : (!(Op.bytesLess a b)) = (Op.bytesLess b a || b == a) := by
 induction a generalizing b with
 | nil => cases b <;> simp [Op.bytesLess]
 | cons x a ih =>
   cases b with
   | nil => simp [Op.bytesLess]
   | cons y b =>
     simp only [Op.bytesLess]
     have := ih b
     by_cases h1 : x < y
     ·have h2 : ¬ y < x := fun h => by have := UInt8.lt_asymm h1 h; exact this
      have h3 : y ≠ x := fun h => by subst h; exact absurd h1 (UInt8.lt_irrefl _)
      simp [h1, h2, h3]
     ·by_cases h2 : y < x
      ·have h3 : x ≠ y := fun h => by subst h; exact absurd h2 (UInt8.lt_irrefl _)
       simp [h1, h2, h3]
      ·have h3 : x = y := by
        have e1 := UInt8.not_lt.1 h1
        have e2 := UInt8.not_lt.1 h2
        exact UInt8.le_antisymm e2 e1
       subst h3
       simp [h1, this]
theorem less_self (a : List UInt8) : Op.bytesLess a a = false := by
 have := less_total a a
 cases h : Op.bytesLess a a with
 | false => rfl
 | true => rw [h] at this; simp at this
def actOk (s : List UInt8) : Bool := nameOk s && !(s == ([116, 97, 117] : List UInt8))
theorem spec_act (s : List UInt8) : spec_l01Action s = some (actOk s) := by unfold spec_l01Action; rw [spec_name]; rfl
theorem impl_act (s : List UInt8) (hs : s.length ≤ 1048576) : impl_IsAction s = some (actOk s) := impl_action s hs
theorem all_from {β : Type} {l : Nat → Int → Option β} {n : Nat} (p : Nat → Bool) (good bad : Option β) (h0 : ∀ m, l (m + 1) (n : Int) = good)
  (hs : ∀ i, i < n → ∀ m, l (m + 1) (i : Int) = cond (p i) (l m ((i + 1 : Nat) : Int)) bad) (i0 : Nat) (hi : i0 ≤ n) : lim (fun m => l m (i0 : Int)) = cond ((List.range' i0 (n - i0)).all p) good bad := by
 refine lim_of (n + 1) fun m hm => ?_
 refine up (fun i => cond ((List.range' i (n - i)).all p) good bad) (fun m => ?_) (fun i hi m ih => ?_) i0 hi m (by omega)
 ·rw [h0]; simp
 ·rw [hs i hi, ih, show n - i = (n - (i + 1)) + 1 by omega, List.range'_succ]
  cases hp : p i <;> simp [hp]
def risesAt (a : List (List UInt8)) (i : Nat) : Bool := decide (i = 0) || Op.bytesLess (a.getD (i - 1) []) (a.getD i [])
def namesV (a : List (List UInt8)) : Bool := decide (a.length ≤ 12) && (allN (fun i => actOk (a.getD i [])) a.length && allN (risesAt a) a.length)
theorem spec_names (a : List (List UInt8)) (h : a.length ≤ 1048576) : spec_l05Names a = some (namesV a) := by
 unfold spec_l05Names namesV
 by_cases hl : 12 < a.length
 ·have d1 : decide ((12 : Int) < (a.length : Int)) = true := decide_eq_true (by omega)
  have d2 : decide (a.length ≤ 12) = false := decide_eq_false (by omega)
  rw [d1, d2]; rfl
 ·have d1 : decide ((12 : Int) < (a.length : Int)) = false := decide_eq_false (by omega)
  have d2 : decide (a.length ≤ 12) = true := decide_eq_true (by omega)
  have hact : spec_l11Actions a = some (allN (fun i => actOk (a.getD i [])) a.length) := by
   unfold spec_l11Actions
   refine all_loop (l := fun m i => spec_l11Actions_l6 a m i) _ (fun m => ?_) (fun i hi m => ?_)
   ·simp only [spec_l11Actions_l6, spec_l11Actions_b6]
    rw [ltF (Nat.le_refl _)]; rfl
   ·simp only [spec_l11Actions_l6, spec_l11Actions_b6]
    rw [ltT hi, getI_nat _ i [] hi, wsucc i _ hi (by omega)]
    simp only [cond_true, Option.bind_some, spec_act]
    cases actOk (a.getD i []) <;> rfl
  rw [d1, d2, hact]
  simp only [cond_false, Option.bind_some, Bool.true_and]
  cases allN (fun i => actOk (a.getD i [])) a.length
  ·rfl
  ·simp only [Bool.not_true, cond_false, Bool.true_and]
   by_cases h0 : a.length = 0
   ·rw [lim_of (x := some true) 1 (fun m hm => by
     obtain ⟨k, rfl⟩ : ∃ k, m = k + 1 := ⟨m - 1, by omega⟩
     simp only [spec_l05Names_l14, spec_l05Names_b14]
     rw [h0]; rfl)]
    rw [h0]; rfl
   ·have key := all_from (l := fun m i => spec_l05Names_l14 a m i) (n := a.length) (fun i => decide (i = 0) || Op.bytesLess (a.getD (i - 1) []) (a.getD i [])) (some true) (some false)
    have hz : spec_l05Names_l14 a = spec_l05Names_l14 a := rfl
    have : ∀ i, 1 ≤ i → i ≤ a.length → ∀ m, a.length - i < m → spec_l05Names_l14 a m (i : Int) = cond ((List.range' i (a.length - i)).all (risesAt a)) (some true) (some false) := by
     intro i h1 h2
     refine down a.length (P := fun i => 1 ≤ i → ∀ m, a.length - i < m → spec_l05Names_l14 a m (i : Int) = cond ((List.range' i (a.length - i)).all (risesAt a)) (some true) (some false)) ?_ ?_ i h2 h1
     ·intro _ m hm
      obtain ⟨k, rfl⟩ : ∃ k, m = k + 1 := ⟨m - 1, by omega⟩
      simp only [spec_l05Names_l14, spec_l05Names_b14]
      rw [ltF (Nat.le_refl _)]; simp
     ·intro i hi ih h1 m hm
      obtain ⟨k, rfl⟩ : ∃ k, m = k + 1 := ⟨m - 1, by omega⟩
      simp only [spec_l05Names_l14, spec_l05Names_b14]
      rw [ltT hi, wpredG i (by omega) (by omega), getI_nat _ (i - 1) [] (by omega), getI_nat _ i [] hi, wsucc i _ hi (by omega), ih (by omega) k (by omega), show a.length - i = (a.length - (i + 1)) + 1 by omega, List.range'_succ]
      have hr : risesAt a i = Op.bytesLess (a.getD (i - 1) []) (a.getD i []) := by
       unfold risesAt
       have : decide (i = 0) = false := decide_eq_false (by omega)
       rw [this, Bool.false_or]
      simp only [cond_true, Option.bind_some, List.all_cons, hr]
      cases Op.bytesLess (a.getD (i - 1) []) (a.getD i []) <;> rfl
    have hlim := lim_of (f := fun m => spec_l05Names_l14 a m 1) (a.length + 1) (fun m hm => this 1 (by omega) (by omega) m (by omega))
    rw [hlim]
    have e : allN (risesAt a) a.length = (List.range' 1 (a.length - 1)).all (risesAt a) := by
     unfold allN
     rw [List.range_eq_range', show a.length = (a.length - 1) + 1 by omega, List.range'_succ]
     simp [risesAt]
    rw [e]
    cases (List.range' 1 (a.length - 1)).all (risesAt a) <;> rfl
theorem allN_and' {p q : Nat → Bool} {n : Nat} : (allN p n && allN q n) = allN (fun i => p i && q i) n := allN_and.symm
theorem impl_names (a : List (List UInt8)) (h : a.length ≤ 1048576) (hs : ∀ s ∈ a, s.length ≤ 1048576) : impl_namesOk a = some (namesV a) := by
 unfold impl_namesOk namesV
 rw [allN_and']
 rw [all_loopO (l := fun m i => impl_namesOk_l6 a m i) (n := a.length) (fun i => actOk (a.getD i []) && risesAt a i) (some (decide ((a.length : Int) ≤ 12))) (some false)]
 ·have e : decide ((a.length : Int) ≤ 12) = decide (a.length ≤ 12) := decide_eq_decide.2 (by omega)
  rw [e]
  cases allN (fun i => actOk (a.getD i []) && risesAt a i) a.length <;> cases decide (a.length ≤ 12) <;> rfl
 ·intro m
  simp only [impl_namesOk_l6, impl_namesOk_b6]
  rw [ltF (Nat.le_refl _)]; rfl
 ·intro i hi m
  simp only [impl_namesOk_l6, impl_namesOk_b6]
  have hm : (a.getD i []).length ≤ 1048576 := by
   have : a.getD i [] = a[i] := by simp [List.getD, hi]
   rw [this]; exact hs _ (List.getElem_mem hi)
  rw [ltT hi, getI_nat _ i [] hi, wsucc i _ hi (by omega)]
  simp only [cond_true, Option.bind_some, impl_act _ hm]
  by_cases h0 : i = 0
  ·subst h0
   rw [lt0F]
   simp only [cond_false, risesAt, decide_true, Bool.true_or, Bool.and_true]
   cases actOk (a.getD 0 []) <;> rfl
  ·rw [ge0T h0, wpredG i (by omega) (by omega), getI_nat _ (i - 1) [] (by omega)]
   have hr : risesAt a i = Op.bytesLess (a.getD (i - 1) []) (a.getD i []) := by
    unfold risesAt
    have : decide (i = 0) = false := decide_eq_false h0
    rw [this, Bool.false_or]
   have ht := less_total (a.getD (i - 1) []) (a.getD i [])
   simp only [cond_true, Option.bind_some, hr, ← ht]
   cases actOk (a.getD i []) <;> cases Op.bytesLess (a.getD (i - 1) []) (a.getD i []) <;> rfl
end Go.Sh
