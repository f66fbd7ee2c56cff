/- Part of a proof that a law returns true for every input. No condition. -/
import Derived.Test.YtbemmmimelklkaaGreatUD14
namespace Go.fJ
open Go Go.dg
set_option linter.unusedSimpArgs false
theorem Nr (a b : List UInt8) : (!(Op.bytesLess a b)) = (Op.bytesLess b a || b == a) := by
 induction a generalizing b with
 | nil => cases b <;> simp [Op.bytesLess]
 | cons x a ih =>
   cases b with
   | nil => simp [Op.bytesLess]
   | cons y b =>
     simp only [Op.bytesLess]
     have := ih b
     by_cases ai : x < y
     ·have aj : ¬ y < x := fun h => by have := UInt8.lt_asymm ai h; exact this
      have aP : y ≠ x := fun h => by subst h; exact absurd ai (UInt8.lt_irrefl _)
      simp [ai, aj, aP]
     ·by_cases aj : y < x
      ·have aP : x ≠ y := fun h => by subst h; exact absurd aj (UInt8.lt_irrefl _)
       simp [ai, aj, aP]
      ·have aP : x = y := by
        have a4 := UInt8.not_lt.1 ai
        have a_ := UInt8.not_lt.1 aj
        exact UInt8.le_antisymm a_ a4
       subst aP
       simp [ai, this]
theorem at5 (a : List UInt8) : Op.bytesLess a a = false := by
 have := Nr a a
 cases h : Op.bytesLess a a with
 | false => rfl
 | true => rw [h] at this; simp at this
def iV (s : List UInt8) : Bool := kc s && !(s == ([116, 97, 117] : List UInt8))
theorem Ns (s : List UInt8) : sf s = some (iV s) := by unfold sf; rw [Ga]; rfl
theorem Cv (s : List UInt8) (ah : s.length ≤ 1048576) : pO s = some (iV s) := Nj s ah
theorem at6 {β : Type} {l : Nat → Int → Option β} {n : Nat} (p : Nat → Bool) (oG bad : Option β) (ba : ∀ m, l (m + 1) (n : Int) = oG)
  (ah : ∀ i, i < n → ∀ m, l (m + 1) (i : Int) = cond (p i) (l m ((i + 1 : Nat) : Int)) bad) (ke : Nat) (ar : ke ≤ n) : cO (fun m => l m (ke : Int)) = cond ((List.range' ke (n - ke)).all p) oG bad := by
 refine ir (n + 1) fun m hm => ?_
 refine up (fun i => cond ((List.range' i (n - i)).all p) oG bad) (fun m => ?_) (fun i ar m ih => ?_) ke ar m (by omega)
 ·rw [ba]; simp
 ·rw [ah i ar, ih, show n - i = (n - (i + 1)) + 1 by omega, List.range'_succ]
  cases ax : p i <;> simp [ax]
def mv (a : List (List UInt8)) (i : Nat) : Bool := decide (i = 0) || Op.bytesLess (a.getD (i - 1) []) (a.getD i [])
def pn (a : List (List UInt8)) : Bool := decide (a.length ≤ 12) && (fG (fun i => iV (a.getD i [])) a.length && fG (mv a) a.length)
theorem Nt (a : List (List UInt8)) (h : a.length ≤ 1048576) : xk a = some (pn a) := by
 unfold xk pn
 by_cases hl : 12 < a.length
 ·have d1 : decide ((12 : Int) < (a.length : Int)) = true := decide_eq_true (by omega)
  have d2 : decide (a.length ≤ 12) = false := decide_eq_false (by omega)
  rw [d1, d2]; rfl
 ·have d1 : decide ((12 : Int) < (a.length : Int)) = false := decide_eq_false (by omega)
  have d2 : decide (a.length ≤ 12) = true := decide_eq_true (by omega)
  have Gg : AK a = some (fG (fun i => iV (a.getD i [])) a.length) := by
   unfold AK
   refine Cm (l := fun m i => sg a m i) _ (fun m => ?_) (fun i ar m => ?_)
   ·simp only [sg, AJ]
    rw [fw (Nat.le_refl _)]; rfl
   ·simp only [sg, AJ]
    rw [gz ar, lS _ i [] ar, gy i _ ar (by omega)]
    simp only [cond_true, Option.bind_some, Ns]
    cases iV (a.getD i []) <;> rfl
  rw [d1, d2, Gg]
  simp only [cond_false, Option.bind_some, Bool.true_and]
  cases fG (fun i => iV (a.getD i [])) a.length
  ·rfl
  ·simp only [Bool.not_true, cond_false, Bool.true_and]
   by_cases ba : a.length = 0
   ·rw [ir (x := some true) 1 (fun m hm => by
     obtain ⟨k, rfl⟩ : ∃ k, m = k + 1 := ⟨m - 1, by omega⟩
     simp only [mQ, xj]
     rw [ba]; rfl)]
    rw [ba]; rfl
   ·have key := at6 (l := fun m i => mQ a m i) (n := a.length) (fun i => decide (i = 0) || Op.bytesLess (a.getD (i - 1) []) (a.getD i [])) (some true) (some false)
    have ca : mQ a = mQ a := rfl
    have : ∀ i, 1 ≤ i → i ≤ a.length → ∀ m, a.length - i < m → mQ a m (i : Int) = cond ((List.range' i (a.length - i)).all (mv a)) (some true) (some false) := by
     intro i ai aj
     refine down a.length (P := fun i => 1 ≤ i → ∀ m, a.length - i < m → mQ a m (i : Int) = cond ((List.range' i (a.length - i)).all (mv a)) (some true) (some false)) ?_ ?_ i aj ai
     ·intro _ m hm
      obtain ⟨k, rfl⟩ : ∃ k, m = k + 1 := ⟨m - 1, by omega⟩
      simp only [mQ, xj]
      rw [fw (Nat.le_refl _)]; simp
     ·intro i ar ih ai m hm
      obtain ⟨k, rfl⟩ : ∃ k, m = k + 1 := ⟨m - 1, by omega⟩
      simp only [mQ, xj]
      rw [gz ar, vo i (by omega) (by omega), lS _ (i - 1) [] (by omega), lS _ i [] ar, gy i _ ar (by omega), ih (by omega) k (by omega), show a.length - i = (a.length - (i + 1)) + 1 by omega, List.range'_succ]
      have a7 : mv a i = Op.bytesLess (a.getD (i - 1) []) (a.getD i []) := by
       unfold mv
       have : decide (i = 0) = false := decide_eq_false (by omega)
       rw [this, Bool.false_or]
      simp only [cond_true, Option.bind_some, List.all_cons, a7]
      cases Op.bytesLess (a.getD (i - 1) []) (a.getD i []) <;> rfl
    have Gk := ir (f := fun m => mQ a m 1) (a.length + 1) (fun m hm => this 1 (by omega) (by omega) m (by omega))
    rw [Gk]
    have e : fG (mv a) a.length = (List.range' 1 (a.length - 1)).all (mv a) := by
     unfold fG
     rw [List.range_eq_range', show a.length = (a.length - 1) + 1 by omega, List.range'_succ]
     simp [mv]
    rw [e]
    cases (List.range' 1 (a.length - 1)).all (mv a) <;> rfl
theorem at7 {p q : Nat → Bool} {n : Nat} : (fG p n && fG q n) = fG (fun i => p i && q i) n := p6.symm
theorem Nu (a : List (List UInt8)) (h : a.length ≤ 1048576) (ah : ∀ s ∈ a, s.length ≤ 1048576) : xC a = some (pn a) := by
 unfold xC pn
 rw [at7]
 rw [tb (l := fun m i => so a m i) (n := a.length) (fun i => iV (a.getD i []) && mv a i) (some (decide ((a.length : Int) ≤ 12))) (some false)]
 ·have e : decide ((a.length : Int) ≤ 12) = decide (a.length ≤ 12) := decide_eq_decide.2 (by omega)
  rw [e]
  cases fG (fun i => iV (a.getD i []) && mv a i) a.length <;> cases decide (a.length ≤ 12) <;> rfl
 ·intro m
  simp only [so, Bj]
  rw [fw (Nat.le_refl _)]; rfl
 ·intro i ar m
  simp only [so, Bj]
  have hm : (a.getD i []).length ≤ 1048576 := by
   have : a.getD i [] = a[i] := by simp [List.getD, ar]
   rw [this]; exact ah _ (List.getElem_mem ar)
  rw [gz ar, lS _ i [] ar, gy i _ ar (by omega)]
  simp only [cond_true, Option.bind_some, Cv _ hm]
  by_cases ba : i = 0
  ·subst ba
   rw [s4]
   simp only [cond_false, mv, decide_true, Bool.true_or, Bool.and_true]
   cases iV (a.getD 0 []) <;> rfl
  ·rw [F8 ba, vo i (by omega) (by omega), lS _ (i - 1) [] (by omega)]
   have a7 : mv a i = Op.bytesLess (a.getD (i - 1) []) (a.getD i []) := by
    unfold mv
    have : decide (i = 0) = false := decide_eq_false ba
    rw [this, Bool.false_or]
   have bh := Nr (a.getD (i - 1) []) (a.getD i [])
   simp only [cond_true, Option.bind_some, a7, ← bh]
   cases iV (a.getD i []) <;> cases Op.bytesLess (a.getD (i - 1) []) (a.getD i []) <;> rfl
end Go.fJ
