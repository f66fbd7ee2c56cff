/- Part of a proof that a law returns true for every input. No condition. -/
import Derived.Test.YtbemmmimelklkaaGreatUD14
namespace Go.eR
open Go Go.c5
set_option linter.unusedSimpArgs false
theorem Pd (a b : List UInt8) : (!(Op.bytesLess a b)) = (Op.bytesLess b a || b == a) := by
 induction a generalizing b with
 | nil => cases b <;> simp [Op.bytesLess]
 | cons x a ih =>
   cases b with
   | nil => simp [Op.bytesLess]
   | cons y b =>
     simp only [Op.bytesLess]
     have := ih b
     by_cases af : x < y
     ·have ai : ¬ y < x := fun h => by have := UInt8.lt_asymm af h; exact this
      have aN : y ≠ x := fun h => by subst h; exact absurd af (UInt8.lt_irrefl _)
      simp [af, ai, aN]
     ·by_cases ai : y < x
      ·have aN : x ≠ y := fun h => by subst h; exact absurd ai (UInt8.lt_irrefl _)
       simp [af, ai, aN]
      ·have aN : x = y := by
        have a1 := UInt8.not_lt.1 af
        have bh := UInt8.not_lt.1 ai
        exact UInt8.le_antisymm bh a1
       subst aN
       simp [af, this]
theorem awB (a : List UInt8) : Op.bytesLess a a = false := by
 have := Pd a a
 cases h : Op.bytesLess a a with
 | false => rfl
 | true => rw [h] at this; simp at this
def i3 (s : List UInt8) : Bool := ke s && !(s == ([116, 97, 117] : List UInt8))
theorem Pe (s : List UInt8) : sN s = some (i3 s) := by unfold sN; rw [Hv]; rfl
theorem DG (s : List UInt8) (ah : s.length ≤ 1048576) : qg s = some (i3 s) := O7 s ah
theorem awC {β : Type} {l : Nat → Int → Option β} {n : Nat} (p : Nat → Bool) (o0 bad : Option β) (bc : ∀ m, l (m + 1) (n : Int) = o0)
  (ah : ∀ i, i < n → ∀ m, l (m + 1) (i : Int) = cond (p i) (l m ((i + 1 : Nat) : Int)) bad) (kg : Nat) (ao : kg ≤ n) : lim (fun m => l m (kg : Int)) = cond ((List.range' kg (n - kg)).all p) o0 bad := by
 refine hP (n + 1) fun m hm => ?_
 refine up (fun i => cond ((List.range' i (n - i)).all p) o0 bad) (fun m => ?_) (fun i ao m ih => ?_) kg ao m (by omega)
 ·rw [bc]; simp
 ·rw [ah i ao, ih, show n - i = (n - (i + 1)) + 1 by omega, List.range'_succ]
  cases aA : p i <;> simp [aA]
def mN (a : List (List UInt8)) (i : Nat) : Bool := decide (i = 0) || Op.bytesLess (a.getD (i - 1) []) (a.getD i [])
def pK (a : List (List UInt8)) : Bool := decide (a.length ≤ 12) && (fJ (fun i => i3 (a.getD i [])) a.length && fJ (mN a) a.length)
theorem Pf (a : List (List UInt8)) (h : a.length ≤ 1048576) : x9 a = some (pK a) := by
 unfold x9 pK
 by_cases hl : 12 < a.length
 ·have d1 : decide ((12 : Int) < (a.length : Int)) = true := decide_eq_true (by omega)
  have d2 : decide (a.length ≤ 12) = false := decide_eq_false (by omega)
  rw [d1, d2]; rfl
 ·have d1 : decide ((12 : Int) < (a.length : Int)) = false := decide_eq_false (by omega)
  have d2 : decide (a.length ≤ 12) = true := decide_eq_true (by omega)
  have HC : BF a = some (fJ (fun i => i3 (a.getD i [])) a.length) := by
   unfold BF
   refine Dy (l := fun m i => sO a m i) _ (fun m => ?_) (fun i ao m => ?_)
   ·simp only [sO, BE]
    rw [fa (Nat.le_refl _)]; rfl
   ·simp only [sO, BE]
    rw [fB ao, l9 _ i [] ao, fA i _ ao (by omega)]
    simp only [cond_true, Option.bind_some, Pe]
    cases i3 (a.getD i []) <;> rfl
  rw [d1, d2, HC]
  simp only [cond_false, Option.bind_some, Bool.true_and]
  cases fJ (fun i => i3 (a.getD i [])) a.length
  ·rfl
  ·simp only [Bool.not_true, cond_false, Bool.true_and]
   by_cases bc : a.length = 0
   ·rw [hP (x := some true) 1 (fun m hm => by
     obtain ⟨k, rfl⟩ : ∃ k, m = k + 1 := ⟨m - 1, by omega⟩
     simp only [m9, x8]
     rw [bc]; rfl)]
    rw [bc]; rfl
   ·have key := awC (l := fun m i => m9 a m i) (n := a.length) (fun i => decide (i = 0) || Op.bytesLess (a.getD (i - 1) []) (a.getD i [])) (some true) (some false)
    have bY : m9 a = m9 a := rfl
    have : ∀ i, 1 ≤ i → i ≤ a.length → ∀ m, a.length - i < m → m9 a m (i : Int) = cond ((List.range' i (a.length - i)).all (mN a)) (some true) (some false) := by
     intro i af ai
     refine down a.length (P := fun i => 1 ≤ i → ∀ m, a.length - i < m → m9 a m (i : Int) = cond ((List.range' i (a.length - i)).all (mN a)) (some true) (some false)) ?_ ?_ i ai af
     ·intro _ m hm
      obtain ⟨k, rfl⟩ : ∃ k, m = k + 1 := ⟨m - 1, by omega⟩
      simp only [m9, x8]
      rw [fa (Nat.le_refl _)]; simp
     ·intro i ao ih af m hm
      obtain ⟨k, rfl⟩ : ∃ k, m = k + 1 := ⟨m - 1, by omega⟩
      simp only [m9, x8]
      rw [fB ao, zn i (by omega) (by omega), l9 _ (i - 1) [] (by omega), l9 _ i [] ao, fA i _ ao (by omega), ih (by omega) k (by omega), show a.length - i = (a.length - (i + 1)) + 1 by omega, List.range'_succ]
      have bb : mN a i = Op.bytesLess (a.getD (i - 1) []) (a.getD i []) := by
       unfold mN
       have : decide (i = 0) = false := decide_eq_false (by omega)
       rw [this, Bool.false_or]
      simp only [cond_true, Option.bind_some, List.all_cons, bb]
      cases Op.bytesLess (a.getD (i - 1) []) (a.getD i []) <;> rfl
    have HF := hP (f := fun m => m9 a m 1) (a.length + 1) (fun m hm => this 1 (by omega) (by omega) m (by omega))
    rw [HF]
    have e : fJ (mN a) a.length = (List.range' 1 (a.length - 1)).all (mN a) := by
     unfold fJ
     rw [List.range_eq_range', show a.length = (a.length - 1) + 1 by omega, List.range'_succ]
     simp [mN]
    rw [e]
    cases (List.range' 1 (a.length - 1)).all (mN a) <;> rfl
theorem awD {p q : Nat → Bool} {n : Nat} : (fJ p n && fJ q n) = fJ (fun i => p i && q i) n := qE.symm
theorem Pg (a : List (List UInt8)) (h : a.length ≤ 1048576) (ah : ∀ s ∈ a, s.length ≤ 1048576) : yo a = some (pK a) := by
 unfold yo pK
 rw [awD]
 rw [tH (l := fun m i => sX a m i) (n := a.length) (fun i => i3 (a.getD i []) && mN a i) (some (decide ((a.length : Int) ≤ 12))) (some false)]
 ·have e : decide ((a.length : Int) ≤ 12) = decide (a.length ≤ 12) := decide_eq_decide.2 (by omega)
  rw [e]
  cases fJ (fun i => i3 (a.getD i []) && mN a i) a.length <;> cases decide (a.length ≤ 12) <;> rfl
 ·intro m
  simp only [sX, Ck]
  rw [fa (Nat.le_refl _)]; rfl
 ·intro i ao m
  simp only [sX, Ck]
  have hm : (a.getD i []).length ≤ 1048576 := by
   have : a.getD i [] = a[i] := by simp [List.getD, ao]
   rw [this]; exact ah _ (List.getElem_mem ao)
  rw [fB ao, l9 _ i [] ao, fA i _ ao (by omega)]
  simp only [cond_true, Option.bind_some, DG _ hm]
  by_cases bc : i = 0
  ·subst bc
   rw [tz]
   simp only [cond_false, mN, decide_true, Bool.true_or, Bool.and_true]
   cases i3 (a.getD 0 []) <;> rfl
  ·rw [Ht bc, zn i (by omega) (by omega), l9 _ (i - 1) [] (by omega)]
   have bb : mN a i = Op.bytesLess (a.getD (i - 1) []) (a.getD i []) := by
    unfold mN
    have : decide (i = 0) = false := decide_eq_false bc
    rw [this, Bool.false_or]
   have bs := Pd (a.getD (i - 1) []) (a.getD i [])
   simp only [cond_true, Option.bind_some, bb, ← bs]
   cases i3 (a.getD i []) <;> cases Op.bytesLess (a.getD (i - 1) []) (a.getD i []) <;> rfl
end Go.eR
