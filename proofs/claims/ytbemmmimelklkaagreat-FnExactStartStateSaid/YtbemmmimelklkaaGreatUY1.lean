/- Part of a proof that a law returns true for every input. No condition. -/
import Derived.Test.YtbemmmimelklkaaGreatUD14
namespace Go.f_
open Go Go.dk
set_option linter.unusedSimpArgs false
theorem MY (a b : List UInt8) : (!(Op.bytesLess a b)) = (Op.bytesLess b a || b == a) := by
 induction a generalizing b with
 | nil => cases b <;> simp [Op.bytesLess]
 | cons x a ih =>
   cases b with
   | nil => simp [Op.bytesLess]
   | cons y b =>
     simp only [Op.bytesLess]
     have := ih b
     by_cases ai : x < y
     ·have aj : ¬ y < x := fun h => by have := UInt8.lt_asymm ai h; exact this
      have aQ : y ≠ x := fun h => by subst h; exact absurd ai (UInt8.lt_irrefl _)
      simp [ai, aj, aQ]
     ·by_cases aj : y < x
      ·have aQ : x ≠ y := fun h => by subst h; exact absurd aj (UInt8.lt_irrefl _)
       simp [ai, aj, aQ]
      ·have aQ : x = y := by
        have a4 := UInt8.not_lt.1 ai
        have a_ := UInt8.not_lt.1 aj
        exact UInt8.le_antisymm a_ a4
       subst aQ
       simp [ai, this]
theorem at4 (a : List UInt8) : Op.bytesLess a a = false := by
 have := MY a a
 cases h : Op.bytesLess a a with
 | false => rfl
 | true => rw [h] at this; simp at this
def iR (s : List UInt8) : Bool := j6 s && !(s == ([116, 97, 117] : List UInt8))
theorem MZ (s : List UInt8) : rZ s = some (iR s) := by unfold rZ; rw [FO]; rfl
theorem B8 (s : List UInt8) (ah : s.length ≤ 1048576) : pz s = some (iR s) := MQ s ah
theorem at5 {β : Type} {l : Nat → Int → Option β} {n : Nat} (p : Nat → Bool) (ot bad : Option β) (a9 : ∀ m, l (m + 1) (n : Int) = ot)
  (ah : ∀ i, i < n → ∀ m, l (m + 1) (i : Int) = cond (p i) (l m ((i + 1 : Nat) : Int)) bad) (j8 : Nat) (au : j8 ≤ n) : cV (fun m => l m (j8 : Int)) = cond ((List.range' j8 (n - j8)).all p) ot bad := by
 refine iS (n + 1) fun m hm => ?_
 refine up (fun i => cond ((List.range' i (n - i)).all p) ot bad) (fun m => ?_) (fun i au m ih => ?_) j8 au m (by omega)
 ·rw [a9]; simp
 ·rw [ah i au, ih, show n - i = (n - (i + 1)) + 1 by omega, List.range'_succ]
  cases ax : p i <;> simp [ax]
def mi (a : List (List UInt8)) (i : Nat) : Bool := decide (i = 0) || Op.bytesLess (a.getD (i - 1) []) (a.getD i [])
def o8 (a : List (List UInt8)) : Bool := decide (a.length ≤ 12) && (fI (fun i => iR (a.getD i [])) a.length && fI (mi a) a.length)
theorem M0 (a : List (List UInt8)) (h : a.length ≤ 1048576) : wS a = some (o8 a) := by
 unfold wS o8
 by_cases hl : 12 < a.length
 ·have d1 : decide ((12 : Int) < (a.length : Int)) = true := decide_eq_true (by omega)
  have d2 : decide (a.length ≤ 12) = false := decide_eq_false (by omega)
  rw [d1, d2]; rfl
 ·have d1 : decide ((12 : Int) < (a.length : Int)) = false := decide_eq_false (by omega)
  have d2 : decide (a.length ≤ 12) = true := decide_eq_true (by omega)
  have FW : Ag a = some (fI (fun i => iR (a.getD i [])) a.length) := by
   unfold Ag
   refine BZ (l := fun m i => r0 a m i) _ (fun m => ?_) (fun i au m => ?_)
   ·simp only [r0, Af]
    rw [fH (Nat.le_refl _)]; rfl
   ·simp only [r0, Af]
    rw [gM au, lL _ i [] au, gL i _ au (by omega)]
    simp only [cond_true, Option.bind_some, MZ]
    cases iR (a.getD i []) <;> rfl
  rw [d1, d2, FW]
  simp only [cond_false, Option.bind_some, Bool.true_and]
  cases fI (fun i => iR (a.getD i [])) a.length
  ·rfl
  ·simp only [Bool.not_true, cond_false, Bool.true_and]
   by_cases a9 : a.length = 0
   ·rw [iS (x := some true) 1 (fun m hm => by
     obtain ⟨k, rfl⟩ : ∃ k, m = k + 1 := ⟨m - 1, by omega⟩
     simp only [mG, wR]
     rw [a9]; rfl)]
    rw [a9]; rfl
   ·have key := at5 (l := fun m i => mG a m i) (n := a.length) (fun i => decide (i = 0) || Op.bytesLess (a.getD (i - 1) []) (a.getD i [])) (some true) (some false)
    have b7 : mG a = mG a := rfl
    have : ∀ i, 1 ≤ i → i ≤ a.length → ∀ m, a.length - i < m → mG a m (i : Int) = cond ((List.range' i (a.length - i)).all (mi a)) (some true) (some false) := by
     intro i ai aj
     refine down a.length (P := fun i => 1 ≤ i → ∀ m, a.length - i < m → mG a m (i : Int) = cond ((List.range' i (a.length - i)).all (mi a)) (some true) (some false)) ?_ ?_ i aj ai
     ·intro _ m hm
      obtain ⟨k, rfl⟩ : ∃ k, m = k + 1 := ⟨m - 1, by omega⟩
      simp only [mG, wR]
      rw [fH (Nat.le_refl _)]; simp
     ·intro i au ih ai m hm
      obtain ⟨k, rfl⟩ : ∃ k, m = k + 1 := ⟨m - 1, by omega⟩
      simp only [mG, wR]
      rw [gM au, x8 i (by omega) (by omega), lL _ (i - 1) [] (by omega), lL _ i [] au, gL i _ au (by omega), ih (by omega) k (by omega), show a.length - i = (a.length - (i + 1)) + 1 by omega, List.range'_succ]
      have a7 : mi a i = Op.bytesLess (a.getD (i - 1) []) (a.getD i []) := by
       unfold mi
       have : decide (i = 0) = false := decide_eq_false (by omega)
       rw [this, Bool.false_or]
      simp only [cond_true, Option.bind_some, List.all_cons, a7]
      cases Op.bytesLess (a.getD (i - 1) []) (a.getD i []) <;> rfl
    have FZ := iS (f := fun m => mG a m 1) (a.length + 1) (fun m hm => this 1 (by omega) (by omega) m (by omega))
    rw [FZ]
    have e : fI (mi a) a.length = (List.range' 1 (a.length - 1)).all (mi a) := by
     unfold fI
     rw [List.range_eq_range', show a.length = (a.length - 1) + 1 by omega, List.range'_succ]
     simp [mi]
    rw [e]
    cases (List.range' 1 (a.length - 1)).all (mi a) <;> rfl
theorem at6 {p q : Nat → Bool} {n : Nat} : (fI p n && fI q n) = fI (fun i => p i && q i) n := pR.symm
theorem M1 (a : List (List UInt8)) (h : a.length ≤ 1048576) (ah : ∀ s ∈ a, s.length ≤ 1048576) : w7 a = some (o8 a) := by
 unfold w7 o8
 rw [at6]
 rw [sO (l := fun m i => r8 a m i) (n := a.length) (fun i => iR (a.getD i []) && mi a i) (some (decide ((a.length : Int) ≤ 12))) (some false)]
 ·have e : decide ((a.length : Int) ≤ 12) = decide (a.length ≤ 12) := decide_eq_decide.2 (by omega)
  rw [e]
  cases fI (fun i => iR (a.getD i []) && mi a i) a.length <;> cases decide (a.length ≤ 12) <;> rfl
 ·intro m
  simp only [r8, AS]
  rw [fH (Nat.le_refl _)]; rfl
 ·intro i au m
  simp only [r8, AS]
  have hm : (a.getD i []).length ≤ 1048576 := by
   have : a.getD i [] = a[i] := by simp [List.getD, au]
   rw [this]; exact ah _ (List.getElem_mem au)
  rw [gM au, lL _ i [] au, gL i _ au (by omega)]
  simp only [cond_true, Option.bind_some, B8 _ hm]
  by_cases a9 : i = 0
  ·subst a9
   rw [sI]
   simp only [cond_false, mi, decide_true, Bool.true_or, Bool.and_true]
   cases iR (a.getD 0 []) <;> rfl
  ·rw [FL a9, x8 i (by omega) (by omega), lL _ (i - 1) [] (by omega)]
   have a7 : mi a i = Op.bytesLess (a.getD (i - 1) []) (a.getD i []) := by
    unfold mi
    have : decide (i = 0) = false := decide_eq_false a9
    rw [this, Bool.false_or]
   have bh := MY (a.getD (i - 1) []) (a.getD i [])
   simp only [cond_true, Option.bind_some, a7, ← bh]
   cases iR (a.getD i []) <;> cases Op.bytesLess (a.getD (i - 1) []) (a.getD i []) <;> rfl
end Go.f_
