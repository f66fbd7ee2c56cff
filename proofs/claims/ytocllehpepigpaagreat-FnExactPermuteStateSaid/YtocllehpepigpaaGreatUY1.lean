/- Part of a proof that a law returns true for every input. No condition. -/
import Derived.Test.YtocllehpepigpaaGreatUO
import Derived.Test.YtocllehpepigpaaGreatUD14
namespace Go.e1
open Go Go.dg
set_option linter.unusedSimpArgs false
def jy (s : List UInt8) : Bool := kO s && !(s == ([116, 97, 117] : List UInt8))
theorem Qg (s : List UInt8) : te s = some (jy s) := by unfold te; rw [Ib]; rfl
theorem D4 (s : List UInt8) (af : s.length ≤ 1048576) : qH s = some (jy s) := P8 s af
theorem aAn {β : Type} {l : Nat → Int → Option β} {n : Nat} (p : Nat → Bool) (pz bad : Option β) (bf : ∀ m, l (m + 1) (n : Int) = pz)
  (af : ∀ i, i < n → ∀ m, l (m + 1) (i : Int) = cond (p i) (l m ((i + 1 : Nat) : Int)) bad) (kR : Nat) (au : kR ≤ n) : lim (fun m => l m (kR : Int)) = cond ((List.range' kR (n - kR)).all p) pz bad := by
 refine i1 (n + 1) fun m hm => ?_
 refine up (fun i => cond ((List.range' i (n - i)).all p) pz bad) (fun m => ?_) (fun i au m ih => ?_) kR au m (by omega)
 ·rw [bf]; simp
 ·rw [af i au, ih, show n - i = (n - (i + 1)) + 1 by omega, List.range'_succ]
  cases az : p i <;> simp [az]
def nf (a : List (List UInt8)) (i : Nat) : Bool := decide (i = 0) || Op.bytesLess (a.getD (i - 1) []) (a.getD i [])
def qc (a : List (List UInt8)) : Bool := decide (a.length ≤ 12) && (fL (fun i => jy (a.getD i [])) a.length && fL (nf a) a.length)
theorem Qh (a : List (List UInt8)) (h : a.length ≤ 1048576) : yJ a = some (qc a) := by
 unfold yJ qc
 by_cases hl : 12 < a.length
 ·have d1 : decide ((12 : Int) < (a.length : Int)) = true := decide_eq_true (by omega)
  have d2 : decide (a.length ≤ 12) = false := decide_eq_false (by omega)
  rw [d1, d2]; rfl
 ·have d1 : decide ((12 : Int) < (a.length : Int)) = false := decide_eq_false (by omega)
  have d2 : decide (a.length ≤ 12) = true := decide_eq_true (by omega)
  have Ik : B3 a = some (fL (fun i => jy (a.getD i [])) a.length) := by
   unfold B3
   refine zM (l := fun m i => tf a m i) _ (fun m => ?_) (fun i au m => ?_)
   ·simp only [tf, B2]
    rw [fD (Nat.le_refl _)]; rfl
   ·simp only [tf, B2]
    rw [gT au, lV _ i [] au, gS i _ au (by omega)]
    simp only [cond_true, Option.bind_some, Qg]
    cases jy (a.getD i []) <;> rfl
  rw [d1, d2, Ik]
  simp only [cond_false, Option.bind_some, Bool.true_and]
  cases fL (fun i => jy (a.getD i [])) a.length
  ·rfl
  ·simp only [Bool.not_true, cond_false, Bool.true_and]
   by_cases bf : a.length = 0
   ·rw [i1 (x := some true) 1 (fun m hm => by
     obtain ⟨k, rfl⟩ : ∃ k, m = k + 1 := ⟨m - 1, by omega⟩
     simp only [nF, yI]
     rw [bf]; rfl)]
    rw [bf]; rfl
   ·have key := aAn (l := fun m i => nF a m i) (n := a.length) (fun i => decide (i = 0) || Op.bytesLess (a.getD (i - 1) []) (a.getD i [])) (some true) (some false)
    have b8 : nF a = nF a := rfl
    have : ∀ i, 1 ≤ i → i ≤ a.length → ∀ m, a.length - i < m → nF a m (i : Int) = cond ((List.range' i (a.length - i)).all (nf a)) (some true) (some false) := by
     intro i ae ah
     refine down a.length (P := fun i => 1 ≤ i → ∀ m, a.length - i < m → nF a m (i : Int) = cond ((List.range' i (a.length - i)).all (nf a)) (some true) (some false)) ?_ ?_ i ah ae
     ·intro _ m hm
      obtain ⟨k, rfl⟩ : ∃ k, m = k + 1 := ⟨m - 1, by omega⟩
      simp only [nF, yI]
      rw [fD (Nat.le_refl _)]; simp
     ·intro i au ih ae m hm
      obtain ⟨k, rfl⟩ : ∃ k, m = k + 1 := ⟨m - 1, by omega⟩
      simp only [nF, yI]
      rw [gT au, zN i (by omega) (by omega), lV _ (i - 1) [] (by omega), lV _ i [] au, gS i _ au (by omega), ih (by omega) k (by omega), show a.length - i = (a.length - (i + 1)) + 1 by omega, List.range'_succ]
      have aZ : nf a i = Op.bytesLess (a.getD (i - 1) []) (a.getD i []) := by
       unfold nf
       have : decide (i = 0) = false := decide_eq_false (by omega)
       rw [this, Bool.false_or]
      simp only [cond_true, Option.bind_some, List.all_cons, aZ]
      cases Op.bytesLess (a.getD (i - 1) []) (a.getD i []) <;> rfl
    have Ip := i1 (f := fun m => nF a m 1) (a.length + 1) (fun m hm => this 1 (by omega) (by omega) m (by omega))
    rw [Ip]
    have e : fL (nf a) a.length = (List.range' 1 (a.length - 1)).all (nf a) := by
     unfold fL
     rw [List.range_eq_range', show a.length = (a.length - 1) + 1 by omega, List.range'_succ]
     simp [nf]
    rw [e]
    cases (List.range' 1 (a.length - 1)).all (nf a) <;> rfl
theorem aAo {p q : Nat → Bool} {n : Nat} : (fL p n && fL q n) = fL (fun i => p i && q i) n := q8.symm
theorem Qi (a : List (List UInt8)) (h : a.length ≤ 1048576) (af : ∀ s ∈ a, s.length ≤ 1048576) : y0 a = some (qc a) := by
 unfold y0 qc
 rw [aAo]
 rw [ur (l := fun m i => tp a m i) (n := a.length) (fun i => jy (a.getD i []) && nf a i) (some (decide ((a.length : Int) ≤ 12))) (some false)]
 ·have e : decide ((a.length : Int) ≤ 12) = decide (a.length ≤ 12) := decide_eq_decide.2 (by omega)
  rw [e]
  cases fL (fun i => jy (a.getD i []) && nf a i) a.length <;> cases decide (a.length ≤ 12) <;> rfl
 ·intro m
  simp only [tp, CB]
  rw [fD (Nat.le_refl _)]; rfl
 ·intro i au m
  simp only [tp, CB]
  have hm : (a.getD i []).length ≤ 1048576 := by
   have : a.getD i [] = a[i] := by simp [List.getD, au]
   rw [this]; exact af _ (List.getElem_mem au)
  rw [gT au, lV _ i [] au, gS i _ au (by omega)]
  simp only [cond_true, Option.bind_some, D4 _ hm]
  by_cases bf : i = 0
  ·subst bf
   rw [ui]
   simp only [cond_false, nf, decide_true, Bool.true_or, Bool.and_true]
   cases jy (a.getD 0 []) <;> rfl
  ·rw [H6 bf, zN i (by omega) (by omega), lV _ (i - 1) [] (by omega)]
   have aZ : nf a i = Op.bytesLess (a.getD (i - 1) []) (a.getD i []) := by
    unfold nf
    have : decide (i = 0) = false := decide_eq_false bf
    rw [this, Bool.false_or]
   have bo := Qf (a.getD (i - 1) []) (a.getD i [])
   simp only [cond_true, Option.bind_some, aZ, ← bo]
   cases jy (a.getD i []) <;> cases Op.bytesLess (a.getD (i - 1) []) (a.getD i []) <;> rfl
end Go.e1
