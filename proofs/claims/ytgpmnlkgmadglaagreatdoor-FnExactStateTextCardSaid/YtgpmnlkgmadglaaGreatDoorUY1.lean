/- Part of a proof that a law returns true for every input. No condition. -/
import Derived.Test.YtgpmnlkgmadglaaGreatDoorUO
import Derived.Test.YtgpmnlkgmadglaaGreatDoorUD14
namespace Go.eV
open Go Go.c0
set_option linter.unusedSimpArgs false
def jk (s : List UInt8) : Bool := j7 s && !(s == ([116, 97, 117] : List UInt8))
theorem Ot (s : List UInt8) : sk s = some (jk s) := by unfold sk; rw [Gt]; rfl
theorem Cl (s : List UInt8) (ad : s.length ≤ 1048576) : p1 s = some (jk s) := Oh s ad
theorem avR {β : Type} {l : Nat → Int → Option β} {n : Nat} (p : Nat → Bool) (oL bad : Option β) (bc : ∀ m, l (m + 1) (n : Int) = oL)
  (ad : ∀ i, i < n → ∀ m, l (m + 1) (i : Int) = cond (p i) (l m ((i + 1 : Nat) : Int)) bad) (i0 : Nat) (al : i0 ≤ n) : cZ (fun m => l m (i0 : Int)) = cond ((List.range' i0 (n - i0)).all p) oL bad := by
 refine iH (n + 1) fun m hm => ?_
 refine up (fun i => cond ((List.range' i (n - i)).all p) oL bad) (fun m => ?_) (fun i al m ih => ?_) i0 al m (by omega)
 ·rw [bc]; simp
 ·rw [ad i al, ih, show n - i = (n - (i + 1)) + 1 by omega, List.range'_succ]
  cases ar : p i <;> simp [ar]
def mw (a : List (List UInt8)) (i : Nat) : Bool := decide (i = 0) || Op.bytesLess (a.getD (i - 1) []) (a.getD i [])
def pr (a : List (List UInt8)) : Bool := decide (a.length ≤ 12) && (e9 (fun i => jk (a.getD i [])) a.length && e9 (mw a) a.length)
theorem Ou (a : List (List UInt8)) (h : a.length ≤ 1048576) : xl a = some (pr a) := by
 unfold xl pr
 by_cases aR : 12 < a.length
 ·have d1 : decide ((12 : Int) < (a.length : Int)) = true := decide_eq_true (by omega)
  have d2 : decide (a.length ≤ 12) = false := decide_eq_false (by omega)
  rw [d1, d2]; rfl
 ·have d1 : decide ((12 : Int) < (a.length : Int)) = false := decide_eq_false (by omega)
  have d2 : decide (a.length ≤ 12) = true := decide_eq_true (by omega)
  have GA : Ao a = some (e9 (fun i => jk (a.getD i [])) a.length) := by
   unfold Ao
   refine yi (l := fun m i => sl a m i) _ (fun m => ?_) (fun i al m => ?_)
   ·simp only [sl, An]
    rw [gr (Nat.le_refl _)]; rfl
   ·simp only [sl, An]
    rw [gb al, lj _ i [] al, ga i _ al (by omega)]
    simp only [cond_true, Option.bind_some, Ot]
    cases jk (a.getD i []) <;> rfl
  rw [d1, d2, GA]
  simp only [cond_false, Option.bind_some, Bool.true_and]
  cases e9 (fun i => jk (a.getD i [])) a.length
  ·rfl
  ·simp only [Bool.not_true, cond_false, Bool.true_and]
   by_cases bc : a.length = 0
   ·rw [iH (x := some true) 1 (fun m hm => by
     obtain ⟨k, rfl⟩ : ∃ k, m = k + 1 := ⟨m - 1, by omega⟩
     simp only [mO, xk]
     rw [bc]; rfl)]
    rw [bc]; rfl
   ·have key := avR (l := fun m i => mO a m i) (n := a.length) (fun i => decide (i = 0) || Op.bytesLess (a.getD (i - 1) []) (a.getD i [])) (some true) (some false)
    have b6 : mO a = mO a := rfl
    have : ∀ i, 1 ≤ i → i ≤ a.length → ∀ m, a.length - i < m → mO a m (i : Int) = cond ((List.range' i (a.length - i)).all (mw a)) (some true) (some false) := by
     intro i ag ah
     refine down a.length (P := fun i => 1 ≤ i → ∀ m, a.length - i < m → mO a m (i : Int) = cond ((List.range' i (a.length - i)).all (mw a)) (some true) (some false)) ?_ ?_ i ah ag
     ·intro _ m hm
      obtain ⟨k, rfl⟩ : ∃ k, m = k + 1 := ⟨m - 1, by omega⟩
      simp only [mO, xk]
      rw [gr (Nat.le_refl _)]; simp
     ·intro i al ih ag m hm
      obtain ⟨k, rfl⟩ : ∃ k, m = k + 1 := ⟨m - 1, by omega⟩
      simp only [mO, xk]
      rw [gb al, yj i (by omega) (by omega), lj _ (i - 1) [] (by omega), lj _ i [] al, ga i _ al (by omega), ih (by omega) k (by omega), show a.length - i = (a.length - (i + 1)) + 1 by omega, List.range'_succ]
      have aV : mw a i = Op.bytesLess (a.getD (i - 1) []) (a.getD i []) := by
       unfold mw
       have : decide (i = 0) = false := decide_eq_false (by omega)
       rw [this, Bool.false_or]
      simp only [cond_true, Option.bind_some, List.all_cons, aV]
      cases Op.bytesLess (a.getD (i - 1) []) (a.getD i []) <;> rfl
    have GH := iH (f := fun m => mO a m 1) (a.length + 1) (fun m hm => this 1 (by omega) (by omega) m (by omega))
    rw [GH]
    have e : e9 (mw a) a.length = (List.range' 1 (a.length - 1)).all (mw a) := by
     unfold e9
     rw [List.range_eq_range', show a.length = (a.length - 1) + 1 by omega, List.range'_succ]
     simp [mw]
    rw [e]
    cases (List.range' 1 (a.length - 1)).all (mw a) <;> rfl
theorem avS {p q : Nat → Bool} {n : Nat} : (e9 p n && e9 q n) = e9 (fun i => p i && q i) n := qh.symm
theorem Ov (a : List (List UInt8)) (h : a.length ≤ 1048576) (ad : ∀ s ∈ a, s.length ≤ 1048576) : xB a = some (pr a) := by
 unfold xB pr
 rw [avS]
 rw [s5 (l := fun m i => sx a m i) (n := a.length) (fun i => jk (a.getD i []) && mw a i) (some (decide ((a.length : Int) ≤ 12))) (some false)]
 ·have e : decide ((a.length : Int) ≤ 12) = decide (a.length ≤ 12) := decide_eq_decide.2 (by omega)
  rw [e]
  cases e9 (fun i => jk (a.getD i []) && mw a i) a.length <;> cases decide (a.length ≤ 12) <;> rfl
 ·intro m
  simp only [sx, A8]
  rw [gr (Nat.le_refl _)]; rfl
 ·intro i al m
  simp only [sx, A8]
  have hm : (a.getD i []).length ≤ 1048576 := by
   have : a.getD i [] = a[i] := by simp [List.getD, al]
   rw [this]; exact ad _ (List.getElem_mem al)
  rw [gb al, lj _ i [] al, ga i _ al (by omega)]
  simp only [cond_true, Option.bind_some, Cl _ hm]
  by_cases bc : i = 0
  ·subst bc
   rw [sX]
   simp only [cond_false, mw, decide_true, Bool.true_or, Bool.and_true]
   cases jk (a.getD 0 []) <;> rfl
  ·rw [Gs bc, yj i (by omega) (by omega), lj _ (i - 1) [] (by omega)]
   have aV : mw a i = Op.bytesLess (a.getD (i - 1) []) (a.getD i []) := by
    unfold mw
    have : decide (i = 0) = false := decide_eq_false bc
    rw [this, Bool.false_or]
   have bb := Oq (a.getD (i - 1) []) (a.getD i [])
   simp only [cond_true, Option.bind_some, aV, ← bb]
   cases jk (a.getD i []) <;> cases Op.bytesLess (a.getD (i - 1) []) (a.getD i []) <;> rfl
end Go.eV
