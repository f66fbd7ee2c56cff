/- Part of a proof that a law returns true for every input. No condition. -/
import Derived.Test.YtjedocbdhlppdaaUG
namespace Go.fi
open Go Go.b7
theorem Bl {α : Type} (d : List α) (x : α) (r : List α) : cE (d ++ x :: r) (d.length : Int) = some x := by
 rw [mL _ _ (by simp)]; simp
theorem NB {α : Type} (d : List α) (x y : α) (r : List α) : List.set (d ++ x :: r) (Int.toNat (d.length : Int)) y = d ++ y :: r := by
 simp
theorem Pr {k : Int} (h : 0 ≤ k) : decide (k < 0) = false := by simp; omega
theorem Bm {α : Type} (d : List α) (x : α) (r : List α) : decide ((d.length : Int) < ((d ++ x :: r).length : Int)) = true := by simp; omega
theorem Bn {α : Type} {d : List α} (h : d.length ≤ 1099511627776) : IntKind.i64.wrap ((d.length : Int) + 1) = ((d.length + 1 : Nat) : Int) := by rw [eT _ (by omega)]; omega
theorem Bo {α : Type} (f : α → Nat) : ∀ a : List α, eD (fun x => 64 * (f x + 1)) a = 64 * hb f a
 | [] => rfl
 | x :: r => by
   have := Bo f r
   unfold hb at this ⊢
   simp only [eD, List.length_cons]; omega
theorem NC {α : Type} (n : Nat) : ∀ a : List α, eD (fun _ => n) a = n * a.length
 | [] => rfl
 | x :: r => by simp only [eD, NC n r, List.length_cons, Nat.mul_add]; omega
theorem Ps {α : Type} {l : Nat → List α → Int → Int → Option (Int × List α)} (w : α → Nat) (bz : ∀ m (v : List α) k, l (m + 1) v k (v.length : Int) = some (k, v))
  (R : ∀ x (k : Int), 0 ≤ k → k + w x ≤ 1099511627776 → ∃ bW c, c ≤ w x ∧ ∀ m (d r : List α), d.length ≤ 1099511627776 → l (m + 1) (d ++ x :: r) k (d.length : Int) = l m (d ++ bW :: r) (k + (c : Nat)) ((d.length + 1 : Nat) : Int))
  (a : List α) (k : Int) (ah : 0 ≤ k) (hl : a.length ≤ 1099511627776) (J : k + eD w a ≤ 1099511627776) : ∃ bK c, c ≤ eD w a ∧ eo (fun n => l n a k 0) = some (k + (c : Nat), bK) := by
 have key : ∀ (r : List α) (k : Int), 0 ≤ k → k + eD w r ≤ 1099511627776 → ∃ e4 c, c ≤ eD w r ∧ ∀ (d : List α) (m : Nat), d.length + r.length ≤ 1099511627776 → r.length < m → l m (d ++ r) k (d.length : Int) = some (k + (c : Nat), d ++ e4) := by
  intro r
  induction r with
  | nil =>
    intro k _ _
    refine ⟨[], 0, Nat.le_refl _, fun d m _ hm => ?_⟩
    obtain ⟨m, rfl⟩ : ∃ ay, m = ay + 1 := ⟨m - 1, by omega⟩
    rw [List.append_nil, bz]; simp
  | cons x r ih =>
    intro k U aa
    simp only [eD] at aa
    obtain ⟨bW, c, bA, bG⟩ := R x k U (by omega)
    obtain ⟨e4, rX, aE, aI⟩ := ih (k + c) (by omega) (by omega)
    refine ⟨bW :: e4, c + rX, by simp only [eD]; omega, fun d m ab hm => ?_⟩
    simp only [List.length_cons] at ab hm
    obtain ⟨m, rfl⟩ : ∃ ay, m = ay + 1 := ⟨m - 1, by omega⟩
    rw [bG m d r (by omega)]
    have := aI (d ++ [bW]) m (by simp only [List.length_append, List.length_cons, List.length_nil]; omega) (by omega)
    simp only [List.length_append, List.length_cons, List.length_nil, List.append_assoc, List.cons_append, List.nil_append, Nat.zero_add] at this
    rw [this]
    simp only [Option.some.injEq, Prod.mk.injEq, and_true]
    omega
 obtain ⟨bK, c, aE, aI⟩ := key a k ah J
 refine ⟨bK, c, aE, i1 (a.length + 1) fun m hm => ?_⟩
 have := aI [] m (by simpa using hl) (by omega)
 simpa using this
theorem ND {α : Type} {l : Nat → List α → Int → Int → Option (Int × List α)} {hl : List α → Nat → Int → Int → Option Int} (w : α → Nat) (bz : ∀ m (v : List α) k, l (m + 1) v k (v.length : Int) = some (k, v))
  (g0 : ∀ (a : List α) m k, hl a (m + 1) k (a.length : Int) = some k)
  (R : ∀ x (k : Int), 0 ≤ k → k + w x ≤ 1099511627776 → ∃ bW c, c ≤ w x ∧ ∀ m (d r : List α), d.length ≤ 1099511627776 → l (m + 1) (d ++ x :: r) k (d.length : Int) = l m (d ++ bW :: r) (k + (c : Nat)) ((d.length + 1 : Nat) : Int) ∧
   hl (d ++ bW :: r) (m + 1) k (d.length : Int) = hl (d ++ bW :: r) m (k + (c : Nat)) ((d.length + 1 : Nat) : Int))
  (a : List α) (k : Int) (ah : 0 ≤ k) (Bp : a.length ≤ 1099511627776) (J : k + eD w a ≤ 1099511627776) : ∃ bK c, c ≤ eD w a ∧ eo (fun n => l n a k 0) = some (k + (c : Nat), bK) ∧ eo (fun n => hl bK n k 0) = some (k + (c : Nat)) := by
 have key : ∀ (r : List α) (k : Int), 0 ≤ k → k + eD w r ≤ 1099511627776 → ∃ e4 c, c ≤ eD w r ∧ e4.length = r.length ∧ ∀ (d : List α) (m : Nat), d.length + r.length ≤ 1099511627776 → r.length < m → l m (d ++ r) k (d.length : Int) = some (k + (c : Nat), d ++ e4) ∧
   hl (d ++ e4) m k (d.length : Int) = some (k + (c : Nat)) := by
  intro r
  induction r with
  | nil =>
    intro k _ _
    refine ⟨[], 0, Nat.le_refl _, rfl, fun d m _ hm => ?_⟩
    obtain ⟨m, rfl⟩ : ∃ ay, m = ay + 1 := ⟨m - 1, by omega⟩
    rw [List.append_nil, bz, g0]; simp
  | cons x r ih =>
    intro k U aa
    simp only [eD] at aa
    obtain ⟨bW, c, bA, bG⟩ := R x k U (by omega)
    obtain ⟨e4, rX, aE, bg, aI⟩ := ih (k + c) (by omega) (by omega)
    refine ⟨bW :: e4, c + rX, by simp only [eD]; omega, by simp only [List.length_cons, bg], fun d m ab hm => ?_⟩
    simp only [List.length_cons] at ab hm
    obtain ⟨m, rfl⟩ : ∃ ay, m = ay + 1 := ⟨m - 1, by omega⟩
    rw [(bG m d r (by omega)).1, (bG m d e4 (by omega)).2]
    have := aI (d ++ [bW]) m (by simp only [List.length_append, List.length_cons, List.length_nil]; omega) (by omega)
    simp only [List.length_append, List.length_cons, List.length_nil, List.append_assoc, List.cons_append, List.nil_append, Nat.zero_add] at this
    rw [this.1, this.2]
    simp only [Option.some.injEq, Prod.mk.injEq, and_true]
    exact ⟨by omega, by omega⟩
 obtain ⟨bK, c, aE, bg, aI⟩ := key a k ah J
 refine ⟨bK, c, aE, i1 (a.length + 1) fun m hm => ?_, i1 (a.length + 1) fun m hm => ?_⟩
 ·have := (aI [] m (by simpa using Bp) (by omega)).1
  simpa using this
 ·have := (aI [] m (by simpa using Bp) (by omega)).2
  simpa using this
end Go.fi
