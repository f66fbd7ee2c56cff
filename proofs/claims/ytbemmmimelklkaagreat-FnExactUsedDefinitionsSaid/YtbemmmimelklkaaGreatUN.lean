/- Part of a proof that a law returns true for every input. No condition. -/
import Derived.Test.YtbemmmimelklkaaGreatUG
namespace Go.eR
open Go Go.c5
theorem qu {α : Type} (d : List α) (x : α) (r : List α) : bQ (d ++ x :: r) (d.length : Int) = some x := by
 rw [gx _ _ (by simp)]; simp
theorem rH {α : Type} (d : List α) (x y : α) (r : List α) : List.set (d ++ x :: r) (Int.toNat (d.length : Int)) y = d ++ y :: r := by
 simp
theorem OA {k : Int} (h : 0 ≤ k) : decide (k < 0) = false := by simp; omega
theorem qv {α : Type} (d : List α) (x : α) (r : List α) : decide ((d.length : Int) < ((d ++ x :: r).length : Int)) = true := by simp; omega
theorem qw {α : Type} {d : List α} (h : d.length ≤ 1099511627776) : IntKind.i64.wrap ((d.length : Int) + 1) = ((d.length + 1 : Nat) : Int) := by rw [fU _ (by omega)]; omega
theorem tB {α : Type} (f : α → Nat) : ∀ a : List α, g4 (fun x => 64 * (f x + 1)) a = 64 * dS f a
 | [] => rfl
 | x :: r => by
   have := tB f r
   unfold dS at this ⊢
   simp only [g4, List.length_cons]; omega
theorem Hu {α : Type} (n : Nat) : ∀ a : List α, g4 (fun _ => n) a = n * a.length
 | [] => rfl
 | x :: r => by simp only [g4, Hu n r, List.length_cons, Nat.mul_add]; omega
theorem tC {α : Type} {l : Nat → List α → Int → Int → Option (Int × List α)} (w : α → Nat) (bc : ∀ m (v : List α) k, l (m + 1) v k (v.length : Int) = some (k, v))
  (ah : ∀ x (k : Int), 0 ≤ k → k + w x ≤ 1099511627776 → ∃ cQ c, c ≤ w x ∧ ∀ m (d r : List α), d.length ≤ 1099511627776 → l (m + 1) (d ++ x :: r) k (d.length : Int) = l m (d ++ cQ :: r) (k + (c : Nat)) ((d.length + 1 : Nat) : Int))
  (a : List α) (k : Int) (aD : 0 ≤ k) (hl : a.length ≤ 1099511627776) (ad : k + g4 w a ≤ 1099511627776) : ∃ cY c, c ≤ g4 w a ∧ lim (fun n => l n a k 0) = some (k + (c : Nat), cY) := by
 have key : ∀ (r : List α) (k : Int), 0 ≤ k → k + g4 w r ≤ 1099511627776 → ∃ j5 c, c ≤ g4 w r ∧ ∀ (d : List α) (m : Nat), d.length + r.length ≤ 1099511627776 → r.length < m → l m (d ++ r) k (d.length : Int) = some (k + (c : Nat), d ++ j5) := by
  intro r
  induction r with
  | nil =>
    intro k _ _
    refine ⟨[], 0, Nat.le_refl _, fun d m _ hm => ?_⟩
    obtain ⟨m, rfl⟩ : ∃ j, m = j + 1 := ⟨m - 1, by omega⟩
    rw [List.append_nil, bc]; simp
  | cons x r ih =>
    intro k af ai
    simp only [g4] at ai
    obtain ⟨cQ, c, cH, cI⟩ := ah x k af (by omega)
    obtain ⟨j5, wX, a1, bh⟩ := ih (k + c) (by omega) (by omega)
    refine ⟨cQ :: j5, c + wX, by simp only [g4]; omega, fun d m ak hm => ?_⟩
    simp only [List.length_cons] at ak hm
    obtain ⟨m, rfl⟩ : ∃ j, m = j + 1 := ⟨m - 1, by omega⟩
    rw [cI m d r (by omega)]
    have := bh (d ++ [cQ]) m (by simp only [List.length_append, List.length_cons, List.length_nil]; omega) (by omega)
    simp only [List.length_append, List.length_cons, List.length_nil, List.append_assoc, List.cons_append, List.nil_append, Nat.zero_add] at this
    rw [this]
    simp only [Option.some.injEq, Prod.mk.injEq, and_true]
    omega
 obtain ⟨cY, c, a1, bh⟩ := key a k aD ad
 refine ⟨cY, c, a1, hP (a.length + 1) fun m hm => ?_⟩
 have := bh [] m (by simpa using hl) (by omega)
 simpa using this
theorem au7 {α : Type} {l : Nat → List α → Int → Int → Option (Int × List α)} {hl : List α → Nat → Int → Int → Option Int} (w : α → Nat) (bc : ∀ m (v : List α) k, l (m + 1) v k (v.length : Int) = some (k, v))
  (hG : ∀ (a : List α) m k, hl a (m + 1) k (a.length : Int) = some k)
  (ah : ∀ x (k : Int), 0 ≤ k → k + w x ≤ 1099511627776 → ∃ cQ c, c ≤ w x ∧ ∀ m (d r : List α), d.length ≤ 1099511627776 → l (m + 1) (d ++ x :: r) k (d.length : Int) = l m (d ++ cQ :: r) (k + (c : Nat)) ((d.length + 1 : Nat) : Int) ∧
   hl (d ++ cQ :: r) (m + 1) k (d.length : Int) = hl (d ++ cQ :: r) m (k + (c : Nat)) ((d.length + 1 : Nat) : Int))
  (a : List α) (k : Int) (aD : 0 ≤ k) (Dz : a.length ≤ 1099511627776) (ad : k + g4 w a ≤ 1099511627776) : ∃ cY c, c ≤ g4 w a ∧ lim (fun n => l n a k 0) = some (k + (c : Nat), cY) ∧ lim (fun n => hl cY n k 0) = some (k + (c : Nat)) := by
 have key : ∀ (r : List α) (k : Int), 0 ≤ k → k + g4 w r ≤ 1099511627776 → ∃ j5 c, c ≤ g4 w r ∧ j5.length = r.length ∧ ∀ (d : List α) (m : Nat), d.length + r.length ≤ 1099511627776 → r.length < m → l m (d ++ r) k (d.length : Int) = some (k + (c : Nat), d ++ j5) ∧
   hl (d ++ j5) m k (d.length : Int) = some (k + (c : Nat)) := by
  intro r
  induction r with
  | nil =>
    intro k _ _
    refine ⟨[], 0, Nat.le_refl _, rfl, fun d m _ hm => ?_⟩
    obtain ⟨m, rfl⟩ : ∃ j, m = j + 1 := ⟨m - 1, by omega⟩
    rw [List.append_nil, bc, hG]; simp
  | cons x r ih =>
    intro k af ai
    simp only [g4] at ai
    obtain ⟨cQ, c, cH, cI⟩ := ah x k af (by omega)
    obtain ⟨j5, wX, a1, a8, bh⟩ := ih (k + c) (by omega) (by omega)
    refine ⟨cQ :: j5, c + wX, by simp only [g4]; omega, by simp only [List.length_cons, a8], fun d m ak hm => ?_⟩
    simp only [List.length_cons] at ak hm
    obtain ⟨m, rfl⟩ : ∃ j, m = j + 1 := ⟨m - 1, by omega⟩
    rw [(cI m d r (by omega)).1, (cI m d j5 (by omega)).2]
    have := bh (d ++ [cQ]) m (by simp only [List.length_append, List.length_cons, List.length_nil]; omega) (by omega)
    simp only [List.length_append, List.length_cons, List.length_nil, List.append_assoc, List.cons_append, List.nil_append, Nat.zero_add] at this
    rw [this.1, this.2]
    simp only [Option.some.injEq, Prod.mk.injEq, and_true]
    exact ⟨by omega, by omega⟩
 obtain ⟨cY, c, a1, a8, bh⟩ := key a k aD ad
 refine ⟨cY, c, a1, hP (a.length + 1) fun m hm => ?_, hP (a.length + 1) fun m hm => ?_⟩
 ·have := (bh [] m (by simpa using Dz) (by omega)).1
  simpa using this
 ·have := (bh [] m (by simpa using Dz) (by omega)).2
  simpa using this
end Go.eR
