/- Part of a proof that a law returns true for every input. No condition. -/
import Derived.Test.YtgpmnlkgmadglaaGreatDoorUG
namespace Go.eR
open Go Go.cY
theorem s0 {α : Type} (d : List α) (x : α) (r : List α) : bP (d ++ x :: r) (d.length : Int) = some x := by
 rw [fp _ _ (by simp)]; simp
theorem xv {α : Type} (d : List α) (x y : α) (r : List α) : List.set (d ++ x :: r) (Int.toNat (d.length : Int)) y = d ++ y :: r := by
 simp
theorem I5 {k : Int} (h : 0 ≤ k) : decide (k < 0) = false := by simp; omega
theorem s3 {α : Type} (d : List α) (x : α) (r : List α) : decide ((d.length : Int) < ((d ++ x :: r).length : Int)) = true := by simp; omega
theorem s4 {α : Type} {d : List α} (h : d.length ≤ 1099511627776) : IntKind.i64.wrap ((d.length : Int) + 1) = ((d.length + 1 : Nat) : Int) := by rw [fW _ (by omega)]; omega
theorem AG {α : Type} (f : α → Nat) : ∀ a : List α, hz (fun x => 64 * (f x + 1)) a = 64 * fK f a
 | [] => rfl
 | x :: r => by
   have := AG f r
   unfold fK at this ⊢
   simp only [hz, List.length_cons]; omega
theorem I6 {α : Type} (n : Nat) : ∀ a : List α, hz (fun _ => n) a = n * a.length
 | [] => rfl
 | x :: r => by simp only [hz, I6 n r, List.length_cons, Nat.mul_add]; omega
theorem Es {α : Type} {l : Nat → List α → Int → Int → Option (Int × List α)} (w : α → Nat) (bn : ∀ m (v : List α) k, l (m + 1) v k (v.length : Int) = some (k, v))
  (ab : ∀ x (k : Int), 0 ≤ k → k + w x ≤ 1099511627776 → ∃ cA c, c ≤ w x ∧ ∀ m (d r : List α), d.length ≤ 1099511627776 → l (m + 1) (d ++ x :: r) k (d.length : Int) = l m (d ++ cA :: r) (k + (c : Nat)) ((d.length + 1 : Nat) : Int))
  (a : List α) (k : Int) (ar : 0 ≤ k) (hl : a.length ≤ 1099511627776) (aa : k + hz w a ≤ 1099511627776) : ∃ cN c, c ≤ hz w a ∧ c2 (fun n => l n a k 0) = some (k + (c : Nat), cN) := by
 have key : ∀ (r : List α) (k : Int), 0 ≤ k → k + hz w r ≤ 1099511627776 → ∃ gU c, c ≤ hz w r ∧ ∀ (d : List α) (m : Nat), d.length + r.length ≤ 1099511627776 → r.length < m → l m (d ++ r) k (d.length : Int) = some (k + (c : Nat), d ++ gU) := by
  intro r
  induction r with
  | nil =>
    intro k _ _
    refine ⟨[], 0, Nat.le_refl _, fun d m _ hm => ?_⟩
    obtain ⟨m, rfl⟩ : ∃ j, m = j + 1 := ⟨m - 1, by omega⟩
    rw [List.append_nil, bn]; simp
  | cons x r ih =>
    intro k af ag
    simp only [hz] at ag
    obtain ⟨cA, c, cv, cw⟩ := ab x k af (by omega)
    obtain ⟨gU, yn, aN, aZ⟩ := ih (k + c) (by omega) (by omega)
    refine ⟨cA :: gU, c + yn, by simp only [hz]; omega, fun d m ai hm => ?_⟩
    simp only [List.length_cons] at ai hm
    obtain ⟨m, rfl⟩ : ∃ j, m = j + 1 := ⟨m - 1, by omega⟩
    rw [cw m d r (by omega)]
    have := aZ (d ++ [cA]) m (by simp only [List.length_append, List.length_cons, List.length_nil]; omega) (by omega)
    simp only [List.length_append, List.length_cons, List.length_nil, List.append_assoc, List.cons_append, List.nil_append, Nat.zero_add] at this
    rw [this]
    simp only [Option.some.injEq, Prod.mk.injEq, and_true]
    omega
 obtain ⟨cN, c, aN, aZ⟩ := key a k ar aa
 refine ⟨cN, c, aN, hE (a.length + 1) fun m hm => ?_⟩
 have := aZ [] m (by simpa using hl) (by omega)
 simpa using this
theorem Qu {α : Type} {l : Nat → List α → Int → Int → Option (Int × List α)} {hl : List α → Nat → Int → Int → Option Int} (w : α → Nat) (bn : ∀ m (v : List α) k, l (m + 1) v k (v.length : Int) = some (k, v))
  (g0 : ∀ (a : List α) m k, hl a (m + 1) k (a.length : Int) = some k)
  (ab : ∀ x (k : Int), 0 ≤ k → k + w x ≤ 1099511627776 → ∃ cA c, c ≤ w x ∧ ∀ m (d r : List α), d.length ≤ 1099511627776 → l (m + 1) (d ++ x :: r) k (d.length : Int) = l m (d ++ cA :: r) (k + (c : Nat)) ((d.length + 1 : Nat) : Int) ∧
   hl (d ++ cA :: r) (m + 1) k (d.length : Int) = hl (d ++ cA :: r) m (k + (c : Nat)) ((d.length + 1 : Nat) : Int))
  (a : List α) (k : Int) (ar : 0 ≤ k) (Qv : a.length ≤ 1099511627776) (aa : k + hz w a ≤ 1099511627776) : ∃ cN c, c ≤ hz w a ∧ c2 (fun n => l n a k 0) = some (k + (c : Nat), cN) ∧ c2 (fun n => hl cN n k 0) = some (k + (c : Nat)) := by
 have key : ∀ (r : List α) (k : Int), 0 ≤ k → k + hz w r ≤ 1099511627776 → ∃ gU c, c ≤ hz w r ∧ gU.length = r.length ∧ ∀ (d : List α) (m : Nat), d.length + r.length ≤ 1099511627776 → r.length < m → l m (d ++ r) k (d.length : Int) = some (k + (c : Nat), d ++ gU) ∧
   hl (d ++ gU) m k (d.length : Int) = some (k + (c : Nat)) := by
  intro r
  induction r with
  | nil =>
    intro k _ _
    refine ⟨[], 0, Nat.le_refl _, rfl, fun d m _ hm => ?_⟩
    obtain ⟨m, rfl⟩ : ∃ j, m = j + 1 := ⟨m - 1, by omega⟩
    rw [List.append_nil, bn, g0]; simp
  | cons x r ih =>
    intro k af ag
    simp only [hz] at ag
    obtain ⟨cA, c, cv, cw⟩ := ab x k af (by omega)
    obtain ⟨gU, yn, aN, aT, aZ⟩ := ih (k + c) (by omega) (by omega)
    refine ⟨cA :: gU, c + yn, by simp only [hz]; omega, by simp only [List.length_cons, aT], fun d m ai hm => ?_⟩
    simp only [List.length_cons] at ai hm
    obtain ⟨m, rfl⟩ : ∃ j, m = j + 1 := ⟨m - 1, by omega⟩
    rw [(cw m d r (by omega)).1, (cw m d gU (by omega)).2]
    have := aZ (d ++ [cA]) m (by simp only [List.length_append, List.length_cons, List.length_nil]; omega) (by omega)
    simp only [List.length_append, List.length_cons, List.length_nil, List.append_assoc, List.cons_append, List.nil_append, Nat.zero_add] at this
    rw [this.1, this.2]
    simp only [Option.some.injEq, Prod.mk.injEq, and_true]
    exact ⟨by omega, by omega⟩
 obtain ⟨cN, c, aN, aT, aZ⟩ := key a k ar aa
 refine ⟨cN, c, aN, hE (a.length + 1) fun m hm => ?_, hE (a.length + 1) fun m hm => ?_⟩
 ·have := (aZ [] m (by simpa using Qv) (by omega)).1
  simpa using this
 ·have := (aZ [] m (by simpa using Qv) (by omega)).2
  simpa using this
end Go.eR
