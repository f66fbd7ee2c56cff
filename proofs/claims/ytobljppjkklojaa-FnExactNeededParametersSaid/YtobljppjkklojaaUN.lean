/- Part of a proof that a law returns true for every input. No condition. -/
import Derived.Test.YtobljppjkklojaaUG
namespace Go.Sh
open Go Go.Fw
theorem getI_mid {α : Type} (d : List α) (x : α) (r : List α) : getI (d ++ x :: r) (d.length : Int) = some x := by
 rw [getI_lt _ _ (by simp)]; simp
theorem set_midI {α : Type} (d : List α) (x y : α) (r : List α) : List.set (d ++ x :: r) (Int.toNat (d.length : Int)) y = d ++ y :: r := by
 simp
theorem dneg {k : Int} (h : 0 ≤ k) : decide (k < 0) = false := by simp; omega
theorem ltM {α : Type} (d : List α) (x : α) (r : List α) : decide ((d.length : Int) < ((d ++ x :: r).length : Int)) = true := by simp; omega
theorem wsM {α : Type} {d : List α} (h : d.length ≤ 1099511627776) : IntKind.i64.wrap ((d.length : Int) + 1) = ((d.length + 1 : Nat) : Int) := by rw [w64 _ (by omega)]; omega
theorem sumS_64 {α : Type} (f : α → Nat) : ∀ a : List α, sumS (fun x => 64 * (f x + 1)) a = 64 * sizeL f a
 | [] => rfl
 | x :: r => by
   have := sumS_64 f r
   unfold sizeL at this ⊢
   simp only [sumS, List.length_cons]; omega
theorem sumS_c {α : Type} (n : Nat) : ∀ a : List α, sumS (fun _ => n) a = n * a.length
 | [] => rfl
 | x :: r => by simp only [sumS, sumS_c n r, List.length_cons, Nat.mul_add]; omega
theorem mark_ex {α : Type} {l : Nat → List α → Int → Int → Option (Int × List α)} (w : α → Nat) (h0 : ∀ m (v : List α) k, l (m + 1) v k (v.length : Int) = some (k, v))
  (hs : ∀ x (k : Int), 0 ≤ k → k + w x ≤ 1099511627776 → ∃ x' c, c ≤ w x ∧ ∀ m (d r : List α), d.length ≤ 1099511627776 → l (m + 1) (d ++ x :: r) k (d.length : Int) = l m (d ++ x' :: r) (k + (c : Nat)) ((d.length + 1 : Nat) : Int))
  (a : List α) (k : Int) (hk : 0 ≤ k) (hl : a.length ≤ 1099511627776) (hb : k + sumS w a ≤ 1099511627776) : ∃ a' c, c ≤ sumS w a ∧ lim (fun n => l n a k 0) = some (k + (c : Nat), a') := by
 have key : ∀ (r : List α) (k : Int), 0 ≤ k → k + sumS w r ≤ 1099511627776 → ∃ r' c, c ≤ sumS w r ∧ ∀ (d : List α) (m : Nat), d.length + r.length ≤ 1099511627776 → r.length < m → l m (d ++ r) k (d.length : Int) = some (k + (c : Nat), d ++ r') := by
  intro r
  induction r with
  | nil =>
    intro k _ _
    refine ⟨[], 0, Nat.le_refl _, fun d m _ hm => ?_⟩
    obtain ⟨m, rfl⟩ : ∃ j, m = j + 1 := ⟨m - 1, by omega⟩
    rw [List.append_nil, h0]; simp
  | cons x r ih =>
    intro k h1 h2
    simp only [sumS] at h2
    obtain ⟨x', c, c1, c2⟩ := hs x k h1 (by omega)
    obtain ⟨r', c', e1, e2⟩ := ih (k + c) (by omega) (by omega)
    refine ⟨x' :: r', c + c', by simp only [sumS]; omega, fun d m hd hm => ?_⟩
    simp only [List.length_cons] at hd hm
    obtain ⟨m, rfl⟩ : ∃ j, m = j + 1 := ⟨m - 1, by omega⟩
    rw [c2 m d r (by omega)]
    have := e2 (d ++ [x']) m (by simp only [List.length_append, List.length_cons, List.length_nil]; omega) (by omega)
    simp only [List.length_append, List.length_cons, List.length_nil, List.append_assoc, List.cons_append, List.nil_append, Nat.zero_add] at this
    rw [this]
    simp only [Option.some.injEq, Prod.mk.injEq, and_true]
    omega
 obtain ⟨a', c, e1, e2⟩ := key a k hk hb
 refine ⟨a', c, e1, lim_of (a.length + 1) fun m hm => ?_⟩
 have := e2 [] m (by simpa using hl) (by omega)
 simpa using this
theorem held_ex {α : Type} {l : Nat → List α → Int → Int → Option (Int × List α)} {hl : List α → Nat → Int → Int → Option Int} (w : α → Nat) (h0 : ∀ m (v : List α) k, l (m + 1) v k (v.length : Int) = some (k, v))
  (g0 : ∀ (a : List α) m k, hl a (m + 1) k (a.length : Int) = some k)
  (hs : ∀ x (k : Int), 0 ≤ k → k + w x ≤ 1099511627776 → ∃ x' c, c ≤ w x ∧ ∀ m (d r : List α), d.length ≤ 1099511627776 → l (m + 1) (d ++ x :: r) k (d.length : Int) = l m (d ++ x' :: r) (k + (c : Nat)) ((d.length + 1 : Nat) : Int) ∧
   hl (d ++ x' :: r) (m + 1) k (d.length : Int) = hl (d ++ x' :: r) m (k + (c : Nat)) ((d.length + 1 : Nat) : Int))
  (a : List α) (k : Int) (hk : 0 ≤ k) (hll : a.length ≤ 1099511627776) (hb : k + sumS w a ≤ 1099511627776) : ∃ a' c, c ≤ sumS w a ∧ lim (fun n => l n a k 0) = some (k + (c : Nat), a') ∧ lim (fun n => hl a' n k 0) = some (k + (c : Nat)) := by
 have key : ∀ (r : List α) (k : Int), 0 ≤ k → k + sumS w r ≤ 1099511627776 → ∃ r' c, c ≤ sumS w r ∧ r'.length = r.length ∧ ∀ (d : List α) (m : Nat), d.length + r.length ≤ 1099511627776 → r.length < m → l m (d ++ r) k (d.length : Int) = some (k + (c : Nat), d ++ r') ∧
   hl (d ++ r') m k (d.length : Int) = some (k + (c : Nat)) := by
  intro r
  induction r with
  | nil =>
    intro k _ _
    refine ⟨[], 0, Nat.le_refl _, rfl, fun d m _ hm => ?_⟩
    obtain ⟨m, rfl⟩ : ∃ j, m = j + 1 := ⟨m - 1, by omega⟩
    rw [List.append_nil, h0, g0]; simp
  | cons x r ih =>
    intro k h1 h2
    simp only [sumS] at h2
    obtain ⟨x', c, c1, c2⟩ := hs x k h1 (by omega)
    obtain ⟨r', c', e1, e3, e2⟩ := ih (k + c) (by omega) (by omega)
    refine ⟨x' :: r', c + c', by simp only [sumS]; omega, by simp only [List.length_cons, e3], fun d m hd hm => ?_⟩
    simp only [List.length_cons] at hd hm
    obtain ⟨m, rfl⟩ : ∃ j, m = j + 1 := ⟨m - 1, by omega⟩
    rw [(c2 m d r (by omega)).1, (c2 m d r' (by omega)).2]
    have := e2 (d ++ [x']) m (by simp only [List.length_append, List.length_cons, List.length_nil]; omega) (by omega)
    simp only [List.length_append, List.length_cons, List.length_nil, List.append_assoc, List.cons_append, List.nil_append, Nat.zero_add] at this
    rw [this.1, this.2]
    simp only [Option.some.injEq, Prod.mk.injEq, and_true]
    exact ⟨by omega, by omega⟩
 obtain ⟨a', c, e1, e3, e2⟩ := key a k hk hb
 refine ⟨a', c, e1, lim_of (a.length + 1) fun m hm => ?_, lim_of (a.length + 1) fun m hm => ?_⟩
 ·have := (e2 [] m (by simpa using hll) (by omega)).1
  simpa using this
 ·have := (e2 [] m (by simpa using hll) (by omega)).2
  simpa using this
end Go.Sh
