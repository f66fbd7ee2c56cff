/- Part of a proof that a law returns true for every input. No condition. -/
import Derived.Test.YtbemmmimelklkaaUG
namespace Go.eJ
open Go Go.cB
theorem sH {α : Type} (d : List α) (x : α) (r : List α) : b5 (d ++ x :: r) (d.length : Int) = some x := by
 rw [fa _ _ (by simp)]; simp
theorem vA {α : Type} (d : List α) (x y : α) (r : List α) : List.set (d ++ x :: r) (Int.toNat (d.length : Int)) y = d ++ y :: r := by
 simp
theorem Iw {k : Int} (h : 0 ≤ k) : decide (k < 0) = false := by simp; omega
theorem sI {α : Type} (d : List α) (x : α) (r : List α) : decide ((d.length : Int) < ((d ++ x :: r).length : Int)) = true := by simp; omega
theorem sJ {α : Type} {d : List α} (h : d.length ≤ 1099511627776) : IntKind.i64.wrap ((d.length : Int) + 1) = ((d.length + 1 : Nat) : Int) := by rw [gh _ (by omega)]; omega
theorem vB {α : Type} (f : α → Nat) : ∀ a : List α, e1 (fun x => 64 * (f x + 1)) a = 64 * cT f a
 | [] => rfl
 | x :: r => by
   have := vB f r
   unfold cT at this ⊢
   simp only [e1, List.length_cons]; omega
theorem Ix {α : Type} (n : Nat) : ∀ a : List α, e1 (fun _ => n) a = n * a.length
 | [] => rfl
 | x :: r => by simp only [e1, Ix n r, List.length_cons, Nat.mul_add]; omega
theorem yU {α : Type} {l : Nat → List α → Int → Int → Option (Int × List α)} (w : α → Nat) (bh : ∀ m (v : List α) k, l (m + 1) v k (v.length : Int) = some (k, v))
  (aa : ∀ x (k : Int), 0 ≤ k → k + w x ≤ 1099511627776 → ∃ cx c, c ≤ w x ∧ ∀ m (d r : List α), d.length ≤ 1099511627776 → l (m + 1) (d ++ x :: r) k (d.length : Int) = l m (d ++ cx :: r) (k + (c : Nat)) ((d.length + 1 : Nat) : Int))
  (a : List α) (k : Int) (ay : 0 ≤ k) (hl : a.length ≤ 1099511627776) (U : k + e1 w a ≤ 1099511627776) : ∃ cl c, c ≤ e1 w a ∧ lim (fun n => l n a k 0) = some (k + (c : Nat), cl) := by
 have key : ∀ (r : List α) (k : Int), 0 ≤ k → k + e1 w r ≤ 1099511627776 → ∃ hf c, c ≤ e1 w r ∧ ∀ (d : List α) (m : Nat), d.length + r.length ≤ 1099511627776 → r.length < m → l m (d ++ r) k (d.length : Int) = some (k + (c : Nat), d ++ hf) := by
  intro r
  induction r with
  | nil =>
    intro k _ _
    refine ⟨[], 0, Nat.le_refl _, fun d m _ hm => ?_⟩
    obtain ⟨m, rfl⟩ : ∃ j, m = j + 1 := ⟨m - 1, by omega⟩
    rw [List.append_nil, bh]; simp
  | cons x r ih =>
    intro k ab af
    simp only [e1] at af
    obtain ⟨cx, c, cr, cu⟩ := aa x k ab (by omega)
    obtain ⟨hf, tf, aJ, aP⟩ := ih (k + c) (by omega) (by omega)
    refine ⟨cx :: hf, c + tf, by simp only [e1]; omega, fun d m ah hm => ?_⟩
    simp only [List.length_cons] at ah hm
    obtain ⟨m, rfl⟩ : ∃ j, m = j + 1 := ⟨m - 1, by omega⟩
    rw [cu m d r (by omega)]
    have := aP (d ++ [cx]) m (by simp only [List.length_append, List.length_cons, List.length_nil]; omega) (by omega)
    simp only [List.length_append, List.length_cons, List.length_nil, List.append_assoc, List.cons_append, List.nil_append, Nat.zero_add] at this
    rw [this]
    simp only [Option.some.injEq, Prod.mk.injEq, and_true]
    omega
 obtain ⟨cl, c, aJ, aP⟩ := key a k ay U
 refine ⟨cl, c, aJ, ho (a.length + 1) fun m hm => ?_⟩
 have := aP [] m (by simpa using hl) (by omega)
 simpa using this
theorem afm {α : Type} {l : Nat → List α → Int → Int → Option (Int × List α)} {hl : List α → Nat → Int → Int → Option Int} (w : α → Nat) (bh : ∀ m (v : List α) k, l (m + 1) v k (v.length : Int) = some (k, v))
  (gr : ∀ (a : List α) m k, hl a (m + 1) k (a.length : Int) = some k)
  (aa : ∀ x (k : Int), 0 ≤ k → k + w x ≤ 1099511627776 → ∃ cx c, c ≤ w x ∧ ∀ m (d r : List α), d.length ≤ 1099511627776 → l (m + 1) (d ++ x :: r) k (d.length : Int) = l m (d ++ cx :: r) (k + (c : Nat)) ((d.length + 1 : Nat) : Int) ∧
   hl (d ++ cx :: r) (m + 1) k (d.length : Int) = hl (d ++ cx :: r) m (k + (c : Nat)) ((d.length + 1 : Nat) : Int))
  (a : List α) (k : Int) (ay : 0 ≤ k) (Iy : a.length ≤ 1099511627776) (U : k + e1 w a ≤ 1099511627776) : ∃ cl c, c ≤ e1 w a ∧ lim (fun n => l n a k 0) = some (k + (c : Nat), cl) ∧ lim (fun n => hl cl n k 0) = some (k + (c : Nat)) := by
 have key : ∀ (r : List α) (k : Int), 0 ≤ k → k + e1 w r ≤ 1099511627776 → ∃ hf c, c ≤ e1 w r ∧ hf.length = r.length ∧ ∀ (d : List α) (m : Nat), d.length + r.length ≤ 1099511627776 → r.length < m → l m (d ++ r) k (d.length : Int) = some (k + (c : Nat), d ++ hf) ∧
   hl (d ++ hf) m k (d.length : Int) = some (k + (c : Nat)) := by
  intro r
  induction r with
  | nil =>
    intro k _ _
    refine ⟨[], 0, Nat.le_refl _, rfl, fun d m _ hm => ?_⟩
    obtain ⟨m, rfl⟩ : ∃ j, m = j + 1 := ⟨m - 1, by omega⟩
    rw [List.append_nil, bh, gr]; simp
  | cons x r ih =>
    intro k ab af
    simp only [e1] at af
    obtain ⟨cx, c, cr, cu⟩ := aa x k ab (by omega)
    obtain ⟨hf, tf, aJ, a_, aP⟩ := ih (k + c) (by omega) (by omega)
    refine ⟨cx :: hf, c + tf, by simp only [e1]; omega, by simp only [List.length_cons, a_], fun d m ah hm => ?_⟩
    simp only [List.length_cons] at ah hm
    obtain ⟨m, rfl⟩ : ∃ j, m = j + 1 := ⟨m - 1, by omega⟩
    rw [(cu m d r (by omega)).1, (cu m d hf (by omega)).2]
    have := aP (d ++ [cx]) m (by simp only [List.length_append, List.length_cons, List.length_nil]; omega) (by omega)
    simp only [List.length_append, List.length_cons, List.length_nil, List.append_assoc, List.cons_append, List.nil_append, Nat.zero_add] at this
    rw [this.1, this.2]
    simp only [Option.some.injEq, Prod.mk.injEq, and_true]
    exact ⟨by omega, by omega⟩
 obtain ⟨cl, c, aJ, a_, aP⟩ := key a k ay U
 refine ⟨cl, c, aJ, ho (a.length + 1) fun m hm => ?_, ho (a.length + 1) fun m hm => ?_⟩
 ·have := (aP [] m (by simpa using Iy) (by omega)).1
  simpa using this
 ·have := (aP [] m (by simpa using Iy) (by omega)).2
  simpa using this
end Go.eJ
