/- Part of a proof that a law returns true for every input. No condition. -/
import Derived.Test.YtobljppjkklojaaUT
namespace Go.Sh
open Go Go.Fw

/-! Terms and their trees. -/
def arT (t : impl_Term) : Nat := if t.Kind = 2 then 2 else if t.Kind = 3 then 1 else 0
theorem arT_le (t : impl_Term) : arT t ≤ 2 := by unfold arT; split <;> (try split) <;> omega
theorem arT_val (t : impl_Term) : cond (t.Kind == 2) (some 2) (cond (t.Kind == 3) (some 1) (some 0)) = some (arT t : Int) := by
  unfold arT
  by_cases h2 : t.Kind = 2
  · simp [h2]
  · by_cases h3 : t.Kind = 3
    · simp [h3]
    · have e2 : (t.Kind == 2) = false := by simpa using h2
      have e3 : (t.Kind == 3) = false := by simpa using h3
      rw [e2, e3, if_neg h2, if_neg h3]; rfl
def inR (n lo hi : Int) : Bool := decide (lo ≤ n) && decide (n ≤ hi)
/-- A term for so many variables. -/
def tOk (t : impl_Term) (v : Int) : Bool := cond (t.Kind == 0) (inR t.Value 0 63) (cond (t.Kind == 1) (inR t.Value 0 (v - 1)) (cond (t.Kind == 2) (inR t.Value 0 8) (cond (t.Kind == 3) (t.Value == 0) false)))
/-- So many operands are owed. -/
def walkT (v : Int) : List impl_Term → Nat → Bool
  | [], k => k == 0
  | t :: r, k => !(k == 0) && (tOk t v && walkT v r (k + arT t - 1))
def termsV (e : List impl_Term) (v most : Int) : Bool := decide ((e.length : Int) ≤ most) && walkT v e 1

mutual
def flatE : impl_expr → List impl_Term
  | .mk t a => t :: flatEs a
def flatEs : List impl_expr → List impl_Term
  | [] => []
  | x :: r => flatE x ++ flatEs r
end
mutual
def sizeE : impl_expr → Nat
  | .mk _ a => 1 + sizeEs a
def sizeEs : List impl_expr → Nat
  | [] => 0
  | x :: r => sizeE x + sizeEs r
end
mutual
/-- As many operands as the term asks for. -/
def wfE : impl_expr → Prop
  | .mk t a => a.length = arT t ∧ wfEs a
def wfEs : List impl_expr → Prop
  | [] => True
  | x :: r => wfE x ∧ wfEs r
end
theorem exprEta (x : impl_expr) : impl_expr.mk x.term x.args = x := by cases x; rfl
theorem flatE_cons (x : impl_expr) : flatE x = x.term :: flatEs x.args := by cases x; simp [flatE, impl_expr.term, impl_expr.args]
mutual
theorem flatE_len : ∀ x, (flatE x).length = sizeE x
  | .mk t a => by simp only [flatE, sizeE, List.length_cons, flatEs_len a]; omega
theorem flatEs_len : ∀ a, (flatEs a).length = sizeEs a
  | [] => by simp only [flatEs, sizeEs, List.length_nil]
  | x :: r => by simp only [flatEs, sizeEs, List.length_append, flatE_len x, flatEs_len r]
end
theorem flatEs_append : ∀ a b, flatEs (a ++ b) = flatEs a ++ flatEs b
  | [], b => by simp only [flatEs, List.nil_append]
  | x :: r, b => by simp only [List.cons_append, flatEs, flatEs_append r b, List.append_assoc]
theorem wfEs_append : ∀ a b, wfEs (a ++ b) ↔ wfEs a ∧ wfEs b
  | [], b => by simp [wfEs]
  | x :: r, b => by simp only [List.cons_append, wfEs, wfEs_append r b]; exact ⟨fun ⟨a, b, c⟩ => ⟨⟨a, b⟩, c⟩, fun ⟨⟨a, b⟩, c⟩ => ⟨a, b, c⟩⟩
theorem wfEs_mem : ∀ {a : List impl_expr}, wfEs a → ∀ x ∈ a, wfE x
  | y :: r, h, x, hx => by
    rcases List.mem_cons.1 hx with rfl | hx
    · exact h.1
    · exact wfEs_mem h.2 x hx
theorem sizeEs_mem : ∀ {a : List impl_expr}, ∀ x ∈ a, sizeE x ≤ sizeEs a
  | y :: r, x, hx => by
    simp only [sizeEs]
    rcases List.mem_cons.1 hx with rfl | hx
    · omega
    · have := sizeEs_mem x hx; omega
theorem sizeE_pos (x : impl_expr) : 1 ≤ sizeE x := by cases x; simp only [sizeE]; omega
theorem sizeE_args (x : impl_expr) : sizeE x = 1 + sizeEs x.args := by cases x; simp [sizeE, impl_expr.args]
theorem wfE_iff (x : impl_expr) : wfE x ↔ x.args.length = arT x.term ∧ wfEs x.args := by cases x; simp [wfE, impl_expr.args, impl_expr.term]

/-- Valid terms are trees. -/
theorem forest (v : Int) : ∀ (e : List impl_Term) (k : Nat), walkT v e k = true → ∃ xs : List impl_expr, xs.length = k ∧ wfEs xs ∧ flatEs xs = e
  | [], k, h => by
    simp only [walkT, beq_iff_eq] at h
    subst h; exact ⟨[], rfl, trivial, by simp only [flatEs]⟩
  | t :: r, k, h => by
    simp only [walkT, Bool.and_eq_true, Bool.not_eq_true', beq_eq_false_iff_ne] at h
    obtain ⟨hk, ht, hr⟩ := h
    obtain ⟨ys, h1, h2, h3⟩ := forest v r _ hr
    refine ⟨.mk t (ys.take (arT t)) :: ys.drop (arT t), ?_, ?_, ?_⟩
    · simp; omega
    · have hs := List.take_append_drop (arT t) ys
      have hw := (wfEs_append (ys.take (arT t)) (ys.drop (arT t))).1 (by rw [hs]; exact h2)
      exact ⟨⟨by simp; omega, hw.1⟩, hw.2⟩
    · simp only [flatEs, flatE, List.cons_append]
      rw [← flatEs_append, List.take_append_drop, h3]
theorem isTree {v most : Int} {e : List impl_Term} (h : termsV e v most = true) : ∃ x, wfE x ∧ flatE x = e := by
  simp only [termsV, Bool.and_eq_true] at h
  obtain ⟨xs, h1, h2, h3⟩ := forest v e 1 h.2
  cases xs with
  | nil => simp at h1
  | cons x r =>
    cases r with
    | nil => exact ⟨x, h2.1, by simpa [flatEs] using h3⟩
    | cons y r => simp at h1

end Go.Sh
