/- Part of a proof that a law returns true for every input. No condition. -/
import Derived.Test.YtobljppjkklojaaFwK
namespace Go.cM
theorem yL {α : Type} {h : Decidable True} (t e : α) : @ite α True h t e = t := if_pos trivial
theorem yM {α : Type} {h : Decidable False} (t e : α) : @ite α False h t e = e := if_neg id
theorem yN {α : Type} [BEq α] [ReflBEq α] (a : α) : (a == a) = true := BEq.rfl
theorem Di {α : Type} (a b : α) : (a ≠ b) = ¬(a = b) := rfl
theorem Dj : j.owner .hole = none ∧ (∀ b, j.owner (.bool b) = none) ∧ j.owner .dO = none ∧ (∀ k n, j.owner (.int k n) = none) ∧ (∀ x, j.owner (.str x) = none) ∧ j.owner .cW = none ∧ j.owner .a_ = none ∧ (∀ x, j.owner (.slice x) = none) ∧ (∀ n x, j.owner (.ay n x) = none) ∧
  (∀ x, j.owner (.ref x) = none) ∧ (∀ x, j.owner (.bD x) = none) ∧ (∀ x, j.owner (.agg x) = none) ∧ (∀ x, j.owner (.tuple x) = none) ∧ (∀ f c, j.owner (.fn f c) = none) ∧ (∀ x q, j.owner (.h x q) = some x) :=
 ⟨rfl, fun _ => rfl, rfl, fun _ _ => rfl, fun _ => rfl, rfl, rfl, fun _ => rfl, fun _ _ => rfl, fun _ => rfl, fun _ => rfl, fun _ => rfl, fun _ => rfl, fun _ _ => rfl, fun _ _ => rfl⟩
theorem Dk : (¬ False) = True := not_false_eq_true
theorem Dl : (¬ True) = False := not_true_eq_false
def aQ := PLift.up (And.intro Dj <| And.intro Dk <| And.intro Dl <| And.intro @yL (And.intro @yM (And.intro @yN (And.intro @Di Kg.down))))
def g2 := PLift.up (And.intro Dj <| And.intro Dk <| And.intro Dl <| And.intro @yL (And.intro @yM (And.intro @yN (And.intro @Di Kh.down))))
def bI := PLift.up (And.intro @yN <| And.intro @yL (And.intro @yM Ki.down))
def pa (l : List Nat) : List Nat := l.foldr (fun x acc => if acc.contains x then acc else x :: acc) []
theorem Dm {x : Nat} : ∀ {l : List Nat}, x ∈ pa l ↔ x ∈ l
 | [] => Iff.rfl
 | y :: l => by
   have ih := Dm (x := x) (l := l)
   have e : pa (y :: l) = if (pa l).contains y then pa l else y :: pa l := rfl
   rw [e]
   split
   ·rename_i h
    have bq : y ∈ pa l := by simpa using h
    constructor
    ·intro ai; exact List.mem_cons_of_mem _ (ih.1 ai)
    ·intro ai
     rcases List.mem_cons.1 ai with rfl | ai
     ·exact bq
     ·exact ih.2 ai
   ·simp only [List.mem_cons, ih]
def yO : List (List Nat) → List (List Nat) → List (List Nat)
 | done, [] => done
 | done, a :: r => yO (done ++ [pa (a ++ a.flatMap fun e => (done[e]?).getD [])]) r
def K2 (fu : List (List Nat)) : List (List Nat) := yO [] fu
def yP (c d : List (List Nat)) : Prop := c.length = d.length ∧ ∀ (i x : Nat), x ∈ (c[i]?).getD [] ↔ x ∈ (d[i]?).getD []
theorem Dn : ∀ (r c d : List (List Nat)), yP c d → yP (yO c r) (so d r)
 | [], c, d, h => h
 | a :: r, c, d, h => by
   refine Dn r _ _ ⟨by simp [h.1], fun i x => ?_⟩
   rcases Nat.lt_trichotomy i c.length with az | az | az
   ·rw [List.getElem?_append_left az, List.getElem?_append_left (by rw [← h.1]; exact az)]
    exact h.2 i x
   ·rw [List.getElem?_append_right (by omega), List.getElem?_append_right (by rw [← h.1]; omega), az, Nat.sub_self, h.1, Nat.sub_self]
    simp only [List.getElem?_cons_zero, Option.getD_some, Dm, List.mem_append, List.mem_flatMap]
    constructor
    ·rintro (ai | ⟨e, he, ai⟩)
     ·exact .inl ai
     ·exact .inr ⟨e, he, (h.2 e x).1 ai⟩
    ·rintro (ai | ⟨e, he, ai⟩)
     ·exact .inl ai
     ·exact .inr ⟨e, he, (h.2 e x).2 ai⟩
   ·rw [List.getElem?_eq_none (by simp; omega), List.getElem?_eq_none (by simp [← h.1]; omega)]
theorem Dp {c d : List (List Nat)} (h : yP c d) : ∀ (al : List ea) (ar : Nat) (es : List (Nat × ea)), km c ar es al = km d ar es al
 | [], _, _ => rfl
 | f :: al, ar, es => by
   simp only [km]
   rw [Dp h al]
   congr 2
   funext e
   congr 1
   rw [Bool.eq_iff_iff]
   simp only [List.contains_iff_mem]
   exact h.2 ar e.1
theorem kT {fu : List (List Nat)} {ar : Nat} {es : List (Nat × ea)} {al : List ea} (h : km (K2 fu) ar es al = true) : km (qi fu) ar es al = true := by
 exact (Dp (Dn fu [] [] ⟨rfl, fun _ _ => Iff.rfl⟩) al ar es).symm.trans h
abbrev ro (d : Nat) (bd : eD) : cq := ⟨some d, bd, none⟩
theorem aX.cP {C : bN} (bm : C.Ok) {f : FuncId} {fn : Func} {c : Code} {eK : R} {fx : List Nat} {as outs : List j} {r : j} (fK : List ResultVar) (l : List (Nat × j)) (bL : C.P.funcs[f]? = some fn) (J : fn.body = some c)
  (kI : (fn.name == "runtime.NumGoroutine") = false) (U : b0 ⟨fn.ntmps, fx⟩ c = some eK.strip) (bh : as.length ≤ fn.ntmps) (gZ : fn.results.toList = fK) (hl : num 0 as = l)
  (h : ∀ Q : Exit → ag → Prop, (∀ s, fv (Ends C fx fK r outs) s → Q .ret s) → (∀ s, fv (Ends C fx fK r outs) s → Q .normal s) → db C eK Q (I l)) (ao : eK.plain = true := by kernel_rfl) : aX C f as r outs := by
 subst gZ hl
 exact aX.J5 bm bL J kI U bh h ao
theorem nf.cP {C : bN} (bm : C.Ok) {f : FuncId} {fn : Func} {c : Code} {eK : R} {fx : List Nat} {as outs : List j} {r : j} {k m : Nat} (fK : List ResultVar) (l : List (Nat × j)) (bL : C.P.funcs[f]? = some fn) (J : fn.body = some c)
  (kI : (fn.name == "runtime.NumGoroutine") = false) (U : b0 ⟨fn.ntmps, fx⟩ c = some eK.strip) (bh : as.length ≤ fn.ntmps) (aw : eK.mG (yK C f fx as.length m k)) (gZ : fn.results.toList = fK) (hl : num 0 as = l)
  (h : ∀ Q : Exit → ag → Prop, (∀ s, fv (Ends C fx fK r outs) s → Q .ret s) → (∀ s, fv (Ends C fx fK r outs) s → Q .normal s) → db C eK Q (I l)) : nf C f m k as r outs := by
 subst gZ hl
 exact nf.of_wp bm bL J kI U bh aw h
theorem eM {b : Bool} (h : (!b) = true) : b = false := by cases b <;> first | rfl | cases h
theorem du {b : Bool} (h : (!b) = false) : b = true := by cases b <;> first | rfl | cases h
end Go.cM
