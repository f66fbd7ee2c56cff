/- Part of a proof that a law returns true for every input. No condition. -/
import Derived.Test.YtbemmmimelklkaaGreatFwK
namespace Go.dg
theorem EO {α : Type} {h : Decidable True} (t e : α) : @ite α True h t e = t := if_pos trivial
theorem EP {α : Type} {h : Decidable False} (t e : α) : @ite α False h t e = e := if_neg id
theorem ER {α : Type} [BEq α] [ReflBEq α] (a : α) : (a == a) = true := BEq.rfl
theorem JW {α : Type} (a b : α) : (a ≠ b) = ¬(a = b) := rfl
theorem JX : I.owner .hole = none ∧ (∀ b, I.owner (.bool b) = none) ∧ I.owner .fi = none ∧ (∀ k n, I.owner (.int k n) = none) ∧ (∀ x, I.owner (.str x) = none) ∧ I.owner .dC = none ∧ I.owner .bg = none ∧ (∀ x, I.owner (.slice x) = none) ∧ (∀ n x, I.owner (.aw n x) = none) ∧
  (∀ x, I.owner (.ref x) = none) ∧ (∀ x, I.owner (.a8 x) = none) ∧ (∀ x, I.owner (.agg x) = none) ∧ (∀ x, I.owner (.tuple x) = none) ∧ (∀ f c, I.owner (.fn f c) = none) ∧ (∀ x q, I.owner (.h x q) = some x) :=
 ⟨rfl, fun _ => rfl, rfl, fun _ _ => rfl, fun _ => rfl, rfl, rfl, fun _ => rfl, fun _ _ => rfl, fun _ => rfl, fun _ => rfl, fun _ => rfl, fun _ => rfl, fun _ _ => rfl, fun _ _ => rfl⟩
theorem JY : (¬ False) = True := not_false_eq_true
theorem JZ : (¬ True) = False := not_true_eq_false
def aX := PLift.up (And.intro JX <| And.intro JY <| And.intro JZ <| And.intro @EO (And.intro @EP (And.intro @ER (And.intro @JW Rj.down))))
def dF := PLift.up (And.intro JX <| And.intro JY <| And.intro JZ <| And.intro @EO (And.intro @EP (And.intro @ER (And.intro @JW Rk.down))))
def bo := PLift.up (And.intro @ER <| And.intro @EO (And.intro @EP Rl.down))
def r0 (l : List Nat) : List Nat := l.foldr (fun x acc => if acc.contains x then acc else x :: acc) []
theorem J0 {x : Nat} : ∀ {l : List Nat}, x ∈ r0 l ↔ x ∈ l
 | [] => Iff.rfl
 | y :: l => by
   have ih := J0 (x := x) (l := l)
   have e : r0 (y :: l) = if (r0 l).contains y then r0 l else y :: r0 l := rfl
   rw [e]
   split
   ·rename_i h
    have bB : y ∈ r0 l := by simpa using h
    constructor
    ·intro aA; exact List.mem_cons_of_mem _ (ih.1 aA)
    ·intro aA
     rcases List.mem_cons.1 aA with rfl | aA
     ·exact bB
     ·exact ih.2 aA
   ·simp only [List.mem_cons, ih]
def ES : List (List Nat) → List (List Nat) → List (List Nat)
 | done, [] => done
 | done, a :: r => ES (done ++ [r0 (a ++ a.flatMap fun e => (done[e]?).getD [])]) r
def Sy (g9 : List (List Nat)) : List (List Nat) := ES [] g9
def ET (c d : List (List Nat)) : Prop := c.length = d.length ∧ ∀ (i x : Nat), x ∈ (c[i]?).getD [] ↔ x ∈ (d[i]?).getD []
theorem J1 : ∀ (r c d : List (List Nat)), ET c d → ET (ES c r) (wA d r)
 | [], c, d, h => h
 | a :: r, c, d, h => by
   refine J1 r _ _ ⟨by simp [h.1], fun i x => ?_⟩
   rcases Nat.lt_trichotomy i c.length with ar | ar | ar
   ·rw [List.getElem?_append_left ar, List.getElem?_append_left (by rw [← h.1]; exact ar)]
    exact h.2 i x
   ·rw [List.getElem?_append_right (by omega), List.getElem?_append_right (by rw [← h.1]; omega), ar, Nat.sub_self, h.1, Nat.sub_self]
    simp only [List.getElem?_cons_zero, Option.getD_some, J0, List.mem_append, List.mem_flatMap]
    constructor
    ·rintro (aA | ⟨e, he, aA⟩)
     ·exact .inl aA
     ·exact .inr ⟨e, he, (h.2 e x).1 aA⟩
    ·rintro (aA | ⟨e, he, aA⟩)
     ·exact .inl aA
     ·exact .inr ⟨e, he, (h.2 e x).2 aA⟩
   ·rw [List.getElem?_eq_none (by simp; omega), List.getElem?_eq_none (by simp [← h.1]; omega)]
theorem J2 {c d : List (List Nat)} (h : ET c d) : ∀ (aB : List fD) (j : Nat) (es : List (Nat × fD)), l_ c j es aB = l_ d j es aB
 | [], _, _ => rfl
 | f :: aB, j, es => by
   simp only [l_]
   rw [J2 h aB]
   congr 2
   funext e
   congr 1
   rw [Bool.eq_iff_iff]
   simp only [List.contains_iff_mem]
   exact h.2 j e.1
theorem gV {g9 : List (List Nat)} {j : Nat} {es : List (Nat × fD)} {aB : List fD} (h : l_ (Sy g9) j es aB = true) : l_ (tS g9) j es aB = true := by
 exact (J2 (J1 g9 [] [] ⟨rfl, fun _ _ => Iff.rfl⟩) aB j es).symm.trans h
abbrev ro (d : Nat) (bM : fZ) : cI := ⟨some d, bM, none⟩
theorem aT.bZ {C : cn} (bA : C.fo) {f : FuncId} {fn : Func} {c : Code} {dE : R} {fx : List Nat} {as outs : List I} {r : I} (gN : List ResultVar) (l : List (Nat × I)) (bF : C.P.funcs[f]? = some fn) (ae : fn.body = some c)
  (k3 : (fn.name == "runtime.NumGoroutine") = false) (ah : bw ⟨fn.ntmps, fx⟩ c = some dE.strip) (bd : as.length ≤ fn.ntmps) (jo : fn.results.toList = gN) (hl : num 0 as = l)
  (h : ∀ Q : Exit → au → Prop, (∀ s, eA (Ends C fx gN r outs) s → Q .ret s) → (∀ s, eA (Ends C fx gN r outs) s → Q .normal s) → dj C dE Q (aa l)) (ax : dE.plain = true := by kernel_rfl) : aT C f as r outs := by
 subst jo hl
 exact aT.Q8 bA bF ae k3 ah bd h ax
theorem lJ.bZ {C : cn} (bA : C.fo) {f : FuncId} {fn : Func} {c : Code} {dE : R} {fx : List Nat} {as outs : List I} {r : I} {k m : Nat} (gN : List ResultVar) (l : List (Nat × I)) (bF : C.P.funcs[f]? = some fn) (ae : fn.body = some c)
  (k3 : (fn.name == "runtime.NumGoroutine") = false) (ah : bw ⟨fn.ntmps, fx⟩ c = some dE.strip) (bd : as.length ≤ fn.ntmps) (aE : dE.l8 (zT C f fx as.length m k)) (jo : fn.results.toList = gN) (hl : num 0 as = l)
  (h : ∀ Q : Exit → au → Prop, (∀ s, eA (Ends C fx gN r outs) s → Q .ret s) → (∀ s, eA (Ends C fx gN r outs) s → Q .normal s) → dj C dE Q (aa l)) : lJ C f m k as r outs := by
 subst jo hl
 exact lJ.of_wp bA bF ae k3 ah bd aE h
theorem aT.Sz {C : cn} (bA : C.fo) {f : FuncId} {fn : Func} {c : Code} {dE : R} {fx : List Nat} {as outs : List I} {r : I} (gN : List ResultVar) (l : List (Nat × I)) (bF : C.P.funcs[f]? = some fn) (ae : fn.body = some c)
  (k3 : (fn.name == "runtime.NumGoroutine") = false) (ah : bw ⟨fn.ntmps, fx⟩ c = some dE.strip) (bd : as.length ≤ fn.ntmps) (aE : dE.l8 (wL C)) (jo : fn.results.toList = gN) (hl : num 0 as = l)
  (h : ∀ Q : Exit → au → Prop, (∀ s, eA (Ends C fx gN r outs) s → Q .ret s) → (∀ s, eA (Ends C fx gN r outs) s → Q .normal s) → dj C dE Q (aa l)) : aT C f as r outs := by
 subst jo hl
 exact aT.Sv bA bF ae k3 ah bd aE h
theorem c8 {b : Bool} (h : (!b) = true) : b = false := by cases b <;> first | rfl | cases h
theorem br {b : Bool} (h : (!b) = false) : b = true := by cases b <;> first | rfl | cases h
end Go.dg
