/- Part of a proof that a law returns true for every input. No condition. -/
import Derived.Test.YtbemmmimelklkaaGreatFwK
namespace Go.dk
theorem En {α : Type} {h : Decidable True} (t e : α) : @ite α True h t e = t := if_pos trivial
theorem Eo {α : Type} {h : Decidable False} (t e : α) : @ite α False h t e = e := if_neg id
theorem Ep {α : Type} [BEq α] [ReflBEq α] (a : α) : (a == a) = true := BEq.rfl
theorem JD {α : Type} (a b : α) : (a ≠ b) = ¬(a = b) := rfl
theorem JE : I.owner .hole = none ∧ (∀ b, I.owner (.bool b) = none) ∧ I.owner .e7 = none ∧ (∀ k n, I.owner (.int k n) = none) ∧ (∀ x, I.owner (.str x) = none) ∧ I.owner .dC = none ∧ I.owner .bc = none ∧ (∀ x, I.owner (.slice x) = none) ∧ (∀ n x, I.owner (.aw n x) = none) ∧
  (∀ x, I.owner (.ref x) = none) ∧ (∀ x, I.owner (.a8 x) = none) ∧ (∀ x, I.owner (.agg x) = none) ∧ (∀ x, I.owner (.tuple x) = none) ∧ (∀ f c, I.owner (.fn f c) = none) ∧ (∀ x q, I.owner (.h x q) = some x) :=
 ⟨rfl, fun _ => rfl, rfl, fun _ _ => rfl, fun _ => rfl, rfl, rfl, fun _ => rfl, fun _ _ => rfl, fun _ => rfl, fun _ => rfl, fun _ => rfl, fun _ => rfl, fun _ _ => rfl, fun _ _ => rfl⟩
theorem JF : (¬ False) = True := not_false_eq_true
theorem JG : (¬ True) = False := not_true_eq_false
def aY := PLift.up (And.intro JE <| And.intro JF <| And.intro JG <| And.intro @En (And.intro @Eo (And.intro @Ep (And.intro @JD QU.down))))
def dp := PLift.up (And.intro JE <| And.intro JF <| And.intro JG <| And.intro @En (And.intro @Eo (And.intro @Ep (And.intro @JD QV.down))))
def bn := PLift.up (And.intro @Ep <| And.intro @En (And.intro @Eo QW.down))
def rJ (l : List Nat) : List Nat := l.foldr (fun x acc => if acc.contains x then acc else x :: acc) []
theorem JH {x : Nat} : ∀ {l : List Nat}, x ∈ rJ l ↔ x ∈ l
 | [] => Iff.rfl
 | y :: l => by
   have ih := JH (x := x) (l := l)
   have e : rJ (y :: l) = if (rJ l).contains y then rJ l else y :: rJ l := rfl
   rw [e]
   split
   ·rename_i h
    have bD : y ∈ rJ l := by simpa using h
    constructor
    ·intro aC; exact List.mem_cons_of_mem _ (ih.1 aC)
    ·intro aC
     rcases List.mem_cons.1 aC with rfl | aC
     ·exact bD
     ·exact ih.2 aC
   ·simp only [List.mem_cons, ih]
def Er : List (List Nat) → List (List Nat) → List (List Nat)
 | done, [] => done
 | done, a :: r => Er (done ++ [rJ (a ++ a.flatMap fun e => (done[e]?).getD [])]) r
def R8 (gB : List (List Nat)) : List (List Nat) := Er [] gB
def Es (c d : List (List Nat)) : Prop := c.length = d.length ∧ ∀ (i x : Nat), x ∈ (c[i]?).getD [] ↔ x ∈ (d[i]?).getD []
theorem JI : ∀ (r c d : List (List Nat)), Es c d → Es (Er c r) (vW d r)
 | [], c, d, h => h
 | a :: r, c, d, h => by
   refine JI r _ _ ⟨by simp [h.1], fun i x => ?_⟩
   rcases Nat.lt_trichotomy i c.length with au | au | au
   ·rw [List.getElem?_append_left au, List.getElem?_append_left (by rw [← h.1]; exact au)]
    exact h.2 i x
   ·rw [List.getElem?_append_right (by omega), List.getElem?_append_right (by rw [← h.1]; omega), au, Nat.sub_self, h.1, Nat.sub_self]
    simp only [List.getElem?_cons_zero, Option.getD_some, JH, List.mem_append, List.mem_flatMap]
    constructor
    ·rintro (aC | ⟨e, he, aC⟩)
     ·exact .inl aC
     ·exact .inr ⟨e, he, (h.2 e x).1 aC⟩
    ·rintro (aC | ⟨e, he, aC⟩)
     ·exact .inl aC
     ·exact .inr ⟨e, he, (h.2 e x).2 aC⟩
   ·rw [List.getElem?_eq_none (by simp; omega), List.getElem?_eq_none (by simp [← h.1]; omega)]
theorem JJ {c d : List (List Nat)} (h : Es c d) : ∀ (az : List fF) (j : Nat) (es : List (Nat × fF)), lE c j es az = lE d j es az
 | [], _, _ => rfl
 | f :: az, j, es => by
   simp only [lE]
   rw [JJ h az]
   congr 2
   funext e
   congr 1
   rw [Bool.eq_iff_iff]
   simp only [List.contains_iff_mem]
   exact h.2 j e.1
theorem gJ {gB : List (List Nat)} {j : Nat} {es : List (Nat × fF)} {az : List fF} (h : lE (R8 gB) j es az = true) : lE (rA gB) j es az = true := by
 exact (JJ (JI gB [] [] ⟨rfl, fun _ _ => Iff.rfl⟩) az j es).symm.trans h
abbrev ro (d : Nat) (bN : ga) : cK := ⟨some d, bN, none⟩
theorem aR.bY {C : ck} (bB : C.fq) {f : FuncId} {fn : Func} {c : Code} {dD : R} {fx : List Nat} {as outs : List I} {r : I} (gR : List ResultVar) (l : List (Nat × I)) (bH : C.P.funcs[f]? = some fn) (ae : fn.body = some c)
  (kU : (fn.name == "runtime.NumGoroutine") = false) (ah : bt ⟨fn.ntmps, fx⟩ c = some dD.strip) (bg : as.length ≤ fn.ntmps) (jm : fn.results.toList = gR) (hl : num 0 as = l)
  (h : ∀ Q : Exit → ar → Prop, (∀ s, eE (Ends C fx gR r outs) s → Q .ret s) → (∀ s, eE (Ends C fx gR r outs) s → Q .normal s) → db C dD Q (aa l)) (ax : dD.plain = true := by kernel_rfl) : aR C f as r outs := by
 subst jm hl
 exact aR.QI bB bH ae kU ah bg h ax
theorem lF.bY {C : ck} (bB : C.fq) {f : FuncId} {fn : Func} {c : Code} {dD : R} {fx : List Nat} {as outs : List I} {r : I} {k m : Nat} (gR : List ResultVar) (l : List (Nat × I)) (bH : C.P.funcs[f]? = some fn) (ae : fn.body = some c)
  (kU : (fn.name == "runtime.NumGoroutine") = false) (ah : bt ⟨fn.ntmps, fx⟩ c = some dD.strip) (bg : as.length ≤ fn.ntmps) (aE : dD.lZ (zr C f fx as.length m k)) (jm : fn.results.toList = gR) (hl : num 0 as = l)
  (h : ∀ Q : Exit → ar → Prop, (∀ s, eE (Ends C fx gR r outs) s → Q .ret s) → (∀ s, eE (Ends C fx gR r outs) s → Q .normal s) → db C dD Q (aa l)) : lF C f m k as r outs := by
 subst jm hl
 exact lF.of_wp bB bH ae kU ah bg aE h
theorem aR.R9 {C : ck} (bB : C.fq) {f : FuncId} {fn : Func} {c : Code} {dD : R} {fx : List Nat} {as outs : List I} {r : I} (gR : List ResultVar) (l : List (Nat × I)) (bH : C.P.funcs[f]? = some fn) (ae : fn.body = some c)
  (kU : (fn.name == "runtime.NumGoroutine") = false) (ah : bt ⟨fn.ntmps, fx⟩ c = some dD.strip) (bg : as.length ≤ fn.ntmps) (aE : dD.lZ (wb C)) (jm : fn.results.toList = gR) (hl : num 0 as = l)
  (h : ∀ Q : Exit → ar → Prop, (∀ s, eE (Ends C fx gR r outs) s → Q .ret s) → (∀ s, eE (Ends C fx gR r outs) s → Q .normal s) → db C dD Q (aa l)) : aR C f as r outs := by
 subst jm hl
 exact aR.R6 bB bH ae kU ah bg aE h
theorem c8 {b : Bool} (h : (!b) = true) : b = false := by cases b <;> first | rfl | cases h
theorem bq {b : Bool} (h : (!b) = false) : b = true := by cases b <;> first | rfl | cases h
end Go.dk
