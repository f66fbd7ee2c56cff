/- Part of a proof that a law returns true for every input. No condition. -/
import Derived.Test.YtbemmmimelklkaaFwK
namespace Go.cB
theorem Bs {α : Type} {h : Decidable True} (t e : α) : @ite α True h t e = t := if_pos trivial
theorem Bt {α : Type} {h : Decidable False} (t e : α) : @ite α False h t e = e := if_neg id
theorem Bu {α : Type} [BEq α] [ReflBEq α] (a : α) : (a == a) = true := BEq.rfl
theorem Gm {α : Type} (a b : α) : (a ≠ b) = ¬(a = b) := rfl
theorem Gn : I.owner .hole = none ∧ (∀ b, I.owner (.bool b) = none) ∧ I.owner .dV = none ∧ (∀ k n, I.owner (.int k n) = none) ∧ (∀ x, I.owner (.str x) = none) ∧ I.owner .c7 = none ∧ I.owner .bA = none ∧ (∀ x, I.owner (.slice x) = none) ∧ (∀ n x, I.owner (.aE n x) = none) ∧
  (∀ x, I.owner (.ref x) = none) ∧ (∀ x, I.owner (.bd x) = none) ∧ (∀ x, I.owner (.agg x) = none) ∧ (∀ x, I.owner (.tuple x) = none) ∧ (∀ f c, I.owner (.fn f c) = none) ∧ (∀ x q, I.owner (.h x q) = some x) :=
 ⟨rfl, fun _ => rfl, rfl, fun _ _ => rfl, fun _ => rfl, rfl, rfl, fun _ => rfl, fun _ _ => rfl, fun _ => rfl, fun _ => rfl, fun _ => rfl, fun _ => rfl, fun _ _ => rfl, fun _ _ => rfl⟩
theorem Gp : (¬ False) = True := not_false_eq_true
theorem Gq : (¬ True) = False := not_true_eq_false
def aQ := PLift.up (And.intro Gn <| And.intro Gp <| And.intro Gq <| And.intro @Bs (And.intro @Bt (And.intro @Bu (And.intro @Gm M8.down))))
def hh := PLift.up (And.intro Gn <| And.intro Gp <| And.intro Gq <| And.intro @Bs (And.intro @Bt (And.intro @Bu (And.intro @Gm M9.down))))
def bw := PLift.up (And.intro @Bu <| And.intro @Bs (And.intro @Bt M_.down))
def qc (l : List Nat) : List Nat := l.foldr (fun x acc => if acc.contains x then acc else x :: acc) []
theorem Gr {x : Nat} : ∀ {l : List Nat}, x ∈ qc l ↔ x ∈ l
 | [] => Iff.rfl
 | y :: l => by
   have ih := Gr (x := x) (l := l)
   have e : qc (y :: l) = if (qc l).contains y then qc l else y :: qc l := rfl
   rw [e]
   split
   ·rename_i h
    have bq : y ∈ qc l := by simpa using h
    constructor
    ·intro au; exact List.mem_cons_of_mem _ (ih.1 au)
    ·intro au
     rcases List.mem_cons.1 au with rfl | au
     ·exact bq
     ·exact ih.2 au
   ·simp only [List.mem_cons, ih]
def Bv : List (List Nat) → List (List Nat) → List (List Nat)
 | done, [] => done
 | done, a :: r => Bv (done ++ [qc (a ++ a.flatMap fun e => (done[e]?).getD [])]) r
def Oj (fT : List (List Nat)) : List (List Nat) := Bv [] fT
def Bw (c d : List (List Nat)) : Prop := c.length = d.length ∧ ∀ (i x : Nat), x ∈ (c[i]?).getD [] ↔ x ∈ (d[i]?).getD []
theorem Gs : ∀ (r c d : List (List Nat)), Bw c d → Bw (Bv c r) (tJ d r)
 | [], c, d, h => h
 | a :: r, c, d, h => by
   refine Gs r _ _ ⟨by simp [h.1], fun i x => ?_⟩
   rcases Nat.lt_trichotomy i c.length with ak | ak | ak
   ·rw [List.getElem?_append_left ak, List.getElem?_append_left (by rw [← h.1]; exact ak)]
    exact h.2 i x
   ·rw [List.getElem?_append_right (by omega), List.getElem?_append_right (by rw [← h.1]; omega), ak, Nat.sub_self, h.1, Nat.sub_self]
    simp only [List.getElem?_cons_zero, Option.getD_some, Gr, List.mem_append, List.mem_flatMap]
    constructor
    ·rintro (au | ⟨e, he, au⟩)
     ·exact .inl au
     ·exact .inr ⟨e, he, (h.2 e x).1 au⟩
    ·rintro (au | ⟨e, he, au⟩)
     ·exact .inl au
     ·exact .inr ⟨e, he, (h.2 e x).2 au⟩
   ·rw [List.getElem?_eq_none (by simp; omega), List.getElem?_eq_none (by simp [← h.1]; omega)]
theorem Gt {c d : List (List Nat)} (h : Bw c d) : ∀ (aw : List eC) (j : Nat) (es : List (Nat × eC)), kO c j es aw = kO d j es aw
 | [], _, _ => rfl
 | f :: aw, j, es => by
   simp only [kO]
   rw [Gt h aw]
   congr 2
   funext e
   congr 1
   rw [Bool.eq_iff_iff]
   simp only [List.contains_iff_mem]
   exact h.2 j e.1
theorem kS {fT : List (List Nat)} {j : Nat} {es : List (Nat × eC)} {aw : List eC} (h : kO (Oj fT) j es aw = true) : kO (rB fT) j es aw = true := by
 exact (Gt (Gs fT [] [] ⟨rfl, fun _ _ => Iff.rfl⟩) aw j es).symm.trans h
abbrev ro (d : Nat) (bu : eX) : cg := ⟨some d, bu, none⟩
theorem aU.cQ {C : bZ} (bp : C.Ok) {f : FuncId} {fn : Func} {c : Code} {c2 : J} {fx : List Nat} {as outs : List I} {r : I} (fL : List ResultVar) (l : List (Nat × I)) (bB : C.P.funcs[f]? = some fn) (U : fn.body = some c)
  (jJ : (fn.name == "runtime.NumGoroutine") = false) (aa : bQ ⟨fn.ntmps, fx⟩ c = some c2.strip) (bl : as.length ≤ fn.ntmps) (gU : fn.results.toList = fL) (hl : num 0 as = l)
  (h : ∀ Q : Exit → aj → Prop, (∀ s, dv (Ends C fx fL r outs) s → Q .ret s) → (∀ s, dv (Ends C fx fL r outs) s → Q .normal s) → cG C c2 Q (R l)) (an : c2.plain = true := by kernel_rfl) : aU C f as r outs := by
 subst gU hl
 exact aU.MU bp bB U jJ aa bl h an
theorem ku.cQ {C : bZ} (bp : C.Ok) {f : FuncId} {fn : Func} {c : Code} {c2 : J} {fx : List Nat} {as outs : List I} {r : I} {k m : Nat} (fL : List ResultVar) (l : List (Nat × I)) (bB : C.P.funcs[f]? = some fn) (U : fn.body = some c)
  (jJ : (fn.name == "runtime.NumGoroutine") = false) (aa : bQ ⟨fn.ntmps, fx⟩ c = some c2.strip) (bl : as.length ≤ fn.ntmps) (ay : c2.kN (w4 C f fx as.length m k)) (gU : fn.results.toList = fL) (hl : num 0 as = l)
  (h : ∀ Q : Exit → aj → Prop, (∀ s, dv (Ends C fx fL r outs) s → Q .ret s) → (∀ s, dv (Ends C fx fL r outs) s → Q .normal s) → cG C c2 Q (R l)) : ku C f m k as r outs := by
 subst gU hl
 exact ku.of_wp bp bB U jJ aa bl ay h
theorem aU.Ol {C : bZ} (bp : C.Ok) {f : FuncId} {fn : Func} {c : Code} {c2 : J} {fx : List Nat} {as outs : List I} {r : I} (fL : List ResultVar) (l : List (Nat × I)) (bB : C.P.funcs[f]? = some fn) (U : fn.body = some c)
  (jJ : (fn.name == "runtime.NumGoroutine") = false) (aa : bQ ⟨fn.ntmps, fx⟩ c = some c2.strip) (bl : as.length ≤ fn.ntmps) (ay : c2.kN (tT C)) (gU : fn.results.toList = fL) (hl : num 0 as = l)
  (h : ∀ Q : Exit → aj → Prop, (∀ s, dv (Ends C fx fL r outs) s → Q .ret s) → (∀ s, dv (Ends C fx fL r outs) s → Q .normal s) → cG C c2 Q (R l)) : aU C f as r outs := by
 subst gU hl
 exact aU.Oh bp bB U jJ aa bl ay h
theorem dZ {b : Bool} (h : (!b) = true) : b = false := by cases b <;> first | rfl | cases h
theorem cX {b : Bool} (h : (!b) = false) : b = true := by cases b <;> first | rfl | cases h
end Go.cB
