/- Part of a proof that a law returns true for every input. No condition. -/
import Derived.Test.YtbemmmimelklkaaGreatFwK
namespace Go.c5
theorem F5 {α : Type} {h : Decidable True} (t e : α) : @ite α True h t e = t := if_pos trivial
theorem F6 {α : Type} {h : Decidable False} (t e : α) : @ite α False h t e = e := if_neg id
theorem F7 {α : Type} [BEq α] [ReflBEq α] (a : α) : (a == a) = true := BEq.rfl
theorem Lm {α : Type} (a b : α) : (a ≠ b) = ¬(a = b) := rfl
theorem Ln : I.owner .hole = none ∧ (∀ b, I.owner (.bool b) = none) ∧ I.owner .fo = none ∧ (∀ k n, I.owner (.int k n) = none) ∧ (∀ x, I.owner (.str x) = none) ∧ I.owner .dI = none ∧ I.owner .bu = none ∧ (∀ x, I.owner (.slice x) = none) ∧ (∀ n x, I.owner (.ar n x) = none) ∧
  (∀ x, I.owner (.ref x) = none) ∧ (∀ x, I.owner (.bd x) = none) ∧ (∀ x, I.owner (.agg x) = none) ∧ (∀ x, I.owner (.tuple x) = none) ∧ (∀ f c, I.owner (.fn f c) = none) ∧ (∀ x q, I.owner (.h x q) = some x) :=
 ⟨rfl, fun _ => rfl, rfl, fun _ _ => rfl, fun _ => rfl, rfl, rfl, fun _ => rfl, fun _ _ => rfl, fun _ => rfl, fun _ => rfl, fun _ => rfl, fun _ => rfl, fun _ _ => rfl, fun _ _ => rfl⟩
theorem Lo : (¬ False) = True := not_false_eq_true
theorem Lp : (¬ True) = False := not_true_eq_false
def aT := PLift.up (And.intro Ln <| And.intro Lo <| And.intro Lp <| And.intro @F5 (And.intro @F6 (And.intro @F7 (And.intro @Lm Tl.down))))
def dD := PLift.up (And.intro Ln <| And.intro Lo <| And.intro Lp <| And.intro @F5 (And.intro @F6 (And.intro @F7 (And.intro @Lm Tm.down))))
def bn := PLift.up (And.intro @F7 <| And.intro @F5 (And.intro @F6 Tn.down))
def sF (l : List Nat) : List Nat := l.foldr (fun x acc => if acc.contains x then acc else x :: acc) []
theorem Lq {x : Nat} : ∀ {l : List Nat}, x ∈ sF l ↔ x ∈ l
 | [] => Iff.rfl
 | y :: l => by
   have ih := Lq (x := x) (l := l)
   have e : sF (y :: l) = if (sF l).contains y then sF l else y :: sF l := rfl
   rw [e]
   split
   ·rename_i h
    have bM : y ∈ sF l := by simpa using h
    constructor
    ·intro aq; exact List.mem_cons_of_mem _ (ih.1 aq)
    ·intro aq
     rcases List.mem_cons.1 aq with rfl | aq
     ·exact bM
     ·exact ih.2 aq
   ·simp only [List.mem_cons, ih]
def F8 : List (List Nat) → List (List Nat) → List (List Nat)
 | done, [] => done
 | done, a :: r => F8 (done ++ [sF (a ++ a.flatMap fun e => (done[e]?).getD [])]) r
def Uv (hd : List (List Nat)) : List (List Nat) := F8 [] hd
def F9 (c d : List (List Nat)) : Prop := c.length = d.length ∧ ∀ (i x : Nat), x ∈ (c[i]?).getD [] ↔ x ∈ (d[i]?).getD []
theorem Lr : ∀ (r c d : List (List Nat)), F9 c d → F9 (F8 c r) (xt d r)
 | [], c, d, h => h
 | a :: r, c, d, h => by
   refine Lr r _ _ ⟨by simp [h.1], fun i x => ?_⟩
   rcases Nat.lt_trichotomy i c.length with ao | ao | ao
   ·rw [List.getElem?_append_left ao, List.getElem?_append_left (by rw [← h.1]; exact ao)]
    exact h.2 i x
   ·rw [List.getElem?_append_right (by omega), List.getElem?_append_right (by rw [← h.1]; omega), ao, Nat.sub_self, h.1, Nat.sub_self]
    simp only [List.getElem?_cons_zero, Option.getD_some, Lq, List.mem_append, List.mem_flatMap]
    constructor
    ·rintro (aq | ⟨e, he, aq⟩)
     ·exact .inl aq
     ·exact .inr ⟨e, he, (h.2 e x).1 aq⟩
    ·rintro (aq | ⟨e, he, aq⟩)
     ·exact .inl aq
     ·exact .inr ⟨e, he, (h.2 e x).2 aq⟩
   ·rw [List.getElem?_eq_none (by simp; omega), List.getElem?_eq_none (by simp [← h.1]; omega)]
theorem Ls {c d : List (List Nat)} (h : F9 c d) : ∀ (aC : List fF) (j : Nat) (es : List (Nat × fF)), mr c j es aC = mr d j es aC
 | [], _, _ => rfl
 | f :: aC, j, es => by
   simp only [mr]
   rw [Ls h aC]
   congr 2
   funext e
   congr 1
   rw [Bool.eq_iff_iff]
   simp only [List.contains_iff_mem]
   exact h.2 j e.1
theorem gX {hd : List (List Nat)} {j : Nat} {es : List (Nat × fF)} {aC : List fF} (h : mr (Uv hd) j es aC = true) : mr (uA hd) j es aC = true := by
 exact (Ls (Lr hd [] [] ⟨rfl, fun _ _ => Iff.rfl⟩) aC j es).symm.trans h
abbrev ro (d : Nat) (bT : gj) : cO := ⟨some d, bT, none⟩
theorem aQ.b7 {C : cw} (bI : C.Ok) {f : FuncId} {fn : Func} {c : Code} {dK : J} {fx : List Nat} {as outs : List I} {r : I} (gW : List ResultVar) (l : List (Nat × I)) (bJ : C.P.funcs[f]? = some fn) (ad : fn.body = some c)
  (lb : (fn.name == "runtime.NumGoroutine") = false) (ah : bG ⟨fn.ntmps, fx⟩ c = some dK.strip) (bl : as.length ≤ fn.ntmps) (ic : fn.results.toList = gW) (hl : num 0 as = l)
  (h : ∀ Q : Exit → ax → Prop, (∀ s, eN (Ends C fx gW r outs) s → Q .ret s) → (∀ s, eN (Ends C fx gW r outs) s → Q .normal s) → dh C dK Q (aa l)) (aA : dK.plain = true := by kernel_rfl) : aQ C f as r outs := by
 subst ic hl
 exact aQ.S_ bI bJ ad lb ah bl h aA
theorem lW.b7 {C : cw} (bI : C.Ok) {f : FuncId} {fn : Func} {c : Code} {dK : J} {fx : List Nat} {as outs : List I} {r : I} {k m : Nat} (gW : List ResultVar) (l : List (Nat × I)) (bJ : C.P.funcs[f]? = some fn) (ad : fn.body = some c)
  (lb : (fn.name == "runtime.NumGoroutine") = false) (ah : bG ⟨fn.ntmps, fx⟩ c = some dK.strip) (bl : as.length ≤ fn.ntmps) (aD : dK.mq (AQ C f fx as.length m k)) (ic : fn.results.toList = gW) (hl : num 0 as = l)
  (h : ∀ Q : Exit → ax → Prop, (∀ s, eN (Ends C fx gW r outs) s → Q .ret s) → (∀ s, eN (Ends C fx gW r outs) s → Q .normal s) → dh C dK Q (aa l)) : lW C f m k as r outs := by
 subst ic hl
 exact lW.of_wp bI bJ ad lb ah bl aD h
theorem aQ.Uw {C : cw} (bI : C.Ok) {f : FuncId} {fn : Func} {c : Code} {dK : J} {fx : List Nat} {as outs : List I} {r : I} (gW : List ResultVar) (l : List (Nat × I)) (bJ : C.P.funcs[f]? = some fn) (ad : fn.body = some c)
  (lb : (fn.name == "runtime.NumGoroutine") = false) (ah : bG ⟨fn.ntmps, fx⟩ c = some dK.strip) (bl : as.length ≤ fn.ntmps) (aD : dK.mq (xz C)) (ic : fn.results.toList = gW) (hl : num 0 as = l)
  (h : ∀ Q : Exit → ax → Prop, (∀ s, eN (Ends C fx gW r outs) s → Q .ret s) → (∀ s, eN (Ends C fx gW r outs) s → Q .normal s) → dh C dK Q (aa l)) : aQ C f as r outs := by
 subst ic hl
 exact aQ.Ut bI bJ ad lb ah bl aD h
theorem db {b : Bool} (h : (!b) = true) : b = false := by cases b <;> first | rfl | cases h
theorem bC {b : Bool} (h : (!b) = false) : b = true := by cases b <;> first | rfl | cases h
end Go.c5
