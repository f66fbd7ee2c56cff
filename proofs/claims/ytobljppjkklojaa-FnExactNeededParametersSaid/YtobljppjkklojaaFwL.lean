/- Part of a proof that a law returns true for every input. No condition. -/
import Derived.Test.YtobljppjkklojaaFwK
namespace Go.Fw
theorem ifT {α : Type} {h : Decidable True} (t e : α) : @ite α True h t e = t := if_pos trivial
theorem ifF {α : Type} {h : Decidable False} (t e : α) : @ite α False h t e = e := if_neg id
theorem beqT {α : Type} [BEq α] [ReflBEq α] (a : α) : (a == a) = true := BEq.rfl
theorem neT {α : Type} (a b : α) : (a ≠ b) = ¬(a = b) := rfl
theorem own_o : AV.owner .hole = none ∧ (∀ b, AV.owner (.bool b) = none) ∧ AV.owner .anyb = none ∧ (∀ k n, AV.owner (.int k n) = none) ∧ (∀ x, AV.owner (.str x) = none) ∧ AV.owner .nilp = none ∧ AV.owner .nils = none ∧ (∀ x, AV.owner (.slice x) = none) ∧ (∀ n x, AV.owner (.uslice n x) = none) ∧
  (∀ x, AV.owner (.ref x) = none) ∧ (∀ x, AV.owner (.ubox x) = none) ∧ (∀ x, AV.owner (.agg x) = none) ∧ (∀ x, AV.owner (.tuple x) = none) ∧ (∀ f c, AV.owner (.fn f c) = none) ∧ (∀ x q, AV.owner (.h x q) = some x) :=
 ⟨rfl, fun _ => rfl, rfl, fun _ _ => rfl, fun _ => rfl, rfl, rfl, fun _ => rfl, fun _ _ => rfl, fun _ => rfl, fun _ => rfl, fun _ => rfl, fun _ => rfl, fun _ _ => rfl, fun _ _ => rfl⟩
theorem notF : (¬ False) = True := not_false_eq_true
theorem notT : (¬ True) = False := not_true_eq_false
def V0 := PLift.up (And.intro own_o <| And.intro notF <| And.intro notT <| And.intro @ifT (And.intro @ifF (And.intro @beqT (And.intro @neT W0.down))))
def V1 := PLift.up (And.intro own_o <| And.intro notF <| And.intro notT <| And.intro @ifT (And.intro @ifF (And.intro @beqT (And.intro @neT W1.down))))
def VN := PLift.up (And.intro @beqT <| And.intro @ifT (And.intro @ifF WN.down))
def nub (l : List Nat) : List Nat := l.foldr (fun x acc => if acc.contains x then acc else x :: acc) []
theorem mem_nub {x : Nat} : ∀ {l : List Nat}, x ∈ nub l ↔ x ∈ l
 | [] => Iff.rfl
 | y :: l => by
   have ih := mem_nub (x := x) (l := l)
   have e : nub (y :: l) = if (nub l).contains y then nub l else y :: nub l := rfl
   rw [e]
   split
   ·rename_i h
    have h' : y ∈ nub l := by simpa using h
    constructor
    ·intro hx; exact List.mem_cons_of_mem _ (ih.1 hx)
    ·intro hx
     rcases List.mem_cons.1 hx with rfl | hx
     ·exact h'
     ·exact ih.2 hx
   ·simp only [List.mem_cons, ih]
def closGoD : List (List Nat) → List (List Nat) → List (List Nat)
 | done, [] => done
 | done, a :: r => closGoD (done ++ [nub (a ++ a.flatMap fun e => (done[e]?).getD [])]) r
def closD (af : List (List Nat)) : List (List Nat) := closGoD [] af
def SameL (c d : List (List Nat)) : Prop := c.length = d.length ∧ ∀ (i x : Nat), x ∈ (c[i]?).getD [] ↔ x ∈ (d[i]?).getD []
theorem closGo_same : ∀ (r c d : List (List Nat)), SameL c d → SameL (closGoD c r) (closGo d r)
 | [], c, d, h => h
 | a :: r, c, d, h => by
   refine closGo_same r _ _ ⟨by simp [h.1], fun i x => ?_⟩
   rcases Nat.lt_trichotomy i c.length with hi | hi | hi
   ·rw [List.getElem?_append_left hi, List.getElem?_append_left (by rw [← h.1]; exact hi)]
    exact h.2 i x
   ·rw [List.getElem?_append_right (by omega), List.getElem?_append_right (by rw [← h.1]; omega), hi, Nat.sub_self, h.1, Nat.sub_self]
    simp only [List.getElem?_cons_zero, Option.getD_some, mem_nub, List.mem_append, List.mem_flatMap]
    constructor
    ·rintro (hx | ⟨e, he, hx⟩)
     ·exact .inl hx
     ·exact .inr ⟨e, he, (h.2 e x).1 hx⟩
    ·rintro (hx | ⟨e, he, hx⟩)
     ·exact .inl hx
     ·exact .inr ⟨e, he, (h.2 e x).2 hx⟩
   ·rw [List.getElem?_eq_none (by simp; omega), List.getElem?_eq_none (by simp [← h.1]; omega)]
theorem okP_same {c d : List (List Nat)} (h : SameL c d) : ∀ (fs : List FP) (j : Nat) (es : List (Nat × FP)), okP c j es fs = okP d j es fs
 | [], _, _ => rfl
 | f :: fs, j, es => by
   simp only [okP]
   rw [okP_same h fs]
   congr 2
   funext e
   congr 1
   rw [Bool.eq_iff_iff]
   simp only [List.contains_iff_mem]
   exact h.2 j e.1
theorem okP_D {af : List (List Nat)} {j : Nat} {es : List (Nat × FP)} {fs : List FP} (h : okP (closD af) j es fs = true) : okP (clos af) j es fs = true := by
 exact (okP_same (closGo_same af [] [] ⟨rfl, fun _ _ => Iff.rfl⟩) fs j es).symm.trans h
abbrev ro (d : Nat) (so : SO) : RO := ⟨some d, so, none⟩
theorem OkAt.of_wpR {C : Cx} (hC : C.Ok) {f : FuncId} {fn : Func} {c : Code} {sc : SC} {fx : List Nat} {as outs : List AV} {r : AV} (rv : List ResultVar) (l : List (Nat × AV)) (hf : C.P.funcs[f]? = some fn) (hb : fn.body = some c)
  (hname : (fn.name == "runtime.NumGoroutine") = false) (hs : slimC ⟨fn.ntmps, fx⟩ c = some sc.strip) (hn : as.length ≤ fn.ntmps) (hrv : fn.results.toList = rv) (hl : num 0 as = l)
  (h : ∀ Q : Exit → St → Prop, (∀ s, onW (Ends C fx rv r outs) s → Q .ret s) → (∀ s, onW (Ends C fx rv r outs) s → Q .normal s) → wpC C sc Q (stA l)) (hp : sc.plain = true := by kernel_rfl) : OkAt C f as r outs := by
 subst hrv hl
 exact OkAt.of_wpQ hC hf hb hname hs hn h hp
theorem OkSelf.of_wpR {C : Cx} (hC : C.Ok) {f : FuncId} {fn : Func} {c : Code} {sc : SC} {fx : List Nat} {as outs : List AV} {r : AV} {k m : Nat} (rv : List ResultVar) (l : List (Nat × AV)) (hf : C.P.funcs[f]? = some fn) (hb : fn.body = some c)
  (hname : (fn.name == "runtime.NumGoroutine") = false) (hs : slimC ⟨fn.ntmps, fx⟩ c = some sc.strip) (hn : as.length ≤ fn.ntmps) (hk : sc.hook (SelfOk C f fx as.length m k)) (hrv : fn.results.toList = rv) (hl : num 0 as = l)
  (h : ∀ Q : Exit → St → Prop, (∀ s, onW (Ends C fx rv r outs) s → Q .ret s) → (∀ s, onW (Ends C fx rv r outs) s → Q .normal s) → wpC C sc Q (stA l)) : OkSelf C f m k as r outs := by
 subst hrv hl
 exact OkSelf.of_wp hC hf hb hname hs hn hk h
theorem bnT {b : Bool} (h : (!b) = true) : b = false := by cases b <;> first | rfl | cases h
theorem bnF {b : Bool} (h : (!b) = false) : b = true := by cases b <;> first | rfl | cases h
end Go.Fw
