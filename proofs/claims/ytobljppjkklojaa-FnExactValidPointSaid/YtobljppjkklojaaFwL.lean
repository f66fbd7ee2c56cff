/- Part of a proof that a law returns true for every input. No condition. -/
import Derived.Test.YtobljppjkklojaaFwK
namespace Go.Fw

/-! The rules of walking, whole. -/
theorem ifT {α : Type} {h : Decidable True} (t e : α) : @ite α True h t e = t := if_pos trivial
theorem ifF {α : Type} {h : Decidable False} (t e : α) : @ite α False h t e = e := if_neg id
theorem beqT {α : Type} [BEq α] [ReflBEq α] (a : α) : (a == a) = true := BEq.rfl
theorem neT {α : Type} (a b : α) : (a ≠ b) = ¬(a = b) := rfl
theorem own_o : AV.owner .hole = none ∧ (∀ b, AV.owner (.bool b) = none) ∧ AV.owner .anyb = none ∧ (∀ k n, AV.owner (.int k n) = none) ∧ (∀ x, AV.owner (.str x) = none) ∧ AV.owner .nilp = none ∧ AV.owner .nils = none ∧ (∀ x, AV.owner (.slice x) = none) ∧ (∀ n x, AV.owner (.uslice n x) = none) ∧
    (∀ x, AV.owner (.ref x) = none) ∧ (∀ x, AV.owner (.ubox x) = none) ∧ (∀ x, AV.owner (.agg x) = none) ∧ (∀ x, AV.owner (.tuple x) = none) ∧ (∀ f c, AV.owner (.fn f c) = none) ∧ (∀ x q, AV.owner (.h x q) = some x) :=
  ⟨rfl, fun _ => rfl, rfl, fun _ _ => rfl, fun _ => rfl, rfl, rfl, fun _ => rfl, fun _ _ => rfl, fun _ => rfl, fun _ => rfl, fun _ => rfl, fun _ => rfl, fun _ _ => rfl, fun _ _ => rfl⟩
theorem notF : (¬ False) = True := not_false_eq_true
theorem notT : (¬ True) = False := not_true_eq_false
def V0 := PLift.up (And.intro own_o <| And.intro notF <| And.intro notT <| And.intro @ifT (And.intro @ifF (And.intro @beqT (And.intro @neT W0.down))))
def V1 := PLift.up (And.intro own_o <| And.intro notF <| And.intro notT <| And.intro @ifT (And.intro @ifF (And.intro @beqT (And.intro @neT W1.down))))
def VN := PLift.up (And.intro @ifT (And.intro @ifF WN.down))

/-- An operation that answers and has no guard. -/
abbrev ro (d : Nat) (so : SO) : RO := ⟨some d, so, none⟩

/-- What a body owes, with its result variables in sight. -/
theorem OkAt.of_wpR {C : Cx} (hC : C.Ok) {f : FuncId} {fn : Func} {c : Code} {sc : SC} {fx : List Nat} {as outs : List AV} {r : AV} (rv : List ResultVar) (l : List (Nat × AV)) (hf : C.P.funcs[f]? = some fn) (hb : fn.body = some c)
    (hname : (fn.name == "runtime.NumGoroutine") = false) (hs : slimC ⟨fn.ntmps, fx⟩ c = some sc.strip) (hn : as.length ≤ fn.ntmps) (hrv : fn.results.toList = rv) (hl : num 0 as = l)
    (h : ∀ Q : Exit → St → Prop, (∀ s, onW (Ends C fx rv r outs) s → Q .ret s) → (∀ s, onW (Ends C fx rv r outs) s → Q .normal s) → wpC C sc Q (stA l)) (hp : sc.plain = true := by kernel_rfl) : OkAt C f as r outs := by
  subst hrv hl
  exact OkAt.of_wpQ hC hf hb hname hs hn h hp
theorem OkSelf.of_wpR {C : Cx} (hC : C.Ok) {f : FuncId} {fn : Func} {c : Code} {sc : SC} {fx : List Nat} {as outs : List AV} {r : AV} {k m : Nat} (rv : List ResultVar) (l : List (Nat × AV)) (hf : C.P.funcs[f]? = some fn) (hb : fn.body = some c)
    (hname : (fn.name == "runtime.NumGoroutine") = false) (hs : slimC ⟨fn.ntmps, fx⟩ c = some sc.strip) (hn : as.length ≤ fn.ntmps) (hk : sc.hook (SelfOk C f fx as.length m k)) (hrv : fn.results.toList = rv) (hl : num 0 as = l)
    (h : ∀ Q : Exit → St → Prop, (∀ s, onW (Ends C fx rv r outs) s → Q .ret s) → (∀ s, onW (Ends C fx rv r outs) s → Q .normal s) → wpC C sc Q (stA l)) : OkSelf C f m k as r outs := by
  subst hrv hl
  exact OkSelf.of_wp hC hf hb hname hs hn hk h
theorem OkAt.of_tailR {C : Cx} (hC : C.Ok) {f : FuncId} {fn : Func} {c : Code} {sc : SC} {fx : List Nat} {as outs : List AV} {r : AV} (rv : List ResultVar) (l : List (Nat × AV)) (hf : C.P.funcs[f]? = some fn) (hb : fn.body = some c)
    (hname : (fn.name == "runtime.NumGoroutine") = false) (hs : slimC ⟨fn.ntmps, fx⟩ c = some sc.strip) (hn : as.length ≤ fn.ntmps) (hk : sc.hook (TailOk C)) (hrv : fn.results.toList = rv) (hl : num 0 as = l)
    (h : ∀ Q : Exit → St → Prop, (∀ s, onW (Ends C fx rv r outs) s → Q .ret s) → (∀ s, onW (Ends C fx rv r outs) s → Q .normal s) → wpC C sc Q (stA l)) : OkAt C f as r outs := by
  subst hrv hl
  exact OkAt.of_tail hC hf hb hname hs hn hk h

end Go.Fw
