/- Part of a proof that a law returns true for every input. No condition. -/
import Derived.Test.YtbemmmimelklkaaGreatFwF
import Derived.Below
import Derived.ChangeShapes
import Derived.ChangeMaps5
namespace Go.dg
def F0 (w : World) : Nat → Prop := fun b => b < w.heap.size
def Arg (w : World) (a : I) (v : Value) : Prop := a.tree = true ∧ eL a v ∧ aC w (F0 w) a (cV v) (fun _ => False)
inductive rZ (w : World) : List I → List Value → Prop
 | nil : rZ w [] []
 | cons {a : I} {v : Value} {as : List I} {vs : List Value} : Arg w a v → rZ w as vs → rZ w (a :: as) (v :: vs)
theorem rZ.get {w : World} {as : List I} {vs : List Value} (h : rZ w as vs) : vs.length = as.length ∧ ∀ i, as.getD i .hole = .hole ∨ Arg w (as.getD i .hole) (vs.getD i undef) := by
 induction h with
 | nil => exact ⟨rfl, fun i => .inl rfl⟩
 | cons h _ ih =>
   refine ⟨by simp [ih.1], fun i => ?_⟩
   cases i with
   | zero => exact .inr h
   | succ i => simpa using ih.2 i
theorem Rb {w : World} {as : List I} {vs : List Value} (h : rZ w as vs) : bT w (F0 w) (fun _ => False) (F0 w) (fun _ _ => False) (gf as) (hL vs) w := by
 refine ⟨fun _ h => h, fun _ h => .inl h, fun _ h => h, fun _ _ h => h.elim, fun _ _ h => h.elim, fun _ _ _ _ h => h.elim, fun _ _ h => h.elim, fun t => ?_, fun _ _ _ => rfl, Nat.le_refl _, rfl, rfl, rfl⟩
 show aV w (F0 w) (gf as) (hL vs) (as.getD t .hole) (vs.getD t undef) (fun _ => False)
 rcases h.get.2 t with e | ⟨ai, aj, aP⟩
 ·rw [e, aV]; trivial
 ·exact (aV.da ai).2 ⟨aj, aP⟩
theorem aT.law {C : cn} {f : FuncId} {fn : Func} {c : Code} {as : List I} {vs : List Value} {w : World} (h : aT C f as (.bool true) []) (bF : C.P.funcs[f]? = some fn) (ae : fn.body = some c)
  (k3 : (fn.name == "runtime.NumGoroutine") = false) (cw : rZ w as vs) : Calls C.P f vs.toArray w fun e aS => e = .returned (.bool true) ∧ RowKit.Below w.heap.size w aS := by
 have D8 : fn.name ≠ "runtime.NumGoroutine" := by simpa using k3
 rcases h w _ _ _ vs cw.get.1 (Rb cw) with ⟨_, aj⟩ | ⟨v, aS, ai, _⟩
 ·refine aj.mono ?_
  rintro e aS ⟨v, rfl, bV, a1, a7⟩
  have a2 := a7.en 0
  have : aV aS bV (gf [I.bool true]) (hL (v :: vs)) (.bool true) v (a1 0) := a2
  have ae := rm this
  subst ae
  exact ⟨rfl, a7.os, a7.tape, a7.output, a7.size, fun k aE => a7.old k aE (fun h => h)⟩
 ·simp [callFunc, bF, D8, ae] at ai
section
variable {H : Type} {enc : TypeId × Value → H} {P : Program} {w : World} {t : TypeId} {v : Value} {d : DataW H} {ps : List MemPlace} {base kA : Nat} {sp : Nat → Bool} {held : Bool} {r : Reach}
theorem wf_i64 {n : Int} (h : (Lit.int .i64 n).wf = true) : -9223372036854775808 ≤ n ∧ n ≤ 9223372036854775807 := by
 simp [Lit.wf, IntKind.min, IntKind.max, IntKind.signed, IntKind.bits] at h; omega
end
end Go.dg
