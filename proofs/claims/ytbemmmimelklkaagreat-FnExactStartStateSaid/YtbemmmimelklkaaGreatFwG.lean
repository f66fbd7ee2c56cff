/- Part of a proof that a law returns true for every input. No condition. -/
import Derived.Test.YtbemmmimelklkaaGreatFwF
import Derived.Below
import Derived.ChangeShapes
import Derived.ChangeMaps5
namespace Go.dk
def F0 (w : World) : Nat → Prop := fun b => b < w.heap.size
def Arg (w : World) (a : I) (v : Value) : Prop := a.tree = true ∧ eN a v ∧ aB w (F0 w) a (cY v) (fun _ => False)
inductive rI (w : World) : List I → List Value → Prop
 | nil : rI w [] []
 | cons {a : I} {v : Value} {as : List I} {vs : List Value} : Arg w a v → rI w as vs → rI w (a :: as) (v :: vs)
theorem rI.get {w : World} {as : List I} {vs : List Value} (h : rI w as vs) : vs.length = as.length ∧ ∀ i, as.getD i .hole = .hole ∨ Arg w (as.getD i .hole) (vs.getD i undef) := by
 induction h with
 | nil => exact ⟨rfl, fun i => .inl rfl⟩
 | cons h _ ih =>
   refine ⟨by simp [ih.1], fun i => ?_⟩
   cases i with
   | zero => exact .inr h
   | succ i => simpa using ih.2 i
theorem QM {w : World} {as : List I} {vs : List Value} (h : rI w as vs) : bW w (F0 w) (fun _ => False) (F0 w) (fun _ _ => False) (gd as) (hI vs) w := by
 refine ⟨fun _ h => h, fun _ h => .inl h, fun _ h => h, fun _ _ h => h.elim, fun _ _ h => h.elim, fun _ _ _ _ h => h.elim, fun _ _ h => h.elim, fun t => ?_, fun _ _ _ => rfl, Nat.le_refl _, rfl, rfl, rfl⟩
 show aW w (F0 w) (gd as) (hI vs) (as.getD t .hole) (vs.getD t undef) (fun _ => False)
 rcases h.get.2 t with e | ⟨ai, aj, aQ⟩
 ·rw [e, aW]; trivial
 ·exact (aW.da ai).2 ⟨aj, aQ⟩
theorem aR.law {C : ck} {f : FuncId} {fn : Func} {c : Code} {as : List I} {vs : List Value} {w : World} (h : aR C f as (.bool true) []) (bH : C.P.funcs[f]? = some fn) (ae : fn.body = some c)
  (kU : (fn.name == "runtime.NumGoroutine") = false) (cw : rI w as vs) : Calls C.P f vs.toArray w fun e aU => e = .returned (.bool true) ∧ RowKit.Below w.heap.size w aU := by
 have DI : fn.name ≠ "runtime.NumGoroutine" := by simpa using kU
 rcases h w _ _ _ vs cw.get.1 (QM cw) with ⟨_, aj⟩ | ⟨v, aU, ai, _⟩
 ·refine aj.mono ?_
  rintro e aU ⟨v, rfl, b0, a1, a7⟩
  have a3 := a7.eu 0
  have : aW aU b0 (gd [I.bool true]) (hI (v :: vs)) (.bool true) v (a1 0) := a3
  have ae := q1 this
  subst ae
  exact ⟨rfl, a7.os, a7.tape, a7.output, a7.size, fun k aE => a7.old k aE (fun h => h)⟩
 ·simp [callFunc, bH, DI, ae] at ai
section
variable {H : Type} {enc : TypeId × Value → H} {P : Program} {w : World} {t : TypeId} {v : Value} {d : DataW H} {ps : List MemPlace} {base kv : Nat} {sp : Nat → Bool} {held : Bool} {r : Reach}
theorem wf_i64 {n : Int} (h : (Lit.int .i64 n).wf = true) : -9223372036854775808 ≤ n ∧ n ≤ 9223372036854775807 := by
 simp [Lit.wf, IntKind.min, IntKind.max, IntKind.signed, IntKind.bits] at h; omega
end
end Go.dk
