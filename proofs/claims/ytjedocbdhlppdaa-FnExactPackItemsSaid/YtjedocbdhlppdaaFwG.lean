/- Part of a proof that a law returns true for every input. No condition. -/
import Derived.Test.YtjedocbdhlppdaaFwF
import Derived.Below
import Derived.ChangeShapes
import Derived.ChangeMaps5
namespace Go.b1
def F0 (w : World) : Nat → Prop := fun b => b < w.heap.size
def Arg (w : World) (a : j) (v : Value) : Prop := a.tree = true ∧ cp a v ∧ ag w (F0 w) a (bj v) (fun _ => False)
inductive mQ (w : World) : List j → List Value → Prop
 | nil : mQ w [] []
 | cons {a : j} {v : Value} {as : List j} {vs : List Value} : Arg w a v → mQ w as vs → mQ w (a :: as) (v :: vs)
theorem mQ.get {w : World} {as : List j} {vs : List Value} (h : mQ w as vs) : vs.length = as.length ∧ ∀ i, as.getD i .hole = .hole ∨ Arg w (as.getD i .hole) (vs.getD i undef) := by
 induction h with
 | nil => exact ⟨rfl, fun i => .inl rfl⟩
 | cons h _ ih =>
   refine ⟨by simp [ih.1], fun i => ?_⟩
   cases i with
   | zero => exact .inr h
   | succ i => simpa using ih.2 i
theorem EA {w : World} {as : List j} {vs : List Value} (h : mQ w as vs) : aZ w (F0 w) (fun _ => False) (F0 w) (fun _ _ => False) (dw as) (ew vs) w := by
 refine ⟨fun _ h => h, fun _ h => .inl h, fun _ h => h, fun _ _ h => h.elim, fun _ _ h => h.elim, fun _ _ _ _ h => h.elim, fun _ _ h => h.elim, fun t => ?_, fun _ _ _ => rfl, Nat.le_refl _, rfl, rfl, rfl⟩
 show ar w (F0 w) (dw as) (ew vs) (as.getD t .hole) (vs.getD t undef) (fun _ => False)
 rcases h.get.2 t with e | ⟨U, aa, aw⟩
 ·rw [e, ar]; trivial
 ·exact (ar.bt U).2 ⟨aa, aw⟩
theorem b3.law {C : bl} {f : FuncId} {fn : Func} {c : Code} {as : List j} {vs : List Value} {w : World} (h : b3 C f as (.bool true) []) (bb : C.P.funcs[f]? = some fn) (J : fn.body = some c)
  (hH : (fn.name == "runtime.NumGoroutine") = false) (bs : mQ w as vs) : Calls C.P f vs.toArray w fun e an => e = .returned (.bool true) ∧ RowKit.Below w.heap.size w an := by
 have tZ : fn.name ≠ "runtime.NumGoroutine" := by simpa using hH
 rcases h w _ _ _ vs bs.get.1 (EA bs) with ⟨_, aa⟩ | ⟨v, an, U, _⟩
 ·refine aa.mono ?_
  rintro e an ⟨v, rfl, aT, az, aB⟩
  have aA := aB.cb 0
  have : ar an aT (dw [j.bool true]) (ew (v :: vs)) (.bool true) v (az 0) := aA
  have J := mg this
  subst J
  exact ⟨rfl, aB.os, aB.tape, aB.output, aB.size, fun k ai => aB.old k ai (fun h => h)⟩
 ·simp [callFunc, bb, tZ, J] at U
section
variable {H : Type} {enc : TypeId × Value → H} {P : Program} {w : World} {t : TypeId} {v : Value} {d : DataW H} {ps : List MemPlace} {base gA : Nat} {sp : Nat → Bool} {held : Bool} {r : Reach}
end
end Go.b1
