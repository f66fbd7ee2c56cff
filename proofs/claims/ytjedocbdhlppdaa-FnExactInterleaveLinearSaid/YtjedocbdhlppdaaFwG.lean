/- Part of a proof that a law returns true for every input. No condition. -/
import Derived.Test.YtjedocbdhlppdaaFwF
import Derived.Below
import Derived.ChangeShapes
import Derived.ChangeMaps5
namespace Go.dp
def F0 (w : World) : Nat → Prop := fun b => b < w.heap.size
def Arg (w : World) (a : j) (v : Value) : Prop := a.tree = true ∧ dT a v ∧ ax w (F0 w) a (cp v) (fun _ => False)
inductive q9 (w : World) : List j → List Value → Prop
 | nil : q9 w [] []
 | cons {a : j} {v : Value} {as : List j} {vs : List Value} : Arg w a v → q9 w as vs → q9 w (a :: as) (v :: vs)
theorem q9.get {w : World} {as : List j} {vs : List Value} (h : q9 w as vs) : vs.length = as.length ∧ ∀ i, as.getD i .hole = .hole ∨ Arg w (as.getD i .hole) (vs.getD i undef) := by
 induction h with
 | nil => exact ⟨rfl, fun i => .inl rfl⟩
 | cons h _ ih =>
   refine ⟨by simp [ih.1], fun i => ?_⟩
   cases i with
   | zero => exact .inr h
   | succ i => simpa using ih.2 i
theorem OW {w : World} {as : List j} {vs : List Value} (h : q9 w as vs) : bU w (F0 w) (fun _ => False) (F0 w) (fun _ _ => False) (fP as) (ha vs) w := by
 refine ⟨fun _ h => h, fun _ h => .inl h, fun _ h => h, fun _ _ h => h.elim, fun _ _ h => h.elim, fun _ _ _ _ h => h.elim, fun _ _ h => h.elim, fun t => ?_, fun _ _ _ => rfl, Nat.le_refl _, rfl, rfl, rfl⟩
 show aL w (F0 w) (fP as) (ha vs) (as.getD t .hole) (vs.getD t undef) (fun _ => False)
 rcases h.get.2 t with e | ⟨ag, ah, aM⟩
 ·rw [e, aL]; trivial
 ·exact (aL.cJ ag).2 ⟨ah, aM⟩
theorem a0.law {C : b1} {f : FuncId} {fn : Func} {c : Code} {as : List j} {vs : List Value} {w : World} (h : a0 C f as (.bool true) []) (bY : C.P.funcs[f]? = some fn) (U : fn.body = some c)
  (lo : (fn.name == "runtime.NumGoroutine") = false) (bX : q9 w as vs) : Calls C.P f vs.toArray w fun e aS => e = .returned (.bool true) ∧ RowKit.Below w.heap.size w aS := by
 have Br : fn.name ≠ "runtime.NumGoroutine" := by simpa using lo
 rcases h w _ _ _ vs bX.get.1 (OW bX) with ⟨_, ah⟩ | ⟨v, aS, ag, _⟩
 ·refine ah.mono ?_
  rintro e aS ⟨v, rfl, bO, aU, a2⟩
  have aQ := a2.dJ 0
  have : aL aS bO (fP [j.bool true]) (ha (v :: vs)) (.bool true) v (aU 0) := aQ
  have U := qG this
  subst U
  exact ⟨rfl, a2.os, a2.tape, a2.output, a2.size, fun k aB => a2.old k aB (fun h => h)⟩
 ·simp [callFunc, bY, Br, U] at ag
section
variable {H : Type} {enc : TypeId × Value → H} {P : Program} {w : World} {t : TypeId} {v : Value} {d : DataW H} {ps : List MemPlace} {base j7 : Nat} {sp : Nat → Bool} {held : Bool} {r : Reach}
theorem wf_i64 {n : Int} (h : (Lit.int .i64 n).wf = true) : -9223372036854775808 ≤ n ∧ n ≤ 9223372036854775807 := by
 simp [Lit.wf, IntKind.min, IntKind.max, IntKind.signed, IntKind.bits] at h; omega
end
end Go.dp
