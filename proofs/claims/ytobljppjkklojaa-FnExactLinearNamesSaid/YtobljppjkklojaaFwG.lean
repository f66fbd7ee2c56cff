/- Part of a proof that a law returns true for every input. No condition. -/
import Derived.Test.YtobljppjkklojaaFwF
import Derived.Below
import Derived.ChangeShapes
import Derived.ChangeMaps5
namespace Go.cM
def F0 (w : World) : Nat → Prop := fun b => b < w.heap.size
def Arg (w : World) (a : j) (v : Value) : Prop := a.tree = true ∧ dt a v ∧ aq w (F0 w) a (ch v) (fun _ => False)
inductive o7 (w : World) : List j → List Value → Prop
 | nil : o7 w [] []
 | cons {a : j} {v : Value} {as : List j} {vs : List Value} : Arg w a v → o7 w as vs → o7 w (a :: as) (v :: vs)
theorem o7.get {w : World} {as : List j} {vs : List Value} (h : o7 w as vs) : vs.length = as.length ∧ ∀ i, as.getD i .hole = .hole ∨ Arg w (as.getD i .hole) (vs.getD i undef) := by
 induction h with
 | nil => exact ⟨rfl, fun i => .inl rfl⟩
 | cons h _ ih =>
   refine ⟨by simp [ih.1], fun i => ?_⟩
   cases i with
   | zero => exact .inr h
   | succ i => simpa using ih.2 i
theorem J9 {w : World} {as : List j} {vs : List Value} (h : o7 w as vs) : bB w (F0 w) (fun _ => False) (F0 w) (fun _ _ => False) (eI as) (fS vs) w := by
 refine ⟨fun _ h => h, fun _ h => .inl h, fun _ h => h, fun _ _ h => h.elim, fun _ _ h => h.elim, fun _ _ _ _ h => h.elim, fun _ _ h => h.elim, fun t => ?_, fun _ _ _ => rfl, Nat.le_refl _, rfl, rfl, rfl⟩
 show aF w (F0 w) (eI as) (fS vs) (as.getD t .hole) (vs.getD t undef) (fun _ => False)
 rcases h.get.2 t with e | ⟨aa, ab, aE⟩
 ·rw [e, aF]; trivial
 ·exact (aF.cr aa).2 ⟨ab, aE⟩
theorem aX.law {C : bN} {f : FuncId} {fn : Func} {c : Code} {as : List j} {vs : List Value} {w : World} (h : aX C f as (.bool true) []) (bL : C.P.funcs[f]? = some fn) (J : fn.body = some c)
  (kI : (fn.name == "runtime.NumGoroutine") = false) (b1 : o7 w as vs) : Calls C.P f vs.toArray w fun e aB => e = .returned (.bool true) ∧ RowKit.Below w.heap.size w aB := by
 have x_ : fn.name ≠ "runtime.NumGoroutine" := by simpa using kI
 rcases h w _ _ _ vs b1.get.1 (J9 b1) with ⟨_, ab⟩ | ⟨v, aB, aa, _⟩
 ·refine ab.mono ?_
  rintro e aB ⟨v, rfl, bA, aH, aO⟩
  have aG := aO.c7 0
  have : aF aB bA (eI [j.bool true]) (fS (v :: vs)) (.bool true) v (aH 0) := aG
  have J := oA this
  subst J
  exact ⟨rfl, aO.os, aO.tape, aO.output, aO.size, fun k aw => aO.old k aw (fun h => h)⟩
 ·simp [callFunc, bL, x_, J] at aa
section
variable {H : Type} {enc : TypeId × Value → H} {P : Program} {w : World} {t : TypeId} {v : Value} {d : DataW H} {ps : List MemPlace} {base iW : Nat} {sp : Nat → Bool} {held : Bool} {r : Reach}
theorem wf_i64 {n : Int} (h : (Lit.int .i64 n).wf = true) : -9223372036854775808 ≤ n ∧ n ≤ 9223372036854775807 := by
 simp [Lit.wf, IntKind.min, IntKind.max, IntKind.signed, IntKind.bits] at h; omega
end
end Go.cM
