/- Part of a proof that a law returns true for every input. No condition. -/
import Derived.Test.YtjedocbdhlppdaaFwF
import Derived.Below
import Derived.ChangeShapes
import Derived.ChangeMaps5
namespace Go.b7
def F0 (w : World) : Nat → Prop := fun b => b < w.heap.size
def Arg (w : World) (a : j) (v : Value) : Prop := a.tree = true ∧ cA a v ∧ ai w (F0 w) a (br v) (fun _ => False)
inductive nD (w : World) : List j → List Value → Prop
 | nil : nD w [] []
 | cons {a : j} {v : Value} {as : List j} {vs : List Value} : Arg w a v → nD w as vs → nD w (a :: as) (v :: vs)
theorem nD.get {w : World} {as : List j} {vs : List Value} (h : nD w as vs) : vs.length = as.length ∧ ∀ i, as.getD i .hole = .hole ∨ Arg w (as.getD i .hole) (vs.getD i undef) := by
 induction h with
 | nil => exact ⟨rfl, fun i => .inl rfl⟩
 | cons h _ ih =>
   refine ⟨by simp [ih.1], fun i => ?_⟩
   cases i with
   | zero => exact .inr h
   | succ i => simpa using ih.2 i
theorem FR {w : World} {as : List j} {vs : List Value} (h : nD w as vs) : ba w (F0 w) (fun _ => False) (F0 w) (fun _ _ => False) (dL as) (eQ vs) w := by
 refine ⟨fun _ h => h, fun _ h => .inl h, fun _ h => h, fun _ _ h => h.elim, fun _ _ h => h.elim, fun _ _ _ _ h => h.elim, fun _ _ h => h.elim, fun t => ?_, fun _ _ _ => rfl, Nat.le_refl _, rfl, rfl, rfl⟩
 show ar w (F0 w) (dL as) (eQ vs) (as.getD t .hole) (vs.getD t undef) (fun _ => False)
 rcases h.get.2 t with e | ⟨U, aa, au⟩
 ·rw [e, ar]; trivial
 ·exact (ar.bE U).2 ⟨aa, au⟩
theorem b5.law {C : bp} {f : FuncId} {fn : Func} {c : Code} {as : List j} {vs : List Value} {w : World} (h : b5 C f as (.bool true) []) (bo : C.P.funcs[f]? = some fn) (J : fn.body = some c)
  (ie : (fn.name == "runtime.NumGoroutine") = false) (bB : nD w as vs) : Calls C.P f vs.toArray w fun e ao => e = .returned (.bool true) ∧ RowKit.Below w.heap.size w ao := by
 have uZ : fn.name ≠ "runtime.NumGoroutine" := by simpa using ie
 rcases h w _ _ _ vs bB.get.1 (FR bB) with ⟨_, aa⟩ | ⟨v, ao, U, _⟩
 ·refine aa.mono ?_
  rintro e ao ⟨v, rfl, aY, az, aD⟩
  have aC := aD.cl 0
  have : ar ao aY (dL [j.bool true]) (eQ (v :: vs)) (.bool true) v (az 0) := aC
  have J := m5 this
  subst J
  exact ⟨rfl, aD.os, aD.tape, aD.output, aD.size, fun k ah => aD.old k ah (fun h => h)⟩
 ·simp [callFunc, bo, uZ, J] at U
section
variable {H : Type} {enc : TypeId × Value → H} {P : Program} {w : World} {t : TypeId} {v : Value} {d : DataW H} {ps : List MemPlace} {base hp : Nat} {sp : Nat → Bool} {held : Bool} {r : Reach}
theorem arg_str (aG : P.underlying t = some .string) (ns : Value.okWide P w r hp t v) (ab : DataW.Trod enc P w base sp held t v d ps) : ∃ s : List UInt8, Arg w (.str s) v ∧ s.length ≤ maxLen := by
 obtain ⟨s, rfl, _, _, R⟩ := ChangeMaps.open_string aG ns ab
 exact ⟨s.data.toList, ⟨rfl, rfl, by simp only [br, fg]; rw [ai]⟩, R⟩
end
end Go.b7
