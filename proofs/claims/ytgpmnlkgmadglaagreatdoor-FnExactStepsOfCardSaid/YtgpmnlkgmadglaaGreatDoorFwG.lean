/- Part of a proof that a law returns true for every input. No condition. -/
import Derived.Test.YtgpmnlkgmadglaaGreatDoorFwF
import Derived.Below
import Derived.ChangeShapes
import Derived.ChangeMaps5
namespace Go.cY
def F0 (w : World) : Nat → Prop := fun b => b < w.heap.size
def Arg (w : World) (a : I) (v : Value) : Prop := a.tree = true ∧ dT a v ∧ ay w (F0 w) a (cp v) (fun _ => False)
inductive tT (w : World) : List I → List Value → Prop
 | nil : tT w [] []
 | cons {a : I} {v : Value} {as : List I} {vs : List Value} : Arg w a v → tT w as vs → tT w (a :: as) (v :: vs)
theorem tT.get {w : World} {as : List I} {vs : List Value} (h : tT w as vs) : vs.length = as.length ∧ ∀ i, as.getD i .hole = .hole ∨ Arg w (as.getD i .hole) (vs.getD i undef) := by
 induction h with
 | nil => exact ⟨rfl, fun i => .inl rfl⟩
 | cons h _ ih =>
   refine ⟨by simp [ih.1], fun i => ?_⟩
   cases i with
   | zero => exact .inr h
   | succ i => simpa using ih.2 i
theorem Vw {w : World} {as : List I} {vs : List Value} (h : tT w as vs) : bM w (F0 w) (fun _ => False) (F0 w) (fun _ _ => False) (fO as) (hH vs) w := by
 refine ⟨fun _ h => h, fun _ h => .inl h, fun _ h => h, fun _ _ h => h.elim, fun _ _ h => h.elim, fun _ _ _ _ h => h.elim, fun _ _ h => h.elim, fun t => ?_, fun _ _ _ => rfl, Nat.le_refl _, rfl, rfl, rfl⟩
 show aI w (F0 w) (fO as) (hH vs) (as.getD t .hole) (vs.getD t undef) (fun _ => False)
 rcases h.get.2 t with e | ⟨af, ag, aF⟩
 ·rw [e, aI]; trivial
 ·exact (aI.cJ af).2 ⟨ag, aF⟩
theorem bm.law {C : b4} {f : FuncId} {fn : Func} {c : Code} {as : List I} {vs : List Value} {w : World} (h : bm C f as (.bool true) []) (bz : C.P.funcs[f]? = some fn) (aa : fn.body = some c)
  (k6 : (fn.name == "runtime.NumGoroutine") = false) (bF : tT w as vs) : Calls C.P f vs.toArray w fun e aL => e = .returned (.bool true) ∧ RowKit.Below w.heap.size w aL := by
 have Gt : fn.name ≠ "runtime.NumGoroutine" := by simpa using k6
 rcases h w _ _ _ vs bF.get.1 (Vw bF) with ⟨_, ag⟩ | ⟨v, aL, af, _⟩
 ·refine ag.mono ?_
  rintro e aL ⟨v, rfl, bQ, aR, aW⟩
  have aK := aW.dp 0
  have : aI aL bQ (fO [I.bool true]) (hH (v :: vs)) (.bool true) v (aR 0) := aK
  have aa := r3 this
  subst aa
  exact ⟨rfl, aW.os, aW.tape, aW.output, aW.size, fun k ar => aW.old k ar (fun h => h)⟩
 ·simp [callFunc, bz, Gt, aa] at af
section
variable {H : Type} {enc : TypeId × Value → H} {P : Program} {w : World} {t : TypeId} {v : Value} {d : DataW H} {ps : List MemPlace} {base jU : Nat} {sp : Nat → Bool} {held : Bool} {r : Reach}
theorem wf_i64 {n : Int} (h : (Lit.int .i64 n).wf = true) : -9223372036854775808 ≤ n ∧ n ≤ 9223372036854775807 := by
 simp [Lit.wf, IntKind.min, IntKind.max, IntKind.signed, IntKind.bits] at h; omega
end
end Go.cY
