/- Part of a proof that a law returns true for every input. No condition. -/
import Derived.Test.YtbemmmimelklkaaGreatFwF
import Derived.Below
import Derived.ChangeShapes
import Derived.ChangeMaps5
namespace Go.c5
def F0 (w : World) : Nat → Prop := fun b => b < w.heap.size
def Arg (w : World) (a : I) (v : Value) : Prop := a.tree = true ∧ eI a v ∧ aB w (F0 w) a (c1 v) (fun _ => False)
inductive sC (w : World) : List I → List Value → Prop
 | nil : sC w [] []
 | cons {a : I} {v : Value} {as : List I} {vs : List Value} : Arg w a v → sC w as vs → sC w (a :: as) (v :: vs)
theorem sC.get {w : World} {as : List I} {vs : List Value} (h : sC w as vs) : vs.length = as.length ∧ ∀ i, as.getD i .hole = .hole ∨ Arg w (as.getD i .hole) (vs.getD i undef) := by
 induction h with
 | nil => exact ⟨rfl, fun i => .inl rfl⟩
 | cons h _ ih =>
   refine ⟨by simp [ih.1], fun i => ?_⟩
   cases i with
   | zero => exact .inr h
   | succ i => simpa using ih.2 i
theorem Td {w : World} {as : List I} {vs : List Value} (h : sC w as vs) : bZ w (F0 w) (fun _ => False) (F0 w) (fun _ _ => False) (gC as) (hL vs) w := by
 refine ⟨fun _ h => h, fun _ h => .inl h, fun _ h => h, fun _ _ h => h.elim, fun _ _ h => h.elim, fun _ _ _ _ h => h.elim, fun _ _ h => h.elim, fun t => ?_, fun _ _ _ => rfl, Nat.le_refl _, rfl, rfl, rfl⟩
 show aY w (F0 w) (gC as) (hL vs) (as.getD t .hole) (vs.getD t undef) (fun _ => False)
 rcases h.get.2 t with e | ⟨af, ai, aN⟩
 ·rw [e, aY]; trivial
 ·exact (aY.c9 af).2 ⟨ai, aN⟩
theorem aQ.law {C : cw} {f : FuncId} {fn : Func} {c : Code} {as : List I} {vs : List Value} {w : World} (h : aQ C f as (.bool true) []) (bJ : C.P.funcs[f]? = some fn) (ad : fn.body = some c)
  (lb : (fn.name == "runtime.NumGoroutine") = false) (cz : sC w as vs) : Calls C.P f vs.toArray w fun e aP => e = .returned (.bool true) ∧ RowKit.Below w.heap.size w aP := by
 have Fm : fn.name ≠ "runtime.NumGoroutine" := by simpa using lb
 rcases h w _ _ _ vs cz.get.1 (Td cz) with ⟨_, ai⟩ | ⟨v, aP, af, _⟩
 ·refine ai.mono ?_
  rintro e aP ⟨v, rfl, b9, a7, bb⟩
  have aR := bb.ee 0
  have : aY aP b9 (gC [I.bool true]) (hL (v :: vs)) (.bool true) v (a7 0) := aR
  have ad := r4 this
  subst ad
  exact ⟨rfl, bb.os, bb.tape, bb.output, bb.size, fun k aD => bb.old k aD (fun h => h)⟩
 ·simp [callFunc, bJ, Fm, ad] at af
section
variable {H : Type} {enc : TypeId × Value → H} {P : Program} {w : World} {t : TypeId} {v : Value} {d : DataW H} {ps : List MemPlace} {base kH : Nat} {sp : Nat → Bool} {held : Bool} {r : Reach}
theorem wf_i64 {n : Int} (h : (Lit.int .i64 n).wf = true) : -9223372036854775808 ≤ n ∧ n ≤ 9223372036854775807 := by
 simp [Lit.wf, IntKind.min, IntKind.max, IntKind.signed, IntKind.bits] at h; omega
end
end Go.c5
