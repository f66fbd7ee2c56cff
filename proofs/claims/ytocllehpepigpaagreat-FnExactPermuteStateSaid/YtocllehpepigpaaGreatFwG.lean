/- Part of a proof that a law returns true for every input. No condition. -/
import Derived.Test.YtocllehpepigpaaGreatFwF
import Derived.Below
import Derived.ChangeShapes
import Derived.ChangeMaps5
namespace Go.dg
def F0 (w : World) : Nat → Prop := fun b => b < w.heap.size
def Arg (w : World) (a : I) (v : Value) : Prop := a.tree = true ∧ eN a v ∧ aw w (F0 w) a (cL v) (fun _ => False)
inductive sZ (w : World) : List I → List Value → Prop
 | nil : sZ w [] []
 | cons {a : I} {v : Value} {as : List I} {vs : List Value} : Arg w a v → sZ w as vs → sZ w (a :: as) (v :: vs)
theorem sZ.get {w : World} {as : List I} {vs : List Value} (h : sZ w as vs) : vs.length = as.length ∧ ∀ i, as.getD i .hole = .hole ∨ Arg w (as.getD i .hole) (vs.getD i undef) := by
 induction h with
 | nil => exact ⟨rfl, fun i => .inl rfl⟩
 | cons h _ ih =>
   refine ⟨by simp [ih.1], fun i => ?_⟩
   cases i with
   | zero => exact .inr h
   | succ i => simpa using ih.2 i
theorem Us {w : World} {as : List I} {vs : List Value} (h : sZ w as vs) : b9 w (F0 w) (fun _ => False) (F0 w) (fun _ _ => False) (g6 as) (ib vs) w := by
 refine ⟨fun _ h => h, fun _ h => .inl h, fun _ h => h, fun _ _ h => h.elim, fun _ _ h => h.elim, fun _ _ _ _ h => h.elim, fun _ _ h => h.elim, fun t => ?_, fun _ _ _ => rfl, Nat.le_refl _, rfl, rfl, rfl⟩
 show aM w (F0 w) (g6 as) (ib vs) (as.getD t .hole) (vs.getD t undef) (fun _ => False)
 rcases h.get.2 t with e | ⟨ae, ah, aH⟩
 ·rw [e, aM]; trivial
 ·exact (aM.c0 ae).2 ⟨ah, aH⟩
theorem bm.law {C : cE} {f : FuncId} {fn : Func} {c : Code} {as : List I} {vs : List Value} {w : World} (h : bm C f as (.bool true) []) (bF : C.P.funcs[f]? = some fn) (ad : fn.body = some c)
  (k1 : (fn.name == "runtime.NumGoroutine") = false) (cJ : sZ w as vs) : Calls C.P f vs.toArray w fun e aO => e = .returned (.bool true) ∧ RowKit.Below w.heap.size w aO := by
 have FH : fn.name ≠ "runtime.NumGoroutine" := by simpa using k1
 rcases h w _ _ _ vs cJ.get.1 (Us cJ) with ⟨_, ah⟩ | ⟨v, aO, ae, _⟩
 ·refine ah.mono ?_
  rintro e aO ⟨v, rfl, b7, aX, aZ⟩
  have aQ := aZ.eg 0
  have : aM aO b7 (g6 [I.bool true]) (ib (v :: vs)) (.bool true) v (aX 0) := aQ
  have ad := sr this
  subst ad
  exact ⟨rfl, aZ.os, aZ.tape, aZ.output, aZ.size, fun k aA => aZ.old k aA (fun h => h)⟩
 ·simp [callFunc, bF, FH, ad] at ae
section
variable {H : Type} {enc : TypeId × Value → H} {P : Program} {w : World} {t : TypeId} {v : Value} {d : DataW H} {ps : List MemPlace} {base ky : Nat} {sp : Nat → Bool} {held : Bool} {r : Reach}
theorem wf_i64 {n : Int} (h : (Lit.int .i64 n).wf = true) : -9223372036854775808 ≤ n ∧ n ≤ 9223372036854775807 := by
 simp [Lit.wf, IntKind.min, IntKind.max, IntKind.signed, IntKind.bits] at h; omega
end
end Go.dg
