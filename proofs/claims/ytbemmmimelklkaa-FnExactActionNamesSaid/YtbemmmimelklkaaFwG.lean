/- Part of a proof that a law returns true for every input. No condition. -/
import Derived.Test.YtbemmmimelklkaaFwF
import Derived.Below
import Derived.ChangeShapes
import Derived.ChangeMaps5
namespace Go.cB
def F0 (w : World) : Nat → Prop := fun b => b < w.heap.size
def Arg (w : World) (a : I) (v : Value) : Prop := a.tree = true ∧ du a v ∧ ax w (F0 w) a (cm v) (fun _ => False)
inductive p8 (w : World) : List I → List Value → Prop
 | nil : p8 w [] []
 | cons {a : I} {v : Value} {as : List I} {vs : List Value} : Arg w a v → p8 w as vs → p8 w (a :: as) (v :: vs)
theorem p8.get {w : World} {as : List I} {vs : List Value} (h : p8 w as vs) : vs.length = as.length ∧ ∀ i, as.getD i .hole = .hole ∨ Arg w (as.getD i .hole) (vs.getD i undef) := by
 induction h with
 | nil => exact ⟨rfl, fun i => .inl rfl⟩
 | cons h _ ih =>
   refine ⟨by simp [ih.1], fun i => ?_⟩
   cases i with
   | zero => exact .inr h
   | succ i => simpa using ih.2 i
theorem MY {w : World} {as : List I} {vs : List Value} (h : p8 w as vs) : bE w (F0 w) (fun _ => False) (F0 w) (fun _ _ => False) (e3 as) (gv vs) w := by
 refine ⟨fun _ h => h, fun _ h => .inl h, fun _ h => h, fun _ _ h => h.elim, fun _ _ h => h.elim, fun _ _ _ _ h => h.elim, fun _ _ h => h.elim, fun t => ?_, fun _ _ _ => rfl, Nat.le_refl _, rfl, rfl, rfl⟩
 show aH w (F0 w) (e3 as) (gv vs) (as.getD t .hole) (vs.getD t undef) (fun _ => False)
 rcases h.get.2 t with e | ⟨ab, af, aF⟩
 ·rw [e, aH]; trivial
 ·exact (aH.cv ab).2 ⟨af, aF⟩
theorem aU.law {C : bZ} {f : FuncId} {fn : Func} {c : Code} {as : List I} {vs : List Value} {w : World} (h : aU C f as (.bool true) []) (bB : C.P.funcs[f]? = some fn) (U : fn.body = some c)
  (jJ : (fn.name == "runtime.NumGoroutine") = false) (b7 : p8 w as vs) : Calls C.P f vs.toArray w fun e aD => e = .returned (.bool true) ∧ RowKit.Below w.heap.size w aD := by
 have AH : fn.name ≠ "runtime.NumGoroutine" := by simpa using jJ
 rcases h w _ _ _ vs b7.get.1 (MY b7) with ⟨_, af⟩ | ⟨v, aD, ab, _⟩
 ·refine af.mono ?_
  rintro e aD ⟨v, rfl, bI, aL, aO⟩
  have aK := aO.da 0
  have : aH aD bI (e3 [I.bool true]) (gv (v :: vs)) (.bool true) v (aL 0) := aK
  have U := pz this
  subst U
  exact ⟨rfl, aO.os, aO.tape, aO.output, aO.size, fun k ay => aO.old k ay (fun h => h)⟩
 ·simp [callFunc, bB, AH, U] at ab
section
variable {H : Type} {enc : TypeId × Value → H} {P : Program} {w : World} {t : TypeId} {v : Value} {d : DataW H} {ps : List MemPlace} {base iZ : Nat} {sp : Nat → Bool} {held : Bool} {r : Reach}
theorem MZ {k : IntKind} (aZ : P.underlying t = some (.int k)) (nm : Value.okWide P w r iZ t v) (ah : DataW.Trod enc P w base sp held t v d ps) : ∃ n, Arg w (.int k n) v ∧ (Lit.int k n).wf = true := by
 obtain ⟨n, rfl, _, _, hw⟩ := ChangeShapes.open_int aZ nm ah
 exact ⟨n, ⟨rfl, rfl, by simp only [cm, gJ]; rw [ax]⟩, hw⟩
theorem wf_i64 {n : Int} (h : (Lit.int .i64 n).wf = true) : -9223372036854775808 ≤ n ∧ n ≤ 9223372036854775807 := by
 simp [Lit.wf, IntKind.min, IntKind.max, IntKind.signed, IntKind.bits] at h; omega
end
end Go.cB
