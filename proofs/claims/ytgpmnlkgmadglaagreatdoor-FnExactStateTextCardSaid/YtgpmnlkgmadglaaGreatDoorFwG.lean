/- Part of a proof that a law returns true for every input. No condition. -/
import Derived.Test.YtgpmnlkgmadglaaGreatDoorFwF
import Derived.Below
import Derived.ChangeShapes
import Derived.ChangeMaps5
namespace Go.c0
def F0 (w : World) : Nat → Prop := fun b => b < w.heap.size
def Arg (w : World) (a : I) (v : Value) : Prop := a.tree = true ∧ eo a v ∧ au w (F0 w) a (cr v) (fun _ => False)
inductive r4 (w : World) : List I → List Value → Prop
 | nil : r4 w [] []
 | cons {a : I} {v : Value} {as : List I} {vs : List Value} : Arg w a v → r4 w as vs → r4 w (a :: as) (v :: vs)
theorem r4.get {w : World} {as : List I} {vs : List Value} (h : r4 w as vs) : vs.length = as.length ∧ ∀ i, as.getD i .hole = .hole ∨ Arg w (as.getD i .hole) (vs.getD i undef) := by
 induction h with
 | nil => exact ⟨rfl, fun i => .inl rfl⟩
 | cons h _ ih =>
   refine ⟨by simp [ih.1], fun i => ?_⟩
   cases i with
   | zero => exact .inr h
   | succ i => simpa using ih.2 i
theorem Sv {w : World} {as : List I} {vs : List Value} (h : r4 w as vs) : bP w (F0 w) (fun _ => False) (F0 w) (fun _ _ => False) (gm as) (hE vs) w := by
 refine ⟨fun _ h => h, fun _ h => .inl h, fun _ h => h, fun _ _ h => h.elim, fun _ _ h => h.elim, fun _ _ _ _ h => h.elim, fun _ _ h => h.elim, fun t => ?_, fun _ _ _ => rfl, Nat.le_refl _, rfl, rfl, rfl⟩
 show aG w (F0 w) (gm as) (hE vs) (as.getD t .hole) (vs.getD t undef) (fun _ => False)
 rcases h.get.2 t with e | ⟨ag, ah, aI⟩
 ·rw [e, aG]; trivial
 ·exact (aG.cJ ag).2 ⟨ah, aI⟩
theorem bh.law {C : ck} {f : FuncId} {fn : Func} {c : Code} {as : List I} {vs : List Value} {w : World} (h : bh C f as (.bool true) []) (br : C.P.funcs[f]? = some fn) (ab : fn.body = some c)
  (kt : (fn.name == "runtime.NumGoroutine") = false) (b_ : r4 w as vs) : Calls C.P f vs.toArray w fun e aL => e = .returned (.bool true) ∧ RowKit.Below w.heap.size w aL := by
 have DT : fn.name ≠ "runtime.NumGoroutine" := by simpa using kt
 rcases h w _ _ _ vs b_.get.1 (Sv b_) with ⟨_, ah⟩ | ⟨v, aL, ag, _⟩
 ·refine ah.mono ?_
  rintro e aL ⟨v, rfl, bL, aT, aV⟩
  have aN := aV.dC 0
  have : aG aL bL (gm [I.bool true]) (hE (v :: vs)) (.bool true) v (aT 0) := aN
  have ab := rv this
  subst ab
  exact ⟨rfl, aV.os, aV.tape, aV.output, aV.size, fun k az => aV.old k az (fun h => h)⟩
 ·simp [callFunc, br, DT, ab] at ag
section
variable {H : Type} {enc : TypeId × Value → H} {P : Program} {w : World} {t : TypeId} {v : Value} {d : DataW H} {ps : List MemPlace} {base kc : Nat} {sp : Nat → Bool} {held : Bool} {r : Reach}
theorem wf_i64 {n : Int} (h : (Lit.int .i64 n).wf = true) : -9223372036854775808 ≤ n ∧ n ≤ 9223372036854775807 := by
 simp [Lit.wf, IntKind.min, IntKind.max, IntKind.signed, IntKind.bits] at h; omega
end
end Go.c0
