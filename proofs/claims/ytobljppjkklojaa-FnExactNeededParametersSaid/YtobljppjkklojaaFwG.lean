/- Part of a proof that a law returns true for every input. No condition. -/
import Derived.Test.YtobljppjkklojaaFwF
import Derived.Below
import Derived.ChangeShapes
import Derived.ChangeMaps5
namespace Go.Fw
def F0 (w : World) : Nat → Prop := fun b => b < w.heap.size
def Arg (w : World) (a : AV) (v : Value) : Prop := a.tree = true ∧ shp a v ∧ RV w (F0 w) a (vc v) (fun _ => False)
inductive Args (w : World) : List AV → List Value → Prop
 | nil : Args w [] []
 | cons {a : AV} {v : Value} {as : List AV} {vs : List Value} : Arg w a v → Args w as vs → Args w (a :: as) (v :: vs)
theorem Args.get {w : World} {as : List AV} {vs : List Value} (h : Args w as vs) : vs.length = as.length ∧ ∀ i, as.getD i .hole = .hole ∨ Arg w (as.getD i .hole) (vs.getD i undef) := by
 induction h with
 | nil => exact ⟨rfl, fun i => .inl rfl⟩
 | cons h _ ih =>
   refine ⟨by simp [ih.1], fun i => ?_⟩
   cases i with
   | zero => exact .inr h
   | succ i => simpa using ih.2 i
theorem rel0 {w : World} {as : List AV} {vs : List Value} (h : Args w as vs) : RelX w (F0 w) (fun _ => False) (F0 w) (fun _ _ => False) (stL as) (tmL vs) w := by
 refine ⟨fun _ h => h, fun _ h => .inl h, fun _ h => h, fun _ _ h => h.elim, fun _ _ h => h.elim, fun _ _ _ _ h => h.elim, fun _ _ h => h.elim, fun t => ?_, fun _ _ _ => rfl, Nat.le_refl _, rfl, rfl, rfl⟩
 show SV w (F0 w) (stL as) (tmL vs) (as.getD t .hole) (vs.getD t undef) (fun _ => False)
 rcases h.get.2 t with e | ⟨h1, h2, h3⟩
 ·rw [e, SV]; trivial
 ·exact (SV.of_tree h1).2 ⟨h2, h3⟩
theorem OkAt.law {C : Cx} {f : FuncId} {fn : Func} {c : Code} {as : List AV} {vs : List Value} {w : World} (h : OkAt C f as (.bool true) []) (hf : C.P.funcs[f]? = some fn) (hb : fn.body = some c)
  (hname : (fn.name == "runtime.NumGoroutine") = false) (ha : Args w as vs) : Calls C.P f vs.toArray w fun e w' => e = .returned (.bool true) ∧ RowKit.Below w.heap.size w w' := by
 have hname' : fn.name ≠ "runtime.NumGoroutine" := by simpa using hname
 rcases h w _ _ _ vs ha.get.1 (rel0 ha) with ⟨_, h2⟩ | ⟨v, w', h1, _⟩
 ·refine h2.mono ?_
  rintro e w' ⟨v, rfl, F', S', hr⟩
  have hv := hr.sv 0
  have : SV w' F' (stL [AV.bool true]) (tmL (v :: vs)) (.bool true) v (S' 0) := hv
  have hb := sv_bool this
  subst hb
  exact ⟨rfl, hr.os, hr.tape, hr.output, hr.size, fun k hk => hr.old k hk (fun h => h)⟩
 ·simp [callFunc, hf, hname', hb] at h1
section
variable {H : Type} {enc : TypeId × Value → H} {P : Program} {w : World} {t : TypeId} {v : Value} {d : DataW H} {ps : List MemPlace} {base b0 : Nat} {sp : Nat → Bool} {held : Bool} {r : Reach}
theorem wf_i64 {n : Int} (h : (Lit.int .i64 n).wf = true) : -9223372036854775808 ≤ n ∧ n ≤ 9223372036854775807 := by
 simp [Lit.wf, IntKind.min, IntKind.max, IntKind.signed, IntKind.bits] at h; omega
end
end Go.Fw
