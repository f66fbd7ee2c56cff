/- Part of a proof that a law returns true for every input. No condition. -/
import Derived.Test.YtjedocbdhlppdaaFwJ
namespace Go.b7
section
variable {C : bp} {w0 w : World} {F0 X F aY : Nat → Prop} {S az : Nat → Nat → Prop} {n : Fr} {ρ : Nat → Value} {s aj : ad} {al gx : Nat → Value} {a : Act} {av : j} {Q : Exit → Act → World → Prop} {ao : World}
theorem ba.off (h : ba w0 F0 X F S s al w) {b : Nat} (bz : w0.heap.size ≤ b) (aN : ¬ F b) (aZ : ∀ u, ¬ S u b) (hw : ∀ c, c ≠ b → ao.heap[c]? = w.heap[c]?) (R : ao.heap.size = w.heap.size)
  (U : ao.os = w.os) (aa : ao.tape = w.tape) (au : ao.output = w.output) : ba w0 F0 X F S s al ao where
 eF := h.eF
 eW := h.eW
 dg := fun c ag => by rw [R]; exact h.dg c ag
 cZ := fun t c ag => by rw [R]; exact h.cZ t c ag
 dz := h.dz
 dt := h.dt
 cq := h.cq
 cl := fun t => ar.frame (Sx := S) (fun c ag => hw c (fun e => aN (e ▸ ag))) (fun _ h => h) (fun x c ag => hw c (fun e => aZ x (e ▸ ag))) h.cl _ _ _ (fun c ag => hw c (fun e => aZ t (e ▸ ag))) (h.cl t)
 old := fun c ag gj => (hw c (by omega)).trans (h.old c ag gj)
 size := by rw [R]; exact h.size
 os := U.trans h.os
 tape := aa.trans h.tape
 output := au.trans h.output
theorem vt {ops : Array Oper} {r : bm} {o : Oper} (aT : r.guard = none) (h : kO n ops o = some r.un) : r.dst = o.dst ∧ o.guard = none ∧ mc o.op = r.aV.base ∧ ib n o.dst = true := by
 unfold kO at h
 split at h
 ·rename_i ab
  split at h
  ·rename_i qG ed
   simp only [bm.un, Option.some.injEq, bm.mk.injEq] at h
   obtain ⟨aE, aI, bg⟩ := h
   refine ⟨aE.symm, ?_, aI, ab⟩
   rw [bg, aT] at ed
   cases bq : o.guard with
   | none => rfl
   | some uP =>
     rw [bq] at ed; simp only [qj] at ed; split at ed <;> cases ed
  ·cases h
 ·cases h
end
end Go.b7
