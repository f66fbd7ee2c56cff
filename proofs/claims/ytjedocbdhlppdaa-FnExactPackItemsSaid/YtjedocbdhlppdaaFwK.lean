/- Part of a proof that a law returns true for every input. No condition. -/
import Derived.Test.YtjedocbdhlppdaaFwJ
namespace Go.b1
section
variable {C : bl} {w0 w : World} {F0 X F aT : Nat → Prop} {S az : Nat → Nat → Prop} {n : Fr} {ρ : Nat → Value} {s ah : ae} {ak gf : Nat → Value} {a : Act} {av : j} {Q : Exit → Act → World → Prop} {an : World}
theorem aZ.off (h : aZ w0 F0 X F S s ak w) {b : Nat} (bk : w0.heap.size ≤ b) (aK : ¬ F b) (aU : ∀ u, ¬ S u b) (hw : ∀ c, c ≠ b → an.heap[c]? = w.heap[c]?) (R : an.heap.size = w.heap.size)
  (U : an.os = w.os) (aa : an.tape = w.tape) (aw : an.output = w.output) : aZ w0 F0 X F S s ak an where
 ei := h.ei
 eD := h.eD
 c6 := fun c af => by rw [R]; exact h.c6 c af
 cL := fun t c af => by rw [R]; exact h.cL t c af
 dk := h.dk
 de := h.de
 cf := h.cf
 cb := fun t => ar.frame (Sx := S) (fun c af => hw c (fun e => aK (e ▸ af))) (fun _ h => h) (fun x c af => hw c (fun e => aU x (e ▸ af))) h.cb _ _ _ (fun c af => hw c (fun e => aU t (e ▸ af))) (h.cb t)
 old := fun c af fO => (hw c (by omega)).trans (h.old c af fO)
 size := by rw [R]; exact h.size
 os := U.trans h.os
 tape := aa.trans h.tape
 output := aw.trans h.output
theorem uJ {ops : Array Oper} {r : bf} {o : Oper} (aN : r.guard = none) (h : ka n ops o = some r.un) : r.dst = o.dst ∧ o.guard = none ∧ ly o.op = r.aQ.base ∧ hF n o.dst = true := by
 unfold ka at h
 split at h
 ·rename_i ab
  split at h
  ·rename_i p8 dP
   simp only [bf.un, Option.some.injEq, bf.mk.injEq] at h
   obtain ⟨aC, aF, a6⟩ := h
   refine ⟨aC.symm, ?_, aF, ab⟩
   rw [a6, aN] at dP
   cases bo : o.guard with
   | none => rfl
   | some tQ =>
     rw [bo] at dP; simp only [pO] at dP; split at dP <;> cases dP
  ·cases h
 ·cases h
end
end Go.b1
