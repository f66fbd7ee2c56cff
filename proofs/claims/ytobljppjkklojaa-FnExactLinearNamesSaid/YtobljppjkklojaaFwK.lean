/- Part of a proof that a law returns true for every input. No condition. -/
import Derived.Test.YtobljppjkklojaaFwJ
namespace Go.cM
section
variable {C : bN} {w0 w : World} {F0 X F bA : Nat → Prop} {S aH : Nat → Nat → Prop} {n : Fr} {ρ : Nat → Value} {s ak : ag} {au gy : Nat → Value} {a : Act} {av : j} {Q : Exit → Act → World → Prop} {aB : World}
theorem bB.off (h : bB w0 F0 X F S s au w) {b : Nat} (bp : w0.heap.size ≤ b) (bg : ¬ F b) (bE : ∀ u, ¬ S u b) (hw : ∀ c, c ≠ b → aB.heap[c]? = w.heap[c]?) (U : aB.heap.size = w.heap.size)
  (aa : aB.os = w.os) (ab : aB.tape = w.tape) (aE : aB.output = w.output) : bB w0 F0 X F S s au aB where
 gb := h.gb
 gz := h.gz
 e0 := fun c aj => by rw [U]; exact h.e0 c aj
 dP := fun t c aj => by rw [U]; exact h.dP t c aj
 e7 := h.e7
 eT := h.eT
 dd := h.dd
 c7 := fun t => aF.frame (Sx := S) (fun c aj => hw c (fun e => bg (e ▸ aj))) (fun _ h => h) (fun x c aj => hw c (fun e => bE x (e ▸ aj))) h.c7 _ _ _ (fun c aj => hw c (fun e => bE t (e ▸ aj))) (h.c7 t)
 old := fun c aj iG => (hw c (by omega)).trans (h.old c aj iG)
 size := by rw [U]; exact h.size
 os := aa.trans h.os
 tape := ab.trans h.tape
 output := aE.trans h.output
theorem yH {ops : Array Oper} {r : cq} {o : Oper} (bH : r.guard = none) (h : mE n ops o = some r.un) : r.dst = o.dst ∧ o.guard = none ∧ nH o.op = r.bd.base ∧ j0 n o.dst = true := by
 unfold mE at h
 split at h
 ·rename_i af
  split at h
  ·rename_i Kz fR
   simp only [cq.un, Option.some.injEq, cq.mk.injEq] at h
   obtain ⟨aJ, aT, bb⟩ := h
   refine ⟨aJ.symm, ?_, aT, af⟩
   rw [bb, bH] at fR
   cases bP : o.guard with
   | none => rfl
   | some x1 =>
     rw [bP] at fR; simp only [r9] at fR; split at fR <;> cases fR
  ·cases h
 ·cases h
end
end Go.cM
