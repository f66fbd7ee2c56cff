/- Part of a proof that a law returns true for every input. No condition. -/
import Derived.Test.YtobljppjkklojaaFwJ
namespace Go.Fw
section
variable {C : Cx} {w0 w : World} {F0 X F F' : Nat → Prop} {S S' : Nat → Nat → Prop} {n : Fr} {ρ : Nat → Value} {s s' : St} {tm tm' : Nat → Value} {a : Act} {av : AV} {Q : Exit → Act → World → Prop} {w' : World}
theorem RelX.off (h : RelX w0 F0 X F S s tm w) {b : Nat} (h0 : w0.heap.size ≤ b) (hF : ¬ F b) (hS : ∀ u, ¬ S u b) (hw : ∀ c, c ≠ b → w'.heap[c]? = w.heap[c]?) (hs : w'.heap.size = w.heap.size)
  (h1 : w'.os = w.os) (h2 : w'.tape = w.tape) (h3 : w'.output = w.output) : RelX w0 F0 X F S s tm w' where
 F0F := h.F0F
 FF0 := h.FF0
 Flt := fun c hc => by rw [hs]; exact h.Flt c hc
 Slt := fun t c hc => by rw [hs]; exact h.Slt t c hc
 SF := h.SF
 SS := h.SS
 S0 := h.S0
 sv := fun t => SV.frame (Sx := S) (fun c hc => hw c (fun e => hF (e ▸ hc))) (fun _ h => h) (fun x c hc => hw c (fun e => hS x (e ▸ hc))) h.sv _ _ _ (fun c hc => hw c (fun e => hS t (e ▸ hc))) (h.sv t)
 old := fun c hc hX => (hw c (by omega)).trans (h.old c hc hX)
 size := by rw [hs]; exact h.size
 os := h1.trans h.os
 tape := h2.trans h.tape
 output := h3.trans h.output
theorem slimR_E {ops : Array Oper} {r : RO} {o : Oper} (hg : r.guard = none) (h : slimR n ops o = some r.un) : r.dst = o.dst ∧ o.guard = none ∧ slimB o.op = r.so.base ∧ dstOk n o.dst = true := by
 unfold slimR at h
 split at h
 ·rename_i hd
  split at h
  ·rename_i g' hg'
   simp only [RO.un, Option.some.injEq, RO.mk.injEq] at h
   obtain ⟨e1, e2, e3⟩ := h
   refine ⟨e1.symm, ?_, e2, hd⟩
   rw [e3, hg] at hg'
   cases ho : o.guard with
   | none => rfl
   | some jb =>
     rw [ho] at hg'; simp only [slimG] at hg'; split at hg' <;> cases hg'
  ·cases h
 ·cases h
end
end Go.Fw
