/- Part of a proof that a law returns true for every input. No condition. -/
import Derived.Test.YtjedocbdhlppdaaFwJ
namespace Go.dp
section
variable {C : b1} {w0 w : World} {F0 X F bO : Nat → Prop} {S aU : Nat → Nat → Prop} {n : Fr} {ρ : Nat → Value} {s aC : ao} {aE jF : Nat → Value} {a : Act} {av : j} {Q : Exit → Act → World → Prop} {aS : World}
theorem bU.off (h : bU w0 F0 X F S s aE w) {b : Nat} (bM : w0.heap.size ≤ b) (bE : ¬ F b) (b9 : ∀ u, ¬ S u b) (hw : ∀ c, c ≠ b → aS.heap[c]? = w.heap[c]?) (ab : aS.heap.size = w.heap.size)
  (ag : aS.os = w.os) (ah : aS.tape = w.tape) (aM : aS.output = w.output) : bU w0 F0 X F S s aE aS where
 hp := h.hp
 hJ := h.hJ
 fU := fun c az => by rw [ab]; exact h.fU c az
 eX := fun t c az => by rw [ab]; exact h.eX t c az
 ga := h.ga
 fJ := h.fJ
 dW := h.dW
 dJ := fun t => aL.frame (Sx := S) (fun c az => hw c (fun e => bE (e ▸ az))) (fun _ h => h) (fun x c az => hw c (fun e => b9 x (e ▸ az))) h.dJ _ _ _ (fun c az => hw c (fun e => b9 t (e ▸ az))) (h.dJ t)
 old := fun c az kp => (hw c (by omega)).trans (h.old c az kp)
 size := by rw [ab]; exact h.size
 os := ag.trans h.os
 tape := ah.trans h.tape
 output := aM.trans h.output
theorem B4 {ops : Array Oper} {r : cA} {o : Oper} (bQ : r.guard = none) (h : n7 n ops o = some r.un) : r.dst = o.dst ∧ o.guard = none ∧ pw o.op = r.bz.base ∧ ll n o.dst = true := by
 unfold n7 at h
 split at h
 ·rename_i ak
  split at h
  ·rename_i Pk g9
   simp only [cA.un, Option.some.injEq, cA.mk.injEq] at h
   obtain ⟨a1, bg, bf⟩ := h
   refine ⟨a1.symm, ?_, bg, ak⟩
   rw [bf, bQ] at g9
   cases cr : o.guard with
   | none => rfl
   | some Bk =>
     rw [cr] at g9; simp only [uE] at g9; split at g9 <;> cases g9
  ·cases h
 ·cases h
end
end Go.dp
