/- Part of a proof that a law returns true for every input. No condition. -/
import Derived.Test.YtbemmmimelklkaaGreatUP1
namespace Go.fJ
open Go Go.dg
theorem Ny : ∀ (l : List (List Int)), (∀ x ∈ l, x.length = 2) → gA (fun x : List Int => x.length + 0) l = 2 * l.length
 | [], _ => rfl
 | y :: r, h => by
   have ai := Ny r fun x aA => h x (by simp [aA])
   have aj := h y (by simp)
   simp only [gA, List.length_cons]; omega
theorem asp (a : km) (cw : wR a) : Fi a = some true := by
 unfold Fi
 obtain ⟨r, ai, aj⟩ := aum a cw
 rw [ai]
 simp only [Option.bind_some]
 cases a7 : decide (r < 0)
 ·obtain ⟨aP, bb, b5, cF, cq⟩ := aj a7
  have ah : oE (ph a) ≤ 1048576 := by rw [MR]; omega
  rw [aP]
  simp only [cond_false, Option.bind_some]
  generalize ph a = e at bb b5 ah
  obtain ⟨q, iP, bn, dX, b9⟩ := auv e b5
  have dc : dm (fun x : List Int => x.length + 0) q.1 ≤ 192 := by
   have := Ny q.1 b9
   unfold dm; omega
  obtain ⟨fS, fp, g6, kJ, ow, c, cv, fC⟩ := ati e 1 (by omega) (by omega)
  obtain ⟨jS, d, d1, gI, hH⟩ := atk q.1 1 (by omega) (by omega)
  simp only [iP, bn, Option.bind_some, as1 q.1 (by omega), bb, fC, gI, hH, Bool.not_true, bne_self_eq_false, Bool.or_self, cond_false, F9 (k := 1 + (c : Int)) (by omega), F9 (k := 1 + (d : Int)) (by omega)]
 ·rfl
end Go.fJ
