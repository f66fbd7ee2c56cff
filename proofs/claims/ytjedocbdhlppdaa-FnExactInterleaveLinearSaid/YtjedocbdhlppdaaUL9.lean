/- Part of a proof that a law returns true for every input. No condition. -/
import Derived.Test.YtjedocbdhlppdaaUL1
import Derived.Test.YtjedocbdhlppdaaUT
namespace Go.gV
open Go Go.dp
theorem Ku (es : List (List aA)) (h : gY (fun x : List aA => x.length + 0) es ≤ 1048576) : ou es :=
 ⟨Nat.le_trans (qj _ _) h, fun t a3 => by
  have := tF (f := fun x : List aA => x.length + 0) a3
  simp only [Nat.add_zero] at this h
  omega⟩
theorem Kv (l : bc) (h : kl l ≤ 1048576) : k5 l := by
 unfold kl at h
 have ab : gY jl l.bG ≤ 1048576 := by omega
 refine ⟨by omega, Nat.le_trans (qj _ _) ab, fun x aw => ?_⟩
 have hm := tF (f := jl) aw
 have tH : jl x ≤ 1048576 := by omega
 unfold jl at tH
 exact ⟨by omega, by omega, by omega, Ku _ (by omega), Ku _ (by omega)⟩
end Go.gV
