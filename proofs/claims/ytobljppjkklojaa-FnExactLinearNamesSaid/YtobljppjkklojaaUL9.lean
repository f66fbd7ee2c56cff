/- Part of a proof that a law returns true for every input. No condition. -/
import Derived.Test.YtobljppjkklojaaUL1
import Derived.Test.YtobljppjkklojaaUT
namespace Go.fH
open Go Go.cM
theorem FT (es : List (List a2)) (h : c8 (fun x : List a2 => x.length + 0) es ≤ 1048576) : zK es :=
 ⟨Nat.le_trans (mR _ _) h, fun t aP => by
  have := rp (f := fun x : List a2 => x.length + 0) aP
  simp only [Nat.add_zero] at this h
  omega⟩
theorem ZC (l : dM) (h : lN l ≤ 1048576) : zL l := by
 unfold lN at h
 have U : c8 ho l.cG ≤ 1048576 := by omega
 refine ⟨by omega, Nat.le_trans (mR _ _) U, fun x ai => ?_⟩
 have hm := rp (f := ho) ai
 have ZD : ho x ≤ 1048576 := by omega
 unfold ho at ZD
 exact ⟨by omega, by omega, by omega, FT _ (by omega), FT _ (by omega)⟩
end Go.fH
