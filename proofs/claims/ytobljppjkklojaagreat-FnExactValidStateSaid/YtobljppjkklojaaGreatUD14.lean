/- Part of a proof that a law returns true for every input. No condition. -/
import Derived.Test.YtobljppjkklojaaGreatUD8
namespace Go.Sh
open Go Go.Fw
def dataOk (a : List Int) : Bool := allN (fun i => inR (a.getD i 0) 0 63) a.length
theorem spec_data (a : List Int) (h : a.length ≤ 1048576) : spec_l03Data a = some (dataOk a) := by
 unfold spec_l03Data
 refine all_loop (l := fun m i => spec_l03Data_l6 a m i) _ (fun m => ?_) (fun i hi m => ?_)
 ·simp only [spec_l03Data_l6, spec_l03Data_b6]
  rw [ltF (Nat.le_refl _)]; rfl
 ·simp only [spec_l03Data_l6, spec_l03Data_b6, spec_l00In]
  rw [ltT hi, getI_nat _ i 0 hi, wsucc i _ hi (by omega)]
  simp only [cond_true, Option.bind_some]
  show cond (!inR (a.getD i 0) 0 63) _ _ = _
  cases inR (a.getD i 0) 0 63 <;> rfl
theorem impl_data (a : List Int) (h : a.length ≤ 1048576) : impl_areValues a = some (dataOk a) := by
 unfold impl_areValues slices_ContainsFunc_int64_int64__impl_areValues_c1 slices_IndexFunc_int64_int64__impl_areValues_c1
 rw [find_loop (n := a.length) (fun i => !inR (a.getD i 0) 0 63)]
 ·simp only [Option.bind_some, findN_ge, Bool.not_not]; rfl
 ·intro m
  simp only [slices_IndexFunc_int64_int64__impl_areValues_c1_l6, slices_IndexFunc_int64_int64__impl_areValues_c1_b6]
  rw [ltF (Nat.le_refl _)]; rfl
 ·intro i hi m
  simp only [slices_IndexFunc_int64_int64__impl_areValues_c1_l6, slices_IndexFunc_int64_int64__impl_areValues_c1_b6]
  rw [ltT hi, getI_nat _ i 0 hi, wsucc i _ hi (by omega)]
  simp only [cond_true, Option.bind_some, impl_areValues_c1, impl_isValue, impl_within]
  rfl
end Go.Sh
