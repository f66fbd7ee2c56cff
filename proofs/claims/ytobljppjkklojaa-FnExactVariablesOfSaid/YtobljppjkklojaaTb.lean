/- Part of a proof that a law returns true for every input. No condition. -/
import Derived.Test.YtobljppjkklojaaProg
import Derived.KernelRfl
import Derived.Test.YtobljppjkklojaaFwF
namespace Go.Proofs.Ytobljppjkklojaa
open Go.Fw

def T : TypeId → TI
  | 2 => ⟨.int .i64, 1, 8, (.int .i64 0)⟩
  | 3 => ⟨.int .i64, 1, 8, (.int .i64 0)⟩
  | 4 => ⟨.bool, 1, 1, (.bool false)⟩
  | 36 => ⟨.slice 133, 1, 24, .nils⟩
  | 40 => ⟨.slice 131, 1, 24, .nils⟩
  | 68 => ⟨.slice 2, 1, 24, .nils⟩
  | 131 => ⟨.struct [(2, 0), (2, 1)], 2, 16, (.agg [(.int .i64 0), (.int .i64 0)])⟩
  | 133 => ⟨.struct [(2, 0), (2, 1)], 2, 16, (.agg [(.int .i64 0), (.int .i64 0)])⟩
  | 232 => ⟨.ptr 131, 1, 8, .nilp⟩
  | _ => ⟨.other, 0, 0, .hole⟩

theorem T_ok : ∀ t, okT Try.prog t (T t) := by
  intro t
  unfold T
  split
  · exact .inr ⟨Try.t2, _, _, by kernel_rfl, rfl, rfl, rfl, (fun cs h => by cases h; rfl), Try.underlying2, rfl⟩
  · exact .inr ⟨Try.t3, _, _, by kernel_rfl, rfl, rfl, rfl, (fun cs h => by cases h; rfl), Try.underlying3, rfl⟩
  · exact .inr ⟨Try.t4, _, _, by kernel_rfl, rfl, rfl, rfl, (fun cs h => by cases h; rfl), Try.underlying4, trivial⟩
  · exact .inr ⟨Try.t36, _, _, by kernel_rfl, rfl, rfl, rfl, (fun cs h => by cases h; rfl), Try.underlying36, rfl⟩
  · exact .inr ⟨Try.t40, _, _, by kernel_rfl, rfl, rfl, rfl, (fun cs h => by cases h; rfl), Try.underlying40, rfl⟩
  · exact .inr ⟨Try.t68, _, _, by kernel_rfl, rfl, rfl, rfl, (fun cs h => by cases h; rfl), Try.underlying68, rfl⟩
  · exact .inr ⟨Try.t131, _, _, by kernel_rfl, rfl, rfl, rfl, (fun cs h => by cases h; rfl), Try.underlying131, rfl⟩
  · exact .inr ⟨Try.t133, _, _, by kernel_rfl, rfl, rfl, rfl, (fun cs h => by cases h; rfl), Try.underlying133, rfl⟩
  · exact .inr ⟨Try.t232, _, _, by kernel_rfl, rfl, rfl, rfl, (fun cs h => by cases h; rfl), Try.underlying232, rfl⟩

  · exact .inl ⟨_, _, _, _, rfl, rfl⟩

noncomputable def Cc : Cx := ⟨Try.prog, T, fun _ => []⟩
theorem Cc_ok : Cc.Ok := ⟨T_ok, by kernel_rfl⟩
theorem tt2 : Cc.T 2 = ⟨.int .i64, 1, 8, (.int .i64 0)⟩ := rfl
theorem tt3 : Cc.T 3 = ⟨.int .i64, 1, 8, (.int .i64 0)⟩ := rfl
theorem tt4 : Cc.T 4 = ⟨.bool, 1, 1, (.bool false)⟩ := rfl
theorem tt36 : Cc.T 36 = ⟨.slice 133, 1, 24, .nils⟩ := rfl
theorem tt40 : Cc.T 40 = ⟨.slice 131, 1, 24, .nils⟩ := rfl
theorem tt68 : Cc.T 68 = ⟨.slice 2, 1, 24, .nils⟩ := rfl
theorem tt131 : Cc.T 131 = ⟨.struct [(2, 0), (2, 1)], 2, 16, (.agg [(.int .i64 0), (.int .i64 0)])⟩ := rfl
theorem tt133 : Cc.T 133 = ⟨.struct [(2, 0), (2, 1)], 2, 16, (.agg [(.int .i64 0), (.int .i64 0)])⟩ := rfl
theorem tt232 : Cc.T 232 = ⟨.ptr 131, 1, 8, .nilp⟩ := rfl

end Go.Proofs.Ytobljppjkklojaa
