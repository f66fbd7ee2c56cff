/- Part of a proof that a law returns true for every input. No condition. -/
import Derived.Test.YtobljppjkklojaaProg
import Derived.KernelRfl
import Derived.Test.YtobljppjkklojaaFwF
namespace Go.Proofs.Ytobljppjkklojaa
open Go.Fw

def T : TypeId → TI
  | 2 => ⟨.int .i64, 1, 8, (.int .i64 0)⟩
  | 3 => ⟨.int .i64, 1, 8, (.int .i64 0)⟩
  | 4 => ⟨.bool, 1, 1, (.bool false)⟩
  | 5 => ⟨.int .u8, 1, 1, (.int .u8 0)⟩
  | 9 => ⟨.str, 1, 16, (.str [])⟩
  | 32 => ⟨.slice 120, 1, 24, .nils⟩
  | 68 => ⟨.slice 2, 1, 24, .nils⟩
  | 107 => ⟨.slice 5, 1, 24, .nils⟩
  | 120 => ⟨.struct [(4, 0), (4, 1), (68, 2)], 3, 32, (.agg [(.bool false), (.bool false), .nils])⟩
  | 122 => ⟨.ptr 124, 1, 8, .nilp⟩
  | 124 => ⟨.struct [(107, 0)], 1, 24, (.agg [.nils])⟩
  | 150 => ⟨.ptr 155, 1, 8, .nilp⟩
  | 155 => ⟨.struct [(9, 0), (3, 1), (4, 2)], 3, 32, (.agg [(.str []), (.int .i64 0), (.bool false)])⟩
  | 156 => ⟨.ptr 160, 1, 8, .nilp⟩
  | 160 => ⟨.struct [(9, 0), (4, 1)], 2, 24, (.agg [(.str []), (.bool false)])⟩
  | 192 => ⟨.fn, 1, 8, .hole⟩
  | 228 => ⟨.fn, 1, 8, .hole⟩
  | _ => ⟨.other, 0, 0, .hole⟩

theorem T_ok : ∀ t, okT Try.prog t (T t) := by
  intro t
  unfold T
  split
  · exact .inr ⟨Try.t2, _, _, by kernel_rfl, rfl, rfl, rfl, (fun cs h => by cases h; rfl), Try.underlying2, rfl⟩
  · exact .inr ⟨Try.t3, _, _, by kernel_rfl, rfl, rfl, rfl, (fun cs h => by cases h; rfl), Try.underlying3, rfl⟩
  · exact .inr ⟨Try.t4, _, _, by kernel_rfl, rfl, rfl, rfl, (fun cs h => by cases h; rfl), Try.underlying4, trivial⟩
  · exact .inr ⟨Try.t5, _, _, by kernel_rfl, rfl, rfl, rfl, (fun cs h => by cases h; rfl), Try.underlying5, rfl⟩
  · exact .inr ⟨Try.t9, _, _, by kernel_rfl, rfl, rfl, rfl, (fun cs h => by cases h; rfl), Try.underlying9, trivial⟩
  · exact .inr ⟨Try.t32, _, _, by kernel_rfl, rfl, rfl, rfl, (fun cs h => by cases h; rfl), Try.underlying32, rfl⟩
  · exact .inr ⟨Try.t68, _, _, by kernel_rfl, rfl, rfl, rfl, (fun cs h => by cases h; rfl), Try.underlying68, rfl⟩
  · exact .inr ⟨Try.t107, _, _, by kernel_rfl, rfl, rfl, rfl, (fun cs h => by cases h; rfl), Try.underlying107, rfl⟩
  · exact .inr ⟨Try.t120, _, _, by kernel_rfl, rfl, rfl, rfl, (fun cs h => by cases h; rfl), Try.underlying120, rfl⟩
  · exact .inr ⟨Try.t122, _, _, by kernel_rfl, rfl, rfl, rfl, (fun cs h => by cases h; rfl), Try.underlying122, rfl⟩
  · exact .inr ⟨Try.t124, _, _, by kernel_rfl, rfl, rfl, rfl, (fun cs h => by cases h; rfl), Try.underlying124, rfl⟩
  · exact .inr ⟨Try.t150, _, _, by kernel_rfl, rfl, rfl, rfl, (fun cs h => by cases h; rfl), Try.underlying150, rfl⟩
  · exact .inr ⟨Try.t155, _, _, by kernel_rfl, rfl, rfl, rfl, (fun cs h => by cases h; rfl), Try.underlying155, rfl⟩
  · exact .inr ⟨Try.t156, _, _, by kernel_rfl, rfl, rfl, rfl, (fun cs h => by cases h; rfl), Try.underlying156, rfl⟩
  · exact .inr ⟨Try.t160, _, _, by kernel_rfl, rfl, rfl, rfl, (fun cs h => by cases h; rfl), Try.underlying160, rfl⟩
  · exact .inr ⟨Try.t192, _, _, by kernel_rfl, rfl, rfl, rfl, (fun cs h => by cases h), Try.underlying192, trivial⟩
  · exact .inr ⟨Try.t228, _, _, by kernel_rfl, rfl, rfl, rfl, (fun cs h => by cases h), Try.underlying228, trivial⟩

  · exact .inl ⟨_, _, _, _, rfl, rfl⟩

noncomputable def Cc : Cx := ⟨Try.prog, T, fun _ => []⟩
theorem Cc_ok : Cc.Ok := ⟨T_ok, by kernel_rfl⟩
theorem tt2 : Cc.T 2 = ⟨.int .i64, 1, 8, (.int .i64 0)⟩ := rfl
theorem tt3 : Cc.T 3 = ⟨.int .i64, 1, 8, (.int .i64 0)⟩ := rfl
theorem tt4 : Cc.T 4 = ⟨.bool, 1, 1, (.bool false)⟩ := rfl
theorem tt5 : Cc.T 5 = ⟨.int .u8, 1, 1, (.int .u8 0)⟩ := rfl
theorem tt9 : Cc.T 9 = ⟨.str, 1, 16, (.str [])⟩ := rfl
theorem tt32 : Cc.T 32 = ⟨.slice 120, 1, 24, .nils⟩ := rfl
theorem tt68 : Cc.T 68 = ⟨.slice 2, 1, 24, .nils⟩ := rfl
theorem tt107 : Cc.T 107 = ⟨.slice 5, 1, 24, .nils⟩ := rfl
theorem tt120 : Cc.T 120 = ⟨.struct [(4, 0), (4, 1), (68, 2)], 3, 32, (.agg [(.bool false), (.bool false), .nils])⟩ := rfl
theorem tt122 : Cc.T 122 = ⟨.ptr 124, 1, 8, .nilp⟩ := rfl
theorem tt124 : Cc.T 124 = ⟨.struct [(107, 0)], 1, 24, (.agg [.nils])⟩ := rfl
theorem tt150 : Cc.T 150 = ⟨.ptr 155, 1, 8, .nilp⟩ := rfl
theorem tt155 : Cc.T 155 = ⟨.struct [(9, 0), (3, 1), (4, 2)], 3, 32, (.agg [(.str []), (.int .i64 0), (.bool false)])⟩ := rfl
theorem tt156 : Cc.T 156 = ⟨.ptr 160, 1, 8, .nilp⟩ := rfl
theorem tt160 : Cc.T 160 = ⟨.struct [(9, 0), (4, 1)], 2, 24, (.agg [(.str []), (.bool false)])⟩ := rfl
theorem tt192 : Cc.T 192 = ⟨.fn, 1, 8, .hole⟩ := rfl
theorem tt228 : Cc.T 228 = ⟨.fn, 1, 8, .hole⟩ := rfl

end Go.Proofs.Ytobljppjkklojaa
