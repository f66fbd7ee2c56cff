/- Part of a proof that a law returns true for every input. No condition. -/
import Derived.Test.YtobljppjkklojaaProg
import Derived.KernelRfl
import Derived.Test.YtobljppjkklojaaFwF
namespace Go.Proofs.Ytobljppjkklojaa
open Go.Fw

def T : TypeId → TI
  | 2 => ⟨.int .i64, 1, 8, (.int .i64 0)⟩
  | 3 => ⟨.int .i64, 1, 8, (.int .i64 0)⟩
  | 4 => ⟨.bool, 1, 1, (.bool false)⟩
  | 5 => ⟨.int .u8, 1, 1, (.int .u8 0)⟩
  | 9 => ⟨.str, 1, 16, (.str [])⟩
  | 36 => ⟨.slice 133, 1, 24, .nils⟩
  | 40 => ⟨.slice 131, 1, 24, .nils⟩
  | 58 => ⟨.slice 167, 1, 24, .nils⟩
  | 62 => ⟨.slice 171, 1, 24, .nils⟩
  | 68 => ⟨.slice 2, 1, 24, .nils⟩
  | 77 => ⟨.struct [(2, 0), (2, 1), (68, 2)], 3, 40, (.agg [(.int .i64 0), (.int .i64 0), .nils])⟩
  | 80 => ⟨.struct [(2, 0), (2, 1), (68, 2)], 3, 40, (.agg [(.int .i64 0), (.int .i64 0), .nils])⟩
  | 128 => ⟨.fn, 1, 8, .hole⟩
  | 131 => ⟨.struct [(2, 0), (2, 1)], 2, 16, (.agg [(.int .i64 0), (.int .i64 0)])⟩
  | 133 => ⟨.struct [(2, 0), (2, 1)], 2, 16, (.agg [(.int .i64 0), (.int .i64 0)])⟩
  | 165 => ⟨.slice 291, 1, 24, .nils⟩
  | 167 => ⟨.struct [(9, 0), (2, 1), (165, 2)], 3, 48, (.agg [(.str []), (.int .i64 0), .nils])⟩
  | 169 => ⟨.slice 249, 1, 24, .nils⟩
  | 171 => ⟨.struct [(9, 0), (2, 1), (169, 2)], 3, 48, (.agg [(.str []), (.int .i64 0), .nils])⟩
  | 173 => ⟨.ptr 171, 1, 8, .nilp⟩
  | 185 => ⟨.struct [(2, 0), (4, 1)], 2, 16, (.agg [(.int .i64 0), (.bool false)])⟩
  | 186 => ⟨.slice 185, 1, 24, .nils⟩
  | 189 => ⟨.ptr 80, 1, 8, .nilp⟩
  | 195 => ⟨.slice 40, 1, 24, .nils⟩
  | 221 => ⟨.ptr 5, 1, 8, .nilp⟩
  | 227 => ⟨.fn, 1, 8, .hole⟩
  | 232 => ⟨.ptr 131, 1, 8, .nilp⟩
  | 247 => ⟨.fn, 1, 8, .hole⟩
  | 249 => ⟨.struct [(2, 0), (2, 1), (9, 2), (195, 3)], 4, 56, (.agg [(.int .i64 0), (.int .i64 0), (.str []), .nils])⟩
  | 256 => ⟨.ptr 249, 1, 8, .nilp⟩
  | 258 => ⟨.fn, 1, 8, .hole⟩
  | 260 => ⟨.slice 36, 1, 24, .nils⟩
  | 267 => ⟨.fn, 1, 8, .hole⟩
  | 281 => ⟨.fn, 1, 8, .hole⟩
  | 291 => ⟨.struct [(2, 0), (2, 1), (9, 2), (260, 3)], 4, 56, (.agg [(.int .i64 0), (.int .i64 0), (.str []), .nils])⟩
  | _ => ⟨.other, 0, 0, .hole⟩

theorem T_ok : ∀ t, okT Try.prog t (T t) := by
  intro t
  unfold T
  split
  · exact .inr ⟨Try.t2, _, _, by kernel_rfl, rfl, rfl, rfl, (fun cs h => by cases h; rfl), Try.underlying2, rfl⟩
  · exact .inr ⟨Try.t3, _, _, by kernel_rfl, rfl, rfl, rfl, (fun cs h => by cases h; rfl), Try.underlying3, rfl⟩
  · exact .inr ⟨Try.t4, _, _, by kernel_rfl, rfl, rfl, rfl, (fun cs h => by cases h; rfl), Try.underlying4, trivial⟩
  · exact .inr ⟨Try.t5, _, _, by kernel_rfl, rfl, rfl, rfl, (fun cs h => by cases h; rfl), Try.underlying5, rfl⟩
  · exact .inr ⟨Try.t9, _, _, by kernel_rfl, rfl, rfl, rfl, (fun cs h => by cases h; rfl), Try.underlying9, trivial⟩
  · exact .inr ⟨Try.t36, _, _, by kernel_rfl, rfl, rfl, rfl, (fun cs h => by cases h; rfl), Try.underlying36, rfl⟩
  · exact .inr ⟨Try.t40, _, _, by kernel_rfl, rfl, rfl, rfl, (fun cs h => by cases h; rfl), Try.underlying40, rfl⟩
  · exact .inr ⟨Try.t58, _, _, by kernel_rfl, rfl, rfl, rfl, (fun cs h => by cases h; rfl), Try.underlying58, rfl⟩
  · exact .inr ⟨Try.t62, _, _, by kernel_rfl, rfl, rfl, rfl, (fun cs h => by cases h; rfl), Try.underlying62, rfl⟩
  · exact .inr ⟨Try.t68, _, _, by kernel_rfl, rfl, rfl, rfl, (fun cs h => by cases h; rfl), Try.underlying68, rfl⟩
  · exact .inr ⟨Try.t77, _, _, by kernel_rfl, rfl, rfl, rfl, (fun cs h => by cases h; rfl), Try.underlying77, rfl⟩
  · exact .inr ⟨Try.t80, _, _, by kernel_rfl, rfl, rfl, rfl, (fun cs h => by cases h; rfl), Try.underlying80, rfl⟩
  · exact .inr ⟨Try.t128, _, _, by kernel_rfl, rfl, rfl, rfl, (fun cs h => by cases h), Try.underlying128, trivial⟩
  · exact .inr ⟨Try.t131, _, _, by kernel_rfl, rfl, rfl, rfl, (fun cs h => by cases h; rfl), Try.underlying131, rfl⟩
  · exact .inr ⟨Try.t133, _, _, by kernel_rfl, rfl, rfl, rfl, (fun cs h => by cases h; rfl), Try.underlying133, rfl⟩
  · exact .inr ⟨Try.t165, _, _, by kernel_rfl, rfl, rfl, rfl, (fun cs h => by cases h; rfl), Try.underlying165, rfl⟩
  · exact .inr ⟨Try.t167, _, _, by kernel_rfl, rfl, rfl, rfl, (fun cs h => by cases h; rfl), Try.underlying167, rfl⟩
  · exact .inr ⟨Try.t169, _, _, by kernel_rfl, rfl, rfl, rfl, (fun cs h => by cases h; rfl), Try.underlying169, rfl⟩
  · exact .inr ⟨Try.t171, _, _, by kernel_rfl, rfl, rfl, rfl, (fun cs h => by cases h; rfl), Try.underlying171, rfl⟩
  · exact .inr ⟨Try.t173, _, _, by kernel_rfl, rfl, rfl, rfl, (fun cs h => by cases h; rfl), Try.underlying173, rfl⟩
  · exact .inr ⟨Try.t185, _, _, by kernel_rfl, rfl, rfl, rfl, (fun cs h => by cases h; rfl), Try.underlying185, rfl⟩
  · exact .inr ⟨Try.t186, _, _, by kernel_rfl, rfl, rfl, rfl, (fun cs h => by cases h; rfl), Try.underlying186, rfl⟩
  · exact .inr ⟨Try.t189, _, _, by kernel_rfl, rfl, rfl, rfl, (fun cs h => by cases h; rfl), Try.underlying189, rfl⟩
  · exact .inr ⟨Try.t195, _, _, by kernel_rfl, rfl, rfl, rfl, (fun cs h => by cases h; rfl), Try.underlying195, rfl⟩
  · exact .inr ⟨Try.t221, _, _, by kernel_rfl, rfl, rfl, rfl, (fun cs h => by cases h; rfl), Try.underlying221, rfl⟩
  · exact .inr ⟨Try.t227, _, _, by kernel_rfl, rfl, rfl, rfl, (fun cs h => by cases h), Try.underlying227, trivial⟩
  · exact .inr ⟨Try.t232, _, _, by kernel_rfl, rfl, rfl, rfl, (fun cs h => by cases h; rfl), Try.underlying232, rfl⟩
  · exact .inr ⟨Try.t247, _, _, by kernel_rfl, rfl, rfl, rfl, (fun cs h => by cases h), Try.underlying247, trivial⟩
  · exact .inr ⟨Try.t249, _, _, by kernel_rfl, rfl, rfl, rfl, (fun cs h => by cases h; rfl), Try.underlying249, rfl⟩
  · exact .inr ⟨Try.t256, _, _, by kernel_rfl, rfl, rfl, rfl, (fun cs h => by cases h; rfl), Try.underlying256, rfl⟩
  · exact .inr ⟨Try.t258, _, _, by kernel_rfl, rfl, rfl, rfl, (fun cs h => by cases h), Try.underlying258, trivial⟩
  · exact .inr ⟨Try.t260, _, _, by kernel_rfl, rfl, rfl, rfl, (fun cs h => by cases h; rfl), Try.underlying260, rfl⟩
  · exact .inr ⟨Try.t267, _, _, by kernel_rfl, rfl, rfl, rfl, (fun cs h => by cases h), Try.underlying267, trivial⟩
  · exact .inr ⟨Try.t281, _, _, by kernel_rfl, rfl, rfl, rfl, (fun cs h => by cases h), Try.underlying281, trivial⟩
  · exact .inr ⟨Try.t291, _, _, by kernel_rfl, rfl, rfl, rfl, (fun cs h => by cases h; rfl), Try.underlying291, rfl⟩

  · exact .inl ⟨_, _, _, _, rfl, rfl⟩

noncomputable def Cc : Cx := ⟨Try.prog, T, fun _ => []⟩
theorem Cc_ok : Cc.Ok := ⟨T_ok, by kernel_rfl⟩
theorem tt2 : Cc.T 2 = ⟨.int .i64, 1, 8, (.int .i64 0)⟩ := rfl
theorem tt3 : Cc.T 3 = ⟨.int .i64, 1, 8, (.int .i64 0)⟩ := rfl
theorem tt4 : Cc.T 4 = ⟨.bool, 1, 1, (.bool false)⟩ := rfl
theorem tt5 : Cc.T 5 = ⟨.int .u8, 1, 1, (.int .u8 0)⟩ := rfl
theorem tt9 : Cc.T 9 = ⟨.str, 1, 16, (.str [])⟩ := rfl
theorem tt36 : Cc.T 36 = ⟨.slice 133, 1, 24, .nils⟩ := rfl
theorem tt40 : Cc.T 40 = ⟨.slice 131, 1, 24, .nils⟩ := rfl
theorem tt58 : Cc.T 58 = ⟨.slice 167, 1, 24, .nils⟩ := rfl
theorem tt62 : Cc.T 62 = ⟨.slice 171, 1, 24, .nils⟩ := rfl
theorem tt68 : Cc.T 68 = ⟨.slice 2, 1, 24, .nils⟩ := rfl
theorem tt77 : Cc.T 77 = ⟨.struct [(2, 0), (2, 1), (68, 2)], 3, 40, (.agg [(.int .i64 0), (.int .i64 0), .nils])⟩ := rfl
theorem tt80 : Cc.T 80 = ⟨.struct [(2, 0), (2, 1), (68, 2)], 3, 40, (.agg [(.int .i64 0), (.int .i64 0), .nils])⟩ := rfl
theorem tt128 : Cc.T 128 = ⟨.fn, 1, 8, .hole⟩ := rfl
theorem tt131 : Cc.T 131 = ⟨.struct [(2, 0), (2, 1)], 2, 16, (.agg [(.int .i64 0), (.int .i64 0)])⟩ := rfl
theorem tt133 : Cc.T 133 = ⟨.struct [(2, 0), (2, 1)], 2, 16, (.agg [(.int .i64 0), (.int .i64 0)])⟩ := rfl
theorem tt165 : Cc.T 165 = ⟨.slice 291, 1, 24, .nils⟩ := rfl
theorem tt167 : Cc.T 167 = ⟨.struct [(9, 0), (2, 1), (165, 2)], 3, 48, (.agg [(.str []), (.int .i64 0), .nils])⟩ := rfl
theorem tt169 : Cc.T 169 = ⟨.slice 249, 1, 24, .nils⟩ := rfl
theorem tt171 : Cc.T 171 = ⟨.struct [(9, 0), (2, 1), (169, 2)], 3, 48, (.agg [(.str []), (.int .i64 0), .nils])⟩ := rfl
theorem tt173 : Cc.T 173 = ⟨.ptr 171, 1, 8, .nilp⟩ := rfl
theorem tt185 : Cc.T 185 = ⟨.struct [(2, 0), (4, 1)], 2, 16, (.agg [(.int .i64 0), (.bool false)])⟩ := rfl
theorem tt186 : Cc.T 186 = ⟨.slice 185, 1, 24, .nils⟩ := rfl
theorem tt189 : Cc.T 189 = ⟨.ptr 80, 1, 8, .nilp⟩ := rfl
theorem tt195 : Cc.T 195 = ⟨.slice 40, 1, 24, .nils⟩ := rfl
theorem tt221 : Cc.T 221 = ⟨.ptr 5, 1, 8, .nilp⟩ := rfl
theorem tt227 : Cc.T 227 = ⟨.fn, 1, 8, .hole⟩ := rfl
theorem tt232 : Cc.T 232 = ⟨.ptr 131, 1, 8, .nilp⟩ := rfl
theorem tt247 : Cc.T 247 = ⟨.fn, 1, 8, .hole⟩ := rfl
theorem tt249 : Cc.T 249 = ⟨.struct [(2, 0), (2, 1), (9, 2), (195, 3)], 4, 56, (.agg [(.int .i64 0), (.int .i64 0), (.str []), .nils])⟩ := rfl
theorem tt256 : Cc.T 256 = ⟨.ptr 249, 1, 8, .nilp⟩ := rfl
theorem tt258 : Cc.T 258 = ⟨.fn, 1, 8, .hole⟩ := rfl
theorem tt260 : Cc.T 260 = ⟨.slice 36, 1, 24, .nils⟩ := rfl
theorem tt267 : Cc.T 267 = ⟨.fn, 1, 8, .hole⟩ := rfl
theorem tt281 : Cc.T 281 = ⟨.fn, 1, 8, .hole⟩ := rfl
theorem tt291 : Cc.T 291 = ⟨.struct [(2, 0), (2, 1), (9, 2), (260, 3)], 4, 56, (.agg [(.int .i64 0), (.int .i64 0), (.str []), .nils])⟩ := rfl

end Go.Proofs.Ytobljppjkklojaa
