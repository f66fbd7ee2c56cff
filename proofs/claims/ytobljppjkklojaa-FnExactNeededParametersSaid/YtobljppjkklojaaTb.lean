/- Part of a proof that a law returns true for every input. No condition. -/
import Derived.Test.YtobljppjkklojaaProg
import Derived.KernelRfl
import Derived.Test.YtobljppjkklojaaFwF
namespace Go.Proofs.Ytobljppjkklojaa
open Go.Fw

def T : TypeId → TI
  | 2 => ⟨.int .i64, 1, 8, (.int .i64 0)⟩
  | 3 => ⟨.int .i64, 1, 8, (.int .i64 0)⟩
  | 4 => ⟨.bool, 1, 1, (.bool false)⟩
  | 5 => ⟨.int .u8, 1, 1, (.int .u8 0)⟩
  | 9 => ⟨.str, 1, 16, (.str [])⟩
  | 36 => ⟨.slice 133, 1, 24, .nils⟩
  | 40 => ⟨.slice 131, 1, 24, .nils⟩
  | 68 => ⟨.slice 2, 1, 24, .nils⟩
  | 84 => ⟨.slice 262, 1, 24, .nils⟩
  | 86 => ⟨.struct [(2, 0), (68, 1), (84, 2)], 3, 56, (.agg [(.int .i64 0), .nils, .nils])⟩
  | 88 => ⟨.slice 197, 1, 24, .nils⟩
  | 90 => ⟨.struct [(2, 0), (68, 1), (88, 2)], 3, 56, (.agg [(.int .i64 0), .nils, .nils])⟩
  | 107 => ⟨.slice 5, 1, 24, .nils⟩
  | 128 => ⟨.fn, 1, 8, .hole⟩
  | 131 => ⟨.struct [(2, 0), (2, 1)], 2, 16, (.agg [(.int .i64 0), (.int .i64 0)])⟩
  | 133 => ⟨.struct [(2, 0), (2, 1)], 2, 16, (.agg [(.int .i64 0), (.int .i64 0)])⟩
  | 193 => ⟨.ptr 90, 1, 8, .nilp⟩
  | 195 => ⟨.slice 40, 1, 24, .nils⟩
  | 197 => ⟨.struct [(68, 0), (40, 1), (9, 2), (195, 3), (195, 4)], 5, 112, (.agg [.nils, .nils, (.str []), .nils, .nils])⟩
  | 198 => ⟨.ptr 197, 1, 8, .nilp⟩
  | 214 => ⟨.slice 4, 1, 24, .nils⟩
  | 232 => ⟨.ptr 131, 1, 8, .nilp⟩
  | 236 => ⟨.fn, 1, 8, .hole⟩
  | 260 => ⟨.slice 36, 1, 24, .nils⟩
  | 262 => ⟨.struct [(68, 0), (36, 1), (9, 2), (260, 3), (260, 4)], 5, 112, (.agg [.nils, .nils, (.str []), .nils, .nils])⟩
  | 267 => ⟨.fn, 1, 8, .hole⟩
  | 268 => ⟨.fn, 1, 8, .hole⟩
  | 294 => ⟨.fn, 1, 8, .hole⟩
  | 308 => ⟨.slice 195, 1, 24, .nils⟩
  | _ => ⟨.other, 0, 0, .hole⟩

theorem T_ok : ∀ t, okT Try.prog t (T t) := by
  intro t
  unfold T
  split
  · exact .inr ⟨Try.t2, _, _, by kernel_rfl, rfl, rfl, rfl, (fun cs h => by cases h; rfl), Try.underlying2, rfl⟩
  · exact .inr ⟨Try.t3, _, _, by kernel_rfl, rfl, rfl, rfl, (fun cs h => by cases h; rfl), Try.underlying3, rfl⟩
  · exact .inr ⟨Try.t4, _, _, by kernel_rfl, rfl, rfl, rfl, (fun cs h => by cases h; rfl), Try.underlying4, trivial⟩
  · exact .inr ⟨Try.t5, _, _, by kernel_rfl, rfl, rfl, rfl, (fun cs h => by cases h; rfl), Try.underlying5, rfl⟩
  · exact .inr ⟨Try.t9, _, _, by kernel_rfl, rfl, rfl, rfl, (fun cs h => by cases h; rfl), Try.underlying9, trivial⟩
  · exact .inr ⟨Try.t36, _, _, by kernel_rfl, rfl, rfl, rfl, (fun cs h => by cases h; rfl), Try.underlying36, rfl⟩
  · exact .inr ⟨Try.t40, _, _, by kernel_rfl, rfl, rfl, rfl, (fun cs h => by cases h; rfl), Try.underlying40, rfl⟩
  · exact .inr ⟨Try.t68, _, _, by kernel_rfl, rfl, rfl, rfl, (fun cs h => by cases h; rfl), Try.underlying68, rfl⟩
  · exact .inr ⟨Try.t84, _, _, by kernel_rfl, rfl, rfl, rfl, (fun cs h => by cases h; rfl), Try.underlying84, rfl⟩
  · exact .inr ⟨Try.t86, _, _, by kernel_rfl, rfl, rfl, rfl, (fun cs h => by cases h; rfl), Try.underlying86, rfl⟩
  · exact .inr ⟨Try.t88, _, _, by kernel_rfl, rfl, rfl, rfl, (fun cs h => by cases h; rfl), Try.underlying88, rfl⟩
  · exact .inr ⟨Try.t90, _, _, by kernel_rfl, rfl, rfl, rfl, (fun cs h => by cases h; rfl), Try.underlying90, rfl⟩
  · exact .inr ⟨Try.t107, _, _, by kernel_rfl, rfl, rfl, rfl, (fun cs h => by cases h; rfl), Try.underlying107, rfl⟩
  · exact .inr ⟨Try.t128, _, _, by kernel_rfl, rfl, rfl, rfl, (fun cs h => by cases h), Try.underlying128, trivial⟩
  · exact .inr ⟨Try.t131, _, _, by kernel_rfl, rfl, rfl, rfl, (fun cs h => by cases h; rfl), Try.underlying131, rfl⟩
  · exact .inr ⟨Try.t133, _, _, by kernel_rfl, rfl, rfl, rfl, (fun cs h => by cases h; rfl), Try.underlying133, rfl⟩
  · exact .inr ⟨Try.t193, _, _, by kernel_rfl, rfl, rfl, rfl, (fun cs h => by cases h; rfl), Try.underlying193, rfl⟩
  · exact .inr ⟨Try.t195, _, _, by kernel_rfl, rfl, rfl, rfl, (fun cs h => by cases h; rfl), Try.underlying195, rfl⟩
  · exact .inr ⟨Try.t197, _, _, by kernel_rfl, rfl, rfl, rfl, (fun cs h => by cases h; rfl), Try.underlying197, rfl⟩
  · exact .inr ⟨Try.t198, _, _, by kernel_rfl, rfl, rfl, rfl, (fun cs h => by cases h; rfl), Try.underlying198, rfl⟩
  · exact .inr ⟨Try.t214, _, _, by kernel_rfl, rfl, rfl, rfl, (fun cs h => by cases h; rfl), Try.underlying214, rfl⟩
  · exact .inr ⟨Try.t232, _, _, by kernel_rfl, rfl, rfl, rfl, (fun cs h => by cases h; rfl), Try.underlying232, rfl⟩
  · exact .inr ⟨Try.t236, _, _, by kernel_rfl, rfl, rfl, rfl, (fun cs h => by cases h), Try.underlying236, trivial⟩
  · exact .inr ⟨Try.t260, _, _, by kernel_rfl, rfl, rfl, rfl, (fun cs h => by cases h; rfl), Try.underlying260, rfl⟩
  · exact .inr ⟨Try.t262, _, _, by kernel_rfl, rfl, rfl, rfl, (fun cs h => by cases h; rfl), Try.underlying262, rfl⟩
  · exact .inr ⟨Try.t267, _, _, by kernel_rfl, rfl, rfl, rfl, (fun cs h => by cases h), Try.underlying267, trivial⟩
  · exact .inr ⟨Try.t268, _, _, by kernel_rfl, rfl, rfl, rfl, (fun cs h => by cases h), Try.underlying268, trivial⟩
  · exact .inr ⟨Try.t294, _, _, by kernel_rfl, rfl, rfl, rfl, (fun cs h => by cases h), Try.underlying294, trivial⟩
  · exact .inr ⟨Try.t308, _, _, by kernel_rfl, rfl, rfl, rfl, (fun cs h => by cases h; rfl), Try.underlying308, rfl⟩

  · exact .inl ⟨_, _, _, _, rfl, rfl⟩

noncomputable def Cc : Cx := ⟨Try.prog, T, fun _ => []⟩
theorem Cc_ok : Cc.Ok := ⟨T_ok, by kernel_rfl⟩
theorem tt2 : Cc.T 2 = ⟨.int .i64, 1, 8, (.int .i64 0)⟩ := rfl
theorem tt3 : Cc.T 3 = ⟨.int .i64, 1, 8, (.int .i64 0)⟩ := rfl
theorem tt4 : Cc.T 4 = ⟨.bool, 1, 1, (.bool false)⟩ := rfl
theorem tt5 : Cc.T 5 = ⟨.int .u8, 1, 1, (.int .u8 0)⟩ := rfl
theorem tt9 : Cc.T 9 = ⟨.str, 1, 16, (.str [])⟩ := rfl
theorem tt36 : Cc.T 36 = ⟨.slice 133, 1, 24, .nils⟩ := rfl
theorem tt40 : Cc.T 40 = ⟨.slice 131, 1, 24, .nils⟩ := rfl
theorem tt68 : Cc.T 68 = ⟨.slice 2, 1, 24, .nils⟩ := rfl
theorem tt84 : Cc.T 84 = ⟨.slice 262, 1, 24, .nils⟩ := rfl
theorem tt86 : Cc.T 86 = ⟨.struct [(2, 0), (68, 1), (84, 2)], 3, 56, (.agg [(.int .i64 0), .nils, .nils])⟩ := rfl
theorem tt88 : Cc.T 88 = ⟨.slice 197, 1, 24, .nils⟩ := rfl
theorem tt90 : Cc.T 90 = ⟨.struct [(2, 0), (68, 1), (88, 2)], 3, 56, (.agg [(.int .i64 0), .nils, .nils])⟩ := rfl
theorem tt107 : Cc.T 107 = ⟨.slice 5, 1, 24, .nils⟩ := rfl
theorem tt128 : Cc.T 128 = ⟨.fn, 1, 8, .hole⟩ := rfl
theorem tt131 : Cc.T 131 = ⟨.struct [(2, 0), (2, 1)], 2, 16, (.agg [(.int .i64 0), (.int .i64 0)])⟩ := rfl
theorem tt133 : Cc.T 133 = ⟨.struct [(2, 0), (2, 1)], 2, 16, (.agg [(.int .i64 0), (.int .i64 0)])⟩ := rfl
theorem tt193 : Cc.T 193 = ⟨.ptr 90, 1, 8, .nilp⟩ := rfl
theorem tt195 : Cc.T 195 = ⟨.slice 40, 1, 24, .nils⟩ := rfl
theorem tt197 : Cc.T 197 = ⟨.struct [(68, 0), (40, 1), (9, 2), (195, 3), (195, 4)], 5, 112, (.agg [.nils, .nils, (.str []), .nils, .nils])⟩ := rfl
theorem tt198 : Cc.T 198 = ⟨.ptr 197, 1, 8, .nilp⟩ := rfl
theorem tt214 : Cc.T 214 = ⟨.slice 4, 1, 24, .nils⟩ := rfl
theorem tt232 : Cc.T 232 = ⟨.ptr 131, 1, 8, .nilp⟩ := rfl
theorem tt236 : Cc.T 236 = ⟨.fn, 1, 8, .hole⟩ := rfl
theorem tt260 : Cc.T 260 = ⟨.slice 36, 1, 24, .nils⟩ := rfl
theorem tt262 : Cc.T 262 = ⟨.struct [(68, 0), (36, 1), (9, 2), (260, 3), (260, 4)], 5, 112, (.agg [.nils, .nils, (.str []), .nils, .nils])⟩ := rfl
theorem tt267 : Cc.T 267 = ⟨.fn, 1, 8, .hole⟩ := rfl
theorem tt268 : Cc.T 268 = ⟨.fn, 1, 8, .hole⟩ := rfl
theorem tt294 : Cc.T 294 = ⟨.fn, 1, 8, .hole⟩ := rfl
theorem tt308 : Cc.T 308 = ⟨.slice 195, 1, 24, .nils⟩ := rfl

end Go.Proofs.Ytobljppjkklojaa
