/- Part of a proof that a law returns true for every input. No condition. -/
import Derived.Test.YtbemmmimelklkaaProg
import Derived.KernelRfl
import Derived.Test.YtbemmmimelklkaaFwF
namespace Go.Proofs.Ytbemmmimelklkaa
open Go.cB
def T : TypeId → fR
 | 2 => ⟨.int .i64, 1, 8, (.int .i64 0)⟩
 | 3 => ⟨.int .i64, 1, 8, (.int .i64 0)⟩
 | 4 => ⟨.bool, 1, 1, (.bool false)⟩
 | 5 => ⟨.int .u8, 1, 1, (.int .u8 0)⟩
 | 9 => ⟨.str, 1, 16, (.str [])⟩
 | 22 => ⟨.slice 42, 1, 24, .bA⟩
 | 27 => ⟨.slice 47, 1, 24, .bA⟩
 | 34 => ⟨.slice 9, 1, 24, .bA⟩
 | 40 => ⟨.slice 76, 1, 24, .bA⟩
 | 42 => ⟨.struct [(9, 0), (2, 1), (40, 2)], 3, 48, (.agg [(.str []), (.int .i64 0), .bA])⟩
 | 45 => ⟨.slice 55, 1, 24, .bA⟩
 | 47 => ⟨.struct [(9, 0), (2, 1), (45, 2)], 3, 48, (.agg [(.str []), (.int .i64 0), .bA])⟩
 | 53 => ⟨.slice 87, 1, 24, .bA⟩
 | 55 => ⟨.struct [(2, 0), (2, 1), (9, 2), (53, 3)], 4, 56, (.agg [(.int .i64 0), (.int .i64 0), (.str []), .bA])⟩
 | 67 => ⟨.slice 5, 1, 24, .bA⟩
 | 74 => ⟨.slice 131, 1, 24, .bA⟩
 | 76 => ⟨.struct [(2, 0), (2, 1), (9, 2), (74, 3)], 4, 56, (.agg [(.int .i64 0), (.int .i64 0), (.str []), .bA])⟩
 | 80 => ⟨.ptr 47, 1, 8, .c7⟩
 | 87 => ⟨.slice 123, 1, 24, .bA⟩
 | 105 => ⟨.fn, 1, 8, .hole⟩
 | 107 => ⟨.fn, 1, 8, .hole⟩
 | 110 => ⟨.slice 114, 1, 24, .bA⟩
 | 114 => ⟨.struct [(2, 0), (4, 1)], 2, 16, (.agg [(.int .i64 0), (.bool false)])⟩
 | 123 => ⟨.struct [(2, 0), (2, 1)], 2, 16, (.agg [(.int .i64 0), (.int .i64 0)])⟩
 | 131 => ⟨.slice 155, 1, 24, .bA⟩
 | 133 => ⟨.ptr 55, 1, 8, .c7⟩
 | 139 => ⟨.fn, 1, 8, .hole⟩
 | 142 => ⟨.fn, 1, 8, .hole⟩
 | 152 => ⟨.ptr 123, 1, 8, .c7⟩
 | 155 => ⟨.struct [(2, 0), (2, 1)], 2, 16, (.agg [(.int .i64 0), (.int .i64 0)])⟩
 | _ => ⟨.other, 0, 0, .hole⟩
theorem Ot : ∀ t, C4 Try.prog t (T t) := by
 intro t
 unfold T
 split
 ·exact .inr ⟨Try.t2, _, _, by kernel_rfl, rfl, rfl, rfl, (fun cs h => by cases h; rfl), Try.underlying2, rfl⟩
 ·exact .inr ⟨Try.t3, _, _, by kernel_rfl, rfl, rfl, rfl, (fun cs h => by cases h; rfl), Try.underlying3, rfl⟩
 ·exact .inr ⟨Try.t4, _, _, by kernel_rfl, rfl, rfl, rfl, (fun cs h => by cases h; rfl), Try.underlying4, trivial⟩
 ·exact .inr ⟨Try.t5, _, _, by kernel_rfl, rfl, rfl, rfl, (fun cs h => by cases h; rfl), Try.underlying5, rfl⟩
 ·exact .inr ⟨Try.t9, _, _, by kernel_rfl, rfl, rfl, rfl, (fun cs h => by cases h; rfl), Try.underlying9, trivial⟩
 ·exact .inr ⟨Try.t22, _, _, by kernel_rfl, rfl, rfl, rfl, (fun cs h => by cases h; rfl), Try.underlying22, rfl⟩
 ·exact .inr ⟨Try.t27, _, _, by kernel_rfl, rfl, rfl, rfl, (fun cs h => by cases h; rfl), Try.underlying27, rfl⟩
 ·exact .inr ⟨Try.t34, _, _, by kernel_rfl, rfl, rfl, rfl, (fun cs h => by cases h; rfl), Try.underlying34, rfl⟩
 ·exact .inr ⟨Try.t40, _, _, by kernel_rfl, rfl, rfl, rfl, (fun cs h => by cases h; rfl), Try.underlying40, rfl⟩
 ·exact .inr ⟨Try.t42, _, _, by kernel_rfl, rfl, rfl, rfl, (fun cs h => by cases h; rfl), Try.underlying42, rfl⟩
 ·exact .inr ⟨Try.t45, _, _, by kernel_rfl, rfl, rfl, rfl, (fun cs h => by cases h; rfl), Try.underlying45, rfl⟩
 ·exact .inr ⟨Try.t47, _, _, by kernel_rfl, rfl, rfl, rfl, (fun cs h => by cases h; rfl), Try.underlying47, rfl⟩
 ·exact .inr ⟨Try.t53, _, _, by kernel_rfl, rfl, rfl, rfl, (fun cs h => by cases h; rfl), Try.underlying53, rfl⟩
 ·exact .inr ⟨Try.t55, _, _, by kernel_rfl, rfl, rfl, rfl, (fun cs h => by cases h; rfl), Try.underlying55, rfl⟩
 ·exact .inr ⟨Try.t67, _, _, by kernel_rfl, rfl, rfl, rfl, (fun cs h => by cases h; rfl), Try.underlying67, rfl⟩
 ·exact .inr ⟨Try.t74, _, _, by kernel_rfl, rfl, rfl, rfl, (fun cs h => by cases h; rfl), Try.underlying74, rfl⟩
 ·exact .inr ⟨Try.t76, _, _, by kernel_rfl, rfl, rfl, rfl, (fun cs h => by cases h; rfl), Try.underlying76, rfl⟩
 ·exact .inr ⟨Try.t80, _, _, by kernel_rfl, rfl, rfl, rfl, (fun cs h => by cases h; rfl), Try.underlying80, rfl⟩
 ·exact .inr ⟨Try.t87, _, _, by kernel_rfl, rfl, rfl, rfl, (fun cs h => by cases h; rfl), Try.underlying87, rfl⟩
 ·exact .inr ⟨Try.t105, _, _, by kernel_rfl, rfl, rfl, rfl, (fun cs h => by cases h), Try.underlying105, trivial⟩
 ·exact .inr ⟨Try.t107, _, _, by kernel_rfl, rfl, rfl, rfl, (fun cs h => by cases h), Try.underlying107, trivial⟩
 ·exact .inr ⟨Try.t110, _, _, by kernel_rfl, rfl, rfl, rfl, (fun cs h => by cases h; rfl), Try.underlying110, rfl⟩
 ·exact .inr ⟨Try.t114, _, _, by kernel_rfl, rfl, rfl, rfl, (fun cs h => by cases h; rfl), Try.underlying114, rfl⟩
 ·exact .inr ⟨Try.t123, _, _, by kernel_rfl, rfl, rfl, rfl, (fun cs h => by cases h; rfl), Try.underlying123, rfl⟩
 ·exact .inr ⟨Try.t131, _, _, by kernel_rfl, rfl, rfl, rfl, (fun cs h => by cases h; rfl), Try.underlying131, rfl⟩
 ·exact .inr ⟨Try.t133, _, _, by kernel_rfl, rfl, rfl, rfl, (fun cs h => by cases h; rfl), Try.underlying133, rfl⟩
 ·exact .inr ⟨Try.t139, _, _, by kernel_rfl, rfl, rfl, rfl, (fun cs h => by cases h), Try.underlying139, trivial⟩
 ·exact .inr ⟨Try.t142, _, _, by kernel_rfl, rfl, rfl, rfl, (fun cs h => by cases h), Try.underlying142, trivial⟩
 ·exact .inr ⟨Try.t152, _, _, by kernel_rfl, rfl, rfl, rfl, (fun cs h => by cases h; rfl), Try.underlying152, rfl⟩
 ·exact .inr ⟨Try.t155, _, _, by kernel_rfl, rfl, rfl, rfl, (fun cs h => by cases h; rfl), Try.underlying155, rfl⟩
 ·exact .inl ⟨_, _, _, _, rfl, rfl⟩
noncomputable def aN : bZ := ⟨Try.prog, T, fun _ => []⟩
theorem cR : aN.Ok := ⟨Ot, by kernel_rfl⟩
theorem eZ : aN.T 2 = ⟨.int .i64, 1, 8, (.int .i64 0)⟩ := rfl
theorem ahq : aN.T 3 = ⟨.int .i64, 1, 8, (.int .i64 0)⟩ := rfl
theorem oV : aN.T 4 = ⟨.bool, 1, 1, (.bool false)⟩ := rfl
theorem Ou : aN.T 5 = ⟨.int .u8, 1, 1, (.int .u8 0)⟩ := rfl
theorem fw : aN.T 9 = ⟨.str, 1, 16, (.str [])⟩ := rfl
theorem w8 : aN.T 22 = ⟨.slice 42, 1, 24, .bA⟩ := rfl
theorem oW : aN.T 27 = ⟨.slice 47, 1, 24, .bA⟩ := rfl
theorem w9 : aN.T 34 = ⟨.slice 9, 1, 24, .bA⟩ := rfl
theorem qd : aN.T 40 = ⟨.slice 76, 1, 24, .bA⟩ := rfl
theorem w_ : aN.T 42 = ⟨.struct [(9, 0), (2, 1), (40, 2)], 3, 48, (.agg [(.str []), (.int .i64 0), .bA])⟩ := rfl
theorem j6 : aN.T 45 = ⟨.slice 55, 1, 24, .bA⟩ := rfl
theorem mO : aN.T 47 = ⟨.struct [(9, 0), (2, 1), (45, 2)], 3, 48, (.agg [(.str []), (.int .i64 0), .bA])⟩ := rfl
theorem fU : aN.T 53 = ⟨.slice 87, 1, 24, .bA⟩ := rfl
theorem hi : aN.T 55 = ⟨.struct [(2, 0), (2, 1), (9, 2), (53, 3)], 4, 56, (.agg [(.int .i64 0), (.int .i64 0), (.str []), .bA])⟩ := rfl
theorem Ov : aN.T 67 = ⟨.slice 5, 1, 24, .bA⟩ := rfl
theorem nq : aN.T 74 = ⟨.slice 131, 1, 24, .bA⟩ := rfl
theorem qe : aN.T 76 = ⟨.struct [(2, 0), (2, 1), (9, 2), (74, 3)], 4, 56, (.agg [(.int .i64 0), (.int .i64 0), (.str []), .bA])⟩ := rfl
theorem ahr : aN.T 80 = ⟨.ptr 47, 1, 8, .c7⟩ := rfl
theorem fy : aN.T 87 = ⟨.slice 123, 1, 24, .bA⟩ := rfl
theorem ahs : aN.T 105 = ⟨.fn, 1, 8, .hole⟩ := rfl
theorem aht : aN.T 107 = ⟨.fn, 1, 8, .hole⟩ := rfl
theorem tV : aN.T 110 = ⟨.slice 114, 1, 24, .bA⟩ := rfl
theorem oX : aN.T 114 = ⟨.struct [(2, 0), (4, 1)], 2, 16, (.agg [(.int .i64 0), (.bool false)])⟩ := rfl
theorem fh : aN.T 123 = ⟨.struct [(2, 0), (2, 1)], 2, 16, (.agg [(.int .i64 0), (.int .i64 0)])⟩ := rfl
theorem lk : aN.T 131 = ⟨.slice 155, 1, 24, .bA⟩ := rfl
theorem ahu : aN.T 133 = ⟨.ptr 55, 1, 8, .c7⟩ := rfl
theorem GF : aN.T 139 = ⟨.fn, 1, 8, .hole⟩ := rfl
theorem ahv : aN.T 142 = ⟨.fn, 1, 8, .hole⟩ := rfl
theorem ahw : aN.T 152 = ⟨.ptr 123, 1, 8, .c7⟩ := rfl
theorem ll : aN.T 155 = ⟨.struct [(2, 0), (2, 1)], 2, 16, (.agg [(.int .i64 0), (.int .i64 0)])⟩ := rfl
end Go.Proofs.Ytbemmmimelklkaa
