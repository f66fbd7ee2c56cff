/- Part of a proof that a law returns true for every input. No condition. -/
import Derived.Test.YtjedocbdhlppdaaProg
import Derived.KernelRfl
import Derived.Test.YtjedocbdhlppdaaFwF
namespace Go.Proofs.Ytjedocbdhlppdaa
open Go.b1
def T : TypeId → dB
 | 2 => ⟨.int .i64, 1, 8, (.int .i64 0)⟩
 | 3 => ⟨.int .i64, 1, 8, (.int .i64 0)⟩
 | 4 => ⟨.bool, 1, 1, (.bool false)⟩
 | 5 => ⟨.int .u8, 1, 1, (.int .u8 0)⟩
 | 9 => ⟨.str, 1, 16, (.str [])⟩
 | 22 => ⟨.slice 34, 1, 24, .bB⟩
 | 25 => ⟨.slice 37, 1, 24, .bB⟩
 | 34 => ⟨.struct [(9, 0), (9, 1)], 2, 32, (.agg [(.str []), (.str [])])⟩
 | 37 => ⟨.struct [(9, 0), (9, 1)], 2, 32, (.agg [(.str []), (.str [])])⟩
 | 62 => ⟨.slice 5, 1, 24, .bB⟩
 | 64 => ⟨(.df 5), 2, 32, (.agg [.b7, .bB])⟩
 | 112 => ⟨.ptr 37, 1, 8, .b7⟩
 | _ => ⟨.other, 0, 0, .hole⟩
theorem FM : ∀ t, vP Try.prog t (T t) := by
 intro t
 unfold T
 split
 ·exact .inr ⟨Try.t2, _, _, by kernel_rfl, rfl, rfl, rfl, (fun cs h => by cases h; rfl), Try.underlying2, rfl⟩
 ·exact .inr ⟨Try.t3, _, _, by kernel_rfl, rfl, rfl, rfl, (fun cs h => by cases h; rfl), Try.underlying3, rfl⟩
 ·exact .inr ⟨Try.t4, _, _, by kernel_rfl, rfl, rfl, rfl, (fun cs h => by cases h; rfl), Try.underlying4, trivial⟩
 ·exact .inr ⟨Try.t5, _, _, by kernel_rfl, rfl, rfl, rfl, (fun cs h => by cases h; rfl), Try.underlying5, rfl⟩
 ·exact .inr ⟨Try.t9, _, _, by kernel_rfl, rfl, rfl, rfl, (fun cs h => by cases h; rfl), Try.underlying9, trivial⟩
 ·exact .inr ⟨Try.t22, _, _, by kernel_rfl, rfl, rfl, rfl, (fun cs h => by cases h; rfl), Try.underlying22, rfl⟩
 ·exact .inr ⟨Try.t25, _, _, by kernel_rfl, rfl, rfl, rfl, (fun cs h => by cases h; rfl), Try.underlying25, rfl⟩
 ·exact .inr ⟨Try.t34, _, _, by kernel_rfl, rfl, rfl, rfl, (fun cs h => by cases h; rfl), Try.underlying34, rfl⟩
 ·exact .inr ⟨Try.t37, _, _, by kernel_rfl, rfl, rfl, rfl, (fun cs h => by cases h; rfl), Try.underlying37, rfl⟩
 ·exact .inr ⟨Try.t62, _, _, by kernel_rfl, rfl, rfl, rfl, (fun cs h => by cases h; rfl), Try.underlying62, rfl⟩
 ·exact .inr ⟨Try.t64, _, _, by kernel_rfl, rfl, rfl, rfl, (fun cs h => by cases h; rfl), Try.underlying64, trivial⟩
 ·exact .inr ⟨Try.t112, _, _, by kernel_rfl, rfl, rfl, rfl, (fun cs h => by cases h; rfl), Try.underlying112, rfl⟩
 ·exact .inl ⟨_, _, _, _, rfl, rfl⟩
noncomputable def a7 : bl := ⟨Try.prog, T, fun _ => []⟩
theorem FN : a7.cP := ⟨FM, by kernel_rfl⟩
theorem L1 : a7.T 2 = ⟨.int .i64, 1, 8, (.int .i64 0)⟩ := rfl
theorem L2 : a7.T 3 = ⟨.int .i64, 1, 8, (.int .i64 0)⟩ := rfl
theorem L3 : a7.T 4 = ⟨.bool, 1, 1, (.bool false)⟩ := rfl
theorem rM : a7.T 5 = ⟨.int .u8, 1, 1, (.int .u8 0)⟩ := rfl
theorem eW : a7.T 9 = ⟨.str, 1, 16, (.str [])⟩ := rfl
theorem rN : a7.T 22 = ⟨.slice 34, 1, 24, .bB⟩ := rfl
theorem qf : a7.T 25 = ⟨.slice 37, 1, 24, .bB⟩ := rfl
theorem rO : a7.T 34 = ⟨.struct [(9, 0), (9, 1)], 2, 32, (.agg [(.str []), (.str [])])⟩ := rfl
theorem k3 : a7.T 37 = ⟨.struct [(9, 0), (9, 1)], 2, 32, (.agg [(.str []), (.str [])])⟩ := rfl
theorem rP : a7.T 62 = ⟨.slice 5, 1, 24, .bB⟩ := rfl
theorem FO : a7.T 64 = ⟨(.df 5), 2, 32, (.agg [.b7, .bB])⟩ := rfl
theorem L4 : a7.T 112 = ⟨.ptr 37, 1, 8, .b7⟩ := rfl
end Go.Proofs.Ytjedocbdhlppdaa
