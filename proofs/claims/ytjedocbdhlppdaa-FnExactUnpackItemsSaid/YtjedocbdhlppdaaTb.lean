/- Part of a proof that a law returns true for every input. No condition. -/
import Derived.Test.YtjedocbdhlppdaaProg
import Derived.KernelRfl
import Derived.Test.YtjedocbdhlppdaaFwF
namespace Go.Proofs.Ytjedocbdhlppdaa
open Go.b7
def T : TypeId → dT
 | 2 => ⟨.int .i64, 1, 8, (.int .i64 0)⟩
 | 3 => ⟨.int .i64, 1, 8, (.int .i64 0)⟩
 | 4 => ⟨.bool, 1, 1, (.bool false)⟩
 | 5 => ⟨.int .u8, 1, 1, (.int .u8 0)⟩
 | 9 => ⟨.str, 1, 16, (.str [])⟩
 | 25 => ⟨.slice 37, 1, 24, .bu⟩
 | 37 => ⟨.struct [(9, 0), (9, 1)], 2, 32, (.agg [(.str []), (.str [])])⟩
 | 62 => ⟨.slice 5, 1, 24, .bu⟩
 | 64 => ⟨(.cI 5), 2, 32, (.agg [.b_, .bu])⟩
 | 112 => ⟨.ptr 37, 1, 8, .b_⟩
 | 114 => ⟨.ptr 116, 1, 8, .b_⟩
 | 116 => ⟨.struct [(9, 0), (4, 1)], 2, 24, (.agg [(.str []), (.bool false)])⟩
 | _ => ⟨.other, 0, 0, .hole⟩
theorem GW : ∀ t, wN Try.prog t (T t) := by
 intro t
 unfold T
 split
 ·exact .inr ⟨Try.t2, _, _, by kernel_rfl, rfl, rfl, rfl, (fun cs h => by cases h; rfl), Try.underlying2, rfl⟩
 ·exact .inr ⟨Try.t3, _, _, by kernel_rfl, rfl, rfl, rfl, (fun cs h => by cases h; rfl), Try.underlying3, rfl⟩
 ·exact .inr ⟨Try.t4, _, _, by kernel_rfl, rfl, rfl, rfl, (fun cs h => by cases h; rfl), Try.underlying4, trivial⟩
 ·exact .inr ⟨Try.t5, _, _, by kernel_rfl, rfl, rfl, rfl, (fun cs h => by cases h; rfl), Try.underlying5, rfl⟩
 ·exact .inr ⟨Try.t9, _, _, by kernel_rfl, rfl, rfl, rfl, (fun cs h => by cases h; rfl), Try.underlying9, trivial⟩
 ·exact .inr ⟨Try.t25, _, _, by kernel_rfl, rfl, rfl, rfl, (fun cs h => by cases h; rfl), Try.underlying25, rfl⟩
 ·exact .inr ⟨Try.t37, _, _, by kernel_rfl, rfl, rfl, rfl, (fun cs h => by cases h; rfl), Try.underlying37, rfl⟩
 ·exact .inr ⟨Try.t62, _, _, by kernel_rfl, rfl, rfl, rfl, (fun cs h => by cases h; rfl), Try.underlying62, rfl⟩
 ·exact .inr ⟨Try.t64, _, _, by kernel_rfl, rfl, rfl, rfl, (fun cs h => by cases h; rfl), Try.underlying64, trivial⟩
 ·exact .inr ⟨Try.t112, _, _, by kernel_rfl, rfl, rfl, rfl, (fun cs h => by cases h; rfl), Try.underlying112, rfl⟩
 ·exact .inr ⟨Try.t114, _, _, by kernel_rfl, rfl, rfl, rfl, (fun cs h => by cases h; rfl), Try.underlying114, rfl⟩
 ·exact .inr ⟨Try.t116, _, _, by kernel_rfl, rfl, rfl, rfl, (fun cs h => by cases h; rfl), Try.underlying116, rfl⟩
 ·exact .inl ⟨_, _, _, _, rfl, rfl⟩
noncomputable def aP : bp := ⟨Try.prog, T, fun _ => []⟩
theorem GX : aP.c3 := ⟨GW, by kernel_rfl⟩
theorem OD : aP.T 2 = ⟨.int .i64, 1, 8, (.int .i64 0)⟩ := rfl
theorem OE : aP.T 3 = ⟨.int .i64, 1, 8, (.int .i64 0)⟩ := rfl
theorem kU : aP.T 4 = ⟨.bool, 1, 1, (.bool false)⟩ := rfl
theorem qM : aP.T 5 = ⟨.int .u8, 1, 1, (.int .u8 0)⟩ := rfl
theorem dI : aP.T 9 = ⟨.str, 1, 16, (.str [])⟩ := rfl
theorem Ai : aP.T 25 = ⟨.slice 37, 1, 24, .bu⟩ := rfl
theorem ir : aP.T 37 = ⟨.struct [(9, 0), (9, 1)], 2, 32, (.agg [(.str []), (.str [])])⟩ := rfl
theorem qN : aP.T 62 = ⟨.slice 5, 1, 24, .bu⟩ := rfl
theorem GY : aP.T 64 = ⟨(.cI 5), 2, 32, (.agg [.b_, .bu])⟩ := rfl
theorem OG : aP.T 112 = ⟨.ptr 37, 1, 8, .b_⟩ := rfl
theorem OH : aP.T 114 = ⟨.ptr 116, 1, 8, .b_⟩ := rfl
theorem kV : aP.T 116 = ⟨.struct [(9, 0), (4, 1)], 2, 24, (.agg [(.str []), (.bool false)])⟩ := rfl
end Go.Proofs.Ytjedocbdhlppdaa
