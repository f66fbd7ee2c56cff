/- Part of a proof that a law returns true for every input. No condition. -/
import Derived.Test.YtbemmmimelklkaaGreatProg
import Derived.KernelRfl
import Derived.Test.YtbemmmimelklkaaGreatFwF
namespace Go.Proofs.YtbemmmimelklkaaGreat
open Go.c5
def T : TypeId → g_
 | 2 => ⟨.int .i64, 1, 8, (.int .i64 0)⟩
 | 3 => ⟨.int .i64, 1, 8, (.int .i64 0)⟩
 | 4 => ⟨.bool, 1, 1, (.bool false)⟩
 | 5 => ⟨.int .u8, 1, 1, (.int .u8 0)⟩
 | 9 => ⟨.str, 1, 16, (.str [])⟩
 | 22 => ⟨.slice 109, 1, 24, .bu⟩
 | 23 => ⟨.slice 112, 1, 24, .bu⟩
 | 24 => ⟨.slice 115, 1, 24, .bu⟩
 | 25 => ⟨.slice 9, 1, 24, .bu⟩
 | 27 => ⟨.struct [(22, 0), (23, 1), (24, 2), (25, 3), (25, 4)], 5, 120, (.agg [.bu, .bu, .bu, .bu, .bu])⟩
 | 32 => ⟨.slice 119, 1, 24, .bu⟩
 | 33 => ⟨.slice 124, 1, 24, .bu⟩
 | 34 => ⟨.slice 126, 1, 24, .bu⟩
 | 36 => ⟨.struct [(32, 0), (33, 1), (34, 2), (25, 3), (25, 4)], 5, 120, (.agg [.bu, .bu, .bu, .bu, .bu])⟩
 | 43 => ⟨.slice 2, 1, 24, .bu⟩
 | 71 => ⟨.ptr 36, 1, 8, .dI⟩
 | 107 => ⟨.slice 209, 1, 24, .bu⟩
 | 109 => ⟨.struct [(9, 0), (2, 1), (107, 2)], 3, 48, (.agg [(.str []), (.int .i64 0), .bu])⟩
 | 112 => ⟨.struct [(2, 0), (43, 1)], 2, 32, (.agg [(.int .i64 0), .bu])⟩
 | 115 => ⟨.struct [(9, 0), (9, 1), (9, 2)], 3, 48, (.agg [(.str []), (.str []), (.str [])])⟩
 | 117 => ⟨.slice 122, 1, 24, .bu⟩
 | 119 => ⟨.struct [(9, 0), (2, 1), (117, 2)], 3, 48, (.agg [(.str []), (.int .i64 0), .bu])⟩
 | 120 => ⟨.slice 147, 1, 24, .bu⟩
 | 122 => ⟨.struct [(2, 0), (2, 1), (9, 2), (120, 3)], 4, 56, (.agg [(.int .i64 0), (.int .i64 0), (.str []), .bu])⟩
 | 124 => ⟨.struct [(2, 0), (43, 1)], 2, 32, (.agg [(.int .i64 0), .bu])⟩
 | 126 => ⟨.struct [(9, 0), (9, 1), (9, 2)], 3, 48, (.agg [(.str []), (.str []), (.str [])])⟩
 | 129 => ⟨.slice 132, 1, 24, .bu⟩
 | 132 => ⟨.struct [(2, 0), (4, 1)], 2, 16, (.agg [(.int .i64 0), (.bool false)])⟩
 | 133 => ⟨.fn, 1, 8, .hole⟩
 | 139 => ⟨.slice 226, 1, 24, .bu⟩
 | 140 => ⟨.slice 139, 1, 24, .bu⟩
 | 147 => ⟨.slice 191, 1, 24, .bu⟩
 | 156 => ⟨.fn, 1, 8, .hole⟩
 | 159 => ⟨.fn, 1, 8, .hole⟩
 | 173 => ⟨.fn, 1, 8, .hole⟩
 | 179 => ⟨.fn, 1, 8, .hole⟩
 | 180 => ⟨.fn, 1, 8, .hole⟩
 | 183 => ⟨.slice 5, 1, 24, .bu⟩
 | 191 => ⟨.struct [(2, 0), (2, 1)], 2, 16, (.agg [(.int .i64 0), (.int .i64 0)])⟩
 | 204 => ⟨.fn, 1, 8, .hole⟩
 | 209 => ⟨.struct [(2, 0), (2, 1), (9, 2), (140, 3)], 4, 56, (.agg [(.int .i64 0), (.int .i64 0), (.str []), .bu])⟩
 | 212 => ⟨.ptr 119, 1, 8, .dI⟩
 | 220 => ⟨.fn, 1, 8, .hole⟩
 | 221 => ⟨.fn, 1, 8, .hole⟩
 | 223 => ⟨.ptr 191, 1, 8, .dI⟩
 | 226 => ⟨.struct [(2, 0), (2, 1)], 2, 16, (.agg [(.int .i64 0), (.int .i64 0)])⟩
 | 247 => ⟨.fn, 1, 8, .hole⟩
 | 261 => ⟨.ptr 122, 1, 8, .dI⟩
 | _ => ⟨.other, 0, 0, .hole⟩
theorem UB : ∀ t, H6 Tryz.prog t (T t) := by
 intro t
 unfold T
 split
 ·exact .inr ⟨Tryz.t2, _, _, by kernel_rfl, rfl, rfl, rfl, (fun cs h => by cases h; rfl), Tryz.underlying2, rfl⟩
 ·exact .inr ⟨Tryz.t3, _, _, by kernel_rfl, rfl, rfl, rfl, (fun cs h => by cases h; rfl), Tryz.underlying3, rfl⟩
 ·exact .inr ⟨Tryz.t4, _, _, by kernel_rfl, rfl, rfl, rfl, (fun cs h => by cases h; rfl), Tryz.underlying4, trivial⟩
 ·exact .inr ⟨Tryz.t5, _, _, by kernel_rfl, rfl, rfl, rfl, (fun cs h => by cases h; rfl), Tryz.underlying5, rfl⟩
 ·exact .inr ⟨Tryz.t9, _, _, by kernel_rfl, rfl, rfl, rfl, (fun cs h => by cases h; rfl), Tryz.underlying9, trivial⟩
 ·exact .inr ⟨Tryz.t22, _, _, by kernel_rfl, rfl, rfl, rfl, (fun cs h => by cases h; rfl), Tryz.underlying22, rfl⟩
 ·exact .inr ⟨Tryz.t23, _, _, by kernel_rfl, rfl, rfl, rfl, (fun cs h => by cases h; rfl), Tryz.underlying23, rfl⟩
 ·exact .inr ⟨Tryz.t24, _, _, by kernel_rfl, rfl, rfl, rfl, (fun cs h => by cases h; rfl), Tryz.underlying24, rfl⟩
 ·exact .inr ⟨Tryz.t25, _, _, by kernel_rfl, rfl, rfl, rfl, (fun cs h => by cases h; rfl), Tryz.underlying25, rfl⟩
 ·exact .inr ⟨Tryz.t27, _, _, by kernel_rfl, rfl, rfl, rfl, (fun cs h => by cases h; rfl), Tryz.underlying27, rfl⟩
 ·exact .inr ⟨Tryz.t32, _, _, by kernel_rfl, rfl, rfl, rfl, (fun cs h => by cases h; rfl), Tryz.underlying32, rfl⟩
 ·exact .inr ⟨Tryz.t33, _, _, by kernel_rfl, rfl, rfl, rfl, (fun cs h => by cases h; rfl), Tryz.underlying33, rfl⟩
 ·exact .inr ⟨Tryz.t34, _, _, by kernel_rfl, rfl, rfl, rfl, (fun cs h => by cases h; rfl), Tryz.underlying34, rfl⟩
 ·exact .inr ⟨Tryz.t36, _, _, by kernel_rfl, rfl, rfl, rfl, (fun cs h => by cases h; rfl), Tryz.underlying36, rfl⟩
 ·exact .inr ⟨Tryz.t43, _, _, by kernel_rfl, rfl, rfl, rfl, (fun cs h => by cases h; rfl), Tryz.underlying43, rfl⟩
 ·exact .inr ⟨Tryz.t71, _, _, by kernel_rfl, rfl, rfl, rfl, (fun cs h => by cases h; rfl), Tryz.underlying71, rfl⟩
 ·exact .inr ⟨Tryz.t107, _, _, by kernel_rfl, rfl, rfl, rfl, (fun cs h => by cases h; rfl), Tryz.underlying107, rfl⟩
 ·exact .inr ⟨Tryz.t109, _, _, by kernel_rfl, rfl, rfl, rfl, (fun cs h => by cases h; rfl), Tryz.underlying109, rfl⟩
 ·exact .inr ⟨Tryz.t112, _, _, by kernel_rfl, rfl, rfl, rfl, (fun cs h => by cases h; rfl), Tryz.underlying112, rfl⟩
 ·exact .inr ⟨Tryz.t115, _, _, by kernel_rfl, rfl, rfl, rfl, (fun cs h => by cases h; rfl), Tryz.underlying115, rfl⟩
 ·exact .inr ⟨Tryz.t117, _, _, by kernel_rfl, rfl, rfl, rfl, (fun cs h => by cases h; rfl), Tryz.underlying117, rfl⟩
 ·exact .inr ⟨Tryz.t119, _, _, by kernel_rfl, rfl, rfl, rfl, (fun cs h => by cases h; rfl), Tryz.underlying119, rfl⟩
 ·exact .inr ⟨Tryz.t120, _, _, by kernel_rfl, rfl, rfl, rfl, (fun cs h => by cases h; rfl), Tryz.underlying120, rfl⟩
 ·exact .inr ⟨Tryz.t122, _, _, by kernel_rfl, rfl, rfl, rfl, (fun cs h => by cases h; rfl), Tryz.underlying122, rfl⟩
 ·exact .inr ⟨Tryz.t124, _, _, by kernel_rfl, rfl, rfl, rfl, (fun cs h => by cases h; rfl), Tryz.underlying124, rfl⟩
 ·exact .inr ⟨Tryz.t126, _, _, by kernel_rfl, rfl, rfl, rfl, (fun cs h => by cases h; rfl), Tryz.underlying126, rfl⟩
 ·exact .inr ⟨Tryz.t129, _, _, by kernel_rfl, rfl, rfl, rfl, (fun cs h => by cases h; rfl), Tryz.underlying129, rfl⟩
 ·exact .inr ⟨Tryz.t132, _, _, by kernel_rfl, rfl, rfl, rfl, (fun cs h => by cases h; rfl), Tryz.underlying132, rfl⟩
 ·exact .inr ⟨Tryz.t133, _, _, by kernel_rfl, rfl, rfl, rfl, (fun cs h => by cases h), Tryz.underlying133, trivial⟩
 ·exact .inr ⟨Tryz.t139, _, _, by kernel_rfl, rfl, rfl, rfl, (fun cs h => by cases h; rfl), Tryz.underlying139, rfl⟩
 ·exact .inr ⟨Tryz.t140, _, _, by kernel_rfl, rfl, rfl, rfl, (fun cs h => by cases h; rfl), Tryz.underlying140, rfl⟩
 ·exact .inr ⟨Tryz.t147, _, _, by kernel_rfl, rfl, rfl, rfl, (fun cs h => by cases h; rfl), Tryz.underlying147, rfl⟩
 ·exact .inr ⟨Tryz.t156, _, _, by kernel_rfl, rfl, rfl, rfl, (fun cs h => by cases h), Tryz.underlying156, trivial⟩
 ·exact .inr ⟨Tryz.t159, _, _, by kernel_rfl, rfl, rfl, rfl, (fun cs h => by cases h), Tryz.underlying159, trivial⟩
 ·exact .inr ⟨Tryz.t173, _, _, by kernel_rfl, rfl, rfl, rfl, (fun cs h => by cases h), Tryz.underlying173, trivial⟩
 ·exact .inr ⟨Tryz.t179, _, _, by kernel_rfl, rfl, rfl, rfl, (fun cs h => by cases h), Tryz.underlying179, trivial⟩
 ·exact .inr ⟨Tryz.t180, _, _, by kernel_rfl, rfl, rfl, rfl, (fun cs h => by cases h), Tryz.underlying180, trivial⟩
 ·exact .inr ⟨Tryz.t183, _, _, by kernel_rfl, rfl, rfl, rfl, (fun cs h => by cases h; rfl), Tryz.underlying183, rfl⟩
 ·exact .inr ⟨Tryz.t191, _, _, by kernel_rfl, rfl, rfl, rfl, (fun cs h => by cases h; rfl), Tryz.underlying191, rfl⟩
 ·exact .inr ⟨Tryz.t204, _, _, by kernel_rfl, rfl, rfl, rfl, (fun cs h => by cases h), Tryz.underlying204, trivial⟩
 ·exact .inr ⟨Tryz.t209, _, _, by kernel_rfl, rfl, rfl, rfl, (fun cs h => by cases h; rfl), Tryz.underlying209, rfl⟩
 ·exact .inr ⟨Tryz.t212, _, _, by kernel_rfl, rfl, rfl, rfl, (fun cs h => by cases h; rfl), Tryz.underlying212, rfl⟩
 ·exact .inr ⟨Tryz.t220, _, _, by kernel_rfl, rfl, rfl, rfl, (fun cs h => by cases h), Tryz.underlying220, trivial⟩
 ·exact .inr ⟨Tryz.t221, _, _, by kernel_rfl, rfl, rfl, rfl, (fun cs h => by cases h), Tryz.underlying221, trivial⟩
 ·exact .inr ⟨Tryz.t223, _, _, by kernel_rfl, rfl, rfl, rfl, (fun cs h => by cases h; rfl), Tryz.underlying223, rfl⟩
 ·exact .inr ⟨Tryz.t226, _, _, by kernel_rfl, rfl, rfl, rfl, (fun cs h => by cases h; rfl), Tryz.underlying226, rfl⟩
 ·exact .inr ⟨Tryz.t247, _, _, by kernel_rfl, rfl, rfl, rfl, (fun cs h => by cases h), Tryz.underlying247, trivial⟩
 ·exact .inr ⟨Tryz.t261, _, _, by kernel_rfl, rfl, rfl, rfl, (fun cs h => by cases h; rfl), Tryz.underlying261, rfl⟩
 ·exact .inl ⟨_, _, _, _, rfl, rfl⟩
noncomputable def aG : cw := ⟨Tryz.prog, T, fun _ => []⟩
theorem b8 : aG.Ok := ⟨UB, by kernel_rfl⟩
theorem ey : aG.T 2 = ⟨.int .i64, 1, 8, (.int .i64 0)⟩ := rfl
theorem axU : aG.T 3 = ⟨.int .i64, 1, 8, (.int .i64 0)⟩ := rfl
theorem q9 : aG.T 4 = ⟨.bool, 1, 1, (.bool false)⟩ := rfl
theorem UC : aG.T 5 = ⟨.int .u8, 1, 1, (.int .u8 0)⟩ := rfl
theorem eU : aG.T 9 = ⟨.str, 1, 16, (.str [])⟩ := rfl
theorem u7 : aG.T 22 = ⟨.slice 109, 1, 24, .bu⟩ := rfl
theorem u9 : aG.T 23 = ⟨.slice 112, 1, 24, .bu⟩ := rfl
theorem u_ : aG.T 24 = ⟨.slice 115, 1, 24, .bu⟩ := rfl
theorem lk : aG.T 25 = ⟨.slice 9, 1, 24, .bu⟩ := rfl
theorem F_ : aG.T 27 = ⟨.struct [(22, 0), (23, 1), (24, 2), (25, 3), (25, 4)], 5, 120, (.agg [.bu, .bu, .bu, .bu, .bu])⟩ := rfl
theorem nN : aG.T 32 = ⟨.slice 119, 1, 24, .bu⟩ := rfl
theorem oC : aG.T 33 = ⟨.slice 124, 1, 24, .bu⟩ := rfl
theorem p9 : aG.T 34 = ⟨.slice 126, 1, 24, .bu⟩ := rfl
theorem xB : aG.T 36 = ⟨.struct [(32, 0), (33, 1), (34, 2), (25, 3), (25, 4)], 5, 120, (.agg [.bu, .bu, .bu, .bu, .bu])⟩ := rfl
theorem jf : aG.T 43 = ⟨.slice 2, 1, 24, .bu⟩ := rfl
theorem axV : aG.T 71 = ⟨.ptr 36, 1, 8, .dI⟩ := rfl
theorem p_ : aG.T 107 = ⟨.slice 209, 1, 24, .bu⟩ := rfl
theorem va : aG.T 109 = ⟨.struct [(9, 0), (2, 1), (107, 2)], 3, 48, (.agg [(.str []), (.int .i64 0), .bu])⟩ := rfl
theorem vb : aG.T 112 = ⟨.struct [(2, 0), (43, 1)], 2, 32, (.agg [(.int .i64 0), .bu])⟩ := rfl
theorem vc : aG.T 115 = ⟨.struct [(9, 0), (9, 1), (9, 2)], 3, 48, (.agg [(.str []), (.str []), (.str [])])⟩ := rfl
theorem jS : aG.T 117 = ⟨.slice 122, 1, 24, .bu⟩ := rfl
theorem lX : aG.T 119 = ⟨.struct [(9, 0), (2, 1), (117, 2)], 3, 48, (.agg [(.str []), (.int .i64 0), .bu])⟩ := rfl
theorem gP : aG.T 120 = ⟨.slice 147, 1, 24, .bu⟩ := rfl
theorem h3 : aG.T 122 = ⟨.struct [(2, 0), (2, 1), (9, 2), (120, 3)], 4, 56, (.agg [(.int .i64 0), (.int .i64 0), (.str []), .bu])⟩ := rfl
theorem m4 : aG.T 124 = ⟨.struct [(2, 0), (43, 1)], 2, 32, (.agg [(.int .i64 0), .bu])⟩ := rfl
theorem m5 : aG.T 126 = ⟨.struct [(9, 0), (9, 1), (9, 2)], 3, 48, (.agg [(.str []), (.str []), (.str [])])⟩ := rfl
theorem xC : aG.T 129 = ⟨.slice 132, 1, 24, .bu⟩ := rfl
theorem q_ : aG.T 132 = ⟨.struct [(2, 0), (4, 1)], 2, 16, (.agg [(.int .i64 0), (.bool false)])⟩ := rfl
theorem axW : aG.T 133 = ⟨.fn, 1, 8, .hole⟩ := rfl
theorem lY : aG.T 139 = ⟨.slice 226, 1, 24, .bu⟩ := rfl
theorem nO : aG.T 140 = ⟨.slice 139, 1, 24, .bu⟩ := rfl
theorem gn : aG.T 147 = ⟨.slice 191, 1, 24, .bu⟩ := rfl
theorem axX : aG.T 156 = ⟨.fn, 1, 8, .hole⟩ := rfl
theorem axY : aG.T 159 = ⟨.fn, 1, 8, .hole⟩ := rfl
theorem axZ : aG.T 173 = ⟨.fn, 1, 8, .hole⟩ := rfl
theorem ax0 : aG.T 179 = ⟨.fn, 1, 8, .hole⟩ := rfl
theorem LD : aG.T 180 = ⟨.fn, 1, 8, .hole⟩ := rfl
theorem UD : aG.T 183 = ⟨.slice 5, 1, 24, .bu⟩ := rfl
theorem ga : aG.T 191 = ⟨.struct [(2, 0), (2, 1)], 2, 16, (.agg [(.int .i64 0), (.int .i64 0)])⟩ := rfl
theorem ax1 : aG.T 204 = ⟨.fn, 1, 8, .hole⟩ := rfl
theorem qa : aG.T 209 = ⟨.struct [(2, 0), (2, 1), (9, 2), (140, 3)], 4, 56, (.agg [(.int .i64 0), (.int .i64 0), (.str []), .bu])⟩ := rfl
theorem ax2 : aG.T 212 = ⟨.ptr 119, 1, 8, .dI⟩ := rfl
theorem ax3 : aG.T 220 = ⟨.fn, 1, 8, .hole⟩ := rfl
theorem ax4 : aG.T 221 = ⟨.fn, 1, 8, .hole⟩ := rfl
theorem ax5 : aG.T 223 = ⟨.ptr 191, 1, 8, .dI⟩ := rfl
theorem lZ : aG.T 226 = ⟨.struct [(2, 0), (2, 1)], 2, 16, (.agg [(.int .i64 0), (.int .i64 0)])⟩ := rfl
theorem ax6 : aG.T 247 = ⟨.fn, 1, 8, .hole⟩ := rfl
theorem ax7 : aG.T 261 = ⟨.ptr 122, 1, 8, .dI⟩ := rfl
end Go.Proofs.YtbemmmimelklkaaGreat
