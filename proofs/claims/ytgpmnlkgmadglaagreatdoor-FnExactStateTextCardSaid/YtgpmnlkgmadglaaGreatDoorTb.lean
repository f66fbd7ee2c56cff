/- Part of a proof that a law returns true for every input. No condition. -/
import Derived.Test.YtgpmnlkgmadglaaGreatDoorProg
import Derived.KernelRfl
import Derived.Test.YtgpmnlkgmadglaaGreatDoorFwF
namespace Go.Proofs.YtgpmnlkgmadglaaGreatDoor
open Go.c0
def T : TypeId → gK
 | 2 => ⟨.int .i64, 1, 8, (.int .i64 0)⟩
 | 3 => ⟨.int .i64, 1, 8, (.int .i64 0)⟩
 | 4 => ⟨.bool, 1, 1, (.bool false)⟩
 | 5 => ⟨.int .u8, 1, 1, (.int .u8 0)⟩
 | 9 => ⟨.str, 1, 16, (.str [])⟩
 | 22 => ⟨.slice 2, 1, 24, .bp⟩
 | 49 => ⟨.slice 9, 1, 24, .bp⟩
 | 64 => ⟨.slice 150, 1, 24, .bp⟩
 | 66 => ⟨.struct [(2, 0), (2, 1), (22, 2)], 3, 40, (.agg [(.int .i64 0), (.int .i64 0), .bp])⟩
 | 72 => ⟨.slice 158, 1, 24, .bp⟩
 | 74 => ⟨.struct [(2, 0), (2, 1), (22, 2)], 3, 40, (.agg [(.int .i64 0), (.int .i64 0), .bp])⟩
 | 83 => ⟨.slice 241, 1, 24, .bp⟩
 | 84 => ⟨.slice 244, 1, 24, .bp⟩
 | 86 => ⟨.struct [(64, 0), (83, 1), (84, 2), (49, 3), (49, 4)], 5, 120, (.agg [.bp, .bp, .bp, .bp, .bp])⟩
 | 87 => ⟨.slice 66, 1, 24, .bp⟩
 | 91 => ⟨.slice 248, 1, 24, .bp⟩
 | 92 => ⟨.slice 250, 1, 24, .bp⟩
 | 94 => ⟨.struct [(72, 0), (91, 1), (92, 2), (49, 3), (49, 4)], 5, 120, (.agg [.bp, .bp, .bp, .bp, .bp])⟩
 | 96 => ⟨.slice 74, 1, 24, .bp⟩
 | 123 => ⟨.slice 5, 1, 24, .bp⟩
 | 148 => ⟨.slice 298, 1, 24, .bp⟩
 | 150 => ⟨.struct [(9, 0), (2, 1), (148, 2)], 3, 48, (.agg [(.str []), (.int .i64 0), .bp])⟩
 | 153 => ⟨.ptr 74, 1, 8, .dv⟩
 | 156 => ⟨.slice 230, 1, 24, .bp⟩
 | 158 => ⟨.struct [(9, 0), (2, 1), (156, 2)], 3, 48, (.agg [(.str []), (.int .i64 0), .bp])⟩
 | 170 => ⟨.ptr 94, 1, 8, .dv⟩
 | 176 => ⟨.fn, 1, 8, .hole⟩
 | 179 => ⟨.slice 326, 1, 24, .bp⟩
 | 180 => ⟨.slice 179, 1, 24, .bp⟩
 | 186 => ⟨.slice 278, 1, 24, .bp⟩
 | 187 => ⟨.slice 186, 1, 24, .bp⟩
 | 195 => ⟨.fn, 1, 8, .hole⟩
 | 228 => ⟨.ptr 158, 1, 8, .dv⟩
 | 230 => ⟨.struct [(2, 0), (2, 1), (9, 2), (187, 3)], 4, 56, (.agg [(.int .i64 0), (.int .i64 0), (.str []), .bp])⟩
 | 241 => ⟨.struct [(2, 0), (22, 1)], 2, 32, (.agg [(.int .i64 0), .bp])⟩
 | 244 => ⟨.struct [(9, 0), (9, 1), (9, 2)], 3, 48, (.agg [(.str []), (.str []), (.str [])])⟩
 | 248 => ⟨.struct [(2, 0), (22, 1)], 2, 32, (.agg [(.int .i64 0), .bp])⟩
 | 250 => ⟨.struct [(9, 0), (9, 1), (9, 2)], 3, 48, (.agg [(.str []), (.str []), (.str [])])⟩
 | 254 => ⟨.fn, 1, 8, .hole⟩
 | 270 => ⟨.fn, 1, 8, .hole⟩
 | 278 => ⟨.struct [(2, 0), (2, 1)], 2, 16, (.agg [(.int .i64 0), (.int .i64 0)])⟩
 | 290 => ⟨.fn, 1, 8, .hole⟩
 | 298 => ⟨.struct [(2, 0), (2, 1), (9, 2), (180, 3)], 4, 56, (.agg [(.int .i64 0), (.int .i64 0), (.str []), .bp])⟩
 | 309 => ⟨.struct [(2, 0), (4, 1)], 2, 16, (.agg [(.int .i64 0), (.bool false)])⟩
 | 310 => ⟨.slice 309, 1, 24, .bp⟩
 | 315 => ⟨.fn, 1, 8, .hole⟩
 | 320 => ⟨.ptr 278, 1, 8, .dv⟩
 | 326 => ⟨.struct [(2, 0), (2, 1)], 2, 16, (.agg [(.int .i64 0), (.int .i64 0)])⟩
 | 346 => ⟨.ptr 230, 1, 8, .dv⟩
 | 350 => ⟨.fn, 1, 8, .hole⟩
 | 353 => ⟨.fn, 1, 8, .hole⟩
 | 357 => ⟨.fn, 1, 8, .hole⟩
 | 375 => ⟨.fn, 1, 8, .hole⟩
 | _ => ⟨.other, 0, 0, .hole⟩
theorem TT : ∀ t, G1 Tryz.prog t (T t) := by
 intro t
 unfold T
 split
 ·exact .inr ⟨Tryz.t2, _, _, by kernel_rfl, rfl, rfl, rfl, (fun cs h => by cases h; rfl), Tryz.underlying2, rfl⟩
 ·exact .inr ⟨Tryz.t3, _, _, by kernel_rfl, rfl, rfl, rfl, (fun cs h => by cases h; rfl), Tryz.underlying3, rfl⟩
 ·exact .inr ⟨Tryz.t4, _, _, by kernel_rfl, rfl, rfl, rfl, (fun cs h => by cases h; rfl), Tryz.underlying4, trivial⟩
 ·exact .inr ⟨Tryz.t5, _, _, by kernel_rfl, rfl, rfl, rfl, (fun cs h => by cases h; rfl), Tryz.underlying5, rfl⟩
 ·exact .inr ⟨Tryz.t9, _, _, by kernel_rfl, rfl, rfl, rfl, (fun cs h => by cases h; rfl), Tryz.underlying9, trivial⟩
 ·exact .inr ⟨Tryz.t22, _, _, by kernel_rfl, rfl, rfl, rfl, (fun cs h => by cases h; rfl), Tryz.underlying22, rfl⟩
 ·exact .inr ⟨Tryz.t49, _, _, by kernel_rfl, rfl, rfl, rfl, (fun cs h => by cases h; rfl), Tryz.underlying49, rfl⟩
 ·exact .inr ⟨Tryz.t64, _, _, by kernel_rfl, rfl, rfl, rfl, (fun cs h => by cases h; rfl), Tryz.underlying64, rfl⟩
 ·exact .inr ⟨Tryz.t66, _, _, by kernel_rfl, rfl, rfl, rfl, (fun cs h => by cases h; rfl), Tryz.underlying66, rfl⟩
 ·exact .inr ⟨Tryz.t72, _, _, by kernel_rfl, rfl, rfl, rfl, (fun cs h => by cases h; rfl), Tryz.underlying72, rfl⟩
 ·exact .inr ⟨Tryz.t74, _, _, by kernel_rfl, rfl, rfl, rfl, (fun cs h => by cases h; rfl), Tryz.underlying74, rfl⟩
 ·exact .inr ⟨Tryz.t83, _, _, by kernel_rfl, rfl, rfl, rfl, (fun cs h => by cases h; rfl), Tryz.underlying83, rfl⟩
 ·exact .inr ⟨Tryz.t84, _, _, by kernel_rfl, rfl, rfl, rfl, (fun cs h => by cases h; rfl), Tryz.underlying84, rfl⟩
 ·exact .inr ⟨Tryz.t86, _, _, by kernel_rfl, rfl, rfl, rfl, (fun cs h => by cases h; rfl), Tryz.underlying86, rfl⟩
 ·exact .inr ⟨Tryz.t87, _, _, by kernel_rfl, rfl, rfl, rfl, (fun cs h => by cases h; rfl), Tryz.underlying87, rfl⟩
 ·exact .inr ⟨Tryz.t91, _, _, by kernel_rfl, rfl, rfl, rfl, (fun cs h => by cases h; rfl), Tryz.underlying91, rfl⟩
 ·exact .inr ⟨Tryz.t92, _, _, by kernel_rfl, rfl, rfl, rfl, (fun cs h => by cases h; rfl), Tryz.underlying92, rfl⟩
 ·exact .inr ⟨Tryz.t94, _, _, by kernel_rfl, rfl, rfl, rfl, (fun cs h => by cases h; rfl), Tryz.underlying94, rfl⟩
 ·exact .inr ⟨Tryz.t96, _, _, by kernel_rfl, rfl, rfl, rfl, (fun cs h => by cases h; rfl), Tryz.underlying96, rfl⟩
 ·exact .inr ⟨Tryz.t123, _, _, by kernel_rfl, rfl, rfl, rfl, (fun cs h => by cases h; rfl), Tryz.underlying123, rfl⟩
 ·exact .inr ⟨Tryz.t148, _, _, by kernel_rfl, rfl, rfl, rfl, (fun cs h => by cases h; rfl), Tryz.underlying148, rfl⟩
 ·exact .inr ⟨Tryz.t150, _, _, by kernel_rfl, rfl, rfl, rfl, (fun cs h => by cases h; rfl), Tryz.underlying150, rfl⟩
 ·exact .inr ⟨Tryz.t153, _, _, by kernel_rfl, rfl, rfl, rfl, (fun cs h => by cases h; rfl), Tryz.underlying153, rfl⟩
 ·exact .inr ⟨Tryz.t156, _, _, by kernel_rfl, rfl, rfl, rfl, (fun cs h => by cases h; rfl), Tryz.underlying156, rfl⟩
 ·exact .inr ⟨Tryz.t158, _, _, by kernel_rfl, rfl, rfl, rfl, (fun cs h => by cases h; rfl), Tryz.underlying158, rfl⟩
 ·exact .inr ⟨Tryz.t170, _, _, by kernel_rfl, rfl, rfl, rfl, (fun cs h => by cases h; rfl), Tryz.underlying170, rfl⟩
 ·exact .inr ⟨Tryz.t176, _, _, by kernel_rfl, rfl, rfl, rfl, (fun cs h => by cases h), Tryz.underlying176, trivial⟩
 ·exact .inr ⟨Tryz.t179, _, _, by kernel_rfl, rfl, rfl, rfl, (fun cs h => by cases h; rfl), Tryz.underlying179, rfl⟩
 ·exact .inr ⟨Tryz.t180, _, _, by kernel_rfl, rfl, rfl, rfl, (fun cs h => by cases h; rfl), Tryz.underlying180, rfl⟩
 ·exact .inr ⟨Tryz.t186, _, _, by kernel_rfl, rfl, rfl, rfl, (fun cs h => by cases h; rfl), Tryz.underlying186, rfl⟩
 ·exact .inr ⟨Tryz.t187, _, _, by kernel_rfl, rfl, rfl, rfl, (fun cs h => by cases h; rfl), Tryz.underlying187, rfl⟩
 ·exact .inr ⟨Tryz.t195, _, _, by kernel_rfl, rfl, rfl, rfl, (fun cs h => by cases h), Tryz.underlying195, trivial⟩
 ·exact .inr ⟨Tryz.t228, _, _, by kernel_rfl, rfl, rfl, rfl, (fun cs h => by cases h; rfl), Tryz.underlying228, rfl⟩
 ·exact .inr ⟨Tryz.t230, _, _, by kernel_rfl, rfl, rfl, rfl, (fun cs h => by cases h; rfl), Tryz.underlying230, rfl⟩
 ·exact .inr ⟨Tryz.t241, _, _, by kernel_rfl, rfl, rfl, rfl, (fun cs h => by cases h; rfl), Tryz.underlying241, rfl⟩
 ·exact .inr ⟨Tryz.t244, _, _, by kernel_rfl, rfl, rfl, rfl, (fun cs h => by cases h; rfl), Tryz.underlying244, rfl⟩
 ·exact .inr ⟨Tryz.t248, _, _, by kernel_rfl, rfl, rfl, rfl, (fun cs h => by cases h; rfl), Tryz.underlying248, rfl⟩
 ·exact .inr ⟨Tryz.t250, _, _, by kernel_rfl, rfl, rfl, rfl, (fun cs h => by cases h; rfl), Tryz.underlying250, rfl⟩
 ·exact .inr ⟨Tryz.t254, _, _, by kernel_rfl, rfl, rfl, rfl, (fun cs h => by cases h), Tryz.underlying254, trivial⟩
 ·exact .inr ⟨Tryz.t270, _, _, by kernel_rfl, rfl, rfl, rfl, (fun cs h => by cases h), Tryz.underlying270, trivial⟩
 ·exact .inr ⟨Tryz.t278, _, _, by kernel_rfl, rfl, rfl, rfl, (fun cs h => by cases h; rfl), Tryz.underlying278, rfl⟩
 ·exact .inr ⟨Tryz.t290, _, _, by kernel_rfl, rfl, rfl, rfl, (fun cs h => by cases h), Tryz.underlying290, trivial⟩
 ·exact .inr ⟨Tryz.t298, _, _, by kernel_rfl, rfl, rfl, rfl, (fun cs h => by cases h; rfl), Tryz.underlying298, rfl⟩
 ·exact .inr ⟨Tryz.t309, _, _, by kernel_rfl, rfl, rfl, rfl, (fun cs h => by cases h; rfl), Tryz.underlying309, rfl⟩
 ·exact .inr ⟨Tryz.t310, _, _, by kernel_rfl, rfl, rfl, rfl, (fun cs h => by cases h; rfl), Tryz.underlying310, rfl⟩
 ·exact .inr ⟨Tryz.t315, _, _, by kernel_rfl, rfl, rfl, rfl, (fun cs h => by cases h), Tryz.underlying315, trivial⟩
 ·exact .inr ⟨Tryz.t320, _, _, by kernel_rfl, rfl, rfl, rfl, (fun cs h => by cases h; rfl), Tryz.underlying320, rfl⟩
 ·exact .inr ⟨Tryz.t326, _, _, by kernel_rfl, rfl, rfl, rfl, (fun cs h => by cases h; rfl), Tryz.underlying326, rfl⟩
 ·exact .inr ⟨Tryz.t346, _, _, by kernel_rfl, rfl, rfl, rfl, (fun cs h => by cases h; rfl), Tryz.underlying346, rfl⟩
 ·exact .inr ⟨Tryz.t350, _, _, by kernel_rfl, rfl, rfl, rfl, (fun cs h => by cases h), Tryz.underlying350, trivial⟩
 ·exact .inr ⟨Tryz.t353, _, _, by kernel_rfl, rfl, rfl, rfl, (fun cs h => by cases h), Tryz.underlying353, trivial⟩
 ·exact .inr ⟨Tryz.t357, _, _, by kernel_rfl, rfl, rfl, rfl, (fun cs h => by cases h), Tryz.underlying357, trivial⟩
 ·exact .inr ⟨Tryz.t375, _, _, by kernel_rfl, rfl, rfl, rfl, (fun cs h => by cases h), Tryz.underlying375, trivial⟩
 ·exact .inl ⟨_, _, _, _, rfl, rfl⟩
noncomputable def aE : ck := ⟨Tryz.prog, T, fun _ => []⟩
theorem EF : aE.e0 := ⟨TT, by kernel_rfl⟩
theorem dS : aE.T 2 = ⟨.int .i64, 1, 8, (.int .i64 0)⟩ := rfl
theorem aw2 : aE.T 3 = ⟨.int .i64, 1, 8, (.int .i64 0)⟩ := rfl
theorem pb : aE.T 4 = ⟨.bool, 1, 1, (.bool false)⟩ := rfl
theorem zu : aE.T 5 = ⟨.int .u8, 1, 1, (.int .u8 0)⟩ := rfl
theorem ez : aE.T 9 = ⟨.str, 1, 16, (.str [])⟩ := rfl
theorem g_ : aE.T 22 = ⟨.slice 2, 1, 24, .bp⟩ := rfl
theorem kj : aE.T 49 = ⟨.slice 9, 1, 24, .bp⟩ := rfl
theorem ur : aE.T 64 = ⟨.slice 150, 1, 24, .bp⟩ := rfl
theorem zv : aE.T 66 = ⟨.struct [(2, 0), (2, 1), (22, 2)], 3, 40, (.agg [(.int .i64 0), (.int .i64 0), .bp])⟩ := rfl
theorem mj : aE.T 72 = ⟨.slice 158, 1, 24, .bp⟩ := rfl
theorem lf : aE.T 74 = ⟨.struct [(2, 0), (2, 1), (22, 2)], 3, 40, (.agg [(.int .i64 0), (.int .i64 0), .bp])⟩ := rfl
theorem uu : aE.T 83 = ⟨.slice 241, 1, 24, .bp⟩ := rfl
theorem uv : aE.T 84 = ⟨.slice 244, 1, 24, .bp⟩ := rfl
theorem EG : aE.T 86 = ⟨.struct [(64, 0), (83, 1), (84, 2), (49, 3), (49, 4)], 5, 120, (.agg [.bp, .bp, .bp, .bp, .bp])⟩ := rfl
theorem zw : aE.T 87 = ⟨.slice 66, 1, 24, .bp⟩ := rfl
theorem nw : aE.T 91 = ⟨.slice 248, 1, 24, .bp⟩ := rfl
theorem om : aE.T 92 = ⟨.slice 250, 1, 24, .bp⟩ := rfl
theorem r7 : aE.T 94 = ⟨.struct [(72, 0), (91, 1), (92, 2), (49, 3), (49, 4)], 5, 120, (.agg [.bp, .bp, .bp, .bp, .bp])⟩ := rfl
theorem r8 : aE.T 96 = ⟨.slice 74, 1, 24, .bp⟩ := rfl
theorem zx : aE.T 123 = ⟨.slice 5, 1, 24, .bp⟩ := rfl
theorem pT : aE.T 148 = ⟨.slice 298, 1, 24, .bp⟩ := rfl
theorem uw : aE.T 150 = ⟨.struct [(9, 0), (2, 1), (148, 2)], 3, 48, (.agg [(.str []), (.int .i64 0), .bp])⟩ := rfl
theorem aw3 : aE.T 153 = ⟨.ptr 74, 1, 8, .dv⟩ := rfl
theorem ju : aE.T 156 = ⟨.slice 230, 1, 24, .bp⟩ := rfl
theorem kk : aE.T 158 = ⟨.struct [(9, 0), (2, 1), (156, 2)], 3, 48, (.agg [(.str []), (.int .i64 0), .bp])⟩ := rfl
theorem aw4 : aE.T 170 = ⟨.ptr 94, 1, 8, .dv⟩ := rfl
theorem aw5 : aE.T 176 = ⟨.fn, 1, 8, .hole⟩ := rfl
theorem lU : aE.T 179 = ⟨.slice 326, 1, 24, .bp⟩ := rfl
theorem nx : aE.T 180 = ⟨.slice 179, 1, 24, .bp⟩ := rfl
theorem gp : aE.T 186 = ⟨.slice 278, 1, 24, .bp⟩ := rfl
theorem gT : aE.T 187 = ⟨.slice 186, 1, 24, .bp⟩ := rfl
theorem aw6 : aE.T 195 = ⟨.fn, 1, 8, .hole⟩ := rfl
theorem aw7 : aE.T 228 = ⟨.ptr 158, 1, 8, .dv⟩ := rfl
theorem hQ : aE.T 230 = ⟨.struct [(2, 0), (2, 1), (9, 2), (187, 3)], 4, 56, (.agg [(.int .i64 0), (.int .i64 0), (.str []), .bp])⟩ := rfl
theorem ux : aE.T 241 = ⟨.struct [(2, 0), (22, 1)], 2, 32, (.agg [(.int .i64 0), .bp])⟩ := rfl
theorem uy : aE.T 244 = ⟨.struct [(9, 0), (9, 1), (9, 2)], 3, 48, (.agg [(.str []), (.str []), (.str [])])⟩ := rfl
theorem mL : aE.T 248 = ⟨.struct [(2, 0), (22, 1)], 2, 32, (.agg [(.int .i64 0), .bp])⟩ := rfl
theorem lV : aE.T 250 = ⟨.struct [(9, 0), (9, 1), (9, 2)], 3, 48, (.agg [(.str []), (.str []), (.str [])])⟩ := rfl
theorem aw8 : aE.T 254 = ⟨.fn, 1, 8, .hole⟩ := rfl
theorem aw9 : aE.T 270 = ⟨.fn, 1, 8, .hole⟩ := rfl
theorem fZ : aE.T 278 = ⟨.struct [(2, 0), (2, 1)], 2, 16, (.agg [(.int .i64 0), (.int .i64 0)])⟩ := rfl
theorem aw_ : aE.T 290 = ⟨.fn, 1, 8, .hole⟩ := rfl
theorem pU : aE.T 298 = ⟨.struct [(2, 0), (2, 1), (9, 2), (180, 3)], 4, 56, (.agg [(.int .i64 0), (.int .i64 0), (.str []), .bp])⟩ := rfl
theorem pc : aE.T 309 = ⟨.struct [(2, 0), (4, 1)], 2, 16, (.agg [(.int .i64 0), (.bool false)])⟩ := rfl
theorem r9 : aE.T 310 = ⟨.slice 309, 1, 24, .bp⟩ := rfl
theorem axa : aE.T 315 = ⟨.fn, 1, 8, .hole⟩ := rfl
theorem axb : aE.T 320 = ⟨.ptr 278, 1, 8, .dv⟩ := rfl
theorem lW : aE.T 326 = ⟨.struct [(2, 0), (2, 1)], 2, 16, (.agg [(.int .i64 0), (.int .i64 0)])⟩ := rfl
theorem axc : aE.T 346 = ⟨.ptr 230, 1, 8, .dv⟩ := rfl
theorem axd : aE.T 350 = ⟨.fn, 1, 8, .hole⟩ := rfl
theorem KN : aE.T 353 = ⟨.fn, 1, 8, .hole⟩ := rfl
theorem axe : aE.T 357 = ⟨.fn, 1, 8, .hole⟩ := rfl
theorem axf : aE.T 375 = ⟨.fn, 1, 8, .hole⟩ := rfl
end Go.Proofs.YtgpmnlkgmadglaaGreatDoor
