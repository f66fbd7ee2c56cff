/- Part of a proof that a law returns true for every input. No condition. -/
import Derived.Test.YtgpmnlkgmadglaaGreatDoorProg
import Derived.KernelRfl
import Derived.Test.YtgpmnlkgmadglaaGreatDoorFwF
namespace Go.Proofs.YtgpmnlkgmadglaaGreatDoor
open Go.cY
def T : TypeId → gK
 | 2 => ⟨.int .i64, 1, 8, (.int .i64 0)⟩
 | 3 => ⟨.int .i64, 1, 8, (.int .i64 0)⟩
 | 4 => ⟨.bool, 1, 1, (.bool false)⟩
 | 5 => ⟨.int .u8, 1, 1, (.int .u8 0)⟩
 | 9 => ⟨.str, 1, 16, (.str [])⟩
 | 22 => ⟨.slice 2, 1, 24, .bo⟩
 | 49 => ⟨.slice 9, 1, 24, .bo⟩
 | 64 => ⟨.slice 150, 1, 24, .bo⟩
 | 66 => ⟨.struct [(2, 0), (2, 1), (22, 2)], 3, 40, (.agg [(.int .i64 0), (.int .i64 0), .bo])⟩
 | 69 => ⟨.slice 164, 1, 24, .bo⟩
 | 72 => ⟨.slice 158, 1, 24, .bo⟩
 | 74 => ⟨.struct [(2, 0), (2, 1), (22, 2)], 3, 40, (.agg [(.int .i64 0), (.int .i64 0), .bo])⟩
 | 123 => ⟨.slice 5, 1, 24, .bo⟩
 | 148 => ⟨.slice 298, 1, 24, .bo⟩
 | 150 => ⟨.struct [(9, 0), (2, 1), (148, 2)], 3, 48, (.agg [(.str []), (.int .i64 0), .bo])⟩
 | 153 => ⟨.ptr 74, 1, 8, .da⟩
 | 156 => ⟨.slice 230, 1, 24, .bo⟩
 | 158 => ⟨.struct [(9, 0), (2, 1), (156, 2)], 3, 48, (.agg [(.str []), (.int .i64 0), .bo])⟩
 | 164 => ⟨.struct [(9, 0), (74, 1)], 4, 56, (.agg [(.str []), (.agg [(.int .i64 0), (.int .i64 0), .bo])])⟩
 | 179 => ⟨.slice 326, 1, 24, .bo⟩
 | 180 => ⟨.slice 179, 1, 24, .bo⟩
 | 186 => ⟨.slice 278, 1, 24, .bo⟩
 | 187 => ⟨.slice 186, 1, 24, .bo⟩
 | 195 => ⟨.fn, 1, 8, .hole⟩
 | 197 => ⟨.map 9 4, 1, 8, (.ct .o_)⟩
 | 228 => ⟨.ptr 158, 1, 8, .da⟩
 | 230 => ⟨.struct [(2, 0), (2, 1), (9, 2), (187, 3)], 4, 56, (.agg [(.int .i64 0), (.int .i64 0), (.str []), .bo])⟩
 | 234 => ⟨.ptr 236, 1, 8, .da⟩
 | 236 => ⟨.struct [(72, 0), (69, 1), (197, 2)], 3, 56, (.agg [.bo, .bo, (.ct .o_)])⟩
 | 270 => ⟨.fn, 1, 8, .hole⟩
 | 271 => ⟨.ptr 336, 1, 8, .da⟩
 | 278 => ⟨.struct [(2, 0), (2, 1)], 2, 16, (.agg [(.int .i64 0), (.int .i64 0)])⟩
 | 298 => ⟨.struct [(2, 0), (2, 1), (9, 2), (180, 3)], 4, 56, (.agg [(.int .i64 0), (.int .i64 0), (.str []), .bo])⟩
 | 309 => ⟨.struct [(2, 0), (4, 1)], 2, 16, (.agg [(.int .i64 0), (.bool false)])⟩
 | 310 => ⟨.slice 309, 1, 24, .bo⟩
 | 320 => ⟨.ptr 278, 1, 8, .da⟩
 | 326 => ⟨.struct [(2, 0), (2, 1)], 2, 16, (.agg [(.int .i64 0), (.int .i64 0)])⟩
 | 334 => ⟨.slice 271, 1, 24, .bo⟩
 | 336 => ⟨.struct [(278, 0), (334, 2)], 3, 40, (.agg [(.agg [(.int .i64 0), (.int .i64 0)]), .bo])⟩
 | 346 => ⟨.ptr 230, 1, 8, .da⟩
 | 350 => ⟨.fn, 1, 8, .hole⟩
 | 353 => ⟨.fn, 1, 8, .hole⟩
 | _ => ⟨.other, 0, 0, .hole⟩
theorem W4 : ∀ t, JQ Tryz.prog t (T t) := by
 intro t
 unfold T
 split
 ·exact .inr ⟨Tryz.t2, _, _, by kernel_rfl, rfl, rfl, rfl, (fun cs h => by cases h; rfl), Tryz.underlying2, rfl⟩
 ·exact .inr ⟨Tryz.t3, _, _, by kernel_rfl, rfl, rfl, rfl, (fun cs h => by cases h; rfl), Tryz.underlying3, rfl⟩
 ·exact .inr ⟨Tryz.t4, _, _, by kernel_rfl, rfl, rfl, rfl, (fun cs h => by cases h; rfl), Tryz.underlying4, trivial⟩
 ·exact .inr ⟨Tryz.t5, _, _, by kernel_rfl, rfl, rfl, rfl, (fun cs h => by cases h; rfl), Tryz.underlying5, rfl⟩
 ·exact .inr ⟨Tryz.t9, _, _, by kernel_rfl, rfl, rfl, rfl, (fun cs h => by cases h; rfl), Tryz.underlying9, trivial⟩
 ·exact .inr ⟨Tryz.t22, _, _, by kernel_rfl, rfl, rfl, rfl, (fun cs h => by cases h; rfl), Tryz.underlying22, rfl⟩
 ·exact .inr ⟨Tryz.t49, _, _, by kernel_rfl, rfl, rfl, rfl, (fun cs h => by cases h; rfl), Tryz.underlying49, rfl⟩
 ·exact .inr ⟨Tryz.t64, _, _, by kernel_rfl, rfl, rfl, rfl, (fun cs h => by cases h; rfl), Tryz.underlying64, rfl⟩
 ·exact .inr ⟨Tryz.t66, _, _, by kernel_rfl, rfl, rfl, rfl, (fun cs h => by cases h; rfl), Tryz.underlying66, rfl⟩
 ·exact .inr ⟨Tryz.t69, _, _, by kernel_rfl, rfl, rfl, rfl, (fun cs h => by cases h; rfl), Tryz.underlying69, rfl⟩
 ·exact .inr ⟨Tryz.t72, _, _, by kernel_rfl, rfl, rfl, rfl, (fun cs h => by cases h; rfl), Tryz.underlying72, rfl⟩
 ·exact .inr ⟨Tryz.t74, _, _, by kernel_rfl, rfl, rfl, rfl, (fun cs h => by cases h; rfl), Tryz.underlying74, rfl⟩
 ·exact .inr ⟨Tryz.t123, _, _, by kernel_rfl, rfl, rfl, rfl, (fun cs h => by cases h; rfl), Tryz.underlying123, rfl⟩
 ·exact .inr ⟨Tryz.t148, _, _, by kernel_rfl, rfl, rfl, rfl, (fun cs h => by cases h; rfl), Tryz.underlying148, rfl⟩
 ·exact .inr ⟨Tryz.t150, _, _, by kernel_rfl, rfl, rfl, rfl, (fun cs h => by cases h; rfl), Tryz.underlying150, rfl⟩
 ·exact .inr ⟨Tryz.t153, _, _, by kernel_rfl, rfl, rfl, rfl, (fun cs h => by cases h; rfl), Tryz.underlying153, rfl⟩
 ·exact .inr ⟨Tryz.t156, _, _, by kernel_rfl, rfl, rfl, rfl, (fun cs h => by cases h; rfl), Tryz.underlying156, rfl⟩
 ·exact .inr ⟨Tryz.t158, _, _, by kernel_rfl, rfl, rfl, rfl, (fun cs h => by cases h; rfl), Tryz.underlying158, rfl⟩
 ·exact .inr ⟨Tryz.t164, _, _, by kernel_rfl, rfl, rfl, rfl, (fun cs h => by cases h; rfl), Tryz.underlying164, rfl⟩
 ·exact .inr ⟨Tryz.t179, _, _, by kernel_rfl, rfl, rfl, rfl, (fun cs h => by cases h; rfl), Tryz.underlying179, rfl⟩
 ·exact .inr ⟨Tryz.t180, _, _, by kernel_rfl, rfl, rfl, rfl, (fun cs h => by cases h; rfl), Tryz.underlying180, rfl⟩
 ·exact .inr ⟨Tryz.t186, _, _, by kernel_rfl, rfl, rfl, rfl, (fun cs h => by cases h; rfl), Tryz.underlying186, rfl⟩
 ·exact .inr ⟨Tryz.t187, _, _, by kernel_rfl, rfl, rfl, rfl, (fun cs h => by cases h; rfl), Tryz.underlying187, rfl⟩
 ·exact .inr ⟨Tryz.t195, _, _, by kernel_rfl, rfl, rfl, rfl, (fun cs h => by cases h), Tryz.underlying195, trivial⟩
 ·exact .inr ⟨Tryz.t197, _, _, by kernel_rfl, rfl, rfl, rfl, (fun cs h => by cases h; rfl), Tryz.underlying197, ⟨rfl, rfl⟩⟩
 ·exact .inr ⟨Tryz.t228, _, _, by kernel_rfl, rfl, rfl, rfl, (fun cs h => by cases h; rfl), Tryz.underlying228, rfl⟩
 ·exact .inr ⟨Tryz.t230, _, _, by kernel_rfl, rfl, rfl, rfl, (fun cs h => by cases h; rfl), Tryz.underlying230, rfl⟩
 ·exact .inr ⟨Tryz.t234, _, _, by kernel_rfl, rfl, rfl, rfl, (fun cs h => by cases h; rfl), Tryz.underlying234, rfl⟩
 ·exact .inr ⟨Tryz.t236, _, _, by kernel_rfl, rfl, rfl, rfl, (fun cs h => by cases h; rfl), Tryz.underlying236, rfl⟩
 ·exact .inr ⟨Tryz.t270, _, _, by kernel_rfl, rfl, rfl, rfl, (fun cs h => by cases h), Tryz.underlying270, trivial⟩
 ·exact .inr ⟨Tryz.t271, _, _, by kernel_rfl, rfl, rfl, rfl, (fun cs h => by cases h; rfl), Tryz.underlying271, rfl⟩
 ·exact .inr ⟨Tryz.t278, _, _, by kernel_rfl, rfl, rfl, rfl, (fun cs h => by cases h; rfl), Tryz.underlying278, rfl⟩
 ·exact .inr ⟨Tryz.t298, _, _, by kernel_rfl, rfl, rfl, rfl, (fun cs h => by cases h; rfl), Tryz.underlying298, rfl⟩
 ·exact .inr ⟨Tryz.t309, _, _, by kernel_rfl, rfl, rfl, rfl, (fun cs h => by cases h; rfl), Tryz.underlying309, rfl⟩
 ·exact .inr ⟨Tryz.t310, _, _, by kernel_rfl, rfl, rfl, rfl, (fun cs h => by cases h; rfl), Tryz.underlying310, rfl⟩
 ·exact .inr ⟨Tryz.t320, _, _, by kernel_rfl, rfl, rfl, rfl, (fun cs h => by cases h; rfl), Tryz.underlying320, rfl⟩
 ·exact .inr ⟨Tryz.t326, _, _, by kernel_rfl, rfl, rfl, rfl, (fun cs h => by cases h; rfl), Tryz.underlying326, rfl⟩
 ·exact .inr ⟨Tryz.t334, _, _, by kernel_rfl, rfl, rfl, rfl, (fun cs h => by cases h; rfl), Tryz.underlying334, rfl⟩
 ·exact .inr ⟨Tryz.t336, _, _, by kernel_rfl, rfl, rfl, rfl, (fun cs h => by cases h; rfl), Tryz.underlying336, rfl⟩
 ·exact .inr ⟨Tryz.t346, _, _, by kernel_rfl, rfl, rfl, rfl, (fun cs h => by cases h; rfl), Tryz.underlying346, rfl⟩
 ·exact .inr ⟨Tryz.t350, _, _, by kernel_rfl, rfl, rfl, rfl, (fun cs h => by cases h), Tryz.underlying350, trivial⟩
 ·exact .inr ⟨Tryz.t353, _, _, by kernel_rfl, rfl, rfl, rfl, (fun cs h => by cases h), Tryz.underlying353, trivial⟩
 ·exact .inl ⟨_, _, _, _, rfl, rfl⟩
noncomputable def aA : b4 := ⟨Tryz.prog, T, fun _ => []⟩
theorem Hi : aA.eP := ⟨W4, by kernel_rfl⟩
theorem dm : aA.T 2 = ⟨.int .i64, 1, 8, (.int .i64 0)⟩ := rfl
theorem azh : aA.T 3 = ⟨.int .i64, 1, 8, (.int .i64 0)⟩ := rfl
theorem qB : aA.T 4 = ⟨.bool, 1, 1, (.bool false)⟩ := rfl
theorem y3 : aA.T 5 = ⟨.int .u8, 1, 1, (.int .u8 0)⟩ := rfl
theorem eU : aA.T 9 = ⟨.str, 1, 16, (.str [])⟩ := rfl
theorem gE : aA.T 22 = ⟨.slice 2, 1, 24, .bo⟩ := rfl
theorem Hj : aA.T 49 = ⟨.slice 9, 1, 24, .bo⟩ := rfl
theorem B4 : aA.T 64 = ⟨.slice 150, 1, 24, .bo⟩ := rfl
theorem B5 : aA.T 66 = ⟨.struct [(2, 0), (2, 1), (22, 2)], 3, 40, (.agg [(.int .i64 0), (.int .i64 0), .bo])⟩ := rfl
theorem wI : aA.T 69 = ⟨.slice 164, 1, 24, .bo⟩ := rfl
theorem qC : aA.T 72 = ⟨.slice 158, 1, 24, .bo⟩ := rfl
theorem ib : aA.T 74 = ⟨.struct [(2, 0), (2, 1), (22, 2)], 3, 40, (.agg [(.int .i64 0), (.int .i64 0), .bo])⟩ := rfl
theorem y4 : aA.T 123 = ⟨.slice 5, 1, 24, .bo⟩ := rfl
theorem tX : aA.T 148 = ⟨.slice 298, 1, 24, .bo⟩ := rfl
theorem B6 : aA.T 150 = ⟨.struct [(9, 0), (2, 1), (148, 2)], 3, 48, (.agg [(.str []), (.int .i64 0), .bo])⟩ := rfl
theorem azi : aA.T 153 = ⟨.ptr 74, 1, 8, .da⟩ := rfl
theorem jL : aA.T 156 = ⟨.slice 230, 1, 24, .bo⟩ := rfl
theorem l0 : aA.T 158 = ⟨.struct [(9, 0), (2, 1), (156, 2)], 3, 48, (.agg [(.str []), (.int .i64 0), .bo])⟩ := rfl
theorem sy : aA.T 164 = ⟨.struct [(9, 0), (74, 1)], 4, 56, (.agg [(.str []), (.agg [(.int .i64 0), (.int .i64 0), .bo])])⟩ := rfl
theorem nT : aA.T 179 = ⟨.slice 326, 1, 24, .bo⟩ := rfl
theorem qD : aA.T 180 = ⟨.slice 179, 1, 24, .bo⟩ := rfl
theorem e_ : aA.T 186 = ⟨.slice 278, 1, 24, .bo⟩ := rfl
theorem fT : aA.T 187 = ⟨.slice 186, 1, 24, .bo⟩ := rfl
theorem azj : aA.T 195 = ⟨.fn, 1, 8, .hole⟩ := rfl
theorem Hk : aA.T 197 = ⟨.map 9 4, 1, 8, (.ct .o_)⟩ := rfl
theorem azk : aA.T 228 = ⟨.ptr 158, 1, 8, .da⟩ := rfl
theorem ht : aA.T 230 = ⟨.struct [(2, 0), (2, 1), (9, 2), (187, 3)], 4, 56, (.agg [(.int .i64 0), (.int .i64 0), (.str []), .bo])⟩ := rfl
theorem azl : aA.T 234 = ⟨.ptr 236, 1, 8, .da⟩ := rfl
theorem Hl : aA.T 236 = ⟨.struct [(72, 0), (69, 1), (197, 2)], 3, 56, (.agg [.bo, .bo, (.ct .o_)])⟩ := rfl
theorem azm : aA.T 270 = ⟨.fn, 1, 8, .hole⟩ := rfl
theorem Hm : aA.T 271 = ⟨.ptr 336, 1, 8, .da⟩ := rfl
theorem eV : aA.T 278 = ⟨.struct [(2, 0), (2, 1)], 2, 16, (.agg [(.int .i64 0), (.int .i64 0)])⟩ := rfl
theorem tY : aA.T 298 = ⟨.struct [(2, 0), (2, 1), (9, 2), (180, 3)], 4, 56, (.agg [(.int .i64 0), (.int .i64 0), (.str []), .bo])⟩ := rfl
theorem qE : aA.T 309 = ⟨.struct [(2, 0), (4, 1)], 2, 16, (.agg [(.int .i64 0), (.bool false)])⟩ := rfl
theorem tZ : aA.T 310 = ⟨.slice 309, 1, 24, .bo⟩ := rfl
theorem azn : aA.T 320 = ⟨.ptr 278, 1, 8, .da⟩ := rfl
theorem nU : aA.T 326 = ⟨.struct [(2, 0), (2, 1)], 2, 16, (.agg [(.int .i64 0), (.int .i64 0)])⟩ := rfl
theorem Hn : aA.T 334 = ⟨.slice 271, 1, 24, .bo⟩ := rfl
theorem Ho : aA.T 336 = ⟨.struct [(278, 0), (334, 2)], 3, 40, (.agg [(.agg [(.int .i64 0), (.int .i64 0)]), .bo])⟩ := rfl
theorem azo : aA.T 346 = ⟨.ptr 230, 1, 8, .da⟩ := rfl
theorem azp : aA.T 350 = ⟨.fn, 1, 8, .hole⟩ := rfl
theorem NC : aA.T 353 = ⟨.fn, 1, 8, .hole⟩ := rfl
end Go.Proofs.YtgpmnlkgmadglaaGreatDoor
