/- Part of a proof that a law returns true for every input. No condition. -/
import Derived.Test.YtobljppjkklojaaGreatProg
import Derived.KernelRfl
import Derived.Test.YtobljppjkklojaaGreatFwF
namespace Go.Proofs.YtobljppjkklojaaGreat
open Go.Fw

def T : TypeId → TI
  | 2 => ⟨.int .i64, 1, 8, (.int .i64 0)⟩
  | 3 => ⟨.int .i64, 1, 8, (.int .i64 0)⟩
  | 4 => ⟨.bool, 1, 1, (.bool false)⟩
  | 5 => ⟨.int .u8, 1, 1, (.int .u8 0)⟩
  | 9 => ⟨.str, 1, 16, (.str [])⟩
  | 22 => ⟨.slice 2, 1, 24, .nils⟩
  | 38 => ⟨.slice 173, 1, 24, .nils⟩
  | 39 => ⟨.slice 175, 1, 24, .nils⟩
  | 40 => ⟨.slice 116, 1, 24, .nils⟩
  | 41 => ⟨.slice 9, 1, 24, .nils⟩
  | 43 => ⟨.struct [(38, 0), (39, 1), (40, 2), (41, 3), (41, 4)], 5, 120, (.agg [.nils, .nils, .nils, .nils, .nils])⟩
  | 46 => ⟨.slice 178, 1, 24, .nils⟩
  | 47 => ⟨.slice 105, 1, 24, .nils⟩
  | 48 => ⟨.slice 119, 1, 24, .nils⟩
  | 50 => ⟨.struct [(46, 0), (47, 1), (48, 2), (41, 3), (41, 4)], 5, 120, (.agg [.nils, .nils, .nils, .nils, .nils])⟩
  | 65 => ⟨.slice 129, 1, 24, .nils⟩
  | 67 => ⟨.fn, 1, 8, .hole⟩
  | 68 => ⟨.slice 131, 1, 24, .nils⟩
  | 84 => ⟨.slice 159, 1, 24, .nils⟩
  | 85 => ⟨.slice 84, 1, 24, .nils⟩
  | 88 => ⟨.fn, 1, 8, .hole⟩
  | 97 => ⟨.ptr 50, 1, 8, .nilp⟩
  | 105 => ⟨.struct [(2, 0), (22, 1)], 2, 32, (.agg [(.int .i64 0), .nils])⟩
  | 107 => ⟨.fn, 1, 8, .hole⟩
  | 116 => ⟨.struct [(9, 0), (9, 1), (9, 2)], 3, 48, (.agg [(.str []), (.str []), (.str [])])⟩
  | 119 => ⟨.struct [(9, 0), (9, 1), (9, 2)], 3, 48, (.agg [(.str []), (.str []), (.str [])])⟩
  | 129 => ⟨.struct [(2, 0), (2, 1), (22, 2)], 3, 40, (.agg [(.int .i64 0), (.int .i64 0), .nils])⟩
  | 131 => ⟨.struct [(2, 0), (2, 1), (22, 2)], 3, 40, (.agg [(.int .i64 0), (.int .i64 0), .nils])⟩
  | 135 => ⟨.fn, 1, 8, .hole⟩
  | 138 => ⟨.slice 256, 1, 24, .nils⟩
  | 139 => ⟨.slice 138, 1, 24, .nils⟩
  | 143 => ⟨.fn, 1, 8, .hole⟩
  | 151 => ⟨.fn, 1, 8, .hole⟩
  | 159 => ⟨.struct [(2, 0), (2, 1)], 2, 16, (.agg [(.int .i64 0), (.int .i64 0)])⟩
  | 171 => ⟨.slice 261, 1, 24, .nils⟩
  | 173 => ⟨.struct [(9, 0), (2, 1), (171, 2)], 3, 48, (.agg [(.str []), (.int .i64 0), .nils])⟩
  | 175 => ⟨.struct [(2, 0), (22, 1)], 2, 32, (.agg [(.int .i64 0), .nils])⟩
  | 176 => ⟨.slice 202, 1, 24, .nils⟩
  | 178 => ⟨.struct [(9, 0), (2, 1), (176, 2)], 3, 48, (.agg [(.str []), (.int .i64 0), .nils])⟩
  | 187 => ⟨.fn, 1, 8, .hole⟩
  | 189 => ⟨.fn, 1, 8, .hole⟩
  | 199 => ⟨.ptr 131, 1, 8, .nilp⟩
  | 202 => ⟨.struct [(2, 0), (2, 1), (9, 2), (85, 3)], 4, 56, (.agg [(.int .i64 0), (.int .i64 0), (.str []), .nils])⟩
  | 204 => ⟨.struct [(2, 0), (4, 1)], 2, 16, (.agg [(.int .i64 0), (.bool false)])⟩
  | 205 => ⟨.slice 204, 1, 24, .nils⟩
  | 209 => ⟨.fn, 1, 8, .hole⟩
  | 219 => ⟨.fn, 1, 8, .hole⟩
  | 228 => ⟨.ptr 178, 1, 8, .nilp⟩
  | 231 => ⟨.fn, 1, 8, .hole⟩
  | 247 => ⟨.fn, 1, 8, .hole⟩
  | 250 => ⟨.ptr 159, 1, 8, .nilp⟩
  | 256 => ⟨.struct [(2, 0), (2, 1)], 2, 16, (.agg [(.int .i64 0), (.int .i64 0)])⟩
  | 261 => ⟨.struct [(2, 0), (2, 1), (9, 2), (139, 3)], 4, 56, (.agg [(.int .i64 0), (.int .i64 0), (.str []), .nils])⟩
  | 275 => ⟨.ptr 202, 1, 8, .nilp⟩
  | _ => ⟨.other, 0, 0, .hole⟩

theorem T_ok : ∀ t, okT Tryz.prog t (T t) := by
  intro t
  unfold T
  split
  · exact .inr ⟨Tryz.t2, _, _, by kernel_rfl, rfl, rfl, rfl, (fun cs h => by cases h; rfl), Tryz.underlying2, rfl⟩
  · exact .inr ⟨Tryz.t3, _, _, by kernel_rfl, rfl, rfl, rfl, (fun cs h => by cases h; rfl), Tryz.underlying3, rfl⟩
  · exact .inr ⟨Tryz.t4, _, _, by kernel_rfl, rfl, rfl, rfl, (fun cs h => by cases h; rfl), Tryz.underlying4, trivial⟩
  · exact .inr ⟨Tryz.t5, _, _, by kernel_rfl, rfl, rfl, rfl, (fun cs h => by cases h; rfl), Tryz.underlying5, rfl⟩
  · exact .inr ⟨Tryz.t9, _, _, by kernel_rfl, rfl, rfl, rfl, (fun cs h => by cases h; rfl), Tryz.underlying9, trivial⟩
  · exact .inr ⟨Tryz.t22, _, _, by kernel_rfl, rfl, rfl, rfl, (fun cs h => by cases h; rfl), Tryz.underlying22, rfl⟩
  · exact .inr ⟨Tryz.t38, _, _, by kernel_rfl, rfl, rfl, rfl, (fun cs h => by cases h; rfl), Tryz.underlying38, rfl⟩
  · exact .inr ⟨Tryz.t39, _, _, by kernel_rfl, rfl, rfl, rfl, (fun cs h => by cases h; rfl), Tryz.underlying39, rfl⟩
  · exact .inr ⟨Tryz.t40, _, _, by kernel_rfl, rfl, rfl, rfl, (fun cs h => by cases h; rfl), Tryz.underlying40, rfl⟩
  · exact .inr ⟨Tryz.t41, _, _, by kernel_rfl, rfl, rfl, rfl, (fun cs h => by cases h; rfl), Tryz.underlying41, rfl⟩
  · exact .inr ⟨Tryz.t43, _, _, by kernel_rfl, rfl, rfl, rfl, (fun cs h => by cases h; rfl), Tryz.underlying43, rfl⟩
  · exact .inr ⟨Tryz.t46, _, _, by kernel_rfl, rfl, rfl, rfl, (fun cs h => by cases h; rfl), Tryz.underlying46, rfl⟩
  · exact .inr ⟨Tryz.t47, _, _, by kernel_rfl, rfl, rfl, rfl, (fun cs h => by cases h; rfl), Tryz.underlying47, rfl⟩
  · exact .inr ⟨Tryz.t48, _, _, by kernel_rfl, rfl, rfl, rfl, (fun cs h => by cases h; rfl), Tryz.underlying48, rfl⟩
  · exact .inr ⟨Tryz.t50, _, _, by kernel_rfl, rfl, rfl, rfl, (fun cs h => by cases h; rfl), Tryz.underlying50, rfl⟩
  · exact .inr ⟨Tryz.t65, _, _, by kernel_rfl, rfl, rfl, rfl, (fun cs h => by cases h; rfl), Tryz.underlying65, rfl⟩
  · exact .inr ⟨Tryz.t67, _, _, by kernel_rfl, rfl, rfl, rfl, (fun cs h => by cases h), Tryz.underlying67, trivial⟩
  · exact .inr ⟨Tryz.t68, _, _, by kernel_rfl, rfl, rfl, rfl, (fun cs h => by cases h; rfl), Tryz.underlying68, rfl⟩
  · exact .inr ⟨Tryz.t84, _, _, by kernel_rfl, rfl, rfl, rfl, (fun cs h => by cases h; rfl), Tryz.underlying84, rfl⟩
  · exact .inr ⟨Tryz.t85, _, _, by kernel_rfl, rfl, rfl, rfl, (fun cs h => by cases h; rfl), Tryz.underlying85, rfl⟩
  · exact .inr ⟨Tryz.t88, _, _, by kernel_rfl, rfl, rfl, rfl, (fun cs h => by cases h), Tryz.underlying88, trivial⟩
  · exact .inr ⟨Tryz.t97, _, _, by kernel_rfl, rfl, rfl, rfl, (fun cs h => by cases h; rfl), Tryz.underlying97, rfl⟩
  · exact .inr ⟨Tryz.t105, _, _, by kernel_rfl, rfl, rfl, rfl, (fun cs h => by cases h; rfl), Tryz.underlying105, rfl⟩
  · exact .inr ⟨Tryz.t107, _, _, by kernel_rfl, rfl, rfl, rfl, (fun cs h => by cases h), Tryz.underlying107, trivial⟩
  · exact .inr ⟨Tryz.t116, _, _, by kernel_rfl, rfl, rfl, rfl, (fun cs h => by cases h; rfl), Tryz.underlying116, rfl⟩
  · exact .inr ⟨Tryz.t119, _, _, by kernel_rfl, rfl, rfl, rfl, (fun cs h => by cases h; rfl), Tryz.underlying119, rfl⟩
  · exact .inr ⟨Tryz.t129, _, _, by kernel_rfl, rfl, rfl, rfl, (fun cs h => by cases h; rfl), Tryz.underlying129, rfl⟩
  · exact .inr ⟨Tryz.t131, _, _, by kernel_rfl, rfl, rfl, rfl, (fun cs h => by cases h; rfl), Tryz.underlying131, rfl⟩
  · exact .inr ⟨Tryz.t135, _, _, by kernel_rfl, rfl, rfl, rfl, (fun cs h => by cases h), Tryz.underlying135, trivial⟩
  · exact .inr ⟨Tryz.t138, _, _, by kernel_rfl, rfl, rfl, rfl, (fun cs h => by cases h; rfl), Tryz.underlying138, rfl⟩
  · exact .inr ⟨Tryz.t139, _, _, by kernel_rfl, rfl, rfl, rfl, (fun cs h => by cases h; rfl), Tryz.underlying139, rfl⟩
  · exact .inr ⟨Tryz.t143, _, _, by kernel_rfl, rfl, rfl, rfl, (fun cs h => by cases h), Tryz.underlying143, trivial⟩
  · exact .inr ⟨Tryz.t151, _, _, by kernel_rfl, rfl, rfl, rfl, (fun cs h => by cases h), Tryz.underlying151, trivial⟩
  · exact .inr ⟨Tryz.t159, _, _, by kernel_rfl, rfl, rfl, rfl, (fun cs h => by cases h; rfl), Tryz.underlying159, rfl⟩
  · exact .inr ⟨Tryz.t171, _, _, by kernel_rfl, rfl, rfl, rfl, (fun cs h => by cases h; rfl), Tryz.underlying171, rfl⟩
  · exact .inr ⟨Tryz.t173, _, _, by kernel_rfl, rfl, rfl, rfl, (fun cs h => by cases h; rfl), Tryz.underlying173, rfl⟩
  · exact .inr ⟨Tryz.t175, _, _, by kernel_rfl, rfl, rfl, rfl, (fun cs h => by cases h; rfl), Tryz.underlying175, rfl⟩
  · exact .inr ⟨Tryz.t176, _, _, by kernel_rfl, rfl, rfl, rfl, (fun cs h => by cases h; rfl), Tryz.underlying176, rfl⟩
  · exact .inr ⟨Tryz.t178, _, _, by kernel_rfl, rfl, rfl, rfl, (fun cs h => by cases h; rfl), Tryz.underlying178, rfl⟩
  · exact .inr ⟨Tryz.t187, _, _, by kernel_rfl, rfl, rfl, rfl, (fun cs h => by cases h), Tryz.underlying187, trivial⟩
  · exact .inr ⟨Tryz.t189, _, _, by kernel_rfl, rfl, rfl, rfl, (fun cs h => by cases h), Tryz.underlying189, trivial⟩
  · exact .inr ⟨Tryz.t199, _, _, by kernel_rfl, rfl, rfl, rfl, (fun cs h => by cases h; rfl), Tryz.underlying199, rfl⟩
  · exact .inr ⟨Tryz.t202, _, _, by kernel_rfl, rfl, rfl, rfl, (fun cs h => by cases h; rfl), Tryz.underlying202, rfl⟩
  · exact .inr ⟨Tryz.t204, _, _, by kernel_rfl, rfl, rfl, rfl, (fun cs h => by cases h; rfl), Tryz.underlying204, rfl⟩
  · exact .inr ⟨Tryz.t205, _, _, by kernel_rfl, rfl, rfl, rfl, (fun cs h => by cases h; rfl), Tryz.underlying205, rfl⟩
  · exact .inr ⟨Tryz.t209, _, _, by kernel_rfl, rfl, rfl, rfl, (fun cs h => by cases h), Tryz.underlying209, trivial⟩
  · exact .inr ⟨Tryz.t219, _, _, by kernel_rfl, rfl, rfl, rfl, (fun cs h => by cases h), Tryz.underlying219, trivial⟩
  · exact .inr ⟨Tryz.t228, _, _, by kernel_rfl, rfl, rfl, rfl, (fun cs h => by cases h; rfl), Tryz.underlying228, rfl⟩
  · exact .inr ⟨Tryz.t231, _, _, by kernel_rfl, rfl, rfl, rfl, (fun cs h => by cases h), Tryz.underlying231, trivial⟩
  · exact .inr ⟨Tryz.t247, _, _, by kernel_rfl, rfl, rfl, rfl, (fun cs h => by cases h), Tryz.underlying247, trivial⟩
  · exact .inr ⟨Tryz.t250, _, _, by kernel_rfl, rfl, rfl, rfl, (fun cs h => by cases h; rfl), Tryz.underlying250, rfl⟩
  · exact .inr ⟨Tryz.t256, _, _, by kernel_rfl, rfl, rfl, rfl, (fun cs h => by cases h; rfl), Tryz.underlying256, rfl⟩
  · exact .inr ⟨Tryz.t261, _, _, by kernel_rfl, rfl, rfl, rfl, (fun cs h => by cases h; rfl), Tryz.underlying261, rfl⟩
  · exact .inr ⟨Tryz.t275, _, _, by kernel_rfl, rfl, rfl, rfl, (fun cs h => by cases h; rfl), Tryz.underlying275, rfl⟩

  · exact .inl ⟨_, _, _, _, rfl, rfl⟩

noncomputable def Cc : Cx := ⟨Tryz.prog, T, fun _ => []⟩
theorem Cc_ok : Cc.Ok := ⟨T_ok, by kernel_rfl⟩
theorem tt2 : Cc.T 2 = ⟨.int .i64, 1, 8, (.int .i64 0)⟩ := rfl
theorem tt3 : Cc.T 3 = ⟨.int .i64, 1, 8, (.int .i64 0)⟩ := rfl
theorem tt4 : Cc.T 4 = ⟨.bool, 1, 1, (.bool false)⟩ := rfl
theorem tt5 : Cc.T 5 = ⟨.int .u8, 1, 1, (.int .u8 0)⟩ := rfl
theorem tt9 : Cc.T 9 = ⟨.str, 1, 16, (.str [])⟩ := rfl
theorem tt22 : Cc.T 22 = ⟨.slice 2, 1, 24, .nils⟩ := rfl
theorem tt38 : Cc.T 38 = ⟨.slice 173, 1, 24, .nils⟩ := rfl
theorem tt39 : Cc.T 39 = ⟨.slice 175, 1, 24, .nils⟩ := rfl
theorem tt40 : Cc.T 40 = ⟨.slice 116, 1, 24, .nils⟩ := rfl
theorem tt41 : Cc.T 41 = ⟨.slice 9, 1, 24, .nils⟩ := rfl
theorem tt43 : Cc.T 43 = ⟨.struct [(38, 0), (39, 1), (40, 2), (41, 3), (41, 4)], 5, 120, (.agg [.nils, .nils, .nils, .nils, .nils])⟩ := rfl
theorem tt46 : Cc.T 46 = ⟨.slice 178, 1, 24, .nils⟩ := rfl
theorem tt47 : Cc.T 47 = ⟨.slice 105, 1, 24, .nils⟩ := rfl
theorem tt48 : Cc.T 48 = ⟨.slice 119, 1, 24, .nils⟩ := rfl
theorem tt50 : Cc.T 50 = ⟨.struct [(46, 0), (47, 1), (48, 2), (41, 3), (41, 4)], 5, 120, (.agg [.nils, .nils, .nils, .nils, .nils])⟩ := rfl
theorem tt65 : Cc.T 65 = ⟨.slice 129, 1, 24, .nils⟩ := rfl
theorem tt67 : Cc.T 67 = ⟨.fn, 1, 8, .hole⟩ := rfl
theorem tt68 : Cc.T 68 = ⟨.slice 131, 1, 24, .nils⟩ := rfl
theorem tt84 : Cc.T 84 = ⟨.slice 159, 1, 24, .nils⟩ := rfl
theorem tt85 : Cc.T 85 = ⟨.slice 84, 1, 24, .nils⟩ := rfl
theorem tt88 : Cc.T 88 = ⟨.fn, 1, 8, .hole⟩ := rfl
theorem tt97 : Cc.T 97 = ⟨.ptr 50, 1, 8, .nilp⟩ := rfl
theorem tt105 : Cc.T 105 = ⟨.struct [(2, 0), (22, 1)], 2, 32, (.agg [(.int .i64 0), .nils])⟩ := rfl
theorem tt107 : Cc.T 107 = ⟨.fn, 1, 8, .hole⟩ := rfl
theorem tt116 : Cc.T 116 = ⟨.struct [(9, 0), (9, 1), (9, 2)], 3, 48, (.agg [(.str []), (.str []), (.str [])])⟩ := rfl
theorem tt119 : Cc.T 119 = ⟨.struct [(9, 0), (9, 1), (9, 2)], 3, 48, (.agg [(.str []), (.str []), (.str [])])⟩ := rfl
theorem tt129 : Cc.T 129 = ⟨.struct [(2, 0), (2, 1), (22, 2)], 3, 40, (.agg [(.int .i64 0), (.int .i64 0), .nils])⟩ := rfl
theorem tt131 : Cc.T 131 = ⟨.struct [(2, 0), (2, 1), (22, 2)], 3, 40, (.agg [(.int .i64 0), (.int .i64 0), .nils])⟩ := rfl
theorem tt135 : Cc.T 135 = ⟨.fn, 1, 8, .hole⟩ := rfl
theorem tt138 : Cc.T 138 = ⟨.slice 256, 1, 24, .nils⟩ := rfl
theorem tt139 : Cc.T 139 = ⟨.slice 138, 1, 24, .nils⟩ := rfl
theorem tt143 : Cc.T 143 = ⟨.fn, 1, 8, .hole⟩ := rfl
theorem tt151 : Cc.T 151 = ⟨.fn, 1, 8, .hole⟩ := rfl
theorem tt159 : Cc.T 159 = ⟨.struct [(2, 0), (2, 1)], 2, 16, (.agg [(.int .i64 0), (.int .i64 0)])⟩ := rfl
theorem tt171 : Cc.T 171 = ⟨.slice 261, 1, 24, .nils⟩ := rfl
theorem tt173 : Cc.T 173 = ⟨.struct [(9, 0), (2, 1), (171, 2)], 3, 48, (.agg [(.str []), (.int .i64 0), .nils])⟩ := rfl
theorem tt175 : Cc.T 175 = ⟨.struct [(2, 0), (22, 1)], 2, 32, (.agg [(.int .i64 0), .nils])⟩ := rfl
theorem tt176 : Cc.T 176 = ⟨.slice 202, 1, 24, .nils⟩ := rfl
theorem tt178 : Cc.T 178 = ⟨.struct [(9, 0), (2, 1), (176, 2)], 3, 48, (.agg [(.str []), (.int .i64 0), .nils])⟩ := rfl
theorem tt187 : Cc.T 187 = ⟨.fn, 1, 8, .hole⟩ := rfl
theorem tt189 : Cc.T 189 = ⟨.fn, 1, 8, .hole⟩ := rfl
theorem tt199 : Cc.T 199 = ⟨.ptr 131, 1, 8, .nilp⟩ := rfl
theorem tt202 : Cc.T 202 = ⟨.struct [(2, 0), (2, 1), (9, 2), (85, 3)], 4, 56, (.agg [(.int .i64 0), (.int .i64 0), (.str []), .nils])⟩ := rfl
theorem tt204 : Cc.T 204 = ⟨.struct [(2, 0), (4, 1)], 2, 16, (.agg [(.int .i64 0), (.bool false)])⟩ := rfl
theorem tt205 : Cc.T 205 = ⟨.slice 204, 1, 24, .nils⟩ := rfl
theorem tt209 : Cc.T 209 = ⟨.fn, 1, 8, .hole⟩ := rfl
theorem tt219 : Cc.T 219 = ⟨.fn, 1, 8, .hole⟩ := rfl
theorem tt228 : Cc.T 228 = ⟨.ptr 178, 1, 8, .nilp⟩ := rfl
theorem tt231 : Cc.T 231 = ⟨.fn, 1, 8, .hole⟩ := rfl
theorem tt247 : Cc.T 247 = ⟨.fn, 1, 8, .hole⟩ := rfl
theorem tt250 : Cc.T 250 = ⟨.ptr 159, 1, 8, .nilp⟩ := rfl
theorem tt256 : Cc.T 256 = ⟨.struct [(2, 0), (2, 1)], 2, 16, (.agg [(.int .i64 0), (.int .i64 0)])⟩ := rfl
theorem tt261 : Cc.T 261 = ⟨.struct [(2, 0), (2, 1), (9, 2), (139, 3)], 4, 56, (.agg [(.int .i64 0), (.int .i64 0), (.str []), .nils])⟩ := rfl
theorem tt275 : Cc.T 275 = ⟨.ptr 202, 1, 8, .nilp⟩ := rfl

end Go.Proofs.YtobljppjkklojaaGreat
