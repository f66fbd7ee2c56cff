/- Part of a proof that a law returns true for every input. No condition. -/
import Derived.Test.YtncnipaofaeaiaaProg
import Derived.KernelRfl
import Derived.Test.YtncnipaofaeaiaaFwF
namespace Go.Proofs.Ytncnipaofaeaiaa
open Go.Fw

def T : TypeId → TI
  | 1 => ⟨.fn, 1, 8, .hole⟩
  | 2 => ⟨.int .i64, 1, 8, (.int .i64 0)⟩
  | 3 => ⟨.int .i64, 1, 8, (.int .i64 0)⟩
  | 4 => ⟨.bool, 1, 1, (.bool false)⟩
  | 5 => ⟨.int .u8, 1, 1, (.int .u8 0)⟩
  | 6 => ⟨.int .u8, 1, 1, (.int .u8 0)⟩
  | 7 => ⟨.struct [(2, 0), (3, 1), (4, 2), (6, 3)], 4, 24, (.agg [(.int .i64 0), (.int .i64 0), (.bool false), (.int .u8 0)])⟩
  | 8 => ⟨.struct [(2, 0), (3, 1), (4, 2), (6, 3)], 4, 24, (.agg [(.int .i64 0), (.int .i64 0), (.bool false), (.int .u8 0)])⟩
  | 9 => ⟨.str, 1, 16, (.str [])⟩
  | 10 => ⟨.str, 1, 16, (.str [])⟩
  | 11 => ⟨.str, 1, 16, (.str [])⟩
  | 12 => ⟨.int .u64, 1, 8, (.int .u64 0)⟩
  | 13 => ⟨.struct [(9, 0), (12, 1)], 2, 24, (.agg [(.str []), (.int .u64 0)])⟩
  | 14 => ⟨.struct [(9, 0), (12, 1)], 2, 24, (.agg [(.str []), (.int .u64 0)])⟩
  | 15 => ⟨.ptr 101, 1, 8, .nilp⟩
  | 16 => ⟨.ptr 104, 1, 8, .nilp⟩
  | 17 => ⟨.ptr 113, 1, 8, .nilp⟩
  | 18 => ⟨.struct [(17, 0)], 1, 8, (.agg [.nilp])⟩
  | 19 => ⟨.struct [(17, 0)], 1, 8, (.agg [.nilp])⟩
  | 21 => ⟨.int .i32, 1, 4, (.int .i32 0)⟩
  | 22 => ⟨.fn, 1, 8, .hole⟩
  | 23 => ⟨.fn, 1, 8, .hole⟩
  | 25 => ⟨.fn, 1, 8, .hole⟩
  | 26 => ⟨.fn, 1, 8, .hole⟩
  | 27 => ⟨.slice 51, 1, 24, .nils⟩
  | 28 => ⟨.fn, 1, 8, .hole⟩
  | 29 => ⟨.fn, 1, 8, .hole⟩
  | 30 => ⟨.slice 52, 1, 24, .nils⟩
  | 31 => ⟨.fn, 1, 8, .hole⟩
  | 32 => ⟨.fn, 1, 8, .hole⟩
  | 33 => ⟨.fn, 1, 8, .hole⟩
  | 35 => ⟨.fn, 1, 8, .hole⟩
  | 36 => ⟨.fn, 1, 8, .hole⟩
  | 37 => ⟨.fn, 1, 8, .hole⟩
  | 38 => ⟨.slice 70, 1, 24, .nils⟩
  | 39 => ⟨.fn, 1, 8, .hole⟩
  | 40 => ⟨.fn, 1, 8, .hole⟩
  | 41 => ⟨.slice 72, 1, 24, .nils⟩
  | 42 => ⟨.fn, 1, 8, .hole⟩
  | 43 => ⟨.fn, 1, 8, .hole⟩
  | 44 => ⟨.fn, 1, 8, .hole⟩
  | 45 => ⟨.slice 9, 1, 24, .nils⟩
  | 46 => ⟨.fn, 1, 8, .hole⟩
  | 47 => ⟨.fn, 1, 8, .hole⟩
  | 48 => ⟨.fn, 1, 8, .hole⟩
  | 49 => ⟨.fn, 1, 8, .hole⟩
  | 50 => ⟨.struct [(9, 0), (9, 1)], 2, 32, (.agg [(.str []), (.str [])])⟩
  | 51 => ⟨.struct [(9, 0), (9, 1)], 2, 32, (.agg [(.str []), (.str [])])⟩
  | 52 => ⟨.struct [(9, 0), (9, 1)], 2, 32, (.agg [(.str []), (.str [])])⟩
  | 53 => ⟨.fn, 1, 8, .hole⟩
  | 54 => ⟨.fn, 1, 8, .hole⟩
  | 56 => ⟨.fn, 1, 8, .hole⟩
  | 57 => ⟨.fn, 1, 8, .hole⟩
  | 58 => ⟨.ptr 61, 1, 8, .nilp⟩
  | 59 => ⟨.slice 5, 1, 24, .nils⟩
  | 60 => ⟨.struct [(58, 0), (59, 1)], 2, 32, (.agg [.nilp, .nils])⟩
  | 61 => ⟨.struct [(58, 0), (59, 1)], 2, 32, (.agg [.nilp, .nils])⟩
  | 65 => ⟨.fn, 1, 8, .hole⟩
  | 66 => ⟨.fn, 1, 8, .hole⟩
  | 67 => ⟨.fn, 1, 8, .hole⟩
  | 68 => ⟨.slice 2, 1, 24, .nils⟩
  | 69 => ⟨.struct [(4, 0), (4, 1), (68, 2)], 3, 32, (.agg [(.bool false), (.bool false), .nils])⟩
  | 70 => ⟨.struct [(4, 0), (4, 1), (68, 2)], 3, 32, (.agg [(.bool false), (.bool false), .nils])⟩
  | 71 => ⟨.fn, 1, 8, .hole⟩
  | 72 => ⟨.struct [(4, 0), (4, 1), (68, 2)], 3, 32, (.agg [(.bool false), (.bool false), .nils])⟩
  | 73 => ⟨.fn, 1, 8, .hole⟩
  | 74 => ⟨.ptr 76, 1, 8, .nilp⟩
  | 75 => ⟨.struct [(59, 0)], 1, 24, (.agg [.nils])⟩
  | 76 => ⟨.struct [(59, 0)], 1, 24, (.agg [.nils])⟩
  | 77 => ⟨.fn, 1, 8, .hole⟩
  | 78 => ⟨.fn, 1, 8, .hole⟩
  | 79 => ⟨.fn, 1, 8, .hole⟩
  | 80 => ⟨.fn, 1, 8, .hole⟩
  | 81 => ⟨.int .u64, 1, 8, (.int .u64 0)⟩
  | 82 => ⟨.fn, 1, 8, .hole⟩
  | 83 => ⟨.fn, 1, 8, .hole⟩
  | 84 => ⟨.ptr 52, 1, 8, .nilp⟩
  | 85 => ⟨.ptr 5, 1, 8, .nilp⟩
  | 86 => ⟨.fn, 1, 8, .hole⟩
  | 87 => ⟨.fn, 1, 8, .hole⟩
  | 88 => ⟨.fn, 1, 8, .hole⟩
  | 89 => ⟨.fn, 1, 8, .hole⟩
  | 90 => ⟨.fn, 1, 8, .hole⟩
  | 91 => ⟨.fn, 1, 8, .hole⟩
  | 92 => ⟨.fn, 1, 8, .hole⟩
  | 93 => ⟨.fn, 1, 8, .hole⟩
  | 94 => ⟨.fn, 1, 8, .hole⟩
  | 96 => ⟨.fn, 1, 8, .hole⟩
  | 97 => ⟨.fn, 1, 8, .hole⟩
  | 98 => ⟨.fn, 1, 8, .hole⟩
  | 99 => ⟨.fn, 1, 8, .hole⟩
  | 100 => ⟨.struct [(17, 0), (17, 1), (17, 2), (9, 3)], 4, 40, (.agg [.nilp, .nilp, .nilp, (.str [])])⟩
  | 101 => ⟨.struct [(17, 0), (17, 1), (17, 2), (9, 3)], 4, 40, (.agg [.nilp, .nilp, .nilp, (.str [])])⟩
  | 103 => ⟨.struct [(102, 0)], 0, 0, .hole⟩
  | 104 => ⟨.struct [(102, 0)], 0, 0, .hole⟩
  | 105 => ⟨.fn, 1, 8, .hole⟩
  | 106 => ⟨.int .u32, 1, 4, (.int .u32 0)⟩
  | 107 => ⟨.int .u8, 1, 1, (.int .u8 0)⟩
  | 108 => ⟨.int .u8, 1, 1, (.int .u8 0)⟩
  | 109 => ⟨.fn, 1, 8, .hole⟩
  | 110 => ⟨.int .i32, 1, 4, (.int .i32 0)⟩
  | 111 => ⟨.int .i32, 1, 4, (.int .i32 0)⟩
  | 112 => ⟨.struct [(12, 0), (12, 1), (106, 2), (107, 3), (5, 4), (5, 5), (108, 6), (109, 7), (85, 8), (110, 9), (111, 10)], 11, 48, .hole⟩
  | 113 => ⟨.struct [(12, 0), (12, 1), (106, 2), (107, 3), (5, 4), (5, 5), (108, 6), (109, 7), (85, 8), (110, 9), (111, 10)], 11, 48, .hole⟩
  | _ => ⟨.other, 0, 0, .hole⟩

theorem T_ok : ∀ t, okT Try.prog t (T t) := by
  intro t
  unfold T
  split
  · exact .inr ⟨Try.t1, _, _, by kernel_rfl, rfl, rfl, rfl, (fun cs h => by cases h), Try.underlying1, trivial⟩
  · exact .inr ⟨Try.t2, _, _, by kernel_rfl, rfl, rfl, rfl, (fun cs h => by cases h; rfl), Try.underlying2, rfl⟩
  · exact .inr ⟨Try.t3, _, _, by kernel_rfl, rfl, rfl, rfl, (fun cs h => by cases h; rfl), Try.underlying3, rfl⟩
  · exact .inr ⟨Try.t4, _, _, by kernel_rfl, rfl, rfl, rfl, (fun cs h => by cases h; rfl), Try.underlying4, trivial⟩
  · exact .inr ⟨Try.t5, _, _, by kernel_rfl, rfl, rfl, rfl, (fun cs h => by cases h; rfl), Try.underlying5, rfl⟩
  · exact .inr ⟨Try.t6, _, _, by kernel_rfl, rfl, rfl, rfl, (fun cs h => by cases h; rfl), Try.underlying6, rfl⟩
  · exact .inr ⟨Try.t7, _, _, by kernel_rfl, rfl, rfl, rfl, (fun cs h => by cases h; rfl), Try.underlying7, rfl⟩
  · exact .inr ⟨Try.t8, _, _, by kernel_rfl, rfl, rfl, rfl, (fun cs h => by cases h; rfl), Try.underlying8, rfl⟩
  · exact .inr ⟨Try.t9, _, _, by kernel_rfl, rfl, rfl, rfl, (fun cs h => by cases h; rfl), Try.underlying9, trivial⟩
  · exact .inr ⟨Try.t10, _, _, by kernel_rfl, rfl, rfl, rfl, (fun cs h => by cases h; rfl), Try.underlying10, trivial⟩
  · exact .inr ⟨Try.t11, _, _, by kernel_rfl, rfl, rfl, rfl, (fun cs h => by cases h; rfl), Try.underlying11, trivial⟩
  · exact .inr ⟨Try.t12, _, _, by kernel_rfl, rfl, rfl, rfl, (fun cs h => by cases h; rfl), Try.underlying12, rfl⟩
  · exact .inr ⟨Try.t13, _, _, by kernel_rfl, rfl, rfl, rfl, (fun cs h => by cases h; rfl), Try.underlying13, rfl⟩
  · exact .inr ⟨Try.t14, _, _, by kernel_rfl, rfl, rfl, rfl, (fun cs h => by cases h; rfl), Try.underlying14, rfl⟩
  · exact .inr ⟨Try.t15, _, _, by kernel_rfl, rfl, rfl, rfl, (fun cs h => by cases h; rfl), Try.underlying15, rfl⟩
  · exact .inr ⟨Try.t16, _, _, by kernel_rfl, rfl, rfl, rfl, (fun cs h => by cases h; rfl), Try.underlying16, rfl⟩
  · exact .inr ⟨Try.t17, _, _, by kernel_rfl, rfl, rfl, rfl, (fun cs h => by cases h; rfl), Try.underlying17, rfl⟩
  · exact .inr ⟨Try.t18, _, _, by kernel_rfl, rfl, rfl, rfl, (fun cs h => by cases h; rfl), Try.underlying18, rfl⟩
  · exact .inr ⟨Try.t19, _, _, by kernel_rfl, rfl, rfl, rfl, (fun cs h => by cases h; rfl), Try.underlying19, rfl⟩
  · exact .inr ⟨Try.t21, _, _, by kernel_rfl, rfl, rfl, rfl, (fun cs h => by cases h; rfl), Try.underlying21, rfl⟩
  · exact .inr ⟨Try.t22, _, _, by kernel_rfl, rfl, rfl, rfl, (fun cs h => by cases h), Try.underlying22, trivial⟩
  · exact .inr ⟨Try.t23, _, _, by kernel_rfl, rfl, rfl, rfl, (fun cs h => by cases h), Try.underlying23, trivial⟩
  · exact .inr ⟨Try.t25, _, _, by kernel_rfl, rfl, rfl, rfl, (fun cs h => by cases h), Try.underlying25, trivial⟩
  · exact .inr ⟨Try.t26, _, _, by kernel_rfl, rfl, rfl, rfl, (fun cs h => by cases h), Try.underlying26, trivial⟩
  · exact .inr ⟨Try.t27, _, _, by kernel_rfl, rfl, rfl, rfl, (fun cs h => by cases h; rfl), Try.underlying27, rfl⟩
  · exact .inr ⟨Try.t28, _, _, by kernel_rfl, rfl, rfl, rfl, (fun cs h => by cases h), Try.underlying28, trivial⟩
  · exact .inr ⟨Try.t29, _, _, by kernel_rfl, rfl, rfl, rfl, (fun cs h => by cases h), Try.underlying29, trivial⟩
  · exact .inr ⟨Try.t30, _, _, by kernel_rfl, rfl, rfl, rfl, (fun cs h => by cases h; rfl), Try.underlying30, rfl⟩
  · exact .inr ⟨Try.t31, _, _, by kernel_rfl, rfl, rfl, rfl, (fun cs h => by cases h), Try.underlying31, trivial⟩
  · exact .inr ⟨Try.t32, _, _, by kernel_rfl, rfl, rfl, rfl, (fun cs h => by cases h), Try.underlying32, trivial⟩
  · exact .inr ⟨Try.t33, _, _, by kernel_rfl, rfl, rfl, rfl, (fun cs h => by cases h), Try.underlying33, trivial⟩
  · exact .inr ⟨Try.t35, _, _, by kernel_rfl, rfl, rfl, rfl, (fun cs h => by cases h), Try.underlying35, trivial⟩
  · exact .inr ⟨Try.t36, _, _, by kernel_rfl, rfl, rfl, rfl, (fun cs h => by cases h), Try.underlying36, trivial⟩
  · exact .inr ⟨Try.t37, _, _, by kernel_rfl, rfl, rfl, rfl, (fun cs h => by cases h), Try.underlying37, trivial⟩
  · exact .inr ⟨Try.t38, _, _, by kernel_rfl, rfl, rfl, rfl, (fun cs h => by cases h; rfl), Try.underlying38, rfl⟩
  · exact .inr ⟨Try.t39, _, _, by kernel_rfl, rfl, rfl, rfl, (fun cs h => by cases h), Try.underlying39, trivial⟩
  · exact .inr ⟨Try.t40, _, _, by kernel_rfl, rfl, rfl, rfl, (fun cs h => by cases h), Try.underlying40, trivial⟩
  · exact .inr ⟨Try.t41, _, _, by kernel_rfl, rfl, rfl, rfl, (fun cs h => by cases h; rfl), Try.underlying41, rfl⟩
  · exact .inr ⟨Try.t42, _, _, by kernel_rfl, rfl, rfl, rfl, (fun cs h => by cases h), Try.underlying42, trivial⟩
  · exact .inr ⟨Try.t43, _, _, by kernel_rfl, rfl, rfl, rfl, (fun cs h => by cases h), Try.underlying43, trivial⟩
  · exact .inr ⟨Try.t44, _, _, by kernel_rfl, rfl, rfl, rfl, (fun cs h => by cases h), Try.underlying44, trivial⟩
  · exact .inr ⟨Try.t45, _, _, by kernel_rfl, rfl, rfl, rfl, (fun cs h => by cases h; rfl), Try.underlying45, rfl⟩
  · exact .inr ⟨Try.t46, _, _, by kernel_rfl, rfl, rfl, rfl, (fun cs h => by cases h), Try.underlying46, trivial⟩
  · exact .inr ⟨Try.t47, _, _, by kernel_rfl, rfl, rfl, rfl, (fun cs h => by cases h), Try.underlying47, trivial⟩
  · exact .inr ⟨Try.t48, _, _, by kernel_rfl, rfl, rfl, rfl, (fun cs h => by cases h), Try.underlying48, trivial⟩
  · exact .inr ⟨Try.t49, _, _, by kernel_rfl, rfl, rfl, rfl, (fun cs h => by cases h), Try.underlying49, trivial⟩
  · exact .inr ⟨Try.t50, _, _, by kernel_rfl, rfl, rfl, rfl, (fun cs h => by cases h; rfl), Try.underlying50, rfl⟩
  · exact .inr ⟨Try.t51, _, _, by kernel_rfl, rfl, rfl, rfl, (fun cs h => by cases h; rfl), Try.underlying51, rfl⟩
  · exact .inr ⟨Try.t52, _, _, by kernel_rfl, rfl, rfl, rfl, (fun cs h => by cases h; rfl), Try.underlying52, rfl⟩
  · exact .inr ⟨Try.t53, _, _, by kernel_rfl, rfl, rfl, rfl, (fun cs h => by cases h), Try.underlying53, trivial⟩
  · exact .inr ⟨Try.t54, _, _, by kernel_rfl, rfl, rfl, rfl, (fun cs h => by cases h), Try.underlying54, trivial⟩
  · exact .inr ⟨Try.t56, _, _, by kernel_rfl, rfl, rfl, rfl, (fun cs h => by cases h), Try.underlying56, trivial⟩
  · exact .inr ⟨Try.t57, _, _, by kernel_rfl, rfl, rfl, rfl, (fun cs h => by cases h), Try.underlying57, trivial⟩
  · exact .inr ⟨Try.t58, _, _, by kernel_rfl, rfl, rfl, rfl, (fun cs h => by cases h; rfl), Try.underlying58, rfl⟩
  · exact .inr ⟨Try.t59, _, _, by kernel_rfl, rfl, rfl, rfl, (fun cs h => by cases h; rfl), Try.underlying59, rfl⟩
  · exact .inr ⟨Try.t60, _, _, by kernel_rfl, rfl, rfl, rfl, (fun cs h => by cases h; rfl), Try.underlying60, rfl⟩
  · exact .inr ⟨Try.t61, _, _, by kernel_rfl, rfl, rfl, rfl, (fun cs h => by cases h; rfl), Try.underlying61, rfl⟩
  · exact .inr ⟨Try.t65, _, _, by kernel_rfl, rfl, rfl, rfl, (fun cs h => by cases h), Try.underlying65, trivial⟩
  · exact .inr ⟨Try.t66, _, _, by kernel_rfl, rfl, rfl, rfl, (fun cs h => by cases h), Try.underlying66, trivial⟩
  · exact .inr ⟨Try.t67, _, _, by kernel_rfl, rfl, rfl, rfl, (fun cs h => by cases h), Try.underlying67, trivial⟩
  · exact .inr ⟨Try.t68, _, _, by kernel_rfl, rfl, rfl, rfl, (fun cs h => by cases h; rfl), Try.underlying68, rfl⟩
  · exact .inr ⟨Try.t69, _, _, by kernel_rfl, rfl, rfl, rfl, (fun cs h => by cases h; rfl), Try.underlying69, rfl⟩
  · exact .inr ⟨Try.t70, _, _, by kernel_rfl, rfl, rfl, rfl, (fun cs h => by cases h; rfl), Try.underlying70, rfl⟩
  · exact .inr ⟨Try.t71, _, _, by kernel_rfl, rfl, rfl, rfl, (fun cs h => by cases h), Try.underlying71, trivial⟩
  · exact .inr ⟨Try.t72, _, _, by kernel_rfl, rfl, rfl, rfl, (fun cs h => by cases h; rfl), Try.underlying72, rfl⟩
  · exact .inr ⟨Try.t73, _, _, by kernel_rfl, rfl, rfl, rfl, (fun cs h => by cases h), Try.underlying73, trivial⟩
  · exact .inr ⟨Try.t74, _, _, by kernel_rfl, rfl, rfl, rfl, (fun cs h => by cases h; rfl), Try.underlying74, rfl⟩
  · exact .inr ⟨Try.t75, _, _, by kernel_rfl, rfl, rfl, rfl, (fun cs h => by cases h; rfl), Try.underlying75, rfl⟩
  · exact .inr ⟨Try.t76, _, _, by kernel_rfl, rfl, rfl, rfl, (fun cs h => by cases h; rfl), Try.underlying76, rfl⟩
  · exact .inr ⟨Try.t77, _, _, by kernel_rfl, rfl, rfl, rfl, (fun cs h => by cases h), Try.underlying77, trivial⟩
  · exact .inr ⟨Try.t78, _, _, by kernel_rfl, rfl, rfl, rfl, (fun cs h => by cases h), Try.underlying78, trivial⟩
  · exact .inr ⟨Try.t79, _, _, by kernel_rfl, rfl, rfl, rfl, (fun cs h => by cases h), Try.underlying79, trivial⟩
  · exact .inr ⟨Try.t80, _, _, by kernel_rfl, rfl, rfl, rfl, (fun cs h => by cases h), Try.underlying80, trivial⟩
  · exact .inr ⟨Try.t81, _, _, by kernel_rfl, rfl, rfl, rfl, (fun cs h => by cases h; rfl), Try.underlying81, rfl⟩
  · exact .inr ⟨Try.t82, _, _, by kernel_rfl, rfl, rfl, rfl, (fun cs h => by cases h), Try.underlying82, trivial⟩
  · exact .inr ⟨Try.t83, _, _, by kernel_rfl, rfl, rfl, rfl, (fun cs h => by cases h), Try.underlying83, trivial⟩
  · exact .inr ⟨Try.t84, _, _, by kernel_rfl, rfl, rfl, rfl, (fun cs h => by cases h; rfl), Try.underlying84, rfl⟩
  · exact .inr ⟨Try.t85, _, _, by kernel_rfl, rfl, rfl, rfl, (fun cs h => by cases h; rfl), Try.underlying85, rfl⟩
  · exact .inr ⟨Try.t86, _, _, by kernel_rfl, rfl, rfl, rfl, (fun cs h => by cases h), Try.underlying86, trivial⟩
  · exact .inr ⟨Try.t87, _, _, by kernel_rfl, rfl, rfl, rfl, (fun cs h => by cases h), Try.underlying87, trivial⟩
  · exact .inr ⟨Try.t88, _, _, by kernel_rfl, rfl, rfl, rfl, (fun cs h => by cases h), Try.underlying88, trivial⟩
  · exact .inr ⟨Try.t89, _, _, by kernel_rfl, rfl, rfl, rfl, (fun cs h => by cases h), Try.underlying89, trivial⟩
  · exact .inr ⟨Try.t90, _, _, by kernel_rfl, rfl, rfl, rfl, (fun cs h => by cases h), Try.underlying90, trivial⟩
  · exact .inr ⟨Try.t91, _, _, by kernel_rfl, rfl, rfl, rfl, (fun cs h => by cases h), Try.underlying91, trivial⟩
  · exact .inr ⟨Try.t92, _, _, by kernel_rfl, rfl, rfl, rfl, (fun cs h => by cases h), Try.underlying92, trivial⟩
  · exact .inr ⟨Try.t93, _, _, by kernel_rfl, rfl, rfl, rfl, (fun cs h => by cases h), Try.underlying93, trivial⟩
  · exact .inr ⟨Try.t94, _, _, by kernel_rfl, rfl, rfl, rfl, (fun cs h => by cases h), Try.underlying94, trivial⟩
  · exact .inr ⟨Try.t96, _, _, by kernel_rfl, rfl, rfl, rfl, (fun cs h => by cases h), Try.underlying96, trivial⟩
  · exact .inr ⟨Try.t97, _, _, by kernel_rfl, rfl, rfl, rfl, (fun cs h => by cases h), Try.underlying97, trivial⟩
  · exact .inr ⟨Try.t98, _, _, by kernel_rfl, rfl, rfl, rfl, (fun cs h => by cases h), Try.underlying98, trivial⟩
  · exact .inr ⟨Try.t99, _, _, by kernel_rfl, rfl, rfl, rfl, (fun cs h => by cases h), Try.underlying99, trivial⟩
  · exact .inr ⟨Try.t100, _, _, by kernel_rfl, rfl, rfl, rfl, (fun cs h => by cases h; rfl), Try.underlying100, rfl⟩
  · exact .inr ⟨Try.t101, _, _, by kernel_rfl, rfl, rfl, rfl, (fun cs h => by cases h; rfl), Try.underlying101, rfl⟩
  · exact .inr ⟨Try.t103, _, _, by kernel_rfl, rfl, rfl, rfl, (fun cs h => by cases h), Try.underlying103, rfl⟩
  · exact .inr ⟨Try.t104, _, _, by kernel_rfl, rfl, rfl, rfl, (fun cs h => by cases h), Try.underlying104, rfl⟩
  · exact .inr ⟨Try.t105, _, _, by kernel_rfl, rfl, rfl, rfl, (fun cs h => by cases h), Try.underlying105, trivial⟩
  · exact .inr ⟨Try.t106, _, _, by kernel_rfl, rfl, rfl, rfl, (fun cs h => by cases h; rfl), Try.underlying106, rfl⟩
  · exact .inr ⟨Try.t107, _, _, by kernel_rfl, rfl, rfl, rfl, (fun cs h => by cases h; rfl), Try.underlying107, rfl⟩
  · exact .inr ⟨Try.t108, _, _, by kernel_rfl, rfl, rfl, rfl, (fun cs h => by cases h; rfl), Try.underlying108, rfl⟩
  · exact .inr ⟨Try.t109, _, _, by kernel_rfl, rfl, rfl, rfl, (fun cs h => by cases h), Try.underlying109, trivial⟩
  · exact .inr ⟨Try.t110, _, _, by kernel_rfl, rfl, rfl, rfl, (fun cs h => by cases h; rfl), Try.underlying110, rfl⟩
  · exact .inr ⟨Try.t111, _, _, by kernel_rfl, rfl, rfl, rfl, (fun cs h => by cases h; rfl), Try.underlying111, rfl⟩
  · exact .inr ⟨Try.t112, _, _, by kernel_rfl, rfl, rfl, rfl, (fun cs h => by cases h), Try.underlying112, rfl⟩
  · exact .inr ⟨Try.t113, _, _, by kernel_rfl, rfl, rfl, rfl, (fun cs h => by cases h), Try.underlying113, rfl⟩

  · exact .inl ⟨_, _, _, _, rfl, rfl⟩

noncomputable def Cc : Cx := ⟨Try.prog, T, fun _ => []⟩
theorem Cc_ok : Cc.Ok := ⟨T_ok, by kernel_rfl⟩
theorem tt1 : Cc.T 1 = ⟨.fn, 1, 8, .hole⟩ := rfl
theorem tt2 : Cc.T 2 = ⟨.int .i64, 1, 8, (.int .i64 0)⟩ := rfl
theorem tt3 : Cc.T 3 = ⟨.int .i64, 1, 8, (.int .i64 0)⟩ := rfl
theorem tt4 : Cc.T 4 = ⟨.bool, 1, 1, (.bool false)⟩ := rfl
theorem tt5 : Cc.T 5 = ⟨.int .u8, 1, 1, (.int .u8 0)⟩ := rfl
theorem tt6 : Cc.T 6 = ⟨.int .u8, 1, 1, (.int .u8 0)⟩ := rfl
theorem tt7 : Cc.T 7 = ⟨.struct [(2, 0), (3, 1), (4, 2), (6, 3)], 4, 24, (.agg [(.int .i64 0), (.int .i64 0), (.bool false), (.int .u8 0)])⟩ := rfl
theorem tt8 : Cc.T 8 = ⟨.struct [(2, 0), (3, 1), (4, 2), (6, 3)], 4, 24, (.agg [(.int .i64 0), (.int .i64 0), (.bool false), (.int .u8 0)])⟩ := rfl
theorem tt9 : Cc.T 9 = ⟨.str, 1, 16, (.str [])⟩ := rfl
theorem tt10 : Cc.T 10 = ⟨.str, 1, 16, (.str [])⟩ := rfl
theorem tt11 : Cc.T 11 = ⟨.str, 1, 16, (.str [])⟩ := rfl
theorem tt12 : Cc.T 12 = ⟨.int .u64, 1, 8, (.int .u64 0)⟩ := rfl
theorem tt13 : Cc.T 13 = ⟨.struct [(9, 0), (12, 1)], 2, 24, (.agg [(.str []), (.int .u64 0)])⟩ := rfl
theorem tt14 : Cc.T 14 = ⟨.struct [(9, 0), (12, 1)], 2, 24, (.agg [(.str []), (.int .u64 0)])⟩ := rfl
theorem tt15 : Cc.T 15 = ⟨.ptr 101, 1, 8, .nilp⟩ := rfl
theorem tt16 : Cc.T 16 = ⟨.ptr 104, 1, 8, .nilp⟩ := rfl
theorem tt17 : Cc.T 17 = ⟨.ptr 113, 1, 8, .nilp⟩ := rfl
theorem tt18 : Cc.T 18 = ⟨.struct [(17, 0)], 1, 8, (.agg [.nilp])⟩ := rfl
theorem tt19 : Cc.T 19 = ⟨.struct [(17, 0)], 1, 8, (.agg [.nilp])⟩ := rfl
theorem tt21 : Cc.T 21 = ⟨.int .i32, 1, 4, (.int .i32 0)⟩ := rfl
theorem tt22 : Cc.T 22 = ⟨.fn, 1, 8, .hole⟩ := rfl
theorem tt23 : Cc.T 23 = ⟨.fn, 1, 8, .hole⟩ := rfl
theorem tt25 : Cc.T 25 = ⟨.fn, 1, 8, .hole⟩ := rfl
theorem tt26 : Cc.T 26 = ⟨.fn, 1, 8, .hole⟩ := rfl
theorem tt27 : Cc.T 27 = ⟨.slice 51, 1, 24, .nils⟩ := rfl
theorem tt28 : Cc.T 28 = ⟨.fn, 1, 8, .hole⟩ := rfl
theorem tt29 : Cc.T 29 = ⟨.fn, 1, 8, .hole⟩ := rfl
theorem tt30 : Cc.T 30 = ⟨.slice 52, 1, 24, .nils⟩ := rfl
theorem tt31 : Cc.T 31 = ⟨.fn, 1, 8, .hole⟩ := rfl
theorem tt32 : Cc.T 32 = ⟨.fn, 1, 8, .hole⟩ := rfl
theorem tt33 : Cc.T 33 = ⟨.fn, 1, 8, .hole⟩ := rfl
theorem tt35 : Cc.T 35 = ⟨.fn, 1, 8, .hole⟩ := rfl
theorem tt36 : Cc.T 36 = ⟨.fn, 1, 8, .hole⟩ := rfl
theorem tt37 : Cc.T 37 = ⟨.fn, 1, 8, .hole⟩ := rfl
theorem tt38 : Cc.T 38 = ⟨.slice 70, 1, 24, .nils⟩ := rfl
theorem tt39 : Cc.T 39 = ⟨.fn, 1, 8, .hole⟩ := rfl
theorem tt40 : Cc.T 40 = ⟨.fn, 1, 8, .hole⟩ := rfl
theorem tt41 : Cc.T 41 = ⟨.slice 72, 1, 24, .nils⟩ := rfl
theorem tt42 : Cc.T 42 = ⟨.fn, 1, 8, .hole⟩ := rfl
theorem tt43 : Cc.T 43 = ⟨.fn, 1, 8, .hole⟩ := rfl
theorem tt44 : Cc.T 44 = ⟨.fn, 1, 8, .hole⟩ := rfl
theorem tt45 : Cc.T 45 = ⟨.slice 9, 1, 24, .nils⟩ := rfl
theorem tt46 : Cc.T 46 = ⟨.fn, 1, 8, .hole⟩ := rfl
theorem tt47 : Cc.T 47 = ⟨.fn, 1, 8, .hole⟩ := rfl
theorem tt48 : Cc.T 48 = ⟨.fn, 1, 8, .hole⟩ := rfl
theorem tt49 : Cc.T 49 = ⟨.fn, 1, 8, .hole⟩ := rfl
theorem tt50 : Cc.T 50 = ⟨.struct [(9, 0), (9, 1)], 2, 32, (.agg [(.str []), (.str [])])⟩ := rfl
theorem tt51 : Cc.T 51 = ⟨.struct [(9, 0), (9, 1)], 2, 32, (.agg [(.str []), (.str [])])⟩ := rfl
theorem tt52 : Cc.T 52 = ⟨.struct [(9, 0), (9, 1)], 2, 32, (.agg [(.str []), (.str [])])⟩ := rfl
theorem tt53 : Cc.T 53 = ⟨.fn, 1, 8, .hole⟩ := rfl
theorem tt54 : Cc.T 54 = ⟨.fn, 1, 8, .hole⟩ := rfl
theorem tt56 : Cc.T 56 = ⟨.fn, 1, 8, .hole⟩ := rfl
theorem tt57 : Cc.T 57 = ⟨.fn, 1, 8, .hole⟩ := rfl
theorem tt58 : Cc.T 58 = ⟨.ptr 61, 1, 8, .nilp⟩ := rfl
theorem tt59 : Cc.T 59 = ⟨.slice 5, 1, 24, .nils⟩ := rfl
theorem tt60 : Cc.T 60 = ⟨.struct [(58, 0), (59, 1)], 2, 32, (.agg [.nilp, .nils])⟩ := rfl
theorem tt61 : Cc.T 61 = ⟨.struct [(58, 0), (59, 1)], 2, 32, (.agg [.nilp, .nils])⟩ := rfl
theorem tt65 : Cc.T 65 = ⟨.fn, 1, 8, .hole⟩ := rfl
theorem tt66 : Cc.T 66 = ⟨.fn, 1, 8, .hole⟩ := rfl
theorem tt67 : Cc.T 67 = ⟨.fn, 1, 8, .hole⟩ := rfl
theorem tt68 : Cc.T 68 = ⟨.slice 2, 1, 24, .nils⟩ := rfl
theorem tt69 : Cc.T 69 = ⟨.struct [(4, 0), (4, 1), (68, 2)], 3, 32, (.agg [(.bool false), (.bool false), .nils])⟩ := rfl
theorem tt70 : Cc.T 70 = ⟨.struct [(4, 0), (4, 1), (68, 2)], 3, 32, (.agg [(.bool false), (.bool false), .nils])⟩ := rfl
theorem tt71 : Cc.T 71 = ⟨.fn, 1, 8, .hole⟩ := rfl
theorem tt72 : Cc.T 72 = ⟨.struct [(4, 0), (4, 1), (68, 2)], 3, 32, (.agg [(.bool false), (.bool false), .nils])⟩ := rfl
theorem tt73 : Cc.T 73 = ⟨.fn, 1, 8, .hole⟩ := rfl
theorem tt74 : Cc.T 74 = ⟨.ptr 76, 1, 8, .nilp⟩ := rfl
theorem tt75 : Cc.T 75 = ⟨.struct [(59, 0)], 1, 24, (.agg [.nils])⟩ := rfl
theorem tt76 : Cc.T 76 = ⟨.struct [(59, 0)], 1, 24, (.agg [.nils])⟩ := rfl
theorem tt77 : Cc.T 77 = ⟨.fn, 1, 8, .hole⟩ := rfl
theorem tt78 : Cc.T 78 = ⟨.fn, 1, 8, .hole⟩ := rfl
theorem tt79 : Cc.T 79 = ⟨.fn, 1, 8, .hole⟩ := rfl
theorem tt80 : Cc.T 80 = ⟨.fn, 1, 8, .hole⟩ := rfl
theorem tt81 : Cc.T 81 = ⟨.int .u64, 1, 8, (.int .u64 0)⟩ := rfl
theorem tt82 : Cc.T 82 = ⟨.fn, 1, 8, .hole⟩ := rfl
theorem tt83 : Cc.T 83 = ⟨.fn, 1, 8, .hole⟩ := rfl
theorem tt84 : Cc.T 84 = ⟨.ptr 52, 1, 8, .nilp⟩ := rfl
theorem tt85 : Cc.T 85 = ⟨.ptr 5, 1, 8, .nilp⟩ := rfl
theorem tt86 : Cc.T 86 = ⟨.fn, 1, 8, .hole⟩ := rfl
theorem tt87 : Cc.T 87 = ⟨.fn, 1, 8, .hole⟩ := rfl
theorem tt88 : Cc.T 88 = ⟨.fn, 1, 8, .hole⟩ := rfl
theorem tt89 : Cc.T 89 = ⟨.fn, 1, 8, .hole⟩ := rfl
theorem tt90 : Cc.T 90 = ⟨.fn, 1, 8, .hole⟩ := rfl
theorem tt91 : Cc.T 91 = ⟨.fn, 1, 8, .hole⟩ := rfl
theorem tt92 : Cc.T 92 = ⟨.fn, 1, 8, .hole⟩ := rfl
theorem tt93 : Cc.T 93 = ⟨.fn, 1, 8, .hole⟩ := rfl
theorem tt94 : Cc.T 94 = ⟨.fn, 1, 8, .hole⟩ := rfl
theorem tt96 : Cc.T 96 = ⟨.fn, 1, 8, .hole⟩ := rfl
theorem tt97 : Cc.T 97 = ⟨.fn, 1, 8, .hole⟩ := rfl
theorem tt98 : Cc.T 98 = ⟨.fn, 1, 8, .hole⟩ := rfl
theorem tt99 : Cc.T 99 = ⟨.fn, 1, 8, .hole⟩ := rfl
theorem tt100 : Cc.T 100 = ⟨.struct [(17, 0), (17, 1), (17, 2), (9, 3)], 4, 40, (.agg [.nilp, .nilp, .nilp, (.str [])])⟩ := rfl
theorem tt101 : Cc.T 101 = ⟨.struct [(17, 0), (17, 1), (17, 2), (9, 3)], 4, 40, (.agg [.nilp, .nilp, .nilp, (.str [])])⟩ := rfl
theorem tt103 : Cc.T 103 = ⟨.struct [(102, 0)], 0, 0, .hole⟩ := rfl
theorem tt104 : Cc.T 104 = ⟨.struct [(102, 0)], 0, 0, .hole⟩ := rfl
theorem tt105 : Cc.T 105 = ⟨.fn, 1, 8, .hole⟩ := rfl
theorem tt106 : Cc.T 106 = ⟨.int .u32, 1, 4, (.int .u32 0)⟩ := rfl
theorem tt107 : Cc.T 107 = ⟨.int .u8, 1, 1, (.int .u8 0)⟩ := rfl
theorem tt108 : Cc.T 108 = ⟨.int .u8, 1, 1, (.int .u8 0)⟩ := rfl
theorem tt109 : Cc.T 109 = ⟨.fn, 1, 8, .hole⟩ := rfl
theorem tt110 : Cc.T 110 = ⟨.int .i32, 1, 4, (.int .i32 0)⟩ := rfl
theorem tt111 : Cc.T 111 = ⟨.int .i32, 1, 4, (.int .i32 0)⟩ := rfl
theorem tt112 : Cc.T 112 = ⟨.struct [(12, 0), (12, 1), (106, 2), (107, 3), (5, 4), (5, 5), (108, 6), (109, 7), (85, 8), (110, 9), (111, 10)], 11, 48, .hole⟩ := rfl
theorem tt113 : Cc.T 113 = ⟨.struct [(12, 0), (12, 1), (106, 2), (107, 3), (5, 4), (5, 5), (108, 6), (109, 7), (85, 8), (110, 9), (111, 10)], 11, 48, .hole⟩ := rfl

end Go.Proofs.Ytncnipaofaeaiaa
