/- Part of a proof that a law returns true for every input. No condition. -/
import Derived.Test.YtobljppjkklojaaProg
import Derived.KernelRfl
import Derived.Test.YtobljppjkklojaaFwF
namespace Go.Proofs.Ytobljppjkklojaa
open Go.cM
def T : TypeId → fq
 | 2 => ⟨.int .i64, 1, 8, (.int .i64 0)⟩
 | 3 => ⟨.int .i64, 1, 8, (.int .i64 0)⟩
 | 4 => ⟨.bool, 1, 1, (.bool false)⟩
 | 5 => ⟨.int .u8, 1, 1, (.int .u8 0)⟩
 | 9 => ⟨.str, 1, 16, (.str [])⟩
 | 36 => ⟨.slice 133, 1, 24, .a_⟩
 | 40 => ⟨.slice 131, 1, 24, .a_⟩
 | 68 => ⟨.slice 2, 1, 24, .a_⟩
 | 84 => ⟨.slice 262, 1, 24, .a_⟩
 | 86 => ⟨.struct [(2, 0), (68, 1), (84, 2)], 3, 56, (.agg [(.int .i64 0), .a_, .a_])⟩
 | 88 => ⟨.slice 197, 1, 24, .a_⟩
 | 90 => ⟨.struct [(2, 0), (68, 1), (88, 2)], 3, 56, (.agg [(.int .i64 0), .a_, .a_])⟩
 | 100 => ⟨.slice 9, 1, 24, .a_⟩
 | 107 => ⟨.slice 5, 1, 24, .a_⟩
 | 128 => ⟨.fn, 1, 8, .hole⟩
 | 131 => ⟨.struct [(2, 0), (2, 1)], 2, 16, (.agg [(.int .i64 0), (.int .i64 0)])⟩
 | 133 => ⟨.struct [(2, 0), (2, 1)], 2, 16, (.agg [(.int .i64 0), (.int .i64 0)])⟩
 | 193 => ⟨.ptr 90, 1, 8, .cW⟩
 | 195 => ⟨.slice 40, 1, 24, .a_⟩
 | 197 => ⟨.struct [(68, 0), (40, 1), (9, 2), (195, 3), (195, 4)], 5, 112, (.agg [.a_, .a_, (.str []), .a_, .a_])⟩
 | 198 => ⟨.ptr 197, 1, 8, .cW⟩
 | 232 => ⟨.ptr 131, 1, 8, .cW⟩
 | 236 => ⟨.fn, 1, 8, .hole⟩
 | 260 => ⟨.slice 36, 1, 24, .a_⟩
 | 262 => ⟨.struct [(68, 0), (36, 1), (9, 2), (260, 3), (260, 4)], 5, 112, (.agg [.a_, .a_, (.str []), .a_, .a_])⟩
 | 267 => ⟨.fn, 1, 8, .hole⟩
 | 268 => ⟨.fn, 1, 8, .hole⟩
 | 294 => ⟨.fn, 1, 8, .hole⟩
 | 308 => ⟨.slice 195, 1, 24, .a_⟩
 | _ => ⟨.other, 0, 0, .hole⟩
theorem K7 : ∀ t, z7 Try.prog t (T t) := by
 intro t
 unfold T
 split
 ·exact .inr ⟨Try.t2, _, _, by kernel_rfl, rfl, rfl, rfl, (fun cs h => by cases h; rfl), Try.underlying2, rfl⟩
 ·exact .inr ⟨Try.t3, _, _, by kernel_rfl, rfl, rfl, rfl, (fun cs h => by cases h; rfl), Try.underlying3, rfl⟩
 ·exact .inr ⟨Try.t4, _, _, by kernel_rfl, rfl, rfl, rfl, (fun cs h => by cases h; rfl), Try.underlying4, trivial⟩
 ·exact .inr ⟨Try.t5, _, _, by kernel_rfl, rfl, rfl, rfl, (fun cs h => by cases h; rfl), Try.underlying5, rfl⟩
 ·exact .inr ⟨Try.t9, _, _, by kernel_rfl, rfl, rfl, rfl, (fun cs h => by cases h; rfl), Try.underlying9, trivial⟩
 ·exact .inr ⟨Try.t36, _, _, by kernel_rfl, rfl, rfl, rfl, (fun cs h => by cases h; rfl), Try.underlying36, rfl⟩
 ·exact .inr ⟨Try.t40, _, _, by kernel_rfl, rfl, rfl, rfl, (fun cs h => by cases h; rfl), Try.underlying40, rfl⟩
 ·exact .inr ⟨Try.t68, _, _, by kernel_rfl, rfl, rfl, rfl, (fun cs h => by cases h; rfl), Try.underlying68, rfl⟩
 ·exact .inr ⟨Try.t84, _, _, by kernel_rfl, rfl, rfl, rfl, (fun cs h => by cases h; rfl), Try.underlying84, rfl⟩
 ·exact .inr ⟨Try.t86, _, _, by kernel_rfl, rfl, rfl, rfl, (fun cs h => by cases h; rfl), Try.underlying86, rfl⟩
 ·exact .inr ⟨Try.t88, _, _, by kernel_rfl, rfl, rfl, rfl, (fun cs h => by cases h; rfl), Try.underlying88, rfl⟩
 ·exact .inr ⟨Try.t90, _, _, by kernel_rfl, rfl, rfl, rfl, (fun cs h => by cases h; rfl), Try.underlying90, rfl⟩
 ·exact .inr ⟨Try.t100, _, _, by kernel_rfl, rfl, rfl, rfl, (fun cs h => by cases h; rfl), Try.underlying100, rfl⟩
 ·exact .inr ⟨Try.t107, _, _, by kernel_rfl, rfl, rfl, rfl, (fun cs h => by cases h; rfl), Try.underlying107, rfl⟩
 ·exact .inr ⟨Try.t128, _, _, by kernel_rfl, rfl, rfl, rfl, (fun cs h => by cases h), Try.underlying128, trivial⟩
 ·exact .inr ⟨Try.t131, _, _, by kernel_rfl, rfl, rfl, rfl, (fun cs h => by cases h; rfl), Try.underlying131, rfl⟩
 ·exact .inr ⟨Try.t133, _, _, by kernel_rfl, rfl, rfl, rfl, (fun cs h => by cases h; rfl), Try.underlying133, rfl⟩
 ·exact .inr ⟨Try.t193, _, _, by kernel_rfl, rfl, rfl, rfl, (fun cs h => by cases h; rfl), Try.underlying193, rfl⟩
 ·exact .inr ⟨Try.t195, _, _, by kernel_rfl, rfl, rfl, rfl, (fun cs h => by cases h; rfl), Try.underlying195, rfl⟩
 ·exact .inr ⟨Try.t197, _, _, by kernel_rfl, rfl, rfl, rfl, (fun cs h => by cases h; rfl), Try.underlying197, rfl⟩
 ·exact .inr ⟨Try.t198, _, _, by kernel_rfl, rfl, rfl, rfl, (fun cs h => by cases h; rfl), Try.underlying198, rfl⟩
 ·exact .inr ⟨Try.t232, _, _, by kernel_rfl, rfl, rfl, rfl, (fun cs h => by cases h; rfl), Try.underlying232, rfl⟩
 ·exact .inr ⟨Try.t236, _, _, by kernel_rfl, rfl, rfl, rfl, (fun cs h => by cases h), Try.underlying236, trivial⟩
 ·exact .inr ⟨Try.t260, _, _, by kernel_rfl, rfl, rfl, rfl, (fun cs h => by cases h; rfl), Try.underlying260, rfl⟩
 ·exact .inr ⟨Try.t262, _, _, by kernel_rfl, rfl, rfl, rfl, (fun cs h => by cases h; rfl), Try.underlying262, rfl⟩
 ·exact .inr ⟨Try.t267, _, _, by kernel_rfl, rfl, rfl, rfl, (fun cs h => by cases h), Try.underlying267, trivial⟩
 ·exact .inr ⟨Try.t268, _, _, by kernel_rfl, rfl, rfl, rfl, (fun cs h => by cases h), Try.underlying268, trivial⟩
 ·exact .inr ⟨Try.t294, _, _, by kernel_rfl, rfl, rfl, rfl, (fun cs h => by cases h), Try.underlying294, trivial⟩
 ·exact .inr ⟨Try.t308, _, _, by kernel_rfl, rfl, rfl, rfl, (fun cs h => by cases h; rfl), Try.underlying308, rfl⟩
 ·exact .inl ⟨_, _, _, _, rfl, rfl⟩
noncomputable def aN : bN := ⟨Try.prog, T, fun _ => []⟩
theorem cV : aN.Ok := ⟨K7, by kernel_rfl⟩
theorem eX : aN.T 2 = ⟨.int .i64, 1, 8, (.int .i64 0)⟩ := rfl
theorem K8 : aN.T 3 = ⟨.int .i64, 1, 8, (.int .i64 0)⟩ := rfl
theorem aal : aN.T 4 = ⟨.bool, 1, 1, (.bool false)⟩ := rfl
theorem K9 : aN.T 5 = ⟨.int .u8, 1, 1, (.int .u8 0)⟩ := rfl
theorem fU : aN.T 9 = ⟨.str, 1, 16, (.str [])⟩ := rfl
theorem lD : aN.T 36 = ⟨.slice 133, 1, 24, .a_⟩ := rfl
theorem fV : aN.T 40 = ⟨.slice 131, 1, 24, .a_⟩ := rfl
theorem hL : aN.T 68 = ⟨.slice 2, 1, 24, .a_⟩ := rfl
theorem qQ : aN.T 84 = ⟨.slice 262, 1, 24, .a_⟩ := rfl
theorem yQ : aN.T 86 = ⟨.struct [(2, 0), (68, 1), (84, 2)], 3, 56, (.agg [(.int .i64 0), .a_, .a_])⟩ := rfl
theorem lE : aN.T 88 = ⟨.slice 197, 1, 24, .a_⟩ := rfl
theorem qR : aN.T 90 = ⟨.struct [(2, 0), (68, 1), (88, 2)], 3, 56, (.agg [(.int .i64 0), .a_, .a_])⟩ := rfl
theorem qS : aN.T 100 = ⟨.slice 9, 1, 24, .a_⟩ := rfl
theorem K_ : aN.T 107 = ⟨.slice 5, 1, 24, .a_⟩ := rfl
theorem aam : aN.T 128 = ⟨.fn, 1, 8, .hole⟩ := rfl
theorem fG : aN.T 131 = ⟨.struct [(2, 0), (2, 1)], 2, 16, (.agg [(.int .i64 0), (.int .i64 0)])⟩ := rfl
theorem lF : aN.T 133 = ⟨.struct [(2, 0), (2, 1)], 2, 16, (.agg [(.int .i64 0), (.int .i64 0)])⟩ := rfl
theorem aan : aN.T 193 = ⟨.ptr 90, 1, 8, .cW⟩ := rfl
theorem gN : aN.T 195 = ⟨.slice 40, 1, 24, .a_⟩ := rfl
theorem jD : aN.T 197 = ⟨.struct [(68, 0), (40, 1), (9, 2), (195, 3), (195, 4)], 5, 112, (.agg [.a_, .a_, (.str []), .a_, .a_])⟩ := rfl
theorem aao : aN.T 198 = ⟨.ptr 197, 1, 8, .cW⟩ := rfl
theorem aap : aN.T 232 = ⟨.ptr 131, 1, 8, .cW⟩ := rfl
theorem aaq : aN.T 236 = ⟨.fn, 1, 8, .hole⟩ := rfl
theorem ni : aN.T 260 = ⟨.slice 36, 1, 24, .a_⟩ := rfl
theorem qT : aN.T 262 = ⟨.struct [(68, 0), (36, 1), (9, 2), (260, 3), (260, 4)], 5, 112, (.agg [.a_, .a_, (.str []), .a_, .a_])⟩ := rfl
theorem aar : aN.T 267 = ⟨.fn, 1, 8, .hole⟩ := rfl
theorem aas : aN.T 268 = ⟨.fn, 1, 8, .hole⟩ := rfl
theorem aat : aN.T 294 = ⟨.fn, 1, 8, .hole⟩ := rfl
theorem yR : aN.T 308 = ⟨.slice 195, 1, 24, .a_⟩ := rfl
end Go.Proofs.Ytobljppjkklojaa
