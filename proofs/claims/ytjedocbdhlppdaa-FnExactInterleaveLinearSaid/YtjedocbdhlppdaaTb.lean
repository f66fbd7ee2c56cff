/- Part of a proof that a law returns true for every input. No condition. -/
import Derived.Test.YtjedocbdhlppdaaProg
import Derived.KernelRfl
import Derived.Test.YtjedocbdhlppdaaFwF
namespace Go.Proofs.Ytjedocbdhlppdaa
open Go.dp
def T : TypeId → gb
 | 2 => ⟨.int .i64, 1, 8, (.int .i64 0)⟩
 | 3 => ⟨.int .i64, 1, 8, (.int .i64 0)⟩
 | 4 => ⟨.bool, 1, 1, (.bool false)⟩
 | 5 => ⟨.int .u8, 1, 1, (.int .u8 0)⟩
 | 9 => ⟨.str, 1, 16, (.str [])⟩
 | 40 => ⟨.slice 2, 1, 24, .af⟩
 | 41 => ⟨.slice 128, 1, 24, .af⟩
 | 43 => ⟨.struct [(2, 0), (40, 1), (41, 2)], 3, 56, (.agg [(.int .i64 0), .af, .af])⟩
 | 45 => ⟨.slice 90, 1, 24, .af⟩
 | 47 => ⟨.struct [(2, 0), (40, 1), (45, 2)], 3, 56, (.agg [(.int .i64 0), .af, .af])⟩
 | 62 => ⟨.slice 5, 1, 24, .af⟩
 | 85 => ⟨.ptr 47, 1, 8, .dj⟩
 | 87 => ⟨.slice 133, 1, 24, .af⟩
 | 88 => ⟨.slice 87, 1, 24, .af⟩
 | 90 => ⟨.struct [(40, 0), (87, 1), (9, 2), (88, 3), (88, 4)], 5, 112, (.agg [.af, .af, (.str []), .af, .af])⟩
 | 92 => ⟨.ptr 90, 1, 8, .dj⟩
 | 100 => ⟨.fn, 1, 8, .hole⟩
 | 101 => ⟨.fn, 1, 8, .hole⟩
 | 105 => ⟨.fn, 1, 8, .hole⟩
 | 107 => ⟨.fn, 1, 8, .hole⟩
 | 117 => ⟨.fn, 1, 8, .hole⟩
 | 121 => ⟨.fn, 1, 8, .hole⟩
 | 125 => ⟨.slice 187, 1, 24, .af⟩
 | 126 => ⟨.slice 125, 1, 24, .af⟩
 | 128 => ⟨.struct [(40, 0), (125, 1), (9, 2), (126, 3), (126, 4)], 5, 112, (.agg [.af, .af, (.str []), .af, .af])⟩
 | 133 => ⟨.struct [(2, 0), (2, 1)], 2, 16, (.agg [(.int .i64 0), (.int .i64 0)])⟩
 | 136 => ⟨.fn, 1, 8, .hole⟩
 | 137 => ⟨.fn, 1, 8, .hole⟩
 | 147 => ⟨.fn, 1, 8, .hole⟩
 | 150 => ⟨.ptr 156, 1, 8, .dj⟩
 | 154 => ⟨.slice 150, 1, 24, .af⟩
 | 155 => ⟨.struct [(133, 0), (154, 2)], 3, 40, (.agg [(.agg [(.int .i64 0), (.int .i64 0)]), .af])⟩
 | 156 => ⟨.struct [(133, 0), (154, 2)], 3, 40, (.agg [(.agg [(.int .i64 0), (.int .i64 0)]), .af])⟩
 | 169 => ⟨.fn, 1, 8, .hole⟩
 | 173 => ⟨.slice 40, 1, 24, .af⟩
 | 175 => ⟨.slice 88, 1, 24, .af⟩
 | 184 => ⟨.ptr 133, 1, 8, .dj⟩
 | 187 => ⟨.struct [(2, 0), (2, 1)], 2, 16, (.agg [(.int .i64 0), (.int .i64 0)])⟩
 | _ => ⟨.other, 0, 0, .hole⟩
theorem PW : ∀ t, DR Try.prog t (T t) := by
 intro t
 unfold T
 split
 ·exact .inr ⟨Try.t2, _, _, by kernel_rfl, rfl, rfl, rfl, (fun cs h => by cases h; rfl), Try.underlying2, rfl⟩
 ·exact .inr ⟨Try.t3, _, _, by kernel_rfl, rfl, rfl, rfl, (fun cs h => by cases h; rfl), Try.underlying3, rfl⟩
 ·exact .inr ⟨Try.t4, _, _, by kernel_rfl, rfl, rfl, rfl, (fun cs h => by cases h; rfl), Try.underlying4, trivial⟩
 ·exact .inr ⟨Try.t5, _, _, by kernel_rfl, rfl, rfl, rfl, (fun cs h => by cases h; rfl), Try.underlying5, rfl⟩
 ·exact .inr ⟨Try.t9, _, _, by kernel_rfl, rfl, rfl, rfl, (fun cs h => by cases h; rfl), Try.underlying9, trivial⟩
 ·exact .inr ⟨Try.t40, _, _, by kernel_rfl, rfl, rfl, rfl, (fun cs h => by cases h; rfl), Try.underlying40, rfl⟩
 ·exact .inr ⟨Try.t41, _, _, by kernel_rfl, rfl, rfl, rfl, (fun cs h => by cases h; rfl), Try.underlying41, rfl⟩
 ·exact .inr ⟨Try.t43, _, _, by kernel_rfl, rfl, rfl, rfl, (fun cs h => by cases h; rfl), Try.underlying43, rfl⟩
 ·exact .inr ⟨Try.t45, _, _, by kernel_rfl, rfl, rfl, rfl, (fun cs h => by cases h; rfl), Try.underlying45, rfl⟩
 ·exact .inr ⟨Try.t47, _, _, by kernel_rfl, rfl, rfl, rfl, (fun cs h => by cases h; rfl), Try.underlying47, rfl⟩
 ·exact .inr ⟨Try.t62, _, _, by kernel_rfl, rfl, rfl, rfl, (fun cs h => by cases h; rfl), Try.underlying62, rfl⟩
 ·exact .inr ⟨Try.t85, _, _, by kernel_rfl, rfl, rfl, rfl, (fun cs h => by cases h; rfl), Try.underlying85, rfl⟩
 ·exact .inr ⟨Try.t87, _, _, by kernel_rfl, rfl, rfl, rfl, (fun cs h => by cases h; rfl), Try.underlying87, rfl⟩
 ·exact .inr ⟨Try.t88, _, _, by kernel_rfl, rfl, rfl, rfl, (fun cs h => by cases h; rfl), Try.underlying88, rfl⟩
 ·exact .inr ⟨Try.t90, _, _, by kernel_rfl, rfl, rfl, rfl, (fun cs h => by cases h; rfl), Try.underlying90, rfl⟩
 ·exact .inr ⟨Try.t92, _, _, by kernel_rfl, rfl, rfl, rfl, (fun cs h => by cases h; rfl), Try.underlying92, rfl⟩
 ·exact .inr ⟨Try.t100, _, _, by kernel_rfl, rfl, rfl, rfl, (fun cs h => by cases h), Try.underlying100, trivial⟩
 ·exact .inr ⟨Try.t101, _, _, by kernel_rfl, rfl, rfl, rfl, (fun cs h => by cases h), Try.underlying101, trivial⟩
 ·exact .inr ⟨Try.t105, _, _, by kernel_rfl, rfl, rfl, rfl, (fun cs h => by cases h), Try.underlying105, trivial⟩
 ·exact .inr ⟨Try.t107, _, _, by kernel_rfl, rfl, rfl, rfl, (fun cs h => by cases h), Try.underlying107, trivial⟩
 ·exact .inr ⟨Try.t117, _, _, by kernel_rfl, rfl, rfl, rfl, (fun cs h => by cases h), Try.underlying117, trivial⟩
 ·exact .inr ⟨Try.t121, _, _, by kernel_rfl, rfl, rfl, rfl, (fun cs h => by cases h), Try.underlying121, trivial⟩
 ·exact .inr ⟨Try.t125, _, _, by kernel_rfl, rfl, rfl, rfl, (fun cs h => by cases h; rfl), Try.underlying125, rfl⟩
 ·exact .inr ⟨Try.t126, _, _, by kernel_rfl, rfl, rfl, rfl, (fun cs h => by cases h; rfl), Try.underlying126, rfl⟩
 ·exact .inr ⟨Try.t128, _, _, by kernel_rfl, rfl, rfl, rfl, (fun cs h => by cases h; rfl), Try.underlying128, rfl⟩
 ·exact .inr ⟨Try.t133, _, _, by kernel_rfl, rfl, rfl, rfl, (fun cs h => by cases h; rfl), Try.underlying133, rfl⟩
 ·exact .inr ⟨Try.t136, _, _, by kernel_rfl, rfl, rfl, rfl, (fun cs h => by cases h), Try.underlying136, trivial⟩
 ·exact .inr ⟨Try.t137, _, _, by kernel_rfl, rfl, rfl, rfl, (fun cs h => by cases h), Try.underlying137, trivial⟩
 ·exact .inr ⟨Try.t147, _, _, by kernel_rfl, rfl, rfl, rfl, (fun cs h => by cases h), Try.underlying147, trivial⟩
 ·exact .inr ⟨Try.t150, _, _, by kernel_rfl, rfl, rfl, rfl, (fun cs h => by cases h; rfl), Try.underlying150, rfl⟩
 ·exact .inr ⟨Try.t154, _, _, by kernel_rfl, rfl, rfl, rfl, (fun cs h => by cases h; rfl), Try.underlying154, rfl⟩
 ·exact .inr ⟨Try.t155, _, _, by kernel_rfl, rfl, rfl, rfl, (fun cs h => by cases h; rfl), Try.underlying155, rfl⟩
 ·exact .inr ⟨Try.t156, _, _, by kernel_rfl, rfl, rfl, rfl, (fun cs h => by cases h; rfl), Try.underlying156, rfl⟩
 ·exact .inr ⟨Try.t169, _, _, by kernel_rfl, rfl, rfl, rfl, (fun cs h => by cases h), Try.underlying169, trivial⟩
 ·exact .inr ⟨Try.t173, _, _, by kernel_rfl, rfl, rfl, rfl, (fun cs h => by cases h; rfl), Try.underlying173, rfl⟩
 ·exact .inr ⟨Try.t175, _, _, by kernel_rfl, rfl, rfl, rfl, (fun cs h => by cases h; rfl), Try.underlying175, rfl⟩
 ·exact .inr ⟨Try.t184, _, _, by kernel_rfl, rfl, rfl, rfl, (fun cs h => by cases h; rfl), Try.underlying184, rfl⟩
 ·exact .inr ⟨Try.t187, _, _, by kernel_rfl, rfl, rfl, rfl, (fun cs h => by cases h; rfl), Try.underlying187, rfl⟩
 ·exact .inl ⟨_, _, _, _, rfl, rfl⟩
noncomputable def aq : b1 := ⟨Try.prog, T, fun _ => []⟩
theorem cI : aq.eO := ⟨PW, by kernel_rfl⟩
theorem eD : aq.T 2 = ⟨.int .i64, 1, 8, (.int .i64 0)⟩ := rfl
theorem Hv : aq.T 3 = ⟨.int .i64, 1, 8, (.int .i64 0)⟩ := rfl
theorem ajx : aq.T 4 = ⟨.bool, 1, 1, (.bool false)⟩ := rfl
theorem PX : aq.T 5 = ⟨.int .u8, 1, 1, (.int .u8 0)⟩ := rfl
theorem fX : aq.T 9 = ⟨.str, 1, 16, (.str [])⟩ := rfl
theorem hf : aq.T 40 = ⟨.slice 2, 1, 24, .af⟩ := rfl
theorem u2 : aq.T 41 = ⟨.slice 128, 1, 24, .af⟩ := rfl
theorem Hw : aq.T 43 = ⟨.struct [(2, 0), (40, 1), (41, 2)], 3, 56, (.agg [(.int .i64 0), .af, .af])⟩ := rfl
theorem jL : aq.T 45 = ⟨.slice 90, 1, 24, .af⟩ := rfl
theorem lV : aq.T 47 = ⟨.struct [(2, 0), (40, 1), (45, 2)], 3, 56, (.agg [(.int .i64 0), .af, .af])⟩ := rfl
theorem PY : aq.T 62 = ⟨.slice 5, 1, 24, .af⟩ := rfl
theorem ajy : aq.T 85 = ⟨.ptr 47, 1, 8, .dj⟩ := rfl
theorem e8 : aq.T 87 = ⟨.slice 133, 1, 24, .af⟩ := rfl
theorem fC : aq.T 88 = ⟨.slice 87, 1, 24, .af⟩ := rfl
theorem h0 : aq.T 90 = ⟨.struct [(40, 0), (87, 1), (9, 2), (88, 3), (88, 4)], 5, 112, (.agg [.af, .af, (.str []), .af, .af])⟩ := rfl
theorem ajz : aq.T 92 = ⟨.ptr 90, 1, 8, .dj⟩ := rfl
theorem ajA : aq.T 100 = ⟨.fn, 1, 8, .hole⟩ := rfl
theorem xR : aq.T 101 = ⟨.fn, 1, 8, .hole⟩ := rfl
theorem ajB : aq.T 105 = ⟨.fn, 1, 8, .hole⟩ := rfl
theorem ajC : aq.T 107 = ⟨.fn, 1, 8, .hole⟩ := rfl
theorem ajD : aq.T 117 = ⟨.fn, 1, 8, .hole⟩ := rfl
theorem ajE : aq.T 121 = ⟨.fn, 1, 8, .hole⟩ := rfl
theorem nz : aq.T 125 = ⟨.slice 187, 1, 24, .af⟩ := rfl
theorem pV : aq.T 126 = ⟨.slice 125, 1, 24, .af⟩ := rfl
theorem u3 : aq.T 128 = ⟨.struct [(40, 0), (125, 1), (9, 2), (126, 3), (126, 4)], 5, 112, (.agg [.af, .af, (.str []), .af, .af])⟩ := rfl
theorem eU : aq.T 133 = ⟨.struct [(2, 0), (2, 1)], 2, 16, (.agg [(.int .i64 0), (.int .i64 0)])⟩ := rfl
theorem ajF : aq.T 136 = ⟨.fn, 1, 8, .hole⟩ := rfl
theorem ajG : aq.T 137 = ⟨.fn, 1, 8, .hole⟩ := rfl
theorem ajH : aq.T 147 = ⟨.fn, 1, 8, .hole⟩ := rfl
theorem ajI : aq.T 150 = ⟨.ptr 156, 1, 8, .dj⟩ := rfl
theorem ajJ : aq.T 154 = ⟨.slice 150, 1, 24, .af⟩ := rfl
theorem ajK : aq.T 155 = ⟨.struct [(133, 0), (154, 2)], 3, 40, (.agg [(.agg [(.int .i64 0), (.int .i64 0)]), .af])⟩ := rfl
theorem ajL : aq.T 156 = ⟨.struct [(133, 0), (154, 2)], 3, 40, (.agg [(.agg [(.int .i64 0), (.int .i64 0)]), .af])⟩ := rfl
theorem ajM : aq.T 169 = ⟨.fn, 1, 8, .hole⟩ := rfl
theorem Hx : aq.T 173 = ⟨.slice 40, 1, 24, .af⟩ := rfl
theorem ra : aq.T 175 = ⟨.slice 88, 1, 24, .af⟩ := rfl
theorem ajN : aq.T 184 = ⟨.ptr 133, 1, 8, .dj⟩ := rfl
theorem nA : aq.T 187 = ⟨.struct [(2, 0), (2, 1)], 2, 16, (.agg [(.int .i64 0), (.int .i64 0)])⟩ := rfl
end Go.Proofs.Ytjedocbdhlppdaa
