/- Part of a proof that a law returns true for every input. No condition. -/
import Derived.Test.YtncnipaofaeaiaaFw37
import Derived.Laws.Externs
import Derived.Lib.Bytealg
namespace Go.Fw

/-! Functions of the library without a body. -/

theorem ext_cmp {C : Cx} {f : FuncId} {fn : Func} (hf : C.P.funcs[f]? = some fn) (hname : (fn.name == "runtime.NumGoroutine") = false) (hb : fn.body.isNone = true) (hn : Extern.findNext fn = none)
    (he : Extern.find fn = some Extern.BytealgCompare.compare) (a b : List UInt8) : OkAt C f [.str a, .str b] (.int .i64 (Lib.compareBytes a b)) [] := by
  intro w F X S vs hl hr
  have h0 := sv_str (hr.sv 0)
  have h1 := sv_str (hr.sv 1)
  have hvs : vs = [.string ⟨⟨a⟩⟩, .string ⟨⟨b⟩⟩] := by
    match vs, hl with
    | [x, y], _ =>
      have e0 : x = .string ⟨⟨a⟩⟩ := h0
      have e1 : y = .string ⟨⟨b⟩⟩ := h1
      rw [e0, e1]
  subst hvs
  refine .inr ⟨.int .i64 (Lib.compareBytes a b), w, ?_, F, S, ?_⟩
  · rw [run_callFunc_extern hf hname hb hn he, Lib.run_compareString]
    rfl
  · refine ⟨hr.F0F, hr.FF0, hr.Flt, hr.Slt, hr.SF, hr.SS, hr.S0, fun t => ?_, hr.old, hr.size, hr.os, hr.tape, hr.output⟩
    cases t with
    | zero => exact (SV.of_tree rfl).2 ⟨rfl, by simp only [vc, vc1, tmL]; rw [show stL (.int .i64 (Lib.compareBytes a b) :: []) 0 = .int .i64 (Lib.compareBytes a b) from rfl, RV]; rfl⟩
    | succ t =>
      show SV w F _ _ (stL [AV.int .i64 (Lib.compareBytes a b)] (t + 1)) _ _
      rw [show stL [AV.int .i64 (Lib.compareBytes a b)] (t + 1) = .hole from rfl, SV]; trivial

end Go.Fw
