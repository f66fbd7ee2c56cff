/- Part of a proof that a law returns true for every input. No condition. -/
import Derived.Test.YtcmimclaknmnbaaGreatDoorFwV
import Derived.Test.YtcmimclaknmnbaaGreatDoorFwRb
namespace Go.cC
theorem aY.abA {C:bx} (bb:C.Ok) {f:FuncId} {fn:Func} {c:Code} {dM:aH} {fx:anU} {as outs:anZ} {r:I} (dY:List ResultVar) (l:anY) (bc:C.P.funcs[f]? =some fn) (R:fn.body=some c)
  (jV:(fn.name== "runtime.NumGoroutine")=false) (U:fh ⟨fn.ntmps,fx⟩ c=some dM.strip) (aN:as.length<=fn.ntmps) (hk:dM.lN (λT b=>vZ C T b\/Eb C T b)) (eC:fn.results.toList=dY) (hl:num 0 as=l)
  (h:∀Q:Exit->an->Prop,(∀s,di (Ends C fx dY r outs) s->Q .ret s)->(∀s,di (Ends C fx dY r outs) s->Q .normal s)->bh C dM Q (aj l)):aY C f as r outs:=by
 subst eC hl;intro w F X S vs hl ax;refine AG (fx:=fx) bb bc R jV aN hl ax λa hrel dW=>?_;refine AE bb (H:=λT b=>vZ C T b\/Eb C T b) (λc T b Q s a w fK kT aL ax=>fK.elim (λfK=>Q5 bb fK kT aL ax) (λfK=>abx bb fK kT aL ax)) c (by rw[aH.AA];exact U) (aH.AB dM hk) (AD dM ?_) hrel;rw[xO];exact h _ (λs h=>⟨.inr rfl,h⟩) (λs h=>⟨.inl rfl,h⟩)
end Go.cC
