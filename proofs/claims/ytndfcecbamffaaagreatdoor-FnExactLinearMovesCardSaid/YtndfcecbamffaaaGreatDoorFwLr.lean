/- Part of a proof that a law returns true for every input. No condition. -/
import Derived.Test.YtndfcecbamffaaaGreatDoorFwV
import Derived.Test.YtndfcecbamffaaaGreatDoorFwRb
namespace Go.cG
theorem bb.Tj {C:bz} (a1:C.du) {f:FuncId} {fn:Func} {c:Code} {df:aI} {fx:ace} {as outs:acj} {r:j} (dw:List ResultVar) (l:aci) (bf:C.P.funcs[f]? =some fn) (I:fn.body=some c)
  (i7:(fn.name== "runtime.NumGoroutine")=false) (J:eI ⟨fn.ntmps,fx⟩ c=some df.strip) (aO:as.length<=fn.ntmps) (ak:df.kc (λT b=>s3 C T b\/zI C T b)) (eO:fn.results.toList=dw) (hl:num 0 as=l)
  (h:∀Q:Exit->ag->Prop,(∀s,c1 (Ends C fx dw r outs) s->Q .ret s)->(∀s,c1 (Ends C fx dw r outs) s->Q .normal s)->bw C df Q (ah l)):bb C f as r outs:=by
 subst eO hl;intro w F X S vs hl aD;refine wT (fx:=fx) a1 bf I i7 aO hl aD λa hrel dv=>?_;refine wR a1 (H:=λT b=>s3 C T b\/zI C T b) (λc T b Q s a w e1 nT aK aD=>e1.elim (λe1=>K0 a1 e1 nT aK aD) (λe1=>Tg a1 e1 nT aK aD)) c (by rw[aI.wN];exact J) (aI.wO df ak) (wQ df ?_) hrel;rw[wV];exact h _ (λs h=>⟨.inr rfl,h⟩) (λs h=>⟨.inl rfl,h⟩)
end Go.cG
