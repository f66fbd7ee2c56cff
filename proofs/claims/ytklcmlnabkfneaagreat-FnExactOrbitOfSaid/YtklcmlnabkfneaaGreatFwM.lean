/- Part of a proof that a law returns true for every input. No condition. -/
import Derived.Test.YtklcmlnabkfneaaGreatFwI
import Derived.Sort.Grow
import Derived.Lib.SlicesCompact
import Derived.Below
namespace Go.de
open Go.Sort
section
variable {α:Type} {e:α->I} {enc:α->Value}
def One (e:α->I) (enc:α->Value):Prop:=(∀x,(e x).wd=1)/\∀(w:World) (F:Nat->Prop) (x:α) (cs:alU) (S:Nat->Prop),ar w F (e x) cs S↔cs=[enc x]
theorem Gr (w:World) (os:Array Obj) {c:Nat} (h:c<w.heap.size):(Sort.grow w os).heap[c]? =w.heap[c]? :=by
 simp only[Sort.grow,Array.getElem?_append,h,if_true]
variable [Inhabited α]
end
theorem aY.below {C:ca} {f:FuncId} {as:alW} {r:I} {v:Value} (ai:rR=false) (Gs:∀args w,(callFunc f args).run C.P w= .ok (.enter f args) w) (a8:r.tree=true) (lq:dD r v) (fw:∀w F,ar w F r (cj v) (λ_=>False))
  (h:∀(w:World) (F X:Nat->Prop) (S:Nat->Nat->Prop) (vs:alU),vs.length=as.length->bD w F X F S (eW as) (gb vs) w->Calls C.P f vs.toArray w λex aF=>ex= .returned v/\RowKit.Below w.heap.size w aF):aY C f as r []:=by
 intro w F X S vs hl aM;refine .inl ⟨Gs _ _,(h w F X S vs hl aM).mono ?_⟩;rintro ex aF ⟨rfl,R⟩;refine⟨_,rfl,F,λ_ _=>False,?_⟩;exact {
  gm:=λ_ h=>h
  gC:=λ_ bh=>.inl bh
  eQ:=λc an=>Nat.lt_of_lt_of_le (aM.eQ c an) R.size
  dW:=λ_ _ h=>h.elim
  fb:=λ_ _ h=>h.elim
  e_:=λ_ _ _ _ h=>h.elim
  dx:=λ_ _ h=>h.elim
  dp:=λu=>by
   rcases u with _|u
   .exact(aH.cv a8).2 ⟨lq,fw _ _⟩
   .show aH _ _ _ _ .hole _ _;rw[aH];trivial
  old:=λc an _=>R.block c an
  size:=R.size
  os:=R.os
  tape:=R.tape
  output:=⟨R.output,λd=>by rw[ai]at d;cases d⟩
  gn:=aM.gn}
end Go.de
