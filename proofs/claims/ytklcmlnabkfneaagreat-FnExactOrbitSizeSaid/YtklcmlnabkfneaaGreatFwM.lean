/- Part of a proof that a law returns true for every input. No condition. -/
import Derived.Test.YtklcmlnabkfneaaGreatFwI
import Derived.Sort.Grow
import Derived.Lib.SlicesCompact
import Derived.Below
namespace Go.cU
open Go.Sort
section
variable {α:Type} {e:α->I} {enc:α->Value}
def One (e:α->I) (enc:α->Value):Prop:=(∀x,(e x).wd=1)/\∀(w:World) (F:Nat->Prop) (x:α) (cs:aiD) (S:Nat->Prop),aq w F (e x) cs S↔cs=[enc x]
theorem EF (w:World) (os:Array Obj) {c:Nat} (h:c<w.heap.size):(Sort.grow w os).heap[c]? =w.heap[c]? :=by
 simp only[Sort.grow,Array.getElem?_append,h,if_true]
variable [Inhabited α]
end
theorem aW.below {C:bY} {f:FuncId} {as:aiF} {r:I} {v:Value} (ag:qN=false) (EG:∀args w,(callFunc f args).run C.P w= .ok (.enter f args) w) (aY:r.tree=true) (kO:dd r v) (e_:∀w F,aq w F r (b9 v) (λ_=>False))
  (h:∀(w:World) (F X:Nat->Prop) (S:Nat->Nat->Prop) (vs:aiD),vs.length=as.length->bs w F X F S (eA as) (fI vs) w->Calls C.P f vs.toArray w λex aB=>ex= .returned v/\RowKit.Below w.heap.size w aB):aW C f as r []:=by
 intro w F X S vs aO aK;refine .inl ⟨EG _ _,(h w F X S vs aO aK).mono ?_⟩;rintro ex aB ⟨rfl,R⟩;refine⟨_,rfl,F,λ_ _=>False,?_⟩;exact {
  gx:=λ_ h=>h
  gJ:=λ_ bc=>.inl bc
  eH:=λc aj=>Nat.lt_of_lt_of_le (aK.eH c aj) R.size
  dW:=λ_ _ h=>h.elim
  e8:=λ_ _ h=>h.elim
  eZ:=λ_ _ _ _ h=>h.elim
  dh:=λ_ _ h=>h.elim
  df:=λu=>by
   rcases u with _|u
   .exact(aG.ca aY).2 ⟨kO,e_ _ _⟩
   .show aG _ _ _ _ .hole _ _;rw[aG];trivial
  old:=λc aj _=>R.block c aj
  size:=R.size
  os:=R.os
  tape:=R.tape
  output:=⟨R.output,λd=>by rw[ag]at d;cases d⟩
  gy:=aK.gy}
end Go.cU
