/- Part of a proof that a law returns true for every input. No condition. -/
import Derived.Test.YtklcmlnabkfneaaGreatFwM
import Derived.Deep.Draws
namespace Go.cU
open Go.Sort
theorem Uz {w aB:World} (ab:∀b,b<w.heap.size->aB.heap[b]? =w.heap[b]?) (ad:w.heap.size<=aB.heap.size) (aA:aB.os=w.os) (aZ:aB.tape=w.tape) (bA:aB.output=w.output) (cH:w.drawn<=aB.drawn):
  ∃q os,aB=grow (w.drewN q) os:=by
 refine⟨aB.drawn-w.drawn,aB.heap.extract w.heap.size aB.heap.size,?_⟩;have aN:w.drawn+(aB.drawn-w.drawn)=aB.drawn:=by omega
 have aR:w.heap++aB.heap.extract w.heap.size aB.heap.size=aB.heap:=by
  apply Array.ext_getElem?;intro i;by_cases ak:i<w.heap.size
  .rw[Array.getElem?_append_left ak,ab i ak]
  .rw[Array.getElem?_append_right (by omega)];by_cases bd:i<aB.heap.size
   .rw[Array.getElem?_eq_getElem bd,Array.getElem?_eq_getElem (by simp;omega)];simp only[Array.getElem_extract];congr 2;omega
   .rw[Array.getElem?_eq_none (by simp;omega),Array.getElem?_eq_none (by omega)]
 obtain⟨au,agX,agY,o,agZ⟩:=aB;simp only at aA aZ bA aN aR;subst aA aZ bA;simp only[grow,World.drewN,aN,aR]
end Go.cU
