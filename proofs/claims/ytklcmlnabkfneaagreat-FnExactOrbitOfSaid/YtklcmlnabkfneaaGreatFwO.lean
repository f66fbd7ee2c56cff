/- Part of a proof that a law returns true for every input. No condition. -/
import Derived.Test.YtklcmlnabkfneaaGreatFwM
import Derived.Deep.Draws
namespace Go.de
open Go.Sort
theorem W8 {w aF:World} (ab:∀b,b<w.heap.size->aF.heap[b]? =w.heap[b]?) (ae:w.heap.size<=aF.heap.size) (az:aF.os=w.os) (a6:aF.tape=w.tape) (bF:aF.output=w.output) (cP:w.drawn<=aF.drawn):
  ∃q os,aF=grow (w.drewN q) os:=by
 refine⟨aF.drawn-w.drawn,aF.heap.extract w.heap.size aF.heap.size,?_⟩;have aR:w.drawn+(aF.drawn-w.drawn)=aF.drawn:=by omega
 have aV:w.heap++aF.heap.extract w.heap.size aF.heap.size=aF.heap:=by
  apply Array.ext_getElem?;intro i;by_cases ao:i<w.heap.size
  .rw[Array.getElem?_append_left ao,ab i ao]
  .rw[Array.getElem?_append_right (by omega)];by_cases bm:i<aF.heap.size
   .rw[Array.getElem?_eq_getElem bm,Array.getElem?_eq_getElem (by simp;omega)];simp only[Array.getElem_extract];congr 2;omega
   .rw[Array.getElem?_eq_none (by simp;omega),Array.getElem?_eq_none (by omega)]
 obtain⟨aq,akh,aki,o,akj⟩:=aF;simp only at az a6 bF aR aV;subst az a6 bF;simp only[grow,World.drewN,aR,aV]
end Go.de
