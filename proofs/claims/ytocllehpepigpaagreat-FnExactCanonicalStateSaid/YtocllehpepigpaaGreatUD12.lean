/- Part of a proof that a law returns true for every input. No condition. -/
import Derived.Test.YtocllehpepigpaaGreatUD8
namespace Go.eN
open Go Go.cZ
theorem aCx {e:List bj} (h:pM e) (aM:lX e=true) {i j:Nat} (ao:i<e.length) (b_:j<e[i].Body.length):
  r8 e[i] (j:Int)=some (oT e[i] j).scope∧∃ps,wH e[i]=some ps∧bF ps (j:Int)=some (oT e[i] j):=by
 obtain⟨_,_,aj⟩:=aCw h aM
 obtain⟨au,ag,_⟩:=aj i ao
 obtain⟨s1,s2,e4⟩:=I6 ag
 have ae:=(h.2 _ (List.getElem_mem ao)).2.1
 obtain⟨hd,_,_,_,oe⟩:=Q5 e[i] ag au j b_
 exact⟨hd,_,QV e[i] ae s1 au.1 (by omega),by unfold bF;rw[if_pos (by omega)];exact oe⟩
end Go.eN
