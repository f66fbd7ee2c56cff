/- Part of a proof that a law returns true for every input. No condition. -/
import Derived.Test.YtocllehpepigpaaGreatUD8
namespace Go.eN
open Go Go.cZ
def EP (a:List Int):Bool:=fP (fun i=>rj (a.getD i 0) 0 63) a.length
theorem Q8 (a:List Int) (h:a.length≤1048576):zg a=some (EP a):=by
 unfold zg
 refine AD (l:=fun m i=>tM a m i) _ (fun m=> ?_) (fun i ao m=> ?_)
 ·simp only[tM,CJ]
  rw[fq (Nat.le_refl _)];rfl
 ·simp only[tM,CJ,lv]
  rw[gP ao,lW _ i 0 ao,gA i _ ao (by omega)]
  simp only[cond_true,Option.bind_some]
  show cond (!rj (a.getD i 0) 0 63) _ _=_
  cases rj (a.getD i 0) 0 63<;>rfl
theorem Q9 (a:List Int) (h:a.length≤1048576):zy a=some (EP a):=by
 unfold zy HH HG
 rw[uR (n:=a.length) (fun i=> !rj (a.getD i 0) 0 63)]
 ·simp only[Option.bind_some,uQ,Bool.not_not];rfl
 ·intro m
  simp only[wJ,Dh]
  rw[fq (Nat.le_refl _)];rfl
 ·intro i ao m
  simp only[wJ,Dh]
  rw[gP ao,lW _ i 0 ao,gA i _ ao (by omega)]
  simp only[cond_true,Option.bind_some,HF,zr,jX]
  rfl
end Go.eN
