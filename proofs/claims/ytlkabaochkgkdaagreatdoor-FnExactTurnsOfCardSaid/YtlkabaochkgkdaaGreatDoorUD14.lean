/- Part of a proof that a law returns true for every input. No condition. -/
import Derived.Test.YtlkabaochkgkdaaGreatDoorUD8
namespace Go.eU
open Go Go.c_
def Gx (a:List Int):Bool:=gn (λi=>sk (a.getD i 0) 0 63) a.length
theorem aGq (a:List Int) (h:a.length<=1048576):DL a=some (Gx a):=by
 unfold DL;refine Gl (l:=λm i=>uP a m i) _ (λm=>?_) (λi an m=>?_)
 .simp only[uP,DK];rw[fh (Nat.le_refl _)];rfl
 .simp only[uP,DK,kS];rw[fX an,nB _ i 0 an,fO i _ an (by omega)];simp only[cond_true,Option.bind_some];show cond (!sk (a.getD i 0) 0 63) _ _=_;cases sk (a.getD i 0) 0 63<;>rfl
theorem aGr (a:List Int) (h:a.length<=1048576):u1 a=some (Gx a):=by
 unfold u1 Ep Eo;rw[tB (n:=a.length) (λi=> !sk (a.getD i 0) 0 63)]
 .simp only[Option.bind_some,tA,Bool.not_not];rfl
 .intro m;simp only[rX,xO];rw[fh (Nat.le_refl _)];rfl
 .intro i an m;simp only[rX,xO];rw[fX an,nB _ i 0 an,fO i _ an (by omega)];simp only[cond_true,Option.bind_some,En,xM,jj];rfl
end Go.eU
