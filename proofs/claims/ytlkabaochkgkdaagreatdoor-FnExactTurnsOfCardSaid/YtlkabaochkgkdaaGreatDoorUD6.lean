/- Part of a proof that a law returns true for every input. No condition. -/
import Derived.Test.YtlkabaochkgkdaaGreatDoorUD5
import Derived.Test.YtlkabaochkgkdaaGreatDoorUT
namespace Go.eU
open Go Go.c_
theorem aGl {list:List bs} (h:dO mb list<=1048576):BM list:=by
 refine⟨Nat.le_trans (i6 _ _) h,λd aj=>?_⟩;have ag:=Nat.le_trans (lv (f:=mb) aj) h;unfold mb at ag;refine⟨by omega,Nat.le_trans (i6 lx _) (by omega),λp au=>?_⟩;have ba:lx p<=dO lx d.Body:=lv au;have ah:lx p<=1048576:=by omega
 clear ba;unfold lx at ah;have aN:=i6 (λx:List b1=>x.length+0) p.cN;refine⟨by omega,by omega,λe he=>?_⟩;have bg:e.length+0<=_:=lv (f:=λx:List b1=>x.length+0) he;omega
end Go.eU
