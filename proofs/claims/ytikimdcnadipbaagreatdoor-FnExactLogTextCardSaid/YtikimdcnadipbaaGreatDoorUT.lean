/- Part of a proof that a law returns true for every input. No condition. -/
import Derived.Test.YtikimdcnadipbaaGreatDoorP4
import Derived.Test.YtikimdcnadipbaaGreatDoorUG
namespace Go.eL
open Go Go.bZ
set_option linter.unusedSimpArgs false
def ll (x:fl):Nat:=(x.Label.length+0)
theorem W7 (x:fl) (n:Int) (ai:q4 x) (bl:0≤n) (aQ:n≤1048576):s5 x n=some (hL n (ll x)):=by
 unfold s5
 unfold ll
 obtain⟨w0,j3,jy,sY⟩:=ai
 refine FF sY (by omega) (by omega) fun c3=> ?_
 rw[eO (n-(x.Label.length:Int)) (by omega)]
 exact FG (by omega)
theorem W8 (x:List fl) (n:Int) (ai:(x.length≤9223372036854775807∧∀y∈x,q4 y)) (bl:0≤n) (aQ:n≤1048576):vd x n=some (hL n (lk ll x)):=by
 unfold vd
 refine FF ai.1 bl aQ fun h=> ?_
 rw[eO _ (by omega)]
 exact W0 (f:=s5) ll x (fun _ _ _=>rfl) (fun y hy n bl aQ=>W7 y n (ai.2 y hy) bl aQ) (by omega) _ (by omega) (by omega)
def nI (x:fl):b3:=⟨x.Choice,x.dJ,x.Second,x.Label⟩
def ln (x:b3):Nat:=(x.Label.length+0)
theorem W9 (x:fl):ln (nI x)=ll x:=by
 simp only[ln,ll,nI,FJ,List.length_map]
theorem W_ (x:fl) (h:(ll x)≤1048576):s6 x=some (nI x):=by
 unfold s6
 unfold ll at h
 rfl
theorem Xa (x:List fl) (h:(lk ll x)≤1048576):q5 x=some (x.map nI):=by
 unfold q5
 have aI:x.length≤1048576:=Nat.le_trans (zS _ _) h
 rw[zU _ aI (by decide)]
 simp only[Option.bind_some]
 rw[W1 (f:=s6) nI x _ (fun _ _ _=>rfl) (fun y hy=>W_ y (Nat.le_trans (zT (f:=ll) hy) h)) aI]
theorem Xb (x:b3) (h:(ln x)≤1048576):tl x x=some true:=by
 unfold tl
 unfold ln at h
 simp only[W3,W4,W5,cond_false,Option.bind_some,Bool.not_true]
theorem Xc (x:List b3) (h:(lk ln x)≤1048576):vX x x=some true:=by
 unfold vX
 have aI:x.length≤1048576:=Nat.le_trans (zS _ _) h
 rw[W6,cond_false]
 exact W2 (f:=tl) x (fun _ _=>rfl) (fun y hy=>Xb y (Nat.le_trans (zT (f:=ln) hy) h)) aI
end Go.eL
