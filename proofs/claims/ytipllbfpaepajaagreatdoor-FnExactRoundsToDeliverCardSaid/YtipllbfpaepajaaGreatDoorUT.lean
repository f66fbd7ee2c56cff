/- Part of a proof that a law returns true for every input. No condition. -/
import Derived.Test.YtipllbfpaepajaaGreatDoorP3
import Derived.Test.YtipllbfpaepajaaGreatDoorUG
namespace Go.e3
open Go Go.b9
set_option linter.unusedSimpArgs false
theorem XF (x:List (List UInt8)) (n:Int) (ao:(x.length≤9223372036854775807∧∀y∈x,y.length≤9223372036854775807)) (bz:0≤n) (aW:n≤1048576):vk x n=some (kI n (qg List.length x)):=by
 unfold vk
 refine FO ao.1 bz aW fun h=> ?_
 rw[dn _ (by omega)]
 exact XC x (fun _ _ _=>rfl) ao.2 (by omega) _ (by omega) (by omega)
theorem XG (x:List (List UInt8)) (h:(qg List.length x)≤1048576):ri x=some x:=by
 unfold ri
 have aJ:x.length≤1048576:=Nat.le_trans (Aa _ _) h
 rw[Ab _ aJ (by decide)]
 simp only[Option.bind_some]
 rw[FQ (f:=some) id x _ (fun _ _ _=>rfl) (fun _ _=>rfl) aJ,List.map_id]
theorem XH (x:List Int) (h:(x.length+0)≤1048576):rj x=some x:=by
 unfold rj
 have aJ:x.length≤1048576:=by omega
 rw[Ab _ aJ (by decide)]
 simp only[Option.bind_some]
 rw[FQ (f:=some) id x _ (fun _ _ _=>rfl) (fun _ _=>rfl) aJ,List.map_id]
theorem XI (x:List (List UInt8)) (h:(qg List.length x)≤1048576):wg x x=some true:=by
 unfold wg
 have aJ:x.length≤1048576:=Nat.le_trans (Aa _ _) h
 rw[FT,cond_false]
 exact FR x (fun _ _=>rfl) XE aJ
theorem XJ (x:List Int) (h:(x.length+0)≤1048576):wi x x=some true:=by
 unfold wi
 have aJ:x.length≤1048576:=by omega
 rw[FT,cond_false]
 exact FR x (fun _ _=>rfl) XD aJ
end Go.e3
