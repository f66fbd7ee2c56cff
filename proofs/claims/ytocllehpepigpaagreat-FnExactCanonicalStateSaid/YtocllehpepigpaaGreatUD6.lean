/- Part of a proof that a law returns true for every input. No condition. -/
import Derived.Test.YtocllehpepigpaaGreatUD5
import Derived.Test.YtocllehpepigpaaGreatUT
namespace Go.eN
open Go Go.cZ
theorem aCr {list:List bj} (h:dm lz list≤1048576):pM list:=by
 refine⟨Nat.le_trans (iN _ _) h,fun d aj=> ?_⟩
 have h1:=Nat.le_trans (kL (f:=lz) aj) h
 unfold lz at h1
 refine⟨by omega,Nat.le_trans (iN kM _) (by omega),fun p au=> ?_⟩
 have bf:kM p≤dm kM d.Body:=kL au
 have ah:kM p≤1048576:=by omega
 clear bf
 unfold kM at ah
 have aC:=iN (fun x:List b7=>x.length+0) p.cO
 refine⟨by omega,by omega,fun e he=> ?_⟩
 have a8:e.length+0≤_:=kL (f:=fun x:List b7=>x.length+0) he
 omega
end Go.eN
