/- Part of a proof that a law returns true for every input. No condition. -/
import Derived.Test.YtcmimclaknmnbaaGreatDoorFwP
import Derived.Sort.Statements
namespace Go.cC
open Go.Sort Go.Proofs
theorem aas {v:Value} (h:Value.eJ v=true):Value.oneCell' v=true:=by
 cases v<;>first|rfl|(simp[Value.eJ]at h)
theorem aat {w:World} {F:Nat->Prop} {s:an} {au:Nat->Value} {k:Nat} {xs:anZ} {v:Value} {S:Nat->Prop} (h:aF w F s au (.ah k xs) v S):
  (xs=[]/\∃a,v= .slice a 0 0)\/∃b cap cur h3 fr aJ,v= .slice (some ⟨b,0,none⟩) xs.length cap/\S b/\w.heap[b]? =some (.cells cur h3 fr)/\lH fr (cur.size+(k-1))/\
     xs.length<=cap/\cap<=maxLen/\cur.size=cap*k/\aW w F xs (cur.toList.take (xs.length*k)) aJ/\(∀c,aJ c->S c)/\¬aJ b:=by
 obtain⟨h1,ab⟩:=(aF.b_ rfl).1 h;have aD:bZ v=[v]:=by
  cases v<;>first|rfl|(cases h1)
 rw[aD,ar]at ab;rcases ab with⟨ay,a,aT⟩|⟨b,cap,cur,h3,fr,aJ,ay,aT,bp,bX,bM,dy,hG,gW,lI,aau,aav⟩
 .left;exact⟨ay,a,by simpa using aT⟩
 .right;exact⟨b,cap,cur,h3,fr,aJ,by simpa using ay,aT,bp,bX,bM,dy,hG,lI,aau,aav⟩
end Go.cC
