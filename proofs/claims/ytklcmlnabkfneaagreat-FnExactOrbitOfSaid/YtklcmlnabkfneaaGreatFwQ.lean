/- Part of a proof that a law returns true for every input. No condition. -/
import Derived.Test.YtklcmlnabkfneaaGreatFwP
import Derived.Sort.Statements
namespace Go.de
open Go.Sort Go.Proofs
theorem W9 {v:Value} (h:Value.fK v=true):Value.oneCell' v=true:=by
 cases v<;>first|rfl|(simp[Value.fK]at h)
theorem W_ {w:World} {F:Nat->Prop} {s:aw} {aC:Nat->Value} {k:Nat} {xs:alW} {v:Value} {S:Nat->Prop} (h:aH w F s aC (.ag k xs) v S):
  (xs=[]/\∃a,v= .slice a 0 0)\/∃b cap cur h_ fr aN,v= .slice (some ⟨b,0,none⟩) xs.length cap/\S b/\w.heap[b]? =some (.cells cur h_ fr)/\k2 fr (cur.size+(k-1))/\
     xs.length<=cap/\cap<=maxLen/\cur.size=cap*k/\a1 w F xs (cur.toList.take (xs.length*k)) aN/\(∀c,aN c->S c)/\¬aN b:=by
 obtain⟨ab,ae⟩:=(aH.cv rfl).1 h;have aJ:cj v=[v]:=by
  cases v<;>first|rfl|(cases ab)
 rw[aJ,ar]at ae;rcases ae with⟨az,a,a6⟩|⟨b,cap,cur,h_,fr,aN,az,a6,bF,cP,cB,fS,iE,iT,k3,Xa,Xb⟩
 .left;exact⟨az,a,by simpa using a6⟩
 .right;exact⟨b,cap,cur,h_,fr,aN,by simpa using az,a6,bF,cP,cB,fS,iE,k3,Xa,Xb⟩
end Go.de
