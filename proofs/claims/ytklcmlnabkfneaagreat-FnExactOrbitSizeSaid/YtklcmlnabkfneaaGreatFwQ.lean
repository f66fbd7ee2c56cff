/- Part of a proof that a law returns true for every input. No condition. -/
import Derived.Test.YtklcmlnabkfneaaGreatFwP
import Derived.Sort.Statements
namespace Go.cU
open Go.Sort Go.Proofs
theorem UA {v:Value} (h:Value.fw v=true):Value.oneCell' v=true:=by
 cases v<;>first|rfl|(simp[Value.fw]at h)
theorem UB {w:World} {F:Nat->Prop} {s:ax} {aC:Nat->Value} {k:Nat} {xs:aiF} {v:Value} {S:Nat->Prop} (h:aG w F s aC (.al k xs) v S):
  (xs=[]/\∃a,v= .slice a 0 0)\/∃b cap cur hD fr aL,v= .slice (some ⟨b,0,none⟩) xs.length cap/\S b/\w.heap[b]? =some (.cells cur hD fr)/\kt fr (cur.size+(k-1))/\
     xs.length<=cap/\cap<=maxLen/\cur.size=cap*k/\aV w F xs (cur.toList.take (xs.length*k)) aL/\(∀c,aL c->S c)/\¬aL b:=by
 obtain⟨ab,ad⟩:=(aG.ca rfl).1 h;have aH:b9 v=[v]:=by
  cases v<;>first|rfl|(cases ab)
 rw[aH,aq]at ad;rcases ad with⟨aA,a,aZ⟩|⟨b,cap,cur,hD,fr,aL,aA,aZ,bA,cH,cI,gn,jv,ig,ku,UC,UD⟩
 .left;exact⟨aA,a,by simpa using aZ⟩
 .right;exact⟨b,cap,cur,hD,fr,aL,by simpa using aA,aZ,bA,cH,cI,gn,jv,ku,UC,UD⟩
end Go.cU
