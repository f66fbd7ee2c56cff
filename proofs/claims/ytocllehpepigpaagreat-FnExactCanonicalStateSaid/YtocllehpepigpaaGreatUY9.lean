/- Part of a proof that a law returns true for every input. No condition. -/
import Derived.Test.YtocllehpepigpaaGreatUY5
import Derived.Test.YtocllehpepigpaaGreatUD16
namespace Go.eN
open Go Go.cZ
noncomputable def ru (e:List bj) (p:aW):Bool:=(wE e p).getD false
theorem Rf (e:List bj) (h:pM e) (aM:lX e=true) (p:aW) (au:p.bS.length≤1048576):wE e p=some (ru e p)∧zC e p=some (ru e p):=by
 obtain⟨b,h1,ah⟩:=aCy e h aM p au
 have:ru e p=b:=by unfold ru;rw[h1];rfl
 rw[this];exact⟨h1,ah⟩
def qA (q:List aW) (i:Nat):aW:=q.getD i ⟨0,0,[]⟩
noncomputable def I9 (s:ea) (q:List aW):Bool:=((q.length:Int)==(s.c8.length:Int))&&fP (fun i=>ru s.ew (qA q i)) q.length
theorem Rg {q:List aW} (aM:∀p∈q,p.bS.length≤1048576) {i:Nat} (ao:i<q.length):(qA q i).bS.length≤1048576:=by
 have:qA q i=q[i]:=by simp[qA,List.getD,ao]
 rw[this];exact aM _ (List.getElem_mem ao)
theorem aCV (s:ea) (h:pM s.ew) (aj:lX s.ew=true) (q:List aW) (c6:q.length≤1048576) (aM:∀p∈q,p.bS.length≤1048576):CT s q=some (I9 s q):=by
 unfold CT I9
 have e:((q.length:Int) !=(s.c8.length:Int))= !((q.length:Int)==(s.c8.length:Int)):=rfl
 rw[e]
 cases((q.length:Int)==(s.c8.length:Int))
 ·rfl
 ·rw[Bool.true_and,Bool.not_true,cond_false]
  refine AD (l:=fun m i=>tQ s q m i) _ (fun m=> ?_) (fun i ao m=> ?_)
  ·simp only[tQ,CS]
   rw[fq (Nat.le_refl _)];rfl
  ·simp only[tQ,CS]
   rw[gP ao,lW _ i ⟨0,0,[]⟩ ao,gA i _ ao (by omega)]
   show cond true (Option.bind (some (qA q i)) _) _=_
   simp only[cond_true,Option.bind_some,(Rf _ h aj _ (Rg aM ao)).1]
   cases ru s.ew (qA q i)<;>rfl
theorem aCW (s:ea) (h:pM s.ew) (aj:lX s.ew=true) (q:List aW) (c6:q.length≤1048576) (aM:∀p∈q,p.bS.length≤1048576):
  Dw q s=some (!(fP (fun i=>ru s.ew (qA q i)) q.length)):=by
 unfold Dw HO
 rw[uR (n:=q.length) (fun i=> !(ru s.ew (qA q i)))]
 ·simp only[Option.bind_some,uQ,Bool.not_not]
 ·intro m
  simp only[wM,Dv]
  rw[fq (Nat.le_refl _)];rfl
 ·intro i ao m
  simp only[wM,Dv]
  rw[gP ao,lW _ i ⟨0,0,[]⟩ ao,gA i _ ao (by omega)]
  show cond true (Option.bind (some (qA q i)) _) _=_
  simp only[cond_true,Option.bind_some,HN,(Rf _ h aj _ (Rg aM ao)).2]
end Go.eN
