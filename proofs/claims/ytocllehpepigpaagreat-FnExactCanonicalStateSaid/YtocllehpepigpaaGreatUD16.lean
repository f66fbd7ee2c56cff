/- Part of a proof that a law returns true for every input. No condition. -/
import Derived.Test.YtocllehpepigpaaGreatUD14
import Derived.Test.YtocllehpepigpaaGreatUD12
namespace Go.eN
open Go Go.cZ
theorem aCy (e:List bj) (h:pM e) (aM:lX e=true) (p:aW) (au:p.bS.length≤1048576):∃b,wE e p=some b∧zC e p=some b:=by
 unfold wE zC lv
 rw[EL _ e.length h.1,fl ((e.length:Int)-1) (by have:=h.1;omega)]
 simp only[Option.bind_some]
 cases hk:(decide (0≤p.cm)&&decide (p.cm≤(e.length:Int)-1))
 ·exact⟨false,rfl,rfl⟩
 ·simp only[Bool.and_eq_true,decide_eq_true_eq]at hk
  obtain⟨i,aCz⟩:∃i:Nat,p.cm=i:=⟨p.cm.toNat,by omega⟩
  rw[aCz]at hk⊢
  have ao:i<e.length:=by omega
  have ae:=(h.2 _ (List.getElem_mem ao)).2.1
  rw[gm e i ao]
  simp only[Bool.not_true,cond_false,Option.bind_some]
  rw[EL _ e[i].Body.length ae,fl ((e[i].Body.length:Int)-1) (by omega)]
  simp only[Option.bind_some]
  cases c6:(decide (0≤p.Part)&&decide (p.Part≤(e[i].Body.length:Int)-1))
  ·exact⟨false,rfl,rfl⟩
  ·simp only[Bool.and_eq_true,decide_eq_true_eq]at c6
   obtain⟨j,aCA⟩:∃j:Nat,p.Part=j:=⟨p.Part.toNat,by omega⟩
   rw[aCA]at c6⊢
   have b_:j<e[i].Body.length:=by omega
   obtain⟨hd,ps,gF,h7⟩:=aCx h aM ao b_
   rw[gm e[i].Body j b_]
   simp only[Bool.not_true,cond_false,Option.bind_some,hd,gF,h7,Q8 _ au,Q9 _ au]
   have df:(e[i].Body[j].Kind !=5)= !(e[i].Body[j].Kind==5):=rfl
   rw[df]
   cases e[i].Body[j].Kind==5
   ·simp only[Bool.not_false,cond_true,cond_false]
    cases((p.bS.length:Int)==(oT e[i] j).scope)
    ·exact⟨_,rfl,rfl⟩
    ·exact⟨_,rfl,rfl⟩
   ·exact⟨_,rfl,rfl⟩
end Go.eN
