/- Part of a proof that a law returns true for every input. No condition. -/
import Derived.Test.YtikimdcnadipbaaGreatDoorUHF
namespace Go.eL
open Go Go.bZ
theorem X3 (a:List b3) (aI:a.length≤1048576) (h:∀e∈a,e.Label.length≤1048576):∃r,vw a=some r∧vV a=some r:=by
 obtain⟨aa,ab⟩:=XX a aI h
 unfold vw vV
 rw[aa,ab]
 simp only[Option.bind_some]
 by_cases al:p0 a=true
 ·obtain⟨t1,t2⟩:=X2 a h al
  rw[al,t1,t2]
  exact⟨_,rfl,rfl⟩
 ·have:p0 a=false:=by simpa using al
  rw[this]
  exact⟨_,rfl,rfl⟩
theorem WK (a:List fl) (br:a.length≤9223372036854775807∧∀y∈a,q4 y):zc a=some true:=by
 unfold zc
 rw[W8 a 1048576 br (by omega) (by omega),Option.bind_some]
 by_cases U:lk ll a≤1048576
 ·rw[zR (by omega)]
  have aJ:decide ((1048576:Int)-((lk ll a:Nat):Int)<0)=false:=decide_eq_false (by omega)
  have sT:lk ln (a.map nI)≤1048576:=by
   rw[FJ];simp only[W9];exact U
  have aI:(a.map nI).length≤1048576:=Nat.le_trans (zS ln _) sT
  have hw:∀e∈a.map nI,e.Label.length≤1048576:=fun e he=>by
   have dt:ln e≤lk ln (a.map nI):=zT he
   have eF:ln e≤1048576:=by omega
   clear dt
   unfold ln at eF;omega
  obtain⟨r,ed,cn⟩:=X3 _ aI hw
  rw[aJ,Xa a U]
  simp only[cond_false,Option.bind_some,ed,cn,beq_self_eq_true,Bool.not_true,Xc _ sT]
 ·rw[wC (by omega)];rfl
end Go.eL
