/- Part of a proof that a law returns true for every input. No condition. -/
import Derived.Test.YtipllbfpaepajaaGreatDoorUH6
import Derived.Test.YtipllbfpaepajaaGreatDoorUT
namespace Go.e3
open Go Go.b9
theorem YC (a:List (List UInt8)) (af:List Int) (h:a.length≤1048576) (hw:∀w∈a,w.length≤1048576) (aJ:af.length≤1048576):
  ∃r,vC a af=some r∧wc a af=some r:=by
 unfold vC wc
 obtain⟨aa,ad⟩:=YA a af h hw aJ
 rw[aa,ad]
 simp only[Option.bind_some]
 by_cases bz:codeOf a af=0
 ·obtain⟨A,G,S,P,K,di,mV,mW,_,d1,d2⟩:=Yv af aJ (YB bz) a h
  have e:(codeOf a af !=0)=false:=by rw[bz];rfl
  rw[e,d1,d2]
  simp only[cond_false,Option.bind_some]
  cases decide (S<0)<;>exact⟨_,rfl,rfl⟩
 ·have e:(codeOf a af !=0)=true:=by simpa using bz
  rw[e]
  exact⟨_,rfl,rfl⟩
theorem Xl (a:List (List UInt8)) (af:List Int) (bQ:a.length≤9223372036854775807∧∀y∈a,y.length≤9223372036854775807):zm a af=some true:=by
 unfold zm
 by_cases aa:1048576<af.length
 ·have e:decide ((1048576:Int)<(af.length:Int))=true:=by simp;omega
  rw[e];rfl
 have e:decide ((1048576:Int)<(af.length:Int))=false:=by simp;omega
 rw[e,cond_false,XF a 1048576 bQ (by omega) (by omega),Option.bind_some]
 by_cases U:qg List.length a≤1048576
 ·rw[FM (by omega)]
  have aI:decide ((1048576:Int)-((qg List.length a:Nat):Int)<0)=false:=decide_eq_false (by omega)
  have aJ:a.length≤1048576:=Nat.le_trans (Aa List.length a) U
  have hw:∀w∈a,w.length≤1048576:=fun w hw=>Nat.le_trans (XA hw) U
  obtain⟨r,ev,cr⟩:=YC a af aJ hw (by omega)
  rw[aI,XG a U,XH af (by omega)]
  simp only[cond_false,Option.bind_some,ev,cr,bne_self_eq_false,Bool.or_self,XI a U,XJ af (by omega),Bool.not_true]
 ·rw[FN (by omega)];rfl
end Go.e3
