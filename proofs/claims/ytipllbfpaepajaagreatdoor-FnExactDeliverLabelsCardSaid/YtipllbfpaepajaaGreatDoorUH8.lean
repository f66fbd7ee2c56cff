/- Part of a proof that a law returns true for every input. No condition. -/
import Derived.Test.YtipllbfpaepajaaGreatDoorUH6
import Derived.Test.YtipllbfpaepajaaGreatDoorUT
namespace Go.ff
open Go Go.ca
theorem HC {α:Type} (f:α→Nat):∀(l:List α) (n:Nat),fq f (l.take n)≤fq f l
 |[],n=>by simp[fq]
 |x::l,0=>by simp[fq]
 |x::l,n+1=>by simp only[List.take_succ_cons,fq];have:=HC f l n;omega
theorem size_take {α:Type} (f:α→Nat) (l:List α) (n:Nat):iq f (l.take n)≤iq f l:=by
 unfold iq
 have:=HC f l n
 have:=List.length_take_le n l
 have:=List.length_take_le' n l
 omega
theorem aa9 (a:List (List UInt8)) (h:a.length≤1048576):wY a=some a:=by
 unfold wY
 rw[sv (by omega) (by omega)]
 cases a with
 |nil=>simp[both]
 |cons x r=>rfl
theorem aa_ (a:List (List UInt8)) (ag:List Int) (h:a.length≤1048576) (U:iq List.length a≤1048576) (hw:∀w∈a,w.length≤1048576) (hl:ag.length≤1048576):
  ∃r:List (List UInt8)×Int×Int,wu a ag=some r∧uk a ag=some r∧iq List.length r.1≤1048576:=by
 unfold wu uk
 obtain⟨ab,ad⟩:=aa7 a ag h hw hl
 rw[ab,ad]
 simp only[Option.bind_some]
 by_cases bm:codeOf a ag=0
 ·obtain⟨A,G,S,P,K,dw,nC,nD,⟨g0,g1⟩,d1,d2⟩:=aa2 ag hl (aa8 bm) a h
  have e:(codeOf a ag !=0)=false:=by rw[bm];rfl
  obtain⟨n,rfl⟩:∃n:Nat,G=n:=⟨G.toNat,by omega⟩
  have aW:(a.take n).length≤1048576:=by rw[List.length_take];omega
  rw[e,d1,d2]
  simp only[cond_false,Option.bind_some]
  rw[qL a n (by omega),Option.bind_some,Option.bind_some,aa9 _ aW,sv (by omega) (by omega)]
  exact⟨_,rfl,rfl,Nat.le_trans (size_take _ _ _) U⟩
 ·have e:(codeOf a ag !=0)=true:=by simpa using bm
  rw[e]
  exact⟨_,rfl,rfl,by simp[iq,fq]⟩
theorem HD {k:Int} (h:0≤k):decide (k<0)=false:=by simp only[decide_eq_false_iff_not];omega
theorem ZP (a:List (List UInt8)) (ag:List Int) (bT:a.length≤9223372036854775807∧∀y∈a,y.length≤9223372036854775807):z8 a ag=some true:=by
 unfold z8
 by_cases ab:1048576<ag.length
 ·have e:decide ((1048576:Int)<(ag.length:Int))=true:=by simp;omega
  rw[e];rfl
 have e:decide ((1048576:Int)<(ag.length:Int))=false:=by simp;omega
 rw[e,cond_false,aaa a 1048576 bT (by omega) (by omega),Option.bind_some]
 by_cases U:iq List.length a≤1048576
 ·rw[GK (by omega)]
  have aJ:decide ((1048576:Int)-((iq List.length a:Nat):Int)<0)=false:=decide_eq_false (by omega)
  have hl:a.length≤1048576:=Nat.le_trans (xx List.length a) U
  have hw:∀w∈a,w.length≤1048576:=fun w hw=>Nat.le_trans (Z4 hw) U
  obtain⟨r,eF,cd,fj⟩:=aa_ a ag hl U hw (by omega)
  obtain⟨b6,c,bJ,m1,_⟩:=GZ a 1 (by omega) (by omega)
  obtain⟨mL,c2,c3,m4⟩:=aaf ag (1+(c:Int)) (by omega) (by omega)
  obtain⟨h7,d,d1,m2,m3⟩:=GZ r.1 1 (by omega) (by omega)
  rw[aJ,aab a U,aac ag (by omega)]
  simp only[cond_false,Option.bind_some,eF,cd,m1,m2,m3,m4,bne_self_eq_false,Bool.or_self,GY a U,GY r.1 fj,aad ag (by omega),Bool.not_true,HD (k:=1+(c:Int)+(c2:Int)) (by omega),HD (k:=1+(d:Int)) (by omega)]
 ·rw[GL (by omega)];rfl
end Go.ff
