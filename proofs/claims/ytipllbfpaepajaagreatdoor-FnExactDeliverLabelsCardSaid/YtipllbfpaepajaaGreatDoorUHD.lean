/- Part of a proof that a law returns true for every input. No condition. -/
import Derived.Test.YtipllbfpaepajaaGreatDoorUH3
import Derived.Lib.ParseIntB
import Derived.Lib.ItoaNum
namespace Go.ff
open Go Go.ca
def uU:Lib.NumEnd Nat:=Lib.parseUintB 64 []
theorem Hf:∀(d:List UInt8) (n k:Nat),n<10^k→k+d.length≤18→Lib.parseUintM 18446744073709551615 n d=if d.all dF=true then .ok (hi n d)else uU
 |[],n,k,_,_=>by simp[Lib.parseUintM,hi]
 |c::r,n,k,aW,al=>by
  simp only[List.length_cons]at al
  have mT:n<10^17:=Nat.lt_of_lt_of_le aW (Nat.pow_le_pow_right (by omega) (by omega))
  simp only[Lib.parseUintM]
  have h5:(c::r).all dF=(dF c&&r.all dF):=rfl
  by_cases ai:dF c=true
  ·have sx:=ai
   simp only[dF,Bool.and_eq_true,decide_eq_true_eq]at sx
   have A3:(c::r).all dF=r.all dF:=by rw[h5,ai];rfl
   rw[if_pos sx,if_neg (by omega),if_neg (by omega),A3,show n*10+(c.toNat-48)=10*n+(c.toNat-48) by omega,Hf r _ (k+1) (by rw[Nat.pow_succ];omega) (by omega)]
   rfl
  ·have sx:¬(48≤c.toNat∧c.toNat≤57):=fun h=>ai (by simp only[dF,Bool.and_eq_true,decide_eq_true_eq];exact h)
   have uV:dF c=false:=by simpa using ai
   have A3:(c::r).all dF=false:=by rw[h5,uV];rfl
   rw[if_neg sx,A3]
   simp
   rfl
theorem aaJ (n x:Nat) (aW:1≤n) (aq:x≤9):Lib.decDigits (10*n+x)=Lib.decDigits n++[UInt8.ofNat (48+x)]:=by
 rw[Lib.decDigits,dif_neg (by omega),show(10*n+x)/10=n by omega,show(10*n+x)%10=x by omega]
theorem Hg:∀(d:List UInt8) (n:Nat),1≤n→d.all dF=true→Lib.decDigits (hi n d)=Lib.decDigits n++d
 |[],n,_,_=>by simp[hi]
 |c::r,n,aW,ae=>by
  simp only[List.all_cons,Bool.and_eq_true]at ae
  have ai:=ae.1
  have e:=uT c ae.1
  simp only[dF,Bool.and_eq_true,decide_eq_true_eq]at ai
  show Lib.decDigits (hi (10*n+(c.toNat-48)) r)=_
  rw[Hg r _ (by omega) ae.2,aaJ n (c.toNat-48) aW (by omega),e]
  simp
theorem A4 (u:Nat):∃c t,Lib.decDigits u=c::t∧dF c=true∧(1≤u→c≠48):=by
 induction u using Nat.strongRecOn with
 |_ u ih=>
  rw[Lib.decDigits]
  by_cases h:u<10
  ·rw[dif_pos h]
   refine⟨_,_,rfl,?_,?_⟩
   ·have:∀i:Fin 10,dF (UInt8.ofNat (48+i.val))=true:=by decide
    exact this ⟨u,h⟩
   ·have:∀i:Fin 10,1≤i.val→UInt8.ofNat (48+i.val)≠48:=by decide
    exact this ⟨u,h⟩
  ·rw[dif_neg h]
   obtain⟨c,t,ab,ad,aB⟩:=ih (u/10) (by omega)
   exact⟨c,t++_,by rw[ab];rfl,ad,fun _=>aB (by omega)⟩
theorem Hh (c:UInt8) (r:List UInt8) (ae:(c::r).all dF=true):Lib.decDigits (gk (c::r))=c::r↔(c≠48∨r=[]):=by
 simp only[List.all_cons,Bool.and_eq_true]at ae
 have ai:=ae.1
 have e:=uT c ae.1
 simp only[dF,Bool.and_eq_true,decide_eq_true_eq]at ai
 have aG:gk (c::r)=hi (c.toNat-48) r:=by
  show hi (10*0+(c.toNat-48)) r=_
  rw[Nat.mul_zero,Nat.zero_add]
 rw[aG]
 by_cases hK:c=48
 ·subst hK
  constructor
  ·intro h
   cases r with
   |nil=>exact .inr rfl
   |cons x t=>
    exfalso
    obtain⟨pQ,zM,ab,ad,aB⟩:=A4 (hi ((48:UInt8).toNat-48) (x::t))
    rw[ab]at h
    injection h with aR ba
    by_cases bu:1≤hi ((48:UInt8).toNat-48) (x::t)
    ·exact aB bu aR
    ·have bm:hi ((48:UInt8).toNat-48) (x::t)=0:=by omega
     rw[bm,Lib.decDigits,dif_pos (by omega)]at ab
     injection ab with _ bE
     rw[←bE]at ba
     cases ba
  ·rintro(h|rfl)
   ·exact(h rfl).elim
   ·show Lib.decDigits 0=_
    rw[Lib.decDigits,dif_pos (by omega)];rfl
 ·have ab:1≤c.toNat-48:=by
   rcases Nat.lt_or_ge 48 c.toNat with h|h
   ·omega
   ·exact(hK (UInt8.toNat_inj.1 (by rw[show(48:UInt8).toNat=48 from rfl];omega))).elim
  refine⟨fun _=>.inl hK,fun _=> ?_⟩
  rw[Hg r _ ab ae.2,Lib.decDigits,dif_pos (by omega),e]
  rfl
theorem A5 (d:List UInt8) (h:d.all dF=true) (hl:d.length≤18):gk d<10^18:=by
 have:=Hb d 0 0 h (by omega)
 have ad:(10:Nat)^(0+d.length)≤10^18:=Nat.pow_le_pow_right (by omega) (by omega)
 exact Nat.lt_of_lt_of_le this ad
theorem A6 (d:List UInt8) (hl:d.length≤18):Lib.parseUintB 64 d=if d≠[]∧d.all dF=true then .ok (gk d)else uU:=by
 unfold Lib.parseUintB
 by_cases h:d=[]
 ·rw[if_pos h,if_neg (fun aS=>aS.1 h)]
  rfl
 ·rw[if_neg h,show(2^64-1:Nat)=18446744073709551615 from rfl,Hf d 0 0 (by omega) (by omega)]
  by_cases ae:d.all dF=true
  ·rw[if_pos ae,if_pos ⟨h,ae⟩];rfl
  ·rw[if_neg ae,if_neg (fun aS=>ae aS.2)]
def ns (s:List UInt8):Int×Bool:=match Lib.parseIntB 64 s with
 | .ok v=>if Lib.itoa v=s then(v,true)else(0,false)
 |_=>(0,false)
theorem A7 {k:Nat} {d:List UInt8} (h:¬(d≠[]∧d.all dF=true)):jE k d=(0,false):=by
 unfold jE
 rw[if_neg (fun aS=>h ⟨aS.1,aS.2.2.1⟩)]
theorem Hi {k:Nat} {d:List UInt8} (ab:d.head? =some 48) (ad:1<d.length+k):jE k d=(0,false):=by
 unfold jE
 rw[if_neg (fun aS=>aS.2.2.2 ⟨ab,ad⟩)]
theorem Hj {k:Nat} {d:List UInt8} (h:d≠[]∧d.length≤18∧d.all dF=true∧¬(d.head? =some 48∧1<d.length+k)):jE k d=(if k=1 then-(gk d:Int)else gk d,true):=by
 unfold jE
 rw[if_pos h]
theorem Xt (s:List UInt8) (h:(if s.head? =some 45 then s.tail else s).length≤18):Lib.parseIntB 64 s≠.range∧ns s=fL s:=by
 unfold ns fL
 cases s with
 |nil=>exact⟨by simp[Lib.parseIntB],by simp[Lib.parseIntB,jE]⟩
 |cons c r=>
  by_cases A8:c=45
  ·subst A8
   rw[if_pos (show(45::r).head? =some 45 from rfl)]at h⊢
   simp only[List.tail_cons]at h⊢
   have AL:(45:UInt8).toNat=45:=rfl
   simp only[Lib.parseIntB,AL,or_true,if_true]
   rw[A6 r h]
   by_cases aD:r≠[]∧r.all dF=true
   ·rw[if_pos aD]
    have c_:=A5 r aD.2 h
    have oB:(2:Nat)^(64-1)=9223372036854775808:=by decide
    simp only[not_true,false_and,if_false,oB,true_and]
    rw[if_neg (by omega)]
    refine⟨by simp,?_⟩
    simp only
    obtain⟨x,t,rfl⟩:∃x t,r=x::t:=by
     cases r with
     |nil=>exact(aD.1 rfl).elim
     |cons x t=>exact⟨x,t,rfl⟩
    have uW:=Hh x t aD.2
    by_cases hK:x=48
    ·rw[Hi (by rw[hK];rfl) (by simp)]
     rw[if_neg]
     intro aA
     by_cases bm:gk (x::t)=0
     ·rw[bm]at aA
      have eR:Lib.decDigits 0=[48]:=by rw[Lib.decDigits,dif_pos (by omega)];rfl
      simp[Lib.itoa,eR]at aA
     ·unfold Lib.itoa at aA
      rw[if_pos (by omega)]at aA
      injection aA with _ aA
      rw[show(-(gk (x::t):Int)).natAbs=gk (x::t) by omega]at aA
      obtain⟨pQ,zM,e_,eB,gR⟩:=A4 (gk (x::t))
      rw[e_]at aA
      injection aA with ts _
      exact gR (by omega) (ts.trans hK)
    ·have zr:1≤gk (x::t):=by
      have:=(uW.2 (.inl hK))
      rcases Nat.eq_zero_or_pos (gk (x::t))with bm|bm
      ·rw[bm,Lib.decDigits,dif_pos (by omega)]at this
       injection this with this _
       exact(hK this.symm).elim
      ·exact bm
     rw[Hj ⟨by simp,h,aD.2,fun aS=>hK (Option.some.inj aS.1)⟩]
     rw[if_pos]
     ·simp
     ·unfold Lib.itoa
      rw[if_pos (by omega),show(-(gk (x::t):Int)).natAbs=gk (x::t) by omega,uW.2 (.inl hK)]
   ·rw[if_neg aD,A7 aD]
    exact⟨by simp[uU,Lib.parseUintB],rfl⟩
  ·have fu:¬((c::r).head? =some 45):=fun e=>A8 (Option.some.inj e)
   rw[if_neg fu]at h⊢
   have As:c.toNat≠45:=fun e=>A8 (UInt8.toNat_inj.1 (by rw[show(45:UInt8).toNat=45 from rfl];exact e))
   have oB:(2:Nat)^(64-1)=9223372036854775808:=by decide
   by_cases Hk:c.toNat=43
   ·simp only[Lib.parseIntB,Hk,true_or,if_true]
    have Hl:r.length≤18:=by simp at h;omega
    rw[A6 r Hl]
    have iu:jE 0 (c::r)=(0,false):=A7 fun aS=>by
     have:=aS.2
     simp only[List.all_cons,Bool.and_eq_true]at this
     have:=this.1
     simp only[dF,Bool.and_eq_true,decide_eq_true_eq]at this
     omega
    rw[iu]
    by_cases aD:r≠[]∧r.all dF=true
    ·rw[if_pos aD]
     have c_:=A5 r aD.2 Hl
     simp only[show¬((43:Nat)=45)from by decide,not_false_eq_true,true_and,false_and,if_false,oB]
     rw[if_neg (by omega)]
     refine⟨by simp,?_⟩
     simp only
     rw[if_neg]
     intro aA
     unfold Lib.itoa at aA
     rw[if_neg (by omega),Int.toNat_natCast]at aA
     obtain⟨pQ,zM,e_,eB,_⟩:=A4 (gk r)
     rw[e_]at aA
     injection aA with aA _
     rw[aA]at eB
     simp only[dF,Bool.and_eq_true,decide_eq_true_eq]at eB
     omega
    ·rw[if_neg aD]
     exact⟨by simp[uU,Lib.parseUintB],rfl⟩
   ·simp only[Lib.parseIntB,Hk,As,or_self,if_false]
    rw[A6 (c::r) h]
    by_cases aD:(c::r)≠[]∧(c::r).all dF=true
    ·rw[if_pos aD]
     have c_:=A5 (c::r) aD.2 h
     simp only[not_false_eq_true,true_and,false_and,if_false,oB]
     rw[if_neg (by omega)]
     refine⟨by simp,?_⟩
     simp only
     have uW:=Hh c r aD.2
     have aaK:Lib.itoa (gk (c::r):Int)=Lib.decDigits (gk (c::r)):=by
      unfold Lib.itoa
      rw[if_neg (by omega),Int.toNat_natCast]
     rw[aaK]
     by_cases uX:c≠48∨r=[]
     ·rw[if_pos (uW.2 uX),Hj ⟨by simp,h,aD.2,fun aS=>by
       rcases uX with ab|ab
       ·exact ab (Option.some.inj aS.1)
       ·subst ab;simp at aS⟩]
      simp
     ·have hK:c=48:=by
       by_cases q:c=48
       ·exact q
       ·exact(uX (.inl q)).elim
      have cI:r≠[]:=fun q=>uX (.inr q)
      rw[if_neg (fun aS=>uX (uW.1 aS)),Hi (by rw[hK];rfl) (by
       cases r with
       |nil=>exact(cI rfl).elim
       |cons x t=>simp)]
    ·rw[if_neg aD,A7 aD]
     exact⟨by simp[uU,Lib.parseUintB],rfl⟩
end Go.ff
