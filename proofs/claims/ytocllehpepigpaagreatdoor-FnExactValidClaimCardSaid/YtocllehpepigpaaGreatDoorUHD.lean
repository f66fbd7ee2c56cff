/- Part of a proof that a law returns true for every input. No condition. -/
import Derived.Test.YtocllehpepigpaaGreatDoorUH3
import Derived.Lib.ParseIntB
import Derived.Lib.ItoaNum
namespace Go.gB
open Go Go.cI
def wS:Lib.NumEnd Nat:=Lib.parseUintB 64 []
theorem Kx:∀(d:List UInt8) (n k:Nat),n<10^k→k+d.length≤18→Lib.parseUintM 18446744073709551615 n d=if d.all eR=true then .ok (ja n d)else wS
 |[],n,k,_,_=>by simp[Lib.parseUintM,ja]
 |c::r,n,k,aV,ax=>by
  simp only[List.length_cons]at ax
  have lf:n<10^17:=Nat.lt_of_lt_of_le aV (Nat.pow_le_pow_right (by omega) (by omega))
  simp only[Lib.parseUintM]
  have iE:(c::r).all eR=(eR c&&r.all eR):=rfl
  by_cases aj:eR c=true
  ·have uc:=aj
   simp only[eR,Bool.and_eq_true,decide_eq_true_eq]at uc
   have DS:(c::r).all eR=r.all eR:=by rw[iE,aj];rfl
   rw[if_pos uc,if_neg (by omega),if_neg (by omega),DS,show n*10+(c.toNat-48)=10*n+(c.toNat-48) by omega,Kx r _ (k+1) (by rw[Nat.pow_succ];omega) (by omega)]
   rfl
  ·have uc:¬(48≤c.toNat∧c.toNat≤57):=fun h=>aj (by simp only[eR,Bool.and_eq_true,decide_eq_true_eq];exact h)
   have wT:eR c=false:=by simpa using aj
   have DS:(c::r).all eR=false:=by rw[iE,wT];rfl
   rw[if_neg uc,DS]
   simp
   rfl
theorem akY (n x:Nat) (aV:1≤n) (ai:x≤9):Lib.decDigits (10*n+x)=Lib.decDigits n++[UInt8.ofNat (48+x)]:=by
 rw[Lib.decDigits,dif_neg (by omega),show(10*n+x)/10=n by omega,show(10*n+x)%10=x by omega]
theorem Ky:∀(d:List UInt8) (n:Nat),1≤n→d.all eR=true→Lib.decDigits (ja n d)=Lib.decDigits n++d
 |[],n,_,_=>by simp[ja]
 |c::r,n,aV,ah=>by
  simp only[List.all_cons,Bool.and_eq_true]at ah
  have aj:=ah.1
  have e:=wR c ah.1
  simp only[eR,Bool.and_eq_true,decide_eq_true_eq]at aj
  show Lib.decDigits (ja (10*n+(c.toNat-48)) r)=_
  rw[Ky r _ (by omega) ah.2,akY n (c.toNat-48) aV (by omega),e]
  simp
theorem DT (u:Nat):∃c t,Lib.decDigits u=c::t∧eR c=true∧(1≤u→c≠48):=by
 induction u using Nat.strongRecOn with
 |_ u ih=>
  rw[Lib.decDigits]
  by_cases h:u<10
  ·rw[dif_pos h]
   refine⟨_,_,rfl,?_,?_⟩
   ·have:∀i:Fin 10,eR (UInt8.ofNat (48+i.val))=true:=by decide
    exact this ⟨u,h⟩
   ·have:∀i:Fin 10,1≤i.val→UInt8.ofNat (48+i.val)≠48:=by decide
    exact this ⟨u,h⟩
  ·rw[dif_neg h]
   obtain⟨c,t,ad,ag,aF⟩:=ih (u/10) (by omega)
   exact⟨c,t++_,by rw[ad];rfl,ag,fun _=>aF (by omega)⟩
theorem Kz (c:UInt8) (r:List UInt8) (ah:(c::r).all eR=true):Lib.decDigits (hY (c::r))=c::r↔(c≠48∨r=[]):=by
 simp only[List.all_cons,Bool.and_eq_true]at ah
 have aj:=ah.1
 have e:=wR c ah.1
 simp only[eR,Bool.and_eq_true,decide_eq_true_eq]at aj
 have aI:hY (c::r)=ja (c.toNat-48) r:=by
  show ja (10*0+(c.toNat-48)) r=_
  rw[Nat.mul_zero,Nat.zero_add]
 rw[aI]
 by_cases jL:c=48
 ·subst jL
  constructor
  ·intro h
   cases r with
   |nil=>exact .inr rfl
   |cons x t=>
    exfalso
    obtain⟨Bi,CE,ad,ag,aF⟩:=DT (ja ((48:UInt8).toNat-48) (x::t))
    rw[ad]at h
    injection h with a8 bF
    by_cases cn:1≤ja ((48:UInt8).toNat-48) (x::t)
    ·exact aF cn a8
    ·have bm:ja ((48:UInt8).toNat-48) (x::t)=0:=by omega
     rw[bm,Lib.decDigits,dif_pos (by omega)]at ad
     injection ad with _ cD
     rw[←cD]at bF
     cases bF
  ·rintro(h|rfl)
   ·exact(h rfl).elim
   ·show Lib.decDigits 0=_
    rw[Lib.decDigits,dif_pos (by omega)];rfl
 ·have ad:1≤c.toNat-48:=by
   rcases Nat.lt_or_ge 48 c.toNat with h|h
   ·omega
   ·exact(jL (UInt8.toNat_inj.1 (by rw[show(48:UInt8).toNat=48 from rfl];omega))).elim
  refine⟨fun _=>.inl jL,fun _=> ?_⟩
  rw[Ky r _ ad ah.2,Lib.decDigits,dif_pos (by omega),e]
  rfl
theorem DU (d:List UInt8) (h:d.all eR=true) (aO:d.length≤18):hY d<10^18:=by
 have:=Ku d 0 0 h (by omega)
 have ag:(10:Nat)^(0+d.length)≤10^18:=Nat.pow_le_pow_right (by omega) (by omega)
 exact Nat.lt_of_lt_of_le this ag
theorem DV (d:List UInt8) (aO:d.length≤18):Lib.parseUintB 64 d=if d≠[]∧d.all eR=true then .ok (hY d)else wS:=by
 unfold Lib.parseUintB
 by_cases h:d=[]
 ·rw[if_pos h,if_neg (fun bb=>bb.1 h)]
  rfl
 ·rw[if_neg h,show(2^64-1:Nat)=18446744073709551615 from rfl,Kx d 0 0 (by omega) (by omega)]
  by_cases ah:d.all eR=true
  ·rw[if_pos ah,if_pos ⟨h,ah⟩];rfl
  ·rw[if_neg ah,if_neg (fun bb=>ah bb.2)]
def oX (s:List UInt8):Int×Bool:=match Lib.parseIntB 64 s with
 | .ok v=>if Lib.itoa v=s then(v,true)else(0,false)
 |_=>(0,false)
theorem DW {k:Nat} {d:List UInt8} (h:¬(d≠[]∧d.all eR=true)):lp k d=(0,false):=by
 unfold lp
 rw[if_neg (fun bb=>h ⟨bb.1,bb.2.2.1⟩)]
theorem KA {k:Nat} {d:List UInt8} (ad:d.head? =some 48) (ag:1<d.length+k):lp k d=(0,false):=by
 unfold lp
 rw[if_neg (fun bb=>bb.2.2.2 ⟨ad,ag⟩)]
theorem KB {k:Nat} {d:List UInt8} (h:d≠[]∧d.length≤18∧d.all eR=true∧¬(d.head? =some 48∧1<d.length+k)):lp k d=(if k=1 then-(hY d:Int)else hY d,true):=by
 unfold lp
 rw[if_pos h]
theorem ahs (s:List UInt8) (h:(if s.head? =some 45 then s.tail else s).length≤18):Lib.parseIntB 64 s≠.range∧oX s=hA s:=by
 unfold oX hA
 cases s with
 |nil=>exact⟨by simp[Lib.parseIntB],by simp[Lib.parseIntB,lp]⟩
 |cons c r=>
  by_cases DX:c=45
  ·subst DX
   rw[if_pos (show(45::r).head? =some 45 from rfl)]at h⊢
   simp only[List.tail_cons]at h⊢
   have akZ:(45:UInt8).toNat=45:=rfl
   simp only[Lib.parseIntB,akZ,or_true,if_true]
   rw[DV r h]
   by_cases aH:r≠[]∧r.all eR=true
   ·rw[if_pos aH]
    have d_:=DU r aH.2 h
    have p0:(2:Nat)^(64-1)=9223372036854775808:=by decide
    simp only[not_true,false_and,if_false,p0,true_and]
    rw[if_neg (by omega)]
    refine⟨by simp,?_⟩
    simp only
    obtain⟨x,t,rfl⟩:∃x t,r=x::t:=by
     cases r with
     |nil=>exact(aH.1 rfl).elim
     |cons x t=>exact⟨x,t,rfl⟩
    have wU:=Kz x t aH.2
    by_cases jL:x=48
    ·rw[KA (by rw[jL];rfl) (by simp)]
     rw[if_neg]
     intro ay
     by_cases bm:hY (x::t)=0
     ·rw[bm]at ay
      have gK:Lib.decDigits 0=[48]:=by rw[Lib.decDigits,dif_pos (by omega)];rfl
      simp[Lib.itoa,gK]at ay
     ·unfold Lib.itoa at ay
      rw[if_pos (by omega)]at ay
      injection ay with _ ay
      rw[show(-(hY (x::t):Int)).natAbs=hY (x::t) by omega]at ay
      obtain⟨Bi,CE,hh,ga,jf⟩:=DT (hY (x::t))
      rw[hh]at ay
      injection ay with u_ _
      exact jf (by omega) (u_.trans jL)
    ·have Cl:1≤hY (x::t):=by
      have:=(wU.2 (.inl jL))
      rcases Nat.eq_zero_or_pos (hY (x::t))with bm|bm
      ·rw[bm,Lib.decDigits,dif_pos (by omega)]at this
       injection this with this _
       exact(jL this.symm).elim
      ·exact bm
     rw[KB ⟨by simp,h,aH.2,fun bb=>jL (Option.some.inj bb.1)⟩]
     rw[if_pos]
     ·simp
     ·unfold Lib.itoa
      rw[if_pos (by omega),show(-(hY (x::t):Int)).natAbs=hY (x::t) by omega,wU.2 (.inl jL)]
   ·rw[if_neg aH,DW aH]
    exact⟨by simp[wS,Lib.parseUintB],rfl⟩
  ·have hD:¬((c::r).head? =some 45):=fun e=>DX (Option.some.inj e)
   rw[if_neg hD]at h⊢
   have tR:c.toNat≠45:=fun e=>DX (UInt8.toNat_inj.1 (by rw[show(45:UInt8).toNat=45 from rfl];exact e))
   have p0:(2:Nat)^(64-1)=9223372036854775808:=by decide
   by_cases KC:c.toNat=43
   ·simp only[Lib.parseIntB,KC,true_or,if_true]
    have KD:r.length≤18:=by simp at h;omega
    rw[DV r KD]
    have ko:lp 0 (c::r)=(0,false):=DW fun bb=>by
     have:=bb.2
     simp only[List.all_cons,Bool.and_eq_true]at this
     have:=this.1
     simp only[eR,Bool.and_eq_true,decide_eq_true_eq]at this
     omega
    rw[ko]
    by_cases aH:r≠[]∧r.all eR=true
    ·rw[if_pos aH]
     have d_:=DU r aH.2 KD
     simp only[show¬((43:Nat)=45)from by decide,not_false_eq_true,true_and,false_and,if_false,p0]
     rw[if_neg (by omega)]
     refine⟨by simp,?_⟩
     simp only
     rw[if_neg]
     intro ay
     unfold Lib.itoa at ay
     rw[if_neg (by omega),Int.toNat_natCast]at ay
     obtain⟨Bi,CE,hh,ga,_⟩:=DT (hY r)
     rw[hh]at ay
     injection ay with ay _
     rw[ay]at ga
     simp only[eR,Bool.and_eq_true,decide_eq_true_eq]at ga
     omega
    ·rw[if_neg aH]
     exact⟨by simp[wS,Lib.parseUintB],rfl⟩
   ·simp only[Lib.parseIntB,KC,tR,or_self,if_false]
    rw[DV (c::r) h]
    by_cases aH:(c::r)≠[]∧(c::r).all eR=true
    ·rw[if_pos aH]
     have d_:=DU (c::r) aH.2 h
     simp only[not_false_eq_true,true_and,false_and,if_false,p0]
     rw[if_neg (by omega)]
     refine⟨by simp,?_⟩
     simp only
     have wU:=Kz c r aH.2
     have ak0:Lib.itoa (hY (c::r):Int)=Lib.decDigits (hY (c::r)):=by
      unfold Lib.itoa
      rw[if_neg (by omega),Int.toNat_natCast]
     rw[ak0]
     by_cases wV:c≠48∨r=[]
     ·rw[if_pos (wU.2 wV),KB ⟨by simp,h,aH.2,fun bb=>by
       rcases wV with ad|ad
       ·exact ad (Option.some.inj bb.1)
       ·subst ad;simp at bb⟩]
      simp
     ·have jL:c=48:=by
       by_cases q:c=48
       ·exact q
       ·exact(wV (.inl q)).elim
      have dr:r≠[]:=fun q=>wV (.inr q)
      rw[if_neg (fun bb=>wV (wU.1 bb)),KA (by rw[jL];rfl) (by
       cases r with
       |nil=>exact(dr rfl).elim
       |cons x t=>simp)]
    ·rw[if_neg aH,DW aH]
     exact⟨by simp[wS,Lib.parseUintB],rfl⟩
end Go.gB
