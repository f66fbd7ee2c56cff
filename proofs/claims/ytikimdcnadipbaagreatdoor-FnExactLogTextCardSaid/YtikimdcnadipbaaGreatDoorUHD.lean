/- Part of a proof that a law returns true for every input. No condition. -/
import Derived.Test.YtikimdcnadipbaaGreatDoorUH3
import Derived.Lib.ParseIntB
import Derived.Lib.ItoaNum
namespace Go.eL
open Go Go.bZ
def tP:Lib.NumEnd Nat:=Lib.parseUintB 64 []
theorem F7:∀(d:List UInt8) (n k:Nat),n<10^k→k+d.length≤18→Lib.parseUintM 18446744073709551615 n d=if d.all dA=true then .ok (gG n d)else tP
 |[],n,k,_,_=>by simp[Lib.parseUintM,gG]
 |c::r,n,k,aQ,al=>by
  simp only[List.length_cons]at al
  have iN:n<10^17:=Nat.lt_of_lt_of_le aQ (Nat.pow_le_pow_right (by omega) (by omega))
  simp only[Lib.parseUintM]
  have gR:(c::r).all dA=(dA c&&r.all dA):=rfl
  by_cases af:dA c=true
  ·have rJ:=af
   simp only[dA,Bool.and_eq_true,decide_eq_true_eq]at rJ
   have z1:(c::r).all dA=r.all dA:=by rw[gR,af];rfl
   rw[if_pos rJ,if_neg (by omega),if_neg (by omega),z1,show n*10+(c.toNat-48)=10*n+(c.toNat-48) by omega,F7 r _ (k+1) (by rw[Nat.pow_succ];omega) (by omega)]
   rfl
  ·have rJ:¬(48≤c.toNat∧c.toNat≤57):=fun h=>af (by simp only[dA,Bool.and_eq_true,decide_eq_true_eq];exact h)
   have XH:dA c=false:=by simpa using af
   have z1:(c::r).all dA=false:=by rw[gR,XH];rfl
   rw[if_neg rJ,z1]
   simp
   rfl
theorem XI (n x:Nat) (aQ:1≤n) (ai:x≤9):Lib.decDigits (10*n+x)=Lib.decDigits n++[UInt8.ofNat (48+x)]:=by
 rw[Lib.decDigits,dif_neg (by omega),show(10*n+x)/10=n by omega,show(10*n+x)%10=x by omega]
theorem F8:∀(d:List UInt8) (n:Nat),1≤n→d.all dA=true→Lib.decDigits (gG n d)=Lib.decDigits n++d
 |[],n,_,_=>by simp[gG]
 |c::r,n,aQ,ae=>by
  simp only[List.all_cons,Bool.and_eq_true]at ae
  have af:=ae.1
  have e:=tO c ae.1
  simp only[dA,Bool.and_eq_true,decide_eq_true_eq]at af
  show Lib.decDigits (gG (10*n+(c.toNat-48)) r)=_
  rw[F8 r _ (by omega) ae.2,XI n (c.toNat-48) aQ (by omega),e]
  simp
theorem z6 (u:Nat):∃c t,Lib.decDigits u=c::t∧dA c=true∧(1≤u→c≠48):=by
 induction u using Nat.strongRecOn with
 |_ u ih=>
  rw[Lib.decDigits]
  by_cases h:u<10
  ·rw[dif_pos h]
   refine⟨_,_,rfl,?_,?_⟩
   ·have:∀i:Fin 10,dA (UInt8.ofNat (48+i.val))=true:=by decide
    exact this ⟨u,h⟩
   ·have:∀i:Fin 10,1≤i.val→UInt8.ofNat (48+i.val)≠48:=by decide
    exact this ⟨u,h⟩
  ·rw[dif_neg h]
   obtain⟨c,t,aa,ab,aB⟩:=ih (u/10) (by omega)
   exact⟨c,t++_,by rw[aa];rfl,ab,fun _=>aB (by omega)⟩
theorem F9 (c:UInt8) (r:List UInt8) (ae:(c::r).all dA=true):Lib.decDigits (fJ (c::r))=c::r↔(c≠48∨r=[]):=by
 simp only[List.all_cons,Bool.and_eq_true]at ae
 have af:=ae.1
 have e:=tO c ae.1
 simp only[dA,Bool.and_eq_true,decide_eq_true_eq]at af
 have aD:fJ (c::r)=gG (c.toNat-48) r:=by
  show gG (10*0+(c.toNat-48)) r=_
  rw[Nat.mul_zero,Nat.zero_add]
 rw[aD]
 by_cases hh:c=48
 ·subst hh
  constructor
  ·intro h
   cases r with
   |nil=>exact .inr rfl
   |cons x t=>
    exfalso
    obtain⟨xC,yX,aa,ab,aB⟩:=z6 (gG ((48:UInt8).toNat-48) (x::t))
    rw[aa]at h
    injection h with aP bb
    by_cases bQ:1≤gG ((48:UInt8).toNat-48) (x::t)
    ·exact aB bQ aP
    ·have bl:gG ((48:UInt8).toNat-48) (x::t)=0:=by omega
     rw[bl,Lib.decDigits,dif_pos (by omega)]at aa
     injection aa with _ bT
     rw[←bT]at bb
     cases bb
  ·rintro(h|rfl)
   ·exact(h rfl).elim
   ·show Lib.decDigits 0=_
    rw[Lib.decDigits,dif_pos (by omega)];rfl
 ·have aa:1≤c.toNat-48:=by
   rcases Nat.lt_or_ge 48 c.toNat with h|h
   ·omega
   ·exact(hh (UInt8.toNat_inj.1 (by rw[show(48:UInt8).toNat=48 from rfl];omega))).elim
  refine⟨fun _=>.inl hh,fun _=> ?_⟩
  rw[F8 r _ aa ae.2,Lib.decDigits,dif_pos (by omega),e]
  rfl
theorem z7 (d:List UInt8) (h:d.all dA=true) (aI:d.length≤18):fJ d<10^18:=by
 have:=F3 d 0 0 h (by omega)
 have ab:(10:Nat)^(0+d.length)≤10^18:=Nat.pow_le_pow_right (by omega) (by omega)
 exact Nat.lt_of_lt_of_le this ab
theorem z8 (d:List UInt8) (aI:d.length≤18):Lib.parseUintB 64 d=if d≠[]∧d.all dA=true then .ok (fJ d)else tP:=by
 unfold Lib.parseUintB
 by_cases h:d=[]
 ·rw[if_pos h,if_neg (fun aT=>aT.1 h)]
  rfl
 ·rw[if_neg h,show(2^64-1:Nat)=18446744073709551615 from rfl,F7 d 0 0 (by omega) (by omega)]
  by_cases ae:d.all dA=true
  ·rw[if_pos ae,if_pos ⟨h,ae⟩];rfl
  ·rw[if_neg ae,if_neg (fun aT=>ae aT.2)]
def mF (s:List UInt8):Int×Bool:=match Lib.parseIntB 64 s with
 | .ok v=>if Lib.itoa v=s then(v,true)else(0,false)
 |_=>(0,false)
theorem z_ {k:Nat} {d:List UInt8} (h:¬(d≠[]∧d.all dA=true)):iY k d=(0,false):=by
 unfold iY
 rw[if_neg (fun aT=>h ⟨aT.1,aT.2.2.1⟩)]
theorem F_ {k:Nat} {d:List UInt8} (aa:d.head? =some 48) (ab:1<d.length+k):iY k d=(0,false):=by
 unfold iY
 rw[if_neg (fun aT=>aT.2.2.2 ⟨aa,ab⟩)]
theorem Ga {k:Nat} {d:List UInt8} (h:d≠[]∧d.length≤18∧d.all dA=true∧¬(d.head? =some 48∧1<d.length+k)):iY k d=(if k=1 then-(fJ d:Int)else fJ d,true):=by
 unfold iY
 rw[if_pos h]
theorem UW (s:List UInt8) (h:(if s.head? =some 45 then s.tail else s).length≤18):Lib.parseIntB 64 s≠.range∧mF s=fm s:=by
 unfold mF fm
 cases s with
 |nil=>exact⟨by simp[Lib.parseIntB],by simp[Lib.parseIntB,iY]⟩
 |cons c r=>
  by_cases Aa:c=45
  ·subst Aa
   rw[if_pos (show(45::r).head? =some 45 from rfl)]at h⊢
   simp only[List.tail_cons]at h⊢
   have XJ:(45:UInt8).toNat=45:=rfl
   simp only[Lib.parseIntB,XJ,or_true,if_true]
   rw[z8 r h]
   by_cases aC:r≠[]∧r.all dA=true
   ·rw[if_pos aC]
    have cJ:=z7 r aC.2 h
    have nW:(2:Nat)^(64-1)=9223372036854775808:=by decide
    simp only[not_true,false_and,if_false,nW,true_and]
    rw[if_neg (by omega)]
    refine⟨by simp,?_⟩
    simp only
    obtain⟨x,t,rfl⟩:∃x t,r=x::t:=by
     cases r with
     |nil=>exact(aC.1 rfl).elim
     |cons x t=>exact⟨x,t,rfl⟩
    have tQ:=F9 x t aC.2
    by_cases hh:x=48
    ·rw[F_ (by rw[hh];rfl) (by simp)]
     rw[if_neg]
     intro ay
     by_cases bl:fJ (x::t)=0
     ·rw[bl]at ay
      have eF:Lib.decDigits 0=[48]:=by rw[Lib.decDigits,dif_pos (by omega)];rfl
      simp[Lib.itoa,eF]at ay
     ·unfold Lib.itoa at ay
      rw[if_pos (by omega)]at ay
      injection ay with _ ay
      rw[show(-(fJ (x::t):Int)).natAbs=fJ (x::t) by omega]at ay
      obtain⟨xC,yX,fj,er,gM⟩:=z6 (fJ (x::t))
      rw[fj]at ay
      injection ay with sD _
      exact gM (by omega) (sD.trans hh)
    ·have yB:1≤fJ (x::t):=by
      have:=(tQ.2 (.inl hh))
      rcases Nat.eq_zero_or_pos (fJ (x::t))with bl|bl
      ·rw[bl,Lib.decDigits,dif_pos (by omega)]at this
       injection this with this _
       exact(hh this.symm).elim
      ·exact bl
     rw[Ga ⟨by simp,h,aC.2,fun aT=>hh (Option.some.inj aT.1)⟩]
     rw[if_pos]
     ·simp
     ·unfold Lib.itoa
      rw[if_pos (by omega),show(-(fJ (x::t):Int)).natAbs=fJ (x::t) by omega,tQ.2 (.inl hh)]
   ·rw[if_neg aC,z_ aC]
    exact⟨by simp[tP,Lib.parseUintB],rfl⟩
  ·have fs:¬((c::r).head? =some 45):=fun e=>Aa (Option.some.inj e)
   rw[if_neg fs]at h⊢
   have zy:c.toNat≠45:=fun e=>Aa (UInt8.toNat_inj.1 (by rw[show(45:UInt8).toNat=45 from rfl];exact e))
   have nW:(2:Nat)^(64-1)=9223372036854775808:=by decide
   by_cases Gb:c.toNat=43
   ·simp only[Lib.parseIntB,Gb,true_or,if_true]
    have Gc:r.length≤18:=by simp at h;omega
    rw[z8 r Gc]
    have hO:iY 0 (c::r)=(0,false):=z_ fun aT=>by
     have:=aT.2
     simp only[List.all_cons,Bool.and_eq_true]at this
     have:=this.1
     simp only[dA,Bool.and_eq_true,decide_eq_true_eq]at this
     omega
    rw[hO]
    by_cases aC:r≠[]∧r.all dA=true
    ·rw[if_pos aC]
     have cJ:=z7 r aC.2 Gc
     simp only[show¬((43:Nat)=45)from by decide,not_false_eq_true,true_and,false_and,if_false,nW]
     rw[if_neg (by omega)]
     refine⟨by simp,?_⟩
     simp only
     rw[if_neg]
     intro ay
     unfold Lib.itoa at ay
     rw[if_neg (by omega),Int.toNat_natCast]at ay
     obtain⟨xC,yX,fj,er,_⟩:=z6 (fJ r)
     rw[fj]at ay
     injection ay with ay _
     rw[ay]at er
     simp only[dA,Bool.and_eq_true,decide_eq_true_eq]at er
     omega
    ·rw[if_neg aC]
     exact⟨by simp[tP,Lib.parseUintB],rfl⟩
   ·simp only[Lib.parseIntB,Gb,zy,or_self,if_false]
    rw[z8 (c::r) h]
    by_cases aC:(c::r)≠[]∧(c::r).all dA=true
    ·rw[if_pos aC]
     have cJ:=z7 (c::r) aC.2 h
     simp only[not_false_eq_true,true_and,false_and,if_false,nW]
     rw[if_neg (by omega)]
     refine⟨by simp,?_⟩
     simp only
     have tQ:=F9 c r aC.2
     have XK:Lib.itoa (fJ (c::r):Int)=Lib.decDigits (fJ (c::r)):=by
      unfold Lib.itoa
      rw[if_neg (by omega),Int.toNat_natCast]
     rw[XK]
     by_cases tR:c≠48∨r=[]
     ·rw[if_pos (tQ.2 tR),Ga ⟨by simp,h,aC.2,fun aT=>by
       rcases tR with aa|aa
       ·exact aa (Option.some.inj aT.1)
       ·subst aa;simp at aT⟩]
      simp
     ·have hh:c=48:=by
       by_cases q:c=48
       ·exact q
       ·exact(tR (.inl q)).elim
      have cj:r≠[]:=fun q=>tR (.inr q)
      rw[if_neg (fun aT=>tR (tQ.1 aT)),F_ (by rw[hh];rfl) (by
       cases r with
       |nil=>exact(cj rfl).elim
       |cons x t=>simp)]
    ·rw[if_neg aC,z_ aC]
     exact⟨by simp[tP,Lib.parseUintB],rfl⟩
end Go.eL
