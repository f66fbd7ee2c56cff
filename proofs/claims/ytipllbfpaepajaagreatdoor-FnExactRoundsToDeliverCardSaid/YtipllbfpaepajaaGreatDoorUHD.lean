/- Part of a proof that a law returns true for every input. No condition. -/
import Derived.Test.YtipllbfpaepajaaGreatDoorUH3
import Derived.Lib.ParseIntB
import Derived.Lib.ItoaNum
namespace Go.e3
open Go Go.b9
def ud:Lib.NumEnd Nat:=Lib.parseUintB 64 []
theorem Gc:∀(d:List UInt8) (n k:Nat),n<10^k→k+d.length≤18→Lib.parseUintM 18446744073709551615 n d=if d.all dv=true then .ok (gP n d)else ud
 |[],n,k,_,_=>by simp[Lib.parseUintM,gP]
 |c::r,n,k,aW,ar=>by
  simp only[List.length_cons]at ar
  have mg:n<10^17:=Nat.lt_of_lt_of_le aW (Nat.pow_le_pow_right (by omega) (by omega))
  simp only[Lib.parseUintM]
  have hH:(c::r).all dv=(dv c&&r.all dv):=rfl
  by_cases ai:dv c=true
  ·have r0:=ai
   simp only[dv,Bool.and_eq_true,decide_eq_true_eq]at r0
   have Ai:(c::r).all dv=r.all dv:=by rw[hH,ai];rfl
   rw[if_pos r0,if_neg (by omega),if_neg (by omega),Ai,show n*10+(c.toNat-48)=10*n+(c.toNat-48) by omega,Gc r _ (k+1) (by rw[Nat.pow_succ];omega) (by omega)]
   rfl
  ·have r0:¬(48≤c.toNat∧c.toNat≤57):=fun h=>ai (by simp only[dv,Bool.and_eq_true,decide_eq_true_eq];exact h)
   have ue:dv c=false:=by simpa using ai
   have Ai:(c::r).all dv=false:=by rw[hH,ue];rfl
   rw[if_neg r0,Ai]
   simp
   rfl
theorem Yc (n x:Nat) (aW:1≤n) (ao:x≤9):Lib.decDigits (10*n+x)=Lib.decDigits n++[UInt8.ofNat (48+x)]:=by
 rw[Lib.decDigits,dif_neg (by omega),show(10*n+x)/10=n by omega,show(10*n+x)%10=x by omega]
theorem Gd:∀(d:List UInt8) (n:Nat),1≤n→d.all dv=true→Lib.decDigits (gP n d)=Lib.decDigits n++d
 |[],n,_,_=>by simp[gP]
 |c::r,n,aW,ae=>by
  simp only[List.all_cons,Bool.and_eq_true]at ae
  have ai:=ae.1
  have e:=uc c ae.1
  simp only[dv,Bool.and_eq_true,decide_eq_true_eq]at ai
  show Lib.decDigits (gP (10*n+(c.toNat-48)) r)=_
  rw[Gd r _ (by omega) ae.2,Yc n (c.toNat-48) aW (by omega),e]
  simp
theorem Aj (u:Nat):∃c t,Lib.decDigits u=c::t∧dv c=true∧(1≤u→c≠48):=by
 induction u using Nat.strongRecOn with
 |_ u ih=>
  rw[Lib.decDigits]
  by_cases h:u<10
  ·rw[dif_pos h]
   refine⟨_,_,rfl,?_,?_⟩
   ·have:∀i:Fin 10,dv (UInt8.ofNat (48+i.val))=true:=by decide
    exact this ⟨u,h⟩
   ·have:∀i:Fin 10,1≤i.val→UInt8.ofNat (48+i.val)≠48:=by decide
    exact this ⟨u,h⟩
  ·rw[dif_neg h]
   obtain⟨c,t,aa,ad,aB⟩:=ih (u/10) (by omega)
   exact⟨c,t++_,by rw[aa];rfl,ad,fun _=>aB (by omega)⟩
theorem Ge (c:UInt8) (r:List UInt8) (ae:(c::r).all dv=true):Lib.decDigits (fQ (c::r))=c::r↔(c≠48∨r=[]):=by
 simp only[List.all_cons,Bool.and_eq_true]at ae
 have ai:=ae.1
 have e:=uc c ae.1
 simp only[dv,Bool.and_eq_true,decide_eq_true_eq]at ai
 have aE:fQ (c::r)=gP (c.toNat-48) r:=by
  show gP (10*0+(c.toNat-48)) r=_
  rw[Nat.mul_zero,Nat.zero_add]
 rw[aE]
 by_cases hn:c=48
 ·subst hn
  constructor
  ·intro h
   cases r with
   |nil=>exact .inr rfl
   |cons x t=>
    exfalso
    obtain⟨xM,y6,aa,ad,aB⟩:=Aj (gP ((48:UInt8).toNat-48) (x::t))
    rw[aa]at h
    injection h with aO a6
    by_cases bp:1≤gP ((48:UInt8).toNat-48) (x::t)
    ·exact aB bp aO
    ·have bz:gP ((48:UInt8).toNat-48) (x::t)=0:=by omega
     rw[bz,Lib.decDigits,dif_pos (by omega)]at aa
     injection aa with _ bB
     rw[←bB]at a6
     cases a6
  ·rintro(h|rfl)
   ·exact(h rfl).elim
   ·show Lib.decDigits 0=_
    rw[Lib.decDigits,dif_pos (by omega)];rfl
 ·have aa:1≤c.toNat-48:=by
   rcases Nat.lt_or_ge 48 c.toNat with h|h
   ·omega
   ·exact(hn (UInt8.toNat_inj.1 (by rw[show(48:UInt8).toNat=48 from rfl];omega))).elim
  refine⟨fun _=>.inl hn,fun _=> ?_⟩
  rw[Gd r _ aa ae.2,Lib.decDigits,dif_pos (by omega),e]
  rfl
theorem Ak (d:List UInt8) (h:d.all dv=true) (aJ:d.length≤18):fQ d<10^18:=by
 have:=F9 d 0 0 h (by omega)
 have ad:(10:Nat)^(0+d.length)≤10^18:=Nat.pow_le_pow_right (by omega) (by omega)
 exact Nat.lt_of_lt_of_le this ad
theorem Al (d:List UInt8) (aJ:d.length≤18):Lib.parseUintB 64 d=if d≠[]∧d.all dv=true then .ok (fQ d)else ud:=by
 unfold Lib.parseUintB
 by_cases h:d=[]
 ·rw[if_pos h,if_neg (fun aQ=>aQ.1 h)]
  rfl
 ·rw[if_neg h,show(2^64-1:Nat)=18446744073709551615 from rfl,Gc d 0 0 (by omega) (by omega)]
  by_cases ae:d.all dv=true
  ·rw[if_pos ae,if_pos ⟨h,ae⟩];rfl
  ·rw[if_neg ae,if_neg (fun aQ=>ae aQ.2)]
def mI (s:List UInt8):Int×Bool:=match Lib.parseIntB 64 s with
 | .ok v=>if Lib.itoa v=s then(v,true)else(0,false)
 |_=>(0,false)
theorem Am {k:Nat} {d:List UInt8} (h:¬(d≠[]∧d.all dv=true)):jb k d=(0,false):=by
 unfold jb
 rw[if_neg (fun aQ=>h ⟨aQ.1,aQ.2.2.1⟩)]
theorem Gf {k:Nat} {d:List UInt8} (aa:d.head? =some 48) (ad:1<d.length+k):jb k d=(0,false):=by
 unfold jb
 rw[if_neg (fun aQ=>aQ.2.2.2 ⟨aa,ad⟩)]
theorem Gg {k:Nat} {d:List UInt8} (h:d≠[]∧d.length≤18∧d.all dv=true∧¬(d.head? =some 48∧1<d.length+k)):jb k d=(if k=1 then-(fQ d:Int)else fQ d,true):=by
 unfold jb
 rw[if_pos h]
theorem Vk (s:List UInt8) (h:(if s.head? =some 45 then s.tail else s).length≤18):Lib.parseIntB 64 s≠.range∧mI s=fu s:=by
 unfold mI fu
 cases s with
 |nil=>exact⟨by simp[Lib.parseIntB],by simp[Lib.parseIntB,jb]⟩
 |cons c r=>
  by_cases An:c=45
  ·subst An
   rw[if_pos (show(45::r).head? =some 45 from rfl)]at h⊢
   simp only[List.tail_cons]at h⊢
   have zZ:(45:UInt8).toNat=45:=rfl
   simp only[Lib.parseIntB,zZ,or_true,if_true]
   rw[Al r h]
   by_cases aC:r≠[]∧r.all dv=true
   ·rw[if_pos aC]
    have cY:=Ak r aC.2 h
    have n1:(2:Nat)^(64-1)=9223372036854775808:=by decide
    simp only[not_true,false_and,if_false,n1,true_and]
    rw[if_neg (by omega)]
    refine⟨by simp,?_⟩
    simp only
    obtain⟨x,t,rfl⟩:∃x t,r=x::t:=by
     cases r with
     |nil=>exact(aC.1 rfl).elim
     |cons x t=>exact⟨x,t,rfl⟩
    have uf:=Ge x t aC.2
    by_cases hn:x=48
    ·rw[Gf (by rw[hn];rfl) (by simp)]
     rw[if_neg]
     intro aA
     by_cases bz:fQ (x::t)=0
     ·rw[bz]at aA
      have eL:Lib.decDigits 0=[48]:=by rw[Lib.decDigits,dif_pos (by omega)];rfl
      simp[Lib.itoa,eL]at aA
     ·unfold Lib.itoa at aA
      rw[if_pos (by omega)]at aA
      injection aA with _ aA
      rw[show(-(fQ (x::t):Int)).natAbs=fQ (x::t) by omega]at aA
      obtain⟨xM,y6,e0,ep,gv⟩:=Aj (fQ (x::t))
      rw[e0]at aA
      injection aA with sV _
      exact gv (by omega) (sV.trans hn)
    ·have yM:1≤fQ (x::t):=by
      have:=(uf.2 (.inl hn))
      rcases Nat.eq_zero_or_pos (fQ (x::t))with bz|bz
      ·rw[bz,Lib.decDigits,dif_pos (by omega)]at this
       injection this with this _
       exact(hn this.symm).elim
      ·exact bz
     rw[Gg ⟨by simp,h,aC.2,fun aQ=>hn (Option.some.inj aQ.1)⟩]
     rw[if_pos]
     ·simp
     ·unfold Lib.itoa
      rw[if_pos (by omega),show(-(fQ (x::t):Int)).natAbs=fQ (x::t) by omega,uf.2 (.inl hn)]
   ·rw[if_neg aC,Am aC]
    exact⟨by simp[ud,Lib.parseUintB],rfl⟩
  ·have fb:¬((c::r).head? =some 45):=fun e=>An (Option.some.inj e)
   rw[if_neg fb]at h⊢
   have zK:c.toNat≠45:=fun e=>An (UInt8.toNat_inj.1 (by rw[show(45:UInt8).toNat=45 from rfl];exact e))
   have n1:(2:Nat)^(64-1)=9223372036854775808:=by decide
   by_cases Gh:c.toNat=43
   ·simp only[Lib.parseIntB,Gh,true_or,if_true]
    have Gi:r.length≤18:=by simp at h;omega
    rw[Al r Gi]
    have hZ:jb 0 (c::r)=(0,false):=Am fun aQ=>by
     have:=aQ.2
     simp only[List.all_cons,Bool.and_eq_true]at this
     have:=this.1
     simp only[dv,Bool.and_eq_true,decide_eq_true_eq]at this
     omega
    rw[hZ]
    by_cases aC:r≠[]∧r.all dv=true
    ·rw[if_pos aC]
     have cY:=Ak r aC.2 Gi
     simp only[show¬((43:Nat)=45)from by decide,not_false_eq_true,true_and,false_and,if_false,n1]
     rw[if_neg (by omega)]
     refine⟨by simp,?_⟩
     simp only
     rw[if_neg]
     intro aA
     unfold Lib.itoa at aA
     rw[if_neg (by omega),Int.toNat_natCast]at aA
     obtain⟨xM,y6,e0,ep,_⟩:=Aj (fQ r)
     rw[e0]at aA
     injection aA with aA _
     rw[aA]at ep
     simp only[dv,Bool.and_eq_true,decide_eq_true_eq]at ep
     omega
    ·rw[if_neg aC]
     exact⟨by simp[ud,Lib.parseUintB],rfl⟩
   ·simp only[Lib.parseIntB,Gh,zK,or_self,if_false]
    rw[Al (c::r) h]
    by_cases aC:(c::r)≠[]∧(c::r).all dv=true
    ·rw[if_pos aC]
     have cY:=Ak (c::r) aC.2 h
     simp only[not_false_eq_true,true_and,false_and,if_false,n1]
     rw[if_neg (by omega)]
     refine⟨by simp,?_⟩
     simp only
     have uf:=Ge c r aC.2
     have Yd:Lib.itoa (fQ (c::r):Int)=Lib.decDigits (fQ (c::r)):=by
      unfold Lib.itoa
      rw[if_neg (by omega),Int.toNat_natCast]
     rw[Yd]
     by_cases ug:c≠48∨r=[]
     ·rw[if_pos (uf.2 ug),Gg ⟨by simp,h,aC.2,fun aQ=>by
       rcases ug with aa|aa
       ·exact aa (Option.some.inj aQ.1)
       ·subst aa;simp at aQ⟩]
      simp
     ·have hn:c=48:=by
       by_cases q:c=48
       ·exact q
       ·exact(ug (.inl q)).elim
      have cB:r≠[]:=fun q=>ug (.inr q)
      rw[if_neg (fun aQ=>ug (uf.1 aQ)),Gf (by rw[hn];rfl) (by
       cases r with
       |nil=>exact(cB rfl).elim
       |cons x t=>simp)]
    ·rw[if_neg aC,Am aC]
     exact⟨by simp[ud,Lib.parseUintB],rfl⟩
end Go.e3
