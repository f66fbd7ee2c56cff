/- Part of a proof that a law returns true for every input. No condition. -/
import Derived.Test.YtlkabaochkgkdaaGreatDoorUH3
import Derived.Lib.ParseIntB
import Derived.Lib.ItoaNum
namespace Go.eU
open Go Go.c_
def BE:Lib.NumEnd Nat:=Lib.parseUintB 64 []
theorem SJ:∀(d:List UInt8) (n k:Nat),n<10^k->k+d.length<=18->Lib.parseUintM 18446744073709551615 n d=if d.all fW=true then .ok (ko n d)else BE
 |[],n,k,_,_=>by simp[Lib.parseUintM,ko]
 |c::r,n,k,a7,ay=>by
  simp only[List.length_cons]at ay;have qH:n<10^17:=Nat.lt_of_lt_of_le a7 (Nat.pow_le_pow_right (by omega) (by omega));simp only[Lib.parseUintM];have lD:(c::r).all fW=(fW c&&r.all fW):=rfl;by_cases aq:fW c=true
  .have ys:=aq;simp only[fW,Bool.and_eq_true,decide_eq_true_eq]at ys;have KQ:(c::r).all fW=r.all fW:=by rw[lD,aq];rfl
   rw[if_pos ys,if_neg (by omega),if_neg (by omega),KQ,show n*10+(c.toNat-48)=10*n+(c.toNat-48) by omega,SJ r _ (k+1) (by rw[Nat.pow_succ];omega) (by omega)];rfl
  .have ys:¬(48<=c.toNat/\c.toNat<=57):=λh=>aq (by simp only[fW,Bool.and_eq_true,decide_eq_true_eq];exact h);have aFw:fW c=false:=by simpa using aq
   have KQ:(c::r).all fW=false:=by rw[lD,aFw];rfl
   rw[if_neg ys,KQ];simp;rfl
theorem aFx (n x:Nat) (a7:1<=n) (aw:x<=9):Lib.decDigits (10*n+x)=Lib.decDigits n++[UInt8.ofNat (48+x)]:=by
 rw[Lib.decDigits,dif_neg (by omega),show(10*n+x)/10=n by omega,show(10*n+x)%10=x by omega]
theorem SK:∀(d:List UInt8) (n:Nat),1<=n->d.all fW=true->Lib.decDigits (ko n d)=Lib.decDigits n++d
 |[],n,_,_=>by simp[ko]
 |c::r,n,a7,aj=>by
  simp only[List.all_cons,Bool.and_eq_true]at aj;have aq:=aj.1;have e:=BD c aj.1;simp only[fW,Bool.and_eq_true,decide_eq_true_eq]at aq;show Lib.decDigits (ko (10*n+(c.toNat-48)) r)=_;rw[SK r _ (by omega) aj.2,aFx n (c.toNat-48) a7 (by omega),e];simp
theorem KR (u:Nat):∃c t,Lib.decDigits u=c::t/\fW c=true/\(1<=u->c≠48):=by
 induction u using Nat.strongRecOn with
 |_ u ih=>
  rw[Lib.decDigits];by_cases h:u<10
  .rw[dif_pos h];refine⟨_,_,rfl,?_,?_⟩
   .have:∀i:Fin 10,fW (UInt8.ofNat (48+i.val))=true:=by decide
    exact this ⟨u,h⟩
   .have:∀i:Fin 10,1<=i.val->UInt8.ofNat (48+i.val)≠48:=by decide
    exact this ⟨u,h⟩
  .rw[dif_neg h];obtain⟨c,t,ag,ah,aN⟩:=ih (u/10) (by omega);exact⟨c,t++_,by rw[ag];rfl,ah,λ_=>aN (by omega)⟩
theorem SL (c:UInt8) (r:List UInt8) (aj:(c::r).all fW=true):Lib.decDigits (jo (c::r))=c::r↔(c≠48\/r=[]):=by
 simp only[List.all_cons,Bool.and_eq_true]at aj;have aq:=aj.1;have e:=BD c aj.1;simp only[fW,Bool.and_eq_true,decide_eq_true_eq]at aq;have aT:jo (c::r)=ko (c.toNat-48) r:=by
  show ko (10*0+(c.toNat-48)) r=_;rw[Nat.mul_zero,Nat.zero_add]
 rw[aT];by_cases k1:c=48
 .subst k1;constructor
  .intro h;cases r with
   |nil=>exact .inr rfl
   |cons x t=>
    exfalso;obtain⟨sL,Ja,ag,ah,aN⟩:=KR (ko ((48:UInt8).toNat-48) (x::t));rw[ag]at h;injection h with bg bR;by_cases cW:1<=ko ((48:UInt8).toNat-48) (x::t)
    .exact aN cW bg
    .have ba:ko ((48:UInt8).toNat-48) (x::t)=0:=by omega
     rw[ba,Lib.decDigits,dif_pos (by omega)]at ag;injection ag with _ cE;rw[<-cE]at bR;cases bR
  .rintro(h|rfl)
   .exact(h rfl).elim
   .show Lib.decDigits 0=_;rw[Lib.decDigits,dif_pos (by omega)];rfl
 .have ag:1<=c.toNat-48:=by
   rcases Nat.lt_or_ge 48 c.toNat with h|h
   .omega
   .exact(k1 (UInt8.toNat_inj.1 (by rw[show(48:UInt8).toNat=48 from rfl];omega))).elim
  refine⟨λ_=>.inl k1,λ_=>?_⟩;rw[SK r _ ag aj.2,Lib.decDigits,dif_pos (by omega),e];rfl
theorem KS (d:List UInt8) (h:d.all fW=true) (hl:d.length<=18):jo d<10^18:=by
 have:=SF d 0 0 h (by omega);have ah:(10:Nat)^(0+d.length)<=10^18:=Nat.pow_le_pow_right (by omega) (by omega);exact Nat.lt_of_lt_of_le this ah
theorem KT (d:List UInt8) (hl:d.length<=18):Lib.parseUintB 64 d=if d≠[]/\d.all fW=true then .ok (jo d)else BE:=by
 unfold Lib.parseUintB;by_cases h:d=[]
 .rw[if_pos h,if_neg (λbt=>bt.1 h)];rfl
 .rw[if_neg h,show(2^64-1:Nat)=18446744073709551615 from rfl,SJ d 0 0 (by omega) (by omega)];by_cases aj:d.all fW=true
  .rw[if_pos aj,if_pos ⟨h,aj⟩];rfl
  .rw[if_neg aj,if_neg (λbt=>aj bt.2)]
def q0 (s:List UInt8):Int×Bool:=match Lib.parseIntB 64 s with
 | .ok v=>if Lib.itoa v=s then(v,true)else(0,false)
 |_=>(0,false)
theorem KU {k:Nat} {d:List UInt8} (h:¬(d≠[]/\d.all fW=true)):mN k d=(0,false):=by
 unfold mN;rw[if_neg (λbt=>h ⟨bt.1,bt.2.2.1⟩)]
theorem SM {k:Nat} {d:List UInt8} (ag:d.head? =some 48) (ah:1<d.length+k):mN k d=(0,false):=by
 unfold mN;rw[if_neg (λbt=>bt.2.2.2 ⟨ag,ah⟩)]
theorem SN {k:Nat} {d:List UInt8} (h:d≠[]/\d.length<=18/\d.all fW=true/\¬(d.head? =some 48/\1<d.length+k)):mN k d=(if k=1 then-(jo d:Int)else jo d,true):=by
 unfold mN;rw[if_pos h]
theorem az4 (s:List UInt8) (h:(if s.head? =some 45 then s.tail else s).length<=18):Lib.parseIntB 64 s≠.range/\q0 s=iH s:=by
 unfold q0 iH;cases s with
 |nil=>exact⟨by simp[Lib.parseIntB],by simp[Lib.parseIntB,mN]⟩
 |cons c r=>
  by_cases KV:c=45
  .subst KV;rw[if_pos (show(45::r).head? =some 45 from rfl)]at h⊢;simp only[List.tail_cons]at h⊢;have KG:(45:UInt8).toNat=45:=rfl;simp only[Lib.parseIntB,KG,or_true,if_true];rw[KT r h];by_cases aS:r≠[]/\r.all fW=true
   .rw[if_pos aS];have e6:=KS r aS.2 h;have sE:(2:Nat)^(64-1)=9223372036854775808:=by decide
    simp only[not_true,false_and,if_false,sE,true_and];rw[if_neg (by omega)];refine⟨by simp,?_⟩;simp only;obtain⟨x,t,rfl⟩:∃x t,r=x::t:=by
     cases r with
     |nil=>exact(aS.1 rfl).elim
     |cons x t=>exact⟨x,t,rfl⟩
    have BF:=SL x t aS.2;by_cases k1:x=48
    .rw[SM (by rw[k1];rfl) (by simp)];rw[if_neg];intro an;by_cases ba:jo (x::t)=0
     .rw[ba]at an;have hT:Lib.decDigits 0=[48]:=by rw[Lib.decDigits,dif_pos (by omega)];rfl
      simp[Lib.itoa,hT]at an
     .unfold Lib.itoa at an;rw[if_pos (by omega)]at an;injection an with _ an;rw[show(-(jo (x::t):Int)).natAbs=jo (x::t) by omega]at an;obtain⟨sL,Ja,hz,gw,iR⟩:=KR (jo (x::t));rw[hz]at an;injection an with zo _;exact iR (by omega) (zo.trans k1)
    .have IC:1<=jo (x::t):=by
      have:=(BF.2 (.inl k1))
      rcases Nat.eq_zero_or_pos (jo (x::t))with ba|ba
      .rw[ba,Lib.decDigits,dif_pos (by omega)]at this;injection this with this _;exact(k1 this.symm).elim
      .exact ba
     rw[SN ⟨by simp,h,aS.2,λbt=>k1 (Option.some.inj bt.1)⟩];rw[if_pos]
     .simp
     .unfold Lib.itoa;rw[if_pos (by omega),show(-(jo (x::t):Int)).natAbs=jo (x::t) by omega,BF.2 (.inl k1)]
   .rw[if_neg aS,KU aS];exact⟨by simp[BE,Lib.parseUintB],rfl⟩
  .have gF:¬((c::r).head? =some 45):=λe=>KV (Option.some.inj e);rw[if_neg gF]at h⊢;have Ky:c.toNat≠45:=λe=>KV (UInt8.toNat_inj.1 (by rw[show(45:UInt8).toNat=45 from rfl];exact e));have sE:(2:Nat)^(64-1)=9223372036854775808:=by decide
   by_cases SO:c.toNat=43
   .simp only[Lib.parseIntB,SO,true_or,if_true];have SP:r.length<=18:=by simp at h;omega
    rw[KT r SP];have lU:mN 0 (c::r)=(0,false):=KU λbt=>by
     have:=bt.2;simp only[List.all_cons,Bool.and_eq_true]at this;have:=this.1;simp only[fW,Bool.and_eq_true,decide_eq_true_eq]at this;omega
    rw[lU];by_cases aS:r≠[]/\r.all fW=true
    .rw[if_pos aS];have e6:=KS r aS.2 SP;simp only[show¬((43:Nat)=45)from by decide,not_false_eq_true,true_and,false_and,if_false,sE];rw[if_neg (by omega)];refine⟨by simp,?_⟩;simp only;rw[if_neg];intro an;unfold Lib.itoa at an;rw[if_neg (by omega),Int.toNat_natCast]at an;obtain⟨sL,Ja,hz,gw,_⟩:=KR (jo r);rw[hz]at an;injection an with an _;rw[an]at gw;simp only[fW,Bool.and_eq_true,decide_eq_true_eq]at gw;omega
    .rw[if_neg aS];exact⟨by simp[BE,Lib.parseUintB],rfl⟩
   .simp only[Lib.parseIntB,SO,Ky,or_self,if_false];rw[KT (c::r) h];by_cases aS:(c::r)≠[]/\(c::r).all fW=true
    .rw[if_pos aS];have e6:=KS (c::r) aS.2 h;simp only[not_false_eq_true,true_and,false_and,if_false,sE];rw[if_neg (by omega)];refine⟨by simp,?_⟩;simp only;have BF:=SL c r aS.2;have aFy:Lib.itoa (jo (c::r):Int)=Lib.decDigits (jo (c::r)):=by
      unfold Lib.itoa;rw[if_neg (by omega),Int.toNat_natCast]
     rw[aFy];by_cases BG:c≠48\/r=[]
     .rw[if_pos (BF.2 BG),SN ⟨by simp,h,aS.2,λbt=>by
       rcases BG with ag|ag
       .exact ag (Option.some.inj bt.1)
       .subst ag;simp at bt⟩]
      simp
     .have k1:c=48:=by
       by_cases q:c=48
       .exact q
       .exact(BG (.inl q)).elim
      have dL:r≠[]:=λq=>BG (.inr q);rw[if_neg (λbt=>BG (BF.1 bt)),SM (by rw[k1];rfl) (by
       cases r with
       |nil=>exact(dL rfl).elim
       |cons x t=>simp)]
    .rw[if_neg aS,KU aS];exact⟨by simp[BE,Lib.parseUintB],rfl⟩
end Go.eU
