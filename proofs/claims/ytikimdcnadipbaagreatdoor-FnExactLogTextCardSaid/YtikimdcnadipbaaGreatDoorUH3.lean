/- Part of a proof that a law returns true for every input. No condition. -/
import Derived.Test.YtikimdcnadipbaaGreatDoorUH2
namespace Go.eL
open Go Go.bZ
theorem XA:∀d:Fin 10,IntKind.i64.wrap (IntKind.u8.wrap (((48+d.val:Nat):Int)-48))=((d.val:Nat):Int):=by decide
theorem u8_in:∀c:UInt8,dA c=true→IntKind.i64.wrap (IntKind.u8.wrap ((c.toNat:Int)-48))=((c.toNat-48:Nat):Int):=by
 intro c h
 simp only[dA,Bool.and_eq_true,decide_eq_true_eq]at h
 have:=XA ⟨c.toNat-48,by omega⟩
 simp only at this
 rwa [show 48+(c.toNat-48)=c.toNat by omega]at this
theorem XB (c:UInt8):q7 c=some (dA c):=by
 unfold q7 dA
 congr 2
 ·rw[decide_eq_decide];omega
 ·rw[decide_eq_decide];omega
def gG (n:Nat) (d:List UInt8):Nat:=d.foldl (fun n c=>10*n+(c.toNat-48)) n
theorem F3:∀(d:List UInt8) (n k:Nat),d.all dA=true→n<10^k→gG n d<10^(k+d.length)
 |[],n,k,_,h=>by simpa [gG]using h
 |c::r,n,k,ae,h=>by
  simp only[List.all_cons,Bool.and_eq_true]at ae
  have af:=ae.1
  simp only[dA,Bool.and_eq_true,decide_eq_true_eq]at af
  have:=F3 r (10*n+(c.toNat-48)) (k+1) ae.2 (by rw[Nat.pow_succ];omega)
  rw[List.length_cons,show k+(r.length+1)=k+1+r.length by omega]
  exact this
theorem F4 (s:List UInt8) (a:Int) (U:s.length≤1048576):∀(d:List UInt8) (i n k:Nat),s.drop i=d→i≤s.length→n<10^k→k+d.length≤18→∀m,d.length<m→
  lO s a m (n:Int) (i:Int)=some (if d.all dA=true then(if a=1 then-(gG n d:Int)else gG n d,true)else(0,false))
 |[],i,n,k,ae,ay,aQ,al,m,hm=>by
  obtain⟨m,rfl⟩:∃j,m=j+1:=⟨m-1,by simp at hm;omega⟩
  have XC:i=s.length:=by
   have:=congrArg List.length ae
   rw[List.length_drop]at this
   simp at this;omega
  subst XC
  have iN:n<10^18:=Nat.lt_of_lt_of_le aQ (Nat.pow_le_pow_right (by omega) (by simpa using al))
  simp only[lO,s_,s9]
  rw[je (Nat.le_refl _),cond_false]
  by_cases br:a=1
  ·subst br
   simp only[BEq.rfl,cond_true]
   rw[eO _ (by omega)]
   simp[gG]
  ·have:(a==1)=false:=by simpa using br
   rw[this,cond_false]
   simp[gG,br]
 |c::r,i,n,k,ae,ay,aQ,al,m,hm=>by
  obtain⟨m,rfl⟩:∃j,m=j+1:=⟨m-1,by simp at hm;omega⟩
  have tN:i<s.length:=by
   have:=congrArg List.length ae
   rw[List.length_drop]at this
   simp at this;omega
  rw[drop_cons s i tN]at ae
  injection ae with aa ab
  simp only[List.length_cons]at al hm
  have iN:n<10^17:=Nat.lt_of_lt_of_le aQ (Nat.pow_le_pow_right (by omega) (by omega))
  simp only[lO,s_]
  rw[jd tN,cond_true,gP s i tN,Option.bind_some,aa,XB,Option.bind_some,List.all_cons]
  cases af:dA c
  ·simp
  ·have rJ:=af
   simp only[dA,Bool.and_eq_true,decide_eq_true_eq]at rJ
   simp only[Bool.not_true,cond_false,Bool.true_and]
   rw[u8_in c af,eO (10*(n:Int)) (by omega),eO _ (by omega),iH i s.length tN (by omega),show(10*(n:Int)+((c.toNat-48:Nat):Int))=((10*n+(c.toNat-48):Nat):Int) by omega]
   exact F4 s a U r (i+1) (10*n+(c.toNat-48)) (k+1) ab tN (by rw[Nat.pow_succ];omega) (by omega) m (by omega)
theorem zZ (s:List UInt8) (k:Nat) (U:s.length≤1048576) (al:k≤1) (aI:k≤s.length):re s (k:Int)=some (iY k (s.drop k)):=by
 unfold re iY
 by_cases bl:s.length=k
 ·have e:((s.length:Int)==(k:Int))=true:=by simp;omega
  rw[e,cond_true,List.drop_of_length_le (by omega)]
  simp
 have e:((s.length:Int)==(k:Int))=false:=by simp;omega
 rw[e,cond_false,eO _ (by omega)]
 have F5:(s.drop k).length=s.length-k:=List.length_drop
 have cj:s.drop k≠[]:=by
  intro h
  rw[h]at F5
  simp at F5;omega
 by_cases aa:18<s.length-k
 ·have e:decide (18<(s.length:Int)-(k:Int))=true:=by simp;omega
  rw[e,cond_true,if_neg (by intro h;omega)]
 have e:decide (18<(s.length:Int)-(k:Int))=false:=by simp;omega
 have sW:k<s.length:=by omega
 rw[e,cond_false,gP s k sW,Option.bind_some]
 have fs:(s.drop k).head? =some s[k]:=by rw[drop_cons s k sW];rfl
 have F6:dT (fun n=>lO s (k:Int) n 0 (k:Int))=some (if(s.drop k).all dA=true then(if(k:Int)=1 then-(gG 0 (s.drop k):Int)else gG 0 (s.drop k),true)else(0,false)):=by
  refine hM (s.length+1) fun m hm=> ?_
  exact F4 s (k:Int) U (s.drop k) k 0 0 rfl aI (by omega) (by omega) m (by omega)
 have aD:fJ (s.drop k)=gG 0 (s.drop k):=rfl
 have q0:((k:Int)=1)=(k=1):=by apply propext;omega
 simp only[q0]at F6
 rw[F6,fs,aD]
 by_cases hh:s[k]=48
 ·have e:((s[k].toNat:Int)==48)=true:=by rw[hh];rfl
  rw[e,cond_true]
  by_cases ab:1<s.length
  ·have e:decide ((1:Int)<(s.length:Int))=true:=by simp;omega
   rw[e,cond_true,if_neg (by intro h;exact h.2.2.2 ⟨by rw[hh],by omega⟩)]
  ·have e:decide ((1:Int)<(s.length:Int))=false:=by simp;omega
   rw[e,cond_false]
   by_cases br:(s.drop k).all dA=true
   ·rw[if_pos br,if_pos (show s.drop k≠[]∧(s.drop k).length≤18∧(s.drop k).all dA=true∧¬(some s[k]=some 48∧1<(s.drop k).length+k)from⟨cj,by omega,br,by rintro⟨_,h⟩;omega⟩)]
   ·rw[if_neg br,if_neg (fun h=>br h.2.2.1)]
 ·have e:((s[k].toNat:Int)==48)=false:=by
   simp only[beq_eq_false_iff_ne,ne_eq]
   intro h
   exact hh (UInt8.toNat_inj.1 (by rw[show(48:UInt8).toNat=48 from rfl];omega))
  rw[e,cond_false]
  by_cases br:(s.drop k).all dA=true
  ·rw[if_pos br,if_pos (show s.drop k≠[]∧(s.drop k).length≤18∧(s.drop k).all dA=true∧¬(some s[k]=some 48∧1<(s.drop k).length+k)from⟨cj,by omega,br,by rintro⟨h,_⟩;exact hh (Option.some.inj h)⟩)]
  ·rw[if_neg br,if_neg (fun h=>br h.2.2.1)]
theorem XD (s:List UInt8) (U:s.length≤1048576):vl s=some (fm s):=by
 unfold vl fm
 cases s with
 |nil=>exact zZ [] 0 (by simp) (by omega) (by simp)
 |cons c r=>
  rw[show decide ((0:Int)<(((c::r).length:Nat):Int))=true from wy (by simp),cond_true,wB,Option.bind_some]
  by_cases h:c=45
  ·subst h
   have e:(((45:UInt8).toNat:Int)==45)=true:=rfl
   rw[e,cond_true,if_pos (show(45::r).head? =some 45 from rfl)]
   exact zZ (45::r) 1 U (by omega) (by simp)
  ·have e:((c.toNat:Int)==45)=false:=by
    simp only[beq_eq_false_iff_ne,ne_eq]
    intro aT
    exact h (UInt8.toNat_inj.1 (by rw[show(45:UInt8).toNat=45 from rfl];omega))
   rw[e,cond_false,if_neg (by intro aT;exact h (Option.some.inj aT))]
   exact zZ (c::r) 0 U (by omega) (by simp)
theorem tO:∀c:UInt8,dA c=true→UInt8.ofNat (48+(c.toNat-48))=c:=by
 intro c h
 simp only[dA,Bool.and_eq_true,decide_eq_true_eq]at h
 rw[show 48+(c.toNat-48)=c.toNat by omega]
 exact UInt8.ofNat_toNat
theorem XE {w:List UInt8} {v:Int} (h:fm w=(v,true)) (bl:0≤v) (aa:v≤63):w=nM v.toNat:=by
 unfold fm at h
 split at h
 ·rename_i fs
  unfold iY at h
  split at h
  ·rename_i af
   obtain⟨bD,c2,c3,c4⟩:=af
   exfalso
   simp only[if_pos,Prod.mk.injEq,and_true]at h
   cases hw:w.tail with
   |nil=>exact bD hw
   |cons c r=>
    rw[hw]at c3 c4 h
    simp only[List.all_cons,Bool.and_eq_true]at c3
    have af:=c3.1
    simp only[dA,Bool.and_eq_true,decide_eq_true_eq]at af
    have hh:c≠48:=fun e=>c4 ⟨by rw[e];rfl,by simp⟩
    have yB:1≤c.toNat-48:=by
     rcases Nat.lt_or_ge 48 c.toNat with h|h
     ·omega
     ·exact(hh (UInt8.toNat_inj.1 (by rw[show(48:UInt8).toNat=48 from rfl];omega))).elim
    have mono:∀(d:List UInt8) (n:Nat),1≤n→1≤gG n d:=by
     intro d
     induction d with
     |nil=>intro n h;exact h
     |cons x d ih=>intro n h;exact ih (10*n+(x.toNat-48)) (by omega)
    have:1≤fJ (c::r):=mono r (10*0+(c.toNat-48)) (by omega)
    omega
  ·cases h
 ·unfold iY at h
  split at h
  ·rename_i af
   obtain⟨bD,c2,c3,c4⟩:=af
   simp only[show(0:Nat)≠1 from by decide,if_false,Prod.mk.injEq,and_true]at h
   subst h
   have mono:∀(d:List UInt8) (n:Nat),n≤gG n d:=by
    intro d
    induction d with
    |nil=>intro n;exact Nat.le_refl _
    |cons x d ih=>intro n;exact Nat.le_trans (by omega) (ih (10*n+(x.toNat-48)))
   match w,bD,c3,c4 with
   |[a],_,c3,_=>
    simp only[List.all_cons,List.all_nil,Bool.and_true]at c3
    have e:fJ [a]=a.toNat-48:=by simp[fJ]
    have ae:=tO a c3
    simp only[dA,Bool.and_eq_true,decide_eq_true_eq]at c3
    rw[e,Int.toNat_natCast,nM,if_pos (by omega),ae]
   |a::b::r,_,c3,c4=>
    simp only[List.all_cons,Bool.and_eq_true]at c3
    have br:=c3.1;have J:=c3.2.1
    have XF:=tO a br;have XG:=tO b J
    simp only[dA,Bool.and_eq_true,decide_eq_true_eq]at br J
    have hh:a≠48:=fun e=>c4 ⟨by rw[e];rfl,by simp⟩
    have yB:1≤a.toNat-48:=by
     rcases Nat.lt_or_ge 48 a.toNat with h|h
     ·omega
     ·exact(hh (UInt8.toNat_inj.1 (by rw[show(48:UInt8).toNat=48 from rfl];omega))).elim
    have e:fJ (a::b::r)=gG (10*(10*0+(a.toNat-48))+(b.toNat-48)) r:=rfl
    cases r with
    |nil=>
     have aJ:fJ [a,b]=10*(a.toNat-48)+(b.toNat-48):=by simp[fJ]
     rw[aJ,Int.toNat_natCast,nM,if_neg (by omega)]
     rw[show(10*(a.toNat-48)+(b.toNat-48))/10=a.toNat-48 by omega,show(10*(a.toNat-48)+(b.toNat-48))%10=b.toNat-48 by omega,XF,XG]
    |cons x r=>
     exfalso
     have:=mono r (10*(10*(10*0+(a.toNat-48))+(b.toNat-48))+(x.toNat-48))
     have aN:fJ (a::b::x::r)=gG (10*(10*(10*0+(a.toNat-48))+(b.toNat-48))+(x.toNat-48)) r:=rfl
     omega
  ·cases h
end Go.eL
