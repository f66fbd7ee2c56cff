/- Part of a proof that a law returns true for every input. No condition. -/
import Derived.Test.YtipllbfpaepajaaGreatDoorUH2
namespace Go.e3
open Go Go.b9
theorem X6:∀d:Fin 10,IntKind.i64.wrap (IntKind.u8.wrap (((48+d.val:Nat):Int)-48))=((d.val:Nat):Int):=by decide
theorem u8_in:∀c:UInt8,dv c=true→IntKind.i64.wrap (IntKind.u8.wrap ((c.toNat:Int)-48))=((c.toNat-48:Nat):Int):=by
 intro c h
 simp only[dv,Bool.and_eq_true,decide_eq_true_eq]at h
 have:=X6 ⟨c.toNat-48,by omega⟩
 simp only at this
 rwa [show 48+(c.toNat-48)=c.toNat by omega]at this
theorem X7 (c:UInt8):rl c=some (dv c):=by
 unfold rl dv
 congr 2
 ·rw[decide_eq_decide];omega
 ·rw[decide_eq_decide];omega
def gP (n:Nat) (d:List UInt8):Nat:=d.foldl (fun n c=>10*n+(c.toNat-48)) n
theorem F9:∀(d:List UInt8) (n k:Nat),d.all dv=true→n<10^k→gP n d<10^(k+d.length)
 |[],n,k,_,h=>by simpa [gP]using h
 |c::r,n,k,ae,h=>by
  simp only[List.all_cons,Bool.and_eq_true]at ae
  have ai:=ae.1
  simp only[dv,Bool.and_eq_true,decide_eq_true_eq]at ai
  have:=F9 r (10*n+(c.toNat-48)) (k+1) ae.2 (by rw[Nat.pow_succ];omega)
  rw[List.length_cons,show k+(r.length+1)=k+1+r.length by omega]
  exact this
theorem F_ (s:List UInt8) (a:Int) (U:s.length≤1048576):∀(d:List UInt8) (i n k:Nat),s.drop i=d→i≤s.length→n<10^k→k+d.length≤18→∀m,d.length<m→
  lV s a m (n:Int) (i:Int)=some (if d.all dv=true then(if a=1 then-(gP n d:Int)else gP n d,true)else(0,false))
 |[],i,n,k,ae,aA,aW,ar,m,hm=>by
  obtain⟨m,rfl⟩:∃j,m=j+1:=⟨m-1,by simp at hm;omega⟩
  have X8:i=s.length:=by
   have:=congrArg List.length ae
   rw[List.length_drop]at this
   simp at this;omega
  subst X8
  have mg:n<10^18:=Nat.lt_of_lt_of_le aW (Nat.pow_le_pow_right (by omega) (by simpa using ar))
  simp only[lV,tj,ti]
  rw[ji (Nat.le_refl _),cond_false]
  by_cases bQ:a=1
  ·subst bQ
   simp only[BEq.rfl,cond_true]
   rw[dn _ (by omega)]
   simp[gP]
  ·have:(a==1)=false:=by simpa using bQ
   rw[this,cond_false]
   simp[gP,bQ]
 |c::r,i,n,k,ae,aA,aW,ar,m,hm=>by
  obtain⟨m,rfl⟩:∃j,m=j+1:=⟨m-1,by simp at hm;omega⟩
  have ub:i<s.length:=by
   have:=congrArg List.length ae
   rw[List.length_drop]at this
   simp at this;omega
  rw[drop_cons s i ub]at ae
  injection ae with aa ad
  simp only[List.length_cons]at ar hm
  have mg:n<10^17:=Nat.lt_of_lt_of_le aW (Nat.pow_le_pow_right (by omega) (by omega))
  simp only[lV,tj]
  rw[jh ub,cond_true,gE s i ub,Option.bind_some,aa,X7,Option.bind_some,List.all_cons]
  cases ai:dv c
  ·simp
  ·have r0:=ai
   simp only[dv,Bool.and_eq_true,decide_eq_true_eq]at r0
   simp only[Bool.not_true,cond_false,Bool.true_and]
   rw[u8_in c ai,dn (10*(n:Int)) (by omega),dn _ (by omega),iR i s.length ub (by omega),show(10*(n:Int)+((c.toNat-48:Nat):Int))=((10*n+(c.toNat-48):Nat):Int) by omega]
   exact F_ s a U r (i+1) (10*n+(c.toNat-48)) (k+1) ad ub (by rw[Nat.pow_succ];omega) (by omega) m (by omega)
theorem Ah (s:List UInt8) (k:Nat) (U:s.length≤1048576) (ar:k≤1) (aJ:k≤s.length):rr s (k:Int)=some (jb k (s.drop k)):=by
 unfold rr jb
 by_cases bz:s.length=k
 ·have e:((s.length:Int)==(k:Int))=true:=by simp;omega
  rw[e,cond_true,List.drop_of_length_le (by omega)]
  simp
 have e:((s.length:Int)==(k:Int))=false:=by simp;omega
 rw[e,cond_false,dn _ (by omega)]
 have Ga:(s.drop k).length=s.length-k:=List.length_drop
 have cB:s.drop k≠[]:=by
  intro h
  rw[h]at Ga
  simp at Ga;omega
 by_cases aa:18<s.length-k
 ·have e:decide (18<(s.length:Int)-(k:Int))=true:=by simp;omega
  rw[e,cond_true,if_neg (by intro h;omega)]
 have e:decide (18<(s.length:Int)-(k:Int))=false:=by simp;omega
 have tc:k<s.length:=by omega
 rw[e,cond_false,gE s k tc,Option.bind_some]
 have fb:(s.drop k).head? =some s[k]:=by rw[drop_cons s k tc];rfl
 have Gb:en (fun n=>lV s (k:Int) n 0 (k:Int))=some (if(s.drop k).all dv=true then(if(k:Int)=1 then-(gP 0 (s.drop k):Int)else gP 0 (s.drop k),true)else(0,false)):=by
  refine ki (s.length+1) fun m hm=> ?_
  exact F_ s (k:Int) U (s.drop k) k 0 0 rfl aJ (by omega) (by omega) m (by omega)
 have aE:fQ (s.drop k)=gP 0 (s.drop k):=rfl
 have vf:((k:Int)=1)=(k=1):=by apply propext;omega
 simp only[vf]at Gb
 rw[Gb,fb,aE]
 by_cases hn:s[k]=48
 ·have e:((s[k].toNat:Int)==48)=true:=by rw[hn];rfl
  rw[e,cond_true]
  by_cases ad:1<s.length
  ·have e:decide ((1:Int)<(s.length:Int))=true:=by simp;omega
   rw[e,cond_true,if_neg (by intro h;exact h.2.2.2 ⟨by rw[hn],by omega⟩)]
  ·have e:decide ((1:Int)<(s.length:Int))=false:=by simp;omega
   rw[e,cond_false]
   by_cases bQ:(s.drop k).all dv=true
   ·rw[if_pos bQ,if_pos (show s.drop k≠[]∧(s.drop k).length≤18∧(s.drop k).all dv=true∧¬(some s[k]=some 48∧1<(s.drop k).length+k)from⟨cB,by omega,bQ,by rintro⟨_,h⟩;omega⟩)]
   ·rw[if_neg bQ,if_neg (fun h=>bQ h.2.2.1)]
 ·have e:((s[k].toNat:Int)==48)=false:=by
   simp only[beq_eq_false_iff_ne,ne_eq]
   intro h
   exact hn (UInt8.toNat_inj.1 (by rw[show(48:UInt8).toNat=48 from rfl];omega))
  rw[e,cond_false]
  by_cases bQ:(s.drop k).all dv=true
  ·rw[if_pos bQ,if_pos (show s.drop k≠[]∧(s.drop k).length≤18∧(s.drop k).all dv=true∧¬(some s[k]=some 48∧1<(s.drop k).length+k)from⟨cB,by omega,bQ,by rintro⟨h,_⟩;exact hn (Option.some.inj h)⟩)]
  ·rw[if_neg bQ,if_neg (fun h=>bQ h.2.2.1)]
theorem X9 (s:List UInt8) (U:s.length≤1048576):vu s=some (fu s):=by
 unfold vu fu
 cases s with
 |nil=>exact Ah [] 0 (by simp) (by omega) (by simp)
 |cons c r=>
  rw[show decide ((0:Int)<(((c::r).length:Nat):Int))=true from wI (by simp),cond_true,wL,Option.bind_some]
  by_cases h:c=45
  ·subst h
   have e:(((45:UInt8).toNat:Int)==45)=true:=rfl
   rw[e,cond_true,if_pos (show(45::r).head? =some 45 from rfl)]
   exact Ah (45::r) 1 U (by omega) (by simp)
  ·have e:((c.toNat:Int)==45)=false:=by
    simp only[beq_eq_false_iff_ne,ne_eq]
    intro aQ
    exact h (UInt8.toNat_inj.1 (by rw[show(45:UInt8).toNat=45 from rfl];omega))
   rw[e,cond_false,if_neg (by intro aQ;exact h (Option.some.inj aQ))]
   exact Ah (c::r) 0 U (by omega) (by simp)
theorem uc:∀c:UInt8,dv c=true→UInt8.ofNat (48+(c.toNat-48))=c:=by
 intro c h
 simp only[dv,Bool.and_eq_true,decide_eq_true_eq]at h
 rw[show 48+(c.toNat-48)=c.toNat by omega]
 exact UInt8.ofNat_toNat
theorem X_ {w:List UInt8} {v:Int} (h:fu w=(v,true)) (bz:0≤v) (aa:v≤63):w=lp v.toNat:=by
 unfold fu at h
 split at h
 ·rename_i fb
  unfold jb at h
  split at h
  ·rename_i ai
   obtain⟨bN,c2,c3,c4⟩:=ai
   exfalso
   simp only[if_pos,Prod.mk.injEq,and_true]at h
   cases hw:w.tail with
   |nil=>exact bN hw
   |cons c r=>
    rw[hw]at c3 c4 h
    simp only[List.all_cons,Bool.and_eq_true]at c3
    have ai:=c3.1
    simp only[dv,Bool.and_eq_true,decide_eq_true_eq]at ai
    have hn:c≠48:=fun e=>c4 ⟨by rw[e];rfl,by simp⟩
    have yM:1≤c.toNat-48:=by
     rcases Nat.lt_or_ge 48 c.toNat with h|h
     ·omega
     ·exact(hn (UInt8.toNat_inj.1 (by rw[show(48:UInt8).toNat=48 from rfl];omega))).elim
    have mono:∀(d:List UInt8) (n:Nat),1≤n→1≤gP n d:=by
     intro d
     induction d with
     |nil=>intro n h;exact h
     |cons x d ih=>intro n h;exact ih (10*n+(x.toNat-48)) (by omega)
    have:1≤fQ (c::r):=mono r (10*0+(c.toNat-48)) (by omega)
    omega
  ·cases h
 ·unfold jb at h
  split at h
  ·rename_i ai
   obtain⟨bN,c2,c3,c4⟩:=ai
   simp only[show(0:Nat)≠1 from by decide,if_false,Prod.mk.injEq,and_true]at h
   subst h
   have mono:∀(d:List UInt8) (n:Nat),n≤gP n d:=by
    intro d
    induction d with
    |nil=>intro n;exact Nat.le_refl _
    |cons x d ih=>intro n;exact Nat.le_trans (by omega) (ih (10*n+(x.toNat-48)))
   match w,bN,c3,c4 with
   |[a],_,c3,_=>
    simp only[List.all_cons,List.all_nil,Bool.and_true]at c3
    have e:fQ [a]=a.toNat-48:=by simp[fQ]
    have ae:=uc a c3
    simp only[dv,Bool.and_eq_true,decide_eq_true_eq]at c3
    rw[e,Int.toNat_natCast,lp,if_pos (by omega),ae]
   |a::b::r,_,c3,c4=>
    simp only[List.all_cons,Bool.and_eq_true]at c3
    have bQ:=c3.1;have R:=c3.2.1
    have Ya:=uc a bQ;have Yb:=uc b R
    simp only[dv,Bool.and_eq_true,decide_eq_true_eq]at bQ R
    have hn:a≠48:=fun e=>c4 ⟨by rw[e];rfl,by simp⟩
    have yM:1≤a.toNat-48:=by
     rcases Nat.lt_or_ge 48 a.toNat with h|h
     ·omega
     ·exact(hn (UInt8.toNat_inj.1 (by rw[show(48:UInt8).toNat=48 from rfl];omega))).elim
    have e:fQ (a::b::r)=gP (10*(10*0+(a.toNat-48))+(b.toNat-48)) r:=rfl
    cases r with
    |nil=>
     have aI:fQ [a,b]=10*(a.toNat-48)+(b.toNat-48):=by simp[fQ]
     rw[aI,Int.toNat_natCast,lp,if_neg (by omega)]
     rw[show(10*(a.toNat-48)+(b.toNat-48))/10=a.toNat-48 by omega,show(10*(a.toNat-48)+(b.toNat-48))%10=b.toNat-48 by omega,Ya,Yb]
    |cons x r=>
     exfalso
     have:=mono r (10*(10*(10*0+(a.toNat-48))+(b.toNat-48))+(x.toNat-48))
     have aL:fQ (a::b::x::r)=gP (10*(10*(10*0+(a.toNat-48))+(b.toNat-48))+(x.toNat-48)) r:=rfl
     omega
  ·cases h
end Go.e3
