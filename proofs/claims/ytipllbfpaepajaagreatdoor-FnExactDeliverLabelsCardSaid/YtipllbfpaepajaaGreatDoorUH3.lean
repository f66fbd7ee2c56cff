/- Part of a proof that a law returns true for every input. No condition. -/
import Derived.Test.YtipllbfpaepajaaGreatDoorUH2
namespace Go.ff
open Go Go.ca
theorem aaC:∀d:Fin 10,IntKind.i64.wrap (IntKind.u8.wrap (((48+d.val:Nat):Int)-48))=((d.val:Nat):Int):=by decide
theorem u8_in:∀c:UInt8,dF c=true→IntKind.i64.wrap (IntKind.u8.wrap ((c.toNat:Int)-48))=((c.toNat-48:Nat):Int):=by
 intro c h
 simp only[dF,Bool.and_eq_true,decide_eq_true_eq]at h
 have:=aaC ⟨c.toNat-48,by omega⟩
 simp only at this
 rwa [show 48+(c.toNat-48)=c.toNat by omega]at this
theorem aaD (c:UInt8):rT c=some (dF c):=by
 unfold rT dF
 congr 2
 ·rw[decide_eq_decide];omega
 ·rw[decide_eq_decide];omega
def hi (n:Nat) (d:List UInt8):Nat:=d.foldl (fun n c=>10*n+(c.toNat-48)) n
theorem Hb:∀(d:List UInt8) (n k:Nat),d.all dF=true→n<10^k→hi n d<10^(k+d.length)
 |[],n,k,_,h=>by simpa [hi]using h
 |c::r,n,k,ae,h=>by
  simp only[List.all_cons,Bool.and_eq_true]at ae
  have ai:=ae.1
  simp only[dF,Bool.and_eq_true,decide_eq_true_eq]at ai
  have:=Hb r (10*n+(c.toNat-48)) (k+1) ae.2 (by rw[Nat.pow_succ];omega)
  rw[List.length_cons,show k+(r.length+1)=k+1+r.length by omega]
  exact this
theorem Hc (s:List UInt8) (a:Int) (U:s.length≤1048576):∀(d:List UInt8) (i n k:Nat),s.drop i=d→i≤s.length→n<10^k→k+d.length≤18→∀m,d.length<m→
  mx s a m (n:Int) (i:Int)=some (if d.all dF=true then(if a=1 then-(hi n d:Int)else hi n d,true)else(0,false))
 |[],i,n,k,ae,aA,aW,al,m,hm=>by
  obtain⟨m,rfl⟩:∃j,m=j+1:=⟨m-1,by simp at hm;omega⟩
  have aaE:i=s.length:=by
   have:=congrArg List.length ae
   rw[List.length_drop]at this
   simp at this;omega
  subst aaE
  have mT:n<10^18:=Nat.lt_of_lt_of_le aW (Nat.pow_le_pow_right (by omega) (by simpa using al))
  simp only[mx,tR,tQ]
  rw[im (Nat.le_refl _),cond_false]
  by_cases bT:a=1
  ·subst bT
   simp only[BEq.rfl,cond_true]
   rw[dq _ (by omega)]
   simp[hi]
  ·have:(a==1)=false:=by simpa using bT
   rw[this,cond_false]
   simp[hi,bT]
 |c::r,i,n,k,ae,aA,aW,al,m,hm=>by
  obtain⟨m,rfl⟩:∃j,m=j+1:=⟨m-1,by simp at hm;omega⟩
  have uS:i<s.length:=by
   have:=congrArg List.length ae
   rw[List.length_drop]at this
   simp at this;omega
  rw[drop_cons s i uS]at ae
  injection ae with ab ad
  simp only[List.length_cons]at al hm
  have mT:n<10^17:=Nat.lt_of_lt_of_le aW (Nat.pow_le_pow_right (by omega) (by omega))
  simp only[mx,tR]
  rw[jJ uS,cond_true,gJ s i uS,Option.bind_some,ab,aaD,Option.bind_some,List.all_cons]
  cases ai:dF c
  ·simp
  ·have sx:=ai
   simp only[dF,Bool.and_eq_true,decide_eq_true_eq]at sx
   simp only[Bool.not_true,cond_false,Bool.true_and]
   rw[u8_in c ai,dq (10*(n:Int)) (by omega),dq _ (by omega),jo i s.length uS (by omega),show(10*(n:Int)+((c.toNat-48:Nat):Int))=((10*n+(c.toNat-48):Nat):Int) by omega]
   exact Hc s a U r (i+1) (10*n+(c.toNat-48)) (k+1) ad uS (by rw[Nat.pow_succ];omega) (by omega) m (by omega)
theorem A2 (s:List UInt8) (k:Nat) (U:s.length≤1048576) (al:k≤1) (hl:k≤s.length):rY s (k:Int)=some (jE k (s.drop k)):=by
 unfold rY jE
 by_cases bm:s.length=k
 ·have e:((s.length:Int)==(k:Int))=true:=by simp;omega
  rw[e,cond_true,List.drop_of_length_le (by omega)]
  simp
 have e:((s.length:Int)==(k:Int))=false:=by simp;omega
 rw[e,cond_false,dq _ (by omega)]
 have Hd:(s.drop k).length=s.length-k:=List.length_drop
 have cI:s.drop k≠[]:=by
  intro h
  rw[h]at Hd
  simp at Hd;omega
 by_cases ab:18<s.length-k
 ·have e:decide (18<(s.length:Int)-(k:Int))=true:=by simp;omega
  rw[e,cond_true,if_neg (by intro h;omega)]
 have e:decide (18<(s.length:Int)-(k:Int))=false:=by simp;omega
 have tI:k<s.length:=by omega
 rw[e,cond_false,gJ s k tI,Option.bind_some]
 have fu:(s.drop k).head? =some s[k]:=by rw[drop_cons s k tI];rfl
 have He:dG (fun n=>mx s (k:Int) n 0 (k:Int))=some (if(s.drop k).all dF=true then(if(k:Int)=1 then-(hi 0 (s.drop k):Int)else hi 0 (s.drop k),true)else(0,false)):=by
  refine iQ (s.length+1) fun m hm=> ?_
  exact Hc s (k:Int) U (s.drop k) k 0 0 rfl hl (by omega) (by omega) m (by omega)
 have aG:gk (s.drop k)=hi 0 (s.drop k):=rfl
 have vW:((k:Int)=1)=(k=1):=by apply propext;omega
 simp only[vW]at He
 rw[He,fu,aG]
 by_cases hK:s[k]=48
 ·have e:((s[k].toNat:Int)==48)=true:=by rw[hK];rfl
  rw[e,cond_true]
  by_cases ad:1<s.length
  ·have e:decide ((1:Int)<(s.length:Int))=true:=by simp;omega
   rw[e,cond_true,if_neg (by intro h;exact h.2.2.2 ⟨by rw[hK],by omega⟩)]
  ·have e:decide ((1:Int)<(s.length:Int))=false:=by simp;omega
   rw[e,cond_false]
   by_cases bT:(s.drop k).all dF=true
   ·rw[if_pos bT,if_pos (show s.drop k≠[]∧(s.drop k).length≤18∧(s.drop k).all dF=true∧¬(some s[k]=some 48∧1<(s.drop k).length+k)from⟨cI,by omega,bT,by rintro⟨_,h⟩;omega⟩)]
   ·rw[if_neg bT,if_neg (fun h=>bT h.2.2.1)]
 ·have e:((s[k].toNat:Int)==48)=false:=by
   simp only[beq_eq_false_iff_ne,ne_eq]
   intro h
   exact hK (UInt8.toNat_inj.1 (by rw[show(48:UInt8).toNat=48 from rfl];omega))
  rw[e,cond_false]
  by_cases bT:(s.drop k).all dF=true
  ·rw[if_pos bT,if_pos (show s.drop k≠[]∧(s.drop k).length≤18∧(s.drop k).all dF=true∧¬(some s[k]=some 48∧1<(s.drop k).length+k)from⟨cI,by omega,bT,by rintro⟨h,_⟩;exact hK (Option.some.inj h)⟩)]
  ·rw[if_neg bT,if_neg (fun h=>bT h.2.2.1)]
theorem aaF (s:List UInt8) (U:s.length≤1048576):wh s=some (fL s):=by
 unfold wh fL
 cases s with
 |nil=>exact A2 [] 0 (by simp) (by omega) (by simp)
 |cons c r=>
  rw[show decide ((0:Int)<(((c::r).length:Nat):Int))=true from xt (by simp),cond_true,xw,Option.bind_some]
  by_cases h:c=45
  ·subst h
   have e:(((45:UInt8).toNat:Int)==45)=true:=rfl
   rw[e,cond_true,if_pos (show(45::r).head? =some 45 from rfl)]
   exact A2 (45::r) 1 U (by omega) (by simp)
  ·have e:((c.toNat:Int)==45)=false:=by
    simp only[beq_eq_false_iff_ne,ne_eq]
    intro aS
    exact h (UInt8.toNat_inj.1 (by rw[show(45:UInt8).toNat=45 from rfl];omega))
   rw[e,cond_false,if_neg (by intro aS;exact h (Option.some.inj aS))]
   exact A2 (c::r) 0 U (by omega) (by simp)
theorem uT:∀c:UInt8,dF c=true→UInt8.ofNat (48+(c.toNat-48))=c:=by
 intro c h
 simp only[dF,Bool.and_eq_true,decide_eq_true_eq]at h
 rw[show 48+(c.toNat-48)=c.toNat by omega]
 exact UInt8.ofNat_toNat
theorem aaG {w:List UInt8} {v:Int} (h:fL w=(v,true)) (bm:0≤v) (ab:v≤63):w=l4 v.toNat:=by
 unfold fL at h
 split at h
 ·rename_i fu
  unfold jE at h
  split at h
  ·rename_i ai
   obtain⟨bJ,c2,c3,c4⟩:=ai
   exfalso
   simp only[if_pos,Prod.mk.injEq,and_true]at h
   cases hw:w.tail with
   |nil=>exact bJ hw
   |cons c r=>
    rw[hw]at c3 c4 h
    simp only[List.all_cons,Bool.and_eq_true]at c3
    have ai:=c3.1
    simp only[dF,Bool.and_eq_true,decide_eq_true_eq]at ai
    have hK:c≠48:=fun e=>c4 ⟨by rw[e];rfl,by simp⟩
    have zr:1≤c.toNat-48:=by
     rcases Nat.lt_or_ge 48 c.toNat with h|h
     ·omega
     ·exact(hK (UInt8.toNat_inj.1 (by rw[show(48:UInt8).toNat=48 from rfl];omega))).elim
    have mono:∀(d:List UInt8) (n:Nat),1≤n→1≤hi n d:=by
     intro d
     induction d with
     |nil=>intro n h;exact h
     |cons x d ih=>intro n h;exact ih (10*n+(x.toNat-48)) (by omega)
    have:1≤gk (c::r):=mono r (10*0+(c.toNat-48)) (by omega)
    omega
  ·cases h
 ·unfold jE at h
  split at h
  ·rename_i ai
   obtain⟨bJ,c2,c3,c4⟩:=ai
   simp only[show(0:Nat)≠1 from by decide,if_false,Prod.mk.injEq,and_true]at h
   subst h
   have mono:∀(d:List UInt8) (n:Nat),n≤hi n d:=by
    intro d
    induction d with
    |nil=>intro n;exact Nat.le_refl _
    |cons x d ih=>intro n;exact Nat.le_trans (by omega) (ih (10*n+(x.toNat-48)))
   match w,bJ,c3,c4 with
   |[a],_,c3,_=>
    simp only[List.all_cons,List.all_nil,Bool.and_true]at c3
    have e:gk [a]=a.toNat-48:=by simp[gk]
    have ae:=uT a c3
    simp only[dF,Bool.and_eq_true,decide_eq_true_eq]at c3
    rw[e,Int.toNat_natCast,l4,if_pos (by omega),ae]
   |a::b::r,_,c3,c4=>
    simp only[List.all_cons,Bool.and_eq_true]at c3
    have bT:=c3.1;have R:=c3.2.1
    have aaH:=uT a bT;have aaI:=uT b R
    simp only[dF,Bool.and_eq_true,decide_eq_true_eq]at bT R
    have hK:a≠48:=fun e=>c4 ⟨by rw[e];rfl,by simp⟩
    have zr:1≤a.toNat-48:=by
     rcases Nat.lt_or_ge 48 a.toNat with h|h
     ·omega
     ·exact(hK (UInt8.toNat_inj.1 (by rw[show(48:UInt8).toNat=48 from rfl];omega))).elim
    have e:gk (a::b::r)=hi (10*(10*0+(a.toNat-48))+(b.toNat-48)) r:=rfl
    cases r with
    |nil=>
     have aJ:gk [a,b]=10*(a.toNat-48)+(b.toNat-48):=by simp[gk]
     rw[aJ,Int.toNat_natCast,l4,if_neg (by omega)]
     rw[show(10*(a.toNat-48)+(b.toNat-48))/10=a.toNat-48 by omega,show(10*(a.toNat-48)+(b.toNat-48))%10=b.toNat-48 by omega,aaH,aaI]
    |cons x r=>
     exfalso
     have:=mono r (10*(10*(10*0+(a.toNat-48))+(b.toNat-48))+(x.toNat-48))
     have aK:gk (a::b::x::r)=hi (10*(10*(10*0+(a.toNat-48))+(b.toNat-48))+(x.toNat-48)) r:=rfl
     omega
  ·cases h
end Go.ff
