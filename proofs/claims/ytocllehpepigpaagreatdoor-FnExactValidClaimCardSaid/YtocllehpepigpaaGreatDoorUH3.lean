/- Part of a proof that a law returns true for every input. No condition. -/
import Derived.Test.YtocllehpepigpaaGreatDoorUH2
namespace Go.gB
open Go Go.cI
theorem akR:∀d:Fin 10,IntKind.i64.wrap (IntKind.u8.wrap (((48+d.val:Nat):Int)-48))=((d.val:Nat):Int):=by decide
theorem u8_in:∀c:UInt8,eR c=true→IntKind.i64.wrap (IntKind.u8.wrap ((c.toNat:Int)-48))=((c.toNat-48:Nat):Int):=by
 intro c h
 simp only[eR,Bool.and_eq_true,decide_eq_true_eq]at h
 have:=akR ⟨c.toNat-48,by omega⟩
 simp only at this
 rwa [show 48+(c.toNat-48)=c.toNat by omega]at this
theorem akS (c:UInt8):tm c=some (eR c):=by
 unfold tm eR
 congr 2
 ·rw[decide_eq_decide];omega
 ·rw[decide_eq_decide];omega
def ja (n:Nat) (d:List UInt8):Nat:=d.foldl (fun n c=>10*n+(c.toNat-48)) n
theorem Ku:∀(d:List UInt8) (n k:Nat),d.all eR=true→n<10^k→ja n d<10^(k+d.length)
 |[],n,k,_,h=>by simpa [ja]using h
 |c::r,n,k,ah,h=>by
  simp only[List.all_cons,Bool.and_eq_true]at ah
  have aj:=ah.1
  simp only[eR,Bool.and_eq_true,decide_eq_true_eq]at aj
  have:=Ku r (10*n+(c.toNat-48)) (k+1) ah.2 (by rw[Nat.pow_succ];omega)
  rw[List.length_cons,show k+(r.length+1)=k+1+r.length by omega]
  exact this
theorem Kv (s:List UInt8) (a:Int) (aa:s.length≤1048576):∀(d:List UInt8) (i n k:Nat),s.drop i=d→i≤s.length→n<10^k→k+d.length≤18→∀m,d.length<m→
  od s a m (n:Int) (i:Int)=some (if d.all eR=true then(if a=1 then-(ja n d:Int)else ja n d,true)else(0,false))
 |[],i,n,k,ah,ay,aV,ax,m,hm=>by
  obtain⟨m,rfl⟩:∃j,m=j+1:=⟨m-1,by simp at hm;omega⟩
  have akT:i=s.length:=by
   have:=congrArg List.length ah
   rw[List.length_drop]at this
   simp at this;omega
  subst akT
  have lf:n<10^18:=Nat.lt_of_lt_of_le aV (Nat.pow_le_pow_right (by omega) (by simpa using ax))
  simp only[od,vH,vG]
  rw[iC (Nat.le_refl _),cond_false]
  by_cases cb:a=1
  ·subst cb
   simp only[BEq.rfl,cond_true]
   rw[e0 _ (by omega)]
   simp[ja]
  ·have:(a==1)=false:=by simpa using cb
   rw[this,cond_false]
   simp[ja,cb]
 |c::r,i,n,k,ah,ay,aV,ax,m,hm=>by
  obtain⟨m,rfl⟩:∃j,m=j+1:=⟨m-1,by simp at hm;omega⟩
  have wQ:i<s.length:=by
   have:=congrArg List.length ah
   rw[List.length_drop]at this
   simp at this;omega
  rw[drop_cons s i wQ]at ah
  injection ah with ad ag
  simp only[List.length_cons]at ax hm
  have lf:n<10^17:=Nat.lt_of_lt_of_le aV (Nat.pow_le_pow_right (by omega) (by omega))
  simp only[od,vH]
  rw[iB wQ,cond_true,fy s i wQ,Option.bind_some,ad,akS,Option.bind_some,List.all_cons]
  cases aj:eR c
  ·simp
  ·have uc:=aj
   simp only[eR,Bool.and_eq_true,decide_eq_true_eq]at uc
   simp only[Bool.not_true,cond_false,Bool.true_and]
   rw[u8_in c aj,e0 (10*(n:Int)) (by omega),e0 _ (by omega),h1 i s.length wQ (by omega),show(10*(n:Int)+((c.toNat-48:Nat):Int))=((10*n+(c.toNat-48):Nat):Int) by omega]
   exact Kv s a aa r (i+1) (10*n+(c.toNat-48)) (k+1) ag wQ (by rw[Nat.pow_succ];omega) (by omega) m (by omega)
theorem DR (s:List UInt8) (k:Nat) (aa:s.length≤1048576) (ax:k≤1) (aO:k≤s.length):tv s (k:Int)=some (lp k (s.drop k)):=by
 unfold tv lp
 by_cases bm:s.length=k
 ·have e:((s.length:Int)==(k:Int))=true:=by simp;omega
  rw[e,cond_true,List.drop_of_length_le (by omega)]
  simp
 have e:((s.length:Int)==(k:Int))=false:=by simp;omega
 rw[e,cond_false,e0 _ (by omega)]
 have Kw:(s.drop k).length=s.length-k:=List.length_drop
 have dr:s.drop k≠[]:=by
  intro h
  rw[h]at Kw
  simp at Kw;omega
 by_cases ad:18<s.length-k
 ·have e:decide (18<(s.length:Int)-(k:Int))=true:=by simp;omega
  rw[e,cond_true,if_neg (by intro h;omega)]
 have e:decide (18<(s.length:Int)-(k:Int))=false:=by simp;omega
 have vp:k<s.length:=by omega
 rw[e,cond_false,fy s k vp,Option.bind_some]
 have hD:(s.drop k).head? =some s[k]:=by rw[drop_cons s k vp];rfl
 have ly:cY (fun n=>od s (k:Int) n 0 (k:Int))=some (if(s.drop k).all eR=true then(if(k:Int)=1 then-(ja 0 (s.drop k):Int)else ja 0 (s.drop k),true)else(0,false)):=by
  refine j8 (s.length+1) fun m hm=> ?_
  exact Kv s (k:Int) aa (s.drop k) k 0 0 rfl aO (by omega) (by omega) m (by omega)
 have aI:hY (s.drop k)=ja 0 (s.drop k):=rfl
 have xO:((k:Int)=1)=(k=1):=by apply propext;omega
 simp only[xO]at ly
 rw[ly,hD,aI]
 by_cases jL:s[k]=48
 ·have e:((s[k].toNat:Int)==48)=true:=by rw[jL];rfl
  rw[e,cond_true]
  by_cases ag:1<s.length
  ·have e:decide ((1:Int)<(s.length:Int))=true:=by simp;omega
   rw[e,cond_true,if_neg (by intro h;exact h.2.2.2 ⟨by rw[jL],by omega⟩)]
  ·have e:decide ((1:Int)<(s.length:Int))=false:=by simp;omega
   rw[e,cond_false]
   by_cases cb:(s.drop k).all eR=true
   ·rw[if_pos cb,if_pos (show s.drop k≠[]∧(s.drop k).length≤18∧(s.drop k).all eR=true∧¬(some s[k]=some 48∧1<(s.drop k).length+k)from⟨dr,by omega,cb,by rintro⟨_,h⟩;omega⟩)]
   ·rw[if_neg cb,if_neg (fun h=>cb h.2.2.1)]
 ·have e:((s[k].toNat:Int)==48)=false:=by
   simp only[beq_eq_false_iff_ne,ne_eq]
   intro h
   exact jL (UInt8.toNat_inj.1 (by rw[show(48:UInt8).toNat=48 from rfl];omega))
  rw[e,cond_false]
  by_cases cb:(s.drop k).all eR=true
  ·rw[if_pos cb,if_pos (show s.drop k≠[]∧(s.drop k).length≤18∧(s.drop k).all eR=true∧¬(some s[k]=some 48∧1<(s.drop k).length+k)from⟨dr,by omega,cb,by rintro⟨h,_⟩;exact jL (Option.some.inj h)⟩)]
  ·rw[if_neg cb,if_neg (fun h=>cb h.2.2.1)]
theorem akU (s:List UInt8) (aa:s.length≤1048576):yo s=some (hA s):=by
 unfold yo hA
 cases s with
 |nil=>exact DR [] 0 (by simp) (by omega) (by simp)
 |cons c r=>
  rw[show decide ((0:Int)<(((c::r).length:Nat):Int))=true from zU (by simp),cond_true,zX,Option.bind_some]
  by_cases h:c=45
  ·subst h
   have e:(((45:UInt8).toNat:Int)==45)=true:=rfl
   rw[e,cond_true,if_pos (show(45::r).head? =some 45 from rfl)]
   exact DR (45::r) 1 aa (by omega) (by simp)
  ·have e:((c.toNat:Int)==45)=false:=by
    simp only[beq_eq_false_iff_ne,ne_eq]
    intro bb
    exact h (UInt8.toNat_inj.1 (by rw[show(45:UInt8).toNat=45 from rfl];omega))
   rw[e,cond_false,if_neg (by intro bb;exact h (Option.some.inj bb))]
   exact DR (c::r) 0 aa (by omega) (by simp)
theorem wR:∀c:UInt8,eR c=true→UInt8.ofNat (48+(c.toNat-48))=c:=by
 intro c h
 simp only[eR,Bool.and_eq_true,decide_eq_true_eq]at h
 rw[show 48+(c.toNat-48)=c.toNat by omega]
 exact UInt8.ofNat_toNat
theorem akV {w:List UInt8} {v:Int} (h:hA w=(v,true)) (bm:0≤v) (ad:v≤63):w=nO v.toNat:=by
 unfold hA at h
 split at h
 ·rename_i hD
  unfold lp at h
  split at h
  ·rename_i aj
   obtain⟨b5,c2,c3,c4⟩:=aj
   exfalso
   simp only[if_pos,Prod.mk.injEq,and_true]at h
   cases hw:w.tail with
   |nil=>exact b5 hw
   |cons c r=>
    rw[hw]at c3 c4 h
    simp only[List.all_cons,Bool.and_eq_true]at c3
    have aj:=c3.1
    simp only[eR,Bool.and_eq_true,decide_eq_true_eq]at aj
    have jL:c≠48:=fun e=>c4 ⟨by rw[e];rfl,by simp⟩
    have Cl:1≤c.toNat-48:=by
     rcases Nat.lt_or_ge 48 c.toNat with h|h
     ·omega
     ·exact(jL (UInt8.toNat_inj.1 (by rw[show(48:UInt8).toNat=48 from rfl];omega))).elim
    have mono:∀(d:List UInt8) (n:Nat),1≤n→1≤ja n d:=by
     intro d
     induction d with
     |nil=>intro n h;exact h
     |cons x d ih=>intro n h;exact ih (10*n+(x.toNat-48)) (by omega)
    have:1≤hY (c::r):=mono r (10*0+(c.toNat-48)) (by omega)
    omega
  ·cases h
 ·unfold lp at h
  split at h
  ·rename_i aj
   obtain⟨b5,c2,c3,c4⟩:=aj
   simp only[show(0:Nat)≠1 from by decide,if_false,Prod.mk.injEq,and_true]at h
   subst h
   have mono:∀(d:List UInt8) (n:Nat),n≤ja n d:=by
    intro d
    induction d with
    |nil=>intro n;exact Nat.le_refl _
    |cons x d ih=>intro n;exact Nat.le_trans (by omega) (ih (10*n+(x.toNat-48)))
   match w,b5,c3,c4 with
   |[a],_,c3,_=>
    simp only[List.all_cons,List.all_nil,Bool.and_true]at c3
    have e:hY [a]=a.toNat-48:=by simp[hY]
    have ah:=wR a c3
    simp only[eR,Bool.and_eq_true,decide_eq_true_eq]at c3
    rw[e,Int.toNat_natCast,nO,if_pos (by omega),ah]
   |a::b::r,_,c3,c4=>
    simp only[List.all_cons,Bool.and_eq_true]at c3
    have cb:=c3.1;have U:=c3.2.1
    have akW:=wR a cb;have akX:=wR b U
    simp only[eR,Bool.and_eq_true,decide_eq_true_eq]at cb U
    have jL:a≠48:=fun e=>c4 ⟨by rw[e];rfl,by simp⟩
    have Cl:1≤a.toNat-48:=by
     rcases Nat.lt_or_ge 48 a.toNat with h|h
     ·omega
     ·exact(jL (UInt8.toNat_inj.1 (by rw[show(48:UInt8).toNat=48 from rfl];omega))).elim
    have e:hY (a::b::r)=ja (10*(10*0+(a.toNat-48))+(b.toNat-48)) r:=rfl
    cases r with
    |nil=>
     have aX:hY [a,b]=10*(a.toNat-48)+(b.toNat-48):=by simp[hY]
     rw[aX,Int.toNat_natCast,nO,if_neg (by omega)]
     rw[show(10*(a.toNat-48)+(b.toNat-48))/10=a.toNat-48 by omega,show(10*(a.toNat-48)+(b.toNat-48))%10=b.toNat-48 by omega,akW,akX]
    |cons x r=>
     exfalso
     have:=mono r (10*(10*(10*0+(a.toNat-48))+(b.toNat-48))+(x.toNat-48))
     have aS:hY (a::b::x::r)=ja (10*(10*(10*0+(a.toNat-48))+(b.toNat-48))+(x.toNat-48)) r:=rfl
     omega
  ·cases h
end Go.gB
