/- Part of a proof that a law returns true for every input. No condition. -/
import Derived.Test.YtlkabaochkgkdaaGreatDoorUH2
namespace Go.eU
open Go Go.c_
theorem aFp:∀d:Fin 10,IntKind.i64.wrap (IntKind.u8.wrap (((48+d.val:Nat):Int)-48))=((d.val:Nat):Int):=by decide
theorem u8_in:∀c:UInt8,fW c=true->IntKind.i64.wrap (IntKind.u8.wrap ((c.toNat:Int)-48))=((c.toNat-48:Nat):Int):=by
 intro c h;simp only[fW,Bool.and_eq_true,decide_eq_true_eq]at h;have:=aFp ⟨c.toNat-48,by omega⟩;simp only at this
 rwa [show 48+(c.toNat-48)=c.toNat by omega]at this
theorem aFq (c:UInt8):xz c=some (fW c):=by
 unfold xz fW;congr 2
 .rw[decide_eq_decide];omega
 .rw[decide_eq_decide];omega
def ko (n:Nat) (d:List UInt8):Nat:=d.foldl (λn c=>10*n+(c.toNat-48)) n
theorem SF:∀(d:List UInt8) (n k:Nat),d.all fW=true->n<10^k->ko n d<10^(k+d.length)
 |[],n,k,_,h=>by simpa [ko]using h
 |c::r,n,k,aj,h=>by
  simp only[List.all_cons,Bool.and_eq_true]at aj;have aq:=aj.1;simp only[fW,Bool.and_eq_true,decide_eq_true_eq]at aq;have:=SF r (10*n+(c.toNat-48)) (k+1) aj.2 (by rw[Nat.pow_succ];omega);rw[List.length_cons,show k+(r.length+1)=k+1+r.length by omega];exact this
theorem SG (s:List UInt8) (a:Int) (ae:s.length<=1048576):∀(d:List UInt8) (i n k:Nat),s.drop i=d->i<=s.length->n<10^k->k+d.length<=18->∀m,d.length<m->
  qa s a m (n:Int) (i:Int)=some (if d.all fW=true then(if a=1 then-(ko n d:Int)else ko n d,true)else(0,false))
 |[],i,n,k,aj,an,a7,ay,m,hm=>by
  obtain⟨m,rfl⟩:∃j,m=j+1:=⟨m-1,by simp at hm;omega⟩
  have aFr:i=s.length:=by
   have:=congrArg List.length aj;rw[List.length_drop]at this;simp at this;omega
  subst aFr;have qH:n<10^18:=Nat.lt_of_lt_of_le a7 (Nat.pow_le_pow_right (by omega) (by simpa using ay));simp only[qa,Ap,Ao];rw[fh (Nat.le_refl _),cond_false];by_cases cf:a=1
  .subst cf;simp only[BEq.rfl,cond_true];rw[eC _ (by omega)];simp[ko]
  .have:(a==1)=false:=by simpa using cf
   rw[this,cond_false];simp[ko,cf]
 |c::r,i,n,k,aj,an,a7,ay,m,hm=>by
  obtain⟨m,rfl⟩:∃j,m=j+1:=⟨m-1,by simp at hm;omega⟩
  have si:i<s.length:=by
   have:=congrArg List.length aj;rw[List.length_drop]at this;simp at this;omega
  rw[drop_cons s i si]at aj;injection aj with ag ah;simp only[List.length_cons]at ay hm;have qH:n<10^17:=Nat.lt_of_lt_of_le a7 (Nat.pow_le_pow_right (by omega) (by omega));simp only[qa,Ap];rw[fX si,cond_true,gN s i si,Option.bind_some,ag,aFq,Option.bind_some,List.all_cons];cases aq:fW c
  .simp
  .have ys:=aq;simp only[fW,Bool.and_eq_true,decide_eq_true_eq]at ys;simp only[Bool.not_true,cond_false,Bool.true_and];rw[u8_in c aq,eC (10*(n:Int)) (by omega),eC _ (by omega),fO i s.length si (by omega),show(10*(n:Int)+((c.toNat-48:Nat):Int))=((10*n+(c.toNat-48):Nat):Int) by omega];exact SG s a ae r (i+1) (10*n+(c.toNat-48)) (k+1) ah si (by rw[Nat.pow_succ];omega) (by omega) m (by omega)
theorem KP (s:List UInt8) (k:Nat) (ae:s.length<=1048576) (ay:k<=1) (hl:k<=s.length):xJ s (k:Int)=some (mN k (s.drop k)):=by
 unfold xJ mN;by_cases ba:s.length=k
 .have e:((s.length:Int)==(k:Int))=true:=by simp;omega
  rw[e,cond_true,List.drop_of_length_le (by omega)];simp
 have e:((s.length:Int)==(k:Int))=false:=by simp;omega
 rw[e,cond_false,eC _ (by omega)];have SH:(s.drop k).length=s.length-k:=List.length_drop;have dL:s.drop k≠[]:=by
  intro h;rw[h]at SH;simp at SH;omega
 by_cases ag:18<s.length-k
 .have e:decide (18<(s.length:Int)-(k:Int))=true:=by simp;omega
  rw[e,cond_true,if_neg (by intro h;omega)]
 have e:decide (18<(s.length:Int)-(k:Int))=false:=by simp;omega
 have zD:k<s.length:=by omega
 rw[e,cond_false,gN s k zD,Option.bind_some];have gF:(s.drop k).head? =some s[k]:=by rw[drop_cons s k zD];rfl
 have SI:cB (λn=>qa s (k:Int) n 0 (k:Int))=some (if(s.drop k).all fW=true then(if(k:Int)=1 then-(ko 0 (s.drop k):Int)else ko 0 (s.drop k),true)else(0,false)):=by
  refine ij (s.length+1) λm hm=>?_;exact SG s (k:Int) ae (s.drop k) k 0 0 rfl hl (by omega) (by omega) m (by omega)
 have aT:jo (s.drop k)=ko 0 (s.drop k):=rfl;have xm:((k:Int)=1)=(k=1):=by apply propext;omega
 simp only[xm]at SI;rw[SI,gF,aT];by_cases k1:s[k]=48
 .have e:((s[k].toNat:Int)==48)=true:=by rw[k1];rfl
  rw[e,cond_true];by_cases ah:1<s.length
  .have e:decide ((1:Int)<(s.length:Int))=true:=by simp;omega
   rw[e,cond_true,if_neg (by intro h;exact h.2.2.2 ⟨by rw[k1],by omega⟩)]
  .have e:decide ((1:Int)<(s.length:Int))=false:=by simp;omega
   rw[e,cond_false];by_cases cf:(s.drop k).all fW=true
   .rw[if_pos cf,if_pos (show s.drop k≠[]/\(s.drop k).length<=18/\(s.drop k).all fW=true/\¬(some s[k]=some 48/\1<(s.drop k).length+k)from⟨dL,by omega,cf,by rintro⟨_,h⟩;omega⟩)]
   .rw[if_neg cf,if_neg (λh=>cf h.2.2.1)]
 .have e:((s[k].toNat:Int)==48)=false:=by
   simp only[beq_eq_false_iff_ne,ne_eq];intro h;exact k1 (UInt8.toNat_inj.1 (by rw[show(48:UInt8).toNat=48 from rfl];omega))
  rw[e,cond_false];by_cases cf:(s.drop k).all fW=true
  .rw[if_pos cf,if_pos (show s.drop k≠[]/\(s.drop k).length<=18/\(s.drop k).all fW=true/\¬(some s[k]=some 48/\1<(s.drop k).length+k)from⟨dL,by omega,cf,by rintro⟨h,_⟩;exact k1 (Option.some.inj h)⟩)]
  .rw[if_neg cf,if_neg (λh=>cf h.2.2.1)]
theorem aFs (s:List UInt8) (ae:s.length<=1048576):DY s=some (iH s):=by
 unfold DY iH;cases s with
 |nil=>exact KP [] 0 (by simp) (by omega) (by simp)
 |cons c r=>
  rw[show decide ((0:Int)<(((c::r).length:Nat):Int))=true from vN (by simp),cond_true,Gk,Option.bind_some];by_cases h:c=45
  .subst h;have e:(((45:UInt8).toNat:Int)==45)=true:=rfl;rw[e,cond_true,if_pos (show(45::r).head? =some 45 from rfl)];exact KP (45::r) 1 ae (by omega) (by simp)
  .have e:((c.toNat:Int)==45)=false:=by
    simp only[beq_eq_false_iff_ne,ne_eq];intro bt;exact h (UInt8.toNat_inj.1 (by rw[show(45:UInt8).toNat=45 from rfl];omega))
   rw[e,cond_false,if_neg (by intro bt;exact h (Option.some.inj bt))];exact KP (c::r) 0 ae (by omega) (by simp)
theorem BD:∀c:UInt8,fW c=true->UInt8.ofNat (48+(c.toNat-48))=c:=by
 intro c h;simp only[fW,Bool.and_eq_true,decide_eq_true_eq]at h;rw[show 48+(c.toNat-48)=c.toNat by omega];exact UInt8.ofNat_toNat
theorem aFt {w:List UInt8} {v:Int} (h:iH w=(v,true)) (ba:0<=v) (ag:v<=63):w=pF v.toNat:=by
 unfold iH at h;split at h
 .rename_i gF;unfold mN at h;split at h
  .rename_i aq;obtain⟨cv,c2,c3,c4⟩:=aq;exfalso;simp only[if_pos,Prod.mk.injEq,and_true]at h;cases hw:w.tail with
   |nil=>exact cv hw
   |cons c r=>
    rw[hw]at c3 c4 h;simp only[List.all_cons,Bool.and_eq_true]at c3;have aq:=c3.1;simp only[fW,Bool.and_eq_true,decide_eq_true_eq]at aq;have k1:c≠48:=λe=>c4 ⟨by rw[e];rfl,by simp⟩;have IC:1<=c.toNat-48:=by
     rcases Nat.lt_or_ge 48 c.toNat with h|h
     .omega
     .exact(k1 (UInt8.toNat_inj.1 (by rw[show(48:UInt8).toNat=48 from rfl];omega))).elim
    have mono:∀(d:List UInt8) (n:Nat),1<=n->1<=ko n d:=by
     intro d;induction d with
     |nil=>intro n h;exact h
     |cons x d ih=>intro n h;exact ih (10*n+(x.toNat-48)) (by omega)
    have:1<=jo (c::r):=mono r (10*0+(c.toNat-48)) (by omega);omega
  .cases h
 .unfold mN at h;split at h
  .rename_i aq;obtain⟨cv,c2,c3,c4⟩:=aq;simp only[show(0:Nat)≠1 from by decide,if_false,Prod.mk.injEq,and_true]at h;subst h;have mono:∀(d:List UInt8) (n:Nat),n<=ko n d:=by
    intro d;induction d with
    |nil=>intro n;exact Nat.le_refl _
    |cons x d ih=>intro n;exact Nat.le_trans (by omega) (ih (10*n+(x.toNat-48)))
   match w,cv,c3,c4 with
   |[a],_,c3,_=>
    simp only[List.all_cons,List.all_nil,Bool.and_true]at c3;have e:jo [a]=a.toNat-48:=by simp[jo]
    have aj:=BD a c3;simp only[fW,Bool.and_eq_true,decide_eq_true_eq]at c3;rw[e,Int.toNat_natCast,pF,if_pos (by omega),aj]
   |a::b::r,_,c3,c4=>
    simp only[List.all_cons,Bool.and_eq_true]at c3;have cf:=c3.1;have ad:=c3.2.1;have aFu:=BD a cf;have aFv:=BD b ad;simp only[fW,Bool.and_eq_true,decide_eq_true_eq]at cf ad;have k1:a≠48:=λe=>c4 ⟨by rw[e];rfl,by simp⟩;have IC:1<=a.toNat-48:=by
     rcases Nat.lt_or_ge 48 a.toNat with h|h
     .omega
     .exact(k1 (UInt8.toNat_inj.1 (by rw[show(48:UInt8).toNat=48 from rfl];omega))).elim
    have e:jo (a::b::r)=ko (10*(10*0+(a.toNat-48))+(b.toNat-48)) r:=rfl;cases r with
    |nil=>
     have a6:jo [a,b]=10*(a.toNat-48)+(b.toNat-48):=by simp[jo]
     rw[a6,Int.toNat_natCast,pF,if_neg (by omega)];rw[show(10*(a.toNat-48)+(b.toNat-48))/10=a.toNat-48 by omega,show(10*(a.toNat-48)+(b.toNat-48))%10=b.toNat-48 by omega,aFu,aFv]
    |cons x r=>
     exfalso;have:=mono r (10*(10*(10*0+(a.toNat-48))+(b.toNat-48))+(x.toNat-48));have aQ:jo (a::b::x::r)=ko (10*(10*(10*0+(a.toNat-48))+(b.toNat-48))+(x.toNat-48)) r:=rfl;omega
  .cases h
end Go.eU
