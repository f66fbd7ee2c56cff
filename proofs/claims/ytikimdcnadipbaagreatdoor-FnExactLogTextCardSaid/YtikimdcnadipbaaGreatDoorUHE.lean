/- Part of a proof that a law returns true for every input. No condition. -/
import Derived.Test.YtikimdcnadipbaaGreatDoorUC
import Derived.Test.YtikimdcnadipbaaGreatDoorUXA
namespace Go.eL
open Go Go.bZ
theorem Ad:∀(k n:Nat),n<10^(k+1)→(h9 n).length≤k+1:=by
 intro k
 induction k with
 |zero=>intro n h;rw[h9,dif_pos (by omega)];simp
 |succ k ih=>
  intro n h
  rw[h9]
  by_cases aa:n<10
  ·rw[dif_pos aa];simp
  ·rw[dif_neg aa]
   have:=ih (n/10) (by rw[Nat.pow_succ]at h;omega)
   simp;omega
theorem XT:∀d:Fin 10,kF (IntKind.i64.wrap (48+((d:Nat):Int)))=UInt8.ofNat (48+d):=by decide
theorem Gl (n:Nat) (h:n<10):kF (IntKind.i64.wrap (48+(n:Int)))=UInt8.ofNat (48+n):=XT ⟨n,h⟩
theorem Gm (a:List UInt8) (br:a.length≤1000):tc a=some a.reverse:=by
 unfold tc
 have key:∀i,i≤a.length→∀m,i<m→pG a m ((a.drop i).reverse) ((i:Int)-1)=some a.reverse:=by
  intro i
  induction i with
  |zero=>
   intro _ m hm
   obtain⟨m,rfl⟩:∃j,m=j+1:=⟨m-1,by omega⟩
   simp only[pG,vq]
   rw[show decide ((0:Int)≤((0:Nat):Int)-1)=false from by decide]
   simp
  |succ i ih=>
   intro ay m hm
   obtain⟨m,rfl⟩:∃j,m=j+1:=⟨m-1,by omega⟩
   simp only[pG,vq]
   rw[show decide ((0:Int)≤((i+1:Nat):Int)-1)=true from decide_eq_true (by omega),cond_true,show(((i+1:Nat):Int)-1)=(i:Int) by omega,gP a i (by omega),Option.bind_some,oL (by simp;omega) (by simp;omega),Option.bind_some,eO ((i:Int)-1) (by omega)]
   have:=ih (by omega) m (by omega)
   rw[drop_cons a i (by omega),List.reverse_cons]at this
   exact this
 refine hM (a.length+1) fun m hm=> ?_
 have:=key a.length (Nat.le_refl _) m (by omega)
 rw[List.drop_length]at this
 rw[eO _ (by omega)]
 exact this
theorem Gn (a:Int) (s:Int) (U:s=1∨s= -1) (hl:List UInt8→Option (List UInt8)) (pZ:∀v m,v.length≤30→jC a (m+1) v 0=hl v):
  ∀(k n:Nat) (v:List UInt8),1≤n→n<10^(k+1)→k≤18→v.length+k≤20→∀m,k+2≤m→jC a m v (s*(n:Int))=hl (v++(h9 n).reverse):=by
 intro k
 induction k with
 |zero=>
  intro n v aa aQ _ aD m hm
  obtain⟨m,rfl⟩:∃j,m=j+2:=⟨m-2,by omega⟩
  have iN:n<10:=by simpa using aQ
  have aJ:Int.tmod (s*(n:Int)) 10=s*((n%10:Nat):Int):=by
   rcases U with rfl|rfl
   ·rw[Int.one_mul,Int.one_mul];rfl
   ·rw[Int.neg_mul,Int.one_mul,Int.neg_tmod,Int.neg_mul,Int.one_mul];rfl
  have bt:Int.tdiv (s*(n:Int)) 10=0:=by
   rcases U with rfl|rfl
   ·rw[Int.one_mul,show Int.tdiv (n:Int) 10=((n/10:Nat):Int)from rfl];omega
   ·rw[Int.neg_mul,Int.one_mul,Int.neg_tdiv,show Int.tdiv (n:Int) 10=((n/10:Nat):Int)from rfl];omega
  have aF:((s*(n:Int)) !=0)=true:=by rcases U with rfl|rfl<;>simp<;>omega
  simp only[jC,rf,tb]
  rw[aF,aJ,bt,cond_true]
  have ai:(cond (decide (s*((n%10:Nat):Int)<0)) (IntKind.i64.wrap (0-s*((n%10:Nat):Int))) (s*((n%10:Nat):Int)))=((n%10:Nat):Int):=by
   rcases U with rfl|rfl
   ·rw[show decide (1*((n%10:Nat):Int)<0)=false from by simp;omega];simp
   ·rw[show decide (-1*((n%10:Nat):Int)<0)=true from by simp;omega,cond_true,eO _ (by omega)];omega
  have al:∀x,x=((n%10:Nat):Int)→((room 1 (v.length+1)).bind fun _=>jC a (m+1) (v++[kF (IntKind.i64.wrap (48+x))]) (IntKind.i64.wrap 0))=hl (v++(h9 n).reverse):=by
   rintro x rfl
   rw[Gl (n%10) (by omega),oL (by omega) (by omega),Option.bind_some,eO 0 (by omega),pZ _ _ (by simp;omega),h9,dif_pos iN,Nat.mod_eq_of_lt iN]
   rfl
  cases J:decide (s*((n%10:Nat):Int)<0)
  ·rw[J]at ai
   exact al _ ai
  ·rw[J]at ai
   exact al _ ai
 |succ k ih=>
  intro n v aa aQ iu aD m hm
  by_cases iN:n<10
  ·have eZ:n<10^(k+1):=Nat.lt_of_lt_of_le iN (by rw[Nat.pow_succ];have:=Nat.one_le_pow k 10 (by omega);omega)
   exact ih n v aa eZ (by omega) (by omega) m (by omega)
  obtain⟨m,rfl⟩:∃j,m=j+1:=⟨m-1,by omega⟩
  have Zo:(10:Nat)^(k+1+1)≤10^19:=Nat.pow_le_pow_right (by omega) (by omega)
  have aJ:Int.tmod (s*(n:Int)) 10=s*((n%10:Nat):Int):=by
   rcases U with rfl|rfl
   ·rw[Int.one_mul,Int.one_mul];rfl
   ·rw[Int.neg_mul,Int.one_mul,Int.neg_tmod,Int.neg_mul,Int.one_mul];rfl
  have bt:Int.tdiv (s*(n:Int)) 10=s*((n/10:Nat):Int):=by
   rcases U with rfl|rfl
   ·rw[Int.one_mul,Int.one_mul];rfl
   ·rw[Int.neg_mul,Int.one_mul,Int.neg_tdiv,Int.neg_mul,Int.one_mul];rfl
  have aF:((s*(n:Int)) !=0)=true:=by rcases U with rfl|rfl<;>simp<;>omega
  simp only[jC,rf,tb]
  rw[aF,aJ,bt,cond_true,eO (s*((n/10:Nat):Int)) (by rcases U with rfl|rfl<;>omega)]
  have ai:(cond (decide (s*((n%10:Nat):Int)<0)) (IntKind.i64.wrap (0-s*((n%10:Nat):Int))) (s*((n%10:Nat):Int)))=((n%10:Nat):Int):=by
   rcases U with rfl|rfl
   ·rw[show decide (1*((n%10:Nat):Int)<0)=false from by simp;omega];simp
   ·by_cases bl:n%10=0
    ·rw[bl];rfl
    ·rw[show decide (-1*((n%10:Nat):Int)<0)=true from by simp;omega,cond_true,eO _ (by omega)];omega
  have al:∀x,x=((n%10:Nat):Int)→((room 1 (v.length+1)).bind fun _=>jC a m (v++[kF (IntKind.i64.wrap (48+x))]) (s*((n/10:Nat):Int)))=hl (v++(h9 n).reverse):=by
   rintro x rfl
   rw[Gl (n%10) (by omega),oL (by omega) (by omega),Option.bind_some,ih (n/10) _ (by omega) (by rw[Nat.pow_succ]at aQ;omega) (by omega) (by simp;omega) m (by omega)]
   congr 1
   rw[show h9 n=h9 (n/10)++[UInt8.ofNat (48+n%10)]from by rw[h9,dif_neg iN]]
   simp
  cases J:decide (s*((n%10:Nat):Int)<0)
  ·rw[J]at ai
   exact al _ ai
  ·rw[J]at ai
   exact al _ ai
theorem wH (n:Int) (h: -1000000000000000000<n∧n<1000000000000000000):ox n=some (fb n):=by
 unfold ox fb
 by_cases bl:n=0
 ·subst bl
  rw[if_neg (by omega),h9,dif_pos (by decide)];rfl
 have e:(n==0)=false:=by simpa using bl
 rw[e,cond_false]
 by_cases aQ:n<0
 ·rw[if_pos aQ]
  refine hM 30 fun m hm=> ?_
  have pZ:∀v m,v.length≤30→jC n (m+1) v 0=some (45::v.reverse):=by
   intro v m aD
   simp only[jC,rf]
   rw[show decide (n<0)=true from by simpa using aQ,oL (by omega) (by omega),Gm (v++[45]) (by simp;omega)]
   simp
  have aI:=Ad 17 n.natAbs (by omega)
  have:=Gn n (-1) (.inr rfl) (fun v=>some (45::v.reverse)) pZ 17 n.natAbs [] (by omega) (by omega) (by omega) (by simp) m (by omega)
  rw[show-1*(n.natAbs:Int)=n by omega]at this
  rw[this]
  simp
 ·rw[if_neg aQ]
  refine hM 30 fun m hm=> ?_
  have pZ:∀v m,v.length≤30→jC n (m+1) v 0=some v.reverse:=by
   intro v m aD
   simp only[jC,rf]
   rw[show decide (n<0)=false from by simpa using aQ,Gm v (by omega)]
   rfl
  have:=Gn n 1 (.inl rfl) (fun v=>some v.reverse) pZ 17 n.toNat [] (by omega) (by omega) (by omega) (by simp) m (by omega)
  rw[show 1*(n.toNat:Int)=n by omega]at this
  rw[this]
  simp
theorem Gp (n:Int) (h: -1000000000000000000<n∧n<1000000000000000000):mB n=some (fb n):=by
 unfold mB rm
 rw[if_pos ⟨by omega,by omega,rfl⟩];rfl
theorem jI (n:Int) (h: -1000000000000000000<n∧n<1000000000000000000):(fb n).length≤19:=by
 unfold fb
 split
 ·have:=Ad 17 n.natAbs (by omega);simp;omega
 ·have:=Ad 17 n.toNat (by omega);omega
theorem wI (a:Nat) (h:a<2^64):(BitVec.ofInt IntKind.i64.bits (a:Int)).toNat=a:=by
 have ab:(BitVec.ofNat 64 a).toNat=a:=by
  rw[BitVec.toNat_ofNat]
  exact Nat.mod_eq_of_lt h
 exact(congrArg BitVec.toNat (BitVec.ofInt_natCast 64 a)).trans ab
theorem Gq (a b:Nat) (br:a<2^24) (J:b<2^24):bitsOf .xor .i64 (a:Int) (b:Int)=((a^^^b:Nat):Int):=by
 have aa:a^^^b<2^24:=Nat.xor_lt_two_pow br J
 simp only[bitsOf]
 rw[BitVec.toNat_xor,wI a (by omega),wI b (by omega),eO _ (by omega)]
theorem XU (a b:Nat) (br:a<2^24) (J:b<2^24):bitsOf .and .i64 (a:Int) (b:Int)=((a&&&b:Nat):Int):=by
 have aa:a&&&b≤b:=Nat.and_le_right
 simp only[bitsOf]
 rw[BitVec.toNat_and,wI a (by omega),wI b (by omega),eO _ (by omega)]
theorem XV (s:Int) (h:0≤s∧s≤65535):0≤tM s∧tM s≤65535:=by
 obtain⟨a,rfl⟩:∃a:Nat,s=a:=⟨s.toNat,by omega⟩
 unfold tM
 rw[eO ((a:Int)*2) (by omega),show((a:Int)*2)=((a*2:Nat):Int) by omega]
 by_cases aa:65535<a*2
 ·rw[show decide ((65535:Int)<((a*2:Nat):Int))=true from decide_eq_true (by omega),cond_true,show(65535:Int)=((65535:Nat):Int)from rfl,XU _ _ (by omega) (by omega),show(4129:Int)=((4129:Nat):Int)from rfl]
  have ab:a*2&&&65535≤65535:=Nat.and_le_right
  rw[Gq _ _ (by omega) (by omega)]
  have aB:(a*2&&&65535)^^^4129<2^16:=Nat.xor_lt_two_pow (by omega) (by omega)
  omega
 ·rw[show decide ((65535:Int)<((a*2:Nat):Int))=false from decide_eq_false (by omega),cond_false]
  omega
theorem Gr:∀(k:Nat) (s:Int),0≤s∧s≤65535→0≤rG k s∧rG k s≤65535
 |0,_,h=>h
 |k+1,s,h=>Gr k _ (XV s h)
theorem XW (s:Int) (c:UInt8) (h:0≤s∧s≤65535):0≤rH s c∧rH s c≤65535:=by
 obtain⟨a,rfl⟩:∃a:Nat,s=a:=⟨s.toNat,by omega⟩
 have af:c.toNat<256:=c.toNat_lt
 unfold rH
 apply Gr
 rw[eO ((c.toNat:Int)*256) (by omega),show((c.toNat:Int)*256)=((c.toNat*256:Nat):Int) by omega,Gq _ _ (by omega) (by omega)]
 have aB:a^^^(c.toNat*256)<2^16:=Nat.xor_lt_two_pow (by omega) (by omega)
 omega
theorem tT:∀(l:List UInt8) (s:Int),0≤s∧s≤65535→0≤kE l s∧kE l s≤65535
 |[],_,h=>h
 |c::l,s,h=>tT l (rH s c) (XW s c h)
end Go.eL
