/- Part of a proof that a law returns true for every input. No condition. -/
import Derived.Test.YtpddiknnnoomoaaP3
import Derived.Test.YtpddiknnnoomoaaUN
namespace Go.eF
open Go Go.bV
set_option linter.unusedSimpArgs false
def kC (x:aP):Nat:=(x.Name.length+(x.dP.length+0))
theorem Ck (k:Int) (bI:0≤k) (I:k≤1099511627776):∃t,n3 k=some t:=by
 have key:∀(n:Nat) (k:Int),0≤k→k≤n→n≤1099511627776→∀t:List UInt8,t.length+n≤1099511627776→∃r,∀m,n<m→mU m k t=some r:=by
  intro n
  induction n with
  |zero=>
   intro k U aa aw t aG
   refine⟨[109]++t,fun m hm=> ?_⟩
   obtain⟨m,rfl⟩:∃ad,m=ad+1:=⟨m-1,by omega⟩
   simp only[mU,rp]
   rw[show decide (0<k)=false by simp;omega,cond_false,show kD (1+t.length)=some () by unfold kD;rw[if_pos (by omega)]]
   rfl
  |succ n ih=>
   intro k U aa aw t aG
   by_cases ai:0<k
   ·have ab:Int.tdiv k 10=k/10:=Int.tdiv_eq_ediv_of_nonneg U
    have hw:IntKind.i64.wrap (Int.tdiv k 10)=k/10:=by rw[ab];exact fp _ (by omega)
    obtain⟨r,aA⟩:=ih (k/10) (by omega) (by omega) (by omega) ([(lu (IntKind.i64.wrap (48+(Int.tmod k 10))))]++t) (by simp only[List.length_append,List.length_cons,List.length_nil];omega)
    refine⟨r,fun m hm=> ?_⟩
    obtain⟨m,rfl⟩:∃ad,m=ad+1:=⟨m-1,by omega⟩
    simp only[mU,rp]
    rw[show decide (0<k)=true by simp;omega,cond_true,show kD (1+t.length)=some () by unfold kD;rw[if_pos (by omega)]]
    simp only[Option.bind_some,hw]
    exact aA m (by omega)
   ·refine⟨[109]++t,fun m hm=> ?_⟩
    obtain⟨m,rfl⟩:∃ad,m=ad+1:=⟨m-1,by omega⟩
    simp only[mU,rp]
    rw[show decide (0<k)=false by simp;omega,cond_false,show kD (1+t.length)=some () by unfold kD;rw[if_pos (by omega)]]
    rfl
 unfold n3
 by_cases ai:k≤0
 ·exact⟨_,by rw[show decide (k≤0)=true by simpa using ai];rfl⟩
 ·obtain⟨r,aA⟩:=key k.toNat k bI (by omega) (by omega) [] (by simp only[List.length_nil];omega)
  exact⟨r,by rw[show decide (k≤0)=false by simp;omega,cond_false];exact jh (k.toNat+1) fun m hm=>aA m (by omega)⟩
theorem OT (x:List aP) (k:Int) (bI:0≤k) (I:k+64*(kB kC x)≤1099511627776):∃(b1:List aP) (c:Nat),c≤64*(kB kC x)∧tl x k=some (k+(c:Int),b1)∧rq b1 k=some (k+(c:Int)):=by
 unfold tl rq
 have e:jg (fun x=>64*((kC x)+1)) x=64*kB kC x:=Ci kC x
 have hl:x.length≤kB kC x:=OP _ _
 obtain⟨b1,c,U,aa,aw⟩:=OS (l:=n4) (hl:=n5) (fun x=>64*((kC x)+1)) (fun m v k=>by simp only[n4,tk];rw[kA (Nat.le_refl _)];rfl) (fun a m k=>by simp only[n5,tm];rw[kA (Nat.le_refl _)];rfl) (fun x k bI I=>by
  simp only[kC]at I⊢
  obtain⟨s1,t1⟩:=Ck k (by omega) (by omega)
  have wh:IntKind.i64.wrap (k+1)=k+1:=fp _ (by omega)
  obtain⟨s2,t2⟩:=Ck (k+1) (by omega) (by omega)
  have px:IntKind.i64.wrap ((k+1)+1)=(k+1)+1:=fp _ (by omega)
  refine⟨(aP.mk s1 s2),1+1,by omega,fun m d r ab=>⟨?_,?_⟩⟩
  ·simp only[n4,tk]
   rw[Cg]
   simp only[cond_true,Cf,OQ,Option.bind_some,t1,wh,t2,px]
   rw[Ch ab]
   rw[show(((k+1)+1):Int)=k+((1+1:Nat):Int) by omega]
  ·simp only[n5,tm]
   rw[Cg]
   simp only[cond_true,cond_false,Cf,Option.bind_some,bne_self_eq_false,beq_self_eq_true,Bool.not_true,t1,wh,t2,px]
   rw[Ch ab]
   rw[show(((k+1)+1):Int)=k+((1+1:Nat):Int) by omega]) x k bI (by omega) (by omega)
 exact⟨b1,c,by omega,aa,aw⟩
end Go.eF
