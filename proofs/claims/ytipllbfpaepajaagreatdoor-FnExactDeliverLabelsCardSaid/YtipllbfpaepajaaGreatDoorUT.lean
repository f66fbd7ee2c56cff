/- Part of a proof that a law returns true for every input. No condition. -/
import Derived.Test.YtipllbfpaepajaaGreatDoorP6
import Derived.Test.YtipllbfpaepajaaGreatDoorUN
namespace Go.ff
open Go Go.ca
set_option linter.unusedSimpArgs false
theorem aaa (x:List (List UInt8)) (n:Int) (aq:(x.length≤9223372036854775807∧∀y∈x,y.length≤9223372036854775807)) (bm:0≤n) (aW:n≤1048576):vZ x n=some (lx n (iq List.length x)):=by
 unfold vZ
 refine GM aq.1 bm aW fun h=> ?_
 rw[dq _ (by omega)]
 exact Z6 x (fun _ _ _=>rfl) aq.2 (by omega) _ (by omega) (by omega)
theorem aab (x:List (List UInt8)) (h:(iq List.length x)≤1048576):qa x=some x:=by
 unfold qa
 have hl:x.length≤1048576:=Nat.le_trans (xx _ _) h
 rw[AR _ hl (by decide)]
 simp only[Option.bind_some]
 rw[GO (f:=some) id x _ (fun _ _ _=>rfl) (fun _ _=>rfl) hl,List.map_id]
theorem aac (x:List Int) (h:(x.length+0)≤1048576):qb x=some x:=by
 unfold qb
 have hl:x.length≤1048576:=by omega
 rw[AR _ hl (by decide)]
 simp only[Option.bind_some]
 rw[GO (f:=some) id x _ (fun _ _ _=>rfl) (fun _ _=>rfl) hl,List.map_id]
theorem GY (x:List (List UInt8)) (h:(iq List.length x)≤1048576):qp x x=some true:=by
 unfold qp
 have hl:x.length≤1048576:=Nat.le_trans (xx _ _) h
 rw[GQ,cond_false]
 exact GP x (fun _ _=>rfl) Z8 hl
theorem aad (x:List Int) (h:(x.length+0)≤1048576):w2 x x=some true:=by
 unfold w2
 have hl:x.length≤1048576:=by omega
 rw[GQ,cond_false]
 exact GP x (fun _ _=>rfl) Z7 hl
theorem aae (k:Int) (bm:0≤k) (R:k≤1099511627776):∃t,uo k=some t:=by
 have key:∀(n:Nat) (k:Int),0≤k→k≤n→n≤1099511627776→∀t:List UInt8,t.length+n≤1099511627776→∃r,∀m,n<m→pe m k t=some r:=by
  intro n
  induction n with
  |zero=>
   intro k ab ad aB t aO
   refine⟨[109]++t,fun m hm=> ?_⟩
   obtain⟨m,rfl⟩:∃j,m=j+1:=⟨m-1,by omega⟩
   simp only[pe,um]
   rw[show decide (0<k)=false by simp;omega,cond_false,show jL (1+t.length)=some () by unfold jL;rw[if_pos (by omega)]]
   rfl
  |succ n ih=>
   intro k ab ad aB t aO
   by_cases al:0<k
   ·have ae:Int.tdiv k 10=k/10:=Int.tdiv_eq_ediv_of_nonneg ab
    have hw:IntKind.i64.wrap (Int.tdiv k 10)=k/10:=by rw[ae];exact dq _ (by omega)
    obtain⟨r,aD⟩:=ih (k/10) (by omega) (by omega) (by omega) ([(nE (IntKind.i64.wrap (48+(Int.tmod k 10))))]++t) (by simp only[List.length_append,List.length_cons,List.length_nil];omega)
    refine⟨r,fun m hm=> ?_⟩
    obtain⟨m,rfl⟩:∃j,m=j+1:=⟨m-1,by omega⟩
    simp only[pe,um]
    rw[show decide (0<k)=true by simp;omega,cond_true,show jL (1+t.length)=some () by unfold jL;rw[if_pos (by omega)]]
    simp only[Option.bind_some,hw]
    exact aD m (by omega)
   ·refine⟨[109]++t,fun m hm=> ?_⟩
    obtain⟨m,rfl⟩:∃j,m=j+1:=⟨m-1,by omega⟩
    simp only[pe,um]
    rw[show decide (0<k)=false by simp;omega,cond_false,show jL (1+t.length)=some () by unfold jL;rw[if_pos (by omega)]]
    rfl
 unfold uo
 by_cases al:k≤0
 ·exact⟨_,by rw[show decide (k≤0)=true by simpa using al];rfl⟩
 ·obtain⟨r,aD⟩:=key k.toNat k bm (by omega) (by omega) [] (by simp only[List.length_nil];omega)
  exact⟨r,by rw[show decide (k≤0)=false by simp;omega,cond_false];exact iQ (k.toNat+1) fun m hm=>aD m (by omega)⟩
theorem GZ (x:List (List UInt8)) (k:Int) (bm:0≤k) (R:k+64*(iq List.length x)≤1099511627776):∃(b6:List (List UInt8)) (c:Nat),c≤64*(iq List.length x)∧uq x k=some (k+(c:Int),b6)∧ur b6 k=some (k+(c:Int)):=by
 unfold uq ur
 have e:fq (fun x=>64*(x.length+1)) x=64*iq List.length x:=GV List.length x
 have hl:x.length≤iq List.length x:=xx _ _
 obtain⟨b6,c,ab,ad,aB⟩:=Z_ (l:=qq) (hl:=qt) (fun x=>64*(x.length+1)) (fun m v k=>by simp only[qq,w3];rw[im (Nat.le_refl _)];rfl) (fun a m k=>by simp only[qt,w6];rw[im (Nat.le_refl _)];rfl) (fun x k bm R=>by
  obtain⟨s1,t1⟩:=aae k (by omega) (by omega)
  have tK:IntKind.i64.wrap (k+1)=k+1:=dq _ (by omega)
  refine⟨s1,1,by omega,fun m d r ae=>⟨?_,?_⟩⟩
  ·simp only[qq,w3]
   rw[AX]
   simp only[cond_true,AW,GU,Option.bind_some,t1,tK]
   rw[AY ae]
   rw[show((k+1):Int)=k+((1:Nat):Int) by omega]
  ·simp only[qt,w6]
   rw[AX]
   simp only[cond_true,cond_false,AW,Option.bind_some,bne_self_eq_false,beq_self_eq_true,Bool.not_true,t1,tK]
   rw[AY ae]
   rw[show((k+1):Int)=k+((1:Nat):Int) by omega]) x k bm (by omega) (by omega)
 exact⟨b6,c,by omega,ad,aB⟩
theorem aaf (x:List Int) (k:Int) (bm:0≤k) (R:k+64*(x.length+0)≤1099511627776):∃(b6:List Int) (c:Nat),c≤64*(x.length+0)∧w5 x k=some (k+(c:Int),b6):=by
 unfold w5
 have e:fq (fun _=>64) x=64*x.length:=GW 64 x
 obtain⟨b6,c,ab,ad⟩:=Z9 (l:=qs) (fun _=>64) (fun m v k=>by simp only[qs,w4];rw[im (Nat.le_refl _)];rfl) (fun x k bm R=>by
  have tK:IntKind.i64.wrap (k+1)=k+1:=dq _ (by omega)
  refine⟨k,1,by omega,fun m d r ae=> ?_⟩
  simp only[qs,w4]
  rw[AX]
  simp only[cond_true,AW,GU,Option.bind_some,tK]
  rw[AY ae]
  rw[show((k+1):Int)=k+((1:Nat):Int) by omega]) x k bm (by omega) (by omega)
 exact⟨b6,c,by omega,ad⟩
end Go.ff
