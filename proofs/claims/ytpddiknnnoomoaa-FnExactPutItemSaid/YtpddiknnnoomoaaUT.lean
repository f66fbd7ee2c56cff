/- Part of a proof that a law returns true for every input. No condition. -/
import Derived.Test.YtpddiknnnoomoaaP4
import Derived.Test.YtpddiknnnoomoaaUN
namespace Go.fm
open Go Go.bZ
set_option linter.unusedSimpArgs false
def gX (x:eA):Nat:=(x.Name.length+(x.ck.length+0))
theorem Dh (x:eA) (n:Int) (ao:nO x) (bu:0≤n) (aR:n≤1048576):qn x n=some (ho n (gX x)):=by
 unfold qn
 unfold gX
 obtain⟨w0,oO⟩:=ao
 refine xW w0 (by omega) (by omega) fun kC=> ?_
 rw[g8 (n-(x.Name.length:Int)) (by omega)]
 refine xW oO (by omega) (by omega) fun bB=> ?_
 rw[g8 ((n-(x.Name.length:Int))-(x.ck.length:Int)) (by omega)]
 exact C8 (by omega)
theorem QZ (x:List eA) (n:Int) (ao:(x.length≤9223372036854775807∧∀y∈x,nO y)) (bu:0≤n) (aR:n≤1048576):tK x n=some (ho n (ep gX x)):=by
 unfold tK
 refine xW ao.1 bu aR fun h=> ?_
 rw[g8 _ (by omega)]
 exact QP (f:=qn) gX x (fun _ _ _=>rfl) (fun y aT n bu aR=>Dh y n (ao.2 y aT) bu aR) (by omega) _ (by omega) (by omega)
def gJ (x:eA):aP:=⟨x.Name,x.ck⟩
def eP (x:aP):Nat:=(x.Name.length+(x.ck.length+0))
theorem Di (x:eA):eP (gJ x)=gX x:=by
 simp only[eP,gX,gJ,Da,List.length_map]
theorem Dj (x:eA) (h:(gX x)≤1048576):nP x=some (gJ x):=by
 unfold nP
 unfold gX at h
 rfl
theorem Q0 (x:List eA) (h:(ep gX x)≤1048576):oR x=some (x.map gJ):=by
 unfold oR
 have hl:x.length≤1048576:=Nat.le_trans (uD _ _) h
 rw[QR _ hl (by decide)]
 simp only[Option.bind_some]
 rw[QQ (f:=nP) gJ x _ (fun _ _ _=>rfl) (fun y aT=>Dj y (Nat.le_trans (uE (f:=gX) aT) h)) hl]
theorem Q1 (x:aP) (h:(eP x)≤1048576):oV x x=some true:=by
 unfold oV
 unfold eP at h
 simp only[QT,QU,QV,cond_false,Option.bind_some,Bool.not_true]
theorem Q2 (x:List aP) (h:(ep eP x)≤1048576):l3 x x=some true:=by
 unfold l3
 have hl:x.length≤1048576:=Nat.le_trans (uD _ _) h
 rw[QW,cond_false]
 exact QS (f:=oV) x (fun _ _=>rfl) (fun y aT=>Q1 y (Nat.le_trans (uE (f:=eP) aT) h)) hl
theorem Dk (k:Int) (bu:0≤k) (I:k≤1099511627776):∃t,oW k=some t:=by
 have key:∀(n:Nat) (k:Int),0≤k→k≤n→n≤1099511627776→∀t:List UInt8,t.length+n≤1099511627776→∃r,∀m,n<m→nQ m k t=some r:=by
  intro n
  induction n with
  |zero=>
   intro k U aa aw t aM
   refine⟨[109]++t,fun m hm=> ?_⟩
   obtain⟨m,rfl⟩:∃ad,m=ad+1:=⟨m-1,by omega⟩
   simp only[nQ,sl]
   rw[show decide (0<k)=false by simp;omega,cond_false,show lo (1+t.length)=some () by unfold lo;rw[if_pos (by omega)]]
   rfl
  |succ n ih=>
   intro k U aa aw t aM
   by_cases al:0<k
   ·have ab:Int.tdiv k 10=k/10:=Int.tdiv_eq_ediv_of_nonneg U
    have hw:IntKind.i64.wrap (Int.tdiv k 10)=k/10:=by rw[ab];exact g8 _ (by omega)
    obtain⟨r,aB⟩:=ih (k/10) (by omega) (by omega) (by omega) ([(mg (IntKind.i64.wrap (48+(Int.tmod k 10))))]++t) (by simp only[List.length_append,List.length_cons,List.length_nil];omega)
    refine⟨r,fun m hm=> ?_⟩
    obtain⟨m,rfl⟩:∃ad,m=ad+1:=⟨m-1,by omega⟩
    simp only[nQ,sl]
    rw[show decide (0<k)=true by simp;omega,cond_true,show lo (1+t.length)=some () by unfold lo;rw[if_pos (by omega)]]
    simp only[Option.bind_some,hw]
    exact aB m (by omega)
   ·refine⟨[109]++t,fun m hm=> ?_⟩
    obtain⟨m,rfl⟩:∃ad,m=ad+1:=⟨m-1,by omega⟩
    simp only[nQ,sl]
    rw[show decide (0<k)=false by simp;omega,cond_false,show lo (1+t.length)=some () by unfold lo;rw[if_pos (by omega)]]
    rfl
 unfold oW
 by_cases al:k≤0
 ·exact⟨_,by rw[show decide (k≤0)=true by simpa using al];rfl⟩
 ·obtain⟨r,aB⟩:=key k.toNat k bu (by omega) (by omega) [] (by simp only[List.length_nil];omega)
  exact⟨r,by rw[show decide (k≤0)=false by simp;omega,cond_false];exact kz (k.toNat+1) fun m hm=>aB m (by omega)⟩
theorem Dl (x:List aP) (k:Int) (bu:0≤k) (I:k+64*(ep eP x)≤1099511627776):∃(b6:List aP) (c:Nat),c≤64*(ep eP x)∧sm x k=some (k+(c:Int),b6)∧sn b6 k=some (k+(c:Int)):=by
 unfold sm sn
 have e:gl (fun x=>64*((eP x)+1)) x=64*ep eP x:=Df eP x
 have hl:x.length≤ep eP x:=uD _ _
 obtain⟨b6,c,U,aa,aw⟩:=QY (l:=oX) (hl:=oY) (fun x=>64*((eP x)+1)) (fun m v k=>by simp only[oX,uf];rw[jV (Nat.le_refl _)];rfl) (fun a m k=>by simp only[oY,ug];rw[jV (Nat.le_refl _)];rfl) (fun x k bu I=>by
  simp only[eP]at I⊢
  obtain⟨s1,t1⟩:=Dk k (by omega) (by omega)
  have oO:IntKind.i64.wrap (k+1)=k+1:=g8 _ (by omega)
  obtain⟨s2,t2⟩:=Dk (k+1) (by omega) (by omega)
  have qi:IntKind.i64.wrap ((k+1)+1)=(k+1)+1:=g8 _ (by omega)
  refine⟨(aP.mk s1 s2),1+1,by omega,fun m d r ab=>⟨?_,?_⟩⟩
  ·simp only[oX,uf]
   rw[Dd]
   simp only[cond_true,Db,QX,Option.bind_some,t1,oO,t2,qi]
   rw[De ab]
   rw[show(((k+1)+1):Int)=k+((1+1:Nat):Int) by omega]
  ·simp only[oY,ug]
   rw[Dd]
   simp only[cond_true,cond_false,Db,Option.bind_some,bne_self_eq_false,beq_self_eq_true,Bool.not_true,t1,oO,t2,qi]
   rw[De ab]
   rw[show(((k+1)+1):Int)=k+((1+1:Nat):Int) by omega]) x k bu (by omega) (by omega)
 exact⟨b6,c,by omega,aa,aw⟩
end Go.fm
