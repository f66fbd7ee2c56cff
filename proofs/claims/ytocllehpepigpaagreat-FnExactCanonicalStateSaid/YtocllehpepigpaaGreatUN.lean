/- Part of a proof that a law returns true for every input. No condition. -/
import Derived.Test.YtocllehpepigpaaGreatUG
namespace Go.eN
open Go Go.cZ
theorem pD {α:Type} (d:List α) (x:α) (r:List α):bF (d++x::r) (d.length:Int)=some x:=by
 rw[gm _ _ (by simp)];simp
theorem rh {α:Type} (d:List α) (x y:α) (r:List α):List.set (d++x::r) (Int.toNat (d.length:Int)) y=d++y::r:=by
 simp
theorem IW {k:Int} (h:0≤k):decide (k<0)=false:=by simp;omega
theorem pE {α:Type} (d:List α) (x:α) (r:List α):decide ((d.length:Int)<((d++x::r).length:Int))=true:=by simp;omega
theorem pF {α:Type} {d:List α} (h:d.length≤1099511627776):IntKind.i64.wrap ((d.length:Int)+1)=((d.length+1:Nat):Int):=by rw[fl _ (by omega)];omega
theorem sy {α:Type} (f:α→Nat):∀a:List α,gB (fun x=>64*(f x+1)) a=64*dm f a
 |[]=>rfl
 |x::r=>by
  have:=sy f r
  unfold dm at this⊢
  simp only[gB,List.length_cons];omega
theorem IX {α:Type} (n:Nat):∀a:List α,gB (fun _=>n) a=n*a.length
 |[]=>rfl
 |x::r=>by simp only[gB,IX n r,List.length_cons,Nat.mul_add];omega
theorem uT {α:Type} {l:Nat→List α→Int→Int→Option (Int×List α)} (w:α→Nat) (bf:∀m (v:List α) k,l (m+1) v k (v.length:Int)=some (k,v))
  (ag:∀x (k:Int),0≤k→k+w x≤1099511627776→∃cz c,c≤w x∧∀m (d r:List α),d.length≤1099511627776→l (m+1) (d++x::r) k (d.length:Int)=l m (d++cz::r) (k+(c:Nat)) ((d.length+1:Nat):Int))
  (a:List α) (k:Int) (hk:0≤k) (hl:a.length≤1099511627776) (ae:k+gB w a≤1099511627776):∃c4 c,c≤gB w a∧lim (fun n=>l n a k 0)=some (k+(c:Nat),c4):=by
 have key:∀(r:List α) (k:Int),0≤k→k+gB w r≤1099511627776→∃gU c,c≤gB w r∧∀(d:List α) (m:Nat),d.length+r.length≤1099511627776→r.length<m→l m (d++r) k (d.length:Int)=some (k+(c:Nat),d++gU):=by
  intro r
  induction r with
  |nil=>
   intro k _ _
   refine⟨[],0,Nat.le_refl _,fun d m _ hm=> ?_⟩
   obtain⟨m,rfl⟩:∃j,m=j+1:=⟨m-1,by omega⟩
   rw[List.append_nil,bf];simp
  |cons x r ih=>
   intro k h1 ah
   simp only[gB]at ah
   obtain⟨cz,c,cB,cu⟩:=ag x k h1 (by omega)
   obtain⟨gU,x1,aS,aZ⟩:=ih (k+c) (by omega) (by omega)
   refine⟨cz::gU,c+x1,by simp only[gB];omega,fun d m aj hm=> ?_⟩
   simp only[List.length_cons]at aj hm
   obtain⟨m,rfl⟩:∃j,m=j+1:=⟨m-1,by omega⟩
   rw[cu m d r (by omega)]
   have:=aZ (d++[cz]) m (by simp only[List.length_append,List.length_cons,List.length_nil];omega) (by omega)
   simp only[List.length_append,List.length_cons,List.length_nil,List.append_assoc,List.cons_append,List.nil_append,Nat.zero_add]at this
   rw[this]
   simp only[Option.some.injEq,Prod.mk.injEq,and_true]
   omega
 obtain⟨c4,c,aS,aZ⟩:=key a k hk ae
 refine⟨c4,c,aS,iX (a.length+1) fun m hm=> ?_⟩
 have:=aZ [] m (by simpa using hl) (by omega)
 simpa using this
theorem Qu {α:Type} {l:Nat→List α→Int→Int→Option (Int×List α)} {hl:List α→Nat→Int→Int→Option Int} (w:α→Nat) (bf:∀m (v:List α) k,l (m+1) v k (v.length:Int)=some (k,v))
  (g0:∀(a:List α) m k,hl a (m+1) k (a.length:Int)=some k)
  (ag:∀x (k:Int),0≤k→k+w x≤1099511627776→∃cz c,c≤w x∧∀m (d r:List α),d.length≤1099511627776→l (m+1) (d++x::r) k (d.length:Int)=l m (d++cz::r) (k+(c:Nat)) ((d.length+1:Nat):Int)∧
   hl (d++cz::r) (m+1) k (d.length:Int)=hl (d++cz::r) m (k+(c:Nat)) ((d.length+1:Nat):Int))
  (a:List α) (k:Int) (hk:0≤k) (Qv:a.length≤1099511627776) (ae:k+gB w a≤1099511627776):∃c4 c,c≤gB w a∧lim (fun n=>l n a k 0)=some (k+(c:Nat),c4)∧lim (fun n=>hl c4 n k 0)=some (k+(c:Nat)):=by
 have key:∀(r:List α) (k:Int),0≤k→k+gB w r≤1099511627776→∃gU c,c≤gB w r∧gU.length=r.length∧∀(d:List α) (m:Nat),d.length+r.length≤1099511627776→r.length<m→l m (d++r) k (d.length:Int)=some (k+(c:Nat),d++gU)∧
   hl (d++gU) m k (d.length:Int)=some (k+(c:Nat)):=by
  intro r
  induction r with
  |nil=>
   intro k _ _
   refine⟨[],0,Nat.le_refl _,rfl,fun d m _ hm=> ?_⟩
   obtain⟨m,rfl⟩:∃j,m=j+1:=⟨m-1,by omega⟩
   rw[List.append_nil,bf,g0];simp
  |cons x r ih=>
   intro k h1 ah
   simp only[gB]at ah
   obtain⟨cz,c,cB,cu⟩:=ag x k h1 (by omega)
   obtain⟨gU,x1,aS,aQ,aZ⟩:=ih (k+c) (by omega) (by omega)
   refine⟨cz::gU,c+x1,by simp only[gB];omega,by simp only[List.length_cons,aQ],fun d m aj hm=> ?_⟩
   simp only[List.length_cons]at aj hm
   obtain⟨m,rfl⟩:∃j,m=j+1:=⟨m-1,by omega⟩
   rw[(cu m d r (by omega)).1,(cu m d gU (by omega)).2]
   have:=aZ (d++[cz]) m (by simp only[List.length_append,List.length_cons,List.length_nil];omega) (by omega)
   simp only[List.length_append,List.length_cons,List.length_nil,List.append_assoc,List.cons_append,List.nil_append,Nat.zero_add]at this
   rw[this.1,this.2]
   simp only[Option.some.injEq,Prod.mk.injEq,and_true]
   exact⟨by omega,by omega⟩
 obtain⟨c4,c,aS,aQ,aZ⟩:=key a k hk ae
 refine⟨c4,c,aS,iX (a.length+1) fun m hm=> ?_,iX (a.length+1) fun m hm=> ?_⟩
 ·have:=(aZ [] m (by simpa using Qv) (by omega)).1
  simpa using this
 ·have:=(aZ [] m (by simpa using Qv) (by omega)).2
  simpa using this
end Go.eN
