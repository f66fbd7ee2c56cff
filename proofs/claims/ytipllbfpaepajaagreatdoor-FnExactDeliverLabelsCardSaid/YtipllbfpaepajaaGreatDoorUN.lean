/- Part of a proof that a law returns true for every input. No condition. -/
import Derived.Test.YtipllbfpaepajaaGreatDoorUG
namespace Go.ff
open Go Go.ca
theorem AW {α:Type} (d:List α) (x:α) (r:List α):cD (d++x::r) (d.length:Int)=some x:=by
 rw[gJ _ _ (by simp)];simp
theorem GU {α:Type} (d:List α) (x y:α) (r:List α):List.set (d++x::r) (Int.toNat (d.length:Int)) y=d++y::r:=by
 simp
theorem AX {α:Type} (d:List α) (x:α) (r:List α):decide ((d.length:Int)<((d++x::r).length:Int))=true:=by simp;omega
theorem AY {α:Type} {d:List α} (h:d.length≤1099511627776):IntKind.i64.wrap ((d.length:Int)+1)=((d.length+1:Nat):Int):=by rw[dq _ (by omega)];omega
theorem GV {α:Type} (f:α→Nat):∀a:List α,fq (fun x=>64*(f x+1)) a=64*iq f a
 |[]=>rfl
 |x::r=>by
  have:=GV f r
  unfold iq at this⊢
  simp only[fq,List.length_cons];omega
theorem GW {α:Type} (n:Nat):∀a:List α,fq (fun _=>n) a=n*a.length
 |[]=>rfl
 |x::r=>by simp only[fq,GW n r,List.length_cons,Nat.mul_add];omega
theorem Z9 {α:Type} {l:Nat→List α→Int→Int→Option (Int×List α)} (w:α→Nat) (bm:∀m (v:List α) k,l (m+1) v k (v.length:Int)=some (k,v))
  (U:∀x (k:Int),0≤k→k+w x≤1099511627776→∃b6 c,c≤w x∧∀m (d r:List α),d.length≤1099511627776→l (m+1) (d++x::r) k (d.length:Int)=l m (d++b6::r) (k+(c:Nat)) ((d.length+1:Nat):Int))
  (a:List α) (k:Int) (al:0≤k) (hl:a.length≤1099511627776) (R:k+fq w a≤1099511627776):∃bU c,c≤fq w a∧dG (fun n=>l n a k 0)=some (k+(c:Nat),bU):=by
 have key:∀(r:List α) (k:Int),0≤k→k+fq w r≤1099511627776→∃fl c,c≤fq w r∧∀(d:List α) (m:Nat),d.length+r.length≤1099511627776→r.length<m→l m (d++r) k (d.length:Int)=some (k+(c:Nat),d++fl):=by
  intro r
  induction r with
  |nil=>
   intro k _ _
   refine⟨[],0,Nat.le_refl _,fun d m _ hm=> ?_⟩
   obtain⟨m,rfl⟩:∃j,m=j+1:=⟨m-1,by omega⟩
   rw[List.append_nil,bm];simp
  |cons x r ih=>
   intro k ab ad
   simp only[fq]at ad
   obtain⟨b6,c,bJ,c2⟩:=U x k ab (by omega)
   obtain⟨fl,pQ,aH,aJ⟩:=ih (k+c) (by omega) (by omega)
   refine⟨b6::fl,c+pQ,by simp only[fq];omega,fun d m ae hm=> ?_⟩
   simp only[List.length_cons]at ae hm
   obtain⟨m,rfl⟩:∃j,m=j+1:=⟨m-1,by omega⟩
   rw[c2 m d r (by omega)]
   have:=aJ (d++[b6]) m (by simp only[List.length_append,List.length_cons,List.length_nil];omega) (by omega)
   simp only[List.length_append,List.length_cons,List.length_nil,List.append_assoc,List.cons_append,List.nil_append,Nat.zero_add]at this
   rw[this]
   simp only[Option.some.injEq,Prod.mk.injEq,and_true]
   omega
 obtain⟨bU,c,aH,aJ⟩:=key a k al R
 refine⟨bU,c,aH,iQ (a.length+1) fun m hm=> ?_⟩
 have:=aJ [] m (by simpa using hl) (by omega)
 simpa using this
theorem Z_ {α:Type} {l:Nat→List α→Int→Int→Option (Int×List α)} {hl:List α→Nat→Int→Int→Option Int} (w:α→Nat) (bm:∀m (v:List α) k,l (m+1) v k (v.length:Int)=some (k,v))
  (g0:∀(a:List α) m k,hl a (m+1) k (a.length:Int)=some k)
  (U:∀x (k:Int),0≤k→k+w x≤1099511627776→∃b6 c,c≤w x∧∀m (d r:List α),d.length≤1099511627776→l (m+1) (d++x::r) k (d.length:Int)=l m (d++b6::r) (k+(c:Nat)) ((d.length+1:Nat):Int)∧
   hl (d++b6::r) (m+1) k (d.length:Int)=hl (d++b6::r) m (k+(c:Nat)) ((d.length+1:Nat):Int))
  (a:List α) (k:Int) (al:0≤k) (GX:a.length≤1099511627776) (R:k+fq w a≤1099511627776):∃bU c,c≤fq w a∧dG (fun n=>l n a k 0)=some (k+(c:Nat),bU)∧dG (fun n=>hl bU n k 0)=some (k+(c:Nat)):=by
 have key:∀(r:List α) (k:Int),0≤k→k+fq w r≤1099511627776→∃fl c,c≤fq w r∧fl.length=r.length∧∀(d:List α) (m:Nat),d.length+r.length≤1099511627776→r.length<m→l m (d++r) k (d.length:Int)=some (k+(c:Nat),d++fl)∧
   hl (d++fl) m k (d.length:Int)=some (k+(c:Nat)):=by
  intro r
  induction r with
  |nil=>
   intro k _ _
   refine⟨[],0,Nat.le_refl _,rfl,fun d m _ hm=> ?_⟩
   obtain⟨m,rfl⟩:∃j,m=j+1:=⟨m-1,by omega⟩
   rw[List.append_nil,bm,g0];simp
  |cons x r ih=>
   intro k ab ad
   simp only[fq]at ad
   obtain⟨b6,c,bJ,c2⟩:=U x k ab (by omega)
   obtain⟨fl,pQ,aH,aK,aJ⟩:=ih (k+c) (by omega) (by omega)
   refine⟨b6::fl,c+pQ,by simp only[fq];omega,by simp only[List.length_cons,aK],fun d m ae hm=> ?_⟩
   simp only[List.length_cons]at ae hm
   obtain⟨m,rfl⟩:∃j,m=j+1:=⟨m-1,by omega⟩
   rw[(c2 m d r (by omega)).1,(c2 m d fl (by omega)).2]
   have:=aJ (d++[b6]) m (by simp only[List.length_append,List.length_cons,List.length_nil];omega) (by omega)
   simp only[List.length_append,List.length_cons,List.length_nil,List.append_assoc,List.cons_append,List.nil_append,Nat.zero_add]at this
   rw[this.1,this.2]
   simp only[Option.some.injEq,Prod.mk.injEq,and_true]
   exact⟨by omega,by omega⟩
 obtain⟨bU,c,aH,aK,aJ⟩:=key a k al R
 refine⟨bU,c,aH,iQ (a.length+1) fun m hm=> ?_,iQ (a.length+1) fun m hm=> ?_⟩
 ·have:=(aJ [] m (by simpa using GX) (by omega)).1
  simpa using this
 ·have:=(aJ [] m (by simpa using GX) (by omega)).2
  simpa using this
end Go.ff
