/- Part of a proof that a law returns true for every input. No condition. -/
import Derived.Test.YtpddiknnnoomoaaUG
namespace Go.fm
open Go Go.bZ
theorem Db {α:Type} (d:List α) (x:α) (r:List α):cX (d++x::r) (d.length:Int)=some x:=by
 rw[mc _ _ (by simp)];simp
theorem QX {α:Type} (d:List α) (x y:α) (r:List α):List.set (d++x::r) (Int.toNat (d.length:Int)) y=d++y::r:=by
 simp
theorem Dc {k:Int} (h:0≤k):decide (k<0)=false:=by simp;omega
theorem Dd {α:Type} (d:List α) (x:α) (r:List α):decide ((d.length:Int)<((d++x::r).length:Int))=true:=by simp;omega
theorem De {α:Type} {d:List α} (h:d.length≤1099511627776):IntKind.i64.wrap ((d.length:Int)+1)=((d.length+1:Nat):Int):=by rw[g8 _ (by omega)];omega
theorem Df {α:Type} (f:α→Nat):∀a:List α,gl (fun x=>64*(f x+1)) a=64*ep f a
 |[]=>rfl
 |x::r=>by
  have:=Df f r
  unfold ep at this⊢
  simp only[gl,List.length_cons];omega
theorem QY {α:Type} {l:Nat→List α→Int→Int→Option (Int×List α)} {hl:List α→Nat→Int→Int→Option Int} (w:α→Nat) (bu:∀m (v:List α) k,l (m+1) v k (v.length:Int)=some (k,v))
  (dL:∀(a:List α) m k,hl a (m+1) k (a.length:Int)=some k)
  (R:∀x (k:Int),0≤k→k+w x≤1099511627776→∃b6 c,c≤w x∧∀m (d r:List α),d.length≤1099511627776→l (m+1) (d++x::r) k (d.length:Int)=l m (d++b6::r) (k+(c:Nat)) ((d.length+1:Nat):Int)∧
   hl (d++b6::r) (m+1) k (d.length:Int)=hl (d++b6::r) m (k+(c:Nat)) ((d.length+1:Nat):Int))
  (a:List α) (k:Int) (al:0≤k) (Dg:a.length≤1099511627776) (I:k+gl w a≤1099511627776):∃bM c,c≤gl w a∧ft (fun n=>l n a k 0)=some (k+(c:Nat),bM)∧ft (fun n=>hl bM n k 0)=some (k+(c:Nat)):=by
 have key:∀(r:List α) (k:Int),0≤k→k+gl w r≤1099511627776→∃fq c,c≤gl w r∧fq.length=r.length∧∀(d:List α) (m:Nat),d.length+r.length≤1099511627776→r.length<m→l m (d++r) k (d.length:Int)=some (k+(c:Nat),d++fq)∧
   hl (d++fq) m k (d.length:Int)=some (k+(c:Nat)):=by
  intro r
  induction r with
  |nil=>
   intro k _ _
   refine⟨[],0,Nat.le_refl _,rfl,fun d m _ hm=> ?_⟩
   obtain⟨m,rfl⟩:∃ad,m=ad+1:=⟨m-1,by omega⟩
   rw[List.append_nil,bu,dL];simp
  |cons x r ih=>
   intro k U aa
   simp only[gl]at aa
   obtain⟨b6,c,bB,bF⟩:=R x k U (by omega)
   obtain⟨fq,y8,aG,a1,aL⟩:=ih (k+c) (by omega) (by omega)
   refine⟨b6::fq,c+y8,by simp only[gl];omega,by simp only[List.length_cons,a1],fun d m ab hm=> ?_⟩
   simp only[List.length_cons]at ab hm
   obtain⟨m,rfl⟩:∃ad,m=ad+1:=⟨m-1,by omega⟩
   rw[(bF m d r (by omega)).1,(bF m d fq (by omega)).2]
   have:=aL (d++[b6]) m (by simp only[List.length_append,List.length_cons,List.length_nil];omega) (by omega)
   simp only[List.length_append,List.length_cons,List.length_nil,List.append_assoc,List.cons_append,List.nil_append,Nat.zero_add]at this
   rw[this.1,this.2]
   simp only[Option.some.injEq,Prod.mk.injEq,and_true]
   exact⟨by omega,by omega⟩
 obtain⟨bM,c,aG,a1,aL⟩:=key a k al I
 refine⟨bM,c,aG,kz (a.length+1) fun m hm=> ?_,kz (a.length+1) fun m hm=> ?_⟩
 ·have:=(aL [] m (by simpa using Dg) (by omega)).1
  simpa using this
 ·have:=(aL [] m (by simpa using Dg) (by omega)).2
  simpa using this
end Go.fm
