/- Part of a proof that a law returns true for every input. No condition. -/
import Derived.Test.YtpddiknnnoomoaaUG
namespace Go.eF
open Go Go.bV
theorem Cf {α:Type} (d:List α) (x:α) (r:List α):c7 (d++x::r) (d.length:Int)=some x:=by
 rw[p2 _ _ (by simp)];simp
theorem OQ {α:Type} (d:List α) (x y:α) (r:List α):List.set (d++x::r) (Int.toNat (d.length:Int)) y=d++y::r:=by
 simp
theorem OR {k:Int} (h:0≤k):decide (k<0)=false:=by simp;omega
theorem Cg {α:Type} (d:List α) (x:α) (r:List α):decide ((d.length:Int)<((d++x::r).length:Int))=true:=by simp;omega
theorem Ch {α:Type} {d:List α} (h:d.length≤1099511627776):IntKind.i64.wrap ((d.length:Int)+1)=((d.length+1:Nat):Int):=by rw[fp _ (by omega)];omega
theorem Ci {α:Type} (f:α→Nat):∀a:List α,jg (fun x=>64*(f x+1)) a=64*kB f a
 |[]=>rfl
 |x::r=>by
  have:=Ci f r
  unfold kB at this⊢
  simp only[jg,List.length_cons];omega
theorem OS {α:Type} {l:Nat→List α→Int→Int→Option (Int×List α)} {hl:List α→Nat→Int→Int→Option Int} (w:α→Nat) (bI:∀m (v:List α) k,l (m+1) v k (v.length:Int)=some (k,v))
  (dI:∀(a:List α) m k,hl a (m+1) k (a.length:Int)=some k)
  (R:∀x (k:Int),0≤k→k+w x≤1099511627776→∃b1 c,c≤w x∧∀m (d r:List α),d.length≤1099511627776→l (m+1) (d++x::r) k (d.length:Int)=l m (d++b1::r) (k+(c:Nat)) ((d.length+1:Nat):Int)∧
   hl (d++b1::r) (m+1) k (d.length:Int)=hl (d++b1::r) m (k+(c:Nat)) ((d.length+1:Nat):Int))
  (a:List α) (k:Int) (ai:0≤k) (Cj:a.length≤1099511627776) (I:k+jg w a≤1099511627776):∃bM c,c≤jg w a∧fU (fun n=>l n a k 0)=some (k+(c:Nat),bM)∧fU (fun n=>hl bM n k 0)=some (k+(c:Nat)):=by
 have key:∀(r:List α) (k:Int),0≤k→k+jg w r≤1099511627776→∃fy c,c≤jg w r∧fy.length=r.length∧∀(d:List α) (m:Nat),d.length+r.length≤1099511627776→r.length<m→l m (d++r) k (d.length:Int)=some (k+(c:Nat),d++fy)∧
   hl (d++fy) m k (d.length:Int)=some (k+(c:Nat)):=by
  intro r
  induction r with
  |nil=>
   intro k _ _
   refine⟨[],0,Nat.le_refl _,rfl,fun d m _ hm=> ?_⟩
   obtain⟨m,rfl⟩:∃ad,m=ad+1:=⟨m-1,by omega⟩
   rw[List.append_nil,bI,dI];simp
  |cons x r ih=>
   intro k U aa
   simp only[jg]at aa
   obtain⟨b1,c,bz,bA⟩:=R x k U (by omega)
   obtain⟨fy,yq,aE,bb,aL⟩:=ih (k+c) (by omega) (by omega)
   refine⟨b1::fy,c+yq,by simp only[jg];omega,by simp only[List.length_cons,bb],fun d m ab hm=> ?_⟩
   simp only[List.length_cons]at ab hm
   obtain⟨m,rfl⟩:∃ad,m=ad+1:=⟨m-1,by omega⟩
   rw[(bA m d r (by omega)).1,(bA m d fy (by omega)).2]
   have:=aL (d++[b1]) m (by simp only[List.length_append,List.length_cons,List.length_nil];omega) (by omega)
   simp only[List.length_append,List.length_cons,List.length_nil,List.append_assoc,List.cons_append,List.nil_append,Nat.zero_add]at this
   rw[this.1,this.2]
   simp only[Option.some.injEq,Prod.mk.injEq,and_true]
   exact⟨by omega,by omega⟩
 obtain⟨bM,c,aE,bb,aL⟩:=key a k ai I
 refine⟨bM,c,aE,jh (a.length+1) fun m hm=> ?_,jh (a.length+1) fun m hm=> ?_⟩
 ·have:=(aL [] m (by simpa using Cj) (by omega)).1
  simpa using this
 ·have:=(aL [] m (by simpa using Cj) (by omega)).2
  simpa using this
end Go.eF
