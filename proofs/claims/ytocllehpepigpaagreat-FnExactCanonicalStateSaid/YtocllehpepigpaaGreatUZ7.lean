/- Part of a proof that a law returns true for every input. No condition. -/
import Derived.Test.YtocllehpepigpaaGreatUZ6
namespace Go.eN
open Go Go.cZ
def kf (x y:aW):Prop:=gY x y≤0
theorem aC1 {v:List aW} {x:aW} {k:Nat} (aM:v.Pairwise kf) (hk:k≤v.length) (g2:∀j (b_:j<v.length),k≤j→gY x v[j]<0) (g3:∀(h:k-1<v.length),0<k→0≤gY x v[k-1]):(v.take k++x::v.drop k).Pairwise kf:=by
 rw[List.pairwise_append]
 have aw:∀y∈v.take k,kf y x:=by
  intro y bt
  obtain⟨j,b_,rfl⟩:=List.mem_iff_getElem.1 bt
  rw[List.length_take]at b_
  rw[List.getElem_take]
  have h1:=g3 (by omega) (by omega)
  have ah:gY v[k-1] x≤0:=by have:=py x v[k-1];omega
  by_cases e:j=k-1
  ·subst e;exact ah
  ·have aC:kf v[j] v[k-1]:=(List.pairwise_iff_getElem.1 aM) j (k-1) (by omega) (by omega) (by omega)
   exact wW aC ah
 have bt:∀y∈v.drop k,kf x y:=by
  intro y bt
  obtain⟨j,b_,rfl⟩:=List.mem_iff_getElem.1 bt
  rw[List.length_drop]at b_
  rw[List.getElem_drop]
  have:=g2 (k+j) (by omega) (by omega)
  unfold kf;omega
 refine⟨aM.sublist (List.take_sublist _ _),?_,?_⟩
 ·rw[List.pairwise_cons]
  exact⟨bt,aM.sublist (List.drop_sublist _ _)⟩
 ·intro a cE b ae
  rcases List.mem_cons.1 ae with rfl|ae
  ·exact aw a cE
  ·exact wW (aw a cE) (bt b ae)
theorem aC2 (v:List aW) (x:aW) (k:Nat):(v.take k++x::v.drop k).Perm (x::v):=by
 have h1:(v.take k++x::v.drop k).Perm (x::(v.take k++v.drop k)):=List.perm_middle
 rwa [List.take_append_drop]at h1
theorem aC3 {k10:List aW→Int→Option (List aW)} {a0 af:List aW} {i:Nat} (ao:i<af.length) (aw:af[i].bS.length≤1099511627776) (v:List aW) (aM:v.length≤1048576) (ag:v.Pairwise kf):
  ∃w,w.Pairwise kf∧w.Perm (af[i]::v)∧(lim fun n=>q2 k10 a0 af n v (i:Int) (v.length:Int))=k10 w (IntKind.i64.wrap ((i:Int)+1)):=by
 obtain⟨k,cB,cu,je,_⟩:=Rn (k10:=k10) (a0:=a0) ao aw v aM v.length (v.length+1) (Nat.le_refl _) (by omega) (fun j b_ h=>by omega)
 refine⟨v.take k++af[i]::v.drop k,aC1 ag cB cu je,aC2 v _ k,iX (v.length+1) fun n a6=> ?_⟩
 obtain⟨cW,d1,d2,d3,d4⟩:=Rn (k10:=k10) (a0:=a0) ao aw v aM v.length n (Nat.le_refl _) (by omega) (fun j b_ h=>by omega)
 have:cW=k:=by
  rcases Nat.lt_trichotomy cW k with h|h|h
  ·have h1:=je (by omega) (by omega)
   have ah:=d2 (k-1) (by omega) (by omega)
   omega
  ·exact h
  ·have h1:=d3 (by omega) (by omega)
   have ah:=cu (cW-1) (by omega) (by omega)
   omega
 subst this
 exact d4
theorem aC4 (a0 af:List aW) (hl:af.length≤1048576) (aw:∀p∈af,p.bS.length≤1099511627776):∃r,(lim fun n=>kH a0 af n [] 0)=some r∧r.Pairwise kf∧r.Perm af:=by
 have key:∀i,i≤af.length→∀(v:List aW),v.Pairwise kf→v.Perm (af.take i)→∃r,r.Pairwise kf∧r.Perm af∧∀m,af.length-i<m→kH a0 af m v (i:Int)=some r:=by
  refine down af.length ?_ ?_
  ·intro v ag au
   rw[List.take_length]at au
   refine⟨v,ag,au,fun m hm=> ?_⟩
   obtain⟨m,rfl⟩:∃q,m=q+1:=⟨m-1,by omega⟩
   simp only[kH,CZ]
   rw[fq (Nat.le_refl _)];rfl
  ·intro i ao ih v ag au
   have rM:v.length≤1048576:=by have:=au.length_eq;rw[List.length_take]at this;omega
   have hk:∀m,∃w,w.Pairwise kf∧w.Perm (af[i]::v)∧kH a0 af (m+1) v (i:Int)=kH a0 af m w ((i+1:Nat):Int):=fun m=>by
    obtain⟨w,fe,gg,mJ⟩:=aC3 (k10:=kH a0 af m) (a0:=a0) ao (aw _ (List.getElem_mem ao)) v rM ag
    refine⟨w,fe,gg,?_⟩
    simp only[kH,CZ]
    rw[gP ao,cond_true,mJ,gA i _ ao (by omega)]
   have uniq:∀w aG:List aW,w.Pairwise kf→aG.Pairwise kf→w.Perm aG→w=aG:=fun w aG h1 ah aC=>
    List.Perm.eq_of_pairwise (le:=kf) (fun a b _ _ h1 ah=>Ac.1 (by unfold kf at h1 ah;have:=py a b;omega)) h1 ah aC
   obtain⟨w,fe,gg,_⟩:=hk 0
   have yn:w.Perm (af.take (i+1)):=by
    rw[List.take_succ_eq_append_getElem ao]
    exact gg.trans ((au.cons _).trans (List.perm_append_comm (l₁:=[af[i]])))
   obtain⟨r,dw,bg,di⟩:=ih w fe yn
   refine⟨r,dw,bg,fun m hm=> ?_⟩
   obtain⟨m,rfl⟩:∃q,m=q+1:=⟨m-1,by omega⟩
   obtain⟨aG,aC5,aC6,aC7⟩:=hk m
   rw[aC7,uniq aG w aC5 fe (aC6.trans gg.symm)]
   exact di m (by omega)
 obtain⟨r,dw,bg,di⟩:=key 0 (Nat.zero_le _) [] List.Pairwise.nil (by simp)
 exact⟨r,iX (af.length+1) fun m hm=>di m (by omega),dw,bg⟩
theorem aC8 {w aG:List aW} (h1:w.Pairwise kf) (ah:aG.Pairwise kf) (aC:w.Perm aG):w=aG:=
 List.Perm.eq_of_pairwise (le:=kf) (fun a b _ _ h1 ah=>Ac.1 (by unfold kf at h1 ah;have:=py a b;omega)) h1 ah aC
theorem aC9 (a:List aW) (df:a≠[]) (hl:a.length≤1048576) (aw:∀p∈a,p.bS.length≤1099511627776):∃r,wP a=some r∧r.Pairwise kf∧r.Perm a:=by
 unfold wP
 rw[if_pos ⟨df,by omega,List.all_eq_true.2 fun p au=>decide_eq_true (aw p au)⟩]
 have e:a.mergeSort (fun x y=>decide (zE x y≤0))=a.mergeSort (fun x y=>decide (gY x y≤0)):=by
  have:=List.map_mergeSort (r:=fun x y=>decide (zE x y≤0)) (s:=fun x y=>decide (gY x y≤0)) (f:=id) (l:=a) (fun x rG y _=>by
   unfold zE
   rw[H9 x y (aw x rG)];rfl)
  simpa using this
 rw[e]
 refine⟨_,rfl,?_,List.mergeSort_perm _ _⟩
 refine(List.pairwise_mergeSort (le:=fun x y=>decide (gY x y≤0)) (fun x y z h1 ah=> ?_) (fun x y=> ?_) a).imp fun {x y} h=>by simpa [kf]using h
 ·simp only[decide_eq_true_eq]at h1 ah⊢
  exact wW h1 ah
 ·have:=py x y
  simp only[Bool.or_eq_true,decide_eq_true_eq]
  omega
end Go.eN
