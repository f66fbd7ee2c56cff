/- Part of a proof that a law returns true for every input. No condition. -/
import Derived.Test.YtocllehpepigpaaGreatUZ5
namespace Go.eN
open Go Go.cZ
theorem Rl (a b:List Int) (h:a.length≤1099511627776):zk a b=some (hM a b):=by
 unfold zk
 have aj:∀(i:Nat),(decide ((i:Int)<(a.length:Int))&&decide ((i:Int)<(b.length:Int)))=decide (i<min a.length b.length):=fun i=>by
  rw[Bool.eq_iff_iff,Bool.and_eq_true,decide_eq_true_eq,decide_eq_true_eq,decide_eq_true_eq];omega
 rw[ra (n:=min a.length b.length) (l:=tS a b) (fun i=>some (hM (a.drop i) (b.drop i))) (fun m=> ?_) (fun i ao m ih=> ?_),List.drop_zero,List.drop_zero]
 ·simp only[tS,CX]
  rw[aj,show decide (min a.length b.length<min a.length b.length)=false from decide_eq_false (by omega),cond_false]
  by_cases h1:a.length<b.length
  ·rw[show decide ((a.length:Int)<(b.length:Int))=true from decide_eq_true (by omega),cond_true,Nat.min_eq_left (by omega),List.drop_of_length_le (Nat.le_refl _),drop_cons b _ h1];rfl
  ·rw[show decide ((a.length:Int)<(b.length:Int))=false from decide_eq_false (by omega),cond_false]
   by_cases ah:b.length<a.length
   ·rw[show decide ((b.length:Int)<(a.length:Int))=true from decide_eq_true (by omega),cond_true,Nat.min_eq_right (by omega),List.drop_of_length_le (l:=b) (Nat.le_refl _),drop_cons a _ ah];rfl
   ·rw[show decide ((b.length:Int)<(a.length:Int))=false from decide_eq_false (by omega),cond_false,List.drop_of_length_le (l:=a) (by omega),List.drop_of_length_le (l:=b) (by omega)];rfl
 ·have h1:i<a.length:=by omega
  have ah:i<b.length:=by omega
  simp only[tS,CX]
  rw[aj,show decide (i<min a.length b.length)=true from decide_eq_true ao,cond_true,gm _ i h1,gm _ i ah,gA i _ h1 (by omega),drop_cons a i h1,drop_cons b i ah,hM]
  simp only[Option.bind_some,ih]
  unfold hB
  by_cases aS:a[i]<b[i]
  ·simp[aS]
  ·by_cases aZ:b[i]<a[i]
   ·simp[aS,aZ]
   ·simp[aS,aZ]
theorem Rm (p q:aW) (h:p.bS.length≤1099511627776):CY p q=some (gY p q):=by
 unfold CY
 rw[Rl _ _ (by simp),Rl _ _ h]
 simp only[Option.bind_some]
 unfold gY
 simp only[hM]
 by_cases aS:hB p.cm q.cm=0
 ·rw[if_pos aS,if_pos aS]
  by_cases aZ:hB p.Part q.Part=0
  ·rw[if_pos aZ,if_pos aZ];rfl
  ·rw[if_neg aZ,if_neg aZ,show(hB p.Part q.Part !=0)=true by simpa using aZ];rfl
 ·rw[if_neg aS,if_neg aS,show(hB p.cm q.cm !=0)=true by simpa using aS];rfl
theorem aCY {k10:List aW→Int→Option (List aW)} {a0 af:List aW} {i:Nat} (ao:i<af.length) (v:List aW) (aM:v.length≤1048576) (k:Nat):
  ∀(d:Nat) (c:aW) (m:Nat),k+d≤v.length→d<m→
   pq k10 a0 af m (v.take (k+d)++c::v.drop (k+d)) (i:Int) (k:Int) ((k+d:Nat):Int)=k10 (v.take k++af[i]::v.drop k) (IntKind.i64.wrap ((i:Int)+1)):=by
 intro d
 induction d with
 |zero=>
  intro c m hk hm
  obtain⟨m,rfl⟩:∃q,m=q+1:=⟨m-1,by omega⟩
  have hl:(v.take k).length=k:=by rw[List.length_take];omega
  have b9:bF (v.take k++c::v.drop k) (k:Int)=some c:=by
   rw[gm _ k (by simp;omega)]
   simp[List.getElem_append_right,hl]
  simp only[pq,zl,Nat.add_zero]
  rw[show decide ((k:Int)<(k:Int))=false from decide_eq_false (by omega),cond_false,gm _ i ao,b9]
  simp only[Option.bind_some,Int.toNat_natCast]
  rw[List.set_append_right _ _ (by omega),hl,Nat.sub_self,List.set_cons_zero]
 |succ d ih=>
  intro c m hk hm
  obtain⟨m,rfl⟩:∃q,m=q+1:=⟨m-1,by omega⟩
  have b_:k+d<v.length:=by omega
  have hl:(v.take (k+(d+1))).length=k+(d+1):=by rw[List.length_take];omega
  have aCZ:bF (v.take (k+(d+1))++c::v.drop (k+(d+1))) ((k+d:Nat):Int)=some v[k+d]:=by
   rw[gm _ (k+d) (by simp;omega)]
   rw[List.getElem_append_left (by omega),List.getElem_take]
  have aC0:bF (v.take (k+(d+1))++c::v.drop (k+(d+1))) ((k+(d+1):Nat):Int)=some c:=by
   rw[gm _ (k+(d+1)) (by simp;omega)]
   simp[List.getElem_append_right,hl]
  simp only[pq,zl]
  rw[show decide ((k:Int)<((k+(d+1):Nat):Int))=true from decide_eq_true (by omega),cond_true,show IntKind.i64.wrap (((k+(d+1):Nat):Int)-1)=((k+d:Nat):Int)from by rw[fl _ (by omega)];omega,aCZ,aC0]
  simp only[Option.bind_some,Int.toNat_natCast]
  rw[List.set_append_right _ _ (by omega),hl,Nat.sub_self,List.set_cons_zero]
  have e:v.take (k+(d+1))++v[k+d]::v.drop (k+(d+1))=v.take (k+d)++v[k+d]::v.drop (k+d):=by
   rw[show k+(d+1)=(k+d)+1 from rfl,List.take_succ_eq_append_getElem b_,List.append_assoc,List.singleton_append,←drop_cons v (k+d) b_]
  rw[e]
  exact ih v[k+d] m (by omega) (by omega)
theorem Rn {k10:List aW→Int→Option (List aW)} {a0 af:List aW} {i:Nat} (ao:i<af.length) (aw:af[i].bS.length≤1099511627776) (v:List aW) (aM:v.length≤1048576):
  ∀(k m:Nat),k≤v.length→k<m→(∀j (b_:j<v.length),k≤j→gY af[i] v[j]<0)→
   ∃cW,cW≤v.length∧(∀j (b_:j<v.length),cW≤j→gY af[i] v[j]<0)∧(∀(h:cW-1<v.length),0<cW→0≤gY af[i] v[cW-1])∧
    q2 k10 a0 af m v (i:Int) (k:Int)=k10 (v.take cW++af[i]::v.drop cW) (IntKind.i64.wrap ((i:Int)+1)):=by
 have xn:∀k,k≤v.length→((room 40 (v.length+1)).bind fun _=>lim fun n=>pq k10 a0 af n (v++[(aW.mk 0 0 [])]) (i:Int) (k:Int) (IntKind.i64.wrap (((v++[(aW.mk 0 0 [])]).length:Int)-1)))=k10 (v.take k++af[i]::v.drop k) (IntKind.i64.wrap ((i:Int)+1)):=by
  intro k hk
  rw[AF (by omega) (by omega)]
  simp only[Option.bind_some]
  refine iX (v.length+1) fun n a6=> ?_
  have h1:=aCY (k10:=k10) (a0:=a0) ao v aM k (v.length-k) (aW.mk 0 0 []) n (by omega) (by omega)
  rw[show k+(v.length-k)=v.length by omega,List.take_length,List.drop_of_length_le (Nat.le_refl _)]at h1
  rw[show IntKind.i64.wrap (((v++[(aW.mk 0 0 [])]).length:Int)-1)=(v.length:Int)from by rw[fl _ (by simp;omega)];simp]
  exact h1
 intro k
 induction k with
 |zero=>
  intro m hk hm kR
  obtain⟨m,rfl⟩:∃q,m=q+1:=⟨m-1,by omega⟩
  refine⟨0,Nat.zero_le _,kR,fun _ h=>by omega,?_⟩
  simp only[q2,zm]
  rw[show decide ((0:Int)<((0:Nat):Int))=false from by decide,cond_false]
  exact xn 0 (Nat.zero_le _)
 |succ k ih=>
  intro m hk hm kR
  obtain⟨m,rfl⟩:∃q,m=q+1:=⟨m-1,by omega⟩
  have e:IntKind.i64.wrap (((k+1:Nat):Int)-1)=(k:Int):=by rw[fl _ (by omega)];omega
  by_cases aq:gY af[i] v[k]<0
  ·obtain⟨cW,g1,g2,g3,g4⟩:=ih m (by omega) (by omega) (fun j b_ aFM=>by
    rcases Nat.lt_or_ge k j with h|h
    ·exact kR j b_ (by omega)
    ·have:j=k:=by omega
     subst this;exact aq)
   refine⟨cW,g1,g2,g3,?_⟩
   simp only[q2,zm]
   rw[show decide ((0:Int)<((k+1:Nat):Int))=true from decide_eq_true (by omega),cond_true,gm _ i ao,e,gm v k (by omega)]
   simp only[Option.bind_some,Rm _ _ aw]
   rw[decide_eq_true aq,cond_true]
   exact g4
  ·refine⟨k+1,hk,kR,fun _ _=>by simpa using aq,?_⟩
   simp only[q2,zm]
   rw[show decide ((0:Int)<((k+1:Nat):Int))=true from decide_eq_true (by omega),cond_true,gm _ i ao,e,gm v k (by omega)]
   simp only[Option.bind_some,Rm _ _ aw]
   rw[decide_eq_false aq,cond_false]
   exact xn (k+1) hk
end Go.eN
