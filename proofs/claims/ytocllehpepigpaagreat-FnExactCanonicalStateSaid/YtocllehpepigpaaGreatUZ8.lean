/- Part of a proof that a law returns true for every input. No condition. -/
import Derived.Test.YtocllehpepigpaaGreatUZ7
namespace Go.eN
open Go Go.cZ
theorem Ro {L:Nat→List aW→Int→Option (List aW)} (a:List aW) (bf:∀m v,L (m+1) v (a.length:Int)=some v)
  (ag:∀i (h:i<a.length) m v,v.length=i→L (m+1) v (i:Int)=L m (v++[a[i]]) ((i+1:Nat):Int)):lim (fun m=>L m [] 0)=some a:=by
 have key:∀i,i≤a.length→∀(v:List aW) m,v.length=i→a.length-i<m→L m v (i:Int)=some (v++a.drop i):=by
  refine down a.length ?_ ?_
  ·intro v m aM hm
   obtain⟨m,rfl⟩:∃j,m=j+1:=⟨m-1,by omega⟩
   rw[bf,List.drop_of_length_le (Nat.le_refl _),List.append_nil]
  ·intro i ao ih v m aM hm
   obtain⟨m,rfl⟩:∃j,m=j+1:=⟨m-1,by omega⟩
   rw[ag i ao m v aM,ih (v++[a[i]]) m (by simp[aM]) (by omega),drop_cons a i ao,List.append_assoc];rfl
 refine iX (a.length+1) fun m hm=> ?_
 have:=key 0 (by omega) [] m rfl (by omega)
 rwa [List.drop_zero,List.nil_append]at this
theorem aC_ (a:List Int) (h:a.length≤1099511627776):CU a=some a:=by
 unfold CU
 rw[AF (by omega) (by omega)];rfl
theorem aDa (a:List Int) (h:a.length≤1099511627776):Dx a=some a:=by
 unfold Dx
 rw[AF (by omega) (by omega)]
 cases a with
 |nil=>simp[both]
 |cons x r=>rfl
theorem aDb (a:List aW) (h:a.length≤1048576) (aM:∀p∈a,p.bS.length≤1048576):CW a=some a:=by
 unfold CW
 refine Ro (L:=tR a) a (fun m v=> ?_) (fun i ao m v rM=> ?_)
 ·simp only[tR,CV];rw[fq (Nat.le_refl _)];rfl
 ·simp only[tR,CV]
  have:=aM _ (List.getElem_mem ao)
  rw[gP ao,cond_true,gm _ i ao,gA i _ ao (by omega)]
  simp only[Option.bind_some,aC_ a[i].bS (by omega)]
  rw[AF (by omega) (by omega)];rfl
theorem aDc (a:List aW) (h:a.length≤1048576) (aM:∀p∈a,p.bS.length≤1048576):Dz a=some a:=by
 unfold Dz
 refine Ro (L:=t_ a) a (fun m v=> ?_) (fun i ao m v rM=> ?_)
 ·simp only[t_,Dy];rw[fq (Nat.le_refl _)];rfl
 ·simp only[t_,Dy,HQ]
  have:=aM _ (List.getElem_mem ao)
  rw[gP ao,cond_true,gm _ i ao,gA i _ ao (by omega)]
  simp only[Option.bind_some,aDa a[i].bS (by omega)]
  rw[AF (by omega) (by omega)];rfl
theorem aDd (a:List aW) (df:a≠[]) (h:a.length≤1048576) (aM:∀p∈a,p.bS.length≤1048576):∃r,C0 a=some r∧DD a=some r∧r.Perm a:=by
 have aw:∀p∈a,p.bS.length≤1099511627776:=fun p au=>by have:=aM p au;omega
 obtain⟨r,dw,bg,di⟩:=aC4 a a h aw
 obtain⟨gU,hd,gF,h7⟩:=aC9 a df h aw
 refine⟨r,?_,?_,di⟩
 ·unfold C0
  rw[aDb a h aM]
  exact dw
 ·unfold DD
  rw[aDc a h aM]
  simp only[Option.bind_some,hd]
  rw[aC8 gF bg (h7.trans di.symm)]
end Go.eN
