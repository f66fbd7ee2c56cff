/- Part of a proof that a law returns true for every input. No condition. -/
import Derived.Test.YtpddiknnnoomoaaU7
import Derived.Test.YtpddiknnnoomoaaUT
namespace Go.eF
open Go Go.bV
theorem Pd {a:List aP} (s:List UInt8) (hl:a.length≤1048576) (R:rX a):∃k:Nat,k≤a.length∧(∀ad,ad<k→dQ (dx a ad) s<0)∧(∀ad,k≤ad→ad<a.length→¬dQ (dx a ad) s<0)∧
  wH a s=some ((k:Int),decide (k<a.length)&&(dQ (dx a k) s==0)):=by
 have mono:∀i ad,i≤ad→ad<a.length→dQ (dx a ad) s<0→dQ (dx a i) s<0:=by
  intro i ad QC aS ae
  by_cases e:i=ad
  ·subst e;exact ae
  ·have:=xg R (ad-i-1) i (by omega)
   rw[show i+(ad-i-1)+1=ad by omega]at this
   rw[og]at ae⊢
   exact Cr _ _ _ this ae
 obtain⟨k,bn,bp,cy,b_⟩:=Ct a s hl a.length 0 a.length (a.length+1) (by omega) (by omega) (by omega) (by omega) (fun ad aS=>by omega) (fun ad U aa=>by omega) mono
 refine⟨k,bn,bp,cy,jh (a.length+1) fun n aV=> ?_⟩
 obtain⟨bY,fj,ek,gd,fQ⟩:=Ct a s hl a.length 0 a.length n (by omega) (by omega) (by omega) (by omega) (fun ad aS=>by omega) (fun ad U aa=>by omega) mono
 have:bY=k:=by
  rcases Nat.lt_trichotomy bY k with cv|he|cv
  ·exact absurd (bp bY cv) (gd bY (by omega) (by omega))
  ·exact he
  ·exact absurd (ek k cv) (cy k (by omega) (by omega))
 subst this
 exact fQ
def gA (x:aP):List aP→Bool→List aP
 |[],f=>if f=true then []else [x]
 |y::r,f=>(if(!f&& !(Op.bytesLess y.Name x.Name))=true then [x]else [])++((if(y.Name==x.Name)=true then []else [y])++gA x r (f|| !(Op.bytesLess y.Name x.Name)))
theorem Pe (a:List aP) (x:aP) (h:a.length≤1000):pM a x=some (gA x a false):=by
 have key:∀i,i≤a.length→∀m,a.length-i<m→∀(v:List aP) (f:Bool),v.length≤2*i→lW a x m v f (i:Int)=some (v++gA x (a.drop i) f):=by
  refine down a.length ?_ ?_
  ·intro m hm v f aC
   obtain⟨m,rfl⟩:∃ad,m=ad+1:=⟨m-1,by omega⟩
   simp only[lW,s6,s5]
   rw[kA (Nat.le_refl _),List.drop_length,xe (n:=v.length+1) (by omega) (by omega)]
   cases f<;>simp[gA]
  ·intro i az ih m hm v f aC
   obtain⟨m,rfl⟩:∃ad,m=ad+1:=⟨m-1,by omega⟩
   simp only[lW,s6,rl,s4]
   rw[mb az,cond_true,p2 a i az,m7 i _ az (by omega),drop_cons a i az]
   simp only[Option.bind_some]
   have eb:room 32 (v.length+1)=some ():=xe (by omega) (by omega)
   have cw:room 32 ((v++[x]).length+1)=some ():=xe (by simp;omega) (by simp;omega)
   rw[eb,cw]
   simp only[Option.bind_some]
   have et:(v++[x]).length≤2*(i+1):=by simp;omega
   have l2:(v++[a[i]]).length≤2*(i+1):=by simp;omega
   have oH:(v++[x]++[a[i]]).length≤2*(i+1):=by simp;omega
   have Cu:v.length≤2*(i+1):=by omega
   rw[ih m (by omega) _ true et,ih m (by omega) _ true l2,ih m (by omega) _ true oH,ih m (by omega) _ true Cu,ih m (by omega) _ false l2,ih m (by omega) _ false Cu]
   simp only[gA]
   cases f<;>cases(Op.bytesLess a[i].Name x.Name)<;>cases(a[i].Name==x.Name)<;>simp
 unfold pM
 exact jh (a.length+1) fun m hm=>by simpa using key 0 (by omega) m (by omega) [] false (by simp)
theorem Pf {a b:List UInt8} (h:dQ a b<0):(a==b)=false:=by
 by_cases e:a=b
 ·rw[(p3 a b).2 e]at h;omega
 ·simpa using e
theorem Cv (x:aP):∀(l r:List aP),(∀y∈l,dQ y.Name x.Name<0)→gA x (l++r) false=l++gA x r false
 |[],_,_=>rfl
 |y::l,r,h=>by
  have U:=h y (by simp)
  have aa:=(og _ _).1 U
  simp only[List.cons_append,gA,aa,Pf U]
  rw[show(false|| !true)=false from rfl,Cv x l r fun z bj=>h z (by simp[bj])]
  simp
theorem Cw (x:aP):∀(l:List aP),(∀y∈l,(y.Name==x.Name)=false)→gA x l true=l
 |[],_=>rfl
 |y::l,h=>by
  simp only[gA,h y (by simp),Bool.true_or,Bool.not_true,Bool.false_and]
  rw[Cw x l fun z bj=>h z (by simp[bj])]
  simp
def m8 (a:List aP) (x:aP) (k:Nat):List aP:=a.take k++x::(if(decide (k<a.length)&&(dQ (dx a k) x.Name==0))=true then a.drop (k+1)else a.drop k)
theorem Pg (a:List aP) (x:aP) (R:rX a) (k:Nat) (bn:k≤a.length) (bp:∀ad,ad<k→dQ (dx a ad) x.Name<0) (cy:∀ad,k≤ad→ad<a.length→¬dQ (dx a ad) x.Name<0):gA x a false=m8 a x k:=by
 have kF:∀ad,(aS:ad<a.length)→dx a ad=a[ad].Name:=fun ad aS=>by simp[dx,List.getD,aS]
 have bk:gA x a false=a.take k++gA x (a.drop k) false:=by
  conv=>lhs;rw[←List.take_append_drop k a]
  refine Cv x _ _ fun y aW=> ?_
  obtain⟨ad,aS,rfl⟩:=List.getElem_of_mem aW
  have xi:ad<k:=by rw[List.length_take]at aS;omega
  have:=bp ad xi
  rw[kF ad (by omega)]at this
  simpa using this
 rw[bk]
 unfold m8
 congr 1
 by_cases ai:k<a.length
 ·have aV:=cy k (Nat.le_refl _) ai
  have vl:Op.bytesLess a[k].Name x.Name=false:=by
   rw[←kF k ai,Bool.eq_false_iff]
   exact fun h=>aV ((og _ _).2 h)
  have Ph:∀y∈a.drop (k+1),(y.Name==x.Name)=false:=fun y aW=>by
   obtain⟨ad,aS,rfl⟩:=List.getElem_of_mem aW
   have xi:k+1+ad<a.length:=by rw[List.length_drop]at aS;omega
   rw[List.getElem_drop,←kF _ xi]
   by_cases e:dx a (k+1+ad)=x.Name
   ·have U:=xg R ad k (by omega)
    rw[show k+ad+1=k+1+ad by omega,e]at U
    exact absurd ((og _ _).2 U) aV
   ·simpa using e
  rw[drop_cons a k ai]
  simp only[gA,vl,Bool.not_false,Bool.false_or,Bool.and_self,if_true]
  rw[Cw x _ Ph,kF k ai,decide_eq_true ai,Bool.true_and]
  by_cases e:a[k].Name=x.Name
  ·rw[if_pos (by simpa using e),if_pos (by simpa using (p3 _ _).2 e)]
   simp
  ·rw[if_neg (by simpa using e),if_neg (by simpa using fun h=>e ((p3 _ _).1 h))]
   simp
 ·rw[List.drop_of_length_le (by omega),decide_eq_false ai]
  simp[gA]
end Go.eF
