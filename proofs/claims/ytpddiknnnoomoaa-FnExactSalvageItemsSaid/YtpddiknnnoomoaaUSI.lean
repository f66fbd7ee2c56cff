/- Part of a proof that a law returns true for every input. No condition. -/
import Derived.Test.YtpddiknnnoomoaaUPJ
import Derived.Test.YtpddiknnnoomoaaUKS
namespace Go.eF
open Go Go.bV
theorem xj {t:List UInt8} {x:aP} {n:Nat} (h:g8 t=some (x,n)):1≤n∧n≤t.length∧x.Name.length≤t.length∧x.dP.length≤t.length:=by
 unfold g8 at h
 split at h
 ·rename_i c d r
  split at h
  ·split at h
   ·rename_i e f q bN
    split at h
    ·rename_i aV
     cases h
     have:=rV bN
     simp only[List.length_cons,List.length_take]
     omega
    ·cases h
   ·cases h
  ·cases h
 ·cases h
def jU (a:List UInt8):Nat→List aP→Nat→Option (List aP×Int)
 |0,_,_=>none
 |m+1,L,i=>if i<a.length∧L.length<16 then(match g8 (a.drop i)with
   |none=>jU a m L (i+1)
   |some (x,n)=>jU a m (if(L.any fun y=>y.Name==x.Name)=true then L else gA x L false) (i+n))
  else if L.length=0 then some ([],3)else some (L,0)
def p4 (L:List aP):Prop:=rX L∧L.length≤16∧∀y∈L,y.Name.length≤1048576∧y.dP.length≤1048576
theorem Cx (L:List aP):((L.length:Int)==0)=decide (L.length=0):=by
 rw[show((L.length:Int)==0)=decide ((L.length:Int)=0)from rfl,decide_eq_decide];omega
theorem Pj (dr:List aP→Int→Option (List aP×Int)) (a:List UInt8) (aU:aP×Int×Bool) (L:List aP) (h:L.length≤16):
  fU (fun n=>mR dr a aU n L false 0)=cond (L.any fun y=>y.Name==aU.1.Name) (dr L aU.2.1) ((pM L aU.1).bind fun bQ=>dr bQ aU.2.1):=by
 have key:∀i,i≤L.length→∀m,L.length-i<m→∀f:Bool,mR dr a aU m L f (i:Int)=cond (f||(L.drop i).any fun y=>y.Name==aU.1.Name) (dr L aU.2.1) ((pM L aU.1).bind fun bQ=>dr bQ aU.2.1):=by
  refine down L.length ?_ ?_
  ·intro m hm f
   obtain⟨m,rfl⟩:∃ad,m=ad+1:=⟨m-1,by omega⟩
   simp only[mR,s7]
   rw[kA (Nat.le_refl _),List.drop_length]
   cases f<;>rfl
  ·intro i az ih m hm f
   obtain⟨m,rfl⟩:∃ad,m=ad+1:=⟨m-1,by omega⟩
   simp only[mR,s7]
   rw[mb az,cond_true,m7 i _ az (by omega),p2 L i az,drop_cons L i az]
   simp only[Option.bind_some,List.any_cons]
   rw[ih m (by omega),ih m (by omega)]
   cases f<;>simp
 exact jh (L.length+1) fun m hm=>by simpa using key 0 (by omega) m (by omega) false
theorem xk (x:aP):∀(l:List aP) (f:Bool),(gA x l f).length≤l.length+1∧(f=true→(gA x l f).length≤l.length)
 |[],f=>by cases f<;>simp[gA]
 |y::r,f=>by
  have U:=xk x r true
  have aa:=xk x r false
  cases f<;>cases I:Op.bytesLess y.Name x.Name<;>cases he:(y.Name==x.Name)<;>simp[gA,I,he]<;>first|omega|(have:=U.2 rfl;omega)|(have:=U.2 rfl;constructor<;>omega)
theorem Pk (a:List UInt8) (bU:a.length≤1048576):∀(m:Nat) (L:List aP) (i:Nat),L.length≤16→i≤a.length→lX a m L (i:Int)=jU a m L i:=by
 intro m
 induction m with
 |zero=>intros;rfl
 |succ m ih=>
  intro L i gp az
  simp only[lX,wC,jU]
  by_cases h:i<a.length∧L.length<16
  ·rw[if_pos h,mb h.1,show decide ((L.length:Int)<16)=true from decide_eq_true (by omega)]
   obtain⟨x,n,b,e,hm⟩:=O2 a i bU az
   rw[e]
   simp only[Bool.and_self,cond_true,Option.bind_some]
   cases aA:g8 (a.drop i)with
   |none=>
    rw[aA]at hm
    rw[hm]
    simp only[Bool.not_false,cond_true]
    rw[m7 i _ h.1 (by omega)]
    exact(ih L (i+1) gp (by omega))
   |some y=>
    obtain⟨y,k⟩:=y
    rw[aA]at hm
    obtain⟨rfl,rfl,rfl⟩:=hm
    have hl:=xj aA
    rw[List.length_drop]at hl
    simp only[Bool.not_true,cond_false]
    rw[Pj _ _ _ _ gp,Pe L _ (by omega)]
    simp only[Option.bind_some]
    cases ai:(L.any fun y=>y.Name==x.Name)
    ·simp only[cond_false,Bool.false_eq_true,if_false]
     have an:(gA x L false).length≤16:=by
      have:=xk x L false
      omega
     exact(ih _ (i+k) an (by omega))
    ·simp only[cond_true,if_true]
     exact(ih L (i+k) gp (by omega))
  ·rw[if_neg h,Cx,show(decide ((i:Int)<(a.length:Int))&&decide ((L.length:Int)<16))=false from by
    rw[Bool.and_eq_false_iff]
    by_cases U:i<a.length
    ·exact .inr (decide_eq_false (by omega))
    ·exact .inl (kA (by omega))]
   by_cases bI:L.length=0
   ·rw[decide_eq_true bI,if_pos bI];rfl
   ·rw[decide_eq_false bI,if_neg bI];rfl
theorem Cy (L:List aP) (ad:Nat) (aS:ad<L.length):dx L ad=L[ad].Name:=by simp[dx,List.getD,aS]
theorem Cz {L:List aP} (x:aP) (R:rX L) {k:Nat} (bp:∀ad,ad<k→dQ (dx L ad) x.Name<0) (cy:∀ad,k≤ad→ad<L.length→¬dQ (dx L ad) x.Name<0):
  (decide (k<L.length)&&(dQ (dx L k) x.Name==0))=L.any fun y=>y.Name==x.Name:=by
 rw[Bool.eq_iff_iff,List.any_eq_true,Bool.and_eq_true,decide_eq_true_eq,beq_iff_eq]
 constructor
 ·rintro⟨U,aa⟩
  exact⟨L[k],List.getElem_mem U,by rw[←Cy L k U];simpa using (p3 _ _).1 aa⟩
 ·rintro⟨y,aW,he⟩
  obtain⟨ad,aS,rfl⟩:=List.getElem_of_mem aW
  have he:dx L ad=x.Name:=by rw[Cy L ad aS];simpa using he
  have bj:=(p3 _ _).2 he
  rcases Nat.lt_trichotomy ad k with cv|heq|cv
  ·have:=bp ad cv;omega
  ·subst heq;exact⟨aS,bj⟩
  ·have U:=xg R (ad-k-1) k (by omega)
   rw[show k+(ad-k-1)+1=ad by omega,he]at U
   exact absurd ((og _ _).2 U) (cy k (Nat.le_refl _) (by omega))
theorem Pl {L:List aP} {x:aP} (h:p4 L) (hl:L.length<16) (ao:x.Name.length≤1048576∧x.dP.length≤1048576) {k:Nat} (bn:k≤L.length) (bp:∀ad,ad<k→dQ (dx L ad) x.Name<0) (cy:∀ad,k≤ad→ad<L.length→¬dQ (dx L ad) x.Name<0)
  (bk:(decide (k<L.length)&&(dQ (dx L k) x.Name==0))=false):p4 (m8 L x k):=by
 obtain⟨U,aa,aw⟩:=h
 have e:m8 L x k=L.take k++x::L.drop k:=by unfold m8;rw[bk];rfl
 have aG:(L.take k).length=k:=by rw[List.length_take];omega
 have aV:∀ad,dx (L.take k++x::L.drop k) ad=if ad<k then dx L ad else if ad=k then x.Name else dx L (ad-1):=by
  intro ad
  unfold dx List.getD
  by_cases aS:ad<k
  ·rw[if_pos aS,List.getElem?_append_left (by omega),List.getElem?_take,if_pos aS]
  ·rw[if_neg aS,List.getElem?_append_right (by omega),aG]
   by_cases k6:ad=k
   ·subst k6;rw[if_pos rfl,Nat.sub_self];rfl
   ·rw[if_neg k6,show ad-k=(ad-1-k)+1 by omega,List.getElem?_cons_succ,List.getElem?_drop,show k+(ad-1-k)=ad-1 by omega]
 rw[e]
 refine⟨fun i bI az=> ?_,by simp[aG];omega,fun y aW=> ?_⟩
 ·rw[aV,aV]
  have az:i<L.length+1:=by simp only[List.length_append,List.length_cons,List.length_drop,aG]at az;omega
  by_cases bz:i<k
  ·rw[if_pos bz,if_pos (by omega)];exact U i bI (by omega)
  ·rw[if_neg bz]
   by_cases bA:i=k
   ·subst bA
    rw[if_pos rfl,if_pos (by omega)]
    exact(og _ _).1 (bp (i-1) (by omega))
   ·rw[if_neg bA,if_neg (by omega)]
    by_cases mC:i-1=k
    ·rw[if_pos mC]
     have ai:k<L.length:=by omega
     have cg:dQ (dx L k) x.Name≠0:=by
      intro bj
      rw[decide_eq_true ai,Bool.true_and]at bk
      simp[bj]at bk
     have kT:Op.bytesLess (dx L k) x.Name=false:=by
      rw[Bool.eq_false_iff]
      exact fun h=>cy k (Nat.le_refl _) ai ((og _ _).2 h)
     have sA:=O_ (dx L k) x.Name
     rw[kT,show(x.Name==dx L k)=false from by simpa using fun e:x.Name=dx L k=>cg ((p3 _ _).2 e.symm)]at sA
     rw[mC]
     simpa using sA.symm
    ·rw[if_neg mC]
     have:=U (i-1) (by omega) (by omega)
     exact this
 ·rw[List.mem_append,List.mem_cons]at aW
  rcases aW with aW|rfl|aW
  ·exact aw y (List.mem_of_mem_take aW)
  ·exact ao
  ·exact aw y (List.mem_of_mem_drop aW)
theorem CA (a:List UInt8) (bU:a.length≤1048576):∀(m:Nat) (L:List aP) (i:Nat),p4 L→i≤a.length→pR a m L (i:Int)=jU a m L i∧∀r,jU a m L i=some r→r.1=[]∨p4 r.1:=by
 intro m
 induction m with
 |zero=>intro L i _ _;exact⟨rfl,fun r h=>by cases(show none=some r from h)⟩
 |succ m ih=>
  intro L i gp az
  simp only[pR,wI,jU]
  by_cases h:i<a.length∧L.length<16
  ·rw[if_pos h,mb h.1,show decide ((L.length:Int)<16)=true from decide_eq_true (by omega)]
   have c3:eQ a (i:Int) (a.length:Int)=some (a.drop i):=Cq a i az
   rw[c3]
   simp only[Bool.and_self,cond_true,Option.bind_some]
   obtain⟨x,n,b,e,hm⟩:=O8 (a.drop i) (by rw[List.length_drop];omega)
   rw[e]
   simp only[Option.bind_some]
   cases aA:g8 (a.drop i)with
   |none=>
    rw[aA]at hm
    rw[hm]
    simp only[Bool.not_false,cond_true]
    rw[m7 i _ h.1 (by omega)]
    exact ih L (i+1) gp (by omega)
   |some y=>
    obtain⟨y,k⟩:=y
    rw[aA]at hm
    obtain⟨rfl,rfl,rfl⟩:=hm
    have hl:=xj aA
    rw[List.length_drop]at hl
    simp only[Bool.not_true,cond_false]
    obtain⟨p,dw,dU,eB,sb⟩:=Pd x.Name (a:=L) (by have:=gp.2.1;omega) gp.1
    rw[sb]
    simp only[Option.bind_some]
    rw[Cz x gp.1 dU eB,fp ((i:Int)+(k:Int)) (by omega),show(i:Int)+(k:Int)=((i+k:Nat):Int) by omega]
    have bk:=Cz x gp.1 dU eB
    cases ai:(L.any fun y=>y.Name==x.Name)
    ·rw[ai]at bk
     simp only[Bool.not_false,cond_true,Bool.false_eq_true,if_false]
     have e:pQ L (p:Int) [x]=some (m8 L x p):=by
      unfold pQ m8
      rw[if_pos ⟨by omega,by omega,rfl,by omega⟩,bk]
      simp
     rw[e,Pg L x gp.1 p dw dU eB]
     exact ih (m8 L x p) (i+k) (Pl gp h.2 ⟨by omega,by omega⟩ dw dU eB bk) (by omega)
    ·simp only[Bool.not_true,cond_false,if_true]
     exact ih L (i+k) gp (by omega)
  ·rw[if_neg h,Cx,show(decide ((i:Int)<(a.length:Int))&&decide ((L.length:Int)<16))=false from by
    rw[Bool.and_eq_false_iff]
    by_cases U:i<a.length
    ·exact .inr (decide_eq_false (by omega))
    ·exact .inl (kA (by omega))]
   by_cases bI:L.length=0
   ·rw[decide_eq_true bI,if_pos bI]
    exact⟨rfl,fun r aA=>by cases aA;exact .inl rfl⟩
   ·rw[decide_eq_false bI,if_neg bI]
    exact⟨rfl,fun r aA=>by cases aA;exact .inr gp⟩
theorem CB (a:List UInt8):∀(d i:Nat),a.length-i=d→∀(m e4:Nat) (L:List aP),d<m→d<e4→i≤a.length→jU a m L i=jU a e4 L i∧∃r,jU a m L i=some r:=by
 intro d
 induction d using Nat.strongRecOn with
 |ind d ih=>
  intro i ab m e4 L hm mI az
  obtain⟨m,rfl⟩:∃ad,m=ad+1:=⟨m-1,by omega⟩
  obtain⟨e4,rfl⟩:∃ad,e4=ad+1:=⟨e4-1,by omega⟩
  simp only[jU]
  by_cases h:i<a.length∧L.length<16
  ·rw[if_pos h,if_pos h]
   cases aA:g8 (a.drop i)with
   |none=>exact ih (a.length-(i+1)) (by omega) (i+1) rfl m e4 L (by omega) (by omega) (by omega)
   |some y=>
    obtain⟨x,n⟩:=y
    have hl:=xj aA
    rw[List.length_drop]at hl
    exact ih (a.length-(i+n)) (by omega) (i+n) rfl m e4 _ (by omega) (by omega) (by omega)
  ·rw[if_neg h,if_neg h]
   refine⟨rfl,?_⟩
   split<;>exact⟨_,rfl⟩
theorem Pm (a:List UInt8) (bU:a.length≤1048576):∃r,wD a=some r∧th a=some r∧(r.1=[]∨p4 r.1):=by
 have bI:p4 []:=⟨fun i h az=>by simp at az,by simp,fun y aW=>by simp at aW⟩
 obtain⟨_,r,aA⟩:=CB a a.length 0 rfl (a.length+1) (a.length+1) [] (by omega) (by omega) (by omega)
 have tp:∀m,a.length+1≤m→jU a m [] 0=some r:=fun m hm=>by
  rw[(CB a a.length 0 rfl m (a.length+1) [] (by omega) (by omega) (by omega)).1];exact aA
 refine⟨r,?_,?_,(CA a bU (a.length+1) [] 0 bI (by omega)).2 r aA⟩
 ·exact jh (a.length+1) fun m hm=>(Pk a bU m [] 0 (by simp) (by omega)).trans (tp m hm)
 ·exact jh (a.length+1) fun m hm=>(CA a bU m [] 0 bI (by omega)).1.trans (tp m hm)
theorem CC:∀L:List aP,(∀y∈L,y.Name.length≤1048576∧y.dP.length≤1048576)→kB kC L≤L.length*2097153
 |[],_=>by simp[kB,jg]
 |y::L,h=>by
  have U:=h y (by simp)
  have aa:=CC L fun z bj=>h z (by simp[bj])
  simp only[kB,jg,List.length_cons,kC]at aa⊢
  omega
theorem OE (a:List UInt8):wJ a=some true:=by
 unfold wJ
 by_cases U:1048576<a.length
 ·rw[show decide ((1048576:Int)<(a.length:Int))=true from decide_eq_true (by omega)];rfl
 rw[show decide ((1048576:Int)<(a.length:Int))=false from decide_eq_false (by omega),cond_false]
 obtain⟨r,eb,cw,gD⟩:=Pm a (by omega)
 obtain⟨fj,ek⟩:r.1.length≤16∧kB kC r.1≤33554448:=by
  rcases gD with gD|⟨_,fq,gk⟩
  ·rw[gD];exact⟨by simp,by decide⟩
  ·have:=CC r.1 gk
   exact⟨fq,by omega⟩
 have heq:pT r.1 r.1=some true:=Pc r.1 (by omega)
 obtain⟨fi,bA,_,d2,d3⟩:=OT r.1 1 (by omega) (by omega)
 simp only[Option.bind_some,eb,cw,heq,d2,d3,bne_self_eq_false,Bool.not_true,Bool.or_self,cond_false,OR (show(0:Int)≤1+(bA:Int) by omega)]
end Go.eF
