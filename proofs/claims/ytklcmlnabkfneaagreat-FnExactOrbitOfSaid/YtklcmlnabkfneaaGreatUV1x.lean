/- Part of a proof that a law returns true for every input. No condition. -/
import Derived.Test.YtklcmlnabkfneaaGreatUV0x
import GoSem.Op.String
import Derived.Test.YtklcmlnabkfneaaGreatP7
namespace Go.l3
open Option Nat Or
open Go Go.de
theorem QH (a b:alQ) (h:a.length<=1099511627776):zb a b=some (g_ a b):=by
 unfold zb;have ai:∀(i:Nat),(decide ((i:Int)<(a.length:Int))&&decide ((i:Int)<(b.length:Int)))=decide (i<min a.length b.length):=λi=>by
  rw[Bool.eq_iff_iff,Bool.and_eq_true,decide_eq_true_eq,decide_eq_true_eq,decide_eq_true_eq];omega
 rw[nL (n:=min a.length b.length) (l:=vG a b) (λi=>some (g_ (a.drop i) (b.drop i))) (λm=>?_) (λi ao m ih=>?_),List.drop_zero,List.drop_zero]
 .simp only[vG,He];rw[ai,show decide (min a.length b.length<min a.length b.length)=false from decide_eq_false (by omega),cond_false];by_cases ab:a.length<b.length
  .rw[show decide ((a.length:Int)<(b.length:Int))=true from decide_eq_true (by omega),cond_true,Nat.min_eq_left (by omega),List.drop_of_length_le (Nat.le_refl _),drop_cons b _ ab];rfl
  .rw[show decide ((a.length:Int)<(b.length:Int))=false from decide_eq_false (by omega),cond_false];by_cases ae:b.length<a.length
   .rw[show decide ((b.length:Int)<(a.length:Int))=true from decide_eq_true (by omega),cond_true,Nat.min_eq_right (by omega),List.drop_of_length_le (l:=b) (Nat.le_refl _),drop_cons a _ ae];rfl
   .rw[show decide ((b.length:Int)<(a.length:Int))=false from decide_eq_false (by omega),cond_false,List.drop_of_length_le (l:=a) (by omega),List.drop_of_length_le (l:=b) (by omega)];rfl
 .have ab:i<a.length:=by omega
  have ae:i<b.length:=by omega
  simp only[vG,He];rw[ai,show decide (i<min a.length b.length)=true from decide_eq_true ao,cond_true,e9 _ i ab,e9 _ i ae,fu i _ ab (by omega),drop_cons a i ab,drop_cons b i ae,g_];simp only[bind_some,ih];unfold gS;by_cases aR:a[i]<b[i]
  .simp[aR]
  .by_cases aV:b[i]<a[i]
   .simp[aR,aV]
   .simp[aR,aV]
theorem ahl (p q:aT) (h:p.bL.length<=1099511627776):Co p q=some (hv p q):=by
 unfold Co;rw[QH _ _ (by simp),QH _ _ h];simp only[bind_some];unfold hv;simp only[g_];by_cases aR:gS p.b6 q.b6=0
 .rw[if_pos aR,if_pos aR];by_cases aV:gS p.Part q.Part=0
  .rw[if_pos aV,if_pos aV];rfl
  .rw[if_neg aV,if_neg aV,show(gS p.Part q.Part !=0)=true by simpa using aV];rfl
 .rw[if_neg aR,if_neg aR,show(gS p.b6 q.b6 !=0)=true by simpa using aR];rfl
theorem ahm (a b:alQ) (h:a.length<=1048576):Cq a b=some (a==b):=by
 unfold Cq;by_cases hl:a.length=b.length
 .have e:((a.length:Int) !=(b.length:Int))=false:=by simp[hl]
  rw[e,cond_false];have:=nL (n:=a.length) (l:=vI a b) (λi=>some (a.drop i==b.drop i)) (λm=>?_) (λi ao m ih=>?_)
  .simpa using this
  .simp only[vI,Hg];rw[eJ (Nat.le_refl _),List.drop_of_length_le (Nat.le_refl _),List.drop_of_length_le (by omega)];rfl
  .simp only[vI,Hg];rw[fA ao,e9 _ i ao,e9 _ i (by omega),fu i _ ao (by omega),drop_cons a i ao,drop_cons b i (by omega),List.cons_beq_cons];simp only[cond_true,bind_some,ih,bne];cases a[i]==b[i]
   .rfl
   .simp
 .have e:((a.length:Int) !=(b.length:Int))=true:=by simp;omega
  have aV:(a==b)=false:=by
   rw[beq_eq_false_iff_ne];intro h;exact hl (by rw[h])
  rw[e,cond_true,aV]
theorem ahn (p q:aT) (h:p.bL.length<=1048576):Cr p q=some (hv p q==0):=by
 unfold Cr;have key:(hv p q==0)=((p.b6==q.b6)&&((p.Part==q.Part)&&(p.bL==q.bL))):=by
  rw[Bool.eq_iff_iff];simp only[beq_iff_eq,Bool.and_eq_true];rw[AA];cases p;cases q;simp
 rw[ahm _ _ h,key];cases p.b6==q.b6<;>cases p.Part==q.Part<;>rfl
def kZ (n:Nat) (a:aml):Prop:=a.length=n/\∀p∈a,p.bL.length<=1048576
theorem aho (n:Nat) (aS:n<=3) (a b:aml) (cg:kZ n a) (R:kZ n b):zc a b=some (ek a b==0):=by
 obtain⟨ahp,J0⟩:=cg;obtain⟨ahq,ahr⟩:=R;unfold zc;rw[show((a.length:Int) !=(b.length:Int))=false by simp;omega,cond_false];have:=nL (n:=a.length) (l:=vJ a b) (λi=>some (ek (a.drop i) (b.drop i)==0)) (λm=>?_) (λi ao m ih=>?_)
 .simpa using this
 .simp only[vJ,Hh];rw[eJ (Nat.le_refl _),List.drop_of_length_le (Nat.le_refl _),List.drop_of_length_le (by omega)];rfl
 .simp only[vJ,Hh];rw[fA ao,e9 _ i ao,e9 _ i (by omega),fu i _ ao (by omega),drop_cons a i ao,drop_cons b i (by omega),ek];simp only[cond_true,bind_some,ih];rw[ahn _ _ (J0 _ (List.getElem_mem ao))];simp only[bind_some];by_cases h:hv a[i] b[i]=0
  .rw[if_pos h,h];rfl
  .rw[if_neg h,show(hv a[i] b[i]==0)=false from by simpa using h];rfl
theorem QI (n:Nat) (aS:n<=3) (a b:aml) (cg:kZ n a) (R:kZ n b):Cp a b=some (decide (ek a b<0)):=by
 obtain⟨ahp,J0⟩:=cg;obtain⟨ahq,ahr⟩:=R;unfold Cp;have:=nL (n:=a.length) (l:=vH a b) (λi=>some (decide (ek (a.drop i) (b.drop i)<0))) (λm=>?_) (λi ao m ih=>?_)
 .simpa using this
 .simp only[vH,Hf];rw[eJ (Nat.le_refl _),List.drop_of_length_le (Nat.le_refl _),List.drop_of_length_le (by omega)];rfl
 .simp only[vH,Hf];rw[fA ao,e9 _ i ao,e9 _ i (by omega),fu i _ ao (by omega),drop_cons a i ao,drop_cons b i (by omega),ek];simp only[cond_true,bind_some,ih];rw[ahl _ _ (Nat.le_trans (J0 _ (List.getElem_mem ao)) (by omega))];simp only[bind_some];by_cases h:hv a[i] b[i]=0
  .rw[if_pos h,h];rfl
  .rw[if_neg h,show(hv a[i] b[i] !=0)=true from by simpa using h];rfl
abbrev J1:=alZ->alQ->Option alZ
theorem ahs {k7:J1} {q x:aml} {v4:alQ} (v:alZ) (aJ:v.length<=100) (k:Nat):
  ∀(d:Nat) (c:aml) (m:Nat),k+d<=v.length->d<m->
   nA k7 q x m (v.take (k+d)++c::v.drop (k+d)) v4 (k:Int) ((k+d:Nat):Int)=o8 k7 q (v.take k++x::v.drop k) v4:=by
 intro d;induction d with
 |zero=>
  intro c m ax hm;obtain⟨m,rfl⟩:∃q,m=q+1:=⟨m-1,by omega⟩
  have hl:(v.take k).length=k:=by rw[List.length_take];omega
  have bR:bl (v.take k++c::v.drop k) (k:Int)=some c:=by
   rw[e9 _ k (by simp;omega)];simp[List.getElem_append_right,hl]
  simp only[nA,Hj,Nat.add_zero];rw[show decide ((k:Int)<(k:Int))=false from decide_eq_false (by omega),cond_false,bR];simp only[bind_some,Int.toNat_natCast];rw[List.set_append_right _ _ (by omega),hl,Nat.sub_self,List.set_cons_zero]
 |succ d ih=>
  intro c m ax hm;obtain⟨m,rfl⟩:∃q,m=q+1:=⟨m-1,by omega⟩
  have bm:k+d<v.length:=by omega
  have hl:(v.take (k+(d+1))).length=k+(d+1):=by rw[List.length_take];omega
  have aht:bl (v.take (k+(d+1))++c::v.drop (k+(d+1))) ((k+d:Nat):Int)=some v[k+d]:=by
   rw[e9 _ (k+d) (by simp;omega)];rw[List.getElem_append_left (by omega),List.getElem_take]
  have Ps:bl (v.take (k+(d+1))++c::v.drop (k+(d+1))) ((k+(d+1):Nat):Int)=some c:=by
   rw[e9 _ (k+(d+1)) (by simp;omega)];simp[List.getElem_append_right,hl]
  simp only[nA,Hj];rw[show decide ((k:Int)<((k+(d+1):Nat):Int))=true from decide_eq_true (by omega),cond_true,show IntKind.i64.wrap (((k+(d+1):Nat):Int)-1)=((k+d:Nat):Int)from by rw[eN _ (by omega)];omega,aht,Ps];simp only[bind_some,Int.toNat_natCast];rw[List.set_append_right _ _ (by omega),hl,Nat.sub_self,List.set_cons_zero];have e:v.take (k+(d+1))++v[k+d]::v.drop (k+(d+1))=v.take (k+d)++v[k+d]::v.drop (k+d):=by
   rw[show k+(d+1)=(k+d)+1 from rfl,List.take_succ_eq_append_getElem bm,List.append_assoc,List.singleton_append,<-drop_cons v (k+d) bm]
  rw[e];exact ih v[k+d] m (by omega) (by omega)
def pr (v:alZ) (x:aml) (k:Nat):alZ:=v.take k++x::v.drop k
theorem ahu (n:Nat) (aS:n<=3) {k7:J1} {q x:aml} {v4:alQ} (au:kZ n x) (v:alZ) (aJ:v.length<=100) (qD:∀y∈v,kZ n y):
  ∀(k:Nat),k<=v.length->(∀j (bm:j<v.length),k<=j->ek x v[j]<0)->
   ∃cF,cF<=k/\(∀j (bm:j<v.length),cF<=j->ek x v[j]<0)/\(∀(h:cF-1<v.length),0<cF->0<=ek x v[cF-1])/\
    ∀m,k<m->sv k7 q x m v v4 (k:Int)=o8 k7 q (if h:0<cF/\cF-1<v.length then(if ek v[cF-1] x=0 then v else pr v x cF)else pr v x cF) v4:=by
 have sC:∀k,k<=v.length->((room 24 (v.length+1)).bind λ_=>lim λn=>nA k7 q x n (v++[[]]) v4 (k:Int) (IntKind.i64.wrap (((v++[[]]).length:Int)-1)))=o8 k7 q (pr v x k) v4:=by
  intro k ax;rw[Ay (by omega) (by omega)];simp only[bind_some];refine eP (v.length+1) λn aS=>?_;have ab:=ahs (k7:=k7) (q:=q) (x:=x) (v4:=v4) v aJ k (v.length-k) [] n (by omega) (by omega);rw[show k+(v.length-k)=v.length by omega,List.take_length,List.drop_of_length_le (Nat.le_refl _)]at ab;rw[show IntKind.i64.wrap (((v++[([]:aml)]).length:Int)-1)=(v.length:Int)from by rw[eN _ (by simp;omega)];simp];exact ab
 intro k;induction k with
 |zero=>
  intro ax jv;refine⟨0,Nat.le_refl _,jv,λ_ h=>by omega,λm hm=>?_⟩;obtain⟨m,rfl⟩:∃q,m=q+1:=⟨m-1,by omega⟩
  simp only[sv,Cs];rw[show decide ((0:Int)<((0:Nat):Int))=false from by decide,cond_false,show(((0:Nat):Int)==0)=true from rfl,cond_true,dif_neg (by omega)];exact sC 0 (zero_le _)
 |succ k ih=>
  intro ax jv;have e:IntKind.i64.wrap (((k+1:Nat):Int)-1)=(k:Int):=by rw[eN _ (by omega)];omega
  have jP:k<v.length:=by omega
  have J2:=qD _ (List.getElem_mem jP);by_cases an:ek x v[k]<0
  .obtain⟨cF,g1,g2,g3,g4⟩:=ih (by omega) (λj bm alJ=>by
    rcases Nat.lt_or_ge k j with h|h
    .exact jv j bm (by omega)
    .have:j=k:=by omega
     subst this;exact an)
   refine⟨cF,by omega,g2,g3,λm hm=>?_⟩;obtain⟨m,rfl⟩:∃q,m=q+1:=⟨m-1,by omega⟩
   rw[<-g4 m (by omega)];simp only[sv,Cs];rw[show decide ((0:Int)<((k+1:Nat):Int))=true from decide_eq_true (by omega),cond_true,e,e9 v k jP];simp only[bind_some,QI n aS x _ au J2];rw[decide_eq_true an,cond_true]
  .refine⟨k+1,Nat.le_refl _,jv,λ_ _=>by simpa using an,λm hm=>?_⟩;obtain⟨m,rfl⟩:∃q,m=q+1:=⟨m-1,by omega⟩
   simp only[sv,Cs];rw[show decide ((0:Int)<((k+1:Nat):Int))=true from decide_eq_true (by omega),cond_true,e,e9 v k jP];simp only[bind_some,QI n aS x _ au J2];rw[decide_eq_false an,cond_false,show((((k+1:Nat):Int))==0)=false from by simp;omega,cond_false,aho n aS _ _ J2 au];simp only[bind_some];rw[dif_pos ⟨by omega,by omega⟩];simp only[Nat.add_sub_cancel];by_cases aX:ek v[k] x=0
   .rw[if_pos aX,aX];rfl
   .rw[if_neg aX,show(ek v[k] x==0)=false from by simpa using aX];simp only[Bool.not_false,cond_true];exact sC (k+1) ax
def jG (x y:aml):Prop:=ek x y<0
theorem J3 {x y z:aml} (ab:jG x y) (ae:jG y z):jG x z:=by
 unfold jG at*;have az:=wB (a:=x) (b:=y) (c:=z) (by omega) (by omega);have a6:ek x z≠0:=λe=>by
  have e:=sA.1 e;have bF:=mZ x y;rw[<-e]at ae;omega
 omega
theorem QJ {v:alZ} {x:aml} {k:Nat} (aJ:v.Pairwise jG) (ax:k<=v.length) (g2:∀j (bm:j<v.length),k<=j->ek x v[j]<0) (g3:∀(h:k-1<v.length),0<k->0<ek x v[k-1]):(pr v x k).Pairwise jG:=by
 unfold pr;rw[List.pairwise_append];have au:∀y∈v.take k,jG y x:=by
  intro y bb;obtain⟨j,bm,rfl⟩:=List.mem_iff_getElem.1 bb;rw[List.length_take]at bm;rw[List.getElem_take];have ab:=g3 (by omega) (by omega);have ae:jG v[k-1] x:=by have:=mZ x v[k-1];unfold jG;omega
  by_cases e:j=k-1
  .subst e;exact ae
  .exact J3 ((List.pairwise_iff_getElem.1 aJ) j (k-1) (by omega) (by omega) (by omega)) ae
 have bb:∀y∈v.drop k,jG x y:=by
  intro y bb;obtain⟨j,bm,rfl⟩:=List.mem_iff_getElem.1 bb;rw[List.length_drop]at bm;rw[List.getElem_drop];exact g2 (k+j) (by omega) (by omega)
 refine⟨aJ.sublist (List.take_sublist _ _),?_,?_⟩
 .rw[List.pairwise_cons];exact⟨bb,aJ.sublist (List.drop_sublist _ _)⟩
 .intro a cg b R;rcases List.mem_cons.1 R with rfl|R
  .exact au a cg
  .exact J3 (au a cg) (bb b R)
theorem J4 {v:alZ} (h:v.Pairwise jG):v.Nodup:=h.imp λ{a b} ae e=>by
 subst e;unfold jG at ae;rw[sA.2 rfl]at ae;omega
theorem J5 {v w:alZ} (ab:v.Pairwise jG) (ae:w.Pairwise jG) (h:∀y,y∈v↔y∈w):v=w:=by
 have aq:v.Perm w:=(List.perm_ext_iff_of_nodup (J4 ab) (J4 ae)).2 h;refine List.Perm.eq_of_pairwise (le:=λa b=>ek a b<0) (λa b _ _ g1 g2=>?_) ab ae aq;have:=mZ a b;omega
theorem DY (n:Nat) (aS:n<=3) {k7:J1} {q x:aml} {v4:alQ} (au:kZ n x) (v:alZ) (aJ:v.length<=100) (qD:∀y∈v,kZ n y) (aM:v.Pairwise jG):
  ∃w,w.Pairwise jG/\(∀y,y∈w↔y∈v\/y=x)/\w.length<=v.length+1/\(∀m,v.length<m->sv k7 q x m v v4 (v.length:Int)=o8 k7 q w v4):=by
 obtain⟨k,g1,g2,g3,g4⟩:=ahu n aS (k7:=k7) (q:=q) (v4:=v4) au v aJ qD v.length (Nat.le_refl _) (λj bm h=>by omega);have nw:∀y,y∈pr v x k↔y∈v\/y=x:=λy=>by
  unfold pr;have ab:(v.take k++x::v.drop k).Perm (x::v):=by
   have ab:(v.take k++x::v.drop k).Perm (x::(v.take k++v.drop k)):=List.perm_middle
   rwa [List.take_append_drop]at ab
  rw[ab.mem_iff,List.mem_cons];exact comm
 have hlen:(pr v x k).length<=v.length+1:=by unfold pr;simp;omega
 by_cases h:0<k/\k-1<v.length
 .by_cases aX:ek v[k-1] x=0
  .refine⟨v,aM,λy=>⟨.inl,λaz=>az.elim id λa6=>?_⟩,by omega,λm hm=>by rw[g4 m hm,dif_pos h,if_pos aX]⟩;rw[a6,<-sA.1 aX];exact List.getElem_mem h.2
  .refine⟨pr v x k,QJ aM g1 g2 (λae az=>?_),nw,hlen,λm hm=>by rw[g4 m hm,dif_pos h,if_neg aX]⟩;have a6:=g3 ae az;have bF:=mZ v[k-1] x;omega
 .exact⟨pr v x k,QJ aM g1 g2 (λae az=>(h ⟨az,ae⟩).elim),nw,hlen,λm hm=>by rw[g4 m hm,dif_neg h]⟩
theorem ahv (n:Nat) (aS:n<=3) (q:aml) (b1:kZ n q):∀(l:List alQ),lD l->(∀o∈l,o.length=n/\∀x∈o,pq n x=true)->l.length<=50->
  ∀(v:alZ),v.length+l.length<=100->(∀y∈v,kZ n y)->v.Pairwise jG->
   ∃w,w.Pairwise jG/\(∀y,y∈w↔y∈v\/y∈l.map (km q))/\∀m,l.length<m->∀o cn,l=o::cn->my q m v o=some w:=by
 have QK:∀o:alQ,o.length=n->(∀x∈o,pq n x=true)->kZ n (km q o):=λo ab ae=>by
  refine⟨by unfold km;rw[List.length_map];exact ab,λp aq=>?_⟩;unfold km at aq;obtain⟨x,au,rfl⟩:=List.mem_map.1 aq;have az:=ae x au;simp only[pq,Bool.and_eq_true,decide_eq_true_eq]at az;have dv:x.toNat<q.length:=by rw[b1.1];omega
  rw[List.getD_eq_getElem?_getD,List.getElem?_eq_getElem dv];exact b1.2 _ (List.getElem_mem dv)
 intro l hl;induction hl with
 | @last o h=>
   intro l1 hlen v aJ qD aM;obtain⟨ab,ae⟩:=l1 o (by simp);have au:=QK o ab ae;simp only[List.length_cons,List.length_nil]at aJ;obtain⟨w,eC,eY,jj,Ar⟩:=DY n aS (k7:=λ_ _=>none) (q:=q) (v4:=o) au v (by omega) qD aM;refine⟨w,eC,λy=>by rw[eY y];simp,λm hm mh cn he=>?_⟩;cases he;obtain⟨m,rfl⟩:∃k,m=k+1:=⟨m-1,by omega⟩
   obtain⟨aF,oX,tz,yp,sj⟩:=DY n aS (k7:=my q m) (q:=q) (v4:=o) au v (by omega) qD aM;have AE:aF=w:=J5 oX eC λy=>by rw[tz y,eY y]
   subst AE;simp only[my,Hk];rw[QE q o b1.2 (by omega) (by rw[b1.1];exact ae),bind_some];refine eP (v.length+1) λk ax=>?_;rw[sj k (by omega)];unfold o8;rw[h];rfl
 | @step o p l h hl ih=>
   intro l1 hlen v aJ qD aM;obtain⟨ab,ae⟩:=l1 o (by simp);have au:=QK o ab ae;simp only[List.length_cons]at aJ hlen;obtain⟨w0,eC,eY,jj,Ar⟩:=DY n aS (k7:=λ_ _=>none) (q:=q) (v4:=o) au v (by omega) qD aM;obtain⟨w,g1,g2,g3⟩:=ih (λo bE=>l1 o (List.mem_cons_of_mem _ bE)) (by simp;omega) w0 (by simp;omega) (λy bb=>((eY y).1 bb).elim (qD y) λe=>e▸au) eC;refine⟨w,g1,λy=>?_,λm hm mh cn he=>?_⟩
   .rw[g2 y,eY y,List.map_cons (f:=km q) (a:=o),List.mem_cons];constructor
    .rintro((az|az)|az)
     .exact .inl az
     .exact .inr (.inl az)
     .exact .inr (.inr az)
    .rintro(az|az|az)
     .exact .inl (.inl az)
     .exact .inl (.inr az)
     .exact .inr az
   .cases he;obtain⟨m,rfl⟩:∃k,m=k+1:=⟨m-1,by omega⟩
    obtain⟨aF,oX,tz,yp,sj⟩:=DY n aS (k7:=my q m) (q:=q) (v4:=o) au v (by omega) qD aM;have AE:aF=w0:=J5 oX eC λy=>by rw[tz y,eY y]
    subst AE;simp only[my,Hk];rw[QE q o b1.2 (by omega) (by rw[b1.1];exact ae),bind_some];refine eP (v.length+1) λk ax=>?_;rw[sj k (by omega)];unfold o8;rw[h];exact g3 m (by simp at hm⊢;omega) p l rfl
theorem ahw (n:Nat) (aS:n<=3):Cl (n:Int)=some ((List.range n).map λ(i:Nat)=>(i:Int)):=by
 unfold Cl;have key:∀i,i<=n->∀m,n-i<m->vF (n:Int) m ((List.range i).map λ(i:Nat)=>(i:Int)) (i:Int)=some ((List.range n).map λ(i:Nat)=>(i:Int)):=by
  refine down n ?_ ?_
  .intro m hm;obtain⟨m,rfl⟩:∃k,m=k+1:=⟨m-1,by omega⟩
   simp only[vF,Hd];rw[show decide (((n:Nat):Int)<(n:Int))=false from by simp,cond_false]
  .intro i ao ih m hm;obtain⟨m,rfl⟩:∃k,m=k+1:=⟨m-1,by omega⟩
   simp only[vF,Hd];rw[show decide (((i:Nat):Int)<(n:Int))=true from decide_eq_true (by omega),cond_true,Ay (by simp;omega) (by simp;omega),bind_some,eN _ (by omega)];have:=ih m (by omega);rw[List.range_succ,List.map_append]at this;exact this
 refine eP (n+1) λm hm=>?_;exact key 0 (by omega) m (by omega)
theorem QL (n:Nat) (ab:1<=n) (aS:n<=3) (q:aml) (b1:kZ n q):∃w,w.Pairwise jG/\(∀y,y∈w↔y∈(ir n n).map (km q))/\vL q=some w:=by
 obtain⟨l,hl⟩:=QG n ab aS;have hlen:(ir n n).length<=50:=Nat.le_trans (DX n aS n (Nat.le_refl _)).1 (by omega);obtain⟨w,eC,eY,jj⟩:=ahv n aS q b1 (ir n n) (ahk n ab aS) (AD n aS) hlen [] (by simp;omega) (λy bb=>by cases bb) List.Pairwise.nil;refine⟨w,eC,λy=>by rw[eY y];simp,?_⟩;unfold vL;rw[b1.1,ahw n aS,bind_some];exact eP ((ir n n).length+1) λm hm=>jj m (by omega) _ _ hl
def J6 (x y:aml):Prop:=ek x y<=0
theorem ahx {n:Nat} (aS:n<=3) {a:aml} (h:kZ n a):mz a=true:=by
 simp only[mz,Bool.and_eq_true,decide_eq_true_eq,List.all_eq_true];exact⟨by rw[h.1];omega,λp aq=>Nat.le_trans (h.2 p aq) (by omega)⟩
theorem QM {n:Nat} {q:aml} (b1:kZ n q) {o:alQ} (ab:o.length=n) (ae:∀x∈o,pq n x=true):kZ n (km q o):=by
 refine⟨by unfold km;rw[List.length_map];exact ab,λp aq=>?_⟩;unfold km at aq;obtain⟨x,au,rfl⟩:=List.mem_map.1 aq;have az:=ae x au;simp only[pq,Bool.and_eq_true,decide_eq_true_eq]at az;have dv:x.toNat<q.length:=by rw[b1.1];omega
 rw[List.getD_eq_getElem?_getD,List.getElem?_eq_getElem dv];exact b1.2 _ (List.getElem_mem dv)
theorem ahy {x y:aml} (h:mz x=true):qq x y=(ek x y==0):=by
 unfold qq;rw[IP x y h];rfl
theorem QN:∀(l:alZ) (p:aml),(p::l).Pairwise J6->(∀x∈l,mz x=true)->
  (p::nG qq p l).Pairwise jG/\∀y,y∈p::nG qq p l↔y∈p::l
 |[],p,_,_=>⟨by simp[nG],λy=>by simp[nG]⟩
 |x::l,p,ad,bR=>by
  rw[List.pairwise_cons]at ad;obtain⟨nQ,i2⟩:=QN l x ad.2 (λy bb=>bR y (List.mem_cons_of_mem _ bb));simp only[nG,ahy (bR x (by simp))];by_cases h:ek x p=0
  .have e:=sA.1 h;subst e;rw[h];simp only[beq_self_eq_true,if_true];refine⟨nQ,λy=>?_⟩;rw[i2 y];simp
  .rw[show(ek x p==0)=false from by simpa using h];simp only[Bool.false_eq_true,if_false];have bJ:jG p x:=by
    have ab:ek p x<=0:=ad.1 x (by simp);have ae:=mZ x p;unfold jG;omega
   refine⟨?_,λy=>?_⟩
   .rw[List.pairwise_cons];refine⟨λy bb=>?_,nQ⟩;rcases List.mem_cons.1 bb with rfl|bb
    .exact bJ
    .exact J3 bJ ((List.pairwise_cons.1 nQ).1 y bb)
   .rw[List.mem_cons,i2 y,List.mem_cons (a:=y) (b:=p)]
theorem ahz (a:alZ) (cY:a≠[]) (hl:a.length<=1000) (bR:∀x∈a,mz x=true):∃r,v_ a=some r/\r.Pairwise J6/\r.Perm a:=by
 unfold v_;rw[if_pos ⟨cY,by omega,List.all_eq_true.2 bR⟩];have e:a.mergeSort (λx y=>decide (zB x y<=0))=a.mergeSort (λx y=>decide (ek x y<=0)):=by
  have:=List.map_mergeSort (r:=λx y=>decide (zB x y<=0)) (s:=λx y=>decide (ek x y<=0)) (f:=id) (l:=a) (λx rX y _=>by
   unfold zB;rw[Dq x y (bR x rX)];rfl)
  simpa using this
 rw[e];refine⟨_,rfl,?_,List.mergeSort_perm _ _⟩;refine(List.pairwise_mergeSort (le:=λx y=>decide (ek x y<=0)) (λx y z ab ae=>?_) (λx y=>?_) a).imp λ{x y} h=>by simpa [J6]using h
 .simp only[decide_eq_true_eq]at ab ae⊢;exact wB ab ae
 .have:=mZ x y;simp only[Bool.or_eq_true,decide_eq_true_eq];omega
theorem ahA (n:Nat) (ab:1<=n) (aS:n<=3) (q:aml) (b1:kZ n q):∃w,w.Pairwise jG/\(∀y,y∈w↔y∈(ir n n).map (km q))/\zD q=some w:=by
 have l1:=AD n aS;have hlen:(ir n n).length<=6:=(DX n aS n (Nat.le_refl _)).1;obtain⟨VL,ahB⟩:=QG n ab aS;obtain⟨A,hA⟩:∃A,A=(ir n n).map (km q):=⟨_,rfl⟩
 have QO:∀x∈A,mz x=true:=λx au=>by
  rw[hA]at au;obtain⟨o,bE,rfl⟩:=List.mem_map.1 au;exact ahx aS (QM b1 (l1 o bE).1 (l1 o bE).2)
 have Bc:A.length<=6:=by rw[hA,List.length_map];exact hlen
 have cY:A≠[]:=λe=>by
  rw[hA,ahB]at e;cases e
 obtain⟨r,di,aZ,cZ⟩:=ahz A cY (by omega) QO;have QP:∀x∈r,mz x=true:=λx au=>QO x (cZ.mem_iff.1 au);obtain⟨p,l,fI⟩:∃p l,r=p::l:=by
  cases r with
  |nil=>exact(cY (List.nil_perm.1 cZ)).elim
  |cons p l=>exact⟨p,l,rfl⟩
 subst fI;obtain⟨c1,c2⟩:=QN l p aZ (λx au=>QP x (List.mem_cons_of_mem _ au));refine⟨p::nG qq p l,c1,λy=>by rw[c2 y,cZ.mem_iff,hA],?_⟩;have an:wa (p::l)=some (p::nG qq p l):=by
  unfold wa;have:=cZ.length_eq;rw[if_pos ⟨by omega,List.all_eq_true.2 QP⟩];rfl
 unfold zD;rw[b1.1,ag8 n aS,bind_some];have key:∀i,i<=(ir n n).length->∀m,(ir n n).length-i<m->wb q (ir n n) m (((ir n n).take i).map (km q)) (i:Int)=some (p::nG qq p l):=by
  refine down (ir n n).length ?_ ?_
  .intro m hm;obtain⟨m,rfl⟩:∃k,m=k+1:=⟨m-1,by omega⟩
   simp only[wb,H5];rw[eJ (Nat.le_refl _),cond_false,List.take_length,<-hA,di,bind_some,an];rfl
  .intro i ao ih m hm;obtain⟨m,rfl⟩:∃k,m=k+1:=⟨m-1,by omega⟩
   simp only[wb,H5];have bE:=l1 _ (List.getElem_mem ao);rw[fA ao,cond_true,e9 _ i ao,bind_some,ag3 q _ b1.2 (by rw[bE.1];omega) (by rw[b1.1];exact bE.2),bind_some,Ay (by simp;omega) (by simp;omega),bind_some,fu i _ ao (by omega)];have:=ih m (by omega);rw[List.take_succ_eq_append_getElem ao,List.map_append]at this;exact this
 exact eP ((ir n n).length+1) λm hm=>by simpa using key 0 (by omega) m (by omega)
theorem ahC (n:Nat) (ab:1<=n) (aS:n<=3) (q:aml) (b1:kZ n q):∃w,(∀y∈w,kZ n y)/\w.length<=6/\vL q=some w/\zD q=some w:=by
 obtain⟨w,eC,eY,jj⟩:=QL n ab aS q b1;obtain⟨v,v1,v2,v3⟩:=ahA n ab aS q b1;have e:v=w:=J5 v1 eC λy=>by rw[v2 y,eY y]
 subst e;refine⟨v,λy bb=>?_,?_,jj,v3⟩
 .obtain⟨o,bE,rfl⟩:=List.mem_map.1 ((v2 y).1 bb);exact QM b1 ((AD n aS) o bE).1 ((AD n aS) o bE).2
 .have ad:v.length<=((ir n n).map (km q)).length:=(J4 v1).length_le_of_subset λy bb=>(v2 y).1 bb;rw[List.length_map]at ad;exact Nat.le_trans ad (DX n aS n (Nat.le_refl _)).1
theorem ahD (n:Nat) (ab:1<=n) (aS:n<=3) (q:aml) (b1:kZ n q):∃w,(∀y∈w,∃o∈ir n n,km q o=y)/\True/\vL q=some w/\True:=by
 obtain⟨w,eC,eY,jj⟩:=QL n ab aS q b1;exact⟨w,λy bb=>by
  obtain⟨o,bE,e⟩:=List.mem_map.1 ((eY y).1 bb);exact⟨o,bE,e⟩,trivial,jj,trivial⟩
set_option linter.unusedSimpArgs false
theorem QQ (a b:alO):(!(Op.bytesLess a b))=(Op.bytesLess b a||b==a):=by
 induction a generalizing b with
 |nil=>cases b<;>simp[Op.bytesLess]
 |cons x a ih=>
  cases b with
  |nil=>simp[Op.bytesLess]
  |cons y b=>
   simp only[Op.bytesLess];have:=ih b;by_cases ab:x<y
   .have ae:¬y<x:=λh=>by have:=UInt8.lt_asymm ab h;exact this
    have az:y≠x:=λh=>by subst h;exact absurd ab (UInt8.lt_irrefl _)
    simp[ab,ae,az]
   .by_cases ae:y<x
    .have az:x≠y:=λh=>by subst h;exact absurd ae (UInt8.lt_irrefl _)
     simp[ab,ae,az]
    .have az:x=y:=by
      have aR:=UInt8.not_lt.1 ab;have aV:=UInt8.not_lt.1 ae;exact UInt8.le_antisymm aV aR
     subst az;simp[ab,this]
theorem ahE (a:alO):Op.bytesLess a a=false:=by
 have:=QQ a a;cases h:Op.bytesLess a a with
 |false=>rfl
 |true=>rw[h]at this;simp at this
def uu (t:ct):Nat:=if t.Kind=2 then 2 else if t.Kind=3 then 1 else 0
theorem QR (t:ct):uu t<=2:=by unfold uu;split<;>(try split)<;>omega
theorem QS (t:ct):cond (t.Kind==2) (some 2) (cond (t.Kind==3) (some 1) (some 0))=some (uu t:Int):=by
 unfold uu;by_cases ae:t.Kind=2
 .simp[ae]
 .by_cases az:t.Kind=3
  .simp[az]
  .have aV:(t.Kind==2)=false:=by simpa using ae
   have aW:(t.Kind==3)=false:=by simpa using az
   rw[aV,aW,if_neg ae,if_neg az];rfl
def rF (n fl ao:Int):Bool:=decide (fl<=n)&&decide (n<=ao)
def uv (t:ct) (v:Int):Bool:=cond (t.Kind==0) (rF t.Value 0 63) (cond (t.Kind==1) (rF t.Value 0 (v-1)) (cond (t.Kind==2) (rF t.Value 0 8) (cond (t.Kind==3) (t.Value==0) false)))
def uw (v:Int):amg->Nat->Bool
 |[],k=>k==0
 |t::r,k=> !(k==0)&&(uv t v&&uw v r (k+uu t-1))
def ux (e:amg) (v most:Int):Bool:=decide ((e.length:Int)<=most)&&uw v e 1
theorem ahF (t:ct) (v:Int) (aJ: -1000000<=v/\v<=1000000):B_ t v=some (uv t v):=by
 unfold B_ kX uv rF;rw[eN (v-1) (by omega)];cases t.Kind==0<;>cases t.Kind==1<;>cases t.Kind==2<;>cases t.Kind==3<;>rfl
theorem ahG (t:ct) (v:Int) (aJ: -1000000<=v/\v<=1000000):CA t v=some (uv t v):=by
 unfold CA zi jB uv rF;rw[eN (v-1) (by omega)];cases t.Kind==0<;>cases t.Kind==1<;>cases t.Kind==2<;>cases t.Kind==3<;>rfl
theorem ahH (t:ct):G1 t=some (uu t:Int):=QS t
theorem ahI (t:ct):Hy t=some (uu t:Int):=QS t
theorem QT {k a:Nat} (ax:1<=k) (oB:k<=100000000) (cg:a<=2):IntKind.i64.wrap ((k:Int)+IntKind.i64.wrap ((a:Int)-1))=((k+a-1:Nat):Int):=by
 rw[eN ((a:Int)-1) (by omega),eN _ (by omega)];omega
theorem wX (k:Nat):((k:Int)==0)=(k==0):=by
 by_cases h:k=0
 .subst h;rfl
 .have ab:((k:Int)==0)=false:=by simp;omega
  have ae:(k==0)=false:=by simpa using h
  rw[ab,ae]
theorem ahJ (e:amg) (v most:Int) (aJ: -1000000<=v/\v<=1000000) (he:e.length<=1048576):Ca e v most=some (ux e v most):=by
 unfold Ca ux;by_cases hm:(e.length:Int)<=most
 .have d1:decide (most<(e.length:Int))=false:=by simp;omega
  have d2:decide ((e.length:Int)<=most)=true:=by simpa using hm
  rw[d1,d2,cond_false,Bool.true_and];have key:∀i,i<=e.length->∀(k:Nat) m,k<=1+2*i->e.length-i<m->vy e v m (k:Int) (i:Int)=some (uw v (e.drop i) k):=by
   refine down e.length ?_ ?_
   .intro k m _ hm;obtain⟨m,rfl⟩:∃j,m=j+1:=⟨m-1,by omega⟩
    simp only[vy,G2];rw[eJ (Nat.le_refl _),List.drop_of_length_le (Nat.le_refl _),wX];rfl
   .intro i ao ih k m ax hm;obtain⟨m,rfl⟩:∃j,m=j+1:=⟨m-1,by omega⟩
    simp only[vy,G2];rw[fA ao,e9 _ i ao,fu i _ ao (by omega),drop_cons e i ao,wX];simp only[cond_true,bind_some,ahF _ v aJ,ahH,uw];by_cases aX:k=0
    .subst aX;rfl
    .have R:(k==0)=false:=by simpa using aX
     have cg:=QR e[i];rw[R,QT (by omega) (by omega) cg,ih _ m (by omega) (by omega)];simp only[cond_false,Bool.not_false,Bool.true_and];cases uv e[i] v<;>rfl
  refine eP (e.length+1) λm hm=>?_;have:=key 0 (by omega) 1 m (by omega) (by omega);simpa using this
 .have d1:decide (most<(e.length:Int))=true:=by simp;omega
  have d2:decide ((e.length:Int)<=most)=false:=by simpa using hm
  rw[d1,d2];rfl
theorem ahK (e:amg) (v most:Int) (aJ:0<=v/\v<=29) (alK:1<=most/\most<=60) (he:e.length<=1048576):CB e v most=some (ux e v most):=by
 unfold CB jB ux;have d1:(!(decide (0<=v)&&decide (v<=29)))=false:=by simp;omega
 have d2:(!(decide (1<=most)&&decide (most<=60)))=false:=by simp;omega
 simp only[bind_some,d1,d2,cond_false];by_cases ab:e.length=0
 .have:e=[]:=List.length_eq_zero_iff.1 ab;subst this;simp[uw]
 .by_cases hm:(e.length:Int)<=most
  .have d3:(!(decide ((1:Int)<=(e.length:Int))&&decide ((e.length:Int)<=most)))=false:=by simp;omega
   have d4:decide ((e.length:Int)<=most)=true:=by simpa using hm
   rw[d3,d4,cond_false,Bool.true_and];have key:∀i,i<=e.length->∀(k:Nat) m,k<=1+2*i->e.length-i<m->vO e v m (k:Int) (i:Int)=some (uw v (e.drop i) k):=by
    refine down e.length ?_ ?_
    .intro k m _ hm;obtain⟨m,rfl⟩:∃j,m=j+1:=⟨m-1,by omega⟩
     simp only[vO,Hz];rw[eJ (Nat.le_refl _),List.drop_of_length_le (Nat.le_refl _),wX];rfl
    .intro i ao ih k m ax hm;obtain⟨m,rfl⟩:∃j,m=j+1:=⟨m-1,by omega⟩
     simp only[vO,Hz];rw[fA ao,e9 _ i ao,fu i _ ao (by omega),drop_cons e i ao,wX];simp only[cond_true,bind_some,ahG _ v (by omega),ahI,uw];by_cases aX:k=0
     .subst aX;rfl
     .have R:(k==0)=false:=by simpa using aX
      have cg:=QR e[i];rw[R,QT (by omega) (by omega) cg,ih _ m (by omega) (by omega)];simp only[cond_false,Bool.not_false,Bool.true_and];cases uv e[i] v<;>rfl
   refine eP (e.length+1) λm hm=>?_;have:=key 0 (by omega) 1 m (by omega) (by omega);simpa using this
  .have d3:(!(decide ((1:Int)<=(e.length:Int))&&decide ((e.length:Int)<=most)))=true:=by simp;omega
   have d4:decide ((e.length:Int)<=most)=false:=by simpa using hm
   rw[d3,d4];rfl
def small (c:UInt8):Bool:=decide (97<=(c.toNat:Int))&&decide ((c.toNat:Int)<=122)
def digit (c:UInt8):Bool:=decide (48<=(c.toNat:Int))&&decide ((c.toNat:Int)<=57)
def kC (s:alO):Bool:=decide (s.length<=10)&&(match s with|[]=>false|c::r=>small c&&r.all λc=>small c||digit c)
theorem J7 (s:alO):vt s=some (kC s):=by
 unfold vt;cases s with
 |nil=>rfl
 |cons c r=>
  have gr:((c::r)==([]:alO))=false:=rfl;rw[gr];simp only[cond_false];by_cases iT:10<(c::r).length
  .have:decide ((10:Int)<((c::r).length:Int))=true:=by simp at iT⊢;omega
   rw[this];have ae:decide ((c::r).length<=10)=false:=by simp at iT⊢;omega
   simp only[kC,ae];rfl
  .have:decide ((10:Int)<((c::r).length:Int))=false:=by simp at iT⊢;omega
   rw[this];have ae:decide ((c::r).length<=10)=true:=by simp at iT⊢;omega
   rw[Qp];simp only[cond_false,bind_some,yZ];simp only[kC,ae,Bool.true_and];show cond (!small c) _ _=_;cases ad:small c with
   |false=>rfl
   |true=>
    simp only[Bool.not_true,cond_false];rw[nL (n:=(c::r).length) (λi=>some (((c::r).drop i).all λc=>small c||digit c))]
    .simp[ad]
    .intro m;simp only[y0,GW];rw[eJ (Nat.le_refl _)];simp
    .intro i ao m ih;simp only[y0,GW];rw[fA ao,e9 _ i ao,fu i _ ao (by omega),ih,drop_cons _ i ao];simp only[cond_true,bind_some,yZ,GV,List.all_cons];show cond (!small _) (cond (!digit _) _ _) _=_;cases small (c::r)[i]<;>cases digit (c::r)[i]<;>rfl
theorem QU (s:alO) (ad:s.length<=140737488355328):ze s=some (kC s):=by
 unfold ze;have bh:∀m,s.length-1<m->1<=s.length->sw s m ((1:Nat):Int)=some (((s.drop 1).all λc=>small c||digit c)&&(decide (1<=(s.length:Int))&&decide ((s.length:Int)<=10))):=by
  intro m hm ab;refine down s.length (P:=λi=>1<=i->∀m,s.length-i<m->sw s m (i:Int)=some (((s.drop i).all λc=>small c||digit c)&&(decide (1<=(s.length:Int))&&decide ((s.length:Int)<=10)))) ?_ ?_ 1 ab (Nat.le_refl _) m hm
  .intro _ m hm;obtain⟨k,rfl⟩:∃k,m=k+1:=⟨m-1,by omega⟩
   simp only[sw,Cv];rw[eJ (Nat.le_refl _)];simp
  .intro i ao ih Fu m hm;obtain⟨k,rfl⟩:∃k,m=k+1:=⟨m-1,by omega⟩
   simp only[sw,Cv];rw[fA ao,e9 _ i ao,fu i _ ao (by omega),ih (by omega) k (by omega),drop_cons _ i ao];have e:((i:Int)==0)=false:=by simp;omega
   rw[e];simp only[cond_true,cond_false,bind_some,Hp,List.all_cons];show cond (!small _) (cond (!digit _) _ _) _=_;cases small s[i]<;>cases digit s[i]<;>rfl
 refine eP (s.length+1) λm hm=>?_;obtain⟨k,rfl⟩:∃k,m=k+1:=⟨m-1,by omega⟩
 simp only[sw,Cv];cases s with
 |nil=>rfl
 |cons c r=>
  have ax:=bh k (by simp at hm⊢;omega) (by simp);rw[show((1:Nat):Int)=1 from rfl]at ax;rw[wV (by simp),Qp,agV,ax];have e:((0:Int)==0)=true:=rfl;rw[e];simp only[cond_true,kC];show cond (!small c) _ _=_;have ab:decide (1<=((c::r).length:Int))=true:=by simp;omega
  have ae:decide (((c::r).length:Int)<=10)=decide ((c::r).length<=10):=by
   by_cases h:(c::r).length<=10<;>simp at h⊢<;>omega
  rw[ab,ae];cases small c with
  |false=>simp
  |true=>simp[Bool.and_comm]
def eu (p:bT):Nat:=if p.Kind=1\/p.Kind=3\/p.Kind=4 then 1 else if p.Kind=2 then 2 else 0
theorem wY (p:bT):eu p<=2:=by unfold eu;split<;>(try split)<;>omega
theorem QV (p:bT) (K:Bool->alT) (hK:∀b,K b=cond b (some 1) (cond (p.Kind==2) (some 2) (some 0))):
  cond (p.Kind==1) (K true) (cond (p.Kind==3) (K true) (K (p.Kind==4)))=some (eu p:Int):=by
 simp only[hK,eu];by_cases ab:p.Kind=1
 .simp[ab]
 .by_cases az:p.Kind=3
  .simp[az]
  .by_cases a6:p.Kind=4
   .simp[a6]
   .by_cases ae:p.Kind=2
    .simp[ae]
    .have aR:(p.Kind==1)=false:=by simpa using ab
     have aW:(p.Kind==3)=false:=by simpa using az
     have cm:(p.Kind==4)=false:=by simpa using a6
     have aV:(p.Kind==2)=false:=by simpa using ae
     simp[aR,aW,cm,aV,ab,az,a6,ae]
theorem QW (p:bT):y2 p=some (eu p:Int):=by
 unfold y2;exact QV p (y1 p) λ_=>rfl
theorem QX (p:bT):zh p=some (eu p:Int):=by
 unfold zh;exact QV p (zg p) λ_=>rfl
def sP:amh->Nat->Bool
 |[],k=>k==0
 |p::r,k=> !(k==0)&&sP r (k+eu p-1)
def eO:amh->Nat->Option Nat
 |[],0=>some 0
 |[],_+1=>none
 |_::_,0=>some 0
 |p::r,k+1=>(eO r (k+eu p)).map (·+1)
theorem AF (l:amh):eO l 0=some 0:=by cases l<;>rfl
theorem qE {p:bT} {r:amh} {a k:Nat}:eO (p::r) (a+1)=some k↔∃cF,eO r (a+eu p)=some cF/\k=cF+1:=by
 simp only[eO,map_eq_some_iff];constructor
 .rintro⟨cF,h,rfl⟩;exact⟨cF,h,rfl⟩
 .rintro⟨cF,h,rfl⟩;exact⟨cF,h,rfl⟩
theorem uy:∀{l:amh} {a k:Nat},eO l a=some k->a<=k/\k<=l.length
 |[],0,k,h=>by simp only[eO,some.injEq]at h;subst h;simp
 |[],a+1,k,h=>by simp[eO]at h
 |_::_,0,k,h=>by simp only[eO,some.injEq]at h;subst h;simp
 |p::r,a+1,k,h=>by
  obtain⟨cF,bC,rfl⟩:=qE.1 h;have:=uy bC;simp only[List.length_cons];omega
theorem J8:∀(l:amh) (k:Nat),sP l k=(eO l k==some l.length)
 |[],0=>rfl
 |[],k+1=>rfl
 |p::r,0=>rfl
 |p::r,k+1=>by
  have e:k+1+eu p-1=k+eu p:=by omega
  simp only[sP,e,J8 r (k+eu p)];have gr:(k+1==0)=false:=rfl;rw[gr];simp only[Bool.not_false,Bool.true_and,eO];cases eO r (k+eu p)with
  |none=>rfl
  |some n=>simp
theorem AG:∀{l:amh} {a b k:Nat},eO l (a+b)=some k->∃b3 cc,eO l a=some b3/\eO (l.drop b3) b=some cc/\k=b3+cc
 |l,0,b,k,h=>⟨0,k,AF l,by simpa using h,by omega⟩
 |[],a+1,b,k,h=>by rw[show a+1+b=(a+b)+1 by omega]at h;simp[eO]at h
 |p::r,a+1,b,k,h=>by
  rw[show a+1+b=(a+b)+1 by omega]at h;obtain⟨cF,bC,rfl⟩:=qE.1 h;rw[show a+b+eu p=(a+eu p)+b by omega]at bC;obtain⟨b3,cc,ab,ae,rfl⟩:=AG bC;exact⟨b3+1,cc,qE.2 ⟨b3,ab,rfl⟩,by simpa using ae,by omega⟩
theorem QY:∀{l:amh} {a k:Nat},eO l a=some k->∀i,i<k->∃m,1<=m/\eO (l.drop i) m=some (k-i)
 |[],0,k,h,i,ao=>by simp only[eO,some.injEq]at h;omega
 |[],a+1,k,h,i,ao=>by simp[eO]at h
 |_::_,0,k,h,i,ao=>by simp only[eO,some.injEq]at h;omega
 |p::r,a+1,k,h,i,ao=>by
  cases i with
  |zero=>exact⟨a+1,by omega,by simpa using h⟩
  |succ i=>
   obtain⟨cF,bC,rfl⟩:=qE.1 h;obtain⟨m,ab,ae⟩:=QY bC i (by omega);exact⟨m,ab,by simp only[List.drop_succ_cons];rw[ae];congr 1;omega⟩
theorem ahL {l:amh} {a k i:Nat} (h:eO l a=some k) (ao:i<k):∃e,eO (l.drop i) 1=some e/\i+e<=k/\1<=e:=by
 obtain⟨m,ab,ae⟩:=QY h i ao;obtain⟨m,rfl⟩:∃j,m=1+j:=⟨m-1,by omega⟩
 obtain⟨b3,cc,az,a6,bF⟩:=AG ae;have:=uy az;exact⟨b3,az,by omega,by omega⟩
theorem J9 {k a:Nat} (ax:1<=k) (oB:k<=100000000) (cg:a<=2):IntKind.i64.wrap ((k:Int)+IntKind.i64.wrap ((a:Int)-1))=((k+a-1:Nat):Int):=by
 rw[eN ((a:Int)-1) (by omega),eN _ (by omega)];omega
theorem ahM (e:amh) (he:e.length<=1048576):B7 e=some ((decide (1<=e.length)&&decide (e.length<=20))&&sP e 1):=by
 unfold B7;by_cases hm:1<=e.length/\e.length<=20
 .have d1:(((e.length:Int)==0)||decide ((20:Int)<(e.length:Int)))=false:=by
   rw[Bool.or_eq_false_iff,beq_eq_false_iff_ne,decide_eq_false_iff_not];omega
  have d2:(decide (1<=e.length)&&decide (e.length<=20))=true:=by simp;omega
  rw[d1,d2,cond_false,Bool.true_and];have key:∀i,i<=e.length->∀(k:Nat) m,k<=1+2*i->e.length-i<m->vu e m (k:Int) (i:Int)=some (sP (e.drop i) k):=by
   refine down e.length ?_ ?_
   .intro k m _ hm;obtain⟨m,rfl⟩:∃j,m=j+1:=⟨m-1,by omega⟩
    simp only[vu,GX];rw[eJ (Nat.le_refl _),List.drop_of_length_le (Nat.le_refl _),wX];rfl
   .intro i ao ih k m ax hm;obtain⟨m,rfl⟩:∃j,m=j+1:=⟨m-1,by omega⟩
    simp only[vu,GX];rw[fA ao,e9 _ i ao,fu i _ ao (by omega),drop_cons e i ao,wX];simp only[cond_true,bind_some,QW,sP];by_cases aX:k=0
    .subst aX;rfl
    .have R:(k==0)=false:=by simpa using aX
     have cg:=wY e[i];rw[R,J9 (by omega) (by omega) cg,ih _ m (by omega) (by omega)];simp only[cond_false,Bool.not_false,Bool.true_and]
  refine eP (e.length+1) λm hm=>?_;have:=key 0 (by omega) 1 m (by omega) (by omega);simpa using this
 .have d1:(((e.length:Int)==0)||decide ((20:Int)<(e.length:Int)))=true:=by
   by_cases h:e.length=0
   .simp[h]
   .have:decide ((20:Int)<(e.length:Int))=true:=by simp;omega
    rw[this,Bool.or_true]
  have d2:(decide (1<=e.length)&&decide (e.length<=20))=false:=by
   rw[Bool.and_eq_false_iff,decide_eq_false_iff_not,decide_eq_false_iff_not];omega
  rw[d1,d2];rfl
def qF (i:Nat):Option Nat->Int
 |none=> -1
 |some n=>((i+n:Nat):Int)
theorem ahN (d:bs) (ai:d.Body.length<=1048576) (i0:Nat) (aX:i0<=d.Body.length):Cx d (i0:Int)=some (qF i0 (eO (d.Body.drop i0) 1)):=by
 unfold Cx;have key:∀i,i<=d.Body.length->∀(k:Nat) m,k<=1+2*i->d.Body.length-i<m->vM d m (i:Int) (k:Int)=some (qF i (eO (d.Body.drop i) k)):=by
  refine down d.Body.length ?_ ?_
  .intro k m _ hm;obtain⟨m,rfl⟩:∃j,m=j+1:=⟨m-1,by omega⟩
   simp only[vM,Ht];rw[List.drop_of_length_le (Nat.le_refl _)];cases k with
   |zero=>rw[uq];simp[eO,qF]
   |succ k=>
    rw[wV (succ_pos k)];have:decide ((d.Body.length:Int)<=(d.Body.length:Int))=true:=by simp
    rw[this];rfl
  .intro i ao ih k m ax hm;obtain⟨m,rfl⟩:∃j,m=j+1:=⟨m-1,by omega⟩
   simp only[vM,Ht];cases k with
   |zero=>rw[uq,AF];simp[qF]
   |succ k=>
    have d1:decide ((d.Body.length:Int)<=(i:Int))=false:=by simp;omega
    rw[wV (succ_pos k),d1,e9 _ i ao,fu i _ ao (by omega),drop_cons _ i ao];simp only[cond_true,cond_false,bind_some,QX];have cg:=wY d.Body[i];rw[J9 (by omega) (by omega) cg,ih _ m (by omega) (by omega),show k+1+eu d.Body[i]-1=k+eu d.Body[i] by omega];simp only[eO];cases eO (d.Body.drop (i+1)) (k+eu d.Body[i])with
    |none=>rfl
    |some n=>simp only[map_some,qF];congr 2;omega
 refine eP (d.Body.length+1) λm hm=>?_;refine down d.Body.length (P:=λ_=>True) trivial (λ_ _ _=>trivial) 0 (zero_le _)|>λ_=>?_;have b3:=key i0 aX 1 m (by omega) (by omega);simpa using b3
theorem ahO (b:amh) (R:b.length<=1048576) (i0 n:Nat) (h:eO (b.drop i0) 1=some n):B9 b (i0:Int)=some ((i0+n:Nat):Int):=by
 unfold B9;have aX:i0<b.length:=by
  have:=uy h;rw[List.length_drop]at this;omega
 have key:∀i,i<=b.length->∀(k n:Nat) m,k<=1+2*i->b.length-i<m->eO (b.drop i) k=some n->vv b m (i:Int) (k:Int)=some ((i+n:Nat):Int):=by
  refine down b.length ?_ ?_
  .intro k n m _ hm he;obtain⟨m,rfl⟩:∃j,m=j+1:=⟨m-1,by omega⟩
   simp only[vv,GZ];rw[List.drop_of_length_le (Nat.le_refl _)]at he;cases k with
   |zero=>rw[uq];simp only[eO,some.injEq]at he;subst he;simp
   |succ k=>simp[eO]at he
  .intro i ao ih k n m ax hm he;obtain⟨m,rfl⟩:∃j,m=j+1:=⟨m-1,by omega⟩
   simp only[vv,GZ];cases k with
   |zero=>rw[AF]at he;cases he;rw[uq];simp
   |succ k=>
    rw[drop_cons _ i ao]at he;obtain⟨EY,nu,rfl⟩:=qE.1 he;rw[wV (succ_pos k),e9 _ i ao,fu i _ ao (by omega)];simp only[cond_true,bind_some,QW];have cg:=wY b[i];rw[J9 (by omega) (by omega) cg,show k+1+eu b[i]-1=k+eu b[i] by omega,ih _ EY m (by omega) (by omega) nu];congr 2;omega
 refine eP (b.length+1) λm hm=>?_;have b3:=key i0 (by omega) 1 n m (by omega) (by omega) h;simpa using b3
end Go.l3
