/- Part of a proof that a law returns true for every input. No condition. -/
import Derived.Test.YtklcmlnabkfneaaGreatUV0x
import GoSem.Op.String
import Derived.Test.YtklcmlnabkfneaaGreatP6
namespace Go.ll
open Option Nat Or
open Go Go.cU
theorem Ot (a b:aiz) (h:a.length<=1099511627776):xK a b=some (gE a b):=by
 unfold xK;have ag:∀(i:Nat),(decide ((i:Int)<(a.length:Int))&&decide ((i:Int)<(b.length:Int)))=decide (i<min a.length b.length):=λi=>by
  rw[Bool.eq_iff_iff,Bool.and_eq_true,decide_eq_true_eq,decide_eq_true_eq,decide_eq_true_eq];omega
 rw[mN (n:=min a.length b.length) (l:=uE a b) (λi=>some (gE (a.drop i) (b.drop i))) (λm=>?_) (λi ak m ih=>?_),List.drop_zero,List.drop_zero]
 .simp only[uE,Fv];rw[ag,show decide (min a.length b.length<min a.length b.length)=false from decide_eq_false (by omega),cond_false];by_cases ab:a.length<b.length
  .rw[show decide ((a.length:Int)<(b.length:Int))=true from decide_eq_true (by omega),cond_true,Nat.min_eq_left (by omega),List.drop_of_length_le (Nat.le_refl _),drop_cons b _ ab];rfl
  .rw[show decide ((a.length:Int)<(b.length:Int))=false from decide_eq_false (by omega),cond_false];by_cases ad:b.length<a.length
   .rw[show decide ((b.length:Int)<(a.length:Int))=true from decide_eq_true (by omega),cond_true,Nat.min_eq_right (by omega),List.drop_of_length_le (l:=b) (Nat.le_refl _),drop_cons a _ ad];rfl
   .rw[show decide ((b.length:Int)<(a.length:Int))=false from decide_eq_false (by omega),cond_false,List.drop_of_length_le (l:=a) (by omega),List.drop_of_length_le (l:=b) (by omega)];rfl
 .have ab:i<a.length:=by omega
  have ad:i<b.length:=by omega
  simp only[uE,Fv];rw[ag,show decide (i<min a.length b.length)=true from decide_eq_true ak,cond_true,eP _ i ab,eP _ i ad,e5 i _ ab (by omega),drop_cons a i ab,drop_cons b i ad,gE];simp only[bind_some,ih];unfold gw;by_cases aN:a[i]<b[i]
  .simp[aN]
  .by_cases aR:b[i]<a[i]
   .simp[aN,aR]
   .simp[aN,aR]
theorem aeb (p q:aU) (h:p.b4.length<=1099511627776):AY p q=some (gQ p q):=by
 unfold AY;rw[Ot _ _ (by simp),Ot _ _ h];simp only[bind_some];unfold gQ;simp only[gE];by_cases aN:gw p.b7 q.b7=0
 .rw[if_pos aN,if_pos aN];by_cases aR:gw p.Part q.Part=0
  .rw[if_pos aR,if_pos aR];rfl
  .rw[if_neg aR,if_neg aR,show(gw p.Part q.Part !=0)=true by simpa using aR];rfl
 .rw[if_neg aN,if_neg aN,show(gw p.b7 q.b7 !=0)=true by simpa using aN];rfl
theorem aec (a b:aiz) (h:a.length<=1048576):A0 a b=some (a==b):=by
 unfold A0;by_cases aO:a.length=b.length
 .have e:((a.length:Int) !=(b.length:Int))=false:=by simp[aO]
  rw[e,cond_false];have:=mN (n:=a.length) (l:=uG a b) (λi=>some (a.drop i==b.drop i)) (λm=>?_) (λi ak m ih=>?_)
  .simpa using this
  .simp only[uG,Fx];rw[fq (Nat.le_refl _),List.drop_of_length_le (Nat.le_refl _),List.drop_of_length_le (by omega)];rfl
  .simp only[uG,Fx];rw[fe ak,eP _ i ak,eP _ i (by omega),e5 i _ ak (by omega),drop_cons a i ak,drop_cons b i (by omega),List.cons_beq_cons];simp only[cond_true,bind_some,ih,bne];cases a[i]==b[i]
   .rfl
   .simp
 .have e:((a.length:Int) !=(b.length:Int))=true:=by simp;omega
  have aR:(a==b)=false:=by
   rw[beq_eq_false_iff_ne];intro h;exact aO (by rw[h])
  rw[e,cond_true,aR]
theorem aed (p q:aU) (h:p.b4.length<=1048576):A1 p q=some (gQ p q==0):=by
 unfold A1;have key:(gQ p q==0)=((p.b7==q.b7)&&((p.Part==q.Part)&&(p.b4==q.b4))):=by
  rw[Bool.eq_iff_iff];simp only[beq_iff_eq,Bool.and_eq_true];rw[y1];cases p;cases q;simp
 rw[aec _ _ h,key];cases p.b7==q.b7<;>cases p.Part==q.Part<;>rfl
def kI (n:Nat) (a:aiU):Prop:=a.length=n/\∀p∈a,p.b4.length<=1048576
theorem aee (n:Nat) (aP:n<=3) (a b:aiU) (bU:kI n a) (R:kI n b):xL a b=some (dO a b==0):=by
 obtain⟨aef,HZ⟩:=bU;obtain⟨aeg,aeh⟩:=R;unfold xL;rw[show((a.length:Int) !=(b.length:Int))=false by simp;omega,cond_false];have:=mN (n:=a.length) (l:=uH a b) (λi=>some (dO (a.drop i) (b.drop i)==0)) (λm=>?_) (λi ak m ih=>?_)
 .simpa using this
 .simp only[uH,Fy];rw[fq (Nat.le_refl _),List.drop_of_length_le (Nat.le_refl _),List.drop_of_length_le (by omega)];rfl
 .simp only[uH,Fy];rw[fe ak,eP _ i ak,eP _ i (by omega),e5 i _ ak (by omega),drop_cons a i ak,drop_cons b i (by omega),dO];simp only[cond_true,bind_some,ih];rw[aed _ _ (HZ _ (List.getElem_mem ak))];simp only[bind_some];by_cases h:gQ a[i] b[i]=0
  .rw[if_pos h,h];rfl
  .rw[if_neg h,show(gQ a[i] b[i]==0)=false from by simpa using h];rfl
theorem Ou (n:Nat) (aP:n<=3) (a b:aiU) (bU:kI n a) (R:kI n b):AZ a b=some (decide (dO a b<0)):=by
 obtain⟨aef,HZ⟩:=bU;obtain⟨aeg,aeh⟩:=R;unfold AZ;have:=mN (n:=a.length) (l:=uF a b) (λi=>some (decide (dO (a.drop i) (b.drop i)<0))) (λm=>?_) (λi ak m ih=>?_)
 .simpa using this
 .simp only[uF,Fw];rw[fq (Nat.le_refl _),List.drop_of_length_le (Nat.le_refl _),List.drop_of_length_le (by omega)];rfl
 .simp only[uF,Fw];rw[fe ak,eP _ i ak,eP _ i (by omega),e5 i _ ak (by omega),drop_cons a i ak,drop_cons b i (by omega),dO];simp only[cond_true,bind_some,ih];rw[aeb _ _ (Nat.le_trans (HZ _ (List.getElem_mem ak)) (by omega))];simp only[bind_some];by_cases h:gQ a[i] b[i]=0
  .rw[if_pos h,h];rfl
  .rw[if_neg h,show(gQ a[i] b[i] !=0)=true from by simpa using h];rfl
abbrev H0:=aiI->aiz->Option aiI
theorem aei {k7:H0} {q x:aiU} {v4:aiz} (v:aiI) (aH:v.length<=100) (k:Nat):
  ∀(d:Nat) (c:aiU) (m:Nat),k+d<=v.length->d<m->
   mC k7 q x m (v.take (k+d)++c::v.drop (k+d)) v4 (k:Int) ((k+d:Nat):Int)=oi k7 q (v.take k++x::v.drop k) v4:=by
 intro d;induction d with
 |zero=>
  intro c m aw hm;obtain⟨m,rfl⟩:∃q,m=q+1:=⟨m-1,by omega⟩
  have aO:(v.take k).length=k:=by rw[List.length_take];omega
  have bB:bm (v.take k++c::v.drop k) (k:Int)=some c:=by
   rw[eP _ k (by simp;omega)];simp[List.getElem_append_right,aO]
  simp only[mC,FA,Nat.add_zero];rw[show decide ((k:Int)<(k:Int))=false from decide_eq_false (by omega),cond_false,bB];simp only[bind_some,Int.toNat_natCast];rw[List.set_append_right _ _ (by omega),aO,Nat.sub_self,List.set_cons_zero]
 |succ d ih=>
  intro c m aw hm;obtain⟨m,rfl⟩:∃q,m=q+1:=⟨m-1,by omega⟩
  have bd:k+d<v.length:=by omega
  have aO:(v.take (k+(d+1))).length=k+(d+1):=by rw[List.length_take];omega
  have aej:bm (v.take (k+(d+1))++c::v.drop (k+(d+1))) ((k+d:Nat):Int)=some v[k+d]:=by
   rw[eP _ (k+d) (by simp;omega)];rw[List.getElem_append_left (by omega),List.getElem_take]
  have Nh:bm (v.take (k+(d+1))++c::v.drop (k+(d+1))) ((k+(d+1):Nat):Int)=some c:=by
   rw[eP _ (k+(d+1)) (by simp;omega)];simp[List.getElem_append_right,aO]
  simp only[mC,FA];rw[show decide ((k:Int)<((k+(d+1):Nat):Int))=true from decide_eq_true (by omega),cond_true,show IntKind.i64.wrap (((k+(d+1):Nat):Int)-1)=((k+d:Nat):Int)from by rw[gl _ (by omega)];omega,aej,Nh];simp only[bind_some,Int.toNat_natCast];rw[List.set_append_right _ _ (by omega),aO,Nat.sub_self,List.set_cons_zero];have e:v.take (k+(d+1))++v[k+d]::v.drop (k+(d+1))=v.take (k+d)++v[k+d]::v.drop (k+d):=by
   rw[show k+(d+1)=(k+d)+1 from rfl,List.take_succ_eq_append_getElem bd,List.append_assoc,List.singleton_append,<-drop_cons v (k+d) bd]
  rw[e];exact ih v[k+d] m (by omega) (by omega)
def oC (v:aiI) (x:aiU) (k:Nat):aiI:=v.take k++x::v.drop k
theorem aek (n:Nat) (aP:n<=3) {k7:H0} {q x:aiU} {v4:aiz} (ar:kI n x) (v:aiI) (aH:v.length<=100) (pI:∀y∈v,kI n y):
  ∀(k:Nat),k<=v.length->(∀j (bd:j<v.length),k<=j->dO x v[j]<0)->
   ∃ct,ct<=k/\(∀j (bd:j<v.length),ct<=j->dO x v[j]<0)/\(∀(h:ct-1<v.length),0<ct->0<=dO x v[ct-1])/\
    ∀m,k<m->rq k7 q x m v v4 (k:Int)=oi k7 q (if h:0<ct/\ct-1<v.length then(if dO v[ct-1] x=0 then v else oC v x ct)else oC v x ct) v4:=by
 have rA:∀k,k<=v.length->((room 24 (v.length+1)).bind λ_=>lim λn=>mC k7 q x n (v++[[]]) v4 (k:Int) (IntKind.i64.wrap (((v++[[]]).length:Int)-1)))=oi k7 q (oC v x k) v4:=by
  intro k aw;rw[yZ (by omega) (by omega)];simp only[bind_some];refine eF (v.length+1) λn aP=>?_;have ab:=aei (k7:=k7) (q:=q) (x:=x) (v4:=v4) v aH k (v.length-k) [] n (by omega) (by omega);rw[show k+(v.length-k)=v.length by omega,List.take_length,List.drop_of_length_le (Nat.le_refl _)]at ab;rw[show IntKind.i64.wrap (((v++[([]:aiU)]).length:Int)-1)=(v.length:Int)from by rw[gl _ (by simp;omega)];simp];exact ab
 intro k;induction k with
 |zero=>
  intro aw iY;refine⟨0,Nat.le_refl _,iY,λ_ h=>by omega,λm hm=>?_⟩;obtain⟨m,rfl⟩:∃q,m=q+1:=⟨m-1,by omega⟩
  simp only[rq,A2];rw[show decide ((0:Int)<((0:Nat):Int))=false from by decide,cond_false,show(((0:Nat):Int)==0)=true from rfl,cond_true,dif_neg (by omega)];exact rA 0 (zero_le _)
 |succ k ih=>
  intro aw iY;have e:IntKind.i64.wrap (((k+1:Nat):Int)-1)=(k:Int):=by rw[gl _ (by omega)];omega
  have jm:k<v.length:=by omega
  have H2:=pI _ (List.getElem_mem jm);by_cases aj:dO x v[k]<0
  .obtain⟨ct,g1,g2,g3,g4⟩:=ih (by omega) (λj bd ais=>by
    rcases Nat.lt_or_ge k j with h|h
    .exact iY j bd (by omega)
    .have:j=k:=by omega
     subst this;exact aj)
   refine⟨ct,by omega,g2,g3,λm hm=>?_⟩;obtain⟨m,rfl⟩:∃q,m=q+1:=⟨m-1,by omega⟩
   rw[<-g4 m (by omega)];simp only[rq,A2];rw[show decide ((0:Int)<((k+1:Nat):Int))=true from decide_eq_true (by omega),cond_true,e,eP v k jm];simp only[bind_some,Ou n aP x _ ar H2];rw[decide_eq_true aj,cond_true]
  .refine⟨k+1,Nat.le_refl _,iY,λ_ _=>by simpa using aj,λm hm=>?_⟩;obtain⟨m,rfl⟩:∃q,m=q+1:=⟨m-1,by omega⟩
   simp only[rq,A2];rw[show decide ((0:Int)<((k+1:Nat):Int))=true from decide_eq_true (by omega),cond_true,e,eP v k jm];simp only[bind_some,Ou n aP x _ ar H2];rw[decide_eq_false aj,cond_false,show((((k+1:Nat):Int))==0)=false from by simp;omega,cond_false,aee n aP _ _ H2 ar];simp only[bind_some];rw[dif_pos ⟨by omega,by omega⟩];simp only[Nat.add_sub_cancel];by_cases a7:dO v[k] x=0
   .rw[if_pos a7,a7];rfl
   .rw[if_neg a7,show(dO v[k] x==0)=false from by simpa using a7];simp only[Bool.not_false,cond_true];exact rA (k+1) aw
def jg (x y:aiU):Prop:=dO x y<0
theorem H3 {x y z:aiU} (ab:jg x y) (ad:jg y z):jg x z:=by
 unfold jg at*;have aA:=u2 (a:=x) (b:=y) (c:=z) (by omega) (by omega);have aZ:dO x z≠0:=λe=>by
  have e:=ry.1 e;have bA:=me x y;rw[<-e]at ad;omega
 omega
theorem Ov {v:aiI} {x:aiU} {k:Nat} (aH:v.Pairwise jg) (aw:k<=v.length) (g2:∀j (bd:j<v.length),k<=j->dO x v[j]<0) (g3:∀(h:k-1<v.length),0<k->0<dO x v[k-1]):(oC v x k).Pairwise jg:=by
 unfold oC;rw[List.pairwise_append];have ar:∀y∈v.take k,jg y x:=by
  intro y a8;obtain⟨j,bd,rfl⟩:=List.mem_iff_getElem.1 a8;rw[List.length_take]at bd;rw[List.getElem_take];have ab:=g3 (by omega) (by omega);have ad:jg v[k-1] x:=by have:=me x v[k-1];unfold jg;omega
  by_cases e:j=k-1
  .subst e;exact ad
  .exact H3 ((List.pairwise_iff_getElem.1 aH) j (k-1) (by omega) (by omega) (by omega)) ad
 have a8:∀y∈v.drop k,jg x y:=by
  intro y a8;obtain⟨j,bd,rfl⟩:=List.mem_iff_getElem.1 a8;rw[List.length_drop]at bd;rw[List.getElem_drop];exact g2 (k+j) (by omega) (by omega)
 refine⟨aH.sublist (List.take_sublist _ _),?_,?_⟩
 .rw[List.pairwise_cons];exact⟨a8,aH.sublist (List.drop_sublist _ _)⟩
 .intro a bU b R;rcases List.mem_cons.1 R with rfl|R
  .exact ar a bU
  .exact H3 (ar a bU) (a8 b R)
theorem H4 {v:aiI} (h:v.Pairwise jg):v.Nodup:=h.imp λ{a b} ad e=>by
 subst e;unfold jg at ad;rw[ry.2 rfl]at ad;omega
theorem H5 {v w:aiI} (ab:v.Pairwise jg) (ad:w.Pairwise jg) (h:∀y,y∈v↔y∈w):v=w:=by
 have au:v.Perm w:=(List.perm_ext_iff_of_nodup (H4 ab) (H4 ad)).2 h;refine List.Perm.eq_of_pairwise (le:=λa b=>dO a b<0) (λa b _ _ g1 g2=>?_) ab ad au;have:=me a b;omega
theorem Ck (n:Nat) (aP:n<=3) {k7:H0} {q x:aiU} {v4:aiz} (ar:kI n x) (v:aiI) (aH:v.length<=100) (pI:∀y∈v,kI n y) (aK:v.Pairwise jg):
  ∃w,w.Pairwise jg/\(∀y,y∈w↔y∈v\/y=x)/\w.length<=v.length+1/\(∀m,v.length<m->rq k7 q x m v v4 (v.length:Int)=oi k7 q w v4):=by
 obtain⟨k,g1,g2,g3,g4⟩:=aek n aP (k7:=k7) (q:=q) (v4:=v4) ar v aH pI v.length (Nat.le_refl _) (λj bd h=>by omega);have pe:∀y,y∈oC v x k↔y∈v\/y=x:=λy=>by
  unfold oC;have ab:(v.take k++x::v.drop k).Perm (x::v):=by
   have ab:(v.take k++x::v.drop k).Perm (x::(v.take k++v.drop k)):=List.perm_middle
   rwa [List.take_append_drop]at ab
  rw[ab.mem_iff,List.mem_cons];exact comm
 have hlen:(oC v x k).length<=v.length+1:=by unfold oC;simp;omega
 by_cases h:0<k/\k-1<v.length
 .by_cases a7:dO v[k-1] x=0
  .refine⟨v,aK,λy=>⟨.inl,λaA=>aA.elim id λaZ=>?_⟩,by omega,λm hm=>by rw[g4 m hm,dif_pos h,if_pos a7]⟩;rw[aZ,<-ry.1 a7];exact List.getElem_mem h.2
  .refine⟨oC v x k,Ov aK g1 g2 (λad aA=>?_),pe,hlen,λm hm=>by rw[g4 m hm,dif_pos h,if_neg a7]⟩;have aZ:=g3 ad aA;have bA:=me v[k-1] x;omega
 .exact⟨oC v x k,Ov aK g1 g2 (λad aA=>(h ⟨aA,ad⟩).elim),pe,hlen,λm hm=>by rw[g4 m hm,dif_neg h]⟩
theorem ael (n:Nat) (aP:n<=3) (q:aiU) (bX:kI n q):∀(l:List aiz),kW l->(∀o∈l,o.length=n/\∀x∈o,pH n x=true)->l.length<=50->
  ∀(v:aiI),v.length+l.length<=100->(∀y∈v,kI n y)->v.Pairwise jg->
   ∃w,w.Pairwise jg/\(∀y,y∈w↔y∈v\/y∈l.map (kr q))/\∀m,l.length<m->∀o b3,l=o::b3->lP q m v o=some w:=by
 have Ow:∀o:aiz,o.length=n->(∀x∈o,pH n x=true)->kI n (kr q o):=λo ab ad=>by
  refine⟨by unfold kr;rw[List.length_map];exact ab,λp au=>?_⟩;unfold kr at au;obtain⟨x,ar,rfl⟩:=List.mem_map.1 au;have aA:=ad x ar;simp only[pH,Bool.and_eq_true,decide_eq_true_eq]at aA;have c9:x.toNat<q.length:=by rw[bX.1];omega
  rw[List.getD_eq_getElem?_getD,List.getElem?_eq_getElem c9];exact bX.2 _ (List.getElem_mem c9)
 intro l aO;induction aO with
 | @last o h=>
   intro lk hlen v aH pI aK;obtain⟨ab,ad⟩:=lk o (by simp);have ar:=Ow o ab ad;simp only[List.length_cons,List.length_nil]at aH;obtain⟨w,fQ,fJ,kA,yT⟩:=Ck n aP (k7:=λ_ _=>none) (q:=q) (v4:=o) ar v (by omega) pI aK;refine⟨w,fQ,λy=>by rw[fJ y];simp,λm hm lE b3 he=>?_⟩;cases he;obtain⟨m,rfl⟩:∃k,m=k+1:=⟨m-1,by omega⟩
   obtain⟨aB,n7,su,wX,rk⟩:=Ck n aP (k7:=lP q m) (q:=q) (v4:=o) ar v (by omega) pI aK;have H6:aB=w:=H5 n7 fQ λy=>by rw[su y,fJ y]
   subst H6;simp only[lP,FC];rw[On q o bX.2 (by omega) (by rw[bX.1];exact ad),bind_some];refine eF (v.length+1) λk aw=>?_;rw[rk k (by omega)];unfold oi;rw[h];rfl
 | @step o p l h aO ih=>
   intro lk hlen v aH pI aK;obtain⟨ab,ad⟩:=lk o (by simp);have ar:=Ow o ab ad;simp only[List.length_cons]at aH hlen;obtain⟨w0,fQ,fJ,kA,yT⟩:=Ck n aP (k7:=λ_ _=>none) (q:=q) (v4:=o) ar v (by omega) pI aK;obtain⟨w,g1,g2,g3⟩:=ih (λo bx=>lk o (List.mem_cons_of_mem _ bx)) (by simp;omega) w0 (by simp;omega) (λy a8=>((fJ y).1 a8).elim (pI y) λe=>e▸ar) fQ;refine⟨w,g1,λy=>?_,λm hm lE b3 he=>?_⟩
   .rw[g2 y,fJ y,List.map_cons (f:=kr q) (a:=o),List.mem_cons];constructor
    .rintro((aA|aA)|aA)
     .exact .inl aA
     .exact .inr (.inl aA)
     .exact .inr (.inr aA)
    .rintro(aA|aA|aA)
     .exact .inl (.inl aA)
     .exact .inl (.inr aA)
     .exact .inr aA
   .cases he;obtain⟨m,rfl⟩:∃k,m=k+1:=⟨m-1,by omega⟩
    obtain⟨aB,n7,su,wX,rk⟩:=Ck n aP (k7:=lP q m) (q:=q) (v4:=o) ar v (by omega) pI aK;have H6:aB=w0:=H5 n7 fQ λy=>by rw[su y,fJ y]
    subst H6;simp only[lP,FC];rw[On q o bX.2 (by omega) (by rw[bX.1];exact ad),bind_some];refine eF (v.length+1) λk aw=>?_;rw[rk k (by omega)];unfold oi;rw[h];exact g3 m (by simp at hm⊢;omega) p l rfl
theorem aem (n:Nat) (aP:n<=3):AV (n:Int)=some ((List.range n).map λ(i:Nat)=>(i:Int)):=by
 unfold AV;have key:∀i,i<=n->∀m,n-i<m->uD (n:Int) m ((List.range i).map λ(i:Nat)=>(i:Int)) (i:Int)=some ((List.range n).map λ(i:Nat)=>(i:Int)):=by
  refine down n ?_ ?_
  .intro m hm;obtain⟨m,rfl⟩:∃k,m=k+1:=⟨m-1,by omega⟩
   simp only[uD,Fu];rw[show decide (((n:Nat):Int)<(n:Int))=false from by simp,cond_false]
  .intro i ak ih m hm;obtain⟨m,rfl⟩:∃k,m=k+1:=⟨m-1,by omega⟩
   simp only[uD,Fu];rw[show decide (((i:Nat):Int)<(n:Int))=true from decide_eq_true (by omega),cond_true,yZ (by simp;omega) (by simp;omega),bind_some,gl _ (by omega)];have:=ih m (by omega);rw[List.range_succ,List.map_append]at this;exact this
 refine eF (n+1) λm hm=>?_;exact key 0 (by omega) m (by omega)
theorem aen (n:Nat) (ab:1<=n) (aP:n<=3) (q:aiU) (bX:kI n q):∃w,w.Pairwise jg/\(∀y,y∈w↔y∈(hZ n n).map (kr q))/\xN q=some w:=by
 obtain⟨l,aO⟩:=Oq n ab aP;have hlen:(hZ n n).length<=50:=Nat.le_trans (Ci n aP n (Nat.le_refl _)).1 (by omega);obtain⟨w,fQ,fJ,kA⟩:=ael n aP q bX (hZ n n) (aea n ab aP) (Cj n aP) hlen [] (by simp;omega) (λy a8=>by cases a8) List.Pairwise.nil;refine⟨w,fQ,λy=>by rw[fJ y];simp,?_⟩;unfold xN;rw[bX.1,aem n aP,bind_some];exact eF ((hZ n n).length+1) λm hm=>kA m (by omega) _ _ aO
def H7 (x y:aiU):Prop:=dO x y<=0
theorem aeo {n:Nat} (aP:n<=3) {a:aiU} (h:kI n a):lQ a=true:=by
 simp only[lQ,Bool.and_eq_true,decide_eq_true_eq,List.all_eq_true];exact⟨by rw[h.1];omega,λp au=>Nat.le_trans (h.2 p au) (by omega)⟩
theorem Ox {n:Nat} {q:aiU} (bX:kI n q) {o:aiz} (ab:o.length=n) (ad:∀x∈o,pH n x=true):kI n (kr q o):=by
 refine⟨by unfold kr;rw[List.length_map];exact ab,λp au=>?_⟩;unfold kr at au;obtain⟨x,ar,rfl⟩:=List.mem_map.1 au;have aA:=ad x ar;simp only[pH,Bool.and_eq_true,decide_eq_true_eq]at aA;have c9:x.toNat<q.length:=by rw[bX.1];omega
 rw[List.getD_eq_getElem?_getD,List.getElem?_eq_getElem c9];exact bX.2 _ (List.getElem_mem c9)
theorem aep {x y:aiU} (h:lQ x=true):pz x y=(dO x y==0):=by
 unfold pz;rw[GN x y h];rfl
theorem Oy:∀(l:aiI) (p:aiU),(p::l).Pairwise H7->(∀x∈l,lQ x=true)->
  (p::mI pz p l).Pairwise jg/\∀y,y∈p::mI pz p l↔y∈p::l
 |[],p,_,_=>⟨by simp[mI],λy=>by simp[mI]⟩
 |x::l,p,U,bB=>by
  rw[List.pairwise_cons]at U;obtain⟨mQ,i2⟩:=Oy l x U.2 (λy a8=>bB y (List.mem_cons_of_mem _ a8));simp only[mI,aep (bB x (by simp))];by_cases h:dO x p=0
  .have e:=ry.1 h;subst e;rw[h];simp only[beq_self_eq_true,if_true];refine⟨mQ,λy=>?_⟩;rw[i2 y];simp
  .rw[show(dO x p==0)=false from by simpa using h];simp only[Bool.false_eq_true,if_false];have b2:jg p x:=by
    have ab:dO p x<=0:=U.1 x (by simp);have ad:=me x p;unfold jg;omega
   refine⟨?_,λy=>?_⟩
   .rw[List.pairwise_cons];refine⟨λy a8=>?_,mQ⟩;rcases List.mem_cons.1 a8 with rfl|a8
    .exact b2
    .exact H3 b2 ((List.pairwise_cons.1 mQ).1 y a8)
   .rw[List.mem_cons,i2 y,List.mem_cons (a:=y) (b:=p)]
theorem aeq (a:aiI) (cw:a≠[]) (aO:a.length<=1000) (bB:∀x∈a,lQ x=true):∃r,uY a=some r/\r.Pairwise H7/\r.Perm a:=by
 unfold uY;rw[if_pos ⟨cw,by omega,List.all_eq_true.2 bB⟩];have e:a.mergeSort (λx y=>decide (yb x y<=0))=a.mergeSort (λx y=>decide (dO x y<=0)):=by
  have:=List.map_mergeSort (r:=λx y=>decide (yb x y<=0)) (s:=λx y=>decide (dO x y<=0)) (f:=id) (l:=a) (λx qV y _=>by
   unfold yb;rw[BN x y (bB x qV)];rfl)
  simpa using this
 rw[e];refine⟨_,rfl,?_,List.mergeSort_perm _ _⟩;refine(List.pairwise_mergeSort (le:=λx y=>decide (dO x y<=0)) (λx y z ab ad=>?_) (λx y=>?_) a).imp λ{x y} h=>by simpa [H7]using h
 .simp only[decide_eq_true_eq]at ab ad⊢;exact u2 ab ad
 .have:=me x y;simp only[Bool.or_eq_true,decide_eq_true_eq];omega
theorem aer (n:Nat) (ab:1<=n) (aP:n<=3) (q:aiU) (bX:kI n q):∃w,w.Pairwise jg/\(∀y,y∈w↔y∈(hZ n n).map (kr q))/\yd q=some w:=by
 have lk:=Cj n aP;have hlen:(hZ n n).length<=6:=(Ci n aP n (Nat.le_refl _)).1;obtain⟨Te,aes⟩:=Oq n ab aP;obtain⟨A,i6⟩:∃A,A=(hZ n n).map (kr q):=⟨_,rfl⟩
 have Oz:∀x∈A,lQ x=true:=λx ar=>by
  rw[i6]at ar;obtain⟨o,bx,rfl⟩:=List.mem_map.1 ar;exact aeo aP (Ox bX (lk o bx).1 (lk o bx).2)
 have zy:A.length<=6:=by rw[i6,List.length_map];exact hlen
 have cw:A≠[]:=λe=>by
  rw[i6,aes]at e;cases e
 obtain⟨r,cY,ba,cG⟩:=aeq A cw (by omega) Oz;have OA:∀x∈r,lQ x=true:=λx ar=>Oz x (cG.mem_iff.1 ar);obtain⟨p,l,fl⟩:∃p l,r=p::l:=by
  cases r with
  |nil=>exact(cw (List.nil_perm.1 cG)).elim
  |cons p l=>exact⟨p,l,rfl⟩
 subst fl;obtain⟨c1,c2⟩:=Oy l p ba (λx ar=>OA x (List.mem_cons_of_mem _ ar));refine⟨p::mI pz p l,c1,λy=>by rw[c2 y,cG.mem_iff,i6],?_⟩;have aj:uZ (p::l)=some (p::mI pz p l):=by
  unfold uZ;have:=cG.length_eq;rw[if_pos ⟨by omega,List.all_eq_true.2 OA⟩];rfl
 unfold yd;rw[bX.1,adY n aP,bind_some];have key:∀i,i<=(hZ n n).length->∀m,(hZ n n).length-i<m->u0 q (hZ n n) m (((hZ n n).take i).map (kr q)) (i:Int)=some (p::mI pz p l):=by
  refine down (hZ n n).length ?_ ?_
  .intro m hm;obtain⟨m,rfl⟩:∃k,m=k+1:=⟨m-1,by omega⟩
   simp only[u0,Gn];rw[fq (Nat.le_refl _),cond_false,List.take_length,<-i6,cY,bind_some,aj];rfl
  .intro i ak ih m hm;obtain⟨m,rfl⟩:∃k,m=k+1:=⟨m-1,by omega⟩
   simp only[u0,Gn];have bx:=lk _ (List.getElem_mem ak);rw[fe ak,cond_true,eP _ i ak,bind_some,adT q _ bX.2 (by rw[bx.1];omega) (by rw[bX.1];exact bx.2),bind_some,yZ (by simp;omega) (by simp;omega),bind_some,e5 i _ ak (by omega)];have:=ih m (by omega);rw[List.take_succ_eq_append_getElem ak,List.map_append]at this;exact this
 exact eF ((hZ n n).length+1) λm hm=>by simpa using key 0 (by omega) m (by omega)
theorem aet (n:Nat) (ab:1<=n) (aP:n<=3) (q:aiU) (bX:kI n q):∃w,(∀y∈w,kI n y)/\w.length<=6/\xN q=some w/\yd q=some w:=by
 obtain⟨w,fQ,fJ,kA⟩:=aen n ab aP q bX;obtain⟨v,v1,v2,v3⟩:=aer n ab aP q bX;have e:v=w:=H5 v1 fQ λy=>by rw[v2 y,fJ y]
 subst e;refine⟨v,λy a8=>?_,?_,kA,v3⟩
 .obtain⟨o,bx,rfl⟩:=List.mem_map.1 ((v2 y).1 a8);exact Ox bX ((Cj n aP) o bx).1 ((Cj n aP) o bx).2
 .have U:v.length<=((hZ n n).map (kr q)).length:=(H4 v1).length_le_of_subset λy a8=>(v2 y).1 a8;rw[List.length_map]at U;exact Nat.le_trans U (Ci n aP n (Nat.le_refl _)).1
set_option linter.unusedSimpArgs false
theorem OB (a b:aix):(!(Op.bytesLess a b))=(Op.bytesLess b a||b==a):=by
 induction a generalizing b with
 |nil=>cases b<;>simp[Op.bytesLess]
 |cons x a ih=>
  cases b with
  |nil=>simp[Op.bytesLess]
  |cons y b=>
   simp only[Op.bytesLess];have:=ih b;by_cases ab:x<y
   .have ad:¬y<x:=λh=>by have:=UInt8.lt_asymm ab h;exact this
    have aA:y≠x:=λh=>by subst h;exact absurd ab (UInt8.lt_irrefl _)
    simp[ab,ad,aA]
   .by_cases ad:y<x
    .have aA:x≠y:=λh=>by subst h;exact absurd ad (UInt8.lt_irrefl _)
     simp[ab,ad,aA]
    .have aA:x=y:=by
      have aN:=UInt8.not_lt.1 ab;have aR:=UInt8.not_lt.1 ad;exact UInt8.le_antisymm aR aN
     subst aA;simp[ab,this]
theorem aeu (a:aix):Op.bytesLess a a=false:=by
 have:=OB a a;cases h:Op.bytesLess a a with
 |false=>rfl
 |true=>rw[h]at this;simp at this
def te (t:c8):Nat:=if t.Kind=2 then 2 else if t.Kind=3 then 1 else 0
theorem OC (t:c8):te t<=2:=by unfold te;split<;>(try split)<;>omega
theorem OD (t:c8):cond (t.Kind==2) (some 2) (cond (t.Kind==3) (some 1) (some 0))=some (te t:Int):=by
 unfold te;by_cases ad:t.Kind=2
 .simp[ad]
 .by_cases aA:t.Kind=3
  .simp[aA]
  .have aR:(t.Kind==2)=false:=by simpa using ad
   have aS:(t.Kind==3)=false:=by simpa using aA
   rw[aR,aS,if_neg ad,if_neg aA];rfl
def qB (n eS ak:Int):Bool:=decide (eS<=n)&&decide (n<=ak)
def tf (t:c8) (v:Int):Bool:=cond (t.Kind==0) (qB t.Value 0 63) (cond (t.Kind==1) (qB t.Value 0 (v-1)) (cond (t.Kind==2) (qB t.Value 0 8) (cond (t.Kind==3) (t.Value==0) false)))
def tg (v:Int):aiP->Nat->Bool
 |[],k=>k==0
 |t::r,k=> !(k==0)&&(tf t v&&tg v r (k+te t-1))
def th (e:aiP) (v most:Int):Bool:=decide ((e.length:Int)<=most)&&tg v e 1
theorem aev (t:c8) (v:Int) (aH: -1000000<=v/\v<=1000000):AH t v=some (tf t v):=by
 unfold AH kB tf qB;rw[gl (v-1) (by omega)];cases t.Kind==0<;>cases t.Kind==1<;>cases t.Kind==2<;>cases t.Kind==3<;>rfl
theorem aew (t:c8) (v:Int) (aH: -1000000<=v/\v<=1000000):A_ t v=some (tf t v):=by
 unfold A_ xT ja tf qB;rw[gl (v-1) (by omega)];cases t.Kind==0<;>cases t.Kind==1<;>cases t.Kind==2<;>cases t.Kind==3<;>rfl
theorem aex (t:c8):Ff t=some (te t:Int):=OD t
theorem aey (t:c8):FQ t=some (te t:Int):=OD t
theorem OE {k a:Nat} (aw:1<=k) (nK:k<=100000000) (bU:a<=2):IntKind.i64.wrap ((k:Int)+IntKind.i64.wrap ((a:Int)-1))=((k+a-1:Nat):Int):=by
 rw[gl ((a:Int)-1) (by omega),gl _ (by omega)];omega
theorem vi (k:Nat):((k:Int)==0)=(k==0):=by
 by_cases h:k=0
 .subst h;rfl
 .have ab:((k:Int)==0)=false:=by simp;omega
  have ad:(k==0)=false:=by simpa using h
  rw[ab,ad]
theorem aez (e:aiP) (v most:Int) (aH: -1000000<=v/\v<=1000000) (he:e.length<=1048576):AJ e v most=some (th e v most):=by
 unfold AJ th;by_cases hm:(e.length:Int)<=most
 .have d1:decide (most<(e.length:Int))=false:=by simp;omega
  have d2:decide ((e.length:Int)<=most)=true:=by simpa using hm
  rw[d1,d2,cond_false,Bool.true_and];have key:∀i,i<=e.length->∀(k:Nat) m,k<=1+2*i->e.length-i<m->uv e v m (k:Int) (i:Int)=some (tg v (e.drop i) k):=by
   refine down e.length ?_ ?_
   .intro k m _ hm;obtain⟨m,rfl⟩:∃j,m=j+1:=⟨m-1,by omega⟩
    simp only[uv,Fg];rw[fq (Nat.le_refl _),List.drop_of_length_le (Nat.le_refl _),vi];rfl
   .intro i ak ih k m aw hm;obtain⟨m,rfl⟩:∃j,m=j+1:=⟨m-1,by omega⟩
    simp only[uv,Fg];rw[fe ak,eP _ i ak,e5 i _ ak (by omega),drop_cons e i ak,vi];simp only[cond_true,bind_some,aev _ v aH,aex,tg];by_cases a7:k=0
    .subst a7;rfl
    .have R:(k==0)=false:=by simpa using a7
     have bU:=OC e[i];rw[R,OE (by omega) (by omega) bU,ih _ m (by omega) (by omega)];simp only[cond_false,Bool.not_false,Bool.true_and];cases tf e[i] v<;>rfl
  refine eF (e.length+1) λm hm=>?_;have:=key 0 (by omega) 1 m (by omega) (by omega);simpa using this
 .have d1:decide (most<(e.length:Int))=true:=by simp;omega
  have d2:decide ((e.length:Int)<=most)=false:=by simpa using hm
  rw[d1,d2];rfl
theorem aeA (e:aiP) (v most:Int) (aH:0<=v/\v<=29) (ait:1<=most/\most<=60) (he:e.length<=1048576):Ba e v most=some (th e v most):=by
 unfold Ba ja th;have d1:(!(decide (0<=v)&&decide (v<=29)))=false:=by simp;omega
 have d2:(!(decide (1<=most)&&decide (most<=60)))=false:=by simp;omega
 simp only[bind_some,d1,d2,cond_false];by_cases ab:e.length=0
 .have:e=[]:=List.length_eq_zero_iff.1 ab;subst this;simp[tg]
 .by_cases hm:(e.length:Int)<=most
  .have d3:(!(decide ((1:Int)<=(e.length:Int))&&decide ((e.length:Int)<=most)))=false:=by simp;omega
   have d4:decide ((e.length:Int)<=most)=true:=by simpa using hm
   rw[d3,d4,cond_false,Bool.true_and];have key:∀i,i<=e.length->∀(k:Nat) m,k<=1+2*i->e.length-i<m->uK e v m (k:Int) (i:Int)=some (tg v (e.drop i) k):=by
    refine down e.length ?_ ?_
    .intro k m _ hm;obtain⟨m,rfl⟩:∃j,m=j+1:=⟨m-1,by omega⟩
     simp only[uK,FR];rw[fq (Nat.le_refl _),List.drop_of_length_le (Nat.le_refl _),vi];rfl
    .intro i ak ih k m aw hm;obtain⟨m,rfl⟩:∃j,m=j+1:=⟨m-1,by omega⟩
     simp only[uK,FR];rw[fe ak,eP _ i ak,e5 i _ ak (by omega),drop_cons e i ak,vi];simp only[cond_true,bind_some,aew _ v (by omega),aey,tg];by_cases a7:k=0
     .subst a7;rfl
     .have R:(k==0)=false:=by simpa using a7
      have bU:=OC e[i];rw[R,OE (by omega) (by omega) bU,ih _ m (by omega) (by omega)];simp only[cond_false,Bool.not_false,Bool.true_and];cases tf e[i] v<;>rfl
   refine eF (e.length+1) λm hm=>?_;have:=key 0 (by omega) 1 m (by omega) (by omega);simpa using this
  .have d3:(!(decide ((1:Int)<=(e.length:Int))&&decide ((e.length:Int)<=most)))=true:=by simp;omega
   have d4:decide ((e.length:Int)<=most)=false:=by simpa using hm
   rw[d3,d4];rfl
def small (c:UInt8):Bool:=decide (97<=(c.toNat:Int))&&decide ((c.toNat:Int)<=122)
def digit (c:UInt8):Bool:=decide (48<=(c.toNat:Int))&&decide ((c.toNat:Int)<=57)
def j5 (s:aix):Bool:=decide (s.length<=10)&&(match s with|[]=>false|c::r=>small c&&r.all λc=>small c||digit c)
theorem H8 (s:aix):um s=some (j5 s):=by
 unfold um;cases s with
 |nil=>rfl
 |cons c r=>
  have fR:((c::r)==([]:aix))=false:=rfl;rw[fR];simp only[cond_false];by_cases ig:10<(c::r).length
  .have:decide ((10:Int)<((c::r).length:Int))=true:=by simp at ig⊢;omega
   rw[this];have ad:decide ((c::r).length<=10)=false:=by simp at ig⊢;omega
   simp only[j5,ad];rfl
  .have:decide ((10:Int)<((c::r).length:Int))=false:=by simp at ig⊢;omega
   rw[this];have ad:decide ((c::r).length<=10)=true:=by simp at ig⊢;omega
   rw[N8];simp only[cond_false,bind_some,xx];simp only[j5,ad,Bool.true_and];show cond (!small c) _ _=_;cases U:small c with
   |false=>rfl
   |true=>
    simp only[Bool.not_true,cond_false];rw[mN (n:=(c::r).length) (λi=>some (((c::r).drop i).all λc=>small c||digit c))]
    .simp[U]
    .intro m;simp only[xy,E9];rw[fq (Nat.le_refl _)];simp
    .intro i ak m ih;simp only[xy,E9];rw[fe ak,eP _ i ak,e5 i _ ak (by omega),ih,drop_cons _ i ak];simp only[cond_true,bind_some,xx,E8,List.all_cons];show cond (!small _) (cond (!digit _) _ _) _=_;cases small (c::r)[i]<;>cases digit (c::r)[i]<;>rfl
theorem OG (s:aix) (U:s.length<=140737488355328):xP s=some (j5 s):=by
 unfold xP;have bc:∀m,s.length-1<m->1<=s.length->rr s m ((1:Nat):Int)=some (((s.drop 1).all λc=>small c||digit c)&&(decide (1<=(s.length:Int))&&decide ((s.length:Int)<=10))):=by
  intro m hm ab;refine down s.length (P:=λi=>1<=i->∀m,s.length-i<m->rr s m (i:Int)=some (((s.drop i).all λc=>small c||digit c)&&(decide (1<=(s.length:Int))&&decide ((s.length:Int)<=10)))) ?_ ?_ 1 ab (Nat.le_refl _) m hm
  .intro _ m hm;obtain⟨k,rfl⟩:∃k,m=k+1:=⟨m-1,by omega⟩
   simp only[rr,A5];rw[fq (Nat.le_refl _)];simp
  .intro i ak ih DM m hm;obtain⟨k,rfl⟩:∃k,m=k+1:=⟨m-1,by omega⟩
   simp only[rr,A5];rw[fe ak,eP _ i ak,e5 i _ ak (by omega),ih (by omega) k (by omega),drop_cons _ i ak];have e:((i:Int)==0)=false:=by simp;omega
   rw[e];simp only[cond_true,cond_false,bind_some,FH,List.all_cons];show cond (!small _) (cond (!digit _) _ _) _=_;cases small s[i]<;>cases digit s[i]<;>rfl
 refine eF (s.length+1) λm hm=>?_;obtain⟨k,rfl⟩:∃k,m=k+1:=⟨m-1,by omega⟩
 simp only[rr,A5];cases s with
 |nil=>rfl
 |cons c r=>
  have aw:=bc k (by simp at hm⊢;omega) (by simp);rw[show((1:Nat):Int)=1 from rfl]at aw;rw[vg (by simp),N8,adL,aw];have e:((0:Int)==0)=true:=rfl;rw[e];simp only[cond_true,j5];show cond (!small c) _ _=_;have ab:decide (1<=((c::r).length:Int))=true:=by simp;omega
  have ad:decide (((c::r).length:Int)<=10)=decide ((c::r).length<=10):=by
   by_cases h:(c::r).length<=10<;>simp at h⊢<;>omega
  rw[ab,ad];cases small c with
  |false=>simp
  |true=>simp[Bool.and_comm]
def dY (p:ck):Nat:=if p.Kind=1\/p.Kind=3\/p.Kind=4 then 1 else if p.Kind=2 then 2 else 0
theorem vj (p:ck):dY p<=2:=by unfold dY;split<;>(try split)<;>omega
theorem OH (p:ck) (K:Bool->aiC) (hK:∀b,K b=cond b (some 1) (cond (p.Kind==2) (some 2) (some 0))):
  cond (p.Kind==1) (K true) (cond (p.Kind==3) (K true) (K (p.Kind==4)))=some (dY p:Int):=by
 simp only[hK,dY];by_cases ab:p.Kind=1
 .simp[ab]
 .by_cases aA:p.Kind=3
  .simp[aA]
  .by_cases aZ:p.Kind=4
   .simp[aZ]
   .by_cases ad:p.Kind=2
    .simp[ad]
    .have aN:(p.Kind==1)=false:=by simpa using ab
     have aS:(p.Kind==3)=false:=by simpa using aA
     have b0:(p.Kind==4)=false:=by simpa using aZ
     have aR:(p.Kind==2)=false:=by simpa using ad
     simp[aN,aS,b0,aR,ab,aA,aZ,ad]
theorem OI (p:ck):xA p=some (dY p:Int):=by
 unfold xA;exact OH p (xz p) λ_=>rfl
theorem OJ (p:ck):xS p=some (dY p:Int):=by
 unfold xS;exact OH p (xR p) λ_=>rfl
def rN:aiQ->Nat->Bool
 |[],k=>k==0
 |p::r,k=> !(k==0)&&rN r (k+dY p-1)
def eo:aiQ->Nat->Option Nat
 |[],0=>some 0
 |[],_+1=>none
 |_::_,0=>some 0
 |p::r,k+1=>(eo r (k+dY p)).map (·+1)
theorem y3 (l:aiQ):eo l 0=some 0:=by cases l<;>rfl
theorem pJ {p:ck} {r:aiQ} {a k:Nat}:eo (p::r) (a+1)=some k↔∃ct,eo r (a+dY p)=some ct/\k=ct+1:=by
 simp only[eo,map_eq_some_iff];constructor
 .rintro⟨ct,h,rfl⟩;exact⟨ct,h,rfl⟩
 .rintro⟨ct,h,rfl⟩;exact⟨ct,h,rfl⟩
theorem ti:∀{l:aiQ} {a k:Nat},eo l a=some k->a<=k/\k<=l.length
 |[],0,k,h=>by simp only[eo,some.injEq]at h;subst h;simp
 |[],a+1,k,h=>by simp[eo]at h
 |_::_,0,k,h=>by simp only[eo,some.injEq]at h;subst h;simp
 |p::r,a+1,k,h=>by
  obtain⟨ct,bq,rfl⟩:=pJ.1 h;have:=ti bq;simp only[List.length_cons];omega
theorem H9:∀(l:aiQ) (k:Nat),rN l k=(eo l k==some l.length)
 |[],0=>rfl
 |[],k+1=>rfl
 |p::r,0=>rfl
 |p::r,k+1=>by
  have e:k+1+dY p-1=k+dY p:=by omega
  simp only[rN,e,H9 r (k+dY p)];have fR:(k+1==0)=false:=rfl;rw[fR];simp only[Bool.not_false,Bool.true_and,eo];cases eo r (k+dY p)with
  |none=>rfl
  |some n=>simp
theorem y4:∀{l:aiQ} {a b k:Nat},eo l (a+b)=some k->∃b1 cb,eo l a=some b1/\eo (l.drop b1) b=some cb/\k=b1+cb
 |l,0,b,k,h=>⟨0,k,y3 l,by simpa using h,by omega⟩
 |[],a+1,b,k,h=>by rw[show a+1+b=(a+b)+1 by omega]at h;simp[eo]at h
 |p::r,a+1,b,k,h=>by
  rw[show a+1+b=(a+b)+1 by omega]at h;obtain⟨ct,bq,rfl⟩:=pJ.1 h;rw[show a+b+dY p=(a+dY p)+b by omega]at bq;obtain⟨b1,cb,ab,ad,rfl⟩:=y4 bq;exact⟨b1+1,cb,pJ.2 ⟨b1,ab,rfl⟩,by simpa using ad,by omega⟩
theorem OK:∀{l:aiQ} {a k:Nat},eo l a=some k->∀i,i<k->∃m,1<=m/\eo (l.drop i) m=some (k-i)
 |[],0,k,h,i,ak=>by simp only[eo,some.injEq]at h;omega
 |[],a+1,k,h,i,ak=>by simp[eo]at h
 |_::_,0,k,h,i,ak=>by simp only[eo,some.injEq]at h;omega
 |p::r,a+1,k,h,i,ak=>by
  cases i with
  |zero=>exact⟨a+1,by omega,by simpa using h⟩
  |succ i=>
   obtain⟨ct,bq,rfl⟩:=pJ.1 h;obtain⟨m,ab,ad⟩:=OK bq i (by omega);exact⟨m,ab,by simp only[List.drop_succ_cons];rw[ad];congr 1;omega⟩
theorem aeB {l:aiQ} {a k i:Nat} (h:eo l a=some k) (ak:i<k):∃e,eo (l.drop i) 1=some e/\i+e<=k/\1<=e:=by
 obtain⟨m,ab,ad⟩:=OK h i ak;obtain⟨m,rfl⟩:∃j,m=1+j:=⟨m-1,by omega⟩
 obtain⟨b1,cb,aA,aZ,bA⟩:=y4 ad;have:=ti aA;exact⟨b1,aA,by omega,by omega⟩
theorem H_ {k a:Nat} (aw:1<=k) (nK:k<=100000000) (bU:a<=2):IntKind.i64.wrap ((k:Int)+IntKind.i64.wrap ((a:Int)-1))=((k+a-1:Nat):Int):=by
 rw[gl ((a:Int)-1) (by omega),gl _ (by omega)];omega
theorem aeC (e:aiQ) (he:e.length<=1048576):AE e=some ((decide (1<=e.length)&&decide (e.length<=20))&&rN e 1):=by
 unfold AE;by_cases hm:1<=e.length/\e.length<=20
 .have d1:(((e.length:Int)==0)||decide ((20:Int)<(e.length:Int)))=false:=by
   rw[Bool.or_eq_false_iff,beq_eq_false_iff_ne,decide_eq_false_iff_not];omega
  have d2:(decide (1<=e.length)&&decide (e.length<=20))=true:=by simp;omega
  rw[d1,d2,cond_false,Bool.true_and];have key:∀i,i<=e.length->∀(k:Nat) m,k<=1+2*i->e.length-i<m->uo e m (k:Int) (i:Int)=some (rN (e.drop i) k):=by
   refine down e.length ?_ ?_
   .intro k m _ hm;obtain⟨m,rfl⟩:∃j,m=j+1:=⟨m-1,by omega⟩
    simp only[uo,E_];rw[fq (Nat.le_refl _),List.drop_of_length_le (Nat.le_refl _),vi];rfl
   .intro i ak ih k m aw hm;obtain⟨m,rfl⟩:∃j,m=j+1:=⟨m-1,by omega⟩
    simp only[uo,E_];rw[fe ak,eP _ i ak,e5 i _ ak (by omega),drop_cons e i ak,vi];simp only[cond_true,bind_some,OI,rN];by_cases a7:k=0
    .subst a7;rfl
    .have R:(k==0)=false:=by simpa using a7
     have bU:=vj e[i];rw[R,H_ (by omega) (by omega) bU,ih _ m (by omega) (by omega)];simp only[cond_false,Bool.not_false,Bool.true_and]
  refine eF (e.length+1) λm hm=>?_;have:=key 0 (by omega) 1 m (by omega) (by omega);simpa using this
 .have d1:(((e.length:Int)==0)||decide ((20:Int)<(e.length:Int)))=true:=by
   by_cases h:e.length=0
   .simp[h]
   .have:decide ((20:Int)<(e.length:Int))=true:=by simp;omega
    rw[this,Bool.or_true]
  have d2:(decide (1<=e.length)&&decide (e.length<=20))=false:=by
   rw[Bool.and_eq_false_iff,decide_eq_false_iff_not,decide_eq_false_iff_not];omega
  rw[d1,d2];rfl
def pK (i:Nat):Option Nat->Int
 |none=> -1
 |some n=>((i+n:Nat):Int)
theorem aeD (d:bI) (ag:d.Body.length<=1048576) (i0:Nat) (a7:i0<=d.Body.length):A7 d (i0:Int)=some (pK i0 (eo (d.Body.drop i0) 1)):=by
 unfold A7;have key:∀i,i<=d.Body.length->∀(k:Nat) m,k<=1+2*i->d.Body.length-i<m->uI d m (i:Int) (k:Int)=some (pK i (eo (d.Body.drop i) k)):=by
  refine down d.Body.length ?_ ?_
  .intro k m _ hm;obtain⟨m,rfl⟩:∃j,m=j+1:=⟨m-1,by omega⟩
   simp only[uI,FL];rw[List.drop_of_length_le (Nat.le_refl _)];cases k with
   |zero=>rw[tc];simp[eo,pK]
   |succ k=>
    rw[vg (succ_pos k)];have:decide ((d.Body.length:Int)<=(d.Body.length:Int))=true:=by simp
    rw[this];rfl
  .intro i ak ih k m aw hm;obtain⟨m,rfl⟩:∃j,m=j+1:=⟨m-1,by omega⟩
   simp only[uI,FL];cases k with
   |zero=>rw[tc,y3];simp[pK]
   |succ k=>
    have d1:decide ((d.Body.length:Int)<=(i:Int))=false:=by simp;omega
    rw[vg (succ_pos k),d1,eP _ i ak,e5 i _ ak (by omega),drop_cons _ i ak];simp only[cond_true,cond_false,bind_some,OJ];have bU:=vj d.Body[i];rw[H_ (by omega) (by omega) bU,ih _ m (by omega) (by omega),show k+1+dY d.Body[i]-1=k+dY d.Body[i] by omega];simp only[eo];cases eo (d.Body.drop (i+1)) (k+dY d.Body[i])with
    |none=>rfl
    |some n=>simp only[map_some,pK];congr 2;omega
 refine eF (d.Body.length+1) λm hm=>?_;refine down d.Body.length (P:=λ_=>True) trivial (λ_ _ _=>trivial) 0 (zero_le _)|>λ_=>?_;have b1:=key i0 a7 1 m (by omega) (by omega);simpa using b1
theorem aeE (b:aiQ) (R:b.length<=1048576) (i0 n:Nat) (h:eo (b.drop i0) 1=some n):AG b (i0:Int)=some ((i0+n:Nat):Int):=by
 unfold AG;have a7:i0<b.length:=by
  have:=ti h;rw[List.length_drop]at this;omega
 have key:∀i,i<=b.length->∀(k n:Nat) m,k<=1+2*i->b.length-i<m->eo (b.drop i) k=some n->uq b m (i:Int) (k:Int)=some ((i+n:Nat):Int):=by
  refine down b.length ?_ ?_
  .intro k n m _ hm he;obtain⟨m,rfl⟩:∃j,m=j+1:=⟨m-1,by omega⟩
   simp only[uq,Fb];rw[List.drop_of_length_le (Nat.le_refl _)]at he;cases k with
   |zero=>rw[tc];simp only[eo,some.injEq]at he;subst he;simp
   |succ k=>simp[eo]at he
  .intro i ak ih k n m aw hm he;obtain⟨m,rfl⟩:∃j,m=j+1:=⟨m-1,by omega⟩
   simp only[uq,Fb];cases k with
   |zero=>rw[y3]at he;cases he;rw[tc];simp
   |succ k=>
    rw[drop_cons _ i ak]at he;obtain⟨Dj,my,rfl⟩:=pJ.1 he;rw[vg (succ_pos k),eP _ i ak,e5 i _ ak (by omega)];simp only[cond_true,bind_some,OI];have bU:=vj b[i];rw[H_ (by omega) (by omega) bU,show k+1+dY b[i]-1=k+dY b[i] by omega,ih _ Dj m (by omega) (by omega) my];congr 2;omega
 refine eF (b.length+1) λm hm=>?_;have b1:=key i0 (by omega) 1 n m (by omega) (by omega) h;simpa using b1
end Go.ll
