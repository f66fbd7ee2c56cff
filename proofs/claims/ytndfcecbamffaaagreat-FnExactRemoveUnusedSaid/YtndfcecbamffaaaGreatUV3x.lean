/- Part of a proof that a law returns true for every input. No condition. -/
import Derived.Test.YtndfcecbamffaaaGreatUV2x
import Derived.Test.YtndfcecbamffaaaGreatUV0x
namespace Go.mn
open Option Go.IntKind Nat Or
open Go Go.cW
def yv (p:Int) (K:abH) (t:aG):aG:=
 cond (t.Kind==1) (cond (decide (p<=t.Value)) ⟨1,i64.wrap (i64.wrap (t.Value-p)+(K.length:Int))⟩ (cond (decide (0<=lv (λx=>t.Value==x) 0 K)) ⟨1,lv (λx=>t.Value==x) 0 K⟩ t)) t
def mN (p:Int) (K:abH) (e:abS):abS:=e.map (yv p K)
theorem ZY (S:abH) (v:Int) (h:S.length<=1048576):u3 S v=some (lv (λx=>v==x) 0 S):=by
 unfold u3;rw[Ga S (λx=>v==x) (λm=>by
  simp only[sX,xy];rw[eb (Nat.le_refl _)];rfl) (λi aw m=>by
  simp only[sX,xy];rw[e3 aw,eD _ i aw,eT i _ aw (by omega)];simp only[cond_true,bind_some])]
theorem NC (e:abS) (l:bj) (K:abH) (he:e.length<=1048576) (hK:K.length<=1048576) (x:bc):
  xD x e l K=some (mN l.a8 K e):=by
 unfold xD Ex;have:=rC (L:=qj e l K) e (yv l.a8 K) 0 some (λm w hw=>?_) (λi aw m w hw=>?_) [] (by simp)
 .rw[this];rfl
 .simp only[qj,Ew];rw[eb (Nat.le_refl _)];rfl
 .simp only[qj,Ew,qi,Ev];rw[e3 aw,eD _ i aw,eT i _ aw (by omega)];simp only[cond_true,bind_some,yv];have dK:∀x:aG,room 16 (w.length+[x].length)=some ():=λx=>ko (by simp only[List.length_cons,List.length_nil];omega) (by simp only[List.length_cons,List.length_nil];omega);cases ak:e[i].Kind==1
  .simp only[cond_false,dK,bind_some]
  .simp only[cond_true];cases al:decide (l.a8<=e[i].Value)
   .simp only[cond_false];rw[ZY K _ hK];simp only[bind_some];cases ae:decide (0<=lv (λx=>e[i].Value==x) 0 K)
    .simp only[cond_false,bind_some,Option.elim,dK]
    .simp only[cond_true,bind_some,Option.elim,xC,List.isEmpty_cons,cond_false,dK]
   .simp only[cond_true,bind_some,Option.elim,xC,List.isEmpty_cons,cond_false,dK]
theorem ND (es:abP) (l:bj) (K:abH) (hK:K.length<=1048576) (he:es.length<=1048576) (h:∀e∈es,e.length<=1048576) (x:bc):
  xE es l K x=some (es.map (mN l.a8 K)):=by
 unfold xE;have:=rC (L:=u9 es x l K) es (mN l.a8 K) 0 some (λm w hw=>?_) (λi aw m w hw=>?_) [] (by simp)
 .rw[this];rfl
 .simp only[u9,Ey];rw[eb (Nat.le_refl _)];rfl
 .simp only[u9,Ey];rw[e3 aw,eD _ i aw,eT i _ aw (by omega),ko (by omega) (by omega)];simp only[cond_true,bind_some];rw[NC _ l K (h _ (List.getElem_mem aw)) hK];rfl
theorem NF (e:abH) (h:e.length<=1048576):xB e=some e:=by
 unfold xB;rw[ko (by omega) (by omega)];cases e with
 |nil=>simp[both]
 |cons x r=>rfl
def mO (p:Int) (K:abH) (x:bc):bc:=⟨x.bs,mN p K x.Guard,x.Name,x.bl.map (mN p K),x.Next.map (mN p K)⟩
theorem ZZ (l:bj) (K:abH) (hK:K.length<=1048576) (hl:qu l):
  Ap l l K=some ⟨l.a8,l.Start,l.aW.map (mO l.a8 K)⟩:=by
 obtain⟨R,U,aA⟩:=hl;unfold Ap;rw[NF _ R,bind_some];refine(rC (L:=λn v i=>u_ l l K l.Start n v i) l.aW (mO l.a8 K) 0 (λv=>some ⟨l.a8,l.Start,v⟩) (λm w hw=>?_) (λi aw m w hw=>?_) [] (by simp)).trans (by simp)
 .simp only[u_,Ez];rw[eb (Nat.le_refl _)];rfl
 .obtain⟨af,aH,aM,aT,bf⟩:=aA _ (List.getElem_mem aw);simp only[u_,Ez];rw[e3 aw,eD _ i aw,eT i _ aw (by omega)];simp only[cond_true,bind_some];rw[NF _ af,bind_some,NC _ l K aH hK,bind_some,ND _ l K hK aT.1 aT.2,bind_some,ND _ l K hK bf.1 bf.2,bind_some,ko (by omega) (by omega)];rfl
def mP {α:Type} (xs:List α) (D:abH):List (Bool×α):=xs.mapIdx λi x=>(decide ((i:Int)∈D),x)
theorem Z0 {α:Type} (xs:List α):xs.map (λx=>(false,x))=mP xs []:=by
 apply List.ext_getElem
 .simp[mP]
 .intro i R U;simp[mP]
theorem Z1 {α:Type} (xs:List α) (D:abH) (d:α) {v:Int} (bq:0<=v) (R:v<(xs.length:Nat)):bS (mP xs D) v=some (decide (v∈D),xs.getD v.toNat d):=by
 obtain⟨i,aw⟩:∃i:Nat,v=(i:Int):=⟨v.toNat,by omega⟩
 subst aw;have hl:i<(mP xs D).length:=by simp only[mP,List.length_mapIdx];omega
 rw[eD _ i hl];have ag:i<xs.length:=by omega
 simp[mP,List.getD_eq_getElem?_getD,ag]
theorem Z2 {α:Type} (xs:List α) (D:abH) (d:α) {v:Int} (bq:0<=v) (R:v<(xs.length:Nat)):List.set (mP xs D) v.toNat (true,xs.getD v.toNat d)=mP xs (D++[v]):=by
 obtain⟨i,aw⟩:∃i:Nat,v=(i:Int):=⟨v.toNat,by omega⟩
 subst aw;have ag:i<xs.length:=by omega
 apply List.ext_getElem
 .simp[mP]
 .intro au U aA;rw[List.getElem_set];simp only[Int.toNat_natCast];by_cases NG:i=au
  .subst NG;simp[mP,List.getD_eq_getElem?_getD,ag]
  .rw[if_neg NG];have cO:¬(au:Int)=(i:Int):=by omega
   simp[mP,cO]
def tD (p:Int) (K:abH) (x:bc):bc:=⟨x.bs,mN p K x.Guard,x.Name,x.bl.map (mN p K),K.map λi=>mN p K (x.Next.getD i.toNat [])⟩
theorem Z3 (l:bj) (K:abH) (hK:K.length<=1048576) (hl:qu l) (tC:∀v∈K,0<=v/\v<(l.Start.length:Nat)/\∀x∈l.aW,v<(x.Next.length:Nat)) (o5:K.Nodup):
  Aq l K=some ⟨K.length,K.map λi=>l.Start.getD i.toNat 0,l.aW.map (tD l.a8 K)⟩:=by
 have U:=hl.2.1;unfold Aq;rw[ZZ l K hK hl,bind_some];refine(rC (L:=vb l K ⟨l.a8,l.Start,l.aW.map (mO l.a8 K)⟩) K (λi=>l.Start.getD i.toNat 0) 0 (λv=>some ⟨K.length,v,l.aW.map (tD l.a8 K)⟩) (λm v ay=>?_) (λi aw m v ay=>?_) [] (by simp)).trans (by simp)
 .simp only[vb,EC];rw[eb (Nat.le_refl _),cond_false];have bm:l.aW.map (tD l.a8 K)=(l.aW.map (mO l.a8 K)).map λx=>⟨x.bs,x.Guard,x.Name,x.bl,K.map λi=>x.Next.getD i.toNat []⟩:=by
   rw[List.map_map];refine List.map_congr_left λx _=>?_;simp only[Function.comp,mO,tD,bc.mk.injEq,true_and];refine List.map_congr_left λi _=>?_;rw[List.getD_eq_getElem?_getD,List.getD_eq_getElem?_getD,List.getElem?_map];cases x.Next[i.toNat]? <;>rfl
  rw[bm];refine Ba (L:=λn w i=>qk K ⟨l.a8,l.Start,l.aW.map (mO l.a8 K)⟩ n v w i) (l.aW.map (mO l.a8 K)) _ (λw=>some ⟨K.length,v,w⟩) (λm w hw=>?_) (λi aw m w hw GH=>?_)
  .simp only[qk,EB];rw[eb (Nat.le_refl _),cond_false]
  .have oY:i<l.aW.length:=by simpa using aw
   have NH:∀v∈K,0<=v/\v<((l.aW.map (mO l.a8 K))[i].Next.length:Nat):=λv ay=>by
    obtain⟨a,_,c⟩:=tC v ay;refine⟨a,?_⟩;rw[List.getElem_map];simp only[mO,List.length_map];exact c _ (List.getElem_mem oY)
   simp only[qk,EB];rw[e3 aw,cond_true,GH,bind_some,Z0];generalize (l.aW.map (mO l.a8 K))[i]=y at GH NH⊢;have key:∀au,au<=K.length->∀(u:abP) ed,u.length<=au->K.length-au<ed->
     va (qk K ⟨l.a8,l.Start,l.aW.map (mO l.a8 K)⟩ m) K v (i:Int) w ⟨l.a8,l.Start,l.aW.map (mO l.a8 K)⟩ y ed (mP y.Next (K.take au)) u (au:Int)=
     qk K ⟨l.a8,l.Start,l.aW.map (mO l.a8 K)⟩ m v (w.set i ⟨y.bs,y.Guard,y.Name,y.bl,u++(K.drop au).map λi=>y.Next.getD i.toNat []⟩) ((i+1:Nat):Int):=by
    refine down K.length ?_ ?_
    .intro u ed _ hm;obtain⟨ed,rfl⟩:∃au,ed=au+1:=⟨ed-1,by omega⟩
     simp only[va,EA];rw[eb (Nat.le_refl _),cond_false,GH,bind_some,eT i l.aW.length oY (by omega),List.drop_of_length_le (Nat.le_refl _),Int.toNat_natCast];simp
    .intro au bN ih u ed hu hm;obtain⟨ed,rfl⟩:∃au,ed=au+1:=⟨ed-1,by omega⟩
     obtain⟨a,b⟩:=NH _ (List.getElem_mem bN);have i4:K[au]∉K.take au:=λsD=>by
      obtain⟨q,cp,e⟩:=List.getElem_of_mem sD;rw[List.getElem_take]at e;have abE:q<au:=by rw[List.length_take]at cp;omega
      have:=(List.getElem_inj o5).1 e;omega
     simp only[va,EA];rw[e3 bN,cond_true,eD _ au bN,bind_some,Z1 _ _ [] a b,bind_some];simp only[i4,decide_false,Bool.not_false];rw[show Be true=some ()from rfl,bind_some,ko (by omega) (by omega),bind_some,eT au K.length bN (by omega),Z2 _ _ [] a b];have aL:K.take au++[K[au]]=K.take (au+1):=by rw[List.take_add_one,List.getElem?_eq_getElem bN];rfl
     rw[aL,ih _ ed (by simp;omega) (by omega),drop_cons K au bN,List.map_cons,List.append_assoc];rfl
   refine hS (K.length+1) λed hm=>?_;have:=key 0 (by omega) [] ed (by simp) (by omega);simpa using this
 .obtain⟨a,b,_⟩:=tC _ (List.getElem_mem aw);simp only[vb,EC];rw[e3 aw,cond_true,eD _ i aw,bind_some,yt 0 a (by omega),bind_some,ko (by omega) (by omega),bind_some,eT i _ aw (by omega)]
theorem GI:∀(M:List Bool) (k i:Nat) (c:Nat),M[i]? =some false->lv (λx=>((k+i:Nat):Int)==x) c (ff k M)=((c+i:Nat):Int)-(((M.take i).filter id).length:Nat)
 |[],k,i,c,h=>by simp at h
 |b::M,k,0,c,h=>by
  simp at h;subst h;simp[ff,lv]
 |b::M,k,i+1,c,h=>by
  have bz:M[i]? =some false:=by simpa using h
  cases b
  .rw[ff,if_neg (by simp)];have cO:(((k+(i+1):Nat):Int)==(k:Int))=false:=by simp only[beq_eq_false_iff_ne,ne_eq];omega
   simp only[lv,cO];rw[if_neg (by simp),show k+(i+1)=k+1+i by omega,GI M (k+1) i (c+1) bz];simp;omega
  .rw[ff,if_pos rfl,show k+(i+1)=k+1+i by omega,GI M (k+1) i c bz];simp;omega
theorem Z4 (M:List Bool) (p:Int) (al:p=(M.length:Nat)) (e8:M.length<=1000) (t:aG) (aL:t.Kind=1->0<=t.Value/\t.Value<=1000000/\(t.Value<p->M[t.Value.toNat]? =some false)):yv p (ff 0 M) t=ys M t:=by
 unfold yv ys;cases ak:t.Kind==1
 .rfl
 .have hd:t.Kind=1:=by simpa using ak
  obtain⟨bq,R,U⟩:=aL hd;simp only[cond_true];have hu:=GD M 0;by_cases ay:p<=t.Value
  .rw[decide_eq_true ay,cond_true,hd];rw[List.take_of_length_le (show M.length<=t.Value.toNat by omega),hs (t.Value-p) (by omega)];congr 2;omega
  .rw[decide_eq_false ay,cond_false];have aw:=GI M 0 t.Value.toNat 0 (U (by omega));rw[show((0+t.Value.toNat:Nat):Int)=t.Value by omega]at aw;have aj:((M.take t.Value.toNat).filter id).length<=t.Value.toNat:=Nat.le_trans (List.length_filter_le ..) (by rw[List.length_take];omega);rw[aw,decide_eq_true (by omega),cond_true,hd,hs _ (by omega)]
theorem Z5 (M:List Bool) (p:Int) (al:p=(M.length:Nat)) (e8:M.length<=1000) (e:abS) (h:∀t∈e,t.Kind=1->0<=t.Value/\t.Value<=1000000/\(t.Value<p->M[t.Value.toNat]? =some false)):mN p (ff 0 M) e=l7 M e:=
 List.map_congr_left λt aL=>Z4 M p al e8 t (h t aL)
theorem NI {v:Int}:∀(e:abS) (k:Nat),oG v e k=true->∀t∈e,oF t v=true
 |[],_,_,t,aL=>by cases aL
 |u::r,k,h,t,aL=>by
  simp only[oG,Bool.and_eq_true]at h;rcases List.mem_cons.1 aL with rfl|aL
  .exact h.2.1
  .exact NI r _ h.2.2 t aL
theorem Z6 {e:abS} {v most:Int} (h:ji e v most=true):(e.length:Int)<=most/\∀t∈e,t.Kind=1->0<=t.Value/\t.Value<=v-1:=by
 simp only[ji,Bool.and_eq_true,decide_eq_true_eq]at h;refine⟨h.1,λt aL ak=>?_⟩;have:=NI e 1 h.2 t aL;unfold oF at this;have fi:(t.Kind==0)=false:=by rw[ak];rfl
 have aK:(t.Kind==1)=true:=by rw[ak];rfl
 rw[fi,aK]at this;simp only[cond_false,cond_true,gO,Bool.and_eq_true,decide_eq_true_eq]at this;exact this
def rD (e:abS):Prop:=e.length<=60/\∀t∈e,t.Kind=1->0<=t.Value/\t.Value<=1000
structure Bd (x:bc) (p:Int):Prop where
 s:x.bs.length<=8
 g:rD x.Guard
 n:x.Name.length<=10
 a:x.bl.length<=2
 GJ:∀e∈x.bl,rD e
 m:(x.Next.length:Int)=p
 GK:∀e∈x.Next,rD e
theorem Z7 {x:bc} {p:Int} (h:nF x p=true) (al:p<=21):Bd x p:=by
 simp only[nF,Bool.and_eq_true,beq_iff_eq]at h;obtain⟨R,U,aA,aU,bt,b5⟩:=h;simp only[oI,Bool.and_eq_true,decide_eq_true_eq]at R;have ex:∀e,ji e (p+x.bs.length) 60=true->rD e:=λe he=>by
  obtain⟨a,b⟩:=Z6 he;refine⟨by omega,λt aL ak=>?_⟩;have:=b t aL ak;have:=R.1;omega
 have je:x.Name.length<=10/\x.bl.length<=2:=by
  split at aU
  .rename_i aL;rw[aL];simp only[decide_eq_true_eq]at aU;simp[ry,aU]
  .simp only[tz,tw,Bool.and_eq_true,decide_eq_true_eq]at aU;omega
 simp only[lx,List.all_eq_true]at bt b5;exact⟨R.1,ex _ U,je.1,je.2,λe he=>ex e (bt e he),aA,λe he=>ex e (b5 e he)⟩
structure NJ (l:bj):Prop where
 p:0<=l.a8/\l.a8<=21
 st:(l.Start.length:Int)=l.a8
 n:l.aW.length<=60
 s:∀x∈l.aW,Bd x l.a8
theorem vL {l:bj} (h:l4 l=true):NJ l:=by
 simp only[l4,rz,gO,Bool.and_eq_true,beq_iff_eq,decide_eq_true_eq,List.all_eq_true]at h;exact⟨h.1,h.2.1.1,h.2.2.1,λx ag=>Z7 (h.2.2.2 x ag) h.1.2⟩
theorem GL {e:abS} (h:rD e):qy e:=⟨by have:=h.1;omega,λt aL ak=>(h.2 t aL ak).1⟩
theorem Z8 {x:bc} {p:Int} (h:Bd x p) (al:p<=21):Nz x:=by
 have R:=h.s;have U:=h.a;have aA:=h.m;exact⟨by omega,GL h.g,⟨by omega,λe he=>GL (h.GJ e he)⟩,by omega,λe he=>GL (h.GK e he)⟩
theorem GM {α:Type} {f:α->Nat} {c k:Nat} {l:List α} (hl:l.length<=k) (h:∀x∈l,f x<=c):gB f l<=k*(c+1):=by
 have R:∀(l:List α),(∀x∈l,f x<=c)->gh f l<=l.length*c:=by
  intro l;induction l with
  |nil=>intro _;simp[gh]
  |cons x r ih=>
   intro h;have R:=h x (by simp);have U:=ih λy bh=>h y (by simp[bh]);simp only[gh,List.length_cons,Nat.add_mul];omega
 have R:=R l h;have U:l.length*c<=k*c:=mul_le_mul_right c hl;simp only[gB,Nat.mul_add,Nat.mul_one];omega
theorem Z9 {x:bc} {p:Int} (h:Bd x p) (K:abH) (hK:K.length<=21) (f:abS->abS) (a6:∀e,(f e).length=e.length):
  iM ⟨x.bs,f x.Guard,x.Name,x.bl.map f,K.map λi=>f (x.Next.getD i.toNat [])⟩<=1600:=by
 have R:=h.s;have U:=h.g.1;have aA:=h.n;have aU:=h.a;have dR:=GM (f:=λx:List aG=>x.length+0) (c:=60) (k:=2) (l:=x.bl.map f) (by rw[List.length_map];exact aU) (λe he=>by
  obtain⟨u,hu,rfl⟩:=List.mem_map.1 he;have:=(h.GJ u hu).1;rw[a6];omega)
 have gn:=GM (f:=λx:List aG=>x.length+0) (c:=60) (k:=21) (l:=K.map λi=>f (x.Next.getD i.toNat [])) (by rw[List.length_map];exact hK) (λe he=>by
  obtain⟨i,aw,rfl⟩:=List.mem_map.1 he;rw[a6,List.getD_eq_getElem?_getD];cases bm:x.Next[i.toNat]? with
  |none=>simp
  |some u=>have:=(h.GK u (List.mem_of_getElem? bm)).1;simp;omega)
 unfold iM;simp only[a6];omega
theorem Z_ {l:bj} (h:NJ l) (K:abH) (hK:K.length<=21) (f:abS->abS) (a6:∀e,(f e).length=e.length):
  lu ⟨K.length,K.map λi=>l.Start.getD i.toNat 0,l.aW.map λx=>⟨x.bs,f x.Guard,x.Name,x.bl.map f,K.map λi=>f (x.Next.getD i.toNat [])⟩⟩<=1048576:=by
 have:=GM (f:=iM) (c:=1600) (k:=60) (l:=l.aW.map λx=>⟨x.bs,f x.Guard,x.Name,x.bl.map f,K.map λi=>f (x.Next.getD i.toNat [])⟩) (by rw[List.length_map];exact h.n) (λe he=>by
  obtain⟨u,hu,rfl⟩:=List.mem_map.1 he;exact Z9 (h.s u hu) K hK f a6)
 unfold lu;simp only[List.length_map];omega
theorem aaa (S:Int->Bool) (st:abH) (e:abS) (h:∀t∈e,t.Kind=1->S t.Value=false):kp S st e=e:=by
 unfold kp;conv=>rhs;rw[<-List.map_id e]
 refine List.map_congr_left λt aL=>?_;unfold yr;cases ak:t.Kind==1
 .rfl
 .rw[h t aL (by simpa using ak)];rfl
theorem vM:∀(M:List Bool) (k:Nat),ff k (M.map λb=> !b)=hi k M
 |[],k=>rfl
 |b::M,k=>by
  have:=vM M (k+1);cases b<;>simp[ff,hi,this]
section
variable {l:bj} (ay:l4 l=true)
include ay
theorem vN:(marks l).length=l.a8.toNat:=(A7 (ym ay)).1
theorem aab {v:Int} (bq:0<=v) (R:v<l.a8) (h:jI l v):((marks l).map λb=> !b)[v.toNat]? =some false:=by
 have:=((A7 (ym ay)).2 v.toNat (by omega)).2 (by rwa [show((v.toNat:Nat):Int)=v by omega]);rw[List.getElem?_map,this];rfl
theorem clean {e:abS} (he:rD e) (a7:∀v∈eE e,v<l.a8->jI l v):∀t∈e,t.Kind=1->0<=t.Value/\t.Value<=1000000/\(t.Value<l.a8->((marks l).map λb=> !b)[t.Value.toNat]? =some false):=λt aL ak=>by
 have:=he.2 t aL ak;refine⟨this.1,by omega,λcB=>aab ay this.1 cB (a7 _ ?_ cB)⟩;unfold eE;exact List.mem_map.2 ⟨t,List.mem_filter.2 ⟨aL,by rw[ak];rfl⟩,rfl⟩
theorem GN {e:abS} (he:rD e) (a7:∀v∈eE e,v<l.a8->jI l v):
  l7 ((marks l).map λb=> !b) (kp (λv=>((marks l).map λb=> !b).getD v.toNat false) l.Start e)=mN l.a8 (ff 0 ((marks l).map λb=> !b)) e:=by
 have aj:=clean ay he a7;have al:=(vL ay).p;have hlen:=vN ay;rw[aaa,Z5 _ l.a8 (by simp;omega) (by simp;omega) e aj];intro t aL ak;obtain⟨a,b,c⟩:=aj t aL ak;by_cases cB:t.Value<l.a8
 .rw[List.getD_eq_getElem?_getD,c cB];rfl
 .rw[List.getD_eq_getElem?_getD,List.getElem?_eq_none (by simp;omega)];rfl
theorem flip:lim (λn=>sS l n (marks l) 0)=(uX l ((marks l).map λb=> !b)).bind λaT=>(pv ((marks l).map λb=> !b) false).bind λbf=>some (aT,bf,0):=by
 have al:=(vL ay).p;have hlen:=vN ay;refine Ba (L:=sS l) (marks l) (λb=> !b) (λM=>(uX l M).bind λaT=>(pv M false).bind λbf=>some (aT,bf,0)) (λm w hw=>?_) (λi aw m w hw bm=>?_)
 .simp only[sS,D8];rw[eb (by omega)];rfl
 .simp only[sS,D8];rw[e3 (by omega),bm,eT i (marks l).length aw (by omega)];rfl
end
def pN (l:bj):bj×abH×Int:=
 cond (l4 l) (⟨(hi 0 (marks l)).length,(hi 0 (marks l)).map λi=>l.Start.getD i.toNat 0,l.aW.map (tD l.a8 (hi 0 (marks l)))⟩,hi 0 (marks l),0) (⟨0,[],[]⟩,[],1)
theorem NK {l:bj} (ay:l4 l=true):∀v∈hi 0 (marks l),0<=v/\v<l.a8/\jI l v:=λv hm=>by
 obtain⟨i,aw,rfl⟩:=(Gs _ _ _).1 hm;have hlen:=vN ay;have al:=(vL ay).p;have Nw:=(List.getElem?_eq_some_iff.1 aw).1;refine⟨by omega,by omega,?_⟩;have:=((A7 (ym ay)).2 i (by omega)).1 aw;simpa using this
theorem aac (l:bj) (br:qu l):zZ l=some (pN l):=by
 unfold zZ pN;rw[Zb l br,bind_some];cases ay:l4 l
 .rfl
 .have ag:=vL ay;have al:=ag.p;have hlen:=vN ay;have Gn:=ag.st;have abF:=ag.n;simp only[Bool.not_true,cond_false,cond_true];rw[Zx (ym ay) br,bind_some,flip ay];rw[ZU (S:=λv=>((marks l).map λb=> !b).getD v.toNat false) l _ (by simp;omega) (by simp;omega) (by omega) (λx qz=>⟨Z8 (ag.s x qz) al.2,by have:=(ag.s x qz).m;simp;omega⟩) (λv _=>rfl),bind_some,NB _ (by simp;omega),bind_some];have key:∀x∈l.aW,yu (λv=>((marks l).map λb=> !b).getD v.toNat false) ((marks l).map λb=> !b) l.Start x=tD l.a8 (hi 0 (marks l)) x:=λx qz=>by
   have I:=ag.s x qz;have yo:=vI l;unfold yu tD;rw[GN ay I.g (yo.1 x qz _ (by simp)),vM];congr 1
   .refine List.map_congr_left λe he=>?_;rw[GN ay (I.GJ e he) (yo.1 x qz e (by simp[he])),vM]
   .refine List.map_congr_left λi aw=>?_;obtain⟨a,b,c⟩:=NK ay i aw;have hex:rD (x.Next.getD i.toNat []):=by
     rw[List.getD_eq_getElem?_getD];cases bm:x.Next[i.toNat]? with
     |none=>exact⟨by simp,λt aL=>by cases aL⟩
     |some u=>exact I.GK u (List.mem_of_getElem? bm)
    rw[GN ay hex (λv aad cB=>yo.2 x qz i.toNat (by omega) (by rwa [show((i.toNat:Nat):Int)=i by omega]) v aad cB),vM]
  rw[List.map_congr_left key,vM]
theorem aae (l:bj) (br:qu l):xF l=some (pN l):=by
 unfold xF pN;rw[Zh l br,bind_some];cases ay:l4 l
 .rfl
 .have ag:=vL ay;have al:=ag.p;have hlen:=vN ay;have Gn:=ag.st;simp only[Bool.not_true,cond_false,cond_true];rw[<-ZJ (ym ay) br,Nj _ (by omega),bind_some];have tC:=NK ay;have uu:=Gt (marks l) 0;have o5:(hi 0 (marks l)).Nodup:=by rw[<-vM];exact GG _ _
  rw[Z3 l _ (by omega) br (λv hm=>by
   obtain⟨a,b,_⟩:=tC v hm;exact⟨a,by omega,λx qz=>by have:=(ag.s x qz).m;omega⟩) o5]
  rfl
theorem aaf (l:bj):lu (pN l).1<=1048576/\(pN l).2.1.length<=1048576:=by
 unfold pN;cases ay:l4 l
 .exact⟨by show lu ⟨0,[],[]⟩<=_;simp[lu,gB,gh],by simp⟩
 .have ag:=vL ay;have hlen:=vN ay;have uu:=Gt (marks l) 0;have al:=ag.p;exact⟨Z_ ag _ (by omega) (mN l.a8 (hi 0 (marks l))) (λe=>by rw[mN,List.length_map]),by show(hi 0 (marks l)).length<=_;omega⟩
theorem Ys (a:lb) (b8:zH a):EP a=some true:=by
 unfold EP;rw[YI a 1048576 b8 (by omega) (by omega)];simp only[bind_some];by_cases h:ru a<=1048576
 .rw[F2 (by omega)];have:decide ((1048576:Int)-((ru a:Nat):Int)<0)=false:=by simp only[decide_eq_false_iff_not];omega
  rw[this,cond_false,YO a h];simp only[bind_some];have hl:lu (ye a)<=1048576:=by rw[YN];exact h
  generalize ye a=e at hl;have br:=ZK e hl;obtain⟨s1,s2⟩:=aaf e;obtain⟨hf,e7,ia,c,bD,ee,_⟩:=MO e 1 (by omega) (by omega);obtain⟨wQ,B3,B4,f,f1,gy,jm⟩:=MO (pN e).1 1 (by omega) (by omega);obtain⟨mV,d,d1,jP,kU⟩:=F9 (pN e).2.1 (1+(f:Int)) (by omega) (by omega);simp only[aac e br,aae e br,bind_some,ML _ s1,F8 (pN e).2.1 (by omega),ML e hl,ee,gy,jm,jP,kU,Bool.not_true,bne_self_eq_false,Bool.or_self,cond_false,pJ (k:=1+(c:Int)) (by omega),pJ (k:=1+(f:Int)) (by omega),pJ (k:=1+(f:Int)+(d:Int)) (by omega)]
 .rw[AQ (by omega)];rfl
end Go.mn
