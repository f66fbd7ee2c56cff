/- Part of a proof that a law returns true for every input. No condition. -/
import Derived.Test.YtngohoaiimbacabGreatDoorUV2x
import Derived.Test.YtngohoaiimbacabGreatDoorUV1x
import Derived.Test.YtngohoaiimbacabGreatDoorUV0x
import GoSem.Op.String
namespace Go.lV
open List Option Go.IntKind Nat Or
open Go Go.c_
def gH (e:ahL) (i:Nat):aht:=(e.getD i ⟨[],0,[]⟩).Name
theorem n1 {e:ahL} {i:Nat} (ak:i<e.length):e.getD i ⟨[],0,[]⟩=e[i]:=by simp[List.getD,ak]
def n2 (e:ahL) (i:Nat):Bool:=eY (λj=> !(gH e j==gH e i)) i
noncomputable def n3 (e:ahL) (i:Nat):Bool:=match tf e (e.getD i ⟨[],0,[]⟩)with
 |some r=>r.2==0
 |none=>false
noncomputable def jk (e:ahL):Bool:=((decide (1<=e.length)&&decide (e.length<=4))&&eY (λi=>(iP (gH e i)&&qX (e.getD i ⟨[],0,[]⟩))&&n2 e i) e.length)&&eY (n3 e) e.length
theorem IK {e:ahL} (h:l4 e) (aW:e.length<=4) (an:vV e=true) {i:Nat} (ak:i<e.length):
  ∃r,tf e e[i]=some r/\yi e e[i]=some r/\decide (0<r.2)= !(n3 e i)/\(r.2 !=0)= !(n3 e i)/\(n3 e i=true->qV e[i].Body=true/\r.2=0):=by
 obtain⟨r,dm,a7,db,bJ⟩:=ad1 e aW e[i] (h.2 _ (getElem_mem ak)) (Pw an i ak);have R:n3 e i=(r.2==0):=by unfold n3;rw[n1 ak,dm]
 refine⟨r,dm,a7,?_,?_,λgy=>?_⟩
 .rw[R];by_cases aV:r.2=0
  .rw[aV];rfl
  .have aP:(r.2==0)=false:=by simpa using aV
   rw[aP];exact decide_eq_true (by omega)
 .rw[R];rfl
 .rw[R]at gy;have aV:r.2=0:=by simpa using gy
  exact⟨bJ aV,aV⟩
theorem p3 {p q:Nat->Bool} {n:Nat}:eY (λi=>p i&&q i) n=(eY p n&&eY q n):=by
 rw[Bool.eq_iff_iff,Bool.and_eq_true,nk,nk,nk];constructor
 .intro h;exact⟨λi ak=>((Bool.and_eq_true _ _).mp (h i ak)).1,λi ak=>((Bool.and_eq_true _ _).mp (h i ak)).2⟩
 .rintro⟨ab,ad⟩ i ak;rw[ab i ak,ad i ak];rfl
theorem aeT (e:ahL) (h:l4 e):A4 e=some (jk e):=by
 unfold A4 jk;by_cases hl:1<=e.length/\e.length<=4
 .have d1:(((e.length:Int)==0)||decide ((4:Int)<(e.length:Int)))=false:=by
   rw[Bool.or_eq_false_iff,beq_eq_false_iff_ne,decide_eq_false_iff_not];omega
  have d2:(decide (1<=e.length)&&decide (e.length<=4))=true:=by simp;omega
  rw[d1,d2,cond_false,Bool.true_and];rw[tY (l:=λm i=>qv e m i) (n:=e.length) (λi=>(iP (gH e i)&&qX (e.getD i ⟨[],0,[]⟩))&&n2 e i) (ca λn=>tg e n 0) (some false)]
  .cases bM:eY (λi=>(iP (gH e i)&&qX (e.getD i ⟨[],0,[]⟩))&&n2 e i) e.length
   .rfl
   .have an:vV e=true:=by
     rw[p3,p3,Bool.and_eq_true,Bool.and_eq_true]at bM;exact bM.1.2
    rw[cond_true,Bool.true_and];rw[tY (l:=λm i=>tg e m i) (n:=e.length) (n3 e) (some true) (some false)]
    .cases eY (n3 e) e.length<;>rfl
    .intro m;simp only[tg,FL];rw[ez (Nat.le_refl _)];rfl
    .intro i ak m;obtain⟨r,dm,_,db,_⟩:=IK h hl.2 an ak;simp only[tg,FL];rw[e4 ak,fe _ i ak,e1 i _ ak (by omega)];simp only[cond_true,bind_some,dm,db];cases n3 e i<;>rfl
  .intro m;simp only[qv,FM];rw[ez (Nat.le_refl _)];rfl
  .intro i ak m;simp only[qv,FM];rw[e4 ak,fe _ i ak];simp only[cond_true,bind_some,IB,j1];rw[tY (l:=λhO j=>u_ (qv e m) e hO (i:Int) j) (n:=i) (λj=> !(gH e j==gH e i)) (qv e m ((i+1:Nat):Int)) (some false)]
   .have aP:gH e i=e[i].Name:=by unfold gH;rw[n1 ak]
    rw[<-aP,n1 ak];show cond (!iP (gH e i)) _ (cond (!qX e[i]) _ (cond (n2 e i) _ _))=_;cases iP (gH e i)<;>cases qX e[i]<;>cases n2 e i<;>rfl
   .intro hO;simp only[u_,FJ];rw[ez (Nat.le_refl _),e1 i _ ak (by omega)];rfl
   .intro j bQ hO;have CO:j<e.length:=by omega
    simp only[u_,FJ];rw[e4 bQ,fe _ j CO,fe _ i ak,e1 j _ bQ (by omega)];simp only[cond_true,bind_some,gH,n1 ak,n1 CO];cases e[j].Name==e[i].Name<;>rfl
 .have d1:(((e.length:Int)==0)||decide ((4:Int)<(e.length:Int)))=true:=by
   by_cases aV:e.length=0
   .simp[aV]
   .have:decide ((4:Int)<(e.length:Int))=true:=decide_eq_true (by omega);rw[this,Bool.or_true]
  have d2:(decide (1<=e.length)&&decide (e.length<=4))=false:=by
   rw[Bool.and_eq_false_iff,decide_eq_false_iff_not,decide_eq_false_iff_not];omega
  rw[d1,d2];rfl
theorem aeU (e:ahL) (i:Nat) (ak:i<e.length) (aW:e.length<=4):((gR e 0 (i:Int)).bind λba=>(tk ba e[i].Name).bind λbP=>some (decide (0<=bP)))=some (!(n2 e i)):=by
 rw[CA e i (by omega)];simp only[bind_some];unfold tk Bj;have hlen:(e.take i).length=i:=by rw[length_take];omega
 rw[pW (n:=i) (λj=>gH e j==gH e i)]
 .simp only[bind_some,qQ];rfl
 .intro m;simp only[rQ,x_];rw[hlen,ez (Nat.le_refl _)];rfl
 .intro j bQ m;have CO:j<e.length:=by omega
  simp only[rQ,x_];rw[hlen,e4 bQ,fe _ j (by omega),e1 j _ bQ (by omega)];have:(e.take i)[j]'(by omega)=e[j]:=by simp
  simp only[cond_true,bind_some,Bi,this,gH,n1 ak,n1 CO]
theorem aeV (e:ahL) (h:l4 e):Br e=some (jk e):=by
 unfold Br iw jk;have mW:decide ((1:Int)<=(e.length:Int))=decide (1<=e.length):=decide_eq_decide.2 (by omega);have mu:decide ((e.length:Int)<=4)=decide (e.length<=4):=decide_eq_decide.2 (by omega);simp only[bind_some];rw[mW,mu];cases hl:(decide (1<=e.length)&&decide (e.length<=4))
 .rfl
 .have PE:1<=e.length/\e.length<=4:=by simpa using hl
  rw[ad2 e h.1];simp only[Bool.not_true,cond_false,bind_some,Bool.true_and];have aeW:eY (λi=>(iP (gH e i)&&qX (e.getD i ⟨[],0,[]⟩))&&n2 e i) e.length=((eY (λi=>iP (gH e i)) e.length&&vV e)&&eY (n2 e) e.length):=by
   rw[p3,p3];rfl
  rw[aeW];cases an:vV e
  .simp
  .simp only[Bool.not_true,cond_false,Bool.and_true];rw[tY (l:=λm i=>vk e m i) (n:=e.length) (λi=>(iP (gH e i)&&n2 e i)&&n3 e i) (some true) (some false)]
   .rw[p3,p3];cases((eY (λi=>iP (gH e i)) e.length&&eY (λi=>n2 e i) e.length)&&eY (λi=>n3 e i) e.length)<;>rfl
   .intro m;simp only[vk,Ge];rw[ez (Nat.le_refl _)];rfl
   .intro i ak m;obtain⟨r,_,a7,_,bJ,_⟩:=IK h PE.2 an ak;have aU:=aeU e i ak PE.2;have ahr:=(h.2 _ (getElem_mem ak)).1;simp only[vk,Ge];rw[e4 ak,fe _ i ak,e1 i _ ak (by omega)];simp only[cond_true,bind_some,O7 _ (show e[i].Name.length<=140737488355328 by omega),gH,n1 ak];cases iP e[i].Name
    .rfl
    .simp only[Bool.not_true,cond_false,Bool.true_and];rw[CA e i (by omega)]at aU⊢;simp only[bind_some]at aU⊢;obtain⟨v,aI,qW⟩:=aB aU;rw[aI];simp only[some.injEq]at qW;simp only[bind_some,qW,a7,bJ];cases n2 e i<;>cases n3 e i<;>rfl
theorem IL {e:ahL} (h:l4 e) (aI:jk e=true):1<=e.length/\e.length<=4/\∀i (ak:i<e.length),(0<=e[i].cU/\e[i].cU<=3)/\qV e[i].Body=true/\iP e[i].Name=true/\
  ∃r,tf e e[i]=some r/\r.2=0:=by
 unfold jk at aI;rw[Bool.and_eq_true,Bool.and_eq_true,Bool.and_eq_true,decide_eq_true_eq,decide_eq_true_eq,p3,p3,Bool.and_eq_true,Bool.and_eq_true]at aI;obtain⟨⟨⟨ab,ad⟩,⟨aC,aW⟩,bu⟩,cy⟩:=aI;refine⟨ab,ad,λi ak=>?_⟩;obtain⟨r,dm,_,_,_,cJ⟩:=IK h ad aW ak;obtain⟨s1,s2⟩:=cJ (nk.1 cy i ak);have aU:=nk.1 aC i ak;rw[gH,n1 ak]at aU;exact⟨Pw aW i ak,s1,aU,r,dm,s2⟩
def v_ (a:ahv):Bool:=eY (λi=>pZ (a.getD i 0) 0 63) a.length
theorem IM (a:ahv) (h:a.length<=1048576):x4 a=some (v_ a):=by
 unfold x4;refine CE (l:=λm i=>va a m i) _ (λm=>?_) (λi ak m=>?_)
 .simp only[va,FN];rw[ez (Nat.le_refl _)];rfl
 .simp only[va,FN,j1];rw[e4 ak,l3 _ i 0 ak,e1 i _ ak (by omega)];simp only[cond_true,bind_some];show cond (!pZ (a.getD i 0) 0 63) _ _=_;cases pZ (a.getD i 0) 0 63<;>rfl
theorem PF (a:ahv) (h:a.length<=1048576):yk a=some (v_ a):=by
 unfold yk Gi Gh;rw[pW (n:=a.length) (λi=> !pZ (a.getD i 0) 0 63)]
 .simp only[bind_some,qQ,Bool.not_not];rfl
 .intro m;simp only[yj,Gg];rw[ez (Nat.le_refl _)];rfl
 .intro i ak m;simp only[yj,Gg];rw[e4 ak,l3 _ i 0 ak,e1 i _ ak (by omega)];simp only[cond_true,bind_some,Gf,yc,iw];rfl
theorem PG {e:ahL} (h:l4 e) (aI:jk e=true) {i j:Nat} (ak:i<e.length) (bQ:j<e[i].Body.length):
  rL e[i] (j:Int)=some (nm e[i] j).scope/\∃ps,vi e[i]=some ps/\bh ps (j:Int)=some (nm e[i] j):=by
 obtain⟨_,_,ae⟩:=IL h aI;obtain⟨an,U,_⟩:=ae i ak;obtain⟨s1,s2,nG⟩:=CN U;have R:=(h.2 _ (getElem_mem ak)).2.1;obtain⟨fA,_,_,_,mv⟩:=IJ e[i] U an j bQ;exact⟨fA,_,Pl e[i] R s1 an.1 (by omega),by unfold bh;rw[if_pos (by omega)];exact mv⟩
theorem aeX (e:ahL) (h:l4 e) (aI:jk e=true) (p:bY) (an:p.b5.length<=1048576):∃b,rM e p=some b/\yu e p=some b:=by
 unfold rM yu j1;rw[CL _ e.length h.1,eb ((e.length:Int)-1) (by have:=h.1;omega)];simp only[bind_some];cases aq:(decide (0<=p.dd)&&decide (p.dd<=(e.length:Int)-1))
 .exact⟨false,rfl,rfl⟩
 .simp only[Bool.and_eq_true,decide_eq_true_eq]at aq;obtain⟨i,CP⟩:∃i:Nat,p.dd=i:=⟨p.dd.toNat,by omega⟩
  rw[CP]at aq⊢;have ak:i<e.length:=by omega
  have R:=(h.2 _ (getElem_mem ak)).2.1;rw[fe e i ak];simp only[Bool.not_true,cond_false,bind_some];rw[CL _ e[i].Body.length R,eb ((e[i].Body.length:Int)-1) (by omega)];simp only[bind_some];cases b_:(decide (0<=p.Part)&&decide (p.Part<=(e[i].Body.length:Int)-1))
  .exact⟨false,rfl,rfl⟩
  .simp only[Bool.and_eq_true,decide_eq_true_eq]at b_;obtain⟨j,CQ⟩:∃j:Nat,p.Part=j:=⟨p.Part.toNat,by omega⟩
   rw[CQ]at b_⊢;have bQ:j<e[i].Body.length:=by omega
   obtain⟨fA,ps,fp,gX⟩:=PG h aI ak bQ;rw[fe e[i].Body j bQ];simp only[Bool.not_true,cond_false,bind_some,fA,fp,gX,IM _ an,PF _ an];have cO:(e[i].Body[j].Kind !=5)= !(e[i].Body[j].Kind==5):=rfl;rw[cO];cases e[i].Body[j].Kind==5
   .simp only[Bool.not_false,cond_true,cond_false];cases((p.b5.length:Int)==(nm e[i] j).scope)
    .exact⟨_,rfl,rfl⟩
    .exact⟨_,rfl,rfl⟩
   .exact⟨_,rfl,rfl⟩
def nn (a:ahv):aht:=if a=[]then [45]else h8 (a.map pY) [44]
theorem PH (a:ahv):(nn a).length<=a.length*3+1:=by
 unfold nn;split
 .simp
 .have:=CH 44 2 (a.map pY) λx ar=>by
   obtain⟨y,_,rfl⟩:=mem_map.1 ar;exact O5 y
  rw[length_map]at this;omega
theorem aeY (a:ahv) (h:a.length<=64) (aI:∀x∈a,0<=x/\x<=63):tt a=some true:=by
 unfold tt BG BF;have e:decide ((a.length:Int)<=64)=true:=by simp;omega
 rw[e,cond_true];have:=pW (n:=a.length) (l:=qC a) (λ_=>false) (λm=>?_) (λi ak m=>?_)
 .rw[this];simp only[bind_some,qQ];have:eY (λ_=> !false) a.length=true:=by simp[eY]
  rw[this];rfl
 .simp only[qC,yt];rw[ez (Nat.le_refl _)];rfl
 .have ar:=aI _ (getElem_mem ak);simp only[qC,yt,BE,iw];rw[e4 ak,fe _ i ak,e1 i _ ak (by omega)];simp only[cond_true,bind_some,show decide (-1000000000000<=a[i])=true from by simp;omega,show decide (a[i]<=1000000000000)=true from by simp;omega,Bool.and_self,Bool.not_true,cond_false]
theorem aeZ (a:ahv) (h:a.length<=64) (aI:∀x∈a,0<=x/\x<=63):BL a=some (nn a):=by
 unfold BL nn;rw[aeY a h aI];simp only[bind_some,Bool.not_true,cond_false];by_cases bM:a=[]
 .subst bM;rfl
 have e:((a.length:Int)==0)=false:=by
  have:a.length≠0:=λh=>bM (length_eq_zero_iff.1 h);simp;exact bM
 rw[e,cond_false,if_neg bM];first|exact O6 a h aI|(rw[O6 a h aI];rfl)
set_option linter.unusedSimpArgs false
theorem PI (a b:aht):(!(Op.bytesLess a b))=(Op.bytesLess b a||b==a):=by
 induction a generalizing b with
 |nil=>cases b<;>simp[Op.bytesLess]
 |cons x a ih=>
  cases b with
  |nil=>simp[Op.bytesLess]
  |cons y b=>
   simp only[Op.bytesLess];have:=ih b;by_cases ab:x<y
   .have ad:¬y<x:=λh=>by have:=UInt8.lt_asymm ab h;exact this
    have aC:y≠x:=λh=>by subst h;exact absurd ab (UInt8.lt_irrefl _)
    simp[ab,ad,aC]
   .by_cases ad:y<x
    .have aC:x≠y:=λh=>by subst h;exact absurd ad (UInt8.lt_irrefl _)
     simp[ab,ad,aC]
    .have aC:x=y:=by
      have aP:=UInt8.not_lt.1 ab;have aT:=UInt8.not_lt.1 ad;exact UInt8.le_antisymm aT aP
     subst aC;simp[ab,this]
theorem ae0 (a:aht):Op.bytesLess a a=false:=by
 have:=PI a a;cases h:Op.bytesLess a a with
 |false=>rfl
 |true=>rw[h]at this;simp at this
set_option linter.unusedSimpArgs false
def iQ (s:aht):Bool:=iP s&& !(s==([116,97,117]:aht))
theorem PJ (s:aht):th s=some (iQ s):=by unfold th;rw[IB];rfl
theorem CR (s:aht) (U:s.length<=1048576):qz s=some (iQ s):=Pt s U
theorem ae1 {β:Type} {l:Nat->Int->Option β} {n:Nat} (p:Nat->Bool) (oU bad:Option β) (aV:∀m,l (m+1) (n:Int)=oU)
  (U:∀i,i<n->∀m,l (m+1) (i:Int)=cond (p i) (l m ((i+1:Nat):Int)) bad) (i0:Nat) (ak:i0<=n):ca (λm=>l m (i0:Int))=cond ((range' i0 (n-i0)).all p) oU bad:=by
 refine hi (n+1) λm hm=>?_;refine up (λi=>cond ((range' i (n-i)).all p) oU bad) (λm=>?_) (λi ak m ih=>?_) i0 ak m (by omega)
 .rw[aV];simp
 .rw[U i ak,ih,show n-i=(n-(i+1))+1 by omega,range'_succ];cases an:p i<;>simp[an]
def mM (a:nq) (i:Nat):Bool:=decide (i=0)||Op.bytesLess (a.getD (i-1) []) (a.getD i [])
def p4 (a:nq):Bool:=decide (a.length<=12)&&(eY (λi=>iQ (a.getD i [])) a.length&&eY (mM a) a.length)
theorem PK (a:nq) (h:a.length<=1048576):x5 a=some (p4 a):=by
 unfold x5 p4;by_cases hl:12<a.length
 .have d1:decide ((12:Int)<(a.length:Int))=true:=decide_eq_true (by omega);have d2:decide (a.length<=12)=false:=decide_eq_false (by omega);rw[d1,d2];rfl
 .have d1:decide ((12:Int)<(a.length:Int))=false:=decide_eq_false (by omega);have d2:decide (a.length<=12)=true:=decide_eq_true (by omega);have II:A7 a=some (eY (λi=>iQ (a.getD i [])) a.length):=by
   unfold A7;refine CE (l:=λm i=>vc a m i) _ (λm=>?_) (λi ak m=>?_)
   .simp only[vc,FR];rw[ez (Nat.le_refl _)];rfl
   .simp only[vc,FR];rw[e4 ak,l3 _ i [] ak,e1 i _ ak (by omega)];simp only[cond_true,bind_some,PJ];cases iQ (a.getD i [])<;>rfl
  rw[d1,d2,II];simp only[cond_false,bind_some,Bool.true_and];cases eY (λi=>iQ (a.getD i [])) a.length
  .rfl
  .simp only[Bool.not_true,cond_false,Bool.true_and];by_cases aV:a.length=0
   .rw[hi (x:=some true) 1 (λm hm=>by
     obtain⟨k,rfl⟩:∃k,m=k+1:=⟨m-1,by omega⟩
     simp only[nT,A8];rw[aV];rfl)]
    rw[aV];rfl
   .have key:=ae1 (l:=λm i=>nT a m i) (n:=a.length) (λi=>decide (i=0)||Op.bytesLess (a.getD (i-1) []) (a.getD i [])) (some true) (some false);have bR:nT a=nT a:=rfl;have:∀i,1<=i->i<=a.length->∀m,a.length-i<m->nT a m (i:Int)=cond ((range' i (a.length-i)).all (mM a)) (some true) (some false):=by
     intro i ab ad;refine down a.length (P:=λi=>1<=i->∀m,a.length-i<m->nT a m (i:Int)=cond ((range' i (a.length-i)).all (mM a)) (some true) (some false)) ?_ ?_ i ad ab
     .intro _ m hm;obtain⟨k,rfl⟩:∃k,m=k+1:=⟨m-1,by omega⟩
      simp only[nT,A8];rw[ez (Nat.le_refl _)];simp
     .intro i ak ih ab m hm;obtain⟨k,rfl⟩:∃k,m=k+1:=⟨m-1,by omega⟩
      simp only[nT,A8];rw[e4 ak,za i (by omega) (by omega),l3 _ (i-1) [] (by omega),l3 _ i [] ak,e1 i _ ak (by omega),ih (by omega) k (by omega),show a.length-i=(a.length-(i+1))+1 by omega,range'_succ];have aH:mM a i=Op.bytesLess (a.getD (i-1) []) (a.getD i []):=by
       unfold mM;have:decide (i=0)=false:=decide_eq_false (by omega);rw[this,Bool.false_or]
      simp only[cond_true,bind_some,all_cons,aH];cases Op.bytesLess (a.getD (i-1) []) (a.getD i [])<;>rfl
    have IP:=hi (f:=λm=>nT a m 1) (a.length+1) (λm hm=>this 1 (by omega) (by omega) m (by omega));rw[IP];have e:eY (mM a) a.length=(range' 1 (a.length-1)).all (mM a):=by
     unfold eY;rw[range_eq_range',show a.length=(a.length-1)+1 by omega,range'_succ];simp[mM]
    rw[e];cases(range' 1 (a.length-1)).all (mM a)<;>rfl
theorem ae2 {p q:Nat->Bool} {n:Nat}:(eY p n&&eY q n)=eY (λi=>p i&&q i) n:=p3.symm
theorem PL (a:nq) (h:a.length<=1048576) (U:∀s∈a,s.length<=1048576):yo a=some (p4 a):=by
 unfold yo p4;rw[ae2];rw[tY (l:=λm i=>vm a m i) (n:=a.length) (λi=>iQ (a.getD i [])&&mM a i) (some (decide ((a.length:Int)<=12))) (some false)]
 .have e:decide ((a.length:Int)<=12)=decide (a.length<=12):=decide_eq_decide.2 (by omega);rw[e];cases eY (λi=>iQ (a.getD i [])&&mM a i) a.length<;>cases decide (a.length<=12)<;>rfl
 .intro m;simp only[vm,Gr];rw[ez (Nat.le_refl _)];rfl
 .intro i ak m;simp only[vm,Gr];have hm:(a.getD i []).length<=1048576:=by
   have:a.getD i []=a[i]:=by simp[List.getD,ak]
   rw[this];exact U _ (getElem_mem ak)
  rw[e4 ak,l3 _ i [] ak,e1 i _ ak (by omega)];simp only[cond_true,bind_some,CR _ hm];by_cases aV:i=0
  .subst aV;rw[tQ];simp only[cond_false,mM,decide_true,Bool.true_or,Bool.and_true];cases iQ (a.getD 0 [])<;>rfl
  .rw[Im aV,za i (by omega) (by omega),l3 _ (i-1) [] (by omega)];have aH:mM a i=Op.bytesLess (a.getD (i-1) []) (a.getD i []):=by
    unfold mM;have:decide (i=0)=false:=decide_eq_false aV;rw[this,Bool.false_or]
   have aY:=PI (a.getD (i-1) []) (a.getD i []);simp only[cond_true,bind_some,aH,<-aY];cases iQ (a.getD i [])<;>cases Op.bytesLess (a.getD (i-1) []) (a.getD i [])<;>rfl
def j7 (cs:ahM) (i:Nat):dG:=cs.getD i ⟨0,[]⟩
def tZ (e:ahL) (c:dG):Bool:=
 cond (decide (0<=c.dd)&&decide (c.dd<=(e.length:Int)-1)) (((c.b5.length:Int)==(e.getD c.dd.toNat ⟨[],0,[]⟩).cU)&&v_ c.b5) false
def qY (s:dH):Bool:=(decide (1<=s.cw.length)&&decide (s.cw.length<=3))&&eY (λi=>tZ s.br (j7 s.cw i)) s.cw.length
theorem PM {e:ahL} {n:Int} (h:(decide (0<=n)&&decide (n<=(e.length:Int)-1))=true):bh e n=some (e.getD n.toNat ⟨[],0,[]⟩):=by
 simp only[Bool.and_eq_true,decide_eq_true_eq]at h;obtain⟨i,rfl⟩:∃i:Nat,n=i:=⟨n.toNat,by omega⟩
 exact l3 e i _ (by omega)
theorem ae3 (s:dH) (ae:s.br.length<=1048576) (ai:s.cw.length<=1048576) (aI:∀c∈s.cw,c.b5.length<=1048576):A5 s=some (qY s):=by
 unfold A5 qY;by_cases hl:1<=s.cw.length/\s.cw.length<=3
 .have d1:(((s.cw.length:Int)==0)||decide ((3:Int)<(s.cw.length:Int)))=false:=by
   rw[Bool.or_eq_false_iff,beq_eq_false_iff_ne,decide_eq_false_iff_not];omega
  have d2:(decide (1<=s.cw.length)&&decide (s.cw.length<=3))=true:=by simp;omega
  rw[d1,d2,cond_false,Bool.true_and];refine CE (l:=λm i=>vb s m i) _ (λm=>?_) (λi ak m=>?_)
  .simp only[vb,FO];rw[ez (Nat.le_refl _)];rfl
  .simp only[vb,FO,j1];have hm:(j7 s.cw i).b5.length<=1048576:=by
    have:j7 s.cw i=s.cw[i]:=by simp[j7,List.getD,ak]
    rw[this];exact aI _ (getElem_mem ak)
   rw[e4 ak,l3 _ i ⟨0,[]⟩ ak,e1 i _ ak (by omega),eb ((s.br.length:Int)-1) (by omega)];show cond true (Option.bind (some (j7 s.cw i)) _) _=_;simp only[cond_true,bind_some];unfold tZ;cases aq:(decide (0<=(j7 s.cw i).dd)&&decide ((j7 s.cw i).dd<=(s.br.length:Int)-1))
   .rfl
   .rw[PM aq];simp only[Bool.not_true,cond_false,cond_true,bind_some,IM _ hm];have cO:(((j7 s.cw i).b5.length:Int) !=(s.br.getD (j7 s.cw i).dd.toNat ⟨[],0,[]⟩).cU)= !(((j7 s.cw i).b5.length:Int)==(s.br.getD (j7 s.cw i).dd.toNat ⟨[],0,[]⟩).cU):=rfl;rw[cO];cases(((j7 s.cw i).b5.length:Int)==(s.br.getD (j7 s.cw i).dd.toNat ⟨[],0,[]⟩).cU)<;>cases v_ (j7 s.cw i).b5<;>rfl
 .have d1:(((s.cw.length:Int)==0)||decide ((3:Int)<(s.cw.length:Int)))=true:=by
   by_cases aV:s.cw.length=0
   .simp[aV]
   .have:decide ((3:Int)<(s.cw.length:Int))=true:=decide_eq_true (by omega);rw[this,Bool.or_true]
  have d2:(decide (1<=s.cw.length)&&decide (s.cw.length<=3))=false:=by
   rw[Bool.and_eq_false_iff,decide_eq_false_iff_not,decide_eq_false_iff_not];omega
  rw[d1,d2];rfl
theorem ae4 (e:ahL) (he:e.length<=1048576) (c:dG) (ai:c.b5.length<=1048576):Bs e c=some (tZ e c):=by
 unfold Bs tZ;rw[CL _ e.length he];simp only[bind_some];cases aq:(decide (0<=c.dd)&&decide (c.dd<=(e.length:Int)-1))
 .rfl
 .rw[PM aq];simp only[cond_true,bind_some,PF _ ai];cases((c.b5.length:Int)==(e.getD c.dd.toNat ⟨[],0,[]⟩).cU)<;>rfl
theorem ae5 (s:dH) (ae:s.br.length<=1048576) (ai:s.cw.length<=1048576) (aI:∀c∈s.cw,c.b5.length<=1048576):
  Bt s.cw s=some (!(eY (λi=>tZ s.br (j7 s.cw i)) s.cw.length)):=by
 unfold Bt Gl;rw[pW (n:=s.cw.length) (λi=> !(tZ s.br (j7 s.cw i)))]
 .simp only[bind_some,qQ,Bool.not_not]
 .intro m;simp only[yl,Gk];rw[ez (Nat.le_refl _)];rfl
 .intro i ak m;simp only[yl,Gk];have hm:(j7 s.cw i).b5.length<=1048576:=by
   have:j7 s.cw i=s.cw[i]:=by simp[j7,List.getD,ak]
   rw[this];exact aI _ (getElem_mem ak)
  rw[e4 ak,l3 _ i ⟨0,[]⟩ ak,e1 i _ ak (by omega)];show cond true (Option.bind (some (j7 s.cw i)) _) _=_;simp only[cond_true,bind_some,Gj,ae4 _ ae _ hm]
def dS (a:ahN) (i:Nat):cp:=a.getD i ⟨[],[],[]⟩
def t_ (p m:cp):Bool:=Op.bytesLess p.Left m.Left||(p.Left==m.Left&&Op.bytesLess p.b0 m.b0)
def ua (a:ahN) (m:cp):Bool:=eY (λj=> !((dS a j).Left==m.Result||(dS a j).b0==m.Result)) a.length
def zk (a:ahN) (i:Nat):Bool:=
 ((((iQ (dS a i).Left&&iQ (dS a i).b0)&&iQ (dS a i).Result)&&(Op.bytesLess (dS a i).Left (dS a i).b0||(dS a i).Left==(dS a i).b0))&&(decide (i=0)||t_ (dS a (i-1)) (dS a i)))&&ua a (dS a i)
def ub (a:ahN):Bool:=decide (a.length<=6)&&eY (zk a) a.length
def CS (a:ahN):Prop:=a.length<=1048576/\∀m∈a,m.Left.length<=1048576/\m.b0.length<=1048576/\m.Result.length<=1048576
theorem ae6 (p m:cp):((!(Op.bytesLess p.Left m.Left||p.Left==m.Left))||((p.Left==m.Left)&&(!(Op.bytesLess p.b0 m.b0))))= !(t_ p m):=by
 unfold t_;cases he:p.Left==m.Left
 .cases Op.bytesLess p.Left m.Left<;>rfl
 .have:p.Left=m.Left:=by simpa using he
  rw[this,ae0];cases Op.bytesLess p.b0 m.b0<;>rfl
def qZ (a b:aht):Int:=cond (Op.bytesLess a b) (-1) (cond (!(Op.bytesLess a b||a==b)) 1 0)
theorem ae7 (a b:aht):Bu a b=some (qZ a b):=by
 unfold Bu cmp_isNaN_string qZ;simp only[bind_some,cond_false];cases Op.bytesLess a b<;>cases a==b<;>rfl
theorem ae8 (p m:cp):∃v,Bx p m=some v/\decide (0<=v)= !(t_ p m):=by
 have IP:Bw [p.Left,p.b0] [m.Left,m.b0]=some (cond (qZ p.Left m.Left !=0) (qZ p.Left m.Left) (cond (qZ p.b0 m.b0 !=0) (qZ p.b0 m.b0) 0)):=by
  unfold Bw;refine hi 3 λn aU=>?_;obtain⟨n,rfl⟩:∃k,n=k+3:=⟨n-3,by omega⟩
  have fE:bh [p.Left,p.b0] 0=some p.Left:=rfl;have aP:bh [m.Left,m.b0] 0=some m.Left:=rfl;have aT:bh [p.Left,p.b0] 1=some p.b0:=rfl;have aR:bh [m.Left,m.b0] 1=some m.b0:=rfl;have fs:i64.wrap (0+1)=1:=by decide
  have gO:i64.wrap (1+1)=2:=by decide
  simp only[Bv,M4,length_cons,length_nil,fE,aP,aT,aR,fs,gO,bind_some,ae7];cases qZ p.Left m.Left !=0
  .cases qZ p.b0 m.b0 !=0<;>rfl
  .rfl
 unfold Bx;rw[IP];refine⟨_,rfl,?_⟩;unfold t_ qZ;cases hl:Op.bytesLess p.Left m.Left
 .cases he:p.Left==m.Left
  .rfl
  .cases aH:Op.bytesLess p.b0 m.b0
   .cases p.b0==m.b0<;>rfl
   .rfl
 .rfl
theorem ae9 (a:ahN) (h:a.length<=1048576) (m:cp):yn a m=some (!(ua a m)):=by
 unfold yn Gp;rw[pW (n:=a.length) (λj=>((dS a j).Left==m.Result||(dS a j).b0==m.Result))]
 .simp only[bind_some,qQ];rfl
 .intro k;simp only[ym,Gn];rw[ez (Nat.le_refl _)];rfl
 .intro i ak k;simp only[ym,Gn];rw[e4 ak,l3 _ i ⟨[],[],[]⟩ ak,e1 i _ ak (by omega)];simp only[cond_true,bind_some,Gm];rfl
theorem ae_ {a:ahN} (h:CS a) {i:Nat} (ak:i<a.length):(dS a i).Left.length<=1048576/\(dS a i).b0.length<=1048576/\(dS a i).Result.length<=1048576:=by
 have:dS a i=a[i]:=by simp[dS,List.getD,ak]
 rw[this];exact h.2 _ (getElem_mem ak)
theorem zl {a:ahN} {i:Nat} (ak:i<a.length):bh a (i:Int)=some (dS a i):=l3 a i _ ak
theorem afa (a:ahN) (h:CS a):A6 a=some (ub a):=by
 unfold A6 ub;by_cases hl:6<a.length
 .have d1:decide ((6:Int)<(a.length:Int))=true:=decide_eq_true (by omega);have d2:decide (a.length<=6)=false:=decide_eq_false (by omega);rw[d1,d2];rfl
 .have d1:decide ((6:Int)<(a.length:Int))=false:=decide_eq_false (by omega);have d2:decide (a.length<=6)=true:=decide_eq_true (by omega);rw[d1,d2,cond_false,Bool.true_and];refine CE (l:=λm i=>oF a m i) _ (λm=>?_) (λi ak m=>?_)
  .simp only[oF,FQ];rw[ez (Nat.le_refl _)];rfl
  .have afb:(ca λn=>qw (oF a m) a (dS a i) n (i:Int) 0)=cond (ua a (dS a i)) (oF a m ((i+1:Nat):Int)) (some false):=by
    refine tY (l:=λhO j=>qw (oF a m) a (dS a i) hO (i:Int) j) _ _ _ (λhO=>?_) (λj bQ hO=>?_)
    .simp only[qw,FP];rw[ez (Nat.le_refl _),e1 i _ ak (by omega)];rfl
    .simp only[qw,FP];rw[e4 bQ,zl bQ,e1 j _ bQ (by omega)];simp only[cond_true,bind_some];cases((dS a j).Left==(dS a i).Result||(dS a j).b0==(dS a i).Result)<;>rfl
   simp only[oF,FQ];rw[e4 ak,zl ak];simp only[cond_true,bind_some,PJ,afb];unfold zk;by_cases aV:i=0
   .subst aV;rw[tQ];simp only[cond_false,decide_true,Bool.true_or,Bool.and_true];cases iQ (dS a 0).Left<;>cases iQ (dS a 0).b0<;>cases iQ (dS a 0).Result<;>cases(Op.bytesLess (dS a 0).Left (dS a 0).b0||(dS a 0).Left==(dS a 0).b0)<;>cases ua a (dS a 0)<;>rfl
   .rw[Im aV,za i (by omega) (by omega),zl (show i-1<a.length by omega)];have ae:decide (i=0)=false:=decide_eq_false aV;simp only[cond_true,bind_some,ae,Bool.false_or,ae6];cases iQ (dS a i).Left<;>cases iQ (dS a i).b0<;>cases iQ (dS a i).Result<;>cases(Op.bytesLess (dS a i).Left (dS a i).b0||(dS a i).Left==(dS a i).b0)<;>cases t_ (dS a (i-1)) (dS a i)<;>cases ua a (dS a i)<;>rfl
theorem afc (a:ahN) (h:CS a):Bz a=some (ub a):=by
 unfold Bz ub;rw[tY (l:=λm i=>vl a m i) (n:=a.length) (zk a) (some (decide ((a.length:Int)<=6))) (some false)]
 .have e:decide ((a.length:Int)<=6)=decide (a.length<=6):=decide_eq_decide.2 (by omega);rw[e];cases eY (zk a) a.length<;>cases decide (a.length<=6)<;>rfl
 .intro m;simp only[vl,Gq];rw[ez (Nat.le_refl _)];rfl
 .intro i ak m;have hl:=h.1;obtain⟨s1,s2,nG⟩:=ae_ h ak;simp only[vl,Gq];rw[e4 ak,zl ak,e1 i _ ak (by omega)];simp only[cond_true,bind_some,CR _ s1,CR _ s2,CR _ nG,ae9 a hl];unfold zk;by_cases aV:i=0
  .subst aV;rw[tQ];simp only[cond_false,decide_true,Bool.true_or,Bool.and_true];cases iQ (dS a 0).Left<;>cases iQ (dS a 0).b0<;>cases iQ (dS a 0).Result<;>cases(Op.bytesLess (dS a 0).Left (dS a 0).b0||(dS a 0).Left==(dS a 0).b0)<;>cases ua a (dS a 0)<;>rfl
  .rw[Im aV,za i (by omega) (by omega),zl (show i-1<a.length by omega)];obtain⟨v,v1,v2⟩:=ae8 (dS a (i-1)) (dS a i);have ae:decide (i=0)=false:=decide_eq_false aV;simp only[cond_true,bind_some,ae,Bool.false_or,v1,v2];cases iQ (dS a i).Left<;>cases iQ (dS a i).b0<;>cases iQ (dS a i).Result<;>cases(Op.bytesLess (dS a i).Left (dS a i).b0||(dS a i).Left==(dS a i).b0)<;>cases t_ (dS a (i-1)) (dS a i)<;>cases ua a (dS a i)<;>rfl
def sd (s:dH):Prop:=l4 s.br/\(s.cw.length<=1048576/\∀c∈s.cw,c.b5.length<=1048576)/\CS s.gP/\
 (s.gF.length<=1048576/\∀x∈s.gF,x.length<=1048576)/\(s.gG.length<=1048576/\∀x∈s.gG,x.length<=1048576)
noncomputable def n4 (s:dH):Int:=cond (!jk s.br) 1 (cond (!qY s) 2 (cond (!ub s.gP) 3 (cond (!p4 s.gF) 4 (cond (!p4 s.gG) 5 0))))
theorem afd (s:dH) (h:sd s):A9 s=some (n4 s):=by
 obtain⟨ab,ad,aC,aW,bu⟩:=h;unfold A9 n4;rw[aeT _ ab,ae3 s ab.1 ad.1 ad.2,afa _ aC,PK _ aW.1,PK _ bu.1];simp only[bind_some];cases jk s.br<;>cases qY s<;>cases ub s.gP<;>cases p4 s.gF<;>cases p4 s.gG<;>rfl
theorem afe (s:dH) (h:sd s):BA s=some (n4 s):=by
 obtain⟨ab,ad,aC,aW,bu⟩:=h;unfold BA iw n4 qY;have mW:decide ((1:Int)<=(s.cw.length:Int))=decide (1<=s.cw.length):=decide_eq_decide.2 (by omega);have mu:decide ((s.cw.length:Int)<=3)=decide (s.cw.length<=3):=decide_eq_decide.2 (by omega);rw[aeV _ ab,ae5 s ab.1 ad.1 ad.2,afc _ aC,PL _ aW.1 aW.2,PL _ bu.1 bu.2];simp only[bind_some];rw[mW,mu];cases jk s.br<;>cases(decide (1<=s.cw.length)&&decide (s.cw.length<=3))<;>cases eY (λi=>tZ s.br (j7 s.cw i)) s.cw.length<;>
  cases ub s.gP<;>cases p4 s.gF<;>cases p4 s.gG<;>rfl
theorem aff {s:dH} (h:oZ s<=1048576):sd s:=by
 unfold oZ at h;refine⟨aeS (by omega),⟨Nat.le_trans (ij kq _) (by omega),λc ai=>?_⟩,⟨Nat.le_trans (ij kr _) (by omega),λm hm=>?_⟩,⟨Nat.le_trans (ij length _) (by omega),λx ar=>?_⟩,⟨Nat.le_trans (ij length _) (by omega),λx ar=>?_⟩⟩
 .have ab:kq c<=c8 kq s.cw:=k8 ai;have ad:kq c<=1048576:=by omega
  clear ab;unfold kq at ad;omega
 .have ab:kr m<=c8 kr s.gP:=k8 hm;have ad:kr m<=1048576:=by omega
  clear ab;unfold kr at ad;omega
 .have ab:x.length<=c8 length s.gF:=k8 ar;omega
 .have ab:x.length<=c8 length s.gG:=k8 ar;omega
theorem afg (a:lW) (bM:xF a):
  ∃r,xM a 1048576=some r/\(decide (r<0)=false->rK a=some (p2 a)/\yI (p2 a) (p2 a)=some true/\
   sd (p2 a)/\r=1048576-(sc a:Nat)/\0<=r):=by
 refine⟨_,aed a 1048576 bM (by omega) (by omega),λh=>?_⟩;by_cases U:sc a<=1048576
 .have s8:oZ (p2 a)<=1048576:=by rw[Pz];exact U
  exact⟨aeu a U,aeI _ s8,aff s8,CC (by omega),by rw[CC (by omega)];omega⟩
 .rw[CD (by omega)]at h;simp at h
theorem afh (s:dH) (h:sd s):A_ s=some (n4 s==0):=by unfold A_;rw[afd s h];rfl
theorem PN (s:dH) (h:sd s):yp s=some (n4 s==0):=by unfold yp;rw[afe s h];rfl
theorem PO {s:dH} (h:(n4 s==0)=true):jk s.br=true:=by
 cases ae:jk s.br
 .unfold n4 at h;rw[ae]at h;simp at h
 .rfl
noncomputable def lF (e:ahL) (p:bY):Bool:=(rM e p).getD false
theorem zm (e:ahL) (h:l4 e) (aI:jk e=true) (p:bY) (an:p.b5.length<=1048576):rM e p=some (lF e p)/\yu e p=some (lF e p):=by
 obtain⟨b,ab,ad⟩:=aeX e h aI p an;have:lF e p=b:=by unfold lF;rw[ab];rfl
 rw[this];exact⟨ab,ad⟩
def n5 (q:ahO) (i:Nat):bY:=q.getD i ⟨0,0,[]⟩
theorem afi {q:ahO} (aI:∀p∈q,p.b5.length<=1048576) {i:Nat} (ak:i<q.length):(n5 q i).b5.length<=1048576:=by
 have:n5 q i=q[i]:=by simp[n5,List.getD,ak]
 rw[this];exact aI _ (getElem_mem ak)
theorem afj (s:dH) (h:l4 s.br) (ae:jk s.br=true) (q:ahO) (b_:q.length<=1048576) (aI:∀p∈q,p.b5.length<=1048576):
  BI q s=some (!(eY (λi=>lF s.br (n5 q i)) q.length)):=by
 unfold BI GC;rw[pW (n:=q.length) (λi=> !(lF s.br (n5 q i)))]
 .simp only[bind_some,qQ,Bool.not_not]
 .intro m;simp only[yv,GB];rw[ez (Nat.le_refl _)];rfl
 .intro i ak m;simp only[yv,GB];rw[e4 ak,l3 _ i ⟨0,0,[]⟩ ak,e1 i _ ak (by omega)];show cond true (Option.bind (some (n5 q i)) _) _=_;simp only[cond_true,bind_some,GA,(zm _ h ae _ (afi aI ak)).2]
end Go.lV
