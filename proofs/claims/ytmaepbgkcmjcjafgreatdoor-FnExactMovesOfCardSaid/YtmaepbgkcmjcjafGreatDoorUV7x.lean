/- Part of a proof that a law returns true for every input. No condition. -/
import Derived.Test.YtmaepbgkcmjcjafGreatDoorUV6x
namespace Go.kX
open Option Go.IntKind Nat
open Go Go.eg
noncomputable def e4 (L:ayc):ayc:=(sI L).getD []
noncomputable def gx (L:ayc):aye:=((zp L).getD ([],false)).1
structure wT (n:ayc) (a:aye):Prop where
 ki:hE n=true
 len:a.length<=2
 DH:(n==([116,97,117]:ayc))=true->a.length=0
 kg:∀x∈a,gl x
structure r7 (L:ayc):Prop where
 mG:wT (e4 L) (gx L)
 eq:L=iL (e4 L) (gx L)
theorem LL {n:ayc} {a:aye} (h:wT n a):e4 (iL n a)=n/\gx (iL n a)=a:=by
 unfold e4 gx;rw[abR h.ki h.len,abS h.ki h.len h.DH h.kg];exact⟨rfl,rfl⟩
theorem ab7 {n:ayc} {a:aye} (h:wT n a):r7 (iL n a):=by
 obtain⟨aP,aY⟩:=LL h;exact⟨by rw[aP,aY];exact h,by rw[aP,aY]⟩
theorem wU {s:bk} (h:fG s):r7 s.Label:=by
 obtain⟨n,a,ad,af,aG,bf,bU⟩:=h.shape;rw[bU];exact ab7 ⟨ad,af,aG,bf⟩
theorem r7.name {L:ayc} (h:r7 L):sI L=some (e4 L):=by
 have:=abR h.mG.ki h.mG.len
 rwa [<-h.eq]at this
theorem r7.values {L:ayc} (h:r7 L):zp L=some (gx L,true):=by
 have:=abS h.mG.ki h.mG.len h.mG.DH h.mG.kg
 rwa [<-h.eq]at this
theorem r7.read {L:ayc} (h:r7 L):zC L=some (e4 L,gx L,true):=by
 have:=au1 h.mG.ki h.mG.len h.mG.DH h.mG.kg
 rwa [<-h.eq]at this
theorem ab8:wT [116,97,117] []:=⟨by decide,by simp,λ_=>rfl,λx ao=>by cases ao⟩
def wV (H:ayb) (n:ayc) (a:aye):ayc×aye:=if n∈H then([116,97,117],[])else(n,a)
def qa (H:ayb) (n:ayc) (a:aye):ayc:=iL (wV H n a).1 (wV H n a).2
theorem Tp {H:ayb} {n:ayc} {a:aye} (h:wT n a):wT (wV H n a).1 (wV H n a).2:=by
 unfold wV;split
 .exact ab8
 .exact h
theorem ab9 (s:cE) (nI:s.dk.length<=1048576) {L:ayc} (h:r7 L):BS s L=some (qa s.dk (e4 L) (gx L)):=by
 obtain⟨⟨z,qq,_,z2⟩,_⟩:=HH s.dk (e4 L) nI;unfold BS;rw[h.name,bind_some,qq,bind_some,z2];unfold qa wV;by_cases hm:e4 L∈s.dk
 .rw[decide_eq_true hm,if_pos hm];rfl
 .rw[decide_eq_false hm,if_neg hm,cond_false];exact congrArg some h.eq
def wW (A:ayb) (n:ayc):Bool:=(n==[116,97,117])||decide (n∈A)
noncomputable def cr (A H:ayb) (q:ayz) (i:Nat) (x:bk):ayA:=
 if wW A (e4 x.Label)=true then [⟨qa H (e4 x.Label) (gx x.Label),(i:Int),-1,q.set i x.Next⟩]else []
noncomputable def nX (M:ayy) (x y:ayc):ayc:=r6 M (ke (r5 M (hT false x y) (hT true x y)) 0 M.length)
noncomputable def c2 (M:ayy) (A H:ayb) (q:ayz) (i k:Nat) (x y:bk):ayA:=
 if gx x.Label=gx y.Label/\nX M (e4 x.Label) (e4 y.Label)≠[]/\nX M (e4 x.Label) (e4 y.Label)∈A then
  [⟨qa H (nX M (e4 x.Label) (e4 y.Label)) (gx x.Label),(i:Int),(k:Int),(q.set i x.Next).set k y.Next⟩]else []
theorem u_ {q:ayz} (h:∀p∈q,kA p) {x:bd} (ao:kA x) (i:Nat):∀p∈q.set i x,kA p:=by
 intro p ax;rcases List.mem_or_eq_of_mem_set ax with ad|rfl
 .exact h p ad
 .exact ao
theorem Tq {H:ayb} {n:ayc} {a:aye} (h:wT n a):(qa H n a).length<=400/\(32:UInt8)∉qa H n a:=by
 have g:=Tp (H:=H) h;exact SZ g.ki (by have:=g.len;omega) g.kg
theorem avE {A H:ayb} {q:ayz} (h:∀p∈q,kA p) {i:Nat} (aj:i<100) {x:bk} (ao:fG x):∀m∈cr A H q i x,iM q.length m:=by
 intro m hm;unfold cr at hm;split at hm
 .rw[List.mem_singleton]at hm;subst hm;exact⟨Tq (wU ao).mG,⟨i,aj,rfl⟩,.inl rfl,by simp,u_ h ao.next i⟩
 .cases hm
theorem ab_ (A H:ayb) (q:ayz) (i:Nat) (x:bk):(cr A H q i x).length<=1:=by unfold cr;split<;>simp
theorem Tr (M:ayy) (A H:ayb) (q:ayz) (i k:Nat) (x y:bk):(c2 M A H q i k x y).length<=1:=by unfold c2;split<;>simp
theorem HI {s:cE} (aJ:(mF s==0)=true) (x y:ayc):
  (decide (ke (r5 s.cz (hT false x y) (hT true x y)) 0 s.cz.length<0)=decide (nX s.cz x y=[]))/\(nX s.cz x y≠[]->j0 (nX s.cz x y)=true):=by
 have hl:=Tn (r5 s.cz (hT false x y) (hT true x y)) s.cz.length 0;unfold nX;generalize ke (r5 s.cz (hT false x y) (hT true x y)) 0 s.cz.length=z at hl⊢;by_cases h:z<0
 .rw[decide_eq_true h];have e:r6 s.cz z=[]:=by unfold r6;rw[decide_eq_true h];rfl
  rw[e];exact⟨by simp,λh=>absurd rfl h⟩
 .have b8:z.toNat<s.cz.length:=by omega
  have e:r6 s.cz z=(eP s.cz z.toNat).Result:=by unfold r6;rw[decide_eq_false h];rfl
  have aQ:=avB s aJ z.toNat b8;rw[beq_eq_false_iff_ne]at aQ;rw[e,decide_eq_false h,decide_eq_false aQ];refine⟨rfl,λ_=>?_⟩;have hm:qR s.cz=true:=by
   cases h:qR s.cz
   .unfold mF at aJ;rw[h]at aJ;revert aJ;cases lU s.c8<;>cases u7 s<;>simp
   .rfl
  unfold qR at hm;rw[Bool.and_eq_true]at hm;have ad:=oX.1 hm.2 z.toNat b8;unfold AA at ad;simp only[Bool.and_eq_true]at ad;exact ad.1.1.1.2
theorem LM {n:ayc} {a:aye} (h:j0 n=true) (hl:a.length<=2) (aJ:∀x∈a,gl x):wT n a:=by
 unfold j0 at h;rw[Bool.and_eq_true]at h;exact⟨h.1,hl,λe=>(by rw[e]at h;cases h.2),aJ⟩
theorem avF {s:cE} (aJ:(mF s==0)=true) (hm:s.cz.length<=1048576) (x y:ayc):zF s x y=some (nX s.cz x y,!decide (nX s.cz x y=[])):=by
 rw[avA s hm x y _ rfl,(HI aJ x y).1];rfl
theorem Ts {s:cE} (aJ:(mF s==0)=true) {q:ayz} (h:∀p∈q,kA p) {i k:Nat} (aj:i<100) (au:k<100) {x y:bk} (ao:fG x) (hy:fG y):
  ∀m∈c2 s.cz s.dj s.dk q i k x y,iM q.length m:=by
 intro m hm;unfold c2 at hm;split at hm
 .rename_i ar;rw[List.mem_singleton]at hm;subst hm;have g:=(wU ao).mG;exact⟨Tq (LM ((HI aJ _ _).2 ar.2.1) g.len g.kg),⟨i,aj,rfl⟩,.inr ⟨k,au,rfl⟩,by simp,u_ (u_ h ao.next i) hy.next k⟩
 .cases hm
theorem avG {s:cE} (aJ:(mF s==0)=true) (hm:s.cz.length<=1048576) (ja:s.dj.length<=1048576) {x y:ayc} (ao:r7 x) (hy:r7 y):
  JD s x y=some (if gx x=gx y/\nX s.cz (e4 x) (e4 y)≠[]/\nX s.cz (e4 x) (e4 y)∈s.dj then iL (nX s.cz (e4 x) (e4 y)) (gx x)else []):=by
 have g:=ao.mG;unfold JD;rw[ao.values,hy.values];simp only[bind_some];rw[S1 _ _ (by have:=g.len;omega),bind_some];by_cases ad:gx x=gx y
 .rw[show(gx x==gx y)=true from by rw[ad];simp];simp only[Bool.not_true,cond_false];rw[ao.name,hy.name];simp only[bind_some];rw[show FM s.cz (e4 x) (e4 y)=some (nX s.cz (e4 x) (e4 y))from avz _ hm _ _,bind_some];have rX:=(HI aJ (e4 x) (e4 y)).2;generalize nX s.cz (e4 x) (e4 y)=r at rX⊢;by_cases af:r=[]
  .rw[if_neg (λc=>c.2.1 af),af];rfl
  .rw[show(r==([]:ayc))=false from by simpa using af,cond_false];obtain⟨⟨z,qq,z2,_⟩,_⟩:=HH s.dj r ja;rw[qq,bind_some,z2];by_cases aG:r∈s.dj
   .rw[decide_eq_true aG,if_pos ⟨ad,af,aG⟩];have AB:=LM (rX af) g.len g.kg;have yk:r.length<=10:=by have:=AB.ki;simp only[hE,Bool.and_eq_true,decide_eq_true_eq]at this;exact this.1
    rw[Bool.not_true,cond_false,abq r (gx x) yk (by have:=g.len;omega) g.kg];rfl
   .rw[decide_eq_false aG,if_neg (λc=>aG c.2.2)];rfl
 .rw[show(gx x==gx y)=false from by simpa using ad,if_neg (λc=>ad c.1)];rfl
theorem aca {n:Nat} {D:ayw} {C:ayx} {M:ayy} {A H:ayb} {q:ayz} {o:ayA} {sn:aya} (m:a1) (hm:iM n m) (aV:n<=100) (bI:o.length<=1000000000):
  CA m.gH m.Second D C M A H q o sn m.Label m.State=some (D,C,M,A,H,q,(nW o1 (o,sn) m).1,(nW o1 (o,sn) m).2):=by
 obtain⟨i,aj,iy⟩:=hm.fst;obtain⟨s1,s2,_⟩:=Ti hm.snd;have ad:=wD i;have af:=hm.yl.1;have aG:=abV hm.st.2;have bf:=hm.st.1;have an:ry m.gH=some (jg m.gH.toNat):=by rw[iy,Int.toNat_natCast];exact Ai i aj
 have hx:(jg m.gH.toNat).length<=2:=by rw[iy,Int.toNat_natCast];exact ad
 unfold CA;rw[an,s1,au7 (by omega) hm.st.2,mh (by omega)];simp only[bind_some];rw[mh (by simp only[List.length_append,List.length_cons,List.length_nil];omega),bind_some,mh (by simp only[List.length_append,List.length_cons,List.length_nil];omega),bind_some,mh (by simp only[List.length_append,List.length_cons,List.length_nil];omega),bind_some,
  mh (by simp only[List.length_append,List.length_cons,List.length_nil];omega),bind_some,mh (by simp only[List.length_append,List.length_cons,List.length_nil];omega),bind_some]
 show cond (!(j1 (o1 m) sn)) _ _=_;unfold nW;cases hg:j1 (o1 m) sn
 .rw[lR (by omega) (by omega)];simp only[hg];rfl
 .simp only[hg];rfl
theorem acb {D:ayw} {C:ayx} {M:ayy} {A H:ayb} {q:ayz} {o:ayA} {sn:aya} {n:ayc} {a:aye} (aV:wT n a) (cy:q.length<=100) (h:∀p∈q,kA p)
  (bI:o.length<=1000000000) {i:Nat} (aj:i<q.length) {p:bd} (ax:kA p):
  (qx (i:Int) (-1) [p] D C M A H q o sn n a=some (D,C,M,A,H,q,(nW o1 (o,sn) ⟨iL n a,i,-1,q.set i p⟩).1,(nW o1 (o,sn) ⟨iL n a,i,-1,q.set i p⟩).2))/\
  ∀(k:Nat) (r:bd),k<q.length->kA r->
   qx (i:Int) (k:Int) [p,r] D C M A H q o sn n a=some (D,C,M,A,H,q,(nW o1 (o,sn) ⟨iL n a,i,k,(q.set i p).set k r⟩).1,(nW o1 (o,sn) ⟨iL n a,i,k,(q.set i p).set k r⟩).2):=by
 have LC:=SZ aV.ki (by have:=aV.len;omega) aV.kg;constructor
 .unfold qx;rw[HE n a aV.ki aV.len aV.DH aV.kg,(DG cy h).2];simp only[bind_some];rw[show bh [p] 0=some p from rfl,bind_some,To ax,dV _ i aj];simp only[bind_some,Int.toNat_natCast];rw[show decide ((0:Int)<=-1)=false from rfl,cond_false];exact aca (n:=q.length) ⟨iL n a,i,-1,q.set i p⟩ ⟨LC,⟨i,by omega,rfl⟩,.inl rfl,by simp,u_ h ax i⟩ cy bI
 .intro k r au aQ;unfold qx;rw[HE n a aV.ki aV.len aV.DH aV.kg,(DG cy h).2];simp only[bind_some];rw[show bh [p,r] 0=some p from rfl,bind_some,To ax,dV _ i aj];simp only[bind_some,Int.toNat_natCast];rw[show decide ((0:Int)<=(k:Int))=true from decide_eq_true (by omega),cond_true,show bh [p,r] 1=some r from rfl,bind_some,To aQ,dV _ k (by simpa using au)];simp only[bind_some];exact aca (n:=q.length) ⟨iL n a,i,k,(q.set i p).set k r⟩ ⟨LC,⟨i,by omega,rfl⟩,.inr ⟨k,by omega,rfl⟩,by simp,u_ (u_ h ax i) aQ k⟩ cy bI
theorem acd {D:ayw} {C:ayx} {M:ayy} {A H:ayb} {q:ayz} {o:ayA} {sn:aya} {n:ayc} {a:aye} (ja:A.length<=1048576) (nI:H.length<=1048576) (k:Int) (ps:ayz) (i:Nat)
  (r:ayA×aya) (au:qx (i:Int) k ps D C M A H q o sn (wV H n a).1 (wV H n a).2=some (D,C,M,A,H,q,r.1,r.2)):
  CB D C M A H q o sn n a (i:Int) k ps=some (D,C,M,A,H,q,(if wW A n=true then r else(o,sn)).1,(if wW A n=true then r else(o,sn)).2):=by
 have aP:=(HH A n ja).2;have aY:=(HH H n nI).2;have ar:∀x,cond (decide (n∈H)) (qx (i:Int) k ps D C M A H q o sn ([116,97,117]:ayc) []) (qx (i:Int) k ps D C M A H q o sn n a)=x↔some (D,C,M,A,H,q,r.1,r.2)=x:=by
  intro x;rw[<-au];unfold wV;by_cases h:n∈H
  .rw[decide_eq_true h,if_pos h];exact Iff.rfl
  .rw[decide_eq_false h,if_neg h];exact Iff.rfl
 unfold CB wW;rw[aP,aY];simp only[bind_some];cases ba:n==([116,97,117]:ayc)
 .simp only[Bool.not_false,cond_true,Bool.false_or];by_cases h:n∈A
  .rw[decide_eq_true h];simp only[Bool.not_true,cond_false,if_true];exact(ar _).2 rfl
  .rw[decide_eq_false h];simp
 .simp only[Bool.not_true,cond_false,Bool.true_or,if_true];exact(ar _).2 rfl
theorem avH {L:ayc} (h:r7 L):(L==([116,97,117]:ayc))=(e4 L==[116,97,117]):=by
 rw[Bool.eq_iff_iff,beq_iff_eq,beq_iff_eq];constructor
 .intro e;have:L=iL [116,97,117] []:=e;rw[this];exact(LL ab8).1
 .intro e;have af:=h.mG.DH (by rw[e];rfl);have aG:gx L=[]:=List.length_eq_zero_iff.1 af;rw[h.eq,e,aG];rfl
theorem ace {n:Nat} {o:ayA} {m:a1} (bI:o.length<=1000) (hg:∀x∈o,iM n x) (hm:iM n m):(iS o m).length<=1000/\∀x∈iS o m,iM n x:=by
 unfold iS;split
 .exact⟨bI,hg⟩
 .have:=Tc o m;exact⟨by omega,λx ao=>(LH ao).elim (hg x) λe=>e▸hm⟩
theorem LN {n:Nat}:∀(l o:ayA),o.length<=1000->(∀x∈o,iM n x)->(∀x∈l,iM n x)->(l.foldl iS o).length<=1000/\∀x∈l.foldl iS o,iM n x
 |[],o,bI,hg,_=>⟨bI,hg⟩
 |s::r,o,bI,hg,hl=>by
  obtain⟨ad,af⟩:=ace bI hg (hl s (by simp));exact LN r _ ad af λx ao=>hl x (List.mem_cons_of_mem _ ao)
theorem LO {n:Nat}:∀(l o:ayA),(∀x∈o,iM n x)->(∀x∈l,iM n x)->∀x∈l.foldl hS o,iM n x
 |[],o,hg,_=>hg
 |s::r,o,hg,hl=>LO r _ (λx ao=>(LH ao).elim (hg x) λe=>e▸hl s (by simp)) λx ao=>hl x (List.mem_cons_of_mem _ ao)
structure tu (s:cE) (q:ayz) (ak:ayn):Prop where
 AD:(mF s==0)=true
 sm:s.cz.length<=1048576/\s.dj.length<=1048576/\s.dk.length<=1048576
 o2:q.length<=3
 tv:∀p∈q,kA p
 l3:ak.length=q.length
 gs:∀l∈ak,l.length<=200/\∀x∈l,fG x
noncomputable def lG (s:cE) (q:ayz) (i:Nat) (l:ayB):ayA:=l.flatMap (cr s.dj s.dk q i)
noncomputable def mH (s:cE) (q:ayz) (i k:Nat) (l r:ayB):ayA:=l.flatMap λx=>r.flatMap (c2 s.cz s.dj s.dk q i k x)
noncomputable def lV (s:cE) (q:ayz) (ak:ayn) (i k:Nat):ayA:=(List.range' k (q.length-k)).flatMap λk=>mH s q i k (ak.getD i []) (ak.getD k [])
noncomputable def one (s:cE) (q:ayz) (ak:ayn) (i:Nat):ayA:=(List.range' i (q.length-i)).flatMap λi=>lG s q i (ak.getD i [])
noncomputable def two (s:cE) (q:ayz) (ak:ayn) (i:Nat):ayA:=(List.range' i (q.length-i)).flatMap λi=>lV s q ak i (i+1)
section
variable {s:cE} {q:ayz} {ak:ayn} (H:tu s q ak)
include H
theorem tu.at {i:Nat} (aj:i<q.length):∃h:i<ak.length,ak.getD i []=ak[i]/\ak[i].length<=200/\∀x∈ak[i],fG x:=by
 have h:i<ak.length:=by rw[H.l3];exact aj
 exact⟨h,by simp[List.getD,h],H.gs _ (List.getElem_mem h)⟩
theorem tu.g1 {i:Nat} (aj:i<q.length) {l:ayB} (hl:∀x∈l,fG x):∀m∈lG s q i l,iM q.length m:=by
 intro m hm;unfold lG at hm;obtain⟨x,ao,hm⟩:=List.mem_flatMap.1 hm;exact avE H.tv (by have:=H.o2;omega) (hl x ao) m hm
theorem tu.g2 {i k:Nat} (aj:i<q.length) (au:k<q.length) {l r:ayB} (hl:∀x∈l,fG x) (aQ:∀x∈r,fG x):∀m∈mH s q i k l r,iM q.length m:=by
 intro m hm;unfold mH at hm;obtain⟨x,ao,hm⟩:=List.mem_flatMap.1 hm;obtain⟨y,hy,hm⟩:=List.mem_flatMap.1 hm;exact Ts H.AD H.tv (by have:=H.o2;omega) (by have:=H.o2;omega) (hl x ao) (aQ y hy) m hm
theorem tu.g3 {i k:Nat} (aj:i<q.length):∀m∈lV s q ak i k,iM q.length m:=by
 intro m hm;unfold lV at hm;obtain⟨j,bF,hm⟩:=List.mem_flatMap.1 hm;rw[List.mem_range'_1]at bF;obtain⟨_,aP,_,f1⟩:=H.at aj;obtain⟨_,aY,_,f2⟩:=H.at (i:=j) (by omega);rw[aP,aY]at hm;exact H.g2 aj (by omega) f1 f2 m hm
theorem tu.gone {i:Nat}:∀m∈one s q ak i,iM q.length m:=by
 intro m hm;unfold one at hm;obtain⟨j,bF,hm⟩:=List.mem_flatMap.1 hm;rw[List.mem_range'_1]at bF;obtain⟨_,aP,_,f1⟩:=H.at (i:=j) (by omega);rw[aP]at hm;exact H.g1 (by omega) f1 m hm
theorem tu.acf {i:Nat}:∀m∈two s q ak i,iM q.length m:=by
 intro m hm;unfold two at hm;obtain⟨j,bF,hm⟩:=List.mem_flatMap.1 hm;rw[List.mem_range'_1]at bF;exact H.g3 (by omega) m hm
theorem avI (qv:ayA->ayn->Int->Option (ayA×Bool)) {i:Nat} (aj:i<q.length) {l:ayB} (hl:bh ak (i:Int)=some l) (uZ:l.length<=200) (hg:∀x∈l,fG x):
  ∀a,a<=l.length->∀(o:ayA) m,o.length+(l.length-a)<=1000000->(∀x∈o,iM q.length x)->l.length-a<m->
   xO qv s q m o ak (i:Int) (a:Int)=qv ((lG s q i (l.drop a)).foldl hS o) ak ((i+1:Nat):Int):=by
 have aG:=H.o2;refine down l.length ?_ ?_
 .intro o m bI im hm;obtain⟨m,rfl⟩:∃j,m=j+1:=⟨m-1,by omega⟩
  simp only[xO,Pd];rw[hl,bind_some,eb (Nat.le_refl _),List.drop_of_length_le (Nat.le_refl _),cond_false,eo i _ aj (by omega)];rfl
 .intro a br ih o m bI im hm;obtain⟨m,rfl⟩:∃j,m=j+1:=⟨m-1,by omega⟩
  have ni:=hg _ (List.getElem_mem br);have gq:=wU ni;simp only[xO,Pd,FN];rw[hl,bind_some,ey br,cond_true,dV l a br,bind_some,avH gq,gq.name,bind_some,(DG (by omega) H.tv).1,eo a _ br (by omega)];obtain⟨⟨z,qq,z2,_⟩,_⟩:=HH s.dj (e4 l[a].Label) H.sm.2.1;rw[qq];simp only[bind_some,Int.toNat_natCast];rw[z2,dV q i aj,ab9 s H.sm.2.2 gq];simp only[bind_some];rw[(DG (by simp;omega) (u_ H.tv ni.next i)).1,bind_some];have lX:zm o ⟨qa s.dk (e4 l[a].Label) (gx l[a].Label),(i:Int),-1,q.set i l[a].Next⟩=some (hS o ⟨qa s.dk (e4 l[a].Label) (gx l[a].Label),(i:Int),-1,q.set i l[a].Next⟩):=ab6 o _ (by omega) (by omega) im;have ec:lG s q i (l.drop a)=cr s.dj s.dk q i l[a]++lG s q i (l.drop (a+1)):=by unfold lG;rw[drop_cons l a br,List.flatMap_cons]
  rw[lX,ec,List.foldl_append];have nj:cr s.dj s.dk q i l[a]=if wW s.dj (e4 l[a].Label)=true then [⟨qa s.dk (e4 l[a].Label) (gx l[a].Label),(i:Int),-1,q.set i l[a].Next⟩]else []:=rfl;have DI:iM q.length ⟨qa s.dk (e4 l[a].Label) (gx l[a].Label),(i:Int),-1,q.set i l[a].Next⟩:=⟨Tq gq.mG,⟨i,by omega,rfl⟩,.inl rfl,by simp,u_ H.tv ni.next i⟩
  have hle:=Tc o ⟨qa s.dk (e4 l[a].Label) (gx l[a].Label),(i:Int),-1,q.set i l[a].Next⟩;rw[nj];unfold wW;cases e4 l[a].Label==[116,97,117]
  .by_cases ja:e4 l[a].Label∈s.dj
   .simp only[decide_eq_true ja,Bool.not_false,Bool.not_true,Bool.false_or,if_true,cond_true,cond_false,bind_some,List.foldl_cons,List.foldl_nil];exact ih _ m (by omega) (λx ao=>(LH ao).elim (im x) λe=>by rw[e];exact DI) (by omega)
   .simp only[decide_eq_false ja,Bool.not_false,Bool.false_or,cond_true,List.foldl_nil,Bool.false_eq_true,if_false];exact ih _ m (by omega) im (by omega)
  .simp only[Bool.not_true,cond_false,Bool.true_or,if_true,bind_some,List.foldl_cons,List.foldl_nil];exact ih _ m (by omega) (λx ao=>(LH ao).elim (im x) λe=>by rw[e];exact DI) (by omega)
theorem avJ (iu:ayA->ayn->Int->Option (ayA×Bool)) (kN:ayA->ayn->Int->Int->Option (ayA×Bool)) (pT:ayA->ayn->Int->Int->Int->Option (ayA×Bool))
  {i k:Nat} (aj:i<q.length) (au:k<q.length) {l r:ayB} (hl:bh ak (i:Int)=some l) (aQ:bh ak (k:Int)=some r) (uZ:l.length<=200) (xo:r.length<=200) (wX:∀x∈l,fG x) (yr:∀x∈r,fG x) {a:Nat} (br:a<l.length):
  ∀b,b<=r.length->∀(o:ayA) m,o.length<=1000->(∀x∈o,iM q.length x)->r.length-b<m->
   uk iu kN pT s q m o ak (i:Int) (k:Int) (a:Int) (b:Int)=
    pT (((r.drop b).flatMap (c2 s.cz s.dj s.dk q i k l[a])).foldl iS o) ak (i:Int) (k:Int) ((a+1:Nat):Int):=by
 have aG:=H.o2;have DC:∀b (o:ayA) m,b<=r.length->200<o.length->uk iu kN pT s q (m+1) o ak (i:Int) (k:Int) (a:Int) (b:Int)=
    pT (((r.drop b).flatMap (c2 s.cz s.dj s.dk q i k l[a])).foldl iS o) ak (i:Int) (k:Int) ((a+1:Nat):Int):=by
  intro b o m aa bI;simp only[uk,JG];rw[aQ,bind_some,show decide ((o.length:Int)<=200)=false from decide_eq_false (by omega),Bool.and_false,cond_false,Te _ _ bI,eo a _ br (by omega)]
 refine down r.length ?_ ?_
 .intro o m bI im hm;obtain⟨m,rfl⟩:∃j,m=j+1:=⟨m-1,by omega⟩
  simp only[uk,JG];rw[aQ,bind_some,eb (Nat.le_refl _),List.drop_of_length_le (Nat.le_refl _),Bool.false_and,cond_false,eo a _ br (by omega)];rfl
 .intro b aa ih o m bI im hm;obtain⟨m,rfl⟩:∃j,m=j+1:=⟨m-1,by omega⟩
  by_cases acg:200<o.length
  .exact DC b o m (by omega) acg
  have ni:=wX _ (List.getElem_mem br);have tF:=yr _ (List.getElem_mem aa);have AE:=wU ni;have avK:=wU tF;simp only[uk,JG,JE];rw[aQ,bind_some,ey aa,show decide ((o.length:Int)<=200)=true from decide_eq_true (by omega),Bool.and_self,cond_true,hl,bind_some,dV l a br,bind_some,dV r b aa,bind_some,
   avG (s:=s) H.AD H.sm.1 H.sm.2.1 AE avK,bind_some,(DG (by omega) H.tv).1,bind_some,eo b _ aa (by omega),dV q i aj,bind_some,drop_cons r b aa,List.flatMap_cons,List.foldl_append]
  have DI:=Ts H.AD H.tv (i:=i) (k:=k) (by omega) (by omega) ni tF;simp only[Int.toNat_natCast];unfold c2 at DI⊢;by_cases ar:gx l[a].Label=gx r[b].Label/\nX s.cz (e4 l[a].Label) (e4 r[b].Label)≠[]/\nX s.cz (e4 l[a].Label) (e4 r[b].Label)∈s.dj
  .rw[if_pos ar]at DI⊢;rw[if_pos ar];have AB:=LM ((HI H.AD (e4 l[a].Label) (e4 r[b].Label)).2 ar.2.1) AE.mG.len AE.mG.kg;have d_:(iL (nX s.cz (e4 l[a].Label) (e4 r[b].Label)) (gx l[a].Label)==([]:ayc))=false:=by
    rw[beq_eq_false_iff_ne];intro e;have aY:=(LL AB).1;rw[e]at aY;have aU:e4 ([]:ayc)=[]:=by
     have:sI []=some []:=by unfold sI;rw[(HB [] (by simp)).1 (by simp)];rfl
     unfold e4;rw[this];rfl
    exact ar.2.1 (aY.symm.trans aU)
   obtain⟨aP,aY⟩:=LL AB;rw[d_,cond_false,dV _ k (by simpa using au),bind_some,ab9 s H.sm.2.2 (ab7 AB),bind_some,aP,aY,
    (DG (by simp;omega) (u_ (u_ H.tv ni.next i) tF.next k)).1,bind_some,ab6 (n:=q.length) o _ (by omega) (by omega) im,bind_some,List.foldl_cons,List.foldl_nil]
   have ach:∀x:a1,iS o x=hS o x:=λx=>by unfold iS;rw[if_neg acg]
   rw[ach];have tW:=ace bI im (DI _ (List.mem_singleton.2 rfl));rw[ach]at tW;exact ih _ m tW.1 tW.2 (by omega)
  .rw[if_neg ar,if_neg ar,beq_self_eq_true,cond_true];exact ih _ m bI im (by omega)
theorem avL (iu:ayA->ayn->Int->Option (ayA×Bool)) (kN:ayA->ayn->Int->Int->Option (ayA×Bool))
  {i k:Nat} (aj:i<q.length) (au:k<q.length) {l r:ayB} (hl:bh ak (i:Int)=some l) (aQ:bh ak (k:Int)=some r) (uZ:l.length<=200) (xo:r.length<=200) (wX:∀x∈l,fG x) (yr:∀x∈r,fG x):
  ∀a,a<=l.length->∀(o:ayA) m,o.length<=1000->(∀x∈o,iM q.length x)->l.length-a<m->
   rn iu kN s q m o ak (i:Int) (k:Int) (a:Int)=kN ((mH s q i k (l.drop a) r).foldl iS o) ak (i:Int) ((k+1:Nat):Int):=by
 have aG:=H.o2;refine down l.length ?_ ?_
 .intro o m bI im hm;obtain⟨m,rfl⟩:∃j,m=j+1:=⟨m-1,by omega⟩
  simp only[rn,Pf];rw[hl,bind_some,eb (Nat.le_refl _),List.drop_of_length_le (Nat.le_refl _),cond_false,eo k _ au (by omega)];rfl
 .intro a br ih o m bI im hm;obtain⟨m,rfl⟩:∃j,m=j+1:=⟨m-1,by omega⟩
  simp only[rn,Pf];rw[hl,bind_some,ey br,cond_true];have iJ:bZ (λn=>uk iu kN (rn iu kN s q m) s q n o ak (i:Int) (k:Int) (a:Int) 0)=
    rn iu kN s q m ((r.flatMap (c2 s.cz s.dj s.dk q i k l[a])).foldl iS o) ak (i:Int) (k:Int) ((a+1:Nat):Int):=
   fb (r.length+1) λm2 qS=>avJ H iu kN _ aj au hl aQ uZ xo wX yr br 0 (by omega) o m2 bI im (by omega)
  have avM:∀x∈r.flatMap (c2 s.cz s.dj s.dk q i k l[a]),iM q.length x:=λx ao=>by
   obtain⟨y,hy,ao⟩:=List.mem_flatMap.1 ao;exact Ts H.AD H.tv (by omega) (by omega) (wX _ (List.getElem_mem br)) (yr y hy) x ao
  obtain⟨bS,ct⟩:=LN _ o bI im avM;have ec:mH s q i k (l.drop a) r=r.flatMap (c2 s.cz s.dj s.dk q i k l[a])++mH s q i k (l.drop (a+1)) r:=by unfold mH;rw[drop_cons l a br,List.flatMap_cons]
  rw[iJ,ih _ m bS ct (by omega),ec,List.foldl_append]
theorem avN (iu:ayA->ayn->Int->Option (ayA×Bool)) {i:Nat} (aj:i<q.length):
  ∀k,k<=q.length->∀(o:ayA) m,o.length<=1000->(∀x∈o,iM q.length x)->q.length-k<m->
   oP iu s q m o ak (i:Int) (k:Int)=iu ((lV s q ak i k).foldl iS o) ak ((i+1:Nat):Int):=by
 have aG:=H.o2;obtain⟨mO,iy,li,tw⟩:=H.at aj;refine down q.length ?_ ?_
 .intro o m bI im hm;obtain⟨m,rfl⟩:∃j,m=j+1:=⟨m-1,by omega⟩
  simp only[oP,Pg];rw[eb (Nat.le_refl _),cond_false,eo i _ aj (by omega)];unfold lV;rw[Nat.sub_self];rfl
 .intro k au ih o m bI im hm;obtain⟨m,rfl⟩:∃j,m=j+1:=⟨m-1,by omega⟩
  obtain⟨o8,ti,DJ,LP⟩:=H.at au;simp only[oP,Pg];rw[ey au,cond_true];have iJ:bZ (λn=>rn iu (oP iu s q m) s q n o ak (i:Int) (k:Int) 0)=
    oP iu s q m ((mH s q i k ak[i] ak[k]).foldl iS o) ak (i:Int) ((k+1:Nat):Int):=
   fb (ak[i].length+1) λm2 qS=>avL H iu _ aj au (dV ak i mO) (dV ak k o8) li DJ tw LP 0 (by omega) o m2 bI im (by omega)
  obtain⟨bS,ct⟩:=LN _ o bI im (H.g2 aj au tw LP);have ec:lV s q ak i k=mH s q i k ak[i] ak[k]++lV s q ak i (k+1):=by
   unfold lV;rw[show q.length-k=(q.length-(k+1))+1 by omega,List.range'_succ,List.flatMap_cons,iy,ti]
  rw[iJ,ih _ m bS ct (by omega),ec,List.foldl_append]
theorem avO:∀i,i<=q.length->∀(o:ayA) m,o.length<=1000->(∀x∈o,iM q.length x)->q.length-i<m->
   lP s q m o ak (i:Int)=some ((two s q ak i).foldl iS o,decide ((((two s q ak i).foldl iS o).length:Int)<=200)):=by
 have aG:=H.o2;refine down q.length ?_ ?_
 .intro o m bI im hm;obtain⟨m,rfl⟩:∃j,m=j+1:=⟨m-1,by omega⟩
  simp only[lP,Ph];rw[eb (Nat.le_refl _),cond_false];unfold two;rw[Nat.sub_self];rfl
 .intro i aj ih o m bI im hm;obtain⟨m,rfl⟩:∃j,m=j+1:=⟨m-1,by omega⟩
  simp only[lP,Ph];rw[ey aj,cond_true,eo i _ aj (by omega)];have iJ:bZ (λn=>oP (lP s q m) s q n o ak (i:Int) ((i+1:Nat):Int))=
    lP s q m ((lV s q ak i (i+1)).foldl iS o) ak ((i+1:Nat):Int):=
   fb (q.length+1) λm2 qS=>avN H _ aj (i+1) (by omega) o m2 bI im (by omega)
  obtain⟨bS,ct⟩:=LN _ o bI im (H.g3 (k:=i+1) aj);have ec:two s q ak i=lV s q ak i (i+1)++two s q ak (i+1):=by
   unfold two;rw[show q.length-i=(q.length-(i+1))+1 by omega,List.range'_succ,List.flatMap_cons]
  rw[iJ,ih _ m bS ct (by omega),ec,List.foldl_append]
omit H in
theorem LQ (i:Nat):∀l:ayB,(lG s q i l).length<=l.length
 |[]=>Nat.le_refl _
 |x::r=>by
  have ad:=ab_ s.dj s.dk q i x;have af:=LQ i r;unfold lG at af⊢;rw[List.flatMap_cons,List.length_append,List.length_cons];omega
theorem avP:∀i,i<=q.length->∀(o:ayA) m,o.length+200*(q.length-i)<=1000->(∀x∈o,iM q.length x)->q.length-i<m->
   sO s q m o ak (i:Int)=
    some ((two s q ak 0).foldl iS ((one s q ak i).foldl hS o),decide ((((two s q ak 0).foldl iS ((one s q ak i).foldl hS o)).length:Int)<=200)):=by
 have aG:=H.o2;refine down q.length ?_ ?_
 .intro o m bI im hm;obtain⟨m,rfl⟩:∃j,m=j+1:=⟨m-1,by omega⟩
  simp only[sO,Pj];rw[eb (Nat.le_refl _),cond_false];have e:one s q ak q.length=[]:=by unfold one;rw[Nat.sub_self];rfl
  rw[e];exact fb (q.length+1) λm2 qS=>avO H 0 (by omega) o m2 (by omega) im (by omega)
 .intro i aj ih o m bI im hm;obtain⟨m,rfl⟩:∃j,m=j+1:=⟨m-1,by omega⟩
  obtain⟨mO,iy,li,tw⟩:=H.at aj;simp only[sO,Pj];rw[ey aj,cond_true];have iJ:bZ (λn=>xO (sO s q m) s q n o ak (i:Int) 0)=
    sO s q m ((lG s q i ak[i]).foldl hS o) ak ((i+1:Nat):Int):=
   fb (ak[i].length+1) λm2 qS=>avI H _ aj (dV ak i mO) li tw 0 (by omega) o m2 (by omega) im (by omega)
  have bS:=(Td (lG s q i ak[i]) o).2;have dT:=LQ (s:=s) (q:=q) i ak[i];have ec:one s q ak i=lG s q i ak[i]++one s q ak (i+1):=by
   unfold one;rw[show q.length-i=(q.length-(i+1))+1 by omega,List.range'_succ,List.flatMap_cons,iy]
  rw[iJ,ih _ m (by omega) (LO _ o im (H.g1 aj tw)) (by omega),ec,List.foldl_append]
end
theorem avQ (a b:aye) (h:a.length<=1048576):Gg a b=some (a==b):=by
 unfold Gg;by_cases hl:a.length=b.length
 .have e:((a.length:Int) !=(b.length:Int))=false:=by simp[hl]
  rw[e,cond_false];have:=p7 (n:=a.length) (l:=CD a b) (λi=>some (a.drop i==b.drop i)) (λm=>?_) (λi aj m ih=>?_)
  .simpa using this
  .simp only[CD,Qj];rw[eb (Nat.le_refl _),List.drop_of_length_le (Nat.le_refl _),List.drop_of_length_le (by omega)];rfl
  .simp only[CD,Qj];rw[ey aj,dV _ i aj,dV _ i (by omega),eo i _ aj (by omega),drop_cons a i aj,drop_cons b i (by omega),List.cons_beq_cons];simp only[cond_true,bind_some,ih,bne];cases a[i]==b[i]
   .rfl
   .simp
 .have e:((a.length:Int) !=(b.length:Int))=true:=by simp;omega
  have aY:(a==b)=false:=by
   rw[beq_eq_false_iff_ne];intro h;exact hl (by rw[h])
  rw[e,cond_true,aY]
abbrev Seen:=aya
noncomputable abbrev ig:ayA×Seen->a1->ayA×Seen:=nW o1
theorem AF (l:ayA) (p:ayA×Seen):(l.foldl ig p).1.length<=p.1.length+l.length:=abU o1 l p
section
variable {s:cE} {q:ayz} {ak:ayn} (H:tu s q ak)
include H
theorem avR {i k:Nat} (aj:i<q.length) (au:k<q.length) {x y:bk} (ni:fG x) (tF:fG y) (p:ayA×Seen) (ax:p.1.length<=1000000000) {β:Type}
  (K:ayw->ayx->ayy->ayb->ayb->ayz->ayA->Seen->Option β):
  ((zF (cE.mk s.c8 s.cL s.cz s.dj s.dk) (e4 x.Label) (e4 y.Label)).bind λaT=>cond aT.2 ((Gg (gx x.Label) (gx y.Label)).bind λbp=>cond bp
    ((CB s.c8 s.cL s.cz s.dj s.dk q p.1 p.2 aT.1 (gx x.Label) (i:Int) (k:Int) [x.Next,y.Next]).bind λbs=>K bs.1 bs.2.1 bs.2.2.1 bs.2.2.2.1 bs.2.2.2.2.1 bs.2.2.2.2.2.1 bs.2.2.2.2.2.2.1 bs.2.2.2.2.2.2.2)
    (K s.c8 s.cL s.cz s.dj s.dk q p.1 p.2)) (K s.c8 s.cL s.cz s.dj s.dk q p.1 p.2))=
  K s.c8 s.cL s.cz s.dj s.dk q ((c2 s.cz s.dj s.dk q i k x y).foldl ig p).1 ((c2 s.cz s.dj s.dk q i k x y).foldl ig p).2:=by
 have aG:=H.o2;have AE:=wU ni;rw[show zF (cE.mk s.c8 s.cL s.cz s.dj s.dk) (e4 x.Label) (e4 y.Label)=_ from avF H.AD H.sm.1 _ _,bind_some];have rX:=(HI H.AD (e4 x.Label) (e4 y.Label)).2;unfold c2;simp only;generalize nX s.cz (e4 x.Label) (e4 y.Label)=j4 at rX⊢;by_cases af:j4=[]
 .rw[decide_eq_true af,if_neg (λc=>c.2.1 af)];rfl
 .rw[decide_eq_false af,Bool.not_false,cond_true,avQ _ _ (by have:=AE.mG.len;omega),bind_some];by_cases ad:gx x.Label=gx y.Label
  .rw[show(gx x.Label==gx y.Label)=true from by rw[ad];simp,cond_true];have AB:=LM (rX af) AE.mG.len AE.mG.kg;have Tt:=(acb (D:=s.c8) (C:=s.cL) (M:=s.cz) (A:=s.dj) (H:=s.dk) (o:=p.1) (sn:=p.2) (Tp (H:=s.dk) AB) (by omega) H.tv ax aj ni.next).2 k y.Next au tF.next;have hm:=acd (n:=j4) (a:=gx x.Label) H.sm.2.1 H.sm.2.2 (k:Int) [x.Next,y.Next] i (nW o1 p ⟨qa s.dk j4 (gx x.Label),i,k,(q.set i x.Next).set k y.Next⟩) Tt;rw[hm,bind_some];have nG:(j4==([116,97,117]:ayc))=false:=by
    have:=rX af;unfold j0 at this;rw[Bool.and_eq_true]at this;simpa using this.2
   have bI:wW s.dj j4=decide (j4∈s.dj):=by unfold wW;rw[nG,Bool.false_or]
   rw[bI];by_cases bf:j4∈s.dj
   .rw[if_pos (decide_eq_true bf),if_pos ⟨ad,af,bf⟩];rfl
   .rw[if_neg (by simpa using bf),if_neg (λc=>bf c.2.2)];rfl
  .rw[show(gx x.Label==gx y.Label)=false from by simpa using ad,cond_false,if_neg (λc=>ad c.1)];rfl
theorem avS (dT:ayw->ayx->ayy->ayb->ayb->ayz->ayA->Seen->Int->Option (ayw×ayx×ayy×ayb×ayb×ayz×ayA×Seen))
  {i k:Nat} (aj:i<q.length) (au:k<q.length) {l r:ayB} (uZ:l.length<=200) (xo:r.length<=200) (wX:∀x∈l,fG x) (yr:∀x∈r,fG x) {a:Nat} (br:a<l.length):
  ∀b,b<=r.length->∀(p:ayA×Seen) m,p.1.length+(r.length-b)<=1000000000->r.length-b<m->
   vV dT (i:Int) (k:Int) l r l[a] (e4 l[a].Label,gx l[a].Label,true) m s.c8 s.cL s.cz s.dj s.dk q p.1 p.2 (a:Int) (b:Int)=
    dT s.c8 s.cL s.cz s.dj s.dk q (((r.drop b).flatMap (c2 s.cz s.dj s.dk q i k l[a])).foldl ig p).1 (((r.drop b).flatMap (c2 s.cz s.dj s.dk q i k l[a])).foldl ig p).2 ((a+1:Nat):Int):=by
 refine down r.length ?_ ?_
 .intro p m ax hm;obtain⟨m,rfl⟩:∃j,m=j+1:=⟨m-1,by omega⟩
  simp only[vV,Qk];rw[eb (Nat.le_refl _),List.drop_of_length_le (Nat.le_refl _),cond_false,eo a _ br (by omega)];rfl
 .intro b aa ih p m ax hm;obtain⟨m,rfl⟩:∃j,m=j+1:=⟨m-1,by omega⟩
  have ni:=wX _ (List.getElem_mem br);have tF:=yr _ (List.getElem_mem aa);simp only[vV,Qk,Gh];rw[ey aa,cond_true,dV r b aa,bind_some,(wU tF).read,bind_some,eo b _ aa (by omega),drop_cons r b aa,List.flatMap_cons,List.foldl_append];have key:=avR H aj au ni tF p (by omega) (λD C M A avT q o sn=>vV dT (i:Int) (k:Int) l r l[a] (e4 l[a].Label,gx l[a].Label,true) m D C M A avT q o sn (a:Int) ((b+1:Nat):Int));have H2:=AF (c2 s.cz s.dj s.dk q i k l[a] r[b]) p;have ax_:=Tr s.cz s.dj s.dk q i k l[a] r[b];rw[<-ih ((c2 s.cz s.dj s.dk q i k l[a] r[b]).foldl ig p) m (by omega) (by omega)];exact key
theorem avU {i k:Nat} (aj:i<q.length) (au:k<q.length) {l r:ayB} (uZ:l.length<=200) (xo:r.length<=200) (wX:∀x∈l,fG x) (yr:∀x∈r,fG x):
  ∀a,a<=l.length->∀(p:ayA×Seen) m,p.1.length+200*(l.length-a)<=100000000->l.length-a<m->
   sW (i:Int) (k:Int) l r m s.c8 s.cL s.cz s.dj s.dk q p.1 p.2 (a:Int)=
    some (s.c8,s.cL,s.cz,s.dj,s.dk,q,((mH s q i k (l.drop a) r).foldl ig p).1,((mH s q i k (l.drop a) r).foldl ig p).2):=by
 refine down l.length ?_ ?_
 .intro p m ax hm;obtain⟨m,rfl⟩:∃j,m=j+1:=⟨m-1,by omega⟩
  simp only[sW,Ql];rw[eb (Nat.le_refl _),List.drop_of_length_le (Nat.le_refl _),cond_false];rfl
 .intro a br ih p m ax hm;obtain⟨m,rfl⟩:∃j,m=j+1:=⟨m-1,by omega⟩
  have ni:=wX _ (List.getElem_mem br);simp only[sW,Ql];rw[ey br,cond_true,dV l a br,bind_some,(wU ni).read,bind_some];have iJ:bZ (λn=>vV (sW (i:Int) (k:Int) l r m) (i:Int) (k:Int) l r l[a] (e4 l[a].Label,gx l[a].Label,true) n s.c8 s.cL s.cz s.dj s.dk q p.1 p.2 (a:Int) 0)=
    sW (i:Int) (k:Int) l r m s.c8 s.cL s.cz s.dj s.dk q ((r.flatMap (c2 s.cz s.dj s.dk q i k l[a])).foldl ig p).1 ((r.flatMap (c2 s.cz s.dj s.dk q i k l[a])).foldl ig p).2 ((a+1:Nat):Int):=
   fb (r.length+1) λm2 qS=>avS H _ aj au uZ xo wX yr br 0 (by omega) p m2 (by omega) (by omega)
  have kl:∀r:ayB,(r.flatMap (c2 s.cz s.dj s.dk q i k l[a])).length<=r.length:=by
   intro r;induction r with
   |nil=>simp
   |cons y r AL=>
    have:=Tr s.cz s.dj s.dk q i k l[a] y;rw[List.flatMap_cons,List.length_append,List.length_cons];omega
  have bU:=kl r;have dc:=AF (r.flatMap (c2 s.cz s.dj s.dk q i k l[a])) p;have ec:mH s q i k (l.drop a) r=r.flatMap (c2 s.cz s.dj s.dk q i k l[a])++mH s q i k (l.drop (a+1)) r:=by unfold mH;rw[drop_cons l a br,List.flatMap_cons]
  rw[iJ,ih _ m (by omega) (by omega),ec,List.foldl_append]
omit H in
theorem Tu (i k:Nat) (r:ayB):∀l:ayB,(mH s q i k l r).length<=r.length*l.length
 |[]=>by simp[mH]
 |x::l=>by
  have ad:∀r:ayB,(r.flatMap (c2 s.cz s.dj s.dk q i k x)).length<=r.length:=by
   intro r;induction r with
   |nil=>simp
   |cons y r AL=>
    have:=Tr s.cz s.dj s.dk q i k x y;rw[List.flatMap_cons,List.length_append,List.length_cons];omega
  have af:=Tu i k r l;have aG:=ad r;unfold mH at af⊢;rw[List.flatMap_cons,List.length_append,List.length_cons,mul_succ];omega
theorem aci (ko:cE->ayz->ayA->Seen->ayn->Int->Option (ayA×Bool)) (acj:ayn) {i:Nat} (aj:i<q.length) {l:ayB} (uZ:l.length<=200) (hg:∀x∈l,fG x):
  ∀a,a<=l.length->∀(p:ayA×Seen) m,p.1.length+(l.length-a)<=1000000000->l.length-a<m->
   xU ko s q (l,true) m s q p.1 p.2 acj (i:Int) (i:Int) (a:Int)=ko s q ((lG s q i (l.drop a)).foldl ig p).1 ((lG s q i (l.drop a)).foldl ig p).2 acj ((i+1:Nat):Int):=by
 have aG:=H.o2;refine down l.length ?_ ?_
 .intro p m ax hm;obtain⟨m,rfl⟩:∃j,m=j+1:=⟨m-1,by omega⟩
  simp only[xU,Qn];rw[eb (Nat.le_refl _),List.drop_of_length_le (Nat.le_refl _),cond_false,eo i _ aj (by omega)];rfl
 .intro a br ih p m ax hm;obtain⟨m,rfl⟩:∃j,m=j+1:=⟨m-1,by omega⟩
  have ni:=hg _ (List.getElem_mem br);have gq:=wU ni;simp only[xU,Qn];rw[ey br,cond_true,dV l a br,bind_some,gq.read,bind_some,eo a _ br (by omega)];have Tt:=(acb (D:=s.c8) (C:=s.cL) (M:=s.cz) (A:=s.dj) (H:=s.dk) (o:=p.1) (sn:=p.2) (Tp (H:=s.dk) gq.mG) (by omega) H.tv (by omega) aj ni.next).1;have qS:=acd (n:=e4 l[a].Label) (a:=gx l[a].Label) H.sm.2.1 H.sm.2.2 (-1) [l[a].Next] i (nW o1 p ⟨qa s.dk (e4 l[a].Label) (gx l[a].Label),i,-1,q.set i l[a].Next⟩) Tt;rw[qS,bind_some];have ec:lG s q i (l.drop a)=cr s.dj s.dk q i l[a]++lG s q i (l.drop (a+1)):=by unfold lG;rw[drop_cons l a br,List.flatMap_cons]
  have aP:(cr s.dj s.dk q i l[a]).foldl ig p=if wW s.dj (e4 l[a].Label)=true then nW o1 p ⟨qa s.dk (e4 l[a].Label) (gx l[a].Label),i,-1,q.set i l[a].Next⟩else p:=by
   unfold cr;split<;>rfl
  have bU:=AF (cr s.dj s.dk q i l[a]) p;have dc:=ab_ s.dj s.dk q i l[a];rw[ec,List.foldl_append,<-ih ((cr s.dj s.dk q i l[a]).foldl ig p) m (by omega) (by omega),aP]
theorem avV (qu:cE->ayz->ayA->Seen->ayn->Int->Option (ayA×Bool)) {i:Nat} (aj:i<q.length):
  ∀k,k<=q.length->∀(p:ayA×Seen) m,p.1.length+40000*(q.length-k)<=50000000->q.length-k<m->
   zG qu q m s q p.1 p.2 ak (i:Int) (k:Int) (i:Int)=qu s q ((lV s q ak i k).foldl ig p).1 ((lV s q ak i k).foldl ig p).2 ak ((i+1:Nat):Int):=by
 have aG:=H.o2;obtain⟨mO,iy,li,tw⟩:=H.at aj;refine down q.length ?_ ?_
 .intro p m ax hm;obtain⟨m,rfl⟩:∃j,m=j+1:=⟨m-1,by omega⟩
  simp only[zG,Qo];rw[eb (Nat.le_refl _),cond_false,eo i _ aj (by omega)];unfold lV;rw[Nat.sub_self];rfl
 .intro k au ih p m ax hm;obtain⟨m,rfl⟩:∃j,m=j+1:=⟨m-1,by omega⟩
  obtain⟨o8,ti,DJ,LP⟩:=H.at au;simp only[zG,Qo];rw[ey au,cond_true,dV ak i mO,dV ak k o8];simp only[bind_some];have ba:Qm s.c8 s.cL s.cz s.dj s.dk q p.1 p.2 (i:Int) (k:Int) ak[i] ak[k]=
    some (s.c8,s.cL,s.cz,s.dj,s.dk,q,((mH s q i k ak[i] ak[k]).foldl ig p).1,((mH s q i k ak[i] ak[k]).foldl ig p).2):=
   fb (ak[i].length+1) λm2 qS=>avU H aj au li DJ tw LP 0 (by omega) p m2 (by omega) (by omega)
  have bU:=Tu (s:=s) (q:=q) i k ak[k] ak[i];have dc:=AF (mH s q i k ak[i] ak[k]) p;have c1:ak[k].length*ak[i].length<=200*200:=Nat.mul_le_mul DJ li;have ec:lV s q ak i k=mH s q i k ak[i] ak[k]++lV s q ak i (k+1):=by
   unfold lV;rw[show q.length-k=(q.length-(k+1))+1 by omega,List.range'_succ,List.flatMap_cons,iy,ti]
  rw[ba,bind_some,eo k _ au (by omega),ec,List.foldl_append,<-ih _ m (by omega) (by omega)]
theorem avW {i:Nat} (aj:i<q.length):∀d k,k+d=q.length->(lV s q ak i k).length<=40000*d:=by
 intro d;induction d with
 |zero=>intro k au;unfold lV;rw[show q.length-k=0 by omega];simp
 |succ d ih=>
  intro k au;obtain⟨_,iy,li,_⟩:=H.at aj;obtain⟨_,ti,DJ,_⟩:=H.at (i:=k) (by omega);have h:=ih (k+1) (by omega);have bU:=Tu (s:=s) (q:=q) i k (ak.getD k []) (ak.getD i []);have c1:(ak.getD k []).length*(ak.getD i []).length<=200*200:=Nat.mul_le_mul (by rw[ti];exact DJ) (by rw[iy];exact li);unfold lV at h⊢;rw[show q.length-k=(q.length-(k+1))+1 by omega,List.range'_succ,List.flatMap_cons,List.length_append];omega
theorem avX:∀i,i<=q.length->∀(p:ayA×Seen) m,p.1.length+120000*(q.length-i)<=10000000->q.length-i<m->
   vW q m s q p.1 p.2 ak (i:Int)=some (((two s q ak i).foldl ig p).1,decide (((((two s q ak i).foldl ig p).1).length:Int)<=200)):=by
 have aG:=H.o2;refine down q.length ?_ ?_
 .intro p m ax hm;obtain⟨m,rfl⟩:∃j,m=j+1:=⟨m-1,by omega⟩
  simp only[vW,Qp];rw[eb (Nat.le_refl _),cond_false];unfold two;rw[Nat.sub_self];rfl
 .intro i aj ih p m ax hm;obtain⟨m,rfl⟩:∃j,m=j+1:=⟨m-1,by omega⟩
  simp only[vW,Qp];rw[ey aj,cond_true,eo i _ aj (by omega)];have iJ:bZ (λn=>zG (vW q m) q n s q p.1 p.2 ak (i:Int) ((i+1:Nat):Int) (i:Int))=
    vW q m s q ((lV s q ak i (i+1)).foldl ig p).1 ((lV s q ak i (i+1)).foldl ig p).2 ak ((i+1:Nat):Int):=
   fb (q.length+1) λm2 qS=>avV H _ aj (i+1) (by omega) p m2 (by omega) (by omega)
  have bU:=avW H aj (q.length-(i+1)) (i+1) (by omega);have dc:=AF (lV s q ak i (i+1)) p;have ec:two s q ak i=lV s q ak i (i+1)++two s q ak (i+1):=by
   unfold two;rw[show q.length-i=(q.length-(i+1))+1 by omega,List.range'_succ,List.flatMap_cons]
  rw[iJ,ih _ m (by omega) (by omega),ec,List.foldl_append]
theorem avY (ab:∀i (h:i<q.length),uC s.c8 q[i]=some (ak.getD i [],true)):∀i,i<=q.length->∀(p:ayA×Seen) m,p.1.length+200*(q.length-i)<=1000->q.length-i<m->
   p1 s q m s q p.1 p.2 (ak.take i) (i:Int)=
    some (((two s q ak 0).foldl ig ((one s q ak i).foldl ig p)).1,decide (((((two s q ak 0).foldl ig ((one s q ak i).foldl ig p)).1).length:Int)<=200)):=by
 have aG:=H.o2;refine down q.length ?_ ?_
 .intro p m ax hm;obtain⟨m,rfl⟩:∃j,m=j+1:=⟨m-1,by omega⟩
  simp only[p1,Gj];rw[eb (Nat.le_refl _),cond_false];have e:one s q ak q.length=[]:=by unfold one;rw[Nat.sub_self];rfl
  have aY:ak.take q.length=ak:=by rw[<-H.l3];exact List.take_length
  rw[e,aY];exact fb (q.length+1) λm2 qS=>avX H 0 (by omega) p m2 (by omega) (by omega)
 .intro i aj ih p m ax hm;obtain⟨m,rfl⟩:∃j,m=j+1:=⟨m-1,by omega⟩
  obtain⟨mO,iy,li,tw⟩:=H.at aj;simp only[p1,Gj];rw[ey aj,cond_true,dV q i aj,bind_some,ab i aj,bind_some,iy];simp only[Bool.not_true,cond_false];rw[lR (by simp;omega) (by simp;omega),bind_some,<-List.take_succ_eq_append_getElem mO];have iJ:bZ (λn=>xU (p1 s q m) s q (ak[i],true) n s q p.1 p.2 (ak.take (i+1)) (i:Int) (i:Int) 0)=
    p1 s q m s q ((lG s q i ak[i]).foldl ig p).1 ((lG s q i ak[i]).foldl ig p).2 (ak.take (i+1)) ((i+1:Nat):Int):=
   fb (ak[i].length+1) λm2 qS=>aci H _ _ aj li tw 0 (by omega) p m2 (by omega) (by omega)
  have bS:=AF (lG s q i ak[i]) p;have dT:=LQ (s:=s) (q:=q) i ak[i];have ec:one s q ak i=lG s q i ak[i]++one s q ak (i+1):=by
   unfold one;rw[show q.length-i=(q.length-(i+1))+1 by omega,List.range'_succ,List.flatMap_cons,iy]
  rw[iJ,ih _ m (by omega) (by omega),ec,List.foldl_append]
theorem avZ (ab:∀i (h:i<q.length),uh s.c8 q[i]=some (ak.getD i [],true)):∀i,i<=q.length->∀m,q.length-i<m->
   vO s q m (ak.take i) (i:Int)=
    some ((two s q ak 0).foldl iS ((one s q ak 0).foldl hS []),decide ((((two s q ak 0).foldl iS ((one s q ak 0).foldl hS [])).length:Int)<=200)):=by
 have aG:=H.o2;refine down q.length ?_ ?_
 .intro m hm;obtain⟨m,rfl⟩:∃j,m=j+1:=⟨m-1,by omega⟩
  simp only[vO,FO];have aY:ak.take q.length=ak:=by rw[<-H.l3];exact List.take_length
  rw[eb (Nat.le_refl _),cond_false,aY];exact fb (q.length+1) λm2 qS=>avP H 0 (by omega) [] m2 (by simp;omega) (λx ao=>by cases ao) (by omega)
 .intro i aj ih m hm;obtain⟨m,rfl⟩:∃j,m=j+1:=⟨m-1,by omega⟩
  obtain⟨mO,iy,_,_⟩:=H.at aj;simp only[vO,FO];rw[ey aj,cond_true,dV q i aj,bind_some,ab i aj,bind_some,iy];simp only[Bool.not_true,cond_false];rw[lR (by simp;omega) (by simp;omega),bind_some,<-List.take_succ_eq_append_getElem mO,eo i _ aj (by omega)];exact ih m (by omega)
end
end Go.kX
