/- Part of a proof that a law returns true for every input. No condition. -/
import Derived.Test.YtmaepbgkcmjcjaiGreatDoorUV5x
namespace Go.l_
open Option Go.IntKind Nat
open Go Go.eg
noncomputable def eW (L:azc):azc:=(sR L).getD []
noncomputable def gy (L:azc):aze:=((sQ L).getD ([],false)).1
structure xe (n:azc) (a:aze):Prop where
 kc:ha n=true
 len:a.length<=2
 DY:(n==([116,97,117]:azc))=true->a.length=0
 kz:∀x∈a,gh x
structure sg (L:azc):Prop where
 mF:xe (eW L) (gy L)
 eq:L=iD (eW L) (gy L)
theorem LZ {n:azc} {a:aze} (h:xe n a):eW (iD n a)=n/\gy (iD n a)=a:=by
 unfold eW gy;rw[abS h.kc h.len,abT h.kc h.len h.DY h.kz];exact⟨rfl,rfl⟩
theorem ab8 {n:azc} {a:aze} (h:xe n a):sg (iD n a):=by
 obtain⟨aO,aU⟩:=LZ h;exact⟨by rw[aO,aU];exact h,by rw[aO,aU]⟩
theorem xf {s:bb} (h:fG s):sg s.Label:=by
 obtain⟨n,a,ad,ae,aJ,bh,b2⟩:=h.shape;rw[b2];exact ab8 ⟨ad,ae,aJ,bh⟩
theorem sg.name {L:azc} (h:sg L):sR L=some (eW L):=by
 have:=abS h.mF.kc h.mF.len
 rwa [<-h.eq]at this
theorem sg.values {L:azc} (h:sg L):sQ L=some (gy L,true):=by
 have:=abT h.mF.kc h.mF.len h.mF.DY h.mF.kz
 rwa [<-h.eq]at this
theorem sg.read {L:azc} (h:sg L):uR L=some (eW L,gy L,true):=by
 have:=avu h.mF.kc h.mF.len h.mF.DY h.mF.kz
 rwa [<-h.eq]at this
theorem ab9:xe [116,97,117] []:=⟨by decide,by simp,λ_=>rfl,λx an=>by cases an⟩
def xg (H:azb) (n:azc) (a:aze):azc×aze:=if n∈H then([116,97,117],[])else(n,a)
def qb (H:azb) (n:azc) (a:aze):azc:=iD (xg H n a).1 (xg H n a).2
theorem Tz {H:azb} {n:azc} {a:aze} (h:xe n a):xe (xg H n a).1 (xg H n a).2:=by
 unfold xg;split
 .exact ab9
 .exact h
theorem ab_ (s:cM) (nE:s.cy.length<=1048576) {L:azc} (h:sg L):Ck s L=some (qb s.cy (eW L) (gy L)):=by
 obtain⟨⟨z,sJ,_,z2⟩,_⟩:=HI s.cy (eW L) nE;unfold Ck;rw[h.name,bind_some,sJ,bind_some,z2];unfold qb xg;by_cases hm:eW L∈s.cy
 .rw[decide_eq_true hm,if_pos hm];rfl
 .rw[decide_eq_false hm,if_neg hm,cond_false];exact congrArg some h.eq
def xh (A:azb) (n:azc):Bool:=(n==[116,97,117])||decide (n∈A)
noncomputable def cA (A H:azb) (q:azA) (i:Nat) (x:bb):azC:=
 if xh A (eW x.Label)=true then [⟨qb H (eW x.Label) (gy x.Label),(i:Int),-1,q.set i x.Next⟩]else []
noncomputable def nR (M:azz) (x y:azc):azc:=sf M (iZ (se M (hO false x y) (hO true x y)) 0 M.length)
noncomputable def c2 (M:azz) (A H:azb) (q:azA) (i k:Nat) (x y:bb):azC:=
 if gy x.Label=gy y.Label/\nR M (eW x.Label) (eW y.Label)≠[]/\nR M (eW x.Label) (eW y.Label)∈A then
  [⟨qb H (nR M (eW x.Label) (eW y.Label)) (gy x.Label),(i:Int),(k:Int),(q.set i x.Next).set k y.Next⟩]else []
theorem vr {q:azA} (h:∀p∈q,kA p) {x:bp} (an:kA x) (i:Nat):∀p∈q.set i x,kA p:=by
 intro p ay;rcases List.mem_or_eq_of_mem_set ay with ad|rfl
 .exact h p ad
 .exact an
theorem TA {H:azb} {n:azc} {a:aze} (h:xe n a):(qb H n a).length<=400/\(32:UInt8)∉qb H n a:=by
 have g:=Tz (H:=H) h;exact S_ g.kc (by have:=g.len;omega) g.kz
theorem av8 {A H:azb} {q:azA} (h:∀p∈q,kA p) {i:Nat} (ai:i<100) {x:bb} (an:fG x):∀m∈cA A H q i x,i6 q.length m:=by
 intro m hm;unfold cA at hm;split at hm
 .rw[List.mem_singleton]at hm;subst hm;exact⟨TA (xf an).mF,⟨i,ai,rfl⟩,.inl rfl,by simp,vr h an.next i⟩
 .cases hm
theorem aca (A H:azb) (q:azA) (i:Nat) (x:bb):(cA A H q i x).length<=1:=by unfold cA;split<;>simp
theorem TB (M:azz) (A H:azb) (q:azA) (i k:Nat) (x y:bb):(c2 M A H q i k x y).length<=1:=by unfold c2;split<;>simp
theorem HJ {s:cM} (aF:(mE s==0)=true) (x y:azc):
  (decide (iZ (se s.b8 (hO false x y) (hO true x y)) 0 s.b8.length<0)=decide (nR s.b8 x y=[]))/\(nR s.b8 x y≠[]->jZ (nR s.b8 x y)=true):=by
 have aC:=Tx (se s.b8 (hO false x y) (hO true x y)) s.b8.length 0;unfold nR;generalize iZ (se s.b8 (hO false x y) (hO true x y)) 0 s.b8.length=z at aC⊢;by_cases h:z<0
 .rw[decide_eq_true h];have e:sf s.b8 z=[]:=by unfold sf;rw[decide_eq_true h];rfl
  rw[e];exact⟨by simp,λh=>absurd rfl h⟩
 .have cf:z.toNat<s.b8.length:=by omega
  have e:sf s.b8 z=(eE s.b8 z.toNat).Result:=by unfold sf;rw[decide_eq_false h];rfl
  have aT:=av5 s aF z.toNat cf;rw[beq_eq_false_iff_ne]at aT;rw[e,decide_eq_false h,decide_eq_false aT];refine⟨rfl,λ_=>?_⟩;have hm:qQ s.b8=true:=by
   cases h:qQ s.b8
   .unfold mE at aF;rw[h]at aF;revert aF;cases lZ s.cw<;>cases vp s<;>simp
   .rfl
  unfold qQ at hm;rw[Bool.and_eq_true]at hm;have ad:=nO.1 hm.2 z.toNat cf;unfold AW at ad;simp only[Bool.and_eq_true]at ad;exact ad.1.1.1.2
theorem L0 {n:azc} {a:aze} (h:jZ n=true) (aC:a.length<=2) (aF:∀x∈a,gh x):xe n a:=by
 unfold jZ at h;rw[Bool.and_eq_true]at h;exact⟨h.1,aC,λe=>(by rw[e]at h;cases h.2),aF⟩
theorem av9 {s:cM} (aF:(mE s==0)=true) (hm:s.b8.length<=1048576) (x y:azc):z6 s x y=some (nR s.b8 x y,!decide (nR s.b8 x y=[])):=by
 rw[av4 s hm x y _ rfl,(HJ aF x y).1];rfl
theorem TC {s:cM} (aF:(mE s==0)=true) {q:azA} (h:∀p∈q,kA p) {i k:Nat} (ai:i<100) (ax:k<100) {x y:bb} (an:fG x) (hy:fG y):
  ∀m∈c2 s.b8 s.cB s.cy q i k x y,i6 q.length m:=by
 intro m hm;unfold c2 at hm;split at hm
 .rename_i ar;rw[List.mem_singleton]at hm;subst hm;have g:=(xf an).mF;exact⟨TA (L0 ((HJ aF _ _).2 ar.2.1) g.len g.kz),⟨i,ai,rfl⟩,.inr ⟨k,ax,rfl⟩,by simp,vr (vr h an.next i) hy.next k⟩
 .cases hm
theorem av_ {s:cM} (aF:(mE s==0)=true) (hm:s.b8.length<=1048576) (iS:s.cB.length<=1048576) {x y:azc} (an:sg x) (hy:sg y):
  JI s x y=some (if gy x=gy y/\nR s.b8 (eW x) (eW y)≠[]/\nR s.b8 (eW x) (eW y)∈s.cB then iD (nR s.b8 (eW x) (eW y)) (gy x)else []):=by
 have g:=an.mF;unfold JI;rw[an.values,hy.values];simp only[bind_some];rw[Tb _ _ (by have:=g.len;omega),bind_some];by_cases ad:gy x=gy y
 .rw[show(gy x==gy y)=true from by rw[ad];simp];simp only[Bool.not_true,cond_false];rw[an.name,hy.name];simp only[bind_some];rw[show F4 s.b8 (eW x) (eW y)=some (nR s.b8 (eW x) (eW y))from av3 _ hm _ _,bind_some];have r2:=(HJ aF (eW x) (eW y)).2;generalize nR s.b8 (eW x) (eW y)=r at r2⊢;by_cases ae:r=[]
  .rw[if_neg (λc=>c.2.1 ae),ae];rfl
  .rw[show(r==([]:azc))=false from by simpa using ae,cond_false];obtain⟨⟨z,sJ,z2,_⟩,_⟩:=HI s.cB r iS;rw[sJ,bind_some,z2];by_cases aJ:r∈s.cB
   .rw[decide_eq_true aJ,if_pos ⟨ad,ae,aJ⟩];have AX:=L0 (r2 ae) g.len g.kz;have yC:r.length<=10:=by have:=AX.kc;simp only[ha,Bool.and_eq_true,decide_eq_true_eq]at this;exact this.1
    rw[Bool.not_true,cond_false,abr r (gy x) yC (by have:=g.len;omega) g.kz];rfl
   .rw[decide_eq_false aJ,if_neg (λc=>aJ c.2.2)];rfl
 .rw[show(gy x==gy y)=false from by simpa using ad,if_neg (λc=>ad c.1)];rfl
theorem acb {n:Nat} {D:azx} {C:azy} {M:azz} {A H:azb} {q:azA} {o:azC} {sn:aza} (m:bf) (hm:i6 n m) (aR:n<=100) (bL:o.length<=1000000000):
  C2 m.fa m.Second D C M A H q o sn m.Label m.State=some (D,C,M,A,H,q,(nQ oZ (o,sn) m).1,(nQ oZ (o,sn) m).2):=by
 obtain⟨i,ai,iv⟩:=hm.fst;obtain⟨s1,s2,_⟩:=Ts hm.snd;have ad:=wX i;have ae:=hm.AN.1;have aJ:=abW hm.st.2;have bh:=hm.st.1;have ao:oQ m.fa=some (iw m.fa.toNat):=by rw[iv,Int.toNat_natCast];exact AB i ai
 have ht:(iw m.fa.toNat).length<=2:=by rw[iv,Int.toNat_natCast];exact ad
 unfold C2;rw[ao,s1,avA (by omega) hm.st.2,lA (by omega)];simp only[bind_some];rw[lA (by simp only[List.length_append,List.length_cons,List.length_nil];omega),bind_some,lA (by simp only[List.length_append,List.length_cons,List.length_nil];omega),bind_some,lA (by simp only[List.length_append,List.length_cons,List.length_nil];omega),bind_some,
  lA (by simp only[List.length_append,List.length_cons,List.length_nil];omega),bind_some,lA (by simp only[List.length_append,List.length_cons,List.length_nil];omega),bind_some]
 show cond (!(j0 (oZ m) sn)) _ _=_;unfold nQ;cases hg:j0 (oZ m) sn
 .rw[ky (by omega) (by omega)];simp only[hg];rfl
 .simp only[hg];rfl
theorem acd {D:azx} {C:azy} {M:azz} {A H:azb} {q:azA} {o:azC} {sn:aza} {n:azc} {a:aze} (aR:xe n a) (cz:q.length<=100) (h:∀p∈q,kA p)
  (bL:o.length<=1000000000) {i:Nat} (ai:i<q.length) {p:bp} (ay:kA p):
  (qy (i:Int) (-1) [p] D C M A H q o sn n a=some (D,C,M,A,H,q,(nQ oZ (o,sn) ⟨iD n a,i,-1,q.set i p⟩).1,(nQ oZ (o,sn) ⟨iD n a,i,-1,q.set i p⟩).2))/\
  ∀(k:Nat) (r:bp),k<q.length->kA r->
   qy (i:Int) (k:Int) [p,r] D C M A H q o sn n a=some (D,C,M,A,H,q,(nQ oZ (o,sn) ⟨iD n a,i,k,(q.set i p).set k r⟩).1,(nQ oZ (o,sn) ⟨iD n a,i,k,(q.set i p).set k r⟩).2):=by
 have LP:=S_ aR.kc (by have:=aR.len;omega) aR.kz;constructor
 .unfold qy;rw[HF n a aR.kc aR.len aR.DY aR.kz,(DX cz h).2];simp only[bind_some];rw[show bk [p] 0=some p from rfl,bind_some,Ty ay,dJ _ i ai];simp only[bind_some,Int.toNat_natCast];rw[show decide ((0:Int)<=-1)=false from rfl,cond_false];exact acb (n:=q.length) ⟨iD n a,i,-1,q.set i p⟩ ⟨LP,⟨i,by omega,rfl⟩,.inl rfl,by simp,vr h ay i⟩ cz bL
 .intro k r ax aT;unfold qy;rw[HF n a aR.kc aR.len aR.DY aR.kz,(DX cz h).2];simp only[bind_some];rw[show bk [p,r] 0=some p from rfl,bind_some,Ty ay,dJ _ i ai];simp only[bind_some,Int.toNat_natCast];rw[show decide ((0:Int)<=(k:Int))=true from decide_eq_true (by omega),cond_true,show bk [p,r] 1=some r from rfl,bind_some,Ty aT,dJ _ k (by simpa using ax)];simp only[bind_some];exact acb (n:=q.length) ⟨iD n a,i,k,(q.set i p).set k r⟩ ⟨LP,⟨i,by omega,rfl⟩,.inr ⟨k,by omega,rfl⟩,by simp,vr (vr h ay i) aT k⟩ cz bL
theorem ace {D:azx} {C:azy} {M:azz} {A H:azb} {q:azA} {o:azC} {sn:aza} {n:azc} {a:aze} (iS:A.length<=1048576) (nE:H.length<=1048576) (k:Int) (ps:azA) (i:Nat)
  (r:azC×aza) (ax:qy (i:Int) k ps D C M A H q o sn (xg H n a).1 (xg H n a).2=some (D,C,M,A,H,q,r.1,r.2)):
  C3 D C M A H q o sn n a (i:Int) k ps=some (D,C,M,A,H,q,(if xh A n=true then r else(o,sn)).1,(if xh A n=true then r else(o,sn)).2):=by
 have aO:=(HI A n iS).2;have aU:=(HI H n nE).2;have ar:∀x,cond (decide (n∈H)) (qy (i:Int) k ps D C M A H q o sn ([116,97,117]:azc) []) (qy (i:Int) k ps D C M A H q o sn n a)=x↔some (D,C,M,A,H,q,r.1,r.2)=x:=by
  intro x;rw[<-ax];unfold xg;by_cases h:n∈H
  .rw[decide_eq_true h,if_pos h];exact Iff.rfl
  .rw[decide_eq_false h,if_neg h];exact Iff.rfl
 unfold C3 xh;rw[aO,aU];simp only[bind_some];cases aY:n==([116,97,117]:azc)
 .simp only[Bool.not_false,cond_true,Bool.false_or];by_cases h:n∈A
  .rw[decide_eq_true h];simp only[Bool.not_true,cond_false,if_true];exact(ar _).2 rfl
  .rw[decide_eq_false h];simp
 .simp only[Bool.not_true,cond_false,Bool.true_or,if_true];exact(ar _).2 rfl
theorem awa {L:azc} (h:sg L):(L==([116,97,117]:azc))=(eW L==[116,97,117]):=by
 rw[Bool.eq_iff_iff,beq_iff_eq,beq_iff_eq];constructor
 .intro e;have:L=iD [116,97,117] []:=e;rw[this];exact(LZ ab9).1
 .intro e;have ae:=h.mF.DY (by rw[e];rfl);have aJ:gy L=[]:=List.length_eq_zero_iff.1 ae;rw[h.eq,e,aJ];rfl
theorem acf {n:Nat} {o:azC} {m:bf} (bL:o.length<=1000) (hg:∀x∈o,i6 n x) (hm:i6 n m):(iM o m).length<=1000/\∀x∈iM o m,i6 n x:=by
 unfold iM;split
 .exact⟨bL,hg⟩
 .have:=Tm o m;exact⟨by omega,λx an=>(LV an).elim (hg x) λe=>e▸hm⟩
theorem L1 {n:Nat}:∀(l o:azC),o.length<=1000->(∀x∈o,i6 n x)->(∀x∈l,i6 n x)->(l.foldl iM o).length<=1000/\∀x∈l.foldl iM o,i6 n x
 |[],o,bL,hg,_=>⟨bL,hg⟩
 |s::r,o,bL,hg,aC=>by
  obtain⟨ad,ae⟩:=acf bL hg (aC s (by simp));exact L1 r _ ad ae λx an=>aC x (List.mem_cons_of_mem _ an)
theorem L2 {n:Nat}:∀(l o:azC),(∀x∈o,i6 n x)->(∀x∈l,i6 n x)->∀x∈l.foldl hN o,i6 n x
 |[],o,hg,_=>hg
 |s::r,o,hg,aC=>L2 r _ (λx an=>(LV an).elim (hg x) λe=>e▸aC s (by simp)) λx an=>aC x (List.mem_cons_of_mem _ an)
structure tG (s:cM) (q:azA) (al:azn):Prop where
 AY:(mE s==0)=true
 sm:s.b8.length<=1048576/\s.cB.length<=1048576/\s.cy.length<=1048576
 o0:q.length<=3
 tH:∀p∈q,kA p
 l6:al.length=q.length
 gs:∀l∈al,l.length<=200/\∀x∈l,fG x
noncomputable def lD (s:cM) (q:azA) (i:Nat) (l:azD):azC:=l.flatMap (cA s.cB s.cy q i)
noncomputable def mG (s:cM) (q:azA) (i k:Nat) (l r:azD):azC:=l.flatMap λx=>r.flatMap (c2 s.b8 s.cB s.cy q i k x)
noncomputable def l0 (s:cM) (q:azA) (al:azn) (i k:Nat):azC:=(List.range' k (q.length-k)).flatMap λk=>mG s q i k (al.getD i []) (al.getD k [])
noncomputable def one (s:cM) (q:azA) (al:azn) (i:Nat):azC:=(List.range' i (q.length-i)).flatMap λi=>lD s q i (al.getD i [])
noncomputable def two (s:cM) (q:azA) (al:azn) (i:Nat):azC:=(List.range' i (q.length-i)).flatMap λi=>l0 s q al i (i+1)
section
variable {s:cM} {q:azA} {al:azn} (H:tG s q al)
include H
theorem tG.at {i:Nat} (ai:i<q.length):∃h:i<al.length,al.getD i []=al[i]/\al[i].length<=200/\∀x∈al[i],fG x:=by
 have h:i<al.length:=by rw[H.l6];exact ai
 exact⟨h,by simp[List.getD,h],H.gs _ (List.getElem_mem h)⟩
theorem tG.g1 {i:Nat} (ai:i<q.length) {l:azD} (aC:∀x∈l,fG x):∀m∈lD s q i l,i6 q.length m:=by
 intro m hm;unfold lD at hm;obtain⟨x,an,hm⟩:=List.mem_flatMap.1 hm;exact av8 H.tH (by have:=H.o0;omega) (aC x an) m hm
theorem tG.g2 {i k:Nat} (ai:i<q.length) (ax:k<q.length) {l r:azD} (aC:∀x∈l,fG x) (aT:∀x∈r,fG x):∀m∈mG s q i k l r,i6 q.length m:=by
 intro m hm;unfold mG at hm;obtain⟨x,an,hm⟩:=List.mem_flatMap.1 hm;obtain⟨y,hy,hm⟩:=List.mem_flatMap.1 hm;exact TC H.AY H.tH (by have:=H.o0;omega) (by have:=H.o0;omega) (aC x an) (aT y hy) m hm
theorem tG.g3 {i k:Nat} (ai:i<q.length):∀m∈l0 s q al i k,i6 q.length m:=by
 intro m hm;unfold l0 at hm;obtain⟨j,bJ,hm⟩:=List.mem_flatMap.1 hm;rw[List.mem_range'_1]at bJ;obtain⟨_,aO,_,f1⟩:=H.at ai;obtain⟨_,aU,_,f2⟩:=H.at (i:=j) (by omega);rw[aO,aU]at hm;exact H.g2 ai (by omega) f1 f2 m hm
theorem tG.gone {i:Nat}:∀m∈one s q al i,i6 q.length m:=by
 intro m hm;unfold one at hm;obtain⟨j,bJ,hm⟩:=List.mem_flatMap.1 hm;rw[List.mem_range'_1]at bJ;obtain⟨_,aO,_,f1⟩:=H.at (i:=j) (by omega);rw[aO]at hm;exact H.g1 (by omega) f1 m hm
theorem tG.acg {i:Nat}:∀m∈two s q al i,i6 q.length m:=by
 intro m hm;unfold two at hm;obtain⟨j,bJ,hm⟩:=List.mem_flatMap.1 hm;rw[List.mem_range'_1]at bJ;exact H.g3 (by omega) m hm
theorem awb (qu:azC->azn->Int->Option (azC×Bool)) {i:Nat} (ai:i<q.length) {l:azD} (aC:bk al (i:Int)=some l) (AZ:l.length<=200) (hg:∀x∈l,fG x):
  ∀a,a<=l.length->∀(o:azC) m,o.length+(l.length-a)<=1000000->(∀x∈o,i6 q.length x)->l.length-a<m->
   x3 qu q s.cw s.cg s.b8 s.cB s.cy m o al (i:Int) (a:Int)=qu ((lD s q i (l.drop a)).foldl hN o) al ((i+1:Nat):Int):=by
 have aJ:=H.o0;refine down l.length ?_ ?_
 .intro o m bL h6 hm;obtain⟨m,rfl⟩:∃j,m=j+1:=⟨m-1,by omega⟩
  simp only[x3,Pp];rw[aC,bind_some,ev (Nat.le_refl _),List.drop_of_length_le (Nat.le_refl _),cond_false,dQ i _ ai (by omega)];rfl
 .intro a bl ih o m bL h6 hm;obtain⟨m,rfl⟩:∃j,m=j+1:=⟨m-1,by omega⟩
  have ng:=hg _ (List.getElem_mem bl);have gU:=xf ng;simp only[x3,Pp,F5];rw[aC,bind_some,d_ bl,cond_true,dJ l a bl,bind_some,awa gU,gU.name,bind_some,(DX (by omega) H.tH).1,dQ a _ bl (by omega)];obtain⟨⟨z,sJ,z2,_⟩,_⟩:=HI s.cB (eW l[a].Label) H.sm.2.1;rw[sJ];simp only[bind_some,Int.toNat_natCast];rw[z2,dJ q i ai,ab_ (cM.mk s.cw s.cg s.b8 s.cB s.cy) H.sm.2.2 gU];simp only[bind_some];rw[(DX (by simp;omega) (vr H.tH ng.next i)).1,bind_some];have l3:zJ o ⟨qb s.cy (eW l[a].Label) (gy l[a].Label),(i:Int),-1,q.set i l[a].Next⟩=some (hN o ⟨qb s.cy (eW l[a].Label) (gy l[a].Label),(i:Int),-1,q.set i l[a].Next⟩):=ab7 o _ (by omega) (by omega) h6;have ec:lD s q i (l.drop a)=cA s.cB s.cy q i l[a]++lD s q i (l.drop (a+1)):=by unfold lD;rw[drop_cons l a bl,List.flatMap_cons]
  rw[l3,ec,List.foldl_append];have ni:cA s.cB s.cy q i l[a]=if xh s.cB (eW l[a].Label)=true then [⟨qb s.cy (eW l[a].Label) (gy l[a].Label),(i:Int),-1,q.set i l[a].Next⟩]else []:=rfl;have DZ:i6 q.length ⟨qb s.cy (eW l[a].Label) (gy l[a].Label),(i:Int),-1,q.set i l[a].Next⟩:=⟨TA gU.mF,⟨i,by omega,rfl⟩,.inl rfl,by simp,vr H.tH ng.next i⟩
  have hle:=Tm o ⟨qb s.cy (eW l[a].Label) (gy l[a].Label),(i:Int),-1,q.set i l[a].Next⟩;rw[ni];unfold xh;cases eW l[a].Label==[116,97,117]
  .by_cases iS:eW l[a].Label∈s.cB
   .simp only[decide_eq_true iS,Bool.not_false,Bool.not_true,Bool.false_or,if_true,cond_true,cond_false,bind_some,List.foldl_cons,List.foldl_nil];exact ih _ m (by omega) (λx an=>(LV an).elim (h6 x) λe=>by rw[e];exact DZ) (by omega)
   .simp only[decide_eq_false iS,Bool.not_false,Bool.false_or,cond_true,List.foldl_nil,Bool.false_eq_true,if_false];exact ih _ m (by omega) h6 (by omega)
  .simp only[Bool.not_true,cond_false,Bool.true_or,if_true,bind_some,List.foldl_cons,List.foldl_nil];exact ih _ m (by omega) (λx an=>(LV an).elim (h6 x) λe=>by rw[e];exact DZ) (by omega)
theorem awc (ie:azC->azn->Int->Option (azC×Bool)) (kQ:azC->azn->Int->Int->Option (azC×Bool)) (pU:azC->azn->Int->Int->Int->Option (azC×Bool))
  {i k:Nat} (ai:i<q.length) (ax:k<q.length) {l r:azD} (aC:bk al (i:Int)=some l) (aT:bk al (k:Int)=some r) (AZ:l.length<=200) (xH:r.length<=200) (xi:∀x∈l,fG x) (yI:∀x∈r,fG x) {a:Nat} (bl:a<l.length):
  ∀b,b<=r.length->∀(o:azC) m,o.length<=1000->(∀x∈o,i6 q.length x)->r.length-b<m->
   uD ie kQ pU q s.cw s.cg s.b8 s.cB s.cy m o al (i:Int) (k:Int) (a:Int) (b:Int)=
    pU (((r.drop b).flatMap (c2 s.b8 s.cB s.cy q i k l[a])).foldl iM o) al (i:Int) (k:Int) ((a+1:Nat):Int):=by
 have aJ:=H.o0;have DT:∀b (o:azC) m,b<=r.length->200<o.length->uD ie kQ pU q s.cw s.cg s.b8 s.cB s.cy (m+1) o al (i:Int) (k:Int) (a:Int) (b:Int)=
    pU (((r.drop b).flatMap (c2 s.b8 s.cB s.cy q i k l[a])).foldl iM o) al (i:Int) (k:Int) ((a+1:Nat):Int):=by
  intro b o m ab bL;simp only[uD,JL];rw[aT,bind_some,show decide ((o.length:Int)<=200)=false from decide_eq_false (by omega),Bool.and_false,cond_false,To _ _ bL,dQ a _ bl (by omega)]
 refine down r.length ?_ ?_
 .intro o m bL h6 hm;obtain⟨m,rfl⟩:∃j,m=j+1:=⟨m-1,by omega⟩
  simp only[uD,JL];rw[aT,bind_some,ev (Nat.le_refl _),List.drop_of_length_le (Nat.le_refl _),Bool.false_and,cond_false,dQ a _ bl (by omega)];rfl
 .intro b ab ih o m bL h6 hm;obtain⟨m,rfl⟩:∃j,m=j+1:=⟨m-1,by omega⟩
  by_cases ach:200<o.length
  .exact DT b o m (by omega) ach
  have ng:=xi _ (List.getElem_mem bl);have tQ:=yI _ (List.getElem_mem ab);have A0:=xf ng;have awd:=xf tQ;simp only[uD,JL,JJ];rw[aT,bind_some,d_ ab,show decide ((o.length:Int)<=200)=true from decide_eq_true (by omega),Bool.and_self,cond_true,aC,bind_some,dJ l a bl,bind_some,dJ r b ab,bind_some,
   av_ (s:=cM.mk s.cw s.cg s.b8 s.cB s.cy) H.AY H.sm.1 H.sm.2.1 A0 awd,bind_some,(DX (by omega) H.tH).1,bind_some,dQ b _ ab (by omega),dJ q i ai,bind_some,drop_cons r b ab,List.flatMap_cons,List.foldl_append]
  have DZ:=TC H.AY H.tH (i:=i) (k:=k) (by omega) (by omega) ng tQ;simp only[Int.toNat_natCast];unfold c2 at DZ⊢;by_cases ar:gy l[a].Label=gy r[b].Label/\nR s.b8 (eW l[a].Label) (eW r[b].Label)≠[]/\nR s.b8 (eW l[a].Label) (eW r[b].Label)∈s.cB
  .rw[if_pos ar]at DZ⊢;rw[if_pos ar];have AX:=L0 ((HJ H.AY (eW l[a].Label) (eW r[b].Label)).2 ar.2.1) A0.mF.len A0.mF.kz;have dV:(iD (nR s.b8 (eW l[a].Label) (eW r[b].Label)) (gy l[a].Label)==([]:azc))=false:=by
    rw[beq_eq_false_iff_ne];intro e;have aU:=(LZ AX).1;rw[e]at aU;have aM:eW ([]:azc)=[]:=by
     have:sR []=some []:=by unfold sR;rw[(yv [] (by simp)).1 (by simp)];rfl
     unfold eW;rw[this];rfl
    exact ar.2.1 (aU.symm.trans aM)
   obtain⟨aO,aU⟩:=LZ AX;rw[dV,cond_false,dJ _ k (by simpa using ax),bind_some,ab_ (cM.mk s.cw s.cg s.b8 s.cB s.cy) H.sm.2.2 (ab8 AX),bind_some,aO,aU,
    (DX (by simp;omega) (vr (vr H.tH ng.next i) tQ.next k)).1,bind_some,ab7 (n:=q.length) o _ (by omega) (by omega) h6,bind_some,List.foldl_cons,List.foldl_nil]
   have aci:∀x:bf,iM o x=hN o x:=λx=>by unfold iM;rw[if_neg ach]
   rw[aci];have uh:=acf bL h6 (DZ _ (List.mem_singleton.2 rfl));rw[aci]at uh;exact ih _ m uh.1 uh.2 (by omega)
  .rw[if_neg ar,if_neg ar,beq_self_eq_true,cond_true];exact ih _ m bL h6 (by omega)
theorem awe (ie:azC->azn->Int->Option (azC×Bool)) (kQ:azC->azn->Int->Int->Option (azC×Bool))
  {i k:Nat} (ai:i<q.length) (ax:k<q.length) {l r:azD} (aC:bk al (i:Int)=some l) (aT:bk al (k:Int)=some r) (AZ:l.length<=200) (xH:r.length<=200) (xi:∀x∈l,fG x) (yI:∀x∈r,fG x):
  ∀a,a<=l.length->∀(o:azC) m,o.length<=1000->(∀x∈o,i6 q.length x)->l.length-a<m->
   rm ie kQ q s.cw s.cg s.b8 s.cB s.cy m o al (i:Int) (k:Int) (a:Int)=kQ ((mG s q i k (l.drop a) r).foldl iM o) al (i:Int) ((k+1:Nat):Int):=by
 have aJ:=H.o0;refine down l.length ?_ ?_
 .intro o m bL h6 hm;obtain⟨m,rfl⟩:∃j,m=j+1:=⟨m-1,by omega⟩
  simp only[rm,Pq];rw[aC,bind_some,ev (Nat.le_refl _),List.drop_of_length_le (Nat.le_refl _),cond_false,dQ k _ ax (by omega)];rfl
 .intro a bl ih o m bL h6 hm;obtain⟨m,rfl⟩:∃j,m=j+1:=⟨m-1,by omega⟩
  simp only[rm,Pq];rw[aC,bind_some,d_ bl,cond_true];have iB:bX (λn=>uD ie kQ (rm ie kQ q s.cw s.cg s.b8 s.cB s.cy m) q s.cw s.cg s.b8 s.cB s.cy n o al (i:Int) (k:Int) (a:Int) 0)=
    rm ie kQ q s.cw s.cg s.b8 s.cB s.cy m ((r.flatMap (c2 s.b8 s.cB s.cy q i k l[a])).foldl iM o) al (i:Int) (k:Int) ((a+1:Nat):Int):=
   eY (r.length+1) λm2 qR=>awc H ie kQ _ ai ax aC aT AZ xH xi yI bl 0 (by omega) o m2 bL h6 (by omega)
  have TD:∀x∈r.flatMap (c2 s.b8 s.cB s.cy q i k l[a]),i6 q.length x:=λx an=>by
   obtain⟨y,hy,an⟩:=List.mem_flatMap.1 an;exact TC H.AY H.tH (by omega) (by omega) (xi _ (List.getElem_mem bl)) (yI y hy) x an
  obtain⟨b1,cK⟩:=L1 _ o bL h6 TD;have ec:mG s q i k (l.drop a) r=r.flatMap (c2 s.b8 s.cB s.cy q i k l[a])++mG s q i k (l.drop (a+1)) r:=by unfold mG;rw[drop_cons l a bl,List.flatMap_cons]
  rw[iB,ih _ m b1 cK (by omega),ec,List.foldl_append]
theorem awf (ie:azC->azn->Int->Option (azC×Bool)) {i:Nat} (ai:i<q.length):
  ∀k,k<=q.length->∀(o:azC) m,o.length<=1000->(∀x∈o,i6 q.length x)->q.length-k<m->
   oN ie q s.cw s.cg s.b8 s.cB s.cy m o al (i:Int) (k:Int)=ie ((l0 s q al i k).foldl iM o) al ((i+1:Nat):Int):=by
 have aJ:=H.o0;obtain⟨mO,iv,li,tI⟩:=H.at ai;refine down q.length ?_ ?_
 .intro o m bL h6 hm;obtain⟨m,rfl⟩:∃j,m=j+1:=⟨m-1,by omega⟩
  simp only[oN,Pr];rw[ev (Nat.le_refl _),cond_false,dQ i _ ai (by omega)];unfold l0;rw[Nat.sub_self];rfl
 .intro k ax ih o m bL h6 hm;obtain⟨m,rfl⟩:∃j,m=j+1:=⟨m-1,by omega⟩
  obtain⟨o4,tv,D0,L3⟩:=H.at ax;simp only[oN,Pr];rw[d_ ax,cond_true];have iB:bX (λn=>rm ie (oN ie q s.cw s.cg s.b8 s.cB s.cy m) q s.cw s.cg s.b8 s.cB s.cy n o al (i:Int) (k:Int) 0)=
    oN ie q s.cw s.cg s.b8 s.cB s.cy m ((mG s q i k al[i] al[k]).foldl iM o) al (i:Int) ((k+1:Nat):Int):=
   eY (al[i].length+1) λm2 qR=>awe H ie _ ai ax (dJ al i mO) (dJ al k o4) li D0 tI L3 0 (by omega) o m2 bL h6 (by omega)
  obtain⟨b1,cK⟩:=L1 _ o bL h6 (H.g2 ai ax tI L3);have ec:l0 s q al i k=mG s q i k al[i] al[k]++l0 s q al i (k+1):=by
   unfold l0;rw[show q.length-k=(q.length-(k+1))+1 by omega,List.range'_succ,List.flatMap_cons,iv,tv]
  rw[iB,ih _ m b1 cK (by omega),ec,List.foldl_append]
theorem awg:∀i,i<=q.length->∀(o:azC) m,o.length<=1000->(∀x∈o,i6 q.length x)->q.length-i<m->
   lO q s.cw s.cg s.b8 s.cB s.cy m o al (i:Int)=some ((two s q al i).foldl iM o,decide ((((two s q al i).foldl iM o).length:Int)<=200)):=by
 have aJ:=H.o0;refine down q.length ?_ ?_
 .intro o m bL h6 hm;obtain⟨m,rfl⟩:∃j,m=j+1:=⟨m-1,by omega⟩
  simp only[lO,Ps];rw[ev (Nat.le_refl _),cond_false];unfold two;rw[Nat.sub_self];rfl
 .intro i ai ih o m bL h6 hm;obtain⟨m,rfl⟩:∃j,m=j+1:=⟨m-1,by omega⟩
  simp only[lO,Ps];rw[d_ ai,cond_true,dQ i _ ai (by omega)];have iB:bX (λn=>oN (lO q s.cw s.cg s.b8 s.cB s.cy m) q s.cw s.cg s.b8 s.cB s.cy n o al (i:Int) ((i+1:Nat):Int))=
    lO q s.cw s.cg s.b8 s.cB s.cy m ((l0 s q al i (i+1)).foldl iM o) al ((i+1:Nat):Int):=
   eY (q.length+1) λm2 qR=>awf H _ ai (i+1) (by omega) o m2 bL h6 (by omega)
  obtain⟨b1,cK⟩:=L1 _ o bL h6 (H.g3 (k:=i+1) ai);have ec:two s q al i=l0 s q al i (i+1)++two s q al (i+1):=by
   unfold two;rw[show q.length-i=(q.length-(i+1))+1 by omega,List.range'_succ,List.flatMap_cons]
  rw[iB,ih _ m b1 cK (by omega),ec,List.foldl_append]
omit H in
theorem L4 (i:Nat):∀l:azD,(lD s q i l).length<=l.length
 |[]=>Nat.le_refl _
 |x::r=>by
  have ad:=aca s.cB s.cy q i x;have ae:=L4 i r;unfold lD at ae⊢;rw[List.flatMap_cons,List.length_append,List.length_cons];omega
theorem awh:∀i,i<=q.length->∀(o:azC) m,o.length+200*(q.length-i)<=1000->(∀x∈o,i6 q.length x)->q.length-i<m->
   sW q s.cw s.cg s.b8 s.cB s.cy m o al (i:Int)=
    some ((two s q al 0).foldl iM ((one s q al i).foldl hN o),decide ((((two s q al 0).foldl iM ((one s q al i).foldl hN o)).length:Int)<=200)):=by
 have aJ:=H.o0;refine down q.length ?_ ?_
 .intro o m bL h6 hm;obtain⟨m,rfl⟩:∃j,m=j+1:=⟨m-1,by omega⟩
  simp only[sW,Pt];rw[ev (Nat.le_refl _),cond_false];have e:one s q al q.length=[]:=by unfold one;rw[Nat.sub_self];rfl
  rw[e];exact eY (q.length+1) λm2 qR=>awg H 0 (by omega) o m2 (by omega) h6 (by omega)
 .intro i ai ih o m bL h6 hm;obtain⟨m,rfl⟩:∃j,m=j+1:=⟨m-1,by omega⟩
  obtain⟨mO,iv,li,tI⟩:=H.at ai;simp only[sW,Pt];rw[d_ ai,cond_true];have iB:bX (λn=>x3 (sW q s.cw s.cg s.b8 s.cB s.cy m) q s.cw s.cg s.b8 s.cB s.cy n o al (i:Int) 0)=
    sW q s.cw s.cg s.b8 s.cB s.cy m ((lD s q i al[i]).foldl hN o) al ((i+1:Nat):Int):=
   eY (al[i].length+1) λm2 qR=>awb H _ ai (dJ al i mO) li tI 0 (by omega) o m2 (by omega) h6 (by omega)
  have b1:=(Tn (lD s q i al[i]) o).2;have dM:=L4 (s:=s) (q:=q) i al[i];have ec:one s q al i=lD s q i al[i]++one s q al (i+1):=by
   unfold one;rw[show q.length-i=(q.length-(i+1))+1 by omega,List.range'_succ,List.flatMap_cons,iv]
  rw[iB,ih _ m (by omega) (L2 _ o h6 (H.g1 ai tI)) (by omega),ec,List.foldl_append]
end
theorem awi (a b:aze) (h:a.length<=1048576):Gx a b=some (a==b):=by
 unfold Gx;by_cases aC:a.length=b.length
 .have e:((a.length:Int) !=(b.length:Int))=false:=by simp[aC]
  rw[e,cond_false];have:=oV (n:=a.length) (l:=C5 a b) (λi=>some (a.drop i==b.drop i)) (λm=>?_) (λi ai m ih=>?_)
  .simpa using this
  .simp only[C5,Qs];rw[ev (Nat.le_refl _),List.drop_of_length_le (Nat.le_refl _),List.drop_of_length_le (by omega)];rfl
  .simp only[C5,Qs];rw[d_ ai,dJ _ i ai,dJ _ i (by omega),dQ i _ ai (by omega),drop_cons a i ai,drop_cons b i (by omega),List.cons_beq_cons];simp only[cond_true,bind_some,ih,bne];cases a[i]==b[i]
   .rfl
   .simp
 .have e:((a.length:Int) !=(b.length:Int))=true:=by simp;omega
  have aU:(a==b)=false:=by
   rw[beq_eq_false_iff_ne];intro h;exact aC (by rw[h])
  rw[e,cond_true,aU]
abbrev Seen:=aza
noncomputable abbrev h3:azC×Seen->bf->azC×Seen:=nQ oZ
theorem A1 (l:azC) (p:azC×Seen):(l.foldl h3 p).1.length<=p.1.length+l.length:=abV oZ l p
section
variable {s:cM} {q:azA} {al:azn} (H:tG s q al)
include H
theorem awj {i k:Nat} (ai:i<q.length) (ax:k<q.length) {x y:bb} (ng:fG x) (tQ:fG y) (p:azC×Seen) (ay:p.1.length<=1000000000) {β:Type}
  (K:azx->azy->azz->azb->azb->azA->azC->Seen->Option β):
  ((z6 (cM.mk s.cw s.cg s.b8 s.cB s.cy) (eW x.Label) (eW y.Label)).bind λbo=>cond bo.2 ((Gx (gy x.Label) (gy y.Label)).bind λb0=>cond b0
    ((C3 s.cw s.cg s.b8 s.cB s.cy q p.1 p.2 bo.1 (gy x.Label) (i:Int) (k:Int) [x.Next,y.Next]).bind λbr=>K br.1 br.2.1 br.2.2.1 br.2.2.2.1 br.2.2.2.2.1 br.2.2.2.2.2.1 br.2.2.2.2.2.2.1 br.2.2.2.2.2.2.2)
    (K s.cw s.cg s.b8 s.cB s.cy q p.1 p.2)) (K s.cw s.cg s.b8 s.cB s.cy q p.1 p.2))=
  K s.cw s.cg s.b8 s.cB s.cy q ((c2 s.b8 s.cB s.cy q i k x y).foldl h3 p).1 ((c2 s.b8 s.cB s.cy q i k x y).foldl h3 p).2:=by
 have aJ:=H.o0;have A0:=xf ng;rw[show z6 (cM.mk s.cw s.cg s.b8 s.cB s.cy) (eW x.Label) (eW y.Label)=_ from av9 H.AY H.sm.1 _ _,bind_some];have r2:=(HJ H.AY (eW x.Label) (eW y.Label)).2;unfold c2;simp only;generalize nR s.b8 (eW x.Label) (eW y.Label)=j5 at r2⊢;by_cases ae:j5=[]
 .rw[decide_eq_true ae,if_neg (λc=>c.2.1 ae)];rfl
 .rw[decide_eq_false ae,Bool.not_false,cond_true,awi _ _ (by have:=A0.mF.len;omega),bind_some];by_cases ad:gy x.Label=gy y.Label
  .rw[show(gy x.Label==gy y.Label)=true from by rw[ad];simp,cond_true];have AX:=L0 (r2 ae) A0.mF.len A0.mF.kz;have TE:=(acd (D:=s.cw) (C:=s.cg) (M:=s.b8) (A:=s.cB) (H:=s.cy) (o:=p.1) (sn:=p.2) (Tz (H:=s.cy) AX) (by omega) H.tH ay ai ng.next).2 k y.Next ax tQ.next;have hm:=ace (n:=j5) (a:=gy x.Label) H.sm.2.1 H.sm.2.2 (k:Int) [x.Next,y.Next] i (nQ oZ p ⟨qb s.cy j5 (gy x.Label),i,k,(q.set i x.Next).set k y.Next⟩) TE;rw[hm,bind_some];have nC:(j5==([116,97,117]:azc))=false:=by
    have:=r2 ae;unfold jZ at this;rw[Bool.and_eq_true]at this;simpa using this.2
   have bL:xh s.cB j5=decide (j5∈s.cB):=by unfold xh;rw[nC,Bool.false_or]
   rw[bL];by_cases bh:j5∈s.cB
   .rw[if_pos (decide_eq_true bh),if_pos ⟨ad,ae,bh⟩];rfl
   .rw[if_neg (by simpa using bh),if_neg (λc=>bh c.2.2)];rfl
  .rw[show(gy x.Label==gy y.Label)=false from by simpa using ad,cond_false,if_neg (λc=>ad c.1)];rfl
theorem awk (dM:azx->azy->azz->azb->azb->azA->azC->Seen->Int->Option (azx×azy×azz×azb×azb×azA×azC×Seen))
  {i k:Nat} (ai:i<q.length) (ax:k<q.length) {l r:azD} (AZ:l.length<=200) (xH:r.length<=200) (xi:∀x∈l,fG x) (yI:∀x∈r,fG x) {a:Nat} (bl:a<l.length):
  ∀b,b<=r.length->∀(p:azC×Seen) m,p.1.length+(r.length-b)<=1000000000->r.length-b<m->
   wx dM (i:Int) (k:Int) l r l[a] (eW l[a].Label,gy l[a].Label,true) m s.cw s.cg s.b8 s.cB s.cy q p.1 p.2 (a:Int) (b:Int)=
    dM s.cw s.cg s.b8 s.cB s.cy q (((r.drop b).flatMap (c2 s.b8 s.cB s.cy q i k l[a])).foldl h3 p).1 (((r.drop b).flatMap (c2 s.b8 s.cB s.cy q i k l[a])).foldl h3 p).2 ((a+1:Nat):Int):=by
 refine down r.length ?_ ?_
 .intro p m ay hm;obtain⟨m,rfl⟩:∃j,m=j+1:=⟨m-1,by omega⟩
  simp only[wx,Qt];rw[ev (Nat.le_refl _),List.drop_of_length_le (Nat.le_refl _),cond_false,dQ a _ bl (by omega)];rfl
 .intro b ab ih p m ay hm;obtain⟨m,rfl⟩:∃j,m=j+1:=⟨m-1,by omega⟩
  have ng:=xi _ (List.getElem_mem bl);have tQ:=yI _ (List.getElem_mem ab);simp only[wx,Qt,Gy];rw[d_ ab,cond_true,dJ r b ab,bind_some,(xf tQ).read,bind_some,dQ b _ ab (by omega),drop_cons r b ab,List.flatMap_cons,List.foldl_append];have key:=awj H ai ax ng tQ p (by omega) (λD C M A awl q o sn=>wx dM (i:Int) (k:Int) l r l[a] (eW l[a].Label,gy l[a].Label,true) m D C M A awl q o sn (a:Int) ((b+1:Nat):Int));have yX:=A1 (c2 s.b8 s.cB s.cy q i k l[a] r[b]) p;have ay5:=TB s.b8 s.cB s.cy q i k l[a] r[b];rw[<-ih ((c2 s.b8 s.cB s.cy q i k l[a] r[b]).foldl h3 p) m (by omega) (by omega)];exact key
theorem awm {i k:Nat} (ai:i<q.length) (ax:k<q.length) {l r:azD} (AZ:l.length<=200) (xH:r.length<=200) (xi:∀x∈l,fG x) (yI:∀x∈r,fG x):
  ∀a,a<=l.length->∀(p:azC×Seen) m,p.1.length+200*(l.length-a)<=100000000->l.length-a<m->
   s6 (i:Int) (k:Int) l r m s.cw s.cg s.b8 s.cB s.cy q p.1 p.2 (a:Int)=
    some (s.cw,s.cg,s.b8,s.cB,s.cy,q,((mG s q i k (l.drop a) r).foldl h3 p).1,((mG s q i k (l.drop a) r).foldl h3 p).2):=by
 refine down l.length ?_ ?_
 .intro p m ay hm;obtain⟨m,rfl⟩:∃j,m=j+1:=⟨m-1,by omega⟩
  simp only[s6,Qu];rw[ev (Nat.le_refl _),List.drop_of_length_le (Nat.le_refl _),cond_false];rfl
 .intro a bl ih p m ay hm;obtain⟨m,rfl⟩:∃j,m=j+1:=⟨m-1,by omega⟩
  have ng:=xi _ (List.getElem_mem bl);simp only[s6,Qu];rw[d_ bl,cond_true,dJ l a bl,bind_some,(xf ng).read,bind_some];have iB:bX (λn=>wx (s6 (i:Int) (k:Int) l r m) (i:Int) (k:Int) l r l[a] (eW l[a].Label,gy l[a].Label,true) n s.cw s.cg s.b8 s.cB s.cy q p.1 p.2 (a:Int) 0)=
    s6 (i:Int) (k:Int) l r m s.cw s.cg s.b8 s.cB s.cy q ((r.flatMap (c2 s.b8 s.cB s.cy q i k l[a])).foldl h3 p).1 ((r.flatMap (c2 s.b8 s.cB s.cy q i k l[a])).foldl h3 p).2 ((a+1:Nat):Int):=
   eY (r.length+1) λm2 qR=>awk H _ ai ax AZ xH xi yI bl 0 (by omega) p m2 (by omega) (by omega)
  have ke:∀r:azD,(r.flatMap (c2 s.b8 s.cB s.cy q i k l[a])).length<=r.length:=by
   intro r;induction r with
   |nil=>simp
   |cons y r A6=>
    have:=TB s.b8 s.cB s.cy q i k l[a] y;rw[List.flatMap_cons,List.length_append,List.length_cons];omega
  have b2:=ke r;have dA:=A1 (r.flatMap (c2 s.b8 s.cB s.cy q i k l[a])) p;have ec:mG s q i k (l.drop a) r=r.flatMap (c2 s.b8 s.cB s.cy q i k l[a])++mG s q i k (l.drop (a+1)) r:=by unfold mG;rw[drop_cons l a bl,List.flatMap_cons]
  rw[iB,ih _ m (by omega) (by omega),ec,List.foldl_append]
omit H in
theorem TF (i k:Nat) (r:azD):∀l:azD,(mG s q i k l r).length<=r.length*l.length
 |[]=>by simp[mG]
 |x::l=>by
  have ad:∀r:azD,(r.flatMap (c2 s.b8 s.cB s.cy q i k x)).length<=r.length:=by
   intro r;induction r with
   |nil=>simp
   |cons y r A6=>
    have:=TB s.b8 s.cB s.cy q i k x y;rw[List.flatMap_cons,List.length_append,List.length_cons];omega
  have ae:=TF i k r l;have aJ:=ad r;unfold mG at ae⊢;rw[List.flatMap_cons,List.length_append,List.length_cons,mul_succ];omega
theorem acj (kh:cM->azA->azC->Seen->azn->Int->Option (azC×Bool)) (ack:azn) {i:Nat} (ai:i<q.length) {l:azD} (AZ:l.length<=200) (hg:∀x∈l,fG x):
  ∀a,a<=l.length->∀(p:azC×Seen) m,p.1.length+(l.length-a)<=1000000000->l.length-a<m->
   x_ kh s q (l,true) m s q p.1 p.2 ack (i:Int) (i:Int) (a:Int)=kh s q ((lD s q i (l.drop a)).foldl h3 p).1 ((lD s q i (l.drop a)).foldl h3 p).2 ack ((i+1:Nat):Int):=by
 have aJ:=H.o0;refine down l.length ?_ ?_
 .intro p m ay hm;obtain⟨m,rfl⟩:∃j,m=j+1:=⟨m-1,by omega⟩
  simp only[x_,Qw];rw[ev (Nat.le_refl _),List.drop_of_length_le (Nat.le_refl _),cond_false,dQ i _ ai (by omega)];rfl
 .intro a bl ih p m ay hm;obtain⟨m,rfl⟩:∃j,m=j+1:=⟨m-1,by omega⟩
  have ng:=hg _ (List.getElem_mem bl);have gU:=xf ng;simp only[x_,Qw];rw[d_ bl,cond_true,dJ l a bl,bind_some,gU.read,bind_some,dQ a _ bl (by omega)];have TE:=(acd (D:=s.cw) (C:=s.cg) (M:=s.b8) (A:=s.cB) (H:=s.cy) (o:=p.1) (sn:=p.2) (Tz (H:=s.cy) gU.mF) (by omega) H.tH (by omega) ai ng.next).1;have qR:=ace (n:=eW l[a].Label) (a:=gy l[a].Label) H.sm.2.1 H.sm.2.2 (-1) [l[a].Next] i (nQ oZ p ⟨qb s.cy (eW l[a].Label) (gy l[a].Label),i,-1,q.set i l[a].Next⟩) TE;rw[qR,bind_some];have ec:lD s q i (l.drop a)=cA s.cB s.cy q i l[a]++lD s q i (l.drop (a+1)):=by unfold lD;rw[drop_cons l a bl,List.flatMap_cons]
  have aO:(cA s.cB s.cy q i l[a]).foldl h3 p=if xh s.cB (eW l[a].Label)=true then nQ oZ p ⟨qb s.cy (eW l[a].Label) (gy l[a].Label),i,-1,q.set i l[a].Next⟩else p:=by
   unfold cA;split<;>rfl
  have b2:=A1 (cA s.cB s.cy q i l[a]) p;have dA:=aca s.cB s.cy q i l[a];rw[ec,List.foldl_append,<-ih ((cA s.cB s.cy q i l[a]).foldl h3 p) m (by omega) (by omega),aO]
theorem awn (qt:cM->azA->azC->Seen->azn->Int->Option (azC×Bool)) {i:Nat} (ai:i<q.length):
  ∀k,k<=q.length->∀(p:azC×Seen) m,p.1.length+40000*(q.length-k)<=50000000->q.length-k<m->
   z7 qt q m s q p.1 p.2 al (i:Int) (k:Int) (i:Int)=qt s q ((l0 s q al i k).foldl h3 p).1 ((l0 s q al i k).foldl h3 p).2 al ((i+1:Nat):Int):=by
 have aJ:=H.o0;obtain⟨mO,iv,li,tI⟩:=H.at ai;refine down q.length ?_ ?_
 .intro p m ay hm;obtain⟨m,rfl⟩:∃j,m=j+1:=⟨m-1,by omega⟩
  simp only[z7,Qx];rw[ev (Nat.le_refl _),cond_false,dQ i _ ai (by omega)];unfold l0;rw[Nat.sub_self];rfl
 .intro k ax ih p m ay hm;obtain⟨m,rfl⟩:∃j,m=j+1:=⟨m-1,by omega⟩
  obtain⟨o4,tv,D0,L3⟩:=H.at ax;simp only[z7,Qx];rw[d_ ax,cond_true,dJ al i mO,dJ al k o4];simp only[bind_some];have aY:Qv s.cw s.cg s.b8 s.cB s.cy q p.1 p.2 (i:Int) (k:Int) al[i] al[k]=
    some (s.cw,s.cg,s.b8,s.cB,s.cy,q,((mG s q i k al[i] al[k]).foldl h3 p).1,((mG s q i k al[i] al[k]).foldl h3 p).2):=
   eY (al[i].length+1) λm2 qR=>awm H ai ax li D0 tI L3 0 (by omega) p m2 (by omega) (by omega)
  have b2:=TF (s:=s) (q:=q) i k al[k] al[i];have dA:=A1 (mG s q i k al[i] al[k]) p;have dC:al[k].length*al[i].length<=200*200:=Nat.mul_le_mul D0 li;have ec:l0 s q al i k=mG s q i k al[i] al[k]++l0 s q al i (k+1):=by
   unfold l0;rw[show q.length-k=(q.length-(k+1))+1 by omega,List.range'_succ,List.flatMap_cons,iv,tv]
  rw[aY,bind_some,dQ k _ ax (by omega),ec,List.foldl_append,<-ih _ m (by omega) (by omega)]
theorem awo {i:Nat} (ai:i<q.length):∀d k,k+d=q.length->(l0 s q al i k).length<=40000*d:=by
 intro d;induction d with
 |zero=>intro k ax;unfold l0;rw[show q.length-k=0 by omega];simp
 |succ d ih=>
  intro k ax;obtain⟨_,iv,li,_⟩:=H.at ai;obtain⟨_,tv,D0,_⟩:=H.at (i:=k) (by omega);have h:=ih (k+1) (by omega);have b2:=TF (s:=s) (q:=q) i k (al.getD k []) (al.getD i []);have dC:(al.getD k []).length*(al.getD i []).length<=200*200:=Nat.mul_le_mul (by rw[tv];exact D0) (by rw[iv];exact li);unfold l0 at h⊢;rw[show q.length-k=(q.length-(k+1))+1 by omega,List.range'_succ,List.flatMap_cons,List.length_append];omega
theorem awp:∀i,i<=q.length->∀(p:azC×Seen) m,p.1.length+120000*(q.length-i)<=10000000->q.length-i<m->
   wy q m s q p.1 p.2 al (i:Int)=some (((two s q al i).foldl h3 p).1,decide (((((two s q al i).foldl h3 p).1).length:Int)<=200)):=by
 have aJ:=H.o0;refine down q.length ?_ ?_
 .intro p m ay hm;obtain⟨m,rfl⟩:∃j,m=j+1:=⟨m-1,by omega⟩
  simp only[wy,Qy];rw[ev (Nat.le_refl _),cond_false];unfold two;rw[Nat.sub_self];rfl
 .intro i ai ih p m ay hm;obtain⟨m,rfl⟩:∃j,m=j+1:=⟨m-1,by omega⟩
  simp only[wy,Qy];rw[d_ ai,cond_true,dQ i _ ai (by omega)];have iB:bX (λn=>z7 (wy q m) q n s q p.1 p.2 al (i:Int) ((i+1:Nat):Int) (i:Int))=
    wy q m s q ((l0 s q al i (i+1)).foldl h3 p).1 ((l0 s q al i (i+1)).foldl h3 p).2 al ((i+1:Nat):Int):=
   eY (q.length+1) λm2 qR=>awn H _ ai (i+1) (by omega) p m2 (by omega) (by omega)
  have b2:=awo H ai (q.length-(i+1)) (i+1) (by omega);have dA:=A1 (l0 s q al i (i+1)) p;have ec:two s q al i=l0 s q al i (i+1)++two s q al (i+1):=by
   unfold two;rw[show q.length-i=(q.length-(i+1))+1 by omega,List.range'_succ,List.flatMap_cons]
  rw[iB,ih _ m (by omega) (by omega),ec,List.foldl_append]
theorem awq (aa:∀i (h:i<q.length),uU s.cw q[i]=some (al.getD i [],true)):∀i,i<=q.length->∀(p:azC×Seen) m,p.1.length+200*(q.length-i)<=1000->q.length-i<m->
   p1 s q m s q p.1 p.2 (al.take i) (i:Int)=
    some (((two s q al 0).foldl h3 ((one s q al i).foldl h3 p)).1,decide (((((two s q al 0).foldl h3 ((one s q al i).foldl h3 p)).1).length:Int)<=200)):=by
 have aJ:=H.o0;refine down q.length ?_ ?_
 .intro p m ay hm;obtain⟨m,rfl⟩:∃j,m=j+1:=⟨m-1,by omega⟩
  simp only[p1,GA];rw[ev (Nat.le_refl _),cond_false];have e:one s q al q.length=[]:=by unfold one;rw[Nat.sub_self];rfl
  have aU:al.take q.length=al:=by rw[<-H.l6];exact List.take_length
  rw[e,aU];exact eY (q.length+1) λm2 qR=>awp H 0 (by omega) p m2 (by omega) (by omega)
 .intro i ai ih p m ay hm;obtain⟨m,rfl⟩:∃j,m=j+1:=⟨m-1,by omega⟩
  obtain⟨mO,iv,li,tI⟩:=H.at ai;simp only[p1,GA];rw[d_ ai,cond_true,dJ q i ai,bind_some,aa i ai,bind_some,iv];simp only[Bool.not_true,cond_false];rw[ky (by simp;omega) (by simp;omega),bind_some,<-List.take_succ_eq_append_getElem mO];have iB:bX (λn=>x_ (p1 s q m) s q (al[i],true) n s q p.1 p.2 (al.take (i+1)) (i:Int) (i:Int) 0)=
    p1 s q m s q ((lD s q i al[i]).foldl h3 p).1 ((lD s q i al[i]).foldl h3 p).2 (al.take (i+1)) ((i+1:Nat):Int):=
   eY (al[i].length+1) λm2 qR=>acj H _ _ ai li tI 0 (by omega) p m2 (by omega) (by omega)
  have b1:=A1 (lD s q i al[i]) p;have dM:=L4 (s:=s) (q:=q) i al[i];have ec:one s q al i=lD s q i al[i]++one s q al (i+1):=by
   unfold one;rw[show q.length-i=(q.length-(i+1))+1 by omega,List.range'_succ,List.flatMap_cons,iv]
  rw[iB,ih _ m (by omega) (by omega),ec,List.foldl_append]
theorem awr (aa:∀i (h:i<q.length),uA s.cw q[i]=some (al.getD i [],true)):∀i,i<=q.length->∀m,q.length-i<m->
   wi q s.cw s.cg s.b8 s.cB s.cy m (al.take i) (i:Int)=
    some ((two s q al 0).foldl iM ((one s q al 0).foldl hN []),decide ((((two s q al 0).foldl iM ((one s q al 0).foldl hN [])).length:Int)<=200)):=by
 have aJ:=H.o0;refine down q.length ?_ ?_
 .intro m hm;obtain⟨m,rfl⟩:∃j,m=j+1:=⟨m-1,by omega⟩
  simp only[wi,F7];have aU:al.take q.length=al:=by rw[<-H.l6];exact List.take_length
  rw[ev (Nat.le_refl _),cond_false,aU];exact eY (q.length+1) λm2 qR=>awh H 0 (by omega) [] m2 (by simp;omega) (λx an=>by cases an) (by omega)
 .intro i ai ih m hm;obtain⟨m,rfl⟩:∃j,m=j+1:=⟨m-1,by omega⟩
  obtain⟨mO,iv,_,_⟩:=H.at ai;simp only[wi,F7];rw[d_ ai,cond_true,dJ q i ai,bind_some,aa i ai,bind_some,iv];simp only[Bool.not_true,cond_false];rw[ky (by simp;omega) (by simp;omega),bind_some,<-List.take_succ_eq_append_getElem mO,dQ i _ ai (by omega)];exact ih m (by omega)
end
end Go.l_
