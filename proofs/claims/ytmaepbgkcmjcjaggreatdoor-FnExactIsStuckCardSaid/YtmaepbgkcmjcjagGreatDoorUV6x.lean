/- Part of a proof that a law returns true for every input. No condition. -/
import Derived.Test.YtmaepbgkcmjcjagGreatDoorUV5x
namespace Go.lZ
open Option Go.IntKind Nat
open Go Go.ef
noncomputable def eW (L:axa):axa:=(sr L).getD []
noncomputable def gv (L:axa):axc:=((y_ L).getD ([],false)).1
structure wz (n:axa) (a:axc):Prop where
 j2:hx n=true
 len:a.length<=2
 Dc:(n==([116,97,117]:axa))=true->a.length=0
 km:∀x∈a,gh x
structure rT (L:axa):Prop where
 mz:wz (eW L) (gv L)
 eq:L=iw (eW L) (gv L)
theorem K3 {n:axa} {a:axc} (h:wz n a):eW (iw n a)=n/\gv (iw n a)=a:=by
 unfold eW gv;rw[aaz h.j2 h.len,aaA h.j2 h.len h.Dc h.km];exact⟨rfl,rfl⟩
theorem aaP {n:axa} {a:axc} (h:wz n a):rT (iw n a):=by
 obtain⟨aN,aU⟩:=K3 h;exact⟨by rw[aN,aU];exact h,by rw[aN,aU]⟩
theorem wA {s:a7} (h:fy s):rT s.Label:=by
 obtain⟨n,a,ad,ae,aI,bc,bY⟩:=h.shape;rw[bY];exact aaP ⟨ad,ae,aI,bc⟩
theorem rT.name {L:axa} (h:rT L):sr L=some (eW L):=by
 have:=aaz h.mz.j2 h.mz.len
 rwa [<-h.eq]at this
theorem rT.values {L:axa} (h:rT L):y_ L=some (gv L,true):=by
 have:=aaA h.mz.j2 h.mz.len h.mz.Dc h.mz.km
 rwa [<-h.eq]at this
theorem rT.read {L:axa} (h:rT L):zo L=some (eW L,gv L,true):=by
 have:=asI h.mz.j2 h.mz.len h.mz.Dc h.mz.km
 rwa [<-h.eq]at this
theorem aaQ:wz [116,97,117] []:=⟨by decide,by simp,λ_=>rfl,λx an=>by cases an⟩
def wB (H:awZ) (n:axa) (a:axc):axa×axc:=if n∈H then([116,97,117],[])else(n,a)
def p0 (H:awZ) (n:axa) (a:axc):axa:=iw (wB H n a).1 (wB H n a).2
theorem Sb {H:awZ} {n:axa} {a:axc} (h:wz n a):wz (wB H n a).1 (wB H n a).2:=by
 unfold wB;split
 .exact aaQ
 .exact h
theorem aaR (s:cJ) (nA:s.ct.length<=1048576) {L:axa} (h:rT L):Bz s L=some (p0 s.ct (eW L) (gv L)):=by
 obtain⟨⟨z,sg,_,z2⟩,_⟩:=G1 s.ct (eW L) nA;unfold Bz;rw[h.name,bind_some,sg,bind_some,z2];unfold p0 wB;by_cases hm:eW L∈s.ct
 .rw[decide_eq_true hm,if_pos hm];rfl
 .rw[decide_eq_false hm,if_neg hm,cond_false];exact congrArg some h.eq
def wC (A:awZ) (n:axa):Bool:=(n==[116,97,117])||decide (n∈A)
noncomputable def cz (A H:awZ) (q:axx) (i:Nat) (x:a7):axy:=
 if wC A (eW x.Label)=true then [⟨p0 H (eW x.Label) (gv x.Label),(i:Int),-1,q.set i x.Next⟩]else []
noncomputable def nM (M:axw) (x y:axa):axa:=rS M (jZ (rR M (hJ false x y) (hJ true x y)) 0 M.length)
noncomputable def c2 (M:axw) (A H:awZ) (q:axx) (i k:Nat) (x y:a7):axy:=
 if gv x.Label=gv y.Label/\nM M (eW x.Label) (eW y.Label)≠[]/\nM M (eW x.Label) (eW y.Label)∈A then
  [⟨p0 H (nM M (eW x.Label) (eW y.Label)) (gv x.Label),(i:Int),(k:Int),(q.set i x.Next).set k y.Next⟩]else []
theorem uQ {q:axx} (h:∀p∈q,kn p) {x:bd} (an:kn x) (i:Nat):∀p∈q.set i x,kn p:=by
 intro p ax;rcases List.mem_or_eq_of_mem_set ax with ad|rfl
 .exact h p ad
 .exact an
theorem Sc {H:awZ} {n:axa} {a:axc} (h:wz n a):(p0 H n a).length<=400/\(32:UInt8)∉p0 H n a:=by
 have g:=Sb (H:=H) h;exact RM g.j2 (by have:=g.len;omega) g.km
theorem atl {A H:awZ} {q:axx} (h:∀p∈q,kn p) {i:Nat} (ag:i<100) {x:a7} (an:fy x):∀m∈cz A H q i x,iQ q.length m:=by
 intro m hm;unfold cz at hm;split at hm
 .rw[List.mem_singleton]at hm;subst hm;exact⟨Sc (wA an).mz,⟨i,ag,rfl⟩,.inl rfl,by simp,uQ h an.next i⟩
 .cases hm
theorem aaS (A H:awZ) (q:axx) (i:Nat) (x:a7):(cz A H q i x).length<=1:=by unfold cz;split<;>simp
theorem Sd (M:axw) (A H:awZ) (q:axx) (i k:Nat) (x y:a7):(c2 M A H q i k x y).length<=1:=by unfold c2;split<;>simp
theorem G2 {s:cJ} (aE:(my s==0)=true) (x y:axa):
  (decide (jZ (rR s.b2 (hJ false x y) (hJ true x y)) 0 s.b2.length<0)=decide (nM s.b2 x y=[]))/\(nM s.b2 x y≠[]->jK (nM s.b2 x y)=true):=by
 have aC:=R_ (rR s.b2 (hJ false x y) (hJ true x y)) s.b2.length 0;unfold nM;generalize jZ (rR s.b2 (hJ false x y) (hJ true x y)) 0 s.b2.length=z at aC⊢;by_cases h:z<0
 .rw[decide_eq_true h];have e:rS s.b2 z=[]:=by unfold rS;rw[decide_eq_true h];rfl
  rw[e];exact⟨by simp,λh=>absurd rfl h⟩
 .have b9:z.toNat<s.b2.length:=by omega
  have e:rS s.b2 z=(eF s.b2 z.toNat).Result:=by unfold rS;rw[decide_eq_false h];rfl
  have aQ:=ati s aE z.toNat b9;rw[beq_eq_false_iff_ne]at aQ;rw[e,decide_eq_false h,decide_eq_false aQ];refine⟨rfl,λ_=>?_⟩;have hm:qD s.b2=true:=by
   cases h:qD s.b2
   .unfold my at aE;rw[h]at aE;revert aE;cases lM s.cq<;>cases uO s<;>simp
   .rfl
  unfold qD at hm;rw[Bool.and_eq_true]at hm;have ad:=oI.1 hm.2 z.toNat b9;unfold Ai at ad;simp only[Bool.and_eq_true]at ad;exact ad.1.1.1.2
theorem K4 {n:axa} {a:axc} (h:jK n=true) (aC:a.length<=2) (aE:∀x∈a,gh x):wz n a:=by
 unfold jK at h;rw[Bool.and_eq_true]at h;exact⟨h.1,aC,λe=>(by rw[e]at h;cases h.2),aE⟩
theorem atm {s:cJ} (aE:(my s==0)=true) (hm:s.b2.length<=1048576) (x y:axa):zr s x y=some (nM s.b2 x y,!decide (nM s.b2 x y=[])):=by
 rw[ath s hm x y _ rfl,(G2 aE x y).1];rfl
theorem Se {s:cJ} (aE:(my s==0)=true) {q:axx} (h:∀p∈q,kn p) {i k:Nat} (ag:i<100) (au:k<100) {x y:a7} (an:fy x) (hy:fy y):
  ∀m∈c2 s.b2 s.cw s.ct q i k x y,iQ q.length m:=by
 intro m hm;unfold c2 at hm;split at hm
 .rename_i ar;rw[List.mem_singleton]at hm;subst hm;have g:=(wA an).mz;exact⟨Sc (K4 ((G2 aE _ _).2 ar.2.1) g.len g.km),⟨i,ag,rfl⟩,.inr ⟨k,au,rfl⟩,by simp,uQ (uQ h an.next i) hy.next k⟩
 .cases hm
theorem atn {s:cJ} (aE:(my s==0)=true) (hm:s.b2.length<=1048576) (iL:s.cw.length<=1048576) {x y:axa} (an:rT x) (hy:rT y):
  IV s x y=some (if gv x=gv y/\nM s.b2 (eW x) (eW y)≠[]/\nM s.b2 (eW x) (eW y)∈s.cw then iw (nM s.b2 (eW x) (eW y)) (gv x)else []):=by
 have g:=an.mz;unfold IV;rw[an.values,hy.values];simp only[bind_some];rw[RO _ _ (by have:=g.len;omega),bind_some];by_cases ad:gv x=gv y
 .rw[show(gv x==gv y)=true from by rw[ad];simp];simp only[Bool.not_true,cond_false];rw[an.name,hy.name];simp only[bind_some];rw[show Fb s.b2 (eW x) (eW y)=some (nM s.b2 (eW x) (eW y))from atg _ hm _ _,bind_some];have rF:=(G2 aE (eW x) (eW y)).2;generalize nM s.b2 (eW x) (eW y)=r at rF⊢;by_cases ae:r=[]
  .rw[if_neg (λc=>c.2.1 ae),ae];rfl
  .rw[show(r==([]:axa))=false from by simpa using ae,cond_false];obtain⟨⟨z,sg,z2,_⟩,_⟩:=G1 s.cw r iL;rw[sg,bind_some,z2];by_cases aI:r∈s.cw
   .rw[decide_eq_true aI,if_pos ⟨ad,ae,aI⟩];have Aj:=K4 (rF ae) g.len g.km;have x1:r.length<=10:=by have:=Aj.j2;simp only[hx,Bool.and_eq_true,decide_eq_true_eq]at this;exact this.1
    rw[Bool.not_true,cond_false,Z_ r (gv x) x1 (by have:=g.len;omega) g.km];rfl
   .rw[decide_eq_false aI,if_neg (λc=>aI c.2.2)];rfl
 .rw[show(gv x==gv y)=false from by simpa using ad,if_neg (λc=>ad c.1)];rfl
theorem aaT {n:Nat} {D:axu} {C:axv} {M:axw} {A H:awZ} {q:axx} {o:axy} {sn:awY} (m:bh) (hm:iQ n m) (aS:n<=100) (bH:o.length<=1000000000):
  Ch m.nC m.Second D C M A H q o sn m.Label m.State=some (D,C,M,A,H,q,(nL oL (o,sn) m).1,(nL oL (o,sn) m).2):=by
 obtain⟨i,ag,ia⟩:=hm.fst;obtain⟨s1,s2,_⟩:=R5 hm.snd;have ad:=wa i;have ae:=hm.Ab.1;have aI:=aaD hm.st.2;have bc:=hm.st.1;have al:ra m.nC=some (iR m.nC.toNat):=by rw[ia,Int.toNat_natCast];exact zU i ag
 have hq:(iR m.nC.toNat).length<=2:=by rw[ia,Int.toNat_natCast];exact ad
 unfold Ch;rw[al,s1,asO (by omega) hm.st.2,l_ (by omega)];simp only[bind_some];rw[l_ (by simp only[List.length_append,List.length_cons,List.length_nil];omega),bind_some,l_ (by simp only[List.length_append,List.length_cons,List.length_nil];omega),bind_some,l_ (by simp only[List.length_append,List.length_cons,List.length_nil];omega),bind_some,
  l_ (by simp only[List.length_append,List.length_cons,List.length_nil];omega),bind_some,l_ (by simp only[List.length_append,List.length_cons,List.length_nil];omega),bind_some]
 show cond (!(jL (oL m) sn)) _ _=_;unfold nL;cases hg:jL (oL m) sn
 .rw[lK (by omega) (by omega)];simp only[hg];rfl
 .simp only[hg];rfl
theorem aaU {D:axu} {C:axv} {M:axw} {A H:awZ} {q:axx} {o:axy} {sn:awY} {n:axa} {a:axc} (aS:wz n a) (cx:q.length<=100) (h:∀p∈q,kn p)
  (bH:o.length<=1000000000) {i:Nat} (ag:i<q.length) {p:bd} (ax:kn p):
  (ql (i:Int) (-1) [p] D C M A H q o sn n a=some (D,C,M,A,H,q,(nL oL (o,sn) ⟨iw n a,i,-1,q.set i p⟩).1,(nL oL (o,sn) ⟨iw n a,i,-1,q.set i p⟩).2))/\
  ∀(k:Nat) (r:bd),k<q.length->kn r->
   ql (i:Int) (k:Int) [p,r] D C M A H q o sn n a=some (D,C,M,A,H,q,(nL oL (o,sn) ⟨iw n a,i,k,(q.set i p).set k r⟩).1,(nL oL (o,sn) ⟨iw n a,i,k,(q.set i p).set k r⟩).2):=by
 have KV:=RM aS.j2 (by have:=aS.len;omega) aS.km;constructor
 .unfold ql;rw[GY n a aS.j2 aS.len aS.Dc aS.km,(Db cx h).2];simp only[bind_some];rw[show bm [p] 0=some p from rfl,bind_some,Sa ax,dM _ i ag];simp only[bind_some,Int.toNat_natCast];rw[show decide ((0:Int)<=-1)=false from rfl,cond_false];exact aaT (n:=q.length) ⟨iw n a,i,-1,q.set i p⟩ ⟨KV,⟨i,by omega,rfl⟩,.inl rfl,by simp,uQ h ax i⟩ cx bH
 .intro k r au aQ;unfold ql;rw[GY n a aS.j2 aS.len aS.Dc aS.km,(Db cx h).2];simp only[bind_some];rw[show bm [p,r] 0=some p from rfl,bind_some,Sa ax,dM _ i ag];simp only[bind_some,Int.toNat_natCast];rw[show decide ((0:Int)<=(k:Int))=true from decide_eq_true (by omega),cond_true,show bm [p,r] 1=some r from rfl,bind_some,Sa aQ,dM _ k (by simpa using au)];simp only[bind_some];exact aaT (n:=q.length) ⟨iw n a,i,k,(q.set i p).set k r⟩ ⟨KV,⟨i,by omega,rfl⟩,.inr ⟨k,by omega,rfl⟩,by simp,uQ (uQ h ax i) aQ k⟩ cx bH
theorem aaV {D:axu} {C:axv} {M:axw} {A H:awZ} {q:axx} {o:axy} {sn:awY} {n:axa} {a:axc} (iL:A.length<=1048576) (nA:H.length<=1048576) (k:Int) (ps:axx) (i:Nat)
  (r:axy×awY) (au:ql (i:Int) k ps D C M A H q o sn (wB H n a).1 (wB H n a).2=some (D,C,M,A,H,q,r.1,r.2)):
  Ci D C M A H q o sn n a (i:Int) k ps=some (D,C,M,A,H,q,(if wC A n=true then r else(o,sn)).1,(if wC A n=true then r else(o,sn)).2):=by
 have aN:=(G1 A n iL).2;have aU:=(G1 H n nA).2;have ar:∀x,cond (decide (n∈H)) (ql (i:Int) k ps D C M A H q o sn ([116,97,117]:axa) []) (ql (i:Int) k ps D C M A H q o sn n a)=x↔some (D,C,M,A,H,q,r.1,r.2)=x:=by
  intro x;rw[<-au];unfold wB;by_cases h:n∈H
  .rw[decide_eq_true h,if_pos h];exact Iff.rfl
  .rw[decide_eq_false h,if_neg h];exact Iff.rfl
 unfold Ci wC;rw[aN,aU];simp only[bind_some];cases aZ:n==([116,97,117]:axa)
 .simp only[Bool.not_false,cond_true,Bool.false_or];by_cases h:n∈A
  .rw[decide_eq_true h];simp only[Bool.not_true,cond_false,if_true];exact(ar _).2 rfl
  .rw[decide_eq_false h];simp
 .simp only[Bool.not_true,cond_false,Bool.true_or,if_true];exact(ar _).2 rfl
theorem ato {L:axa} (h:rT L):(L==([116,97,117]:axa))=(eW L==[116,97,117]):=by
 rw[Bool.eq_iff_iff,beq_iff_eq,beq_iff_eq];constructor
 .intro e;have:L=iw [116,97,117] []:=e;rw[this];exact(K3 aaQ).1
 .intro e;have ae:=h.mz.Dc (by rw[e];rfl);have aI:gv L=[]:=List.length_eq_zero_iff.1 ae;rw[h.eq,e,aI];rfl
theorem aaW {n:Nat} {o:axy} {m:bh} (bH:o.length<=1000) (hg:∀x∈o,iQ n x) (hm:iQ n m):(iB o m).length<=1000/\∀x∈iB o m,iQ n x:=by
 unfold iB;split
 .exact⟨bH,hg⟩
 .have:=RZ o m;exact⟨by omega,λx an=>(KZ an).elim (hg x) λe=>e▸hm⟩
theorem K5 {n:Nat}:∀(l o:axy),o.length<=1000->(∀x∈o,iQ n x)->(∀x∈l,iQ n x)->(l.foldl iB o).length<=1000/\∀x∈l.foldl iB o,iQ n x
 |[],o,bH,hg,_=>⟨bH,hg⟩
 |s::r,o,bH,hg,aC=>by
  obtain⟨ad,ae⟩:=aaW bH hg (aC s (by simp));exact K5 r _ ad ae λx an=>aC x (List.mem_cons_of_mem _ an)
theorem K6 {n:Nat}:∀(l o:axy),(∀x∈o,iQ n x)->(∀x∈l,iQ n x)->∀x∈l.foldl hI o,iQ n x
 |[],o,hg,_=>hg
 |s::r,o,hg,aC=>K6 r _ (λx an=>(KZ an).elim (hg x) λe=>e▸aC s (by simp)) λx an=>aC x (List.mem_cons_of_mem _ an)
structure tf (s:cJ) (q:axx) (ak:axl):Prop where
 Ak:(my s==0)=true
 sm:s.b2.length<=1048576/\s.cw.length<=1048576/\s.ct.length<=1048576
 oM:q.length<=3
 tg:∀p∈q,kn p
 lT:ak.length=q.length
 gs:∀l∈ak,l.length<=200/\∀x∈l,fy x
noncomputable def lo (s:cJ) (q:axx) (i:Nat) (l:axz):axy:=l.flatMap (cz s.cw s.ct q i)
noncomputable def mA (s:cJ) (q:axx) (i k:Nat) (l r:axz):axy:=l.flatMap λx=>r.flatMap (c2 s.b2 s.cw s.ct q i k x)
noncomputable def lN (s:cJ) (q:axx) (ak:axl) (i k:Nat):axy:=(List.range' k (q.length-k)).flatMap λk=>mA s q i k (ak.getD i []) (ak.getD k [])
noncomputable def one (s:cJ) (q:axx) (ak:axl) (i:Nat):axy:=(List.range' i (q.length-i)).flatMap λi=>lo s q i (ak.getD i [])
noncomputable def two (s:cJ) (q:axx) (ak:axl) (i:Nat):axy:=(List.range' i (q.length-i)).flatMap λi=>lN s q ak i (i+1)
section
variable {s:cJ} {q:axx} {ak:axl} (H:tf s q ak)
include H
theorem tf.at {i:Nat} (ag:i<q.length):∃h:i<ak.length,ak.getD i []=ak[i]/\ak[i].length<=200/\∀x∈ak[i],fy x:=by
 have h:i<ak.length:=by rw[H.lT];exact ag
 exact⟨h,by simp[List.getD,h],H.gs _ (List.getElem_mem h)⟩
theorem tf.g1 {i:Nat} (ag:i<q.length) {l:axz} (aC:∀x∈l,fy x):∀m∈lo s q i l,iQ q.length m:=by
 intro m hm;unfold lo at hm;obtain⟨x,an,hm⟩:=List.mem_flatMap.1 hm;exact atl H.tg (by have:=H.oM;omega) (aC x an) m hm
theorem tf.g2 {i k:Nat} (ag:i<q.length) (au:k<q.length) {l r:axz} (aC:∀x∈l,fy x) (aQ:∀x∈r,fy x):∀m∈mA s q i k l r,iQ q.length m:=by
 intro m hm;unfold mA at hm;obtain⟨x,an,hm⟩:=List.mem_flatMap.1 hm;obtain⟨y,hy,hm⟩:=List.mem_flatMap.1 hm;exact Se H.Ak H.tg (by have:=H.oM;omega) (by have:=H.oM;omega) (aC x an) (aQ y hy) m hm
theorem tf.g3 {i k:Nat} (ag:i<q.length):∀m∈lN s q ak i k,iQ q.length m:=by
 intro m hm;unfold lN at hm;obtain⟨j,bE,hm⟩:=List.mem_flatMap.1 hm;rw[List.mem_range'_1]at bE;obtain⟨_,aN,_,f1⟩:=H.at ag;obtain⟨_,aU,_,f2⟩:=H.at (i:=j) (by omega);rw[aN,aU]at hm;exact H.g2 ag (by omega) f1 f2 m hm
theorem tf.gone {i:Nat}:∀m∈one s q ak i,iQ q.length m:=by
 intro m hm;unfold one at hm;obtain⟨j,bE,hm⟩:=List.mem_flatMap.1 hm;rw[List.mem_range'_1]at bE;obtain⟨_,aN,_,f1⟩:=H.at (i:=j) (by omega);rw[aN]at hm;exact H.g1 (by omega) f1 m hm
theorem tf.aaX {i:Nat}:∀m∈two s q ak i,iQ q.length m:=by
 intro m hm;unfold two at hm;obtain⟨j,bE,hm⟩:=List.mem_flatMap.1 hm;rw[List.mem_range'_1]at bE;exact H.g3 (by omega) m hm
theorem atp (qi:axy->axl->Int->Option (axy×Bool)) {i:Nat} (ag:i<q.length) {l:axz} (aC:bm ak (i:Int)=some l) (Al:l.length<=200) (hg:∀x∈l,fy x):
  ∀a,a<=l.length->∀(o:axy) m,o.length+(l.length-a)<=1000000->(∀x∈o,iQ q.length x)->l.length-a<m->
   xm qi q s.cq s.b_ s.b2 s.cw s.ct m o ak (i:Int) (a:Int)=qi ((lo s q i (l.drop a)).foldl hI o) ak ((i+1:Nat):Int):=by
 have aI:=H.oM;refine down l.length ?_ ?_
 .intro o m bH h5 hm;obtain⟨m,rfl⟩:∃j,m=j+1:=⟨m-1,by omega⟩
  simp only[xm,Om];rw[aC,bind_some,eL (Nat.le_refl _),List.drop_of_length_le (Nat.le_refl _),cond_false,d_ i _ ag (by omega)];rfl
 .intro a bl ih o m bH h5 hm;obtain⟨m,rfl⟩:∃j,m=j+1:=⟨m-1,by omega⟩
  have nc:=hg _ (List.getElem_mem bl);have gS:=wA nc;simp only[xm,Om,Fe];rw[aC,bind_some,el bl,cond_true,dM l a bl,bind_some,ato gS,gS.name,bind_some,(Db (by omega) H.tg).1,d_ a _ bl (by omega)];obtain⟨⟨z,sg,z2,_⟩,_⟩:=G1 s.cw (eW l[a].Label) H.sm.2.1;rw[sg];simp only[bind_some,Int.toNat_natCast];rw[z2,dM q i ag,aaR (cJ.mk s.cq s.b_ s.b2 s.cw s.ct) H.sm.2.2 gS];simp only[bind_some];rw[(Db (by simp;omega) (uQ H.tg nc.next i)).1,bind_some];have lP:y7 o ⟨p0 s.ct (eW l[a].Label) (gv l[a].Label),(i:Int),-1,q.set i l[a].Next⟩=some (hI o ⟨p0 s.ct (eW l[a].Label) (gv l[a].Label),(i:Int),-1,q.set i l[a].Next⟩):=aaO o _ (by omega) (by omega) h5;have ec:lo s q i (l.drop a)=cz s.cw s.ct q i l[a]++lo s q i (l.drop (a+1)):=by unfold lo;rw[drop_cons l a bl,List.flatMap_cons]
  rw[lP,ec,List.foldl_append];have nd:cz s.cw s.ct q i l[a]=if wC s.cw (eW l[a].Label)=true then [⟨p0 s.ct (eW l[a].Label) (gv l[a].Label),(i:Int),-1,q.set i l[a].Next⟩]else []:=rfl;have Dd:iQ q.length ⟨p0 s.ct (eW l[a].Label) (gv l[a].Label),(i:Int),-1,q.set i l[a].Next⟩:=⟨Sc gS.mz,⟨i,by omega,rfl⟩,.inl rfl,by simp,uQ H.tg nc.next i⟩
  have hle:=RZ o ⟨p0 s.ct (eW l[a].Label) (gv l[a].Label),(i:Int),-1,q.set i l[a].Next⟩;rw[nd];unfold wC;cases eW l[a].Label==[116,97,117]
  .by_cases iL:eW l[a].Label∈s.cw
   .simp only[decide_eq_true iL,Bool.not_false,Bool.not_true,Bool.false_or,if_true,cond_true,cond_false,bind_some,List.foldl_cons,List.foldl_nil];exact ih _ m (by omega) (λx an=>(KZ an).elim (h5 x) λe=>by rw[e];exact Dd) (by omega)
   .simp only[decide_eq_false iL,Bool.not_false,Bool.false_or,cond_true,List.foldl_nil,Bool.false_eq_true,if_false];exact ih _ m (by omega) h5 (by omega)
  .simp only[Bool.not_true,cond_false,Bool.true_or,if_true,bind_some,List.foldl_cons,List.foldl_nil];exact ih _ m (by omega) (λx an=>(KZ an).elim (h5 x) λe=>by rw[e];exact Dd) (by omega)
theorem atq (h8:axy->axl->Int->Option (axy×Bool)) (kE:axy->axl->Int->Int->Option (axy×Bool)) (pF:axy->axl->Int->Int->Int->Option (axy×Bool))
  {i k:Nat} (ag:i<q.length) (au:k<q.length) {l r:axz} (aC:bm ak (i:Int)=some l) (aQ:bm ak (k:Int)=some r) (Al:l.length<=200) (w3:r.length<=200) (wD:∀x∈l,fy x) (x7:∀x∈r,fy x) {a:Nat} (bl:a<l.length):
  ∀b,b<=r.length->∀(o:axy) m,o.length<=1000->(∀x∈o,iQ q.length x)->r.length-b<m->
   tX h8 kE pF q s.cq s.b_ s.b2 s.cw s.ct m o ak (i:Int) (k:Int) (a:Int) (b:Int)=
    pF (((r.drop b).flatMap (c2 s.b2 s.cw s.ct q i k l[a])).foldl iB o) ak (i:Int) (k:Int) ((a+1:Nat):Int):=by
 have aI:=H.oM;have C8:∀b (o:axy) m,b<=r.length->200<o.length->tX h8 kE pF q s.cq s.b_ s.b2 s.cw s.ct (m+1) o ak (i:Int) (k:Int) (a:Int) (b:Int)=
    pF (((r.drop b).flatMap (c2 s.b2 s.cw s.ct q i k l[a])).foldl iB o) ak (i:Int) (k:Int) ((a+1:Nat):Int):=by
  intro b o m ab bH;simp only[tX,IY];rw[aQ,bind_some,show decide ((o.length:Int)<=200)=false from decide_eq_false (by omega),Bool.and_false,cond_false,R1 _ _ bH,d_ a _ bl (by omega)]
 refine down r.length ?_ ?_
 .intro o m bH h5 hm;obtain⟨m,rfl⟩:∃j,m=j+1:=⟨m-1,by omega⟩
  simp only[tX,IY];rw[aQ,bind_some,eL (Nat.le_refl _),List.drop_of_length_le (Nat.le_refl _),Bool.false_and,cond_false,d_ a _ bl (by omega)];rfl
 .intro b ab ih o m bH h5 hm;obtain⟨m,rfl⟩:∃j,m=j+1:=⟨m-1,by omega⟩
  by_cases aaY:200<o.length
  .exact C8 b o m (by omega) aaY
  have nc:=wD _ (List.getElem_mem bl);have tr:=x7 _ (List.getElem_mem ab);have Am:=wA nc;have atr:=wA tr;simp only[tX,IY,IW];rw[aQ,bind_some,el ab,show decide ((o.length:Int)<=200)=true from decide_eq_true (by omega),Bool.and_self,cond_true,aC,bind_some,dM l a bl,bind_some,dM r b ab,bind_some,
   atn (s:=cJ.mk s.cq s.b_ s.b2 s.cw s.ct) H.Ak H.sm.1 H.sm.2.1 Am atr,bind_some,(Db (by omega) H.tg).1,bind_some,d_ b _ ab (by omega),dM q i ag,bind_some,drop_cons r b ab,List.flatMap_cons,List.foldl_append]
  have Dd:=Se H.Ak H.tg (i:=i) (k:=k) (by omega) (by omega) nc tr;simp only[Int.toNat_natCast];unfold c2 at Dd⊢;by_cases ar:gv l[a].Label=gv r[b].Label/\nM s.b2 (eW l[a].Label) (eW r[b].Label)≠[]/\nM s.b2 (eW l[a].Label) (eW r[b].Label)∈s.cw
  .rw[if_pos ar]at Dd⊢;rw[if_pos ar];have Aj:=K4 ((G2 H.Ak (eW l[a].Label) (eW r[b].Label)).2 ar.2.1) Am.mz.len Am.mz.km;have dQ:(iw (nM s.b2 (eW l[a].Label) (eW r[b].Label)) (gv l[a].Label)==([]:axa))=false:=by
    rw[beq_eq_false_iff_ne];intro e;have aU:=(K3 Aj).1;rw[e]at aU;have aR:eW ([]:axa)=[]:=by
     have:sr []=some []:=by unfold sr;rw[(GV [] (by simp)).1 (by simp)];rfl
     unfold eW;rw[this];rfl
    exact ar.2.1 (aU.symm.trans aR)
   obtain⟨aN,aU⟩:=K3 Aj;rw[dQ,cond_false,dM _ k (by simpa using au),bind_some,aaR (cJ.mk s.cq s.b_ s.b2 s.cw s.ct) H.sm.2.2 (aaP Aj),bind_some,aN,aU,
    (Db (by simp;omega) (uQ (uQ H.tg nc.next i) tr.next k)).1,bind_some,aaO (n:=q.length) o _ (by omega) (by omega) h5,bind_some,List.foldl_cons,List.foldl_nil]
   have aaZ:∀x:bh,iB o x=hI o x:=λx=>by unfold iB;rw[if_neg aaY]
   rw[aaZ];have tJ:=aaW bH h5 (Dd _ (List.mem_singleton.2 rfl));rw[aaZ]at tJ;exact ih _ m tJ.1 tJ.2 (by omega)
  .rw[if_neg ar,if_neg ar,beq_self_eq_true,cond_true];exact ih _ m bH h5 (by omega)
theorem ats (h8:axy->axl->Int->Option (axy×Bool)) (kE:axy->axl->Int->Int->Option (axy×Bool))
  {i k:Nat} (ag:i<q.length) (au:k<q.length) {l r:axz} (aC:bm ak (i:Int)=some l) (aQ:bm ak (k:Int)=some r) (Al:l.length<=200) (w3:r.length<=200) (wD:∀x∈l,fy x) (x7:∀x∈r,fy x):
  ∀a,a<=l.length->∀(o:axy) m,o.length<=1000->(∀x∈o,iQ q.length x)->l.length-a<m->
   q5 h8 kE q s.cq s.b_ s.b2 s.cw s.ct m o ak (i:Int) (k:Int) (a:Int)=kE ((mA s q i k (l.drop a) r).foldl iB o) ak (i:Int) ((k+1:Nat):Int):=by
 have aI:=H.oM;refine down l.length ?_ ?_
 .intro o m bH h5 hm;obtain⟨m,rfl⟩:∃j,m=j+1:=⟨m-1,by omega⟩
  simp only[q5,On];rw[aC,bind_some,eL (Nat.le_refl _),List.drop_of_length_le (Nat.le_refl _),cond_false,d_ k _ au (by omega)];rfl
 .intro a bl ih o m bH h5 hm;obtain⟨m,rfl⟩:∃j,m=j+1:=⟨m-1,by omega⟩
  simp only[q5,On];rw[aC,bind_some,el bl,cond_true];have iu:b6 (λn=>tX h8 kE (q5 h8 kE q s.cq s.b_ s.b2 s.cw s.ct m) q s.cq s.b_ s.b2 s.cw s.ct n o ak (i:Int) (k:Int) (a:Int) 0)=
    q5 h8 kE q s.cq s.b_ s.b2 s.cw s.ct m ((r.flatMap (c2 s.b2 s.cw s.ct q i k l[a])).foldl iB o) ak (i:Int) (k:Int) ((a+1:Nat):Int):=
   fa (r.length+1) λm2 qE=>atq H h8 kE _ ag au aC aQ Al w3 wD x7 bl 0 (by omega) o m2 bH h5 (by omega)
  have att:∀x∈r.flatMap (c2 s.b2 s.cw s.ct q i k l[a]),iQ q.length x:=λx an=>by
   obtain⟨y,hy,an⟩:=List.mem_flatMap.1 an;exact Se H.Ak H.tg (by omega) (by omega) (wD _ (List.getElem_mem bl)) (x7 y hy) x an
  obtain⟨bX,cN⟩:=K5 _ o bH h5 att;have ec:mA s q i k (l.drop a) r=r.flatMap (c2 s.b2 s.cw s.ct q i k l[a])++mA s q i k (l.drop (a+1)) r:=by unfold mA;rw[drop_cons l a bl,List.flatMap_cons]
  rw[iu,ih _ m bX cN (by omega),ec,List.foldl_append]
theorem atu (h8:axy->axl->Int->Option (axy×Bool)) {i:Nat} (ag:i<q.length):
  ∀k,k<=q.length->∀(o:axy) m,o.length<=1000->(∀x∈o,iQ q.length x)->q.length-k<m->
   oA h8 q s.cq s.b_ s.b2 s.cw s.ct m o ak (i:Int) (k:Int)=h8 ((lN s q ak i k).foldl iB o) ak ((i+1:Nat):Int):=by
 have aI:=H.oM;obtain⟨mH,ia,li,th⟩:=H.at ag;refine down q.length ?_ ?_
 .intro o m bH h5 hm;obtain⟨m,rfl⟩:∃j,m=j+1:=⟨m-1,by omega⟩
  simp only[oA,Oo];rw[eL (Nat.le_refl _),cond_false,d_ i _ ag (by omega)];unfold lN;rw[Nat.sub_self];rfl
 .intro k au ih o m bH h5 hm;obtain⟨m,rfl⟩:∃j,m=j+1:=⟨m-1,by omega⟩
  obtain⟨oS,s6,De,K7⟩:=H.at au;simp only[oA,Oo];rw[el au,cond_true];have iu:b6 (λn=>q5 h8 (oA h8 q s.cq s.b_ s.b2 s.cw s.ct m) q s.cq s.b_ s.b2 s.cw s.ct n o ak (i:Int) (k:Int) 0)=
    oA h8 q s.cq s.b_ s.b2 s.cw s.ct m ((mA s q i k ak[i] ak[k]).foldl iB o) ak (i:Int) ((k+1:Nat):Int):=
   fa (ak[i].length+1) λm2 qE=>ats H h8 _ ag au (dM ak i mH) (dM ak k oS) li De th K7 0 (by omega) o m2 bH h5 (by omega)
  obtain⟨bX,cN⟩:=K5 _ o bH h5 (H.g2 ag au th K7);have ec:lN s q ak i k=mA s q i k ak[i] ak[k]++lN s q ak i (k+1):=by
   unfold lN;rw[show q.length-k=(q.length-(k+1))+1 by omega,List.range'_succ,List.flatMap_cons,ia,s6]
  rw[iu,ih _ m bX cN (by omega),ec,List.foldl_append]
theorem atv:∀i,i<=q.length->∀(o:axy) m,o.length<=1000->(∀x∈o,iQ q.length x)->q.length-i<m->
   lE q s.cq s.b_ s.b2 s.cw s.ct m o ak (i:Int)=some ((two s q ak i).foldl iB o,decide ((((two s q ak i).foldl iB o).length:Int)<=200)):=by
 have aI:=H.oM;refine down q.length ?_ ?_
 .intro o m bH h5 hm;obtain⟨m,rfl⟩:∃j,m=j+1:=⟨m-1,by omega⟩
  simp only[lE,Oq];rw[eL (Nat.le_refl _),cond_false];unfold two;rw[Nat.sub_self];rfl
 .intro i ag ih o m bH h5 hm;obtain⟨m,rfl⟩:∃j,m=j+1:=⟨m-1,by omega⟩
  simp only[lE,Oq];rw[el ag,cond_true,d_ i _ ag (by omega)];have iu:b6 (λn=>oA (lE q s.cq s.b_ s.b2 s.cw s.ct m) q s.cq s.b_ s.b2 s.cw s.ct n o ak (i:Int) ((i+1:Nat):Int))=
    lE q s.cq s.b_ s.b2 s.cw s.ct m ((lN s q ak i (i+1)).foldl iB o) ak ((i+1:Nat):Int):=
   fa (q.length+1) λm2 qE=>atu H _ ag (i+1) (by omega) o m2 bH h5 (by omega)
  obtain⟨bX,cN⟩:=K5 _ o bH h5 (H.g3 (k:=i+1) ag);have ec:two s q ak i=lN s q ak i (i+1)++two s q ak (i+1):=by
   unfold two;rw[show q.length-i=(q.length-(i+1))+1 by omega,List.range'_succ,List.flatMap_cons]
  rw[iu,ih _ m bX cN (by omega),ec,List.foldl_append]
omit H in
theorem K8 (i:Nat):∀l:axz,(lo s q i l).length<=l.length
 |[]=>Nat.le_refl _
 |x::r=>by
  have ad:=aaS s.cw s.ct q i x;have ae:=K8 i r;unfold lo at ae⊢;rw[List.flatMap_cons,List.length_append,List.length_cons];omega
theorem atw:∀i,i<=q.length->∀(o:axy) m,o.length+200*(q.length-i)<=1000->(∀x∈o,iQ q.length x)->q.length-i<m->
   sy q s.cq s.b_ s.b2 s.cw s.ct m o ak (i:Int)=
    some ((two s q ak 0).foldl iB ((one s q ak i).foldl hI o),decide ((((two s q ak 0).foldl iB ((one s q ak i).foldl hI o)).length:Int)<=200)):=by
 have aI:=H.oM;refine down q.length ?_ ?_
 .intro o m bH h5 hm;obtain⟨m,rfl⟩:∃j,m=j+1:=⟨m-1,by omega⟩
  simp only[sy,Ot];rw[eL (Nat.le_refl _),cond_false];have e:one s q ak q.length=[]:=by unfold one;rw[Nat.sub_self];rfl
  rw[e];exact fa (q.length+1) λm2 qE=>atv H 0 (by omega) o m2 (by omega) h5 (by omega)
 .intro i ag ih o m bH h5 hm;obtain⟨m,rfl⟩:∃j,m=j+1:=⟨m-1,by omega⟩
  obtain⟨mH,ia,li,th⟩:=H.at ag;simp only[sy,Ot];rw[el ag,cond_true];have iu:b6 (λn=>xm (sy q s.cq s.b_ s.b2 s.cw s.ct m) q s.cq s.b_ s.b2 s.cw s.ct n o ak (i:Int) 0)=
    sy q s.cq s.b_ s.b2 s.cw s.ct m ((lo s q i ak[i]).foldl hI o) ak ((i+1:Nat):Int):=
   fa (ak[i].length+1) λm2 qE=>atp H _ ag (dM ak i mH) li th 0 (by omega) o m2 (by omega) h5 (by omega)
  have bX:=(R0 (lo s q i ak[i]) o).2;have dH:=K8 (s:=s) (q:=q) i ak[i];have ec:one s q ak i=lo s q i ak[i]++one s q ak (i+1):=by
   unfold one;rw[show q.length-i=(q.length-(i+1))+1 by omega,List.range'_succ,List.flatMap_cons,ia]
  rw[iu,ih _ m (by omega) (K6 _ o h5 (H.g1 ag th)) (by omega),ec,List.foldl_append]
end
theorem atx (a b:axc) (h:a.length<=1048576):FI a b=some (a==b):=by
 unfold FI;by_cases aC:a.length=b.length
 .have e:((a.length:Int) !=(b.length:Int))=false:=by simp[aC]
  rw[e,cond_false];have:=pW (n:=a.length) (l:=Ck a b) (λi=>some (a.drop i==b.drop i)) (λm=>?_) (λi ag m ih=>?_)
  .simpa using this
  .simp only[Ck,Pu];rw[eL (Nat.le_refl _),List.drop_of_length_le (Nat.le_refl _),List.drop_of_length_le (by omega)];rfl
  .simp only[Ck,Pu];rw[el ag,dM _ i ag,dM _ i (by omega),d_ i _ ag (by omega),drop_cons a i ag,drop_cons b i (by omega),List.cons_beq_cons];simp only[cond_true,bind_some,ih,bne];cases a[i]==b[i]
   .rfl
   .simp
 .have e:((a.length:Int) !=(b.length:Int))=true:=by simp;omega
  have aU:(a==b)=false:=by
   rw[beq_eq_false_iff_ne];intro h;exact aC (by rw[h])
  rw[e,cond_true,aU]
abbrev Seen:=awY
noncomputable abbrev h1:axy×Seen->bh->axy×Seen:=nL oL
theorem An (l:axy) (p:axy×Seen):(l.foldl h1 p).1.length<=p.1.length+l.length:=aaC oL l p
section
variable {s:cJ} {q:axx} {ak:axl} (H:tf s q ak)
include H
theorem aty {i k:Nat} (ag:i<q.length) (au:k<q.length) {x y:a7} (nc:fy x) (tr:fy y) (p:axy×Seen) (ax:p.1.length<=1000000000) {β:Type}
  (K:axu->axv->axw->awZ->awZ->axx->axy->Seen->Option β):
  ((zr (cJ.mk s.cq s.b_ s.b2 s.cw s.ct) (eW x.Label) (eW y.Label)).bind λbo=>cond bo.2 ((FI (gv x.Label) (gv y.Label)).bind λbD=>cond bD
    ((Ci s.cq s.b_ s.b2 s.cw s.ct q p.1 p.2 bo.1 (gv x.Label) (i:Int) (k:Int) [x.Next,y.Next]).bind λbj=>K bj.1 bj.2.1 bj.2.2.1 bj.2.2.2.1 bj.2.2.2.2.1 bj.2.2.2.2.2.1 bj.2.2.2.2.2.2.1 bj.2.2.2.2.2.2.2)
    (K s.cq s.b_ s.b2 s.cw s.ct q p.1 p.2)) (K s.cq s.b_ s.b2 s.cw s.ct q p.1 p.2))=
  K s.cq s.b_ s.b2 s.cw s.ct q ((c2 s.b2 s.cw s.ct q i k x y).foldl h1 p).1 ((c2 s.b2 s.cw s.ct q i k x y).foldl h1 p).2:=by
 have aI:=H.oM;have Am:=wA nc;rw[show zr (cJ.mk s.cq s.b_ s.b2 s.cw s.ct) (eW x.Label) (eW y.Label)=_ from atm H.Ak H.sm.1 _ _,bind_some];have rF:=(G2 H.Ak (eW x.Label) (eW y.Label)).2;unfold c2;simp only;generalize nM s.b2 (eW x.Label) (eW y.Label)=jP at rF⊢;by_cases ae:jP=[]
 .rw[decide_eq_true ae,if_neg (λc=>c.2.1 ae)];rfl
 .rw[decide_eq_false ae,Bool.not_false,cond_true,atx _ _ (by have:=Am.mz.len;omega),bind_some];by_cases ad:gv x.Label=gv y.Label
  .rw[show(gv x.Label==gv y.Label)=true from by rw[ad];simp,cond_true];have Aj:=K4 (rF ae) Am.mz.len Am.mz.km;have Sf:=(aaU (D:=s.cq) (C:=s.b_) (M:=s.b2) (A:=s.cw) (H:=s.ct) (o:=p.1) (sn:=p.2) (Sb (H:=s.ct) Aj) (by omega) H.tg ax ag nc.next).2 k y.Next au tr.next;have hm:=aaV (n:=jP) (a:=gv x.Label) H.sm.2.1 H.sm.2.2 (k:Int) [x.Next,y.Next] i (nL oL p ⟨p0 s.ct jP (gv x.Label),i,k,(q.set i x.Next).set k y.Next⟩) Sf;rw[hm,bind_some];have ny:(jP==([116,97,117]:axa))=false:=by
    have:=rF ae;unfold jK at this;rw[Bool.and_eq_true]at this;simpa using this.2
   have bH:wC s.cw jP=decide (jP∈s.cw):=by unfold wC;rw[ny,Bool.false_or]
   rw[bH];by_cases bc:jP∈s.cw
   .rw[if_pos (decide_eq_true bc),if_pos ⟨ad,ae,bc⟩];rfl
   .rw[if_neg (by simpa using bc),if_neg (λc=>bc c.2.2)];rfl
  .rw[show(gv x.Label==gv y.Label)=false from by simpa using ad,cond_false,if_neg (λc=>ad c.1)];rfl
theorem atz (dH:axu->axv->axw->awZ->awZ->axx->axy->Seen->Int->Option (axu×axv×axw×awZ×awZ×axx×axy×Seen))
  {i k:Nat} (ag:i<q.length) (au:k<q.length) {l r:axz} (Al:l.length<=200) (w3:r.length<=200) (wD:∀x∈l,fy x) (x7:∀x∈r,fy x) {a:Nat} (bl:a<l.length):
  ∀b,b<=r.length->∀(p:axy×Seen) m,p.1.length+(r.length-b)<=1000000000->r.length-b<m->
   vD dH (i:Int) (k:Int) l r l[a] (eW l[a].Label,gv l[a].Label,true) m s.cq s.b_ s.b2 s.cw s.ct q p.1 p.2 (a:Int) (b:Int)=
    dH s.cq s.b_ s.b2 s.cw s.ct q (((r.drop b).flatMap (c2 s.b2 s.cw s.ct q i k l[a])).foldl h1 p).1 (((r.drop b).flatMap (c2 s.b2 s.cw s.ct q i k l[a])).foldl h1 p).2 ((a+1:Nat):Int):=by
 refine down r.length ?_ ?_
 .intro p m ax hm;obtain⟨m,rfl⟩:∃j,m=j+1:=⟨m-1,by omega⟩
  simp only[vD,Pv];rw[eL (Nat.le_refl _),List.drop_of_length_le (Nat.le_refl _),cond_false,d_ a _ bl (by omega)];rfl
 .intro b ab ih p m ax hm;obtain⟨m,rfl⟩:∃j,m=j+1:=⟨m-1,by omega⟩
  have nc:=wD _ (List.getElem_mem bl);have tr:=x7 _ (List.getElem_mem ab);simp only[vD,Pv,FJ];rw[el ab,cond_true,dM r b ab,bind_some,(wA tr).read,bind_some,d_ b _ ab (by omega),drop_cons r b ab,List.flatMap_cons,List.foldl_append];have key:=aty H ag au nc tr p (by omega) (λD C M A atA q o sn=>vD dH (i:Int) (k:Int) l r l[a] (eW l[a].Label,gv l[a].Label,true) m D C M A atA q o sn (a:Int) ((b+1:Nat):Int));have Hj:=An (c2 s.b2 s.cw s.ct q i k l[a] r[b]) p;have awX:=Sd s.b2 s.cw s.ct q i k l[a] r[b];rw[<-ih ((c2 s.b2 s.cw s.ct q i k l[a] r[b]).foldl h1 p) m (by omega) (by omega)];exact key
theorem atB {i k:Nat} (ag:i<q.length) (au:k<q.length) {l r:axz} (Al:l.length<=200) (w3:r.length<=200) (wD:∀x∈l,fy x) (x7:∀x∈r,fy x):
  ∀a,a<=l.length->∀(p:axy×Seen) m,p.1.length+200*(l.length-a)<=100000000->l.length-a<m->
   sH (i:Int) (k:Int) l r m s.cq s.b_ s.b2 s.cw s.ct q p.1 p.2 (a:Int)=
    some (s.cq,s.b_,s.b2,s.cw,s.ct,q,((mA s q i k (l.drop a) r).foldl h1 p).1,((mA s q i k (l.drop a) r).foldl h1 p).2):=by
 refine down l.length ?_ ?_
 .intro p m ax hm;obtain⟨m,rfl⟩:∃j,m=j+1:=⟨m-1,by omega⟩
  simp only[sH,Pw];rw[eL (Nat.le_refl _),List.drop_of_length_le (Nat.le_refl _),cond_false];rfl
 .intro a bl ih p m ax hm;obtain⟨m,rfl⟩:∃j,m=j+1:=⟨m-1,by omega⟩
  have nc:=wD _ (List.getElem_mem bl);simp only[sH,Pw];rw[el bl,cond_true,dM l a bl,bind_some,(wA nc).read,bind_some];have iu:b6 (λn=>vD (sH (i:Int) (k:Int) l r m) (i:Int) (k:Int) l r l[a] (eW l[a].Label,gv l[a].Label,true) n s.cq s.b_ s.b2 s.cw s.ct q p.1 p.2 (a:Int) 0)=
    sH (i:Int) (k:Int) l r m s.cq s.b_ s.b2 s.cw s.ct q ((r.flatMap (c2 s.b2 s.cw s.ct q i k l[a])).foldl h1 p).1 ((r.flatMap (c2 s.b2 s.cw s.ct q i k l[a])).foldl h1 p).2 ((a+1:Nat):Int):=
   fa (r.length+1) λm2 qE=>atz H _ ag au Al w3 wD x7 bl 0 (by omega) p m2 (by omega) (by omega)
  have j5:∀r:axz,(r.flatMap (c2 s.b2 s.cw s.ct q i k l[a])).length<=r.length:=by
   intro r;induction r with
   |nil=>simp
   |cons y r Ar=>
    have:=Sd s.b2 s.cw s.ct q i k l[a] y;rw[List.flatMap_cons,List.length_append,List.length_cons];omega
  have bY:=j5 r;have dt:=An (r.flatMap (c2 s.b2 s.cw s.ct q i k l[a])) p;have ec:mA s q i k (l.drop a) r=r.flatMap (c2 s.b2 s.cw s.ct q i k l[a])++mA s q i k (l.drop (a+1)) r:=by unfold mA;rw[drop_cons l a bl,List.flatMap_cons]
  rw[iu,ih _ m (by omega) (by omega),ec,List.foldl_append]
omit H in
theorem Sg (i k:Nat) (r:axz):∀l:axz,(mA s q i k l r).length<=r.length*l.length
 |[]=>by simp[mA]
 |x::l=>by
  have ad:∀r:axz,(r.flatMap (c2 s.b2 s.cw s.ct q i k x)).length<=r.length:=by
   intro r;induction r with
   |nil=>simp
   |cons y r Ar=>
    have:=Sd s.b2 s.cw s.ct q i k x y;rw[List.flatMap_cons,List.length_append,List.length_cons];omega
  have ae:=Sg i k r l;have aI:=ad r;unfold mA at ae⊢;rw[List.flatMap_cons,List.length_append,List.length_cons,mul_succ];omega
theorem aa0 (j8:cJ->axx->axy->Seen->axl->Int->Option (axy×Bool)) (aa1:axl) {i:Nat} (ag:i<q.length) {l:axz} (Al:l.length<=200) (hg:∀x∈l,fy x):
  ∀a,a<=l.length->∀(p:axy×Seen) m,p.1.length+(l.length-a)<=1000000000->l.length-a<m->
   xt j8 s q (l,true) m s q p.1 p.2 aa1 (i:Int) (i:Int) (a:Int)=j8 s q ((lo s q i (l.drop a)).foldl h1 p).1 ((lo s q i (l.drop a)).foldl h1 p).2 aa1 ((i+1:Nat):Int):=by
 have aI:=H.oM;refine down l.length ?_ ?_
 .intro p m ax hm;obtain⟨m,rfl⟩:∃j,m=j+1:=⟨m-1,by omega⟩
  simp only[xt,Py];rw[eL (Nat.le_refl _),List.drop_of_length_le (Nat.le_refl _),cond_false,d_ i _ ag (by omega)];rfl
 .intro a bl ih p m ax hm;obtain⟨m,rfl⟩:∃j,m=j+1:=⟨m-1,by omega⟩
  have nc:=hg _ (List.getElem_mem bl);have gS:=wA nc;simp only[xt,Py];rw[el bl,cond_true,dM l a bl,bind_some,gS.read,bind_some,d_ a _ bl (by omega)];have Sf:=(aaU (D:=s.cq) (C:=s.b_) (M:=s.b2) (A:=s.cw) (H:=s.ct) (o:=p.1) (sn:=p.2) (Sb (H:=s.ct) gS.mz) (by omega) H.tg (by omega) ag nc.next).1;have qE:=aaV (n:=eW l[a].Label) (a:=gv l[a].Label) H.sm.2.1 H.sm.2.2 (-1) [l[a].Next] i (nL oL p ⟨p0 s.ct (eW l[a].Label) (gv l[a].Label),i,-1,q.set i l[a].Next⟩) Sf;rw[qE,bind_some];have ec:lo s q i (l.drop a)=cz s.cw s.ct q i l[a]++lo s q i (l.drop (a+1)):=by unfold lo;rw[drop_cons l a bl,List.flatMap_cons]
  have aN:(cz s.cw s.ct q i l[a]).foldl h1 p=if wC s.cw (eW l[a].Label)=true then nL oL p ⟨p0 s.ct (eW l[a].Label) (gv l[a].Label),i,-1,q.set i l[a].Next⟩else p:=by
   unfold cz;split<;>rfl
  have bY:=An (cz s.cw s.ct q i l[a]) p;have dt:=aaS s.cw s.ct q i l[a];rw[ec,List.foldl_append,<-ih ((cz s.cw s.ct q i l[a]).foldl h1 p) m (by omega) (by omega),aN]
theorem atC (qh:cJ->axx->axy->Seen->axl->Int->Option (axy×Bool)) {i:Nat} (ag:i<q.length):
  ∀k,k<=q.length->∀(p:axy×Seen) m,p.1.length+40000*(q.length-k)<=50000000->q.length-k<m->
   zs qh q m s q p.1 p.2 ak (i:Int) (k:Int) (i:Int)=qh s q ((lN s q ak i k).foldl h1 p).1 ((lN s q ak i k).foldl h1 p).2 ak ((i+1:Nat):Int):=by
 have aI:=H.oM;obtain⟨mH,ia,li,th⟩:=H.at ag;refine down q.length ?_ ?_
 .intro p m ax hm;obtain⟨m,rfl⟩:∃j,m=j+1:=⟨m-1,by omega⟩
  simp only[zs,Pz];rw[eL (Nat.le_refl _),cond_false,d_ i _ ag (by omega)];unfold lN;rw[Nat.sub_self];rfl
 .intro k au ih p m ax hm;obtain⟨m,rfl⟩:∃j,m=j+1:=⟨m-1,by omega⟩
  obtain⟨oS,s6,De,K7⟩:=H.at au;simp only[zs,Pz];rw[el au,cond_true,dM ak i mH,dM ak k oS];simp only[bind_some];have aZ:Px s.cq s.b_ s.b2 s.cw s.ct q p.1 p.2 (i:Int) (k:Int) ak[i] ak[k]=
    some (s.cq,s.b_,s.b2,s.cw,s.ct,q,((mA s q i k ak[i] ak[k]).foldl h1 p).1,((mA s q i k ak[i] ak[k]).foldl h1 p).2):=
   fa (ak[i].length+1) λm2 qE=>atB H ag au li De th K7 0 (by omega) p m2 (by omega) (by omega)
  have bY:=Sg (s:=s) (q:=q) i k ak[k] ak[i];have dt:=An (mA s q i k ak[i] ak[k]) p;have dv:ak[k].length*ak[i].length<=200*200:=Nat.mul_le_mul De li;have ec:lN s q ak i k=mA s q i k ak[i] ak[k]++lN s q ak i (k+1):=by
   unfold lN;rw[show q.length-k=(q.length-(k+1))+1 by omega,List.range'_succ,List.flatMap_cons,ia,s6]
  rw[aZ,bind_some,d_ k _ au (by omega),ec,List.foldl_append,<-ih _ m (by omega) (by omega)]
theorem atD {i:Nat} (ag:i<q.length):∀d k,k+d=q.length->(lN s q ak i k).length<=40000*d:=by
 intro d;induction d with
 |zero=>intro k au;unfold lN;rw[show q.length-k=0 by omega];simp
 |succ d ih=>
  intro k au;obtain⟨_,ia,li,_⟩:=H.at ag;obtain⟨_,s6,De,_⟩:=H.at (i:=k) (by omega);have h:=ih (k+1) (by omega);have bY:=Sg (s:=s) (q:=q) i k (ak.getD k []) (ak.getD i []);have dv:(ak.getD k []).length*(ak.getD i []).length<=200*200:=Nat.mul_le_mul (by rw[s6];exact De) (by rw[ia];exact li);unfold lN at h⊢;rw[show q.length-k=(q.length-(k+1))+1 by omega,List.range'_succ,List.flatMap_cons,List.length_append];omega
theorem atE:∀i,i<=q.length->∀(p:axy×Seen) m,p.1.length+120000*(q.length-i)<=10000000->q.length-i<m->
   vE q m s q p.1 p.2 ak (i:Int)=some (((two s q ak i).foldl h1 p).1,decide (((((two s q ak i).foldl h1 p).1).length:Int)<=200)):=by
 have aI:=H.oM;refine down q.length ?_ ?_
 .intro p m ax hm;obtain⟨m,rfl⟩:∃j,m=j+1:=⟨m-1,by omega⟩
  simp only[vE,PA];rw[eL (Nat.le_refl _),cond_false];unfold two;rw[Nat.sub_self];rfl
 .intro i ag ih p m ax hm;obtain⟨m,rfl⟩:∃j,m=j+1:=⟨m-1,by omega⟩
  simp only[vE,PA];rw[el ag,cond_true,d_ i _ ag (by omega)];have iu:b6 (λn=>zs (vE q m) q n s q p.1 p.2 ak (i:Int) ((i+1:Nat):Int) (i:Int))=
    vE q m s q ((lN s q ak i (i+1)).foldl h1 p).1 ((lN s q ak i (i+1)).foldl h1 p).2 ak ((i+1:Nat):Int):=
   fa (q.length+1) λm2 qE=>atC H _ ag (i+1) (by omega) p m2 (by omega) (by omega)
  have bY:=atD H ag (q.length-(i+1)) (i+1) (by omega);have dt:=An (lN s q ak i (i+1)) p;have ec:two s q ak i=lN s q ak i (i+1)++two s q ak (i+1):=by
   unfold two;rw[show q.length-i=(q.length-(i+1))+1 by omega,List.range'_succ,List.flatMap_cons]
  rw[iu,ih _ m (by omega) (by omega),ec,List.foldl_append]
theorem atF (aa:∀i (h:i<q.length),uj s.cq q[i]=some (ak.getD i [],true)):∀i,i<=q.length->∀(p:axy×Seen) m,p.1.length+200*(q.length-i)<=1000->q.length-i<m->
   pO s q m s q p.1 p.2 (ak.take i) (i:Int)=
    some (((two s q ak 0).foldl h1 ((one s q ak i).foldl h1 p)).1,decide (((((two s q ak 0).foldl h1 ((one s q ak i).foldl h1 p)).1).length:Int)<=200)):=by
 have aI:=H.oM;refine down q.length ?_ ?_
 .intro p m ax hm;obtain⟨m,rfl⟩:∃j,m=j+1:=⟨m-1,by omega⟩
  simp only[pO,FL];rw[eL (Nat.le_refl _),cond_false];have e:one s q ak q.length=[]:=by unfold one;rw[Nat.sub_self];rfl
  have aU:ak.take q.length=ak:=by rw[<-H.lT];exact List.take_length
  rw[e,aU];exact fa (q.length+1) λm2 qE=>atE H 0 (by omega) p m2 (by omega) (by omega)
 .intro i ag ih p m ax hm;obtain⟨m,rfl⟩:∃j,m=j+1:=⟨m-1,by omega⟩
  obtain⟨mH,ia,li,th⟩:=H.at ag;simp only[pO,FL];rw[el ag,cond_true,dM q i ag,bind_some,aa i ag,bind_some,ia];simp only[Bool.not_true,cond_false];rw[lK (by simp;omega) (by simp;omega),bind_some,<-List.take_succ_eq_append_getElem mH];have iu:b6 (λn=>xt (pO s q m) s q (ak[i],true) n s q p.1 p.2 (ak.take (i+1)) (i:Int) (i:Int) 0)=
    pO s q m s q ((lo s q i ak[i]).foldl h1 p).1 ((lo s q i ak[i]).foldl h1 p).2 (ak.take (i+1)) ((i+1:Nat):Int):=
   fa (ak[i].length+1) λm2 qE=>aa0 H _ _ ag li th 0 (by omega) p m2 (by omega) (by omega)
  have bX:=An (lo s q i ak[i]) p;have dH:=K8 (s:=s) (q:=q) i ak[i];have ec:one s q ak i=lo s q i ak[i]++one s q ak (i+1):=by
   unfold one;rw[show q.length-i=(q.length-(i+1))+1 by omega,List.range'_succ,List.flatMap_cons,ia]
  rw[iu,ih _ m (by omega) (by omega),ec,List.foldl_append]
theorem atG (aa:∀i (h:i<q.length),tU s.cq q[i]=some (ak.getD i [],true)):∀i,i<=q.length->∀m,q.length-i<m->
   vw q s.cq s.b_ s.b2 s.cw s.ct m (ak.take i) (i:Int)=
    some ((two s q ak 0).foldl iB ((one s q ak 0).foldl hI []),decide ((((two s q ak 0).foldl iB ((one s q ak 0).foldl hI [])).length:Int)<=200)):=by
 have aI:=H.oM;refine down q.length ?_ ?_
 .intro m hm;obtain⟨m,rfl⟩:∃j,m=j+1:=⟨m-1,by omega⟩
  simp only[vw,Ff];have aU:ak.take q.length=ak:=by rw[<-H.lT];exact List.take_length
  rw[eL (Nat.le_refl _),cond_false,aU];exact fa (q.length+1) λm2 qE=>atw H 0 (by omega) [] m2 (by simp;omega) (λx an=>by cases an) (by omega)
 .intro i ag ih m hm;obtain⟨m,rfl⟩:∃j,m=j+1:=⟨m-1,by omega⟩
  obtain⟨mH,ia,_,_⟩:=H.at ag;simp only[vw,Ff];rw[el ag,cond_true,dM q i ag,bind_some,aa i ag,bind_some,ia];simp only[Bool.not_true,cond_false];rw[lK (by simp;omega) (by simp;omega),bind_some,<-List.take_succ_eq_append_getElem mH,d_ i _ ag (by omega)];exact ih m (by omega)
end
end Go.lZ
