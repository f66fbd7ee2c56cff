/- Part of a proof that a law returns true for every input. No condition. -/
import Derived.Test.YtmaepbgkcmjcjahGreatDoorUV6x
namespace Go.k6
open Option Go.IntKind Nat Or
open Go Go.ei
noncomputable def e4 (L:azc):azc:=(tk L).getD []
noncomputable def gG (L:azc):aze:=((z7 L).getD ([],false)).1
structure xt (n:azc) (a:aze):Prop where
 ky:hN n=true
 len:a.length<=2
 Eo:(n==([116,97,117]:azc))=true->a.length=0
 kv:∀x∈a,fZ x
structure sN (L:azc):Prop where
 mQ:xt (e4 L) (gG L)
 eq:L=iT (e4 L) (gG L)
theorem Mq {n:azc} {a:aze} (h:xt n a):e4 (iT n a)=n/\gG (iT n a)=a:=by
 unfold e4 gG;rw[acq h.ky h.len,acr h.ky h.len h.Eo h.kv];exact⟨rfl,rfl⟩
theorem acH {n:azc} {a:aze} (h:xt n a):sN (iT n a):=by
 obtain⟨aR,aW⟩:=Mq h;exact⟨by rw[aR,aW];exact h,by rw[aR,aW]⟩
theorem xu {s:bm} (h:fS s):sN s.Label:=by
 obtain⟨n,a,ad,ag,aD,bh,b1⟩:=h.shape;rw[b1];exact acH ⟨ad,ag,aD,bh⟩
theorem sN.name {L:azc} (h:sN L):tk L=some (e4 L):=by
 have:=acq h.mQ.ky h.mQ.len
 rwa [<-h.eq]at this
theorem sN.values {L:azc} (h:sN L):z7 L=some (gG L,true):=by
 have:=acr h.mQ.ky h.mQ.len h.mQ.Eo h.mQ.kv
 rwa [<-h.eq]at this
theorem sN.read {L:azc} (h:sN L):Al L=some (e4 L,gG L,true):=by
 have:=avM h.mQ.ky h.mQ.len h.mQ.Eo h.mQ.kv
 rwa [<-h.eq]at this
theorem acI:xt [116,97,117] []:=⟨by decide,by simp,λ_=>rfl,λx aq=>by cases aq⟩
def xv (H:azb) (n:azc) (a:aze):azc×aze:=if n∈H then([116,97,117],[])else(n,a)
def qB (H:azb) (n:azc) (a:aze):azc:=iT (xv H n a).1 (xv H n a).2
theorem Ue {H:azb} {n:azc} {a:aze} (h:xt n a):xt (xv H n a).1 (xv H n a).2:=by
 unfold xv;split
 .exact acI
 .exact h
theorem acJ (s:cL) (n0:s.cB.length<=1048576) {L:azc} (h:sN L):CC s L=some (qB s.cB (e4 L) (gG L)):=by
 obtain⟨⟨z,tf,_,z2⟩,_⟩:=It s.cB (e4 L) n0;unfold CC;rw[h.name,bind_some,tf,bind_some,z2];unfold qB xv;by_cases hm:e4 L∈s.cB
 .rw[decide_eq_true hm,if_pos hm];rfl
 .rw[decide_eq_false hm,if_neg hm,cond_false];exact congrArg some h.eq
def xw (A:azb) (n:azc):Bool:=(n==[116,97,117])||decide (n∈A)
noncomputable def cx (A H:azb) (q:azz) (i:Nat) (x:bm):azA:=
 if xw A (e4 x.Label)=true then [⟨qB H (e4 x.Label) (gG x.Label),(i:Int),-1,q.set i x.Next⟩]else []
noncomputable def oc (M:azy) (x y:azc):azc:=sM M (kt (sL M (h1 false x y) (h1 true x y)) 0 M.length)
noncomputable def c2 (M:azy) (A H:azb) (q:azz) (i k:Nat) (x y:bm):azA:=
 if gG x.Label=gG y.Label/\oc M (e4 x.Label) (e4 y.Label)≠[]/\oc M (e4 x.Label) (e4 y.Label)∈A then
  [⟨qB H (oc M (e4 x.Label) (e4 y.Label)) (gG x.Label),(i:Int),(k:Int),(q.set i x.Next).set k y.Next⟩]else []
theorem vK {q:azz} (h:∀p∈q,jP p) {x:a8} (aq:jP x) (i:Nat):∀p∈q.set i x,jP p:=by
 intro p ax;rcases List.mem_or_eq_of_mem_set ax with ad|rfl
 .exact h p ad
 .exact aq
theorem Uf {H:azb} {n:azc} {a:aze} (h:xt n a):(qB H n a).length<=400/\(32:UInt8)∉qB H n a:=by
 have g:=Ue (H:=H) h;exact TN g.ky (by have:=g.len;omega) g.kv
theorem awp {A H:azb} {q:azz} (h:∀p∈q,jP p) {i:Nat} (ai:i<100) {x:bm} (aq:fS x):∀m∈cx A H q i x,jf q.length m:=by
 intro m hm;unfold cx at hm;split at hm
 .rw[List.mem_singleton]at hm;subst hm;exact⟨Uf (xu aq).mQ,⟨i,ai,rfl⟩,.inl rfl,by simp,vK h aq.next i⟩
 .cases hm
theorem acK (A H:azb) (q:azz) (i:Nat) (x:bm):(cx A H q i x).length<=1:=by unfold cx;split<;>simp
theorem Ug (M:azy) (A H:azb) (q:azz) (i k:Nat) (x y:bm):(c2 M A H q i k x y).length<=1:=by unfold c2;split<;>simp
theorem Iu {s:cL} (aF:(l7 s==0)=true) (x y:azc):
  (decide (kt (sL s.b_ (h1 false x y) (h1 true x y)) 0 s.b_.length<0)=decide (oc s.b_ x y=[]))/\(oc s.b_ x y≠[]->kf (oc s.b_ x y)=true):=by
 have hl:=Uc (sL s.b_ (h1 false x y) (h1 true x y)) s.b_.length 0;unfold oc;generalize kt (sL s.b_ (h1 false x y) (h1 true x y)) 0 s.b_.length=z at hl⊢;by_cases h:z<0
 .rw[decide_eq_true h];have e:sM s.b_ z=[]:=by unfold sM;rw[decide_eq_true h];rfl
  rw[e];exact⟨by simp,λh=>absurd rfl h⟩
 .have cf:z.toNat<s.b_.length:=by omega
  have e:sM s.b_ z=(eU s.b_ z.toNat).Result:=by unfold sM;rw[decide_eq_false h];rfl
  have aS:=awm s aF z.toNat cf;rw[beq_eq_false_iff_ne]at aS;rw[e,decide_eq_false h,decide_eq_false aS];refine⟨rfl,λ_=>?_⟩;have hm:rp s.b_=true:=by
   cases h:rp s.b_
   .unfold l7 at aF;rw[h]at aF;revert aF;cases lL s.cw<;>cases vJ s<;>simp
   .rfl
  unfold rp at hm;rw[Bool.and_eq_true]at hm;have ad:=pd.1 hm.2 z.toNat cf;unfold Bp at ad;simp only[Bool.and_eq_true]at ad;exact ad.1.1.1.2
theorem Mr {n:azc} {a:aze} (h:kf n=true) (hl:a.length<=2) (aF:∀x∈a,fZ x):xt n a:=by
 unfold kf at h;rw[Bool.and_eq_true]at h;exact⟨h.1,hl,λe=>(by rw[e]at h;cases h.2),aF⟩
theorem awq {s:cL} (aF:(l7 s==0)=true) (hm:s.b_.length<=1048576) (x y:azc):An s x y=some (oc s.b_ x y,!decide (oc s.b_ x y=[])):=by
 rw[awl s hm x y _ rfl,(Iu aF x y).1];rfl
theorem Uh {s:cL} (aF:(l7 s==0)=true) {q:azz} (h:∀p∈q,jP p) {i k:Nat} (ai:i<100) (aw:k<100) {x y:bm} (aq:fS x) (hy:fS y):
  ∀m∈c2 s.b_ s.cD s.cB q i k x y,jf q.length m:=by
 intro m hm;unfold c2 at hm;split at hm
 .rename_i au;rw[List.mem_singleton]at hm;subst hm;have g:=(xu aq).mQ;exact⟨Uf (Mr ((Iu aF _ _).2 au.2.1) g.len g.kv),⟨i,ai,rfl⟩,.inr ⟨k,aw,rfl⟩,by simp,vK (vK h aq.next i) hy.next k⟩
 .cases hm
theorem awr {s:cL} (aF:(l7 s==0)=true) (hm:s.b_.length<=1048576) (jj:s.cD.length<=1048576) {x y:azc} (aq:sN x) (hy:sN y):
  Kj s x y=some (if gG x=gG y/\oc s.b_ (e4 x) (e4 y)≠[]/\oc s.b_ (e4 x) (e4 y)∈s.cD then iT (oc s.b_ (e4 x) (e4 y)) (gG x)else []):=by
 have g:=aq.mQ;unfold Kj;rw[aq.values,hy.values];simp only[bind_some];rw[TP _ _ (by have:=g.len;omega),bind_some];by_cases ad:gG x=gG y
 .rw[show(gG x==gG y)=true from by rw[ad];simp];simp only[Bool.not_true,cond_false];rw[aq.name,hy.name];simp only[bind_some];rw[show GB s.b_ (e4 x) (e4 y)=some (oc s.b_ (e4 x) (e4 y))from awk _ hm _ _,bind_some];have sB:=(Iu aF (e4 x) (e4 y)).2;generalize oc s.b_ (e4 x) (e4 y)=r at sB⊢;by_cases ag:r=[]
  .rw[if_neg (λc=>c.2.1 ag),ag];rfl
  .rw[show(r==([]:azc))=false from by simpa using ag,cond_false];obtain⟨⟨z,tf,z2,_⟩,_⟩:=It s.cD r jj;rw[tf,bind_some,z2];by_cases aD:r∈s.cD
   .rw[decide_eq_true aD,if_pos ⟨ad,ag,aD⟩];have Br:=Mr (sB ag) g.len g.kv;have yZ:r.length<=10:=by have:=Br.ky;simp only[hN,Bool.and_eq_true,decide_eq_true_eq]at this;exact this.1
    rw[Bool.not_true,cond_false,ab6 r (gG x) yZ (by have:=g.len;omega) g.kv];rfl
   .rw[decide_eq_false aD,if_neg (λc=>aD c.2.2)];rfl
 .rw[show(gG x==gG y)=false from by simpa using ad,if_neg (λc=>ad c.1)];rfl
theorem acL {n:Nat} {D:azw} {C:azx} {M:azy} {A H:azb} {q:azz} {o:azA} {sn:aza} (m:bp) (hm:jf n m) (aV:n<=100) (bO:o.length<=1000000000):
  Dj m.n1 m.Second D C M A H q o sn m.Label m.State=some (D,C,M,A,H,q,(ob ph (o,sn) m).1,(ob ph (o,sn) m).2):=by
 obtain⟨i,ai,iI⟩:=hm.fst;obtain⟨s1,s2,_⟩:=T9 hm.snd;have ad:=xd i;have ag:=hm.y0.1;have aD:=acv hm.st.2;have bh:=hm.st.1;have ao:r5 m.n1=some (jn m.n1.toNat):=by rw[iI,Int.toNat_natCast];exact A9 i ai
 have hE:(jn m.n1.toNat).length<=2:=by rw[iI,Int.toNat_natCast];exact ad
 unfold Dj;rw[ao,s1,avS (by omega) hm.st.2,my (by omega)];simp only[bind_some];rw[my (by simp only[List.length_append,List.length_cons,List.length_nil];omega),bind_some,my (by simp only[List.length_append,List.length_cons,List.length_nil];omega),bind_some,my (by simp only[List.length_append,List.length_cons,List.length_nil];omega),bind_some,
  my (by simp only[List.length_append,List.length_cons,List.length_nil];omega),bind_some,my (by simp only[List.length_append,List.length_cons,List.length_nil];omega),bind_some]
 show cond (!(kg (ph m) sn)) _ _=_;unfold ob;cases hg:kg (ph m) sn
 .rw[lJ (by omega) (by omega)];simp only[hg];rfl
 .simp only[hg];rfl
theorem acM {D:azw} {C:azx} {M:azy} {A H:azb} {q:azz} {o:azA} {sn:aza} {n:azc} {a:aze} (aV:xt n a) (cE:q.length<=100) (h:∀p∈q,jP p)
  (bO:o.length<=1000000000) {i:Nat} (ai:i<q.length) {p:a8} (ax:jP p):
  (qX (i:Int) (-1) [p] D C M A H q o sn n a=some (D,C,M,A,H,q,(ob ph (o,sn) ⟨iT n a,i,-1,q.set i p⟩).1,(ob ph (o,sn) ⟨iT n a,i,-1,q.set i p⟩).2))/\
  ∀(k:Nat) (r:a8),k<q.length->jP r->
   qX (i:Int) (k:Int) [p,r] D C M A H q o sn n a=some (D,C,M,A,H,q,(ob ph (o,sn) ⟨iT n a,i,k,(q.set i p).set k r⟩).1,(ob ph (o,sn) ⟨iT n a,i,k,(q.set i p).set k r⟩).2):=by
 have Mi:=TN aV.ky (by have:=aV.len;omega) aV.kv;constructor
 .unfold qX;rw[Im n a aV.ky aV.len aV.Eo aV.kv,(Bq cE h).2];simp only[bind_some];rw[show bj [p] 0=some p from rfl,bind_some,Ud ax,dX _ i ai];simp only[bind_some,Int.toNat_natCast];rw[show decide ((0:Int)<=-1)=false from rfl,cond_false];exact acL (n:=q.length) ⟨iT n a,i,-1,q.set i p⟩ ⟨Mi,⟨i,by omega,rfl⟩,.inl rfl,by simp,vK h ax i⟩ cE bO
 .intro k r aw aS;unfold qX;rw[Im n a aV.ky aV.len aV.Eo aV.kv,(Bq cE h).2];simp only[bind_some];rw[show bj [p,r] 0=some p from rfl,bind_some,Ud ax,dX _ i ai];simp only[bind_some,Int.toNat_natCast];rw[show decide ((0:Int)<=(k:Int))=true from decide_eq_true (by omega),cond_true,show bj [p,r] 1=some r from rfl,bind_some,Ud aS,dX _ k (by simpa using aw)];simp only[bind_some];exact acL (n:=q.length) ⟨iT n a,i,k,(q.set i p).set k r⟩ ⟨Mi,⟨i,by omega,rfl⟩,.inr ⟨k,by omega,rfl⟩,by simp,vK (vK h ax i) aS k⟩ cE bO
theorem acN {D:azw} {C:azx} {M:azy} {A H:azb} {q:azz} {o:azA} {sn:aza} {n:azc} {a:aze} (jj:A.length<=1048576) (n0:H.length<=1048576) (k:Int) (ps:azz) (i:Nat)
  (r:azA×aza) (aw:qX (i:Int) k ps D C M A H q o sn (xv H n a).1 (xv H n a).2=some (D,C,M,A,H,q,r.1,r.2)):
  Dk D C M A H q o sn n a (i:Int) k ps=some (D,C,M,A,H,q,(if xw A n=true then r else(o,sn)).1,(if xw A n=true then r else(o,sn)).2):=by
 have aR:=(It A n jj).2;have aW:=(It H n n0).2;have au:∀x,cond (decide (n∈H)) (qX (i:Int) k ps D C M A H q o sn ([116,97,117]:azc) []) (qX (i:Int) k ps D C M A H q o sn n a)=x↔some (D,C,M,A,H,q,r.1,r.2)=x:=by
  intro x;rw[<-aw];unfold xv;by_cases h:n∈H
  .rw[decide_eq_true h,if_pos h];exact Iff.rfl
  .rw[decide_eq_false h,if_neg h];exact Iff.rfl
 unfold Dk xw;rw[aR,aW];simp only[bind_some];cases bb:n==([116,97,117]:azc)
 .simp only[Bool.not_false,cond_true,Bool.false_or];by_cases h:n∈A
  .rw[decide_eq_true h];simp only[Bool.not_true,cond_false,if_true];exact(au _).2 rfl
  .rw[decide_eq_false h];simp
 .simp only[Bool.not_true,cond_false,Bool.true_or,if_true];exact(au _).2 rfl
theorem aws {L:azc} (h:sN L):(L==([116,97,117]:azc))=(e4 L==[116,97,117]):=by
 rw[Bool.eq_iff_iff,beq_iff_eq,beq_iff_eq];constructor
 .intro e;have:L=iT [116,97,117] []:=e;rw[this];exact(Mq acI).1
 .intro e;have ag:=h.mQ.Eo (by rw[e];rfl);have aD:gG L=[]:=List.length_eq_zero_iff.1 ag;rw[h.eq,e,aD];rfl
theorem acO {n:Nat} {o:azA} {m:bp} (bO:o.length<=1000) (hg:∀x∈o,jf n x) (hm:jf n m):(iZ o m).length<=1000/\∀x∈iZ o m,jf n x:=by
 unfold iZ;split
 .exact⟨bO,hg⟩
 .have:=T3 o m;exact⟨by omega,λx aq=>(Ir aq).elim (hg x) λe=>e▸hm⟩
theorem Ms {n:Nat}:∀(l o:azA),o.length<=1000->(∀x∈o,jf n x)->(∀x∈l,jf n x)->(l.foldl iZ o).length<=1000/\∀x∈l.foldl iZ o,jf n x
 |[],o,bO,hg,_=>⟨bO,hg⟩
 |s::r,o,bO,hg,hl=>by
  obtain⟨ad,ag⟩:=acO bO hg (hl s (by simp));exact Ms r _ ad ag λx aq=>hl x (List.mem_cons_of_mem _ aq)
theorem Mt {n:Nat}:∀(l o:azA),(∀x∈o,jf n x)->(∀x∈l,jf n x)->∀x∈l.foldl hD o,jf n x
 |[],o,hg,_=>hg
 |s::r,o,hg,hl=>Mt r _ (λx aq=>(Ir aq).elim (hg x) λe=>e▸hl s (by simp)) λx aq=>hl x (List.mem_cons_of_mem _ aq)
structure uc (s:cL) (q:azz) (al:azn):Prop where
 Bs:(l7 s==0)=true
 sm:s.b_.length<=1048576/\s.cD.length<=1048576/\s.cB.length<=1048576
 pj:q.length<=3
 ud:∀p∈q,jP p
 mf:al.length=q.length
 gs:∀l∈al,l.length<=200/\∀x∈l,fS x
noncomputable def lN (s:cL) (q:azz) (i:Nat) (l:azB):azA:=l.flatMap (cx s.cD s.cB q i)
noncomputable def mR (s:cL) (q:azz) (i k:Nat) (l r:azB):azA:=l.flatMap λx=>r.flatMap (c2 s.b_ s.cD s.cB q i k x)
noncomputable def l8 (s:cL) (q:azz) (al:azn) (i k:Nat):azA:=(List.range' k (q.length-k)).flatMap λk=>mR s q i k (al.getD i []) (al.getD k [])
noncomputable def one (s:cL) (q:azz) (al:azn) (i:Nat):azA:=(List.range' i (q.length-i)).flatMap λi=>lN s q i (al.getD i [])
noncomputable def two (s:cL) (q:azz) (al:azn) (i:Nat):azA:=(List.range' i (q.length-i)).flatMap λi=>l8 s q al i (i+1)
section
variable {s:cL} {q:azz} {al:azn} (H:uc s q al)
include H
theorem uc.at {i:Nat} (ai:i<q.length):∃h:i<al.length,al.getD i []=al[i]/\al[i].length<=200/\∀x∈al[i],fS x:=by
 have h:i<al.length:=by rw[H.mf];exact ai
 exact⟨h,by simp[List.getD,h],H.gs _ (List.getElem_mem h)⟩
theorem uc.g1 {i:Nat} (ai:i<q.length) {l:azB} (hl:∀x∈l,fS x):∀m∈lN s q i l,jf q.length m:=by
 intro m hm;unfold lN at hm;obtain⟨x,aq,hm⟩:=List.mem_flatMap.1 hm;exact awp H.ud (by have:=H.pj;omega) (hl x aq) m hm
theorem uc.g2 {i k:Nat} (ai:i<q.length) (aw:k<q.length) {l r:azB} (hl:∀x∈l,fS x) (aS:∀x∈r,fS x):∀m∈mR s q i k l r,jf q.length m:=by
 intro m hm;unfold mR at hm;obtain⟨x,aq,hm⟩:=List.mem_flatMap.1 hm;obtain⟨y,hy,hm⟩:=List.mem_flatMap.1 hm;exact Uh H.Bs H.ud (by have:=H.pj;omega) (by have:=H.pj;omega) (hl x aq) (aS y hy) m hm
theorem uc.g3 {i k:Nat} (ai:i<q.length):∀m∈l8 s q al i k,jf q.length m:=by
 intro m hm;unfold l8 at hm;obtain⟨j,bG,hm⟩:=List.mem_flatMap.1 hm;rw[List.mem_range'_1]at bG;obtain⟨_,aR,_,f1⟩:=H.at ai;obtain⟨_,aW,_,f2⟩:=H.at (i:=j) (by omega);rw[aR,aW]at hm;exact H.g2 ai (by omega) f1 f2 m hm
theorem uc.gone {i:Nat}:∀m∈one s q al i,jf q.length m:=by
 intro m hm;unfold one at hm;obtain⟨j,bG,hm⟩:=List.mem_flatMap.1 hm;rw[List.mem_range'_1]at bG;obtain⟨_,aR,_,f1⟩:=H.at (i:=j) (by omega);rw[aR]at hm;exact H.g1 (by omega) f1 m hm
theorem uc.acP {i:Nat}:∀m∈two s q al i,jf q.length m:=by
 intro m hm;unfold two at hm;obtain⟨j,bG,hm⟩:=List.mem_flatMap.1 hm;rw[List.mem_range'_1]at bG;exact H.g3 (by omega) m hm
theorem awt (qU:azA->azn->Int->Option (azA×Bool)) {i:Nat} (ai:i<q.length) {l:azB} (hl:bj al (i:Int)=some l) (vB:l.length<=200) (hg:∀x∈l,fS x):
  ∀a,a<=l.length->∀(o:azA) m,o.length+(l.length-a)<=1000000->(∀x∈o,jf q.length x)->l.length-a<m->
   yl qU q s.cw s.ch s.b_ s.cD s.cB m o al (i:Int) (a:Int)=qU ((lN s q i (l.drop a)).foldl hD o) al ((i+1:Nat):Int):=by
 have aD:=H.pj;refine down l.length ?_ ?_
 .intro o m bO iB hm;obtain⟨m,rfl⟩:∃j,m=j+1:=⟨m-1,by omega⟩
  simp only[yl,PU];rw[hl,bind_some,eh (Nat.le_refl _),List.drop_of_length_le (Nat.le_refl _),cond_false,et i _ ai (by omega)];rfl
 .intro a bo ih o m bO iB hm;obtain⟨m,rfl⟩:∃j,m=j+1:=⟨m-1,by omega⟩
  have nA:=hg _ (List.getElem_mem bo);have gw:=xu nA;simp only[yl,PU,GC];rw[hl,bind_some,ev bo,cond_true,dX l a bo,bind_some,aws gw,gw.name,bind_some,(Bq (by omega) H.ud).1,et a _ bo (by omega)];obtain⟨⟨z,tf,z2,_⟩,_⟩:=It s.cD (e4 l[a].Label) H.sm.2.1;rw[tf];simp only[bind_some,Int.toNat_natCast];rw[z2,dX q i ai,acJ (cL.mk s.cw s.ch s.b_ s.cD s.cB) H.sm.2.2 gw];simp only[bind_some];rw[(Bq (by simp;omega) (vK H.ud nA.next i)).1,bind_some];have l_:zZ o ⟨qB s.cB (e4 l[a].Label) (gG l[a].Label),(i:Int),-1,q.set i l[a].Next⟩=some (hD o ⟨qB s.cB (e4 l[a].Label) (gG l[a].Label),(i:Int),-1,q.set i l[a].Next⟩):=acG o _ (by omega) (by omega) iB;have ec:lN s q i (l.drop a)=cx s.cD s.cB q i l[a]++lN s q i (l.drop (a+1)):=by unfold lN;rw[drop_cons l a bo,List.flatMap_cons]
  rw[l_,ec,List.foldl_append];have nB:cx s.cD s.cB q i l[a]=if xw s.cD (e4 l[a].Label)=true then [⟨qB s.cB (e4 l[a].Label) (gG l[a].Label),(i:Int),-1,q.set i l[a].Next⟩]else []:=rfl;have Ep:jf q.length ⟨qB s.cB (e4 l[a].Label) (gG l[a].Label),(i:Int),-1,q.set i l[a].Next⟩:=⟨Uf gw.mQ,⟨i,by omega,rfl⟩,.inl rfl,by simp,vK H.ud nA.next i⟩
  have hle:=T3 o ⟨qB s.cB (e4 l[a].Label) (gG l[a].Label),(i:Int),-1,q.set i l[a].Next⟩;rw[nB];unfold xw;cases e4 l[a].Label==[116,97,117]
  .by_cases jj:e4 l[a].Label∈s.cD
   .simp only[decide_eq_true jj,Bool.not_false,Bool.not_true,Bool.false_or,if_true,cond_true,cond_false,bind_some,List.foldl_cons,List.foldl_nil];exact ih _ m (by omega) (λx aq=>(Ir aq).elim (iB x) λe=>by rw[e];exact Ep) (by omega)
   .simp only[decide_eq_false jj,Bool.not_false,Bool.false_or,cond_true,List.foldl_nil,Bool.false_eq_true,if_false];exact ih _ m (by omega) iB (by omega)
  .simp only[Bool.not_true,cond_false,Bool.true_or,if_true,bind_some,List.foldl_cons,List.foldl_nil];exact ih _ m (by omega) (λx aq=>(Ir aq).elim (iB x) λe=>by rw[e];exact Ep) (by omega)
theorem awu (iE:azA->azn->Int->Option (azA×Bool)) (kU:azA->azn->Int->Int->Option (azA×Bool)) (qe:azA->azn->Int->Int->Int->Option (azA×Bool))
  {i k:Nat} (ai:i<q.length) (aw:k<q.length) {l r:azB} (hl:bj al (i:Int)=some l) (aS:bj al (k:Int)=some r) (vB:l.length<=200) (xX:r.length<=200) (xx:∀x∈l,fS x) (y5:∀x∈r,fS x) {a:Nat} (bo:a<l.length):
  ∀b,b<=r.length->∀(o:azA) m,o.length<=1000->(∀x∈o,jf q.length x)->r.length-b<m->
   uZ iE kU qe q s.cw s.ch s.b_ s.cD s.cB m o al (i:Int) (k:Int) (a:Int) (b:Int)=
    qe (((r.drop b).flatMap (c2 s.b_ s.cD s.cB q i k l[a])).foldl iZ o) al (i:Int) (k:Int) ((a+1:Nat):Int):=by
 have aD:=H.pj;have El:∀b (o:azA) m,b<=r.length->200<o.length->uZ iE kU qe q s.cw s.ch s.b_ s.cD s.cB (m+1) o al (i:Int) (k:Int) (a:Int) (b:Int)=
    qe (((r.drop b).flatMap (c2 s.b_ s.cD s.cB q i k l[a])).foldl iZ o) al (i:Int) (k:Int) ((a+1:Nat):Int):=by
  intro b o m ab bO;simp only[uZ,Km];rw[aS,bind_some,show decide ((o.length:Int)<=200)=false from decide_eq_false (by omega),Bool.and_false,cond_false,T5 _ _ bO,et a _ bo (by omega)]
 refine down r.length ?_ ?_
 .intro o m bO iB hm;obtain⟨m,rfl⟩:∃j,m=j+1:=⟨m-1,by omega⟩
  simp only[uZ,Km];rw[aS,bind_some,eh (Nat.le_refl _),List.drop_of_length_le (Nat.le_refl _),Bool.false_and,cond_false,et a _ bo (by omega)];rfl
 .intro b ab ih o m bO iB hm;obtain⟨m,rfl⟩:∃j,m=j+1:=⟨m-1,by omega⟩
  by_cases acQ:200<o.length
  .exact El b o m (by omega) acQ
  have nA:=xx _ (List.getElem_mem bo);have uq:=y5 _ (List.getElem_mem ab);have Bt:=xu nA;have awv:=xu uq;simp only[uZ,Km,Kk];rw[aS,bind_some,ev ab,show decide ((o.length:Int)<=200)=true from decide_eq_true (by omega),Bool.and_self,cond_true,hl,bind_some,dX l a bo,bind_some,dX r b ab,bind_some,
   awr (s:=cL.mk s.cw s.ch s.b_ s.cD s.cB) H.Bs H.sm.1 H.sm.2.1 Bt awv,bind_some,(Bq (by omega) H.ud).1,bind_some,et b _ ab (by omega),dX q i ai,bind_some,drop_cons r b ab,List.flatMap_cons,List.foldl_append]
  have Ep:=Uh H.Bs H.ud (i:=i) (k:=k) (by omega) (by omega) nA uq;simp only[Int.toNat_natCast];unfold c2 at Ep⊢;by_cases au:gG l[a].Label=gG r[b].Label/\oc s.b_ (e4 l[a].Label) (e4 r[b].Label)≠[]/\oc s.b_ (e4 l[a].Label) (e4 r[b].Label)∈s.cD
  .rw[if_pos au]at Ep⊢;rw[if_pos au];have Br:=Mr ((Iu H.Bs (e4 l[a].Label) (e4 r[b].Label)).2 au.2.1) Bt.mQ.len Bt.mQ.kv;have eb:(iT (oc s.b_ (e4 l[a].Label) (e4 r[b].Label)) (gG l[a].Label)==([]:azc))=false:=by
    rw[beq_eq_false_iff_ne];intro e;have aW:=(Mq Br).1;rw[e]at aW;have aU:e4 ([]:azc)=[]:=by
     have:tk []=some []:=by unfold tk;rw[(Ii [] (by simp)).1 (by simp)];rfl
     unfold e4;rw[this];rfl
    exact au.2.1 (aW.symm.trans aU)
   obtain⟨aR,aW⟩:=Mq Br;rw[eb,cond_false,dX _ k (by simpa using aw),bind_some,acJ (cL.mk s.cw s.ch s.b_ s.cD s.cB) H.sm.2.2 (acH Br),bind_some,aR,aW,
    (Bq (by simp;omega) (vK (vK H.ud nA.next i) uq.next k)).1,bind_some,acG (n:=q.length) o _ (by omega) (by omega) iB,bind_some,List.foldl_cons,List.foldl_nil]
   have acR:∀x:bp,iZ o x=hD o x:=λx=>by unfold iZ;rw[if_neg acQ]
   rw[acR];have uK:=acO bO iB (Ep _ (List.mem_singleton.2 rfl));rw[acR]at uK;exact ih _ m uK.1 uK.2 (by omega)
  .rw[if_neg au,if_neg au,beq_self_eq_true,cond_true];exact ih _ m bO iB (by omega)
theorem aww (iE:azA->azn->Int->Option (azA×Bool)) (kU:azA->azn->Int->Int->Option (azA×Bool))
  {i k:Nat} (ai:i<q.length) (aw:k<q.length) {l r:azB} (hl:bj al (i:Int)=some l) (aS:bj al (k:Int)=some r) (vB:l.length<=200) (xX:r.length<=200) (xx:∀x∈l,fS x) (y5:∀x∈r,fS x):
  ∀a,a<=l.length->∀(o:azA) m,o.length<=1000->(∀x∈o,jf q.length x)->l.length-a<m->
   rZ iE kU q s.cw s.ch s.b_ s.cD s.cB m o al (i:Int) (k:Int) (a:Int)=kU ((mR s q i k (l.drop a) r).foldl iZ o) al (i:Int) ((k+1:Nat):Int):=by
 have aD:=H.pj;refine down l.length ?_ ?_
 .intro o m bO iB hm;obtain⟨m,rfl⟩:∃j,m=j+1:=⟨m-1,by omega⟩
  simp only[rZ,PV];rw[hl,bind_some,eh (Nat.le_refl _),List.drop_of_length_le (Nat.le_refl _),cond_false,et k _ aw (by omega)];rfl
 .intro a bo ih o m bO iB hm;obtain⟨m,rfl⟩:∃j,m=j+1:=⟨m-1,by omega⟩
  simp only[rZ,PV];rw[hl,bind_some,ev bo,cond_true];have iH:b5 (λn=>uZ iE kU (rZ iE kU q s.cw s.ch s.b_ s.cD s.cB m) q s.cw s.ch s.b_ s.cD s.cB n o al (i:Int) (k:Int) (a:Int) 0)=
    rZ iE kU q s.cw s.ch s.b_ s.cD s.cB m ((r.flatMap (c2 s.b_ s.cD s.cB q i k l[a])).foldl iZ o) al (i:Int) (k:Int) ((a+1:Nat):Int):=
   e5 (r.length+1) λm2 rq=>awu H iE kU _ ai aw hl aS vB xX xx y5 bo 0 (by omega) o m2 bO iB (by omega)
  have awx:∀x∈r.flatMap (c2 s.b_ s.cD s.cB q i k l[a]),jf q.length x:=λx aq=>by
   obtain⟨y,hy,aq⟩:=List.mem_flatMap.1 aq;exact Uh H.Bs H.ud (by omega) (by omega) (xx _ (List.getElem_mem bo)) (y5 y hy) x aq
  obtain⟨bX,cu⟩:=Ms _ o bO iB awx;have ec:mR s q i k (l.drop a) r=r.flatMap (c2 s.b_ s.cD s.cB q i k l[a])++mR s q i k (l.drop (a+1)) r:=by unfold mR;rw[drop_cons l a bo,List.flatMap_cons]
  rw[iH,ih _ m bX cu (by omega),ec,List.foldl_append]
theorem awy (iE:azA->azn->Int->Option (azA×Bool)) {i:Nat} (ai:i<q.length):
  ∀k,k<=q.length->∀(o:azA) m,o.length<=1000->(∀x∈o,jf q.length x)->q.length-k<m->
   o4 iE q s.cw s.ch s.b_ s.cD s.cB m o al (i:Int) (k:Int)=iE ((l8 s q al i k).foldl iZ o) al ((i+1:Nat):Int):=by
 have aD:=H.pj;obtain⟨mY,iI,li,ue⟩:=H.at ai;refine down q.length ?_ ?_
 .intro o m bO iB hm;obtain⟨m,rfl⟩:∃j,m=j+1:=⟨m-1,by omega⟩
  simp only[o4,PW];rw[eh (Nat.le_refl _),cond_false,et i _ ai (by omega)];unfold l8;rw[Nat.sub_self];rfl
 .intro k aw ih o m bO iB hm;obtain⟨m,rfl⟩:∃j,m=j+1:=⟨m-1,by omega⟩
  obtain⟨pr,tQ,Er,Mu⟩:=H.at aw;simp only[o4,PW];rw[ev aw,cond_true];have iH:b5 (λn=>rZ iE (o4 iE q s.cw s.ch s.b_ s.cD s.cB m) q s.cw s.ch s.b_ s.cD s.cB n o al (i:Int) (k:Int) 0)=
    o4 iE q s.cw s.ch s.b_ s.cD s.cB m ((mR s q i k al[i] al[k]).foldl iZ o) al (i:Int) ((k+1:Nat):Int):=
   e5 (al[i].length+1) λm2 rq=>aww H iE _ ai aw (dX al i mY) (dX al k pr) li Er ue Mu 0 (by omega) o m2 bO iB (by omega)
  obtain⟨bX,cu⟩:=Ms _ o bO iB (H.g2 ai aw ue Mu);have ec:l8 s q al i k=mR s q i k al[i] al[k]++l8 s q al i (k+1):=by
   unfold l8;rw[show q.length-k=(q.length-(k+1))+1 by omega,List.range'_succ,List.flatMap_cons,iI,tQ]
  rw[iH,ih _ m bX cu (by omega),ec,List.foldl_append]
theorem awz:∀i,i<=q.length->∀(o:azA) m,o.length<=1000->(∀x∈o,jf q.length x)->q.length-i<m->
   l0 q s.cw s.ch s.b_ s.cD s.cB m o al (i:Int)=some ((two s q al i).foldl iZ o,decide ((((two s q al i).foldl iZ o).length:Int)<=200)):=by
 have aD:=H.pj;refine down q.length ?_ ?_
 .intro o m bO iB hm;obtain⟨m,rfl⟩:∃j,m=j+1:=⟨m-1,by omega⟩
  simp only[l0,PX];rw[eh (Nat.le_refl _),cond_false];unfold two;rw[Nat.sub_self];rfl
 .intro i ai ih o m bO iB hm;obtain⟨m,rfl⟩:∃j,m=j+1:=⟨m-1,by omega⟩
  simp only[l0,PX];rw[ev ai,cond_true,et i _ ai (by omega)];have iH:b5 (λn=>o4 (l0 q s.cw s.ch s.b_ s.cD s.cB m) q s.cw s.ch s.b_ s.cD s.cB n o al (i:Int) ((i+1:Nat):Int))=
    l0 q s.cw s.ch s.b_ s.cD s.cB m ((l8 s q al i (i+1)).foldl iZ o) al ((i+1:Nat):Int):=
   e5 (q.length+1) λm2 rq=>awy H _ ai (i+1) (by omega) o m2 bO iB (by omega)
  obtain⟨bX,cu⟩:=Ms _ o bO iB (H.g3 (k:=i+1) ai);have ec:two s q al i=l8 s q al i (i+1)++two s q al (i+1):=by
   unfold two;rw[show q.length-i=(q.length-(i+1))+1 by omega,List.range'_succ,List.flatMap_cons]
  rw[iH,ih _ m bX cu (by omega),ec,List.foldl_append]
omit H in
theorem Mv (i:Nat):∀l:azB,(lN s q i l).length<=l.length
 |[]=>Nat.le_refl _
 |x::r=>by
  have ad:=acK s.cD s.cB q i x;have ag:=Mv i r;unfold lN at ag⊢;rw[List.flatMap_cons,List.length_append,List.length_cons];omega
theorem awA:∀i,i<=q.length->∀(o:azA) m,o.length+200*(q.length-i)<=1000->(∀x∈o,jf q.length x)->q.length-i<m->
   tr q s.cw s.ch s.b_ s.cD s.cB m o al (i:Int)=
    some ((two s q al 0).foldl iZ ((one s q al i).foldl hD o),decide ((((two s q al 0).foldl iZ ((one s q al i).foldl hD o)).length:Int)<=200)):=by
 have aD:=H.pj;refine down q.length ?_ ?_
 .intro o m bO iB hm;obtain⟨m,rfl⟩:∃j,m=j+1:=⟨m-1,by omega⟩
  simp only[tr,PY];rw[eh (Nat.le_refl _),cond_false];have e:one s q al q.length=[]:=by unfold one;rw[Nat.sub_self];rfl
  rw[e];exact e5 (q.length+1) λm2 rq=>awz H 0 (by omega) o m2 (by omega) iB (by omega)
 .intro i ai ih o m bO iB hm;obtain⟨m,rfl⟩:∃j,m=j+1:=⟨m-1,by omega⟩
  obtain⟨mY,iI,li,ue⟩:=H.at ai;simp only[tr,PY];rw[ev ai,cond_true];have iH:b5 (λn=>yl (tr q s.cw s.ch s.b_ s.cD s.cB m) q s.cw s.ch s.b_ s.cD s.cB n o al (i:Int) 0)=
    tr q s.cw s.ch s.b_ s.cD s.cB m ((lN s q i al[i]).foldl hD o) al ((i+1:Nat):Int):=
   e5 (al[i].length+1) λm2 rq=>awt H _ ai (dX al i mY) li ue 0 (by omega) o m2 (by omega) iB (by omega)
  have bX:=(T4 (lN s q i al[i]) o).2;have dS:=Mv (s:=s) (q:=q) i al[i];have ec:one s q al i=lN s q i al[i]++one s q al (i+1):=by
   unfold one;rw[show q.length-i=(q.length-(i+1))+1 by omega,List.range'_succ,List.flatMap_cons,iI]
  rw[iH,ih _ m (by omega) (Mt _ o iB (H.g1 ai ue)) (by omega),ec,List.foldl_append]
end
theorem awB (a b:aze) (h:a.length<=1048576):G8 a b=some (a==b):=by
 unfold G8;by_cases hl:a.length=b.length
 .have e:((a.length:Int) !=(b.length:Int))=false:=by simp[hl]
  rw[e,cond_false];have:=qx (n:=a.length) (l:=Dm a b) (λi=>some (a.drop i==b.drop i)) (λm=>?_) (λi ai m ih=>?_)
  .simpa using this
  .simp only[Dm,QY];rw[eh (Nat.le_refl _),List.drop_of_length_le (Nat.le_refl _),List.drop_of_length_le (by omega)];rfl
  .simp only[Dm,QY];rw[ev ai,dX _ i ai,dX _ i (by omega),et i _ ai (by omega),drop_cons a i ai,drop_cons b i (by omega),List.cons_beq_cons];simp only[cond_true,bind_some,ih,bne];cases a[i]==b[i]
   .rfl
   .simp
 .have e:((a.length:Int) !=(b.length:Int))=true:=by simp;omega
  have aW:(a==b)=false:=by
   rw[beq_eq_false_iff_ne];intro h;exact hl (by rw[h])
  rw[e,cond_true,aW]
abbrev Seen:=aza
noncomputable abbrev iw:azA×Seen->bp->azA×Seen:=ob ph
theorem Bu (l:azA) (p:azA×Seen):(l.foldl iw p).1.length<=p.1.length+l.length:=acu ph l p
section
variable {s:cL} {q:azz} {al:azn} (H:uc s q al)
include H
theorem awC {i k:Nat} (ai:i<q.length) (aw:k<q.length) {x y:bm} (nA:fS x) (uq:fS y) (p:azA×Seen) (ax:p.1.length<=1000000000) {β:Type}
  (K:azw->azx->azy->azb->azb->azz->azA->Seen->Option β):
  ((An (cL.mk s.cw s.ch s.b_ s.cD s.cB) (e4 x.Label) (e4 y.Label)).bind λba=>cond ba.2 ((G8 (gG x.Label) (gG y.Label)).bind λaZ=>cond aZ
    ((Dk s.cw s.ch s.b_ s.cD s.cB q p.1 p.2 ba.1 (gG x.Label) (i:Int) (k:Int) [x.Next,y.Next]).bind λbq=>K bq.1 bq.2.1 bq.2.2.1 bq.2.2.2.1 bq.2.2.2.2.1 bq.2.2.2.2.2.1 bq.2.2.2.2.2.2.1 bq.2.2.2.2.2.2.2)
    (K s.cw s.ch s.b_ s.cD s.cB q p.1 p.2)) (K s.cw s.ch s.b_ s.cD s.cB q p.1 p.2))=
  K s.cw s.ch s.b_ s.cD s.cB q ((c2 s.b_ s.cD s.cB q i k x y).foldl iw p).1 ((c2 s.b_ s.cD s.cB q i k x y).foldl iw p).2:=by
 have aD:=H.pj;have Bt:=xu nA;rw[show An (cL.mk s.cw s.ch s.b_ s.cD s.cB) (e4 x.Label) (e4 y.Label)=_ from awq H.Bs H.sm.1 _ _,bind_some];have sB:=(Iu H.Bs (e4 x.Label) (e4 y.Label)).2;unfold c2;simp only;generalize oc s.b_ (e4 x.Label) (e4 y.Label)=kk at sB⊢;by_cases ag:kk=[]
 .rw[decide_eq_true ag,if_neg (λc=>c.2.1 ag)];rfl
 .rw[decide_eq_false ag,Bool.not_false,cond_true,awB _ _ (by have:=Bt.mQ.len;omega),bind_some];by_cases ad:gG x.Label=gG y.Label
  .rw[show(gG x.Label==gG y.Label)=true from by rw[ad];simp,cond_true];have Br:=Mr (sB ag) Bt.mQ.len Bt.mQ.kv;have Ui:=(acM (D:=s.cw) (C:=s.ch) (M:=s.b_) (A:=s.cD) (H:=s.cB) (o:=p.1) (sn:=p.2) (Ue (H:=s.cB) Br) (by omega) H.ud ax ai nA.next).2 k y.Next aw uq.next;have hm:=acN (n:=kk) (a:=gG x.Label) H.sm.2.1 H.sm.2.2 (k:Int) [x.Next,y.Next] i (ob ph p ⟨qB s.cB kk (gG x.Label),i,k,(q.set i x.Next).set k y.Next⟩) Ui;rw[hm,bind_some];have nZ:(kk==([116,97,117]:azc))=false:=by
    have:=sB ag;unfold kf at this;rw[Bool.and_eq_true]at this;simpa using this.2
   have bO:xw s.cD kk=decide (kk∈s.cD):=by unfold xw;rw[nZ,Bool.false_or]
   rw[bO];by_cases bh:kk∈s.cD
   .rw[if_pos (decide_eq_true bh),if_pos ⟨ad,ag,bh⟩];rfl
   .rw[if_neg (by simpa using bh),if_neg (λc=>bh c.2.2)];rfl
  .rw[show(gG x.Label==gG y.Label)=false from by simpa using ad,cond_false,if_neg (λc=>ad c.1)];rfl
theorem awD (dS:azw->azx->azy->azb->azb->azz->azA->Seen->Int->Option (azw×azx×azy×azb×azb×azz×azA×Seen))
  {i k:Nat} (ai:i<q.length) (aw:k<q.length) {l r:azB} (vB:l.length<=200) (xX:r.length<=200) (xx:∀x∈l,fS x) (y5:∀x∈r,fS x) {a:Nat} (bo:a<l.length):
  ∀b,b<=r.length->∀(p:azA×Seen) m,p.1.length+(r.length-b)<=1000000000->r.length-b<m->
   wK dS (i:Int) (k:Int) l r l[a] (e4 l[a].Label,gG l[a].Label,true) m s.cw s.ch s.b_ s.cD s.cB q p.1 p.2 (a:Int) (b:Int)=
    dS s.cw s.ch s.b_ s.cD s.cB q (((r.drop b).flatMap (c2 s.b_ s.cD s.cB q i k l[a])).foldl iw p).1 (((r.drop b).flatMap (c2 s.b_ s.cD s.cB q i k l[a])).foldl iw p).2 ((a+1:Nat):Int):=by
 refine down r.length ?_ ?_
 .intro p m ax hm;obtain⟨m,rfl⟩:∃j,m=j+1:=⟨m-1,by omega⟩
  simp only[wK,QZ];rw[eh (Nat.le_refl _),List.drop_of_length_le (Nat.le_refl _),cond_false,et a _ bo (by omega)];rfl
 .intro b ab ih p m ax hm;obtain⟨m,rfl⟩:∃j,m=j+1:=⟨m-1,by omega⟩
  have nA:=xx _ (List.getElem_mem bo);have uq:=y5 _ (List.getElem_mem ab);simp only[wK,QZ,G9];rw[ev ab,cond_true,dX r b ab,bind_some,(xu uq).read,bind_some,et b _ ab (by omega),drop_cons r b ab,List.flatMap_cons,List.foldl_append];have key:=awC H ai aw nA uq p (by omega) (λD C M A awE q o sn=>wK dS (i:Int) (k:Int) l r l[a] (e4 l[a].Label,gG l[a].Label,true) m D C M A awE q o sn (a:Int) ((b+1:Nat):Int));have IM:=Bu (c2 s.b_ s.cD s.cB q i k l[a] r[b]) p;have ay0:=Ug s.b_ s.cD s.cB q i k l[a] r[b];rw[<-ih ((c2 s.b_ s.cD s.cB q i k l[a] r[b]).foldl iw p) m (by omega) (by omega)];exact key
theorem awF {i k:Nat} (ai:i<q.length) (aw:k<q.length) {l r:azB} (vB:l.length<=200) (xX:r.length<=200) (xx:∀x∈l,fS x) (y5:∀x∈r,fS x):
  ∀a,a<=l.length->∀(p:azA×Seen) m,p.1.length+200*(l.length-a)<=100000000->l.length-a<m->
   tA (i:Int) (k:Int) l r m s.cw s.ch s.b_ s.cD s.cB q p.1 p.2 (a:Int)=
    some (s.cw,s.ch,s.b_,s.cD,s.cB,q,((mR s q i k (l.drop a) r).foldl iw p).1,((mR s q i k (l.drop a) r).foldl iw p).2):=by
 refine down l.length ?_ ?_
 .intro p m ax hm;obtain⟨m,rfl⟩:∃j,m=j+1:=⟨m-1,by omega⟩
  simp only[tA,Q0];rw[eh (Nat.le_refl _),List.drop_of_length_le (Nat.le_refl _),cond_false];rfl
 .intro a bo ih p m ax hm;obtain⟨m,rfl⟩:∃j,m=j+1:=⟨m-1,by omega⟩
  have nA:=xx _ (List.getElem_mem bo);simp only[tA,Q0];rw[ev bo,cond_true,dX l a bo,bind_some,(xu nA).read,bind_some];have iH:b5 (λn=>wK (tA (i:Int) (k:Int) l r m) (i:Int) (k:Int) l r l[a] (e4 l[a].Label,gG l[a].Label,true) n s.cw s.ch s.b_ s.cD s.cB q p.1 p.2 (a:Int) 0)=
    tA (i:Int) (k:Int) l r m s.cw s.ch s.b_ s.cD s.cB q ((r.flatMap (c2 s.b_ s.cD s.cB q i k l[a])).foldl iw p).1 ((r.flatMap (c2 s.b_ s.cD s.cB q i k l[a])).foldl iw p).2 ((a+1:Nat):Int):=
   e5 (r.length+1) λm2 rq=>awD H _ ai aw vB xX xx y5 bo 0 (by omega) p m2 (by omega) (by omega)
  have jg:∀r:azB,(r.flatMap (c2 s.b_ s.cD s.cB q i k l[a])).length<=r.length:=by
   intro r;induction r with
   |nil=>simp
   |cons y r BA=>
    have:=Ug s.b_ s.cD s.cB q i k l[a] y;rw[List.flatMap_cons,List.length_append,List.length_cons];omega
  have b1:=jg r;have du:=Bu (r.flatMap (c2 s.b_ s.cD s.cB q i k l[a])) p;have ec:mR s q i k (l.drop a) r=r.flatMap (c2 s.b_ s.cD s.cB q i k l[a])++mR s q i k (l.drop (a+1)) r:=by unfold mR;rw[drop_cons l a bo,List.flatMap_cons]
  rw[iH,ih _ m (by omega) (by omega),ec,List.foldl_append]
omit H in
theorem Uj (i k:Nat) (r:azB):∀l:azB,(mR s q i k l r).length<=r.length*l.length
 |[]=>by simp[mR]
 |x::l=>by
  have ad:∀r:azB,(r.flatMap (c2 s.b_ s.cD s.cB q i k x)).length<=r.length:=by
   intro r;induction r with
   |nil=>simp
   |cons y r BA=>
    have:=Ug s.b_ s.cD s.cB q i k x y;rw[List.flatMap_cons,List.length_append,List.length_cons];omega
  have ag:=Uj i k r l;have aD:=ad r;unfold mR at ag⊢;rw[List.flatMap_cons,List.length_append,List.length_cons,mul_succ];omega
theorem acS (kE:cL->azz->azA->Seen->azn->Int->Option (azA×Bool)) (acT:azn) {i:Nat} (ai:i<q.length) {l:azB} (vB:l.length<=200) (hg:∀x∈l,fS x):
  ∀a,a<=l.length->∀(p:azA×Seen) m,p.1.length+(l.length-a)<=1000000000->l.length-a<m->
   ys kE s q (l,true) m s q p.1 p.2 acT (i:Int) (i:Int) (a:Int)=kE s q ((lN s q i (l.drop a)).foldl iw p).1 ((lN s q i (l.drop a)).foldl iw p).2 acT ((i+1:Nat):Int):=by
 have aD:=H.pj;refine down l.length ?_ ?_
 .intro p m ax hm;obtain⟨m,rfl⟩:∃j,m=j+1:=⟨m-1,by omega⟩
  simp only[ys,Q2];rw[eh (Nat.le_refl _),List.drop_of_length_le (Nat.le_refl _),cond_false,et i _ ai (by omega)];rfl
 .intro a bo ih p m ax hm;obtain⟨m,rfl⟩:∃j,m=j+1:=⟨m-1,by omega⟩
  have nA:=hg _ (List.getElem_mem bo);have gw:=xu nA;simp only[ys,Q2];rw[ev bo,cond_true,dX l a bo,bind_some,gw.read,bind_some,et a _ bo (by omega)];have Ui:=(acM (D:=s.cw) (C:=s.ch) (M:=s.b_) (A:=s.cD) (H:=s.cB) (o:=p.1) (sn:=p.2) (Ue (H:=s.cB) gw.mQ) (by omega) H.ud (by omega) ai nA.next).1;have rq:=acN (n:=e4 l[a].Label) (a:=gG l[a].Label) H.sm.2.1 H.sm.2.2 (-1) [l[a].Next] i (ob ph p ⟨qB s.cB (e4 l[a].Label) (gG l[a].Label),i,-1,q.set i l[a].Next⟩) Ui;rw[rq,bind_some];have ec:lN s q i (l.drop a)=cx s.cD s.cB q i l[a]++lN s q i (l.drop (a+1)):=by unfold lN;rw[drop_cons l a bo,List.flatMap_cons]
  have aR:(cx s.cD s.cB q i l[a]).foldl iw p=if xw s.cD (e4 l[a].Label)=true then ob ph p ⟨qB s.cB (e4 l[a].Label) (gG l[a].Label),i,-1,q.set i l[a].Next⟩else p:=by
   unfold cx;split<;>rfl
  have b1:=Bu (cx s.cD s.cB q i l[a]) p;have du:=acK s.cD s.cB q i l[a];rw[ec,List.foldl_append,<-ih ((cx s.cD s.cB q i l[a]).foldl iw p) m (by omega) (by omega),aR]
theorem awG (qT:cL->azz->azA->Seen->azn->Int->Option (azA×Bool)) {i:Nat} (ai:i<q.length):
  ∀k,k<=q.length->∀(p:azA×Seen) m,p.1.length+40000*(q.length-k)<=50000000->q.length-k<m->
   Ao qT q m s q p.1 p.2 al (i:Int) (k:Int) (i:Int)=qT s q ((l8 s q al i k).foldl iw p).1 ((l8 s q al i k).foldl iw p).2 al ((i+1:Nat):Int):=by
 have aD:=H.pj;obtain⟨mY,iI,li,ue⟩:=H.at ai;refine down q.length ?_ ?_
 .intro p m ax hm;obtain⟨m,rfl⟩:∃j,m=j+1:=⟨m-1,by omega⟩
  simp only[Ao,Q3];rw[eh (Nat.le_refl _),cond_false,et i _ ai (by omega)];unfold l8;rw[Nat.sub_self];rfl
 .intro k aw ih p m ax hm;obtain⟨m,rfl⟩:∃j,m=j+1:=⟨m-1,by omega⟩
  obtain⟨pr,tQ,Er,Mu⟩:=H.at aw;simp only[Ao,Q3];rw[ev aw,cond_true,dX al i mY,dX al k pr];simp only[bind_some];have bb:Q1 s.cw s.ch s.b_ s.cD s.cB q p.1 p.2 (i:Int) (k:Int) al[i] al[k]=
    some (s.cw,s.ch,s.b_,s.cD,s.cB,q,((mR s q i k al[i] al[k]).foldl iw p).1,((mR s q i k al[i] al[k]).foldl iw p).2):=
   e5 (al[i].length+1) λm2 rq=>awF H ai aw li Er ue Mu 0 (by omega) p m2 (by omega) (by omega)
  have b1:=Uj (s:=s) (q:=q) i k al[k] al[i];have du:=Bu (mR s q i k al[i] al[k]) p;have di:al[k].length*al[i].length<=200*200:=Nat.mul_le_mul Er li;have ec:l8 s q al i k=mR s q i k al[i] al[k]++l8 s q al i (k+1):=by
   unfold l8;rw[show q.length-k=(q.length-(k+1))+1 by omega,List.range'_succ,List.flatMap_cons,iI,tQ]
  rw[bb,bind_some,et k _ aw (by omega),ec,List.foldl_append,<-ih _ m (by omega) (by omega)]
theorem awH {i:Nat} (ai:i<q.length):∀d k,k+d=q.length->(l8 s q al i k).length<=40000*d:=by
 intro d;induction d with
 |zero=>intro k aw;unfold l8;rw[show q.length-k=0 by omega];simp
 |succ d ih=>
  intro k aw;obtain⟨_,iI,li,_⟩:=H.at ai;obtain⟨_,tQ,Er,_⟩:=H.at (i:=k) (by omega);have h:=ih (k+1) (by omega);have b1:=Uj (s:=s) (q:=q) i k (al.getD k []) (al.getD i []);have di:(al.getD k []).length*(al.getD i []).length<=200*200:=Nat.mul_le_mul (by rw[tQ];exact Er) (by rw[iI];exact li);unfold l8 at h⊢;rw[show q.length-k=(q.length-(k+1))+1 by omega,List.range'_succ,List.flatMap_cons,List.length_append];omega
theorem awI:∀i,i<=q.length->∀(p:azA×Seen) m,p.1.length+120000*(q.length-i)<=10000000->q.length-i<m->
   wL q m s q p.1 p.2 al (i:Int)=some (((two s q al i).foldl iw p).1,decide (((((two s q al i).foldl iw p).1).length:Int)<=200)):=by
 have aD:=H.pj;refine down q.length ?_ ?_
 .intro p m ax hm;obtain⟨m,rfl⟩:∃j,m=j+1:=⟨m-1,by omega⟩
  simp only[wL,Q4];rw[eh (Nat.le_refl _),cond_false];unfold two;rw[Nat.sub_self];rfl
 .intro i ai ih p m ax hm;obtain⟨m,rfl⟩:∃j,m=j+1:=⟨m-1,by omega⟩
  simp only[wL,Q4];rw[ev ai,cond_true,et i _ ai (by omega)];have iH:b5 (λn=>Ao (wL q m) q n s q p.1 p.2 al (i:Int) ((i+1:Nat):Int) (i:Int))=
    wL q m s q ((l8 s q al i (i+1)).foldl iw p).1 ((l8 s q al i (i+1)).foldl iw p).2 al ((i+1:Nat):Int):=
   e5 (q.length+1) λm2 rq=>awG H _ ai (i+1) (by omega) p m2 (by omega) (by omega)
  have b1:=awH H ai (q.length-(i+1)) (i+1) (by omega);have du:=Bu (l8 s q al i (i+1)) p;have ec:two s q al i=l8 s q al i (i+1)++two s q al (i+1):=by
   unfold two;rw[show q.length-i=(q.length-(i+1))+1 by omega,List.range'_succ,List.flatMap_cons]
  rw[iH,ih _ m (by omega) (by omega),ec,List.foldl_append]
theorem awJ (aa:∀i (h:i<q.length),vc s.cw q[i]=some (al.getD i [],true)):∀i,i<=q.length->∀(p:azA×Seen) m,p.1.length+200*(q.length-i)<=1000->q.length-i<m->
   qm s q m s q p.1 p.2 (al.take i) (i:Int)=
    some (((two s q al 0).foldl iw ((one s q al i).foldl iw p)).1,decide (((((two s q al 0).foldl iw ((one s q al i).foldl iw p)).1).length:Int)<=200)):=by
 have aD:=H.pj;refine down q.length ?_ ?_
 .intro p m ax hm;obtain⟨m,rfl⟩:∃j,m=j+1:=⟨m-1,by omega⟩
  simp only[qm,Ha];rw[eh (Nat.le_refl _),cond_false];have e:one s q al q.length=[]:=by unfold one;rw[Nat.sub_self];rfl
  have aW:al.take q.length=al:=by rw[<-H.mf];exact List.take_length
  rw[e,aW];exact e5 (q.length+1) λm2 rq=>awI H 0 (by omega) p m2 (by omega) (by omega)
 .intro i ai ih p m ax hm;obtain⟨m,rfl⟩:∃j,m=j+1:=⟨m-1,by omega⟩
  obtain⟨mY,iI,li,ue⟩:=H.at ai;simp only[qm,Ha];rw[ev ai,cond_true,dX q i ai,bind_some,aa i ai,bind_some,iI];simp only[Bool.not_true,cond_false];rw[lJ (by simp;omega) (by simp;omega),bind_some,<-List.take_succ_eq_append_getElem mY];have iH:b5 (λn=>ys (qm s q m) s q (al[i],true) n s q p.1 p.2 (al.take (i+1)) (i:Int) (i:Int) 0)=
    qm s q m s q ((lN s q i al[i]).foldl iw p).1 ((lN s q i al[i]).foldl iw p).2 (al.take (i+1)) ((i+1:Nat):Int):=
   e5 (al[i].length+1) λm2 rq=>acS H _ _ ai li ue 0 (by omega) p m2 (by omega) (by omega)
  have bX:=Bu (lN s q i al[i]) p;have dS:=Mv (s:=s) (q:=q) i al[i];have ec:one s q al i=lN s q i al[i]++one s q al (i+1):=by
   unfold one;rw[show q.length-i=(q.length-(i+1))+1 by omega,List.range'_succ,List.flatMap_cons,iI]
  rw[iH,ih _ m (by omega) (by omega),ec,List.foldl_append]
theorem awK (aa:∀i (h:i<q.length),uX s.cw q[i]=some (al.getD i [],true)):∀i,i<=q.length->∀m,q.length-i<m->
   wD q s.cw s.ch s.b_ s.cD s.cB m (al.take i) (i:Int)=
    some ((two s q al 0).foldl iZ ((one s q al 0).foldl hD []),decide ((((two s q al 0).foldl iZ ((one s q al 0).foldl hD [])).length:Int)<=200)):=by
 have aD:=H.pj;refine down q.length ?_ ?_
 .intro m hm;obtain⟨m,rfl⟩:∃j,m=j+1:=⟨m-1,by omega⟩
  simp only[wD,GD];have aW:al.take q.length=al:=by rw[<-H.mf];exact List.take_length
  rw[eh (Nat.le_refl _),cond_false,aW];exact e5 (q.length+1) λm2 rq=>awA H 0 (by omega) [] m2 (by simp;omega) (λx aq=>by cases aq) (by omega)
 .intro i ai ih m hm;obtain⟨m,rfl⟩:∃j,m=j+1:=⟨m-1,by omega⟩
  obtain⟨mY,iI,_,_⟩:=H.at ai;simp only[wD,GD];rw[ev ai,cond_true,dX q i ai,bind_some,aa i ai,bind_some,iI];simp only[Bool.not_true,cond_false];rw[lJ (by simp;omega) (by simp;omega),bind_some,<-List.take_succ_eq_append_getElem mY,et i _ ai (by omega)];exact ih m (by omega)
end
end Go.k6
