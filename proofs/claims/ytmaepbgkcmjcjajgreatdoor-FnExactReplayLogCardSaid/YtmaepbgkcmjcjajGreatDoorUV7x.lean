/- Part of a proof that a law returns true for every input. No condition. -/
import Derived.Test.YtmaepbgkcmjcjajGreatDoorUV6x
namespace Go.ld
open Option Go.IntKind Nat Or
open Go Go.ep
noncomputable def e9 (L:azq):azq:=(ta L).getD []
noncomputable def gF (L:azq):azs:=((s_ L).getD ([],false)).1
structure xt (n:azq) (a:azs):Prop where
 kv:hk n=true
 len:a.length<=2
 Ef:(n==([116,97,117]:azq))=true->a.length=0
 kt:∀x∈a,fW x
structure sB (L:azq):Prop where
 mW:xt (e9 L) (gF L)
 eq:L=iZ (e9 L) (gF L)
theorem Ms {n:azq} {a:azs} (h:xt n a):e9 (iZ n a)=n/\gF (iZ n a)=a:=by
 unfold e9 gF;rw[ach h.kv h.len,aci h.kv h.len h.Ef h.kt];exact⟨rfl,rfl⟩
theorem acy {n:azq} {a:azs} (h:xt n a):sB (iZ n a):=by
 obtain⟨aP,aW⟩:=Ms h;exact⟨by rw[aP,aW];exact h,by rw[aP,aW]⟩
theorem xu {s:bl} (h:fR s):sB s.Label:=by
 obtain⟨n,a,ad,af,aG,bh,b6⟩:=h.shape;rw[b6];exact acy ⟨ad,af,aG,bh⟩
theorem sB.name {L:azq} (h:sB L):ta L=some (e9 L):=by
 have:=ach h.mW.kv h.mW.len
 rwa [<-h.eq]at this
theorem sB.values {L:azq} (h:sB L):s_ L=some (gF L,true):=by
 have:=aci h.mW.kv h.mW.len h.mW.Ef h.mW.kt
 rwa [<-h.eq]at this
theorem sB.read {L:azq} (h:sB L):u4 L=some (e9 L,gF L,true):=by
 have:=avZ h.mW.kv h.mW.len h.mW.Ef h.mW.kt
 rwa [<-h.eq]at this
theorem acz:xt [116,97,117] []:=⟨by decide,by simp,λ_=>rfl,λx ao=>by cases ao⟩
def xv (H:azp) (n:azq) (a:azs):azq×azs:=if n∈H then([116,97,117],[])else(n,a)
def qt (H:azp) (n:azq) (a:azs):azq:=iZ (xv H n a).1 (xv H n a).2
theorem T1 {H:azp} {n:azq} {a:azs} (h:xt n a):xt (xv H n a).1 (xv H n a).2:=by
 unfold xv;split
 .exact acz
 .exact h
theorem acA (s:cY) (nY:s.cA.length<=1048576) {L:azq} (h:sB L):Cy s L=some (qt s.cA (e9 L) (gF L)):=by
 obtain⟨⟨z,s4,_,z2⟩,_⟩:=Ic s.cA (e9 L) nY;unfold Cy;rw[h.name,bind_some,s4,bind_some,z2];unfold qt xv;by_cases hm:e9 L∈s.cA
 .rw[decide_eq_true hm,if_pos hm];rfl
 .rw[decide_eq_false hm,if_neg hm,cond_false];exact congrArg some h.eq
def xw (A:azp) (n:azq):Bool:=(n==[116,97,117])||decide (n∈A)
noncomputable def ct (A H:azp) (q:azO) (i:Nat) (x:bl):azP:=
 if xw A (e9 x.Label)=true then [⟨qt H (e9 x.Label) (gF x.Label),(i:Int),-1,q.set i x.Next⟩]else []
noncomputable def oc (M:azM) (x y:azq):azq:=sA M (ks (sy M (h8 false x y) (h8 true x y)) 0 M.length)
noncomputable def c2 (M:azM) (A H:azp) (q:azO) (i k:Nat) (x y:bl):azP:=
 if gF x.Label=gF y.Label/\oc M (e9 x.Label) (e9 y.Label)≠[]/\oc M (e9 x.Label) (e9 y.Label)∈A then
  [⟨qt H (oc M (e9 x.Label) (e9 y.Label)) (gF x.Label),(i:Int),(k:Int),(q.set i x.Next).set k y.Next⟩]else []
theorem vE {q:azO} (h:∀p∈q,jx p) {x:ba} (ao:jx x) (i:Nat):∀p∈q.set i x,jx p:=by
 intro p ay;rcases List.mem_or_eq_of_mem_set ay with ad|rfl
 .exact h p ad
 .exact ao
theorem T2 {H:azp} {n:azq} {a:azs} (h:xt n a):(qt H n a).length<=400/\(32:UInt8)∉qt H n a:=by
 have g:=T1 (H:=H) h;exact TB g.kv (by have:=g.len;omega) g.kt
theorem awA {A H:azp} {q:azO} (h:∀p∈q,jx p) {i:Nat} (ai:i<100) {x:bl} (ao:fR x):∀m∈ct A H q i x,jk q.length m:=by
 intro m hm;unfold ct at hm;split at hm
 .rw[List.mem_singleton]at hm;subst hm;exact⟨T2 (xu ao).mW,⟨i,ai,rfl⟩,.inl rfl,by simp,vE h ao.next i⟩
 .cases hm
theorem acB (A H:azp) (q:azO) (i:Nat) (x:bl):(ct A H q i x).length<=1:=by unfold ct;split<;>simp
theorem T3 (M:azM) (A H:azp) (q:azO) (i k:Nat) (x y:bl):(c2 M A H q i k x y).length<=1:=by unfold c2;split<;>simp
theorem Ie {s:cY} (aJ:(l8 s==0)=true) (x y:azq):
  (decide (ks (sy s.cb (h8 false x y) (h8 true x y)) 0 s.cb.length<0)=decide (oc s.cb x y=[]))/\(oc s.cb x y≠[]->kg (oc s.cb x y)=true):=by
 have hl:=TZ (sy s.cb (h8 false x y) (h8 true x y)) s.cb.length 0;unfold oc;generalize ks (sy s.cb (h8 false x y) (h8 true x y)) 0 s.cb.length=z at hl⊢;by_cases h:z<0
 .rw[decide_eq_true h];have e:sA s.cb z=[]:=by unfold sA;rw[decide_eq_true h];rfl
  rw[e];exact⟨by simp,λh=>absurd rfl h⟩
 .have cd:z.toNat<s.cb.length:=by omega
  have e:sA s.cb z=(eW s.cb z.toNat).Result:=by unfold sA;rw[decide_eq_false h];rfl
  have aR:=awx s aJ z.toNat cd;rw[beq_eq_false_iff_ne]at aR;rw[e,decide_eq_false h,decide_eq_false aR];refine⟨rfl,λ_=>?_⟩;have hm:q4 s.cb=true:=by
   cases h:q4 s.cb
   .unfold l8 at aJ;rw[h]at aJ;revert aJ;cases nM s.cI<;>cases q3 s<;>simp
   .rfl
  unfold q4 at hm;rw[Bool.and_eq_true]at hm;have ad:=n_.1 hm.2 z.toNat cd;unfold Bh at ad;simp only[Bool.and_eq_true]at ad;exact ad.1.1.1.2
theorem Mt {n:azq} {a:azs} (h:kg n=true) (hl:a.length<=2) (aJ:∀x∈a,fW x):xt n a:=by
 unfold kg at h;rw[Bool.and_eq_true]at h;exact⟨h.1,hl,λe=>(by rw[e]at h;cases h.2),aJ⟩
theorem awB {s:cY} (aJ:(l8 s==0)=true) (hm:s.cb.length<=1048576) (x y:azq):Al s x y=some (oc s.cb x y,!decide (oc s.cb x y=[])):=by
 rw[aww s hm x y _ rfl,(Ie aJ x y).1];rfl
theorem T4 {s:cY} (aJ:(l8 s==0)=true) {q:azO} (h:∀p∈q,jx p) {i k:Nat} (ai:i<100) (aw:k<100) {x y:bl} (ao:fR x) (hy:fR y):
  ∀m∈c2 s.cb s.cD s.cA q i k x y,jk q.length m:=by
 intro m hm;unfold c2 at hm;split at hm
 .rename_i au;rw[List.mem_singleton]at hm;subst hm;have g:=(xu ao).mW;exact⟨T2 (Mt ((Ie aJ _ _).2 au.2.1) g.len g.kt),⟨i,ai,rfl⟩,.inr ⟨k,aw,rfl⟩,by simp,vE (vE h ao.next i) hy.next k⟩
 .cases hm
theorem awC {s:cY} (aJ:(l8 s==0)=true) (hm:s.cb.length<=1048576) (jo:s.cD.length<=1048576) {x y:azq} (ao:sB x) (hy:sB y):
  J_ s x y=some (if gF x=gF y/\oc s.cb (e9 x) (e9 y)≠[]/\oc s.cb (e9 x) (e9 y)∈s.cD then iZ (oc s.cb (e9 x) (e9 y)) (gF x)else []):=by
 have g:=ao.mW;unfold J_;rw[ao.values,hy.values];simp only[bind_some];rw[TD _ _ (by have:=g.len;omega),bind_some];by_cases ad:gF x=gF y
 .rw[show(gF x==gF y)=true from by rw[ad];simp];simp only[Bool.not_true,cond_false];rw[ao.name,hy.name];simp only[bind_some];rw[show Gn s.cb (e9 x) (e9 y)=some (oc s.cb (e9 x) (e9 y))from awv _ hm _ _,bind_some];have sl:=(Ie aJ (e9 x) (e9 y)).2;generalize oc s.cb (e9 x) (e9 y)=r at sl⊢;by_cases af:r=[]
  .rw[if_neg (λc=>c.2.1 af),af];rfl
  .rw[show(r==([]:azq))=false from by simpa using af,cond_false];obtain⟨⟨z,s4,z2,_⟩,_⟩:=Ic s.cD r jo;rw[s4,bind_some,z2];by_cases aG:r∈s.cD
   .rw[decide_eq_true aG,if_pos ⟨ad,af,aG⟩];have Bi:=Mt (sl af) g.len g.kt;have yU:r.length<=10:=by have:=Bi.kv;simp only[hk,Bool.and_eq_true,decide_eq_true_eq]at this;exact this.1
    rw[Bool.not_true,cond_false,abV r (gF x) yU (by have:=g.len;omega) g.kt];rfl
   .rw[decide_eq_false aG,if_neg (λc=>aG c.2.2)];rfl
 .rw[show(gF x==gF y)=false from by simpa using ad,if_neg (λc=>ad c.1)];rfl
theorem acC {n:Nat} {D:azK} {C:azL} {M:azM} {A H:azp} {q:azO} {o:azP} {sn:azo} (m:br) (hm:jk n m) (aX:n<=100) (bS:o.length<=1000000000):
  Dc m.ef m.Second D C M A H q o sn m.Label m.State=some (D,C,M,A,H,q,(ob pc (o,sn) m).1,(ob pc (o,sn) m).2):=by
 obtain⟨i,ai,iP⟩:=hm.fst;obtain⟨s1,s2,_⟩:=TV hm.snd;have ad:=xf i;have af:=hm.A_.1;have aG:=acm hm.st.2;have bh:=hm.st.1;have aq:rN m.ef=some (iQ m.ef.toNat):=by rw[iP,Int.toNat_natCast];exact A1 i ai
 have hP:(iQ m.ef.toNat).length<=2:=by rw[iP,Int.toNat_natCast];exact ad
 unfold Dc;rw[aq,s1,av5 (by omega) hm.st.2,my (by omega)];simp only[bind_some];rw[my (by simp only[List.length_append,List.length_cons,List.length_nil];omega),bind_some,my (by simp only[List.length_append,List.length_cons,List.length_nil];omega),bind_some,my (by simp only[List.length_append,List.length_cons,List.length_nil];omega),bind_some,
  my (by simp only[List.length_append,List.length_cons,List.length_nil];omega),bind_some,my (by simp only[List.length_append,List.length_cons,List.length_nil];omega),bind_some]
 show cond (!(kh (pc m) sn)) _ _=_;unfold ob;cases hg:kh (pc m) sn
 .rw[kO (by omega) (by omega)];simp only[hg];rfl
 .simp only[hg];rfl
theorem acD {D:azK} {C:azL} {M:azM} {A H:azp} {q:azO} {o:azP} {sn:azo} {n:azq} {a:azs} (aX:xt n a) (c6:q.length<=100) (h:∀p∈q,jx p)
  (bS:o.length<=1000000000) {i:Nat} (ai:i<q.length) {p:ba} (ay:jx p):
  (qP (i:Int) (-1) [p] D C M A H q o sn n a=some (D,C,M,A,H,q,(ob pc (o,sn) ⟨iZ n a,i,-1,q.set i p⟩).1,(ob pc (o,sn) ⟨iZ n a,i,-1,q.set i p⟩).2))/\
  ∀(k:Nat) (r:ba),k<q.length->jx r->
   qP (i:Int) (k:Int) [p,r] D C M A H q o sn n a=some (D,C,M,A,H,q,(ob pc (o,sn) ⟨iZ n a,i,k,(q.set i p).set k r⟩).1,(ob pc (o,sn) ⟨iZ n a,i,k,(q.set i p).set k r⟩).2):=by
 have Ml:=TB aX.kv (by have:=aX.len;omega) aX.kt;constructor
 .unfold qP;rw[H7 n a aX.kv aX.len aX.Ef aX.kt,(Ee c6 h).2];simp only[bind_some];rw[show bj [p] 0=some p from rfl,bind_some,T0 ay,dX _ i ai];simp only[bind_some,Int.toNat_natCast];rw[show decide ((0:Int)<=-1)=false from rfl,cond_false];exact acC (n:=q.length) ⟨iZ n a,i,-1,q.set i p⟩ ⟨Ml,⟨i,by omega,rfl⟩,.inl rfl,by simp,vE h ay i⟩ c6 bS
 .intro k r aw aR;unfold qP;rw[H7 n a aX.kv aX.len aX.Ef aX.kt,(Ee c6 h).2];simp only[bind_some];rw[show bj [p,r] 0=some p from rfl,bind_some,T0 ay,dX _ i ai];simp only[bind_some,Int.toNat_natCast];rw[show decide ((0:Int)<=(k:Int))=true from decide_eq_true (by omega),cond_true,show bj [p,r] 1=some r from rfl,bind_some,T0 aR,dX _ k (by simpa using aw)];simp only[bind_some];exact acC (n:=q.length) ⟨iZ n a,i,k,(q.set i p).set k r⟩ ⟨Ml,⟨i,by omega,rfl⟩,.inr ⟨k,by omega,rfl⟩,by simp,vE (vE h ay i) aR k⟩ c6 bS
theorem acE {D:azK} {C:azL} {M:azM} {A H:azp} {q:azO} {o:azP} {sn:azo} {n:azq} {a:azs} (jo:A.length<=1048576) (nY:H.length<=1048576) (k:Int) (ps:azO) (i:Nat)
  (r:azP×azo) (aw:qP (i:Int) k ps D C M A H q o sn (xv H n a).1 (xv H n a).2=some (D,C,M,A,H,q,r.1,r.2)):
  Dd D C M A H q o sn n a (i:Int) k ps=some (D,C,M,A,H,q,(if xw A n=true then r else(o,sn)).1,(if xw A n=true then r else(o,sn)).2):=by
 have aP:=(Ic A n jo).2;have aW:=(Ic H n nY).2;have au:∀x,cond (decide (n∈H)) (qP (i:Int) k ps D C M A H q o sn ([116,97,117]:azq) []) (qP (i:Int) k ps D C M A H q o sn n a)=x↔some (D,C,M,A,H,q,r.1,r.2)=x:=by
  intro x;rw[<-aw];unfold xv;by_cases h:n∈H
  .rw[decide_eq_true h,if_pos h];exact Iff.rfl
  .rw[decide_eq_false h,if_neg h];exact Iff.rfl
 unfold Dd xw;rw[aP,aW];simp only[bind_some];cases a8:n==([116,97,117]:azq)
 .simp only[Bool.not_false,cond_true,Bool.false_or];by_cases h:n∈A
  .rw[decide_eq_true h];simp only[Bool.not_true,cond_false,if_true];exact(au _).2 rfl
  .rw[decide_eq_false h];simp
 .simp only[Bool.not_true,cond_false,Bool.true_or,if_true];exact(au _).2 rfl
theorem awD {L:azq} (h:sB L):(L==([116,97,117]:azq))=(e9 L==[116,97,117]):=by
 rw[Bool.eq_iff_iff,beq_iff_eq,beq_iff_eq];constructor
 .intro e;have:L=iZ [116,97,117] []:=e;rw[this];exact(Ms acz).1
 .intro e;have af:=h.mW.Ef (by rw[e];rfl);have aG:gF L=[]:=List.length_eq_zero_iff.1 af;rw[h.eq,e,aG];rfl
theorem acF {n:Nat} {o:azP} {m:br} (bS:o.length<=1000) (hg:∀x∈o,jk n x) (hm:jk n m):(jc o m).length<=1000/\∀x∈jc o m,jk n x:=by
 unfold jc;split
 .exact⟨bS,hg⟩
 .have:=TP o m;exact⟨by omega,λx ao=>(Ia ao).elim (hg x) λe=>e▸hm⟩
theorem Mu {n:Nat}:∀(l o:azP),o.length<=1000->(∀x∈o,jk n x)->(∀x∈l,jk n x)->(l.foldl jc o).length<=1000/\∀x∈l.foldl jc o,jk n x
 |[],o,bS,hg,_=>⟨bS,hg⟩
 |s::r,o,bS,hg,hl=>by
  obtain⟨ad,af⟩:=acF bS hg (hl s (by simp));exact Mu r _ ad af λx ao=>hl x (List.mem_cons_of_mem _ ao)
theorem Mv {n:Nat}:∀(l o:azP),(∀x∈o,jk n x)->(∀x∈l,jk n x)->∀x∈l.foldl hO o,jk n x
 |[],o,hg,_=>hg
 |s::r,o,hg,hl=>Mv r _ (λx ao=>(Ia ao).elim (hg x) λe=>e▸hl s (by simp)) λx ao=>hl x (List.mem_cons_of_mem _ ao)
structure tY (s:cY) (q:azO) (al:azB):Prop where
 Bj:(l8 s==0)=true
 sm:s.cb.length<=1048576/\s.cD.length<=1048576/\s.cA.length<=1048576
 pd:q.length<=3
 tZ:∀p∈q,jx p
 mh:al.length=q.length
 gs:∀l∈al,l.length<=200/\∀x∈l,fR x
noncomputable def lS (s:cY) (q:azO) (i:Nat) (l:azQ):azP:=l.flatMap (ct s.cD s.cA q i)
noncomputable def mX (s:cY) (q:azO) (i k:Nat) (l r:azQ):azP:=l.flatMap λx=>r.flatMap (c2 s.cb s.cD s.cA q i k x)
noncomputable def l9 (s:cY) (q:azO) (al:azB) (i k:Nat):azP:=(List.range' k (q.length-k)).flatMap λk=>mX s q i k (al.getD i []) (al.getD k [])
noncomputable def one (s:cY) (q:azO) (al:azB) (i:Nat):azP:=(List.range' i (q.length-i)).flatMap λi=>lS s q i (al.getD i [])
noncomputable def two (s:cY) (q:azO) (al:azB) (i:Nat):azP:=(List.range' i (q.length-i)).flatMap λi=>l9 s q al i (i+1)
section
variable {s:cY} {q:azO} {al:azB} (H:tY s q al)
include H
theorem tY.at {i:Nat} (ai:i<q.length):∃h:i<al.length,al.getD i []=al[i]/\al[i].length<=200/\∀x∈al[i],fR x:=by
 have h:i<al.length:=by rw[H.mh];exact ai
 exact⟨h,by simp[List.getD,h],H.gs _ (List.getElem_mem h)⟩
theorem tY.g1 {i:Nat} (ai:i<q.length) {l:azQ} (hl:∀x∈l,fR x):∀m∈lS s q i l,jk q.length m:=by
 intro m hm;unfold lS at hm;obtain⟨x,ao,hm⟩:=List.mem_flatMap.1 hm;exact awA H.tZ (by have:=H.pd;omega) (hl x ao) m hm
theorem tY.g2 {i k:Nat} (ai:i<q.length) (aw:k<q.length) {l r:azQ} (hl:∀x∈l,fR x) (aR:∀x∈r,fR x):∀m∈mX s q i k l r,jk q.length m:=by
 intro m hm;unfold mX at hm;obtain⟨x,ao,hm⟩:=List.mem_flatMap.1 hm;obtain⟨y,hy,hm⟩:=List.mem_flatMap.1 hm;exact T4 H.Bj H.tZ (by have:=H.pd;omega) (by have:=H.pd;omega) (hl x ao) (aR y hy) m hm
theorem tY.g3 {i k:Nat} (ai:i<q.length):∀m∈l9 s q al i k,jk q.length m:=by
 intro m hm;unfold l9 at hm;obtain⟨j,bQ,hm⟩:=List.mem_flatMap.1 hm;rw[List.mem_range'_1]at bQ;obtain⟨_,aP,_,f1⟩:=H.at ai;obtain⟨_,aW,_,f2⟩:=H.at (i:=j) (by omega);rw[aP,aW]at hm;exact H.g2 ai (by omega) f1 f2 m hm
theorem tY.gone {i:Nat}:∀m∈one s q al i,jk q.length m:=by
 intro m hm;unfold one at hm;obtain⟨j,bQ,hm⟩:=List.mem_flatMap.1 hm;rw[List.mem_range'_1]at bQ;obtain⟨_,aP,_,f1⟩:=H.at (i:=j) (by omega);rw[aP]at hm;exact H.g1 (by omega) f1 m hm
theorem tY.acG {i:Nat}:∀m∈two s q al i,jk q.length m:=by
 intro m hm;unfold two at hm;obtain⟨j,bQ,hm⟩:=List.mem_flatMap.1 hm;rw[List.mem_range'_1]at bQ;exact H.g3 (by omega) m hm
theorem awE (qN:azP->azB->Int->Option (azP×Bool)) {i:Nat} (ai:i<q.length) {l:azQ} (hl:bj al (i:Int)=some l) (vu:l.length<=200) (hg:∀x∈l,fR x):
  ∀a,a<=l.length->∀(o:azP) m,o.length+(l.length-a)<=1000000->(∀x∈o,jk q.length x)->l.length-a<m->
   yl qN q s.cI s.b0 s.cb s.cD s.cA m o al (i:Int) (a:Int)=qN ((lS s q i (l.drop a)).foldl hO o) al ((i+1:Nat):Int):=by
 have aG:=H.pd;refine down l.length ?_ ?_
 .intro o m bS iH hm;obtain⟨m,rfl⟩:∃j,m=j+1:=⟨m-1,by omega⟩
  simp only[yl,PW];rw[hl,bind_some,ei (Nat.le_refl _),List.drop_of_length_le (Nat.le_refl _),cond_false,ek i _ ai (by omega)];rfl
 .intro a bq ih o m bS iH hm;obtain⟨m,rfl⟩:∃j,m=j+1:=⟨m-1,by omega⟩
  have nB:=hg _ (List.getElem_mem bq);have gz:=xu nB;simp only[yl,PW,Gp];rw[hl,bind_some,el bq,cond_true,dX l a bq,bind_some,awD gz,gz.name,bind_some,(Ee (by omega) H.tZ).1,ek a _ bq (by omega)];obtain⟨⟨z,s4,z2,_⟩,_⟩:=Ic s.cD (e9 l[a].Label) H.sm.2.1;rw[s4];simp only[bind_some,Int.toNat_natCast];rw[z2,dX q i ai,acA (cY.mk s.cI s.b0 s.cb s.cD s.cA) H.sm.2.2 gz];simp only[bind_some];rw[(Ee (by simp;omega) (vE H.tZ nB.next i)).1,bind_some];have mb:zZ o ⟨qt s.cA (e9 l[a].Label) (gF l[a].Label),(i:Int),-1,q.set i l[a].Next⟩=some (hO o ⟨qt s.cA (e9 l[a].Label) (gF l[a].Label),(i:Int),-1,q.set i l[a].Next⟩):=acx o _ (by omega) (by omega) iH;have ec:lS s q i (l.drop a)=ct s.cD s.cA q i l[a]++lS s q i (l.drop (a+1)):=by unfold lS;rw[drop_cons l a bq,List.flatMap_cons]
  rw[mb,ec,List.foldl_append];have nC:ct s.cD s.cA q i l[a]=if xw s.cD (e9 l[a].Label)=true then [⟨qt s.cA (e9 l[a].Label) (gF l[a].Label),(i:Int),-1,q.set i l[a].Next⟩]else []:=rfl;have Eg:jk q.length ⟨qt s.cA (e9 l[a].Label) (gF l[a].Label),(i:Int),-1,q.set i l[a].Next⟩:=⟨T2 gz.mW,⟨i,by omega,rfl⟩,.inl rfl,by simp,vE H.tZ nB.next i⟩
  have hle:=TP o ⟨qt s.cA (e9 l[a].Label) (gF l[a].Label),(i:Int),-1,q.set i l[a].Next⟩;rw[nC];unfold xw;cases e9 l[a].Label==[116,97,117]
  .by_cases jo:e9 l[a].Label∈s.cD
   .simp only[decide_eq_true jo,Bool.not_false,Bool.not_true,Bool.false_or,if_true,cond_true,cond_false,bind_some,List.foldl_cons,List.foldl_nil];exact ih _ m (by omega) (λx ao=>(Ia ao).elim (iH x) λe=>by rw[e];exact Eg) (by omega)
   .simp only[decide_eq_false jo,Bool.not_false,Bool.false_or,cond_true,List.foldl_nil,Bool.false_eq_true,if_false];exact ih _ m (by omega) iH (by omega)
  .simp only[Bool.not_true,cond_false,Bool.true_or,if_true,bind_some,List.foldl_cons,List.foldl_nil];exact ih _ m (by omega) (λx ao=>(Ia ao).elim (iH x) λe=>by rw[e];exact Eg) (by omega)
theorem awF (iJ:azP->azB->Int->Option (azP×Bool)) (k2:azP->azB->Int->Int->Option (azP×Bool)) (qa:azP->azB->Int->Int->Int->Option (azP×Bool))
  {i k:Nat} (ai:i<q.length) (aw:k<q.length) {l r:azQ} (hl:bj al (i:Int)=some l) (aR:bj al (k:Int)=some r) (vu:l.length<=200) (xX:r.length<=200) (xx:∀x∈l,fR x) (yZ:∀x∈r,fR x) {a:Nat} (bq:a<l.length):
  ∀b,b<=r.length->∀(o:azP) m,o.length<=1000->(∀x∈o,jk q.length x)->r.length-b<m->
   uR iJ k2 qa q s.cI s.b0 s.cb s.cD s.cA m o al (i:Int) (k:Int) (a:Int) (b:Int)=
    qa (((r.drop b).flatMap (c2 s.cb s.cD s.cA q i k l[a])).foldl jc o) al (i:Int) (k:Int) ((a+1:Nat):Int):=by
 have aG:=H.pd;have Ec:∀b (o:azP) m,b<=r.length->200<o.length->uR iJ k2 qa q s.cI s.b0 s.cb s.cD s.cA (m+1) o al (i:Int) (k:Int) (a:Int) (b:Int)=
    qa (((r.drop b).flatMap (c2 s.cb s.cD s.cA q i k l[a])).foldl jc o) al (i:Int) (k:Int) ((a+1:Nat):Int):=by
  intro b o m ab bS;simp only[uR,Kc];rw[aR,bind_some,show decide ((o.length:Int)<=200)=false from decide_eq_false (by omega),Bool.and_false,cond_false,TR _ _ bS,ek a _ bq (by omega)]
 refine down r.length ?_ ?_
 .intro o m bS iH hm;obtain⟨m,rfl⟩:∃j,m=j+1:=⟨m-1,by omega⟩
  simp only[uR,Kc];rw[aR,bind_some,ei (Nat.le_refl _),List.drop_of_length_le (Nat.le_refl _),Bool.false_and,cond_false,ek a _ bq (by omega)];rfl
 .intro b ab ih o m bS iH hm;obtain⟨m,rfl⟩:∃j,m=j+1:=⟨m-1,by omega⟩
  by_cases acH:200<o.length
  .exact Ec b o m (by omega) acH
  have nB:=xx _ (List.getElem_mem bq);have ui:=yZ _ (List.getElem_mem ab);have Bk:=xu nB;have awG:=xu ui;simp only[uR,Kc,Ka];rw[aR,bind_some,el ab,show decide ((o.length:Int)<=200)=true from decide_eq_true (by omega),Bool.and_self,cond_true,hl,bind_some,dX l a bq,bind_some,dX r b ab,bind_some,
   awC (s:=cY.mk s.cI s.b0 s.cb s.cD s.cA) H.Bj H.sm.1 H.sm.2.1 Bk awG,bind_some,(Ee (by omega) H.tZ).1,bind_some,ek b _ ab (by omega),dX q i ai,bind_some,drop_cons r b ab,List.flatMap_cons,List.foldl_append]
  have Eg:=T4 H.Bj H.tZ (i:=i) (k:=k) (by omega) (by omega) nB ui;simp only[Int.toNat_natCast];unfold c2 at Eg⊢;by_cases au:gF l[a].Label=gF r[b].Label/\oc s.cb (e9 l[a].Label) (e9 r[b].Label)≠[]/\oc s.cb (e9 l[a].Label) (e9 r[b].Label)∈s.cD
  .rw[if_pos au]at Eg⊢;rw[if_pos au];have Bi:=Mt ((Ie H.Bj (e9 l[a].Label) (e9 r[b].Label)).2 au.2.1) Bk.mW.len Bk.mW.kt;have eo:(iZ (oc s.cb (e9 l[a].Label) (e9 r[b].Label)) (gF l[a].Label)==([]:azq))=false:=by
    rw[beq_eq_false_iff_ne];intro e;have aW:=(Ms Bi).1;rw[e]at aW;have aS:e9 ([]:azq)=[]:=by
     have:ta []=some []:=by unfold ta;rw[(yM [] (by simp)).1 (by simp)];rfl
     unfold e9;rw[this];rfl
    exact au.2.1 (aW.symm.trans aS)
   obtain⟨aP,aW⟩:=Ms Bi;rw[eo,cond_false,dX _ k (by simpa using aw),bind_some,acA (cY.mk s.cI s.b0 s.cb s.cD s.cA) H.sm.2.2 (acy Bi),bind_some,aP,aW,
    (Ee (by simp;omega) (vE (vE H.tZ nB.next i) ui.next k)).1,bind_some,acx (n:=q.length) o _ (by omega) (by omega) iH,bind_some,List.foldl_cons,List.foldl_nil]
   have acI:∀x:br,jc o x=hO o x:=λx=>by unfold jc;rw[if_neg acH]
   rw[acI];have uD:=acF bS iH (Eg _ (List.mem_singleton.2 rfl));rw[acI]at uD;exact ih _ m uD.1 uD.2 (by omega)
  .rw[if_neg au,if_neg au,beq_self_eq_true,cond_true];exact ih _ m bS iH (by omega)
theorem awH (iJ:azP->azB->Int->Option (azP×Bool)) (k2:azP->azB->Int->Int->Option (azP×Bool))
  {i k:Nat} (ai:i<q.length) (aw:k<q.length) {l r:azQ} (hl:bj al (i:Int)=some l) (aR:bj al (k:Int)=some r) (vu:l.length<=200) (xX:r.length<=200) (xx:∀x∈l,fR x) (yZ:∀x∈r,fR x):
  ∀a,a<=l.length->∀(o:azP) m,o.length<=1000->(∀x∈o,jk q.length x)->l.length-a<m->
   rG iJ k2 q s.cI s.b0 s.cb s.cD s.cA m o al (i:Int) (k:Int) (a:Int)=k2 ((mX s q i k (l.drop a) r).foldl jc o) al (i:Int) ((k+1:Nat):Int):=by
 have aG:=H.pd;refine down l.length ?_ ?_
 .intro o m bS iH hm;obtain⟨m,rfl⟩:∃j,m=j+1:=⟨m-1,by omega⟩
  simp only[rG,PY];rw[hl,bind_some,ei (Nat.le_refl _),List.drop_of_length_le (Nat.le_refl _),cond_false,ek k _ aw (by omega)];rfl
 .intro a bq ih o m bS iH hm;obtain⟨m,rfl⟩:∃j,m=j+1:=⟨m-1,by omega⟩
  simp only[rG,PY];rw[hl,bind_some,el bq,cond_true];have iO:b3 (λn=>uR iJ k2 (rG iJ k2 q s.cI s.b0 s.cb s.cD s.cA m) q s.cI s.b0 s.cb s.cD s.cA n o al (i:Int) (k:Int) (a:Int) 0)=
    rG iJ k2 q s.cI s.b0 s.cb s.cD s.cA m ((r.flatMap (c2 s.cb s.cD s.cA q i k l[a])).foldl jc o) al (i:Int) (k:Int) ((a+1:Nat):Int):=
   e5 (r.length+1) λm2 q5=>awF H iJ k2 _ ai aw hl aR vu xX xx yZ bq 0 (by omega) o m2 bS iH (by omega)
  have awI:∀x∈r.flatMap (c2 s.cb s.cD s.cA q i k l[a]),jk q.length x:=λx ao=>by
   obtain⟨y,hy,ao⟩:=List.mem_flatMap.1 ao;exact T4 H.Bj H.tZ (by omega) (by omega) (xx _ (List.getElem_mem bq)) (yZ y hy) x ao
  obtain⟨bZ,cu⟩:=Mu _ o bS iH awI;have ec:mX s q i k (l.drop a) r=r.flatMap (c2 s.cb s.cD s.cA q i k l[a])++mX s q i k (l.drop (a+1)) r:=by unfold mX;rw[drop_cons l a bq,List.flatMap_cons]
  rw[iO,ih _ m bZ cu (by omega),ec,List.foldl_append]
theorem awJ (iJ:azP->azB->Int->Option (azP×Bool)) {i:Nat} (ai:i<q.length):
  ∀k,k<=q.length->∀(o:azP) m,o.length<=1000->(∀x∈o,jk q.length x)->q.length-k<m->
   o1 iJ q s.cI s.b0 s.cb s.cD s.cA m o al (i:Int) (k:Int)=iJ ((l9 s q al i k).foldl jc o) al ((i+1:Nat):Int):=by
 have aG:=H.pd;obtain⟨nf,iP,li,t_⟩:=H.at ai;refine down q.length ?_ ?_
 .intro o m bS iH hm;obtain⟨m,rfl⟩:∃j,m=j+1:=⟨m-1,by omega⟩
  simp only[o1,PZ];rw[ei (Nat.le_refl _),cond_false,ek i _ ai (by omega)];unfold l9;rw[Nat.sub_self];rfl
 .intro k aw ih o m bS iH hm;obtain⟨m,rfl⟩:∃j,m=j+1:=⟨m-1,by omega⟩
  obtain⟨pj,tL,Eh,Mw⟩:=H.at aw;simp only[o1,PZ];rw[el aw,cond_true];have iO:b3 (λn=>rG iJ (o1 iJ q s.cI s.b0 s.cb s.cD s.cA m) q s.cI s.b0 s.cb s.cD s.cA n o al (i:Int) (k:Int) 0)=
    o1 iJ q s.cI s.b0 s.cb s.cD s.cA m ((mX s q i k al[i] al[k]).foldl jc o) al (i:Int) ((k+1:Nat):Int):=
   e5 (al[i].length+1) λm2 q5=>awH H iJ _ ai aw (dX al i nf) (dX al k pj) li Eh t_ Mw 0 (by omega) o m2 bS iH (by omega)
  obtain⟨bZ,cu⟩:=Mu _ o bS iH (H.g2 ai aw t_ Mw);have ec:l9 s q al i k=mX s q i k al[i] al[k]++l9 s q al i (k+1):=by
   unfold l9;rw[show q.length-k=(q.length-(k+1))+1 by omega,List.range'_succ,List.flatMap_cons,iP,tL]
  rw[iO,ih _ m bZ cu (by omega),ec,List.foldl_append]
theorem awK:∀i,i<=q.length->∀(o:azP) m,o.length<=1000->(∀x∈o,jk q.length x)->q.length-i<m->
   l3 q s.cI s.b0 s.cb s.cD s.cA m o al (i:Int)=some ((two s q al i).foldl jc o,decide ((((two s q al i).foldl jc o).length:Int)<=200)):=by
 have aG:=H.pd;refine down q.length ?_ ?_
 .intro o m bS iH hm;obtain⟨m,rfl⟩:∃j,m=j+1:=⟨m-1,by omega⟩
  simp only[l3,P0];rw[ei (Nat.le_refl _),cond_false];unfold two;rw[Nat.sub_self];rfl
 .intro i ai ih o m bS iH hm;obtain⟨m,rfl⟩:∃j,m=j+1:=⟨m-1,by omega⟩
  simp only[l3,P0];rw[el ai,cond_true,ek i _ ai (by omega)];have iO:b3 (λn=>o1 (l3 q s.cI s.b0 s.cb s.cD s.cA m) q s.cI s.b0 s.cb s.cD s.cA n o al (i:Int) ((i+1:Nat):Int))=
    l3 q s.cI s.b0 s.cb s.cD s.cA m ((l9 s q al i (i+1)).foldl jc o) al ((i+1:Nat):Int):=
   e5 (q.length+1) λm2 q5=>awJ H _ ai (i+1) (by omega) o m2 bS iH (by omega)
  obtain⟨bZ,cu⟩:=Mu _ o bS iH (H.g3 (k:=i+1) ai);have ec:two s q al i=l9 s q al i (i+1)++two s q al (i+1):=by
   unfold two;rw[show q.length-i=(q.length-(i+1))+1 by omega,List.range'_succ,List.flatMap_cons]
  rw[iO,ih _ m bZ cu (by omega),ec,List.foldl_append]
omit H in
theorem Mx (i:Nat):∀l:azQ,(lS s q i l).length<=l.length
 |[]=>Nat.le_refl _
 |x::r=>by
  have ad:=acB s.cD s.cA q i x;have af:=Mx i r;unfold lS at af⊢;rw[List.flatMap_cons,List.length_append,List.length_cons];omega
theorem awL:∀i,i<=q.length->∀(o:azP) m,o.length+200*(q.length-i)<=1000->(∀x∈o,jk q.length x)->q.length-i<m->
   tf q s.cI s.b0 s.cb s.cD s.cA m o al (i:Int)=
    some ((two s q al 0).foldl jc ((one s q al i).foldl hO o),decide ((((two s q al 0).foldl jc ((one s q al i).foldl hO o)).length:Int)<=200)):=by
 have aG:=H.pd;refine down q.length ?_ ?_
 .intro o m bS iH hm;obtain⟨m,rfl⟩:∃j,m=j+1:=⟨m-1,by omega⟩
  simp only[tf,P1];rw[ei (Nat.le_refl _),cond_false];have e:one s q al q.length=[]:=by unfold one;rw[Nat.sub_self];rfl
  rw[e];exact e5 (q.length+1) λm2 q5=>awK H 0 (by omega) o m2 (by omega) iH (by omega)
 .intro i ai ih o m bS iH hm;obtain⟨m,rfl⟩:∃j,m=j+1:=⟨m-1,by omega⟩
  obtain⟨nf,iP,li,t_⟩:=H.at ai;simp only[tf,P1];rw[el ai,cond_true];have iO:b3 (λn=>yl (tf q s.cI s.b0 s.cb s.cD s.cA m) q s.cI s.b0 s.cb s.cD s.cA n o al (i:Int) 0)=
    tf q s.cI s.b0 s.cb s.cD s.cA m ((lS s q i al[i]).foldl hO o) al ((i+1:Nat):Int):=
   e5 (al[i].length+1) λm2 q5=>awE H _ ai (dX al i nf) li t_ 0 (by omega) o m2 (by omega) iH (by omega)
  have bZ:=(TQ (lS s q i al[i]) o).2;have dY:=Mx (s:=s) (q:=q) i al[i];have ec:one s q al i=lS s q i al[i]++one s q al (i+1):=by
   unfold one;rw[show q.length-i=(q.length-(i+1))+1 by omega,List.range'_succ,List.flatMap_cons,iP]
  rw[iO,ih _ m (by omega) (Mv _ o iH (H.g1 ai t_)) (by omega),ec,List.foldl_append]
end
theorem awM (a b:azs) (h:a.length<=1048576):GO a b=some (a==b):=by
 unfold GO;by_cases hl:a.length=b.length
 .have e:((a.length:Int) !=(b.length:Int))=false:=by simp[hl]
  rw[e,cond_false];have:=pQ (n:=a.length) (l:=Df a b) (λi=>some (a.drop i==b.drop i)) (λm=>?_) (λi ai m ih=>?_)
  .simpa using this
  .simp only[Df,QW];rw[ei (Nat.le_refl _),List.drop_of_length_le (Nat.le_refl _),List.drop_of_length_le (by omega)];rfl
  .simp only[Df,QW];rw[el ai,dX _ i ai,dX _ i (by omega),ek i _ ai (by omega),drop_cons a i ai,drop_cons b i (by omega),List.cons_beq_cons];simp only[cond_true,bind_some,ih,bne];cases a[i]==b[i]
   .rfl
   .simp
 .have e:((a.length:Int) !=(b.length:Int))=true:=by simp;omega
  have aW:(a==b)=false:=by
   rw[beq_eq_false_iff_ne];intro h;exact hl (by rw[h])
  rw[e,cond_true,aW]
abbrev Seen:=azo
noncomputable abbrev iE:azP×Seen->br->azP×Seen:=ob pc
theorem Bl (l:azP) (p:azP×Seen):(l.foldl iE p).1.length<=p.1.length+l.length:=ack pc l p
section
variable {s:cY} {q:azO} {al:azB} (H:tY s q al)
include H
theorem awN {i k:Nat} (ai:i<q.length) (aw:k<q.length) {x y:bl} (nB:fR x) (ui:fR y) (p:azP×Seen) (ay:p.1.length<=1000000000) {β:Type}
  (K:azK->azL->azM->azp->azp->azO->azP->Seen->Option β):
  ((Al (cY.mk s.cI s.b0 s.cb s.cD s.cA) (e9 x.Label) (e9 y.Label)).bind λaU=>cond aU.2 ((GO (gF x.Label) (gF y.Label)).bind λbB=>cond bB
    ((Dd s.cI s.b0 s.cb s.cD s.cA q p.1 p.2 aU.1 (gF x.Label) (i:Int) (k:Int) [x.Next,y.Next]).bind λbu=>K bu.1 bu.2.1 bu.2.2.1 bu.2.2.2.1 bu.2.2.2.2.1 bu.2.2.2.2.2.1 bu.2.2.2.2.2.2.1 bu.2.2.2.2.2.2.2)
    (K s.cI s.b0 s.cb s.cD s.cA q p.1 p.2)) (K s.cI s.b0 s.cb s.cD s.cA q p.1 p.2))=
  K s.cI s.b0 s.cb s.cD s.cA q ((c2 s.cb s.cD s.cA q i k x y).foldl iE p).1 ((c2 s.cb s.cD s.cA q i k x y).foldl iE p).2:=by
 have aG:=H.pd;have Bk:=xu nB;rw[show Al (cY.mk s.cI s.b0 s.cb s.cD s.cA) (e9 x.Label) (e9 y.Label)=_ from awB H.Bj H.sm.1 _ _,bind_some];have sl:=(Ie H.Bj (e9 x.Label) (e9 y.Label)).2;unfold c2;simp only;generalize oc s.cb (e9 x.Label) (e9 y.Label)=kk at sl⊢;by_cases af:kk=[]
 .rw[decide_eq_true af,if_neg (λc=>c.2.1 af)];rfl
 .rw[decide_eq_false af,Bool.not_false,cond_true,awM _ _ (by have:=Bk.mW.len;omega),bind_some];by_cases ad:gF x.Label=gF y.Label
  .rw[show(gF x.Label==gF y.Label)=true from by rw[ad];simp,cond_true];have Bi:=Mt (sl af) Bk.mW.len Bk.mW.kt;have T5:=(acD (D:=s.cI) (C:=s.b0) (M:=s.cb) (A:=s.cD) (H:=s.cA) (o:=p.1) (sn:=p.2) (T1 (H:=s.cA) Bi) (by omega) H.tZ ay ai nB.next).2 k y.Next aw ui.next;have hm:=acE (n:=kk) (a:=gF x.Label) H.sm.2.1 H.sm.2.2 (k:Int) [x.Next,y.Next] i (ob pc p ⟨qt s.cA kk (gF x.Label),i,k,(q.set i x.Next).set k y.Next⟩) T5;rw[hm,bind_some];have nW:(kk==([116,97,117]:azq))=false:=by
    have:=sl af;unfold kg at this;rw[Bool.and_eq_true]at this;simpa using this.2
   have bS:xw s.cD kk=decide (kk∈s.cD):=by unfold xw;rw[nW,Bool.false_or]
   rw[bS];by_cases bh:kk∈s.cD
   .rw[if_pos (decide_eq_true bh),if_pos ⟨ad,af,bh⟩];rfl
   .rw[if_neg (by simpa using bh),if_neg (λc=>bh c.2.2)];rfl
  .rw[show(gF x.Label==gF y.Label)=false from by simpa using ad,cond_false,if_neg (λc=>ad c.1)];rfl
theorem awO (dY:azK->azL->azM->azp->azp->azO->azP->Seen->Int->Option (azK×azL×azM×azp×azp×azO×azP×Seen))
  {i k:Nat} (ai:i<q.length) (aw:k<q.length) {l r:azQ} (vu:l.length<=200) (xX:r.length<=200) (xx:∀x∈l,fR x) (yZ:∀x∈r,fR x) {a:Nat} (bq:a<l.length):
  ∀b,b<=r.length->∀(p:azP×Seen) m,p.1.length+(r.length-b)<=1000000000->r.length-b<m->
   wJ dY (i:Int) (k:Int) l r l[a] (e9 l[a].Label,gF l[a].Label,true) m s.cI s.b0 s.cb s.cD s.cA q p.1 p.2 (a:Int) (b:Int)=
    dY s.cI s.b0 s.cb s.cD s.cA q (((r.drop b).flatMap (c2 s.cb s.cD s.cA q i k l[a])).foldl iE p).1 (((r.drop b).flatMap (c2 s.cb s.cD s.cA q i k l[a])).foldl iE p).2 ((a+1:Nat):Int):=by
 refine down r.length ?_ ?_
 .intro p m ay hm;obtain⟨m,rfl⟩:∃j,m=j+1:=⟨m-1,by omega⟩
  simp only[wJ,QX];rw[ei (Nat.le_refl _),List.drop_of_length_le (Nat.le_refl _),cond_false,ek a _ bq (by omega)];rfl
 .intro b ab ih p m ay hm;obtain⟨m,rfl⟩:∃j,m=j+1:=⟨m-1,by omega⟩
  have nB:=xx _ (List.getElem_mem bq);have ui:=yZ _ (List.getElem_mem ab);simp only[wJ,QX,GP];rw[el ab,cond_true,dX r b ab,bind_some,(xu ui).read,bind_some,ek b _ ab (by omega),drop_cons r b ab,List.flatMap_cons,List.foldl_append];have key:=awN H ai aw nB ui p (by omega) (λD C M A awP q o sn=>wJ dY (i:Int) (k:Int) l r l[a] (e9 l[a].Label,gF l[a].Label,true) m D C M A awP q o sn (a:Int) ((b+1:Nat):Int));have zc:=Bl (c2 s.cb s.cD s.cA q i k l[a] r[b]) p;have azm:=T3 s.cb s.cD s.cA q i k l[a] r[b];rw[<-ih ((c2 s.cb s.cD s.cA q i k l[a] r[b]).foldl iE p) m (by omega) (by omega)];exact key
theorem awQ {i k:Nat} (ai:i<q.length) (aw:k<q.length) {l r:azQ} (vu:l.length<=200) (xX:r.length<=200) (xx:∀x∈l,fR x) (yZ:∀x∈r,fR x):
  ∀a,a<=l.length->∀(p:azP×Seen) m,p.1.length+200*(l.length-a)<=100000000->l.length-a<m->
   tn (i:Int) (k:Int) l r m s.cI s.b0 s.cb s.cD s.cA q p.1 p.2 (a:Int)=
    some (s.cI,s.b0,s.cb,s.cD,s.cA,q,((mX s q i k (l.drop a) r).foldl iE p).1,((mX s q i k (l.drop a) r).foldl iE p).2):=by
 refine down l.length ?_ ?_
 .intro p m ay hm;obtain⟨m,rfl⟩:∃j,m=j+1:=⟨m-1,by omega⟩
  simp only[tn,QY];rw[ei (Nat.le_refl _),List.drop_of_length_le (Nat.le_refl _),cond_false];rfl
 .intro a bq ih p m ay hm;obtain⟨m,rfl⟩:∃j,m=j+1:=⟨m-1,by omega⟩
  have nB:=xx _ (List.getElem_mem bq);simp only[tn,QY];rw[el bq,cond_true,dX l a bq,bind_some,(xu nB).read,bind_some];have iO:b3 (λn=>wJ (tn (i:Int) (k:Int) l r m) (i:Int) (k:Int) l r l[a] (e9 l[a].Label,gF l[a].Label,true) n s.cI s.b0 s.cb s.cD s.cA q p.1 p.2 (a:Int) 0)=
    tn (i:Int) (k:Int) l r m s.cI s.b0 s.cb s.cD s.cA q ((r.flatMap (c2 s.cb s.cD s.cA q i k l[a])).foldl iE p).1 ((r.flatMap (c2 s.cb s.cD s.cA q i k l[a])).foldl iE p).2 ((a+1:Nat):Int):=
   e5 (r.length+1) λm2 q5=>awO H _ ai aw vu xX xx yZ bq 0 (by omega) p m2 (by omega) (by omega)
  have jl:∀r:azQ,(r.flatMap (c2 s.cb s.cD s.cA q i k l[a])).length<=r.length:=by
   intro r;induction r with
   |nil=>simp
   |cons y r Bq=>
    have:=T3 s.cb s.cD s.cA q i k l[a] y;rw[List.flatMap_cons,List.length_append,List.length_cons];omega
  have b6:=jl r;have dt:=Bl (r.flatMap (c2 s.cb s.cD s.cA q i k l[a])) p;have ec:mX s q i k (l.drop a) r=r.flatMap (c2 s.cb s.cD s.cA q i k l[a])++mX s q i k (l.drop (a+1)) r:=by unfold mX;rw[drop_cons l a bq,List.flatMap_cons]
  rw[iO,ih _ m (by omega) (by omega),ec,List.foldl_append]
omit H in
theorem T6 (i k:Nat) (r:azQ):∀l:azQ,(mX s q i k l r).length<=r.length*l.length
 |[]=>by simp[mX]
 |x::l=>by
  have ad:∀r:azQ,(r.flatMap (c2 s.cb s.cD s.cA q i k x)).length<=r.length:=by
   intro r;induction r with
   |nil=>simp
   |cons y r Bq=>
    have:=T3 s.cb s.cD s.cA q i k x y;rw[List.flatMap_cons,List.length_append,List.length_cons];omega
  have af:=T6 i k r l;have aG:=ad r;unfold mX at af⊢;rw[List.flatMap_cons,List.length_append,List.length_cons,mul_succ];omega
theorem acJ (kA:cY->azO->azP->Seen->azB->Int->Option (azP×Bool)) (acK:azB) {i:Nat} (ai:i<q.length) {l:azQ} (vu:l.length<=200) (hg:∀x∈l,fR x):
  ∀a,a<=l.length->∀(p:azP×Seen) m,p.1.length+(l.length-a)<=1000000000->l.length-a<m->
   yr kA s q (l,true) m s q p.1 p.2 acK (i:Int) (i:Int) (a:Int)=kA s q ((lS s q i (l.drop a)).foldl iE p).1 ((lS s q i (l.drop a)).foldl iE p).2 acK ((i+1:Nat):Int):=by
 have aG:=H.pd;refine down l.length ?_ ?_
 .intro p m ay hm;obtain⟨m,rfl⟩:∃j,m=j+1:=⟨m-1,by omega⟩
  simp only[yr,Q0];rw[ei (Nat.le_refl _),List.drop_of_length_le (Nat.le_refl _),cond_false,ek i _ ai (by omega)];rfl
 .intro a bq ih p m ay hm;obtain⟨m,rfl⟩:∃j,m=j+1:=⟨m-1,by omega⟩
  have nB:=hg _ (List.getElem_mem bq);have gz:=xu nB;simp only[yr,Q0];rw[el bq,cond_true,dX l a bq,bind_some,gz.read,bind_some,ek a _ bq (by omega)];have T5:=(acD (D:=s.cI) (C:=s.b0) (M:=s.cb) (A:=s.cD) (H:=s.cA) (o:=p.1) (sn:=p.2) (T1 (H:=s.cA) gz.mW) (by omega) H.tZ (by omega) ai nB.next).1;have q5:=acE (n:=e9 l[a].Label) (a:=gF l[a].Label) H.sm.2.1 H.sm.2.2 (-1) [l[a].Next] i (ob pc p ⟨qt s.cA (e9 l[a].Label) (gF l[a].Label),i,-1,q.set i l[a].Next⟩) T5;rw[q5,bind_some];have ec:lS s q i (l.drop a)=ct s.cD s.cA q i l[a]++lS s q i (l.drop (a+1)):=by unfold lS;rw[drop_cons l a bq,List.flatMap_cons]
  have aP:(ct s.cD s.cA q i l[a]).foldl iE p=if xw s.cD (e9 l[a].Label)=true then ob pc p ⟨qt s.cA (e9 l[a].Label) (gF l[a].Label),i,-1,q.set i l[a].Next⟩else p:=by
   unfold ct;split<;>rfl
  have b6:=Bl (ct s.cD s.cA q i l[a]) p;have dt:=acB s.cD s.cA q i l[a];rw[ec,List.foldl_append,<-ih ((ct s.cD s.cA q i l[a]).foldl iE p) m (by omega) (by omega),aP]
theorem awR (qM:cY->azO->azP->Seen->azB->Int->Option (azP×Bool)) {i:Nat} (ai:i<q.length):
  ∀k,k<=q.length->∀(p:azP×Seen) m,p.1.length+40000*(q.length-k)<=50000000->q.length-k<m->
   Am qM q m s q p.1 p.2 al (i:Int) (k:Int) (i:Int)=qM s q ((l9 s q al i k).foldl iE p).1 ((l9 s q al i k).foldl iE p).2 al ((i+1:Nat):Int):=by
 have aG:=H.pd;obtain⟨nf,iP,li,t_⟩:=H.at ai;refine down q.length ?_ ?_
 .intro p m ay hm;obtain⟨m,rfl⟩:∃j,m=j+1:=⟨m-1,by omega⟩
  simp only[Am,Q1];rw[ei (Nat.le_refl _),cond_false,ek i _ ai (by omega)];unfold l9;rw[Nat.sub_self];rfl
 .intro k aw ih p m ay hm;obtain⟨m,rfl⟩:∃j,m=j+1:=⟨m-1,by omega⟩
  obtain⟨pj,tL,Eh,Mw⟩:=H.at aw;simp only[Am,Q1];rw[el aw,cond_true,dX al i nf,dX al k pj];simp only[bind_some];have a8:QZ s.cI s.b0 s.cb s.cD s.cA q p.1 p.2 (i:Int) (k:Int) al[i] al[k]=
    some (s.cI,s.b0,s.cb,s.cD,s.cA,q,((mX s q i k al[i] al[k]).foldl iE p).1,((mX s q i k al[i] al[k]).foldl iE p).2):=
   e5 (al[i].length+1) λm2 q5=>awQ H ai aw li Eh t_ Mw 0 (by omega) p m2 (by omega) (by omega)
  have b6:=T6 (s:=s) (q:=q) i k al[k] al[i];have dt:=Bl (mX s q i k al[i] al[k]) p;have dj:al[k].length*al[i].length<=200*200:=Nat.mul_le_mul Eh li;have ec:l9 s q al i k=mX s q i k al[i] al[k]++l9 s q al i (k+1):=by
   unfold l9;rw[show q.length-k=(q.length-(k+1))+1 by omega,List.range'_succ,List.flatMap_cons,iP,tL]
  rw[a8,bind_some,ek k _ aw (by omega),ec,List.foldl_append,<-ih _ m (by omega) (by omega)]
theorem awS {i:Nat} (ai:i<q.length):∀d k,k+d=q.length->(l9 s q al i k).length<=40000*d:=by
 intro d;induction d with
 |zero=>intro k aw;unfold l9;rw[show q.length-k=0 by omega];simp
 |succ d ih=>
  intro k aw;obtain⟨_,iP,li,_⟩:=H.at ai;obtain⟨_,tL,Eh,_⟩:=H.at (i:=k) (by omega);have h:=ih (k+1) (by omega);have b6:=T6 (s:=s) (q:=q) i k (al.getD k []) (al.getD i []);have dj:(al.getD k []).length*(al.getD i []).length<=200*200:=Nat.mul_le_mul (by rw[tL];exact Eh) (by rw[iP];exact li);unfold l9 at h⊢;rw[show q.length-k=(q.length-(k+1))+1 by omega,List.range'_succ,List.flatMap_cons,List.length_append];omega
theorem awT:∀i,i<=q.length->∀(p:azP×Seen) m,p.1.length+120000*(q.length-i)<=10000000->q.length-i<m->
   wK q m s q p.1 p.2 al (i:Int)=some (((two s q al i).foldl iE p).1,decide (((((two s q al i).foldl iE p).1).length:Int)<=200)):=by
 have aG:=H.pd;refine down q.length ?_ ?_
 .intro p m ay hm;obtain⟨m,rfl⟩:∃j,m=j+1:=⟨m-1,by omega⟩
  simp only[wK,Q2];rw[ei (Nat.le_refl _),cond_false];unfold two;rw[Nat.sub_self];rfl
 .intro i ai ih p m ay hm;obtain⟨m,rfl⟩:∃j,m=j+1:=⟨m-1,by omega⟩
  simp only[wK,Q2];rw[el ai,cond_true,ek i _ ai (by omega)];have iO:b3 (λn=>Am (wK q m) q n s q p.1 p.2 al (i:Int) ((i+1:Nat):Int) (i:Int))=
    wK q m s q ((l9 s q al i (i+1)).foldl iE p).1 ((l9 s q al i (i+1)).foldl iE p).2 al ((i+1:Nat):Int):=
   e5 (q.length+1) λm2 q5=>awR H _ ai (i+1) (by omega) p m2 (by omega) (by omega)
  have b6:=awS H ai (q.length-(i+1)) (i+1) (by omega);have dt:=Bl (l9 s q al i (i+1)) p;have ec:two s q al i=l9 s q al i (i+1)++two s q al (i+1):=by
   unfold two;rw[show q.length-i=(q.length-(i+1))+1 by omega,List.range'_succ,List.flatMap_cons]
  rw[iO,ih _ m (by omega) (by omega),ec,List.foldl_append]
theorem awU (aa:∀i (h:i<q.length),u7 s.cI q[i]=some (al.getD i [],true)):∀i,i<=q.length->∀(p:azP×Seen) m,p.1.length+200*(q.length-i)<=1000->q.length-i<m->
   qh s q m s q p.1 p.2 (al.take i) (i:Int)=
    some (((two s q al 0).foldl iE ((one s q al i).foldl iE p)).1,decide (((((two s q al 0).foldl iE ((one s q al i).foldl iE p)).1).length:Int)<=200)):=by
 have aG:=H.pd;refine down q.length ?_ ?_
 .intro p m ay hm;obtain⟨m,rfl⟩:∃j,m=j+1:=⟨m-1,by omega⟩
  simp only[qh,GR];rw[ei (Nat.le_refl _),cond_false];have e:one s q al q.length=[]:=by unfold one;rw[Nat.sub_self];rfl
  have aW:al.take q.length=al:=by rw[<-H.mh];exact List.take_length
  rw[e,aW];exact e5 (q.length+1) λm2 q5=>awT H 0 (by omega) p m2 (by omega) (by omega)
 .intro i ai ih p m ay hm;obtain⟨m,rfl⟩:∃j,m=j+1:=⟨m-1,by omega⟩
  obtain⟨nf,iP,li,t_⟩:=H.at ai;simp only[qh,GR];rw[el ai,cond_true,dX q i ai,bind_some,aa i ai,bind_some,iP];simp only[Bool.not_true,cond_false];rw[kO (by simp;omega) (by simp;omega),bind_some,<-List.take_succ_eq_append_getElem nf];have iO:b3 (λn=>yr (qh s q m) s q (al[i],true) n s q p.1 p.2 (al.take (i+1)) (i:Int) (i:Int) 0)=
    qh s q m s q ((lS s q i al[i]).foldl iE p).1 ((lS s q i al[i]).foldl iE p).2 (al.take (i+1)) ((i+1:Nat):Int):=
   e5 (al[i].length+1) λm2 q5=>acJ H _ _ ai li t_ 0 (by omega) p m2 (by omega) (by omega)
  have bZ:=Bl (lS s q i al[i]) p;have dY:=Mx (s:=s) (q:=q) i al[i];have ec:one s q al i=lS s q i al[i]++one s q al (i+1):=by
   unfold one;rw[show q.length-i=(q.length-(i+1))+1 by omega,List.range'_succ,List.flatMap_cons,iP]
  rw[iO,ih _ m (by omega) (by omega),ec,List.foldl_append]
theorem awV (aa:∀i (h:i<q.length),uO s.cI q[i]=some (al.getD i [],true)):∀i,i<=q.length->∀m,q.length-i<m->
   wy q s.cI s.b0 s.cb s.cD s.cA m (al.take i) (i:Int)=
    some ((two s q al 0).foldl jc ((one s q al 0).foldl hO []),decide ((((two s q al 0).foldl jc ((one s q al 0).foldl hO [])).length:Int)<=200)):=by
 have aG:=H.pd;refine down q.length ?_ ?_
 .intro m hm;obtain⟨m,rfl⟩:∃j,m=j+1:=⟨m-1,by omega⟩
  simp only[wy,Gq];have aW:al.take q.length=al:=by rw[<-H.mh];exact List.take_length
  rw[ei (Nat.le_refl _),cond_false,aW];exact e5 (q.length+1) λm2 q5=>awL H 0 (by omega) [] m2 (by simp;omega) (λx ao=>by cases ao) (by omega)
 .intro i ai ih m hm;obtain⟨m,rfl⟩:∃j,m=j+1:=⟨m-1,by omega⟩
  obtain⟨nf,iP,_,_⟩:=H.at ai;simp only[wy,Gq];rw[el ai,cond_true,dX q i ai,bind_some,aa i ai,bind_some,iP];simp only[Bool.not_true,cond_false];rw[kO (by simp;omega) (by simp;omega),bind_some,<-List.take_succ_eq_append_getElem nf,ek i _ ai (by omega)];exact ih m (by omega)
end
end Go.ld
