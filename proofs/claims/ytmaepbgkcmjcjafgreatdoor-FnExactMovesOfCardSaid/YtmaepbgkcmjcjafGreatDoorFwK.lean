/- Part of a proof that a law returns true for every input. No condition. -/
import Derived.Test.YtmaepbgkcmjcjafGreatDoorFwJ
namespace Go.eg
open List Go.IntKind Nat
section
variable {C:cm} {w0 w:World} {F0 X F ch:Nat->Prop} {S a7:Nat->Nat->Prop} {n:Fr} {ρ:Nat->Value} {s aH:ak} {aI mI:Nat->Value} {a:Act} {av:I} {Q:Exit->Act->World->Prop} {aN:World}
theorem cb.off (h:cb w0 F0 X F S s aI w) {b:Nat} (a_:w0.heap.size<=b) (bE:¬F b) (cj:∀u,¬S u b) (hw:∀c,c≠b->aN.heap[c]? =w.heap[c]?) (ab:aN.heap.size=w.heap.size)
  (ad:aN.os=w.os) (af:aN.tape=w.tape) (aG:Out aN w):cb w0 F0 X F S s aI aN where
 h3:=h.h3
 iB:=h.iB
 f_:=λc ar=>by rw[ab];exact h.f_ c ar
 fz:=λt c ar=>by rw[ab];exact h.fz t c ar
 gD:=h.gD
 ga:=h.ga
 eU:=h.eU
 el:=λt=>aO.frame (Sx:=S) (λc ar=>hw c (λe=>bE (e▸ar))) (λ_ h=>h) (λx c ar=>hw c (λe=>cj x (e▸ar))) h.el _ _ _ (λc ar=>hw c (λe=>cj t (e▸ar))) (h.el t)
 old:=λc ar mJ=>(hw c (by omega)).trans (h.old c ar mJ)
 size:=by rw[ab];exact h.size
 os:=ad.trans h.os
 tape:=af.trans h.tape
 output:=aG.trans h.output
 gq:=h.gq
theorem cb.W3 (h:cb w0 F0 X F S s aI w) {t:Nat} {v:Value}:cb w0 F0 X F (hc S t (λ_=>False)) (eg.fin s (some t) .hole) (ei aI t v) w:=by
 have:eg.fin s (some t) .hole=ei s t .hole:=by simp[eg.fin,I.plain]
 rw[this];exact h.AK rfl (by rw[aO];trivial)
theorem cb.agD (h:cb w0 F0 X F S s aI w) {b:Nat} (a_:w0.heap.size<=b) (aa:b<w.heap.size) (cj:∀u,¬S u b):cb w0 F0 X (λc=>F c\/c=b) S s aI w where
 h3:=λc ar=>.inl (h.h3 c ar)
 iB:=λc ar=>by
  rcases ar with ar|rfl
  .exact h.iB c ar
  .exact .inr (.inr a_)
 f_:=λc ar=>by
  rcases ar with ar|rfl
  .exact h.f_ c ar
  .exact aa
 fz:=h.fz
 gD:=λt c ar bD=>by
  rcases bD with bD|rfl
  .exact h.gD t c ar bD
  .exact cj t ar
 ga:=h.ga
 eU:=h.eU
 el:=λt=>aO.frame (λ_ _=>rfl) (λb aa=>.inl aa) (λ_ _ _=>rfl) h.el _ _ _ (λ_ _=>rfl) (h.el t)
 old:=h.old
 size:=h.size
 os:=h.os
 tape:=h.tape
 output:=h.output
 gq:=h.gq
theorem N2 {c:Code} {x y:aC} (h:fW n c=some (.seq x y)):∃a b,c= .seq a b/\fW n a=some x/\fW n b=some y:=by
 cases c with
 |seq a b=>
  simp only[fW]at h;split at h
  .rename_i AY Vi ao hy;cases h;exact⟨a,b,rfl,ao,hy⟩
  .cases h
 |region id ops draw=>
  cases draw with
  |false=>simp only[fW]at h;split at h<;>cases h
  |true=>
   simp only[fW]at h;split at h
   .simp only[Option.map_eq_some_iff]at h;obtain⟨r,ad,af⟩:=h;cases af
   .cases h
 |cond c a b=>simp only[fW]at h;split at h<;>cases h
 |block id b=>simp only[fW,Option.map_eq_some_iff]at h;obtain⟨r,ad,af⟩:=h;cases af
 |loop b=>simp only[fW,Option.map_eq_some_iff]at h;obtain⟨r,ad,af⟩:=h;cases af
 |_=>simp[fW]at h
theorem Bn {ops:Array Oper} {r:cu} {o:Oper} (hg:r.guard=none) (h:tN n ops o=some r.un):r.dst=o.dst/\o.guard=none/\su o.op=r.bX.base/\n5 n o.dst=true:=by
 unfold tN at h;split at h
 .rename_i an;split at h
  .rename_i WO iQ;simp only[cu.un,Option.some.injEq,cu.mk.injEq]at h;obtain⟨aP,aY,aU⟩:=h;refine⟨aP.symm,?_,aY,an⟩;rw[aU,hg]at iQ;cases bI:o.guard with
   |none=>rfl
   |some Na=>
    rw[bI]at iQ;simp only[En]at iQ;split at iQ<;>cases iQ
  .cases h
 .cases h
theorem N3 {ops:Array Oper} {i:Nat} {o:Oper} {l:ayf} (bI:ops[i]? =some o) (hg:o.guard=none) (h:o.wp C.P a w (wpOps C.P ops Q l) Q):wpOps C.P ops Q (i::l) a w:=by
 simp only[wpOps,bI];show(if Region.wanted o (yielded ops a.tmps)=true then o.wp C.P a w _ Q\/(o.asks C.P a w/\LetsOut Q)else _);rw[if_pos (Ik hg)];exact .inl h
theorem agE {op:Op} {T:TypeId} (h:dB op=some (.mL T)):op= .alloc T:=by
 cases op with
 |alloc M7=>simp only[dB,Option.some.injEq,e2.mL.injEq]at h;rw[h]
 |call c=>
  obtain⟨callee,pM,argTypes⟩:=c;simp only[dB]at h;split at h<;>(try split at h)<;>(try split at h)<;>(try simp[Option.map_eq_some_iff]at h)
 |makeFunc fn first cs=>
  cases fn<;>simp only[dB]at h<;>first|(cases h;done)|(split at h<;>simp at h)
 |slice T x fP aj fq=>
  cases fq<;>simp only[dB]at h<;>first|(cases h;done)|(split at h<;>simp at h)
 |makeMap T r=>cases r<;>simp only[dB]at h<;>simp at h
 |lookup T x i c=>cases c<;>simp only[dB]at h<;>first|(cases h;done)|(split at h<;>simp at h)
 |_=>simp only[dB]at h<;>first|(cases h;done)|(simp at h;done)|(split at h<;>simp at h)
theorem agF {op:Op} {T:TypeId} {x y:bz} (h:dB op=some (.kR T x y)):∃a b,op= .store T a b/\eJ a=some x/\eJ b=some y:=by
 cases op with
 |store M7 a b=>
  simp only[dB]at h;split at h
  .rename_i cN nZ ao hy;simp only[Option.some.injEq,e2.kR.injEq]at h;obtain⟨rfl,rfl,rfl⟩:=h;exact⟨a,b,rfl,ao,hy⟩
  .cases h
 |call c=>
  obtain⟨callee,pM,argTypes⟩:=c;simp only[dB]at h;split at h<;>(try split at h)<;>(try split at h)<;>(try simp[Option.map_eq_some_iff]at h)
 |makeFunc fn first cs=>
  cases fn<;>simp only[dB]at h<;>first|(cases h;done)|(split at h<;>simp at h)
 |slice T x fP aj fq=>
  cases fq<;>simp only[dB]at h<;>first|(cases h;done)|(split at h<;>simp at h)
 |makeMap T r=>cases r<;>simp only[dB]at h<;>simp at h
 |lookup T x i c=>cases c<;>simp only[dB]at h<;>first|(cases h;done)|(split at h<;>simp at h)
 |_=>simp only[dB]at h<;>first|(cases h;done)|(simp at h;done)|(split at h<;>simp at h)
theorem agG {op:Op} {g:FuncId} {xs:List bz} (h:dB op=some (.pJ g xs)):∃cs:Array Operand,op= .makeFunc (.func g) #[] cs/\sk cs.toList=some xs:=by
 cases op with
 |makeFunc fn first cs=>
  cases fn with
  |func f=>
   simp only[dB]at h;split at h
   .rename_i MH;simp only[Option.map_eq_some_iff]at h;obtain⟨q5,iC,h⟩:=h;cases h;have MI:first= #[]:=by simpa using MH
    subst MI;exact⟨cs,rfl,iC⟩
   .cases h
  |_=>simp[dB]at h
 |call c=>
  obtain⟨callee,pM,argTypes⟩:=c;simp only[dB]at h;split at h<;>(try split at h)<;>(try split at h)<;>(try simp[Option.map_eq_some_iff]at h)
 |slice T x fP aj fq=>
  cases fq<;>simp only[dB]at h<;>first|(cases h;done)|(split at h<;>simp at h)
 |makeMap T r=>cases r<;>simp only[dB]at h<;>simp at h
 |lookup T x i c=>cases c<;>simp only[dB]at h<;>first|(cases h;done)|(split at h<;>simp at h)
 |_=>simp only[dB]at h<;>first|(cases h;done)|(simp at h;done)|(split at h<;>simp at h)
theorem W4:∀{os:List Operand} {cs:ayf},sk os=some (cs.map .t)->os=cs.map .tmp
 |[],cs,h=>by
  simp only[sk,Option.some.injEq]at h;cases cs with
  |nil=>rfl
  |cons c cs=>cases h
 |o::os,cs,h=>by
  simp only[sk]at h;split at h
  .rename_i x Uv ad af;simp only[Option.some.injEq]at h;cases cs with
   |nil=>cases h
   |cons c cs=>
    simp only[map_cons,cons.injEq]at h;obtain⟨rfl,rfl⟩:=h;rw[IW ad,W4 af];rfl
  .cases h
def N4 (C:cm) (f:FuncId) (k k0 d0 d9:Nat) (cs:ayf) (m:List cu) (args:List bz) (d1:Option Nat) (keep:ayf) (n_:aC):(Exit->ak->Prop)->ak->Prop:=
 λQ s=>WX C f k k0 d0 cs m args d1 [] keep (bn C n_ Q) (fin (fin s (some k) .hole) (some d9) .hole)
def W5 (T:TypeId) (f:FuncId) (k d0 d9:Nat) (cs:ayf) (m:List cu) (args:List bz) (d1:Option Nat) (n_:aC):aC:=
 .seq (.ez [⟨some k,.mL T,none⟩] none) (.seq (.ez [⟨some d9,.pJ f (cs.map .t),none⟩,⟨none,.kR T (.t k) (.t d9),none⟩] none)
  (.seq (.ez (⟨some d0,.fS T (.t k),none⟩::(m++[⟨d1,.call (.t d0) args,none⟩])) none) n_))
def EX (C:cm) (T:(Exit->ak->Prop)->ak->Prop) (b:aC):Prop:=
 ∃(ty:TypeId) (f:FuncId) (k k0 d0 d9:Nat) (cs:ayf) (m:List cu) (args:List bz) (d1:Option Nat) (keep:ayf) (n_:aC),
  T=N4 C f k k0 d0 d9 cs m args d1 keep n_/\b=W5 ty f k d0 d9 cs m args d1 n_.nm/\(C.T ty).flat=true/\(∃i z v,C.P.info? ty=some i/\i.size=1/\i.zero=some z/\z.cells= #[v]/\Value.hF v=true)/\
  NZ (λd=>d !=d0&& !cs.contains d) m=true/\cs.contains d0=false/\cs[k0]? =some k/\cs.contains d9=false/\n_.plain=true
theorem agH (bP:C.fH) {c:Code} {T:(Exit->ak->Prop)->ak->Prop} {b:aC} {Q:Exit->ak->Prop} (gF:EX C T b) (ab:fW n c=some b.strip) (h:T Q s) (aQ:Rel w0 F0 X n ρ s a w):
  c.wp C.P (yW w0 F0 X n ρ Q) a w:=by
 obtain⟨ty,f,k,k0,d0,d9,cs,m,args,d1,keep,n_,rfl,rfl,ld,⟨aww,z,xD,W6,agI,agJ,qh,awx⟩,hm,nB,Bm,I1,fI⟩:=gF;replace hm:∀r∈m,∀d,r.dst=some d->d≠d0/\d∉cs:=λr aQ d an=>by
  have:=WY hm r aQ d an;simpa using this
 replace nB:d0∉cs:=by simpa using nB
 replace I1:d9∉cs:=by simpa using I1
 have tW:k∈cs:=mem_of_getElem? Bm;have agK:k≠d9:=λe=>I1 (e▸tW);obtain⟨c2,xd,rfl,tS,fX⟩:=N2 ab;obtain⟨c3,awy,rfl,EY,agL⟩:=N2 fX;obtain⟨c4,c5,rfl,agM,agN⟩:=N2 agL;obtain⟨awz,N5,rfl,agO⟩:=IY tS;obtain⟨awA,Bp,rfl,agP⟩:=IY EY;obtain⟨awB,awC,rfl,agQ⟩:=IY agM;obtain⟨kV,fj,jn,F,S,w6⟩:=aQ;obtain⟨l2,g2⟩:=Eu agO;have aY:N5.size=1:=by simpa using l2
 obtain⟨nH,Iz⟩:∃o,N5[0]? =some o:=⟨N5[0],by simp[aY]⟩
 obtain⟨bc,It,agR⟩:=g2 0 nH (by simpa using Iz);simp only[map_cons,map_nil,getElem?_cons_zero,Option.some.injEq]at It;subst It;obtain⟨gU,gy,iE,i7⟩:=Bn (r:=⟨some k,.mL ty,none⟩) rfl agR;change su nH.op= .mL ty at iE;have W7:nH.op= .alloc ty:=by
  rcases sv iE with h|h
  .cases h
  .exact agE h
 refine wp_seq (wp_region ?_);rw[aY];refine N3 (C:=C) Iz gy ?_;have agS:(execOp a.eval nH).run C.P w= .ok (.value (.pointer (some ⟨w.heap.size,0,none⟩))) (w.alloc (.cells #[xD] ty)):=by
  obtain⟨dst,op,IV,pos,after,guard⟩:=nH;simp only at W7;subst W7;simp[execOp,Instr.alloc,yA W6 agJ,newVar,newRow,newObj,Sem.run,qh]
 unfold Oper.wp;rw[agS,Oper.upon_value];have NX:some k=nH.dst:=gU;rw[<-NX]at i7⊢;show Exit.then _ _ .normal _ _;have hold:∀b,b<w.heap.size->(w.alloc (.cells #[xD] ty)).heap[b]? =w.heap[b]? :=by
  intro b aa;show(w.heap.push _)[b]? =_;rw[Array.getElem?_push,if_neg (by omega)]
 have oF:(w.alloc (.cells #[xD] ty)).heap[w.heap.size]? =some (.cells #[xD] ty):=by
  show(w.heap.push _)[_]? =_;simp
 have H_:(w.alloc (.cells #[xD] ty)).heap.size=w.heap.size+1:=by simp
 have agT:=w6.grow hold (by rw[H_];omega) rfl rfl ⟨rfl,λ_=>Nat.le_refl _⟩;generalize awD:w.alloc (.cells #[xD] ty)=fe at*;generalize W8:Value.pointer (some ⟨w.heap.size,0,none⟩)=vw at*;have agU:¬F w.heap.size:=λh=>Nat.lt_irrefl _ (w6.f_ _ h);have agV:∀u,¬S u w.heap.size:=λu h=>Nat.lt_irrefl _ (w6.fz _ _ h);have tI:w0.heap.size<=w.heap.size:=w6.size;obtain⟨gT,iO,j2⟩:=Eo (n:=n) (dst:=some k) (a:=a) vw fj i7;have W9:=agT.W3 (t:=k) (v:=vw);rw[show ei (λt=>a.tmps.getD t undef) k vw=λt=>(a.put (some k) vw).tmps.getD t undef from gT.symm]at W9;have agW:(a.put (some k) vw).tmps.getD k undef=vw:=by
  have:=congrFun gT k;simp only[qd]at this;rw[oC]at this;exact this
 have agX:∀u,¬hc S k (λ_=>False) u w.heap.size:=by
  intro u h;simp only[hc]at h;split at h
  .exact h
  .exact agV u h
 have agY:∀i∈n.fx,(a.put (some k) vw).tmps.getD i undef=ρ i:=by
  intro i aj;have:=congrFun gT i;simp only[qd]at this;rw[lb _ _ (λe=>?_)]at this
  .exact this.trans (jn i aj)
  .simp only[n5,Bool.and_eq_true,Bool.not_eq_true',contains_eq_mem,decide_eq_false_iff_not]at i7;exact i7.2 (e▸aj)
 have agZ:=j2.trans kV;generalize a.put (some k) vw=J at*;obtain⟨Em,g3⟩:=Eu agP;have aU:Bp.size=2:=by simpa using Em
 obtain⟨sr,W_⟩:∃o,Bp[0]? =some o:=⟨Bp[0],by simp[aU]⟩
 obtain⟨xh,Xa⟩:∃o,Bp[1]? =some o:=⟨Bp[1],by simp[aU]⟩
 obtain⟨dm,IX,ag0⟩:=g3 0 sr (by simpa using W_);obtain⟨bG,Xb,ag1⟩:=g3 1 xh (by simpa using Xa);simp only[map_cons,map_nil,getElem?_cons_zero,getElem?_cons_succ,Option.some.injEq]at IX Xb;subst IX Xb;obtain⟨vq,xq,N6,I2⟩:=Bn (r:=⟨some d9,.pJ f (cs.map .t),none⟩) rfl ag0;obtain⟨v1,v2,v3,v4⟩:=Bn (r:=⟨none,.kR ty (.t k) (.t d9),none⟩) rfl ag1;change su sr.op= .pJ f (cs.map .t)at N6;change su xh.op= .kR ty (.t k) (.t d9)at v3;obtain⟨ag2,Xc,ag3⟩:∃q5:Array Operand,sr.op= .makeFunc (.func f) #[] q5/\sk q5.toList=some (cs.map .t):=by
  rcases sv N6 with h|h
  .cases h
  .exact agG h
 have ag4:=W4 ag3;obtain⟨Mv,Ea,Xd,N7,ag5⟩:∃a b,xh.op= .store ty a b/\eJ a=some (.t k)/\eJ b=some (.t d9):=by
  rcases sv v3 with h|h
  .cases h
  .exact agF h
 have:=IW N7;subst this;have:=IW ag5;subst this;refine wp_seq (wp_region ?_);rw[aU];refine N3 (C:=C) (l:=[1]) W_ xq ?_;have ag6:(execOp J.eval sr).run C.P fe= .ok (.value (.func (.func f) #[] (cs.map λj=>J.tmps.getD j undef).toArray)) fe:=by
  obtain⟨dst,op,IV,pos,after,guard⟩:=sr;simp only at Xc;subst Xc;have:ag2.map J.eval=(cs.map λj=>J.tmps.getD j undef).toArray:=by
   apply Array.ext';rw[Array.toList_map,ag4,List.map_map];rfl
  rw[<-this];simp[execOp];rfl
 unfold Oper.wp;rw[ag6,Oper.upon_value];have ag7:some d9=sr.dst:=vq;rw[<-ag7]at I2⊢;generalize N8:Value.func (.func f) #[] (cs.map λj=>J.tmps.getD j undef).toArray=jP at*;have ag8:Value.hF jP=true:=by rw[<-N8];rfl
 obtain⟨ft,hr,mP⟩:=Eo (n:=n) (dst:=some d9) (a:=J) jP iO I2;have Xe:=W9.W3 (t:=d9) (v:=jP);rw[show ei (λt=>J.tmps.getD t undef) d9 jP=λt=>(J.put (some d9) jP).tmps.getD t undef from ft.symm]at Xe;have N9:∀j,j≠d9->(J.put (some d9) jP).tmps.getD j undef=J.tmps.getD j undef:=by
  intro j bF;have:=congrFun ft j;simp only[qd]at this;rw[lb _ _ bF]at this;exact this
 have ag9:(J.put (some d9) jP).tmps.getD d9 undef=jP:=by
  have:=congrFun ft d9;simp only[qd]at this;rw[oC]at this;exact this
 have Xf:∀u,¬hc (hc S k (λ_=>False)) d9 (λ_=>False) u w.heap.size:=by
  intro u h;simp only[hc]at h;split at h
  .exact h
  .exact agX u h
 have ag_:∀i∈n.fx,(J.put (some d9) jP).tmps.getD i undef=ρ i:=by
  intro i aj;rw[N9 i (λe=>?_)]
  .exact agY i aj
  .simp only[n5,Bool.and_eq_true,Bool.not_eq_true',contains_eq_mem,decide_eq_false_iff_not]at I2;exact I2.2 (e▸aj)
 have aha:=mP.trans agZ;have ahb:jP= .func (.func f) #[] (cs.map λj=>(J.put (some d9) jP).tmps.getD j undef).toArray:=by
  have:(cs.map λj=>(J.put (some d9) jP).tmps.getD j undef)=cs.map λj=>J.tmps.getD j undef:=
   map_congr_left λj bF=>N9 j (λe=>I1 (e▸bF))
  rw[this,N8]
 have Xg:(J.put (some d9) jP).tmps.getD k undef=vw:=(N9 k agK).trans agW;generalize J.put (some d9) jP=a3 at*;refine N3 (C:=C) (l:=[]) Xa v2 ?_;obtain⟨hf,m1,m2,m3,m4,m5,m6,m7⟩:=HY (P:=C.P) (b:=w.heap.size) (o:=0) (e:=ty) (fr:=(0,0)) [jP] 0 #[xD] fe [] [xD] [] oF (λo _ h=>absurd h.2 (not_lt_zero _)) rfl rfl rfl (λv aJ=>by simp at aJ;subst aJ;exact ag8);have ahc:(execOp a3.eval xh).run C.P fe= .ok .skip hf:=by
  obtain⟨dst,op,IV,pos,after,guard⟩:=xh;simp only at Xd;subst Xd;have qq:a3.eval (.tmp k)= .pointer (some ⟨w.heap.size,0,none⟩):=by rw[W8];exact Xg
  have z2:a3.eval (.tmp d9)=jP:=ag9;have z3:jP.cells= #[jP]:=by rw[<-N8];rfl
  simp[execOp,qq,z2,Instr.storeAt,Instr.sureAddr,storeVar,nh W6,agI,z3,m1]
 unfold Oper.wp;rw[ahc,Oper.upon_skip];have EZ:none=xh.dst:=v1;rw[<-EZ];show wpOps C.P Bp _ [] a3 hf;show Exit.then _ _ .normal _ _;have ahd:=(Xe.off (b:=w.heap.size) tI agU Xf m3 m4 m5 m6 m7).agD tI (by rw[m4,H_];omega) Xf;refine wp_seq (WN (K:=λaH=>eS (bn C n_ Q) aH) (b:=w.heap.size) (g:=f) (k0:=k0) (cs:=cs) bP agQ ld hm nB Bm aha hr ag_ ahd (.inr rfl) (Xg.trans W8.symm) (by rw[m2,<-ahb];rfl) ?_ ?_)
 .refine yZ (λ_ s1=>?_) h;rintro⟨ps,r,qq,z2,z3,z4,z5,ahe,ahf⟩;exact⟨ps,r,qq,z2,z3,z4,z5,ahe,yZ (λ_ s h=>.inr ⟨_,WZ _ _,h⟩) ahf⟩
 .intro aH dt aN nD fw;obtain⟨awE,ad,af⟩:=fw.eS nD;exact Vk bP c5 agN (aC.Ip n_ (aC.Vc n_ fI)) (Ir n_ ad) af
theorem aW.ahg (bP:C.fH) {f:FuncId} {fn:Func} {c:Code} {ee:aC} {fx:ayf} {as outs:ayk} {r:I} (bD:C.P.funcs[f]? =some fn) (aa:fn.body=some c)
  (mu:(fn.name== "runtime.NumGoroutine")=false) (ab:fW ⟨fn.ntmps,fx⟩ c=some ee.strip) (aV:as.length<=fn.ntmps) (au:ee.pN (EX C))
  (h:∀Q:Exit->ak->Prop,(∀s,eS (Ends C fx fn.results.toList r outs) s->Q .ret s)->(∀s,eS (Ends C fx fn.results.toList r outs) s->Q .normal s)->bn C ee Q (aq (num 0 as))):aW C f as r outs:=by
 intro w F X S vs hl aQ;refine Nk (fx:=fx) bP bD aa mu aV hl aQ λa sw fc=>?_;refine Ni bP (H:=EX C) (λc T b Q s a w ld EV ba aQ=>agH bP ld EV ba aQ) c (by rw[aC.Nd];exact ab) (aC.Ip ee au) (Ir ee ?_) sw;rw[EF];exact h _ (λs h=>⟨.inr rfl,h⟩) (λs h=>⟨.inl rfl,h⟩)
theorem ahh {Q:Exit->ak->Prop} {l:ayj} {f:FuncId} {k k0 d0 d9:Nat} {cs:ayf} {m:List cu} {args:List bz} {d1:Option Nat} {keep:ayf} {n_ b:aC} (c6:ayj)
  (h:∀P:ayj->Prop,P c6->sD C f k k0 d0 cs m args d1 [] keep P (fin (fin (aq l) (some k) .hole) (some d9) .hole)) (au:bn C n_ Q (aq c6)):bn C (.kI (N4 C f k k0 d0 d9 cs m args d1 keep n_) b) Q (aq l):=
 λfk N1=>h (λl=>bn C n_ fk (aq l)) (Ng n_ N1 au)
end
end Go.eg
