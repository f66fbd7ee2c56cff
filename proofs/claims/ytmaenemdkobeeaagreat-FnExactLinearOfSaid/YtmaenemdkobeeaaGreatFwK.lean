/- Part of a proof that a law returns true for every input. No condition. -/
import Derived.Test.YtmaenemdkobeeaaGreatFwJ
namespace Go.ek
open List Go.IntKind Nat Or
section
variable {C:ch} {w0 w:World} {F0 X F b9:Nat->Prop} {S a0:Nat->Nat->Prop} {n:Fr} {ρ:Nat->Value} {s aI:az} {aJ lx:Nat->Value} {a:Act} {av:J} {Q:Exit->Act->World->Prop} {aQ:World}
theorem b4.off (h:b4 w0 F0 X F S s aJ w) {b:Nat} (a5:w0.heap.size<=b) (bt:¬F b) (cf:∀u,¬S u b) (hw:∀c,c≠b->aQ.heap[c]? =w.heap[c]?) (ad:aQ.heap.size=w.heap.size)
  (ae:aQ.os=w.os) (ag:aQ.tape=w.tape) (aK:Out aQ w):b4 w0 F0 X F S s aJ aQ where
 ib:=h.ib
 iz:=h.iz
 gE:=λc ax=>by rw[ad];exact h.gE c ax
 fH:=λt c ax=>by rw[ad];exact h.fH t c ax
 gP:=h.gP
 gu:=h.gu
 eN:=h.eN
 ev:=λt=>aU.frame (Sx:=S) (λc ax=>hw c (λe=>bt (e▸ax))) (λ_ h=>h) (λx c ax=>hw c (λe=>cf x (e▸ax))) h.ev _ _ _ (λc ax=>hw c (λe=>cf t (e▸ax))) (h.ev t)
 old:=λc ax ly=>(hw c (by omega)).trans (h.old c ax ly)
 size:=by rw[ad];exact h.size
 os:=ae.trans h.os
 tape:=ag.trans h.tape
 output:=aK.trans h.output
 iA:=h.iA
theorem b4.S9 (h:b4 w0 F0 X F S s aJ w) {t:Nat} {v:Value}:b4 w0 F0 X F (gX S t (λ_=>False)) (ek.fin s (some t) .hole) (dY aJ t v) w:=by
 have:ek.fin s (some t) .hole=dY s t .hole:=by simp[ek.fin,J.plain]
 rw[this];exact h.yd rfl (by rw[aU];trivial)
theorem b4.abq (h:b4 w0 F0 X F S s aJ w) {b:Nat} (a5:w0.heap.size<=b) (ab:b<w.heap.size) (cf:∀u,¬S u b):b4 w0 F0 X (λc=>F c\/c=b) S s aJ w where
 ib:=λc ax=>.inl (h.ib c ax)
 iz:=λc ax=>by
  rcases ax with ax|rfl
  .exact h.iz c ax
  .exact .inr (.inr a5)
 gE:=λc ax=>by
  rcases ax with ax|rfl
  .exact h.gE c ax
  .exact ab
 fH:=h.fH
 gP:=λt c ax bo=>by
  rcases bo with bo|rfl
  .exact h.gP t c ax bo
  .exact cf t ax
 gu:=h.gu
 eN:=h.eN
 ev:=λt=>aU.frame (λ_ _=>rfl) (λb ab=>.inl ab) (λ_ _ _=>rfl) h.ev _ _ _ (λ_ _=>rfl) (h.ev t)
 old:=h.old
 size:=h.size
 os:=h.os
 tape:=h.tape
 output:=h.output
 iA:=h.iA
theorem KC {c:Code} {x y:aN} (h:fY n c=some (.seq x y)):∃a b,c= .seq a b/\fY n a=some x/\fY n b=some y:=by
 cases c with
 |seq a b=>
  simp only[fY]at h;split at h
  .rename_i yo Rm ay bz;cases h;exact⟨a,b,rfl,ay,bz⟩
  .cases h
 |region id ops draw=>
  cases draw with
  |false=>simp only[fY]at h;split at h<;>cases h
  |true=>
   simp only[fY]at h;split at h
   .simp only[Option.map_eq_some_iff]at h;obtain⟨r,ae,ag⟩:=h;cases ag
   .cases h
 |cond c a b=>simp only[fY]at h;split at h<;>cases h
 |block id b=>simp only[fY,Option.map_eq_some_iff]at h;obtain⟨r,ae,ag⟩:=h;cases ag
 |loop b=>simp only[fY,Option.map_eq_some_iff]at h;obtain⟨r,ae,ag⟩:=h;cases ag
 |_=>simp[fY]at h
theorem yP {ops:Array Oper} {r:cn} {o:Oper} (bC:r.guard=none) (h:sx n ops o=some r.un):r.dst=o.dst/\o.guard=none/\rj o.op=r.bO.base/\m0 n o.dst=true:=by
 unfold sx at h;split at h
 .rename_i ak;split at h
  .rename_i aa9 iL;simp only[cn.un,Option.some.injEq,cn.mk.injEq]at h;obtain⟨aW,a8,aY⟩:=h;refine⟨aW.symm,?_,a8,ak⟩;rw[aY,bC]at iL;cases b_:o.guard with
   |none=>rfl
   |some JO=>
    rw[b_]at iL;simp only[Bh]at iL;split at iL<;>cases iL
  .cases h
 .cases h
theorem KD {ops:Array Oper} {i:Nat} {o:Oper} {l:arH} (b_:ops[i]? =some o) (bC:o.guard=none) (h:o.wp C.P a w (wpOps C.P ops Q l) Q):wpOps C.P ops Q (i::l) a w:=by
 simp only[wpOps,b_];show(if Region.wanted o (yielded ops a.tmps)=true then o.wp C.P a w _ Q\/(o.asks C.P a w/\LetsOut Q)else _);rw[if_pos (EU bC)];exact .inl h
theorem abr {op:Op} {T:TypeId} (h:cU op=some (.lz T)):op= .alloc T:=by
 cases op with
 |alloc Bj=>simp only[cU,Option.some.injEq,eP.lz.injEq]at h;rw[h]
 |call c=>
  obtain⟨callee,oH,argTypes⟩:=c;simp only[cU]at h;split at h<;>(try split at h)<;>(try split at h)<;>(try simp[Option.map_eq_some_iff]at h)
 |makeFunc fn first cs=>
  cases fn<;>simp only[cU]at h<;>first|(cases h;done)|(split at h<;>simp at h)
 |slice T x fB al fs=>
  cases fs<;>simp only[cU]at h<;>first|(cases h;done)|(split at h<;>simp at h)
 |makeMap T r=>cases r<;>simp only[cU]at h<;>simp at h
 |lookup T x i c=>cases c<;>simp only[cU]at h<;>first|(cases h;done)|(split at h<;>simp at h)
 |_=>simp only[cU]at h<;>first|(cases h;done)|(simp at h;done)|(split at h<;>simp at h)
theorem abt {op:Op} {T:TypeId} {x y:bl} (h:cU op=some (.j2 T x y)):∃a b,op= .store T a b/\ei a=some x/\ei b=some y:=by
 cases op with
 |store Bj a b=>
  simp only[cU]at h;split at h
  .rename_i cD l4 ay bz;simp only[Option.some.injEq,eP.j2.injEq]at h;obtain⟨rfl,rfl,rfl⟩:=h;exact⟨a,b,rfl,ay,bz⟩
  .cases h
 |call c=>
  obtain⟨callee,oH,argTypes⟩:=c;simp only[cU]at h;split at h<;>(try split at h)<;>(try split at h)<;>(try simp[Option.map_eq_some_iff]at h)
 |makeFunc fn first cs=>
  cases fn<;>simp only[cU]at h<;>first|(cases h;done)|(split at h<;>simp at h)
 |slice T x fB al fs=>
  cases fs<;>simp only[cU]at h<;>first|(cases h;done)|(split at h<;>simp at h)
 |makeMap T r=>cases r<;>simp only[cU]at h<;>simp at h
 |lookup T x i c=>cases c<;>simp only[cU]at h<;>first|(cases h;done)|(split at h<;>simp at h)
 |_=>simp only[cU]at h<;>first|(cases h;done)|(simp at h;done)|(split at h<;>simp at h)
theorem abu {op:Op} {g:FuncId} {xs:List bl} (h:cU op=some (.nW g xs)):∃cs:Array Operand,op= .makeFunc (.func g) #[] cs/\rb cs.toList=some xs:=by
 cases op with
 |makeFunc fn first cs=>
  cases fn with
  |func f=>
   simp only[cU]at h;split at h
   .rename_i Bc;simp only[Option.map_eq_some_iff]at h;obtain⟨qf,iB,h⟩:=h;cases h;have Jn:first= #[]:=by simpa using Bc
    subst Jn;exact⟨cs,rfl,iB⟩
   .cases h
  |_=>simp[cU]at h
 |call c=>
  obtain⟨callee,oH,argTypes⟩:=c;simp only[cU]at h;split at h<;>(try split at h)<;>(try split at h)<;>(try simp[Option.map_eq_some_iff]at h)
 |slice T x fB al fs=>
  cases fs<;>simp only[cU]at h<;>first|(cases h;done)|(split at h<;>simp at h)
 |makeMap T r=>cases r<;>simp only[cU]at h<;>simp at h
 |lookup T x i c=>cases c<;>simp only[cU]at h<;>first|(cases h;done)|(split at h<;>simp at h)
 |_=>simp only[cU]at h<;>first|(cases h;done)|(simp at h;done)|(split at h<;>simp at h)
theorem S_:∀{os:List Operand} {cs:arH},rb os=some (cs.map .t)->os=cs.map .tmp
 |[],cs,h=>by
  simp only[rb,Option.some.injEq]at h;cases cs with
  |nil=>rfl
  |cons c cs=>cases h
 |o::os,cs,h=>by
  simp only[rb]at h;split at h
  .rename_i x QA ae ag;simp only[Option.some.injEq]at h;cases cs with
   |nil=>cases h
   |cons c cs=>
    simp only[map_cons,cons.injEq]at h;obtain⟨rfl,rfl⟩:=h;rw[Fu ae,S_ ag];rfl
  .cases h
def KE (C:ch) (f:FuncId) (k k0 d0 d9:Nat) (cs:arH) (m:List cn) (args:List bl) (d1:Option Nat) (fX:arH) (m5:aN):(Exit->az->Prop)->az->Prop:=
 λQ s=>S3 C f k k0 d0 cs m args d1 [] fX (a6 C m5 Q) (fin (fin s (some k) .hole) (some d9) .hole)
def Ta (T:TypeId) (f:FuncId) (k d0 d9:Nat) (cs:arH) (m:List cn) (args:List bl) (d1:Option Nat) (m5:aN):aN:=
 .seq (.fK [⟨some k,.lz T,none⟩] none) (.seq (.fK [⟨some d9,.nW f (cs.map .t),none⟩,⟨none,.j2 T (.t k) (.t d9),none⟩] none)
  (.seq (.fK (⟨some d0,.fo T (.t k),none⟩::(m++[⟨d1,.call (.t d0) args,none⟩])) none) m5))
def BL (C:ch) (T:(Exit->az->Prop)->az->Prop) (b:aN):Prop:=
 ∃(ty:TypeId) (f:FuncId) (k k0 d0 d9:Nat) (cs:arH) (m:List cn) (args:List bl) (d1:Option Nat) (fX:arH) (m5:aN),
  T=KE C f k k0 d0 d9 cs m args d1 fX m5/\b=Ta ty f k d0 d9 cs m args d1 m5.l7/\(C.T ty).flat=true/\(∃i z v,C.P.info? ty=some i/\i.size=1/\i.zero=some z/\z.cells= #[v]/\Value.hp v=true)/\
  Kz (λd=>d !=d0&& !cs.contains d) m=true/\cs.contains d0=false/\cs[k0]? =some k/\cs.contains d9=false/\m5.plain=true
theorem abv (bB:C.fI) {c:Code} {T:(Exit->az->Prop)->az->Prop} {b:aN} {Q:Exit->az->Prop} (gF:BL C T b) (ad:fY n c=some b.strip) (h:T Q s) (a4:Rel w0 F0 X n ρ s a w):
  c.wp C.P (wH w0 F0 X n ρ Q) a w:=by
 obtain⟨ty,f,k,k0,d0,d9,cs,m,args,d1,fX,m5,rfl,rfl,kj,⟨apJ,z,ve,Tb,abw,abx,ns,apK⟩,hm,mr,yO,Fz,ew⟩:=gF;replace hm:∀r∈m,∀d,r.dst=some d->d≠d0/\d∉cs:=λr a4 d ak=>by
  have:=S4 hm r a4 d ak;simpa using this
 replace mr:d0∉cs:=by simpa using mr
 replace Fz:d9∉cs:=by simpa using Fz
 have lk:k∈cs:=mem_of_getElem? yO;have aby:k≠d9:=λe=>Fz (e▸lk);obtain⟨cc,uU,rfl,wU,fZ⟩:=KC ad;obtain⟨nu,apL,rfl,abz,abA⟩:=KC fZ;obtain⟨j3,nv,rfl,abB,abC⟩:=KC abA;obtain⟨apM,KF,rfl,abD⟩:=Fw wU;obtain⟨apN,yR,rfl,abE⟩:=Fw abz;obtain⟨apO,apP,rfl,abF⟩:=Fw abB;obtain⟨jB,e4,iv,F,S,uN⟩:=a4;obtain⟨l2,bq⟩:=Bn abD;have a8:KF.size=1:=by simpa using l2
 obtain⟨lE,wN⟩:∃o,KF[0]? =some o:=⟨KF[0],by simp[a8]⟩
 obtain⟨bb,E3,abG⟩:=bq 0 lE (by simpa using wN);simp only[map_cons,map_nil,getElem?_cons_zero,Option.some.injEq]at E3;subst E3;obtain⟨dr,dh,hM,g7⟩:=yP (r:=⟨some k,.lz ty,none⟩) rfl abG;change rj lE.op= .lz ty at hM;have Tc:lE.op= .alloc ty:=by
  rcases ql hM with h|h
  .cases h
  .exact abr h
 refine wp_seq (wp_region ?_);rw[a8];refine KD (C:=C) wN dh ?_;have abH:(execOp a.eval lE).run C.P w= .ok (.value (.pointer (some ⟨w.heap.size,0,none⟩))) (w.alloc (.cells #[ve] ty)):=by
  obtain⟨dst,op,Ft,pos,after,guard⟩:=lE;simp only at Tc;subst Tc;simp[execOp,Instr.alloc,uJ Tb abx,newVar,newRow,newObj,Sem.run,ns]
 unfold Oper.wp;rw[abH,Oper.upon_value];have Kw:some k=lE.dst:=dr;rw[<-Kw]at g7⊢;show Exit.then _ _ .normal _ _;have hold:∀b,b<w.heap.size->(w.alloc (.cells #[ve] ty)).heap[b]? =w.heap[b]? :=by
  intro b ab;show(w.heap.push _)[b]? =_;rw[Array.getElem?_push,if_neg (by omega)]
 have lA:(w.alloc (.cells #[ve] ty)).heap[w.heap.size]? =some (.cells #[ve] ty):=by
  show(w.heap.push _)[_]? =_;simp
 have ED:(w.alloc (.cells #[ve] ty)).heap.size=w.heap.size+1:=by simp
 have abI:=uN.grow hold (by rw[ED];omega) rfl rfl ⟨rfl,λ_=>Nat.le_refl _⟩;generalize wY:w.alloc (.cells #[ve] ty)=ef at*;generalize Td:Value.pointer (some ⟨w.heap.size,0,none⟩)=tE at*;have abJ:¬F w.heap.size:=λh=>Nat.lt_irrefl _ (uN.gE _ h);have abK:∀u,¬S u w.heap.size:=λu h=>Nat.lt_irrefl _ (uN.fH _ _ h);have sn:w0.heap.size<=w.heap.size:=uN.size;obtain⟨gr,hD,i7⟩:=Bi (n:=n) (dst:=some k) (a:=a) tE e4 g7;have Te:=abI.S9 (t:=k) (v:=tE);rw[show dY (λt=>a.tmps.getD t undef) k tE=λt=>(a.put (some k) tE).tmps.getD t undef from gr.symm]at Te;have abL:(a.put (some k) tE).tmps.getD k undef=tE:=by
  have:=congrFun gr k;simp only[pe]at this;rw[nm]at this;exact this
 have abM:∀u,¬gX S k (λ_=>False) u w.heap.size:=by
  intro u h;simp only[gX]at h;split at h
  .exact h
  .exact abK u h
 have abN:∀i∈n.fx,(a.put (some k) tE).tmps.getD i undef=ρ i:=by
  intro i al;have:=congrFun gr i;simp only[pe]at this;rw[ki _ _ (λe=>?_)]at this
  .exact this.trans (iv i al)
  .simp only[m0,Bool.and_eq_true,Bool.not_eq_true',contains_eq_mem,decide_eq_false_iff_not]at g7;exact g7.2 (e▸al)
 have abO:=i7.trans jB;generalize a.put (some k) tE=R at*;obtain⟨mz,ck⟩:=Bn abE;have aY:yR.size=2:=by simpa using mz
 obtain⟨pn,Tf⟩:∃o,yR[0]? =some o:=⟨yR[0],by simp[aY]⟩
 obtain⟨uY,Tg⟩:∃o,yR[1]? =some o:=⟨yR[1],by simp[aY]⟩
 obtain⟨dt,Fv,abP⟩:=ck 0 pn (by simpa using Tf);obtain⟨bX,Th,abQ⟩:=ck 1 uY (by simpa using Tg);simp only[map_cons,map_nil,getElem?_cons_zero,getElem?_cons_succ,Option.some.injEq]at Fv Th;subst Fv Th;obtain⟨so,sq,EK,A6⟩:=yP (r:=⟨some d9,.nW f (cs.map .t),none⟩) rfl abP;obtain⟨v1,v2,sB,v4⟩:=yP (r:=⟨none,.j2 ty (.t k) (.t d9),none⟩) rfl abQ;change rj pn.op= .nW f (cs.map .t)at EK;change rj uY.op= .j2 ty (.t k) (.t d9)at sB;obtain⟨abR,Ti,abS⟩:∃qf:Array Operand,pn.op= .makeFunc (.func f) #[] qf/\rb qf.toList=some (cs.map .t):=by
  rcases ql EK with h|h
  .cases h
  .exact abu h
 have abT:=S_ abS;obtain⟨Jb,A3,Tj,KG,abU⟩:∃a b,uY.op= .store ty a b/\ei a=some (.t k)/\ei b=some (.t d9):=by
  rcases ql sB with h|h
  .cases h
  .exact abt h
 have:=Fu KG;subst this;have:=Fu abU;subst this;refine wp_seq (wp_region ?_);rw[aY];refine KD (C:=C) (l:=[1]) Tf sq ?_;have abV:(execOp R.eval pn).run C.P ef= .ok (.value (.func (.func f) #[] (cs.map λj=>R.tmps.getD j undef).toArray)) ef:=by
  obtain⟨dst,op,Ft,pos,after,guard⟩:=pn;simp only at Ti;subst Ti;have:abR.map R.eval=(cs.map λj=>R.tmps.getD j undef).toArray:=by
   apply Array.ext';rw[Array.toList_map,abT,List.map_map];rfl
  rw[<-this];simp[execOp];rfl
 unfold Oper.wp;rw[abV,Oper.upon_value];have abW:some d9=pn.dst:=so;rw[<-abW]at A6⊢;generalize KH:Value.func (.func f) #[] (cs.map λj=>R.tmps.getD j undef).toArray=jf at*;have abX:Value.hp jf=true:=by rw[<-KH];rfl
 obtain⟨fj,g8,mC⟩:=Bi (n:=n) (dst:=some d9) (a:=R) jf hD A6;have Tk:=Te.S9 (t:=d9) (v:=jf);rw[show dY (λt=>R.tmps.getD t undef) d9 jf=λt=>(R.put (some d9) jf).tmps.getD t undef from fj.symm]at Tk;have KI:∀j,j≠d9->(R.put (some d9) jf).tmps.getD j undef=R.tmps.getD j undef:=by
  intro j bP;have:=congrFun fj j;simp only[pe]at this;rw[ki _ _ bP]at this;exact this
 have abY:(R.put (some d9) jf).tmps.getD d9 undef=jf:=by
  have:=congrFun fj d9;simp only[pe]at this;rw[nm]at this;exact this
 have Tl:∀u,¬gX (gX S k (λ_=>False)) d9 (λ_=>False) u w.heap.size:=by
  intro u h;simp only[gX]at h;split at h
  .exact h
  .exact abM u h
 have abZ:∀i∈n.fx,(R.put (some d9) jf).tmps.getD i undef=ρ i:=by
  intro i al;rw[KI i (λe=>?_)]
  .exact abN i al
  .simp only[m0,Bool.and_eq_true,Bool.not_eq_true',contains_eq_mem,decide_eq_false_iff_not]at A6;exact A6.2 (e▸al)
 have ab0:=mC.trans abO;have ab1:jf= .func (.func f) #[] (cs.map λj=>(R.put (some d9) jf).tmps.getD j undef).toArray:=by
  have:(cs.map λj=>(R.put (some d9) jf).tmps.getD j undef)=cs.map λj=>R.tmps.getD j undef:=
   map_congr_left λj bP=>KI j (λe=>Fz (e▸bP))
  rw[this,KH]
 have Tm:(R.put (some d9) jf).tmps.getD k undef=tE:=(KI k aby).trans abL;generalize R.put (some d9) jf=bG at*;refine KD (C:=C) (l:=[]) Tg v2 ?_;obtain⟨hb,gk,ht,iJ,kS,nr,q2,q3⟩:=Et (P:=C.P) (b:=w.heap.size) (o:=0) (e:=ty) (fr:=(0,0)) [jf] 0 #[ve] ef [] [ve] [] lA (λo _ h=>absurd h.2 (not_lt_zero _)) rfl rfl rfl (λv aE=>by simp at aE;subst aE;exact abX);have ab2:(execOp bG.eval uY).run C.P ef= .ok .skip hb:=by
  obtain⟨dst,op,Ft,pos,after,guard⟩:=uY;simp only at Tj;subst Tj;have wW:bG.eval (.tmp k)= .pointer (some ⟨w.heap.size,0,none⟩):=by rw[Td];exact Tm
  have wX:bG.eval (.tmp d9)=jf:=abY;have BJ:jf.cells= #[jf]:=by rw[<-KH];rfl
  simp[execOp,wW,wX,Instr.storeAt,Instr.sureAddr,storeVar,k7 Tb,abw,BJ,gk]
 unfold Oper.wp;rw[ab2,Oper.upon_skip];have KJ:none=uY.dst:=v1;rw[<-KJ];show wpOps C.P yR _ [] bG hb;show Exit.then _ _ .normal _ _;have ab3:=(Tk.off (b:=w.heap.size) sn abJ Tl iJ kS nr q2 q3).abq sn (by rw[kS,ED];omega) Tl;refine wp_seq (SV (K:=λaI=>eB (a6 C m5 Q) aI) (b:=w.heap.size) (g:=f) (k0:=k0) (cs:=cs) bB abF kj hm mr yO ab0 g8 abZ ab3 (.inr rfl) (Tm.trans Td.symm) (by rw[ht,<-ab1];rfl) ?_ ?_)
 .refine wK (λ_ s1=>?_) h;rintro⟨ps,r,wW,wX,BJ,Ky,ab4,ab5,ab6⟩;exact⟨ps,r,wW,wX,BJ,Ky,ab4,ab5,wK (λ_ s h=>.inr ⟨_,S5 _ _,h⟩) ab6⟩
 .intro aI dd aQ mv ft;obtain⟨apQ,ae,ag⟩:=ft.eB mv;exact Ro bB nv abC (aN.EZ m5 (aN.Rg m5 ew)) (E1 m5 ae) ag
theorem ba.ab7 (bB:C.fI) {f:FuncId} {fn:Func} {c:Code} {cR:aN} {fx:arH} {as outs:arM} {r:J} (bo:C.P.funcs[f]? =some fn) (ab:fn.body=some c)
  (lg:(fn.name== "runtime.NumGoroutine")=false) (ad:fY ⟨fn.ntmps,fx⟩ c=some cR.strip) (aZ:as.length<=fn.ntmps) (ao:cR.oK (BL C))
  (h:∀Q:Exit->az->Prop,(∀s,eB (Ends C fx fn.results.toList r outs) s->Q .ret s)->(∀s,eB (Ends C fx fn.results.toList r outs) s->Q .normal s)->a6 C cR Q (aq (num 0 as))):ba C f as r outs:=by
 intro w F X S vs hl a4;refine JY (fx:=fx) bB bo ab lg aZ hl a4 λa rk e9=>?_;refine JW bB (H:=BL C) (λc T b Q s a w kj wV bc a4=>abv bB kj wV bc a4) c (by rw[aN.JT];exact ad) (aN.EZ cR ao) (E1 cR ?_) rk;rw[Bv];exact h _ (λs h=>⟨.inr rfl,h⟩) (λs h=>⟨.inl rfl,h⟩)
theorem ab8 {Q:Exit->az->Prop} {l:arL} {f:FuncId} {k k0 d0 d9:Nat} {cs:arH} {m:List cn} {args:List bl} {d1:Option Nat} {fX:arH} {m5 b:aN} (cb:arL)
  (h:∀P:arL->Prop,P cb->rC C f k k0 d0 cs m args d1 [] fX P (fin (fin (aq l) (some k) .hole) (some d9) .hole)) (ao:a6 C m5 Q (aq cb)):a6 C (.jT (KE C f k k0 d0 d9 cs m args d1 fX m5) b) Q (aq l):=
 λfg KB=>h (λl=>a6 C m5 fg (aq l)) (JV m5 KB ao)
end
end Go.ek
