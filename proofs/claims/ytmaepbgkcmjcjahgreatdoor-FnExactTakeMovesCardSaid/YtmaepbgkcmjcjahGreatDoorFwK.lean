/- Part of a proof that a law returns true for every input. No condition. -/
import Derived.Test.YtmaepbgkcmjcjahGreatDoorFwJ
namespace Go.ei
open List Go.IntKind Nat Or
section
variable {C:cy} {w0 w:World} {F0 X F cn:Nat->Prop} {S a_:Nat->Nat->Prop} {n:Fr} {ρ:Nat->Value} {s aE:al} {aH mS:Nat->Value} {a:Act} {av:I} {Q:Exit->Act->World->Prop} {aP:World}
theorem cj.off (h:cj w0 F0 X F S s aH w) {b:Nat} (bc:w0.heap.size<=b) (bJ:¬F b) (cq:∀u,¬S u b) (hw:∀c,c≠b->aP.heap[c]? =w.heap[c]?) (aa:aP.heap.size=w.heap.size)
  (ad:aP.os=w.os) (ag:aP.tape=w.tape) (aD:Out aP w):cj w0 F0 X F S s aH aP where
 h_:=h.h_
 iL:=h.iL
 gg:=λc au=>by rw[aa];exact h.gg c au
 fB:=λt c au=>by rw[aa];exact h.fB t c au
 gN:=h.gN
 gh:=h.gh
 eX:=h.eX
 eu:=λt=>aQ.frame (Sx:=S) (λc au=>hw c (λe=>bJ (e▸au))) (λ_ h=>h) (λx c au=>hw c (λe=>cq x (e▸au))) h.eu _ _ _ (λc au=>hw c (λe=>cq t (e▸au))) (h.eu t)
 old:=λc au mT=>(hw c (by omega)).trans (h.old c au mT)
 size:=by rw[aa];exact h.size
 os:=ad.trans h.os
 tape:=ag.trans h.tape
 output:=aD.trans h.output
 gw:=h.gw
theorem cj.X1 (h:cj w0 F0 X F S s aH w) {t:Nat} {v:Value}:cj w0 F0 X F (hn S t (λ_=>False)) (ei.fin s (some t) .hole) (el aH t v) w:=by
 have:ei.fin s (some t) .hole=el s t .hole:=by simp[ei.fin,I.plain]
 rw[this];exact h.Bz rfl (by rw[aQ];trivial)
theorem cj.aha (h:cj w0 F0 X F S s aH w) {b:Nat} (bc:w0.heap.size<=b) (ab:b<w.heap.size) (cq:∀u,¬S u b):cj w0 F0 X (λc=>F c\/c=b) S s aH w where
 h_:=λc au=>.inl (h.h_ c au)
 iL:=λc au=>by
  rcases au with au|rfl
  .exact h.iL c au
  .exact .inr (.inr bc)
 gg:=λc au=>by
  rcases au with au|rfl
  .exact h.gg c au
  .exact ab
 fB:=h.fB
 gN:=λt c au bH=>by
  rcases bH with bH|rfl
  .exact h.gN t c au bH
  .exact cq t au
 gh:=h.gh
 eX:=h.eX
 eu:=λt=>aQ.frame (λ_ _=>rfl) (λb ab=>.inl ab) (λ_ _ _=>rfl) h.eu _ _ _ (λ_ _=>rfl) (h.eu t)
 old:=h.old
 size:=h.size
 os:=h.os
 tape:=h.tape
 output:=h.output
 gw:=h.gw
theorem OK {c:Code} {x y:aA} (h:gb n c=some (.seq x y)):∃a b,c= .seq a b/\gb n a=some x/\gb n b=some y:=by
 cases c with
 |seq a b=>
  simp only[gb]at h;split at h
  .rename_i BK We aq hy;cases h;exact⟨a,b,rfl,aq,hy⟩
  .cases h
 |region id ops draw=>
  cases draw with
  |false=>simp only[gb]at h;split at h<;>cases h
  |true=>
   simp only[gb]at h;split at h
   .simp only[Option.map_eq_some_iff]at h;obtain⟨r,ad,ag⟩:=h;cases ag
   .cases h
 |cond c a b=>simp only[gb]at h;split at h<;>cases h
 |block id b=>simp only[gb,Option.map_eq_some_iff]at h;obtain⟨r,ad,ag⟩:=h;cases ag
 |loop b=>simp only[gb,Option.map_eq_some_iff]at h;obtain⟨r,ad,ag⟩:=h;cases ag
 |_=>simp[gb]at h
theorem B9 {ops:Array Oper} {r:cC} {o:Oper} (hg:r.guard=none) (h:uB n ops o=some r.un):r.dst=o.dst/\o.guard=none/\s6 o.op=r.b3.base/\om n o.dst=true:=by
 unfold uB at h;split at h
 .rename_i ao;split at h
  .rename_i XN iX;simp only[cC.un,Option.some.injEq,cC.mk.injEq]at h;obtain⟨aR,aW,aU⟩:=h;refine⟨aR.symm,?_,aW,ao⟩;rw[aU,hg]at iX;cases bO:o.guard with
   |none=>rfl
   |some NU=>
    rw[bO]at iX;simp only[E9]at iX;split at iX<;>cases iX
  .cases h
 .cases h
theorem OL {ops:Array Oper} {i:Nat} {o:Oper} {l:azf} (bO:ops[i]? =some o) (hg:o.guard=none) (h:o.wp C.P a w (wpOps C.P ops Q l) Q):wpOps C.P ops Q (i::l) a w:=by
 simp only[wpOps,bO];show(if Region.wanted o (yielded ops a.tmps)=true then o.wp C.P a w _ Q\/(o.asks C.P a w/\LetsOut Q)else _);rw[if_pos (I7 hg)];exact .inl h
theorem ahb {op:Op} {T:TypeId} (h:dy op=some (.mU T)):op= .alloc T:=by
 cases op with
 |alloc NQ=>simp only[dy,Option.some.injEq,e0.mU.injEq]at h;rw[h]
 |call c=>
  obtain⟨callee,p7,argTypes⟩:=c;simp only[dy]at h;split at h<;>(try split at h)<;>(try split at h)<;>(try simp[Option.map_eq_some_iff]at h)
 |makeFunc fn first cs=>
  cases fn<;>simp only[dy]at h<;>first|(cases h;done)|(split at h<;>simp at h)
 |slice T x fT ai fv=>
  cases fv<;>simp only[dy]at h<;>first|(cases h;done)|(split at h<;>simp at h)
 |makeMap T r=>cases r<;>simp only[dy]at h<;>simp at h
 |lookup T x i c=>cases c<;>simp only[dy]at h<;>first|(cases h;done)|(split at h<;>simp at h)
 |_=>simp only[dy]at h<;>first|(cases h;done)|(simp at h;done)|(split at h<;>simp at h)
theorem ahc {op:Op} {T:TypeId} {x y:bB} (h:dy op=some (.k1 T x y)):∃a b,op= .store T a b/\eK a=some x/\eK b=some y:=by
 cases op with
 |store NQ a b=>
  simp only[dy]at h;split at h
  .rename_i cU oW aq hy;simp only[Option.some.injEq,e0.k1.injEq]at h;obtain⟨rfl,rfl,rfl⟩:=h;exact⟨a,b,rfl,aq,hy⟩
  .cases h
 |call c=>
  obtain⟨callee,p7,argTypes⟩:=c;simp only[dy]at h;split at h<;>(try split at h)<;>(try split at h)<;>(try simp[Option.map_eq_some_iff]at h)
 |makeFunc fn first cs=>
  cases fn<;>simp only[dy]at h<;>first|(cases h;done)|(split at h<;>simp at h)
 |slice T x fT ai fv=>
  cases fv<;>simp only[dy]at h<;>first|(cases h;done)|(split at h<;>simp at h)
 |makeMap T r=>cases r<;>simp only[dy]at h<;>simp at h
 |lookup T x i c=>cases c<;>simp only[dy]at h<;>first|(cases h;done)|(split at h<;>simp at h)
 |_=>simp only[dy]at h<;>first|(cases h;done)|(simp at h;done)|(split at h<;>simp at h)
theorem ahd {op:Op} {g:FuncId} {xs:List bB} (h:dy op=some (.p3 g xs)):∃cs:Array Operand,op= .makeFunc (.func g) #[] cs/\sY cs.toList=some xs:=by
 cases op with
 |makeFunc fn first cs=>
  cases fn with
  |func f=>
   simp only[dy]at h;split at h
   .rename_i Nq;simp only[Option.map_eq_some_iff]at h;obtain⟨rI,ib,h⟩:=h;cases h;have Nr:first= #[]:=by simpa using Nq
    subst Nr;exact⟨cs,rfl,ib⟩
   .cases h
  |_=>simp[dy]at h
 |call c=>
  obtain⟨callee,p7,argTypes⟩:=c;simp only[dy]at h;split at h<;>(try split at h)<;>(try split at h)<;>(try simp[Option.map_eq_some_iff]at h)
 |slice T x fT ai fv=>
  cases fv<;>simp only[dy]at h<;>first|(cases h;done)|(split at h<;>simp at h)
 |makeMap T r=>cases r<;>simp only[dy]at h<;>simp at h
 |lookup T x i c=>cases c<;>simp only[dy]at h<;>first|(cases h;done)|(split at h<;>simp at h)
 |_=>simp only[dy]at h<;>first|(cases h;done)|(simp at h;done)|(split at h<;>simp at h)
theorem X2:∀{os:List Operand} {cs:azf},sY os=some (cs.map .t)->os=cs.map .tmp
 |[],cs,h=>by
  simp only[sY,Option.some.injEq]at h;cases cs with
  |nil=>rfl
  |cons c cs=>cases h
 |o::os,cs,h=>by
  simp only[sY]at h;split at h
  .rename_i x Vr ad ag;simp only[Option.some.injEq]at h;cases cs with
   |nil=>cases h
   |cons c cs=>
    simp only[map_cons,cons.injEq]at h;obtain⟨rfl,rfl⟩:=h;rw[JC ad,X2 ag];rfl
  .cases h
def OM (C:cy) (f:FuncId) (k k0 d0 d9:Nat) (cs:azf) (m:List cC) (args:List bB) (d1:Option Nat) (keep:azf) (oy:aA):(Exit->al->Prop)->al->Prop:=
 λQ s=>XV C f k k0 d0 cs m args d1 [] keep (bn C oy Q) (fin (fin s (some k) .hole) (some d9) .hole)
def X3 (T:TypeId) (f:FuncId) (k d0 d9:Nat) (cs:azf) (m:List cC) (args:List bB) (d1:Option Nat) (oy:aA):aA:=
 .seq (.ew [⟨some k,.mU T,none⟩] none) (.seq (.ew [⟨some d9,.p3 f (cs.map .t),none⟩,⟨none,.k1 T (.t k) (.t d9),none⟩] none)
  (.seq (.ew (⟨some d0,.fV T (.t k),none⟩::(m++[⟨d1,.call (.t d0) args,none⟩])) none) oy))
def FO (C:cy) (T:(Exit->al->Prop)->al->Prop) (b:aA):Prop:=
 ∃(ty:TypeId) (f:FuncId) (k k0 d0 d9:Nat) (cs:azf) (m:List cC) (args:List bB) (d1:Option Nat) (keep:azf) (oy:aA),
  T=OM C f k k0 d0 d9 cs m args d1 keep oy/\b=X3 ty f k d0 d9 cs m args d1 oy.nD/\(C.T ty).flat=true/\(∃i z v,C.P.info? ty=some i/\i.size=1/\i.zero=some z/\z.cells= #[v]/\Value.hO v=true)/\
  OH (λd=>d !=d0&& !cs.contains d) m=true/\cs.contains d0=false/\cs[k0]? =some k/\cs.contains d9=false/\oy.plain=true
theorem ahe (bU:C.fK) {c:Code} {T:(Exit->al->Prop)->al->Prop} {b:aA} {Q:Exit->al->Prop} (gO:FO C T b) (aa:gb n c=some b.strip) (h:T Q s) (aS:Rel w0 F0 X n ρ s a w):
  c.wp C.P (zz w0 F0 X n ρ Q) a w:=by
 obtain⟨ty,f,k,k0,d0,d9,cs,m,args,d1,keep,oy,rfl,rfl,ln,⟨axn,z,ya,X4,ahf,ahg,qJ,axo⟩,hm,nU,B8,JH,fO⟩:=gO;replace hm:∀r∈m,∀d,r.dst=some d->d≠d0/\d∉cs:=λr aS d ao=>by
  have:=XW hm r aS d ao;simpa using this
 replace nU:d0∉cs:=by simpa using nU
 replace JH:d9∉cs:=by simpa using JH
 have uK:k∈cs:=mem_of_getElem? B8;have ahh:k≠d9:=λe=>JH (e▸uK);obtain⟨c2,xO,rfl,uE,gd⟩:=OK aa;obtain⟨c3,axp,rfl,FP,ahi⟩:=OK gd;obtain⟨c4,c5,rfl,ahj,ahk⟩:=OK ahi;obtain⟨axq,ON,rfl,ahl⟩:=JE uE;obtain⟨axr,Ca,rfl,ahm⟩:=JE FP;obtain⟨axs,axt,rfl,ahn⟩:=JE ahj;obtain⟨kl,fa,iO,F,S,xF⟩:=aS;obtain⟨l2,g2⟩:=Fh ahl;have aW:ON.size=1:=by simpa using l2
 obtain⟨mX,Jj⟩:∃o,ON[0]? =some o:=⟨ON[0],by simp[aW]⟩
 obtain⟨bf,vX,aho⟩:=g2 0 mX (by simpa using Jj);simp only[map_cons,map_nil,getElem?_cons_zero,Option.some.injEq]at vX;subst vX;obtain⟨gZ,gx,iM,jH⟩:=B9 (r:=⟨some k,.mU ty,none⟩) rfl aho;change s6 mX.op= .mU ty at iM;have X5:mX.op= .alloc ty:=by
  rcases rP iM with h|h
  .cases h
  .exact ahb h
 refine wp_seq (wp_region ?_);rw[aW];refine OL (C:=C) Jj gx ?_;have ahp:(execOp a.eval mX).run C.P w= .ok (.value (.pointer (some ⟨w.heap.size,0,none⟩))) (w.alloc (.cells #[ya] ty)):=by
  obtain⟨dst,op,JB,pos,after,guard⟩:=mX;simp only at X5;subst X5;simp[execOp,Instr.alloc,zd X4 ahg,newVar,newRow,newObj,Sem.run,qJ]
 unfold Oper.wp;rw[ahp,Oper.upon_value];have OE:some k=mX.dst:=gZ;rw[<-OE]at jH⊢;show Exit.then _ _ .normal _ _;have hold:∀b,b<w.heap.size->(w.alloc (.cells #[ya] ty)).heap[b]? =w.heap[b]? :=by
  intro b ab;show(w.heap.push _)[b]? =_;rw[Array.getElem?_push,if_neg (by omega)]
 have oY:(w.alloc (.cells #[ya] ty)).heap[w.heap.size]? =some (.cells #[ya] ty):=by
  show(w.heap.push _)[_]? =_;simp
 have IY:(w.alloc (.cells #[ya] ty)).heap.size=w.heap.size+1:=by simp
 have ahq:=xF.grow hold (by rw[IY];omega) rfl rfl ⟨rfl,λ_=>Nat.le_refl _⟩;generalize axu:w.alloc (.cells #[ya] ty)=ft at*;generalize X6:Value.pointer (some ⟨w.heap.size,0,none⟩)=we at*;have ahr:¬F w.heap.size:=λh=>Nat.lt_irrefl _ (xF.gg _ h);have ahs:∀u,¬S u w.heap.size:=λu h=>Nat.lt_irrefl _ (xF.fB _ _ h);have uv:w0.heap.size<=w.heap.size:=xF.size;obtain⟨gY,ix,kh⟩:=E_ (n:=n) (dst:=some k) (a:=a) we fa jH;have X7:=ahq.X1 (t:=k) (v:=we);rw[show el (λt=>a.tmps.getD t undef) k we=λt=>(a.put (some k) we).tmps.getD t undef from gY.symm]at X7;have aht:(a.put (some k) we).tmps.getD k undef=we:=by
  have:=congrFun gY k;simp only[qF]at this;rw[oV]at this;exact this
 have ahu:∀u,¬hn S k (λ_=>False) u w.heap.size:=by
  intro u h;simp only[hn]at h;split at h
  .exact h
  .exact ahs u h
 have ahv:∀i∈n.fx,(a.put (some k) we).tmps.getD i undef=ρ i:=by
  intro i ai;have:=congrFun gY i;simp only[qF]at this;rw[ll _ _ (λe=>?_)]at this
  .exact this.trans (iO i ai)
  .simp only[om,Bool.and_eq_true,Bool.not_eq_true',contains_eq_mem,decide_eq_false_iff_not]at jH;exact jH.2 (e▸ai)
 have ahw:=kh.trans kl;generalize a.put (some k) we=J at*;obtain⟨E8,g3⟩:=Fh ahm;have aU:Ca.size=2:=by simpa using E8
 obtain⟨s4,X8⟩:∃o,Ca[0]? =some o:=⟨Ca[0],by simp[aU]⟩
 obtain⟨xS,X9⟩:∃o,Ca[1]? =some o:=⟨Ca[1],by simp[aU]⟩
 obtain⟨dA,JD,ahx⟩:=g3 0 s4 (by simpa using X8);obtain⟨bL,X_,ahy⟩:=g3 1 xS (by simpa using X9);simp only[map_cons,map_nil,getElem?_cons_zero,getElem?_cons_succ,Option.some.injEq]at JD X_;subst JD X_;obtain⟨v7,rT,OO,JI⟩:=B9 (r:=⟨some d9,.p3 f (cs.map .t),none⟩) rfl ahx;obtain⟨v1,v2,v3,v4⟩:=B9 (r:=⟨none,.k1 ty (.t k) (.t d9),none⟩) rfl ahy;change s6 s4.op= .p3 f (cs.map .t)at OO;change s6 xS.op= .k1 ty (.t k) (.t d9)at v3;obtain⟨ahz,Ya,ahA⟩:∃rI:Array Operand,s4.op= .makeFunc (.func f) #[] rI/\sY rI.toList=some (cs.map .t):=by
  rcases rP OO with h|h
  .cases h
  .exact ahd h
 have ahB:=X2 ahA;obtain⟨Nb,EW,Yb,OP,ahC⟩:∃a b,xS.op= .store ty a b/\eK a=some (.t k)/\eK b=some (.t d9):=by
  rcases rP v3 with h|h
  .cases h
  .exact ahc h
 have:=JC OP;subst this;have:=JC ahC;subst this;refine wp_seq (wp_region ?_);rw[aU];refine OL (C:=C) (l:=[1]) X8 rT ?_;have ahD:(execOp J.eval s4).run C.P ft= .ok (.value (.func (.func f) #[] (cs.map λj=>J.tmps.getD j undef).toArray)) ft:=by
  obtain⟨dst,op,JB,pos,after,guard⟩:=s4;simp only at Ya;subst Ya;have:ahz.map J.eval=(cs.map λj=>J.tmps.getD j undef).toArray:=by
   apply Array.ext';rw[Array.toList_map,ahB,List.map_map];rfl
  rw[<-this];simp[execOp];rfl
 unfold Oper.wp;rw[ahD,Oper.upon_value];have ahE:some d9=s4.dst:=v7;rw[<-ahE]at JI⊢;generalize OQ:Value.func (.func f) #[] (cs.map λj=>J.tmps.getD j undef).toArray=j3 at*;have ahF:Value.hO j3=true:=by rw[<-OQ];rfl
 obtain⟨fy,gk,na⟩:=E_ (n:=n) (dst:=some d9) (a:=J) j3 ix JI;have Yc:=X7.X1 (t:=d9) (v:=j3);rw[show el (λt=>J.tmps.getD t undef) d9 j3=λt=>(J.put (some d9) j3).tmps.getD t undef from fy.symm]at Yc;have OR:∀j,j≠d9->(J.put (some d9) j3).tmps.getD j undef=J.tmps.getD j undef:=by
  intro j bG;have:=congrFun fy j;simp only[qF]at this;rw[ll _ _ bG]at this;exact this
 have ahG:(J.put (some d9) j3).tmps.getD d9 undef=j3:=by
  have:=congrFun fy d9;simp only[qF]at this;rw[oV]at this;exact this
 have Yd:∀u,¬hn (hn S k (λ_=>False)) d9 (λ_=>False) u w.heap.size:=by
  intro u h;simp only[hn]at h;split at h
  .exact h
  .exact ahu u h
 have ahH:∀i∈n.fx,(J.put (some d9) j3).tmps.getD i undef=ρ i:=by
  intro i ai;rw[OR i (λe=>?_)]
  .exact ahv i ai
  .simp only[om,Bool.and_eq_true,Bool.not_eq_true',contains_eq_mem,decide_eq_false_iff_not]at JI;exact JI.2 (e▸ai)
 have ahI:=na.trans ahw;have ahJ:j3= .func (.func f) #[] (cs.map λj=>(J.put (some d9) j3).tmps.getD j undef).toArray:=by
  have:(cs.map λj=>(J.put (some d9) j3).tmps.getD j undef)=cs.map λj=>J.tmps.getD j undef:=
   map_congr_left λj bG=>OR j (λe=>JH (e▸bG))
  rw[this,OQ]
 have Ye:(J.put (some d9) j3).tmps.getD k undef=we:=(OR k ahh).trans aht;generalize J.put (some d9) j3=a3 at*;refine OL (C:=C) (l:=[]) X9 v2 ?_;obtain⟨hR,m1,m2,m3,m4,m5,m6,m7⟩:=IJ (P:=C.P) (b:=w.heap.size) (o:=0) (e:=ty) (fr:=(0,0)) [j3] 0 #[ya] ft [] [ya] [] oY (λo _ h=>absurd h.2 (not_lt_zero _)) rfl rfl rfl (λv aF=>by simp at aF;subst aF;exact ahF);have ahK:(execOp a3.eval xS).run C.P ft= .ok .skip hR:=by
  obtain⟨dst,op,JB,pos,after,guard⟩:=xS;simp only at Yb;subst Yb;have tf:a3.eval (.tmp k)= .pointer (some ⟨w.heap.size,0,none⟩):=by rw[X6];exact Ye
  have z2:a3.eval (.tmp d9)=j3:=ahG;have z3:j3.cells= #[j3]:=by rw[<-OQ];rfl
  simp[execOp,tf,z2,Instr.storeAt,Instr.sureAddr,storeVar,ny X4,ahf,z3,m1]
 unfold Oper.wp;rw[ahK,Oper.upon_skip];have zK:none=xS.dst:=v1;rw[<-zK];show wpOps C.P Ca _ [] a3 hR;show Exit.then _ _ .normal _ _;have ahL:=(Yc.off (b:=w.heap.size) uv ahr Yd m3 m4 m5 m6 m7).aha uv (by rw[m4,IY];omega) Yd;refine wp_seq (XM (K:=λaE=>eS (bn C oy Q) aE) (b:=w.heap.size) (g:=f) (k0:=k0) (cs:=cs) bU ahn ln hm nU B8 ahI gk ahH ahL (.inr rfl) (Ye.trans X6.symm) (by rw[m2,<-ahJ];rfl) ?_ ?_)
 .refine zC (λ_ s1=>?_) h;rintro⟨ps,r,tf,z2,z3,z4,z5,ahM,ahN⟩;exact⟨ps,r,tf,z2,z3,z4,z5,ahM,zC (λ_ s h=>.inr ⟨_,XX _ _,h⟩) ahN⟩
 .intro aE dI aP nW fA;obtain⟨axv,ad,ag⟩:=fA.eS nW;exact Wg bU c5 ahk (aA.Ja oy (aA.V9 oy fO)) (Jc oy ad) ag
theorem aX.ahO (bU:C.fK) {f:FuncId} {fn:Func} {c:Code} {ej:aA} {fx:azf} {as outs:azk} {r:I} (bH:C.P.funcs[f]? =some fn) (ab:fn.body=some c)
  (mH:(fn.name== "runtime.NumGoroutine")=false) (aa:gb ⟨fn.ntmps,fx⟩ c=some ej.strip) (aV:as.length<=fn.ntmps) (aw:ej.p8 (FO C))
  (h:∀Q:Exit->al->Prop,(∀s,eS (Ends C fx fn.results.toList r outs) s->Q .ret s)->(∀s,eS (Ends C fx fn.results.toList r outs) s->Q .normal s)->bn C ej Q (ar (num 0 as))):aX C f as r outs:=by
 intro w F X S vs hl aS;refine N3 (fx:=fx) bU bH ab mH aV hl aS λa s7 ff=>?_;refine N1 bU (H:=FO C) (λc T b Q s a w ln FM bb aS=>ahe bU ln FM bb aS) c (by rw[aA.NX];exact aa) (aA.Ja ej aw) (Jc ej ?_) s7;rw[Fu];exact h _ (λs h=>⟨.inr rfl,h⟩) (λs h=>⟨.inl rfl,h⟩)
theorem ahP {Q:Exit->al->Prop} {l:azj} {f:FuncId} {k k0 d0 d9:Nat} {cs:azf} {m:List cC} {args:List bB} {d1:Option Nat} {keep:azf} {oy b:aA} (cK:azj)
  (h:∀P:azj->Prop,P cK->tg C f k k0 d0 cs m args d1 [] keep P (fin (fin (ar l) (some k) .hole) (some d9) .hole)) (aw:bn C oy Q (ar cK)):bn C (.kQ (OM C f k k0 d0 d9 cs m args d1 keep oy) b) Q (ar l):=
 λfl OJ=>h (λl=>bn C oy fl (ar l)) (NZ oy OJ aw)
end
end Go.ei
