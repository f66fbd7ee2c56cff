/- Part of a proof that a law returns true for every input. No condition. -/
import Derived.Test.YtmaepbgkcmjcjaiGreatDoorFwJ
namespace Go.eg
open List Go.IntKind Nat
section
variable {C:cl} {w0 w:World} {F0 X F ct:Nat->Prop} {S aZ:Nat->Nat->Prop} {n:Fr} {ρ:Nat->Value} {s aH:al} {aG mH:Nat->Value} {a:Act} {av:I} {Q:Exit->Act->World->Prop} {aL:World}
theorem cd.off (h:cd w0 F0 X F S s aG w) {b:Nat} (a7:w0.heap.size<=b) (bK:¬F b) (cj:∀u,¬S u b) (hw:∀c,c≠b->aL.heap[c]? =w.heap[c]?) (aa:aL.heap.size=w.heap.size)
  (ad:aL.os=w.os) (ae:aL.tape=w.tape) (aJ:Out aL w):cd w0 F0 X F S s aG aL where
 iQ:=h.iQ
 jv:=h.jv
 gP:=λc ar=>by rw[aa];exact h.gP c ar
 fS:=λt c ar=>by rw[aa];exact h.fS t c ar
 hj:=h.hj
 gD:=h.gD
 eR:=h.eR
 ey:=λt=>aS.frame (Sx:=S) (λc ar=>hw c (λe=>bK (e▸ar))) (λ_ h=>h) (λx c ar=>hw c (λe=>cj x (e▸ar))) h.ey _ _ _ (λc ar=>hw c (λe=>cj t (e▸ar))) (h.ey t)
 old:=λc ar mJ=>(hw c (by omega)).trans (h.old c ar mJ)
 size:=by rw[aa];exact h.size
 os:=ad.trans h.os
 tape:=ae.trans h.tape
 output:=aJ.trans h.output
 gU:=h.gU
theorem cd.W_ (h:cd w0 F0 X F S s aG w) {t:Nat} {v:Value}:cd w0 F0 X F (hk S t (λ_=>False)) (eg.fin s (some t) .hole) (et aG t v) w:=by
 have:eg.fin s (some t) .hole=et s t .hole:=by simp[eg.fin,I.plain]
 rw[this];exact h.D7 rfl (by rw[aS];trivial)
theorem cd.agS (h:cd w0 F0 X F S s aG w) {b:Nat} (a7:w0.heap.size<=b) (ab:b<w.heap.size) (cj:∀u,¬S u b):cd w0 F0 X (λc=>F c\/c=b) S s aG w where
 iQ:=λc ar=>.inl (h.iQ c ar)
 jv:=λc ar=>by
  rcases ar with ar|rfl
  .exact h.jv c ar
  .exact .inr (.inr a7)
 gP:=λc ar=>by
  rcases ar with ar|rfl
  .exact h.gP c ar
  .exact ab
 fS:=h.fS
 hj:=λt c ar bH=>by
  rcases bH with bH|rfl
  .exact h.hj t c ar bH
  .exact cj t ar
 gD:=h.gD
 eR:=h.eR
 ey:=λt=>aS.frame (λ_ _=>rfl) (λb ab=>.inl ab) (λ_ _ _=>rfl) h.ey _ _ _ (λ_ _=>rfl) (h.ey t)
 old:=h.old
 size:=h.size
 os:=h.os
 tape:=h.tape
 output:=h.output
 gU:=h.gU
theorem Ob {c:Code} {x y:aB} (h:fZ n c=some (.seq x y)):∃a b,c= .seq a b/\fZ n a=some x/\fZ n b=some y:=by
 cases c with
 |seq a b=>
  simp only[fZ]at h;split at h
  .rename_i Bf Vv an hy;cases h;exact⟨a,b,rfl,an,hy⟩
  .cases h
 |region id ops draw=>
  cases draw with
  |false=>simp only[fZ]at h;split at h<;>cases h
  |true=>
   simp only[fZ]at h;split at h
   .simp only[Option.map_eq_some_iff]at h;obtain⟨r,ad,ae⟩:=h;cases ae
   .cases h
 |cond c a b=>simp only[fZ]at h;split at h<;>cases h
 |block id b=>simp only[fZ,Option.map_eq_some_iff]at h;obtain⟨r,ad,ae⟩:=h;cases ae
 |loop b=>simp only[fZ,Option.map_eq_some_iff]at h;obtain⟨r,ad,ae⟩:=h;cases ae
 |_=>simp[fZ]at h
theorem BF {ops:Array Oper} {r:cq} {o:Oper} (hg:r.guard=none) (h:tZ n ops o=some r.un):r.dst=o.dst/\o.guard=none/\sE o.op=r.bU.base/\n1 n o.dst=true:=by
 unfold tZ at h;split at h
 .rename_i ao;split at h
  .rename_i WW iK;simp only[cq.un,Option.some.injEq,cq.mk.injEq]at h;obtain⟨aO,aU,aM⟩:=h;refine⟨aO.symm,?_,aU,ao⟩;rw[aM,hg]at iK;cases bL:o.guard with
   |none=>rfl
   |some Nq=>
    rw[bL]at iK;simp only[EE]at iK;split at iK<;>cases iK
  .cases h
 .cases h
theorem Oc {ops:Array Oper} {i:Nat} {o:Oper} {l:azf} (bL:ops[i]? =some o) (hg:o.guard=none) (h:o.wp C.P a w (wpOps C.P ops Q l) Q):wpOps C.P ops Q (i::l) a w:=by
 simp only[wpOps,bL];show(if Region.wanted o (yielded ops a.tmps)=true then o.wp C.P a w _ Q\/(o.asks C.P a w/\LetsOut Q)else _);rw[if_pos (Im hg)];exact .inl h
theorem agT {op:Op} {T:TypeId} (h:dG op=some (.mL T)):op= .alloc T:=by
 cases op with
 |alloc WU=>simp only[dG,Option.some.injEq,eS.mL.injEq]at h;rw[h]
 |call c=>
  obtain⟨callee,pM,argTypes⟩:=c;simp only[dG]at h;split at h<;>(try split at h)<;>(try split at h)<;>(try simp[Option.map_eq_some_iff]at h)
 |makeFunc fn first cs=>
  cases fn<;>simp only[dG]at h<;>first|(cases h;done)|(split at h<;>simp at h)
 |slice T x fM ai fc=>
  cases fc<;>simp only[dG]at h<;>first|(cases h;done)|(split at h<;>simp at h)
 |makeMap T r=>cases r<;>simp only[dG]at h<;>simp at h
 |lookup T x i c=>cases c<;>simp only[dG]at h<;>first|(cases h;done)|(split at h<;>simp at h)
 |_=>simp only[dG]at h<;>first|(cases h;done)|(simp at h;done)|(split at h<;>simp at h)
theorem agU {op:Op} {T:TypeId} {x y:bE} (h:dG op=some (.kV T x y)):∃a b,op= .store T a b/\eC a=some x/\eC b=some y:=by
 cases op with
 |store WU a b=>
  simp only[dG]at h;split at h
  .rename_i e2 oB an hy;simp only[Option.some.injEq,eS.kV.injEq]at h;obtain⟨rfl,rfl,rfl⟩:=h;exact⟨a,b,rfl,an,hy⟩
  .cases h
 |call c=>
  obtain⟨callee,pM,argTypes⟩:=c;simp only[dG]at h;split at h<;>(try split at h)<;>(try split at h)<;>(try simp[Option.map_eq_some_iff]at h)
 |makeFunc fn first cs=>
  cases fn<;>simp only[dG]at h<;>first|(cases h;done)|(split at h<;>simp at h)
 |slice T x fM ai fc=>
  cases fc<;>simp only[dG]at h<;>first|(cases h;done)|(split at h<;>simp at h)
 |makeMap T r=>cases r<;>simp only[dG]at h<;>simp at h
 |lookup T x i c=>cases c<;>simp only[dG]at h<;>first|(cases h;done)|(split at h<;>simp at h)
 |_=>simp only[dG]at h<;>first|(cases h;done)|(simp at h;done)|(split at h<;>simp at h)
theorem agV {op:Op} {g:FuncId} {xs:List bE} (h:dG op=some (.o9 g xs)):∃cs:Array Operand,op= .makeFunc (.func g) #[] cs/\sw cs.toList=some xs:=by
 cases op with
 |makeFunc fn first cs=>
  cases fn with
  |func f=>
   simp only[dG]at h;split at h
   .rename_i MZ;simp only[Option.map_eq_some_iff]at h;obtain⟨q2,iF,h⟩:=h;cases h;have M0:first= #[]:=by simpa using MZ
    subst M0;exact⟨cs,rfl,iF⟩
   .cases h
  |_=>simp[dG]at h
 |call c=>
  obtain⟨callee,pM,argTypes⟩:=c;simp only[dG]at h;split at h<;>(try split at h)<;>(try split at h)<;>(try simp[Option.map_eq_some_iff]at h)
 |slice T x fM ai fc=>
  cases fc<;>simp only[dG]at h<;>first|(cases h;done)|(split at h<;>simp at h)
 |makeMap T r=>cases r<;>simp only[dG]at h<;>simp at h
 |lookup T x i c=>cases c<;>simp only[dG]at h<;>first|(cases h;done)|(split at h<;>simp at h)
 |_=>simp only[dG]at h<;>first|(cases h;done)|(simp at h;done)|(split at h<;>simp at h)
theorem Xa:∀{os:List Operand} {cs:azf},sw os=some (cs.map .t)->os=cs.map .tmp
 |[],cs,h=>by
  simp only[sw,Option.some.injEq]at h;cases cs with
  |nil=>rfl
  |cons c cs=>cases h
 |o::os,cs,h=>by
  simp only[sw]at h;split at h
  .rename_i x UG ad ae;simp only[Option.some.injEq]at h;cases cs with
   |nil=>cases h
   |cons c cs=>
    simp only[map_cons,cons.injEq]at h;obtain⟨rfl,rfl⟩:=h;rw[IZ ad,Xa ae];rfl
  .cases h
def Od (C:cl) (f:FuncId) (k k0 d0 d9:Nat) (cs:azf) (m:List cq) (args:List bE) (d1:Option Nat) (keep:azf) (ob:aB):(Exit->al->Prop)->al->Prop:=
 λQ s=>W4 C f k k0 d0 cs m args d1 [] keep (bj C ob Q) (fin (fin s (some k) .hole) (some d9) .hole)
def Xb (T:TypeId) (f:FuncId) (k d0 d9:Nat) (cs:azf) (m:List cq) (args:List bE) (d1:Option Nat) (ob:aB):aB:=
 .seq (.en [⟨some k,.mL T,none⟩] none) (.seq (.en [⟨some d9,.o9 f (cs.map .t),none⟩,⟨none,.kV T (.t k) (.t d9),none⟩] none)
  (.seq (.en (⟨some d0,.fL T (.t k),none⟩::(m++[⟨d1,.call (.t d0) args,none⟩])) none) ob))
def Fe (C:cl) (T:(Exit->al->Prop)->al->Prop) (b:aB):Prop:=
 ∃(ty:TypeId) (f:FuncId) (k k0 d0 d9:Nat) (cs:azf) (m:List cq) (args:List bE) (d1:Option Nat) (keep:azf) (ob:aB),
  T=Od C f k k0 d0 d9 cs m args d1 keep ob/\b=Xb ty f k d0 d9 cs m args d1 ob.nj/\(C.T ty).flat=true/\(∃i z v,C.P.info? ty=some i/\i.size=1/\i.zero=some z/\z.cells= #[v]/\Value.hH v=true)/\
  N8 (λd=>d !=d0&& !cs.contains d) m=true/\cs.contains d0=false/\cs[k0]? =some k/\cs.contains d9=false/\ob.plain=true
theorem agW (bO:C.fH) {c:Code} {T:(Exit->al->Prop)->al->Prop} {b:aB} {Q:Exit->al->Prop} (gH:Fe C T b) (aa:fZ n c=some b.strip) (h:T Q s) (aT:Rel w0 F0 X n ρ s a w):
  c.wp C.P (ze w0 F0 X n ρ Q) a w:=by
 obtain⟨ty,f,k,k0,d0,d9,cs,m,args,d1,keep,ob,rfl,rfl,lb,⟨axb,z,xU,Xc,agX,agY,qi,axc⟩,hm,ny,BE,I4,fI⟩:=gH;replace hm:∀r∈m,∀d,r.dst=some d->d≠d0/\d∉cs:=λr aT d ao=>by
  have:=W5 hm r aT d ao;simpa using this
 replace ny:d0∉cs:=by simpa using ny
 replace I4:d9∉cs:=by simpa using I4
 have uh:k∈cs:=mem_of_getElem? BE;have agZ:k≠d9:=λe=>I4 (e▸uh);obtain⟨c2,Ih,rfl,ue,f_⟩:=Ob aa;obtain⟨c3,axd,rfl,I5,ag0⟩:=Ob f_;obtain⟨c4,c5,rfl,ag1,ag2⟩:=Ob ag0;obtain⟨axe,Oe,rfl,ag3⟩:=I1 ue;obtain⟨axf,BH,rfl,ag4⟩:=I1 I5;obtain⟨axg,axh,rfl,ag5⟩:=I1 ag1;obtain⟨l7,fg,j6,F,S,xr⟩:=aT;obtain⟨l2,g2⟩:=EK ag3;have aU:Oe.size=1:=by simpa using l2
 obtain⟨nD,ID⟩:∃o,Oe[0]? =some o:=⟨Oe[0],by simp[aU]⟩
 obtain⟨a_,Iv,ag6⟩:=g2 0 nD (by simpa using ID);simp only[map_cons,map_nil,getElem?_cons_zero,Option.some.injEq]at Iv;subst Iv;obtain⟨hn,gE,iI,jH⟩:=BF (r:=⟨some k,.mL ty,none⟩) rfl ag6;change sE nD.op= .mL ty at iI;have Xd:nD.op= .alloc ty:=by
  rcases vJ iI with h|h
  .cases h
  .exact agT h
 refine wp_seq (wp_region ?_);rw[aU];refine Oc (C:=C) ID gE ?_;have ag7:(execOp a.eval nD).run C.P w= .ok (.value (.pointer (some ⟨w.heap.size,0,none⟩))) (w.alloc (.cells #[xU] ty)):=by
  obtain⟨dst,op,IY,pos,after,guard⟩:=nD;simp only at Xd;subst Xd;simp[execOp,Instr.alloc,yR Xc agY,newVar,newRow,newObj,Sem.run,qi]
 unfold Oper.wp;rw[ag7,Oper.upon_value];have N6:some k=nD.dst:=hn;rw[<-N6]at jH⊢;show Exit.then _ _ .normal _ _;have hold:∀b,b<w.heap.size->(w.alloc (.cells #[xU] ty)).heap[b]? =w.heap[b]? :=by
  intro b ab;show(w.heap.push _)[b]? =_;rw[Array.getElem?_push,if_neg (by omega)]
 have oE:(w.alloc (.cells #[xU] ty)).heap[w.heap.size]? =some (.cells #[xU] ty):=by
  show(w.heap.push _)[_]? =_;simp
 have Ia:(w.alloc (.cells #[xU] ty)).heap.size=w.heap.size+1:=by simp
 have ag8:=xr.grow hold (by rw[Ia];omega) rfl rfl ⟨rfl,λ_=>Nat.le_refl _⟩;generalize axi:w.alloc (.cells #[xU] ty)=gR at*;generalize Xe:Value.pointer (some ⟨w.heap.size,0,none⟩)=vP at*;have ag9:¬F w.heap.size:=λh=>Nat.lt_irrefl _ (xr.gP _ h);have ag_:∀u,¬S u w.heap.size:=λu h=>Nat.lt_irrefl _ (xr.fS _ _ h);have tT:w0.heap.size<=w.heap.size:=xr.size;obtain⟨hs,iE,j1⟩:=EF (n:=n) (dst:=some k) (a:=a) vP fg jH;have Xf:=ag8.W_ (t:=k) (v:=vP);rw[show et (λt=>a.tmps.getD t undef) k vP=λt=>(a.put (some k) vP).tmps.getD t undef from hs.symm]at Xf;have aha:(a.put (some k) vP).tmps.getD k undef=vP:=by
  have:=congrFun hs k;simp only[qf]at this;rw[o3]at this;exact this
 have ahb:∀u,¬hk S k (λ_=>False) u w.heap.size:=by
  intro u h;simp only[hk]at h;split at h
  .exact h
  .exact ag_ u h
 have ahc:∀i∈n.fx,(a.put (some k) vP).tmps.getD i undef=ρ i:=by
  intro i ai;have:=congrFun hs i;simp only[qf]at this;rw[lE _ _ (λe=>?_)]at this
  .exact this.trans (j6 i ai)
  .simp only[n1,Bool.and_eq_true,Bool.not_eq_true',contains_eq_mem,decide_eq_false_iff_not]at jH;exact jH.2 (e▸ai)
 have ahd:=j1.trans l7;generalize a.put (some k) vP=J at*;obtain⟨ED,g3⟩:=EK ag4;have aM:BH.size=2:=by simpa using ED
 obtain⟨sB,Xg⟩:∃o,BH[0]? =some o:=⟨BH[0],by simp[aM]⟩
 obtain⟨xC,Xh⟩:∃o,BH[1]? =some o:=⟨BH[1],by simp[aM]⟩
 obtain⟨cN,I0,ahe⟩:=g3 0 sB (by simpa using Xg);obtain⟨bN,Xi,ahf⟩:=g3 1 xC (by simpa using Xh);simp only[map_cons,map_nil,getElem?_cons_zero,getElem?_cons_succ,Option.some.injEq]at I0 Xi;subst I0 Xi;obtain⟨vN,ra,BI,zq⟩:=BF (r:=⟨some d9,.o9 f (cs.map .t),none⟩) rfl ahe;obtain⟨v1,v2,v3,v4⟩:=BF (r:=⟨none,.kV ty (.t k) (.t d9),none⟩) rfl ahf;change sE sB.op= .o9 f (cs.map .t)at BI;change sE xC.op= .kV ty (.t k) (.t d9)at v3;obtain⟨ahg,Xj,ahh⟩:∃q2:Array Operand,sB.op= .makeFunc (.func f) #[] q2/\sw q2.toList=some (cs.map .t):=by
  rcases vJ BI with h|h
  .cases h
  .exact agV h
 have ahi:=Xa ahh;obtain⟨MN,Er,Xk,Of,ahj⟩:∃a b,xC.op= .store ty a b/\eC a=some (.t k)/\eC b=some (.t d9):=by
  rcases vJ v3 with h|h
  .cases h
  .exact agU h
 have:=IZ Of;subst this;have:=IZ ahj;subst this;refine wp_seq (wp_region ?_);rw[aM];refine Oc (C:=C) (l:=[1]) Xg ra ?_;have ahk:(execOp J.eval sB).run C.P gR= .ok (.value (.func (.func f) #[] (cs.map λj=>J.tmps.getD j undef).toArray)) gR:=by
  obtain⟨dst,op,IY,pos,after,guard⟩:=sB;simp only at Xj;subst Xj;have:ahg.map J.eval=(cs.map λj=>J.tmps.getD j undef).toArray:=by
   apply Array.ext';rw[Array.toList_map,ahi,List.map_map];rfl
  rw[<-this];simp[execOp];rfl
 unfold Oper.wp;rw[ahk,Oper.upon_value];have ahl:some d9=sB.dst:=vN;rw[<-ahl]at zq⊢;generalize Og:Value.func (.func f) #[] (cs.map λj=>J.tmps.getD j undef).toArray=jO at*;have ahm:Value.hH jO=true:=by rw[<-Og];rfl
 obtain⟨fq,gn,lL⟩:=EF (n:=n) (dst:=some d9) (a:=J) jO iE zq;have Xl:=Xf.W_ (t:=d9) (v:=jO);rw[show et (λt=>J.tmps.getD t undef) d9 jO=λt=>(J.put (some d9) jO).tmps.getD t undef from fq.symm]at Xl;have Oh:∀j,j≠d9->(J.put (some d9) jO).tmps.getD j undef=J.tmps.getD j undef:=by
  intro j bJ;have:=congrFun fq j;simp only[qf]at this;rw[lE _ _ bJ]at this;exact this
 have ahn:(J.put (some d9) jO).tmps.getD d9 undef=jO:=by
  have:=congrFun fq d9;simp only[qf]at this;rw[o3]at this;exact this
 have Xm:∀u,¬hk (hk S k (λ_=>False)) d9 (λ_=>False) u w.heap.size:=by
  intro u h;simp only[hk]at h;split at h
  .exact h
  .exact ahb u h
 have aho:∀i∈n.fx,(J.put (some d9) jO).tmps.getD i undef=ρ i:=by
  intro i ai;rw[Oh i (λe=>?_)]
  .exact ahc i ai
  .simp only[n1,Bool.and_eq_true,Bool.not_eq_true',contains_eq_mem,decide_eq_false_iff_not]at zq;exact zq.2 (e▸ai)
 have ahp:=lL.trans ahd;have ahq:jO= .func (.func f) #[] (cs.map λj=>(J.put (some d9) jO).tmps.getD j undef).toArray:=by
  have:(cs.map λj=>(J.put (some d9) jO).tmps.getD j undef)=cs.map λj=>J.tmps.getD j undef:=
   map_congr_left λj bJ=>Oh j (λe=>I4 (e▸bJ))
  rw[this,Og]
 have Xn:(J.put (some d9) jO).tmps.getD k undef=vP:=(Oh k agZ).trans aha;generalize J.put (some d9) jO=a3 at*;refine Oc (C:=C) (l:=[]) Xh v2 ?_;obtain⟨jh,m1,m2,m3,m4,m5,m6,m7⟩:=HZ (P:=C.P) (b:=w.heap.size) (o:=0) (e:=ty) (fr:=(0,0)) [jO] 0 #[xU] gR [] [xU] [] oE (λo _ h=>absurd h.2 (not_lt_zero _)) rfl rfl rfl (λv aF=>by simp at aF;subst aF;exact ahm);have ahr:(execOp a3.eval xC).run C.P gR= .ok .skip jh:=by
  obtain⟨dst,op,IY,pos,after,guard⟩:=xC;simp only at Xk;subst Xk;have sJ:a3.eval (.tmp k)= .pointer (some ⟨w.heap.size,0,none⟩):=by rw[Xe];exact Xn
  have z2:a3.eval (.tmp d9)=jO:=ahn;have z3:jO.cells= #[jO]:=by rw[<-Og];rfl
  simp[execOp,sJ,z2,Instr.storeAt,Instr.sureAddr,storeVar,nf Xc,agX,z3,m1]
 unfold Oper.wp;rw[ahr,Oper.upon_skip];have Ff:none=xC.dst:=v1;rw[<-Ff];show wpOps C.P BH _ [] a3 jh;show Exit.then _ _ .normal _ _;have ahs:=(Xl.off (b:=w.heap.size) tT ag9 Xm m3 m4 m5 m6 m7).agS tT (by rw[m4,Ia];omega) Xm;refine wp_seq (WV (K:=λaH=>eI (bj C ob Q) aH) (b:=w.heap.size) (g:=f) (k0:=k0) (cs:=cs) bO ag5 lb hm ny BE ahp gn aho ahs (.inr rfl) (Xn.trans Xe.symm) (by rw[m2,<-ahq];rfl) ?_ ?_)
 .refine zh (λ_ s1=>?_) h;rintro⟨ps,r,sJ,z2,z3,z4,z5,aht,ahu⟩;exact⟨ps,r,sJ,z2,z3,z4,z5,aht,zh (λ_ s h=>.inr ⟨_,W6 _ _,h⟩) ahu⟩
 .intro aH dH aL nh fi;obtain⟨axj,ad,ae⟩:=fi.eI nh;exact Vx bO c5 ag2 (aB.Ir ob (aB.Vp ob fI)) (It ob ad) ae
theorem aV.ahv (bO:C.fH) {f:FuncId} {fn:Func} {c:Code} {dY:aB} {fx:azf} {as outs:azk} {r:I} (bH:C.P.funcs[f]? =some fn) (ab:fn.body=some c)
  (mr:(fn.name== "runtime.NumGoroutine")=false) (aa:fZ ⟨fn.ntmps,fx⟩ c=some dY.strip) (aR:as.length<=fn.ntmps) (ax:dY.pN (Fe C))
  (h:∀Q:Exit->al->Prop,(∀s,eI (Ends C fx fn.results.toList r outs) s->Q .ret s)->(∀s,eI (Ends C fx fn.results.toList r outs) s->Q .normal s)->bj C dY Q (aq (num 0 as))):aV C f as r outs:=by
 intro w F X S vs aC aT;refine Ny (fx:=fx) bO bH ab mr aR aC aT λa sF e_=>?_;refine Nw bO (H:=Fe C) (λc T b Q s a w lb Fa aY aT=>agW bO lb Fa aY aT) c (by rw[aB.Ns];exact aa) (aB.Ir dY ax) (It dY ?_) sF;rw[Iw];exact h _ (λs h=>⟨.inr rfl,h⟩) (λs h=>⟨.inl rfl,h⟩)
theorem ahw {Q:Exit->al->Prop} {l:azj} {f:FuncId} {k k0 d0 d9:Nat} {cs:azf} {m:List cq} {args:List bE} {d1:Option Nat} {keep:azf} {ob b:aB} (c_:azj)
  (h:∀P:azj->Prop,P c_->sK C f k k0 d0 cs m args d1 [] keep P (fin (fin (aq l) (some k) .hole) (some d9) .hole)) (ax:bj C ob Q (aq c_)):bj C (.kJ (Od C f k k0 d0 d9 cs m args d1 keep ob) b) Q (aq l):=
 λe4 Oa=>h (λl=>bj C ob e4 (aq l)) (Nu ob Oa ax)
end
end Go.eg
