/- Part of a proof that a law returns true for every input. No condition. -/
import Derived.Test.YtmaepbgkcmjcjajGreatDoorFwJ
namespace Go.ep
open List Go.IntKind Nat Or
section
variable {C:cx} {w0 w:World} {F0 X F cq:Nat->Prop} {S a7:Nat->Nat->Prop} {n:Fr} {ρ:Nat->Value} {s aH:al} {aI mY:Nat->Value} {a:Act} {av:I} {Q:Exit->Act->World->Prop} {aO:World}
theorem ch.off (h:ch w0 F0 X F S s aI w) {b:Nat} (a_:w0.heap.size<=b) (bM:¬F b) (cn:∀u,¬S u b) (hw:∀c,c≠b->aO.heap[c]? =w.heap[c]?) (aa:aO.heap.size=w.heap.size)
  (ad:aO.os=w.os) (af:aO.tape=w.tape) (aG:Out aO w):ch w0 F0 X F S s aI aO where
 iq:=h.iq
 iS:=h.iS
 gi:=λc au=>by rw[aa];exact h.gi c au
 fG:=λt c au=>by rw[aa];exact h.fG t c au
 gL:=h.gL
 gj:=h.gj
 e1:=h.e1
 eB:=λt=>aQ.frame (Sx:=S) (λc au=>hw c (λe=>bM (e▸au))) (λ_ h=>h) (λx c au=>hw c (λe=>cn x (e▸au))) h.eB _ _ _ (λc au=>hw c (λe=>cn t (e▸au))) (h.eB t)
 old:=λc au mZ=>(hw c (by omega)).trans (h.old c au mZ)
 size:=by rw[aa];exact h.size
 os:=ad.trans h.os
 tape:=af.trans h.tape
 output:=aG.trans h.output
 gz:=h.gz
theorem ch.XH (h:ch w0 F0 X F S s aI w) {t:Nat} {v:Value}:ch w0 F0 X F (hr S t (λ_=>False)) (ep.fin s (some t) .hole) (eu aI t v) w:=by
 have:ep.fin s (some t) .hole=eu s t .hole:=by simp[ep.fin,I.plain]
 rw[this];exact h.Bp rfl (by rw[aQ];trivial)
theorem ch.ag_ (h:ch w0 F0 X F S s aI w) {b:Nat} (a_:w0.heap.size<=b) (ab:b<w.heap.size) (cn:∀u,¬S u b):ch w0 F0 X (λc=>F c\/c=b) S s aI w where
 iq:=λc au=>.inl (h.iq c au)
 iS:=λc au=>by
  rcases au with au|rfl
  .exact h.iS c au
  .exact .inr (.inr a_)
 gi:=λc au=>by
  rcases au with au|rfl
  .exact h.gi c au
  .exact ab
 fG:=h.fG
 gL:=λt c au bK=>by
  rcases bK with bK|rfl
  .exact h.gL t c au bK
  .exact cn t au
 gj:=h.gj
 e1:=h.e1
 eB:=λt=>aQ.frame (λ_ _=>rfl) (λb ab=>.inl ab) (λ_ _ _=>rfl) h.eB _ _ _ (λ_ _=>rfl) (h.eB t)
 old:=h.old
 size:=h.size
 os:=h.os
 tape:=h.tape
 output:=h.output
 gz:=h.gz
theorem OL {c:Code} {x y:aA} (h:gg n c=some (.seq x y)):∃a b,c= .seq a b/\gg n a=some x/\gg n b=some y:=by
 cases c with
 |seq a b=>
  simp only[gg]at h;split at h
  .rename_i BC VW ao hy;cases h;exact⟨a,b,rfl,ao,hy⟩
  .cases h
 |region id ops draw=>
  cases draw with
  |false=>simp only[gg]at h;split at h<;>cases h
  |true=>
   simp only[gg]at h;split at h
   .simp only[Option.map_eq_some_iff]at h;obtain⟨r,ad,af⟩:=h;cases af
   .cases h
 |cond c a b=>simp only[gg]at h;split at h<;>cases h
 |block id b=>simp only[gg,Option.map_eq_some_iff]at h;obtain⟨r,ad,af⟩:=h;cases af
 |loop b=>simp only[gg,Option.map_eq_some_iff]at h;obtain⟨r,ad,af⟩:=h;cases af
 |_=>simp[gg]at h
theorem B1 {ops:Array Oper} {r:cC} {o:Oper} (hg:r.guard=none) (h:uw n ops o=some r.un):r.dst=o.dst/\o.guard=none/\sU o.op=r.b8.base/\om n o.dst=true:=by
 unfold uw at h;split at h
 .rename_i aq;split at h
  .rename_i Xt ja;simp only[cC.un,Option.some.injEq,cC.mk.injEq]at h;obtain⟨aP,aW,aS⟩:=h;refine⟨aP.symm,?_,aW,aq⟩;rw[aS,hg]at ja;cases bS:o.guard with
   |none=>rfl
   |some NV=>
    rw[bS]at ja;simp only[E0]at ja;split at ja<;>cases ja
  .cases h
 .cases h
theorem OM {ops:Array Oper} {i:Nat} {o:Oper} {l:azt} (bS:ops[i]? =some o) (hg:o.guard=none) (h:o.wp C.P a w (wpOps C.P ops Q l) Q):wpOps C.P ops Q (i::l) a w:=by
 simp only[wpOps,bS];show(if Region.wanted o (yielded ops a.tmps)=true then o.wp C.P a w _ Q\/(o.asks C.P a w/\LetsOut Q)else _);rw[if_pos (IQ hg)];exact .inl h
theorem aha {op:Op} {T:TypeId} (h:dJ op=some (.nb T)):op= .alloc T:=by
 cases op with
 |alloc NR=>simp only[dJ,Option.some.injEq,e6.nb.injEq]at h;rw[h]
 |call c=>
  obtain⟨callee,p3,argTypes⟩:=c;simp only[dJ]at h;split at h<;>(try split at h)<;>(try split at h)<;>(try simp[Option.map_eq_some_iff]at h)
 |makeFunc fn first cs=>
  cases fn<;>simp only[dJ]at h<;>first|(cases h;done)|(split at h<;>simp at h)
 |slice T x fS ai fz=>
  cases fz<;>simp only[dJ]at h<;>first|(cases h;done)|(split at h<;>simp at h)
 |makeMap T r=>cases r<;>simp only[dJ]at h<;>simp at h
 |lookup T x i c=>cases c<;>simp only[dJ]at h<;>first|(cases h;done)|(split at h<;>simp at h)
 |_=>simp only[dJ]at h<;>first|(cases h;done)|(simp at h;done)|(split at h<;>simp at h)
theorem ahb {op:Op} {T:TypeId} {x y:bC} (h:dJ op=some (.k5 T x y)):∃a b,op= .store T a b/\eR a=some x/\eR b=some y:=by
 cases op with
 |store NR a b=>
  simp only[dJ]at h;split at h
  .rename_i da oT ao hy;simp only[Option.some.injEq,e6.k5.injEq]at h;obtain⟨rfl,rfl,rfl⟩:=h;exact⟨a,b,rfl,ao,hy⟩
  .cases h
 |call c=>
  obtain⟨callee,p3,argTypes⟩:=c;simp only[dJ]at h;split at h<;>(try split at h)<;>(try split at h)<;>(try simp[Option.map_eq_some_iff]at h)
 |makeFunc fn first cs=>
  cases fn<;>simp only[dJ]at h<;>first|(cases h;done)|(split at h<;>simp at h)
 |slice T x fS ai fz=>
  cases fz<;>simp only[dJ]at h<;>first|(cases h;done)|(split at h<;>simp at h)
 |makeMap T r=>cases r<;>simp only[dJ]at h<;>simp at h
 |lookup T x i c=>cases c<;>simp only[dJ]at h<;>first|(cases h;done)|(split at h<;>simp at h)
 |_=>simp only[dJ]at h<;>first|(cases h;done)|(simp at h;done)|(split at h<;>simp at h)
theorem ahc {op:Op} {g:FuncId} {xs:List bC} (h:dJ op=some (.pZ g xs)):∃cs:Array Operand,op= .makeFunc (.func g) #[] cs/\sO cs.toList=some xs:=by
 cases op with
 |makeFunc fn first cs=>
  cases fn with
  |func f=>
   simp only[dJ]at h;split at h
   .rename_i Ns;simp only[Option.map_eq_some_iff]at h;obtain⟨rk,iT,h⟩:=h;cases h;have Nt:first= #[]:=by simpa using Ns
    subst Nt;exact⟨cs,rfl,iT⟩
   .cases h
  |_=>simp[dJ]at h
 |call c=>
  obtain⟨callee,p3,argTypes⟩:=c;simp only[dJ]at h;split at h<;>(try split at h)<;>(try split at h)<;>(try simp[Option.map_eq_some_iff]at h)
 |slice T x fS ai fz=>
  cases fz<;>simp only[dJ]at h<;>first|(cases h;done)|(split at h<;>simp at h)
 |makeMap T r=>cases r<;>simp only[dJ]at h<;>simp at h
 |lookup T x i c=>cases c<;>simp only[dJ]at h<;>first|(cases h;done)|(split at h<;>simp at h)
 |_=>simp only[dJ]at h<;>first|(cases h;done)|(simp at h;done)|(split at h<;>simp at h)
theorem XI:∀{os:List Operand} {cs:azt},sO os=some (cs.map .t)->os=cs.map .tmp
 |[],cs,h=>by
  simp only[sO,Option.some.injEq]at h;cases cs with
  |nil=>rfl
  |cons c cs=>cases h
 |o::os,cs,h=>by
  simp only[sO]at h;split at h
  .rename_i x U_ ad af;simp only[Option.some.injEq]at h;cases cs with
   |nil=>cases h
   |cons c cs=>
    simp only[map_cons,cons.injEq]at h;obtain⟨rfl,rfl⟩:=h;rw[Jo ad,XI af];rfl
  .cases h
def ON (C:cx) (f:FuncId) (k k0 d0 d9:Nat) (cs:azt) (m:List cC) (args:List bC) (d1:Option Nat) (keep:azt) (ox:aA):(Exit->al->Prop)->al->Prop:=
 λQ s=>XB C f k k0 d0 cs m args d1 [] keep (bm C ox Q) (fin (fin s (some k) .hole) (some d9) .hole)
def XJ (T:TypeId) (f:FuncId) (k d0 d9:Nat) (cs:azt) (m:List cC) (args:List bC) (d1:Option Nat) (ox:aA):aA:=
 .seq (.eD [⟨some k,.nb T,none⟩] none) (.seq (.eD [⟨some d9,.pZ f (cs.map .t),none⟩,⟨none,.k5 T (.t k) (.t d9),none⟩] none)
  (.seq (.eD (⟨some d0,.fX T (.t k),none⟩::(m++[⟨d1,.call (.t d0) args,none⟩])) none) ox))
def FE (C:cx) (T:(Exit->al->Prop)->al->Prop) (b:aA):Prop:=
 ∃(ty:TypeId) (f:FuncId) (k k0 d0 d9:Nat) (cs:azt) (m:List cC) (args:List bC) (d1:Option Nat) (keep:azt) (ox:aA),
  T=ON C f k k0 d0 d9 cs m args d1 keep ox/\b=XJ ty f k d0 d9 cs m args d1 ox.nE/\(C.T ty).flat=true/\(∃i z v,C.P.info? ty=some i/\i.size=1/\i.zero=some z/\z.cells= #[v]/\Value.hV v=true)/\
  OI (λd=>d !=d0&& !cs.contains d) m=true/\cs.contains d0=false/\cs[k0]? =some k/\cs.contains d9=false/\ox.plain=true
theorem ahd (bW:C.fN) {c:Code} {T:(Exit->al->Prop)->al->Prop} {b:aA} {Q:Exit->al->Prop} (gO:FE C T b) (aa:gg n c=some b.strip) (h:T Q s) (aR:Rel w0 F0 X n ρ s a w):
  c.wp C.P (zt w0 F0 X n ρ Q) a w:=by
 obtain⟨ty,f,k,k0,d0,d9,cs,m,args,d1,keep,ox,rfl,rfl,lx,⟨axF,z,yb,XK,ahe,ahf,qA,axG⟩,hm,nR,B0,Jt,fO⟩:=gO;replace hm:∀r∈m,∀d,r.dst=some d->d≠d0/\d∉cs:=λr aR d aq=>by
  have:=XC hm r aR d aq;simpa using this
 replace nR:d0∉cs:=by simpa using nR
 replace Jt:d9∉cs:=by simpa using Jt
 have uD:k∈cs:=mem_of_getElem? B0;have ahg:k≠d9:=λe=>Jt (e▸uD);obtain⟨c2,xM,rfl,zF,gh⟩:=OL aa;obtain⟨c3,axH,rfl,ahh,ahi⟩:=OL gh;obtain⟨c4,c5,rfl,ahj,ahk⟩:=OL ahi;obtain⟨axI,OO,rfl,ahl⟩:=Jq zF;obtain⟨axJ,B3,rfl,ahm⟩:=Jq ahh;obtain⟨axK,axL,rfl,ahn⟩:=Jq ahj;obtain⟨k9,fo,jC,F,S,xF⟩:=aR;obtain⟨l2,g2⟩:=E6 ahl;have aW:OO.size=1:=by simpa using l2
 obtain⟨nX,I6⟩:∃o,OO[0]? =some o:=⟨OO[0],by simp[aW]⟩
 obtain⟨bd,vT,aho⟩:=g2 0 nX (by simpa using I6);simp only[map_cons,map_nil,getElem?_cons_zero,Option.some.injEq]at vT;subst vT;obtain⟨ia,gX,jm,jR⟩:=B1 (r:=⟨some k,.nb ty,none⟩) rfl aho;change sU nX.op= .nb ty at jm;have XL:nX.op= .alloc ty:=by
  rcases sV jm with h|h
  .cases h
  .exact aha h
 refine wp_seq (wp_region ?_);rw[aW];refine OM (C:=C) I6 gX ?_;have ahp:(execOp a.eval nX).run C.P w= .ok (.value (.pointer (some ⟨w.heap.size,0,none⟩))) (w.alloc (.cells #[yb] ty)):=by
  obtain⟨dst,op,Jn,pos,after,guard⟩:=nX;simp only at XL;subst XL;simp[execOp,Instr.alloc,y8 XK ahf,newVar,newRow,newObj,Sem.run,qA]
 unfold Oper.wp;rw[ahp,Oper.upon_value];have OG:some k=nX.dst:=ia;rw[<-OG]at jR⊢;show Exit.then _ _ .normal _ _;have hold:∀b,b<w.heap.size->(w.alloc (.cells #[yb] ty)).heap[b]? =w.heap[b]? :=by
  intro b ab;show(w.heap.push _)[b]? =_;rw[Array.getElem?_push,if_neg (by omega)]
 have oV:(w.alloc (.cells #[yb] ty)).heap[w.heap.size]? =some (.cells #[yb] ty):=by
  show(w.heap.push _)[_]? =_;simp
 have IF:(w.alloc (.cells #[yb] ty)).heap.size=w.heap.size+1:=by simp
 have ahq:=xF.grow hold (by rw[IF];omega) rfl rfl ⟨rfl,λ_=>Nat.le_refl _⟩;generalize axM:w.alloc (.cells #[yb] ty)=ft at*;generalize XM:Value.pointer (some ⟨w.heap.size,0,none⟩)=v7 at*;have ahr:¬F w.heap.size:=λh=>Nat.lt_irrefl _ (xF.gi _ h);have ahs:∀u,¬S u w.heap.size:=λu h=>Nat.lt_irrefl _ (xF.fG _ _ h);have um:w0.heap.size<=w.heap.size:=xF.size;obtain⟨hc,i7,ki⟩:=E1 (n:=n) (dst:=some k) (a:=a) v7 fo jR;have XN:=ahq.XH (t:=k) (v:=v7);rw[show eu (λt=>a.tmps.getD t undef) k v7=λt=>(a.put (some k) v7).tmps.getD t undef from hc.symm]at XN;have aht:(a.put (some k) v7).tmps.getD k undef=v7:=by
  have:=congrFun hc k;simp only[qw]at this;rw[oS]at this;exact this
 have ahu:∀u,¬hr S k (λ_=>False) u w.heap.size:=by
  intro u h;simp only[hr]at h;split at h
  .exact h
  .exact ahs u h
 have ahv:∀i∈n.fx,(a.put (some k) v7).tmps.getD i undef=ρ i:=by
  intro i ai;have:=congrFun hc i;simp only[qw]at this;rw[lv _ _ (λe=>?_)]at this
  .exact this.trans (jC i ai)
  .simp only[om,Bool.and_eq_true,Bool.not_eq_true',contains_eq_mem,decide_eq_false_iff_not]at jR;exact jR.2 (e▸ai)
 have ahw:=ki.trans k9;generalize a.put (some k) v7=J at*;obtain⟨EZ,g3⟩:=E6 ahm;have aS:B3.size=2:=by simpa using EZ
 obtain⟨sS,XO⟩:∃o,B3[0]? =some o:=⟨B3[0],by simp[aS]⟩
 obtain⟨xQ,XP⟩:∃o,B3[1]? =some o:=⟨B3[1],by simp[aS]⟩
 obtain⟨c_,Jp,ahx⟩:=g3 0 sS (by simpa using XO);obtain⟨bR,XQ,ahy⟩:=g3 1 xQ (by simpa using XP);simp only[map_cons,map_nil,getElem?_cons_zero,getElem?_cons_succ,Option.some.injEq]at Jp XQ;subst Jp XQ;obtain⟨vW,xZ,OP,Ju⟩:=B1 (r:=⟨some d9,.pZ f (cs.map .t),none⟩) rfl ahx;obtain⟨v1,v2,v3,v4⟩:=B1 (r:=⟨none,.k5 ty (.t k) (.t d9),none⟩) rfl ahy;change sU sS.op= .pZ f (cs.map .t)at OP;change sU xQ.op= .k5 ty (.t k) (.t d9)at v3;obtain⟨ahz,XR,ahA⟩:∃rk:Array Operand,sS.op= .makeFunc (.func f) #[] rk/\sO rk.toList=some (cs.map .t):=by
  rcases sV OP with h|h
  .cases h
  .exact ahc h
 have ahB:=XI ahA;obtain⟨Nd,EM,XS,OQ,ahC⟩:∃a b,xQ.op= .store ty a b/\eR a=some (.t k)/\eR b=some (.t d9):=by
  rcases sV v3 with h|h
  .cases h
  .exact ahb h
 have:=Jo OQ;subst this;have:=Jo ahC;subst this;refine wp_seq (wp_region ?_);rw[aS];refine OM (C:=C) (l:=[1]) XO xZ ?_;have ahD:(execOp J.eval sS).run C.P ft= .ok (.value (.func (.func f) #[] (cs.map λj=>J.tmps.getD j undef).toArray)) ft:=by
  obtain⟨dst,op,Jn,pos,after,guard⟩:=sS;simp only at XR;subst XR;have:ahz.map J.eval=(cs.map λj=>J.tmps.getD j undef).toArray:=by
   apply Array.ext';rw[Array.toList_map,ahB,List.map_map];rfl
  rw[<-this];simp[execOp];rfl
 unfold Oper.wp;rw[ahD,Oper.upon_value];have ahE:some d9=sS.dst:=vW;rw[<-ahE]at Ju⊢;generalize OR:Value.func (.func f) #[] (cs.map λj=>J.tmps.getD j undef).toArray=j7 at*;have ahF:Value.hV j7=true:=by rw[<-OR];rfl
 obtain⟨fC,hG,lb⟩:=E1 (n:=n) (dst:=some d9) (a:=J) j7 i7 Ju;have XT:=XN.XH (t:=d9) (v:=j7);rw[show eu (λt=>J.tmps.getD t undef) d9 j7=λt=>(J.put (some d9) j7).tmps.getD t undef from fC.symm]at XT;have OS:∀j,j≠d9->(J.put (some d9) j7).tmps.getD j undef=J.tmps.getD j undef:=by
  intro j bQ;have:=congrFun fC j;simp only[qw]at this;rw[lv _ _ bQ]at this;exact this
 have ahG:(J.put (some d9) j7).tmps.getD d9 undef=j7:=by
  have:=congrFun fC d9;simp only[qw]at this;rw[oS]at this;exact this
 have XU:∀u,¬hr (hr S k (λ_=>False)) d9 (λ_=>False) u w.heap.size:=by
  intro u h;simp only[hr]at h;split at h
  .exact h
  .exact ahu u h
 have ahH:∀i∈n.fx,(J.put (some d9) j7).tmps.getD i undef=ρ i:=by
  intro i ai;rw[OS i (λe=>?_)]
  .exact ahv i ai
  .simp only[om,Bool.and_eq_true,Bool.not_eq_true',contains_eq_mem,decide_eq_false_iff_not]at Ju;exact Ju.2 (e▸ai)
 have ahI:=lb.trans ahw;have ahJ:j7= .func (.func f) #[] (cs.map λj=>(J.put (some d9) j7).tmps.getD j undef).toArray:=by
  have:(cs.map λj=>(J.put (some d9) j7).tmps.getD j undef)=cs.map λj=>J.tmps.getD j undef:=
   map_congr_left λj bQ=>OS j (λe=>Jt (e▸bQ))
  rw[this,OR]
 have XV:(J.put (some d9) j7).tmps.getD k undef=v7:=(OS k ahg).trans aht;generalize J.put (some d9) j7=a3 at*;refine OM (C:=C) (l:=[]) XP v2 ?_;obtain⟨hR,m1,m2,m3,m4,m5,m6,m7⟩:=Iw (P:=C.P) (b:=w.heap.size) (o:=0) (e:=ty) (fr:=(0,0)) [j7] 0 #[yb] ft [] [yb] [] oV (λo _ h=>absurd h.2 (not_lt_zero _)) rfl rfl rfl (λv aJ=>by simp at aJ;subst aJ;exact ahF);have ahK:(execOp a3.eval xQ).run C.P ft= .ok .skip hR:=by
  obtain⟨dst,op,Jn,pos,after,guard⟩:=xQ;simp only at XS;subst XS;have s4:a3.eval (.tmp k)= .pointer (some ⟨w.heap.size,0,none⟩):=by rw[XM];exact XV
  have z2:a3.eval (.tmp d9)=j7:=ahG;have z3:j7.cells= #[j7]:=by rw[<-OR];rfl
  simp[execOp,s4,z2,Instr.storeAt,Instr.sureAddr,storeVar,nz XK,ahe,z3,m1]
 unfold Oper.wp;rw[ahK,Oper.upon_skip];have zH:none=xQ.dst:=v1;rw[<-zH];show wpOps C.P B3 _ [] a3 hR;show Exit.then _ _ .normal _ _;have ahL:=(XT.off (b:=w.heap.size) um ahr XU m3 m4 m5 m6 m7).ag_ um (by rw[m4,IF];omega) XU;refine wp_seq (Xs (K:=λaH=>eV (bm C ox Q) aH) (b:=w.heap.size) (g:=f) (k0:=k0) (cs:=cs) bW ahn lx hm nR B0 ahI hG ahH ahL (.inr rfl) (XV.trans XM.symm) (by rw[m2,<-ahJ];rfl) ?_ ?_)
 .refine zw (λ_ s1=>?_) h;rintro⟨ps,r,s4,z2,z3,z4,z5,ahM,ahN⟩;exact⟨ps,r,s4,z2,z3,z4,z5,ahM,zw (λ_ s h=>.inr ⟨_,XD _ _,h⟩) ahN⟩
 .intro aH dF aO nT fF;obtain⟨axN,ad,af⟩:=fF.eV nT;exact VY bW c5 ahk (aA.IX ox (aA.VQ ox fO)) (IZ ox ad) af
theorem aZ.ahO (bW:C.fN) {f:FuncId} {fn:Func} {c:Code} {er:aA} {fx:azt} {as outs:azy} {r:I} (bK:C.P.funcs[f]? =some fn) (ab:fn.body=some c)
  (mI:(fn.name== "runtime.NumGoroutine")=false) (aa:gg ⟨fn.ntmps,fx⟩ c=some er.strip) (aX:as.length<=fn.ntmps) (aw:er.p4 (FE C))
  (h:∀Q:Exit->al->Prop,(∀s,eV (Ends C fx fn.results.toList r outs) s->Q .ret s)->(∀s,eV (Ends C fx fn.results.toList r outs) s->Q .normal s)->bm C er Q (ar (num 0 as))):aZ C f as r outs:=by
 intro w F X S vs hl aR;refine N4 (fx:=fx) bW bK ab mI aX hl aR λa sW fg=>?_;refine N2 bW (H:=FE C) (λc T b Q s a w lx FC a8 aR=>ahd bW lx FC a8 aR) c (by rw[aA.NY];exact aa) (aA.IX er aw) (IZ er ?_) sW;rw[Fi];exact h _ (λs h=>⟨.inr rfl,h⟩) (λs h=>⟨.inl rfl,h⟩)
theorem ahP {Q:Exit->al->Prop} {l:azx} {f:FuncId} {k k0 d0 d9:Nat} {cs:azt} {m:List cC} {args:List bC} {d1:Option Nat} {keep:azt} {ox b:aA} (cO:azx)
  (h:∀P:azx->Prop,P cO->s5 C f k k0 d0 cs m args d1 [] keep P (fin (fin (ar l) (some k) .hole) (some d9) .hole)) (aw:bm C ox Q (ar cO)):bm C (.kX (ON C f k k0 d0 d9 cs m args d1 keep ox) b) Q (ar l):=
 λfs OK=>h (λl=>bm C ox fs (ar l)) (N0 ox OK aw)
end
end Go.ep
