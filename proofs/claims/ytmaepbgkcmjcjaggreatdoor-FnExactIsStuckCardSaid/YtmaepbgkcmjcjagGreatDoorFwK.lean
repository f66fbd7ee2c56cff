/- Part of a proof that a law returns true for every input. No condition. -/
import Derived.Test.YtmaepbgkcmjcjagGreatDoorFwJ
namespace Go.ef
open List Go.IntKind Nat
section
variable {C:cj} {w0 w:World} {F0 X F cl:Nat->Prop} {S aX:Nat->Nat->Prop} {n:Fr} {ρ:Nat->Value} {s aH:ak} {aG mB:Nat->Value} {a:Act} {av:I} {Q:Exit->Act->World->Prop} {aL:World}
theorem b8.off (h:b8 w0 F0 X F S s aG w) {b:Nat} (bb:w0.heap.size<=b) (bG:¬F b) (ca:∀u,¬S u b) (hw:∀c,c≠b->aL.heap[c]? =w.heap[c]?) (aa:aL.heap.size=w.heap.size)
  (ad:aL.os=w.os) (ae:aL.tape=w.tape) (aI:Out aL w):b8 w0 F0 X F S s aG aL where
 iI:=h.iI
 jg:=h.jg
 gN:=λc ar=>by rw[aa];exact h.gN c ar
 fN:=λt c ar=>by rw[aa];exact h.fN t c ar
 hf:=h.hf
 gE:=h.gE
 eS:=h.eS
 ew:=λt=>aO.frame (Sx:=S) (λc ar=>hw c (λe=>bG (e▸ar))) (λ_ h=>h) (λx c ar=>hw c (λe=>ca x (e▸ar))) h.ew _ _ _ (λc ar=>hw c (λe=>ca t (e▸ar))) (h.ew t)
 old:=λc ar mC=>(hw c (by omega)).trans (h.old c ar mC)
 size:=by rw[aa];exact h.size
 os:=ad.trans h.os
 tape:=ae.trans h.tape
 output:=aI.trans h.output
 gS:=h.gS
theorem b8.VK (h:b8 w0 F0 X F S s aG w) {t:Nat} {v:Value}:b8 w0 F0 X F (hh S t (λ_=>False)) (ef.fin s (some t) .hole) (et aG t v) w:=by
 have:ef.fin s (some t) .hole=et s t .hole:=by simp[ef.fin,I.plain]
 rw[this];exact h.Dl rfl (by rw[aO];trivial)
theorem b8.afk (h:b8 w0 F0 X F S s aG w) {b:Nat} (bb:w0.heap.size<=b) (ab:b<w.heap.size) (ca:∀u,¬S u b):b8 w0 F0 X (λc=>F c\/c=b) S s aG w where
 iI:=λc ar=>.inl (h.iI c ar)
 jg:=λc ar=>by
  rcases ar with ar|rfl
  .exact h.jg c ar
  .exact .inr (.inr bb)
 gN:=λc ar=>by
  rcases ar with ar|rfl
  .exact h.gN c ar
  .exact ab
 fN:=h.fN
 hf:=λt c ar bF=>by
  rcases bF with bF|rfl
  .exact h.hf t c ar bF
  .exact ca t ar
 gE:=h.gE
 eS:=h.eS
 ew:=λt=>aO.frame (λ_ _=>rfl) (λb ab=>.inl ab) (λ_ _ _=>rfl) h.ew _ _ _ (λ_ _=>rfl) (h.ew t)
 old:=h.old
 size:=h.size
 os:=h.os
 tape:=h.tape
 output:=h.output
 gS:=h.gS
theorem Na {c:Code} {x y:aB} (h:fV n c=some (.seq x y)):∃a b,c= .seq a b/\fV n a=some x/\fV n b=some y:=by
 cases c with
 |seq a b=>
  simp only[fV]at h;split at h
  .rename_i AD T9 an hy;cases h;exact⟨a,b,rfl,an,hy⟩
  .cases h
 |region id ops draw=>
  cases draw with
  |false=>simp only[fV]at h;split at h<;>cases h
  |true=>
   simp only[fV]at h;split at h
   .simp only[Option.map_eq_some_iff]at h;obtain⟨r,ad,ae⟩:=h;cases ae
   .cases h
 |cond c a b=>simp only[fV]at h;split at h<;>cases h
 |block id b=>simp only[fV,Option.map_eq_some_iff]at h;obtain⟨r,ad,ae⟩:=h;cases ae
 |loop b=>simp only[fV,Option.map_eq_some_iff]at h;obtain⟨r,ad,ae⟩:=h;cases ae
 |_=>simp[fV]at h
theorem A4 {ops:Array Oper} {r:cm} {o:Oper} (hg:r.guard=none) (h:tB n ops o=some r.un):r.dst=o.dst/\o.guard=none/\sb o.op=r.bS.base/\nU n o.dst=true:=by
 unfold tB at h;split at h
 .rename_i al;split at h
  .rename_i Vw iy;simp only[cm.un,Option.some.injEq,cm.mk.injEq]at h;obtain⟨aN,aU,aR⟩:=h;refine⟨aN.symm,?_,aU,al⟩;rw[aR,hg]at iy;cases bH:o.guard with
   |none=>rfl
   |some Mp=>
    rw[bH]at iy;simp only[DT]at iy;split at iy<;>cases iy
  .cases h
 .cases h
theorem Nb {ops:Array Oper} {i:Nat} {o:Oper} {l:axd} (bH:ops[i]? =some o) (hg:o.guard=none) (h:o.wp C.P a w (wpOps C.P ops Q l) Q):wpOps C.P ops Q (i::l) a w:=by
 simp only[wpOps,bH];show(if Region.wanted o (yielded ops a.tmps)=true then o.wp C.P a w _ Q\/(o.asks C.P a w/\LetsOut Q)else _);rw[if_pos (HB hg)];exact .inl h
theorem afl {op:Op} {T:TypeId} (h:dz op=some (.mE T)):op= .alloc T:=by
 cases op with
 |alloc Vu=>simp only[dz,Option.some.injEq,eT.mE.injEq]at h;rw[h]
 |call c=>
  obtain⟨callee,px,argTypes⟩:=c;simp only[dz]at h;split at h<;>(try split at h)<;>(try split at h)<;>(try simp[Option.map_eq_some_iff]at h)
 |makeFunc fn first cs=>
  cases fn<;>simp only[dz]at h<;>first|(cases h;done)|(split at h<;>simp at h)
 |slice T x fF ag fb=>
  cases fb<;>simp only[dz]at h<;>first|(cases h;done)|(split at h<;>simp at h)
 |makeMap T r=>cases r<;>simp only[dz]at h<;>simp at h
 |lookup T x i c=>cases c<;>simp only[dz]at h<;>first|(cases h;done)|(split at h<;>simp at h)
 |_=>simp only[dz]at h<;>first|(cases h;done)|(simp at h;done)|(split at h<;>simp at h)
theorem afm {op:Op} {T:TypeId} {x y:bC} (h:dz op=some (.kI T x y)):∃a b,op= .store T a b/\eC a=some x/\eC b=some y:=by
 cases op with
 |store Vu a b=>
  simp only[dz]at h;split at h
  .rename_i e2 oo an hy;simp only[Option.some.injEq,eT.kI.injEq]at h;obtain⟨rfl,rfl,rfl⟩:=h;exact⟨a,b,rfl,an,hy⟩
  .cases h
 |call c=>
  obtain⟨callee,px,argTypes⟩:=c;simp only[dz]at h;split at h<;>(try split at h)<;>(try split at h)<;>(try simp[Option.map_eq_some_iff]at h)
 |makeFunc fn first cs=>
  cases fn<;>simp only[dz]at h<;>first|(cases h;done)|(split at h<;>simp at h)
 |slice T x fF ag fb=>
  cases fb<;>simp only[dz]at h<;>first|(cases h;done)|(split at h<;>simp at h)
 |makeMap T r=>cases r<;>simp only[dz]at h<;>simp at h
 |lookup T x i c=>cases c<;>simp only[dz]at h<;>first|(cases h;done)|(split at h<;>simp at h)
 |_=>simp only[dz]at h<;>first|(cases h;done)|(simp at h;done)|(split at h<;>simp at h)
theorem afn {op:Op} {g:FuncId} {xs:List bC} (h:dz op=some (.pv g xs)):∃cs:Array Operand,op= .makeFunc (.func g) #[] cs/\r5 cs.toList=some xs:=by
 cases op with
 |makeFunc fn first cs=>
  cases fn with
  |func f=>
   simp only[dz]at h;split at h
   .rename_i L1;simp only[Option.map_eq_some_iff]at h;obtain⟨qQ,iX,h⟩:=h;cases h;have L2:first= #[]:=by simpa using L1
    subst L2;exact⟨cs,rfl,iX⟩
   .cases h
  |_=>simp[dz]at h
 |call c=>
  obtain⟨callee,px,argTypes⟩:=c;simp only[dz]at h;split at h<;>(try split at h)<;>(try split at h)<;>(try simp[Option.map_eq_some_iff]at h)
 |slice T x fF ag fb=>
  cases fb<;>simp only[dz]at h<;>first|(cases h;done)|(split at h<;>simp at h)
 |makeMap T r=>cases r<;>simp only[dz]at h<;>simp at h
 |lookup T x i c=>cases c<;>simp only[dz]at h<;>first|(cases h;done)|(split at h<;>simp at h)
 |_=>simp only[dz]at h<;>first|(cases h;done)|(simp at h;done)|(split at h<;>simp at h)
theorem VL:∀{os:List Operand} {cs:axd},r5 os=some (cs.map .t)->os=cs.map .tmp
 |[],cs,h=>by
  simp only[r5,Option.some.injEq]at h;cases cs with
  |nil=>rfl
  |cons c cs=>cases h
 |o::os,cs,h=>by
  simp only[r5]at h;split at h
  .rename_i x Tk ad ae;simp only[Option.some.injEq]at h;cases cs with
   |nil=>cases h
   |cons c cs=>
    simp only[map_cons,cons.injEq]at h;obtain⟨rfl,rfl⟩:=h;rw[H6 ad,VL ae];rfl
  .cases h
def Nc (C:cj) (f:FuncId) (k k0 d0 d9:Nat) (cs:axd) (m:List cm) (args:List bC) (d1:Option Nat) (keep:axd) (n3:aB):(Exit->ak->Prop)->ak->Prop:=
 λQ s=>VE C f k k0 d0 cs m args d1 [] keep (bk C n3 Q) (fin (fin s (some k) .hole) (some d9) .hole)
def VM (T:TypeId) (f:FuncId) (k d0 d9:Nat) (cs:axd) (m:List cm) (args:List bC) (d1:Option Nat) (n3:aB):aB:=
 .seq (.eu [⟨some k,.mE T,none⟩] none) (.seq (.eu [⟨some d9,.pv f (cs.map .t),none⟩,⟨none,.kI T (.t k) (.t d9),none⟩] none)
  (.seq (.eu (⟨some d0,.fO T (.t k),none⟩::(m++[⟨d1,.call (.t d0) args,none⟩])) none) n3))
def Ep (C:cj) (T:(Exit->ak->Prop)->ak->Prop) (b:aB):Prop:=
 ∃(ty:TypeId) (f:FuncId) (k k0 d0 d9:Nat) (cs:axd) (m:List cm) (args:List bC) (d1:Option Nat) (keep:axd) (n3:aB),
  T=Nc C f k k0 d0 d9 cs m args d1 keep n3/\b=VM ty f k d0 d9 cs m args d1 n3.nf/\(C.T ty).flat=true/\(∃i z v,C.P.info? ty=some i/\i.size=1/\i.zero=some z/\z.cells= #[v]/\Value.hE v=true)/\
  M7 (λd=>d !=d0&& !cs.contains d) m=true/\cs.contains d0=false/\cs[k0]? =some k/\cs.contains d9=false/\n3.plain=true
theorem afo (bK:C.fz) {c:Code} {T:(Exit->ak->Prop)->ak->Prop} {b:aB} {Q:Exit->ak->Prop} (gG:Ep C T b) (aa:fV n c=some b.strip) (h:T Q s) (aQ:Rel w0 F0 X n ρ s a w):
  c.wp C.P (yD w0 F0 X n ρ Q) a w:=by
 obtain⟨ty,f,k,k0,d0,d9,cs,m,args,d1,keep,n3,rfl,rfl,k3,⟨aui,z,xc,VN,afp,afq,p6,auj⟩,hm,nt,A3,Ia,fA⟩:=gG;replace hm:∀r∈m,∀d,r.dst=some d->d≠d0/\d∉cs:=λr aQ d al=>by
  have:=VF hm r aQ d al;simpa using this
 replace nt:d0∉cs:=by simpa using nt
 replace Ia:d9∉cs:=by simpa using Ia
 have tJ:k∈cs:=mem_of_getElem? A3;have afr:k≠d9:=λe=>Ia (e▸tJ);obtain⟨c2,Hw,rfl,tG,fW⟩:=Na aa;obtain⟨c3,auk,rfl,Ib,afs⟩:=Na fW;obtain⟨c4,c5,rfl,aft,afu⟩:=Na afs;obtain⟨aul,Nd,rfl,afv⟩:=H8 tG;obtain⟨aum,A6,rfl,afw⟩:=H8 Ib;obtain⟨aun,auo,rfl,afx⟩:=H8 aft;obtain⟨lV,fg,jQ,F,S,wM⟩:=aQ;obtain⟨l2,g2⟩:=DZ afv;have aU:Nd.size=1:=by simpa using l2
 obtain⟨nz,HR⟩:∃o,Nd[0]? =some o:=⟨Nd[0],by simp[aU]⟩
 obtain⟨bf,HJ,afy⟩:=g2 0 nz (by simpa using HR);simp only[map_cons,map_nil,getElem?_cons_zero,Option.some.injEq]at HJ;subst HJ;obtain⟨hj,gO,iJ,jN⟩:=A4 (r:=⟨some k,.mE ty,none⟩) rfl afy;change sb nz.op= .mE ty at iJ;have VO:nz.op= .alloc ty:=by
  rcases u5 iJ with h|h
  .cases h
  .exact afl h
 refine wp_seq (wp_region ?_);rw[aU];refine Nb (C:=C) HR gO ?_;have afz:(execOp a.eval nz).run C.P w= .ok (.value (.pointer (some ⟨w.heap.size,0,none⟩))) (w.alloc (.cells #[xc] ty)):=by
  obtain⟨dst,op,H5,pos,after,guard⟩:=nz;simp only at VO;subst VO;simp[execOp,Instr.alloc,yf VN afq,newVar,newRow,newObj,Sem.run,p6]
 unfold Oper.wp;rw[afz,Oper.upon_value];have M5:some k=nz.dst:=hj;rw[<-M5]at jN⊢;show Exit.then _ _ .normal _ _;have hold:∀b,b<w.heap.size->(w.alloc (.cells #[xc] ty)).heap[b]? =w.heap[b]? :=by
  intro b ab;show(w.heap.push _)[b]? =_;rw[Array.getElem?_push,if_neg (by omega)]
 have ou:(w.alloc (.cells #[xc] ty)).heap[w.heap.size]? =some (.cells #[xc] ty):=by
  show(w.heap.push _)[_]? =_;simp
 have Hr:(w.alloc (.cells #[xc] ty)).heap.size=w.heap.size+1:=by simp
 have afA:=wM.grow hold (by rw[Hr];omega) rfl rfl ⟨rfl,λ_=>Nat.le_refl _⟩;generalize aup:w.alloc (.cells #[xc] ty)=hl at*;generalize VP:Value.pointer (some ⟨w.heap.size,0,none⟩)=vd at*;have afB:¬F w.heap.size:=λh=>Nat.lt_irrefl _ (wM.gN _ h);have afC:∀u,¬S u w.heap.size:=λu h=>Nat.lt_irrefl _ (wM.fN _ _ h);have tu:w0.heap.size<=w.heap.size:=wM.size;obtain⟨hp,iV,kq⟩:=DU (n:=n) (dst:=some k) (a:=a) vd fg jN;have VQ:=afA.VK (t:=k) (v:=vd);rw[show et (λt=>a.tmps.getD t undef) k vd=λt=>(a.put (some k) vd).tmps.getD t undef from hp.symm]at VQ;have afD:(a.put (some k) vd).tmps.getD k undef=vd:=by
  have:=congrFun hp k;simp only[p3]at this;rw[oP]at this;exact this
 have afE:∀u,¬hh S k (λ_=>False) u w.heap.size:=by
  intro u h;simp only[hh]at h;split at h
  .exact h
  .exact afC u h
 have afF:∀i∈n.fx,(a.put (some k) vd).tmps.getD i undef=ρ i:=by
  intro i ag;have:=congrFun hp i;simp only[p3]at this;rw[lp _ _ (λe=>?_)]at this
  .exact this.trans (jQ i ag)
  .simp only[nU,Bool.and_eq_true,Bool.not_eq_true',contains_eq_mem,decide_eq_false_iff_not]at jN;exact jN.2 (e▸ag)
 have afG:=kq.trans lV;generalize a.put (some k) vd=J at*;obtain⟨DS,g3⟩:=DZ afw;have aR:A6.size=2:=by simpa using DS
 obtain⟨r9,VR⟩:∃o,A6[0]? =some o:=⟨A6[0],by simp[aR]⟩
 obtain⟨wX,VS⟩:∃o,A6[1]? =some o:=⟨A6[1],by simp[aR]⟩
 obtain⟨de,H7,afH⟩:=g3 0 r9 (by simpa using VR);obtain⟨bR,VT,afI⟩:=g3 1 wX (by simpa using VS);simp only[map_cons,map_nil,getElem?_cons_zero,getElem?_cons_succ,Option.some.injEq]at H7 VT;subst H7 VT;obtain⟨u_,w5,Nf,Ic⟩:=A4 (r:=⟨some d9,.pv f (cs.map .t),none⟩) rfl afH;obtain⟨v1,v2,v3,v4⟩:=A4 (r:=⟨none,.kI ty (.t k) (.t d9),none⟩) rfl afI;change sb r9.op= .pv f (cs.map .t)at Nf;change sb wX.op= .kI ty (.t k) (.t d9)at v3;obtain⟨afJ,VU,afK⟩:∃qQ:Array Operand,r9.op= .makeFunc (.func f) #[] qQ/\r5 qQ.toList=some (cs.map .t):=by
  rcases u5 Nf with h|h
  .cases h
  .exact afn h
 have afL:=VL afK;obtain⟨LO,DG,VV,Ng,afM⟩:∃a b,wX.op= .store ty a b/\eC a=some (.t k)/\eC b=some (.t d9):=by
  rcases u5 v3 with h|h
  .cases h
  .exact afm h
 have:=H6 Ng;subst this;have:=H6 afM;subst this;refine wp_seq (wp_region ?_);rw[aR];refine Nb (C:=C) (l:=[1]) VR w5 ?_;have afN:(execOp J.eval r9).run C.P hl= .ok (.value (.func (.func f) #[] (cs.map λj=>J.tmps.getD j undef).toArray)) hl:=by
  obtain⟨dst,op,H5,pos,after,guard⟩:=r9;simp only at VU;subst VU;have:afJ.map J.eval=(cs.map λj=>J.tmps.getD j undef).toArray:=by
   apply Array.ext';rw[Array.toList_map,afL,List.map_map];rfl
  rw[<-this];simp[execOp];rfl
 unfold Oper.wp;rw[afN,Oper.upon_value];have afO:some d9=r9.dst:=u_;rw[<-afO]at Ic⊢;generalize Nh:Value.func (.func f) #[] (cs.map λj=>J.tmps.getD j undef).toArray=jz at*;have afP:Value.hE jz=true:=by rw[<-Nh];rfl
 obtain⟨fG,ie,sj⟩:=DU (n:=n) (dst:=some d9) (a:=J) jz iV Ic;have VW:=VQ.VK (t:=d9) (v:=jz);rw[show et (λt=>J.tmps.getD t undef) d9 jz=λt=>(J.put (some d9) jz).tmps.getD t undef from fG.symm]at VW;have Ni:∀j,j≠d9->(J.put (some d9) jz).tmps.getD j undef=J.tmps.getD j undef:=by
  intro j bE;have:=congrFun fG j;simp only[p3]at this;rw[lp _ _ bE]at this;exact this
 have afQ:(J.put (some d9) jz).tmps.getD d9 undef=jz:=by
  have:=congrFun fG d9;simp only[p3]at this;rw[oP]at this;exact this
 have VX:∀u,¬hh (hh S k (λ_=>False)) d9 (λ_=>False) u w.heap.size:=by
  intro u h;simp only[hh]at h;split at h
  .exact h
  .exact afE u h
 have afR:∀i∈n.fx,(J.put (some d9) jz).tmps.getD i undef=ρ i:=by
  intro i ag;rw[Ni i (λe=>?_)]
  .exact afF i ag
  .simp only[nU,Bool.and_eq_true,Bool.not_eq_true',contains_eq_mem,decide_eq_false_iff_not]at Ic;exact Ic.2 (e▸ag)
 have afS:=sj.trans afG;have afT:jz= .func (.func f) #[] (cs.map λj=>(J.put (some d9) jz).tmps.getD j undef).toArray:=by
  have:(cs.map λj=>(J.put (some d9) jz).tmps.getD j undef)=cs.map λj=>J.tmps.getD j undef:=
   map_congr_left λj bE=>Ni j (λe=>Ia (e▸bE))
  rw[this,Nh]
 have VY:(J.put (some d9) jz).tmps.getD k undef=vd:=(Ni k afr).trans afD;generalize J.put (some d9) jz=a3 at*;refine Nb (C:=C) (l:=[]) VS v2 ?_;obtain⟨jR,m1,m2,m3,m4,m5,m6,m7⟩:=Hg (P:=C.P) (b:=w.heap.size) (o:=0) (e:=ty) (fr:=(0,0)) [jz] 0 #[xc] hl [] [xc] [] ou (λo _ h=>absurd h.2 (not_lt_zero _)) rfl rfl rfl (λv aE=>by simp at aE;subst aE;exact afP);have afU:(execOp a3.eval wX).run C.P hl= .ok .skip jR:=by
  obtain⟨dst,op,H5,pos,after,guard⟩:=wX;simp only at VV;subst VV;have sg:a3.eval (.tmp k)= .pointer (some ⟨w.heap.size,0,none⟩):=by rw[VP];exact VY
  have z2:a3.eval (.tmp d9)=jz:=afQ;have z3:jz.cells= #[jz]:=by rw[<-Nh];rfl
  simp[execOp,sg,z2,Instr.storeAt,Instr.sureAddr,storeVar,nb VN,afp,z3,m1]
 unfold Oper.wp;rw[afU,Oper.upon_skip];have Er:none=wX.dst:=v1;rw[<-Er];show wpOps C.P A6 _ [] a3 jR;show Exit.then _ _ .normal _ _;have afV:=(VW.off (b:=w.heap.size) tu afB VX m3 m4 m5 m6 m7).afk tu (by rw[m4,Hr];omega) VX;refine wp_seq (Vv (K:=λaH=>eJ (bk C n3 Q) aH) (b:=w.heap.size) (g:=f) (k0:=k0) (cs:=cs) bK afx k3 hm nt A3 afS ie afR afV (.inr rfl) (VY.trans VP.symm) (by rw[m2,<-afT];rfl) ?_ ?_)
 .refine yG (λ_ s1=>?_) h;rintro⟨ps,r,sg,z2,z3,z4,z5,afW,afX⟩;exact⟨ps,r,sg,z2,z3,z4,z5,afW,yG (λ_ s h=>.inr ⟨_,VG _ _,h⟩) afX⟩
 .intro aH dC aL nv fh;obtain⟨auq,ad,ae⟩:=fh.eJ nv;exact Ua bK c5 afu (aB.HF n3 (aB.T3 n3 fA)) (HH n3 ad) ae
theorem aV.afY (bK:C.fz) {f:FuncId} {fn:Func} {c:Code} {dU:aB} {fx:axd} {as outs:axi} {r:I} (bF:C.P.funcs[f]? =some fn) (ab:fn.body=some c)
  (ml:(fn.name== "runtime.NumGoroutine")=false) (aa:fV ⟨fn.ntmps,fx⟩ c=some dU.strip) (aS:as.length<=fn.ntmps) (au:dU.py (Ep C))
  (h:∀Q:Exit->ak->Prop,(∀s,eJ (Ends C fx fn.results.toList r outs) s->Q .ret s)->(∀s,eJ (Ends C fx fn.results.toList r outs) s->Q .normal s)->bk C dU Q (aq (num 0 as))):aV C f as r outs:=by
 intro w F X S vs aC aQ;refine Mw (fx:=fx) bK bF ab ml aS aC aQ λa sc e_=>?_;refine Mu bK (H:=Ep C) (λc T b Q s a w k3 En aZ aQ=>afo bK k3 En aZ aQ) c (by rw[aB.Mr];exact aa) (aB.HF dU au) (HH dU ?_) sc;rw[HK];exact h _ (λs h=>⟨.inr rfl,h⟩) (λs h=>⟨.inl rfl,h⟩)
theorem afZ {Q:Exit->ak->Prop} {l:axh} {f:FuncId} {k k0 d0 d9:Nat} {cs:axd} {m:List cm} {args:List bC} {d1:Option Nat} {keep:axd} {n3 b:aB} (cW:axh)
  (h:∀P:axh->Prop,P cW->si C f k k0 d0 cs m args d1 [] keep P (fin (fin (aq l) (some k) .hole) (some d9) .hole)) (au:bk C n3 Q (aq cW)):bk C (.ky (Nc C f k k0 d0 d9 cs m args d1 keep n3) b) Q (aq l):=
 λe6 M_=>h (λl=>bk C n3 e6 (aq l)) (Mt n3 M_ au)
end
end Go.ef
