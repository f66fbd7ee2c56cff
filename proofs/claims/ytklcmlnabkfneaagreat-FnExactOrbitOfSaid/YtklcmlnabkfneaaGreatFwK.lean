/- Part of a proof that a law returns true for every input. No condition. -/
import Derived.Test.YtklcmlnabkfneaaGreatFwJ
namespace Go.de
open List Go.IntKind Nat Or
section
variable {C:ca} {w0 w:World} {F0 X F bO:Nat->Prop} {S aN:Nat->Nat->Prop} {n:Fr} {ρ:Nat->Value} {s aB:aw} {aC hG:Nat->Value} {a:Act} {av:I} {Q:Exit->Act->World->Prop} {aF:World}
theorem bD.off (h:bD w0 F0 X F S s aC w) {b:Nat} (aX:w0.heap.size<=b) (bh:¬F b) (bK:∀u,¬S u b) (hw:∀c,c≠b->aF.heap[c]? =w.heap[c]?) (ad:aF.heap.size=w.heap.size)
  (ab:aF.os=w.os) (ae:aF.tape=w.tape) (az:Out aF w):bD w0 F0 X F S s aC aF where
 gm:=h.gm
 gC:=h.gC
 eQ:=λc an=>by rw[ad];exact h.eQ c an
 dW:=λt c an=>by rw[ad];exact h.dW t c an
 fb:=h.fb
 e_:=h.e_
 dx:=h.dx
 dp:=λt=>aH.frame (Sx:=S) (λc an=>hw c (λe=>bh (e▸an))) (λ_ h=>h) (λx c an=>hw c (λe=>bK x (e▸an))) h.dp _ _ _ (λc an=>hw c (λe=>bK t (e▸an))) (h.dp t)
 old:=λc an jJ=>(hw c (by omega)).trans (h.old c an jJ)
 size:=by rw[ad];exact h.size
 os:=ab.trans h.os
 tape:=ae.trans h.tape
 output:=az.trans h.output
 gn:=h.gn
theorem bD.NY (h:bD w0 F0 X F S s aC w) {t:Nat} {v:Value}:bD w0 F0 X F (fV S t (λ_=>False)) (de.fin s (some t) .hole) (dq aC t v) w:=by
 have:de.fin s (some t) .hole=dq s t .hole:=by simp[de.fin,I.plain]
 rw[this];exact h.uJ rfl (by rw[aH];trivial)
theorem bD.Wj (h:bD w0 F0 X F S s aC w) {b:Nat} (aX:w0.heap.size<=b) (R:b<w.heap.size) (bK:∀u,¬S u b):bD w0 F0 X (λc=>F c\/c=b) S s aC w where
 gm:=λc an=>.inl (h.gm c an)
 gC:=λc an=>by
  rcases an with an|rfl
  .exact h.gC c an
  .exact .inr (.inr aX)
 eQ:=λc an=>by
  rcases an with an|rfl
  .exact h.eQ c an
  .exact R
 dW:=h.dW
 fb:=λt c an bo=>by
  rcases bo with bo|rfl
  .exact h.fb t c an bo
  .exact bK t an
 e_:=h.e_
 dx:=h.dx
 dp:=λt=>aH.frame (λ_ _=>rfl) (λb R=>.inl R) (λ_ _ _=>rfl) h.dp _ _ _ (λ_ _=>rfl) (h.dp t)
 old:=h.old
 size:=h.size
 os:=h.os
 tape:=h.tape
 output:=h.output
 gn:=h.gn
theorem Ga {c:Code} {x y:aI} (h:e5 n c=some (.seq x y)):∃a b,c= .seq a b/\e5 n a=some x/\e5 n b=some y:=by
 cases c with
 |seq a b=>
  simp only[e5]at h;split at h
  .rename_i uS Mi au bb;cases h;exact⟨a,b,rfl,au,bb⟩
  .cases h
 |region id ops draw=>
  cases draw with
  |false=>simp only[e5]at h;split at h<;>cases h
  |true=>
   simp only[e5]at h;split at h
   .simp only[Option.map_eq_some_iff]at h;obtain⟨r,ab,ae⟩:=h;cases ae
   .cases h
 |cond c a b=>simp only[e5]at h;split at h<;>cases h
 |block id b=>simp only[e5,Option.map_eq_some_iff]at h;obtain⟨r,ab,ae⟩:=h;cases ae
 |loop b=>simp only[e5,Option.map_eq_some_iff]at h;obtain⟨r,ab,ae⟩:=h;cases ae
 |_=>simp[e5]at h
theorem vi {ops:Array Oper} {r:ch} {o:Oper} (bR:r.guard=none) (h:pY n ops o=some r.un):r.dst=o.dst/\o.guard=none/\oR o.op=r.bV.base/\lA n o.dst=true:=by
 unfold pY at h;split at h
 .rename_i ai;split at h
  .rename_i V2 hJ;simp only[ch.un,Option.some.injEq,ch.mk.injEq]at h;obtain⟨aR,aV,aW⟩:=h;refine⟨aR.symm,?_,aV,ai⟩;rw[aW,bR]at hJ;cases bE:o.guard with
   |none=>rfl
   |some Fs=>
    rw[bE]at hJ;simp only[xS]at hJ;split at hJ<;>cases hJ
  .cases h
 .cases h
theorem Gb {ops:Array Oper} {i:Nat} {o:Oper} {l:alR} (bE:ops[i]? =some o) (bR:o.guard=none) (h:o.wp C.P a w (wpOps C.P ops Q l) Q):wpOps C.P ops Q (i::l) a w:=by
 simp only[wpOps,bE];show(if Region.wanted o (yielded ops a.tmps)=true then o.wp C.P a w _ Q\/(o.asks C.P a w/\LetsOut Q)else _);rw[if_pos (Bj bR)];exact .inl h
theorem Wk {op:Op} {T:TypeId} (h:cX op=some (.kq T)):op= .alloc T:=by
 cases op with
 |alloc Fm=>simp only[cX,Option.some.injEq,ed.kq.injEq]at h;rw[h]
 |call c=>
  obtain⟨callee,mP,argTypes⟩:=c;simp only[cX]at h;split at h<;>(try split at h)<;>(try split at h)<;>(try simp[Option.map_eq_some_iff]at h)
 |makeFunc fn first cs=>
  cases fn<;>simp only[cX]at h<;>first|(cases h;done)|(split at h<;>simp at h)
 |slice T x fl ao ha=>
  cases ha<;>simp only[cX]at h<;>first|(cases h;done)|(split at h<;>simp at h)
 |makeMap T r=>cases r<;>simp only[cX]at h<;>simp at h
 |lookup T x i c=>cases c<;>simp only[cX]at h<;>first|(cases h;done)|(split at h<;>simp at h)
 |_=>simp only[cX]at h<;>first|(cases h;done)|(simp at h;done)|(split at h<;>simp at h)
theorem Wl {op:Op} {T:TypeId} {x y:bk} (h:cX op=some (.iV T x y)):∃a b,op= .store T a b/\dG a=some x/\dG b=some y:=by
 cases op with
 |store Fm a b=>
  simp only[cX]at h;split at h
  .rename_i cp lU au bb;simp only[Option.some.injEq,ed.iV.injEq]at h;obtain⟨rfl,rfl,rfl⟩:=h;exact⟨a,b,rfl,au,bb⟩
  .cases h
 |call c=>
  obtain⟨callee,mP,argTypes⟩:=c;simp only[cX]at h;split at h<;>(try split at h)<;>(try split at h)<;>(try simp[Option.map_eq_some_iff]at h)
 |makeFunc fn first cs=>
  cases fn<;>simp only[cX]at h<;>first|(cases h;done)|(split at h<;>simp at h)
 |slice T x fl ao ha=>
  cases ha<;>simp only[cX]at h<;>first|(cases h;done)|(split at h<;>simp at h)
 |makeMap T r=>cases r<;>simp only[cX]at h<;>simp at h
 |lookup T x i c=>cases c<;>simp only[cX]at h<;>first|(cases h;done)|(split at h<;>simp at h)
 |_=>simp only[cX]at h<;>first|(cases h;done)|(simp at h;done)|(split at h<;>simp at h)
theorem Wm {op:Op} {g:FuncId} {xs:List bk} (h:cX op=some (.mL g xs)):∃cs:Array Operand,op= .makeFunc (.func g) #[] cs/\oK cs.toList=some xs:=by
 cases op with
 |makeFunc fn first cs=>
  cases fn with
  |func f=>
   simp only[cX]at h;split at h
   .rename_i E0;simp only[Option.map_eq_some_iff]at h;obtain⟨n5,gh,h⟩:=h;cases h;have E1:first= #[]:=by simpa using E0
    subst E1;exact⟨cs,rfl,gh⟩
   .cases h
  |_=>simp[cX]at h
 |call c=>
  obtain⟨callee,mP,argTypes⟩:=c;simp only[cX]at h;split at h<;>(try split at h)<;>(try split at h)<;>(try simp[Option.map_eq_some_iff]at h)
 |slice T x fl ao ha=>
  cases ha<;>simp only[cX]at h<;>first|(cases h;done)|(split at h<;>simp at h)
 |makeMap T r=>cases r<;>simp only[cX]at h<;>simp at h
 |lookup T x i c=>cases c<;>simp only[cX]at h<;>first|(cases h;done)|(split at h<;>simp at h)
 |_=>simp only[cX]at h<;>first|(cases h;done)|(simp at h;done)|(split at h<;>simp at h)
theorem NZ:∀{os:List Operand} {cs:alR},oK os=some (cs.map .t)->os=cs.map .tmp
 |[],cs,h=>by
  simp only[oK,Option.some.injEq]at h;cases cs with
  |nil=>rfl
  |cons c cs=>cases h
 |o::os,cs,h=>by
  simp only[oK]at h;split at h
  .rename_i x Lm ab ae;simp only[Option.some.injEq]at h;cases cs with
   |nil=>cases h
   |cons c cs=>
    simp only[map_cons,cons.injEq]at h;obtain⟨rfl,rfl⟩:=h;rw[BN ab,NZ ae];rfl
  .cases h
def Gc (C:ca) (f:FuncId) (k k0 d0 d9:Nat) (cs:alR) (m:List ch) (args:List bk) (d1:Option Nat) (keep:alR) (lF:aI):(Exit->aw->Prop)->aw->Prop:=
 λQ s=>NS C f k k0 d0 cs m args d1 [] keep (a_ C lF Q) (fin (fin s (some k) .hole) (some d9) .hole)
def N0 (T:TypeId) (f:FuncId) (k d0 d9:Nat) (cs:alR) (m:List ch) (args:List bk) (d1:Option Nat) (lF:aI):aI:=
 .seq (.fN [⟨some k,.kq T,none⟩] none) (.seq (.fN [⟨some d9,.mL f (cs.map .t),none⟩,⟨none,.iV T (.t k) (.t d9),none⟩] none)
  (.seq (.fN (⟨some d0,.fk T (.t k),none⟩::(m++[⟨d1,.call (.t d0) args,none⟩])) none) lF))
def yn (C:ca) (T:(Exit->aw->Prop)->aw->Prop) (b:aI):Prop:=
 ∃(ty:TypeId) (f:FuncId) (k k0 d0 d9:Nat) (cs:alR) (m:List ch) (args:List bk) (d1:Option Nat) (keep:alR) (lF:aI),
  T=Gc C f k k0 d0 d9 cs m args d1 keep lF/\b=N0 ty f k d0 d9 cs m args d1 lF.kO/\(C.T ty).flat=true/\(∃i z v,C.P.info? ty=some i/\i.size=1/\i.zero=some z/\z.cells= #[v]/\Value.fK v=true)/\
  F8 (λd=>d !=d0&& !cs.contains d) m=true/\cs.contains d0=false/\cs[k0]? =some k/\cs.contains d9=false/\lF.plain=true
theorem Wn (bn:C.Ok) {c:Code} {T:(Exit->aw->Prop)->aw->Prop} {b:aI} {Q:Exit->aw->Prop} (fq:yn C T b) (ad:e5 n c=some b.strip) (h:T Q s) (aM:Rel w0 F0 X n ρ s a w):
  c.wp C.P (qZ w0 F0 X n ρ Q) a w:=by
 obtain⟨ty,f,k,k0,d0,d9,cs,m,args,d1,keep,lF,rfl,rfl,iO,⟨aj9,z,si,N1,Wo,Wp,nn,aj_⟩,hm,k5,vh,BS,fI⟩:=fq;replace hm:∀r∈m,∀d,r.dst=some d->d≠d0/\d∉cs:=λr aM d ai=>by
  have:=NT hm r aM d ai;simpa using this
 replace k5:d0∉cs:=by simpa using k5
 replace BS:d9∉cs:=by simpa using BS
 have yk:k∈cs:=mem_of_getElem? vh;have Wq:k≠d9:=λe=>BS (e▸yk);obtain⟨c2,xI,rfl,p9,fc⟩:=Ga ad;obtain⟨j5,aka,rfl,yo,Wr⟩:=Ga fc;obtain⟨mJ,tn,rfl,Ws,Wt⟩:=Ga Wr;obtain⟨akb,Gd,rfl,Wu⟩:=BP p9;obtain⟨akc,vk,rfl,Wv⟩:=BP yo;obtain⟨akd,ake,rfl,Ww⟩:=BP Ws;obtain⟨jS,ea,iy,F,S,rY⟩:=aM;obtain⟨l2,g2⟩:=xZ Wu;have aV:Gd.size=1:=by simpa using l2
 obtain⟨j4,tr⟩:∃o,Gd[0]? =some o:=⟨Gd[0],by simp[aV]⟩
 obtain⟨aZ,Bs,Wx⟩:=g2 0 j4 (by simpa using tr);simp only[map_cons,map_nil,getElem?_cons_zero,Option.some.injEq]at Bs;subst Bs;obtain⟨gE,gD,iH,iI⟩:=vi (r:=⟨some k,.kq ty,none⟩) rfl Wx;change oR j4.op= .kq ty at iH;have N2:j4.op= .alloc ty:=by
  rcases p0 iH with h|h
  .cases h
  .exact Wk h
 refine wp_seq (wp_region ?_);rw[aV];refine Gb (C:=C) tr gD ?_;have Wy:(execOp a.eval j4).run C.P w= .ok (.value (.pointer (some ⟨w.heap.size,0,none⟩))) (w.alloc (.cells #[si] ty)):=by
  obtain⟨dst,op,BM,pos,after,guard⟩:=j4;simp only at N2;subst N2;simp[execOp,Instr.alloc,s5 N1 Wp,newVar,newRow,newObj,Sem.run,nn]
 unfold Oper.wp;rw[Wy,Oper.upon_value];have F6:some k=j4.dst:=gE;rw[<-F6]at iI⊢;show Exit.then _ _ .normal _ _;have hold:∀b,b<w.heap.size->(w.alloc (.cells #[si] ty)).heap[b]? =w.heap[b]? :=by
  intro b R;show(w.heap.push _)[b]? =_;rw[Array.getElem?_push,if_neg (by omega)]
 have lX:(w.alloc (.cells #[si] ty)).heap[w.heap.size]? =some (.cells #[si] ty):=by
  show(w.heap.push _)[_]? =_;simp
 have A6:(w.alloc (.cells #[si] ty)).heap.size=w.heap.size+1:=by simp
 have Wz:=rY.grow hold (by rw[A6];omega) rfl rfl ⟨rfl,λ_=>Nat.le_refl _⟩;generalize akf:w.alloc (.cells #[si] ty)=eC at*;generalize N3:Value.pointer (some ⟨w.heap.size,0,none⟩)=q7 at*;have WA:¬F w.heap.size:=λh=>Nat.lt_irrefl _ (rY.eQ _ h);have WB:∀u,¬S u w.heap.size:=λu h=>Nat.lt_irrefl _ (rY.dW _ _ h);have pU:w0.heap.size<=w.heap.size:=rY.size;obtain⟨fL,hn,h6⟩:=xT (n:=n) (dst:=some k) (a:=a) q7 ea iI;have N4:=Wz.NY (t:=k) (v:=q7);rw[show dq (λt=>a.tmps.getD t undef) k q7=λt=>(a.put (some k) q7).tmps.getD t undef from fL.symm]at N4;have WC:(a.put (some k) q7).tmps.getD k undef=q7:=by
  have:=congrFun fL k;simp only[nj]at this;rw[lR]at this;exact this
 have WD:∀u,¬fV S k (λ_=>False) u w.heap.size:=by
  intro u h;simp only[fV]at h;split at h
  .exact h
  .exact WB u h
 have WE:∀i∈n.fx,(a.put (some k) q7).tmps.getD i undef=ρ i:=by
  intro i ao;have:=congrFun fL i;simp only[nj]at this;rw[je _ _ (λe=>?_)]at this
  .exact this.trans (iy i ao)
  .simp only[lA,Bool.and_eq_true,Bool.not_eq_true',contains_eq_mem,decide_eq_false_iff_not]at iI;exact iI.2 (e▸ao)
 have WG:=h6.trans jS;generalize a.put (some k) q7=J at*;obtain⟨xR,g3⟩:=xZ Wv;have aW:vk.size=2:=by simpa using xR
 obtain⟨oP,N5⟩:∃o,vk[0]? =some o:=⟨vk[0],by simp[aW]⟩
 obtain⟨r6,N6⟩:∃o,vk[1]? =some o:=⟨vk[1],by simp[aW]⟩
 obtain⟨cZ,BO,WH⟩:=g3 0 oP (by simpa using N5);obtain⟨bU,N7,WI⟩:=g3 1 r6 (by simpa using N6);simp only[map_cons,map_nil,getElem?_cons_zero,getElem?_cons_succ,Option.some.injEq]at BO N7;subst BO N7;obtain⟨oX,tz,yp,sj⟩:=vi (r:=⟨some d9,.mL f (cs.map .t),none⟩) rfl WH;obtain⟨v1,v2,v3,v4⟩:=vi (r:=⟨none,.iV ty (.t k) (.t d9),none⟩) rfl WI;change oR oP.op= .mL f (cs.map .t)at yp;change oR r6.op= .iV ty (.t k) (.t d9)at v3;obtain⟨WJ,N8,WK⟩:∃n5:Array Operand,oP.op= .makeFunc (.func f) #[] n5/\oK n5.toList=some (cs.map .t):=by
  rcases p0 yp with h|h
  .cases h
  .exact Wm h
 have WL:=NZ WK;obtain⟨ER,xz,N9,Ge,WM⟩:∃a b,r6.op= .store ty a b/\dG a=some (.t k)/\dG b=some (.t d9):=by
  rcases p0 v3 with h|h
  .cases h
  .exact Wl h
 have:=BN Ge;subst this;have:=BN WM;subst this;refine wp_seq (wp_region ?_);rw[aW];refine Gb (C:=C) (l:=[1]) N5 tz ?_;have WN:(execOp J.eval oP).run C.P eC= .ok (.value (.func (.func f) #[] (cs.map λj=>J.tmps.getD j undef).toArray)) eC:=by
  obtain⟨dst,op,BM,pos,after,guard⟩:=oP;simp only at N8;subst N8;have:WJ.map J.eval=(cs.map λj=>J.tmps.getD j undef).toArray:=by
   apply Array.ext';rw[Array.toList_map,WL,List.map_map];rfl
  rw[<-this];simp[execOp];rfl
 unfold Oper.wp;rw[WN,Oper.upon_value];have WO:some d9=oP.dst:=oX;rw[<-WO]at sj⊢;generalize Gf:Value.func (.func f) #[] (cs.map λj=>J.tmps.getD j undef).toArray=ig at*;have WQ:Value.fK ig=true:=by rw[<-Gf];rfl
 obtain⟨eo,gu,kx⟩:=xT (n:=n) (dst:=some d9) (a:=J) ig hn sj;have N_:=N4.NY (t:=d9) (v:=ig);rw[show dq (λt=>J.tmps.getD t undef) d9 ig=λt=>(J.put (some d9) ig).tmps.getD t undef from eo.symm]at N_;have Gg:∀j,j≠d9->(J.put (some d9) ig).tmps.getD j undef=J.tmps.getD j undef:=by
  intro j bm;have:=congrFun eo j;simp only[nj]at this;rw[je _ _ bm]at this;exact this
 have WR:(J.put (some d9) ig).tmps.getD d9 undef=ig:=by
  have:=congrFun eo d9;simp only[nj]at this;rw[lR]at this;exact this
 have Oa:∀u,¬fV (fV S k (λ_=>False)) d9 (λ_=>False) u w.heap.size:=by
  intro u h;simp only[fV]at h;split at h
  .exact h
  .exact WD u h
 have WS:∀i∈n.fx,(J.put (some d9) ig).tmps.getD i undef=ρ i:=by
  intro i ao;rw[Gg i (λe=>?_)]
  .exact WE i ao
  .simp only[lA,Bool.and_eq_true,Bool.not_eq_true',contains_eq_mem,decide_eq_false_iff_not]at sj;exact sj.2 (e▸ao)
 have WT:=kx.trans WG;have WU:ig= .func (.func f) #[] (cs.map λj=>(J.put (some d9) ig).tmps.getD j undef).toArray:=by
  have:(cs.map λj=>(J.put (some d9) ig).tmps.getD j undef)=cs.map λj=>J.tmps.getD j undef:=
   map_congr_left λj bm=>Gg j (λe=>BS (e▸bm))
  rw[this,Gf]
 have Ob:(J.put (some d9) ig).tmps.getD k undef=q7:=(Gg k Wq).trans WC;generalize J.put (some d9) ig=a3 at*;refine Gb (C:=C) (l:=[]) N6 v2 ?_;obtain⟨eY,m1,m2,m3,m4,m5,m6,m7⟩:=AY (P:=C.P) (b:=w.heap.size) (o:=0) (e:=ty) (fr:=(0,0)) [ig] 0 #[si] eC [] [si] [] lX (λo _ h=>absurd h.2 (not_lt_zero _)) rfl rfl rfl (λv aJ=>by simp at aJ;subst aJ;exact WQ);have WV:(execOp a3.eval r6).run C.P eC= .ok .skip eY:=by
  obtain⟨dst,op,BM,pos,after,guard⟩:=r6;simp only at N9;subst N9;have yl:a3.eval (.tmp k)= .pointer (some ⟨w.heap.size,0,none⟩):=by rw[N3];exact Ob
  have z2:a3.eval (.tmp d9)=ig:=WR;have z3:ig.cells= #[ig]:=by rw[<-Gf];rfl
  simp[execOp,yl,z2,Instr.storeAt,Instr.sureAddr,storeVar,kJ N1,Wo,z3,m1]
 unfold Oper.wp;rw[WV,Oper.upon_skip];have tG:none=r6.dst:=v1;rw[<-tG];show wpOps C.P vk _ [] a3 eY;show Exit.then _ _ .normal _ _;have WW:=(N_.off (b:=w.heap.size) pU WA Oa m3 m4 m5 m6 m7).Wj pU (by rw[m4,A6];omega) Oa;refine wp_seq (NK (K:=λaB=>dK (a_ C lF Q) aB) (b:=w.heap.size) (g:=f) (k0:=k0) (cs:=cs) bn Ww iO hm k5 vh WT gu WS WW (.inr rfl) (Ob.trans N3.symm) (by rw[m2,<-WU];rfl) ?_ ?_)
 .refine tw (λ_ s1=>?_) h;rintro⟨ps,r,yl,z2,z3,z4,z5,WX,WY⟩;exact⟨ps,r,yl,z2,z3,z4,z5,WX,tw (λ_ s h=>.inr ⟨_,NU _ _,h⟩) WY⟩
 .intro aB cL aF jP eG;obtain⟨akg,ab,ae⟩:=eG.dK jP;exact Mk bn tn Wt (aI.Bp lF (aI.Mc lF fI)) (Bq lF ab) ae
theorem aY.WZ (bn:C.Ok) {f:FuncId} {fn:Func} {c:Code} {dj:aI} {fx:alR} {as outs:alW} {r:I} (bo:C.P.funcs[f]? =some fn) (R:fn.body=some c)
  (kP:(fn.name== "runtime.NumGoroutine")=false) (ad:e5 ⟨fn.ntmps,fx⟩ c=some dj.strip) (aS:as.length<=fn.ntmps) (ax:dj.mQ (yn C))
  (h:∀Q:Exit->aw->Prop,(∀s,dK (Ends C fx fn.results.toList r outs) s->Q .ret s)->(∀s,dK (Ends C fx fn.results.toList r outs) s->Q .normal s)->a_ C dj Q (ay (num 0 as))):aY C f as r outs:=by
 intro w F X S vs hl aM;refine FD (fx:=fx) bn bo R kP aS hl aM λa hrel el=>?_;refine FA bn (H:=yn C) (λc T b Q s a w iO o0 a8 aM=>Wn bn iO o0 a8 aM) c (by rw[aI.Fw];exact ad) (aI.Bp dj ax) (Bq dj ?_) hrel;rw[Bt];exact h _ (λs h=>⟨.inr rfl,h⟩) (λs h=>⟨.inl rfl,h⟩)
theorem W0 {Q:Exit->aw->Prop} {l:alV} {f:FuncId} {k k0 d0 d9:Nat} {cs:alR} {m:List ch} {args:List bk} {d1:Option Nat} {keep:alR} {lF b:aI} (cn:alV)
  (h:∀P:alV->Prop,P cn->o1 C f k k0 d0 cs m args d1 [] keep P (fin (fin (ay l) (some k) .hole) (some d9) .hole)) (ax:a_ C lF Q (ay cn)):a_ C (.iQ (Gc C f k k0 d0 d9 cs m args d1 keep lF) b) Q (ay l):=
 λep F_=>h (λl=>a_ C lF ep (ay l)) (Fz lF F_ ax)
end
end Go.de
