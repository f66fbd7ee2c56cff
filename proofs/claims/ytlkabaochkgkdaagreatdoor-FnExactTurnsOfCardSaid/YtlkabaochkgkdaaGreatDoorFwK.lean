/- Part of a proof that a law returns true for every input. No condition. -/
import Derived.Test.YtlkabaochkgkdaaGreatDoorFwJ
namespace Go.c_
section
variable {C:cl} {w0 w:World} {F0 X F b3:Nat->Prop} {S aW:Nat->Nat->Prop} {n:Fr} {ρ:Nat->Value} {s aB:ar} {aC k7:Nat->Value} {a:Act} {av:I} {Q:Exit->Act->World->Prop} {aL:World}
theorem bU.off (h:bU w0 F0 X F S s aC w) {b:Nat} (ba:w0.heap.size<=b) (bL:¬F b) (b8:∀u,¬S u b) (hw:∀c,c≠b->aL.heap[c]? =w.heap[c]?) (ae:aL.heap.size=w.heap.size)
  (ag:aL.os=w.os) (ah:aL.tape=w.tape) (aN:Out aL w):bU w0 F0 X F S s aC aL where
 hG:=h.hG
 h4:=h.h4
 fy:=λc aq=>by rw[ae];exact h.fy c aq
 e7:=λt c aq=>by rw[ae];exact h.e7 t c aq
 gf:=h.gf
 fz:=h.fz
 ey:=h.ey
 dF:=λt=>aO.frame (Sx:=S) (λc aq=>hw c (λe=>bL (e▸aq))) (λ_ h=>h) (λx c aq=>hw c (λe=>b8 x (e▸aq))) h.dF _ _ _ (λc aq=>hw c (λe=>b8 t (e▸aq))) (h.dF t)
 old:=λc aq k9=>(hw c (by omega)).trans (h.old c aq k9)
 size:=by rw[ae];exact h.size
 os:=ag.trans h.os
 tape:=ah.trans h.tape
 output:=aN.trans h.output
 hj:=h.hj
theorem bU.Oy (h:bU w0 F0 X F S s aC w) {t:Nat} {v:Value}:bU w0 F0 X F (gq S t (λ_=>False)) (c_.fin s (some t) .hole) (dD aC t v) w:=by
 have:c_.fin s (some t) .hole=dD s t .hole:=by simp[c_.fin,I.plain]
 rw[this];exact h.wk rfl (by rw[aO];trivial)
theorem bU.XV (h:bU w0 F0 X F S s aC w) {b:Nat} (ba:w0.heap.size<=b) (ad:b<w.heap.size) (b8:∀u,¬S u b):bU w0 F0 X (λc=>F c\/c=b) S s aC w where
 hG:=λc aq=>.inl (h.hG c aq)
 h4:=λc aq=>by
  rcases aq with aq|rfl
  .exact h.h4 c aq
  .exact .inr (.inr ba)
 fy:=λc aq=>by
  rcases aq with aq|rfl
  .exact h.fy c aq
  .exact ad
 e7:=h.e7
 gf:=λt c aq bw=>by
  rcases bw with bw|rfl
  .exact h.gf t c aq bw
  .exact b8 t aq
 fz:=h.fz
 ey:=h.ey
 dF:=λt=>aO.frame (λ_ _=>rfl) (λb ad=>.inl ad) (λ_ _ _=>rfl) h.dF _ _ _ (λ_ _=>rfl) (h.dF t)
 old:=h.old
 size:=h.size
 os:=h.os
 tape:=h.tape
 output:=h.output
 hj:=h.hj
theorem IQ {c:Code} {x y:J} (h:bq n c=some (.seq x y)):∃a b,c= .seq a b/\bq n a=some x/\bq n b=some y:=by
 cases c with
 |seq a b=>
  simp only[bq]at h;split at h
  .rename_i wB MU aw hy;cases h;exact⟨a,b,rfl,aw,hy⟩
  .cases h
 |region id ops draw=>
  cases draw with
  |false=>simp only[bq]at h;split at h<;>cases h
  |true=>
   simp only[bq]at h;split at h
   .simp only[Option.map_eq_some_iff]at h;obtain⟨r,ag,ah⟩:=h;cases ah
   .cases h
 |cond c a b=>simp only[bq]at h;split at h<;>cases h
 |block id b=>simp only[bq,Option.map_eq_some_iff]at h;obtain⟨r,ag,ah⟩:=h;cases ah
 |loop b=>simp only[bq,Option.map_eq_some_iff]at h;obtain⟨r,ag,ah⟩:=h;cases ah
 |_=>simp[bq]at h
theorem xl {ops:Array Oper} {r:cb} {o:Oper} (hg:r.guard=none) (h:qM n ops o=some r.un):r.dst=o.dst/\o.guard=none/\pY o.op=r.b0.base/\mr n o.dst=true:=by
 unfold qM at h;split at h
 .rename_i aj;split at h
  .rename_i Oh h_;simp only[cb.un,Option.some.injEq,cb.mk.injEq]at h;obtain⟨aX,a6,aQ⟩:=h;refine⟨aX.symm,?_,a6,aj⟩;rw[aQ,hg]at h_;cases cy:o.guard with
   |none=>rfl
   |some H2=>
    rw[cy]at h_;simp only[zf]at h_;split at h_<;>cases h_
  .cases h
 .cases h
theorem IU {ops:Array Oper} {i:Nat} {o:Oper} {l:List Nat} (cy:ops[i]? =some o) (hg:o.guard=none) (h:o.wp C.P a w (wpOps C.P ops Q l) Q):wpOps C.P ops Q (i::l) a w:=by
 simp only[wpOps,cy];show(if Region.wanted o (yielded ops a.tmps)=true then o.wp C.P a w _ Q\/(o.asks C.P a w/\LetsOut Q)else _);rw[if_pos (Cp hg)];exact .inl h
theorem XW {op:Op} {T:TypeId} (h:cJ op=some (.hx T)):op= .alloc T:=by
 cases op with
 |alloc zh=>simp only[cJ,Option.some.injEq,gr.hx.injEq]at h;rw[h]
 |call c=>
  obtain⟨callee,nQ,argTypes⟩:=c;simp only[cJ]at h;split at h<;>(try split at h)<;>(try split at h)<;>(try simp[Option.map_eq_some_iff]at h)
 |makeFunc fn first cs=>
  cases fn<;>simp only[cJ]at h<;>first|(cases h;done)|(split at h<;>simp at h)
 |slice T x dv an e2=>
  cases e2<;>simp only[cJ]at h<;>first|(cases h;done)|(split at h<;>simp at h)
 |makeMap T r=>cases r<;>simp only[cJ]at h<;>simp at h
 |lookup T x i c=>cases c<;>simp only[cJ]at h<;>first|(cases h;done)|(split at h<;>simp at h)
 |_=>simp only[cJ]at h<;>first|(cases h;done)|(simp at h;done)|(split at h<;>simp at h)
theorem XX {op:Op} {T:TypeId} {x y:aI} (h:cJ op=some (.gH T x y)):∃a b,op= .store T a b/\d_ a=some x/\d_ b=some y:=by
 cases op with
 |store zh a b=>
  simp only[cJ]at h;split at h
  .rename_i cA k_ aw hy;simp only[Option.some.injEq,gr.gH.injEq]at h;obtain⟨rfl,rfl,rfl⟩:=h;exact⟨a,b,rfl,aw,hy⟩
  .cases h
 |call c=>
  obtain⟨callee,nQ,argTypes⟩:=c;simp only[cJ]at h;split at h<;>(try split at h)<;>(try split at h)<;>(try simp[Option.map_eq_some_iff]at h)
 |makeFunc fn first cs=>
  cases fn<;>simp only[cJ]at h<;>first|(cases h;done)|(split at h<;>simp at h)
 |slice T x dv an e2=>
  cases e2<;>simp only[cJ]at h<;>first|(cases h;done)|(split at h<;>simp at h)
 |makeMap T r=>cases r<;>simp only[cJ]at h<;>simp at h
 |lookup T x i c=>cases c<;>simp only[cJ]at h<;>first|(cases h;done)|(split at h<;>simp at h)
 |_=>simp only[cJ]at h<;>first|(cases h;done)|(simp at h;done)|(split at h<;>simp at h)
theorem XY {op:Op} {g:FuncId} {xs:List aI} (h:cJ op=some (.i_ g xs)):∃cs:Array Operand,op= .makeFunc (.func g) #[] cs/\pS cs.toList=some xs:=by
 cases op with
 |makeFunc fn first cs=>
  cases fn with
  |func f=>
   simp only[cJ]at h;split at h
   .rename_i HA;simp only[Option.map_eq_some_iff]at h;obtain⟨o1,hI,h⟩:=h;cases h;have HB:first= #[]:=by simpa using HA
    subst HB;exact⟨cs,rfl,hI⟩
   .cases h
  |_=>simp[cJ]at h
 |call c=>
  obtain⟨callee,nQ,argTypes⟩:=c;simp only[cJ]at h;split at h<;>(try split at h)<;>(try split at h)<;>(try simp[Option.map_eq_some_iff]at h)
 |slice T x dv an e2=>
  cases e2<;>simp only[cJ]at h<;>first|(cases h;done)|(split at h<;>simp at h)
 |makeMap T r=>cases r<;>simp only[cJ]at h<;>simp at h
 |lookup T x i c=>cases c<;>simp only[cJ]at h<;>first|(cases h;done)|(split at h<;>simp at h)
 |_=>simp only[cJ]at h<;>first|(cases h;done)|(simp at h;done)|(split at h<;>simp at h)
theorem Oz:∀{os:List Operand} {cs:List Nat},pS os=some (cs.map .t)->os=cs.map .tmp
 |[],cs,h=>by
  simp only[pS,Option.some.injEq]at h;cases cs with
  |nil=>rfl
  |cons c cs=>cases h
 |o::os,cs,h=>by
  simp only[pS]at h;split at h
  .rename_i x L6 ag ah;simp only[Option.some.injEq]at h;cases cs with
   |nil=>cases h
   |cons c cs=>
    simp only[List.map_cons,List.cons.injEq]at h;obtain⟨rfl,rfl⟩:=h;rw[CS ag,Oz ah];rfl
  .cases h
def IV (C:cl) (f:FuncId) (k k0 d0 d9:Nat) (cs:List Nat) (m:List cb) (args:List aI) (d1:Option Nat) (keep:List Nat) (mx:J):(Exit->ar->Prop)->ar->Prop:=
 λQ s=>Oq C f k k0 d0 cs m args d1 [] keep (dc C mx Q) (fin (fin s (some k) .hole) (some d9) .hole)
def OA (T:TypeId) (f:FuncId) (k d0 d9:Nat) (cs:List Nat) (m:List cb) (args:List aI) (d1:Option Nat) (mx:J):J:=
 .seq (.bW [⟨some k,.hx T,none⟩] none) (.seq (.bW [⟨some d9,.i_ f (cs.map .t),none⟩,⟨none,.gH T (.t k) (.t d9),none⟩] none)
  (.seq (.bW (⟨some d0,.cp T (.t k),none⟩::(m++[⟨d1,.call (.t d0) args,none⟩])) none) mx))
def zH (C:cl) (T:(Exit->ar->Prop)->ar->Prop) (b:J):Prop:=
 ∃(ty:TypeId) (f:FuncId) (k k0 d0 d9:Nat) (cs:List Nat) (m:List cb) (args:List aI) (d1:Option Nat) (keep:List Nat) (mx:J),
  T=IV C f k k0 d0 d9 cs m args d1 keep mx/\b=OA ty f k d0 d9 cs m args d1 mx.lG/\(C.T ty).flat=true/\(∃i z v,C.P.info? ty=some i/\i.size=1/\i.zero=some z/\z.cells= #[v]/\Value.ha v=true)/\
  IK (λd=>d !=d0&& !cs.contains d) m=true/\cs.contains d0=false/\cs[k0]? =some k/\cs.contains d9=false/\mx.plain=true
theorem XZ (bx:C.fc) {c:Code} {T:(Exit->ar->Prop)->ar->Prop} {b:J} {Q:Exit->ar->Prop} (hp:zH C T b) (ae:bq n c=some b.strip) (h:T Q s) (aS:Rel w0 F0 X n ρ s a w):
  c.wp C.P (uo w0 F0 X n ρ Q) a w:=by
 obtain⟨ty,f,k,k0,d0,d9,cs,m,args,d1,keep,mx,rfl,rfl,k8,⟨aHn,z,s7,OB,X0,X1,mG,aHo⟩,hm,lW,xk,CX,gE⟩:=hp;replace hm:∀r∈m,∀d,r.dst=some d->d≠d0/\d∉cs:=λr aS d aj=>by
  have:=Ot hm r aS d aj;simpa using this
 replace lW:d0∉cs:=by simpa using lW
 replace CX:d9∉cs:=by simpa using CX
 have xm:k∈cs:=List.mem_of_getElem? xk;have X2:k≠d9:=λe=>CX (e▸xm);obtain⟨c2,sL,rfl,p3,fu⟩:=IQ ae;obtain⟨c3,aHp,rfl,X3,X4⟩:=IQ fu;obtain⟨c4,c5,rfl,X5,X6⟩:=IQ X4;obtain⟨aHq,IW,rfl,X7⟩:=CU p3;obtain⟨aHr,xo,rfl,X8⟩:=CU X3;obtain⟨aHs,aHt,rfl,X9⟩:=CU X5;obtain⟨jn,eM,ia,F,S,sD⟩:=aS;obtain⟨l2,g2⟩:=zl X7;have a6:IW.size=1:=by simpa using l2
 obtain⟨l0,CD⟩:∃o,IW[0]? =some o:=⟨IW[0],by simp[a6]⟩
 obtain⟨bp,Cx,X_⟩:=g2 0 l0 (by simpa using CD);simp only[List.map_cons,List.map_nil,List.getElem?_cons_zero,Option.some.injEq]at Cx;subst Cx;obtain⟨hz,gw,iR,iS⟩:=xl (r:=⟨some k,.hx ty,none⟩) rfl X_;change pY l0.op= .hx ty at iR;have OC:l0.op= .alloc ty:=by
  rcases ou iR with h|h
  .cases h
  .exact XW h
 refine wp_seq (wp_region ?_);rw[a6];refine IU (C:=C) CD gw ?_;have Ya:(execOp a.eval l0).run C.P w= .ok (.value (.pointer (some ⟨w.heap.size,0,none⟩))) (w.alloc (.cells #[s7] ty)):=by
  obtain⟨dst,op,CR,pos,after,guard⟩:=l0;simp only at OC;subst OC;simp[execOp,Instr.alloc,sA OB X1,newVar,newRow,newObj,Sem.run,mG]
 unfold Oper.wp;rw[Ya,Oper.upon_value];have II:some k=l0.dst:=hz;rw[<-II]at iS⊢;show Exit.then _ _ .normal _ _;have hold:∀b,b<w.heap.size->(w.alloc (.cells #[s7] ty)).heap[b]? =w.heap[b]? :=by
  intro b ad;show(w.heap.push _)[b]? =_;rw[Array.getElem?_push,if_neg (by omega)]
 have la:(w.alloc (.cells #[s7] ty)).heap[w.heap.size]? =some (.cells #[s7] ty):=by
  show(w.heap.push _)[_]? =_;simp
 have Cb:(w.alloc (.cells #[s7] ty)).heap.size=w.heap.size+1:=by simp
 have Yb:=sD.grow hold (by rw[Cb];omega) rfl rfl ⟨rfl,λ_=>Nat.le_refl _⟩;generalize aHu:w.alloc (.cells #[s7] ty)=fU at*;generalize OD:Value.pointer (some ⟨w.heap.size,0,none⟩)=rR at*;have Yc:¬F w.heap.size:=λh=>Nat.lt_irrefl _ (sD.fy _ h);have Yd:∀u,¬S u w.heap.size:=λu h=>Nat.lt_irrefl _ (sD.e7 _ _ h);have qG:w0.heap.size<=w.heap.size:=sD.size;obtain⟨fY,hU,iD⟩:=zg (n:=n) (dst:=some k) (a:=a) rR eM iS;have OE:=Yb.Oy (t:=k) (v:=rR);rw[show dD (λt=>a.tmps.getD t undef) k rR=λt=>(a.put (some k) rR).tmps.getD t undef from fY.symm]at OE;have Ye:(a.put (some k) rR).tmps.getD k undef=rR:=by
  have:=congrFun fY k;simp only[oe]at this;rw[mE]at this;exact this
 have Yf:∀u,¬gq S k (λ_=>False) u w.heap.size:=by
  intro u h;simp only[gq]at h;split at h
  .exact h
  .exact Yd u h
 have Yg:∀i∈n.fx,(a.put (some k) rR).tmps.getD i undef=ρ i:=by
  intro i an;have:=congrFun fY i;simp only[oe]at this;rw[j1 _ _ (λe=>?_)]at this
  .exact this.trans (ia i an)
  .simp only[mr,Bool.and_eq_true,Bool.not_eq_true',List.contains_eq_mem,decide_eq_false_iff_not]at iS;exact iS.2 (e▸an)
 have Yh:=iD.trans jn;generalize a.put (some k) rR=R at*;obtain⟨ze,g3⟩:=zl X8;have aQ:xo.size=2:=by simpa using ze
 obtain⟨pV,OG⟩:∃o,xo[0]? =some o:=⟨xo[0],by simp[aQ]⟩
 obtain⟨sP,OH⟩:∃o,xo[1]? =some o:=⟨xo[1],by simp[aQ]⟩
 obtain⟨dk,CT,Yi⟩:=g3 0 pV (by simpa using OG);obtain⟨b5,OI,Yj⟩:=g3 1 sP (by simpa using OH);simp only[List.map_cons,List.map_nil,List.getElem?_cons_zero,List.getElem?_cons_succ,Option.some.injEq]at CT OI;subst CT OI;obtain⟨sJ,Ci,Hu,y3⟩:=xl (r:=⟨some d9,.i_ f (cs.map .t),none⟩) rfl Yi;obtain⟨v1,v2,v3,v4⟩:=xl (r:=⟨none,.gH ty (.t k) (.t d9),none⟩) rfl Yj;change pY pV.op= .i_ f (cs.map .t)at Hu;change pY sP.op= .gH ty (.t k) (.t d9)at v3;obtain⟨Yk,OJ,Yl⟩:∃o1:Array Operand,pV.op= .makeFunc (.func f) #[] o1/\pS o1.toList=some (cs.map .t):=by
  rcases ou Hu with h|h
  .cases h
  .exact XY h
 have Ym:=Oz Yl;obtain⟨Hn,y1,OK,IX,Yn⟩:∃a b,sP.op= .store ty a b/\d_ a=some (.t k)/\d_ b=some (.t d9):=by
  rcases ou v3 with h|h
  .cases h
  .exact XX h
 have:=CS IX;subst this;have:=CS Yn;subst this;refine wp_seq (wp_region ?_);rw[aQ];refine IU (C:=C) (l:=[1]) OG Ci ?_;have Yo:(execOp R.eval pV).run C.P fU= .ok (.value (.func (.func f) #[] (cs.map λj=>R.tmps.getD j undef).toArray)) fU:=by
  obtain⟨dst,op,CR,pos,after,guard⟩:=pV;simp only at OJ;subst OJ;have:Yk.map R.eval=(cs.map λj=>R.tmps.getD j undef).toArray:=by
   apply Array.ext';rw[Array.toList_map,Ym,List.map_map];rfl
  rw[<-this];simp[execOp];rfl
 unfold Oper.wp;rw[Yo,Oper.upon_value];have Yp:some d9=pV.dst:=sJ;rw[<-Yp]at y3⊢;generalize IY:Value.func (.func f) #[] (cs.map λj=>R.tmps.getD j undef).toArray=iX at*;have Yq:Value.ha iX=true:=by rw[<-IY];rfl
 obtain⟨e0,hd,kh⟩:=zg (n:=n) (dst:=some d9) (a:=R) iX hU y3;have OL:=OE.Oy (t:=d9) (v:=iX);rw[show dD (λt=>R.tmps.getD t undef) d9 iX=λt=>(R.put (some d9) iX).tmps.getD t undef from e0.symm]at OL;have IZ:∀j,j≠d9->(R.put (some d9) iX).tmps.getD j undef=R.tmps.getD j undef:=by
  intro j cH;have:=congrFun e0 j;simp only[oe]at this;rw[j1 _ _ cH]at this;exact this
 have Yr:(R.put (some d9) iX).tmps.getD d9 undef=iX:=by
  have:=congrFun e0 d9;simp only[oe]at this;rw[mE]at this;exact this
 have OM:∀u,¬gq (gq S k (λ_=>False)) d9 (λ_=>False) u w.heap.size:=by
  intro u h;simp only[gq]at h;split at h
  .exact h
  .exact Yf u h
 have Ys:∀i∈n.fx,(R.put (some d9) iX).tmps.getD i undef=ρ i:=by
  intro i an;rw[IZ i (λe=>?_)]
  .exact Yg i an
  .simp only[mr,Bool.and_eq_true,Bool.not_eq_true',List.contains_eq_mem,decide_eq_false_iff_not]at y3;exact y3.2 (e▸an)
 have Yt:=kh.trans Yh;have Yu:iX= .func (.func f) #[] (cs.map λj=>(R.put (some d9) iX).tmps.getD j undef).toArray:=by
  have:(cs.map λj=>(R.put (some d9) iX).tmps.getD j undef)=cs.map λj=>R.tmps.getD j undef:=
   List.map_congr_left λj cH=>IZ j (λe=>CX (e▸cH))
  rw[this,IY]
 have ON:(R.put (some d9) iX).tmps.getD k undef=rR:=(IZ k X2).trans Ye;generalize R.put (some d9) iX=a3 at*;refine IU (C:=C) (l:=[]) OH v2 ?_;obtain⟨hA,m1,m2,m3,m4,m5,m6,m7⟩:=B3 (P:=C.P) (b:=w.heap.size) (o:=0) (e:=ty) (fr:=(0,0)) [iX] 0 #[s7] fU [] [s7] [] la (λo _ h=>absurd h.2 (Nat.not_lt_zero _)) rfl rfl rfl (λv aT=>by simp at aT;subst aT;exact Yq);have Yv:(execOp a3.eval sP).run C.P fU= .ok .skip hA:=by
  obtain⟨dst,op,CR,pos,after,guard⟩:=sP;simp only at OK;subst OK;have zF:a3.eval (.tmp k)= .pointer (some ⟨w.heap.size,0,none⟩):=by rw[OD];exact ON
  have z2:a3.eval (.tmp d9)=iX:=Yr;have z3:iX.cells= #[iX]:=by rw[<-IY];rfl
  simp[execOp,zF,z2,Instr.storeAt,Instr.sureAddr,storeVar,kJ OB,X0,z3,m1]
 unfold Oper.wp;rw[Yv,Oper.upon_skip];have I0:none=sP.dst:=v1;rw[<-I0];show wpOps C.P xo _ [] a3 hA;show Exit.then _ _ .normal _ _;have Yw:=(OL.off (b:=w.heap.size) qG Yc OM m3 m4 m5 m6 m7).XV qG (by rw[m4,Cb];omega) OM;refine wp_seq (Og (K:=λaB=>eK (dc C mx Q) aB) (b:=w.heap.size) (g:=f) (k0:=k0) (cs:=cs) bx X9 k8 hm lW xk Yt hd Ys Yw (.inr rfl) (ON.trans OD.symm) (by rw[m2,<-Yu];rfl) ?_ ?_)
 .refine uv (λ_ s1=>?_) h;rintro⟨ps,r,zF,z2,z3,z4,z5,Yx,Yy⟩;exact⟨ps,r,zF,z2,z3,z4,z5,Yx,uv (λ_ s h=>.inr ⟨_,Ou _ _,h⟩) Yy⟩
 .intro aB c7 aL lX e3;obtain⟨aHv,ag,ah⟩:=e3.eK lX;exact MW bx c5 X6 (J.Cu mx (J.MO mx gE)) (Cv mx ag) ah
theorem bk.Yz (bx:C.fc) {f:FuncId} {fn:Func} {c:Code} {dT:J} {fx:List Nat} {as outs:List I} {r:I} (bw:C.P.funcs[f]? =some fn) (ad:fn.body=some c)
  (kP:(fn.name== "runtime.NumGoroutine")=false) (ae:bq ⟨fn.ntmps,fx⟩ c=some dT.strip) (a7:as.length<=fn.ntmps) (ay:dT.nS (zH C))
  (h:∀Q:Exit->ar->Prop,(∀s,eK (Ends C fx fn.results.toList r outs) s->Q .ret s)->(∀s,eK (Ends C fx fn.results.toList r outs) s->Q .normal s)->dc C dT Q (ab (num 0 as))):bk C f as r outs:=by
 intro w F X S vs hl aS;refine Ib (fx:=fx) bx bw ad kP a7 hl aS λa pZ eN=>?_;refine H_ bx (H:=zH C) (λc T b Q s a w k8 zE bj aS=>XZ bx k8 zE bj aS) c (by rw[J.H6];exact ae) (J.Cu dT ay) (Cv dT ?_) pZ;rw[Ih];exact h _ (λs h=>⟨.inr rfl,h⟩) (λs h=>⟨.inl rfl,h⟩)
theorem YA {Q:Exit->ar->Prop} {l:List (Nat×I)} {f:FuncId} {k k0 d0 d9:Nat} {cs:List Nat} {m:List cb} {args:List aI} {d1:Option Nat} {keep:List Nat} {mx b:J} (eO:List (Nat×I))
  (h:∀P:List (Nat×I)->Prop,P eO->p8 C f k k0 d0 cs m args d1 [] keep P (fin (fin (ab l) (some k) .hole) (some d9) .hole)) (ay:dc C mx Q (ab eO)):dc C (.jE (IV C f k k0 d0 d9 cs m args d1 keep mx) b) Q (ab l):=
 λeR IP=>h (λl=>dc C mx eR (ab l)) (H9 mx IP ay)
end
end Go.c_
