/- Part of a proof that a law returns true for every input. No condition. -/
import Derived.Test.YtngohoaiimbacabGreatDoorFwJ
namespace Go.c_
open List Go.IntKind Nat Or
section
variable {C:bW} {w0 w:World} {F0 X F bE:Nat->Prop} {S aN:Nat->Nat->Prop} {n:Fr} {ρ:Nat->Value} {s aA:aw} {ay j9:Nat->Value} {a:Act} {av:I} {Q:Exit->Act->World->Prop} {aD:World}
theorem bx.off (h:bx w0 F0 X F S s ay w) {b:Nat} (aV:w0.heap.size<=b) (a8:¬F b) (bK:∀u,¬S u b) (hw:∀c,c≠b->aD.heap[c]? =w.heap[c]?) (U:aD.heap.size=w.heap.size)
  (ab:aD.os=w.os) (ad:aD.tape=w.tape) (aC:Out aD w):bx w0 F0 X F S s ay aD where
 gq:=h.gq
 gK:=h.gK
 eK:=λc ai=>by rw[U];exact h.eK c ai
 et:=λt c ai=>by rw[U];exact h.et t c ai
 fg:=h.fg
 eT:=h.eT
 dy:=h.dy
 cW:=λt=>aF.frame (Sx:=S) (λc ai=>hw c (λe=>a8 (e▸ai))) (λ_ h=>h) (λx c ai=>hw c (λe=>bK x (e▸ai))) h.cW _ _ _ (λc ai=>hw c (λe=>bK t (e▸ai))) (h.cW t)
 old:=λc ai j_=>(hw c (by omega)).trans (h.old c ai j_)
 size:=by rw[U];exact h.size
 os:=ab.trans h.os
 tape:=ad.trans h.tape
 output:=aC.trans h.output
 fW:=h.fW
theorem bx.MC (h:bx w0 F0 X F S s ay w) {t:Nat} {v:Value}:bx w0 F0 X F (fP S t (λ_=>False)) (c_.fin s (some t) .hole) (da ay t v) w:=by
 have:c_.fin s (some t) .hole=da s t .hole:=by simp[c_.fin,I.plain]
 rw[this];exact h.ug rfl (by rw[aF];trivial)
theorem bx.Uy (h:bx w0 F0 X F S s ay w) {b:Nat} (aV:w0.heap.size<=b) (R:b<w.heap.size) (bK:∀u,¬S u b):bx w0 F0 X (λc=>F c\/c=b) S s ay w where
 gq:=λc ai=>.inl (h.gq c ai)
 gK:=λc ai=>by
  rcases ai with ai|rfl
  .exact h.gK c ai
  .exact .inr (.inr aV)
 eK:=λc ai=>by
  rcases ai with ai|rfl
  .exact h.eK c ai
  .exact R
 et:=h.et
 fg:=λt c ai bd=>by
  rcases bd with bd|rfl
  .exact h.fg t c ai bd
  .exact bK t ai
 eT:=h.eT
 dy:=h.dy
 cW:=λt=>aF.frame (λ_ _=>rfl) (λb R=>.inl R) (λ_ _ _=>rfl) h.cW _ _ _ (λ_ _=>rfl) (h.cW t)
 old:=h.old
 size:=h.size
 os:=h.os
 tape:=h.tape
 output:=h.output
 fW:=h.fW
theorem E0 {c:Code} {x y:aG} (h:eQ n c=some (.seq x y)):∃a b,c= .seq a b/\eQ n a=some x/\eQ n b=some y:=by
 cases c with
 |seq a b=>
  simp only[eQ]at h;split at h
  .rename_i ur KU ar hy;cases h;exact⟨a,b,rfl,ar,hy⟩
  .cases h
 |region id ops draw=>
  cases draw with
  |false=>simp only[eQ]at h;split at h<;>cases h
  |true=>
   simp only[eQ]at h;split at h
   .simp only[Option.map_eq_some_iff]at h;obtain⟨r,ab,ad⟩:=h;cases ad
   .cases h
 |cond c a b=>simp only[eQ]at h;split at h<;>cases h
 |block id b=>simp only[eQ,Option.map_eq_some_iff]at h;obtain⟨r,ab,ad⟩:=h;cases ad
 |loop b=>simp only[eQ,Option.map_eq_some_iff]at h;obtain⟨r,ab,ad⟩:=h;cases ad
 |_=>simp[eQ]at h
theorem uU {ops:Array Oper} {r:b7} {o:Oper} (hg:r.guard=none) (h:ph n ops o=some r.un):r.dst=o.dst/\o.guard=none/\ou o.op=r.bG.base/\ln n o.dst=true:=by
 unfold ph at h;split at h
 .rename_i ae;split at h
  .rename_i uV gZ;simp only[b7.un,Option.some.injEq,b7.mk.injEq]at h;obtain⟨aP,aT,aR⟩:=h;refine⟨aP.symm,?_,aT,ae⟩;rw[aR,hg]at gZ;cases b1:o.guard with
   |none=>rfl
   |some Ef=>
    rw[b1]at gZ;simp only[w2]at gZ;split at gZ<;>cases gZ
  .cases h
 .cases h
theorem E1 {ops:Array Oper} {i:Nat} {o:Oper} {l:ahw} (b1:ops[i]? =some o) (hg:o.guard=none) (h:o.wp C.P a w (wpOps C.P ops Q l) Q):wpOps C.P ops Q (i::l) a w:=by
 simp only[wpOps,b1];show(if Region.wanted o (yielded ops a.tmps)=true then o.wp C.P a w _ Q\/(o.asks C.P a w/\LetsOut Q)else _);rw[if_pos (z7 hg)];exact .inl h
theorem Uz {op:Op} {T:TypeId} (h:cK op=some (.ka T)):op= .alloc T:=by
 cases op with
 |alloc Ec=>simp only[cK,Option.some.injEq,dQ.ka.injEq]at h;rw[h]
 |call c=>
  obtain⟨callee,mB,argTypes⟩:=c;simp only[cK]at h;split at h<;>(try split at h)<;>(try split at h)<;>(try simp[Option.map_eq_some_iff]at h)
 |makeFunc fn first cs=>
  cases fn<;>simp only[cK]at h<;>first|(cases h;done)|(split at h<;>simp at h)
 |slice T x eN ak eA=>
  cases eA<;>simp only[cK]at h<;>first|(cases h;done)|(split at h<;>simp at h)
 |makeMap T r=>cases r<;>simp only[cK]at h<;>simp at h
 |lookup T x i c=>cases c<;>simp only[cK]at h<;>first|(cases h;done)|(split at h<;>simp at h)
 |_=>simp only[cK]at h<;>first|(cases h;done)|(simp at h;done)|(split at h<;>simp at h)
theorem UA {op:Op} {T:TypeId} {x y:bb} (h:cK op=some (.iA T x y)):∃a b,op= .store T a b/\dt a=some x/\dt b=some y:=by
 cases op with
 |store Ec a b=>
  simp only[cK]at h;split at h
  .rename_i cf jD ar hy;simp only[Option.some.injEq,dQ.iA.injEq]at h;obtain⟨rfl,rfl,rfl⟩:=h;exact⟨a,b,rfl,ar,hy⟩
  .cases h
 |call c=>
  obtain⟨callee,mB,argTypes⟩:=c;simp only[cK]at h;split at h<;>(try split at h)<;>(try split at h)<;>(try simp[Option.map_eq_some_iff]at h)
 |makeFunc fn first cs=>
  cases fn<;>simp only[cK]at h<;>first|(cases h;done)|(split at h<;>simp at h)
 |slice T x eN ak eA=>
  cases eA<;>simp only[cK]at h<;>first|(cases h;done)|(split at h<;>simp at h)
 |makeMap T r=>cases r<;>simp only[cK]at h<;>simp at h
 |lookup T x i c=>cases c<;>simp only[cK]at h<;>first|(cases h;done)|(split at h<;>simp at h)
 |_=>simp only[cK]at h<;>first|(cases h;done)|(simp at h;done)|(split at h<;>simp at h)
theorem UB {op:Op} {g:FuncId} {xs:List bb} (h:cK op=some (.mx g xs)):∃cs:Array Operand,op= .makeFunc (.func g) #[] cs/\oi cs.toList=some xs:=by
 cases op with
 |makeFunc fn first cs=>
  cases fn with
  |func f=>
   simp only[cK]at h;split at h
   .rename_i DP;simp only[Option.map_eq_some_iff]at h;obtain⟨nD,hj,h⟩:=h;cases h;have DQ:first= #[]:=by simpa using DP
    subst DQ;exact⟨cs,rfl,hj⟩
   .cases h
  |_=>simp[cK]at h
 |call c=>
  obtain⟨callee,mB,argTypes⟩:=c;simp only[cK]at h;split at h<;>(try split at h)<;>(try split at h)<;>(try simp[Option.map_eq_some_iff]at h)
 |slice T x eN ak eA=>
  cases eA<;>simp only[cK]at h<;>first|(cases h;done)|(split at h<;>simp at h)
 |makeMap T r=>cases r<;>simp only[cK]at h<;>simp at h
 |lookup T x i c=>cases c<;>simp only[cK]at h<;>first|(cases h;done)|(split at h<;>simp at h)
 |_=>simp only[cK]at h<;>first|(cases h;done)|(simp at h;done)|(split at h<;>simp at h)
theorem MD:∀{os:List Operand} {cs:ahw},oi os=some (cs.map .t)->os=cs.map .tmp
 |[],cs,h=>by
  simp only[oi,Option.some.injEq]at h;cases cs with
  |nil=>rfl
  |cons c cs=>cases h
 |o::os,cs,h=>by
  simp only[oi]at h;split at h
  .rename_i x JY ab ad;simp only[Option.some.injEq]at h;cases cs with
   |nil=>cases h
   |cons c cs=>
    simp only[map_cons,cons.injEq]at h;obtain⟨rfl,rfl⟩:=h;rw[Az ab,MD ad];rfl
  .cases h
def E2 (C:bW) (f:FuncId) (k k0 d0 d9:Nat) (cs:ahw) (m:List b7) (args:List bb) (d1:Option Nat) (keep:ahw) (lr:aG):(Exit->aw->Prop)->aw->Prop:=
 λQ s=>Mw C f k k0 d0 cs m args d1 [] keep (a_ C lr Q) (fin (fin s (some k) .hole) (some d9) .hole)
def ME (T:TypeId) (f:FuncId) (k d0 d9:Nat) (cs:ahw) (m:List b7) (args:List bb) (d1:Option Nat) (lr:aG):aG:=
 .seq (.fq [⟨some k,.ka T,none⟩] none) (.seq (.fq [⟨some d9,.mx f (cs.map .t),none⟩,⟨none,.iA T (.t k) (.t d9),none⟩] none)
  (.seq (.fq (⟨some d0,.e3 T (.t k),none⟩::(m++[⟨d1,.call (.t d0) args,none⟩])) none) lr))
def xy (C:bW) (T:(Exit->aw->Prop)->aw->Prop) (b:aG):Prop:=
 ∃(ty:TypeId) (f:FuncId) (k k0 d0 d9:Nat) (cs:ahw) (m:List b7) (args:List bb) (d1:Option Nat) (keep:ahw) (lr:aG),
  T=E2 C f k k0 d0 d9 cs m args d1 keep lr/\b=ME ty f k d0 d9 cs m args d1 lr.kC/\(C.T ty).flat=true/\(∃i z v,C.P.info? ty=some i/\i.size=1/\i.zero=some z/\z.cells= #[v]/\Value.fY v=true)/\
  EX (λd=>d !=d0&& !cs.contains d) m=true/\cs.contains d0=false/\cs[k0]? =some k/\cs.contains d9=false/\lr.plain=true
theorem UC (bk:C.eF) {c:Code} {T:(Exit->aw->Prop)->aw->Prop} {b:aG} {Q:Exit->aw->Prop} (e7:xy C T b) (U:eQ n c=some b.strip) (h:T Q s) (aH:Rel w0 F0 X n ρ s a w):
  c.wp C.P (ql w0 F0 X n ρ Q) a w:=by
 obtain⟨ty,f,k,k0,d0,d9,cs,m,args,d1,keep,lr,rfl,rfl,iq,⟨agc,z,rI,MF,UD,UE,mU,agd⟩,hm,kS,uT,AF,fy⟩:=e7;replace hm:∀r∈m,∀d,r.dst=some d->d≠d0/\d∉cs:=λr aH d ae=>by
  have:=Mx hm r aH d ae;simpa using this
 replace kS:d0∉cs:=by simpa using kS
 replace AF:d9∉cs:=by simpa using AF
 have uW:k∈cs:=mem_of_getElem? uT;have UF:k≠d9:=λe=>AF (e▸uW);obtain⟨c2,rh,rfl,s8,eV⟩:=E0 U;obtain⟨c3,age,rfl,UG,UH⟩:=E0 eV;obtain⟨c4,c5,rfl,UI,UJ⟩:=E0 UH;obtain⟨agf,E3,rfl,UK⟩:=AB s8;obtain⟨agh,uY,rfl,UL⟩:=AB UG;obtain⟨agi,agj,rfl,UM⟩:=AB UI;obtain⟨kB,eJ,iH,F,S,q8⟩:=aH;obtain⟨l2,g2⟩:=w7 UK;have aT:E3.size=1:=by simpa using l2
 obtain⟨jR,sN⟩:∃o,E3[0]? =some o:=⟨E3[0],by simp[aT]⟩
 obtain⟨a7,Ag,UN⟩:=g2 0 jR (by simpa using sN);simp only[map_cons,map_nil,getElem?_cons_zero,Option.some.injEq]at Ag;subst Ag;obtain⟨fA,fp,gX,hv⟩:=uU (r:=⟨some k,.ka ty,none⟩) rfl UN;change ou jR.op= .ka ty at gX;have MG:jR.op= .alloc ty:=by
  rcases qk gX with h|h
  .cases h
  .exact Uz h
 refine wp_seq (wp_region ?_);rw[aT];refine E1 (C:=C) sN fp ?_;have UO:(execOp a.eval jR).run C.P w= .ok (.value (.pointer (some ⟨w.heap.size,0,none⟩))) (w.alloc (.cells #[rI] ty)):=by
  obtain⟨dst,op,Ay,pos,after,guard⟩:=jR;simp only at MG;subst MG;simp[execOp,Instr.alloc,so MF UE,newVar,newRow,newObj,Sem.run,mU]
 unfold Oper.wp;rw[UO,Oper.upon_value];have EV:some k=jR.dst:=fA;rw[<-EV]at hv⊢;show Exit.then _ _ .normal _ _;have hold:∀b,b<w.heap.size->(w.alloc (.cells #[rI] ty)).heap[b]? =w.heap[b]? :=by
  intro b R;show(w.heap.push _)[b]? =_;rw[Array.getElem?_push,if_neg (by omega)]
 have lQ:(w.alloc (.cells #[rI] ty)).heap[w.heap.size]? =some (.cells #[rI] ty):=by
  show(w.heap.push _)[_]? =_;simp
 have zP:(w.alloc (.cells #[rI] ty)).heap.size=w.heap.size+1:=by simp
 have UP:=q8.grow hold (by rw[zP];omega) rfl rfl ⟨rfl,λ_=>Nat.le_refl _⟩;generalize agk:w.alloc (.cells #[rI] ty)=fs at*;generalize pv:Value.pointer (some ⟨w.heap.size,0,none⟩)=qt at*;have UQ:¬F w.heap.size:=λh=>Nat.lt_irrefl _ (q8.eK _ h);have xz:∀u,¬S u w.heap.size:=λu h=>Nat.lt_irrefl _ (q8.et _ _ h);have pd:w0.heap.size<=w.heap.size:=q8.size;obtain⟨fl,gJ,h3⟩:=w3 (n:=n) (dst:=some k) (a:=a) qt eJ hv;have MH:=UP.MC (t:=k) (v:=qt);rw[show da (λt=>a.tmps.getD t undef) k qt=λt=>(a.put (some k) qt).tmps.getD t undef from fl.symm]at MH;have UR:(a.put (some k) qt).tmps.getD k undef=qt:=by
  have:=congrFun fl k;simp only[mP]at this;rw[lL]at this;exact this
 have US:∀u,¬fP S k (λ_=>False) u w.heap.size:=by
  intro u h;simp only[fP]at h;split at h
  .exact h
  .exact xz u h
 have UT:∀i∈n.fx,(a.put (some k) qt).tmps.getD i undef=ρ i:=by
  intro i ak;have:=congrFun fl i;simp only[mP]at this;rw[iV _ _ (λe=>?_)]at this
  .exact this.trans (iH i ak)
  .simp only[ln,Bool.and_eq_true,Bool.not_eq_true',contains_eq_mem,decide_eq_false_iff_not]at hv;exact hv.2 (e▸ak)
 have UU:=h3.trans kB;generalize a.put (some k) qt=J at*;obtain⟨w1,g3⟩:=w7 UL;have aR:uY.size=2:=by simpa using w1
 obtain⟨oq,MI⟩:∃o,uY[0]? =some o:=⟨uY[0],by simp[aR]⟩
 obtain⟨rl,MJ⟩:∃o,uY[1]? =some o:=⟨uY[1],by simp[aR]⟩
 obtain⟨db,AA,UW⟩:=g3 0 oq (by simpa using MI);obtain⟨bJ,MK,UX⟩:=g3 1 rl (by simpa using MJ);simp only[map_cons,map_nil,getElem?_cons_zero,getElem?_cons_succ,Option.some.injEq]at AA MK;subst AA MK;obtain⟨uL,EB,ML,AG⟩:=uU (r:=⟨some d9,.mx f (cs.map .t),none⟩) rfl UW;obtain⟨v1,v2,v3,v4⟩:=uU (r:=⟨none,.iA ty (.t k) (.t d9),none⟩) rfl UX;change ou oq.op= .mx f (cs.map .t)at ML;change ou rl.op= .iA ty (.t k) (.t d9)at v3;obtain⟨UY,MM,UZ⟩:∃nD:Array Operand,oq.op= .makeFunc (.func f) #[] nD/\oi nD.toList=some (cs.map .t):=by
  rcases qk ML with h|h
  .cases h
  .exact UB h
 have U0:=MD UZ;obtain⟨DE,wM,MN,E4,U1⟩:∃a b,rl.op= .store ty a b/\dt a=some (.t k)/\dt b=some (.t d9):=by
  rcases qk v3 with h|h
  .cases h
  .exact UA h
 have:=Az E4;subst this;have:=Az U1;subst this;refine wp_seq (wp_region ?_);rw[aR];refine E1 (C:=C) (l:=[1]) MI EB ?_;have U2:(execOp J.eval oq).run C.P fs= .ok (.value (.func (.func f) #[] (cs.map λj=>J.tmps.getD j undef).toArray)) fs:=by
  obtain⟨dst,op,Ay,pos,after,guard⟩:=oq;simp only at MM;subst MM;have:UY.map J.eval=(cs.map λj=>J.tmps.getD j undef).toArray:=by
   apply Array.ext';rw[Array.toList_map,U0,List.map_map];rfl
  rw[<-this];simp[execOp];rfl
 unfold Oper.wp;rw[U2,Oper.upon_value];have U3:some d9=oq.dst:=uL;rw[<-U3]at AG⊢;generalize E5:Value.func (.func f) #[] (cs.map λj=>J.tmps.getD j undef).toArray=hW at*;have U4:Value.fY hW=true:=by rw[<-E5];rfl
 obtain⟨eL,gT,kj⟩:=w3 (n:=n) (dst:=some d9) (a:=J) hW gJ AG;have MO:=MH.MC (t:=d9) (v:=hW);rw[show da (λt=>J.tmps.getD t undef) d9 hW=λt=>(J.put (some d9) hW).tmps.getD t undef from eL.symm]at MO;have E6:∀j,j≠d9->(J.put (some d9) hW).tmps.getD j undef=J.tmps.getD j undef:=by
  intro j bQ;have:=congrFun eL j;simp only[mP]at this;rw[iV _ _ bQ]at this;exact this
 have U5:(J.put (some d9) hW).tmps.getD d9 undef=hW:=by
  have:=congrFun eL d9;simp only[mP]at this;rw[lL]at this;exact this
 have MP:∀u,¬fP (fP S k (λ_=>False)) d9 (λ_=>False) u w.heap.size:=by
  intro u h;simp only[fP]at h;split at h
  .exact h
  .exact US u h
 have U6:∀i∈n.fx,(J.put (some d9) hW).tmps.getD i undef=ρ i:=by
  intro i ak;rw[E6 i (λe=>?_)]
  .exact UT i ak
  .simp only[ln,Bool.and_eq_true,Bool.not_eq_true',contains_eq_mem,decide_eq_false_iff_not]at AG;exact AG.2 (e▸ak)
 have U7:=kj.trans UU;have U8:hW= .func (.func f) #[] (cs.map λj=>(J.put (some d9) hW).tmps.getD j undef).toArray:=by
  have:(cs.map λj=>(J.put (some d9) hW).tmps.getD j undef)=cs.map λj=>J.tmps.getD j undef:=
   map_congr_left λj bQ=>E6 j (λe=>AF (e▸bQ))
  rw[this,E5]
 have MQ:(J.put (some d9) hW).tmps.getD k undef=qt:=(E6 k UF).trans UR;generalize J.put (some d9) hW=a3 at*;refine E1 (C:=C) (l:=[]) MJ v2 ?_;obtain⟨gO,m1,m2,m3,m4,m5,m6,m7⟩:=zD (P:=C.P) (b:=w.heap.size) (o:=0) (e:=ty) (fr:=(0,0)) [hW] 0 #[rI] fs [] [rI] [] lQ (λo _ h=>absurd h.2 (not_lt_zero _)) rfl rfl rfl (λv aI=>by simp at aI;subst aI;exact U4);have U9:(execOp a3.eval rl).run C.P fs= .ok .skip gO:=by
  obtain⟨dst,op,Ay,pos,after,guard⟩:=rl;simp only at MN;subst MN;have xw:a3.eval (.tmp k)= .pointer (some ⟨w.heap.size,0,none⟩):=by rw[pv];exact MQ
  have z2:a3.eval (.tmp d9)=hW:=U5;have z3:hW.cells= #[hW]:=by rw[<-E5];rfl
  simp[execOp,xw,z2,Instr.storeAt,Instr.sureAddr,storeVar,kv MF,UD,z3,m1]
 unfold Oper.wp;rw[U9,Oper.upon_skip];have E7:none=rl.dst:=v1;rw[<-E7];show wpOps C.P uY _ [] a3 gO;show Exit.then _ _ .normal _ _;have U_:=(MO.off (b:=w.heap.size) pd UQ MP m3 m4 m5 m6 m7).Uy pd (by rw[m4,zP];omega) MP;refine wp_seq (Mo (K:=λaA=>dR (a_ C lr Q) aA) (b:=w.heap.size) (g:=f) (k0:=k0) (cs:=cs) bk UM iq hm kS uT U7 gT U6 U_ (.inr rfl) (MQ.trans pv.symm) (by rw[m2,<-U8];rfl) ?_ ?_)
 .refine sR (λ_ s1=>?_) h;rintro⟨ps,r,xw,z2,z3,z4,z5,Va,Vb⟩;exact⟨ps,r,xw,z2,z3,z4,z5,Va,sR (λ_ s h=>.inr ⟨_,My _ _,h⟩) Vb⟩
 .intro aA cB aD kV eu;obtain⟨agl,ab,ad⟩:=eu.dR kV;exact KW bk c5 UJ (aG.Ad lr (aG.KO lr fy)) (Ae lr ab) ad
theorem aX.Vc (bk:C.eF) {f:FuncId} {fn:Func} {c:Code} {cX:aG} {fx:ahw} {as outs:ahB} {r:I} (bd:C.P.funcs[f]? =some fn) (R:fn.body=some c)
  (jX:(fn.name== "runtime.NumGoroutine")=false) (U:eQ ⟨fn.ntmps,fx⟩ c=some cX.strip) (aU:as.length<=fn.ntmps) (aq:cX.mC (xy C))
  (h:∀Q:Exit->aw->Prop,(∀s,dR (Ends C fx fn.results.toList r outs) s->Q .ret s)->(∀s,dR (Ends C fx fn.results.toList r outs) s->Q .normal s)->a_ C cX Q (ax (num 0 as))):aX C f as r outs:=by
 intro w F X S vs hl aH;refine Ep (fx:=fx) bk bd R jX aU hl aH λa hrel dY=>?_;refine En bk (H:=xy C) (λc T b Q s a w iq xv aY aH=>UC bk iq xv aY aH) c (by rw[aG.Ej];exact U) (aG.Ad cX aq) (Ae cX ?_) hrel;rw[Ah];exact h _ (λs h=>⟨.inr rfl,h⟩) (λs h=>⟨.inl rfl,h⟩)
theorem Vd {Q:Exit->aw->Prop} {l:ahA} {f:FuncId} {k k0 d0 d9:Nat} {cs:ahw} {m:List b7} {args:List bb} {d1:Option Nat} {keep:ahw} {lr b:aG} (cd:ahA)
  (h:∀P:ahA->Prop,P cd->oD C f k k0 d0 cs m args d1 [] keep P (fin (fin (ax l) (some k) .hole) (some d9) .hole)) (aq:a_ C lr Q (ax cd)):a_ C (.iv (E2 C f k k0 d0 d9 cs m args d1 keep lr) b) Q (ax l):=
 λed EZ=>h (λl=>a_ C lr ed (ax l)) (Em lr EZ aq)
end
end Go.c_
