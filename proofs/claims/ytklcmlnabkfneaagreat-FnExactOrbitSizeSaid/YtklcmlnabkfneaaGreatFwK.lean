/- Part of a proof that a law returns true for every input. No condition. -/
import Derived.Test.YtklcmlnabkfneaaGreatFwJ
namespace Go.cU
open List Go.IntKind Nat Or
section
variable {C:bY} {w0 w:World} {F0 X F bF:Nat->Prop} {S aL:Nat->Nat->Prop} {n:Fr} {ρ:Nat->Value} {s aD:ax} {aC hb:Nat->Value} {a:Act} {av:I} {Q:Exit->Act->World->Prop} {aB:World}
theorem bs.off (h:bs w0 F0 X F S s aC w) {b:Nat} (a7:w0.heap.size<=b) (bc:¬F b) (br:∀u,¬S u b) (hw:∀c,c≠b->aB.heap[c]? =w.heap[c]?) (U:aB.heap.size=w.heap.size)
  (ab:aB.os=w.os) (ad:aB.tape=w.tape) (aA:Out aB w):bs w0 F0 X F S s aC aB where
 gx:=h.gx
 gJ:=h.gJ
 eH:=λc aj=>by rw[U];exact h.eH c aj
 dW:=λt c aj=>by rw[U];exact h.dW t c aj
 e8:=h.e8
 eZ:=h.eZ
 dh:=h.dh
 df:=λt=>aG.frame (Sx:=S) (λc aj=>hw c (λe=>bc (e▸aj))) (λ_ h=>h) (λx c aj=>hw c (λe=>br x (e▸aj))) h.df _ _ _ (λc aj=>hw c (λe=>br t (e▸aj))) (h.df t)
 old:=λc aj ji=>(hw c (by omega)).trans (h.old c aj ji)
 size:=by rw[U];exact h.size
 os:=ab.trans h.os
 tape:=ad.trans h.tape
 output:=aA.trans h.output
 gy:=h.gy
theorem bs.LO (h:bs w0 F0 X F S s aC w) {t:Nat} {v:Value}:bs w0 F0 X F (fG S t (λ_=>False)) (cU.fin s (some t) .hole) (de aC t v) w:=by
 have:cU.fin s (some t) .hole=de s t .hole:=by simp[cU.fin,I.plain]
 rw[this];exact h.vz rfl (by rw[aG];trivial)
theorem bs.TM (h:bs w0 F0 X F S s aC w) {b:Nat} (a7:w0.heap.size<=b) (R:b<w.heap.size) (br:∀u,¬S u b):bs w0 F0 X (λc=>F c\/c=b) S s aC w where
 gx:=λc aj=>.inl (h.gx c aj)
 gJ:=λc aj=>by
  rcases aj with aj|rfl
  .exact h.gJ c aj
  .exact .inr (.inr a7)
 eH:=λc aj=>by
  rcases aj with aj|rfl
  .exact h.eH c aj
  .exact R
 dW:=h.dW
 e8:=λt c aj bn=>by
  rcases bn with bn|rfl
  .exact h.e8 t c aj bn
  .exact br t aj
 eZ:=h.eZ
 dh:=h.dh
 df:=λt=>aG.frame (λ_ _=>rfl) (λb R=>.inl R) (λ_ _ _=>rfl) h.df _ _ _ (λ_ _=>rfl) (h.df t)
 old:=h.old
 size:=h.size
 os:=h.os
 tape:=h.tape
 output:=h.output
 gy:=h.gy
theorem Ep {c:Code} {x y:aI} (h:eB n c=some (.seq x y)):∃a b,c= .seq a b/\eB n a=some x/\eB n b=some y:=by
 cases c with
 |seq a b=>
  simp only[eB]at h;split at h
  .rename_i tC Kl ar a8;cases h;exact⟨a,b,rfl,ar,a8⟩
  .cases h
 |region id ops draw=>
  cases draw with
  |false=>simp only[eB]at h;split at h<;>cases h
  |true=>
   simp only[eB]at h;split at h
   .simp only[Option.map_eq_some_iff]at h;obtain⟨r,ab,ad⟩:=h;cases ad
   .cases h
 |cond c a b=>simp only[eB]at h;split at h<;>cases h
 |block id b=>simp only[eB,Option.map_eq_some_iff]at h;obtain⟨r,ab,ad⟩:=h;cases ad
 |loop b=>simp only[eB,Option.map_eq_some_iff]at h;obtain⟨r,ab,ad⟩:=h;cases ad
 |_=>simp[eB]at h
theorem ua {ops:Array Oper} {r:bZ} {o:Oper} (bB:r.guard=none) (h:o4 n ops o=some r.un):r.dst=o.dst/\o.guard=none/\nZ o.op=r.bC.base/\kU n o.dst=true:=by
 unfold o4 at h;split at h
 .rename_i ag;split at h
  .rename_i Tt hg;simp only[bZ.un,Option.some.injEq,bZ.mk.injEq]at h;obtain⟨aN,aR,aS⟩:=h;refine⟨aN.symm,?_,aR,ag⟩;rw[aS,bB]at hg;cases bx:o.guard with
   |none=>rfl
   |some DK=>
    rw[bx]at hg;simp only[wh]at hg;split at hg<;>cases hg
  .cases h
 .cases h
theorem Er {ops:Array Oper} {i:Nat} {o:Oper} {l:aiA} (bx:ops[i]? =some o) (bB:o.guard=none) (h:o.wp C.P a w (wpOps C.P ops Q l) Q):wpOps C.P ops Q (i::l) a w:=by
 simp only[wpOps,bx];show(if Region.wanted o (yielded ops a.tmps)=true then o.wp C.P a w _ Q\/(o.asks C.P a w/\LetsOut Q)else _);rw[if_pos (zG bB)];exact .inl h
theorem TN {op:Op} {T:TypeId} (h:cM op=some (.jS T)):op= .alloc T:=by
 cases op with
 |alloc Ly=>simp only[cM,Option.some.injEq,dI.jS.injEq]at h;rw[h]
 |call c=>
  obtain⟨callee,l6,argTypes⟩:=c;simp only[cM]at h;split at h<;>(try split at h)<;>(try split at h)<;>(try simp[Option.map_eq_some_iff]at h)
 |makeFunc fn first cs=>
  cases fn<;>simp only[cM]at h<;>first|(cases h;done)|(split at h<;>simp at h)
 |slice T x eS ak gF=>
  cases gF<;>simp only[cM]at h<;>first|(cases h;done)|(split at h<;>simp at h)
 |makeMap T r=>cases r<;>simp only[cM]at h<;>simp at h
 |lookup T x i c=>cases c<;>simp only[cM]at h<;>first|(cases h;done)|(split at h<;>simp at h)
 |_=>simp only[cM]at h<;>first|(cases h;done)|(simp at h;done)|(split at h<;>simp at h)
theorem TO {op:Op} {T:TypeId} {x y:bg} (h:cM op=some (.ik T x y)):∃a b,op= .store T a b/\dj a=some x/\dj b=some y:=by
 cases op with
 |store Ly a b=>
  simp only[cM]at h;split at h
  .rename_i eg k9 ar a8;simp only[Option.some.injEq,dI.ik.injEq]at h;obtain⟨rfl,rfl,rfl⟩:=h;exact⟨a,b,rfl,ar,a8⟩
  .cases h
 |call c=>
  obtain⟨callee,l6,argTypes⟩:=c;simp only[cM]at h;split at h<;>(try split at h)<;>(try split at h)<;>(try simp[Option.map_eq_some_iff]at h)
 |makeFunc fn first cs=>
  cases fn<;>simp only[cM]at h<;>first|(cases h;done)|(split at h<;>simp at h)
 |slice T x eS ak gF=>
  cases gF<;>simp only[cM]at h<;>first|(cases h;done)|(split at h<;>simp at h)
 |makeMap T r=>cases r<;>simp only[cM]at h<;>simp at h
 |lookup T x i c=>cases c<;>simp only[cM]at h<;>first|(cases h;done)|(split at h<;>simp at h)
 |_=>simp only[cM]at h<;>first|(cases h;done)|(simp at h;done)|(split at h<;>simp at h)
theorem TP {op:Op} {g:FuncId} {xs:List bg} (h:cM op=some (.l3 g xs)):∃cs:Array Operand,op= .makeFunc (.func g) #[] cs/\nT cs.toList=some xs:=by
 cases op with
 |makeFunc fn first cs=>
  cases fn with
  |func f=>
   simp only[cM]at h;split at h
   .rename_i Dl;simp only[Option.map_eq_some_iff]at h;obtain⟨ni,gb,h⟩:=h;cases h;have Dm:first= #[]:=by simpa using Dl
    subst Dm;exact⟨cs,rfl,gb⟩
   .cases h
  |_=>simp[cM]at h
 |call c=>
  obtain⟨callee,l6,argTypes⟩:=c;simp only[cM]at h;split at h<;>(try split at h)<;>(try split at h)<;>(try simp[Option.map_eq_some_iff]at h)
 |slice T x eS ak gF=>
  cases gF<;>simp only[cM]at h<;>first|(cases h;done)|(split at h<;>simp at h)
 |makeMap T r=>cases r<;>simp only[cM]at h<;>simp at h
 |lookup T x i c=>cases c<;>simp only[cM]at h<;>first|(cases h;done)|(split at h<;>simp at h)
 |_=>simp only[cM]at h<;>first|(cases h;done)|(simp at h;done)|(split at h<;>simp at h)
theorem LP:∀{os:List Operand} {cs:aiA},nT os=some (cs.map .t)->os=cs.map .tmp
 |[],cs,h=>by
  simp only[nT,Option.some.injEq]at h;cases cs with
  |nil=>rfl
  |cons c cs=>cases h
 |o::os,cs,h=>by
  simp only[nT]at h;split at h
  .rename_i x Jq ab ad;simp only[Option.some.injEq]at h;cases cs with
   |nil=>cases h
   |cons c cs=>
    simp only[map_cons,cons.injEq]at h;obtain⟨rfl,rfl⟩:=h;rw[Af ab,LP ad];rfl
  .cases h
def Es (C:bY) (f:FuncId) (k k0 d0 d9:Nat) (cs:aiA) (m:List bZ) (args:List bg) (d1:Option Nat) (keep:aiA) (kX:aI):(Exit->ax->Prop)->ax->Prop:=
 λQ s=>LI C f k k0 d0 cs m args d1 [] keep (a1 C kX Q) (fin (fin s (some k) .hole) (some d9) .hole)
def LQ (T:TypeId) (f:FuncId) (k d0 d9:Nat) (cs:aiA) (m:List bZ) (args:List bg) (d1:Option Nat) (kX:aI):aI:=
 .seq (.fB [⟨some k,.jS T,none⟩] none) (.seq (.fB [⟨some d9,.l3 f (cs.map .t),none⟩,⟨none,.ik T (.t k) (.t d9),none⟩] none)
  (.seq (.fB (⟨some d0,.eR T (.t k),none⟩::(m++[⟨d1,.call (.t d0) args,none⟩])) none) kX))
def wV (C:bY) (T:(Exit->ax->Prop)->ax->Prop) (b:aI):Prop:=
 ∃(ty:TypeId) (f:FuncId) (k k0 d0 d9:Nat) (cs:aiA) (m:List bZ) (args:List bg) (d1:Option Nat) (keep:aiA) (kX:aI),
  T=Es C f k k0 d0 d9 cs m args d1 keep kX/\b=LQ ty f k d0 d9 cs m args d1 kX.kf/\(C.T ty).flat=true/\(∃i z v,C.P.info? ty=some i/\i.size=1/\i.zero=some z/\z.cells= #[v]/\Value.fw v=true)/\
  Em (λd=>d !=d0&& !cs.contains d) m=true/\cs.contains d0=false/\cs[k0]? =some k/\cs.contains d9=false/\kX.plain=true
theorem TQ (bh:C.Ok) {c:Code} {T:(Exit->ax->Prop)->ax->Prop} {b:aI} {Q:Exit->ax->Prop} (e1:wV C T b) (U:eB n c=some b.strip) (h:T Q s) (aK:Rel w0 F0 X n ρ s a w):
  c.wp C.P (p5 w0 F0 X n ρ Q) a w:=by
 obtain⟨ty,f,k,k0,d0,d9,cs,m,args,d1,keep,kX,rfl,rfl,h_,⟨agO,z,rj,LR,TR,TS,mo,agP⟩,hm,kx,t_,Ak,fl⟩:=e1;replace hm:∀r∈m,∀d,r.dst=some d->d≠d0/\d∉cs:=λr aK d ag=>by
  have:=LJ hm r aK d ag;simpa using this
 replace kx:d0∉cs:=by simpa using kx
 replace Ak:d9∉cs:=by simpa using Ak
 have wS:k∈cs:=mem_of_getElem? t_;have TT:k≠d9:=λe=>Ak (e▸wS);obtain⟨c2,QH,rfl,pc,eJ⟩:=Ep U;obtain⟨zC,agQ,rfl,wW,TU⟩:=Ep eJ;obtain⟨vJ,DF,rfl,TV,TW⟩:=Ep TU;obtain⟨agR,Et,rfl,TX⟩:=Ah pc;obtain⟨agS,uc,rfl,TY⟩:=Ah wW;obtain⟨agT,agU,rfl,TZ⟩:=Ah TV;obtain⟨ke,dP,ir,F,S,qW⟩:=aK;obtain⟨l2,g2⟩:=wo TX;have aR:Et.size=1:=by simpa using l2
 obtain⟨jA,sm⟩:∃o,Et[0]? =some o:=⟨Et[0],by simp[aR]⟩
 obtain⟨ba,zP,T0⟩:=g2 0 jA (by simpa using sm);simp only[map_cons,map_nil,getElem?_cons_zero,Option.some.injEq]at zP;subst zP;obtain⟨hd,gz,il,im⟩:=ua (r:=⟨some k,.jS ty,none⟩) rfl T0;change nZ jA.op= .jS ty at il;have LS:jA.op= .alloc ty:=by
  rcases q6 il with h|h
  .cases h
  .exact TN h
 refine wp_seq (wp_region ?_);rw[aR];refine Er (C:=C) sm gz ?_;have T1:(execOp a.eval jA).run C.P w= .ok (.value (.pointer (some ⟨w.heap.size,0,none⟩))) (w.alloc (.cells #[rj] ty)):=by
  obtain⟨dst,op,Ae,pos,after,guard⟩:=jA;simp only at LS;subst LS;simp[execOp,Instr.alloc,r2 LR TS,newVar,newRow,newObj,Sem.run,mo]
 unfold Oper.wp;rw[T1,Oper.upon_value];have Ek:some k=jA.dst:=hd;rw[<-Ek]at im⊢;show Exit.then _ _ .normal _ _;have hold:∀b,b<w.heap.size->(w.alloc (.cells #[rj] ty)).heap[b]? =w.heap[b]? :=by
  intro b R;show(w.heap.push _)[b]? =_;rw[Array.getElem?_push,if_neg (by omega)]
 have la:(w.alloc (.cells #[rj] ty)).heap[w.heap.size]? =some (.cells #[rj] ty):=by
  show(w.heap.push _)[_]? =_;simp
 have zr:(w.alloc (.cells #[rj] ty)).heap.size=w.heap.size+1:=by simp
 have T2:=qW.grow hold (by rw[zr];omega) rfl rfl ⟨rfl,λ_=>Nat.le_refl _⟩;generalize agV:w.alloc (.cells #[rj] ty)=fQ at*;generalize LU:Value.pointer (some ⟨w.heap.size,0,none⟩)=qb at*;have T3:¬F w.heap.size:=λh=>Nat.lt_irrefl _ (qW.eH _ h);have T4:∀u,¬S u w.heap.size:=λu h=>Nat.lt_irrefl _ (qW.dW _ _ h);have oZ:w0.heap.size<=w.heap.size:=qW.size;obtain⟨fO,ha,h8⟩:=wi (n:=n) (dst:=some k) (a:=a) qb dP im;have LV:=T2.LO (t:=k) (v:=qb);rw[show de (λt=>a.tmps.getD t undef) k qb=λt=>(a.put (some k) qb).tmps.getD t undef from fO.symm]at LV;have T5:(a.put (some k) qb).tmps.getD k undef=qb:=by
  have:=congrFun fO k;simp only[mn]at this;rw[ly]at this;exact this
 have T6:∀u,¬fG S k (λ_=>False) u w.heap.size:=by
  intro u h;simp only[fG]at h;split at h
  .exact h
  .exact T4 u h
 have T7:∀i∈n.fx,(a.put (some k) qb).tmps.getD i undef=ρ i:=by
  intro i ak;have:=congrFun fO i;simp only[mn]at this;rw[iZ _ _ (λe=>?_)]at this
  .exact this.trans (ir i ak)
  .simp only[kU,Bool.and_eq_true,Bool.not_eq_true',contains_eq_mem,decide_eq_false_iff_not]at im;exact im.2 (e▸ak)
 have T8:=h8.trans ke;generalize a.put (some k) qb=J at*;obtain⟨wg,g3⟩:=wo TY;have aS:uc.size=2:=by simpa using wg
 obtain⟨nX,LW⟩:∃o,uc[0]? =some o:=⟨uc[0],by simp[aS]⟩
 obtain⟨q5,LX⟩:∃o,uc[1]? =some o:=⟨uc[1],by simp[aS]⟩
 obtain⟨cG,Ag,T9⟩:=g3 0 nX (by simpa using LW);obtain⟨bV,LY,T_⟩:=g3 1 q5 (by simpa using LX);simp only[map_cons,map_nil,getElem?_cons_zero,getElem?_cons_succ,Option.some.injEq]at Ag LY;subst Ag LY;obtain⟨n7,su,wX,rk⟩:=ua (r:=⟨some d9,.l3 f (cs.map .t),none⟩) rfl T9;obtain⟨v1,v2,v3,v4⟩:=ua (r:=⟨none,.ik ty (.t k) (.t d9),none⟩) rfl T_;change nZ nX.op= .l3 f (cs.map .t)at wX;change nZ q5.op= .ik ty (.t k) (.t d9)at v3;obtain⟨Ua,LZ,Ub⟩:∃ni:Array Operand,nX.op= .makeFunc (.func f) #[] ni/\nT ni.toList=some (cs.map .t):=by
  rcases q6 wX with h|h
  .cases h
  .exact TP h
 have Uc:=LP Ub;obtain⟨Dc,vS,L0,Eu,Ud⟩:∃a b,q5.op= .store ty a b/\dj a=some (.t k)/\dj b=some (.t d9):=by
  rcases q6 v3 with h|h
  .cases h
  .exact TO h
 have:=Af Eu;subst this;have:=Af Ud;subst this;refine wp_seq (wp_region ?_);rw[aS];refine Er (C:=C) (l:=[1]) LW su ?_;have Ue:(execOp J.eval nX).run C.P fQ= .ok (.value (.func (.func f) #[] (cs.map λj=>J.tmps.getD j undef).toArray)) fQ:=by
  obtain⟨dst,op,Ae,pos,after,guard⟩:=nX;simp only at LZ;subst LZ;have:Ua.map J.eval=(cs.map λj=>J.tmps.getD j undef).toArray:=by
   apply Array.ext';rw[Array.toList_map,Uc,List.map_map];rfl
  rw[<-this];simp[execOp];rfl
 unfold Oper.wp;rw[Ue,Oper.upon_value];have Uf:some d9=nX.dst:=n7;rw[<-Uf]at rk⊢;generalize Ev:Value.func (.func f) #[] (cs.map λj=>J.tmps.getD j undef).toArray=hJ at*;have Ug:Value.fw hJ=true:=by rw[<-Ev];rfl
 obtain⟨ez,gT,oa⟩:=wi (n:=n) (dst:=some d9) (a:=J) hJ ha rk;have L1:=LV.LO (t:=d9) (v:=hJ);rw[show de (λt=>J.tmps.getD t undef) d9 hJ=λt=>(J.put (some d9) hJ).tmps.getD t undef from ez.symm]at L1;have Ew:∀j,j≠d9->(J.put (some d9) hJ).tmps.getD j undef=J.tmps.getD j undef:=by
  intro j bd;have:=congrFun ez j;simp only[mn]at this;rw[iZ _ _ bd]at this;exact this
 have Uh:(J.put (some d9) hJ).tmps.getD d9 undef=hJ:=by
  have:=congrFun ez d9;simp only[mn]at this;rw[ly]at this;exact this
 have L2:∀u,¬fG (fG S k (λ_=>False)) d9 (λ_=>False) u w.heap.size:=by
  intro u h;simp only[fG]at h;split at h
  .exact h
  .exact T6 u h
 have Ui:∀i∈n.fx,(J.put (some d9) hJ).tmps.getD i undef=ρ i:=by
  intro i ak;rw[Ew i (λe=>?_)]
  .exact T7 i ak
  .simp only[kU,Bool.and_eq_true,Bool.not_eq_true',contains_eq_mem,decide_eq_false_iff_not]at rk;exact rk.2 (e▸ak)
 have Uj:=oa.trans T8;have Uk:hJ= .func (.func f) #[] (cs.map λj=>(J.put (some d9) hJ).tmps.getD j undef).toArray:=by
  have:(cs.map λj=>(J.put (some d9) hJ).tmps.getD j undef)=cs.map λj=>J.tmps.getD j undef:=
   map_congr_left λj bd=>Ew j (λe=>Ak (e▸bd))
  rw[this,Ev]
 have L3:(J.put (some d9) hJ).tmps.getD k undef=qb:=(Ew k TT).trans T5;generalize J.put (some d9) hJ=a3 at*;refine Er (C:=C) (l:=[]) LX v2 ?_;obtain⟨fJ,m1,m2,m3,m4,m5,m6,m7⟩:=zi (P:=C.P) (b:=w.heap.size) (o:=0) (e:=ty) (fr:=(0,0)) [hJ] 0 #[rj] fQ [] [rj] [] la (λo _ h=>absurd h.2 (not_lt_zero _)) rfl rfl rfl (λv aH=>by simp at aH;subst aH;exact Ug);have Ul:(execOp a3.eval q5).run C.P fQ= .ok .skip fJ:=by
  obtain⟨dst,op,Ae,pos,after,guard⟩:=q5;simp only at L0;subst L0;have wT:a3.eval (.tmp k)= .pointer (some ⟨w.heap.size,0,none⟩):=by rw[LU];exact L3
  have z2:a3.eval (.tmp d9)=hJ:=Uh;have z3:hJ.cells= #[hJ]:=by rw[<-Ev];rfl
  simp[execOp,wT,z2,Instr.storeAt,Instr.sureAddr,storeVar,j9 LR,TR,z3,m1]
 unfold Oper.wp;rw[Ul,Oper.upon_skip];have sE:none=q5.dst:=v1;rw[<-sE];show wpOps C.P uc _ [] a3 fJ;show Exit.then _ _ .normal _ _;have Um:=(L1.off (b:=w.heap.size) oZ T3 L2 m3 m4 m5 m6 m7).TM oZ (by rw[m4,zr];omega) L2;refine wp_seq (Lz (K:=λaD=>dm (a1 C kX Q) aD) (b:=w.heap.size) (g:=f) (k0:=k0) (cs:=cs) bh TZ h_ hm kx t_ Uj gT Ui Um (.inr rfl) (L3.trans LU.symm) (by rw[m2,<-Uk];rfl) ?_ ?_)
 .refine sr (λ_ s1=>?_) h;rintro⟨ps,r,wT,z2,z3,z4,z5,Un,Uo⟩;exact⟨ps,r,wT,z2,z3,z4,z5,Un,sr (λ_ s h=>.inr ⟨_,LK _ _,h⟩) Uo⟩
 .intro aD cA aB jm ef;obtain⟨agW,ab,ad⟩:=ef.dm jm;exact Kn bh DF TW (aI.zM kX (aI.Kf kX fl)) (zN kX ab) ad
theorem aW.Up (bh:C.Ok) {f:FuncId} {fn:Func} {c:Code} {cW:aI} {fx:aiA} {as outs:aiF} {r:I} (bn:C.P.funcs[f]? =some fn) (R:fn.body=some c)
  (kg:(fn.name== "runtime.NumGoroutine")=false) (U:eB ⟨fn.ntmps,fx⟩ c=some cW.strip) (aP:as.length<=fn.ntmps) (aw:cW.l7 (wV C))
  (h:∀Q:Exit->ax->Prop,(∀s,dm (Ends C fx fn.results.toList r outs) s->Q .ret s)->(∀s,dm (Ends C fx fn.results.toList r outs) s->Q .normal s)->a1 C cW Q (az (num 0 as))):aW C f as r outs:=by
 intro w F X S vs aO aK;refine DV (fx:=fx) bh bn R kg aP aO aK λa hrel dX=>?_;refine DS bh (H:=wV C) (λc T b Q s a w h_ n9 aY aK=>TQ bh h_ n9 aY aK) c (by rw[aI.DO];exact U) (aI.zM cW aw) (zN cW ?_) hrel;rw[DZ];exact h _ (λs h=>⟨.inr rfl,h⟩) (λs h=>⟨.inl rfl,h⟩)
theorem Uq {Q:Exit->ax->Prop} {l:aiE} {f:FuncId} {k k0 d0 d9:Nat} {cs:aiA} {m:List bZ} {args:List bg} {d1:Option Nat} {keep:aiA} {kX b:aI} (b3:aiE)
  (h:∀P:aiE->Prop,P b3->n_ C f k k0 d0 cs m args d1 [] keep P (fin (fin (az l) (some k) .hole) (some d9) .hole)) (aw:a1 C kX Q (az b3)):a1 C (.ib (Es C f k k0 d0 d9 cs m args d1 keep kX) b) Q (az l):=
 λdT Eo=>h (λl=>a1 C kX dT (az l)) (DR kX Eo aw)
end
end Go.cU
