/- Part of a proof that a law returns true for every input. No condition. -/
import Derived.Test.YtocllehpepigpaaGreatFwJ
namespace Go.cZ
section
variable {C:cw} {w0 w:World} {F0 X F b2:Nat→Prop} {S aR:Nat→Nat→Prop} {n:Fr} {ρ:Nat→Value} {s az:ar} {aA jI:Nat→Value} {a:Act} {av:I} {Q:Exit→Act→World→Prop} {aG:World}
theorem bQ.off (h:bQ w0 F0 X F S s aA w) {b:Nat} (bf:w0.heap.size≤b) (bI:¬F b) (b1:∀u,¬S u b) (hw:∀c,c≠b→aG.heap[c]? =w.heap[c]?) (ag:aG.heap.size=w.heap.size)
  (h1:aG.os=w.os) (ah:aG.tape=w.tape) (aC:Out aG w):bQ w0 F0 X F S s aA aG where
 ho:=h.ho
 hO:=h.hO
 fm:=fun c aq=>by rw[ag];exact h.fm c aq
 eD:=fun t c aq=>by rw[ag];exact h.eD t c aq
 fz:=h.fz
 fs:=h.fs
 dZ:=h.dZ
 dF:=fun t=>aL.frame (Sx:=S) (fun c aq=>hw c (fun e=>bI (e▸aq))) (fun _ h=>h) (fun x c aq=>hw c (fun e=>b1 x (e▸aq))) h.dF _ _ _ (fun c aq=>hw c (fun e=>b1 t (e▸aq))) (h.dF t)
 old:=fun c aq j2=>(hw c (by omega)).trans (h.old c aq j2)
 size:=by rw[ag];exact h.size
 os:=h1.trans h.os
 tape:=ah.trans h.tape
 output:=aC.trans h.output
 hD:=h.hD
theorem bQ.Mz (h:bQ w0 F0 X F S s aA w) {t:Nat} {v:Value}:bQ w0 F0 X F (f_ S t (fun _=>False)) (cZ.fin s (some t) .hole) (du aA t v) w:=by
 have:cZ.fin s (some t) .hole=du s t .hole:=by simp[cZ.fin,I.plain]
 rw[this]
 exact h.u_ rfl (by rw[aL];trivial)
theorem bQ.V0 (h:bQ w0 F0 X F S s aA w) {b:Nat} (bf:w0.heap.size≤b) (ae:b<w.heap.size) (b1:∀u,¬S u b):bQ w0 F0 X (fun c=>F c∨c=b) S s aA w where
 ho:=fun c aq=>.inl (h.ho c aq)
 hO:=fun c aq=>by
  rcases aq with aq|rfl
  ·exact h.hO c aq
  ·exact .inr (.inr bf)
 fm:=fun c aq=>by
  rcases aq with aq|rfl
  ·exact h.fm c aq
  ·exact ae
 eD:=h.eD
 fz:=fun t c aq bC=>by
  rcases bC with bC|rfl
  ·exact h.fz t c aq bC
  ·exact b1 t aq
 fs:=h.fs
 dZ:=h.dZ
 dF:=fun t=>aL.frame (fun _ _=>rfl) (fun b ae=>.inl ae) (fun _ _ _=>rfl) h.dF _ _ _ (fun _ _=>rfl) (h.dF t)
 old:=h.old
 size:=h.size
 os:=h.os
 tape:=h.tape
 output:=h.output
 hD:=h.hD
theorem G4 {c:Code} {x y:J} (h:bn n c=some (.seq x y)):∃a b,c= .seq a b∧bn n a=some x∧bn n b=some y:=by
 cases c with
 |seq a b=>
  simp only[bn]at h
  split at h
  ·rename_i vl KZ aw bt
   cases h
   exact⟨a,b,rfl,aw,bt⟩
  ·cases h
 |region id ops draw=>
  cases draw with
  |false=>simp only[bn,Option.map_eq_some_iff]at h;obtain⟨r,h1,ah⟩:=h;cases ah
  |true=>
   simp only[bn]at h
   split at h
   ·simp only[Option.map_eq_some_iff]at h;obtain⟨r,h1,ah⟩:=h;cases ah
   ·cases h
 |cond c a b=>simp only[bn]at h;split at h<;>cases h
 |block id b=>simp only[bn,Option.map_eq_some_iff]at h;obtain⟨r,h1,ah⟩:=h;cases ah
 |loop b=>simp only[bn,Option.map_eq_some_iff]at h;obtain⟨r,h1,ah⟩:=h;cases ah
 |_=>simp[bn]at h
theorem wi {ops:Array Oper} {r:cj} {o:Oper} (b9:r.guard=none) (h:p5 n ops o=some r.un):r.dst=o.dst∧o.guard=none∧pe o.op=r.b0.base∧lL n o.dst=true:=by
 unfold p5 at h
 split at h
 ·rename_i aj
  split at h
  ·rename_i VI h8
   simp only[cj.un,Option.some.injEq,cj.mk.injEq]at h
   obtain⟨aS,aZ,aQ⟩:=h
   refine⟨aS.symm,?_,aZ,aj⟩
   rw[aQ,b9]at h8
   cases cr:o.guard with
   |none=>rfl
   |some Gi=>
    rw[cr]at h8;simp only[x9]at h8;split at h8<;>cases h8
  ·cases h
 ·cases h
theorem G5 {ops:Array Oper} {i:Nat} {o:Oper} {l:List Nat} (cr:ops[i]? =some o) (b9:o.guard=none) (h:o.wp C.P a w (wpOps C.P ops Q l) Q):wpOps C.P ops Q (i::l) a w:=by
 simp only[wpOps,cr]
 show(if Region.wanted o (yielded ops a.tmps)=true then o.wp C.P a w _ Q∨(o.asks C.P a w∧LetsOut Q)else _)
 rw[if_pos (Bn b9)]
 exact .inl h
theorem V1 {op:Op} {T:TypeId} (h:cK op=some (.hc T)):op= .alloc T:=by
 cases op with
 |alloc ya=>simp only[cK,Option.some.injEq,gb.hc.injEq]at h;rw[h]
 |call c=>
  obtain⟨callee,nf,argTypes⟩:=c
  simp only[cK]at h
  split at h<;>(try split at h)<;>(try split at h)<;>(try simp[Option.map_eq_some_iff]at h)
 |makeFunc fn first cs=>
  cases fn<;>simp only[cK]at h<;>first|(cases h;done)|(split at h<;>simp at h)
 |slice T x dv ao hj=>
  cases hj<;>simp only[cK]at h<;>first|(cases h;done)|(split at h<;>simp at h)
 |makeMap T r=>cases r<;>simp only[cK]at h<;>simp at h
 |lookup T x i c=>cases c<;>simp only[cK]at h<;>first|(cases h;done)|(split at h<;>simp at h)
 |_=>simp only[cK]at h<;>first|(cases h;done)|(simp at h;done)|(split at h<;>simp at h)
theorem V2 {op:Op} {T:TypeId} {x y:aK} (h:cK op=some (.gu T x y)):∃a b,op= .store T a b∧dO a=some x∧dO b=some y:=by
 cases op with
 |store ya a b=>
  simp only[cK]at h
  split at h
  ·rename_i cz kU aw bt
   simp only[Option.some.injEq,gb.gu.injEq]at h
   obtain⟨rfl,rfl,rfl⟩:=h
   exact⟨a,b,rfl,aw,bt⟩
  ·cases h
 |call c=>
  obtain⟨callee,nf,argTypes⟩:=c
  simp only[cK]at h
  split at h<;>(try split at h)<;>(try split at h)<;>(try simp[Option.map_eq_some_iff]at h)
 |makeFunc fn first cs=>
  cases fn<;>simp only[cK]at h<;>first|(cases h;done)|(split at h<;>simp at h)
 |slice T x dv ao hj=>
  cases hj<;>simp only[cK]at h<;>first|(cases h;done)|(split at h<;>simp at h)
 |makeMap T r=>cases r<;>simp only[cK]at h<;>simp at h
 |lookup T x i c=>cases c<;>simp only[cK]at h<;>first|(cases h;done)|(split at h<;>simp at h)
 |_=>simp only[cK]at h<;>first|(cases h;done)|(simp at h;done)|(split at h<;>simp at h)
theorem V3 {op:Op} {g:FuncId} {xs:List aK} (h:cK op=some (.iz g xs)):∃cs:Array Operand,op= .makeFunc (.func g) #[] cs∧o_ cs.toList=some xs:=by
 cases op with
 |makeFunc fn first cs=>
  cases fn with
  |func f=>
   simp only[cK]at h
   split at h
   ·rename_i FP
    simp only[Option.map_eq_some_iff]at h
    obtain⟨ou,hb,h⟩:=h
    cases h
    have FQ:first= #[]:=by simpa using FP
    subst FQ
    exact⟨cs,rfl,hb⟩
   ·cases h
  |_=>simp[cK]at h
 |call c=>
  obtain⟨callee,nf,argTypes⟩:=c
  simp only[cK]at h
  split at h<;>(try split at h)<;>(try split at h)<;>(try simp[Option.map_eq_some_iff]at h)
 |slice T x dv ao hj=>
  cases hj<;>simp only[cK]at h<;>first|(cases h;done)|(split at h<;>simp at h)
 |makeMap T r=>cases r<;>simp only[cK]at h<;>simp at h
 |lookup T x i c=>cases c<;>simp only[cK]at h<;>first|(cases h;done)|(split at h<;>simp at h)
 |_=>simp only[cK]at h<;>first|(cases h;done)|(simp at h;done)|(split at h<;>simp at h)
theorem MA:∀{os:List Operand} {cs:List Nat},o_ os=some (cs.map .t)→os=cs.map .tmp
 |[],cs,h=>by
  simp only[o_,Option.some.injEq]at h
  cases cs with
  |nil=>rfl
  |cons c cs=>cases h
 |o::os,cs,h=>by
  simp only[o_]at h
  split at h
  ·rename_i x Kc h1 ah
   simp only[Option.some.injEq]at h
   cases cs with
   |nil=>cases h
   |cons c cs=>
    simp only[List.map_cons,List.cons.injEq]at h
    obtain⟨rfl,rfl⟩:=h
    rw[BQ h1,MA ah];rfl
  ·cases h
def G6 (C:cw) (f:FuncId) (k k0 d0 d9:Nat) (cs:List Nat) (m:List cj) (args:List aK) (d1:Option Nat) (keep:List Nat) (lQ:J):(Exit→ar→Prop)→ar→Prop:=
 fun Q s=>Mt C f k k0 d0 cs m args d1 [] keep (dc C lQ Q) (fin (fin s (some k) .hole) (some d9) .hole)
def MB (T:TypeId) (f:FuncId) (k d0 d9:Nat) (cs:List Nat) (m:List cj) (args:List aK) (d1:Option Nat) (lQ:J):J:=
 .seq (.ca [⟨some k,.hc T,none⟩] none) (.seq (.ca [⟨some d9,.iz f (cs.map .t),none⟩,⟨none,.gu T (.t k) (.t d9),none⟩] none)
  (.seq (.ca (⟨some d0,.ld T (.t k),none⟩::(m++[⟨d1,.call (.t d0) args,none⟩])) none) lQ))
def yB (C:cw) (T:(Exit→ar→Prop)→ar→Prop) (b:J):Prop:=
 ∃(ty:TypeId) (f:FuncId) (k k0 d0 d9:Nat) (cs:List Nat) (m:List cj) (args:List aK) (d1:Option Nat) (keep:List Nat) (lQ:J),
  T=G6 C f k k0 d0 d9 cs m args d1 keep lQ∧b=MB ty f k d0 d9 cs m args d1 lQ.kZ∧(C.T ty).flat=true∧(∃i z v,C.P.info? ty=some i∧i.size=1∧i.zero=some z∧z.cells= #[v]∧Value.gC v=true)∧
  G1 (fun d=>d !=d0&& !cs.contains d) m=true∧cs.contains d0=false∧cs[k0]? =some k∧cs.contains d9=false∧lQ.plain=true
theorem V4 (bu:C.Ok) {c:Code} {T:(Exit→ar→Prop)→ar→Prop} {b:J} {Q:Exit→ar→Prop} (fW:yB C T b) (ag:bn n c=some b.strip) (h:T Q s) (aX:Rel w0 F0 X n ρ s a w):
  c.wp C.P (te w0 F0 X n ρ Q) a w:=by
 obtain⟨ty,f,k,k0,d0,d9,cs,m,args,d1,keep,lQ,rfl,rfl,jJ,⟨aDP,z,r5,MC,V5,V6,l5,aDQ⟩,hm,lg,wh,BW,gq⟩:=fW
 replace hm:∀r∈m,∀d,r.dst=some d→d≠d0∧d∉cs:=fun r aX d aj=>by
  have:=Mu hm r aX d aj
  simpa using this
 replace lg:d0∉cs:=by simpa using lg
 replace BW:d9∉cs:=by simpa using BW
 have BR:k∈cs:=List.mem_of_getElem? wh
 have V7:k≠d9:=fun e=>BW (e▸BR)
 obtain⟨cu,x1,rfl,p_,fB⟩:=G4 ag
 obtain⟨je,aDR,rfl,yC,V8⟩:=G4 fB
 obtain⟨mX,s8,rfl,V9,V_⟩:=G4 V8
 obtain⟨aDS,G7,rfl,Wa⟩:=BT p_
 obtain⟨aDT,wk,rfl,Wb⟩:=BT yC
 obtain⟨aDU,aDV,rfl,Wc⟩:=BT V9
 obtain⟨iY,dR,hS,F,S,rH⟩:=aX
 obtain⟨l2,g2⟩:=ye Wa
 have aZ:G7.size=1:=by simpa using l2
 obtain⟨lo,BD⟩:∃o,G7[0]? =some o:=⟨G7[0],by simp[aZ]⟩
 obtain⟨bg,Bv,Wd⟩:=g2 0 lo (by simpa using BD)
 simp only[List.map_cons,List.map_nil,List.getElem?_cons_zero,Option.some.injEq]at Bv
 subst Bv
 obtain⟨hd,gF,h7,iy⟩:=wi (r:=⟨some k,.hc ty,none⟩) rfl Wd
 change pe lo.op= .hc ty at h7
 have MD:lo.op= .alloc ty:=by
  rcases nG h7 with h|h
  ·cases h
  ·exact V1 h
 refine wp_seq (wp_region ?_)
 rw[aZ]
 refine G5 (C:=C) BD gF ?_
 have We:(execOp a.eval lo).run C.P w= .ok (.value (.pointer (some ⟨w.heap.size,0,none⟩))) (w.alloc (.cells #[r5] ty)):=by
  obtain⟨dst,op,BP,pos,after,guard⟩:=lo
  simp only at MD
  subst MD
  simp[execOp,Instr.alloc,rC MC V6,newVar,newRow,newObj,Sem.run,l5]
 unfold Oper.wp
 rw[We,Oper.upon_value]
 have GZ:some k=lo.dst:=hd
 rw[←GZ]at iy⊢
 show Exit.then _ _ .normal _ _
 have hold:∀b,b<w.heap.size→(w.alloc (.cells #[r5] ty)).heap[b]? =w.heap[b]? :=by
  intro b ae
  show(w.heap.push _)[b]? =_
  rw[Array.getElem?_push,if_neg (by omega)]
 have kx:(w.alloc (.cells #[r5] ty)).heap[w.heap.size]? =some (.cells #[r5] ty):=by
  show(w.heap.push _)[_]? =_
  simp
 have A8:(w.alloc (.cells #[r5] ty)).heap.size=w.heap.size+1:=by simp
 have Wf:=rH.grow hold (by rw[A8];omega) rfl rfl ⟨rfl,fun _=>Nat.le_refl _⟩
 generalize aDW:w.alloc (.cells #[r5] ty)=fe at*
 generalize ME:Value.pointer (some ⟨w.heap.size,0,none⟩)=qZ at*
 have Wg:¬F w.heap.size:=fun h=>Nat.lt_irrefl _ (rH.fm _ h)
 have Wh:∀u,¬S u w.heap.size:=fun u h=>Nat.lt_irrefl _ (rH.eD _ _ h)
 have p0:w0.heap.size≤w.heap.size:=rH.size
 obtain⟨fQ,hC,ie⟩:=x_ (n:=n) (dst:=some k) (a:=a) qZ dR iy
 have MF:=Wf.Mz (t:=k) (v:=qZ)
 rw[show du (fun t=>a.tmps.getD t undef) k qZ=fun t=>(a.put (some k) qZ).tmps.getD t undef from fQ.symm]at MF
 have Wi:(a.put (some k) qZ).tmps.getD k undef=qZ:=by
  have:=congrFun fQ k
  simp only[nz]at this
  rw[l0]at this
  exact this
 have Wj:∀u,¬f_ S k (fun _=>False) u w.heap.size:=by
  intro u h;simp only[f_]at h;split at h
  ·exact h
  ·exact Wh u h
 have Wk:∀i∈n.fx,(a.put (some k) qZ).tmps.getD i undef=ρ i:=by
  intro i ao
  have:=congrFun fQ i
  simp only[nz]at this
  rw[jH _ _ (fun e=> ?_)]at this
  ·exact this.trans (hS i ao)
  ·simp only[lL,Bool.and_eq_true,Bool.not_eq_true',List.contains_eq_mem,decide_eq_false_iff_not]at iy
   exact iy.2 (e▸ao)
 have Wl:=ie.trans iY
 generalize a.put (some k) qZ=R at*
 obtain⟨x8,g3⟩:=ye Wb
 have aQ:wk.size=2:=by simpa using x8
 obtain⟨pc,MG⟩:∃o,wk[0]? =some o:=⟨wk[0],by simp[aQ]⟩
 obtain⟨rS,MH⟩:∃o,wk[1]? =some o:=⟨wk[1],by simp[aQ]⟩
 obtain⟨di,BS,Wm⟩:=g3 0 pc (by simpa using MG)
 obtain⟨cd,MI,Wn⟩:=g3 1 rS (by simpa using MH)
 simp only[List.map_cons,List.map_nil,List.getElem?_cons_zero,List.getElem?_cons_succ,Option.some.injEq]at BS MI
 subst BS MI
 obtain⟨rL,Be,Bf,xV⟩:=wi (r:=⟨some d9,.iz f (cs.map .t),none⟩) rfl Wm
 obtain⟨v1,v2,v3,v4⟩:=wi (r:=⟨none,.gu ty (.t k) (.t d9),none⟩) rfl Wn
 change pe pc.op= .iz f (cs.map .t)at Bf
 change pe rS.op= .gu ty (.t k) (.t d9)at v3
 obtain⟨Wo,MJ,Wp⟩:∃ou:Array Operand,pc.op= .makeFunc (.func f) #[] ou∧o_ ou.toList=some (cs.map .t):=by
  rcases nG Bf with h|h
  ·cases h
  ·exact V3 h
 have Wq:=MA Wp
 obtain⟨FD,xT,MK,G8,Wr⟩:∃a b,rS.op= .store ty a b∧dO a=some (.t k)∧dO b=some (.t d9):=by
  rcases nG v3 with h|h
  ·cases h
  ·exact V2 h
 have:=BQ G8;subst this
 have:=BQ Wr;subst this
 refine wp_seq (wp_region ?_)
 rw[aQ]
 refine G5 (C:=C) (l:=[1]) MG Be ?_
 have Ws:(execOp R.eval pc).run C.P fe= .ok (.value (.func (.func f) #[] (cs.map fun j=>R.tmps.getD j undef).toArray)) fe:=by
  obtain⟨dst,op,BP,pos,after,guard⟩:=pc
  simp only at MJ
  subst MJ
  have:Wo.map R.eval=(cs.map fun j=>R.tmps.getD j undef).toArray:=by
   apply Array.ext'
   rw[Array.toList_map,Wq,List.map_map]
   rfl
  rw[←this]
  simp[execOp]
  rfl
 unfold Oper.wp
 rw[Ws,Oper.upon_value]
 have Wt:some d9=pc.dst:=rL
 rw[←Wt]at xV⊢
 generalize G9:Value.func (.func f) #[] (cs.map fun j=>R.tmps.getD j undef).toArray=iE at*
 have Wu:Value.gC iE=true:=by rw[←G9];rfl
 obtain⟨eT,gV,kE⟩:=x_ (n:=n) (dst:=some d9) (a:=R) iE hC xV
 have ML:=MF.Mz (t:=d9) (v:=iE)
 rw[show du (fun t=>R.tmps.getD t undef) d9 iE=fun t=>(R.put (some d9) iE).tmps.getD t undef from eT.symm]at ML
 have G_:∀j,j≠d9→(R.put (some d9) iE).tmps.getD j undef=R.tmps.getD j undef:=by
  intro j b_
  have:=congrFun eT j
  simp only[nz]at this
  rw[jH _ _ b_]at this
  exact this
 have Wv:(R.put (some d9) iE).tmps.getD d9 undef=iE:=by
  have:=congrFun eT d9
  simp only[nz]at this
  rw[l0]at this
  exact this
 have MM:∀u,¬f_ (f_ S k (fun _=>False)) d9 (fun _=>False) u w.heap.size:=by
  intro u h;simp only[f_]at h;split at h
  ·exact h
  ·exact Wj u h
 have Ww:∀i∈n.fx,(R.put (some d9) iE).tmps.getD i undef=ρ i:=by
  intro i ao
  rw[G_ i (fun e=> ?_)]
  ·exact Wk i ao
  ·simp only[lL,Bool.and_eq_true,Bool.not_eq_true',List.contains_eq_mem,decide_eq_false_iff_not]at xV
   exact xV.2 (e▸ao)
 have Wx:=kE.trans Wl
 have Wy:iE= .func (.func f) #[] (cs.map fun j=>(R.put (some d9) iE).tmps.getD j undef).toArray:=by
  have:(cs.map fun j=>(R.put (some d9) iE).tmps.getD j undef)=cs.map fun j=>R.tmps.getD j undef:=
   List.map_congr_left fun j b_=>G_ j (fun e=>BW (e▸b_))
  rw[this,G9]
 have MN:(R.put (some d9) iE).tmps.getD k undef=qZ:=(G_ k V7).trans Wi
 generalize R.put (some d9) iE=a3 at*
 refine G5 (C:=C) (l:=[]) MH v2 ?_
 obtain⟨gg,m1,m2,m3,m4,m5,m6,m7⟩:=A1 (P:=C.P) (b:=w.heap.size) (o:=0) (e:=ty) (fr:=(0,0)) [iE] 0 #[r5] fe [] [r5] [] kx (fun o _ h=>absurd h.2 (Nat.not_lt_zero _)) rfl rfl rfl (fun v aM=>by simp at aM;subst aM;exact Wu)
 have Wz:(execOp a3.eval rS).run C.P fe= .ok .skip gg:=by
  obtain⟨dst,op,BP,pos,after,guard⟩:=rS
  simp only at MK
  subst MK
  have yz:a3.eval (.tmp k)= .pointer (some ⟨w.heap.size,0,none⟩):=by rw[ME];exact MN
  have z2:a3.eval (.tmp d9)=iE:=Wv
  have z3:iE.cells= #[iE]:=by rw[←G9];rfl
  simp[execOp,yz,z2,Instr.storeAt,Instr.sureAddr,storeVar,kh MC,V5,z3,m1]
 unfold Oper.wp
 rw[Wz,Oper.upon_skip]
 have yD:none=rS.dst:=v1
 rw[←yD]
 show wpOps C.P wk _ [] a3 gg
 show Exit.then _ _ .normal _ _
 have WA:=(ML.off (b:=w.heap.size) p0 Wg MM m3 m4 m5 m6 m7).V0 p0 (by rw[m4,A8];omega) MM
 refine wp_seq (Ml (K:=fun az=>ev (dc C lQ Q) az) (b:=w.heap.size) (g:=f) (k0:=k0) (cs:=cs) bu Wc jJ hm lg wh Wx gV Ww WA (.inr rfl) (MN.trans ME.symm) (by rw[m2,←Wy];rfl) ?_ ?_)
 ·refine ti (fun _ s1=> ?_) h
  rintro⟨ps,r,yz,z2,z3,z4,z5,WB,WC⟩
  exact⟨ps,r,yz,z2,z3,z4,z5,WB,ti (fun _ s h=>.inr ⟨_,Mv _ _,h⟩) WC⟩
 ·intro az c4 aG lj eV
  obtain⟨aDX,h1,ah⟩:=eV.ev lj
  exact K1 bu s8 V_ (J.Bs lQ (J.KT lQ gq)) (Bt lQ h1) ah
theorem bl.WD (bu:C.Ok) {f:FuncId} {fn:Func} {c:Code} {dJ:J} {fx:List Nat} {as outs:List I} {r:I} (bC:C.P.funcs[f]? =some fn) (ae:fn.body=some c)
  (k1:(fn.name== "runtime.NumGoroutine")=false) (ag:bn ⟨fn.ntmps,fx⟩ c=some dJ.strip) (a6:as.length≤fn.ntmps) (hk:dJ.ng (yB C))
  (h:∀Q:Exit→ar→Prop,(∀s,ev (Ends C fx fn.results.toList r outs) s→Q .ret s)→(∀s,ev (Ends C fx fn.results.toList r outs) s→Q .normal s)→dc C dJ Q (ab (num 0 as))):bl C f as r outs:=by
 intro w F X S vs hl aX
 refine Gu (fx:=fx) bu bC ae k1 a6 hl aX fun a nH eE=> ?_
 refine Gr bu (H:=yB C) (fun c T b Q s a w jJ yy ba aX=>V4 bu jJ yy ba aX) c (by rw[J.Gm];exact ag) (J.Bs dJ hk) (Bt dJ ?_) nH
 rw[Bw]
 exact h _ (fun s h=>⟨.inr rfl,h⟩) (fun s h=>⟨.inl rfl,h⟩)
theorem WE {Q:Exit→ar→Prop} {l:List (Nat×I)} {f:FuncId} {k k0 d0 d9:Nat} {cs:List Nat} {m:List cj} {args:List aK} {d1:Option Nat} {keep:List Nat} {lQ b:J} (eu:List (Nat×I))
  (h:∀P:List (Nat×I)→Prop,P eu→pk C f k k0 d0 cs m args d1 [] keep P (fin (fin (ab l) (some k) .hole) (some d9) .hole)) (hk:dc C lQ Q (ab eu)):dc C (.ju (G6 C f k k0 d0 d9 cs m args d1 keep lQ) b) Q (ab l):=
 fun eM G3=>h (fun l=>dc C lQ eM (ab l)) (Gq lQ G3 hk)
end
end Go.cZ
