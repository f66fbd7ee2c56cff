/- Part of a proof that a law returns true for every input. No condition. -/
import Derived.Test.YteloniioljdceaaGreatDoorFwM
import Derived.RangeFuncCalls
import Derived.RangeFuncBox
import Derived.RangeFuncLeaves
import Derived.ControlIn
namespace Go.ca
open List Option Go.IntKind Nat Or
open Go.RowKit
structure Kept (K:Nat->Prop) (w an:World):Prop where
 old:∀b,b<w.heap.size->¬K b->an.heap[b]? =w.heap[b]?
 size:w.heap.size<=an.heap.size
 os:an.os=w.os
 tape:an.tape=w.tape
 out:Out an w
theorem Kept.refl (K:Nat->Prop) (w:World):Kept K w w:=⟨λ_ _ _=>rfl,Nat.le_refl _,rfl,rfl,Out.refl _⟩
theorem Kept.trans {K:Nat->Prop} {A B C:World} (h:Kept K A B) (k:Kept K B C):Kept K A C:=
 ⟨λb J hK=>(k.old b (Nat.lt_of_lt_of_le J h.size) hK).trans (h.old b J hK),Nat.le_trans h.size k.size,k.os.trans h.os,k.tape.trans h.tape,k.out.trans h.out⟩
theorem Kept.mono {K L:Nat->Prop} {A B:World} (h:Kept K A B) (hl:∀b,b<A.heap.size->K b->L b):Kept L A B:=
 ⟨λb J hK=>h.old b J λag=>hK (hl b J ag),h.size,h.os,h.tape,h.out⟩
theorem Kept.alloc (K:Nat->Prop) (w:World) (o:Obj):Kept K w (w.alloc o):=
 ⟨λb J _=>Below.heap_alloc w o b J,by simp,rfl,rfl,Out.refl _⟩
theorem Kept.drew (K:Nat->Prop) (w:World):Kept K w w.drew:=⟨λ_ _ _=>rfl,Nat.le_refl _,rfl,rfl,⟨rfl,λ_=>le_succ _⟩⟩
theorem Kept.putObj {K:Nat->Prop} {w:World} {l:Nat} (o:Obj) (hl:K l):Kept K w (w.putObj l o):=
 ⟨λb _ hK=>World.putObj_heap_other (λe=>hK (e▸hl)),by simp,rfl,rfl,Out.refl _⟩
theorem Kept.setCell {K:Nat->Prop} {w:World} {b:Nat} (i:Nat) (v:Value) (hl:K b):Kept K w (w.setCell ⟨b,i,none⟩ v):=
 ⟨λc _ hK=>Below.heap_setCell w ⟨b,i,none⟩ v c (λe=>hK (e▸hl)),(KeepsWalks.setCell w _ v).size,rfl,rfl,Out.refl _⟩
theorem uM {C:bl} {g:FuncId} (sn:∀args w,(callFunc g args).run C.P w= .ok (.enter g args) w) {aa:RL} {vs:RJ} {w:World} (hlen:vs.length=aa.length)
  (fo:∀(i:Nat) (a:I) (v:Value),aa[i]? =some a->vs[i]? =some v->a.tree=true/\b7 a v/\ah w (λ_=>False) a (bn v) (λ_=>False)) {r:I} (aI:r.tree=true) (ba:bf C g aa r []) (iD:gz w (λ_=>False)):
  Calls C.P g vs.toArray w λe an=>(∃v F S,e= .returned v/\b7 r v/\ah an F r (bn v) S)/\Kept (λ_=>False) w an:=by
 have hrel:aZ w (λ_=>False) (λ_=>False) (λ_=>False) (λ_ _=>False) (cM aa) (dJ vs) w:={
  eK:=λ_ h=>h
  eY:=λ_ h=>.inl h
  dk:=λb h=>h.elim
  c1:=λ_ _ h=>h.elim
  dN:=λ_ _ h=>h.elim
  du:=λ_ _ _ _ h=>h.elim
  ck:=λ_ _ h=>h.elim
  b9:=λt=>by
   by_cases aI:t<aa.length
   .have aD:aa[t]? =some aa[t]:=getElem?_eq_getElem aI;have aG:vs[t]? =some (vs[t]'(by omega)):=getElem?_eq_getElem (by omega);obtain⟨g1,g2,g3⟩:=fo t _ _ aD aG;have aJ:cM aa t=aa[t]:=by simp[cM,List.getD,aD]
    have bp:dJ vs t=vs[t]'(by omega):=by simp[dJ,List.getD,aG]
    rw[aJ,bp];exact(ar.bx g1).2 ⟨g2,g3⟩
   .have aJ:cM aa t= .hole:=by simp[cM,List.getD,getElem?_eq_none (show aa.length<=t by omega)]
    rw[aJ,ar];trivial
  old:=λ_ _ _=>rfl
  size:=Nat.le_refl _
  os:=rfl
  tape:=rfl
  output:=Out.refl _
  ef:=iD}
 rcases ba w _ _ _ vs hlen hrel with⟨_,ae⟩|⟨v,an,U,_⟩
 .refine ae.mono ?_;rintro e an ⟨v,rfl,a8,aB,ax⟩;have az:=(ar.bx aI).1 (ax.b9 0);exact⟨⟨v,a8,_,rfl,az.1,az.2⟩,⟨ax.old,ax.size,ax.os,ax.tape,ax.output⟩⟩
 .rw[sn]at U;cases U
def Lk {τ:Type} (sB D:Nat) (kA:τ->World->Prop) (o8:Code->World->Prop) (t:τ) (W:World):Exit->Act->World->Prop
 | .normal,_,da=>da.heap[sB]? =W.heap[sB]?/\da.heap[D]? =W.heap[D]?/\da.heap[D+1]? =W.heap[D+1]?/\kA t da
 | .exit id,_,da=>da.heap[D]? =W.heap[D]?/\da.heap[D+1]? =W.heap[D+1]?/\o8 (.exit id) da
 |_,_,_=>False
def DP {τ:Type} (n:Nat) (P:Program) (gf:Nat) (lb:Array Value) (sB:Nat) (fF:Obj->Prop) (ne:τ->Prop) (iT:τ->Value) (uN:τ->τ) (t0 uO:τ) (w:World):Prop:=
 ∀(l:Nat) (mO:τ->World->Prop) (so:World->Prop) (W:World),(∀b,b<w.heap.size->W.heap[b]? =w.heap[b]?)->
  (∀t W da,mO t W->Kept (λb=>b=sB) W da->mO t da)->(∀W da,so W->Kept (λb=>b=sB) W da->so da)->(∀t W,mO t W->gz W (λ_=>False))->
  (∀t W,ne t->mO t W->(∃o,W.heap[sB]? =some o/\fF o)->YieldAt Fence.wide (n-1) P l #[iT t] W λe da=>(e= .returned (.bool true)/\mO (uN t) da/\da.heap[sB]? =W.heap[sB]?)\/(e= .returned (.bool false)/\so da))->mO t0 W->
  CallsIn Fence.wide n P gf (#[.func (.yield l) #[] #[]]++lb) W λe da=>(∃v,e= .returned v)/\(mO uO da\/so da)
theorem Ll {P:Program} {n:Nat} {g:Operand} {ps:Array Tmp} {assign body:Code} {Q:Exit->Act->World->Prop} {a:Act} {w:World} {gf:Nat} {lb:Array Value}
  (hg:a.eval g= .func (.func gf) #[] lb) (Lm:∀args w,(callFunc gf args).run P w= .ok (.enter gf args) w) {sB:Nat} (yk:sB<w.heap.size) (oO:ps.size=1)
  {τ:Type} {fF:Obj->Prop} {ne:τ->Prop} {iT:τ->Value} {uN:τ->τ} {t0 uO:τ} (yl:DP (n-1) P gf lb sB fF ne iT uN t0 uO w)
  (kA:τ->World->Prop) (o8:Code->World->Prop)
  (lg:∀t W da,kA t W->Kept (λb=>b=sB\/b=w.heap.size\/b=w.heap.size+1) W da->kA t da) (uP:∀c W da,o8 c W->Kept (λb=>b=sB\/b=w.heap.size\/b=w.heap.size+1) W da->o8 c da)
  (ym:∀t W,kA t W->gz W (λ_=>False)) (bj:kA t0 w) (a₁:τ->Act)
  (Ln:∀(l:Nat) (t:τ) (W:World) (K:Act->World->Prop),K (a₁ t) W->
   assign.wpIn (Fence.wide.inRound l) (n-1-1) P (Exit.then K (λ_ _ _=>False)) {tmps:=(ps.zip #[iT t]).foldl (λt (p,v)=>t.setIfInBounds p v) a.tmps,defers:=[]} W)
  (DQ:∀(l:Nat) (t:τ) (W:World),ne t->kA t W->(∃o,W.heap[sB]? =some o/\fF o)->W.heap[w.heap.size]? =some (.deferred (some []))->(∃r,W.heap[w.heap.size+1]? =some (.loop r))->body.wpIn (Fence.wide.inRound l) (n-1-1) P (Lk sB w.heap.size kA o8 (uN t) W) (a₁ t) W)
  (DR:∀(W:World),kA uO W->W.heap[w.heap.size]? =some (.deferred (some []))->Q .normal {a with defers:={target:=.collected w.heap.size,args:= #[]}::a.defers} W)
  (DS:∀(c:Code) (W:World),o8 c W->W.heap[w.heap.size]? =some (.deferred (some []))->c.wpIn Fence.wide n P Q {a with defers:={target:=.collected w.heap.size,args:= #[]}::a.defers} W):
  (Code.rangeFunc g ps assign body).wpIn Fence.wide n P Q a w:=by
 refine wpIn_rangeFunc ?_;intro fn yn;obtain⟨D,sq⟩:∃D,D=w.heap.size:=⟨_,rfl⟩
 obtain⟨rec,mP⟩:∃rec:LoopState->Option Code->Loop,rec=λst q_=>{state:=st,pending:=q_,fn,tmps:=a.tmps,params:=ps,assign,body,defers:=D}:=⟨_,rfl⟩
 obtain⟨gF,ql⟩:∃gF,(w.alloc (.deferred (some []))).alloc (.loop (rec .ready none))=gF:=⟨_,rfl⟩
 have oS:gF.heap.size=D+2:=by rw[<-ql,sq];simp
 have Lo:gF.heap[D+1]? =some (.loop (rec .ready none)):=by
  rw[<-ql,sq];have:=World.alloc_heap_new (w.alloc (.deferred (some []))) (.loop (rec .ready none));rwa [World.size_alloc]at this
 have Lp:gF.heap[D]? =some (.deferred (some [])):=by
  rw[<-ql,sq];exact(Below.heap_alloc _ _ _ (by simp)).trans (World.alloc_heap_new w _)
 have qj:∀b,b<w.heap.size->gF.heap[b]? =w.heap[b]? :=λb J=>by
  rw[<-ql];exact(Below.heap_alloc _ _ _ (by simp;omega)).trans (Below.heap_alloc _ _ _ J)
 have Lq:kA t0 gF:=by rw[<-ql];exact lg _ _ _ (lg _ _ _ bj (Kept.alloc _ _ _)) (Kept.alloc _ _ _)
 refine⟨D+1,[{target:=.collected D,args:= #[]}],gF,{target:=.fn (.func gf) lb,args:= #[.func (.yield (D+1)) #[] #[]]},gF,gf,
  #[.func (.yield (D+1)) #[] #[]]++lb,gF,?_,?_,?_,?_,λh=>by simp[Fence.wide]at h,?_⟩
 .rw[<-ql,mP,sq];exact run_enterLoop_outer _ _ _ _ _
 .simp only[resolve,hg];simp[go_sem]
 .intro BK _;trivial
 .simp[invoke,go_sem,Lm]
 .rw[<-sq]at lg uP DR DS DQ;have j_:∀{A B:World},Kept (λb=>b=sB) A B->Kept (λb=>b=sB\/b=D\/b=D+1) A B:=λh=>h.mono λ_ _ h=>.inl h;refine(yl (D+1)
   (λt W=>kA t W/\W.heap[D+1]? =some (.loop (rec .ready none))/\W.heap[D]? =some (.deferred (some [])))
   (λW=>∃c,o8 c W/\W.heap[D+1]? =some (.loop (rec .done (some c)))/\W.heap[D]? =some (.deferred (some [])))
   gF qj ?_ ?_ (λt W h=>ym t W h.1) ?_ ⟨Lq,Lo,Lp⟩).mono ?_
  .rintro t A B ⟨U,ab,ay⟩ ag;have aG:=(Array.getElem?_eq_some_iff.1 ab).1;exact⟨lg _ _ _ U (j_ ag),(ag.old _ aG (by omega)).trans ab,(ag.old _ (by omega) (by omega)).trans ay⟩
  .rintro A B ⟨c,U,ab,ay⟩ ag;have aG:=(Array.getElem?_eq_some_iff.1 ab).1;exact⟨c,uP _ _ _ U (j_ ag),(ag.old _ aG (by omega)).trans ab,(ag.old _ (by omega) (by omega)).trans ay⟩
  .rintro t W bT ⟨aC,hl,ag⟩ sr;have cq:D+1<W.heap.size:=(Array.getElem?_eq_some_iff.1 hl).1;have hy:=run_yield (P:=P) (args:= #[iT t]) hl (by rw[mP];exact oO.symm);rw[mP]at hy;refine⟨fn,_,assign,body,hy,roundIn_of_wpIn yn (Ln _ t W _ ⟨_,run_beginRound hl (by rw[mP]),?_⟩)⟩;obtain⟨l1,qm⟩:∃l1,W.putObj (D+1) (.loop {rec .ready none with state:=.busy})=l1:=⟨_,rfl⟩
   rw[qm];have pN:l1.heap[D+1]? =some (.loop {rec .ready none with state:=.busy}):=by rw[<-qm];exact World.putObj_heap_same cq
   have kW:l1.heap[D]? =some (.deferred (some [])):=by rw[<-qm];exact(World.putObj_heap_other (by omega)).trans ag
   have DT:l1.heap[sB]? =W.heap[sB]? :=by rw[<-qm];exact World.putObj_heap_other (by omega)
   have ui:kA t l1:=by rw[<-qm];exact lg _ _ _ aC (Kept.putObj _ (.inr (.inr rfl)))
   clear qm;refine wpIn_mono (DQ _ t l1 bT ui (by rw[DT];exact sr) kW ⟨_,pN⟩) ?_;have fin:∀(jump:Option Code) (e3:World),e3.heap[D]? =l1.heap[D]?->e3.heap[D+1]? =l1.heap[D+1]?->
     (Instr.endRound (D+1) jump).run P e3= .ok (.bool jump.isNone) (e3.putObj (D+1) (.loop (rec (if jump.isNone then .ready else .done) jump)))/\
     (e3.putObj (D+1) (.loop (rec (if jump.isNone then .ready else .done) jump))).heap[D+1]? =some (.loop (rec (if jump.isNone then .ready else .done) jump))/\
     (e3.putObj (D+1) (.loop (rec (if jump.isNone then .ready else .done) jump))).heap[D]? =some (.deferred (some [])):=λjump e3 U ab=>by
    have DU:=ab.trans pN;have:=run_endRound (P:=P) jump DU;rw[mP]at this⊢;exact⟨this,World.putObj_heap_same (Array.getElem?_eq_some_iff.1 DU).1,(World.putObj_heap_other (by omega)).trans (U.trans kW)⟩
   rintro e a3 e3 af;cases e with
   |normal=>
    obtain⟨eo,eF,fj,pO⟩:=af;obtain⟨ek,dx,fU⟩:=fin none e3 eF fj;exact⟨_,_,ek,.inl ⟨rfl,⟨lg _ _ _ pO (Kept.putObj _ (.inr (.inr rfl))),dx,fU⟩,(World.putObj_heap_other (by omega)).trans (eo.trans DT)⟩⟩
   |exit id=>
    obtain⟨eF,fj,pO⟩:=af;obtain⟨ek,dx,fU⟩:=fin (some (.exit id)) e3 eF fj;exact⟨_,_,ek,.inr ⟨rfl,.exit id,uP _ _ _ pO (Kept.putObj _ (.inr (.inr rfl))),dx,fU⟩⟩
   |ret=>exact af.elim
   |goto t=>exact af.elim
   |panic Jg=>exact af.elim
   |outgrown=>exact af.elim
  .rintro e l1 ⟨⟨v,rfl⟩,(⟨aC,hl,ag⟩|⟨c,aC,hl,ag⟩)⟩
   .exact⟨none,_,by have:=run_endLoop (P:=P) hl (by rw[mP];simp);rw[mP]at this;exact this,DR _ (lg _ _ _ aC (Kept.putObj _ (.inr (.inr rfl)))) ((World.putObj_heap_other (by omega)).trans ag)⟩
   .exact⟨some c,_,by have:=run_endLoop (P:=P) hl (by rw[mP];simp);rw[mP]at this;exact this,DS _ _ (uP _ _ _ aC (Kept.putObj _ (.inr (.inr rfl)))) ((World.putObj_heap_other (by omega)).trans ag)⟩
end Go.ca
