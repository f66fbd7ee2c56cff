/- Part of a proof that a law returns true for every input. No condition. -/
import Derived.Test.YtmaepbgkcmjcjajGreatDoorFwB
import Derived.Laws.Entries
namespace Go.ep
open List Option Go.IntKind Nat Or
inductive qv where
 |int (k:IntKind)
 |bool
 |str
 |ptr (e:TypeId)
 |slice (e:TypeId)
 |struct (aF:List (TypeId×Nat))
 |fn
 |gH (e:TypeId)
 |map (k e:TypeId)
 |other
structure hW where
 k:qv
 sz:Nat
 bytes:Nat
 zero:I
mutual
def flat:I->Option azw
 | .bool b=>some [.bool b]
 | .int k n=>some [.int k n]
 | .str s=>some [.string ⟨⟨s⟩⟩]
 | .eA=>some [.pointer none]
 | .bf=>some [.slice none 0 0]
 | .agg aF=>vG aF
 | .cj .kv=>some [.map none]
 |_=>none
def vG:azy->Option azw
 |[]=>some []
 |d::ds=>match flat d,vG ds with
  |some a,some b=>some (a++b)
  |_,_=>none
end
theorem aB.flat {w:World} {F:Nat->Prop}:∀n,(∀(d:I) (cs:azw) (S:Nat->Prop),SizeOf.sizeOf d<=n->flat d=some cs->aB w F d cs S)/\
  (∀(ds:azy) (cs:azw) (S:Nat->Prop),SizeOf.sizeOf ds<=n->vG ds=some cs->bz w F ds cs S):=by
 intro n;induction n with
 |zero=>exact⟨λd _ _ cd=>by cases d<;>simp at cd<;>omega,λds _ _ cd=>by cases ds<;>simp at cd<;>omega⟩
 |succ n ih=>
  refine⟨λd cs S cd h=>?_,λds cs S cd h=>?_⟩
  .cases d with
   |agg aF=>rw[aB];exact ih.2 aF cs S (by simp at cd;omega) (by simpa [ep.flat]using h)
   |bool b=>simp[ep.flat]at h;subst h;rw[aB]
   |int k n=>simp[ep.flat]at h;subst h;rw[aB]
   |str s=>simp[ep.flat]at h;subst h;rw[aB]
   |eA=>simp[ep.flat]at h;subst h;rw[aB]
   |bf=>simp[ep.flat]at h;subst h;rw[aB]
   |cj o=>cases o<;>simp[ep.flat]at h;subst h;rw[aB];rfl
   |_=>simp[ep.flat]at h
  .cases ds with
   |nil=>simp[vG]at h;subst h;rw[bz]
   |cons d ds=>
    simp only[vG]at h;split at h
    .rename_i a b bq ab;simp at h;subst h;simp at cd;rw[bz];exact⟨a,b,λ_=>False,λ_=>False,rfl,ih.1 d a _ (by omega) bq,ih.2 ds b _ (by omega) ab,λ_ h=>h.elim,λ_ h=>h.elim,λ_ h=>h.elim⟩
    .cases h
def oe:qv->TypeDesc->Prop
 | .int k,.int dv=>k=dv
 | .bool,.bool=>True
 | .str,.string=>True
 | .ptr e,.pointer hE=>e=hE
 | .slice e,.slice hE=>e=hE
 | .struct aF,.struct gs=>gs.toList.map (λg=>(g.type,g.offset))=aF
 | .fn,.func _ _ _=>True
 | .gH _,.struct _=>True
 | .map k e,.map dv hE=>k=dv/\e=hE
 |_,_=>False
def Ui (P:Program) (t:TypeId) (x:hW):Prop:=
 (∃e n b z,x=⟨.other,e,n,b⟩/\z=0)\/
 ∃i d z,P.info? t=some i/\i.size=x.sz/\i.bytes=x.bytes/\i.zero=some z/\(∀cs,flat x.zero=some cs->z.cells=cs.toArray)/\P.underlying t=some d/\oe x.k d
structure cx where
 P:Program
 T:TypeId->hW
 M:FuncId->List Bool
structure cx.fN (C:cx):Prop where
 ty:∀t,Ui C.P t (C.T t)
 mixed:C.P.follows .mixedOrders=true
inductive bC where
 |t (n:Nat)
 |c (av:I)
 |f (g:FuncId)
def Ir:Value->Option I
 | .bool b=>some (.bool b)
 | .int k n=>some (.int k n)
 | .string s=>some (.str s.data.toList)
 | .pointer none=>some .eA
 | .slice none 0 0=>some .bf
 |_=>none
def eR:Operand->Option bC
 | .tmp n=>some (.t n)
 | .const v=>(Ir v).map .c
 | .func g=>some (.f g)
 | .global _=>none
def uc (x:Nat) (d:I):I:=if d.plain then d else .h x []
def bA (s:al):bC->I
 | .t n=>uc n (s n)
 | .c av=>av
 | .f g=>.fn g []
theorem aQ.nothing {w:World} {F:Nat->Prop} {s:al} {aI:Nat->Value} {d:I} {v:Value} {S a7:Nat->Prop} (ay:d.plain=true) (h:aQ w F s aI d v S):aQ w F s aI d v a7:=by
 cases d<;>first
  |(rw[aQ];trivial)
  |(rw[aQ]at h⊢;exact h)
  |(have bI:=(aQ.du rfl).1 h;exact(aQ.du rfl).2 ⟨bI.1,aB.plain _ _ _ _ ay bI.2⟩)
section
variable {w0 w:World} {F0 X F:Nat->Prop} {S:Nat->Nat->Prop} {s:al} {aI:Nat->Value} {a:Act}
theorem Uj (s:al) (x:bC) (au:∀av,x= .c av->av.plain=true):(bA s x).plain=true:=by
 cases x with
 |t n=>simp only[bA,uc];split<;>first|assumption|rfl
 |c av=>exact au _ rfl
 |f g=>rfl
theorem MW {v:Value} {av:I} (h:Ir v=some av):av.plain=true:=by
 unfold Ir at h;split at h<;>simp at h<;>subst h<;>rfl
theorem gI (h:ch w0 F0 X F S s aI w) (fg:∀t,aI t=a.tmps.getD t undef) {o:Operand} {x:bC} (bS:eR o=some x):
  (bA s x).plain=true/\aQ w F s aI (bA s x) (a.eval o) (λ_=>False):=by
 cases o with
 |tmp n=>
  simp[eR]at bS;subst bS;simp only[bA,uc,Act.eval,<-fg];split
  .rename_i ay;exact⟨ay,aQ.nothing ay (h.eB n)⟩
  .rename_i ay;refine⟨rfl,?_⟩;rw[aQ];intro d aq MX;simp only[I.sub,some.injEq]at aq;subst aq;have a8:=jP (q:=[]) rfl (.inl MX);exact⟨_,none,rfl,rfl,((aQ.du a8).1 (h.eB n)).1⟩
 |const v=>
  simp only[eR,map_eq_some_iff]at bS;obtain⟨av,sE,rfl⟩:=bS;refine⟨MW sE,?_⟩;simp only[bA,Act.eval];unfold Ir at sE;split at sE<;>simp at sE<;>subst sE<;>rw[aQ,aB]<;>exact⟨rfl,rfl⟩
 |func g=>
  simp[eR]at bS;subst bS;refine⟨rfl,?_⟩;simp only[bA,Act.eval];rw[aQ];exact⟨#[],rfl,by rw[fe]⟩
 |global g=>simp[eR]at bS
def og (w0:World) (X F:Nat->Prop) (S:Nat->Nat->Prop) (s:al) (aI:Nat->Value) (w:World) (av:I) (v:Value):Prop:=
 (av.plain=true/\aQ w F s aI av v (λ_=>False))\/
 (av.tree=true/\e2 av v/\∃Sn,aB w F av (dd v) Sn/\(∀b,Sn b->b<w.heap.size)/\(∀b,Sn b->¬F b)/\(∀u b,Sn b->¬S u b)/\(∀b,Sn b->X b\/w0.heap.size<=b))
def fin (s:al) (dst:Option Nat) (av:I):al:=match dst with
 |none=>s
 |some t=>if av.plain then eu s t av else eu (oR t s) t av
def qw (aI:Nat->Value) (dst:Option Nat) (v:Value):Nat->Value:=match dst with
 |none=>aI
 |some t=>eu aI t v
theorem ch.fin (h:ch w0 F0 X F S s aI w) {av:I} {v:Value} (aJ:og w0 X F S s aI w av v) (dst:Option Nat):
  ∃a7,ch w0 F0 X F a7 (ep.fin s dst av) (qw aI dst v) w:=by
 cases dst with
 |none=>exact⟨S,h⟩
 |some t=>
  simp only[ep.fin,qw];rcases aJ with⟨ay,aq⟩|⟨a8,aa,Sn,ad,af,aG,bh,b6⟩
  .rw[if_pos ay];exact⟨_,h.Bp ay aq⟩
  .split
   .rename_i ay;exact⟨_,h.Bp ay ((aQ.du a8).2 ⟨aa,aB.plain _ _ _ _ ay ad⟩)⟩
   .exact⟨_,h.Ud a8 aa ad af aG (λu b _ ab=>bh u b ab) b6⟩
def dL (s:al):I->Option (I×al)
 | .h x q=>match I.sub q (s x)with
   |some d=>if d.plain then none else some (d,eu (jB x s) x (I.put q d.ej (s x)))
   |none=>none
 | .ay _ _=>none
 | .ab _ _=>none
 | .fn _ _=>none
 | .hole=>none
 |d=>some (d,s)
def I.owner:I->Option Nat
 | .h x _=>some x
 |_=>none
def ny:Option Nat->I->I
 |some x,d=>c1 x d
 |none,d=>d
theorem sF (h:ch w0 F0 X F S s aI w) {av d:I} {s1:al} {v:Value} (sE:av.plain=true) (aJ:aQ w F s aI av v (λ_=>False)) (a8:dL s av=some (d,s1)):
  ∃cT,ch w0 F0 X F cT s1 aI w/\d.tree=true/\e2 d v/\∃Sn,aB w F d (dd v) Sn/\(∀b,Sn b->b<w.heap.size)/\(∀b,Sn b->¬F b)/\(∀u b,Sn b->¬cT u b)/\(∀b,Sn b->X b\/w0.heap.size<=b)/\
   (∀u b,cT u b->S u b)/\(∀b,Sn b->∃u,S u b)/\(∀(bT:I) (hF:Value) (a7:Nat->Prop),aQ w F s aI bT hF a7->aQ w F s1 aI (ny av.owner bT) hF a7):=by
 have tree:∀d:I,d.tree=true->d.plain=true->aQ w F s aI d v (λ_=>False)->
   ∃cT,ch w0 F0 X F cT s aI w/\d.tree=true/\e2 d v/\∃Sn,aB w F d (dd v) Sn/\(∀b,Sn b->b<w.heap.size)/\(∀b,Sn b->¬F b)/\(∀u b,Sn b->¬cT u b)/\(∀b,Sn b->X b\/w0.heap.size<=b)/\
    (∀u b,cT u b->S u b)/\(∀b,Sn b->∃u,S u b):=by
  intro d aq _ bI;have bI:=(aQ.du aq).1 bI;exact⟨S,h,aq,bI.1,_,bI.2,λ_ h=>h.elim,λ_ h=>h.elim,λ_ _ h=>h.elim,λ_ h=>h.elim,λ_ _ h=>h,λ_ h=>h.elim⟩
 cases av with
 |h x q=>
  simp only[dL]at a8;split at a8
  .rename_i e he;split at a8
   .cases a8
   .rename_i ay;simp only[some.injEq,Prod.mk.injEq]at a8;obtain⟨rfl,rfl⟩:=a8;have ay:e.plain=false:=by simpa using ay
    obtain⟨Sn,gy,dH,dF,en,bd,c_,bR,cv,cU,ev⟩:=h.take he ay;rw[aQ]at aJ;obtain⟨axg,a2,g1,g2,g3⟩:=aJ e he ay;rw[bd]at g1;simp only[some.injEq,Prod.mk.injEq,true_and]at g1;obtain⟨rfl,rfl⟩:=g1;have Eu:e.tree=true:=by cases e<;>first|rfl|(simp[I.plain]at ay)
    refine⟨_,en,Eu,g3,gy,by rw[g2];exact c_,λb ab=>h.fG x b (bR b ab),λb ab=>h.gL x b (bR b ab),?_,λb ab=>h.e1 x b (bR b ab),?_,λb ab=>⟨x,bR b ab⟩,ev⟩
    .intro u b ab hu;simp only[hr]at hu;split at hu
     .exact cU b ab hu
     .rename_i ac5;exact h.gj u x b ac5 hu (bR b ab)
    .intro u b hu;simp only[hr]at hu;split at hu
     .rename_i e;subst e;exact cv b hu
     .exact hu
  .cases a8
 |ay x q=>simp[dL]at a8
 |ab x q=>simp[dL]at a8
 |fn f c=>simp[dL]at a8
 |hole=>simp[dL]at a8
 |ag sz xs=>simp[I.plain]at sE
 |aM d=>simp[I.plain]at sE
 |_=>
  simp only[dL,some.injEq,Prod.mk.injEq]at a8;obtain⟨rfl,rfl⟩:=a8;obtain⟨cT,t1,t2,t3,Sn,t4,t5,t6,t7,t8,t9,t10⟩:=tree _ rfl sE aJ;exact⟨cT,t1,t2,t3,Sn,t4,t5,t6,t7,t8,t9,t10,λ_ _ _ h=>h⟩
def loc (s:al):I->Option (Nat×azt)
 | .h x q=>match I.sub q (s x)with
   |some (.aM _)=>some (x,q++[0])
   |_=>none
 | .ay x q=>if I.gK q (s x)then some (x,q)else none
 |_=>none
theorem Ev:∀(q:azt) (av d:I) (r:azt),I.sub q av=some d->I.sub (q++r) av=I.sub r d:=by
 intro q;induction q with
 |nil=>intro av d r h;simp[I.sub]at h;subst h;rfl
 |cons k q ih=>
  intro av d r h;cases av with
  |agg aF=>
   simp only[I.sub,cons_append]at h⊢;split at h
   .rename_i x ao;exact ih _ _ _ h
   .cases h
  |tuple aF=>
   simp only[I.sub,cons_append]at h⊢;split at h
   .rename_i x ao;exact ih _ _ _ h
   .cases h
  |ag sz aF=>
   simp only[I.sub,cons_append]at h⊢;split at h
   .rename_i x ao;exact ih _ _ _ h
   .cases h
  |aM x=>
   cases k with
   |zero=>simp only[I.sub,cons_append]at h⊢;exact ih _ _ _ h
   |succ k=>simp[I.sub]at h
  |_=>simp[I.sub]at h
theorem ac6:∀(q:azt) (av d:I) (r:azt),I.sub q av=some d->I.gK (q++r) av=(I.gK q av||I.gK r d):=by
 intro q;induction q with
 |nil=>intro av d r h;simp[I.sub]at h;subst h;simp[I.gK]
 |cons k q ih=>
  intro av d r h;cases av with
  |agg aF=>
   simp only[I.sub]at h;split at h
   .rename_i x ao;simp only[I.gK,cons_append,ao];exact ih _ _ r h
   .cases h
  |tuple aF=>
   simp only[I.sub]at h;split at h
   .rename_i x ao;simp only[I.gK,cons_append,ao];exact ih _ _ r h
   .cases h
  |ag sz aF=>simp[I.gK]
  |aM x=>simp[I.gK]
  |_=>simp[I.sub]at h
theorem Ew (w:World):∀(q:azt) (av d:I) (cs dH:azw) (a dF:Option (Nat×Nat)) (r:azt),eF w q av cs a=some (d,dH,dF)->eF w (q++r) av cs a=eF w r d dH dF:=by
 intro q;induction q with
 |nil=>intro av d cs dH a dF r h;simp[eF]at h;obtain⟨rfl,rfl,rfl⟩:=h;rfl
 |cons k q ih=>
  intro av d cs dH a dF r h;cases av with
  |agg aF=>
   rw[cons_append];rw[eF]at h⊢;split at h
   .rename_i x ao;exact ih _ _ _ _ _ _ _ h
   .cases h
  |tuple aF=>
   rw[cons_append];rw[eF]at h⊢;split at h
   .rename_i x ao;exact ih _ _ _ _ _ _ _ h
   .cases h
  |ag sz aF=>
   rw[cons_append];rw[eF.eq_def]at h⊢;simp only at h⊢;split at h
   .exact ih _ _ _ _ _ _ _ h
   .cases h
  |aM x=>
   cases k with
   |zero=>
    rw[cons_append];rw[eF.eq_def]at h⊢;simp only at h⊢;split at h
    .exact ih _ _ _ _ _ _ _ h
    .cases h
   |succ k=>rw[show eF w ((k+1)::q) (.aM x) cs a=none from rfl]at h;cases h
  |_=>simp[eF]at h
end
def hW.ok (x:hW):Bool:=match x.k with
 | .other=>false
 |_=>true
theorem cx.fN.info {C:cx} (bW:C.fN) {t:TypeId} (h:(C.T t).ok=true):
  ∃i d z,C.P.info? t=some i/\i.size=(C.T t).sz/\i.bytes=(C.T t).bytes/\i.zero=some z/\(∀cs,flat (C.T t).zero=some cs->z.cells=cs.toArray)/\C.P.underlying t=some d/\oe (C.T t).k d:=by
 rcases bW.ty t with⟨e,n,b,z,ao,_⟩|bI
 .rw[ao]at h;simp[hW.ok]at h
 .exact bI
theorem hQ {x:hW} {k:qv} (h:x.k=k) (aw:k≠.other):x.ok=true:=by
 unfold hW.ok;rw[h];cases k<;>first|rfl|exact(aw rfl).elim
theorem Ex {d:TypeDesc} {aF:List (TypeId×Nat)} (h:oe (.struct aF) d):∃gs,d= .struct gs/\gs.toList.map (λg=>(g.type,g.offset))=aF:=by
 cases d<;>simp[oe]at h;exact⟨_,rfl,h⟩
theorem oU {d:TypeDesc} {e:TypeId} (h:oe (.slice e) d):d= .slice e:=by
 cases d<;>simp[oe]at h;rw[h]
theorem Is {d:TypeDesc} {k:IntKind} (h:oe (.int k) d):d= .int k:=by
 cases d<;>simp[oe]at h;rw[h]
theorem ud {d:TypeDesc} (h:oe .str d):d= .string:=by
 cases d<;>simp[oe]at h;rfl
theorem MY {d:TypeDesc} (h:oe .bool d):d= .bool:=by
 cases d<;>simp[oe]at h;rfl
theorem Uk {d:TypeDesc} {e:TypeId} (h:oe (.ptr e) d):d= .pointer e:=by
 cases d<;>simp[oe]at h;rw[h]
theorem ir {v:Value} (h:Value.hV v=true):dd v=[v]:=by
 cases v<;>first|rfl|(simp[Value.hV]at h)
theorem Ey {P:Program} {t:TypeId} {i:TypeInfo} (h:P.info? t=some i) (w:World):(typeInfo t).run P w= .ok i w:=by simp[typeInfo,h]
theorem nz {P:Program} {t:TypeId} {i:TypeInfo} (h:P.info? t=some i) (w:World):(Go.sizeOf t).run P w= .ok i.size w:=by simp[Go.sizeOf,Ey h]
theorem y8 {P:Program} {t:TypeId} {i:TypeInfo} {z:Value} (h:P.info? t=some i) (cd:i.zero=some z) (w:World):(zeroValue t).run P w= .ok z w:=by simp[zeroValue,Ey h,cd]
section
variable {C:cx} {w0 w:World} {F0 X F:Nat->Prop} {S:Nat->Nat->Prop} {s s1:al} {aI:Nat->Value} {av:I}
def Good (C:cx) (w0:World) (F0 X:Nat->Prop) (aI:Nat->Value) (w:World) (m:Sem Value) (av:I) (s1:al):Prop:=
 ∃v aO cq a7,m.run C.P w= .ok v aO/\ch w0 F0 X cq a7 s1 aI aO/\og w0 X cq a7 s1 aI aO av v
theorem Good.same (h:ch w0 F0 X F S s aI w) {m:Sem Value} {v:Value} (aR:m.run C.P w= .ok v w) (ay:av.plain=true) (aJ:aQ w F s aI av v (λ_=>False)):Good C w0 F0 X aI w m av s:=
 ⟨v,w,F,S,aR,h,.inl ⟨ay,aJ⟩⟩
theorem MZ (_h:ch w0 F0 X F S s aI w) {x:I} {v:Value} (aJ:aQ w F s aI x v (λ_=>False)) {y:Nat} {q:azt} (hl:loc s x=some (y,q)) {d:I} (aq:I.sub q (s y)=some d):
  I.gK q (s y)=true/\∃dH b o,v= .pointer (some ⟨b,o,none⟩)/\eF w q (s y) (dd (aI y)) none=some (d,dH,some (b,o)):=by
 cases x with
 |h z fA=>
  simp only[loc]at hl;split at hl
  .rename_i e he;simp only[some.injEq,Prod.mk.injEq]at hl;obtain⟨rfl,rfl⟩:=hl;rw[aQ]at aJ;obtain⟨dH,a,g1,g2,g3⟩:=aJ _ he rfl;have jy:e=d:=by
    rw[Ev _ _ _ _ he]at aq;simpa [I.sub]using aq
   subst jy;refine⟨by rw[ac6 _ _ _ _ he];simp[I.gK],?_⟩;have ad:Value.hV v=true:=g3;rw[ir ad]at g2;subst g2;have nx:=Ew w fA (s z) _ _ _ none a [0] g1;have ao:=_h.eB z;rw[aQ.du (jP he (.inl rfl))]at ao;obtain⟨hq,dF,fm,gy,k0,bZ,cu,dY,eb,eJ⟩:=ctx fA (s z) (dd (aI z)) (S z) none _ ao.2 he;rw[k0]at g1;simp only[some.injEq,Prod.mk.injEq,true_and]at g1;obtain⟨rfl,rfl⟩:=g1;rw[aB]at eb;obtain⟨b,cur,aW,fr,eM,aS,_⟩:=eb;simp only[cons.injEq,and_true]at aS;subst aS;exact⟨_,b,0,rfl,by rw[nx];rfl⟩
  .cases hl
 |ay z fA=>
  simp only[loc]at hl;split at hl
  .rename_i au;simp only[some.injEq,Prod.mk.injEq]at hl;obtain⟨rfl,rfl⟩:=hl;rw[aQ]at aJ;obtain⟨dH,b,o,g1,g2⟩:=aJ _ aq au;exact⟨au,dH,b,o,g2,g1⟩
  .cases hl
 |_=>simp[loc]at hl
def h9 (C:cx) (s:al) (T:TypeId) (x:I) (k:Nat):Option I:=
 match(C.T T).k with
 | .struct aF=>match aF[k]? with
   |some (me,off)=>if(C.T me).ok=true/\(C.T me).sz≠0 then
     match x with
     | .ref (.agg ds)=>match ds[k]? with
       |some d=>if I.fc (ds.take k)=off then some (.ref d)else none
       |none=>none
     | .ab y o=>if(s y).plain then none else some (.ab y (o+off))
     |x=>match loc s x with
      |some (y,q)=>match I.sub q (s y)with
       |some (.agg ds)=>if k<ds.length/\I.fc (ds.take k)=off then some (.ay y (q++[k]))else none
       |_=>none
      |none=>none
    else none
   |none=>none
 |_=>none
theorem jM.M0 {w:World} {b o:Nat} {ct hp c2:azw} (h:jM w b o (ct++(hp++c2))):jM w b (o+ct.length) hp:=by
 intro j c bQ;have eQ:j<hp.length:=(List.getElem?_eq_some_iff.1 bQ).1;have:=h (ct.length+j) c (by rw[getElem?_append_right (by omega),getElem?_append_left (by omega),<-bQ];congr 1;omega);rw[Nat.add_assoc];exact this
theorem M1 (bW:C.fN) {T me:TypeId} {aF:List (TypeId×Nat)} {k off:Nat} (aw:(C.T T).k= .struct aF) (bK:aF[k]? =some (me,off)) (ad:(C.T me).ok=true) (af:(C.T me).sz≠0) (b o:Nat) (w:World):
  (Instr.fieldAt T (.pointer (some ⟨b,o,none⟩)) k).run C.P w= .ok (.pointer (some ⟨b,o+off,none⟩)) w:=by
 obtain⟨i,d,z,aP,aW,aS,cf,cF,cw,cg⟩:=bW.info (hQ aw (by simp));rw[aw]at cg;obtain⟨gs,rfl,gk⟩:=Ex cg;obtain⟨ue,bT,vH,f1,f2,f3,f4,f5,f6,f7⟩:=bW.info ad;have hg:∃g,gs[k]? =some g/\g.type=me/\g.offset=off:=by
  rw[<-gk,getElem?_map]at bK;simp only[map_eq_some_iff,Prod.mk.injEq]at bK;obtain⟨g,ad,af,aG⟩:=bK;exact⟨g,by simpa using ad,af,aG⟩
 obtain⟨g,g1,rfl,rfl⟩:=hg;simp[Instr.fieldAt,run_underlying cw,g1,Instr.sureAddr,fieldPlace,nz f1,f2,af,Addr.add_lit]
theorem ac7 (bW:C.fN) (h:ch w0 F0 X F S s aI w) {T:TypeId} {x:I} {v:Value} {k:Nat} (ao:x.plain=true) (aJ:aQ w F s aI x v (λ_=>False)) (he:h9 C s T x k=some av):
  Good C w0 F0 X aI w (Instr.fieldAt T v k) av s:=by
 unfold h9 at he;split at he
 .rename_i aF aw;split at he
  .rename_i me off bK;split at he
   .rename_i Bs;split at he
    .rename_i ds;split at he
     .rename_i d aq;split at he
      .rename_i uf;simp only[some.injEq]at he;subst he;have oh:=(aQ.du rfl).1 aJ;rw[aB]at oh;obtain⟨aa,b,o,fv,ad,af,aG,bh⟩:=oh;rw[ir aa]at ad;simp only[cons.injEq,and_true]at ad;subst ad;rw[aB]at bh;obtain⟨ct,hp,c2,cT,jN,rfl,jA,hc,i7,ki,hD,pf⟩:=bz.pick ds _ _ k d bh aq;refine Good.same h (M1 bW aw bK Bs.1 Bs.2 b o w) rfl ((aQ.du rfl).2 ⟨rfl,?_⟩);rw[aB];refine⟨b,o+off,hp,rfl,af,?_,aB.mono (λ_ h=>h) _ _ _ _ (λb ab=>i7 b ab) hD⟩;rw[<-uf,<-jA];exact aG.M0
      .cases he
     .cases he
    .rename_i y o;split at he
     .cases he
     .rename_i ay;simp only[some.injEq]at he;subst he;rw[aQ]at aJ;obtain⟨b,cur,e,fr,rfl,af,aG,bh⟩:=aJ (by simpa using ay);refine Good.same h (M1 bW aw bK Bs.1 Bs.2 b o w) rfl ?_;rw[aQ];exact λ_=>⟨b,cur,e,fr,rfl,af,aG,bh⟩
    .rename_i x _ _;split at he
     .rename_i y q hl;split at he
      .rename_i ds aq;split at he
       .rename_i uf;simp only[some.injEq]at he;subst he;obtain⟨au,dH,b,o,rfl,nx⟩:=MZ h aJ hl aq;refine Good.same h (M1 bW aw bK Bs.1 Bs.2 b o w) rfl ?_;rw[aQ];intro d2 hP ly;rw[Ew w q _ _ _ _ _ _ [k] nx];rw[Ev _ _ _ _ aq]at hP;have pj:∃d3,ds[k]? =some d3:=⟨_,getElem?_eq_getElem uf.1⟩
        obtain⟨d3,Ez⟩:=pj;simp only[I.sub,Ez,some.injEq]at hP;subst hP;simp only[eF,Ez];refine⟨(dH.drop off).take d3.wd,b,o+off,?_,rfl⟩;rw[uf.2];rfl
       .cases he
      .cases he
     .cases he
   .cases he
  .cases he
 .cases he
def kS (C:cx) (s:al) (T:TypeId) (x i:I):Option I:=
 match(C.T T).k,i with
 | .slice e,.int _ n=>if 0<=n/\(C.T e).ok=true then
   match x with
   | .slice xs=>match xs[n.toNat]? with
     |some d=>if d.wd=(C.T e).sz then some (.ref d)else none
     |none=>none
   | .h y q=>match I.sub q (s y)with
     |some (.ag sz xs)=>if n.toNat<xs.length/\sz=(C.T e).sz then some (.ay y (q++[n.toNat]))else none
     |_=>none
   |_=>none
   else none
 |_,_=>none
theorem Ul (bW:C.fN) {T e:TypeId} (aw:(C.T T).k= .slice e) (he:(C.T e).ok=true) (b o len cap:Nat) (k:IntKind) (n:Nat) (aX:n<len) (w:World):
  (Instr.indexAt T (.slice (some ⟨b,o,none⟩) len cap) (.int k n)).run C.P w= .ok (.pointer (some ⟨b,o+n*(C.T e).sz,none⟩)) w:=by
 obtain⟨i,d,z,aP,aW,aS,cf,cF,cw,cg⟩:=bW.info (hQ aw (by simp));rw[aw]at cg;have:=oU cg;subst this;obtain⟨ue,bT,vH,f1,f2,f3,f4,f5,f6,f7⟩:=bW.info he;simp[Instr.indexAt,run_underlying cw,asIntOf,aX,nz f1,f2,Addr.add_lit]
theorem ac8 (bW:C.fN) (h:ch w0 F0 X F S s aI w) {T:TypeId} {x i:I} {v q9:Value} (aJ:aQ w F s aI x v (λ_=>False)) (ac9:aQ w F s aI i q9 (λ_=>False))
  (he:kS C s T x i=some av):Good C w0 F0 X aI w (Instr.indexAt T v q9) av s:=by
 unfold kS at he;split at he
 .rename_i e k n aw;have M3:=(aQ.du rfl).1 ac9;rw[aB,ir M3.1]at M3;have:q9= .int k n:=by simpa using M3.2
  subst this;split at he
  .rename_i aX;obtain⟨n,rfl⟩:=Int.eq_ofNat_of_zero_le aX.1;simp only[Int.toNat_natCast]at he;split at he
   .rename_i xs;split at he
    .rename_i d aq;split at he
     .rename_i hw;simp only[some.injEq]at he;subst he;have oh:=(aQ.du rfl).1 aJ;rw[aB,ir oh.1]at oh;obtain⟨aa,⟨rfl,_⟩|⟨b,o,cap,fv,sz,ad,af,aG,bh,b6,dt,dj⟩⟩:=oh
      .simp at aq
      .simp only[cons.injEq,and_true]at ad;subst ad;have eQ:n<xs.length:=(List.getElem?_eq_some_iff.1 aq).1;obtain⟨ct,hp,c2,cT,jN,rfl,jA,hc,i7,ki,hD,pf⟩:=bz.pick xs _ _ n d dj aq;refine Good.same h (Ul bW aw aX.2 b o _ _ k n eQ w) rfl ((aQ.du rfl).2 ⟨rfl,?_⟩);rw[aB];refine⟨b,_,hp,rfl,af,?_,aB.mono (λ_ h=>h) _ _ _ _ (λb ab=>i7 b ab) hD⟩;have ac_:=b6 d (mem_of_getElem? aq);have:n*(C.T e).sz=ct.length:=by
        rw[jA,y3 _ (λd aq=>b6 d (mem_of_mem_take aq)),length_take,Nat.min_eq_left (by omega),<-hw,ac_]
       rw[this];exact dt.M0
     .cases he
    .cases he
   .rename_i y q;split at he
    .rename_i sz xs aq;split at he
     .rename_i hw;simp only[some.injEq]at he;subst he;rw[aQ]at aJ;obtain⟨dH,a,g1,g2,g3⟩:=aJ _ aq rfl;have aa:Value.hV v=true:=g3;rw[ir aa]at g2;subst g2;have ao:=h.eB y;rw[aQ.du (jP aq (.inl rfl))]at ao;obtain⟨hq,dF,fm,gy,k0,bZ,cu,dY,eb,eJ⟩:=ctx q (s y) (dd (aI y)) (S y) none _ ao.2 aq;rw[k0]at g1;simp only[some.injEq,Prod.mk.injEq,true_and]at g1;obtain⟨rfl,rfl⟩:=g1;rw[aB]at eb;rcases eb with⟨rfl,_⟩|⟨b,cap,cur,aW,fr,eM,aS,_⟩
      .simp at hw
      .simp only[cons.injEq,and_true]at aS;subst aS;refine Good.same h (Ul bW aw aX.2 b 0 _ _ k n hw.1 w) rfl ?_;rw[aQ];intro d2 hP _;rw[Ew w q _ _ _ _ _ _ [n] k0];rw[Ev _ _ _ _ aq]at hP;obtain⟨d3,Ez⟩:∃d3,xs[n]? =some d3:=⟨_,getElem?_eq_getElem hw.1⟩
       simp only[I.sub,Ez,some.injEq]at hP;subst hP;simp only[eF,Ez];exact⟨_,b,n*sz,rfl,by simp[hw.2]⟩
     .cases he
    .cases he
   .cases he
  .cases he
 .cases he
end
section
variable {C:cx} {w0 w:World} {F0 X F:Nat->Prop} {S:Nat->Nat->Prop} {s s1:al} {aI:Nat->Value} {av:I}
theorem Um (bW:C.fN) {T:TypeId} {aF:List (TypeId×Nat)} (aw:(C.T T).k= .struct aF) (w:World):(isAgg T).run C.P w= .ok true w:=by
 obtain⟨i,d,z,aP,aW,aS,cf,cF,cw,cg⟩:=bW.info (hQ aw (by simp));rw[aw]at cg;obtain⟨gs,rfl,_⟩:=Ex cg;simp[isAgg,run_underlying cw]
def hW.flat (x:hW):Bool:=match x.k with
 | .other=>false
 | .gH _=>false
 | .struct _=>false
 |_=>true
theorem Un {x:hW} (h:x.flat=true):x.ok=true:=by
 unfold hW.flat at h;unfold hW.ok;revert h;cases x.k<;>simp
theorem M4 (bW:C.fN) {T:TypeId} (aw:(C.T T).flat=true) (w:World):(isAgg T).run C.P w= .ok false w:=by
 obtain⟨i,d,z,aP,aW,aS,cf,cF,cw,cg⟩:=bW.info (Un aw);have eo:(∀aF,d≠.struct aF)/\(∀n e,d≠.array n e):=by
  clear cw;unfold hW.flat at aw;generalize (C.T T).k=nA at*;cases nA<;>cases d<;>simp[oe]at cg aw⊢
 cases d<;>first|exact(eo.1 _ rfl).elim|exact(eo.2 _ _ rfl).elim|simp[isAgg,run_underlying cw]
theorem jM.one {w:World} {b o:Nat} {v:Value} (h:jM w b o [v]):w.cell? ⟨b,o,none⟩=some v:=by simpa using h 0 v rfl
theorem Uo {P:Program} {b o:Nat}:∀(cs:azw) (i:Nat) (acc:Array Value),jM w b (o+i) cs->(loadCellsFrom ⟨b,o,none⟩ i cs.length acc).run P w= .ok (acc++cs.toArray) w
 |[],i,acc,_=>by simp[loadCellsFrom]
 |c::cs,i,acc,h=>by
  have a_:w.cell? ⟨b,o+i,none⟩=some c:=by simpa using h 0 c rfl
  have ad:jM w b (o+(i+1)) cs:=by
   intro j x bQ;have:=h (j+1) x (by simpa using bQ);rw[<-this];congr 2;omega
  have ih:=Uo (P:=P) cs (i+1) (acc.push c) ad;simp only[length_cons,loadCellsFrom,Sem.run_bind,Go.load,Sem.run,Addr.add_lit,a_,Result.andThen];rw[ih];simp
theorem ada (bW:C.fN) {T:TypeId} {aF:List (TypeId×Nat)} (aw:(C.T T).k= .struct aF) {b o:Nat} {cs:azw} (h:jM w b o cs) (hl:cs.length=(C.T T).sz):
  (loadVar T ⟨b,o,none⟩).run C.P w= .ok (.agg cs.toArray) w:=by
 obtain⟨i,d,z,aP,aW,aS,cf,cF,cw,cg⟩:=bW.info (hQ aw (by simp));have:=Uo (P:=C.P) (b:=b) (o:=o) cs 0 #[] (by simpa using h);simp only[loadVar,Sem.run_bind,Um bW aw,Result.andThen,if_true,nz aP,aW,<-hl,loadCells,this];simp
theorem Up (bW:C.fN) {T:TypeId} (aw:(C.T T).flat=true) {b o:Nat} {v:Value} (h:jM w b o [v]):
  (loadVar T ⟨b,o,none⟩).run C.P w= .ok v w:=by
 simp[loadVar,M4 bW aw,Go.load,Sem.run,h.one]
def fits (C:cx) (T:TypeId) (d:I):Bool:=match(C.T T).k,d with
    | .struct _,.agg ds=>I.fc ds==(C.T T).sz
    | .struct _,_=>false
    |_,.agg _=>false
    |_,.tuple _=>false
    |_,_=>(C.T T).flat
def It:azy->Nat->Nat->Option Nat
 |[],_,_=>none
 |d::ds,i,k=>if k=0 then some i else if d.wd<=k then It ds (i+1) (k-d.wd)else none
def fX (C:cx) (s:al) (T:TypeId) (x:I):Option I:=
 match x with
 | .ref d=>if fits C T d=true then some d else none
 | .ab y k=>match s y with
   | .agg ds=>if I.e_ ds then none else match It ds 0 k with
     |some i=>match ds[i]? with
      |some d=>if I.fc (ds.take i)=k/\fits C T d=true then some (if d.plain then d else .h y [i])else none
      |none=>none
     |none=>none
   |_=>none
 |x=>match loc s x with
  |some (y,q)=>match I.sub q (s y)with
   |some d=>if fits C T d=true then some (if d.plain then d else .h y q)else none
   |none=>none
  |none=>none
theorem aB.one {F:Nat->Prop} {d:I} {cs:azw} {S:Nat->Prop} (h:aB w F d cs S) (ad:∀aF,d≠.agg aF) (af:∀aF,d≠.tuple aF):∃v,cs=[v]/\Value.hV v=true:=by
 cases d with
 |hole=>rw[aB]at h;obtain⟨v,h,rfl⟩:=h;exact⟨v,rfl,h⟩
 |gx=>rw[aB]at h;obtain⟨v,rfl⟩:=h;exact⟨_,rfl,rfl⟩
 |slice xs=>rw[aB]at h;rcases h with⟨_,a,c,rfl,_⟩|⟨b,o,cap,fv,sz,rfl,_⟩<;>exact⟨_,rfl,rfl⟩
 |ag sz xs=>rw[aB]at h;rcases h with⟨_,_,rfl⟩|⟨b,cap,cur,e,fr,e1,rfl,_⟩<;>exact⟨_,rfl,rfl⟩
 |ref d=>rw[aB]at h;obtain⟨b,o,fv,rfl,_⟩:=h;exact⟨_,rfl,rfl⟩
 |aM d=>rw[aB]at h;obtain⟨b,cur,e,fr,e1,rfl,_⟩:=h;exact⟨_,rfl,rfl⟩
 |agg aF=>exact(ad _ rfl).elim
 |tuple aF=>exact(af _ rfl).elim
 |fn _ _=>rw[aB]at h;obtain⟨arr,rfl,_⟩:=h;exact⟨_,rfl,rfl⟩
 |h _ _=>rw[aB]at h;exact h.elim
 |ay _ _=>rw[aB]at h;exact h.elim
 |ab _ _=>rw[aB]at h;exact h.elim
 |cj _=>rw[aB]at h;obtain⟨v,i6,rfl⟩:=oP.one h;exact⟨v,rfl,i6⟩
 |_=>rw[aB]at h;subst h;exact⟨_,rfl,rfl⟩
theorem I.Iu {d:I} (h:d.single=true):(∀aF,d≠.agg aF)/\∀aF,d≠.tuple aF:=
 ⟨λaF e=>(by subst e;cases h),λaF e=>(by subst e;cases h)⟩
theorem aQ.sG {F:Nat->Prop} {s:al} {aI:Nat->Value} {d:I} {v:Value} (a8:d.tree=true) (aa:d.single=true) (h:aB w F d [v] (λ_=>False)):aQ w F s aI d v (λ_=>False):=by
 obtain⟨hF,e,ad⟩:=aB.one h (I.Iu aa).1 (I.Iu aa).2;have:v=hF:=by simpa using e
 subst this;refine(aQ.du a8).2 ⟨?_,by rw[ir ad];exact h⟩;cases d<;>first|exact ad|cases aa
mutual
theorem aQ.ug {F:Nat->Prop} {s:al} {aI:Nat->Value}:∀(d:I) (v:Value),d.single=true->aB w F d [v] (λ_=>False)->aQ w F s aI d v (λ_=>False)
 | .fn f caps,v,_,h=>by
   rw[aB]at h;obtain⟨arr,ad,af,aG⟩:=h;rw[aQ];exact⟨arr,by simpa using ad,fe.ug caps _ af aG⟩
 | .bool b,v,aa,h=>aQ.sG rfl aa h
 | .gx,v,aa,h=>aQ.sG rfl aa h
 | .int k n,v,aa,h=>aQ.sG rfl aa h
 | .str x,v,aa,h=>aQ.sG rfl aa h
 | .eA,v,aa,h=>aQ.sG rfl aa h
 | .bf,v,aa,h=>aQ.sG rfl aa h
 | .slice xs,v,aa,h=>aQ.sG rfl aa h
 | .ag sz xs,v,aa,h=>aQ.sG rfl aa h
 | .ref d,v,aa,h=>aQ.sG rfl aa h
 | .aM d,v,aa,h=>aQ.sG rfl aa h
 | .h _ _,v,_,h=>by rw[aB]at h;exact h.elim
 | .ay _ _,v,_,h=>by rw[aB]at h;exact h.elim
 | .ab _ _,v,_,h=>by rw[aB]at h;exact h.elim
 | .cj _,v,aa,h=>aQ.sG rfl aa h
theorem fe.ug {F:Nat->Prop} {s:al} {aI:Nat->Value}:∀(ds:azy) (vs:azw),(∀d∈ds,d.single=true)->bz w F ds vs (λ_=>False)->fe w F s aI ds vs
 |[],vs,_,h=>by rw[bz]at h;rw[fe];exact h
 |d::ds,vs,aa,h=>by
  rw[bz]at h;obtain⟨ct,c2,cT,eM,rfl,af,aG,bh,b6,_⟩:=h;have aq:=aa d (by simp);obtain⟨v,rfl,_⟩:=aB.one af (I.Iu aq).1 (I.Iu aq).2;rw[fe];exact⟨v,c2,rfl,aQ.ug d v aq (aB.mono (λ_ h=>h) _ _ _ _ (λb ab=>bh b ab) af),fe.ug ds c2 (λx ao=>aa x (by simp[ao])) (bz.mono (λ_ h=>h) _ _ _ _ (λb ab=>b6 b ab) aG)⟩
end
theorem Iv (bW:C.fN) {T:TypeId} {d:I} {b o:Nat} {cs:azw} {S:Nat->Prop} (h:jM w b o cs) (aq:aB w F d cs S)
  (ky:fits C T d=true):
  ∃v,(loadVar T ⟨b,o,none⟩).run C.P w= .ok v w/\dd v=cs/\e2 d v:=by
 unfold fits at ky;by_cases aa:∃aF,(C.T T).k= .struct aF
 .obtain⟨aF,aw⟩:=aa;rw[aw]at ky;cases d with
  |agg ds=>
   simp only[beq_iff_eq]at ky;refine⟨_,ada bW aw h ((aB.length _ _ _ aq).trans ky),rfl,⟨_,rfl⟩⟩
  |_=>simp at ky
 .have jl:(C.T T).flat=true/\(∀aF,d≠.agg aF)/\(∀aF,d≠.tuple aF):=by
   revert ky aa;cases aw:(C.T T).k<;>cases d<;>simp
  obtain⟨v,rfl,ad⟩:=aB.one aq jl.2.1 jl.2.2;refine⟨v,Up bW jl.1 h,ir ad,?_⟩;cases d<;>first|exact ad|exact(jl.2.1 _ rfl).elim|exact(jl.2.2 _ rfl).elim
theorem adb (bW:C.fN) {T:TypeId} {d:I} {off:Nat} {arr:Array Value} {ct cs c2:azw} {S:Nat->Prop} (he:arr.toList=ct++(cs++c2)) (bS:ct.length=off) (aq:aB w F d cs S)
  (ky:fits C T d=true):
  ∃v,(part T arr off).run C.P w= .ok v w/\dd v=cs/\e2 d v:=by
 unfold fits at ky;by_cases aa:∃aF,(C.T T).k= .struct aF
 .obtain⟨aF,aw⟩:=aa;rw[aw]at ky;cases d with
  |agg ds=>
   simp only[beq_iff_eq]at ky;obtain⟨i,d,z,aP,aW,aS,cf,cF,cw,cg⟩:=bW.info (hQ aw (by simp));have hl:cs.length=(C.T T).sz:=(aB.length _ _ _ aq).trans ky;have ao:(arr.extract off (off+(C.T T).sz)).toList=cs:=by
    rw[Array.toList_extract,he,extract_eq_take_drop,<-hl,<-bS,Nat.add_sub_cancel_left,drop_left,take_left]
   refine⟨.agg (arr.extract off (off+(C.T T).sz)),?_,by simpa [dd,jO]using ao,⟨_,rfl⟩⟩;simp[part,Um bW aw,nz aP,aW]
  |_=>simp at ky
 .have jl:(C.T T).flat=true/\(∀aF,d≠.agg aF)/\(∀aF,d≠.tuple aF):=by
   revert ky aa;cases aw:(C.T T).k<;>cases d<;>simp
  obtain⟨v,rfl,ad⟩:=aB.one aq jl.2.1 jl.2.2;have hg:arr[off]? =some v:=by
   rw[<-Array.getElem?_toList,he,<-bS,getElem?_append_right (Nat.le_refl _)];simp
  refine⟨v,?_,ir ad,?_⟩
  .simp[part,M4 bW jl.1,hg]
  .cases d<;>first|exact ad|exact(jl.2.1 _ rfl).elim|exact(jl.2.2 _ rfl).elim
theorem ade (bW:C.fN) (h:ch w0 F0 X F S s aI w) {T:TypeId} {x:I} {v:Value} (aJ:aQ w F s aI x v (λ_=>False)) (he:fX C s T x=some av):
  Good C w0 F0 X aI w (Instr.loadAt T v) av s:=by
 unfold fX at he;split at he
 .rename_i d;split at he
  .rename_i ky;simp only[some.injEq]at he;subst he;have oh:=(aQ.du rfl).1 aJ;rw[aB,ir oh.1]at oh;obtain⟨aa,b,o,fv,ad,af,aG,bh⟩:=oh;simp only[cons.injEq,and_true]at ad;subst ad;obtain⟨hF,aR,au,na⟩:=Iv bW aG bh ky;have fF:(Instr.loadAt T (.pointer (some ⟨b,o,none⟩))).run C.P w= .ok hF w:=by simp[Instr.loadAt,Instr.sureAddr,aR]
   refine⟨hF,w,F,S,fF,h,?_⟩;by_cases a8:d.tree=true
   .exact .inr ⟨a8,na,λ_=>False,by rw[au];exact bh,λ_ h=>h.elim,λ_ h=>h.elim,λ_ _ h=>h.elim,λ_ h=>h.elim⟩
   .cases d<;>first|exact(a8 rfl).elim|(rw[aB]at bh;exact bh.elim)|exact .inl ⟨rfl,by rw[aQ];trivial⟩|(have b6:=bh;rw[aB]at b6;obtain⟨arr,e,_⟩:=b6;rw[<-au]at e bh;rw[ir (by exact na)]at bh;exact .inl ⟨rfl,aQ.ug _ _ rfl bh⟩)
  .cases he
 .rename_i y k;split at he
  .rename_i ds qx;split at he
   .cases he
   .rename_i EA;split at he
    .rename_i i ai;split at he
     .rename_i d aq;split at he
      .rename_i ky;simp only[some.injEq]at he;have fO:(s y).plain=false:=by rw[qx];simp only[I.plain];simpa using EA
       rw[aQ]at aJ;obtain⟨b,cur,e,fr,rfl,af,aG,bh⟩:=aJ fO;have hy:=h.eB y;rw[qx]at hy;have Uq:=((aQ.du rfl).1 hy).2;rw[aB]at Uq;obtain⟨ct,hp,c2,cT,jN,iT,jA,hc,i7,ki,hD,pf⟩:=bz.pick ds _ _ i d Uq aq;have mB:jM w b k hp:=by
        intro j c bQ;have eQ:j<hp.length:=(List.getElem?_eq_some_iff.1 bQ).1;have:cur.toList[k+j]? =some c:=by
         rw[bh,iT,getElem?_append_right (by omega),getElem?_append_left (by omega),<-bQ];congr 1;omega
        simp[World.cell?,aG];simpa using this
       obtain⟨hF,aR,au,na⟩:=Iv bW mB hD ky.2;have fF:(Instr.loadAt T (.pointer (some ⟨b,k,none⟩))).run C.P w= .ok hF w:=by simp[Instr.loadAt,Instr.sureAddr,aR]
       refine⟨hF,w,F,S,fF,h,?_⟩;split at he
       .rename_i ay;subst he;by_cases a8:d.tree=true
        .exact .inl ⟨ay,(aQ.du a8).2 ⟨na,by rw[au];exact aB.plain _ _ _ _ ay hD⟩⟩
        .cases d<;>first|exact(a8 rfl).elim|(rw[aB]at hD;exact hD.elim)|exact .inl ⟨rfl,by rw[aQ];trivial⟩|(have b6:=aB.plain _ _ _ (λ_=>False) ay hD;rw[<-au]at b6;rw[ir (by exact na)]at b6;exact .inl ⟨rfl,aQ.ug _ _ rfl b6⟩)
       .subst he;refine .inl ⟨rfl,?_⟩;rw[aQ];intro d2 hP _;rw[qx]at hP⊢;simp only[I.sub,aq,some.injEq]at hP;subst hP;refine⟨hp,none,?_,au,na⟩;simp only[eF,aq];rw[iT,y1 ct hp c2 _ _ jA (aB.length _ _ _ hD)];rfl
      .cases he
     .cases he
    .cases he
  .cases he
 .rename_i x _ _;split at he
  .rename_i y q hl;split at he
   .rename_i d aq;split at he
    .rename_i ky;simp only[some.injEq]at he;obtain⟨sH,dH,b,o,rfl,nx⟩:=MZ h aJ hl aq;have hy:=h.eB y;rw[aQ.du (jP aq (.inr sH))]at hy;obtain⟨hq,dF,fm,gy,k0,bZ,cu,dY,eb,eJ⟩:=ctx q (s y) (dd (aI y)) (S y) none _ hy.2 aq;rw[k0]at nx;simp only[some.injEq,Prod.mk.injEq,true_and]at nx;obtain⟨rfl,rfl⟩:=nx;have mB:jM w b o hq:=by
      rcases eJ with⟨l,r,aP,aW,_⟩|⟨gW,cur,e,fr,l,r,aP,aW,aS,cf,cF,_⟩
      .simp at aW
      .simp only[some.injEq,Prod.mk.injEq]at aP;obtain⟨rfl,rfl⟩:=aP;intro j c bQ;have eQ:j<hq.length:=(List.getElem?_eq_some_iff.1 bQ).1;have:cur.toList[l.length+j]? =some c:=by
        rw[cF,getElem?_append_right (by omega),getElem?_append_left (by omega),<-bQ];congr 1;omega
       simp[World.cell?,aS];simpa using this
     obtain⟨hF,aR,au,na⟩:=Iv bW mB eb ky;have fF:(Instr.loadAt T (.pointer (some ⟨b,o,none⟩))).run C.P w= .ok hF w:=by simp[Instr.loadAt,Instr.sureAddr,aR]
     refine⟨hF,w,F,S,fF,h,?_⟩;split at he
     .rename_i ay;subst he;by_cases a8:d.tree=true
      .exact .inl ⟨ay,(aQ.du a8).2 ⟨na,by rw[au];exact aB.plain _ _ _ _ ay eb⟩⟩
      .cases d<;>first|exact(a8 rfl).elim|(rw[aB]at eb;exact eb.elim)|exact .inl ⟨rfl,by rw[aQ];trivial⟩|(have b6:=aB.plain _ _ _ (λ_=>False) ay eb;rw[<-au]at b6;rw[ir (by exact na)]at b6;exact .inl ⟨rfl,aQ.ug _ _ rfl b6⟩)
     .subst he;refine .inl ⟨rfl,?_⟩;rw[aQ];intro d2 hP _;rw[aq]at hP;simp only[some.injEq]at hP;subst hP;exact⟨_,_,k0,au,na⟩
    .cases he
   .cases he
  .cases he
mutual
theorem aB.y9 {F:Nat->Prop}:∀(d:I) (cs:azw) (S:Nat->Prop),aB w F d cs S->∀c∈cs,Value.hV c=true
 | .hole,cs,S,h=>by rw[aB]at h;obtain⟨v,h,rfl⟩:=h;simpa using h
 | .bool _,cs,S,h=>by rw[aB]at h;subst h;simp[Value.hV]
 | .gx,cs,S,h=>by rw[aB]at h;obtain⟨b,rfl⟩:=h;simp[Value.hV]
 | .int _ _,cs,S,h=>by rw[aB]at h;subst h;simp[Value.hV]
 | .str _,cs,S,h=>by rw[aB]at h;subst h;simp[Value.hV]
 | .eA,cs,S,h=>by rw[aB]at h;subst h;simp[Value.hV]
 | .bf,cs,S,h=>by rw[aB]at h;subst h;simp[Value.hV]
 | .slice xs,cs,S,h=>by
   rw[aB]at h;rcases h with⟨_,a,c,rfl,_⟩|⟨b,o,cap,fv,sz,rfl,_⟩<;>simp[Value.hV]
 | .ag sz xs,cs,S,h=>by
   rw[aB]at h;rcases h with⟨_,_,rfl⟩|⟨b,cap,cur,e,fr,a7,rfl,_⟩<;>simp[Value.hV]
 | .ref d,cs,S,h=>by rw[aB]at h;obtain⟨b,o,fv,rfl,_⟩:=h;simp[Value.hV]
 | .aM d,cs,S,h=>by rw[aB]at h;obtain⟨b,o,fv,_,_,rfl,_⟩:=h;simp[Value.hV]
 | .agg aF,cs,S,h=>by rw[aB]at h;exact bz.y9 aF _ _ h
 | .tuple aF,cs,S,h=>by rw[aB]at h;exact bz.y9 aF _ _ h
 | .fn _ _,cs,S,h=>by rw[aB]at h;obtain⟨arr,rfl,_⟩:=h;simp[Value.hV]
 | .h _ _,cs,S,h=>by rw[aB]at h;exact h.elim
 | .ay _ _,cs,S,h=>by rw[aB]at h;exact h.elim
 | .ab _ _,cs,S,h=>by rw[aB]at h;exact h.elim
 | .cj _,cs,S,h=>by rw[aB]at h;obtain⟨v,i6,rfl⟩:=oP.one h;simpa using i6
theorem bz.y9 {F:Nat->Prop}:∀(ds:azy) (cs:azw) (S:Nat->Prop),bz w F ds cs S->∀c∈cs,Value.hV c=true
 |[],cs,S,h=>by rw[bz]at h;subst h;simp
 |d::ds,cs,S,h=>by
  rw[bz]at h;obtain⟨ct,c2,cT,eM,rfl,af,aG,_⟩:=h;intro c au;rcases mem_append.1 au with au|au
  .exact aB.y9 d _ _ af c au
  .exact bz.y9 ds _ _ aG c au
end
theorem Iw {P:Program} {b o:Nat} {e:TypeId} {fr:Nat×Nat}:∀(vs:azw) (i:Nat) (cur:Array Value) (w:World) (l m r:azw),w.heap[b]? =some (.cells cur e fr)->pV fr cur.size->
  cur.toList=l++(m++r)->l.length=o+i->m.length=vs.length->(∀v∈vs,Value.hV v=true)->
  ∃aO,(storeCells ⟨b,o,none⟩ vs i).run P w= .ok () aO/\aO.heap[b]? =some (.cells (l++(vs++r)).toArray e fr)/\(∀c,c≠b->aO.heap[c]? =w.heap[c]?)/\aO.heap.size=w.heap.size/\aO.os=w.os/\aO.tape=w.tape/\Out aO w
 |[],i,cur,w,l,m,r,ab,bK,au,hl,hm,_=>by
  refine⟨w,rfl,?_,λ_ _=>rfl,rfl,rfl,rfl,Out.refl _⟩;have:m=[]:=by simpa using hm
  subst this;rw[ab];have:cur=(l++([]++r)).toArray:=by rw[<-au]
  rw[<-this]
 |v::vs,i,cur,w,l,m,r,ab,bK,au,hl,hm,Ix=>by
  obtain⟨x,m,rfl⟩:∃x jY,m=x::jY:=by cases m with
   |nil=>simp at hm
   |cons x m=>exact⟨x,m,rfl⟩
  have hlen:cur.size=(l++(x::m++r)).length:=by rw[<-au];simp
  have eQ:o+i<cur.size:=by rw[hlen];simp;omega
  have Iy:w.cell? ⟨b,o+i,none⟩=some cur[o+i]:=by simp[World.cell?,ab,eQ]
  have adf:w.frozen? ⟨b,o+i,none⟩=false:=by
   have:=bK (o+i) eQ;simp only[World.frozen?,ab];simp only[Bool.and_eq_false_iff,decide_eq_false_iff_not];by_cases ad:fr.1<=o+i
   .right;exact λaf=>this ⟨ad,af⟩
   .left;exact ad
  have xC:(w.setCell ⟨b,o+i,none⟩ v).heap[b]? =some (.cells ((l++[v])++(m++r)).toArray e fr):=by
   simp only[World.setCell,Array.getElem?_modify,if_true,ab,map_some,isSome_none,Bool.false_eq_true,if_false];congr 2;apply Array.ext';rw[Array.toList_setIfInBounds,au,<-hl,set_append_right _ _ (Nat.le_refl _)];simp
  have y_:(store ((⟨b,o,none⟩:Addr).add i) v).run P w= .ok () (w.setCell ⟨b,o+i,none⟩ v):=by
   have ad:=Ix v (by simp);rw[Addr.add_lit];cases v<;>first|(simp[Value.hV]at ad;done)|simp[Go.store,Sem.run,Iy,adf]
  obtain⟨aO,g1,g2,g3,g4,g5,g6,g7⟩:=Iw (P:=P) (b:=b) (o:=o) vs (i+1) _ (w.setCell ⟨b,o+i,none⟩ v) (l++[v]) m r xC (by
   have:(l++[v]++(m++r)).toArray.size=cur.size:=by rw[hlen];simp
   rw[this];exact bK) (by simp) (by simp;omega) (by simpa using hm) (λu hu=>Ix u (by simp[hu]))
  refine⟨aO,?_,by simpa using g2,λc au=>?_,?_,g5,g6,g7⟩
  .simp only[storeCells,Sem.run_bind,y_,Result.andThen];exact g1
  .rw[g3 c au];simp only[World.setCell,Array.getElem?_modify];rw[if_neg (λe=>au e.symm)]
  .rw[g4];simp[World.setCell]
theorem EB {d:I} {v:Value} (h:e2 d v) (aq:∀aF,d≠.tuple aF):v.cells=(dd v).toArray:=by
 cases d with
 |tuple aF=>exact(aq _ rfl).elim
 |agg aF=>obtain⟨arr,rfl⟩:=h;simp[Value.cells,dd,jO]
 |_=>
  have ad:Value.hV v=true:=h;rw[ir ad];cases v<;>first|rfl|(simp[Value.hV]at ad)
def k5 (C:cx) (s:al) (T:TypeId) (x y:I):Option al:=
 match dL s y,loc s x with
 |some (d,s1),some (z,q)=>match d with
  | .tuple _=>none
  |d=>match I.sub q (s z)with
   |some d0=>if d.wd=d0.wd/\d.wd=(C.T T).sz/\(C.T T).ok=true/\y.owner≠some z then some (eu (jB z s1) z (I.put q d (s z)))else none
   |none=>none
 |_,_=>none
theorem adg {s s1:al} {y d:I} {z:Nat} (h:dL s y=some (d,s1)) (cd:(s z).tree=true) (hy:y.owner≠some z):s1 z=s z:=by
 cases y with
 |h x q=>
  simp only[dL]at h;split at h
  .split at h
   .cases h
   .simp only[some.injEq,Prod.mk.injEq]at h;obtain⟨_,rfl⟩:=h;rw[lv _ _ (λe=>hy (by rw[I.owner,e]))];exact MN cd
  .cases h
 |ay x q=>simp[dL]at h
 |ab x q=>simp[dL]at h
 |fn f c=>simp[dL]at h
 |hole=>simp[dL]at h
 |_=>simp only[dL,some.injEq,Prod.mk.injEq]at h;rw[h.2]
theorem adh (bW:C.fN) (h:ch w0 F0 X F S s aI w) {T:TypeId} {x y:I} {kz lT:Value} (M5:aQ w F s aI x kz (λ_=>False)) (hy:y.plain=true) (adi:aQ w F s aI y lT (λ_=>False))
  {s2:al} (he:k5 C s T x y=some s2):
  ∃aO a7,(Instr.storeAt T kz lT).run C.P w= .ok () aO/\ch w0 F0 X F a7 s2 aI aO:=by
 unfold k5 at he;split at he
 .rename_i d s1 z q a8 hl;have key:∀d:I,(∀aF,d≠.tuple aF)->dL s y=some (d,s1)->(match I.sub q (s z)with
   |some d0=>if d.wd=d0.wd/\d.wd=(C.T T).sz/\(C.T T).ok=true/\y.owner≠some z then some (eu (jB z s1) z (I.put q d (s z)))else none
   |none=>none)=some s2->∃aO a7,(Instr.storeAt T kz lT).run C.P w= .ok () aO/\ch w0 F0 X F a7 s2 aI aO:=by
   intro d vI a8 he;split at he
   .rename_i d0 nR;split at he
    .rename_i EC;obtain⟨ad,af,aG,bh⟩:=EC;simp only[some.injEq]at he;subst he;obtain⟨sH,dH,b,o,rfl,nx⟩:=MZ h M5 hl nR;obtain⟨cT,g0,g1,g2,Sn,g3,g4,g5,g6,g7,g8⟩:=sF h hy adi a8;have fo:s1 z=s z:=adg a8 (jP nR (.inr sH)) bh;rw[<-fo]at nR sH nx⊢;obtain⟨hq,gW,l,r,cur,e,fr,k0,bZ,cu,dY,eb⟩:=g0.store nR sH g3 ad g4 g5 g6 g7;rw[nx]at k0;simp only[some.injEq,Prod.mk.injEq,true_and]at k0;obtain⟨rfl,rfl,rfl⟩:=k0;obtain⟨i,d,vH,aP,aW,aS,cf,cF,cw,cg⟩:=bW.info aG;have hlen:=aB.length _ _ _ g3;have hm:dH.length=(dd lT).length:=by
      have Ur:=g0.eB z;rw[aQ.du (jP nR (.inr sH))]at Ur;obtain⟨_,_,_,_,c0,_,_,_,c4,_⟩:=ctx q (s1 z) (dd (aI z)) (cT z) none _ Ur.2 nR;rw[nx]at c0;simp only[some.injEq,Prod.mk.injEq,true_and]at c0;rw[c0.1,aB.length _ _ _ c4,hlen,ad]
     obtain⟨aO,m1,m2,m3,m4,m5,m6,m7⟩:=Iw (P:=C.P) (b:=b) (o:=l.length) (e:=e) (fr:=fr) (dd lT) 0 cur w l dH r bZ dY cu rfl hm (aB.y9 _ _ _ g3);obtain⟨a7,eJ⟩:=eb aO m2 m3 m4 m5 m6 m7;refine⟨aO,a7,?_,eJ⟩;have sI:=EB g2 vI;simp[Instr.storeAt,Instr.sureAddr,storeVar,nz aP,aW,sI,hlen,af,m1]
    .cases he
   .cases he
  split at he
  .cases he
  .rename_i vI;exact key _ (λaF e=>vI aF e) a8 he
 .cases he
theorem ch.alloc (h:ch w0 F0 X F S s aI w) {d:I} {cs:azw} {Sn:Nat->Prop} (e:TypeId) (aJ:aB w F d cs Sn)
  (eQ:∀b,Sn b->b<w.heap.size) (bM:∀b,Sn b->¬F b) (cn:∀u b,Sn b->¬S u b) (a_:∀b,Sn b->X b\/w0.heap.size<=b):
  ch w0 F0 X F S s aI (w.alloc (.cells cs.toArray e))/\
   og w0 X F S s aI (w.alloc (.cells cs.toArray e)) (.aM d) (.pointer (some ⟨w.heap.size,0,none⟩)):=by
 have hold:∀b,b<w.heap.size->(w.alloc (.cells cs.toArray e)).heap[b]? =w.heap[b]? :=by
  intro b ab;show(w.heap.push _)[b]? =_;rw[Array.getElem?_push,if_neg (by omega)]
 refine⟨h.grow hold (by simp) rfl rfl ⟨rfl,λ_=>Nat.le_refl _⟩,.inr ⟨rfl,rfl,λb=>b=w.heap.size\/Sn b,?_,?_,?_,?_,?_⟩⟩
 .rw[aB];refine⟨w.heap.size,cs.toArray,e,(0,0),Sn,rfl,.inl rfl,?_,?_,?_,λc au=>.inr au,λau=>Nat.lt_irrefl _ (eQ _ au)⟩
  .show(w.heap.push _)[_]? =_;simp
  .intro o _ ⟨_,af⟩;exact absurd af (not_lt_zero _)
  .exact aB.frame (λb ab=>hold b (h.gi b ab)) _ _ _ (λb ab=>hold b (eQ b ab)) aJ
 .rintro b (rfl|ab)
  .simp
  .have:=eQ b ab;simp;omega
 .rintro b (rfl|ab) vJ
  .exact Nat.lt_irrefl _ (h.gi _ vJ)
  .exact bM b ab vJ
 .rintro u b (rfl|ab) hu
  .exact Nat.lt_irrefl _ (h.fG _ _ hu)
  .exact cn u b ab hu
 .rintro b (rfl|ab)
  .exact .inr h.size
  .exact a_ b ab
def nb (C:cx) (T:TypeId):Option I:=if(C.T T).ok=true then(match(C.T T).k,(C.T T).zero with
    | .gH e,.agg [.eA,.bf]=>some (.cj (.jX T e []))
    | .gH _,_=>none
    |_,z=>(match flat z with|some _=>some (.aM z)|none=>none))else none
theorem adj (bW:C.fN) (h:ch w0 F0 X F S s aI w) {T:TypeId} (he:nb C T=some av):Good C w0 F0 X aI w (Instr.alloc T true (.tuple #[])) av s:=by
 unfold nb at he;split at he
 .rename_i aw;split at he
  .rename_i axh axi za;simp only[some.injEq]at he;subst he;obtain⟨i,d,z,aP,aW,aS,cf,cF,cw,cg⟩:=bW.info aw;have cd:=cF [.pointer none,.slice none 0 0] (by rw[za];rfl);have hold:∀b,b<w.heap.size->(w.alloc (.cells #[.pointer none,.slice none 0 0] T)).heap[b]? =w.heap[b]? :=by
    intro b ab;show(w.heap.push _)[b]? =_;rw[Array.getElem?_push,if_neg (by omega)]
   refine⟨.pointer (some ⟨w.heap.size,0,none⟩),w.alloc (.cells #[.pointer none,.slice none 0 0] T),F,S,?_,h.grow hold (by simp) rfl rfl ⟨rfl,λ_=>Nat.le_refl _⟩,.inr ⟨rfl,rfl,λb=>b=w.heap.size,?_,?_,?_,?_,?_⟩⟩
   .simp[Instr.alloc,y8 aP cf,newVar,newRow,newObj,Sem.run,cd]
   .rw[aB];refine⟨w.heap.size,.pointer none,.slice none 0 0,rfl,rfl,?_,.inl rfl,.inl ⟨rfl,rfl⟩⟩;show(w.heap.push _)[_]? =_;simp
   .rintro b rfl;simp
   .rintro b rfl vJ;exact Nat.lt_irrefl _ (h.gi _ vJ)
   .rintro u b rfl hu;exact Nat.lt_irrefl _ (h.fG _ _ hu)
   .rintro b rfl;exact .inr h.size
  .cases he
  split at he
  .rename_i cs iT;simp only[some.injEq]at he;subst he;obtain⟨i,d,z,aP,aW,aS,cf,cF,cw,cg⟩:=bW.info aw;have cd:=cF cs iT;obtain⟨en,bd⟩:=h.alloc (d:=(C.T T).zero) T ((aB.flat _).1 _ cs (λ_=>False) (Nat.le_refl _) iT) (λ_ h=>h.elim) (λ_ h=>h.elim) (λ_ _ h=>h.elim) (λ_ h=>h.elim);refine⟨_,_,F,S,?_,en,bd⟩;simp[Instr.alloc,y8 aP cf,newVar,newRow,newObj,Sem.run,cd]
  .cases he
 .cases he
def iF (s:al) (x:I):Option (I×al):=match dL s x with
 |some (.tuple _,_)=>none
 |some (d,s1)=>some (.aM d,s1)
 |none=>none
def mf (s:al) (x:I):Option (I×al):=match x with
 | .h y q=>match q,s y with
   |[],.agg ds=>if I.e_ ds then none else some (.ab y 0,s)
   |_,_=>none
 | .fn f caps=>if caps.all (λd=>d.single&&(d.tree&&d.plain))=true then some (.ref (.fn f caps),s)else none
 |_=>none
theorem bz.Us {w:World} {F cq:Nat->Prop} {s:al} {aI:Nat->Value} (bM:∀b,F b->cq b):∀(ds:azy) (vs:azw),(∀d∈ds,d.single=true/\d.tree=true/\d.plain=true)->fe w F s aI ds vs->bz w cq ds vs (λ_=>False)
 |[],vs,_,h=>by rw[fe]at h;rw[bz];exact h
 |d::ds,vs,aa,h=>by
  rw[fe]at h;obtain⟨v,mc,rfl,ad,af⟩:=h;obtain⟨d1,d2,d3⟩:=aa d (by simp);have aG:=(aQ.du d2).1 ad;have bS:Value.hV v=true:=by
   have:=aG.1;cases d<;>first|exact this|cases d1
  have bh:=aG.2;rw[ir bS]at bh;rw[bz];exact⟨[v],mc,λ_=>False,λ_=>False,rfl,aB.mono bM _ _ _ _ (λ_ h=>h) bh,bz.Us bM ds mc (λx ao=>aa x (by simp[ao])) af,λ_ h=>h,λ_ h=>h,λ_ h=>h.elim⟩
theorem adk {T:TypeId} {v:Value} (h:ch w0 F0 X F S s aI w):ch w0 F0 X (λb=>F b\/b=w.heap.size) S s aI (w.alloc (.cells (dd v).toArray T)):=by
 have hold:∀b,b<w.heap.size->(w.alloc (.cells (dd v).toArray T)).heap[b]? =w.heap[b]? :=by
  intro b ab;show(w.heap.push _)[b]? =_;rw[Array.getElem?_push,if_neg (by omega)]
 have ad:=h.grow hold (by simp) rfl rfl ⟨rfl,λ_=>Nat.le_refl _⟩;exact {
  iq:=λb ab=>.inl (ad.iq b ab)
  iS:=λb ab=>by
   rcases ab with ab|rfl
   .exact ad.iS b ab
   .exact .inr (.inr h.size)
  gi:=λb ab=>by
   rcases ab with ab|rfl
   .exact ad.gi b ab
   .simp
  fG:=ad.fG
  gL:=λt b ab bK=>by
   rcases bK with bK|rfl
   .exact ad.gL t b ab bK
   .exact absurd (h.fG t _ ab) (Nat.lt_irrefl _)
  gj:=ad.gj
  e1:=ad.e1
  eB:=λt=>aQ.frame (λ_ _=>rfl) (λb ab=>.inl ab) (λ_ _ _=>rfl) ad.eB _ _ _ (λ_ _=>rfl) (ad.eB t)
  old:=ad.old
  size:=ad.size
  os:=ad.os
  tape:=ad.tape
  output:=ad.output
  gz:=h.gz}
theorem adl (h:ch w0 F0 X F S s aI w) {T:TypeId} {x:I} {v:Value} (aJ:aQ w F s aI x v (λ_=>False)) (he:mf s x=some (av,s1)):
  Good C w0 F0 X aI w (Instr.box T v) av s1:=by
 unfold mf at he;split at he
 .rename_i y q;split at he
  .rename_i ds qx;split at he
   .cases he
   .rename_i EA;simp only[some.injEq,Prod.mk.injEq]at he;obtain⟨rfl,rfl⟩:=he;rw[aQ]at aJ;obtain⟨dH,a,g1,g2,g3⟩:=aJ (s y) (by simp only[I.sub]) (by rw[qx];simp only[I.plain];simpa using EA);simp only[eF,some.injEq,Prod.mk.injEq,true_and]at g1;rw[qx]at g3;have sI:=EB g3 (λaF e=>by cases e);have hold:∀b,b<w.heap.size->(w.alloc (.cells (dd v).toArray T)).heap[b]? =w.heap[b]? :=by
     intro b ab;show(w.heap.push _)[b]? =_;rw[Array.getElem?_push,if_neg (by omega)]
    refine⟨.pointer (some ⟨w.heap.size,0,none⟩),w.alloc (.cells (dd v).toArray T),λb=>F b\/b=w.heap.size,S,by simp[Instr.box,newVar,newRow,newObj,Sem.run,sI],?_,.inl ⟨rfl,?_⟩⟩
    .have ad:=h.grow hold (by simp) rfl rfl ⟨rfl,λ_=>Nat.le_refl _⟩;exact {
      iq:=λb ab=>.inl (ad.iq b ab)
      iS:=λb ab=>by
       rcases ab with ab|rfl
       .exact ad.iS b ab
       .exact .inr (.inr h.size)
      gi:=λb ab=>by
       rcases ab with ab|rfl
       .exact ad.gi b ab
       .simp
      fG:=ad.fG
      gL:=λt b ab bK=>by
       rcases bK with bK|rfl
       .exact ad.gL t b ab bK
       .exact absurd (h.fG t _ ab) (Nat.lt_irrefl _)
      gj:=ad.gj
      e1:=ad.e1
      eB:=λt=>aQ.frame (λ_ _=>rfl) (λb ab=>.inl ab) (λ_ _ _=>rfl) ad.eB _ _ _ (λ_ _=>rfl) (ad.eB t)
      old:=ad.old
      size:=ad.size
      os:=ad.os
      tape:=ad.tape
      output:=ad.output
      gz:=h.gz}
    .rw[aQ];intro _;refine⟨w.heap.size,(dd v).toArray,T,(0,0),rfl,.inr rfl,?_,?_⟩
     .show(w.heap.push _)[_]? =_;simp
     .rw[g1.1,<-g2]
  .cases he
 .rename_i f caps;split at he
  .rename_i au;simp only[some.injEq,Prod.mk.injEq]at he;obtain⟨rfl,rfl⟩:=he;have iT:∀d∈caps,d.single=true/\d.tree=true/\d.plain=true:=λd aq=>by
    have:=List.all_eq_true.1 au d aq;simpa only[Bool.and_eq_true]using this
   rw[aQ]at aJ;obtain⟨arr,rfl,aJ⟩:=aJ;have sI:=EB (d:=.fn f caps) (v:=.func (.func f) #[] arr) rfl (λaF e=>by cases e);have hg:=adk (T:=T) (v:=.func (.func f) #[] arr) h;refine⟨.pointer (some ⟨w.heap.size,0,none⟩),w.alloc (.cells (dd (.func (.func f) #[] arr)).toArray T),λb=>F b\/b=w.heap.size,S,by simp[Instr.box,newVar,newRow,newObj,Sem.run,sI],hg,.inl ⟨rfl,?_⟩⟩;refine(aQ.du rfl).2 ⟨rfl,?_⟩;rw[aB];refine⟨w.heap.size,0,[.func (.func f) #[] arr],rfl,.inr rfl,?_,?_⟩
   .have jQ:(w.alloc (.cells (dd (.func (.func f) #[] arr)).toArray T)).heap[w.heap.size]? =some (.cells (dd (.func (.func f) #[] arr)).toArray T (0,0)):=by
     show(w.heap.push _)[_]? =_;simp
    intro j c bQ;cases j with
    |zero=>
     simp only[getElem?_cons_zero,some.injEq]at bQ;subst bQ;have e:dd (.func (.func f) #[] arr)=[.func (.func f) #[] arr]:=ir rfl;unfold World.cell?;show(match(w.alloc (.cells (dd (.func (.func f) #[] arr)).toArray T)).heap[w.heap.size]? with
      |some (.cells c _ _)=>c[0+0]?
      |_=>none)=_
     rw[jQ,e];rfl
    |succ j=>simp at bQ
   .rw[aB];refine⟨arr,rfl,λd aq=>(iT d aq).1,?_⟩;have b6:=bz.Us (cq:=F) (λb ab=>ab) caps arr.toList iT aJ;refine bz.mono (F:=F) (λb ab=>.inl ab) caps _ _ _ (λ_ h=>h) (bz.frame (λb ab=>?_) caps _ _ (λ_ h=>h.elim) b6);have eQ:=h.gi b ab;show(w.heap.push _)[b]? =_;rw[Array.getElem?_push,if_neg (by omega)]
  .cases he
 .cases he
theorem adm (h:ch w0 F0 X F S s aI w) {T:TypeId} {x:I} {v:Value} (ao:x.plain=true) (aJ:aQ w F s aI x v (λ_=>False)) (he:iF s x=some (av,s1)):
  Good C w0 F0 X aI w (Instr.box T v) av s1:=by
 unfold iF at he;split at he
 .cases he
 .rename_i d s2 vI a8;simp only[some.injEq,Prod.mk.injEq]at he;obtain⟨rfl,rfl⟩:=he;obtain⟨cT,g0,g1,g2,Sn,g3,g4,g5,g6,g7,g8⟩:=sF h ao aJ a8;obtain⟨en,bd⟩:=g0.alloc T g3 g4 g5 g6 g7;refine⟨_,_,F,cT,?_,en,bd⟩;have sI:=EB g2 (λaF e=>vI aF e);simp[Instr.box,newVar,newRow,newObj,Sem.run,sI]
 .cases he
end
end Go.ep
