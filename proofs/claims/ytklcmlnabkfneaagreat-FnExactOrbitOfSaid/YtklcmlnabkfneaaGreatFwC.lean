/- Part of a proof that a law returns true for every input. No condition. -/
import Derived.Test.YtklcmlnabkfneaaGreatFwB
import Derived.Laws.Entries
namespace Go.de
open List Option Go.IntKind Nat Or
inductive nS where
 |int (k:IntKind)
 |bool
 |str
 |ptr (e:TypeId)
 |slice (e:TypeId)
 |struct (aE:List (TypeId×Nat))
 |fn
 |hd (e:TypeId)
 |map (k e:TypeId)
 |other
structure gp where
 k:nS
 sz:Nat
 bytes:Nat
 zero:I
mutual
def flat:I->Option alU
 | .bool b=>some [.bool b]
 | .int k n=>some [.int k n]
 | .str s=>some [.string ⟨⟨s⟩⟩]
 | .dC=>some [.pointer none]
 | .bd=>some [.slice none 0 0]
 | .agg aE=>qL aE
 | .dS .w9=>some [.map none]
 |_=>none
def qL:alW->Option alU
 |[]=>some []
 |d::ds=>match flat d,qL ds with
  |some a,some b=>some (a++b)
  |_,_=>none
end
theorem ar.flat {w:World} {F:Nat->Prop}:∀n,(∀(d:I) (cs:alU) (S:Nat->Prop),SizeOf.sizeOf d<=n->flat d=some cs->ar w F d cs S)/\
  (∀(ds:alW) (cs:alU) (S:Nat->Prop),SizeOf.sizeOf ds<=n->qL ds=some cs->a1 w F ds cs S):=by
 intro n;induction n with
 |zero=>exact⟨λd _ _ bZ=>by cases d<;>simp at bZ<;>omega,λds _ _ bZ=>by cases ds<;>simp at bZ<;>omega⟩
 |succ n ih=>
  refine⟨λd cs S bZ h=>?_,λds cs S bZ h=>?_⟩
  .cases d with
   |agg aE=>rw[ar];exact ih.2 aE cs S (by simp at bZ;omega) (by simpa [de.flat]using h)
   |bool b=>simp[de.flat]at h;subst h;rw[ar]
   |int k n=>simp[de.flat]at h;subst h;rw[ar]
   |str s=>simp[de.flat]at h;subst h;rw[ar]
   |dC=>simp[de.flat]at h;subst h;rw[ar]
   |bd=>simp[de.flat]at h;subst h;rw[ar]
   |dS o=>cases o<;>simp[de.flat]at h;subst h;rw[ar];rfl
   |_=>simp[de.flat]at h
  .cases ds with
   |nil=>simp[qL]at h;subst h;rw[a1]
   |cons d ds=>
    simp only[qL]at h;split at h
    .rename_i a b cg R;simp at h;subst h;simp at bZ;rw[a1];exact⟨a,b,λ_=>False,λ_=>False,rfl,ih.1 d a _ (by omega) cg,ih.2 ds b _ (by omega) R,λ_ h=>h.elim,λ_ h=>h.elim,λ_ h=>h.elim⟩
    .cases h
def lp:nS->TypeDesc->Prop
 | .int k,.int cF=>k=cF
 | .bool,.bool=>True
 | .str,.string=>True
 | .ptr e,.pointer f_=>e=f_
 | .slice e,.slice f_=>e=f_
 | .struct aE,.struct gs=>gs.toList.map (λg=>(g.type,g.offset))=aE
 | .fn,.func _ _ _=>True
 | .hd _,.struct _=>True
 | .map k e,.map cF f_=>k=cF/\e=f_
 |_,_=>False
def Kw (P:Program) (t:TypeId) (x:gp):Prop:=
 (∃e n b z,x=⟨.other,e,n,b⟩/\z=0)\/
 ∃i d z,P.info? t=some i/\i.size=x.sz/\i.bytes=x.bytes/\i.zero=some z/\(∀cs,flat x.zero=some cs->z.cells=cs.toArray)/\P.underlying t=some d/\lp x.k d
structure ca where
 P:Program
 T:TypeId->gp
 M:FuncId->List Bool
structure ca.Ok (C:ca):Prop where
 ty:∀t,Kw C.P t (C.T t)
 mixed:C.P.follows .mixedOrders=true
inductive bk where
 |t (n:Nat)
 |c (av:I)
 |f (g:FuncId)
def AR:Value->Option I
 | .bool b=>some (.bool b)
 | .int k n=>some (.int k n)
 | .string s=>some (.str s.data.toList)
 | .pointer none=>some .dC
 | .slice none 0 0=>some .bd
 |_=>none
def dG:Operand->Option bk
 | .tmp n=>some (.t n)
 | .const v=>(AR v).map .c
 | .func g=>some (.f g)
 | .global _=>none
def pI (x:Nat) (d:I):I:=if d.plain then d else .h x []
def bu (s:aw):bk->I
 | .t n=>pI n (s n)
 | .c av=>av
 | .f g=>.fn g []
theorem aH.nothing {w:World} {F:Nat->Prop} {s:aw} {aC:Nat->Value} {d:I} {v:Value} {S aN:Nat->Prop} (aq:d.plain=true) (h:aH w F s aC d v S):aH w F s aC d v aN:=by
 cases d<;>first
  |(rw[aH];trivial)
  |(rw[aH]at h⊢;exact h)
  |(have bC:=(aH.cv rfl).1 h;exact(aH.cv rfl).2 ⟨bC.1,ar.plain _ _ _ _ aq bC.2⟩)
section
variable {w0 w:World} {F0 X F:Nat->Prop} {S:Nat->Nat->Prop} {s:aw} {aC:Nat->Value} {a:Act}
theorem Kx (s:aw) (x:bk) (an:∀av,x= .c av->av.plain=true):(bu s x).plain=true:=by
 cases x with
 |t n=>simp only[bu,pI];split<;>first|assumption|rfl
 |c av=>exact an _ rfl
 |f g=>rfl
theorem Et {v:Value} {av:I} (h:AR v=some av):av.plain=true:=by
 unfold AR at h;split at h<;>simp at h<;>subst h<;>rfl
theorem fE (h:bD w0 F0 X F S s aC w) (el:∀t,aC t=a.tmps.getD t undef) {o:Operand} {x:bk} (bE:dG o=some x):
  (bu s x).plain=true/\aH w F s aC (bu s x) (a.eval o) (λ_=>False):=by
 cases o with
 |tmp n=>
  simp[dG]at bE;subst bE;simp only[bu,pI,Act.eval,<-el];split
  .rename_i aq;exact⟨aq,aH.nothing aq (h.dp n)⟩
  .rename_i aq;refine⟨rfl,?_⟩;rw[aH];intro d ai Eu;simp only[I.sub,some.injEq]at ai;subst ai;have a8:=h0 (q:=[]) rfl (.inl Eu);exact⟨_,none,rfl,rfl,((aH.cv a8).1 (h.dp n)).1⟩
 |const v=>
  simp only[dG,map_eq_some_iff]at bE;obtain⟨av,oA,rfl⟩:=bE;refine⟨Et oA,?_⟩;simp only[bu,Act.eval];unfold AR at oA;split at oA<;>simp at oA<;>subst oA<;>rw[aH,ar]<;>exact⟨rfl,rfl⟩
 |func g=>
  simp[dG]at bE;subst bE;refine⟨rfl,?_⟩;simp only[bu,Act.eval];rw[aH];exact⟨#[],rfl,by rw[d_]⟩
 |global g=>simp[dG]at bE
def k4 (w0:World) (X F:Nat->Prop) (S:Nat->Nat->Prop) (s:aw) (aC:Nat->Value) (w:World) (av:I) (v:Value):Prop:=
 (av.plain=true/\aH w F s aC av v (λ_=>False))\/
 (av.tree=true/\dD av v/\∃Sn,ar w F av (cj v) Sn/\(∀b,Sn b->b<w.heap.size)/\(∀b,Sn b->¬F b)/\(∀u b,Sn b->¬S u b)/\(∀b,Sn b->X b\/w0.heap.size<=b))
def fin (s:aw) (dst:Option Nat) (av:I):aw:=match dst with
 |none=>s
 |some t=>if av.plain then dq s t av else dq (lQ t s) t av
def nj (aC:Nat->Value) (dst:Option Nat) (v:Value):Nat->Value:=match dst with
 |none=>aC
 |some t=>dq aC t v
theorem bD.fin (h:bD w0 F0 X F S s aC w) {av:I} {v:Value} (aJ:k4 w0 X F S s aC w av v) (dst:Option Nat):
  ∃aN,bD w0 F0 X F aN (de.fin s dst av) (nj aC dst v) w:=by
 cases dst with
 |none=>exact⟨S,h⟩
 |some t=>
  simp only[de.fin,nj];rcases aJ with⟨aq,ai⟩|⟨a8,ad,Sn,ab,ae,az,a6,bF⟩
  .rw[if_pos aq];exact⟨_,h.uJ aq ai⟩
  .split
   .rename_i aq;exact⟨_,h.uJ aq ((aH.cv a8).2 ⟨ad,ar.plain _ _ _ _ aq ab⟩)⟩
   .exact⟨_,h.Kr a8 ad ab ae az (λu b _ R=>a6 u b R) bF⟩
def cV (s:aw):I->Option (I×aw)
 | .h x q=>match I.sub q (s x)with
   |some d=>if d.plain then none else some (d,dq (h7 x s) x (I.put q d.c_ (s x)))
   |none=>none
 | .aq _ _=>none
 | .R _ _=>none
 | .fn _ _=>none
 | .hole=>none
 |d=>some (d,s)
def I.owner:I->Option Nat
 | .h x _=>some x
 |_=>none
def kI:Option Nat->I->I
 |some x,d=>cb x d
 |none,d=>d
theorem pJ (h:bD w0 F0 X F S s aC w) {av d:I} {s1:aw} {v:Value} (oA:av.plain=true) (aJ:aH w F s aC av v (λ_=>False)) (a8:cV s av=some (d,s1)):
  ∃b5,bD w0 F0 X F b5 s1 aC w/\d.tree=true/\dD d v/\∃Sn,ar w F d (cj v) Sn/\(∀b,Sn b->b<w.heap.size)/\(∀b,Sn b->¬F b)/\(∀u b,Sn b->¬b5 u b)/\(∀b,Sn b->X b\/w0.heap.size<=b)/\
   (∀u b,b5 u b->S u b)/\(∀b,Sn b->∃u,S u b)/\(∀(bg:I) (ga:Value) (aN:Nat->Prop),aH w F s aC bg ga aN->aH w F s1 aC (kI av.owner bg) ga aN):=by
 have tree:∀d:I,d.tree=true->d.plain=true->aH w F s aC d v (λ_=>False)->
   ∃b5,bD w0 F0 X F b5 s aC w/\d.tree=true/\dD d v/\∃Sn,ar w F d (cj v) Sn/\(∀b,Sn b->b<w.heap.size)/\(∀b,Sn b->¬F b)/\(∀u b,Sn b->¬b5 u b)/\(∀b,Sn b->X b\/w0.heap.size<=b)/\
    (∀u b,b5 u b->S u b)/\(∀b,Sn b->∃u,S u b):=by
  intro d ai _ bC;have bC:=(aH.cv ai).1 bC;exact⟨S,h,ai,bC.1,_,bC.2,λ_ h=>h.elim,λ_ h=>h.elim,λ_ _ h=>h.elim,λ_ h=>h.elim,λ_ _ h=>h,λ_ h=>h.elim⟩
 cases av with
 |h x q=>
  simp only[cV]at a8;split at a8
  .rename_i e he;split at a8
   .cases a8
   .rename_i aq;simp only[some.injEq,Prod.mk.injEq]at a8;obtain⟨rfl,rfl⟩:=a8;have aq:e.plain=false:=by simpa using aq
    obtain⟨Sn,fo,cQ,cL,di,aZ,cZ,bU,b9,c0,ei⟩:=h.take he aq;rw[aH]at aJ;obtain⟨ajL,a2,g1,g2,g3⟩:=aJ e he aq;rw[aZ]at g1;simp only[some.injEq,Prod.mk.injEq,true_and]at g1;obtain⟨rfl,rfl⟩:=g1;have Ev:e.tree=true:=by cases e<;>first|rfl|(simp[I.plain]at aq)
    refine⟨_,di,Ev,g3,fo,by rw[g2];exact cZ,λb R=>h.dW x b (bU b R),λb R=>h.fb x b (bU b R),?_,λb R=>h.dx x b (bU b R),?_,λb R=>⟨x,bU b R⟩,ei⟩
    .intro u b R hu;simp only[fV]at hu;split at hu
     .exact c0 b R hu
     .rename_i RP;exact h.e_ u x b RP hu (bU b R)
    .intro u b hu;simp only[fV]at hu;split at hu
     .rename_i e;subst e;exact b9 b hu
     .exact hu
  .cases a8
 |aq x q=>simp[cV]at a8
 |R x q=>simp[cV]at a8
 |fn f c=>simp[cV]at a8
 |hole=>simp[cV]at a8
 |ag sz xs=>simp[I.plain]at oA
 |bf d=>simp[I.plain]at oA
 |_=>
  simp only[cV,some.injEq,Prod.mk.injEq]at a8;obtain⟨rfl,rfl⟩:=a8;obtain⟨b5,t1,t2,t3,Sn,t4,t5,t6,t7,t8,t9,t10⟩:=tree _ rfl oA aJ;exact⟨b5,t1,t2,t3,Sn,t4,t5,t6,t7,t8,t9,t10,λ_ _ _ h=>h⟩
def loc (s:aw):I->Option (Nat×alR)
 | .h x q=>match I.sub q (s x)with
   |some (.bf _)=>some (x,q++[0])
   |_=>none
 | .aq x q=>if I.fD q (s x)then some (x,q)else none
 |_=>none
theorem xh:∀(q:alR) (av d:I) (r:alR),I.sub q av=some d->I.sub (q++r) av=I.sub r d:=by
 intro q;induction q with
 |nil=>intro av d r h;simp[I.sub]at h;subst h;rfl
 |cons k q ih=>
  intro av d r h;cases av with
  |agg aE=>
   simp only[I.sub,cons_append]at h⊢;split at h
   .rename_i x au;exact ih _ _ _ h
   .cases h
  |tuple aE=>
   simp only[I.sub,cons_append]at h⊢;split at h
   .rename_i x au;exact ih _ _ _ h
   .cases h
  |ag sz aE=>
   simp only[I.sub,cons_append]at h⊢;split at h
   .rename_i x au;exact ih _ _ _ h
   .cases h
  |bf x=>
   cases k with
   |zero=>simp only[I.sub,cons_append]at h⊢;exact ih _ _ _ h
   |succ k=>simp[I.sub]at h
  |_=>simp[I.sub]at h
theorem RQ:∀(q:alR) (av d:I) (r:alR),I.sub q av=some d->I.fD (q++r) av=(I.fD q av||I.fD r d):=by
 intro q;induction q with
 |nil=>intro av d r h;simp[I.sub]at h;subst h;simp[I.fD]
 |cons k q ih=>
  intro av d r h;cases av with
  |agg aE=>
   simp only[I.sub]at h;split at h
   .rename_i x au;simp only[I.fD,cons_append,au];exact ih _ _ r h
   .cases h
  |tuple aE=>
   simp only[I.sub]at h;split at h
   .rename_i x au;simp only[I.fD,cons_append,au];exact ih _ _ r h
   .cases h
  |ag sz aE=>simp[I.fD]
  |bf x=>simp[I.fD]
  |_=>simp[I.sub]at h
theorem xi (w:World):∀(q:alR) (av d:I) (cs cQ:alU) (a cL:Option (Nat×Nat)) (r:alR),du w q av cs a=some (d,cQ,cL)->du w (q++r) av cs a=du w r d cQ cL:=by
 intro q;induction q with
 |nil=>intro av d cs cQ a cL r h;simp[du]at h;obtain⟨rfl,rfl,rfl⟩:=h;rfl
 |cons k q ih=>
  intro av d cs cQ a cL r h;cases av with
  |agg aE=>
   rw[cons_append];rw[du]at h⊢;split at h
   .rename_i x au;exact ih _ _ _ _ _ _ _ h
   .cases h
  |tuple aE=>
   rw[cons_append];rw[du]at h⊢;split at h
   .rename_i x au;exact ih _ _ _ _ _ _ _ h
   .cases h
  |ag sz aE=>
   rw[cons_append];rw[du.eq_def]at h⊢;simp only at h⊢;split at h
   .exact ih _ _ _ _ _ _ _ h
   .cases h
  |bf x=>
   cases k with
   |zero=>
    rw[cons_append];rw[du.eq_def]at h⊢;simp only at h⊢;split at h
    .exact ih _ _ _ _ _ _ _ h
    .cases h
   |succ k=>rw[show du w ((k+1)::q) (.bf x) cs a=none from rfl]at h;cases h
  |_=>simp[du]at h
end
def gp.ok (x:gp):Bool:=match x.k with
 | .other=>false
 |_=>true
theorem ca.Ok.info {C:ca} (bn:C.Ok) {t:TypeId} (h:(C.T t).ok=true):
  ∃i d z,C.P.info? t=some i/\i.size=(C.T t).sz/\i.bytes=(C.T t).bytes/\i.zero=some z/\(∀cs,flat (C.T t).zero=some cs->z.cells=cs.toArray)/\C.P.underlying t=some d/\lp (C.T t).k d:=by
 rcases bn.ty t with⟨e,n,b,z,au,_⟩|bC
 .rw[au]at h;simp[gp.ok]at h
 .exact bC
theorem gg {x:gp} {k:nS} (h:x.k=k) (ax:k≠.other):x.ok=true:=by
 unfold gp.ok;rw[h];cases k<;>first|rfl|exact(ax rfl).elim
theorem xj {d:TypeDesc} {aE:List (TypeId×Nat)} (h:lp (.struct aE) d):∃gs,d= .struct gs/\gs.toList.map (λg=>(g.type,g.offset))=aE:=by
 cases d<;>simp[lp]at h;exact⟨_,rfl,h⟩
theorem lV {d:TypeDesc} {e:TypeId} (h:lp (.slice e) d):d= .slice e:=by
 cases d<;>simp[lp]at h;rw[h]
theorem AS {d:TypeDesc} {k:IntKind} (h:lp (.int k) d):d= .int k:=by
 cases d<;>simp[lp]at h;rw[h]
theorem pK {d:TypeDesc} (h:lp .str d):d= .string:=by
 cases d<;>simp[lp]at h;rfl
theorem Ew {d:TypeDesc} (h:lp .bool d):d= .bool:=by
 cases d<;>simp[lp]at h;rfl
theorem Ky {d:TypeDesc} {e:TypeId} (h:lp (.ptr e) d):d= .pointer e:=by
 cases d<;>simp[lp]at h;rw[h]
theorem gq {v:Value} (h:Value.fK v=true):cj v=[v]:=by
 cases v<;>first|rfl|(simp[Value.fK]at h)
theorem xk {P:Program} {t:TypeId} {i:TypeInfo} (h:P.info? t=some i) (w:World):(typeInfo t).run P w= .ok i w:=by simp[typeInfo,h]
theorem kJ {P:Program} {t:TypeId} {i:TypeInfo} (h:P.info? t=some i) (w:World):(Go.sizeOf t).run P w= .ok i.size w:=by simp[Go.sizeOf,xk h]
theorem s5 {P:Program} {t:TypeId} {i:TypeInfo} {z:Value} (h:P.info? t=some i) (bZ:i.zero=some z) (w:World):(zeroValue t).run P w= .ok z w:=by simp[zeroValue,xk h,bZ]
section
variable {C:ca} {w0 w:World} {F0 X F:Nat->Prop} {S:Nat->Nat->Prop} {s s1:aw} {aC:Nat->Value} {av:I}
def Good (C:ca) (w0:World) (F0 X:Nat->Prop) (aC:Nat->Value) (w:World) (m:Sem Value) (av:I) (s1:aw):Prop:=
 ∃v aF bO aN,m.run C.P w= .ok v aF/\bD w0 F0 X bO aN s1 aC aF/\k4 w0 X bO aN s1 aC aF av v
theorem Good.same (h:bD w0 F0 X F S s aC w) {m:Sem Value} {v:Value} (aM:m.run C.P w= .ok v w) (aq:av.plain=true) (aJ:aH w F s aC av v (λ_=>False)):Good C w0 F0 X aC w m av s:=
 ⟨v,w,F,S,aM,h,.inl ⟨aq,aJ⟩⟩
theorem Ex (_h:bD w0 F0 X F S s aC w) {x:I} {v:Value} (aJ:aH w F s aC x v (λ_=>False)) {y:Nat} {q:alR} (hl:loc s x=some (y,q)) {d:I} (ai:I.sub q (s y)=some d):
  I.fD q (s y)=true/\∃cQ b o,v= .pointer (some ⟨b,o,none⟩)/\du w q (s y) (cj (aC y)) none=some (d,cQ,some (b,o)):=by
 cases x with
 |h z AU=>
  simp only[loc]at hl;split at hl
  .rename_i e he;simp only[some.injEq,Prod.mk.injEq]at hl;obtain⟨rfl,rfl⟩:=hl;rw[aH]at aJ;obtain⟨cQ,a,g1,g2,g3⟩:=aJ _ he rfl;have hb:e=d:=by
    rw[xh _ _ _ _ he]at ai;simpa [I.sub]using ai
   subst hb;refine⟨by rw[RQ _ _ _ _ he];simp[I.fD],?_⟩;have ab:Value.fK v=true:=g3;rw[gq ab]at g2;subst g2;have kH:=xi w AU (s z) _ _ _ none a [0] g1;have au:=_h.dp z;rw[aH.cv (h0 he (.inl rfl))]at au;obtain⟨fT,cL,eh,fo,k0,b3,cc,eT,dL,fp⟩:=ctx AU (s z) (cj (aC z)) (S z) none _ au.2 he;rw[k0]at g1;simp only[some.injEq,Prod.mk.injEq,true_and]at g1;obtain⟨rfl,rfl⟩:=g1;rw[ar]at dL;obtain⟨b,cur,aV,fr,dg,aW,_⟩:=dL;simp only[cons.injEq,and_true]at aW;subst aW;exact⟨_,b,0,rfl,by rw[kH];rfl⟩
  .cases hl
 |aq z AU=>
  simp only[loc]at hl;split at hl
  .rename_i an;simp only[some.injEq,Prod.mk.injEq]at hl;obtain⟨rfl,rfl⟩:=hl;rw[aH]at aJ;obtain⟨cQ,b,o,g1,g2⟩:=aJ _ ai an;exact⟨an,cQ,b,o,g2,g1⟩
  .cases hl
 |_=>simp[loc]at hl
def ho (C:ca) (s:aw) (T:TypeId) (x:I) (k:Nat):Option I:=
 match(C.T T).k with
 | .struct aE=>match aE[k]? with
   |some (jK,off)=>if(C.T jK).ok=true/\(C.T jK).sz≠0 then
     match x with
     | .ref (.agg ds)=>match ds[k]? with
       |some d=>if I.ef (ds.take k)=off then some (.ref d)else none
       |none=>none
     | .R y o=>if(s y).plain then none else some (.R y (o+off))
     |x=>match loc s x with
      |some (y,q)=>match I.sub q (s y)with
       |some (.agg ds)=>if k<ds.length/\I.ef (ds.take k)=off then some (.aq y (q++[k]))else none
       |_=>none
      |none=>none
    else none
   |none=>none
 |_=>none
theorem Rd.Ey {w:World} {b o:Nat} {c1 fG c2:alU} (h:Rd w b o (c1++(fG++c2))):Rd w b (o+c1.length) fG:=by
 intro j c bm;have dv:j<fG.length:=(List.getElem?_eq_some_iff.1 bm).1;have:=h (c1.length+j) c (by rw[getElem?_append_right (by omega),getElem?_append_left (by omega),<-bm];congr 1;omega);rw[Nat.add_assoc];exact this
theorem Ez (bn:C.Ok) {T jK:TypeId} {aE:List (TypeId×Nat)} {k off:Nat} (ax:(C.T T).k= .struct aE) (bo:aE[k]? =some (jK,off)) (ab:(C.T jK).ok=true) (ae:(C.T jK).sz≠0) (b o:Nat) (w:World):
  (Instr.fieldAt T (.pointer (some ⟨b,o,none⟩)) k).run C.P w= .ok (.pointer (some ⟨b,o+off,none⟩)) w:=by
 obtain⟨i,d,z,aR,aV,aW,cm,cC,b7,bW⟩:=bn.info (gg ax (by simp));rw[ax]at bW;obtain⟨gs,rfl,hy⟩:=xj bW;obtain⟨qM,bg,qN,f1,f2,f3,f4,f5,f6,f7⟩:=bn.info ab;have bR:∃g,gs[k]? =some g/\g.type=jK/\g.offset=off:=by
  rw[<-hy,getElem?_map]at bo;simp only[map_eq_some_iff,Prod.mk.injEq]at bo;obtain⟨g,ab,ae,az⟩:=bo;exact⟨g,by simpa using ab,ae,az⟩
 obtain⟨g,g1,rfl,rfl⟩:=bR;simp[Instr.fieldAt,run_underlying b7,g1,Instr.sureAddr,fieldPlace,kJ f1,f2,ae,Addr.add_lit]
theorem RR (bn:C.Ok) (h:bD w0 F0 X F S s aC w) {T:TypeId} {x:I} {v:Value} {k:Nat} (au:x.plain=true) (aJ:aH w F s aC x v (λ_=>False)) (he:ho C s T x k=some av):
  Good C w0 F0 X aC w (Instr.fieldAt T v k) av s:=by
 unfold ho at he;split at he
 .rename_i aE ax;split at he
  .rename_i jK off bo;split at he
   .rename_i uL;split at he
    .rename_i ds;split at he
     .rename_i d ai;split at he
      .rename_i pL;simp only[some.injEq]at he;subst he;have mc:=(aH.cv rfl).1 aJ;rw[ar]at mc;obtain⟨ad,b,o,eA,ab,ae,az,a6⟩:=mc;rw[gq ad]at ab;simp only[cons.injEq,and_true]at ab;subst ab;rw[ar]at a6;obtain⟨c1,fG,c2,b5,hZ,rfl,hF,fL,hn,h6,fZ,mb⟩:=a1.pick ds _ _ k d a6 ai;refine Good.same h (Ez bn ax bo uL.1 uL.2 b o w) rfl ((aH.cv rfl).2 ⟨rfl,?_⟩);rw[ar];refine⟨b,o+off,fG,rfl,ae,?_,ar.mono (λ_ h=>h) _ _ _ _ (λb R=>hn b R) fZ⟩;rw[<-pL,<-hF];exact az.Ey
      .cases he
     .cases he
    .rename_i y o;split at he
     .cases he
     .rename_i aq;simp only[some.injEq]at he;subst he;rw[aH]at aJ;obtain⟨b,cur,e,fr,rfl,ae,az,a6⟩:=aJ (by simpa using aq);refine Good.same h (Ez bn ax bo uL.1 uL.2 b o w) rfl ?_;rw[aH];exact λ_=>⟨b,cur,e,fr,rfl,ae,az,a6⟩
    .rename_i x _ _;split at he
     .rename_i y q hl;split at he
      .rename_i ds ai;split at he
       .rename_i pL;simp only[some.injEq]at he;subst he;obtain⟨an,cQ,b,o,rfl,kH⟩:=Ex h aJ hl ai;refine Good.same h (Ez bn ax bo uL.1 uL.2 b o w) rfl ?_;rw[aH];intro d2 hx mI;rw[xi w q _ _ _ _ _ _ [k] kH];rw[xh _ _ _ _ ai]at hx;have oB:∃d3,ds[k]? =some d3:=⟨_,getElem?_eq_getElem pL.1⟩
        obtain⟨d3,xl⟩:=oB;simp only[I.sub,xl,some.injEq]at hx;subst hx;simp only[du,xl];refine⟨(cQ.drop off).take d3.wd,b,o+off,?_,rfl⟩;rw[pL.2];rfl
       .cases he
      .cases he
     .cases he
   .cases he
  .cases he
 .cases he
def jL (C:ca) (s:aw) (T:TypeId) (x i:I):Option I:=
 match(C.T T).k,i with
 | .slice e,.int _ n=>if 0<=n/\(C.T e).ok=true then
   match x with
   | .slice xs=>match xs[n.toNat]? with
     |some d=>if d.wd=(C.T e).sz then some (.ref d)else none
     |none=>none
   | .h y q=>match I.sub q (s y)with
     |some (.ag sz xs)=>if n.toNat<xs.length/\sz=(C.T e).sz then some (.aq y (q++[n.toNat]))else none
     |_=>none
   |_=>none
   else none
 |_,_=>none
theorem Kz (bn:C.Ok) {T e:TypeId} (ax:(C.T T).k= .slice e) (he:(C.T e).ok=true) (b o len cap:Nat) (k:IntKind) (n:Nat) (aS:n<len) (w:World):
  (Instr.indexAt T (.slice (some ⟨b,o,none⟩) len cap) (.int k n)).run C.P w= .ok (.pointer (some ⟨b,o+n*(C.T e).sz,none⟩)) w:=by
 obtain⟨i,d,z,aR,aV,aW,cm,cC,b7,bW⟩:=bn.info (gg ax (by simp));rw[ax]at bW;have:=lV bW;subst this;obtain⟨qM,bg,qN,f1,f2,f3,f4,f5,f6,f7⟩:=bn.info he;simp[Instr.indexAt,run_underlying b7,asIntOf,aS,kJ f1,f2,Addr.add_lit]
theorem RS (bn:C.Ok) (h:bD w0 F0 X F S s aC w) {T:TypeId} {x i:I} {v nT:Value} (aJ:aH w F s aC x v (λ_=>False)) (RT:aH w F s aC i nT (λ_=>False))
  (he:jL C s T x i=some av):Good C w0 F0 X aC w (Instr.indexAt T v nT) av s:=by
 unfold jL at he;split at he
 .rename_i e k n ax;have EA:=(aH.cv rfl).1 RT;rw[ar,gq EA.1]at EA;have:nT= .int k n:=by simpa using EA.2
  subst this;split at he
  .rename_i aS;obtain⟨n,rfl⟩:=Int.eq_ofNat_of_zero_le aS.1;simp only[Int.toNat_natCast]at he;split at he
   .rename_i xs;split at he
    .rename_i d ai;split at he
     .rename_i hw;simp only[some.injEq]at he;subst he;have mc:=(aH.cv rfl).1 aJ;rw[ar,gq mc.1]at mc;obtain⟨ad,⟨rfl,_⟩|⟨b,o,cap,eA,sz,ab,ae,az,a6,bF,cP,cB⟩⟩:=mc
      .simp at ai
      .simp only[cons.injEq,and_true]at ab;subst ab;have dv:n<xs.length:=(List.getElem?_eq_some_iff.1 ai).1;obtain⟨c1,fG,c2,b5,hZ,rfl,hF,fL,hn,h6,fZ,mb⟩:=a1.pick xs _ _ n d cB ai;refine Good.same h (Kz bn ax aS.2 b o _ _ k n dv w) rfl ((aH.cv rfl).2 ⟨rfl,?_⟩);rw[ar];refine⟨b,_,fG,rfl,ae,?_,ar.mono (λ_ h=>h) _ _ _ _ (λb R=>hn b R) fZ⟩;have RU:=bF d (mem_of_getElem? ai);have:n*(C.T e).sz=c1.length:=by
        rw[hF,sY _ (λd ai=>bF d (mem_of_mem_take ai)),length_take,Nat.min_eq_left (by omega),<-hw,RU]
       rw[this];exact cP.Ey
     .cases he
    .cases he
   .rename_i y q;split at he
    .rename_i sz xs ai;split at he
     .rename_i hw;simp only[some.injEq]at he;subst he;rw[aH]at aJ;obtain⟨cQ,a,g1,g2,g3⟩:=aJ _ ai rfl;have ad:Value.fK v=true:=g3;rw[gq ad]at g2;subst g2;have au:=h.dp y;rw[aH.cv (h0 ai (.inl rfl))]at au;obtain⟨fT,cL,eh,fo,k0,b3,cc,eT,dL,fp⟩:=ctx q (s y) (cj (aC y)) (S y) none _ au.2 ai;rw[k0]at g1;simp only[some.injEq,Prod.mk.injEq,true_and]at g1;obtain⟨rfl,rfl⟩:=g1;rw[ar]at dL;rcases dL with⟨rfl,_⟩|⟨b,cap,cur,aV,fr,dg,aW,_⟩
      .simp at hw
      .simp only[cons.injEq,and_true]at aW;subst aW;refine Good.same h (Kz bn ax aS.2 b 0 _ _ k n hw.1 w) rfl ?_;rw[aH];intro d2 hx _;rw[xi w q _ _ _ _ _ _ [n] k0];rw[xh _ _ _ _ ai]at hx;obtain⟨d3,xl⟩:∃d3,xs[n]? =some d3:=⟨_,getElem?_eq_getElem hw.1⟩
       simp only[I.sub,xl,some.injEq]at hx;subst hx;simp only[du,xl];exact⟨_,b,n*sz,rfl,by simp[hw.2]⟩
     .cases he
    .cases he
   .cases he
  .cases he
 .cases he
end
section
variable {C:ca} {w0 w:World} {F0 X F:Nat->Prop} {S:Nat->Nat->Prop} {s s1:aw} {aC:Nat->Value} {av:I}
theorem KA (bn:C.Ok) {T:TypeId} {aE:List (TypeId×Nat)} (ax:(C.T T).k= .struct aE) (w:World):(isAgg T).run C.P w= .ok true w:=by
 obtain⟨i,d,z,aR,aV,aW,cm,cC,b7,bW⟩:=bn.info (gg ax (by simp));rw[ax]at bW;obtain⟨gs,rfl,_⟩:=xj bW;simp[isAgg,run_underlying b7]
def gp.flat (x:gp):Bool:=match x.k with
 | .other=>false
 | .hd _=>false
 | .struct _=>false
 |_=>true
theorem KB {x:gp} (h:x.flat=true):x.ok=true:=by
 unfold gp.flat at h;unfold gp.ok;revert h;cases x.k<;>simp
theorem EB (bn:C.Ok) {T:TypeId} (ax:(C.T T).flat=true) (w:World):(isAgg T).run C.P w= .ok false w:=by
 obtain⟨i,d,z,aR,aV,aW,cm,cC,b7,bW⟩:=bn.info (KB ax);have cY:(∀aE,d≠.struct aE)/\(∀n e,d≠.array n e):=by
  clear b7;unfold gp.flat at ax;generalize (C.T T).k=dX at*;cases dX<;>cases d<;>simp[lp]at bW ax⊢
 cases d<;>first|exact(cY.1 _ rfl).elim|exact(cY.2 _ _ rfl).elim|simp[isAgg,run_underlying b7]
theorem Rd.one {w:World} {b o:Nat} {v:Value} (h:Rd w b o [v]):w.cell? ⟨b,o,none⟩=some v:=by simpa using h 0 v rfl
theorem KC {P:Program} {b o:Nat}:∀(cs:alU) (i:Nat) (acc:Array Value),Rd w b (o+i) cs->(loadCellsFrom ⟨b,o,none⟩ i cs.length acc).run P w= .ok (acc++cs.toArray) w
 |[],i,acc,_=>by simp[loadCellsFrom]
 |c::cs,i,acc,h=>by
  have aX:w.cell? ⟨b,o+i,none⟩=some c:=by simpa using h 0 c rfl
  have ab:Rd w b (o+(i+1)) cs:=by
   intro j x bm;have:=h (j+1) x (by simpa using bm);rw[<-this];congr 2;omega
  have ih:=KC (P:=P) cs (i+1) (acc.push c) ab;simp only[length_cons,loadCellsFrom,Sem.run_bind,Go.load,Sem.run,Addr.add_lit,aX,Result.andThen];rw[ih];simp
theorem RV (bn:C.Ok) {T:TypeId} {aE:List (TypeId×Nat)} (ax:(C.T T).k= .struct aE) {b o:Nat} {cs:alU} (h:Rd w b o cs) (hl:cs.length=(C.T T).sz):
  (loadVar T ⟨b,o,none⟩).run C.P w= .ok (.agg cs.toArray) w:=by
 obtain⟨i,d,z,aR,aV,aW,cm,cC,b7,bW⟩:=bn.info (gg ax (by simp));have:=KC (P:=C.P) (b:=b) (o:=o) cs 0 #[] (by simpa using h);simp only[loadVar,Sem.run_bind,KA bn ax,Result.andThen,if_true,kJ aR,aV,<-hl,loadCells,this];simp
theorem KD (bn:C.Ok) {T:TypeId} (ax:(C.T T).flat=true) {b o:Nat} {v:Value} (h:Rd w b o [v]):
  (loadVar T ⟨b,o,none⟩).run C.P w= .ok v w:=by
 simp[loadVar,EB bn ax,Go.load,Sem.run,h.one]
def fits (C:ca) (T:TypeId) (d:I):Bool:=match(C.T T).k,d with
    | .struct _,.agg ds=>I.ef ds==(C.T T).sz
    | .struct _,_=>false
    |_,.agg _=>false
    |_,.tuple _=>false
    |_,_=>(C.T T).flat
def AV:alW->Nat->Nat->Option Nat
 |[],_,_=>none
 |d::ds,i,k=>if k=0 then some i else if d.wd<=k then AV ds (i+1) (k-d.wd)else none
def fk (C:ca) (s:aw) (T:TypeId) (x:I):Option I:=
 match x with
 | .ref d=>if fits C T d=true then some d else none
 | .R y k=>match s y with
   | .agg ds=>if I.eg ds then none else match AV ds 0 k with
     |some i=>match ds[i]? with
      |some d=>if I.ef (ds.take i)=k/\fits C T d=true then some (if d.plain then d else .h y [i])else none
      |none=>none
     |none=>none
   |_=>none
 |x=>match loc s x with
  |some (y,q)=>match I.sub q (s y)with
   |some d=>if fits C T d=true then some (if d.plain then d else .h y q)else none
   |none=>none
  |none=>none
theorem ar.one {F:Nat->Prop} {d:I} {cs:alU} {S:Nat->Prop} (h:ar w F d cs S) (ab:∀aE,d≠.agg aE) (ae:∀aE,d≠.tuple aE):∃v,cs=[v]/\Value.fK v=true:=by
 cases d with
 |hole=>rw[ar]at h;obtain⟨v,h,rfl⟩:=h;exact⟨v,rfl,h⟩
 |fm=>rw[ar]at h;obtain⟨v,rfl⟩:=h;exact⟨_,rfl,rfl⟩
 |slice xs=>rw[ar]at h;rcases h with⟨_,a,c,rfl,_⟩|⟨b,o,cap,eA,sz,rfl,_⟩<;>exact⟨_,rfl,rfl⟩
 |ag sz xs=>rw[ar]at h;rcases h with⟨_,_,rfl⟩|⟨b,cap,cur,e,fr,dx,rfl,_⟩<;>exact⟨_,rfl,rfl⟩
 |ref d=>rw[ar]at h;obtain⟨b,o,eA,rfl,_⟩:=h;exact⟨_,rfl,rfl⟩
 |bf d=>rw[ar]at h;obtain⟨b,cur,e,fr,dx,rfl,_⟩:=h;exact⟨_,rfl,rfl⟩
 |agg aE=>exact(ab _ rfl).elim
 |tuple aE=>exact(ae _ rfl).elim
 |fn _ _=>rw[ar]at h;obtain⟨arr,rfl,_⟩:=h;exact⟨_,rfl,rfl⟩
 |h _ _=>rw[ar]at h;exact h.elim
 |aq _ _=>rw[ar]at h;exact h.elim
 |R _ _=>rw[ar]at h;exact h.elim
 |dS _=>rw[ar]at h;obtain⟨v,iE,rfl⟩:=lP.one h;exact⟨v,rfl,iE⟩
 |fJ _ _=>rw[ar]at h;obtain⟨arr,rfl,_⟩:=h;exact⟨_,rfl,rfl⟩
 |_=>rw[ar]at h;subst h;exact⟨_,rfl,rfl⟩
theorem I.AW {d:I} (h:d.single=true):(∀aE,d≠.agg aE)/\∀aE,d≠.tuple aE:=
 ⟨λaE e=>(by subst e;cases h),λaE e=>(by subst e;cases h)⟩
theorem aH.nU {F:Nat->Prop} {s:aw} {aC:Nat->Value} {d:I} {v:Value} (a8:d.tree=true) (ad:d.single=true) (h:ar w F d [v] (λ_=>False)):aH w F s aC d v (λ_=>False):=by
 obtain⟨ga,e,ab⟩:=ar.one h (I.AW ad).1 (I.AW ad).2;have:v=ga:=by simpa using e
 subst this;refine(aH.cv a8).2 ⟨?_,by rw[gq ab];exact h⟩;cases d<;>first|exact ab|cases ad
mutual
theorem aH.pM {F:Nat->Prop} {s:aw} {aC:Nat->Value}:∀(d:I) (v:Value),d.single=true->ar w F d [v] (λ_=>False)->aH w F s aC d v (λ_=>False)
 | .fn f caps,v,_,h=>by
   rw[ar]at h;obtain⟨arr,ab,ae,az⟩:=h;rw[aH];exact⟨arr,by simpa using ab,d_.pM caps _ ae az⟩
 | .bool b,v,ad,h=>aH.nU rfl ad h
 | .fm,v,ad,h=>aH.nU rfl ad h
 | .int k n,v,ad,h=>aH.nU rfl ad h
 | .str x,v,ad,h=>aH.nU rfl ad h
 | .dC,v,ad,h=>aH.nU rfl ad h
 | .bd,v,ad,h=>aH.nU rfl ad h
 | .slice xs,v,ad,h=>aH.nU rfl ad h
 | .ag sz xs,v,ad,h=>aH.nU rfl ad h
 | .ref d,v,ad,h=>aH.nU rfl ad h
 | .bf d,v,ad,h=>aH.nU rfl ad h
 | .h _ _,v,_,h=>by rw[ar]at h;exact h.elim
 | .aq _ _,v,_,h=>by rw[ar]at h;exact h.elim
 | .R _ _,v,_,h=>by rw[ar]at h;exact h.elim
 | .dS _,v,ad,h=>aH.nU rfl ad h
 | .fJ _ _,v,ad,h=>aH.nU rfl ad h
theorem d_.pM {F:Nat->Prop} {s:aw} {aC:Nat->Value}:∀(ds:alW) (vs:alU),(∀d∈ds,d.single=true)->a1 w F ds vs (λ_=>False)->d_ w F s aC ds vs
 |[],vs,_,h=>by rw[a1]at h;rw[d_];exact h
 |d::ds,vs,ad,h=>by
  rw[a1]at h;obtain⟨c1,c2,b5,dg,rfl,ae,az,a6,bF,_⟩:=h;have ai:=ad d (by simp);obtain⟨v,rfl,_⟩:=ar.one ae (I.AW ai).1 (I.AW ai).2;rw[d_];exact⟨v,c2,rfl,aH.pM d v ai (ar.mono (λ_ h=>h) _ _ _ _ (λb R=>a6 b R) ae),d_.pM ds c2 (λx au=>ad x (by simp[au])) (a1.mono (λ_ h=>h) _ _ _ _ (λb R=>bF b R) az)⟩
end
theorem AX (bn:C.Ok) {T:TypeId} {d:I} {b o:Nat} {cs:alU} {S:Nat->Prop} (h:Rd w b o cs) (ai:ar w F d cs S)
  (iF:fits C T d=true):
  ∃v,(loadVar T ⟨b,o,none⟩).run C.P w= .ok v w/\cj v=cs/\dD d v:=by
 unfold fits at iF;by_cases ad:∃aE,(C.T T).k= .struct aE
 .obtain⟨aE,ax⟩:=ad;rw[ax]at iF;cases d with
  |agg ds=>
   simp only[beq_iff_eq]at iF;refine⟨_,RV bn ax h ((ar.length _ _ _ ai).trans iF),rfl,⟨_,rfl⟩⟩
  |_=>simp at iF
 .have kp:(C.T T).flat=true/\(∀aE,d≠.agg aE)/\(∀aE,d≠.tuple aE):=by
   revert iF ad;cases ax:(C.T T).k<;>cases d<;>simp
  obtain⟨v,rfl,ab⟩:=ar.one ai kp.2.1 kp.2.2;refine⟨v,KD bn kp.1 h,gq ab,?_⟩;cases d<;>first|exact ab|exact(kp.2.1 _ rfl).elim|exact(kp.2.2 _ rfl).elim
theorem RW (bn:C.Ok) {T:TypeId} {d:I} {off:Nat} {arr:Array Value} {c1 cs c2:alU} {S:Nat->Prop} (he:arr.toList=c1++(cs++c2)) (bE:c1.length=off) (ai:ar w F d cs S)
  (iF:fits C T d=true):
  ∃v,(part T arr off).run C.P w= .ok v w/\cj v=cs/\dD d v:=by
 unfold fits at iF;by_cases ad:∃aE,(C.T T).k= .struct aE
 .obtain⟨aE,ax⟩:=ad;rw[ax]at iF;cases d with
  |agg ds=>
   simp only[beq_iff_eq]at iF;obtain⟨i,d,z,aR,aV,aW,cm,cC,b7,bW⟩:=bn.info (gg ax (by simp));have hl:cs.length=(C.T T).sz:=(ar.length _ _ _ ai).trans iF;have au:(arr.extract off (off+(C.T T).sz)).toList=cs:=by
    rw[Array.toList_extract,he,extract_eq_take_drop,<-hl,<-bE,Nat.add_sub_cancel_left,drop_left,take_left]
   refine⟨.agg (arr.extract off (off+(C.T T).sz)),?_,by simpa [cj,iu]using au,⟨_,rfl⟩⟩;simp[part,KA bn ax,kJ aR,aV]
  |_=>simp at iF
 .have kp:(C.T T).flat=true/\(∀aE,d≠.agg aE)/\(∀aE,d≠.tuple aE):=by
   revert iF ad;cases ax:(C.T T).k<;>cases d<;>simp
  obtain⟨v,rfl,ab⟩:=ar.one ai kp.2.1 kp.2.2;have bR:arr[off]? =some v:=by
   rw[<-Array.getElem?_toList,he,<-bE,getElem?_append_right (Nat.le_refl _)];simp
  refine⟨v,?_,gq ab,?_⟩
  .simp[part,EB bn kp.1,bR]
  .cases d<;>first|exact ab|exact(kp.2.1 _ rfl).elim|exact(kp.2.2 _ rfl).elim
theorem RX (bn:C.Ok) (h:bD w0 F0 X F S s aC w) {T:TypeId} {x:I} {v:Value} (aJ:aH w F s aC x v (λ_=>False)) (he:fk C s T x=some av):
  Good C w0 F0 X aC w (Instr.loadAt T v) av s:=by
 unfold fk at he;split at he
 .rename_i d;split at he
  .rename_i iF;simp only[some.injEq]at he;subst he;have mc:=(aH.cv rfl).1 aJ;rw[ar,gq mc.1]at mc;obtain⟨ad,b,o,eA,ab,ae,az,a6⟩:=mc;simp only[cons.injEq,and_true]at ab;subst ab;obtain⟨ga,aM,an,lq⟩:=AX bn az a6 iF;have eG:(Instr.loadAt T (.pointer (some ⟨b,o,none⟩))).run C.P w= .ok ga w:=by simp[Instr.loadAt,Instr.sureAddr,aM]
   refine⟨ga,w,F,S,eG,h,?_⟩;by_cases a8:d.tree=true
   .exact .inr ⟨a8,lq,λ_=>False,by rw[an];exact a6,λ_ h=>h.elim,λ_ h=>h.elim,λ_ _ h=>h.elim,λ_ h=>h.elim⟩
   .cases d<;>first|exact(a8 rfl).elim|(rw[ar]at a6;exact a6.elim)|exact .inl ⟨rfl,by rw[aH];trivial⟩|(have bF:=a6;rw[ar]at bF;obtain⟨arr,e,_⟩:=bF;rw[<-an]at e a6;rw[gq (by exact lq)]at a6;exact .inl ⟨rfl,aH.pM _ _ rfl a6⟩)
  .cases he
 .rename_i y k;split at he
  .rename_i ds nk;split at he
   .cases he
   .rename_i xm;split at he
    .rename_i i ao;split at he
     .rename_i d ai;split at he
      .rename_i iF;simp only[some.injEq]at he;have fI:(s y).plain=false:=by rw[nk];simp only[I.plain];simpa using xm
       rw[aH]at aJ;obtain⟨b,cur,e,fr,rfl,ae,az,a6⟩:=aJ fI;have bb:=h.dp y;rw[nk]at bb;have KE:=((aH.cv rfl).1 bb).2;rw[ar]at KE;obtain⟨c1,fG,c2,b5,hZ,gh,hF,fL,hn,h6,fZ,mb⟩:=a1.pick ds _ _ i d KE ai;have j2:Rd w b k fG:=by
        intro j c bm;have dv:j<fG.length:=(List.getElem?_eq_some_iff.1 bm).1;have:cur.toList[k+j]? =some c:=by
         rw[a6,gh,getElem?_append_right (by omega),getElem?_append_left (by omega),<-bm];congr 1;omega
        simp[World.cell?,az];simpa using this
       obtain⟨ga,aM,an,lq⟩:=AX bn j2 fZ iF.2;have eG:(Instr.loadAt T (.pointer (some ⟨b,k,none⟩))).run C.P w= .ok ga w:=by simp[Instr.loadAt,Instr.sureAddr,aM]
       refine⟨ga,w,F,S,eG,h,?_⟩;split at he
       .rename_i aq;subst he;by_cases a8:d.tree=true
        .exact .inl ⟨aq,(aH.cv a8).2 ⟨lq,by rw[an];exact ar.plain _ _ _ _ aq fZ⟩⟩
        .cases d<;>first|exact(a8 rfl).elim|(rw[ar]at fZ;exact fZ.elim)|exact .inl ⟨rfl,by rw[aH];trivial⟩|(have bF:=ar.plain _ _ _ (λ_=>False) aq fZ;rw[<-an]at bF;rw[gq (by exact lq)]at bF;exact .inl ⟨rfl,aH.pM _ _ rfl bF⟩)
       .subst he;refine .inl ⟨rfl,?_⟩;rw[aH];intro d2 hx _;rw[nk]at hx⊢;simp only[I.sub,ai,some.injEq]at hx;subst hx;refine⟨fG,none,?_,an,lq⟩;simp only[du,ai];rw[gh,sW c1 fG c2 _ _ hF (ar.length _ _ _ fZ)];rfl
      .cases he
     .cases he
    .cases he
  .cases he
 .rename_i x _ _;split at he
  .rename_i y q hl;split at he
   .rename_i d ai;split at he
    .rename_i iF;simp only[some.injEq]at he;obtain⟨oC,cQ,b,o,rfl,kH⟩:=Ex h aJ hl ai;have bb:=h.dp y;rw[aH.cv (h0 ai (.inr oC))]at bb;obtain⟨fT,cL,eh,fo,k0,b3,cc,eT,dL,fp⟩:=ctx q (s y) (cj (aC y)) (S y) none _ bb.2 ai;rw[k0]at kH;simp only[some.injEq,Prod.mk.injEq,true_and]at kH;obtain⟨rfl,rfl⟩:=kH;have j2:Rd w b o fT:=by
      rcases fp with⟨l,r,aR,aV,_⟩|⟨fH,cur,e,fr,l,r,aR,aV,aW,cm,cC,_⟩
      .simp at aV
      .simp only[some.injEq,Prod.mk.injEq]at aR;obtain⟨rfl,rfl⟩:=aR;intro j c bm;have dv:j<fT.length:=(List.getElem?_eq_some_iff.1 bm).1;have:cur.toList[l.length+j]? =some c:=by
        rw[cC,getElem?_append_right (by omega),getElem?_append_left (by omega),<-bm];congr 1;omega
       simp[World.cell?,aW];simpa using this
     obtain⟨ga,aM,an,lq⟩:=AX bn j2 dL iF;have eG:(Instr.loadAt T (.pointer (some ⟨b,o,none⟩))).run C.P w= .ok ga w:=by simp[Instr.loadAt,Instr.sureAddr,aM]
     refine⟨ga,w,F,S,eG,h,?_⟩;split at he
     .rename_i aq;subst he;by_cases a8:d.tree=true
      .exact .inl ⟨aq,(aH.cv a8).2 ⟨lq,by rw[an];exact ar.plain _ _ _ _ aq dL⟩⟩
      .cases d<;>first|exact(a8 rfl).elim|(rw[ar]at dL;exact dL.elim)|exact .inl ⟨rfl,by rw[aH];trivial⟩|(have bF:=ar.plain _ _ _ (λ_=>False) aq dL;rw[<-an]at bF;rw[gq (by exact lq)]at bF;exact .inl ⟨rfl,aH.pM _ _ rfl bF⟩)
     .subst he;refine .inl ⟨rfl,?_⟩;rw[aH];intro d2 hx _;rw[ai]at hx;simp only[some.injEq]at hx;subst hx;exact⟨_,_,k0,an,lq⟩
    .cases he
   .cases he
  .cases he
mutual
theorem ar.qO {F:Nat->Prop}:∀(d:I) (cs:alU) (S:Nat->Prop),ar w F d cs S->∀c∈cs,Value.fK c=true
 | .hole,cs,S,h=>by rw[ar]at h;obtain⟨v,h,rfl⟩:=h;simpa using h
 | .bool _,cs,S,h=>by rw[ar]at h;subst h;simp[Value.fK]
 | .fm,cs,S,h=>by rw[ar]at h;obtain⟨b,rfl⟩:=h;simp[Value.fK]
 | .int _ _,cs,S,h=>by rw[ar]at h;subst h;simp[Value.fK]
 | .str _,cs,S,h=>by rw[ar]at h;subst h;simp[Value.fK]
 | .dC,cs,S,h=>by rw[ar]at h;subst h;simp[Value.fK]
 | .bd,cs,S,h=>by rw[ar]at h;subst h;simp[Value.fK]
 | .slice xs,cs,S,h=>by
   rw[ar]at h;rcases h with⟨_,a,c,rfl,_⟩|⟨b,o,cap,eA,sz,rfl,_⟩<;>simp[Value.fK]
 | .ag sz xs,cs,S,h=>by
   rw[ar]at h;rcases h with⟨_,_,rfl⟩|⟨b,cap,cur,e,fr,aN,rfl,_⟩<;>simp[Value.fK]
 | .ref d,cs,S,h=>by rw[ar]at h;obtain⟨b,o,eA,rfl,_⟩:=h;simp[Value.fK]
 | .bf d,cs,S,h=>by rw[ar]at h;obtain⟨b,o,eA,_,_,rfl,_⟩:=h;simp[Value.fK]
 | .agg aE,cs,S,h=>by rw[ar]at h;exact a1.qO aE _ _ h
 | .tuple aE,cs,S,h=>by rw[ar]at h;exact a1.qO aE _ _ h
 | .fn _ _,cs,S,h=>by rw[ar]at h;obtain⟨arr,rfl,_⟩:=h;simp[Value.fK]
 | .h _ _,cs,S,h=>by rw[ar]at h;exact h.elim
 | .aq _ _,cs,S,h=>by rw[ar]at h;exact h.elim
 | .R _ _,cs,S,h=>by rw[ar]at h;exact h.elim
 | .dS _,cs,S,h=>by rw[ar]at h;obtain⟨v,iE,rfl⟩:=lP.one h;simpa using iE
 | .fJ _ _,cs,S,h=>by rw[ar]at h;obtain⟨arr,rfl,_⟩:=h;simp[Value.fK]
theorem a1.qO {F:Nat->Prop}:∀(ds:alW) (cs:alU) (S:Nat->Prop),a1 w F ds cs S->∀c∈cs,Value.fK c=true
 |[],cs,S,h=>by rw[a1]at h;subst h;simp
 |d::ds,cs,S,h=>by
  rw[a1]at h;obtain⟨c1,c2,b5,dg,rfl,ae,az,_⟩:=h;intro c an;rcases mem_append.1 an with an|an
  .exact ar.qO d _ _ ae c an
  .exact a1.qO ds _ _ az c an
end
theorem AY {P:Program} {b o:Nat} {e:TypeId} {fr:Nat×Nat}:∀(vs:alU) (i:Nat) (cur:Array Value) (w:World) (l m r:alU),w.heap[b]? =some (.cells cur e fr)->k2 fr cur.size->
  cur.toList=l++(m++r)->l.length=o+i->m.length=vs.length->(∀v∈vs,Value.fK v=true)->
  ∃aF,(storeCells ⟨b,o,none⟩ vs i).run P w= .ok () aF/\aF.heap[b]? =some (.cells (l++(vs++r)).toArray e fr)/\(∀c,c≠b->aF.heap[c]? =w.heap[c]?)/\aF.heap.size=w.heap.size/\aF.os=w.os/\aF.tape=w.tape/\Out aF w
 |[],i,cur,w,l,m,r,R,bo,an,hl,hm,_=>by
  refine⟨w,rfl,?_,λ_ _=>rfl,rfl,rfl,rfl,Out.refl _⟩;have:m=[]:=by simpa using hm
  subst this;rw[R];have:cur=(l++([]++r)).toArray:=by rw[<-an]
  rw[<-this]
 |v::vs,i,cur,w,l,m,r,R,bo,an,hl,hm,pN=>by
  obtain⟨x,m,rfl⟩:∃x h8,m=x::h8:=by cases m with
   |nil=>simp at hm
   |cons x m=>exact⟨x,m,rfl⟩
  have hlen:cur.size=(l++(x::m++r)).length:=by rw[<-an];simp
  have dv:o+i<cur.size:=by rw[hlen];simp;omega
  have oD:w.cell? ⟨b,o+i,none⟩=some cur[o+i]:=by simp[World.cell?,R,dv]
  have RY:w.frozen? ⟨b,o+i,none⟩=false:=by
   have:=bo (o+i) dv;simp only[World.frozen?,R];simp only[Bool.and_eq_false_iff,decide_eq_false_iff_not];by_cases ab:fr.1<=o+i
   .right;exact λae=>this ⟨ab,ae⟩
   .left;exact ab
  have rU:(w.setCell ⟨b,o+i,none⟩ v).heap[b]? =some (.cells ((l++[v])++(m++r)).toArray e fr):=by
   simp only[World.setCell,Array.getElem?_modify,if_true,R,map_some,isSome_none,Bool.false_eq_true,if_false];congr 2;apply Array.ext';rw[Array.toList_setIfInBounds,an,<-hl,set_append_right _ _ (Nat.le_refl _)];simp
  have s6:(store ((⟨b,o,none⟩:Addr).add i) v).run P w= .ok () (w.setCell ⟨b,o+i,none⟩ v):=by
   have ab:=pN v (by simp);rw[Addr.add_lit];cases v<;>first|(simp[Value.fK]at ab;done)|simp[Go.store,Sem.run,oD,RY]
  obtain⟨aF,g1,g2,g3,g4,g5,g6,g7⟩:=AY (P:=P) (b:=b) (o:=o) vs (i+1) _ (w.setCell ⟨b,o+i,none⟩ v) (l++[v]) m r rU (by
   have:(l++[v]++(m++r)).toArray.size=cur.size:=by rw[hlen];simp
   rw[this];exact bo) (by simp) (by simp;omega) (by simpa using hm) (λu hu=>pN u (by simp[hu]))
  refine⟨aF,?_,by simpa using g2,λc an=>?_,?_,g5,g6,g7⟩
  .simp only[storeCells,Sem.run_bind,s6,Result.andThen];exact g1
  .rw[g3 c an];simp only[World.setCell,Array.getElem?_modify];rw[if_neg (λe=>an e.symm)]
  .rw[g4];simp[World.setCell]
theorem xn {d:I} {v:Value} (h:dD d v) (ai:∀aE,d≠.tuple aE):v.cells=(cj v).toArray:=by
 cases d with
 |tuple aE=>exact(ai _ rfl).elim
 |agg aE=>obtain⟨arr,rfl⟩:=h;simp[Value.cells,cj,iu]
 |_=>
  have ab:Value.fK v=true:=h;rw[gq ab];cases v<;>first|rfl|(simp[Value.fK]at ab)
def iV (C:ca) (s:aw) (T:TypeId) (x y:I):Option aw:=
 match cV s y,loc s x with
 |some (d,s1),some (z,q)=>match d with
  | .tuple _=>none
  |d=>match I.sub q (s z)with
   |some d0=>if d.wd=d0.wd/\d.wd=(C.T T).sz/\(C.T T).ok=true/\y.owner≠some z then some (dq (h7 z s1) z (I.put q d (s z)))else none
   |none=>none
 |_,_=>none
theorem RZ {s s1:aw} {y d:I} {z:Nat} (h:cV s y=some (d,s1)) (bZ:(s z).tree=true) (bb:y.owner≠some z):s1 z=s z:=by
 cases y with
 |h x q=>
  simp only[cV]at h;split at h
  .split at h
   .cases h
   .simp only[some.injEq,Prod.mk.injEq]at h;obtain⟨_,rfl⟩:=h;rw[je _ _ (λe=>bb (by rw[I.owner,e]))];exact Em bZ
  .cases h
 |aq x q=>simp[cV]at h
 |R x q=>simp[cV]at h
 |fn f c=>simp[cV]at h
 |hole=>simp[cV]at h
 |_=>simp only[cV,some.injEq,Prod.mk.injEq]at h;rw[h.2]
theorem R0 (bn:C.Ok) (h:bD w0 F0 X F S s aC w) {T:TypeId} {x y:I} {iG jw:Value} (EC:aH w F s aC x iG (λ_=>False)) (bb:y.plain=true) (R1:aH w F s aC y jw (λ_=>False))
  {s2:aw} (he:iV C s T x y=some s2):
  ∃aF aN,(Instr.storeAt T iG jw).run C.P w= .ok () aF/\bD w0 F0 X F aN s2 aC aF:=by
 unfold iV at he;split at he
 .rename_i d s1 z q a8 hl;have key:∀d:I,(∀aE,d≠.tuple aE)->cV s y=some (d,s1)->(match I.sub q (s z)with
   |some d0=>if d.wd=d0.wd/\d.wd=(C.T T).sz/\(C.T T).ok=true/\y.owner≠some z then some (dq (h7 z s1) z (I.put q d (s z)))else none
   |none=>none)=some s2->∃aF aN,(Instr.storeAt T iG jw).run C.P w= .ok () aF/\bD w0 F0 X F aN s2 aC aF:=by
   intro d qP a8 he;split at he
   .rename_i d0 k5;split at he
    .rename_i xo;obtain⟨ab,ae,az,a6⟩:=xo;simp only[some.injEq]at he;subst he;obtain⟨oC,cQ,b,o,rfl,kH⟩:=Ex h EC hl k5;obtain⟨b5,g0,g1,g2,Sn,g3,g4,g5,g6,g7,g8⟩:=pJ h bb R1 a8;have ea:s1 z=s z:=RZ a8 (h0 k5 (.inr oC)) a6;rw[<-ea]at k5 oC kH⊢;obtain⟨fT,fH,l,r,cur,e,fr,k0,b3,cc,eT,dL⟩:=g0.store k5 oC g3 ab g4 g5 g6 g7;rw[kH]at k0;simp only[some.injEq,Prod.mk.injEq,true_and]at k0;obtain⟨rfl,rfl,rfl⟩:=k0;obtain⟨i,d,qN,aR,aV,aW,cm,cC,b7,bW⟩:=bn.info az;have hlen:=ar.length _ _ _ g3;have hm:cQ.length=(cj jw).length:=by
      have KF:=g0.dp z;rw[aH.cv (h0 k5 (.inr oC))]at KF;obtain⟨_,_,_,_,ni,_,_,_,mJ,_⟩:=ctx q (s1 z) (cj (aC z)) (b5 z) none _ KF.2 k5;rw[kH]at ni;simp only[some.injEq,Prod.mk.injEq,true_and]at ni;rw[ni.1,ar.length _ _ _ mJ,hlen,ab]
     obtain⟨aF,m1,m2,m3,m4,m5,m6,m7⟩:=AY (P:=C.P) (b:=b) (o:=l.length) (e:=e) (fr:=fr) (cj jw) 0 cur w l cQ r b3 eT cc rfl hm (ar.qO _ _ _ g3);obtain⟨aN,fp⟩:=dL aF m2 m3 m4 m5 m6 m7;refine⟨aF,aN,?_,fp⟩;have oE:=xn g2 qP;simp[Instr.storeAt,Instr.sureAddr,storeVar,kJ aR,aV,oE,hlen,ae,m1]
    .cases he
   .cases he
  split at he
  .cases he
  .rename_i qP;exact key _ (λaE e=>qP aE e) a8 he
 .cases he
theorem bD.alloc (h:bD w0 F0 X F S s aC w) {d:I} {cs:alU} {Sn:Nat->Prop} (e:TypeId) (aJ:ar w F d cs Sn)
  (dv:∀b,Sn b->b<w.heap.size) (bh:∀b,Sn b->¬F b) (bK:∀u b,Sn b->¬S u b) (aX:∀b,Sn b->X b\/w0.heap.size<=b):
  bD w0 F0 X F S s aC (w.alloc (.cells cs.toArray e))/\
   k4 w0 X F S s aC (w.alloc (.cells cs.toArray e)) (.bf d) (.pointer (some ⟨w.heap.size,0,none⟩)):=by
 have hold:∀b,b<w.heap.size->(w.alloc (.cells cs.toArray e)).heap[b]? =w.heap[b]? :=by
  intro b R;show(w.heap.push _)[b]? =_;rw[Array.getElem?_push,if_neg (by omega)]
 refine⟨h.grow hold (by simp) rfl rfl ⟨rfl,λ_=>Nat.le_refl _⟩,.inr ⟨rfl,rfl,λb=>b=w.heap.size\/Sn b,?_,?_,?_,?_,?_⟩⟩
 .rw[ar];refine⟨w.heap.size,cs.toArray,e,(0,0),Sn,rfl,.inl rfl,?_,?_,?_,λc an=>.inr an,λan=>Nat.lt_irrefl _ (dv _ an)⟩
  .show(w.heap.push _)[_]? =_;simp
  .intro o _ ⟨_,ae⟩;exact absurd ae (not_lt_zero _)
  .exact ar.frame (λb R=>hold b (h.eQ b R)) _ _ _ (λb R=>hold b (dv b R)) aJ
 .rintro b (rfl|R)
  .simp
  .have:=dv b R;simp;omega
 .rintro b (rfl|R) qQ
  .exact Nat.lt_irrefl _ (h.eQ _ qQ)
  .exact bh b R qQ
 .rintro u b (rfl|R) hu
  .exact Nat.lt_irrefl _ (h.dW _ _ hu)
  .exact bK u b R hu
 .rintro b (rfl|R)
  .exact .inr h.size
  .exact aX b R
def kq (C:ca) (T:TypeId):Option I:=if(C.T T).ok=true then(match(C.T T).k,(C.T T).zero with
    | .hd e,.agg [.dC,.bd]=>some (.dS (.iM T e []))
    | .hd _,_=>none
    |_,z=>(match flat z with|some _=>some (.bf z)|none=>none))else none
theorem R2 (bn:C.Ok) (h:bD w0 F0 X F S s aC w) {T:TypeId} (he:kq C T=some av):Good C w0 F0 X aC w (Instr.alloc T true (.tuple #[])) av s:=by
 unfold kq at he;split at he
 .rename_i ax;split at he
  .rename_i ajM ajN R3;simp only[some.injEq]at he;subst he;obtain⟨i,d,z,aR,aV,aW,cm,cC,b7,bW⟩:=bn.info ax;have bZ:=cC [.pointer none,.slice none 0 0] (by rw[R3];rfl);have hold:∀b,b<w.heap.size->(w.alloc (.cells #[.pointer none,.slice none 0 0] T)).heap[b]? =w.heap[b]? :=by
    intro b R;show(w.heap.push _)[b]? =_;rw[Array.getElem?_push,if_neg (by omega)]
   refine⟨.pointer (some ⟨w.heap.size,0,none⟩),w.alloc (.cells #[.pointer none,.slice none 0 0] T),F,S,?_,h.grow hold (by simp) rfl rfl ⟨rfl,λ_=>Nat.le_refl _⟩,.inr ⟨rfl,rfl,λb=>b=w.heap.size,?_,?_,?_,?_,?_⟩⟩
   .simp[Instr.alloc,s5 aR cm,newVar,newRow,newObj,Sem.run,bZ]
   .rw[ar];refine⟨w.heap.size,.pointer none,.slice none 0 0,rfl,rfl,?_,.inl rfl,.inl ⟨rfl,rfl⟩⟩;show(w.heap.push _)[_]? =_;simp
   .rintro b rfl;simp
   .rintro b rfl qQ;exact Nat.lt_irrefl _ (h.eQ _ qQ)
   .rintro u b rfl hu;exact Nat.lt_irrefl _ (h.dW _ _ hu)
   .rintro b rfl;exact .inr h.size
  .cases he
  split at he
  .rename_i cs gh;simp only[some.injEq]at he;subst he;obtain⟨i,d,z,aR,aV,aW,cm,cC,b7,bW⟩:=bn.info ax;have bZ:=cC cs gh;obtain⟨di,aZ⟩:=h.alloc (d:=(C.T T).zero) T ((ar.flat _).1 _ cs (λ_=>False) (Nat.le_refl _) gh) (λ_ h=>h.elim) (λ_ h=>h.elim) (λ_ _ h=>h.elim) (λ_ h=>h.elim);refine⟨_,_,F,S,?_,di,aZ⟩;simp[Instr.alloc,s5 aR cm,newVar,newRow,newObj,Sem.run,bZ]
  .cases he
 .cases he
def iw (s:aw) (x:I):Option (I×aw):=match cV s x with
 |some (.tuple _,_)=>none
 |some (d,s1)=>some (.bf d,s1)
 |none=>none
def jM (s:aw) (x:I):Option (I×aw):=match x with
 | .h y q=>match q,s y with
   |[],.agg ds=>if I.eg ds then none else some (.R y 0,s)
   |_,_=>none
 | .fn f caps=>if caps.all (λd=>d.single&&(d.tree&&d.plain))=true then some (.ref (.fn f caps),s)else none
 |_=>none
theorem a1.KG {w:World} {F bO:Nat->Prop} {s:aw} {aC:Nat->Value} (bh:∀b,F b->bO b):∀(ds:alW) (vs:alU),(∀d∈ds,d.single=true/\d.tree=true/\d.plain=true)->d_ w F s aC ds vs->a1 w bO ds vs (λ_=>False)
 |[],vs,_,h=>by rw[d_]at h;rw[a1];exact h
 |d::ds,vs,ad,h=>by
  rw[d_]at h;obtain⟨v,jI,rfl,ab,ae⟩:=h;obtain⟨d1,d2,d3⟩:=ad d (by simp);have az:=(aH.cv d2).1 ab;have bE:Value.fK v=true:=by
   have:=az.1;cases d<;>first|exact this|cases d1
  have a6:=az.2;rw[gq bE]at a6;rw[a1];exact⟨[v],jI,λ_=>False,λ_=>False,rfl,ar.mono bh _ _ _ _ (λ_ h=>h) a6,a1.KG bh ds jI (λx au=>ad x (by simp[au])) ae,λ_ h=>h,λ_ h=>h,λ_ h=>h.elim⟩
theorem R4 {T:TypeId} {v:Value} (h:bD w0 F0 X F S s aC w):bD w0 F0 X (λb=>F b\/b=w.heap.size) S s aC (w.alloc (.cells (cj v).toArray T)):=by
 have hold:∀b,b<w.heap.size->(w.alloc (.cells (cj v).toArray T)).heap[b]? =w.heap[b]? :=by
  intro b R;show(w.heap.push _)[b]? =_;rw[Array.getElem?_push,if_neg (by omega)]
 have ab:=h.grow hold (by simp) rfl rfl ⟨rfl,λ_=>Nat.le_refl _⟩;exact {
  gm:=λb R=>.inl (ab.gm b R)
  gC:=λb R=>by
   rcases R with R|rfl
   .exact ab.gC b R
   .exact .inr (.inr h.size)
  eQ:=λb R=>by
   rcases R with R|rfl
   .exact ab.eQ b R
   .simp
  dW:=ab.dW
  fb:=λt b R bo=>by
   rcases bo with bo|rfl
   .exact ab.fb t b R bo
   .exact absurd (h.dW t _ R) (Nat.lt_irrefl _)
  e_:=ab.e_
  dx:=ab.dx
  dp:=λt=>aH.frame (λ_ _=>rfl) (λb R=>.inl R) (λ_ _ _=>rfl) ab.dp _ _ _ (λ_ _=>rfl) (ab.dp t)
  old:=ab.old
  size:=ab.size
  os:=ab.os
  tape:=ab.tape
  output:=ab.output
  gn:=h.gn}
theorem R5 (h:bD w0 F0 X F S s aC w) {T:TypeId} {x:I} {v:Value} (aJ:aH w F s aC x v (λ_=>False)) (he:jM s x=some (av,s1)):
  Good C w0 F0 X aC w (Instr.box T v) av s1:=by
 unfold jM at he;split at he
 .rename_i y q;split at he
  .rename_i ds nk;split at he
   .cases he
   .rename_i xm;simp only[some.injEq,Prod.mk.injEq]at he;obtain⟨rfl,rfl⟩:=he;rw[aH]at aJ;obtain⟨cQ,a,g1,g2,g3⟩:=aJ (s y) (by simp only[I.sub]) (by rw[nk];simp only[I.plain];simpa using xm);simp only[du,some.injEq,Prod.mk.injEq,true_and]at g1;rw[nk]at g3;have oE:=xn g3 (λaE e=>by cases e);have hold:∀b,b<w.heap.size->(w.alloc (.cells (cj v).toArray T)).heap[b]? =w.heap[b]? :=by
     intro b R;show(w.heap.push _)[b]? =_;rw[Array.getElem?_push,if_neg (by omega)]
    refine⟨.pointer (some ⟨w.heap.size,0,none⟩),w.alloc (.cells (cj v).toArray T),λb=>F b\/b=w.heap.size,S,by simp[Instr.box,newVar,newRow,newObj,Sem.run,oE],?_,.inl ⟨rfl,?_⟩⟩
    .have ab:=h.grow hold (by simp) rfl rfl ⟨rfl,λ_=>Nat.le_refl _⟩;exact {
      gm:=λb R=>.inl (ab.gm b R)
      gC:=λb R=>by
       rcases R with R|rfl
       .exact ab.gC b R
       .exact .inr (.inr h.size)
      eQ:=λb R=>by
       rcases R with R|rfl
       .exact ab.eQ b R
       .simp
      dW:=ab.dW
      fb:=λt b R bo=>by
       rcases bo with bo|rfl
       .exact ab.fb t b R bo
       .exact absurd (h.dW t _ R) (Nat.lt_irrefl _)
      e_:=ab.e_
      dx:=ab.dx
      dp:=λt=>aH.frame (λ_ _=>rfl) (λb R=>.inl R) (λ_ _ _=>rfl) ab.dp _ _ _ (λ_ _=>rfl) (ab.dp t)
      old:=ab.old
      size:=ab.size
      os:=ab.os
      tape:=ab.tape
      output:=ab.output
      gn:=h.gn}
    .rw[aH];intro _;refine⟨w.heap.size,(cj v).toArray,T,(0,0),rfl,.inr rfl,?_,?_⟩
     .show(w.heap.push _)[_]? =_;simp
     .rw[g1.1,<-g2]
  .cases he
 .rename_i f caps;split at he
  .rename_i an;simp only[some.injEq,Prod.mk.injEq]at he;obtain⟨rfl,rfl⟩:=he;have gh:∀d∈caps,d.single=true/\d.tree=true/\d.plain=true:=λd ai=>by
    have:=List.all_eq_true.1 an d ai;simpa only[Bool.and_eq_true]using this
   rw[aH]at aJ;obtain⟨arr,rfl,aJ⟩:=aJ;have oE:=xn (d:=.fn f caps) (v:=.func (.func f) #[] arr) rfl (λaE e=>by cases e);have bR:=R4 (T:=T) (v:=.func (.func f) #[] arr) h;refine⟨.pointer (some ⟨w.heap.size,0,none⟩),w.alloc (.cells (cj (.func (.func f) #[] arr)).toArray T),λb=>F b\/b=w.heap.size,S,by simp[Instr.box,newVar,newRow,newObj,Sem.run,oE],bR,.inl ⟨rfl,?_⟩⟩;refine(aH.cv rfl).2 ⟨rfl,?_⟩;rw[ar];refine⟨w.heap.size,0,[.func (.func f) #[] arr],rfl,.inr rfl,?_,?_⟩
   .have lo:(w.alloc (.cells (cj (.func (.func f) #[] arr)).toArray T)).heap[w.heap.size]? =some (.cells (cj (.func (.func f) #[] arr)).toArray T (0,0)):=by
     show(w.heap.push _)[_]? =_;simp
    intro j c bm;cases j with
    |zero=>
     simp only[getElem?_cons_zero,some.injEq]at bm;subst bm;have e:cj (.func (.func f) #[] arr)=[.func (.func f) #[] arr]:=gq rfl;unfold World.cell?;show(match(w.alloc (.cells (cj (.func (.func f) #[] arr)).toArray T)).heap[w.heap.size]? with
      |some (.cells c _ _)=>c[0+0]?
      |_=>none)=_
     rw[lo,e];rfl
    |succ j=>simp at bm
   .rw[ar];refine⟨arr,rfl,λd ai=>(gh d ai).1,?_⟩;have bF:=a1.KG (bO:=F) (λb R=>R) caps arr.toList gh aJ;refine a1.mono (F:=F) (λb R=>.inl R) caps _ _ _ (λ_ h=>h) (a1.frame (λb R=>?_) caps _ _ (λ_ h=>h.elim) bF);have dv:=h.eQ b R;show(w.heap.push _)[b]? =_;rw[Array.getElem?_push,if_neg (by omega)]
  .cases he
 .cases he
theorem R6 (h:bD w0 F0 X F S s aC w) {T:TypeId} {x:I} {v:Value} (au:x.plain=true) (aJ:aH w F s aC x v (λ_=>False)) (he:iw s x=some (av,s1)):
  Good C w0 F0 X aC w (Instr.box T v) av s1:=by
 unfold iw at he;split at he
 .cases he
 .rename_i d s2 qP a8;simp only[some.injEq,Prod.mk.injEq]at he;obtain⟨rfl,rfl⟩:=he;obtain⟨b5,g0,g1,g2,Sn,g3,g4,g5,g6,g7,g8⟩:=pJ h au aJ a8;obtain⟨di,aZ⟩:=g0.alloc T g3 g4 g5 g6 g7;refine⟨_,_,F,b5,?_,di,aZ⟩;have oE:=xn g2 (λaE e=>qP aE e);simp[Instr.box,newVar,newRow,newObj,Sem.run,oE]
 .cases he
end
end Go.de
