/- Part of a proof that a law returns true for every input. No condition. -/
import Derived.Test.YtmaepbgkcmjcjaiGreatDoorFwB
import Derived.Laws.Entries
namespace Go.eg
open List Option Go.IntKind Nat
inductive qe where
 |int (k:IntKind)
 |bool
 |str
 |ptr (e:TypeId)
 |slice (e:TypeId)
 |struct (aE:List (TypeId×Nat))
 |fn
 |gm (e:TypeId)
 |map (k e:TypeId)
 |other
structure hB where
 k:qe
 sz:Nat
 bytes:Nat
 zero:I
mutual
def flat:I->Option azi
 | .bool b=>some [.bool b]
 | .int k n=>some [.int k n]
 | .str s=>some [.string ⟨⟨s⟩⟩]
 | .eh=>some [.pointer none]
 | .a8=>some [.slice none 0 0]
 | .agg aE=>vv aE
 | .b9 .kc=>some [.map none]
 |_=>none
def vv:azk->Option azi
 |[]=>some []
 |d::ds=>match flat d,vv ds with
  |some a,some b=>some (a++b)
  |_,_=>none
end
theorem aA.flat {w:World} {F:Nat->Prop}:∀n,(∀(d:I) (cs:azi) (S:Nat->Prop),SizeOf.sizeOf d<=n->flat d=some cs->aA w F d cs S)/\
  (∀(ds:azk) (cs:azi) (S:Nat->Prop),SizeOf.sizeOf ds<=n->vv ds=some cs->bA w F ds cs S):=by
 intro n;induction n with
 |zero=>exact⟨λd _ _ cf=>by cases d<;>simp at cf<;>omega,λds _ _ cf=>by cases ds<;>simp at cf<;>omega⟩
 |succ n ih=>
  refine⟨λd cs S cf h=>?_,λds cs S cf h=>?_⟩
  .cases d with
   |agg aE=>rw[aA];exact ih.2 aE cs S (by simp at cf;omega) (by simpa [eg.flat]using h)
   |bool b=>simp[eg.flat]at h;subst h;rw[aA]
   |int k n=>simp[eg.flat]at h;subst h;rw[aA]
   |str s=>simp[eg.flat]at h;subst h;rw[aA]
   |eh=>simp[eg.flat]at h;subst h;rw[aA]
   |a8=>simp[eg.flat]at h;subst h;rw[aA]
   |b9 o=>cases o<;>simp[eg.flat]at h;subst h;rw[aA];rfl
   |_=>simp[eg.flat]at h
  .cases ds with
   |nil=>simp[vv]at h;subst h;rw[bA]
   |cons d ds=>
    simp only[vv]at h;split at h
    .rename_i a b bl ab;simp at h;subst h;simp at cf;rw[bA];exact⟨a,b,λ_=>False,λ_=>False,rfl,ih.1 d a _ (by omega) bl,ih.2 ds b _ (by omega) ab,λ_ h=>h.elim,λ_ h=>h.elim,λ_ h=>h.elim⟩
    .cases h
def nU:qe->TypeDesc->Prop
 | .int k,.int da=>k=da
 | .bool,.bool=>True
 | .str,.string=>True
 | .ptr e,.pointer hi=>e=hi
 | .slice e,.slice hi=>e=hi
 | .struct aE,.struct gs=>gs.toList.map (λg=>(g.type,g.offset))=aE
 | .fn,.func _ _ _=>True
 | .gm _,.struct _=>True
 | .map k e,.map da hi=>k=da/\e=hi
 |_,_=>False
def TR (P:Program) (t:TypeId) (x:hB):Prop:=
 (∃e n b z,x=⟨.other,e,n,b⟩/\z=0)\/
 ∃i d z,P.info? t=some i/\i.size=x.sz/\i.bytes=x.bytes/\i.zero=some z/\(∀cs,flat x.zero=some cs->z.cells=cs.toArray)/\P.underlying t=some d/\nU x.k d
structure cl where
 P:Program
 T:TypeId->hB
 M:FuncId->List Bool
structure cl.fH (C:cl):Prop where
 ty:∀t,TR C.P t (C.T t)
 mixed:C.P.follows .mixedOrders=true
inductive bE where
 |t (n:Nat)
 |c (av:I)
 |f (g:FuncId)
def HV:Value->Option I
 | .bool b=>some (.bool b)
 | .int k n=>some (.int k n)
 | .string s=>some (.str s.data.toList)
 | .pointer none=>some .eh
 | .slice none 0 0=>some .a8
 |_=>none
def eC:Operand->Option bE
 | .tmp n=>some (.t n)
 | .const v=>(HV v).map .c
 | .func g=>some (.f g)
 | .global _=>none
def vw (x:Nat) (d:I):I:=if d.plain then d else .h x []
def bt (s:al):bE->I
 | .t n=>vw n (s n)
 | .c av=>av
 | .f g=>.fn g []
theorem aS.nothing {w:World} {F:Nat->Prop} {s:al} {aG:Nat->Value} {d:I} {v:Value} {S aZ:Nat->Prop} (ay:d.plain=true) (h:aS w F s aG d v S):aS w F s aG d v aZ:=by
 cases d<;>first
  |(rw[aS];trivial)
  |(rw[aS]at h⊢;exact h)
  |(have bD:=(aS.dr rfl).1 h;exact(aS.dr rfl).2 ⟨bD.1,aA.plain _ _ _ _ ay bD.2⟩)
section
variable {w0 w:World} {F0 X F:Nat->Prop} {S:Nat->Nat->Prop} {s:al} {aG:Nat->Value} {a:Act}
theorem TS (s:al) (x:bE) (ar:∀av,x= .c av->av.plain=true):(bt s x).plain=true:=by
 cases x with
 |t n=>simp only[bt,vw];split<;>first|assumption|rfl
 |c av=>exact ar _ rfl
 |f g=>rfl
theorem Mu {v:Value} {av:I} (h:HV v=some av):av.plain=true:=by
 unfold HV at h;split at h<;>simp at h<;>subst h<;>rfl
theorem gF (h:cd w0 F0 X F S s aG w) (e_:∀t,aG t=a.tmps.getD t undef) {o:Operand} {x:bE} (bL:eC o=some x):
  (bt s x).plain=true/\aS w F s aG (bt s x) (a.eval o) (λ_=>False):=by
 cases o with
 |tmp n=>
  simp[eC]at bL;subst bL;simp only[bt,vw,Act.eval,<-e_];split
  .rename_i ay;exact⟨ay,aS.nothing ay (h.ey n)⟩
  .rename_i ay;refine⟨rfl,?_⟩;rw[aS];intro d ao Mv;simp only[I.sub,some.injEq]at ao;subst ao;have aY:=ju (q:=[]) rfl (.inl Mv);exact⟨_,none,rfl,rfl,((aS.dr aY).1 (h.ey n)).1⟩
 |const v=>
  simp only[eC,map_eq_some_iff]at bL;obtain⟨av,sj,rfl⟩:=bL;refine⟨Mu sj,?_⟩;simp only[bt,Act.eval];unfold HV at sj;split at sj<;>simp at sj<;>subst sj<;>rw[aS,aA]<;>exact⟨rfl,rfl⟩
 |func g=>
  simp[eC]at bL;subst bL;refine⟨rfl,?_⟩;simp only[bt,Act.eval];rw[aS];exact⟨#[],rfl,by rw[fo]⟩
 |global g=>simp[eC]at bL
def nV (w0:World) (X F:Nat->Prop) (S:Nat->Nat->Prop) (s:al) (aG:Nat->Value) (w:World) (av:I) (v:Value):Prop:=
 (av.plain=true/\aS w F s aG av v (λ_=>False))\/
 (av.tree=true/\eK av v/\∃Sn,aA w F av (dd v) Sn/\(∀b,Sn b->b<w.heap.size)/\(∀b,Sn b->¬F b)/\(∀u b,Sn b->¬S u b)/\(∀b,Sn b->X b\/w0.heap.size<=b))
def fin (s:al) (dst:Option Nat) (av:I):al:=match dst with
 |none=>s
 |some t=>if av.plain then et s t av else et (oA t s) t av
def qf (aG:Nat->Value) (dst:Option Nat) (v:Value):Nat->Value:=match dst with
 |none=>aG
 |some t=>et aG t v
theorem cd.fin (h:cd w0 F0 X F S s aG w) {av:I} {v:Value} (aF:nV w0 X F S s aG w av v) (dst:Option Nat):
  ∃aZ,cd w0 F0 X F aZ (eg.fin s dst av) (qf aG dst v) w:=by
 cases dst with
 |none=>exact⟨S,h⟩
 |some t=>
  simp only[eg.fin,qf];rcases aF with⟨ay,ao⟩|⟨aY,aa,Sn,ad,ae,aJ,bh,b2⟩
  .rw[if_pos ay];exact⟨_,h.D7 ay ao⟩
  .split
   .rename_i ay;exact⟨_,h.D7 ay ((aS.dr aY).2 ⟨aa,aA.plain _ _ _ _ ay ad⟩)⟩
   .exact⟨_,h.TM aY aa ad ae aJ (λu b _ ab=>bh u b ab) b2⟩
def dD (s:al):I->Option (I×al)
 | .h x q=>match I.sub q (s x)with
   |some d=>if d.plain then none else some (d,et (jc x s) x (I.put q d.dR (s x)))
   |none=>none
 | .ay _ _=>none
 | .ab _ _=>none
 | .fn _ _=>none
 | .hole=>none
 |d=>some (d,s)
def I.owner:I->Option Nat
 | .h x _=>some x
 |_=>none
def nd:Option Nat->I->I
 |some x,d=>cG x d
 |none,d=>d
theorem sk (h:cd w0 F0 X F S s aG w) {av d:I} {s1:al} {v:Value} (sj:av.plain=true) (aF:aS w F s aG av v (λ_=>False)) (aY:dD s av=some (d,s1)):
  ∃cD,cd w0 F0 X F cD s1 aG w/\d.tree=true/\eK d v/\∃Sn,aA w F d (dd v) Sn/\(∀b,Sn b->b<w.heap.size)/\(∀b,Sn b->¬F b)/\(∀u b,Sn b->¬cD u b)/\(∀b,Sn b->X b\/w0.heap.size<=b)/\
   (∀u b,cD u b->S u b)/\(∀b,Sn b->∃u,S u b)/\(∀(bM:I) (hl:Value) (aZ:Nat->Prop),aS w F s aG bM hl aZ->aS w F s1 aG (nd av.owner bM) hl aZ):=by
 have tree:∀d:I,d.tree=true->d.plain=true->aS w F s aG d v (λ_=>False)->
   ∃cD,cd w0 F0 X F cD s aG w/\d.tree=true/\eK d v/\∃Sn,aA w F d (dd v) Sn/\(∀b,Sn b->b<w.heap.size)/\(∀b,Sn b->¬F b)/\(∀u b,Sn b->¬cD u b)/\(∀b,Sn b->X b\/w0.heap.size<=b)/\
    (∀u b,cD u b->S u b)/\(∀b,Sn b->∃u,S u b):=by
  intro d ao _ bD;have bD:=(aS.dr ao).1 bD;exact⟨S,h,ao,bD.1,_,bD.2,λ_ h=>h.elim,λ_ h=>h.elim,λ_ _ h=>h.elim,λ_ h=>h.elim,λ_ _ h=>h,λ_ h=>h.elim⟩
 cases av with
 |h x q=>
  simp only[dD]at aY;split at aY
  .rename_i e he;split at aY
   .cases aY
   .rename_i ay;simp only[some.injEq,Prod.mk.injEq]at aY;obtain⟨rfl,rfl⟩:=aY;have ay:e.plain=false:=by simpa using ay
    obtain⟨Sn,gl,dv,dH,dU,a_,cN,bN,c6,cO,el⟩:=h.take he ay;rw[aS]at aF;obtain⟨awO,a2,g1,g2,g3⟩:=aF e he ay;rw[a_]at g1;simp only[some.injEq,Prod.mk.injEq,true_and]at g1;obtain⟨rfl,rfl⟩:=g1;have Eb:e.tree=true:=by cases e<;>first|rfl|(simp[I.plain]at ay)
    refine⟨_,dU,Eb,g3,gl,by rw[g2];exact cN,λb ab=>h.fS x b (bN b ab),λb ab=>h.hj x b (bN b ab),?_,λb ab=>h.eR x b (bN b ab),?_,λb ab=>⟨x,bN b ab⟩,el⟩
    .intro u b ab hu;simp only[hk]at hu;split at hu
     .exact cO b ab hu
     .rename_i acM;exact h.gD u x b acM hu (bN b ab)
    .intro u b hu;simp only[hk]at hu;split at hu
     .rename_i e;subst e;exact c6 b hu
     .exact hu
  .cases aY
 |ay x q=>simp[dD]at aY
 |ab x q=>simp[dD]at aY
 |fn f c=>simp[dD]at aY
 |hole=>simp[dD]at aY
 |ak sz xs=>simp[I.plain]at sj
 |aQ d=>simp[I.plain]at sj
 |_=>
  simp only[dD,some.injEq,Prod.mk.injEq]at aY;obtain⟨rfl,rfl⟩:=aY;obtain⟨cD,t1,t2,t3,Sn,t4,t5,t6,t7,t8,t9,t10⟩:=tree _ rfl sj aF;exact⟨cD,t1,t2,t3,Sn,t4,t5,t6,t7,t8,t9,t10,λ_ _ _ h=>h⟩
def loc (s:al):I->Option (Nat×azf)
 | .h x q=>match I.sub q (s x)with
   |some (.aQ _)=>some (x,q++[0])
   |_=>none
 | .ay x q=>if I.gC q (s x)then some (x,q)else none
 |_=>none
theorem Ec:∀(q:azf) (av d:I) (r:azf),I.sub q av=some d->I.sub (q++r) av=I.sub r d:=by
 intro q;induction q with
 |nil=>intro av d r h;simp[I.sub]at h;subst h;rfl
 |cons k q ih=>
  intro av d r h;cases av with
  |agg aE=>
   simp only[I.sub,cons_append]at h⊢;split at h
   .rename_i x an;exact ih _ _ _ h
   .cases h
  |tuple aE=>
   simp only[I.sub,cons_append]at h⊢;split at h
   .rename_i x an;exact ih _ _ _ h
   .cases h
  |ak sz aE=>
   simp only[I.sub,cons_append]at h⊢;split at h
   .rename_i x an;exact ih _ _ _ h
   .cases h
  |aQ x=>
   cases k with
   |zero=>simp only[I.sub,cons_append]at h⊢;exact ih _ _ _ h
   |succ k=>simp[I.sub]at h
  |_=>simp[I.sub]at h
theorem acN:∀(q:azf) (av d:I) (r:azf),I.sub q av=some d->I.gC (q++r) av=(I.gC q av||I.gC r d):=by
 intro q;induction q with
 |nil=>intro av d r h;simp[I.sub]at h;subst h;simp[I.gC]
 |cons k q ih=>
  intro av d r h;cases av with
  |agg aE=>
   simp only[I.sub]at h;split at h
   .rename_i x an;simp only[I.gC,cons_append,an];exact ih _ _ r h
   .cases h
  |tuple aE=>
   simp only[I.sub]at h;split at h
   .rename_i x an;simp only[I.gC,cons_append,an];exact ih _ _ r h
   .cases h
  |ak sz aE=>simp[I.gC]
  |aQ x=>simp[I.gC]
  |_=>simp[I.sub]at h
theorem Ed (w:World):∀(q:azf) (av d:I) (cs dv:azi) (a dH:Option (Nat×Nat)) (r:azf),ep w q av cs a=some (d,dv,dH)->ep w (q++r) av cs a=ep w r d dv dH:=by
 intro q;induction q with
 |nil=>intro av d cs dv a dH r h;simp[ep]at h;obtain⟨rfl,rfl,rfl⟩:=h;rfl
 |cons k q ih=>
  intro av d cs dv a dH r h;cases av with
  |agg aE=>
   rw[cons_append];rw[ep]at h⊢;split at h
   .rename_i x an;exact ih _ _ _ _ _ _ _ h
   .cases h
  |tuple aE=>
   rw[cons_append];rw[ep]at h⊢;split at h
   .rename_i x an;exact ih _ _ _ _ _ _ _ h
   .cases h
  |ak sz aE=>
   rw[cons_append];rw[ep.eq_def]at h⊢;simp only at h⊢;split at h
   .exact ih _ _ _ _ _ _ _ h
   .cases h
  |aQ x=>
   cases k with
   |zero=>
    rw[cons_append];rw[ep.eq_def]at h⊢;simp only at h⊢;split at h
    .exact ih _ _ _ _ _ _ _ h
    .cases h
   |succ k=>rw[show ep w ((k+1)::q) (.aQ x) cs a=none from rfl]at h;cases h
  |_=>simp[ep]at h
end
def hB.ok (x:hB):Bool:=match x.k with
 | .other=>false
 |_=>true
theorem cl.fH.info {C:cl} (bO:C.fH) {t:TypeId} (h:(C.T t).ok=true):
  ∃i d z,C.P.info? t=some i/\i.size=(C.T t).sz/\i.bytes=(C.T t).bytes/\i.zero=some z/\(∀cs,flat (C.T t).zero=some cs->z.cells=cs.toArray)/\C.P.underlying t=some d/\nU (C.T t).k d:=by
 rcases bO.ty t with⟨e,n,b,z,an,_⟩|bD
 .rw[an]at h;simp[hB.ok]at h
 .exact bD
theorem hv {x:hB} {k:qe} (h:x.k=k) (ax:k≠.other):x.ok=true:=by
 unfold hB.ok;rw[h];cases k<;>first|rfl|exact(ax rfl).elim
theorem Ee {d:TypeDesc} {aE:List (TypeId×Nat)} (h:nU (.struct aE) d):∃gs,d= .struct gs/\gs.toList.map (λg=>(g.type,g.offset))=aE:=by
 cases d<;>simp[nU]at h;exact⟨_,rfl,h⟩
theorem oC {d:TypeDesc} {e:TypeId} (h:nU (.slice e) d):d= .slice e:=by
 cases d<;>simp[nU]at h;rw[h]
theorem HW {d:TypeDesc} {k:IntKind} (h:nU (.int k) d):d= .int k:=by
 cases d<;>simp[nU]at h;rw[h]
theorem tL {d:TypeDesc} (h:nU .str d):d= .string:=by
 cases d<;>simp[nU]at h;rfl
theorem Mw {d:TypeDesc} (h:nU .bool d):d= .bool:=by
 cases d<;>simp[nU]at h;rfl
theorem TT {d:TypeDesc} {e:TypeId} (h:nU (.ptr e) d):d= .pointer e:=by
 cases d<;>simp[nU]at h;rw[h]
theorem ix {v:Value} (h:Value.hH v=true):dd v=[v]:=by
 cases v<;>first|rfl|(simp[Value.hH]at h)
theorem Ef {P:Program} {t:TypeId} {i:TypeInfo} (h:P.info? t=some i) (w:World):(typeInfo t).run P w= .ok i w:=by simp[typeInfo,h]
theorem nf {P:Program} {t:TypeId} {i:TypeInfo} (h:P.info? t=some i) (w:World):(Go.sizeOf t).run P w= .ok i.size w:=by simp[Go.sizeOf,Ef h]
theorem yR {P:Program} {t:TypeId} {i:TypeInfo} {z:Value} (h:P.info? t=some i) (cf:i.zero=some z) (w:World):(zeroValue t).run P w= .ok z w:=by simp[zeroValue,Ef h,cf]
section
variable {C:cl} {w0 w:World} {F0 X F:Nat->Prop} {S:Nat->Nat->Prop} {s s1:al} {aG:Nat->Value} {av:I}
def Good (C:cl) (w0:World) (F0 X:Nat->Prop) (aG:Nat->Value) (w:World) (m:Sem Value) (av:I) (s1:al):Prop:=
 ∃v aL ct aZ,m.run C.P w= .ok v aL/\cd w0 F0 X ct aZ s1 aG aL/\nV w0 X ct aZ s1 aG aL av v
theorem Good.same (h:cd w0 F0 X F S s aG w) {m:Sem Value} {v:Value} (aT:m.run C.P w= .ok v w) (ay:av.plain=true) (aF:aS w F s aG av v (λ_=>False)):Good C w0 F0 X aG w m av s:=
 ⟨v,w,F,S,aT,h,.inl ⟨ay,aF⟩⟩
theorem Mx (_h:cd w0 F0 X F S s aG w) {x:I} {v:Value} (aF:aS w F s aG x v (λ_=>False)) {y:Nat} {q:azf} (aC:loc s x=some (y,q)) {d:I} (ao:I.sub q (s y)=some d):
  I.gC q (s y)=true/\∃dv b o,v= .pointer (some ⟨b,o,none⟩)/\ep w q (s y) (dd (aG y)) none=some (d,dv,some (b,o)):=by
 cases x with
 |h z fp=>
  simp only[loc]at aC;split at aC
  .rename_i e he;simp only[some.injEq,Prod.mk.injEq]at aC;obtain⟨rfl,rfl⟩:=aC;rw[aS]at aF;obtain⟨dv,a,g1,g2,g3⟩:=aF _ he rfl;have i7:e=d:=by
    rw[Ec _ _ _ _ he]at ao;simpa [I.sub]using ao
   subst i7;refine⟨by rw[acN _ _ _ _ he];simp[I.gC],?_⟩;have ad:Value.hH v=true:=g3;rw[ix ad]at g2;subst g2;have nc:=Ed w fp (s z) _ _ _ none a [0] g1;have an:=_h.ey z;rw[aS.dr (ju he (.inl rfl))]at an;obtain⟨hd,dH,e3,gl,k0,b1,cK,dM,dX,eF⟩:=ctx fp (s z) (dd (aG z)) (S z) none _ an.2 he;rw[k0]at g1;simp only[some.injEq,Prod.mk.injEq,true_and]at g1;obtain⟨rfl,rfl⟩:=g1;rw[aA]at dX;obtain⟨b,cur,aU,fr,eH,aM,_⟩:=dX;simp only[cons.injEq,and_true]at aM;subst aM;exact⟨_,b,0,rfl,by rw[nc];rfl⟩
  .cases aC
 |ay z fp=>
  simp only[loc]at aC;split at aC
  .rename_i ar;simp only[some.injEq,Prod.mk.injEq]at aC;obtain⟨rfl,rfl⟩:=aC;rw[aS]at aF;obtain⟨dv,b,o,g1,g2⟩:=aF _ ao ar;exact⟨ar,dv,b,o,g2,g1⟩
  .cases aC
 |_=>simp[loc]at aC
def hP (C:cl) (s:al) (T:TypeId) (x:I) (k:Nat):Option I:=
 match(C.T T).k with
 | .struct aE=>match aE[k]? with
   |some (l4,off)=>if(C.T l4).ok=true/\(C.T l4).sz≠0 then
     match x with
     | .ref (.agg ds)=>match ds[k]? with
       |some d=>if I.eZ (ds.take k)=off then some (.ref d)else none
       |none=>none
     | .ab y o=>if(s y).plain then none else some (.ab y (o+off))
     |x=>match loc s x with
      |some (y,q)=>match I.sub q (s y)with
       |some (.agg ds)=>if k<ds.length/\I.eZ (ds.take k)=off then some (.ay y (q++[k]))else none
       |_=>none
      |none=>none
    else none
   |none=>none
 |_=>none
theorem js.My {w:World} {b o:Nat} {cA hc c2:azi} (h:js w b o (cA++(hc++c2))):js w b (o+cA.length) hc:=by
 intro j c bJ;have er:j<hc.length:=(List.getElem?_eq_some_iff.1 bJ).1;have:=h (cA.length+j) c (by rw[getElem?_append_right (by omega),getElem?_append_left (by omega),<-bJ];congr 1;omega);rw[Nat.add_assoc];exact this
theorem Mz (bO:C.fH) {T l4:TypeId} {aE:List (TypeId×Nat)} {k off:Nat} (ax:(C.T T).k= .struct aE) (bH:aE[k]? =some (l4,off)) (ad:(C.T l4).ok=true) (ae:(C.T l4).sz≠0) (b o:Nat) (w:World):
  (Instr.fieldAt T (.pointer (some ⟨b,o,none⟩)) k).run C.P w= .ok (.pointer (some ⟨b,o+off,none⟩)) w:=by
 obtain⟨i,d,z,aO,aU,aM,bT,cv,ck,bY⟩:=bO.info (hv ax (by simp));rw[ax]at bY;obtain⟨gs,rfl,fh⟩:=Ee bY;obtain⟨tM,bM,vx,f1,f2,f3,f4,f5,f6,f7⟩:=bO.info ad;have hg:∃g,gs[k]? =some g/\g.type=l4/\g.offset=off:=by
  rw[<-fh,getElem?_map]at bH;simp only[map_eq_some_iff,Prod.mk.injEq]at bH;obtain⟨g,ad,ae,aJ⟩:=bH;exact⟨g,by simpa using ad,ae,aJ⟩
 obtain⟨g,g1,rfl,rfl⟩:=hg;simp[Instr.fieldAt,run_underlying ck,g1,Instr.sureAddr,fieldPlace,nf f1,f2,ae,Addr.add_lit]
theorem acO (bO:C.fH) (h:cd w0 F0 X F S s aG w) {T:TypeId} {x:I} {v:Value} {k:Nat} (an:x.plain=true) (aF:aS w F s aG x v (λ_=>False)) (he:hP C s T x k=some av):
  Good C w0 F0 X aG w (Instr.fieldAt T v k) av s:=by
 unfold hP at he;split at he
 .rename_i aE ax;split at he
  .rename_i l4 off bH;split at he
   .rename_i A8;split at he
    .rename_i ds;split at he
     .rename_i d ao;split at he
      .rename_i tN;simp only[some.injEq]at he;subst he;have nW:=(aS.dr rfl).1 aF;rw[aA]at nW;obtain⟨aa,b,o,e9,ad,ae,aJ,bh⟩:=nW;rw[ix aa]at ad;simp only[cons.injEq,and_true]at ad;subst ad;rw[aA]at bh;obtain⟨cA,hc,c2,cD,jt,rfl,ja,hs,iE,j1,hh,o1⟩:=bA.pick ds _ _ k d bh ao;refine Good.same h (Mz bO ax bH A8.1 A8.2 b o w) rfl ((aS.dr rfl).2 ⟨rfl,?_⟩);rw[aA];refine⟨b,o+off,hc,rfl,ae,?_,aA.mono (λ_ h=>h) _ _ _ _ (λb ab=>iE b ab) hh⟩;rw[<-tN,<-ja];exact aJ.My
      .cases he
     .cases he
    .rename_i y o;split at he
     .cases he
     .rename_i ay;simp only[some.injEq]at he;subst he;rw[aS]at aF;obtain⟨b,cur,e,fr,rfl,ae,aJ,bh⟩:=aF (by simpa using ay);refine Good.same h (Mz bO ax bH A8.1 A8.2 b o w) rfl ?_;rw[aS];exact λ_=>⟨b,cur,e,fr,rfl,ae,aJ,bh⟩
    .rename_i x _ _;split at he
     .rename_i y q aC;split at he
      .rename_i ds ao;split at he
       .rename_i tN;simp only[some.injEq]at he;subst he;obtain⟨ar,dv,b,o,rfl,nc⟩:=Mx h aF aC ao;refine Good.same h (Mz bO ax bH A8.1 A8.2 b o w) rfl ?_;rw[aS];intro d2 ht ld;rw[Ed w q _ _ _ _ _ _ [k] nc];rw[Ec _ _ _ _ ao]at ht;have o4:∃d3,ds[k]? =some d3:=⟨_,getElem?_eq_getElem tN.1⟩
        obtain⟨d3,Eg⟩:=o4;simp only[I.sub,Eg,some.injEq]at ht;subst ht;simp only[ep,Eg];refine⟨(dv.drop off).take d3.wd,b,o+off,?_,rfl⟩;rw[tN.2];rfl
       .cases he
      .cases he
     .cases he
   .cases he
  .cases he
 .cases he
def kF (C:cl) (s:al) (T:TypeId) (x i:I):Option I:=
 match(C.T T).k,i with
 | .slice e,.int _ n=>if 0<=n/\(C.T e).ok=true then
   match x with
   | .slice xs=>match xs[n.toNat]? with
     |some d=>if d.wd=(C.T e).sz then some (.ref d)else none
     |none=>none
   | .h y q=>match I.sub q (s y)with
     |some (.ak sz xs)=>if n.toNat<xs.length/\sz=(C.T e).sz then some (.ay y (q++[n.toNat]))else none
     |_=>none
   |_=>none
   else none
 |_,_=>none
theorem TU (bO:C.fH) {T e:TypeId} (ax:(C.T T).k= .slice e) (he:(C.T e).ok=true) (b o len cap:Nat) (k:IntKind) (n:Nat) (aR:n<len) (w:World):
  (Instr.indexAt T (.slice (some ⟨b,o,none⟩) len cap) (.int k n)).run C.P w= .ok (.pointer (some ⟨b,o+n*(C.T e).sz,none⟩)) w:=by
 obtain⟨i,d,z,aO,aU,aM,bT,cv,ck,bY⟩:=bO.info (hv ax (by simp));rw[ax]at bY;have:=oC bY;subst this;obtain⟨tM,bM,vx,f1,f2,f3,f4,f5,f6,f7⟩:=bO.info he;simp[Instr.indexAt,run_underlying ck,asIntOf,aR,nf f1,f2,Addr.add_lit]
theorem acP (bO:C.fH) (h:cd w0 F0 X F S s aG w) {T:TypeId} {x i:I} {v qT:Value} (aF:aS w F s aG x v (λ_=>False)) (acQ:aS w F s aG i qT (λ_=>False))
  (he:kF C s T x i=some av):Good C w0 F0 X aG w (Instr.indexAt T v qT) av s:=by
 unfold kF at he;split at he
 .rename_i e k n ax;have MA:=(aS.dr rfl).1 acQ;rw[aA,ix MA.1]at MA;have:qT= .int k n:=by simpa using MA.2
  subst this;split at he
  .rename_i aR;obtain⟨n,rfl⟩:=Int.eq_ofNat_of_zero_le aR.1;simp only[Int.toNat_natCast]at he;split at he
   .rename_i xs;split at he
    .rename_i d ao;split at he
     .rename_i hw;simp only[some.injEq]at he;subst he;have nW:=(aS.dr rfl).1 aF;rw[aA,ix nW.1]at nW;obtain⟨aa,⟨rfl,_⟩|⟨b,o,cap,e9,sz,ad,ae,aJ,bh,b2,dA,dC⟩⟩:=nW
      .simp at ao
      .simp only[cons.injEq,and_true]at ad;subst ad;have er:n<xs.length:=(List.getElem?_eq_some_iff.1 ao).1;obtain⟨cA,hc,c2,cD,jt,rfl,ja,hs,iE,j1,hh,o1⟩:=bA.pick xs _ _ n d dC ao;refine Good.same h (TU bO ax aR.2 b o _ _ k n er w) rfl ((aS.dr rfl).2 ⟨rfl,?_⟩);rw[aA];refine⟨b,_,hc,rfl,ae,?_,aA.mono (λ_ h=>h) _ _ _ _ (λb ab=>iE b ab) hh⟩;have acR:=b2 d (mem_of_getElem? ao);have:n*(C.T e).sz=cA.length:=by
        rw[ja,yM _ (λd ao=>b2 d (mem_of_mem_take ao)),length_take,Nat.min_eq_left (by omega),<-hw,acR]
       rw[this];exact dA.My
     .cases he
    .cases he
   .rename_i y q;split at he
    .rename_i sz xs ao;split at he
     .rename_i hw;simp only[some.injEq]at he;subst he;rw[aS]at aF;obtain⟨dv,a,g1,g2,g3⟩:=aF _ ao rfl;have aa:Value.hH v=true:=g3;rw[ix aa]at g2;subst g2;have an:=h.ey y;rw[aS.dr (ju ao (.inl rfl))]at an;obtain⟨hd,dH,e3,gl,k0,b1,cK,dM,dX,eF⟩:=ctx q (s y) (dd (aG y)) (S y) none _ an.2 ao;rw[k0]at g1;simp only[some.injEq,Prod.mk.injEq,true_and]at g1;obtain⟨rfl,rfl⟩:=g1;rw[aA]at dX;rcases dX with⟨rfl,_⟩|⟨b,cap,cur,aU,fr,eH,aM,_⟩
      .simp at hw
      .simp only[cons.injEq,and_true]at aM;subst aM;refine Good.same h (TU bO ax aR.2 b 0 _ _ k n hw.1 w) rfl ?_;rw[aS];intro d2 ht _;rw[Ed w q _ _ _ _ _ _ [n] k0];rw[Ec _ _ _ _ ao]at ht;obtain⟨d3,Eg⟩:∃d3,xs[n]? =some d3:=⟨_,getElem?_eq_getElem hw.1⟩
       simp only[I.sub,Eg,some.injEq]at ht;subst ht;simp only[ep,Eg];exact⟨_,b,n*sz,rfl,by simp[hw.2]⟩
     .cases he
    .cases he
   .cases he
  .cases he
 .cases he
end
section
variable {C:cl} {w0 w:World} {F0 X F:Nat->Prop} {S:Nat->Nat->Prop} {s s1:al} {aG:Nat->Value} {av:I}
theorem TV (bO:C.fH) {T:TypeId} {aE:List (TypeId×Nat)} (ax:(C.T T).k= .struct aE) (w:World):(isAgg T).run C.P w= .ok true w:=by
 obtain⟨i,d,z,aO,aU,aM,bT,cv,ck,bY⟩:=bO.info (hv ax (by simp));rw[ax]at bY;obtain⟨gs,rfl,_⟩:=Ee bY;simp[isAgg,run_underlying ck]
def hB.flat (x:hB):Bool:=match x.k with
 | .other=>false
 | .gm _=>false
 | .struct _=>false
 |_=>true
theorem TW {x:hB} (h:x.flat=true):x.ok=true:=by
 unfold hB.flat at h;unfold hB.ok;revert h;cases x.k<;>simp
theorem MB (bO:C.fH) {T:TypeId} (ax:(C.T T).flat=true) (w:World):(isAgg T).run C.P w= .ok false w:=by
 obtain⟨i,d,z,aO,aU,aM,bT,cv,ck,bY⟩:=bO.info (TW ax);have dV:(∀aE,d≠.struct aE)/\(∀n e,d≠.array n e):=by
  clear ck;unfold hB.flat at ax;generalize (C.T T).k=nX at*;cases nX<;>cases d<;>simp[nU]at bY ax⊢
 cases d<;>first|exact(dV.1 _ rfl).elim|exact(dV.2 _ _ rfl).elim|simp[isAgg,run_underlying ck]
theorem js.one {w:World} {b o:Nat} {v:Value} (h:js w b o [v]):w.cell? ⟨b,o,none⟩=some v:=by simpa using h 0 v rfl
theorem TX {P:Program} {b o:Nat}:∀(cs:azi) (i:Nat) (acc:Array Value),js w b (o+i) cs->(loadCellsFrom ⟨b,o,none⟩ i cs.length acc).run P w= .ok (acc++cs.toArray) w
 |[],i,acc,_=>by simp[loadCellsFrom]
 |c::cs,i,acc,h=>by
  have a7:w.cell? ⟨b,o+i,none⟩=some c:=by simpa using h 0 c rfl
  have ad:js w b (o+(i+1)) cs:=by
   intro j x bJ;have:=h (j+1) x (by simpa using bJ);rw[<-this];congr 2;omega
  have ih:=TX (P:=P) cs (i+1) (acc.push c) ad;simp only[length_cons,loadCellsFrom,Sem.run_bind,Go.load,Sem.run,Addr.add_lit,a7,Result.andThen];rw[ih];simp
theorem acS (bO:C.fH) {T:TypeId} {aE:List (TypeId×Nat)} (ax:(C.T T).k= .struct aE) {b o:Nat} {cs:azi} (h:js w b o cs) (aC:cs.length=(C.T T).sz):
  (loadVar T ⟨b,o,none⟩).run C.P w= .ok (.agg cs.toArray) w:=by
 obtain⟨i,d,z,aO,aU,aM,bT,cv,ck,bY⟩:=bO.info (hv ax (by simp));have:=TX (P:=C.P) (b:=b) (o:=o) cs 0 #[] (by simpa using h);simp only[loadVar,Sem.run_bind,TV bO ax,Result.andThen,if_true,nf aO,aU,<-aC,loadCells,this];simp
theorem TY (bO:C.fH) {T:TypeId} (ax:(C.T T).flat=true) {b o:Nat} {v:Value} (h:js w b o [v]):
  (loadVar T ⟨b,o,none⟩).run C.P w= .ok v w:=by
 simp[loadVar,MB bO ax,Go.load,Sem.run,h.one]
def fits (C:cl) (T:TypeId) (d:I):Bool:=match(C.T T).k,d with
    | .struct _,.agg ds=>I.eZ ds==(C.T T).sz
    | .struct _,_=>false
    |_,.agg _=>false
    |_,.tuple _=>false
    |_,_=>(C.T T).flat
def TZ:azk->Nat->Nat->Option Nat
 |[],_,_=>none
 |d::ds,i,k=>if k=0 then some i else if d.wd<=k then TZ ds (i+1) (k-d.wd)else none
def fL (C:cl) (s:al) (T:TypeId) (x:I):Option I:=
 match x with
 | .ref d=>if fits C T d=true then some d else none
 | .ab y k=>match s y with
   | .agg ds=>if I.hA ds then none else match TZ ds 0 k with
     |some i=>match ds[i]? with
      |some d=>if I.eZ (ds.take i)=k/\fits C T d=true then some (if d.plain then d else .h y [i])else none
      |none=>none
     |none=>none
   |_=>none
 |x=>match loc s x with
  |some (y,q)=>match I.sub q (s y)with
   |some d=>if fits C T d=true then some (if d.plain then d else .h y q)else none
   |none=>none
  |none=>none
theorem aA.one {F:Nat->Prop} {d:I} {cs:azi} {S:Nat->Prop} (h:aA w F d cs S) (ad:∀aE,d≠.agg aE) (ae:∀aE,d≠.tuple aE):∃v,cs=[v]/\Value.hH v=true:=by
 cases d with
 |hole=>rw[aA]at h;obtain⟨v,h,rfl⟩:=h;exact⟨v,rfl,h⟩
 |gA=>rw[aA]at h;obtain⟨v,rfl⟩:=h;exact⟨_,rfl,rfl⟩
 |slice xs=>rw[aA]at h;rcases h with⟨_,a,c,rfl,_⟩|⟨b,o,cap,e9,sz,rfl,_⟩<;>exact⟨_,rfl,rfl⟩
 |ak sz xs=>rw[aA]at h;rcases h with⟨_,_,rfl⟩|⟨b,cap,cur,e,fr,eR,rfl,_⟩<;>exact⟨_,rfl,rfl⟩
 |ref d=>rw[aA]at h;obtain⟨b,o,e9,rfl,_⟩:=h;exact⟨_,rfl,rfl⟩
 |aQ d=>rw[aA]at h;obtain⟨b,cur,e,fr,eR,rfl,_⟩:=h;exact⟨_,rfl,rfl⟩
 |agg aE=>exact(ad _ rfl).elim
 |tuple aE=>exact(ae _ rfl).elim
 |fn _ _=>rw[aA]at h;obtain⟨arr,rfl,_⟩:=h;exact⟨_,rfl,rfl⟩
 |h _ _=>rw[aA]at h;exact h.elim
 |ay _ _=>rw[aA]at h;exact h.elim
 |ab _ _=>rw[aA]at h;exact h.elim
 |b9 _=>rw[aA]at h;obtain⟨v,jF,rfl⟩:=oy.one h;exact⟨v,rfl,jF⟩
 |_=>rw[aA]at h;subst h;exact⟨_,rfl,rfl⟩
theorem I.HX {d:I} (h:d.single=true):(∀aE,d≠.agg aE)/\∀aE,d≠.tuple aE:=
 ⟨λaE e=>(by subst e;cases h),λaE e=>(by subst e;cases h)⟩
theorem aS.sl {F:Nat->Prop} {s:al} {aG:Nat->Value} {d:I} {v:Value} (aY:d.tree=true) (aa:d.single=true) (h:aA w F d [v] (λ_=>False)):aS w F s aG d v (λ_=>False):=by
 obtain⟨hl,e,ad⟩:=aA.one h (I.HX aa).1 (I.HX aa).2;have:v=hl:=by simpa using e
 subst this;refine(aS.dr aY).2 ⟨?_,by rw[ix ad];exact h⟩;cases d<;>first|exact ad|cases aa
mutual
theorem aS.tO {F:Nat->Prop} {s:al} {aG:Nat->Value}:∀(d:I) (v:Value),d.single=true->aA w F d [v] (λ_=>False)->aS w F s aG d v (λ_=>False)
 | .fn f caps,v,_,h=>by
   rw[aA]at h;obtain⟨arr,ad,ae,aJ⟩:=h;rw[aS];exact⟨arr,by simpa using ad,fo.tO caps _ ae aJ⟩
 | .bool b,v,aa,h=>aS.sl rfl aa h
 | .gA,v,aa,h=>aS.sl rfl aa h
 | .int k n,v,aa,h=>aS.sl rfl aa h
 | .str x,v,aa,h=>aS.sl rfl aa h
 | .eh,v,aa,h=>aS.sl rfl aa h
 | .a8,v,aa,h=>aS.sl rfl aa h
 | .slice xs,v,aa,h=>aS.sl rfl aa h
 | .ak sz xs,v,aa,h=>aS.sl rfl aa h
 | .ref d,v,aa,h=>aS.sl rfl aa h
 | .aQ d,v,aa,h=>aS.sl rfl aa h
 | .h _ _,v,_,h=>by rw[aA]at h;exact h.elim
 | .ay _ _,v,_,h=>by rw[aA]at h;exact h.elim
 | .ab _ _,v,_,h=>by rw[aA]at h;exact h.elim
 | .b9 _,v,aa,h=>aS.sl rfl aa h
theorem fo.tO {F:Nat->Prop} {s:al} {aG:Nat->Value}:∀(ds:azk) (vs:azi),(∀d∈ds,d.single=true)->bA w F ds vs (λ_=>False)->fo w F s aG ds vs
 |[],vs,_,h=>by rw[bA]at h;rw[fo];exact h
 |d::ds,vs,aa,h=>by
  rw[bA]at h;obtain⟨cA,c2,cD,eH,rfl,ae,aJ,bh,b2,_⟩:=h;have ao:=aa d (by simp);obtain⟨v,rfl,_⟩:=aA.one ae (I.HX ao).1 (I.HX ao).2;rw[fo];exact⟨v,c2,rfl,aS.tO d v ao (aA.mono (λ_ h=>h) _ _ _ _ (λb ab=>bh b ab) ae),fo.tO ds c2 (λx an=>aa x (by simp[an])) (bA.mono (λ_ h=>h) _ _ _ _ (λb ab=>b2 b ab) aJ)⟩
end
theorem HY (bO:C.fH) {T:TypeId} {d:I} {b o:Nat} {cs:azi} {S:Nat->Prop} (h:js w b o cs) (ao:aA w F d cs S)
  (kd:fits C T d=true):
  ∃v,(loadVar T ⟨b,o,none⟩).run C.P w= .ok v w/\dd v=cs/\eK d v:=by
 unfold fits at kd;by_cases aa:∃aE,(C.T T).k= .struct aE
 .obtain⟨aE,ax⟩:=aa;rw[ax]at kd;cases d with
  |agg ds=>
   simp only[beq_iff_eq]at kd;refine⟨_,acS bO ax h ((aA.length _ _ _ ao).trans kd),rfl,⟨_,rfl⟩⟩
  |_=>simp at kd
 .have ke:(C.T T).flat=true/\(∀aE,d≠.agg aE)/\(∀aE,d≠.tuple aE):=by
   revert kd aa;cases ax:(C.T T).k<;>cases d<;>simp
  obtain⟨v,rfl,ad⟩:=aA.one ao ke.2.1 ke.2.2;refine⟨v,TY bO ke.1 h,ix ad,?_⟩;cases d<;>first|exact ad|exact(ke.2.1 _ rfl).elim|exact(ke.2.2 _ rfl).elim
theorem acT (bO:C.fH) {T:TypeId} {d:I} {off:Nat} {arr:Array Value} {cA cs c2:azi} {S:Nat->Prop} (he:arr.toList=cA++(cs++c2)) (bL:cA.length=off) (ao:aA w F d cs S)
  (kd:fits C T d=true):
  ∃v,(part T arr off).run C.P w= .ok v w/\dd v=cs/\eK d v:=by
 unfold fits at kd;by_cases aa:∃aE,(C.T T).k= .struct aE
 .obtain⟨aE,ax⟩:=aa;rw[ax]at kd;cases d with
  |agg ds=>
   simp only[beq_iff_eq]at kd;obtain⟨i,d,z,aO,aU,aM,bT,cv,ck,bY⟩:=bO.info (hv ax (by simp));have aC:cs.length=(C.T T).sz:=(aA.length _ _ _ ao).trans kd;have an:(arr.extract off (off+(C.T T).sz)).toList=cs:=by
    rw[Array.toList_extract,he,extract_eq_take_drop,<-aC,<-bL,Nat.add_sub_cancel_left,drop_left,take_left]
   refine⟨.agg (arr.extract off (off+(C.T T).sz)),?_,by simpa [dd,jb]using an,⟨_,rfl⟩⟩;simp[part,TV bO ax,nf aO,aU]
  |_=>simp at kd
 .have ke:(C.T T).flat=true/\(∀aE,d≠.agg aE)/\(∀aE,d≠.tuple aE):=by
   revert kd aa;cases ax:(C.T T).k<;>cases d<;>simp
  obtain⟨v,rfl,ad⟩:=aA.one ao ke.2.1 ke.2.2;have hg:arr[off]? =some v:=by
   rw[<-Array.getElem?_toList,he,<-bL,getElem?_append_right (Nat.le_refl _)];simp
  refine⟨v,?_,ix ad,?_⟩
  .simp[part,MB bO ke.1,hg]
  .cases d<;>first|exact ad|exact(ke.2.1 _ rfl).elim|exact(ke.2.2 _ rfl).elim
theorem acU (bO:C.fH) (h:cd w0 F0 X F S s aG w) {T:TypeId} {x:I} {v:Value} (aF:aS w F s aG x v (λ_=>False)) (he:fL C s T x=some av):
  Good C w0 F0 X aG w (Instr.loadAt T v) av s:=by
 unfold fL at he;split at he
 .rename_i d;split at he
  .rename_i kd;simp only[some.injEq]at he;subst he;have nW:=(aS.dr rfl).1 aF;rw[aA,ix nW.1]at nW;obtain⟨aa,b,o,e9,ad,ae,aJ,bh⟩:=nW;simp only[cons.injEq,and_true]at ad;subst ad;obtain⟨hl,aT,ar,oD⟩:=HY bO aJ bh kd;have fi:(Instr.loadAt T (.pointer (some ⟨b,o,none⟩))).run C.P w= .ok hl w:=by simp[Instr.loadAt,Instr.sureAddr,aT]
   refine⟨hl,w,F,S,fi,h,?_⟩;by_cases aY:d.tree=true
   .exact .inr ⟨aY,oD,λ_=>False,by rw[ar];exact bh,λ_ h=>h.elim,λ_ h=>h.elim,λ_ _ h=>h.elim,λ_ h=>h.elim⟩
   .cases d<;>first|exact(aY rfl).elim|(rw[aA]at bh;exact bh.elim)|exact .inl ⟨rfl,by rw[aS];trivial⟩|(have b2:=bh;rw[aA]at b2;obtain⟨arr,e,_⟩:=b2;rw[<-ar]at e bh;rw[ix (by exact oD)]at bh;exact .inl ⟨rfl,aS.tO _ _ rfl bh⟩)
  .cases he
 .rename_i y k;split at he
  .rename_i ds xn;split at he
   .cases he
   .rename_i acV;split at he
    .rename_i i ai;split at he
     .rename_i d ao;split at he
      .rename_i kd;simp only[some.injEq]at he;have fI:(s y).plain=false:=by rw[xn];simp only[I.plain];simpa using acV
       rw[aS]at aF;obtain⟨b,cur,e,fr,rfl,ae,aJ,bh⟩:=aF fI;have hy:=h.ey y;rw[xn]at hy;have T0:=((aS.dr rfl).1 hy).2;rw[aA]at T0;obtain⟨cA,hc,c2,cD,jt,iF,ja,hs,iE,j1,hh,o1⟩:=bA.pick ds _ _ i d T0 ao;have mh:js w b k hc:=by
        intro j c bJ;have er:j<hc.length:=(List.getElem?_eq_some_iff.1 bJ).1;have:cur.toList[k+j]? =some c:=by
         rw[bh,iF,getElem?_append_right (by omega),getElem?_append_left (by omega),<-bJ];congr 1;omega
        simp[World.cell?,aJ];simpa using this
       obtain⟨hl,aT,ar,oD⟩:=HY bO mh hh kd.2;have fi:(Instr.loadAt T (.pointer (some ⟨b,k,none⟩))).run C.P w= .ok hl w:=by simp[Instr.loadAt,Instr.sureAddr,aT]
       refine⟨hl,w,F,S,fi,h,?_⟩;split at he
       .rename_i ay;subst he;by_cases aY:d.tree=true
        .exact .inl ⟨ay,(aS.dr aY).2 ⟨oD,by rw[ar];exact aA.plain _ _ _ _ ay hh⟩⟩
        .cases d<;>first|exact(aY rfl).elim|(rw[aA]at hh;exact hh.elim)|exact .inl ⟨rfl,by rw[aS];trivial⟩|(have b2:=aA.plain _ _ _ (λ_=>False) ay hh;rw[<-ar]at b2;rw[ix (by exact oD)]at b2;exact .inl ⟨rfl,aS.tO _ _ rfl b2⟩)
       .subst he;refine .inl ⟨rfl,?_⟩;rw[aS];intro d2 ht _;rw[xn]at ht⊢;simp only[I.sub,ao,some.injEq]at ht;subst ht;refine⟨hc,none,?_,ar,oD⟩;simp only[ep,ao];rw[iF,yK cA hc c2 _ _ ja (aA.length _ _ _ hh)];rfl
      .cases he
     .cases he
    .cases he
  .cases he
 .rename_i x _ _;split at he
  .rename_i y q aC;split at he
   .rename_i d ao;split at he
    .rename_i kd;simp only[some.injEq]at he;obtain⟨so,dv,b,o,rfl,nc⟩:=Mx h aF aC ao;have hy:=h.ey y;rw[aS.dr (ju ao (.inr so))]at hy;obtain⟨hd,dH,e3,gl,k0,b1,cK,dM,dX,eF⟩:=ctx q (s y) (dd (aG y)) (S y) none _ hy.2 ao;rw[k0]at nc;simp only[some.injEq,Prod.mk.injEq,true_and]at nc;obtain⟨rfl,rfl⟩:=nc;have mh:js w b o hd:=by
      rcases eF with⟨l,r,aO,aU,_⟩|⟨gO,cur,e,fr,l,r,aO,aU,aM,bT,cv,_⟩
      .simp at aU
      .simp only[some.injEq,Prod.mk.injEq]at aO;obtain⟨rfl,rfl⟩:=aO;intro j c bJ;have er:j<hd.length:=(List.getElem?_eq_some_iff.1 bJ).1;have:cur.toList[l.length+j]? =some c:=by
        rw[cv,getElem?_append_right (by omega),getElem?_append_left (by omega),<-bJ];congr 1;omega
       simp[World.cell?,aM];simpa using this
     obtain⟨hl,aT,ar,oD⟩:=HY bO mh dX kd;have fi:(Instr.loadAt T (.pointer (some ⟨b,o,none⟩))).run C.P w= .ok hl w:=by simp[Instr.loadAt,Instr.sureAddr,aT]
     refine⟨hl,w,F,S,fi,h,?_⟩;split at he
     .rename_i ay;subst he;by_cases aY:d.tree=true
      .exact .inl ⟨ay,(aS.dr aY).2 ⟨oD,by rw[ar];exact aA.plain _ _ _ _ ay dX⟩⟩
      .cases d<;>first|exact(aY rfl).elim|(rw[aA]at dX;exact dX.elim)|exact .inl ⟨rfl,by rw[aS];trivial⟩|(have b2:=aA.plain _ _ _ (λ_=>False) ay dX;rw[<-ar]at b2;rw[ix (by exact oD)]at b2;exact .inl ⟨rfl,aS.tO _ _ rfl b2⟩)
     .subst he;refine .inl ⟨rfl,?_⟩;rw[aS];intro d2 ht _;rw[ao]at ht;simp only[some.injEq]at ht;subst ht;exact⟨_,_,k0,ar,oD⟩
    .cases he
   .cases he
  .cases he
mutual
theorem aA.yS {F:Nat->Prop}:∀(d:I) (cs:azi) (S:Nat->Prop),aA w F d cs S->∀c∈cs,Value.hH c=true
 | .hole,cs,S,h=>by rw[aA]at h;obtain⟨v,h,rfl⟩:=h;simpa using h
 | .bool _,cs,S,h=>by rw[aA]at h;subst h;simp[Value.hH]
 | .gA,cs,S,h=>by rw[aA]at h;obtain⟨b,rfl⟩:=h;simp[Value.hH]
 | .int _ _,cs,S,h=>by rw[aA]at h;subst h;simp[Value.hH]
 | .str _,cs,S,h=>by rw[aA]at h;subst h;simp[Value.hH]
 | .eh,cs,S,h=>by rw[aA]at h;subst h;simp[Value.hH]
 | .a8,cs,S,h=>by rw[aA]at h;subst h;simp[Value.hH]
 | .slice xs,cs,S,h=>by
   rw[aA]at h;rcases h with⟨_,a,c,rfl,_⟩|⟨b,o,cap,e9,sz,rfl,_⟩<;>simp[Value.hH]
 | .ak sz xs,cs,S,h=>by
   rw[aA]at h;rcases h with⟨_,_,rfl⟩|⟨b,cap,cur,e,fr,aZ,rfl,_⟩<;>simp[Value.hH]
 | .ref d,cs,S,h=>by rw[aA]at h;obtain⟨b,o,e9,rfl,_⟩:=h;simp[Value.hH]
 | .aQ d,cs,S,h=>by rw[aA]at h;obtain⟨b,o,e9,_,_,rfl,_⟩:=h;simp[Value.hH]
 | .agg aE,cs,S,h=>by rw[aA]at h;exact bA.yS aE _ _ h
 | .tuple aE,cs,S,h=>by rw[aA]at h;exact bA.yS aE _ _ h
 | .fn _ _,cs,S,h=>by rw[aA]at h;obtain⟨arr,rfl,_⟩:=h;simp[Value.hH]
 | .h _ _,cs,S,h=>by rw[aA]at h;exact h.elim
 | .ay _ _,cs,S,h=>by rw[aA]at h;exact h.elim
 | .ab _ _,cs,S,h=>by rw[aA]at h;exact h.elim
 | .b9 _,cs,S,h=>by rw[aA]at h;obtain⟨v,jF,rfl⟩:=oy.one h;simpa using jF
theorem bA.yS {F:Nat->Prop}:∀(ds:azk) (cs:azi) (S:Nat->Prop),bA w F ds cs S->∀c∈cs,Value.hH c=true
 |[],cs,S,h=>by rw[bA]at h;subst h;simp
 |d::ds,cs,S,h=>by
  rw[bA]at h;obtain⟨cA,c2,cD,eH,rfl,ae,aJ,_⟩:=h;intro c ar;rcases mem_append.1 ar with ar|ar
  .exact aA.yS d _ _ ae c ar
  .exact bA.yS ds _ _ aJ c ar
end
theorem HZ {P:Program} {b o:Nat} {e:TypeId} {fr:Nat×Nat}:∀(vs:azi) (i:Nat) (cur:Array Value) (w:World) (l m r:azi),w.heap[b]? =some (.cells cur e fr)->pH fr cur.size->
  cur.toList=l++(m++r)->l.length=o+i->m.length=vs.length->(∀v∈vs,Value.hH v=true)->
  ∃aL,(storeCells ⟨b,o,none⟩ vs i).run P w= .ok () aL/\aL.heap[b]? =some (.cells (l++(vs++r)).toArray e fr)/\(∀c,c≠b->aL.heap[c]? =w.heap[c]?)/\aL.heap.size=w.heap.size/\aL.os=w.os/\aL.tape=w.tape/\Out aL w
 |[],i,cur,w,l,m,r,ab,bH,ar,aC,hm,_=>by
  refine⟨w,rfl,?_,λ_ _=>rfl,rfl,rfl,rfl,Out.refl _⟩;have:m=[]:=by simpa using hm
  subst this;rw[ab];have:cur=(l++([]++r)).toArray:=by rw[<-ar]
  rw[<-this]
 |v::vs,i,cur,w,l,m,r,ab,bH,ar,aC,hm,H0=>by
  obtain⟨x,m,rfl⟩:∃x jG,m=x::jG:=by cases m with
   |nil=>simp at hm
   |cons x m=>exact⟨x,m,rfl⟩
  have hlen:cur.size=(l++(x::m++r)).length:=by rw[<-ar];simp
  have er:o+i<cur.size:=by rw[hlen];simp;omega
  have H2:w.cell? ⟨b,o+i,none⟩=some cur[o+i]:=by simp[World.cell?,ab,er]
  have acW:w.frozen? ⟨b,o+i,none⟩=false:=by
   have:=bH (o+i) er;simp only[World.frozen?,ab];simp only[Bool.and_eq_false_iff,decide_eq_false_iff_not];by_cases ad:fr.1<=o+i
   .right;exact λae=>this ⟨ad,ae⟩
   .left;exact ad
  have xo:(w.setCell ⟨b,o+i,none⟩ v).heap[b]? =some (.cells ((l++[v])++(m++r)).toArray e fr):=by
   simp only[World.setCell,Array.getElem?_modify,if_true,ab,map_some,isSome_none,Bool.false_eq_true,if_false];congr 2;apply Array.ext';rw[Array.toList_setIfInBounds,ar,<-aC,set_append_right _ _ (Nat.le_refl _)];simp
  have yT:(store ((⟨b,o,none⟩:Addr).add i) v).run P w= .ok () (w.setCell ⟨b,o+i,none⟩ v):=by
   have ad:=H0 v (by simp);rw[Addr.add_lit];cases v<;>first|(simp[Value.hH]at ad;done)|simp[Go.store,Sem.run,H2,acW]
  obtain⟨aL,g1,g2,g3,g4,g5,g6,g7⟩:=HZ (P:=P) (b:=b) (o:=o) vs (i+1) _ (w.setCell ⟨b,o+i,none⟩ v) (l++[v]) m r xo (by
   have:(l++[v]++(m++r)).toArray.size=cur.size:=by rw[hlen];simp
   rw[this];exact bH) (by simp) (by simp;omega) (by simpa using hm) (λu hu=>H0 u (by simp[hu]))
  refine⟨aL,?_,by simpa using g2,λc ar=>?_,?_,g5,g6,g7⟩
  .simp only[storeCells,Sem.run_bind,yT,Result.andThen];exact g1
  .rw[g3 c ar];simp only[World.setCell,Array.getElem?_modify];rw[if_neg (λe=>ar e.symm)]
  .rw[g4];simp[World.setCell]
theorem MC {d:I} {v:Value} (h:eK d v) (ao:∀aE,d≠.tuple aE):v.cells=(dd v).toArray:=by
 cases d with
 |tuple aE=>exact(ao _ rfl).elim
 |agg aE=>obtain⟨arr,rfl⟩:=h;simp[Value.cells,dd,jb]
 |_=>
  have ad:Value.hH v=true:=h;rw[ix ad];cases v<;>first|rfl|(simp[Value.hH]at ad)
def kV (C:cl) (s:al) (T:TypeId) (x y:I):Option al:=
 match dD s y,loc s x with
 |some (d,s1),some (z,q)=>match d with
  | .tuple _=>none
  |d=>match I.sub q (s z)with
   |some d0=>if d.wd=d0.wd/\d.wd=(C.T T).sz/\(C.T T).ok=true/\y.owner≠some z then some (et (jc z s1) z (I.put q d (s z)))else none
   |none=>none
 |_,_=>none
theorem acX {s s1:al} {y d:I} {z:Nat} (h:dD s y=some (d,s1)) (cf:(s z).tree=true) (hy:y.owner≠some z):s1 z=s z:=by
 cases y with
 |h x q=>
  simp only[dD]at h;split at h
  .split at h
   .cases h
   .simp only[some.injEq,Prod.mk.injEq]at h;obtain⟨_,rfl⟩:=h;rw[lE _ _ (λe=>hy (by rw[I.owner,e]))];exact Ml cf
  .cases h
 |ay x q=>simp[dD]at h
 |ab x q=>simp[dD]at h
 |fn f c=>simp[dD]at h
 |hole=>simp[dD]at h
 |_=>simp only[dD,some.injEq,Prod.mk.injEq]at h;rw[h.2]
theorem acY (bO:C.fH) (h:cd w0 F0 X F S s aG w) {T:TypeId} {x y:I} {kf lF:Value} (MD:aS w F s aG x kf (λ_=>False)) (hy:y.plain=true) (acZ:aS w F s aG y lF (λ_=>False))
  {s2:al} (he:kV C s T x y=some s2):
  ∃aL aZ,(Instr.storeAt T kf lF).run C.P w= .ok () aL/\cd w0 F0 X F aZ s2 aG aL:=by
 unfold kV at he;split at he
 .rename_i d s1 z q aY aC;have key:∀d:I,(∀aE,d≠.tuple aE)->dD s y=some (d,s1)->(match I.sub q (s z)with
   |some d0=>if d.wd=d0.wd/\d.wd=(C.T T).sz/\(C.T T).ok=true/\y.owner≠some z then some (et (jc z s1) z (I.put q d (s z)))else none
   |none=>none)=some s2->∃aL aZ,(Instr.storeAt T kf lF).run C.P w= .ok () aL/\cd w0 F0 X F aZ s2 aG aL:=by
   intro d vy aY he;split at he
   .rename_i d0 ny;split at he
    .rename_i Eh;obtain⟨ad,ae,aJ,bh⟩:=Eh;simp only[some.injEq]at he;subst he;obtain⟨so,dv,b,o,rfl,nc⟩:=Mx h MD aC ny;obtain⟨cD,g0,g1,g2,Sn,g3,g4,g5,g6,g7,g8⟩:=sk h hy acZ aY;have fg:s1 z=s z:=acX aY (ju ny (.inr so)) bh;rw[<-fg]at ny so nc⊢;obtain⟨hd,gO,l,r,cur,e,fr,k0,b1,cK,dM,dX⟩:=g0.store ny so g3 ad g4 g5 g6 g7;rw[nc]at k0;simp only[some.injEq,Prod.mk.injEq,true_and]at k0;obtain⟨rfl,rfl,rfl⟩:=k0;obtain⟨i,d,vx,aO,aU,aM,bT,cv,ck,bY⟩:=bO.info aJ;have hlen:=aA.length _ _ _ g3;have hm:dv.length=(dd lF).length:=by
      have T1:=g0.ey z;rw[aS.dr (ju ny (.inr so))]at T1;obtain⟨_,_,_,_,c0,_,_,_,c4,_⟩:=ctx q (s1 z) (dd (aG z)) (cD z) none _ T1.2 ny;rw[nc]at c0;simp only[some.injEq,Prod.mk.injEq,true_and]at c0;rw[c0.1,aA.length _ _ _ c4,hlen,ad]
     obtain⟨aL,m1,m2,m3,m4,m5,m6,m7⟩:=HZ (P:=C.P) (b:=b) (o:=l.length) (e:=e) (fr:=fr) (dd lF) 0 cur w l dv r b1 dM cK rfl hm (aA.yS _ _ _ g3);obtain⟨aZ,eF⟩:=dX aL m2 m3 m4 m5 m6 m7;refine⟨aL,aZ,?_,eF⟩;have yU:=MC g2 vy;simp[Instr.storeAt,Instr.sureAddr,storeVar,nf aO,aU,yU,hlen,ae,m1]
    .cases he
   .cases he
  split at he
  .cases he
  .rename_i vy;exact key _ (λaE e=>vy aE e) aY he
 .cases he
theorem cd.alloc (h:cd w0 F0 X F S s aG w) {d:I} {cs:azi} {Sn:Nat->Prop} (e:TypeId) (aF:aA w F d cs Sn)
  (er:∀b,Sn b->b<w.heap.size) (bK:∀b,Sn b->¬F b) (cj:∀u b,Sn b->¬S u b) (a7:∀b,Sn b->X b\/w0.heap.size<=b):
  cd w0 F0 X F S s aG (w.alloc (.cells cs.toArray e))/\
   nV w0 X F S s aG (w.alloc (.cells cs.toArray e)) (.aQ d) (.pointer (some ⟨w.heap.size,0,none⟩)):=by
 have hold:∀b,b<w.heap.size->(w.alloc (.cells cs.toArray e)).heap[b]? =w.heap[b]? :=by
  intro b ab;show(w.heap.push _)[b]? =_;rw[Array.getElem?_push,if_neg (by omega)]
 refine⟨h.grow hold (by simp) rfl rfl ⟨rfl,λ_=>Nat.le_refl _⟩,.inr ⟨rfl,rfl,λb=>b=w.heap.size\/Sn b,?_,?_,?_,?_,?_⟩⟩
 .rw[aA];refine⟨w.heap.size,cs.toArray,e,(0,0),Sn,rfl,.inl rfl,?_,?_,?_,λc ar=>.inr ar,λar=>Nat.lt_irrefl _ (er _ ar)⟩
  .show(w.heap.push _)[_]? =_;simp
  .intro o _ ⟨_,ae⟩;exact absurd ae (not_lt_zero _)
  .exact aA.frame (λb ab=>hold b (h.gP b ab)) _ _ _ (λb ab=>hold b (er b ab)) aF
 .rintro b (rfl|ab)
  .simp
  .have:=er b ab;simp;omega
 .rintro b (rfl|ab) vz
  .exact Nat.lt_irrefl _ (h.gP _ vz)
  .exact bK b ab vz
 .rintro u b (rfl|ab) hu
  .exact Nat.lt_irrefl _ (h.fS _ _ hu)
  .exact cj u b ab hu
 .rintro b (rfl|ab)
  .exact .inr h.size
  .exact a7 b ab
def mL (C:cl) (T:TypeId):Option I:=if(C.T T).ok=true then(match(C.T T).k,(C.T T).zero with
    | .gm e,.agg [.eh,.a8]=>some (.b9 (.jE T e []))
    | .gm _,_=>none
    |_,z=>(match flat z with|some _=>some (.aQ z)|none=>none))else none
theorem ac0 (bO:C.fH) (h:cd w0 F0 X F S s aG w) {T:TypeId} (he:mL C T=some av):Good C w0 F0 X aG w (Instr.alloc T true (.tuple #[])) av s:=by
 unfold mL at he;split at he
 .rename_i ax;split at he
  .rename_i awP awQ yV;simp only[some.injEq]at he;subst he;obtain⟨i,d,z,aO,aU,aM,bT,cv,ck,bY⟩:=bO.info ax;have cf:=cv [.pointer none,.slice none 0 0] (by rw[yV];rfl);have hold:∀b,b<w.heap.size->(w.alloc (.cells #[.pointer none,.slice none 0 0] T)).heap[b]? =w.heap[b]? :=by
    intro b ab;show(w.heap.push _)[b]? =_;rw[Array.getElem?_push,if_neg (by omega)]
   refine⟨.pointer (some ⟨w.heap.size,0,none⟩),w.alloc (.cells #[.pointer none,.slice none 0 0] T),F,S,?_,h.grow hold (by simp) rfl rfl ⟨rfl,λ_=>Nat.le_refl _⟩,.inr ⟨rfl,rfl,λb=>b=w.heap.size,?_,?_,?_,?_,?_⟩⟩
   .simp[Instr.alloc,yR aO bT,newVar,newRow,newObj,Sem.run,cf]
   .rw[aA];refine⟨w.heap.size,.pointer none,.slice none 0 0,rfl,rfl,?_,.inl rfl,.inl ⟨rfl,rfl⟩⟩;show(w.heap.push _)[_]? =_;simp
   .rintro b rfl;simp
   .rintro b rfl vz;exact Nat.lt_irrefl _ (h.gP _ vz)
   .rintro u b rfl hu;exact Nat.lt_irrefl _ (h.fS _ _ hu)
   .rintro b rfl;exact .inr h.size
  .cases he
  split at he
  .rename_i cs iF;simp only[some.injEq]at he;subst he;obtain⟨i,d,z,aO,aU,aM,bT,cv,ck,bY⟩:=bO.info ax;have cf:=cv cs iF;obtain⟨dU,a_⟩:=h.alloc (d:=(C.T T).zero) T ((aA.flat _).1 _ cs (λ_=>False) (Nat.le_refl _) iF) (λ_ h=>h.elim) (λ_ h=>h.elim) (λ_ _ h=>h.elim) (λ_ h=>h.elim);refine⟨_,_,F,S,?_,dU,a_⟩;simp[Instr.alloc,yR aO bT,newVar,newRow,newObj,Sem.run,cf]
  .cases he
 .cases he
def iG (s:al) (x:I):Option (I×al):=match dD s x with
 |some (.tuple _,_)=>none
 |some (d,s1)=>some (.aQ d,s1)
 |none=>none
theorem ac1 (h:cd w0 F0 X F S s aG w) {T:TypeId} {x:I} {v:Value} (an:x.plain=true) (aF:aS w F s aG x v (λ_=>False)) (he:iG s x=some (av,s1)):
  Good C w0 F0 X aG w (Instr.box T v) av s1:=by
 unfold iG at he;split at he
 .cases he
 .rename_i d s2 vy aY;simp only[some.injEq,Prod.mk.injEq]at he;obtain⟨rfl,rfl⟩:=he;obtain⟨cD,g0,g1,g2,Sn,g3,g4,g5,g6,g7,g8⟩:=sk h an aF aY;obtain⟨dU,a_⟩:=g0.alloc T g3 g4 g5 g6 g7;refine⟨_,_,F,cD,?_,dU,a_⟩;have yU:=MC g2 (λaE e=>vy aE e);simp[Instr.box,newVar,newRow,newObj,Sem.run,yU]
 .cases he
end
end Go.eg
