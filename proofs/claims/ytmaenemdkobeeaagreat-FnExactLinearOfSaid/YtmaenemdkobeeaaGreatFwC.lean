/- Part of a proof that a law returns true for every input. No condition. -/
import Derived.Test.YtmaenemdkobeeaaGreatFwB
import Derived.Laws.Entries
namespace Go.ek
open List Option Go.IntKind Nat Or
inductive oA where
 |int (k:IntKind)
 |bool
 |str
 |ptr (e:TypeId)
 |slice (e:TypeId)
 |struct (aH:List (TypeId×Nat))
 |fn
 |ey (e:TypeId)
 |map (k e:TypeId)
 |other
structure hr where
 k:oA
 sz:Nat
 bytes:Nat
 zero:J
mutual
def flat:J->Option arK
 | .bool b=>some [.bool b]
 | .int k n=>some [.int k n]
 | .str s=>some [.string ⟨⟨s⟩⟩]
 | .eh=>some [.pointer none]
 | .au=>some [.slice none 0 0]
 | .agg aH=>tk aH
 | .eM .Az=>some [.map none]
 |_=>none
def tk:arM->Option arK
 |[]=>some []
 |d::ds=>match flat d,tk ds with
  |some a,some b=>some (a++b)
  |_,_=>none
end
theorem aD.flat {w:World} {F:Nat->Prop}:∀n,(∀(d:J) (cs:arK) (S:Nat->Prop),SizeOf.sizeOf d<=n->flat d=some cs->aD w F d cs S)/\
  (∀(ds:arM) (cs:arK) (S:Nat->Prop),SizeOf.sizeOf ds<=n->tk ds=some cs->bm w F ds cs S):=by
 intro n;induction n with
 |zero=>exact⟨λd _ _ ca=>by cases d<;>simp at ca<;>omega,λds _ _ ca=>by cases ds<;>simp at ca<;>omega⟩
 |succ n ih=>
  refine⟨λd cs S ca h=>?_,λds cs S ca h=>?_⟩
  .cases d with
   |agg aH=>rw[aD];exact ih.2 aH cs S (by simp at ca;omega) (by simpa [ek.flat]using h)
   |bool b=>simp[ek.flat]at h;subst h;rw[aD]
   |int k n=>simp[ek.flat]at h;subst h;rw[aD]
   |str s=>simp[ek.flat]at h;subst h;rw[aD]
   |eh=>simp[ek.flat]at h;subst h;rw[aD]
   |au=>simp[ek.flat]at h;subst h;rw[aD]
   |eM o=>cases o<;>simp[ek.flat]at h;subst h;rw[aD];rfl
   |_=>simp[ek.flat]at h
  .cases ds with
   |nil=>simp[tk]at h;subst h;rw[bm]
   |cons d ds=>
    simp only[tk]at h;split at h
    .rename_i a b b6 ab;simp at h;subst h;simp at ca;rw[bm];exact⟨a,b,λ_=>False,λ_=>False,rfl,ih.1 d a _ (by omega) b6,ih.2 ds b _ (by omega) ab,λ_ h=>h.elim,λ_ h=>h.elim,λ_ h=>h.elim⟩
    .cases h
def mT:oA->TypeDesc->Prop
 | .int k,.int cZ=>k=cZ
 | .bool,.bool=>True
 | .str,.string=>True
 | .ptr e,.pointer fQ=>e=fQ
 | .slice e,.slice fQ=>e=fQ
 | .struct aH,.struct gs=>gs.toList.map (λg=>(g.type,g.offset))=aH
 | .fn,.func _ _ _=>True
 | .ey _,.struct _=>True
 | .map k e,.map cZ fQ=>k=cZ/\e=fQ
 |_,_=>False
def PM (P:Program) (t:TypeId) (x:hr):Prop:=
 (∃e n b z,x=⟨.other,e,n,b⟩/\z=0)\/
 ∃i d z,P.info? t=some i/\i.size=x.sz/\i.bytes=x.bytes/\i.zero=some z/\(∀cs,flat x.zero=some cs->z.cells=cs.toArray)/\P.underlying t=some d/\mT x.k d
structure ch where
 P:Program
 T:TypeId->hr
 M:FuncId->List Bool
structure ch.fI (C:ch):Prop where
 ty:∀t,PM C.P t (C.T t)
 mixed:C.P.follows .mixedOrders=true
inductive bl where
 |t (n:Nat)
 |c (av:J)
 |f (g:FuncId)
def En:Value->Option J
 | .bool b=>some (.bool b)
 | .int k n=>some (.int k n)
 | .string s=>some (.str s.data.toList)
 | .pointer none=>some .eh
 | .slice none 0 0=>some .au
 |_=>none
def ei:Operand->Option bl
 | .tmp n=>some (.t n)
 | .const v=>(En v).map .c
 | .func g=>some (.f g)
 | .global _=>none
def sd (x:Nat) (d:J):J:=if d.plain then d else .h x []
def bs (s:az):bl->J
 | .t n=>sd n (s n)
 | .c av=>av
 | .f g=>.fn g []
theorem aU.nothing {w:World} {F:Nat->Prop} {s:az} {aJ:Nat->Value} {d:J} {v:Value} {S a0:Nat->Prop} (aw:d.plain=true) (h:aU w F s aJ d v S):aU w F s aJ d v a0:=by
 cases d<;>first
  |(rw[aU];trivial)
  |(rw[aU]at h⊢;exact h)
  |(have bM:=(aU.c_ rfl).1 h;exact(aU.c_ rfl).2 ⟨bM.1,aD.plain _ _ _ _ aw bM.2⟩)
section
variable {w0 w:World} {F0 X F:Nat->Prop} {S:Nat->Nat->Prop} {s:az} {aJ:Nat->Value} {a:Act}
theorem PN (s:az) (x:bl) (ax:∀av,x= .c av->av.plain=true):(bs s x).plain=true:=by
 cases x with
 |t n=>simp only[bs,sd];split<;>first|assumption|rfl
 |c av=>exact ax _ rfl
 |f g=>rfl
theorem IK {v:Value} {av:J} (h:En v=some av):av.plain=true:=by
 unfold En at h;split at h<;>simp at h<;>subst h<;>rfl
theorem gj (h:b4 w0 F0 X F S s aJ w) (e9:∀t,aJ t=a.tmps.getD t undef) {o:Operand} {x:bl} (b_:ei o=some x):
  (bs s x).plain=true/\aU w F s aJ (bs s x) (a.eval o) (λ_=>False):=by
 cases o with
 |tmp n=>
  simp[ei]at b_;subst b_;simp only[bs,sd,Act.eval,<-e9];split
  .rename_i aw;exact⟨aw,aU.nothing aw (h.ev n)⟩
  .rename_i aw;refine⟨rfl,?_⟩;rw[aU];intro d ak IL;simp only[J.sub,some.injEq]at ak;subst ak;have bc:=iX (q:=[]) rfl (.inl IL);exact⟨_,none,rfl,rfl,((aU.c_ bc).1 (h.ev n)).1⟩
 |const v=>
  simp only[ei,map_eq_some_iff]at b_;obtain⟨av,qX,rfl⟩:=b_;refine⟨IK qX,?_⟩;simp only[bs,Act.eval];unfold En at qX;split at qX<;>simp at qX<;>subst qX<;>rw[aU,aD]<;>exact⟨rfl,rfl⟩
 |func g=>
  simp[ei]at b_;subst b_;refine⟨rfl,?_⟩;simp only[bs,Act.eval];rw[aU];exact⟨#[],rfl,by rw[e3]⟩
 |global g=>simp[ei]at b_
def mU (w0:World) (X F:Nat->Prop) (S:Nat->Nat->Prop) (s:az) (aJ:Nat->Value) (w:World) (av:J) (v:Value):Prop:=
 (av.plain=true/\aU w F s aJ av v (λ_=>False))\/
 (av.tree=true/\eO av v/\∃Sn,aD w F av (cP v) Sn/\(∀b,Sn b->b<w.heap.size)/\(∀b,Sn b->¬F b)/\(∀u b,Sn b->¬S u b)/\(∀b,Sn b->X b\/w0.heap.size<=b))
def fin (s:az) (dst:Option Nat) (av:J):az:=match dst with
 |none=>s
 |some t=>if av.plain then dY s t av else dY (nk t s) t av
def pe (aJ:Nat->Value) (dst:Option Nat) (v:Value):Nat->Value:=match dst with
 |none=>aJ
 |some t=>dY aJ t v
theorem b4.fin (h:b4 w0 F0 X F S s aJ w) {av:J} {v:Value} (aE:mU w0 X F S s aJ w av v) (dst:Option Nat):
  ∃a0,b4 w0 F0 X F a0 (ek.fin s dst av) (pe aJ dst v) w:=by
 cases dst with
 |none=>exact⟨S,h⟩
 |some t=>
  simp only[ek.fin,pe];rcases aE with⟨aw,ak⟩|⟨bc,ad,Sn,ae,ag,aK,a3,bI⟩
  .rw[if_pos aw];exact⟨_,h.yd aw ak⟩
  .split
   .rename_i aw;exact⟨_,h.yd aw ((aU.c_ bc).2 ⟨ad,aD.plain _ _ _ _ aw ae⟩)⟩
   .exact⟨_,h.PH bc ad ae ag aK (λu b _ ab=>a3 u b ab) bI⟩
def dq (s:az):J->Option (J×az)
 | .h x q=>match J.sub q (s x)with
   |some d=>if d.plain then none else some (d,dY (hq x s) x (J.put q d.dS (s x)))
   |none=>none
 | .aw _ _=>none
 | .ab _ _=>none
 | .fn _ _=>none
 | .hole=>none
 |d=>some (d,s)
def J.owner:J->Option Nat
 | .h x _=>some x
 |_=>none
def l5:Option Nat->J->J
 |some x,d=>cB x d
 |none,d=>d
theorem qY (h:b4 w0 F0 X F S s aJ w) {av d:J} {s1:az} {v:Value} (qX:av.plain=true) (aE:aU w F s aJ av v (λ_=>False)) (bc:dq s av=some (d,s1)):
  ∃cA,b4 w0 F0 X F cA s1 aJ w/\d.tree=true/\eO d v/\∃Sn,aD w F d (cP v) Sn/\(∀b,Sn b->b<w.heap.size)/\(∀b,Sn b->¬F b)/\(∀u b,Sn b->¬cA u b)/\(∀b,Sn b->X b\/w0.heap.size<=b)/\
   (∀u b,cA u b->S u b)/\(∀b,Sn b->∃u,S u b)/\(∀(bE:J) (gd:Value) (a0:Nat->Prop),aU w F s aJ bE gd a0->aU w F s1 aJ (l5 av.owner bE) gd a0):=by
 have tree:∀d:J,d.tree=true->d.plain=true->aU w F s aJ d v (λ_=>False)->
   ∃cA,b4 w0 F0 X F cA s aJ w/\d.tree=true/\eO d v/\∃Sn,aD w F d (cP v) Sn/\(∀b,Sn b->b<w.heap.size)/\(∀b,Sn b->¬F b)/\(∀u b,Sn b->¬cA u b)/\(∀b,Sn b->X b\/w0.heap.size<=b)/\
    (∀u b,cA u b->S u b)/\(∀b,Sn b->∃u,S u b):=by
  intro d ak _ bM;have bM:=(aU.c_ ak).1 bM;exact⟨S,h,ak,bM.1,_,bM.2,λ_ h=>h.elim,λ_ h=>h.elim,λ_ _ h=>h.elim,λ_ h=>h.elim,λ_ _ h=>h,λ_ h=>h.elim⟩
 cases av with
 |h x q=>
  simp only[dq]at bc;split at bc
  .rename_i e he;split at bc
   .cases bc
   .rename_i aw;simp only[some.injEq,Prod.mk.injEq]at bc;obtain⟨rfl,rfl⟩:=bc;have aw:e.plain=false:=by simpa using aw
    obtain⟨Sn,gq,df,dd,dT,bb,dt,bX,cm,dK,e6⟩:=h.take he aw;rw[aU]at aE;obtain⟨apd,aM,a2,bq,ck⟩:=aE e he aw;rw[bb]at a2;simp only[some.injEq,Prod.mk.injEq,true_and]at a2;obtain⟨rfl,rfl⟩:=a2;have IM:e.tree=true:=by cases e<;>first|rfl|(simp[J.plain]at aw)
    refine⟨_,dT,IM,ck,gq,by rw[bq];exact dt,λb ab=>h.fH x b (bX b ab),λb ab=>h.gP x b (bX b ab),?_,λb ab=>h.eN x b (bX b ab),?_,λb ab=>⟨x,bX b ab⟩,e6⟩
    .intro u b ab hu;simp only[gX]at hu;split at hu
     .exact dK b ab hu
     .rename_i W6;exact h.gu u x b W6 hu (bX b ab)
    .intro u b hu;simp only[gX]at hu;split at hu
     .rename_i e;subst e;exact cm b hu
     .exact hu
  .cases bc
 |aw x q=>simp[dq]at bc
 |ab x q=>simp[dq]at bc
 |fn f c=>simp[dq]at bc
 |hole=>simp[dq]at bc
 |af sz xs=>simp[J.plain]at qX
 |aG d=>simp[J.plain]at qX
 |_=>
  simp only[dq,some.injEq,Prod.mk.injEq]at bc;obtain⟨rfl,rfl⟩:=bc;obtain⟨cA,t1,t2,t3,Sn,t4,t5,t6,t7,t8,t9,t10⟩:=tree _ rfl qX aE;exact⟨cA,t1,t2,t3,Sn,t4,t5,t6,t7,t8,t9,t10,λ_ _ _ h=>h⟩
def loc (s:az):J->Option (Nat×arH)
 | .h x q=>match J.sub q (s x)with
   |some (.aG _)=>some (x,q++[0])
   |_=>none
 | .aw x q=>if J.gD q (s x)then some (x,q)else none
 |_=>none
theorem AM:∀(q:arH) (av d:J) (r:arH),J.sub q av=some d->J.sub (q++r) av=J.sub r d:=by
 intro q;induction q with
 |nil=>intro av d r h;simp[J.sub]at h;subst h;rfl
 |cons k q ih=>
  intro av d r h;cases av with
  |agg aH=>
   simp only[J.sub,cons_append]at h⊢;split at h
   .rename_i x ay;exact ih _ _ _ h
   .cases h
  |tuple aH=>
   simp only[J.sub,cons_append]at h⊢;split at h
   .rename_i x ay;exact ih _ _ _ h
   .cases h
  |af sz aH=>
   simp only[J.sub,cons_append]at h⊢;split at h
   .rename_i x ay;exact ih _ _ _ h
   .cases h
  |aG x=>
   cases k with
   |zero=>simp only[J.sub,cons_append]at h⊢;exact ih _ _ _ h
   |succ k=>simp[J.sub]at h
  |_=>simp[J.sub]at h
theorem W7:∀(q:arH) (av d:J) (r:arH),J.sub q av=some d->J.gD (q++r) av=(J.gD q av||J.gD r d):=by
 intro q;induction q with
 |nil=>intro av d r h;simp[J.sub]at h;subst h;simp[J.gD]
 |cons k q ih=>
  intro av d r h;cases av with
  |agg aH=>
   simp only[J.sub]at h;split at h
   .rename_i x ay;simp only[J.gD,cons_append,ay];exact ih _ _ r h
   .cases h
  |tuple aH=>
   simp only[J.sub]at h;split at h
   .rename_i x ay;simp only[J.gD,cons_append,ay];exact ih _ _ r h
   .cases h
  |af sz aH=>simp[J.gD]
  |aG x=>simp[J.gD]
  |_=>simp[J.sub]at h
theorem AN (w:World):∀(q:arH) (av d:J) (cs df:arK) (a dd:Option (Nat×Nat)) (r:arH),eb w q av cs a=some (d,df,dd)->eb w (q++r) av cs a=eb w r d df dd:=by
 intro q;induction q with
 |nil=>intro av d cs df a dd r h;simp[eb]at h;obtain⟨rfl,rfl,rfl⟩:=h;rfl
 |cons k q ih=>
  intro av d cs df a dd r h;cases av with
  |agg aH=>
   rw[cons_append];rw[eb]at h⊢;split at h
   .rename_i x ay;exact ih _ _ _ _ _ _ _ h
   .cases h
  |tuple aH=>
   rw[cons_append];rw[eb]at h⊢;split at h
   .rename_i x ay;exact ih _ _ _ _ _ _ _ h
   .cases h
  |af sz aH=>
   rw[cons_append];rw[eb.eq_def]at h⊢;simp only at h⊢;split at h
   .exact ih _ _ _ _ _ _ _ h
   .cases h
  |aG x=>
   cases k with
   |zero=>
    rw[cons_append];rw[eb.eq_def]at h⊢;simp only at h⊢;split at h
    .exact ih _ _ _ _ _ _ _ h
    .cases h
   |succ k=>rw[show eb w ((k+1)::q) (.aG x) cs a=none from rfl]at h;cases h
  |_=>simp[eb]at h
end
def hr.ok (x:hr):Bool:=match x.k with
 | .other=>false
 |_=>true
theorem ch.fI.info {C:ch} (bB:C.fI) {t:TypeId} (h:(C.T t).ok=true):
  ∃i d z,C.P.info? t=some i/\i.size=(C.T t).sz/\i.bytes=(C.T t).bytes/\i.zero=some z/\(∀cs,flat (C.T t).zero=some cs->z.cells=cs.toArray)/\C.P.underlying t=some d/\mT (C.T t).k d:=by
 rcases bB.ty t with⟨e,n,b,z,ay,_⟩|bM
 .rw[ay]at h;simp[hr.ok]at h
 .exact bM
theorem gY {x:hr} {k:oA} (h:x.k=k) (ao:k≠.other):x.ok=true:=by
 unfold hr.ok;rw[h];cases k<;>first|rfl|exact(ao rfl).elim
theorem AO {d:TypeDesc} {aH:List (TypeId×Nat)} (h:mT (.struct aH) d):∃gs,d= .struct gs/\gs.toList.map (λg=>(g.type,g.offset))=aH:=by
 cases d<;>simp[mT]at h;exact⟨_,rfl,h⟩
theorem mV {d:TypeDesc} {e:TypeId} (h:mT (.slice e) d):d= .slice e:=by
 cases d<;>simp[mT]at h;rw[h]
theorem AP {d:TypeDesc} {k:IntKind} (h:mT (.int k) d):d= .int k:=by
 cases d<;>simp[mT]at h;rw[h]
theorem se {d:TypeDesc} (h:mT .str d):d= .string:=by
 cases d<;>simp[mT]at h;rfl
theorem IP {d:TypeDesc} (h:mT .bool d):d= .bool:=by
 cases d<;>simp[mT]at h;rfl
theorem PO {d:TypeDesc} {e:TypeId} (h:mT (.ptr e) d):d= .pointer e:=by
 cases d<;>simp[mT]at h;rw[h]
theorem hX {v:Value} (h:Value.hp v=true):cP v=[v]:=by
 cases v<;>first|rfl|(simp[Value.hp]at h)
theorem wg {P:Program} {t:TypeId} {i:TypeInfo} (h:P.info? t=some i) (w:World):(typeInfo t).run P w= .ok i w:=by simp[typeInfo,h]
theorem k7 {P:Program} {t:TypeId} {i:TypeInfo} (h:P.info? t=some i) (w:World):(Go.sizeOf t).run P w= .ok i.size w:=by simp[Go.sizeOf,wg h]
theorem uJ {P:Program} {t:TypeId} {i:TypeInfo} {z:Value} (h:P.info? t=some i) (ca:i.zero=some z) (w:World):(zeroValue t).run P w= .ok z w:=by simp[zeroValue,wg h,ca]
section
variable {C:ch} {w0 w:World} {F0 X F:Nat->Prop} {S:Nat->Nat->Prop} {s s1:az} {aJ:Nat->Value} {av:J}
def Good (C:ch) (w0:World) (F0 X:Nat->Prop) (aJ:Nat->Value) (w:World) (m:Sem Value) (av:J) (s1:az):Prop:=
 ∃v aQ b9 a0,m.run C.P w= .ok v aQ/\b4 w0 F0 X b9 a0 s1 aJ aQ/\mU w0 X b9 a0 s1 aJ aQ av v
theorem Good.same (h:b4 w0 F0 X F S s aJ w) {m:Sem Value} {v:Value} (a4:m.run C.P w= .ok v w) (aw:av.plain=true) (aE:aU w F s aJ av v (λ_=>False)):Good C w0 F0 X aJ w m av s:=
 ⟨v,w,F,S,a4,h,.inl ⟨aw,aE⟩⟩
theorem IQ (_h:b4 w0 F0 X F S s aJ w) {x:J} {v:Value} (aE:aU w F s aJ x v (λ_=>False)) {y:Nat} {q:arH} (hl:loc s x=some (y,q)) {d:J} (ak:J.sub q (s y)=some d):
  J.gD q (s y)=true/\∃df b o,v= .pointer (some ⟨b,o,none⟩)/\eb w q (s y) (cP (aJ y)) none=some (d,df,some (b,o)):=by
 cases x with
 |h z Eo=>
  simp only[loc]at hl;split at hl
  .rename_i e he;simp only[some.injEq,Prod.mk.injEq]at hl;obtain⟨rfl,rfl⟩:=hl;rw[aU]at aE;obtain⟨df,a,a2,bq,ck⟩:=aE _ he rfl;have iu:e=d:=by
    rw[AM _ _ _ _ he]at ak;simpa [J.sub]using ak
   subst iu;refine⟨by rw[W7 _ _ _ _ he];simp[J.gD],?_⟩;have ae:Value.hp v=true:=ck;rw[hX ae]at bq;subst bq;have l3:=AN w Eo (s z) _ _ _ none a [0] a2;have ay:=_h.ev z;rw[aU.c_ (iX he (.inl rfl))]at ay;obtain⟨gW,dd,fe,gq,k0,b3,cv,fz,ez,fR⟩:=ctx Eo (s z) (cP (aJ z)) (S z) none _ ay.2 he;rw[k0]at a2;simp only[some.injEq,Prod.mk.injEq,true_and]at a2;obtain⟨rfl,rfl⟩:=a2;rw[aD]at ez;obtain⟨b,cur,a8,fr,eo,aY,_⟩:=ez;simp only[cons.injEq,and_true]at aY;subst aY;exact⟨_,b,0,rfl,by rw[l3];rfl⟩
  .cases hl
 |aw z Eo=>
  simp only[loc]at hl;split at hl
  .rename_i ax;simp only[some.injEq,Prod.mk.injEq]at hl;obtain⟨rfl,rfl⟩:=hl;rw[aU]at aE;obtain⟨df,b,o,a2,bq⟩:=aE _ ak ax;exact⟨ax,df,b,o,bq,a2⟩
  .cases hl
 |_=>simp[loc]at hl
def gQ (C:ch) (s:az) (T:TypeId) (x:J) (k:Nat):Option J:=
 match(C.T T).k with
 | .struct aH=>match aH[k]? with
   |some (kQ,off)=>if(C.T kQ).ok=true/\(C.T kQ).sz≠0 then
     match x with
     | .ref (.agg ds)=>match ds[k]? with
       |some d=>if J.e1 (ds.take k)=off then some (.ref d)else none
       |none=>none
     | .ab y o=>if(s y).plain then none else some (.ab y (o+off))
     |x=>match loc s x with
      |some (y,q)=>match J.sub q (s y)with
       |some (.agg ds)=>if k<ds.length/\J.e1 (ds.take k)=off then some (.aw y (q++[k]))else none
       |_=>none
      |none=>none
    else none
   |none=>none
 |_=>none
theorem iV.IU {w:World} {b o:Nat} {b2 gV cc:arK} (h:iV w b o (b2++(gV++cc))):iV w b (o+b2.length) gV:=by
 intro j c bP;have e2:j<gV.length:=(List.getElem?_eq_some_iff.1 bP).1;have:=h (b2.length+j) c (by rw[getElem?_append_right (by omega),getElem?_append_left (by omega),<-bP];congr 1;omega);rw[Nat.add_assoc];exact this
theorem IV (bB:C.fI) {T kQ:TypeId} {aH:List (TypeId×Nat)} {k off:Nat} (ao:(C.T T).k= .struct aH) (bo:aH[k]? =some (kQ,off)) (ae:(C.T kQ).ok=true) (ag:(C.T kQ).sz≠0) (b o:Nat) (w:World):
  (Instr.fieldAt T (.pointer (some ⟨b,o,none⟩)) k).run C.P w= .ok (.pointer (some ⟨b,o+off,none⟩)) w:=by
 obtain⟨i,d,z,aW,a8,aY,bT,cF,cj,b0⟩:=bB.info (gY ao (by simp));rw[ao]at b0;obtain⟨gs,rfl,gZ⟩:=AO b0;obtain⟨tl,bE,tm,f1,f2,f3,f4,f5,f6,f7⟩:=bB.info ae;have bC:∃g,gs[k]? =some g/\g.type=kQ/\g.offset=off:=by
  rw[<-gZ,getElem?_map]at bo;simp only[map_eq_some_iff,Prod.mk.injEq]at bo;obtain⟨g,ae,ag,aK⟩:=bo;exact⟨g,by simpa using ae,ag,aK⟩
 obtain⟨g,a2,rfl,rfl⟩:=bC;simp[Instr.fieldAt,run_underlying cj,a2,Instr.sureAddr,fieldPlace,k7 f1,f2,ag,Addr.add_lit]
theorem W8 (bB:C.fI) (h:b4 w0 F0 X F S s aJ w) {T:TypeId} {x:J} {v:Value} {k:Nat} (ay:x.plain=true) (aE:aU w F s aJ x v (λ_=>False)) (he:gQ C s T x k=some av):
  Good C w0 F0 X aJ w (Instr.fieldAt T v k) av s:=by
 unfold gQ at he;split at he
 .rename_i aH ao;split at he
  .rename_i kQ off bo;split at he
   .rename_i yf;split at he
    .rename_i ds;split at he
     .rename_i d ak;split at he
      .rename_i sf;simp only[some.injEq]at he;subst he;have np:=(aU.c_ rfl).1 aE;rw[aD]at np;obtain⟨ad,b,o,fm,ae,ag,aK,a3⟩:=np;rw[hX ad]at ae;simp only[cons.injEq,and_true]at ae;subst ae;rw[aD]at a3;obtain⟨b2,gV,cc,cA,iW,rfl,iI,gr,hD,i7,gO,nQ⟩:=bm.pick ds _ _ k d a3 ak;refine Good.same h (IV bB ao bo yf.1 yf.2 b o w) rfl ((aU.c_ rfl).2 ⟨rfl,?_⟩);rw[aD];refine⟨b,o+off,gV,rfl,ag,?_,aD.mono (λ_ h=>h) _ _ _ _ (λb ab=>hD b ab) gO⟩;rw[<-sf,<-iI];exact aK.IU
      .cases he
     .cases he
    .rename_i y o;split at he
     .cases he
     .rename_i aw;simp only[some.injEq]at he;subst he;rw[aU]at aE;obtain⟨b,cur,e,fr,rfl,ag,aK,a3⟩:=aE (by simpa using aw);refine Good.same h (IV bB ao bo yf.1 yf.2 b o w) rfl ?_;rw[aU];exact λ_=>⟨b,cur,e,fr,rfl,ag,aK,a3⟩
    .rename_i x _ _;split at he
     .rename_i y q hl;split at he
      .rename_i ds ak;split at he
       .rename_i sf;simp only[some.injEq]at he;subst he;obtain⟨ax,df,b,o,rfl,l3⟩:=IQ h aE hl ak;refine Good.same h (IV bB ao bo yf.1 yf.2 b o w) rfl ?_;rw[aU];intro d2 i9 jM;rw[AN w q _ _ _ _ _ _ [k] l3];rw[AM _ _ _ _ ak]at i9;have oB:∃d3,ds[k]? =some d3:=⟨_,getElem?_eq_getElem sf.1⟩
        obtain⟨d3,qZ⟩:=oB;simp only[J.sub,qZ,some.injEq]at i9;subst i9;simp only[eb,qZ];refine⟨(df.drop off).take d3.wd,b,o+off,?_,rfl⟩;rw[sf.2];rfl
       .cases he
      .cases he
     .cases he
   .cases he
  .cases he
 .cases he
def j0 (C:ch) (s:az) (T:TypeId) (x i:J):Option J:=
 match(C.T T).k,i with
 | .slice e,.int _ n=>if 0<=n/\(C.T e).ok=true then
   match x with
   | .slice xs=>match xs[n.toNat]? with
     |some d=>if d.wd=(C.T e).sz then some (.ref d)else none
     |none=>none
   | .h y q=>match J.sub q (s y)with
     |some (.af sz xs)=>if n.toNat<xs.length/\sz=(C.T e).sz then some (.aw y (q++[n.toNat]))else none
     |_=>none
   |_=>none
   else none
 |_,_=>none
theorem PQ (bB:C.fI) {T e:TypeId} (ao:(C.T T).k= .slice e) (he:(C.T e).ok=true) (b o len cap:Nat) (k:IntKind) (n:Nat) (aZ:n<len) (w:World):
  (Instr.indexAt T (.slice (some ⟨b,o,none⟩) len cap) (.int k n)).run C.P w= .ok (.pointer (some ⟨b,o+n*(C.T e).sz,none⟩)) w:=by
 obtain⟨i,d,z,aW,a8,aY,bT,cF,cj,b0⟩:=bB.info (gY ao (by simp));rw[ao]at b0;have:=mV b0;subst this;obtain⟨tl,bE,tm,f1,f2,f3,f4,f5,f6,f7⟩:=bB.info he;simp[Instr.indexAt,run_underlying cj,asIntOf,aZ,k7 f1,f2,Addr.add_lit]
theorem W9 (bB:C.fI) (h:b4 w0 F0 X F S s aJ w) {T:TypeId} {x i:J} {v p6:Value} (aE:aU w F s aJ x v (λ_=>False)) (W_:aU w F s aJ i p6 (λ_=>False))
  (he:j0 C s T x i=some av):Good C w0 F0 X aJ w (Instr.indexAt T v p6) av s:=by
 unfold j0 at he;split at he
 .rename_i e k n ao;have IW:=(aU.c_ rfl).1 W_;rw[aD,hX IW.1]at IW;have:p6= .int k n:=by simpa using IW.2
  subst this;split at he
  .rename_i aZ;obtain⟨n,rfl⟩:=Int.eq_ofNat_of_zero_le aZ.1;simp only[Int.toNat_natCast]at he;split at he
   .rename_i xs;split at he
    .rename_i d ak;split at he
     .rename_i hw;simp only[some.injEq]at he;subst he;have np:=(aU.c_ rfl).1 aE;rw[aD,hX np.1]at np;obtain⟨ad,⟨rfl,_⟩|⟨b,o,cap,fm,sz,ae,ag,aK,a3,bI,dc,c6⟩⟩:=np
      .simp at ak
      .simp only[cons.injEq,and_true]at ae;subst ae;have e2:n<xs.length:=(List.getElem?_eq_some_iff.1 ak).1;obtain⟨b2,gV,cc,cA,iW,rfl,iI,gr,hD,i7,gO,nQ⟩:=bm.pick xs _ _ n d c6 ak;refine Good.same h (PQ bB ao aZ.2 b o _ _ k n e2 w) rfl ((aU.c_ rfl).2 ⟨rfl,?_⟩);rw[aD];refine⟨b,_,gV,rfl,ag,?_,aD.mono (λ_ h=>h) _ _ _ _ (λb ab=>hD b ab) gO⟩;have Xa:=bI d (mem_of_getElem? ak);have:n*(C.T e).sz=b2.length:=by
        rw[iI,v9 _ (λd ak=>bI d (mem_of_mem_take ak)),length_take,Nat.min_eq_left (by omega),<-hw,Xa]
       rw[this];exact dc.IU
     .cases he
    .cases he
   .rename_i y q;split at he
    .rename_i sz xs ak;split at he
     .rename_i hw;simp only[some.injEq]at he;subst he;rw[aU]at aE;obtain⟨df,a,a2,bq,ck⟩:=aE _ ak rfl;have ad:Value.hp v=true:=ck;rw[hX ad]at bq;subst bq;have ay:=h.ev y;rw[aU.c_ (iX ak (.inl rfl))]at ay;obtain⟨gW,dd,fe,gq,k0,b3,cv,fz,ez,fR⟩:=ctx q (s y) (cP (aJ y)) (S y) none _ ay.2 ak;rw[k0]at a2;simp only[some.injEq,Prod.mk.injEq,true_and]at a2;obtain⟨rfl,rfl⟩:=a2;rw[aD]at ez;rcases ez with⟨rfl,_⟩|⟨b,cap,cur,a8,fr,eo,aY,_⟩
      .simp at hw
      .simp only[cons.injEq,and_true]at aY;subst aY;refine Good.same h (PQ bB ao aZ.2 b 0 _ _ k n hw.1 w) rfl ?_;rw[aU];intro d2 i9 _;rw[AN w q _ _ _ _ _ _ [n] k0];rw[AM _ _ _ _ ak]at i9;obtain⟨d3,qZ⟩:∃d3,xs[n]? =some d3:=⟨_,getElem?_eq_getElem hw.1⟩
       simp only[J.sub,qZ,some.injEq]at i9;subst i9;simp only[eb,qZ];exact⟨_,b,n*sz,rfl,by simp[hw.2]⟩
     .cases he
    .cases he
   .cases he
  .cases he
 .cases he
end
section
variable {C:ch} {w0 w:World} {F0 X F:Nat->Prop} {S:Nat->Nat->Prop} {s s1:az} {aJ:Nat->Value} {av:J}
theorem PR (bB:C.fI) {T:TypeId} {aH:List (TypeId×Nat)} (ao:(C.T T).k= .struct aH) (w:World):(isAgg T).run C.P w= .ok true w:=by
 obtain⟨i,d,z,aW,a8,aY,bT,cF,cj,b0⟩:=bB.info (gY ao (by simp));rw[ao]at b0;obtain⟨gs,rfl,_⟩:=AO b0;simp[isAgg,run_underlying cj]
def hr.flat (x:hr):Bool:=match x.k with
 | .other=>false
 | .ey _=>false
 | .struct _=>false
 |_=>true
theorem PS {x:hr} (h:x.flat=true):x.ok=true:=by
 unfold hr.flat at h;unfold hr.ok;revert h;cases x.k<;>simp
theorem IX (bB:C.fI) {T:TypeId} (ao:(C.T T).flat=true) (w:World):(isAgg T).run C.P w= .ok false w:=by
 obtain⟨i,d,z,aW,a8,aY,bT,cF,cj,b0⟩:=bB.info (PS ao);have ee:(∀aH,d≠.struct aH)/\(∀n e,d≠.array n e):=by
  clear cj;unfold hr.flat at ao;generalize (C.T T).k=k8 at*;cases k8<;>cases d<;>simp[mT]at b0 ao⊢
 cases d<;>first|exact(ee.1 _ rfl).elim|exact(ee.2 _ _ rfl).elim|simp[isAgg,run_underlying cj]
theorem iV.one {w:World} {b o:Nat} {v:Value} (h:iV w b o [v]):w.cell? ⟨b,o,none⟩=some v:=by simpa using h 0 v rfl
theorem PT {P:Program} {b o:Nat}:∀(cs:arK) (i:Nat) (acc:Array Value),iV w b (o+i) cs->(loadCellsFrom ⟨b,o,none⟩ i cs.length acc).run P w= .ok (acc++cs.toArray) w
 |[],i,acc,_=>by simp[loadCellsFrom]
 |c::cs,i,acc,h=>by
  have a5:w.cell? ⟨b,o+i,none⟩=some c:=by simpa using h 0 c rfl
  have ae:iV w b (o+(i+1)) cs:=by
   intro j x bP;have:=h (j+1) x (by simpa using bP);rw[<-this];congr 2;omega
  have ih:=PT (P:=P) cs (i+1) (acc.push c) ae;simp only[length_cons,loadCellsFrom,Sem.run_bind,Go.load,Sem.run,Addr.add_lit,a5,Result.andThen];rw[ih];simp
theorem Xb (bB:C.fI) {T:TypeId} {aH:List (TypeId×Nat)} (ao:(C.T T).k= .struct aH) {b o:Nat} {cs:arK} (h:iV w b o cs) (hl:cs.length=(C.T T).sz):
  (loadVar T ⟨b,o,none⟩).run C.P w= .ok (.agg cs.toArray) w:=by
 obtain⟨i,d,z,aW,a8,aY,bT,cF,cj,b0⟩:=bB.info (gY ao (by simp));have:=PT (P:=C.P) (b:=b) (o:=o) cs 0 #[] (by simpa using h);simp only[loadVar,Sem.run_bind,PR bB ao,Result.andThen,if_true,k7 aW,a8,<-hl,loadCells,this];simp
theorem PU (bB:C.fI) {T:TypeId} (ao:(C.T T).flat=true) {b o:Nat} {v:Value} (h:iV w b o [v]):
  (loadVar T ⟨b,o,none⟩).run C.P w= .ok v w:=by
 simp[loadVar,IX bB ao,Go.load,Sem.run,h.one]
def fits (C:ch) (T:TypeId) (d:J):Bool:=match(C.T T).k,d with
    | .struct _,.agg ds=>J.e1 ds==(C.T T).sz
    | .struct _,_=>false
    |_,.agg _=>false
    |_,.tuple _=>false
    |_,_=>(C.T T).flat
def Ep:arM->Nat->Nat->Option Nat
 |[],_,_=>none
 |d::ds,i,k=>if k=0 then some i else if d.wd<=k then Ep ds (i+1) (k-d.wd)else none
def fo (C:ch) (s:az) (T:TypeId) (x:J):Option J:=
 match x with
 | .ref d=>if fits C T d=true then some d else none
 | .ab y k=>match s y with
   | .agg ds=>if J.eu ds then none else match Ep ds 0 k with
     |some i=>match ds[i]? with
      |some d=>if J.e1 (ds.take i)=k/\fits C T d=true then some (if d.plain then d else .h y [i])else none
      |none=>none
     |none=>none
   |_=>none
 |x=>match loc s x with
  |some (y,q)=>match J.sub q (s y)with
   |some d=>if fits C T d=true then some (if d.plain then d else .h y q)else none
   |none=>none
  |none=>none
theorem aD.one {F:Nat->Prop} {d:J} {cs:arK} {S:Nat->Prop} (h:aD w F d cs S) (ae:∀aH,d≠.agg aH) (ag:∀aH,d≠.tuple aH):∃v,cs=[v]/\Value.hp v=true:=by
 cases d with
 |hole=>rw[aD]at h;obtain⟨v,h,rfl⟩:=h;exact⟨v,rfl,h⟩
 |fW=>rw[aD]at h;obtain⟨v,rfl⟩:=h;exact⟨_,rfl,rfl⟩
 |slice xs=>rw[aD]at h;rcases h with⟨_,a,c,rfl,_⟩|⟨b,o,cap,fm,sz,rfl,_⟩<;>exact⟨_,rfl,rfl⟩
 |af sz xs=>rw[aD]at h;rcases h with⟨_,_,rfl⟩|⟨b,cap,cur,e,fr,eN,rfl,_⟩<;>exact⟨_,rfl,rfl⟩
 |ref d=>rw[aD]at h;obtain⟨b,o,fm,rfl,_⟩:=h;exact⟨_,rfl,rfl⟩
 |aG d=>rw[aD]at h;obtain⟨b,cur,e,fr,eN,rfl,_⟩:=h;exact⟨_,rfl,rfl⟩
 |agg aH=>exact(ae _ rfl).elim
 |tuple aH=>exact(ag _ rfl).elim
 |fn _ _=>rw[aD]at h;obtain⟨arr,rfl,_⟩:=h;exact⟨_,rfl,rfl⟩
 |h _ _=>rw[aD]at h;exact h.elim
 |aw _ _=>rw[aD]at h;exact h.elim
 |ab _ _=>rw[aD]at h;exact h.elim
 |eM _=>rw[aD]at h;obtain⟨v,jy,rfl⟩:=ni.one h;exact⟨v,rfl,jy⟩
 |_=>rw[aD]at h;subst h;exact⟨_,rfl,rfl⟩
theorem J.Er {d:J} (h:d.single=true):(∀aH,d≠.agg aH)/\∀aH,d≠.tuple aH:=
 ⟨λaH e=>(by subst e;cases h),λaH e=>(by subst e;cases h)⟩
theorem aU.q0 {F:Nat->Prop} {s:az} {aJ:Nat->Value} {d:J} {v:Value} (bc:d.tree=true) (ad:d.single=true) (h:aD w F d [v] (λ_=>False)):aU w F s aJ d v (λ_=>False):=by
 obtain⟨gd,e,ae⟩:=aD.one h (J.Er ad).1 (J.Er ad).2;have:v=gd:=by simpa using e
 subst this;refine(aU.c_ bc).2 ⟨?_,by rw[hX ae];exact h⟩;cases d<;>first|exact ae|cases ad
mutual
theorem aU.sg {F:Nat->Prop} {s:az} {aJ:Nat->Value}:∀(d:J) (v:Value),d.single=true->aD w F d [v] (λ_=>False)->aU w F s aJ d v (λ_=>False)
 | .fn f caps,v,_,h=>by
   rw[aD]at h;obtain⟨arr,ae,ag,aK⟩:=h;rw[aU];exact⟨arr,by simpa using ae,e3.sg caps _ ag aK⟩
 | .bool b,v,ad,h=>aU.q0 rfl ad h
 | .fW,v,ad,h=>aU.q0 rfl ad h
 | .int k n,v,ad,h=>aU.q0 rfl ad h
 | .str x,v,ad,h=>aU.q0 rfl ad h
 | .eh,v,ad,h=>aU.q0 rfl ad h
 | .au,v,ad,h=>aU.q0 rfl ad h
 | .slice xs,v,ad,h=>aU.q0 rfl ad h
 | .af sz xs,v,ad,h=>aU.q0 rfl ad h
 | .ref d,v,ad,h=>aU.q0 rfl ad h
 | .aG d,v,ad,h=>aU.q0 rfl ad h
 | .h _ _,v,_,h=>by rw[aD]at h;exact h.elim
 | .aw _ _,v,_,h=>by rw[aD]at h;exact h.elim
 | .ab _ _,v,_,h=>by rw[aD]at h;exact h.elim
 | .eM _,v,ad,h=>aU.q0 rfl ad h
theorem e3.sg {F:Nat->Prop} {s:az} {aJ:Nat->Value}:∀(ds:arM) (vs:arK),(∀d∈ds,d.single=true)->bm w F ds vs (λ_=>False)->e3 w F s aJ ds vs
 |[],vs,_,h=>by rw[bm]at h;rw[e3];exact h
 |d::ds,vs,ad,h=>by
  rw[bm]at h;obtain⟨b2,cc,cA,eo,rfl,ag,aK,a3,bI,_⟩:=h;have ak:=ad d (by simp);obtain⟨v,rfl,_⟩:=aD.one ag (J.Er ak).1 (J.Er ak).2;rw[e3];exact⟨v,cc,rfl,aU.sg d v ak (aD.mono (λ_ h=>h) _ _ _ _ (λb ab=>a3 b ab) ag),e3.sg ds cc (λx ay=>ad x (by simp[ay])) (bm.mono (λ_ h=>h) _ _ _ _ (λb ab=>bI b ab) aK)⟩
end
theorem Es (bB:C.fI) {T:TypeId} {d:J} {b o:Nat} {cs:arK} {S:Nat->Prop} (h:iV w b o cs) (ak:aD w F d cs S)
  (i_:fits C T d=true):
  ∃v,(loadVar T ⟨b,o,none⟩).run C.P w= .ok v w/\cP v=cs/\eO d v:=by
 unfold fits at i_;by_cases ad:∃aH,(C.T T).k= .struct aH
 .obtain⟨aH,ao⟩:=ad;rw[ao]at i_;cases d with
  |agg ds=>
   simp only[beq_iff_eq]at i_;refine⟨_,Xb bB ao h ((aD.length _ _ _ ak).trans i_),rfl,⟨_,rfl⟩⟩
  |_=>simp at i_
 .have hs:(C.T T).flat=true/\(∀aH,d≠.agg aH)/\(∀aH,d≠.tuple aH):=by
   revert i_ ad;cases ao:(C.T T).k<;>cases d<;>simp
  obtain⟨v,rfl,ae⟩:=aD.one ak hs.2.1 hs.2.2;refine⟨v,PU bB hs.1 h,hX ae,?_⟩;cases d<;>first|exact ae|exact(hs.2.1 _ rfl).elim|exact(hs.2.2 _ rfl).elim
theorem Xc (bB:C.fI) {T:TypeId} {d:J} {off:Nat} {arr:Array Value} {b2 cs cc:arK} {S:Nat->Prop} (he:arr.toList=b2++(cs++cc)) (b_:b2.length=off) (ak:aD w F d cs S)
  (i_:fits C T d=true):
  ∃v,(part T arr off).run C.P w= .ok v w/\cP v=cs/\eO d v:=by
 unfold fits at i_;by_cases ad:∃aH,(C.T T).k= .struct aH
 .obtain⟨aH,ao⟩:=ad;rw[ao]at i_;cases d with
  |agg ds=>
   simp only[beq_iff_eq]at i_;obtain⟨i,d,z,aW,a8,aY,bT,cF,cj,b0⟩:=bB.info (gY ao (by simp));have hl:cs.length=(C.T T).sz:=(aD.length _ _ _ ak).trans i_;have ay:(arr.extract off (off+(C.T T).sz)).toList=cs:=by
    rw[Array.toList_extract,he,extract_eq_take_drop,<-hl,<-b_,Nat.add_sub_cancel_left,drop_left,take_left]
   refine⟨.agg (arr.extract off (off+(C.T T).sz)),?_,by simpa [cP,jn]using ay,⟨_,rfl⟩⟩;simp[part,PR bB ao,k7 aW,a8]
  |_=>simp at i_
 .have hs:(C.T T).flat=true/\(∀aH,d≠.agg aH)/\(∀aH,d≠.tuple aH):=by
   revert i_ ad;cases ao:(C.T T).k<;>cases d<;>simp
  obtain⟨v,rfl,ae⟩:=aD.one ak hs.2.1 hs.2.2;have bC:arr[off]? =some v:=by
   rw[<-Array.getElem?_toList,he,<-b_,getElem?_append_right (Nat.le_refl _)];simp
  refine⟨v,?_,hX ae,?_⟩
  .simp[part,IX bB hs.1,bC]
  .cases d<;>first|exact ae|exact(hs.2.1 _ rfl).elim|exact(hs.2.2 _ rfl).elim
theorem Xd (bB:C.fI) (h:b4 w0 F0 X F S s aJ w) {T:TypeId} {x:J} {v:Value} (aE:aU w F s aJ x v (λ_=>False)) (he:fo C s T x=some av):
  Good C w0 F0 X aJ w (Instr.loadAt T v) av s:=by
 unfold fo at he;split at he
 .rename_i d;split at he
  .rename_i i_;simp only[some.injEq]at he;subst he;have np:=(aU.c_ rfl).1 aE;rw[aD,hX np.1]at np;obtain⟨ad,b,o,fm,ae,ag,aK,a3⟩:=np;simp only[cons.injEq,and_true]at ae;subst ae;obtain⟨gd,a4,ax,kR⟩:=Es bB aK a3 i_;have ft:(Instr.loadAt T (.pointer (some ⟨b,o,none⟩))).run C.P w= .ok gd w:=by simp[Instr.loadAt,Instr.sureAddr,a4]
   refine⟨gd,w,F,S,ft,h,?_⟩;by_cases bc:d.tree=true
   .exact .inr ⟨bc,kR,λ_=>False,by rw[ax];exact a3,λ_ h=>h.elim,λ_ h=>h.elim,λ_ _ h=>h.elim,λ_ h=>h.elim⟩
   .cases d<;>first|exact(bc rfl).elim|(rw[aD]at a3;exact a3.elim)|exact .inl ⟨rfl,by rw[aU];trivial⟩|(have bI:=a3;rw[aD]at bI;obtain⟨arr,e,_⟩:=bI;rw[<-ax]at e a3;rw[hX (by exact kR)]at a3;exact .inl ⟨rfl,aU.sg _ _ rfl a3⟩)
  .cases he
 .rename_i y k;split at he
  .rename_i ds pf;split at he
   .cases he
   .rename_i AQ;split at he
    .rename_i i al;split at he
     .rename_i d ak;split at he
      .rename_i i_;simp only[some.injEq]at he;have ew:(s y).plain=false:=by rw[pf];simp only[J.plain];simpa using AQ
       rw[aU]at aE;obtain⟨b,cur,e,fr,rfl,ag,aK,a3⟩:=aE ew;have bz:=h.ev y;rw[pf]at bz;have PV:=((aU.c_ rfl).1 bz).2;rw[aD]at PV;obtain⟨b2,gV,cc,cA,iW,iB,iI,gr,hD,i7,gO,nQ⟩:=bm.pick ds _ _ i d PV ak;have k5:iV w b k gV:=by
        intro j c bP;have e2:j<gV.length:=(List.getElem?_eq_some_iff.1 bP).1;have:cur.toList[k+j]? =some c:=by
         rw[a3,iB,getElem?_append_right (by omega),getElem?_append_left (by omega),<-bP];congr 1;omega
        simp[World.cell?,aK];simpa using this
       obtain⟨gd,a4,ax,kR⟩:=Es bB k5 gO i_.2;have ft:(Instr.loadAt T (.pointer (some ⟨b,k,none⟩))).run C.P w= .ok gd w:=by simp[Instr.loadAt,Instr.sureAddr,a4]
       refine⟨gd,w,F,S,ft,h,?_⟩;split at he
       .rename_i aw;subst he;by_cases bc:d.tree=true
        .exact .inl ⟨aw,(aU.c_ bc).2 ⟨kR,by rw[ax];exact aD.plain _ _ _ _ aw gO⟩⟩
        .cases d<;>first|exact(bc rfl).elim|(rw[aD]at gO;exact gO.elim)|exact .inl ⟨rfl,by rw[aU];trivial⟩|(have bI:=aD.plain _ _ _ (λ_=>False) aw gO;rw[<-ax]at bI;rw[hX (by exact kR)]at bI;exact .inl ⟨rfl,aU.sg _ _ rfl bI⟩)
       .subst he;refine .inl ⟨rfl,?_⟩;rw[aU];intro d2 i9 _;rw[pf]at i9⊢;simp only[J.sub,ak,some.injEq]at i9;subst i9;refine⟨gV,none,?_,ax,kR⟩;simp only[eb,ak];rw[iB,v7 b2 gV cc _ _ iI (aD.length _ _ _ gO)];rfl
      .cases he
     .cases he
    .cases he
  .cases he
 .rename_i x _ _;split at he
  .rename_i y q hl;split at he
   .rename_i d ak;split at he
    .rename_i i_;simp only[some.injEq]at he;obtain⟨q1,df,b,o,rfl,l3⟩:=IQ h aE hl ak;have bz:=h.ev y;rw[aU.c_ (iX ak (.inr q1))]at bz;obtain⟨gW,dd,fe,gq,k0,b3,cv,fz,ez,fR⟩:=ctx q (s y) (cP (aJ y)) (S y) none _ bz.2 ak;rw[k0]at l3;simp only[some.injEq,Prod.mk.injEq,true_and]at l3;obtain⟨rfl,rfl⟩:=l3;have k5:iV w b o gW:=by
      rcases fR with⟨l,r,aW,a8,_⟩|⟨gJ,cur,e,fr,l,r,aW,a8,aY,bT,cF,_⟩
      .simp at a8
      .simp only[some.injEq,Prod.mk.injEq]at aW;obtain⟨rfl,rfl⟩:=aW;intro j c bP;have e2:j<gW.length:=(List.getElem?_eq_some_iff.1 bP).1;have:cur.toList[l.length+j]? =some c:=by
        rw[cF,getElem?_append_right (by omega),getElem?_append_left (by omega),<-bP];congr 1;omega
       simp[World.cell?,aY];simpa using this
     obtain⟨gd,a4,ax,kR⟩:=Es bB k5 ez i_;have ft:(Instr.loadAt T (.pointer (some ⟨b,o,none⟩))).run C.P w= .ok gd w:=by simp[Instr.loadAt,Instr.sureAddr,a4]
     refine⟨gd,w,F,S,ft,h,?_⟩;split at he
     .rename_i aw;subst he;by_cases bc:d.tree=true
      .exact .inl ⟨aw,(aU.c_ bc).2 ⟨kR,by rw[ax];exact aD.plain _ _ _ _ aw ez⟩⟩
      .cases d<;>first|exact(bc rfl).elim|(rw[aD]at ez;exact ez.elim)|exact .inl ⟨rfl,by rw[aU];trivial⟩|(have bI:=aD.plain _ _ _ (λ_=>False) aw ez;rw[<-ax]at bI;rw[hX (by exact kR)]at bI;exact .inl ⟨rfl,aU.sg _ _ rfl bI⟩)
     .subst he;refine .inl ⟨rfl,?_⟩;rw[aU];intro d2 i9 _;rw[ak]at i9;simp only[some.injEq]at i9;subst i9;exact⟨_,_,k0,ax,kR⟩
    .cases he
   .cases he
  .cases he
mutual
theorem aD.wh {F:Nat->Prop}:∀(d:J) (cs:arK) (S:Nat->Prop),aD w F d cs S->∀c∈cs,Value.hp c=true
 | .hole,cs,S,h=>by rw[aD]at h;obtain⟨v,h,rfl⟩:=h;simpa using h
 | .bool _,cs,S,h=>by rw[aD]at h;subst h;simp[Value.hp]
 | .fW,cs,S,h=>by rw[aD]at h;obtain⟨b,rfl⟩:=h;simp[Value.hp]
 | .int _ _,cs,S,h=>by rw[aD]at h;subst h;simp[Value.hp]
 | .str _,cs,S,h=>by rw[aD]at h;subst h;simp[Value.hp]
 | .eh,cs,S,h=>by rw[aD]at h;subst h;simp[Value.hp]
 | .au,cs,S,h=>by rw[aD]at h;subst h;simp[Value.hp]
 | .slice xs,cs,S,h=>by
   rw[aD]at h;rcases h with⟨_,a,c,rfl,_⟩|⟨b,o,cap,fm,sz,rfl,_⟩<;>simp[Value.hp]
 | .af sz xs,cs,S,h=>by
   rw[aD]at h;rcases h with⟨_,_,rfl⟩|⟨b,cap,cur,e,fr,a0,rfl,_⟩<;>simp[Value.hp]
 | .ref d,cs,S,h=>by rw[aD]at h;obtain⟨b,o,fm,rfl,_⟩:=h;simp[Value.hp]
 | .aG d,cs,S,h=>by rw[aD]at h;obtain⟨b,o,fm,_,_,rfl,_⟩:=h;simp[Value.hp]
 | .agg aH,cs,S,h=>by rw[aD]at h;exact bm.wh aH _ _ h
 | .tuple aH,cs,S,h=>by rw[aD]at h;exact bm.wh aH _ _ h
 | .fn _ _,cs,S,h=>by rw[aD]at h;obtain⟨arr,rfl,_⟩:=h;simp[Value.hp]
 | .h _ _,cs,S,h=>by rw[aD]at h;exact h.elim
 | .aw _ _,cs,S,h=>by rw[aD]at h;exact h.elim
 | .ab _ _,cs,S,h=>by rw[aD]at h;exact h.elim
 | .eM _,cs,S,h=>by rw[aD]at h;obtain⟨v,jy,rfl⟩:=ni.one h;simpa using jy
theorem bm.wh {F:Nat->Prop}:∀(ds:arM) (cs:arK) (S:Nat->Prop),bm w F ds cs S->∀c∈cs,Value.hp c=true
 |[],cs,S,h=>by rw[bm]at h;subst h;simp
 |d::ds,cs,S,h=>by
  rw[bm]at h;obtain⟨b2,cc,cA,eo,rfl,ag,aK,_⟩:=h;intro c ax;rcases mem_append.1 ax with ax|ax
  .exact aD.wh d _ _ ag c ax
  .exact bm.wh ds _ _ aK c ax
end
theorem Et {P:Program} {b o:Nat} {e:TypeId} {fr:Nat×Nat}:∀(vs:arK) (i:Nat) (cur:Array Value) (w:World) (l m r:arK),w.heap[b]? =some (.cells cur e fr)->oy fr cur.size->
  cur.toList=l++(m++r)->l.length=o+i->m.length=vs.length->(∀v∈vs,Value.hp v=true)->
  ∃aQ,(storeCells ⟨b,o,none⟩ vs i).run P w= .ok () aQ/\aQ.heap[b]? =some (.cells (l++(vs++r)).toArray e fr)/\(∀c,c≠b->aQ.heap[c]? =w.heap[c]?)/\aQ.heap.size=w.heap.size/\aQ.os=w.os/\aQ.tape=w.tape/\Out aQ w
 |[],i,cur,w,l,m,r,ab,bo,ax,hl,hm,_=>by
  refine⟨w,rfl,?_,λ_ _=>rfl,rfl,rfl,rfl,Out.refl _⟩;have:m=[]:=by simpa using hm
  subst this;rw[ab];have:cur=(l++([]++r)).toArray:=by rw[<-ax]
  rw[<-this]
 |v::vs,i,cur,w,l,m,r,ab,bo,ax,hl,hm,Eu=>by
  obtain⟨x,m,rfl⟩:∃x ja,m=x::ja:=by cases m with
   |nil=>simp at hm
   |cons x m=>exact⟨x,m,rfl⟩
  have hlen:cur.size=(l++(x::m++r)).length:=by rw[<-ax];simp
  have e2:o+i<cur.size:=by rw[hlen];simp;omega
  have Ev:w.cell? ⟨b,o+i,none⟩=some cur[o+i]:=by simp[World.cell?,ab,e2]
  have Xe:w.frozen? ⟨b,o+i,none⟩=false:=by
   have:=bo (o+i) e2;simp only[World.frozen?,ab];simp only[Bool.and_eq_false_iff,decide_eq_false_iff_not];by_cases ae:fr.1<=o+i
   .right;exact λag=>this ⟨ae,ag⟩
   .left;exact ae
  have uK:(w.setCell ⟨b,o+i,none⟩ v).heap[b]? =some (.cells ((l++[v])++(m++r)).toArray e fr):=by
   simp only[World.setCell,Array.getElem?_modify,if_true,ab,map_some,isSome_none,Bool.false_eq_true,if_false];congr 2;apply Array.ext';rw[Array.toList_setIfInBounds,ax,<-hl,set_append_right _ _ (Nat.le_refl _)];simp
  have wi:(store ((⟨b,o,none⟩:Addr).add i) v).run P w= .ok () (w.setCell ⟨b,o+i,none⟩ v):=by
   have ae:=Eu v (by simp);rw[Addr.add_lit];cases v<;>first|(simp[Value.hp]at ae;done)|simp[Go.store,Sem.run,Ev,Xe]
  obtain⟨aQ,a2,bq,ck,eE,fP,g0,j1⟩:=Et (P:=P) (b:=b) (o:=o) vs (i+1) _ (w.setCell ⟨b,o+i,none⟩ v) (l++[v]) m r uK (by
   have:(l++[v]++(m++r)).toArray.size=cur.size:=by rw[hlen];simp
   rw[this];exact bo) (by simp) (by simp;omega) (by simpa using hm) (λu hu=>Eu u (by simp[hu]))
  refine⟨aQ,?_,by simpa using bq,λc ax=>?_,?_,fP,g0,j1⟩
  .simp only[storeCells,Sem.run_bind,wi,Result.andThen];exact a2
  .rw[ck c ax];simp only[World.setCell,Array.getElem?_modify];rw[if_neg (λe=>ax e.symm)]
  .rw[eE];simp[World.setCell]
theorem AR {d:J} {v:Value} (h:eO d v) (ak:∀aH,d≠.tuple aH):v.cells=(cP v).toArray:=by
 cases d with
 |tuple aH=>exact(ak _ rfl).elim
 |agg aH=>obtain⟨arr,rfl⟩:=h;simp[Value.cells,cP,jn]
 |_=>
  have ae:Value.hp v=true:=h;rw[hX ae];cases v<;>first|rfl|(simp[Value.hp]at ae)
def j2 (C:ch) (s:az) (T:TypeId) (x y:J):Option az:=
 match dq s y,loc s x with
 |some (d,s1),some (z,q)=>match d with
  | .tuple _=>none
  |d=>match J.sub q (s z)with
   |some d0=>if d.wd=d0.wd/\d.wd=(C.T T).sz/\(C.T T).ok=true/\y.owner≠some z then some (dY (hq z s1) z (J.put q d (s z)))else none
   |none=>none
 |_,_=>none
theorem Xf {s s1:az} {y d:J} {z:Nat} (h:dq s y=some (d,s1)) (ca:(s z).tree=true) (bz:y.owner≠some z):s1 z=s z:=by
 cases y with
 |h x q=>
  simp only[dq]at h;split at h
  .split at h
   .cases h
   .simp only[some.injEq,Prod.mk.injEq]at h;obtain⟨_,rfl⟩:=h;rw[ki _ _ (λe=>bz (by rw[J.owner,e]))];exact IG ca
  .cases h
 |aw x q=>simp[dq]at h
 |ab x q=>simp[dq]at h
 |fn f c=>simp[dq]at h
 |hole=>simp[dq]at h
 |_=>simp only[dq,some.injEq,Prod.mk.injEq]at h;rw[h.2]
theorem Xg (bB:C.fI) (h:b4 w0 F0 X F S s aJ w) {T:TypeId} {x y:J} {iY jN:Value} (IY:aU w F s aJ x iY (λ_=>False)) (bz:y.plain=true) (Xh:aU w F s aJ y jN (λ_=>False))
  {s2:az} (he:j2 C s T x y=some s2):
  ∃aQ a0,(Instr.storeAt T iY jN).run C.P w= .ok () aQ/\b4 w0 F0 X F a0 s2 aJ aQ:=by
 unfold j2 at he;split at he
 .rename_i d s1 z q bc hl;have key:∀d:J,(∀aH,d≠.tuple aH)->dq s y=some (d,s1)->(match J.sub q (s z)with
   |some d0=>if d.wd=d0.wd/\d.wd=(C.T T).sz/\(C.T T).ok=true/\y.owner≠some z then some (dY (hq z s1) z (J.put q d (s z)))else none
   |none=>none)=some s2->∃aQ a0,(Instr.storeAt T iY jN).run C.P w= .ok () aQ/\b4 w0 F0 X F a0 s2 aJ aQ:=by
   intro d tn bc he;split at he
   .rename_i d0 mr;split at he
    .rename_i wj;obtain⟨ae,ag,aK,a3⟩:=wj;simp only[some.injEq]at he;subst he;obtain⟨q1,df,b,o,rfl,l3⟩:=IQ h IY hl mr;obtain⟨cA,fM,a2,bq,Sn,ck,eE,fP,g0,j1,nq⟩:=qY h bz Xh bc;have e4:s1 z=s z:=Xf bc (iX mr (.inr q1)) a3;rw[<-e4]at mr q1 l3⊢;obtain⟨gW,gJ,l,r,cur,e,fr,k0,b3,cv,fz,ez⟩:=fM.store mr q1 ck ae eE fP g0 j1;rw[l3]at k0;simp only[some.injEq,Prod.mk.injEq,true_and]at k0;obtain⟨rfl,rfl,rfl⟩:=k0;obtain⟨i,d,tm,aW,a8,aY,bT,cF,cj,b0⟩:=bB.info aK;have hlen:=aD.length _ _ _ ck;have hm:df.length=(cP jN).length:=by
      have PW:=fM.ev z;rw[aU.c_ (iX mr (.inr q1))]at PW;obtain⟨_,_,_,_,pc,_,_,_,j3,_⟩:=ctx q (s1 z) (cP (aJ z)) (cA z) none _ PW.2 mr;rw[l3]at pc;simp only[some.injEq,Prod.mk.injEq,true_and]at pc;rw[pc.1,aD.length _ _ _ j3,hlen,ae]
     obtain⟨aQ,gk,ht,iJ,kS,nr,q2,q3⟩:=Et (P:=C.P) (b:=b) (o:=l.length) (e:=e) (fr:=fr) (cP jN) 0 cur w l df r b3 fz cv rfl hm (aD.wh _ _ _ ck);obtain⟨a0,fR⟩:=ez aQ ht iJ kS nr q2 q3;refine⟨aQ,a0,?_,fR⟩;have q4:=AR bq tn;simp[Instr.storeAt,Instr.sureAddr,storeVar,k7 aW,a8,q4,hlen,ag,gk]
    .cases he
   .cases he
  split at he
  .cases he
  .rename_i tn;exact key _ (λaH e=>tn aH e) bc he
 .cases he
theorem b4.alloc (h:b4 w0 F0 X F S s aJ w) {d:J} {cs:arK} {Sn:Nat->Prop} (e:TypeId) (aE:aD w F d cs Sn)
  (e2:∀b,Sn b->b<w.heap.size) (bt:∀b,Sn b->¬F b) (cf:∀u b,Sn b->¬S u b) (a5:∀b,Sn b->X b\/w0.heap.size<=b):
  b4 w0 F0 X F S s aJ (w.alloc (.cells cs.toArray e))/\
   mU w0 X F S s aJ (w.alloc (.cells cs.toArray e)) (.aG d) (.pointer (some ⟨w.heap.size,0,none⟩)):=by
 have hold:∀b,b<w.heap.size->(w.alloc (.cells cs.toArray e)).heap[b]? =w.heap[b]? :=by
  intro b ab;show(w.heap.push _)[b]? =_;rw[Array.getElem?_push,if_neg (by omega)]
 refine⟨h.grow hold (by simp) rfl rfl ⟨rfl,λ_=>Nat.le_refl _⟩,.inr ⟨rfl,rfl,λb=>b=w.heap.size\/Sn b,?_,?_,?_,?_,?_⟩⟩
 .rw[aD];refine⟨w.heap.size,cs.toArray,e,(0,0),Sn,rfl,.inl rfl,?_,?_,?_,λc ax=>.inr ax,λax=>Nat.lt_irrefl _ (e2 _ ax)⟩
  .show(w.heap.push _)[_]? =_;simp
  .intro o _ ⟨_,ag⟩;exact absurd ag (not_lt_zero _)
  .exact aD.frame (λb ab=>hold b (h.gE b ab)) _ _ _ (λb ab=>hold b (e2 b ab)) aE
 .rintro b (rfl|ab)
  .simp
  .have:=e2 b ab;simp;omega
 .rintro b (rfl|ab) tp
  .exact Nat.lt_irrefl _ (h.gE _ tp)
  .exact bt b ab tp
 .rintro u b (rfl|ab) hu
  .exact Nat.lt_irrefl _ (h.fH _ _ hu)
  .exact cf u b ab hu
 .rintro b (rfl|ab)
  .exact .inr h.size
  .exact a5 b ab
def lz (C:ch) (T:TypeId):Option J:=if(C.T T).ok=true then(match(C.T T).k,(C.T T).zero with
    | .ey e,.agg [.eh,.au]=>some (.eM (.i6 T e []))
    | .ey _,_=>none
    |_,z=>(match flat z with|some _=>some (.aG z)|none=>none))else none
theorem Xi (bB:C.fI) (h:b4 w0 F0 X F S s aJ w) {T:TypeId} (he:lz C T=some av):Good C w0 F0 X aJ w (Instr.alloc T true (.tuple #[])) av s:=by
 unfold lz at he;split at he
 .rename_i ao;split at he
  .rename_i ape apf Xj;simp only[some.injEq]at he;subst he;obtain⟨i,d,z,aW,a8,aY,bT,cF,cj,b0⟩:=bB.info ao;have ca:=cF [.pointer none,.slice none 0 0] (by rw[Xj];rfl);have hold:∀b,b<w.heap.size->(w.alloc (.cells #[.pointer none,.slice none 0 0] T)).heap[b]? =w.heap[b]? :=by
    intro b ab;show(w.heap.push _)[b]? =_;rw[Array.getElem?_push,if_neg (by omega)]
   refine⟨.pointer (some ⟨w.heap.size,0,none⟩),w.alloc (.cells #[.pointer none,.slice none 0 0] T),F,S,?_,h.grow hold (by simp) rfl rfl ⟨rfl,λ_=>Nat.le_refl _⟩,.inr ⟨rfl,rfl,λb=>b=w.heap.size,?_,?_,?_,?_,?_⟩⟩
   .simp[Instr.alloc,uJ aW bT,newVar,newRow,newObj,Sem.run,ca]
   .rw[aD];refine⟨w.heap.size,.pointer none,.slice none 0 0,rfl,rfl,?_,.inl rfl,.inl ⟨rfl,rfl⟩⟩;show(w.heap.push _)[_]? =_;simp
   .rintro b rfl;simp
   .rintro b rfl tp;exact Nat.lt_irrefl _ (h.gE _ tp)
   .rintro u b rfl hu;exact Nat.lt_irrefl _ (h.fH _ _ hu)
   .rintro b rfl;exact .inr h.size
  .cases he
  split at he
  .rename_i cs iB;simp only[some.injEq]at he;subst he;obtain⟨i,d,z,aW,a8,aY,bT,cF,cj,b0⟩:=bB.info ao;have ca:=cF cs iB;obtain⟨dT,bb⟩:=h.alloc (d:=(C.T T).zero) T ((aD.flat _).1 _ cs (λ_=>False) (Nat.le_refl _) iB) (λ_ h=>h.elim) (λ_ h=>h.elim) (λ_ _ h=>h.elim) (λ_ h=>h.elim);refine⟨_,_,F,S,?_,dT,bb⟩;simp[Instr.alloc,uJ aW bT,newVar,newRow,newObj,Sem.run,ca]
  .cases he
 .cases he
def ic (s:az) (x:J):Option (J×az):=match dq s x with
 |some (.tuple _,_)=>none
 |some (d,s1)=>some (.aG d,s1)
 |none=>none
def kA (s:az) (x:J):Option (J×az):=match x with
 | .h y q=>match q,s y with
   |[],.agg ds=>if J.eu ds then none else some (.ab y 0,s)
   |_,_=>none
 | .fn f caps=>if caps.all (λd=>d.single&&(d.tree&&d.plain))=true then some (.ref (.fn f caps),s)else none
 |_=>none
theorem bm.PX {w:World} {F b9:Nat->Prop} {s:az} {aJ:Nat->Value} (bt:∀b,F b->b9 b):∀(ds:arM) (vs:arK),(∀d∈ds,d.single=true/\d.tree=true/\d.plain=true)->e3 w F s aJ ds vs->bm w b9 ds vs (λ_=>False)
 |[],vs,_,h=>by rw[e3]at h;rw[bm];exact h
 |d::ds,vs,ad,h=>by
  rw[e3]at h;obtain⟨v,kP,rfl,ae,ag⟩:=h;obtain⟨d1,d2,d3⟩:=ad d (by simp);have aK:=(aU.c_ d2).1 ae;have b_:Value.hp v=true:=by
   have:=aK.1;cases d<;>first|exact this|cases d1
  have a3:=aK.2;rw[hX b_]at a3;rw[bm];exact⟨[v],kP,λ_=>False,λ_=>False,rfl,aD.mono bt _ _ _ _ (λ_ h=>h) a3,bm.PX bt ds kP (λx ay=>ad x (by simp[ay])) ag,λ_ h=>h,λ_ h=>h,λ_ h=>h.elim⟩
theorem Xk {T:TypeId} {v:Value} (h:b4 w0 F0 X F S s aJ w):b4 w0 F0 X (λb=>F b\/b=w.heap.size) S s aJ (w.alloc (.cells (cP v).toArray T)):=by
 have hold:∀b,b<w.heap.size->(w.alloc (.cells (cP v).toArray T)).heap[b]? =w.heap[b]? :=by
  intro b ab;show(w.heap.push _)[b]? =_;rw[Array.getElem?_push,if_neg (by omega)]
 have ae:=h.grow hold (by simp) rfl rfl ⟨rfl,λ_=>Nat.le_refl _⟩;exact {
  ib:=λb ab=>.inl (ae.ib b ab)
  iz:=λb ab=>by
   rcases ab with ab|rfl
   .exact ae.iz b ab
   .exact .inr (.inr h.size)
  gE:=λb ab=>by
   rcases ab with ab|rfl
   .exact ae.gE b ab
   .simp
  fH:=ae.fH
  gP:=λt b ab bo=>by
   rcases bo with bo|rfl
   .exact ae.gP t b ab bo
   .exact absurd (h.fH t _ ab) (Nat.lt_irrefl _)
  gu:=ae.gu
  eN:=ae.eN
  ev:=λt=>aU.frame (λ_ _=>rfl) (λb ab=>.inl ab) (λ_ _ _=>rfl) ae.ev _ _ _ (λ_ _=>rfl) (ae.ev t)
  old:=ae.old
  size:=ae.size
  os:=ae.os
  tape:=ae.tape
  output:=ae.output
  iA:=h.iA}
theorem Xl (h:b4 w0 F0 X F S s aJ w) {T:TypeId} {x:J} {v:Value} (aE:aU w F s aJ x v (λ_=>False)) (he:kA s x=some (av,s1)):
  Good C w0 F0 X aJ w (Instr.box T v) av s1:=by
 unfold kA at he;split at he
 .rename_i y q;split at he
  .rename_i ds pf;split at he
   .cases he
   .rename_i AQ;simp only[some.injEq,Prod.mk.injEq]at he;obtain⟨rfl,rfl⟩:=he;rw[aU]at aE;obtain⟨df,a,a2,bq,ck⟩:=aE (s y) (by simp only[J.sub]) (by rw[pf];simp only[J.plain];simpa using AQ);simp only[eb,some.injEq,Prod.mk.injEq,true_and]at a2;rw[pf]at ck;have q4:=AR ck (λaH e=>by cases e);have hold:∀b,b<w.heap.size->(w.alloc (.cells (cP v).toArray T)).heap[b]? =w.heap[b]? :=by
     intro b ab;show(w.heap.push _)[b]? =_;rw[Array.getElem?_push,if_neg (by omega)]
    refine⟨.pointer (some ⟨w.heap.size,0,none⟩),w.alloc (.cells (cP v).toArray T),λb=>F b\/b=w.heap.size,S,by simp[Instr.box,newVar,newRow,newObj,Sem.run,q4],?_,.inl ⟨rfl,?_⟩⟩
    .have ae:=h.grow hold (by simp) rfl rfl ⟨rfl,λ_=>Nat.le_refl _⟩;exact {
      ib:=λb ab=>.inl (ae.ib b ab)
      iz:=λb ab=>by
       rcases ab with ab|rfl
       .exact ae.iz b ab
       .exact .inr (.inr h.size)
      gE:=λb ab=>by
       rcases ab with ab|rfl
       .exact ae.gE b ab
       .simp
      fH:=ae.fH
      gP:=λt b ab bo=>by
       rcases bo with bo|rfl
       .exact ae.gP t b ab bo
       .exact absurd (h.fH t _ ab) (Nat.lt_irrefl _)
      gu:=ae.gu
      eN:=ae.eN
      ev:=λt=>aU.frame (λ_ _=>rfl) (λb ab=>.inl ab) (λ_ _ _=>rfl) ae.ev _ _ _ (λ_ _=>rfl) (ae.ev t)
      old:=ae.old
      size:=ae.size
      os:=ae.os
      tape:=ae.tape
      output:=ae.output
      iA:=h.iA}
    .rw[aU];intro _;refine⟨w.heap.size,(cP v).toArray,T,(0,0),rfl,.inr rfl,?_,?_⟩
     .show(w.heap.push _)[_]? =_;simp
     .rw[a2.1,<-bq]
  .cases he
 .rename_i f caps;split at he
  .rename_i ax;simp only[some.injEq,Prod.mk.injEq]at he;obtain⟨rfl,rfl⟩:=he;have iB:∀d∈caps,d.single=true/\d.tree=true/\d.plain=true:=λd ak=>by
    have:=List.all_eq_true.1 ax d ak;simpa only[Bool.and_eq_true]using this
   rw[aU]at aE;obtain⟨arr,rfl,aE⟩:=aE;have q4:=AR (d:=.fn f caps) (v:=.func (.func f) #[] arr) rfl (λaH e=>by cases e);have bC:=Xk (T:=T) (v:=.func (.func f) #[] arr) h;refine⟨.pointer (some ⟨w.heap.size,0,none⟩),w.alloc (.cells (cP (.func (.func f) #[] arr)).toArray T),λb=>F b\/b=w.heap.size,S,by simp[Instr.box,newVar,newRow,newObj,Sem.run,q4],bC,.inl ⟨rfl,?_⟩⟩;refine(aU.c_ rfl).2 ⟨rfl,?_⟩;rw[aD];refine⟨w.heap.size,0,[.func (.func f) #[] arr],rfl,.inr rfl,?_,?_⟩
   .have k6:(w.alloc (.cells (cP (.func (.func f) #[] arr)).toArray T)).heap[w.heap.size]? =some (.cells (cP (.func (.func f) #[] arr)).toArray T (0,0)):=by
     show(w.heap.push _)[_]? =_;simp
    intro j c bP;cases j with
    |zero=>
     simp only[getElem?_cons_zero,some.injEq]at bP;subst bP;have e:cP (.func (.func f) #[] arr)=[.func (.func f) #[] arr]:=hX rfl;unfold World.cell?;show(match(w.alloc (.cells (cP (.func (.func f) #[] arr)).toArray T)).heap[w.heap.size]? with
      |some (.cells c _ _)=>c[0+0]?
      |_=>none)=_
     rw[k6,e];rfl
    |succ j=>simp at bP
   .rw[aD];refine⟨arr,rfl,λd ak=>(iB d ak).1,?_⟩;have bI:=bm.PX (b9:=F) (λb ab=>ab) caps arr.toList iB aE;refine bm.mono (F:=F) (λb ab=>.inl ab) caps _ _ _ (λ_ h=>h) (bm.frame (λb ab=>?_) caps _ _ (λ_ h=>h.elim) bI);have e2:=h.gE b ab;show(w.heap.push _)[b]? =_;rw[Array.getElem?_push,if_neg (by omega)]
  .cases he
 .cases he
theorem Xm (h:b4 w0 F0 X F S s aJ w) {T:TypeId} {x:J} {v:Value} (ay:x.plain=true) (aE:aU w F s aJ x v (λ_=>False)) (he:ic s x=some (av,s1)):
  Good C w0 F0 X aJ w (Instr.box T v) av s1:=by
 unfold ic at he;split at he
 .cases he
 .rename_i d s2 tn bc;simp only[some.injEq,Prod.mk.injEq]at he;obtain⟨rfl,rfl⟩:=he;obtain⟨cA,fM,a2,bq,Sn,ck,eE,fP,g0,j1,nq⟩:=qY h ay aE bc;obtain⟨dT,bb⟩:=fM.alloc T ck eE fP g0 j1;refine⟨_,_,F,cA,?_,dT,bb⟩;have q4:=AR bq (λaH e=>tn aH e);simp[Instr.box,newVar,newRow,newObj,Sem.run,q4]
 .cases he
end
end Go.ek
