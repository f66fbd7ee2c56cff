/- Part of a proof that a law returns true for every input. No condition. -/
import Derived.Test.YtpdplcdnpaoceaaFwB
import Derived.Laws.Entries
namespace Go.cM
open List Option Go.IntKind Nat Or
inductive kI where
 |int (k:IntKind)
 |bool
 |str
 |ptr (e:TypeId)
 |slice (e:TypeId)
 |struct (ar:List (TypeId×Nat))
 |fn
 |fw (e:TypeId)
 |map (k e:TypeId)
 |other
structure eU where
 k:kI
 sz:Nat
 bytes:Nat
 zero:I
mutual
def flat:I->Option Xw
 | .bool b=>some [.bool b]
 | .int k n=>some [.int k n]
 | .str s=>some [.string ⟨⟨s⟩⟩]
 | .cJ=>some [.pointer none]
 | .a5=>some [.slice none 0 0]
 | .agg ar=>n6 ar
 | .cS .tc=>some [.map none]
 |_=>none
def n6:Xy->Option Xw
 |[]=>some []
 |d::ds=>match flat d,n6 ds with
  |some a,some b=>some (a++b)
  |_,_=>none
end
theorem al.flat {w:World} {F:Nat->Prop}:∀n,(∀(d:I) (cs:Xw) (S:Nat->Prop),SizeOf.sizeOf d<=n->flat d=some cs->al w F d cs S)/\
  (∀(ds:Xy) (cs:Xw) (S:Nat->Prop),SizeOf.sizeOf ds<=n->n6 ds=some cs->aQ w F ds cs S):=by
 intro n;induction n with
 |zero=>exact⟨λd _ _ bz=>by cases d<;>simp at bz<;>omega,λds _ _ bz=>by cases ds<;>simp at bz<;>omega⟩
 |succ n ih=>
  refine⟨λd cs S bz h=>?_,λds cs S bz h=>?_⟩
  .cases d with
   |agg ar=>rw[al];exact ih.2 ar cs S (by simp at bz;omega) (by simpa [cM.flat]using h)
   |bool b=>simp[cM.flat]at h;subst h;rw[al]
   |int k n=>simp[cM.flat]at h;subst h;rw[al]
   |str s=>simp[cM.flat]at h;subst h;rw[al]
   |cJ=>simp[cM.flat]at h;subst h;rw[al]
   |a5=>simp[cM.flat]at h;subst h;rw[al]
   |cS o=>cases o<;>simp[cM.flat]at h;subst h;rw[al];rfl
   |_=>simp[cM.flat]at h
  .cases ds with
   |nil=>simp[n6]at h;subst h;rw[aQ]
   |cons d ds=>
    simp only[n6]at h;split at h
    .rename_i a b bQ U;simp at h;subst h;simp at bz;rw[aQ];exact⟨a,b,λ_=>False,λ_=>False,rfl,ih.1 d a _ (by omega) bQ,ih.2 ds b _ (by omega) U,λ_ h=>h.elim,λ_ h=>h.elim,λ_ h=>h.elim⟩
    .cases h
def ju:kI->TypeDesc->Prop
 | .int k,.int cH=>k=cH
 | .bool,.bool=>True
 | .str,.string=>True
 | .ptr e,.pointer e_=>e=e_
 | .slice e,.slice e_=>e=e_
 | .struct ar,.struct gs=>gs.toList.map (λg=>(g.type,g.offset))=ar
 | .fn,.func _ _ _=>True
 | .fw _,.struct _=>True
 | .map k e,.map cH e_=>k=cH/\e=e_
 |_,_=>False
def Dw (P:Program) (t:TypeId) (x:eU):Prop:=
 (∃e n b z,x=⟨.other,e,n,b⟩/\z=0)\/
 ∃i d z,P.info? t=some i/\i.size=x.sz/\i.bytes=x.bytes/\i.zero=some z/\(∀cs,flat x.zero=some cs->z.cells=cs.toArray)/\P.underlying t=some d/\ju x.k d
structure bA where
 P:Program
 T:TypeId->eU
 M:FuncId->List Bool
structure bA.dm (C:bA):Prop where
 ty:∀t,Dw C.P t (C.T t)
 mixed:C.P.follows .mixedOrders=true
inductive aX where
 |t (n:Nat)
 |c (av:I)
 |f (g:FuncId)
def vI:Value->Option I
 | .bool b=>some (.bool b)
 | .int k n=>some (.int k n)
 | .string s=>some (.str s.data.toList)
 | .pointer none=>some .cJ
 | .slice none 0 0=>some .a5
 |_=>none
def cD:Operand->Option aX
 | .tmp n=>some (.t n)
 | .const v=>(vI v).map .c
 | .func g=>some (.f g)
 | .global _=>none
def nb (x:Nat) (d:I):I:=if d.plain then d else .h x []
def a6 (s:ah):aX->I
 | .t n=>nb n (s n)
 | .c av=>av
 | .f g=>.fn g []
theorem aA.nothing {w:World} {F:Nat->Prop} {s:ah} {aq:Nat->Value} {d:I} {v:Value} {S aF:Nat->Prop} (ao:d.plain=true) (h:aA w F s aq d v S):aA w F s aq d v aF:=by
 cases d<;>first
  |(rw[aA];trivial)
  |(rw[aA]at h⊢;exact h)
  |(have bj:=(aA.bY rfl).1 h;exact(aA.bY rfl).2 ⟨bj.1,al.plain _ _ _ _ ao bj.2⟩)
section
variable {w0 w:World} {F0 X F:Nat->Prop} {S:Nat->Nat->Prop} {s:ah} {aq:Nat->Value} {a:Act}
theorem Dx (s:ah) (x:aX) (aj:∀av,x= .c av->av.plain=true):(a6 s x).plain=true:=by
 cases x with
 |t n=>simp only[a6,nb];split<;>first|assumption|rfl
 |c av=>exact aj _ rfl
 |f g=>rfl
theorem y3 {v:Value} {av:I} (h:vI v=some av):av.plain=true:=by
 unfold vI at h;split at h<;>simp at h<;>subst h<;>rfl
theorem dU (h:bg w0 F0 X F S s aq w) (cX:∀t,aq t=a.tmps.getD t undef) {o:Operand} {x:aX} (bG:cD o=some x):
  (a6 s x).plain=true/\aA w F s aq (a6 s x) (a.eval o) (λ_=>False):=by
 cases o with
 |tmp n=>
  simp[cD]at bG;subst bG;simp only[a6,nb,Act.eval,<-cX];split
  .rename_i ao;exact⟨ao,aA.nothing ao (h.cE n)⟩
  .rename_i ao;refine⟨rfl,?_⟩;rw[aA];intro d af JJ;simp only[I.sub,some.injEq]at af;subst af;have aN:=gl (q:=[]) rfl (.inl JJ);exact⟨_,none,rfl,rfl,((aA.bY aN).1 (h.cE n)).1⟩
 |const v=>
  simp only[cD,map_eq_some_iff]at bG;obtain⟨av,mv,rfl⟩:=bG;refine⟨y3 mv,?_⟩;simp only[a6,Act.eval];unfold vI at mv;split at mv<;>simp at mv<;>subst mv<;>rw[aA,al]<;>exact⟨rfl,rfl⟩
 |func g=>
  simp[cD]at bG;subst bG;refine⟨rfl,?_⟩;simp only[a6,Act.eval];rw[aA];exact⟨#[],rfl,by rw[c5]⟩
 |global g=>simp[cD]at bG
def jc (w0:World) (X F:Nat->Prop) (S:Nat->Nat->Prop) (s:ah) (aq:Nat->Value) (w:World) (av:I) (v:Value):Prop:=
 (av.plain=true/\aA w F s aq av v (λ_=>False))\/
 (av.tree=true/\cO av v/\∃Sn,al w F av (bL v) Sn/\(∀b,Sn b->b<w.heap.size)/\(∀b,Sn b->¬F b)/\(∀u b,Sn b->¬S u b)/\(∀b,Sn b->X b\/w0.heap.size<=b))
def fin (s:ah) (dst:Option Nat) (av:I):ah:=match dst with
 |none=>s
 |some t=>if av.plain then cl s t av else cl (jR t s) t av
def jd (aq:Nat->Value) (dst:Option Nat) (v:Value):Nat->Value:=match dst with
 |none=>aq
 |some t=>cl aq t v
theorem bg.fin (h:bg w0 F0 X F S s aq w) {av:I} {v:Value} (aD:jc w0 X F S s aq w av v) (dst:Option Nat):
  ∃aF,bg w0 F0 X F aF (cM.fin s dst av) (jd aq dst v) w:=by
 cases dst with
 |none=>exact⟨S,h⟩
 |some t=>
  simp only[cM.fin,jd];rcases aD with⟨ao,af⟩|⟨aN,aa,Sn,ab,ad,aB,aY,bn⟩
  .rw[if_pos ao];exact⟨_,h.tj ao af⟩
  .split
   .rename_i ao;exact⟨_,h.tj ao ((aA.bY aN).2 ⟨aa,al.plain _ _ _ _ ao ab⟩)⟩
   .exact⟨_,h.Dr aN aa ab ad aB (λu b _ U=>aY u b U) bn⟩
def b9 (s:ah):I->Option (I×ah)
 | .h x q=>match I.sub q (s x)with
   |some d=>if d.plain then none else some (d,cl (ft x s) x (I.put q d.cj (s x)))
   |none=>none
 | .ao _ _=>none
 | .U _ _=>none
 | .fn _ _=>none
 | .hole=>none
 |d=>some (d,s)
def I.owner:I->Option Nat
 | .h x _=>some x
 |_=>none
def iP:Option Nat->I->I
 |some x,d=>bH x d
 |none,d=>d
theorem mw (h:bg w0 F0 X F S s aq w) {av d:I} {s1:ah} {v:Value} (mv:av.plain=true) (aD:aA w F s aq av v (λ_=>False)) (aN:b9 s av=some (d,s1)):
  ∃S1,bg w0 F0 X F S1 s1 aq w/\d.tree=true/\cO d v/\∃Sn,al w F d (bL v) Sn/\(∀b,Sn b->b<w.heap.size)/\(∀b,Sn b->¬F b)/\(∀u b,Sn b->¬S1 u b)/\(∀b,Sn b->X b\/w0.heap.size<=b)/\
   (∀u b,S1 u b->S u b)/\(∀b,Sn b->∃u,S u b)/\(∀(a7:I) (eI:Value) (aF:Nat->Prop),aA w F s aq a7 eI aF->aA w F s1 aq (iP av.owner a7) eI aF):=by
 have tree:∀d:I,d.tree=true->d.plain=true->aA w F s aq d v (λ_=>False)->
   ∃S1,bg w0 F0 X F S1 s aq w/\d.tree=true/\cO d v/\∃Sn,al w F d (bL v) Sn/\(∀b,Sn b->b<w.heap.size)/\(∀b,Sn b->¬F b)/\(∀u b,Sn b->¬S1 u b)/\(∀b,Sn b->X b\/w0.heap.size<=b)/\
    (∀u b,S1 u b->S u b)/\(∀b,Sn b->∃u,S u b):=by
  intro d af _ bj;have bj:=(aA.bY af).1 bj;exact⟨S,h,af,bj.1,_,bj.2,λ_ h=>h.elim,λ_ h=>h.elim,λ_ _ h=>h.elim,λ_ h=>h.elim,λ_ _ h=>h,λ_ h=>h.elim⟩
 cases av with
 |h x q=>
  simp only[b9]at aN;split at aN
  .rename_i e he;split at aN
   .cases aN
   .rename_i ao;simp only[some.injEq,Prod.mk.injEq]at aN;obtain⟨rfl,rfl⟩:=aN;have ao:e.plain=false:=by simpa using ao
    obtain⟨Sn,dY,b4,b7,dx,br,e5,bV,c7,eo,fY⟩:=h.take he ao;rw[aA]at aD;obtain⟨VS,a4,aO,a3,bJ⟩:=aD e he ao;rw[br]at aO;simp only[some.injEq,Prod.mk.injEq,true_and]at aO;obtain⟨rfl,rfl⟩:=aO;have y4:e.tree=true:=by cases e<;>first|rfl|(simp[I.plain]at ao)
    refine⟨_,dx,y4,bJ,dY,by rw[a3];exact e5,λb U=>h.dA x b (bV b U),λb U=>h.eH x b (bV b U),?_,λb U=>h.cW x b (bV b U),?_,λb U=>⟨x,bV b U⟩,fY⟩
    .intro u b U hu;simp only[fa]at hu;split at hu
     .exact eo b U hu
     .rename_i JK;exact h.ej u x b JK hu (bV b U)
    .intro u b hu;simp only[fa]at hu;split at hu
     .rename_i e;subst e;exact c7 b hu
     .exact hu
  .cases aN
 |ao x q=>simp[b9]at aN
 |U x q=>simp[b9]at aN
 |fn f c=>simp[b9]at aN
 |hole=>simp[b9]at aN
 |aw sz xs=>simp[I.plain]at mv
 |bh d=>simp[I.plain]at mv
 |_=>
  simp only[b9,some.injEq,Prod.mk.injEq]at aN;obtain⟨rfl,rfl⟩:=aN;obtain⟨S1,t1,t2,t3,Sn,t4,t5,t6,t7,t8,t9,t10⟩:=tree _ rfl mv aD;exact⟨S1,t1,t2,t3,Sn,t4,t5,t6,t7,t8,t9,t10,λ_ _ _ h=>h⟩
def loc (s:ah):I->Option (Nat×Xt)
 | .h x q=>match I.sub q (s x)with
   |some (.bh _)=>some (x,q++[0])
   |_=>none
 | .ao x q=>if I.ei q (s x)then some (x,q)else none
 |_=>none
theorem tp:∀(q:Xt) (av d:I) (r:Xt),I.sub q av=some d->I.sub (q++r) av=I.sub r d:=by
 intro q;induction q with
 |nil=>intro av d r h;simp[I.sub]at h;subst h;rfl
 |cons k q ih=>
  intro av d r h;cases av with
  |agg ar=>
   simp only[I.sub,cons_append]at h⊢;split at h
   .rename_i x an;exact ih _ _ _ h
   .cases h
  |tuple ar=>
   simp only[I.sub,cons_append]at h⊢;split at h
   .rename_i x an;exact ih _ _ _ h
   .cases h
  |aw sz ar=>
   simp only[I.sub,cons_append]at h⊢;split at h
   .rename_i x an;exact ih _ _ _ h
   .cases h
  |bh x=>
   cases k with
   |zero=>simp only[I.sub,cons_append]at h⊢;exact ih _ _ _ h
   |succ k=>simp[I.sub]at h
  |_=>simp[I.sub]at h
theorem JL:∀(q:Xt) (av d:I) (r:Xt),I.sub q av=some d->I.ei (q++r) av=(I.ei q av||I.ei r d):=by
 intro q;induction q with
 |nil=>intro av d r h;simp[I.sub]at h;subst h;simp[I.ei]
 |cons k q ih=>
  intro av d r h;cases av with
  |agg ar=>
   simp only[I.sub]at h;split at h
   .rename_i x an;simp only[I.ei,cons_append,an];exact ih _ _ r h
   .cases h
  |tuple ar=>
   simp only[I.sub]at h;split at h
   .rename_i x an;simp only[I.ei,cons_append,an];exact ih _ _ r h
   .cases h
  |aw sz ar=>simp[I.ei]
  |bh x=>simp[I.ei]
  |_=>simp[I.sub]at h
theorem tq (w:World):∀(q:Xt) (av d:I) (cs b4:Xw) (a b7:Option (Nat×Nat)) (r:Xt),cu w q av cs a=some (d,b4,b7)->cu w (q++r) av cs a=cu w r d b4 b7:=by
 intro q;induction q with
 |nil=>intro av d cs b4 a b7 r h;simp[cu]at h;obtain⟨rfl,rfl,rfl⟩:=h;rfl
 |cons k q ih=>
  intro av d cs b4 a b7 r h;cases av with
  |agg ar=>
   rw[cons_append];rw[cu]at h⊢;split at h
   .rename_i x an;exact ih _ _ _ _ _ _ _ h
   .cases h
  |tuple ar=>
   rw[cons_append];rw[cu]at h⊢;split at h
   .rename_i x an;exact ih _ _ _ _ _ _ _ h
   .cases h
  |aw sz ar=>
   rw[cons_append];rw[cu.eq_def]at h⊢;simp only at h⊢;split at h
   .exact ih _ _ _ _ _ _ _ h
   .cases h
  |bh x=>
   cases k with
   |zero=>
    rw[cons_append];rw[cu.eq_def]at h⊢;simp only at h⊢;split at h
    .exact ih _ _ _ _ _ _ _ h
    .cases h
   |succ k=>rw[show cu w ((k+1)::q) (.bh x) cs a=none from rfl]at h;cases h
  |_=>simp[cu]at h
end
def eU.ok (x:eU):Bool:=match x.k with
 | .other=>false
 |_=>true
theorem bA.dm.info {C:bA} (a0:C.dm) {t:TypeId} (h:(C.T t).ok=true):
  ∃i d z,C.P.info? t=some i/\i.size=(C.T t).sz/\i.bytes=(C.T t).bytes/\i.zero=some z/\(∀cs,flat (C.T t).zero=some cs->z.cells=cs.toArray)/\C.P.underlying t=some d/\ju (C.T t).k d:=by
 rcases a0.ty t with⟨e,n,b,z,an,_⟩|bj
 .rw[an]at h;simp[eU.ok]at h
 .exact bj
theorem ev {x:eU} {k:kI} (h:x.k=k) (ai:k≠.other):x.ok=true:=by
 unfold eU.ok;rw[h];cases k<;>first|rfl|exact(ai rfl).elim
theorem tr {d:TypeDesc} {ar:List (TypeId×Nat)} (h:ju (.struct ar) d):∃gs,d= .struct gs/\gs.toList.map (λg=>(g.type,g.offset))=ar:=by
 cases d<;>simp[ju]at h;exact⟨_,rfl,h⟩
theorem je {d:TypeDesc} {e:TypeId} (h:ju (.slice e) d):d= .slice e:=by
 cases d<;>simp[ju]at h;rw[h]
theorem ts {d:TypeDesc} {k:IntKind} (h:ju (.int k) d):d= .int k:=by
 cases d<;>simp[ju]at h;rw[h]
theorem nc {d:TypeDesc} (h:ju .str d):d= .string:=by
 cases d<;>simp[ju]at h;rfl
theorem y5 {d:TypeDesc} (h:ju .bool d):d= .bool:=by
 cases d<;>simp[ju]at h;rfl
theorem Dy {d:TypeDesc} {e:TypeId} (h:ju (.ptr e) d):d= .pointer e:=by
 cases d<;>simp[ju]at h;rw[h]
theorem eV {v:Value} (h:Value.eZ v=true):bL v=[v]:=by
 cases v<;>first|rfl|(simp[Value.eZ]at h)
theorem p9 {P:Program} {t:TypeId} {i:TypeInfo} (h:P.info? t=some i) (w:World):(typeInfo t).run P w= .ok i w:=by simp[typeInfo,h]
theorem hY {P:Program} {t:TypeId} {i:TypeInfo} (h:P.info? t=some i) (w:World):(Go.sizeOf t).run P w= .ok i.size w:=by simp[Go.sizeOf,p9 h]
theorem o8 {P:Program} {t:TypeId} {i:TypeInfo} {z:Value} (h:P.info? t=some i) (bz:i.zero=some z) (w:World):(zeroValue t).run P w= .ok z w:=by simp[zeroValue,p9 h,bz]
section
variable {C:bA} {w0 w:World} {F0 X F:Nat->Prop} {S:Nat->Nat->Prop} {s s1:ah} {aq:Nat->Value} {av:I}
def Good (C:bA) (w0:World) (F0 X:Nat->Prop) (aq:Nat->Value) (w:World) (m:Sem Value) (av:I) (s1:ah):Prop:=
 ∃v az bo aF,m.run C.P w= .ok v az/\bg w0 F0 X bo aF s1 aq az/\jc w0 X bo aF s1 aq az av v
theorem Good.same (h:bg w0 F0 X F S s aq w) {m:Sem Value} {v:Value} (aI:m.run C.P w= .ok v w) (ao:av.plain=true) (aD:aA w F s aq av v (λ_=>False)):Good C w0 F0 X aq w m av s:=
 ⟨v,w,F,S,aI,h,.inl ⟨ao,aD⟩⟩
theorem y6 (_h:bg w0 F0 X F S s aq w) {x:I} {v:Value} (aD:aA w F s aq x v (λ_=>False)) {y:Nat} {q:Xt} (hl:loc s x=some (y,q)) {d:I} (af:I.sub q (s y)=some d):
  I.ei q (s y)=true/\∃b4 b o,v= .pointer (some ⟨b,o,none⟩)/\cu w q (s y) (bL (aq y)) none=some (d,b4,some (b,o)):=by
 cases x with
 |h z lL=>
  simp only[loc]at hl;split at hl
  .rename_i e he;simp only[some.injEq,Prod.mk.injEq]at hl;obtain⟨rfl,rfl⟩:=hl;rw[aA]at aD;obtain⟨b4,a,aO,a3,bJ⟩:=aD _ he rfl;have fG:e=d:=by
    rw[tp _ _ _ _ he]at af;simpa [I.sub]using af
   subst fG;refine⟨by rw[JL _ _ _ _ he];simp[I.ei],?_⟩;have ab:Value.eZ v=true:=bJ;rw[eV ab]at a3;subst a3;have iO:=tq w lL (s z) _ _ _ none a [0] aO;have an:=_h.cE z;rw[aA.bY (gl he (.inl rfl))]at an;obtain⟨eC,b7,c6,dY,k0,bM,b1,cZ,cF,dL⟩:=ctx lL (s z) (bL (aq z)) (S z) none _ an.2 he;rw[k0]at aO;simp only[some.injEq,Prod.mk.injEq,true_and]at aO;obtain⟨rfl,rfl⟩:=aO;rw[al]at cF;obtain⟨b,cur,aS,fr,S2,aV,_⟩:=cF;simp only[cons.injEq,and_true]at aV;subst aV;exact⟨_,b,0,rfl,by rw[iO];rfl⟩
  .cases hl
 |ao z lL=>
  simp only[loc]at hl;split at hl
  .rename_i aj;simp only[some.injEq,Prod.mk.injEq]at hl;obtain⟨rfl,rfl⟩:=hl;rw[aA]at aD;obtain⟨b4,b,o,aO,a3⟩:=aD _ af aj;exact⟨aj,b4,b,o,a3,aO⟩
  .cases hl
 |_=>simp[loc]at hl
def gO (C:bA) (s:ah) (T:TypeId) (x:I) (k:Nat):Option I:=
 match(C.T T).k with
 | .struct ar=>match ar[k]? with
   |some (hZ,off)=>if(C.T hZ).ok=true/\(C.T hZ).sz≠0 then
     match x with
     | .ref (.agg ds)=>match ds[k]? with
       |some d=>if I.c3 (ds.take k)=off then some (.ref d)else none
       |none=>none
     | .U y o=>if(s y).plain then none else some (.U y (o+off))
     |x=>match loc s x with
      |some (y,q)=>match I.sub q (s y)with
       |some (.agg ds)=>if k<ds.length/\I.c3 (ds.take k)=off then some (.ao y (q++[k]))else none
       |_=>none
      |none=>none
    else none
   |none=>none
 |_=>none
theorem gi.y7 {w:World} {b o:Nat} {bx eB bE:Xw} (h:gi w b o (bx++(eB++bE))):gi w b (o+bx.length) eB:=by
 intro j c b6;have c8:j<eB.length:=(List.getElem?_eq_some_iff.1 b6).1;have:=h (bx.length+j) c (by rw[getElem?_append_right (by omega),getElem?_append_left (by omega),<-b6];congr 1;omega);rw[Nat.add_assoc];exact this
theorem y8 (a0:C.dm) {T hZ:TypeId} {ar:List (TypeId×Nat)} {k off:Nat} (ai:(C.T T).k= .struct ar) (bk:ar[k]? =some (hZ,off)) (ab:(C.T hZ).ok=true) (ad:(C.T hZ).sz≠0) (b o:Nat) (w:World):
  (Instr.fieldAt T (.pointer (some ⟨b,o,none⟩)) k).run C.P w= .ok (.pointer (some ⟨b,o+off,none⟩)) w:=by
 obtain⟨i,d,z,aM,aS,aV,bK,cn,bB,bt⟩:=a0.info (ev ai (by simp));rw[ai]at bt;obtain⟨gs,rfl,fy⟩:=tr bt;obtain⟨nd,a7,nf,f1,f2,f3,f4,f5,f6,f7⟩:=a0.info ab;have bf:∃g,gs[k]? =some g/\g.type=hZ/\g.offset=off:=by
  rw[<-fy,getElem?_map]at bk;simp only[map_eq_some_iff,Prod.mk.injEq]at bk;obtain⟨g,ab,ad,aB⟩:=bk;exact⟨g,by simpa using ab,ad,aB⟩
 obtain⟨g,aO,rfl,rfl⟩:=bf;simp[Instr.fieldAt,run_underlying bB,aO,Instr.sureAddr,fieldPlace,hY f1,f2,ad,Addr.add_lit]
theorem JM (a0:C.dm) (h:bg w0 F0 X F S s aq w) {T:TypeId} {x:I} {v:Value} {k:Nat} (an:x.plain=true) (aD:aA w F s aq x v (λ_=>False)) (he:gO C s T x k=some av):
  Good C w0 F0 X aq w (Instr.fieldAt T v k) av s:=by
 unfold gO at he;split at he
 .rename_i ar ai;split at he
  .rename_i hZ off bk;split at he
   .rename_i rD;split at he
    .rename_i ds;split at he
     .rename_i d af;split at he
      .rename_i ng;simp only[some.injEq]at he;subst he;have kl:=(aA.bY rfl).1 aD;rw[al]at kl;obtain⟨aa,b,o,dc,ab,ad,aB,aY⟩:=kl;rw[eV aa]at ab;simp only[cons.injEq,and_true]at ab;subst ab;rw[al]at aY;obtain⟨bx,eB,bE,S1,gj,rfl,fW,dS,e9,fX,et,i_⟩:=aQ.pick ds _ _ k d aY af;refine Good.same h (y8 a0 ai bk rD.1 rD.2 b o w) rfl ((aA.bY rfl).2 ⟨rfl,?_⟩);rw[al];refine⟨b,o+off,eB,rfl,ad,?_,al.mono (λ_ h=>h) _ _ _ _ (λb U=>e9 b U) et⟩;rw[<-ng,<-fW];exact aB.y7
      .cases he
     .cases he
    .rename_i y o;split at he
     .cases he
     .rename_i ao;simp only[some.injEq]at he;subst he;rw[aA]at aD;obtain⟨b,cur,e,fr,rfl,ad,aB,aY⟩:=aD (by simpa using ao);refine Good.same h (y8 a0 ai bk rD.1 rD.2 b o w) rfl ?_;rw[aA];exact λ_=>⟨b,cur,e,fr,rfl,ad,aB,aY⟩
    .rename_i x _ _;split at he
     .rename_i y q hl;split at he
      .rename_i ds af;split at he
       .rename_i ng;simp only[some.injEq]at he;subst he;obtain⟨aj,b4,b,o,rfl,iO⟩:=y6 h aD hl af;refine Good.same h (y8 a0 ai bk rD.1 rD.2 b o w) rfl ?_;rw[aA];intro d2 gy p_;rw[tq w q _ _ _ _ _ _ [k] iO];rw[tp _ _ _ _ af]at gy;have n7:∃d3,ds[k]? =some d3:=⟨_,getElem?_eq_getElem ng.1⟩
        obtain⟨d3,tt⟩:=n7;simp only[I.sub,tt,some.injEq]at gy;subst gy;simp only[cu,tt];refine⟨(b4.drop off).take d3.wd,b,o+off,?_,rfl⟩;rw[ng.2];rfl
       .cases he
      .cases he
     .cases he
   .cases he
  .cases he
 .cases he
def h_ (C:bA) (s:ah) (T:TypeId) (x i:I):Option I:=
 match(C.T T).k,i with
 | .slice e,.int _ n=>if 0<=n/\(C.T e).ok=true then
   match x with
   | .slice xs=>match xs[n.toNat]? with
     |some d=>if d.wd=(C.T e).sz then some (.ref d)else none
     |none=>none
   | .h y q=>match I.sub q (s y)with
     |some (.aw sz xs)=>if n.toNat<xs.length/\sz=(C.T e).sz then some (.ao y (q++[n.toNat]))else none
     |_=>none
   |_=>none
   else none
 |_,_=>none
theorem Dz (a0:C.dm) {T e:TypeId} (ai:(C.T T).k= .slice e) (he:(C.T e).ok=true) (b o len cap:Nat) (k:IntKind) (n:Nat) (aU:n<len) (w:World):
  (Instr.indexAt T (.slice (some ⟨b,o,none⟩) len cap) (.int k n)).run C.P w= .ok (.pointer (some ⟨b,o+n*(C.T e).sz,none⟩)) w:=by
 obtain⟨i,d,z,aM,aS,aV,bK,cn,bB,bt⟩:=a0.info (ev ai (by simp));rw[ai]at bt;have:=je bt;subst this;obtain⟨nd,a7,nf,f1,f2,f3,f4,f5,f6,f7⟩:=a0.info he;simp[Instr.indexAt,run_underlying bB,asIntOf,aU,hY f1,f2,Addr.add_lit]
theorem JN (a0:C.dm) (h:bg w0 F0 X F S s aq w) {T:TypeId} {x i:I} {v lM:Value} (aD:aA w F s aq x v (λ_=>False)) (JO:aA w F s aq i lM (λ_=>False))
  (he:h_ C s T x i=some av):Good C w0 F0 X aq w (Instr.indexAt T v lM) av s:=by
 unfold h_ at he;split at he
 .rename_i e k n ai;have y9:=(aA.bY rfl).1 JO;rw[al,eV y9.1]at y9;have:lM= .int k n:=by simpa using y9.2
  subst this;split at he
  .rename_i aU;obtain⟨n,rfl⟩:=Int.eq_ofNat_of_zero_le aU.1;simp only[Int.toNat_natCast]at he;split at he
   .rename_i xs;split at he
    .rename_i d af;split at he
     .rename_i hw;simp only[some.injEq]at he;subst he;have kl:=(aA.bY rfl).1 aD;rw[al,eV kl.1]at kl;obtain⟨aa,⟨rfl,_⟩|⟨b,o,cap,dc,sz,ab,ad,aB,aY,bn,cb,cc⟩⟩:=kl
      .simp at af
      .simp only[cons.injEq,and_true]at ab;subst ab;have c8:n<xs.length:=(List.getElem?_eq_some_iff.1 af).1;obtain⟨bx,eB,bE,S1,gj,rfl,fW,dS,e9,fX,et,i_⟩:=aQ.pick xs _ _ n d cc af;refine Good.same h (Dz a0 ai aU.2 b o _ _ k n c8 w) rfl ((aA.bY rfl).2 ⟨rfl,?_⟩);rw[al];refine⟨b,_,eB,rfl,ad,?_,al.mono (λ_ h=>h) _ _ _ _ (λb U=>e9 b U) et⟩;have JP:=bn d (mem_of_getElem? af);have:n*(C.T e).sz=bx.length:=by
        rw[fW,n4 _ (λd af=>bn d (mem_of_mem_take af)),length_take,Nat.min_eq_left (by omega),<-hw,JP]
       rw[this];exact cb.y7
     .cases he
    .cases he
   .rename_i y q;split at he
    .rename_i sz xs af;split at he
     .rename_i hw;simp only[some.injEq]at he;subst he;rw[aA]at aD;obtain⟨b4,a,aO,a3,bJ⟩:=aD _ af rfl;have aa:Value.eZ v=true:=bJ;rw[eV aa]at a3;subst a3;have an:=h.cE y;rw[aA.bY (gl af (.inl rfl))]at an;obtain⟨eC,b7,c6,dY,k0,bM,b1,cZ,cF,dL⟩:=ctx q (s y) (bL (aq y)) (S y) none _ an.2 af;rw[k0]at aO;simp only[some.injEq,Prod.mk.injEq,true_and]at aO;obtain⟨rfl,rfl⟩:=aO;rw[al]at cF;rcases cF with⟨rfl,_⟩|⟨b,cap,cur,aS,fr,S2,aV,_⟩
      .simp at hw
      .simp only[cons.injEq,and_true]at aV;subst aV;refine Good.same h (Dz a0 ai aU.2 b 0 _ _ k n hw.1 w) rfl ?_;rw[aA];intro d2 gy _;rw[tq w q _ _ _ _ _ _ [n] k0];rw[tp _ _ _ _ af]at gy;obtain⟨d3,tt⟩:∃d3,xs[n]? =some d3:=⟨_,getElem?_eq_getElem hw.1⟩
       simp only[I.sub,tt,some.injEq]at gy;subst gy;simp only[cu,tt];exact⟨_,b,n*sz,rfl,by simp[hw.2]⟩
     .cases he
    .cases he
   .cases he
  .cases he
 .cases he
end
section
variable {C:bA} {w0 w:World} {F0 X F:Nat->Prop} {S:Nat->Nat->Prop} {s s1:ah} {aq:Nat->Value} {av:I}
theorem DA (a0:C.dm) {T:TypeId} {ar:List (TypeId×Nat)} (ai:(C.T T).k= .struct ar) (w:World):(isAgg T).run C.P w= .ok true w:=by
 obtain⟨i,d,z,aM,aS,aV,bK,cn,bB,bt⟩:=a0.info (ev ai (by simp));rw[ai]at bt;obtain⟨gs,rfl,_⟩:=tr bt;simp[isAgg,run_underlying bB]
def eU.flat (x:eU):Bool:=match x.k with
 | .other=>false
 | .fw _=>false
 | .struct _=>false
 |_=>true
theorem DB {x:eU} (h:x.flat=true):x.ok=true:=by
 unfold eU.flat at h;unfold eU.ok;revert h;cases x.k<;>simp
theorem y_ (a0:C.dm) {T:TypeId} (ai:(C.T T).flat=true) (w:World):(isAgg T).run C.P w= .ok false w:=by
 obtain⟨i,d,z,aM,aS,aV,bK,cn,bB,bt⟩:=a0.info (DB ai);have c4:(∀ar,d≠.struct ar)/\(∀n e,d≠.array n e):=by
  clear bB;unfold eU.flat at ai;generalize (C.T T).k=ia at*;cases ia<;>cases d<;>simp[ju]at bt ai⊢
 cases d<;>first|exact(c4.1 _ rfl).elim|exact(c4.2 _ _ rfl).elim|simp[isAgg,run_underlying bB]
theorem gi.one {w:World} {b o:Nat} {v:Value} (h:gi w b o [v]):w.cell? ⟨b,o,none⟩=some v:=by simpa using h 0 v rfl
theorem DC {P:Program} {b o:Nat}:∀(cs:Xw) (i:Nat) (acc:Array Value),gi w b (o+i) cs->(loadCellsFrom ⟨b,o,none⟩ i cs.length acc).run P w= .ok (acc++cs.toArray) w
 |[],i,acc,_=>by simp[loadCellsFrom]
 |c::cs,i,acc,h=>by
  have ba:w.cell? ⟨b,o+i,none⟩=some c:=by simpa using h 0 c rfl
  have ab:gi w b (o+(i+1)) cs:=by
   intro j x b6;have:=h (j+1) x (by simpa using b6);rw[<-this];congr 2;omega
  have ih:=DC (P:=P) cs (i+1) (acc.push c) ab;simp only[length_cons,loadCellsFrom,Sem.run_bind,Go.load,Sem.run,Addr.add_lit,ba,Result.andThen];rw[ih];simp
theorem JQ (a0:C.dm) {T:TypeId} {ar:List (TypeId×Nat)} (ai:(C.T T).k= .struct ar) {b o:Nat} {cs:Xw} (h:gi w b o cs) (hl:cs.length=(C.T T).sz):
  (loadVar T ⟨b,o,none⟩).run C.P w= .ok (.agg cs.toArray) w:=by
 obtain⟨i,d,z,aM,aS,aV,bK,cn,bB,bt⟩:=a0.info (ev ai (by simp));have:=DC (P:=C.P) (b:=b) (o:=o) cs 0 #[] (by simpa using h);simp only[loadVar,Sem.run_bind,DA a0 ai,Result.andThen,if_true,hY aM,aS,<-hl,loadCells,this];simp
theorem DD (a0:C.dm) {T:TypeId} (ai:(C.T T).flat=true) {b o:Nat} {v:Value} (h:gi w b o [v]):
  (loadVar T ⟨b,o,none⟩).run C.P w= .ok v w:=by
 simp[loadVar,y_ a0 ai,Go.load,Sem.run,h.one]
def fits (C:bA) (T:TypeId) (d:I):Bool:=match(C.T T).k,d with
    | .struct _,.agg ds=>I.c3 ds==(C.T T).sz
    | .struct _,_=>false
    |_,.agg _=>false
    |_,.tuple _=>false
    |_,_=>(C.T T).flat
def vJ:Xy->Nat->Nat->Option Nat
 |[],_,_=>none
 |d::ds,i,k=>if k=0 then some i else if d.wd<=k then vJ ds (i+1) (k-d.wd)else none
def ew (C:bA) (s:ah) (T:TypeId) (x:I):Option I:=
 match x with
 | .ref d=>if fits C T d=true then some d else none
 | .U y k=>match s y with
   | .agg ds=>if I.dz ds then none else match vJ ds 0 k with
     |some i=>match ds[i]? with
      |some d=>if I.c3 (ds.take i)=k/\fits C T d=true then some (if d.plain then d else .h y [i])else none
      |none=>none
     |none=>none
   |_=>none
 |x=>match loc s x with
  |some (y,q)=>match I.sub q (s y)with
   |some d=>if fits C T d=true then some (if d.plain then d else .h y q)else none
   |none=>none
  |none=>none
theorem al.one {F:Nat->Prop} {d:I} {cs:Xw} {S:Nat->Prop} (h:al w F d cs S) (ab:∀ar,d≠.agg ar) (ad:∀ar,d≠.tuple ar):∃v,cs=[v]/\Value.eZ v=true:=by
 cases d with
 |hole=>rw[al]at h;obtain⟨v,h,rfl⟩:=h;exact⟨v,rfl,h⟩
 |dR=>rw[al]at h;obtain⟨v,rfl⟩:=h;exact⟨_,rfl,rfl⟩
 |slice xs=>rw[al]at h;rcases h with⟨_,a,c,rfl,_⟩|⟨b,o,cap,dc,sz,rfl,_⟩<;>exact⟨_,rfl,rfl⟩
 |aw sz xs=>rw[al]at h;rcases h with⟨_,_,rfl⟩|⟨b,cap,cur,e,fr,cW,rfl,_⟩<;>exact⟨_,rfl,rfl⟩
 |ref d=>rw[al]at h;obtain⟨b,o,dc,rfl,_⟩:=h;exact⟨_,rfl,rfl⟩
 |bh d=>rw[al]at h;obtain⟨b,cur,e,fr,cW,rfl,_⟩:=h;exact⟨_,rfl,rfl⟩
 |agg ar=>exact(ab _ rfl).elim
 |tuple ar=>exact(ad _ rfl).elim
 |fn _ _=>rw[al]at h;obtain⟨arr,rfl,_⟩:=h;exact⟨_,rfl,rfl⟩
 |h _ _=>rw[al]at h;exact h.elim
 |ao _ _=>rw[al]at h;exact h.elim
 |U _ _=>rw[al]at h;exact h.elim
 |cS _=>rw[al]at h;obtain⟨v,hH,rfl⟩:=jP.one h;exact⟨v,rfl,hH⟩
 |er _ _=>rw[al]at h;obtain⟨arr,rfl,_⟩:=h;exact⟨_,rfl,rfl⟩
 |_=>rw[al]at h;subst h;exact⟨_,rfl,rfl⟩
theorem I.vK {d:I} (h:d.single=true):(∀ar,d≠.agg ar)/\∀ar,d≠.tuple ar:=
 ⟨λar e=>(by subst e;cases h),λar e=>(by subst e;cases h)⟩
theorem aA.lN {F:Nat->Prop} {s:ah} {aq:Nat->Value} {d:I} {v:Value} (aN:d.tree=true) (aa:d.single=true) (h:al w F d [v] (λ_=>False)):aA w F s aq d v (λ_=>False):=by
 obtain⟨eI,e,ab⟩:=al.one h (I.vK aa).1 (I.vK aa).2;have:v=eI:=by simpa using e
 subst this;refine(aA.bY aN).2 ⟨?_,by rw[eV ab];exact h⟩;cases d<;>first|exact ab|cases aa
mutual
theorem aA.nh {F:Nat->Prop} {s:ah} {aq:Nat->Value}:∀(d:I) (v:Value),d.single=true->al w F d [v] (λ_=>False)->aA w F s aq d v (λ_=>False)
 | .fn f caps,v,_,h=>by
   rw[al]at h;obtain⟨arr,ab,ad,aB⟩:=h;rw[aA];exact⟨arr,by simpa using ab,c5.nh caps _ ad aB⟩
 | .bool b,v,aa,h=>aA.lN rfl aa h
 | .dR,v,aa,h=>aA.lN rfl aa h
 | .int k n,v,aa,h=>aA.lN rfl aa h
 | .str x,v,aa,h=>aA.lN rfl aa h
 | .cJ,v,aa,h=>aA.lN rfl aa h
 | .a5,v,aa,h=>aA.lN rfl aa h
 | .slice xs,v,aa,h=>aA.lN rfl aa h
 | .aw sz xs,v,aa,h=>aA.lN rfl aa h
 | .ref d,v,aa,h=>aA.lN rfl aa h
 | .bh d,v,aa,h=>aA.lN rfl aa h
 | .h _ _,v,_,h=>by rw[al]at h;exact h.elim
 | .ao _ _,v,_,h=>by rw[al]at h;exact h.elim
 | .U _ _,v,_,h=>by rw[al]at h;exact h.elim
 | .cS _,v,aa,h=>aA.lN rfl aa h
 | .er _ _,v,aa,h=>aA.lN rfl aa h
theorem c5.nh {F:Nat->Prop} {s:ah} {aq:Nat->Value}:∀(ds:Xy) (vs:Xw),(∀d∈ds,d.single=true)->aQ w F ds vs (λ_=>False)->c5 w F s aq ds vs
 |[],vs,_,h=>by rw[aQ]at h;rw[c5];exact h
 |d::ds,vs,aa,h=>by
  rw[aQ]at h;obtain⟨bx,bE,S1,S2,rfl,ad,aB,aY,bn,_⟩:=h;have af:=aa d (by simp);obtain⟨v,rfl,_⟩:=al.one ad (I.vK af).1 (I.vK af).2;rw[c5];exact⟨v,bE,rfl,aA.nh d v af (al.mono (λ_ h=>h) _ _ _ _ (λb U=>aY b U) ad),c5.nh ds bE (λx an=>aa x (by simp[an])) (aQ.mono (λ_ h=>h) _ _ _ _ (λb U=>bn b U) aB)⟩
end
theorem vL (a0:C.dm) {T:TypeId} {d:I} {b o:Nat} {cs:Xw} {S:Nat->Prop} (h:gi w b o cs) (af:al w F d cs S)
  (gz:fits C T d=true):
  ∃v,(loadVar T ⟨b,o,none⟩).run C.P w= .ok v w/\bL v=cs/\cO d v:=by
 unfold fits at gz;by_cases aa:∃ar,(C.T T).k= .struct ar
 .obtain⟨ar,ai⟩:=aa;rw[ai]at gz;cases d with
  |agg ds=>
   simp only[beq_iff_eq]at gz;refine⟨_,JQ a0 ai h ((al.length _ _ _ af).trans gz),rfl,⟨_,rfl⟩⟩
  |_=>simp at gz
 .have gP:(C.T T).flat=true/\(∀ar,d≠.agg ar)/\(∀ar,d≠.tuple ar):=by
   revert gz aa;cases ai:(C.T T).k<;>cases d<;>simp
  obtain⟨v,rfl,ab⟩:=al.one af gP.2.1 gP.2.2;refine⟨v,DD a0 gP.1 h,eV ab,?_⟩;cases d<;>first|exact ab|exact(gP.2.1 _ rfl).elim|exact(gP.2.2 _ rfl).elim
theorem JR (a0:C.dm) {T:TypeId} {d:I} {off:Nat} {arr:Array Value} {bx cs bE:Xw} {S:Nat->Prop} (he:arr.toList=bx++(cs++bE)) (bG:bx.length=off) (af:al w F d cs S)
  (gz:fits C T d=true):
  ∃v,(part T arr off).run C.P w= .ok v w/\bL v=cs/\cO d v:=by
 unfold fits at gz;by_cases aa:∃ar,(C.T T).k= .struct ar
 .obtain⟨ar,ai⟩:=aa;rw[ai]at gz;cases d with
  |agg ds=>
   simp only[beq_iff_eq]at gz;obtain⟨i,d,z,aM,aS,aV,bK,cn,bB,bt⟩:=a0.info (ev ai (by simp));have hl:cs.length=(C.T T).sz:=(al.length _ _ _ af).trans gz;have an:(arr.extract off (off+(C.T T).sz)).toList=cs:=by
    rw[Array.toList_extract,he,extract_eq_take_drop,<-hl,<-bG,Nat.add_sub_cancel_left,drop_left,take_left]
   refine⟨.agg (arr.extract off (off+(C.T T).sz)),?_,by simpa [bL,gk]using an,⟨_,rfl⟩⟩;simp[part,DA a0 ai,hY aM,aS]
  |_=>simp at gz
 .have gP:(C.T T).flat=true/\(∀ar,d≠.agg ar)/\(∀ar,d≠.tuple ar):=by
   revert gz aa;cases ai:(C.T T).k<;>cases d<;>simp
  obtain⟨v,rfl,ab⟩:=al.one af gP.2.1 gP.2.2;have bf:arr[off]? =some v:=by
   rw[<-Array.getElem?_toList,he,<-bG,getElem?_append_right (Nat.le_refl _)];simp
  refine⟨v,?_,eV ab,?_⟩
  .simp[part,y_ a0 gP.1,bf]
  .cases d<;>first|exact ab|exact(gP.2.1 _ rfl).elim|exact(gP.2.2 _ rfl).elim
theorem JS (a0:C.dm) (h:bg w0 F0 X F S s aq w) {T:TypeId} {x:I} {v:Value} (aD:aA w F s aq x v (λ_=>False)) (he:ew C s T x=some av):
  Good C w0 F0 X aq w (Instr.loadAt T v) av s:=by
 unfold ew at he;split at he
 .rename_i d;split at he
  .rename_i gz;simp only[some.injEq]at he;subst he;have kl:=(aA.bY rfl).1 aD;rw[al,eV kl.1]at kl;obtain⟨aa,b,o,dc,ab,ad,aB,aY⟩:=kl;simp only[cons.injEq,and_true]at ab;subst ab;obtain⟨eI,aI,aj,lO⟩:=vL a0 aB aY gz;have dn:(Instr.loadAt T (.pointer (some ⟨b,o,none⟩))).run C.P w= .ok eI w:=by simp[Instr.loadAt,Instr.sureAddr,aI]
   refine⟨eI,w,F,S,dn,h,?_⟩;by_cases aN:d.tree=true
   .exact .inr ⟨aN,lO,λ_=>False,by rw[aj];exact aY,λ_ h=>h.elim,λ_ h=>h.elim,λ_ _ h=>h.elim,λ_ h=>h.elim⟩
   .cases d<;>first|exact(aN rfl).elim|(rw[al]at aY;exact aY.elim)|exact .inl ⟨rfl,by rw[aA];trivial⟩|(have bn:=aY;rw[al]at bn;obtain⟨arr,e,_⟩:=bn;rw[<-aj]at e aY;rw[eV (by exact lO)]at aY;exact .inl ⟨rfl,aA.nh _ _ rfl aY⟩)
  .cases he
 .rename_i y k;split at he
  .rename_i ds k_;split at he
   .cases he
   .rename_i tu;split at he
    .rename_i i aE;split at he
     .rename_i d af;split at he
      .rename_i gz;simp only[some.injEq]at he;have fO:(s y).plain=false:=by rw[k_];simp only[I.plain];simpa using tu
       rw[aA]at aD;obtain⟨b,cur,e,fr,rfl,ad,aB,aY⟩:=aD fO;have a2:=h.cE y;rw[k_]at a2;have vM:=((aA.bY rfl).1 a2).2;rw[al]at vM;obtain⟨bx,eB,bE,S1,gj,hB,fW,dS,e9,fX,et,i_⟩:=aQ.pick ds _ _ i d vM af;have h9:gi w b k eB:=by
        intro j c b6;have c8:j<eB.length:=(List.getElem?_eq_some_iff.1 b6).1;have:cur.toList[k+j]? =some c:=by
         rw[aY,hB,getElem?_append_right (by omega),getElem?_append_left (by omega),<-b6];congr 1;omega
        simp[World.cell?,aB];simpa using this
       obtain⟨eI,aI,aj,lO⟩:=vL a0 h9 et gz.2;have dn:(Instr.loadAt T (.pointer (some ⟨b,k,none⟩))).run C.P w= .ok eI w:=by simp[Instr.loadAt,Instr.sureAddr,aI]
       refine⟨eI,w,F,S,dn,h,?_⟩;split at he
       .rename_i ao;subst he;by_cases aN:d.tree=true
        .exact .inl ⟨ao,(aA.bY aN).2 ⟨lO,by rw[aj];exact al.plain _ _ _ _ ao et⟩⟩
        .cases d<;>first|exact(aN rfl).elim|(rw[al]at et;exact et.elim)|exact .inl ⟨rfl,by rw[aA];trivial⟩|(have bn:=al.plain _ _ _ (λ_=>False) ao et;rw[<-aj]at bn;rw[eV (by exact lO)]at bn;exact .inl ⟨rfl,aA.nh _ _ rfl bn⟩)
       .subst he;refine .inl ⟨rfl,?_⟩;rw[aA];intro d2 gy _;rw[k_]at gy⊢;simp only[I.sub,af,some.injEq]at gy;subst gy;refine⟨eB,none,?_,aj,lO⟩;simp only[cu,af];rw[hB,p3 bx eB bE _ _ fW (al.length _ _ _ et)];rfl
      .cases he
     .cases he
    .cases he
  .cases he
 .rename_i x _ _;split at he
  .rename_i y q hl;split at he
   .rename_i d af;split at he
    .rename_i gz;simp only[some.injEq]at he;obtain⟨kJ,b4,b,o,rfl,iO⟩:=y6 h aD hl af;have a2:=h.cE y;rw[aA.bY (gl af (.inr kJ))]at a2;obtain⟨eC,b7,c6,dY,k0,bM,b1,cZ,cF,dL⟩:=ctx q (s y) (bL (aq y)) (S y) none _ a2.2 af;rw[k0]at iO;simp only[some.injEq,Prod.mk.injEq,true_and]at iO;obtain⟨rfl,rfl⟩:=iO;have h9:gi w b o eC:=by
      rcases dL with⟨l,r,aM,aS,_⟩|⟨eh,cur,e,fr,l,r,aM,aS,aV,bK,cn,_⟩
      .simp at aS
      .simp only[some.injEq,Prod.mk.injEq]at aM;obtain⟨rfl,rfl⟩:=aM;intro j c b6;have c8:j<eC.length:=(List.getElem?_eq_some_iff.1 b6).1;have:cur.toList[l.length+j]? =some c:=by
        rw[cn,getElem?_append_right (by omega),getElem?_append_left (by omega),<-b6];congr 1;omega
       simp[World.cell?,aV];simpa using this
     obtain⟨eI,aI,aj,lO⟩:=vL a0 h9 cF gz;have dn:(Instr.loadAt T (.pointer (some ⟨b,o,none⟩))).run C.P w= .ok eI w:=by simp[Instr.loadAt,Instr.sureAddr,aI]
     refine⟨eI,w,F,S,dn,h,?_⟩;split at he
     .rename_i ao;subst he;by_cases aN:d.tree=true
      .exact .inl ⟨ao,(aA.bY aN).2 ⟨lO,by rw[aj];exact al.plain _ _ _ _ ao cF⟩⟩
      .cases d<;>first|exact(aN rfl).elim|(rw[al]at cF;exact cF.elim)|exact .inl ⟨rfl,by rw[aA];trivial⟩|(have bn:=al.plain _ _ _ (λ_=>False) ao cF;rw[<-aj]at bn;rw[eV (by exact lO)]at bn;exact .inl ⟨rfl,aA.nh _ _ rfl bn⟩)
     .subst he;refine .inl ⟨rfl,?_⟩;rw[aA];intro d2 gy _;rw[af]at gy;simp only[some.injEq]at gy;subst gy;exact⟨_,_,k0,aj,lO⟩
    .cases he
   .cases he
  .cases he
mutual
theorem al.qa {F:Nat->Prop}:∀(d:I) (cs:Xw) (S:Nat->Prop),al w F d cs S->∀c∈cs,Value.eZ c=true
 | .hole,cs,S,h=>by rw[al]at h;obtain⟨v,h,rfl⟩:=h;simpa using h
 | .bool _,cs,S,h=>by rw[al]at h;subst h;simp[Value.eZ]
 | .dR,cs,S,h=>by rw[al]at h;obtain⟨b,rfl⟩:=h;simp[Value.eZ]
 | .int _ _,cs,S,h=>by rw[al]at h;subst h;simp[Value.eZ]
 | .str _,cs,S,h=>by rw[al]at h;subst h;simp[Value.eZ]
 | .cJ,cs,S,h=>by rw[al]at h;subst h;simp[Value.eZ]
 | .a5,cs,S,h=>by rw[al]at h;subst h;simp[Value.eZ]
 | .slice xs,cs,S,h=>by
   rw[al]at h;rcases h with⟨_,a,c,rfl,_⟩|⟨b,o,cap,dc,sz,rfl,_⟩<;>simp[Value.eZ]
 | .aw sz xs,cs,S,h=>by
   rw[al]at h;rcases h with⟨_,_,rfl⟩|⟨b,cap,cur,e,fr,aF,rfl,_⟩<;>simp[Value.eZ]
 | .ref d,cs,S,h=>by rw[al]at h;obtain⟨b,o,dc,rfl,_⟩:=h;simp[Value.eZ]
 | .bh d,cs,S,h=>by rw[al]at h;obtain⟨b,o,dc,_,_,rfl,_⟩:=h;simp[Value.eZ]
 | .agg ar,cs,S,h=>by rw[al]at h;exact aQ.qa ar _ _ h
 | .tuple ar,cs,S,h=>by rw[al]at h;exact aQ.qa ar _ _ h
 | .fn _ _,cs,S,h=>by rw[al]at h;obtain⟨arr,rfl,_⟩:=h;simp[Value.eZ]
 | .h _ _,cs,S,h=>by rw[al]at h;exact h.elim
 | .ao _ _,cs,S,h=>by rw[al]at h;exact h.elim
 | .U _ _,cs,S,h=>by rw[al]at h;exact h.elim
 | .cS _,cs,S,h=>by rw[al]at h;obtain⟨v,hH,rfl⟩:=jP.one h;simpa using hH
 | .er _ _,cs,S,h=>by rw[al]at h;obtain⟨arr,rfl,_⟩:=h;simp[Value.eZ]
theorem aQ.qa {F:Nat->Prop}:∀(ds:Xy) (cs:Xw) (S:Nat->Prop),aQ w F ds cs S->∀c∈cs,Value.eZ c=true
 |[],cs,S,h=>by rw[aQ]at h;subst h;simp
 |d::ds,cs,S,h=>by
  rw[aQ]at h;obtain⟨bx,bE,S1,S2,rfl,ad,aB,_⟩:=h;intro c aj;rcases mem_append.1 aj with aj|aj
  .exact al.qa d _ _ ad c aj
  .exact aQ.qa ds _ _ aB c aj
end
theorem vN {P:Program} {b o:Nat} {e:TypeId} {fr:Nat×Nat}:∀(vs:Xw) (i:Nat) (cur:Array Value) (w:World) (l m r:Xw),w.heap[b]? =some (.cells cur e fr)->kD fr cur.size->
  cur.toList=l++(m++r)->l.length=o+i->m.length=vs.length->(∀v∈vs,Value.eZ v=true)->
  ∃az,(storeCells ⟨b,o,none⟩ vs i).run P w= .ok () az/\az.heap[b]? =some (.cells (l++(vs++r)).toArray e fr)/\(∀c,c≠b->az.heap[c]? =w.heap[c]?)/\az.heap.size=w.heap.size/\az.os=w.os/\az.tape=w.tape/\Out az w
 |[],i,cur,w,l,m,r,U,bk,aj,hl,hm,_=>by
  refine⟨w,rfl,?_,λ_ _=>rfl,rfl,rfl,rfl,Out.refl _⟩;have:m=[]:=by simpa using hm
  subst this;rw[U];have:cur=(l++([]++r)).toArray:=by rw[<-aj]
  rw[<-this]
 |v::vs,i,cur,w,l,m,r,U,bk,aj,hl,hm,vO=>by
  obtain⟨x,m,rfl⟩:∃x ib,m=x::ib:=by cases m with
   |nil=>simp at hm
   |cons x m=>exact⟨x,m,rfl⟩
  have hlen:cur.size=(l++(x::m++r)).length:=by rw[<-aj];simp
  have c8:o+i<cur.size:=by rw[hlen];simp;omega
  have vP:w.cell? ⟨b,o+i,none⟩=some cur[o+i]:=by simp[World.cell?,U,c8]
  have JT:w.frozen? ⟨b,o+i,none⟩=false:=by
   have:=bk (o+i) c8;simp only[World.frozen?,U];simp only[Bool.and_eq_false_iff,decide_eq_false_iff_not];by_cases ab:fr.1<=o+i
   .right;exact λad=>this ⟨ab,ad⟩
   .left;exact ab
  have o9:(w.setCell ⟨b,o+i,none⟩ v).heap[b]? =some (.cells ((l++[v])++(m++r)).toArray e fr):=by
   simp only[World.setCell,Array.getElem?_modify,if_true,U,map_some,isSome_none,Bool.false_eq_true,if_false];congr 2;apply Array.ext';rw[Array.toList_setIfInBounds,aj,<-hl,set_append_right _ _ (Nat.le_refl _)];simp
  have n8:(store ((⟨b,o,none⟩:Addr).add i) v).run P w= .ok () (w.setCell ⟨b,o+i,none⟩ v):=by
   have ab:=vO v (by simp);rw[Addr.add_lit];cases v<;>first|(simp[Value.eZ]at ab;done)|simp[Go.store,Sem.run,vP,JT]
  obtain⟨az,aO,a3,bJ,cN,dD,gp,gW⟩:=vN (P:=P) (b:=b) (o:=o) vs (i+1) _ (w.setCell ⟨b,o+i,none⟩ v) (l++[v]) m r o9 (by
   have:(l++[v]++(m++r)).toArray.size=cur.size:=by rw[hlen];simp
   rw[this];exact bk) (by simp) (by simp;omega) (by simpa using hm) (λu hu=>vO u (by simp[hu]))
  refine⟨az,?_,by simpa using a3,λc aj=>?_,?_,dD,gp,gW⟩
  .simp only[storeCells,Sem.run_bind,n8,Result.andThen];exact aO
  .rw[bJ c aj];simp only[World.setCell,Array.getElem?_modify];rw[if_neg (λe=>aj e.symm)]
  .rw[cN];simp[World.setCell]
theorem tv {d:I} {v:Value} (h:cO d v) (af:∀ar,d≠.tuple ar):v.cells=(bL v).toArray:=by
 cases d with
 |tuple ar=>exact(af _ rfl).elim
 |agg ar=>obtain⟨arr,rfl⟩:=h;simp[Value.cells,bL,gk]
 |_=>
  have ab:Value.eZ v=true:=h;rw[eV ab];cases v<;>first|rfl|(simp[Value.eZ]at ab)
def iC (C:bA) (s:ah) (T:TypeId) (x y:I):Option ah:=
 match b9 s y,loc s x with
 |some (d,s1),some (z,q)=>match d with
  | .tuple _=>none
  |d=>match I.sub q (s z)with
   |some d0=>if d.wd=d0.wd/\d.wd=(C.T T).sz/\(C.T T).ok=true/\y.owner≠some z then some (cl (ft z s1) z (I.put q d (s z)))else none
   |none=>none
 |_,_=>none
theorem JU {s s1:ah} {y d:I} {z:Nat} (h:b9 s y=some (d,s1)) (bz:(s z).tree=true) (a2:y.owner≠some z):s1 z=s z:=by
 cases y with
 |h x q=>
  simp only[b9]at h;split at h
  .split at h
   .cases h
   .simp only[some.injEq,Prod.mk.injEq]at h;obtain⟨_,rfl⟩:=h;rw[hg _ _ (λe=>a2 (by rw[I.owner,e]))];exact yY bz
  .cases h
 |ao x q=>simp[b9]at h
 |U x q=>simp[b9]at h
 |fn f c=>simp[b9]at h
 |hole=>simp[b9]at h
 |_=>simp only[b9,some.injEq,Prod.mk.injEq]at h;rw[h.2]
theorem JV (a0:C.dm) (h:bg w0 F0 X F S s aq w) {T:TypeId} {x y:I} {fi g5:Value} (za:aA w F s aq x fi (λ_=>False)) (a2:y.plain=true) (JW:aA w F s aq y g5 (λ_=>False))
  {s2:ah} (he:iC C s T x y=some s2):
  ∃az aF,(Instr.storeAt T fi g5).run C.P w= .ok () az/\bg w0 F0 X F aF s2 aq az:=by
 unfold iC at he;split at he
 .rename_i d s1 z q aN hl;have key:∀d:I,(∀ar,d≠.tuple ar)->b9 s y=some (d,s1)->(match I.sub q (s z)with
   |some d0=>if d.wd=d0.wd/\d.wd=(C.T T).sz/\(C.T T).ok=true/\y.owner≠some z then some (cl (ft z s1) z (I.put q d (s z)))else none
   |none=>none)=some s2->∃az aF,(Instr.storeAt T fi g5).run C.P w= .ok () az/\bg w0 F0 X F aF s2 aq az:=by
   intro d n9 aN he;split at he
   .rename_i d0 kK;split at he
    .rename_i qb;obtain⟨ab,ad,aB,aY⟩:=qb;simp only[some.injEq]at he;subst he;obtain⟨kJ,b4,b,o,rfl,iO⟩:=y6 h za hl kK;obtain⟨S1,e4,aO,a3,Sn,bJ,cN,dD,gp,gW,jS⟩:=mw h a2 JW aN;have cK:s1 z=s z:=JU aN (gl kK (.inr kJ)) aY;rw[<-cK]at kK kJ iO⊢;obtain⟨eC,eh,l,r,cur,e,fr,k0,bM,b1,cZ,cF⟩:=e4.store kK kJ bJ ab cN dD gp gW;rw[iO]at k0;simp only[some.injEq,Prod.mk.injEq,true_and]at k0;obtain⟨rfl,rfl,rfl⟩:=k0;obtain⟨i,d,nf,aM,aS,aV,bK,cn,bB,bt⟩:=a0.info aB;have hlen:=al.length _ _ _ bJ;have hm:b4.length=(bL g5).length:=by
      have rE:=e4.cE z;rw[aA.bY (gl kK (.inr kJ))]at rE;obtain⟨_,_,_,_,mr,_,_,_,mx,_⟩:=ctx q (s1 z) (bL (aq z)) (S1 z) none _ rE.2 kK;rw[iO]at mr;simp only[some.injEq,Prod.mk.injEq,true_and]at mr;rw[mr.1,al.length _ _ _ mx,hlen,ab]
     obtain⟨az,dZ,fj,gQ,jT,la,n_,oa⟩:=vN (P:=C.P) (b:=b) (o:=l.length) (e:=e) (fr:=fr) (bL g5) 0 cur w l b4 r bM cZ b1 rfl hm (al.qa _ _ _ bJ);obtain⟨aF,dL⟩:=cF az fj gQ jT la n_ oa;refine⟨az,aF,?_,dL⟩;have my:=tv a3 n9;simp[Instr.storeAt,Instr.sureAddr,storeVar,hY aM,aS,my,hlen,ad,dZ]
    .cases he
   .cases he
  split at he
  .cases he
  .rename_i n9;exact key _ (λar e=>n9 ar e) aN he
 .cases he
theorem bg.alloc (h:bg w0 F0 X F S s aq w) {d:I} {cs:Xw} {Sn:Nat->Prop} (e:TypeId) (aD:al w F d cs Sn)
  (c8:∀b,Sn b->b<w.heap.size) (a1:∀b,Sn b->¬F b) (bm:∀u b,Sn b->¬S u b) (ba:∀b,Sn b->X b\/w0.heap.size<=b):
  bg w0 F0 X F S s aq (w.alloc (.cells cs.toArray e))/\
   jc w0 X F S s aq (w.alloc (.cells cs.toArray e)) (.bh d) (.pointer (some ⟨w.heap.size,0,none⟩)):=by
 have hold:∀b,b<w.heap.size->(w.alloc (.cells cs.toArray e)).heap[b]? =w.heap[b]? :=by
  intro b U;show(w.heap.push _)[b]? =_;rw[Array.getElem?_push,if_neg (by omega)]
 refine⟨h.grow hold (by simp) rfl rfl ⟨rfl,λ_=>Nat.le_refl _⟩,.inr ⟨rfl,rfl,λb=>b=w.heap.size\/Sn b,?_,?_,?_,?_,?_⟩⟩
 .rw[al];refine⟨w.heap.size,cs.toArray,e,(0,0),Sn,rfl,.inl rfl,?_,?_,?_,λc aj=>.inr aj,λaj=>Nat.lt_irrefl _ (c8 _ aj)⟩
  .show(w.heap.push _)[_]? =_;simp
  .intro o _ ⟨_,ad⟩;exact absurd ad (not_lt_zero _)
  .exact al.frame (λb U=>hold b (h.eu b U)) _ _ _ (λb U=>hold b (c8 b U)) aD
 .rintro b (rfl|U)
  .simp
  .have:=c8 b U;simp;omega
 .rintro b (rfl|U) mz
  .exact Nat.lt_irrefl _ (h.eu _ mz)
  .exact a1 b U mz
 .rintro u b (rfl|U) hu
  .exact Nat.lt_irrefl _ (h.dA _ _ hu)
  .exact bm u b U hu
 .rintro b (rfl|U)
  .exact .inr h.size
  .exact ba b U
def kL (C:bA) (T:TypeId):Option I:=if(C.T T).ok=true then(match(C.T T).k,(C.T T).zero with
    | .fw e,.agg [.cJ,.a5]=>some (.cS (.gv T e []))
    | .fw _,_=>none
    |_,z=>(match flat z with|some _=>some (.bh z)|none=>none))else none
theorem JX (a0:C.dm) (h:bg w0 F0 X F S s aq w) {T:TypeId} (he:kL C T=some av):Good C w0 F0 X aq w (Instr.alloc T true (.tuple #[])) av s:=by
 unfold kL at he;split at he
 .rename_i ai;split at he
  .rename_i VT VU JY;simp only[some.injEq]at he;subst he;obtain⟨i,d,z,aM,aS,aV,bK,cn,bB,bt⟩:=a0.info ai;have bz:=cn [.pointer none,.slice none 0 0] (by rw[JY];rfl);have hold:∀b,b<w.heap.size->(w.alloc (.cells #[.pointer none,.slice none 0 0] T)).heap[b]? =w.heap[b]? :=by
    intro b U;show(w.heap.push _)[b]? =_;rw[Array.getElem?_push,if_neg (by omega)]
   refine⟨.pointer (some ⟨w.heap.size,0,none⟩),w.alloc (.cells #[.pointer none,.slice none 0 0] T),F,S,?_,h.grow hold (by simp) rfl rfl ⟨rfl,λ_=>Nat.le_refl _⟩,.inr ⟨rfl,rfl,λb=>b=w.heap.size,?_,?_,?_,?_,?_⟩⟩
   .simp[Instr.alloc,o8 aM bK,newVar,newRow,newObj,Sem.run,bz]
   .rw[al];refine⟨w.heap.size,.pointer none,.slice none 0 0,rfl,rfl,?_,.inl rfl,.inl ⟨rfl,rfl⟩⟩;show(w.heap.push _)[_]? =_;simp
   .rintro b rfl;simp
   .rintro b rfl mz;exact Nat.lt_irrefl _ (h.eu _ mz)
   .rintro u b rfl hu;exact Nat.lt_irrefl _ (h.dA _ _ hu)
   .rintro b rfl;exact .inr h.size
  .cases he
  split at he
  .rename_i cs hB;simp only[some.injEq]at he;subst he;obtain⟨i,d,z,aM,aS,aV,bK,cn,bB,bt⟩:=a0.info ai;have bz:=cn cs hB;obtain⟨dx,br⟩:=h.alloc (d:=(C.T T).zero) T ((al.flat _).1 _ cs (λ_=>False) (Nat.le_refl _) hB) (λ_ h=>h.elim) (λ_ h=>h.elim) (λ_ _ h=>h.elim) (λ_ h=>h.elim);refine⟨_,_,F,S,?_,dx,br⟩;simp[Instr.alloc,o8 aM bK,newVar,newRow,newObj,Sem.run,bz]
  .cases he
 .cases he
def g6 (s:ah) (x:I):Option (I×ah):=match b9 s x with
 |some (.tuple _,_)=>none
 |some (d,s1)=>some (.bh d,s1)
 |none=>none
def h0 (s:ah) (x:I):Option (I×ah):=match x with
 | .h y q=>match q,s y with
   |[],.agg ds=>if I.dz ds then none else some (.U y 0,s)
   |_,_=>none
 | .fn f caps=>if caps.all (λd=>d.single&&(d.tree&&d.plain))=true then some (.ref (.fn f caps),s)else none
 |_=>none
theorem aQ.DE {w:World} {F bo:Nat->Prop} {s:ah} {aq:Nat->Value} (a1:∀b,F b->bo b):∀(ds:Xy) (vs:Xw),(∀d∈ds,d.single=true/\d.tree=true/\d.plain=true)->c5 w F s aq ds vs->aQ w bo ds vs (λ_=>False)
 |[],vs,_,h=>by rw[c5]at h;rw[aQ];exact h
 |d::ds,vs,aa,h=>by
  rw[c5]at h;obtain⟨v,hX,rfl,ab,ad⟩:=h;obtain⟨d1,d2,d3⟩:=aa d (by simp);have aB:=(aA.bY d2).1 ab;have bG:Value.eZ v=true:=by
   have:=aB.1;cases d<;>first|exact this|cases d1
  have aY:=aB.2;rw[eV bG]at aY;rw[aQ];exact⟨[v],hX,λ_=>False,λ_=>False,rfl,al.mono a1 _ _ _ _ (λ_ h=>h) aY,aQ.DE a1 ds hX (λx an=>aa x (by simp[an])) ad,λ_ h=>h,λ_ h=>h,λ_ h=>h.elim⟩
theorem JZ {T:TypeId} {v:Value} (h:bg w0 F0 X F S s aq w):bg w0 F0 X (λb=>F b\/b=w.heap.size) S s aq (w.alloc (.cells (bL v).toArray T)):=by
 have hold:∀b,b<w.heap.size->(w.alloc (.cells (bL v).toArray T)).heap[b]? =w.heap[b]? :=by
  intro b U;show(w.heap.push _)[b]? =_;rw[Array.getElem?_push,if_neg (by omega)]
 have ab:=h.grow hold (by simp) rfl rfl ⟨rfl,λ_=>Nat.le_refl _⟩;exact {
  fN:=λb U=>.inl (ab.fN b U)
  gm:=λb U=>by
   rcases U with U|rfl
   .exact ab.gm b U
   .exact .inr (.inr h.size)
  eu:=λb U=>by
   rcases U with U|rfl
   .exact ab.eu b U
   .simp
  dA:=ab.dA
  eH:=λt b U bk=>by
   rcases bk with bk|rfl
   .exact ab.eH t b U bk
   .exact absurd (h.dA t _ U) (Nat.lt_irrefl _)
  ej:=ab.ej
  cW:=ab.cW
  cE:=λt=>aA.frame (λ_ _=>rfl) (λb U=>.inl U) (λ_ _ _=>rfl) ab.cE _ _ _ (λ_ _=>rfl) (ab.cE t)
  old:=ab.old
  size:=ab.size
  os:=ab.os
  tape:=ab.tape
  output:=ab.output
  gn:=h.gn}
theorem J0 (h:bg w0 F0 X F S s aq w) {T:TypeId} {x:I} {v:Value} (aD:aA w F s aq x v (λ_=>False)) (he:h0 s x=some (av,s1)):
  Good C w0 F0 X aq w (Instr.box T v) av s1:=by
 unfold h0 at he;split at he
 .rename_i y q;split at he
  .rename_i ds k_;split at he
   .cases he
   .rename_i tu;simp only[some.injEq,Prod.mk.injEq]at he;obtain⟨rfl,rfl⟩:=he;rw[aA]at aD;obtain⟨b4,a,aO,a3,bJ⟩:=aD (s y) (by simp only[I.sub]) (by rw[k_];simp only[I.plain];simpa using tu);simp only[cu,some.injEq,Prod.mk.injEq,true_and]at aO;rw[k_]at bJ;have my:=tv bJ (λar e=>by cases e);have hold:∀b,b<w.heap.size->(w.alloc (.cells (bL v).toArray T)).heap[b]? =w.heap[b]? :=by
     intro b U;show(w.heap.push _)[b]? =_;rw[Array.getElem?_push,if_neg (by omega)]
    refine⟨.pointer (some ⟨w.heap.size,0,none⟩),w.alloc (.cells (bL v).toArray T),λb=>F b\/b=w.heap.size,S,by simp[Instr.box,newVar,newRow,newObj,Sem.run,my],?_,.inl ⟨rfl,?_⟩⟩
    .have ab:=h.grow hold (by simp) rfl rfl ⟨rfl,λ_=>Nat.le_refl _⟩;exact {
      fN:=λb U=>.inl (ab.fN b U)
      gm:=λb U=>by
       rcases U with U|rfl
       .exact ab.gm b U
       .exact .inr (.inr h.size)
      eu:=λb U=>by
       rcases U with U|rfl
       .exact ab.eu b U
       .simp
      dA:=ab.dA
      eH:=λt b U bk=>by
       rcases bk with bk|rfl
       .exact ab.eH t b U bk
       .exact absurd (h.dA t _ U) (Nat.lt_irrefl _)
      ej:=ab.ej
      cW:=ab.cW
      cE:=λt=>aA.frame (λ_ _=>rfl) (λb U=>.inl U) (λ_ _ _=>rfl) ab.cE _ _ _ (λ_ _=>rfl) (ab.cE t)
      old:=ab.old
      size:=ab.size
      os:=ab.os
      tape:=ab.tape
      output:=ab.output
      gn:=h.gn}
    .rw[aA];intro _;refine⟨w.heap.size,(bL v).toArray,T,(0,0),rfl,.inr rfl,?_,?_⟩
     .show(w.heap.push _)[_]? =_;simp
     .rw[aO.1,<-a3]
  .cases he
 .rename_i f caps;split at he
  .rename_i aj;simp only[some.injEq,Prod.mk.injEq]at he;obtain⟨rfl,rfl⟩:=he;have hB:∀d∈caps,d.single=true/\d.tree=true/\d.plain=true:=λd af=>by
    have:=List.all_eq_true.1 aj d af;simpa only[Bool.and_eq_true]using this
   rw[aA]at aD;obtain⟨arr,rfl,aD⟩:=aD;have my:=tv (d:=.fn f caps) (v:=.func (.func f) #[] arr) rfl (λar e=>by cases e);have bf:=JZ (T:=T) (v:=.func (.func f) #[] arr) h;refine⟨.pointer (some ⟨w.heap.size,0,none⟩),w.alloc (.cells (bL (.func (.func f) #[] arr)).toArray T),λb=>F b\/b=w.heap.size,S,by simp[Instr.box,newVar,newRow,newObj,Sem.run,my],bf,.inl ⟨rfl,?_⟩⟩;refine(aA.bY rfl).2 ⟨rfl,?_⟩;rw[al];refine⟨w.heap.size,0,[.func (.func f) #[] arr],rfl,.inr rfl,?_,?_⟩
   .have kH:(w.alloc (.cells (bL (.func (.func f) #[] arr)).toArray T)).heap[w.heap.size]? =some (.cells (bL (.func (.func f) #[] arr)).toArray T (0,0)):=by
     show(w.heap.push _)[_]? =_;simp
    intro j c b6;cases j with
    |zero=>
     simp only[getElem?_cons_zero,some.injEq]at b6;subst b6;have e:bL (.func (.func f) #[] arr)=[.func (.func f) #[] arr]:=eV rfl;unfold World.cell?;show(match(w.alloc (.cells (bL (.func (.func f) #[] arr)).toArray T)).heap[w.heap.size]? with
      |some (.cells c _ _)=>c[0+0]?
      |_=>none)=_
     rw[kH,e];rfl
    |succ j=>simp at b6
   .rw[al];refine⟨arr,rfl,λd af=>(hB d af).1,?_⟩;have bn:=aQ.DE (bo:=F) (λb U=>U) caps arr.toList hB aD;refine aQ.mono (F:=F) (λb U=>.inl U) caps _ _ _ (λ_ h=>h) (aQ.frame (λb U=>?_) caps _ _ (λ_ h=>h.elim) bn);have c8:=h.eu b U;show(w.heap.push _)[b]? =_;rw[Array.getElem?_push,if_neg (by omega)]
  .cases he
 .cases he
theorem J1 (h:bg w0 F0 X F S s aq w) {T:TypeId} {x:I} {v:Value} (an:x.plain=true) (aD:aA w F s aq x v (λ_=>False)) (he:g6 s x=some (av,s1)):
  Good C w0 F0 X aq w (Instr.box T v) av s1:=by
 unfold g6 at he;split at he
 .cases he
 .rename_i d s2 n9 aN;simp only[some.injEq,Prod.mk.injEq]at he;obtain⟨rfl,rfl⟩:=he;obtain⟨S1,e4,aO,a3,Sn,bJ,cN,dD,gp,gW,jS⟩:=mw h an aD aN;obtain⟨dx,br⟩:=e4.alloc T bJ cN dD gp gW;refine⟨_,_,F,S1,?_,dx,br⟩;have my:=tv a3 (λar e=>n9 ar e);simp[Instr.box,newVar,newRow,newObj,Sem.run,my]
 .cases he
end
end Go.cM
