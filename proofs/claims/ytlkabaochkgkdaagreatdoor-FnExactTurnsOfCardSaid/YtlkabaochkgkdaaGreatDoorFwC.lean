/- Part of a proof that a law returns true for every input. No condition. -/
import Derived.Test.YtlkabaochkgkdaaGreatDoorFwB
import Derived.Laws.Entries
namespace Go.c_
inductive od where
 |int (k:IntKind)
 |bool
 |str
 |ptr (e:TypeId)
 |slice (e:TypeId)
 |struct (az:List (TypeId×Nat))
 |fn
 |fA (e:TypeId)
 |map (k e:TypeId)
 |other
structure hb where
 k:od
 sz:Nat
 bytes:Nat
 zero:I
mutual
def flat:I->Option (List Value)
 | .bool b=>some [.bool b]
 | .int k n=>some [.int k n]
 | .str s=>some [.string ⟨⟨s⟩⟩]
 | .dS=>some [.pointer none]
 | .bz=>some [.slice none 0 0]
 | .agg az=>rr az
 | .eD .sv=>some [.map none]
 |_=>none
def rr:List I->Option (List Value)
 |[]=>some []
 |d::ds=>match flat d,rr ds with
  |some a,some b=>some (a++b)
  |_,_=>none
end
theorem ax.flat {w:World} {F:Nat->Prop}:∀n,(∀(d:I) (cs:List Value) (S:Nat->Prop),SizeOf.sizeOf d<=n->flat d=some cs->ax w F d cs S)/\
  (∀(ds:List I) (cs:List Value) (S:Nat->Prop),SizeOf.sizeOf ds<=n->rr ds=some cs->bm w F ds cs S):=by
 intro n;induction n with
 |zero=>exact⟨λd _ _ cg=>by cases d<;>simp at cg<;>omega,λds _ _ cg=>by cases ds<;>simp at cg<;>omega⟩
 |succ n ih=>
  refine⟨λd cs S cg h=>?_,λds cs S cg h=>?_⟩
  .cases d with
   |agg az=>rw[ax];exact ih.2 az cs S (by simp at cg;omega) (by simpa [c_.flat]using h)
   |bool b=>simp[c_.flat]at h;subst h;rw[ax]
   |int k n=>simp[c_.flat]at h;subst h;rw[ax]
   |str s=>simp[c_.flat]at h;subst h;rw[ax]
   |dS=>simp[c_.flat]at h;subst h;rw[ax]
   |bz=>simp[c_.flat]at h;subst h;rw[ax]
   |eD o=>cases o<;>simp[c_.flat]at h;subst h;rw[ax];rfl
   |_=>simp[c_.flat]at h
  .cases ds with
   |nil=>simp[rr]at h;subst h;rw[bm]
   |cons d ds=>
    simp only[rr]at h;split at h
    .rename_i a b cf ad;simp at h;subst h;simp at cg;rw[bm];exact⟨a,b,λ_=>False,λ_=>False,rfl,ih.1 d a _ (by omega) cf,ih.2 ds b _ (by omega) ad,λ_ h=>h.elim,λ_ h=>h.elim,λ_ h=>h.elim⟩
    .cases h
def mf:od->TypeDesc->Prop
 | .int k,.int di=>k=di
 | .bool,.bool=>True
 | .str,.string=>True
 | .ptr e,.pointer gP=>e=gP
 | .slice e,.slice gP=>e=gP
 | .struct az,.struct gs=>gs.toList.map (λg=>(g.type,g.offset))=az
 | .fn,.func _ _ _=>True
 | .fA _,.struct _=>True
 | .map k e,.map di gP=>k=di/\e=gP
 |_,_=>False
def Le (P:Program) (t:TypeId) (x:hb):Prop:=
 (∃e n b z,x=⟨.other,e,n,b⟩/\z=0)\/
 ∃i d z,P.info? t=some i/\i.size=x.sz/\i.bytes=x.bytes/\i.zero=some z/\(∀cs,flat x.zero=some cs->z.cells=cs.toArray)/\P.underlying t=some d/\mf x.k d
structure cl where
 P:Program
 T:TypeId->hb
 M:FuncId->List Bool
structure cl.fc (C:cl):Prop where
 ty:∀t,Le C.P t (C.T t)
 mixed:C.P.follows .mixedOrders=true
inductive aI where
 |t (n:Nat)
 |c (av:I)
 |f (g:FuncId)
def BX:Value->Option I
 | .bool b=>some (.bool b)
 | .int k n=>some (.int k n)
 | .string s=>some (.str s.data.toList)
 | .pointer none=>some .dS
 | .slice none 0 0=>some .bz
 |_=>none
def d_:Operand->Option aI
 | .tmp n=>some (.t n)
 | .const v=>(BX v).map .c
 | .func g=>some (.f g)
 | .global _=>none
def jP (x:Nat) (d:I):I:=if d.plain then d else .h x []
def aP (s:ar):aI->I
 | .t n=>jP n (s n)
 | .c av=>av
 | .f g=>.fn g []
theorem aO.nothing {w:World} {F:Nat->Prop} {s:ar} {aC:Nat->Value} {d:I} {v:Value} {S aW:Nat->Prop} (au:d.plain=true) (h:aO w F s aC d v S):aO w F s aC d v aW:=by
 cases d<;>first
  |(rw[aO];trivial)
  |(rw[aO]at h⊢;exact h)
  |(have bt:=(aO.cT rfl).1 h;exact(aO.cT rfl).2 ⟨bt.1,ax.plain _ _ _ _ au bt.2⟩)
section
variable {w0 w:World} {F0 X F:Nat->Prop} {S:Nat->Nat->Prop} {s:ar} {aC:Nat->Value} {a:Act}
theorem Lf (s:ar) (x:aI) (aq:∀av,x= .c av->av.plain=true):(aP s x).plain=true:=by
 cases x with
 |t n=>simp only[aP,jP];split<;>first|assumption|rfl
 |c av=>exact aq _ rfl
 |f g=>rfl
theorem G1 {v:Value} {av:I} (h:BX v=some av):av.plain=true:=by
 unfold BX at h;split at h<;>simp at h<;>subst h<;>rfl
theorem fL (h:bU w0 F0 X F S s aC w) (eN:∀t,aC t=a.tmps.getD t undef) {o:Operand} {x:aI} (cy:d_ o=some x):
  (aP s x).plain=true/\aO w F s aC (aP s x) (a.eval o) (λ_=>False):=by
 cases o with
 |tmp n=>
  simp[d_]at cy;subst cy;simp only[aP,jP,Act.eval,<-eN];split
  .rename_i au;exact⟨au,aO.nothing au (h.dF n)⟩
  .rename_i au;refine⟨rfl,?_⟩;rw[aO];intro d aj G2;simp only[I.sub,Option.some.injEq]at aj;subst aj;have bj:=iE (q:=[]) rfl (.inl G2);exact⟨_,none,rfl,rfl,((aO.cT bj).1 (h.dF n)).1⟩
 |const v=>
  simp only[d_,Option.map_eq_some_iff]at cy;obtain⟨av,pH,rfl⟩:=cy;refine⟨G1 pH,?_⟩;simp only[aP,Act.eval];unfold BX at pH;split at pH<;>simp at pH<;>subst pH<;>rw[aO,ax]<;>exact⟨rfl,rfl⟩
 |func g=>
  simp[d_]at cy;subst cy;refine⟨rfl,?_⟩;simp only[aP,Act.eval];rw[aO];exact⟨#[],rfl,by rw[eH]⟩
 |global g=>simp[d_]at cy
def mg (w0:World) (X F:Nat->Prop) (S:Nat->Nat->Prop) (s:ar) (aC:Nat->Value) (w:World) (av:I) (v:Value):Prop:=
 (av.plain=true/\aO w F s aC av v (λ_=>False))\/
 (av.tree=true/\eA av v/\∃Sn,ax w F av (cz v) Sn/\(∀b,Sn b->b<w.heap.size)/\(∀b,Sn b->¬F b)/\(∀u b,Sn b->¬S u b)/\(∀b,Sn b->X b\/w0.heap.size<=b))
def fin (s:ar) (dst:Option Nat) (av:I):ar:=match dst with
 |none=>s
 |some t=>if av.plain then dD s t av else dD (mD t s) t av
def oe (aC:Nat->Value) (dst:Option Nat) (v:Value):Nat->Value:=match dst with
 |none=>aC
 |some t=>dD aC t v
theorem bU.fin (h:bU w0 F0 X F S s aC w) {av:I} {v:Value} (aT:mg w0 X F S s aC w av v) (dst:Option Nat):
  ∃aW,bU w0 F0 X F aW (c_.fin s dst av) (oe aC dst v) w:=by
 cases dst with
 |none=>exact⟨S,h⟩
 |some t=>
  simp only[c_.fin,oe];rcases aT with⟨au,aj⟩|⟨bj,ae,Sn,ag,ah,aN,bg,bR⟩
  .rw[if_pos au];exact⟨_,h.wk au aj⟩
  .split
   .rename_i au;exact⟨_,h.wk au ((aO.cT bj).2 ⟨ae,ax.plain _ _ _ _ au ag⟩)⟩
   .exact⟨_,h.K_ bj ae ag ah aN (λu b _ ad=>bg u b ad) bR⟩
def db (s:ar):I->Option (I×ar)
 | .h x q=>match I.sub q (s x)with
   |some d=>if d.plain then none else some (d,dD (iO x s) x (I.put q d.dz (s x)))
   |none=>none
 | .au _ _=>none
 | .ad _ _=>none
 | .fn _ _=>none
 | .hole=>none
 |d=>some (d,s)
def I.owner:I->Option Nat
 | .h x _=>some x
 |_=>none
def lV:Option Nat->I->I
 |some x,d=>ct x d
 |none,d=>d
theorem pI (h:bU w0 F0 X F S s aC w) {av d:I} {s1:ar} {v:Value} (pH:av.plain=true) (aT:aO w F s aC av v (λ_=>False)) (bj:db s av=some (d,s1)):
  ∃ck,bU w0 F0 X F ck s1 aC w/\d.tree=true/\eA d v/\∃Sn,ax w F d (cz v) Sn/\(∀b,Sn b->b<w.heap.size)/\(∀b,Sn b->¬F b)/\(∀u b,Sn b->¬ck u b)/\(∀b,Sn b->X b\/w0.heap.size<=b)/\
   (∀u b,ck u b->S u b)/\(∀b,Sn b->∃u,S u b)/\(∀(bE:I) (gQ:Value) (aW:Nat->Prop),aO w F s aC bE gQ aW->aO w F s1 aC (lV av.owner bE) gQ aW):=by
 have tree:∀d:I,d.tree=true->d.plain=true->aO w F s aC d v (λ_=>False)->
   ∃ck,bU w0 F0 X F ck s aC w/\d.tree=true/\eA d v/\∃Sn,ax w F d (cz v) Sn/\(∀b,Sn b->b<w.heap.size)/\(∀b,Sn b->¬F b)/\(∀u b,Sn b->¬ck u b)/\(∀b,Sn b->X b\/w0.heap.size<=b)/\
    (∀u b,ck u b->S u b)/\(∀b,Sn b->∃u,S u b):=by
  intro d aj _ bt;have bt:=(aO.cT aj).1 bt;exact⟨S,h,aj,bt.1,_,bt.2,λ_ h=>h.elim,λ_ h=>h.elim,λ_ _ h=>h.elim,λ_ h=>h.elim,λ_ _ h=>h,λ_ h=>h.elim⟩
 cases av with
 |h x q=>
  simp only[db]at bj;split at bj
  .rename_i e he;split at bj
   .cases bj
   .rename_i au;simp only[Option.some.injEq,Prod.mk.injEq]at bj;obtain⟨rfl,rfl⟩:=bj;have au:e.plain=false:=by simpa using au
    obtain⟨Sn,fP,c6,c7,ei,bp,dk,b5,dj,dw,dW⟩:=h.take he au;rw[aO]at aT;obtain⟨aGV,a2,g1,g2,g3⟩:=aT e he au;rw[bp]at g1;simp only[Option.some.injEq,Prod.mk.injEq,true_and]at g1;obtain⟨rfl,rfl⟩:=g1;have G3:e.tree=true:=by cases e<;>first|rfl|(simp[I.plain]at au)
    refine⟨_,ei,G3,g3,fP,by rw[g2];exact dk,λb ad=>h.e7 x b (b5 b ad),λb ad=>h.gf x b (b5 b ad),?_,λb ad=>h.ey x b (b5 b ad),?_,λb ad=>⟨x,b5 b ad⟩,dW⟩
    .intro u b ad hu;simp only[gq]at hu;split at hu
     .exact dw b ad hu
     .rename_i BZ;exact h.fz u x b BZ hu (b5 b ad)
    .intro u b hu;simp only[gq]at hu;split at hu
     .rename_i e;subst e;exact dj b hu
     .exact hu
  .cases bj
 |au x q=>simp[db]at bj
 |ad x q=>simp[db]at bj
 |fn f c=>simp[db]at bj
 |hole=>simp[db]at bj
 |ao sz xs=>simp[I.plain]at pH
 |bh d=>simp[I.plain]at pH
 |_=>
  simp only[db,Option.some.injEq,Prod.mk.injEq]at bj;obtain⟨rfl,rfl⟩:=bj;obtain⟨ck,t1,t2,t3,Sn,t4,t5,t6,t7,t8,t9,t10⟩:=tree _ rfl pH aT;exact⟨ck,t1,t2,t3,Sn,t4,t5,t6,t7,t8,t9,t10,λ_ _ _ h=>h⟩
def loc (s:ar):I->Option (Nat×List Nat)
 | .h x q=>match I.sub q (s x)with
   |some (.bh _)=>some (x,q++[0])
   |_=>none
 | .au x q=>if I.gd q (s x)then some (x,q)else none
 |_=>none
theorem yI:∀(q:List Nat) (av d:I) (r:List Nat),I.sub q av=some d->I.sub (q++r) av=I.sub r d:=by
 intro q;induction q with
 |nil=>intro av d r h;simp[I.sub]at h;subst h;rfl
 |cons k q ih=>
  intro av d r h;cases av with
  |agg az=>
   simp only[I.sub,List.cons_append]at h⊢;split at h
   .rename_i x aw;exact ih _ _ _ h
   .cases h
  |tuple az=>
   simp only[I.sub,List.cons_append]at h⊢;split at h
   .rename_i x aw;exact ih _ _ _ h
   .cases h
  |ao sz az=>
   simp only[I.sub,List.cons_append]at h⊢;split at h
   .rename_i x aw;exact ih _ _ _ h
   .cases h
  |bh x=>
   cases k with
   |zero=>simp only[I.sub,List.cons_append]at h⊢;exact ih _ _ _ h
   |succ k=>simp[I.sub]at h
  |_=>simp[I.sub]at h
theorem TD:∀(q:List Nat) (av d:I) (r:List Nat),I.sub q av=some d->I.gd (q++r) av=(I.gd q av||I.gd r d):=by
 intro q;induction q with
 |nil=>intro av d r h;simp[I.sub]at h;subst h;simp[I.gd]
 |cons k q ih=>
  intro av d r h;cases av with
  |agg az=>
   simp only[I.sub]at h;split at h
   .rename_i x aw;simp only[I.gd,List.cons_append,aw];exact ih _ _ r h
   .cases h
  |tuple az=>
   simp only[I.sub]at h;split at h
   .rename_i x aw;simp only[I.gd,List.cons_append,aw];exact ih _ _ r h
   .cases h
  |ao sz az=>simp[I.gd]
  |bh x=>simp[I.gd]
  |_=>simp[I.sub]at h
theorem yJ (w:World):∀(q:List Nat) (av d:I) (cs c6:List Value) (a c7:Option (Nat×Nat)) (r:List Nat),dP w q av cs a=some (d,c6,c7)->dP w (q++r) av cs a=dP w r d c6 c7:=by
 intro q;induction q with
 |nil=>intro av d cs c6 a c7 r h;simp[dP]at h;obtain⟨rfl,rfl,rfl⟩:=h;rfl
 |cons k q ih=>
  intro av d cs c6 a c7 r h;cases av with
  |agg az=>
   rw[List.cons_append];rw[dP]at h⊢;split at h
   .rename_i x aw;exact ih _ _ _ _ _ _ _ h
   .cases h
  |tuple az=>
   rw[List.cons_append];rw[dP]at h⊢;split at h
   .rename_i x aw;exact ih _ _ _ _ _ _ _ h
   .cases h
  |ao sz az=>
   rw[List.cons_append];rw[dP.eq_def]at h⊢;simp only at h⊢;split at h
   .exact ih _ _ _ _ _ _ _ h
   .cases h
  |bh x=>
   cases k with
   |zero=>
    rw[List.cons_append];rw[dP.eq_def]at h⊢;simp only at h⊢;split at h
    .exact ih _ _ _ _ _ _ _ h
    .cases h
   |succ k=>rw[show dP w ((k+1)::q) (.bh x) cs a=none from rfl]at h;cases h
  |_=>simp[dP]at h
end
def hb.ok (x:hb):Bool:=match x.k with
 | .other=>false
 |_=>true
theorem cl.fc.info {C:cl} (bx:C.fc) {t:TypeId} (h:(C.T t).ok=true):
  ∃i d z,C.P.info? t=some i/\i.size=(C.T t).sz/\i.bytes=(C.T t).bytes/\i.zero=some z/\(∀cs,flat (C.T t).zero=some cs->z.cells=cs.toArray)/\C.P.underlying t=some d/\mf (C.T t).k d:=by
 rcases bx.ty t with⟨e,n,b,z,aw,_⟩|bt
 .rw[aw]at h;simp[hb.ok]at h
 .exact bt
theorem gG {x:hb} {k:od} (h:x.k=k) (ay:k≠.other):x.ok=true:=by
 unfold hb.ok;rw[h];cases k<;>first|rfl|exact(ay rfl).elim
theorem yK {d:TypeDesc} {az:List (TypeId×Nat)} (h:mf (.struct az) d):∃gs,d= .struct gs/\gs.toList.map (λg=>(g.type,g.offset))=az:=by
 cases d<;>simp[mf]at h;exact⟨_,rfl,h⟩
theorem mh {d:TypeDesc} {e:TypeId} (h:mf (.slice e) d):d= .slice e:=by
 cases d<;>simp[mf]at h;rw[h]
theorem yL {d:TypeDesc} {k:IntKind} (h:mf (.int k) d):d= .int k:=by
 cases d<;>simp[mf]at h;rw[h]
theorem qx {d:TypeDesc} (h:mf .str d):d= .string:=by
 cases d<;>simp[mf]at h;rfl
theorem G4 {d:TypeDesc} (h:mf .bool d):d= .bool:=by
 cases d<;>simp[mf]at h;rfl
theorem Lg {d:TypeDesc} {e:TypeId} (h:mf (.ptr e) d):d= .pointer e:=by
 cases d<;>simp[mf]at h;rw[h]
theorem hH {v:Value} (h:Value.ha v=true):cz v=[v]:=by
 cases v<;>first|rfl|(simp[Value.ha]at h)
theorem tT {P:Program} {t:TypeId} {i:TypeInfo} (h:P.info? t=some i) (w:World):(typeInfo t).run P w= .ok i w:=by simp[typeInfo,h]
theorem kJ {P:Program} {t:TypeId} {i:TypeInfo} (h:P.info? t=some i) (w:World):(Go.sizeOf t).run P w= .ok i.size w:=by simp[Go.sizeOf,tT h]
theorem sA {P:Program} {t:TypeId} {i:TypeInfo} {z:Value} (h:P.info? t=some i) (cg:i.zero=some z) (w:World):(zeroValue t).run P w= .ok z w:=by simp[zeroValue,tT h,cg]
section
variable {C:cl} {w0 w:World} {F0 X F:Nat->Prop} {S:Nat->Nat->Prop} {s s1:ar} {aC:Nat->Value} {av:I}
def Good (C:cl) (w0:World) (F0 X:Nat->Prop) (aC:Nat->Value) (w:World) (m:Sem Value) (av:I) (s1:ar):Prop:=
 ∃v aL b3 aW,m.run C.P w= .ok v aL/\bU w0 F0 X b3 aW s1 aC aL/\mg w0 X b3 aW s1 aC aL av v
theorem Good.same (h:bU w0 F0 X F S s aC w) {m:Sem Value} {v:Value} (aS:m.run C.P w= .ok v w) (au:av.plain=true) (aT:aO w F s aC av v (λ_=>False)):Good C w0 F0 X aC w m av s:=
 ⟨v,w,F,S,aS,h,.inl ⟨au,aT⟩⟩
theorem G5 (_h:bU w0 F0 X F S s aC w) {x:I} {v:Value} (aT:aO w F s aC x v (λ_=>False)) {y:Nat} {q:List Nat} (hl:loc s x=some (y,q)) {d:I} (aj:I.sub q (s y)=some d):
  I.gd q (s y)=true/\∃c6 b o,v= .pointer (some ⟨b,o,none⟩)/\dP w q (s y) (cz (aC y)) none=some (d,c6,some (b,o)):=by
 cases x with
 |h z fe=>
  simp only[loc]at hl;split at hl
  .rename_i e he;simp only[Option.some.injEq,Prod.mk.injEq]at hl;obtain⟨rfl,rfl⟩:=hl;rw[aO]at aT;obtain⟨c6,a,g1,g2,g3⟩:=aT _ he rfl;have h7:e=d:=by
    rw[yI _ _ _ _ he]at aj;simpa [I.sub]using aj
   subst h7;refine⟨by rw[TD _ _ _ _ he];simp[I.gd],?_⟩;have ag:Value.ha v=true:=g3;rw[hH ag]at g2;subst g2;have lE:=yJ w fe (s z) _ _ _ none a [0] g1;have aw:=_h.dF z;rw[aO.cT (iE he (.inl rfl))]at aw;obtain⟨gD,c7,eP,fP,k0,b7,cw,fi,ep,fQ⟩:=ctx fe (s z) (cz (aC z)) (S z) none _ aw.2 he;rw[k0]at g1;simp only[Option.some.injEq,Prod.mk.injEq,true_and]at g1;obtain⟨rfl,rfl⟩:=g1;rw[ax]at ep;obtain⟨b,cur,a6,fr,eo,aQ,_⟩:=ep;simp only[List.cons.injEq,and_true]at aQ;subst aQ;exact⟨_,b,0,rfl,by rw[lE];rfl⟩
  .cases hl
 |au z fe=>
  simp only[loc]at hl;split at hl
  .rename_i aq;simp only[Option.some.injEq,Prod.mk.injEq]at hl;obtain⟨rfl,rfl⟩:=hl;rw[aO]at aT;obtain⟨c6,b,o,g1,g2⟩:=aT _ aj aq;exact⟨aq,c6,b,o,g2,g1⟩
  .cases hl
 |_=>simp[loc]at hl
def cY (C:cl) (s:ar) (T:TypeId) (x:I) (k:Nat):Option I:=
 match(C.T T).k with
 | .struct az=>match az[k]? with
   |some (kq,off)=>if(C.T kq).ok=true/\(C.T kq).sz≠0 then
     match x with
     | .ref (.agg ds)=>match ds[k]? with
       |some d=>if I.eJ (ds.take k)=off then some (.ref d)else none
       |none=>none
     | .ad y o=>if(s y).plain then none else some (.ad y (o+off))
     |x=>match loc s x with
      |some (y,q)=>match I.sub q (s y)with
       |some (.agg ds)=>if k<ds.length/\I.eJ (ds.take k)=off then some (.au y (q++[k]))else none
       |_=>none
      |none=>none
    else none
   |none=>none
 |_=>none
theorem iA.G6 {w:World} {b o:Nat} {cv gC c2:List Value} (h:iA w b o (cv++(gC++c2))):iA w b (o+cv.length) gC:=by
 intro j c cH;have e6:j<gC.length:=(List.getElem?_eq_some_iff.1 cH).1;have:=h (cv.length+j) c (by rw[List.getElem?_append_right (by omega),List.getElem?_append_left (by omega),<-cH];congr 1;omega);rw[Nat.add_assoc];exact this
theorem G7 (bx:C.fc) {T kq:TypeId} {az:List (TypeId×Nat)} {k off:Nat} (ay:(C.T T).k= .struct az) (bw:az[k]? =some (kq,off)) (ag:(C.T kq).ok=true) (ah:(C.T kq).sz≠0) (b o:Nat) (w:World):
  (Instr.fieldAt T (.pointer (some ⟨b,o,none⟩)) k).run C.P w= .ok (.pointer (some ⟨b,o+off,none⟩)) w:=by
 obtain⟨i,d,z,aX,a6,aQ,cC,cF,cc,b4⟩:=bx.info (gG ay (by simp));rw[ay]at b4;obtain⟨gs,rfl,h8⟩:=yK b4;obtain⟨ru,bE,rv,f1,f2,f3,f4,f5,f6,f7⟩:=bx.info ag;have hg:∃g,gs[k]? =some g/\g.type=kq/\g.offset=off:=by
  rw[<-h8,List.getElem?_map]at bw;simp only[Option.map_eq_some_iff,Prod.mk.injEq]at bw;obtain⟨g,ag,ah,aN⟩:=bw;exact⟨g,by simpa using ag,ah,aN⟩
 obtain⟨g,g1,rfl,rfl⟩:=hg;simp[Instr.fieldAt,run_underlying cc,g1,Instr.sureAddr,fieldPlace,kJ f1,f2,ah,Addr.add_lit]
theorem TE (bx:C.fc) (h:bU w0 F0 X F S s aC w) {T:TypeId} {x:I} {v:Value} {k:Nat} (aw:x.plain=true) (aT:aO w F s aC x v (λ_=>False)) (he:cY C s T x k=some av):
  Good C w0 F0 X aC w (Instr.fieldAt T v k) av s:=by
 unfold cY at he;split at he
 .rename_i az ay;split at he
  .rename_i kq off bw;split at he
   .rename_i wo;split at he
    .rename_i ds;split at he
     .rename_i d aj;split at he
      .rename_i qy;simp only[Option.some.injEq]at he;subst he;have mi:=(aO.cT rfl).1 aT;rw[ax]at mi;obtain⟨ae,b,o,eT,ag,ah,aN,bg⟩:=mi;rw[hH ae]at ag;simp only[List.cons.injEq,and_true]at ag;subst ag;rw[ax]at bg;obtain⟨cv,gC,c2,ck,iC,rfl,iu,fY,hU,iD,gO,mW⟩:=bm.pick ds _ _ k d bg aj;refine Good.same h (G7 bx ay bw wo.1 wo.2 b o w) rfl ((aO.cT rfl).2 ⟨rfl,?_⟩);rw[ax];refine⟨b,o+off,gC,rfl,ah,?_,ax.mono (λ_ h=>h) _ _ _ _ (λb ad=>hU b ad) gO⟩;rw[<-qy,<-iu];exact aN.G6
      .cases he
     .cases he
    .rename_i y o;split at he
     .cases he
     .rename_i au;simp only[Option.some.injEq]at he;subst he;rw[aO]at aT;obtain⟨b,cur,e,fr,rfl,ah,aN,bg⟩:=aT (by simpa using au);refine Good.same h (G7 bx ay bw wo.1 wo.2 b o w) rfl ?_;rw[aO];exact λ_=>⟨b,cur,e,fr,rfl,ah,aN,bg⟩
    .rename_i x _ _;split at he
     .rename_i y q hl;split at he
      .rename_i ds aj;split at he
       .rename_i qy;simp only[Option.some.injEq]at he;subst he;obtain⟨aq,c6,b,o,rfl,lE⟩:=G5 h aT hl aj;refine Good.same h (G7 bx ay bw wo.1 wo.2 b o w) rfl ?_;rw[aO];intro d2 iw nF;rw[yJ w q _ _ _ _ _ _ [k] lE];rw[yI _ _ _ _ aj]at iw;have nG:∃d3,ds[k]? =some d3:=⟨_,List.getElem?_eq_getElem qy.1⟩
        obtain⟨d3,yM⟩:=nG;simp only[I.sub,yM,Option.some.injEq]at iw;subst iw;simp only[dP,yM];refine⟨(c6.drop off).take d3.wd,b,o+off,?_,rfl⟩;rw[qy.2];rfl
       .cases he
      .cases he
     .cases he
   .cases he
  .cases he
 .cases he
def fp (C:cl) (s:ar) (T:TypeId) (x i:I):Option I:=
 match(C.T T).k,i with
 | .slice e,.int _ n=>if 0<=n/\(C.T e).ok=true then
   match x with
   | .slice xs=>match xs[n.toNat]? with
     |some d=>if d.wd=(C.T e).sz then some (.ref d)else none
     |none=>none
   | .h y q=>match I.sub q (s y)with
     |some (.ao sz xs)=>if n.toNat<xs.length/\sz=(C.T e).sz then some (.au y (q++[n.toNat]))else none
     |_=>none
   |_=>none
   else none
 |_,_=>none
theorem Lh (bx:C.fc) {T e:TypeId} (ay:(C.T T).k= .slice e) (he:(C.T e).ok=true) (b o len cap:Nat) (k:IntKind) (n:Nat) (a7:n<len) (w:World):
  (Instr.indexAt T (.slice (some ⟨b,o,none⟩) len cap) (.int k n)).run C.P w= .ok (.pointer (some ⟨b,o+n*(C.T e).sz,none⟩)) w:=by
 obtain⟨i,d,z,aX,a6,aQ,cC,cF,cc,b4⟩:=bx.info (gG ay (by simp));rw[ay]at b4;have:=mh b4;subst this;obtain⟨ru,bE,rv,f1,f2,f3,f4,f5,f6,f7⟩:=bx.info he;simp[Instr.indexAt,run_underlying cc,asIntOf,a7,kJ f1,f2,Addr.add_lit]
theorem TF (bx:C.fc) (h:bU w0 F0 X F S s aC w) {T:TypeId} {x i:I} {v oQ:Value} (aT:aO w F s aC x v (λ_=>False)) (TG:aO w F s aC i oQ (λ_=>False))
  (he:fp C s T x i=some av):Good C w0 F0 X aC w (Instr.indexAt T v oQ) av s:=by
 unfold fp at he;split at he
 .rename_i e k n ay;have G8:=(aO.cT rfl).1 TG;rw[ax,hH G8.1]at G8;have:oQ= .int k n:=by simpa using G8.2
  subst this;split at he
  .rename_i a7;obtain⟨n,rfl⟩:=Int.eq_ofNat_of_zero_le a7.1;simp only[Int.toNat_natCast]at he;split at he
   .rename_i xs;split at he
    .rename_i d aj;split at he
     .rename_i hw;simp only[Option.some.injEq]at he;subst he;have mi:=(aO.cT rfl).1 aT;rw[ax,hH mi.1]at mi;obtain⟨ae,⟨rfl,_⟩|⟨b,o,cap,eT,sz,ag,ah,aN,bg,bR,cW,cE⟩⟩:=mi
      .simp at aj
      .simp only[List.cons.injEq,and_true]at ag;subst ag;have e6:n<xs.length:=(List.getElem?_eq_some_iff.1 aj).1;obtain⟨cv,gC,c2,ck,iC,rfl,iu,fY,hU,iD,gO,mW⟩:=bm.pick xs _ _ n d cE aj;refine Good.same h (Lh bx ay a7.2 b o _ _ k n e6 w) rfl ((aO.cT rfl).2 ⟨rfl,?_⟩);rw[ax];refine⟨b,_,gC,rfl,ah,?_,ax.mono (λ_ h=>h) _ _ _ _ (λb ad=>hU b ad) gO⟩;have TH:=bR d (List.mem_of_getElem? aj);have:n*(C.T e).sz=cv.length:=by
        rw[iu,tO _ (λd aj=>bR d (List.mem_of_mem_take aj)),List.length_take,Nat.min_eq_left (by omega),<-hw,TH]
       rw[this];exact cW.G6
     .cases he
    .cases he
   .rename_i y q;split at he
    .rename_i sz xs aj;split at he
     .rename_i hw;simp only[Option.some.injEq]at he;subst he;rw[aO]at aT;obtain⟨c6,a,g1,g2,g3⟩:=aT _ aj rfl;have ae:Value.ha v=true:=g3;rw[hH ae]at g2;subst g2;have aw:=h.dF y;rw[aO.cT (iE aj (.inl rfl))]at aw;obtain⟨gD,c7,eP,fP,k0,b7,cw,fi,ep,fQ⟩:=ctx q (s y) (cz (aC y)) (S y) none _ aw.2 aj;rw[k0]at g1;simp only[Option.some.injEq,Prod.mk.injEq,true_and]at g1;obtain⟨rfl,rfl⟩:=g1;rw[ax]at ep;rcases ep with⟨rfl,_⟩|⟨b,cap,cur,a6,fr,eo,aQ,_⟩
      .simp at hw
      .simp only[List.cons.injEq,and_true]at aQ;subst aQ;refine Good.same h (Lh bx ay a7.2 b 0 _ _ k n hw.1 w) rfl ?_;rw[aO];intro d2 iw _;rw[yJ w q _ _ _ _ _ _ [n] k0];rw[yI _ _ _ _ aj]at iw;obtain⟨d3,yM⟩:∃d3,xs[n]? =some d3:=⟨_,List.getElem?_eq_getElem hw.1⟩
       simp only[I.sub,yM,Option.some.injEq]at iw;subst iw;simp only[dP,yM];exact⟨_,b,n*sz,rfl,by simp[hw.2]⟩
     .cases he
    .cases he
   .cases he
  .cases he
 .cases he
end
section
variable {C:cl} {w0 w:World} {F0 X F:Nat->Prop} {S:Nat->Nat->Prop} {s s1:ar} {aC:Nat->Value} {av:I}
theorem Li (bx:C.fc) {T:TypeId} {az:List (TypeId×Nat)} (ay:(C.T T).k= .struct az) (w:World):(isAgg T).run C.P w= .ok true w:=by
 obtain⟨i,d,z,aX,a6,aQ,cC,cF,cc,b4⟩:=bx.info (gG ay (by simp));rw[ay]at b4;obtain⟨gs,rfl,_⟩:=yK b4;simp[isAgg,run_underlying cc]
def hb.flat (x:hb):Bool:=match x.k with
 | .other=>false
 | .fA _=>false
 | .struct _=>false
 |_=>true
theorem Lj {x:hb} (h:x.flat=true):x.ok=true:=by
 unfold hb.flat at h;unfold hb.ok;revert h;cases x.k<;>simp
theorem G9 (bx:C.fc) {T:TypeId} (ay:(C.T T).flat=true) (w:World):(isAgg T).run C.P w= .ok false w:=by
 obtain⟨i,d,z,aX,a6,aQ,cC,cF,cc,b4⟩:=bx.info (Lj ay);have dL:(∀az,d≠.struct az)/\(∀n e,d≠.array n e):=by
  clear cc;unfold hb.flat at ay;generalize (C.T T).k=mj at*;cases mj<;>cases d<;>simp[mf]at b4 ay⊢
 cases d<;>first|exact(dL.1 _ rfl).elim|exact(dL.2 _ _ rfl).elim|simp[isAgg,run_underlying cc]
theorem iA.one {w:World} {b o:Nat} {v:Value} (h:iA w b o [v]):w.cell? ⟨b,o,none⟩=some v:=by simpa using h 0 v rfl
theorem Lk {P:Program} {b o:Nat}:∀(cs:List Value) (i:Nat) (acc:Array Value),iA w b (o+i) cs->(loadCellsFrom ⟨b,o,none⟩ i cs.length acc).run P w= .ok (acc++cs.toArray) w
 |[],i,acc,_=>by simp[loadCellsFrom]
 |c::cs,i,acc,h=>by
  have ba:w.cell? ⟨b,o+i,none⟩=some c:=by simpa using h 0 c rfl
  have ag:iA w b (o+(i+1)) cs:=by
   intro j x cH;have:=h (j+1) x (by simpa using cH);rw[<-this];congr 2;omega
  have ih:=Lk (P:=P) cs (i+1) (acc.push c) ag;simp only[List.length_cons,loadCellsFrom,Sem.run_bind,Go.load,Sem.run,Addr.add_lit,ba,Result.andThen];rw[ih];simp
theorem TI (bx:C.fc) {T:TypeId} {az:List (TypeId×Nat)} (ay:(C.T T).k= .struct az) {b o:Nat} {cs:List Value} (h:iA w b o cs) (hl:cs.length=(C.T T).sz):
  (loadVar T ⟨b,o,none⟩).run C.P w= .ok (.agg cs.toArray) w:=by
 obtain⟨i,d,z,aX,a6,aQ,cC,cF,cc,b4⟩:=bx.info (gG ay (by simp));have:=Lk (P:=C.P) (b:=b) (o:=o) cs 0 #[] (by simpa using h);simp only[loadVar,Sem.run_bind,Li bx ay,Result.andThen,if_true,kJ aX,a6,<-hl,loadCells,this];simp
theorem Ll (bx:C.fc) {T:TypeId} (ay:(C.T T).flat=true) {b o:Nat} {v:Value} (h:iA w b o [v]):
  (loadVar T ⟨b,o,none⟩).run C.P w= .ok v w:=by
 simp[loadVar,G9 bx ay,Go.load,Sem.run,h.one]
def fits (C:cl) (T:TypeId) (d:I):Bool:=match(C.T T).k,d with
    | .struct _,.agg ds=>I.eJ ds==(C.T T).sz
    | .struct _,_=>false
    |_,.agg _=>false
    |_,.tuple _=>false
    |_,_=>(C.T T).flat
def B0:List I->Nat->Nat->Option Nat
 |[],_,_=>none
 |d::ds,i,k=>if k=0 then some i else if d.wd<=k then B0 ds (i+1) (k-d.wd)else none
def cp (C:cl) (s:ar) (T:TypeId) (x:I):Option I:=
 match x with
 | .ref d=>if fits C T d=true then some d else none
 | .ad y k=>match s y with
   | .agg ds=>if I.ef ds then none else match B0 ds 0 k with
     |some i=>match ds[i]? with
      |some d=>if I.eJ (ds.take i)=k/\fits C T d=true then some (if d.plain then d else .h y [i])else none
      |none=>none
     |none=>none
   |_=>none
 |x=>match loc s x with
  |some (y,q)=>match I.sub q (s y)with
   |some d=>if fits C T d=true then some (if d.plain then d else .h y q)else none
   |none=>none
  |none=>none
theorem ax.one {F:Nat->Prop} {d:I} {cs:List Value} {S:Nat->Prop} (h:ax w F d cs S) (ag:∀az,d≠.agg az) (ah:∀az,d≠.tuple az):∃v,cs=[v]/\Value.ha v=true:=by
 cases d with
 |hole=>rw[ax]at h;obtain⟨v,h,rfl⟩:=h;exact⟨v,rfl,h⟩
 |fs=>rw[ax]at h;obtain⟨v,rfl⟩:=h;exact⟨_,rfl,rfl⟩
 |slice xs=>rw[ax]at h;rcases h with⟨_,a,c,rfl,_⟩|⟨b,o,cap,eT,sz,rfl,_⟩<;>exact⟨_,rfl,rfl⟩
 |ao sz xs=>rw[ax]at h;rcases h with⟨_,_,rfl⟩|⟨b,cap,cur,e,fr,ey,rfl,_⟩<;>exact⟨_,rfl,rfl⟩
 |ref d=>rw[ax]at h;obtain⟨b,o,eT,rfl,_⟩:=h;exact⟨_,rfl,rfl⟩
 |bh d=>rw[ax]at h;obtain⟨b,cur,e,fr,ey,rfl,_⟩:=h;exact⟨_,rfl,rfl⟩
 |agg az=>exact(ag _ rfl).elim
 |tuple az=>exact(ah _ rfl).elim
 |fn _ _=>rw[ax]at h;obtain⟨arr,rfl,_⟩:=h;exact⟨_,rfl,rfl⟩
 |h _ _=>rw[ax]at h;exact h.elim
 |au _ _=>rw[ax]at h;exact h.elim
 |ad _ _=>rw[ax]at h;exact h.elim
 |eD _=>rw[ax]at h;obtain⟨v,hT,rfl⟩:=mB.one h;exact⟨v,rfl,hT⟩
 |_=>rw[ax]at h;subst h;exact⟨_,rfl,rfl⟩
theorem I.B1 {d:I} (h:d.single=true):(∀az,d≠.agg az)/\∀az,d≠.tuple az:=
 ⟨λaz e=>(by subst e;cases h),λaz e=>(by subst e;cases h)⟩
theorem aO.pJ {F:Nat->Prop} {s:ar} {aC:Nat->Value} {d:I} {v:Value} (bj:d.tree=true) (ae:d.single=true) (h:ax w F d [v] (λ_=>False)):aO w F s aC d v (λ_=>False):=by
 obtain⟨gQ,e,ag⟩:=ax.one h (I.B1 ae).1 (I.B1 ae).2;have:v=gQ:=by simpa using e
 subst this;refine(aO.cT bj).2 ⟨?_,by rw[hH ag];exact h⟩;cases d<;>first|exact ag|cases ae
mutual
theorem aO.qz {F:Nat->Prop} {s:ar} {aC:Nat->Value}:∀(d:I) (v:Value),d.single=true->ax w F d [v] (λ_=>False)->aO w F s aC d v (λ_=>False)
 | .fn f caps,v,_,h=>by
   rw[ax]at h;obtain⟨arr,ag,ah,aN⟩:=h;rw[aO];exact⟨arr,by simpa using ag,eH.qz caps _ ah aN⟩
 | .bool b,v,ae,h=>aO.pJ rfl ae h
 | .fs,v,ae,h=>aO.pJ rfl ae h
 | .int k n,v,ae,h=>aO.pJ rfl ae h
 | .str x,v,ae,h=>aO.pJ rfl ae h
 | .dS,v,ae,h=>aO.pJ rfl ae h
 | .bz,v,ae,h=>aO.pJ rfl ae h
 | .slice xs,v,ae,h=>aO.pJ rfl ae h
 | .ao sz xs,v,ae,h=>aO.pJ rfl ae h
 | .ref d,v,ae,h=>aO.pJ rfl ae h
 | .bh d,v,ae,h=>aO.pJ rfl ae h
 | .h _ _,v,_,h=>by rw[ax]at h;exact h.elim
 | .au _ _,v,_,h=>by rw[ax]at h;exact h.elim
 | .ad _ _,v,_,h=>by rw[ax]at h;exact h.elim
 | .eD _,v,ae,h=>aO.pJ rfl ae h
theorem eH.qz {F:Nat->Prop} {s:ar} {aC:Nat->Value}:∀(ds:List I) (vs:List Value),(∀d∈ds,d.single=true)->bm w F ds vs (λ_=>False)->eH w F s aC ds vs
 |[],vs,_,h=>by rw[bm]at h;rw[eH];exact h
 |d::ds,vs,ae,h=>by
  rw[bm]at h;obtain⟨cv,c2,ck,eo,rfl,ah,aN,bg,bR,_⟩:=h;have aj:=ae d (by simp);obtain⟨v,rfl,_⟩:=ax.one ah (I.B1 aj).1 (I.B1 aj).2;rw[eH];exact⟨v,c2,rfl,aO.qz d v aj (ax.mono (λ_ h=>h) _ _ _ _ (λb ad=>bg b ad) ah),eH.qz ds c2 (λx aw=>ae x (by simp[aw])) (bm.mono (λ_ h=>h) _ _ _ _ (λb ad=>bR b ad) aN)⟩
end
theorem B2 (bx:C.fc) {T:TypeId} {d:I} {b o:Nat} {cs:List Value} {S:Nat->Prop} (h:iA w b o cs) (aj:ax w F d cs S)
  (iP:fits C T d=true):
  ∃v,(loadVar T ⟨b,o,none⟩).run C.P w= .ok v w/\cz v=cs/\eA d v:=by
 unfold fits at iP;by_cases ae:∃az,(C.T T).k= .struct az
 .obtain⟨az,ay⟩:=ae;rw[ay]at iP;cases d with
  |agg ds=>
   simp only[beq_iff_eq]at iP;refine⟨_,TI bx ay h ((ax.length _ _ _ aj).trans iP),rfl,⟨_,rfl⟩⟩
  |_=>simp at iP
 .have j2:(C.T T).flat=true/\(∀az,d≠.agg az)/\(∀az,d≠.tuple az):=by
   revert iP ae;cases ay:(C.T T).k<;>cases d<;>simp
  obtain⟨v,rfl,ag⟩:=ax.one aj j2.2.1 j2.2.2;refine⟨v,Ll bx j2.1 h,hH ag,?_⟩;cases d<;>first|exact ag|exact(j2.2.1 _ rfl).elim|exact(j2.2.2 _ rfl).elim
theorem TJ (bx:C.fc) {T:TypeId} {d:I} {off:Nat} {arr:Array Value} {cv cs c2:List Value} {S:Nat->Prop} (he:arr.toList=cv++(cs++c2)) (cy:cv.length=off) (aj:ax w F d cs S)
  (iP:fits C T d=true):
  ∃v,(part T arr off).run C.P w= .ok v w/\cz v=cs/\eA d v:=by
 unfold fits at iP;by_cases ae:∃az,(C.T T).k= .struct az
 .obtain⟨az,ay⟩:=ae;rw[ay]at iP;cases d with
  |agg ds=>
   simp only[beq_iff_eq]at iP;obtain⟨i,d,z,aX,a6,aQ,cC,cF,cc,b4⟩:=bx.info (gG ay (by simp));have hl:cs.length=(C.T T).sz:=(ax.length _ _ _ aj).trans iP;have aw:(arr.extract off (off+(C.T T).sz)).toList=cs:=by
    rw[Array.toList_extract,he,List.extract_eq_take_drop,<-hl,<-cy,Nat.add_sub_cancel_left,List.drop_left,List.take_left]
   refine⟨.agg (arr.extract off (off+(C.T T).sz)),?_,by simpa [cz,iv]using aw,⟨_,rfl⟩⟩;simp[part,Li bx ay,kJ aX,a6]
  |_=>simp at iP
 .have j2:(C.T T).flat=true/\(∀az,d≠.agg az)/\(∀az,d≠.tuple az):=by
   revert iP ae;cases ay:(C.T T).k<;>cases d<;>simp
  obtain⟨v,rfl,ag⟩:=ax.one aj j2.2.1 j2.2.2;have hg:arr[off]? =some v:=by
   rw[<-Array.getElem?_toList,he,<-cy,List.getElem?_append_right (Nat.le_refl _)];simp
  refine⟨v,?_,hH ag,?_⟩
  .simp[part,G9 bx j2.1,hg]
  .cases d<;>first|exact ag|exact(j2.2.1 _ rfl).elim|exact(j2.2.2 _ rfl).elim
theorem TK (bx:C.fc) (h:bU w0 F0 X F S s aC w) {T:TypeId} {x:I} {v:Value} (aT:aO w F s aC x v (λ_=>False)) (he:cp C s T x=some av):
  Good C w0 F0 X aC w (Instr.loadAt T v) av s:=by
 unfold cp at he;split at he
 .rename_i d;split at he
  .rename_i iP;simp only[Option.some.injEq]at he;subst he;have mi:=(aO.cT rfl).1 aT;rw[ax,hH mi.1]at mi;obtain⟨ae,b,o,eT,ag,ah,aN,bg⟩:=mi;simp only[List.cons.injEq,and_true]at ag;subst ag;obtain⟨gQ,aS,aq,nH⟩:=B2 bx aN bg iP;have e3:(Instr.loadAt T (.pointer (some ⟨b,o,none⟩))).run C.P w= .ok gQ w:=by simp[Instr.loadAt,Instr.sureAddr,aS]
   refine⟨gQ,w,F,S,e3,h,?_⟩;by_cases bj:d.tree=true
   .exact .inr ⟨bj,nH,λ_=>False,by rw[aq];exact bg,λ_ h=>h.elim,λ_ h=>h.elim,λ_ _ h=>h.elim,λ_ h=>h.elim⟩
   .cases d<;>first|exact(bj rfl).elim|(rw[ax]at bg;exact bg.elim)|exact .inl ⟨rfl,by rw[aO];trivial⟩|(have bR:=bg;rw[ax]at bR;obtain⟨arr,e,_⟩:=bR;rw[<-aq]at e bg;rw[hH (by exact nH)]at bg;exact .inl ⟨rfl,aO.qz _ _ rfl bg⟩)
  .cases he
 .rename_i y k;split at he
  .rename_i ds og;split at he
   .cases he
   .rename_i yN;split at he
    .rename_i i an;split at he
     .rename_i d aj;split at he
      .rename_i iP;simp only[Option.some.injEq]at he;have gE:(s y).plain=false:=by rw[og];simp only[I.plain];simpa using yN
       rw[aO]at aT;obtain⟨b,cur,e,fr,rfl,ah,aN,bg⟩:=aT gE;have hy:=h.dF y;rw[og]at hy;have Lm:=((aO.cT rfl).1 hy).2;rw[ax]at Lm;obtain⟨cv,gC,c2,ck,iC,hI,iu,fY,hU,iD,gO,mW⟩:=bm.pick ds _ _ i d Lm aj;have kI:iA w b k gC:=by
        intro j c cH;have e6:j<gC.length:=(List.getElem?_eq_some_iff.1 cH).1;have:cur.toList[k+j]? =some c:=by
         rw[bg,hI,List.getElem?_append_right (by omega),List.getElem?_append_left (by omega),<-cH];congr 1;omega
        simp[World.cell?,aN];simpa using this
       obtain⟨gQ,aS,aq,nH⟩:=B2 bx kI gO iP.2;have e3:(Instr.loadAt T (.pointer (some ⟨b,k,none⟩))).run C.P w= .ok gQ w:=by simp[Instr.loadAt,Instr.sureAddr,aS]
       refine⟨gQ,w,F,S,e3,h,?_⟩;split at he
       .rename_i au;subst he;by_cases bj:d.tree=true
        .exact .inl ⟨au,(aO.cT bj).2 ⟨nH,by rw[aq];exact ax.plain _ _ _ _ au gO⟩⟩
        .cases d<;>first|exact(bj rfl).elim|(rw[ax]at gO;exact gO.elim)|exact .inl ⟨rfl,by rw[aO];trivial⟩|(have bR:=ax.plain _ _ _ (λ_=>False) au gO;rw[<-aq]at bR;rw[hH (by exact nH)]at bR;exact .inl ⟨rfl,aO.qz _ _ rfl bR⟩)
       .subst he;refine .inl ⟨rfl,?_⟩;rw[aO];intro d2 iw _;rw[og]at iw⊢;simp only[I.sub,aj,Option.some.injEq]at iw;subst iw;refine⟨gC,none,?_,aq,nH⟩;simp only[dP,aj];rw[hI,tM cv gC c2 _ _ iu (ax.length _ _ _ gO)];rfl
      .cases he
     .cases he
    .cases he
  .cases he
 .rename_i x _ _;split at he
  .rename_i y q hl;split at he
   .rename_i d aj;split at he
    .rename_i iP;simp only[Option.some.injEq]at he;obtain⟨pK,c6,b,o,rfl,lE⟩:=G5 h aT hl aj;have hy:=h.dF y;rw[aO.cT (iE aj (.inr pK))]at hy;obtain⟨gD,c7,eP,fP,k0,b7,cw,fi,ep,fQ⟩:=ctx q (s y) (cz (aC y)) (S y) none _ hy.2 aj;rw[k0]at lE;simp only[Option.some.injEq,Prod.mk.injEq,true_and]at lE;obtain⟨rfl,rfl⟩:=lE;have kI:iA w b o gD:=by
      rcases fQ with⟨l,r,aX,a6,_⟩|⟨gp,cur,e,fr,l,r,aX,a6,aQ,cC,cF,_⟩
      .simp at a6
      .simp only[Option.some.injEq,Prod.mk.injEq]at aX;obtain⟨rfl,rfl⟩:=aX;intro j c cH;have e6:j<gD.length:=(List.getElem?_eq_some_iff.1 cH).1;have:cur.toList[l.length+j]? =some c:=by
        rw[cF,List.getElem?_append_right (by omega),List.getElem?_append_left (by omega),<-cH];congr 1;omega
       simp[World.cell?,aQ];simpa using this
     obtain⟨gQ,aS,aq,nH⟩:=B2 bx kI ep iP;have e3:(Instr.loadAt T (.pointer (some ⟨b,o,none⟩))).run C.P w= .ok gQ w:=by simp[Instr.loadAt,Instr.sureAddr,aS]
     refine⟨gQ,w,F,S,e3,h,?_⟩;split at he
     .rename_i au;subst he;by_cases bj:d.tree=true
      .exact .inl ⟨au,(aO.cT bj).2 ⟨nH,by rw[aq];exact ax.plain _ _ _ _ au ep⟩⟩
      .cases d<;>first|exact(bj rfl).elim|(rw[ax]at ep;exact ep.elim)|exact .inl ⟨rfl,by rw[aO];trivial⟩|(have bR:=ax.plain _ _ _ (λ_=>False) au ep;rw[<-aq]at bR;rw[hH (by exact nH)]at bR;exact .inl ⟨rfl,aO.qz _ _ rfl bR⟩)
     .subst he;refine .inl ⟨rfl,?_⟩;rw[aO];intro d2 iw _;rw[aj]at iw;simp only[Option.some.injEq]at iw;subst iw;exact⟨_,_,k0,aq,nH⟩
    .cases he
   .cases he
  .cases he
mutual
theorem ax.tU {F:Nat->Prop}:∀(d:I) (cs:List Value) (S:Nat->Prop),ax w F d cs S->∀c∈cs,Value.ha c=true
 | .hole,cs,S,h=>by rw[ax]at h;obtain⟨v,h,rfl⟩:=h;simpa using h
 | .bool _,cs,S,h=>by rw[ax]at h;subst h;simp[Value.ha]
 | .fs,cs,S,h=>by rw[ax]at h;obtain⟨b,rfl⟩:=h;simp[Value.ha]
 | .int _ _,cs,S,h=>by rw[ax]at h;subst h;simp[Value.ha]
 | .str _,cs,S,h=>by rw[ax]at h;subst h;simp[Value.ha]
 | .dS,cs,S,h=>by rw[ax]at h;subst h;simp[Value.ha]
 | .bz,cs,S,h=>by rw[ax]at h;subst h;simp[Value.ha]
 | .slice xs,cs,S,h=>by
   rw[ax]at h;rcases h with⟨_,a,c,rfl,_⟩|⟨b,o,cap,eT,sz,rfl,_⟩<;>simp[Value.ha]
 | .ao sz xs,cs,S,h=>by
   rw[ax]at h;rcases h with⟨_,_,rfl⟩|⟨b,cap,cur,e,fr,aW,rfl,_⟩<;>simp[Value.ha]
 | .ref d,cs,S,h=>by rw[ax]at h;obtain⟨b,o,eT,rfl,_⟩:=h;simp[Value.ha]
 | .bh d,cs,S,h=>by rw[ax]at h;obtain⟨b,o,eT,_,_,rfl,_⟩:=h;simp[Value.ha]
 | .agg az,cs,S,h=>by rw[ax]at h;exact bm.tU az _ _ h
 | .tuple az,cs,S,h=>by rw[ax]at h;exact bm.tU az _ _ h
 | .fn _ _,cs,S,h=>by rw[ax]at h;obtain⟨arr,rfl,_⟩:=h;simp[Value.ha]
 | .h _ _,cs,S,h=>by rw[ax]at h;exact h.elim
 | .au _ _,cs,S,h=>by rw[ax]at h;exact h.elim
 | .ad _ _,cs,S,h=>by rw[ax]at h;exact h.elim
 | .eD _,cs,S,h=>by rw[ax]at h;obtain⟨v,hT,rfl⟩:=mB.one h;simpa using hT
theorem bm.tU {F:Nat->Prop}:∀(ds:List I) (cs:List Value) (S:Nat->Prop),bm w F ds cs S->∀c∈cs,Value.ha c=true
 |[],cs,S,h=>by rw[bm]at h;subst h;simp
 |d::ds,cs,S,h=>by
  rw[bm]at h;obtain⟨cv,c2,ck,eo,rfl,ah,aN,_⟩:=h;intro c aq;rcases List.mem_append.1 aq with aq|aq
  .exact ax.tU d _ _ ah c aq
  .exact bm.tU ds _ _ aN c aq
end
theorem B3 {P:Program} {b o:Nat} {e:TypeId} {fr:Nat×Nat}:∀(vs:List Value) (i:Nat) (cur:Array Value) (w:World) (l m r:List Value),w.heap[b]? =some (.cells cur e fr)->nD fr cur.size->
  cur.toList=l++(m++r)->l.length=o+i->m.length=vs.length->(∀v∈vs,Value.ha v=true)->
  ∃aL,(storeCells ⟨b,o,none⟩ vs i).run P w= .ok () aL/\aL.heap[b]? =some (.cells (l++(vs++r)).toArray e fr)/\(∀c,c≠b->aL.heap[c]? =w.heap[c]?)/\aL.heap.size=w.heap.size/\aL.os=w.os/\aL.tape=w.tape/\Out aL w
 |[],i,cur,w,l,m,r,ad,bw,aq,hl,hm,_=>by
  refine⟨w,rfl,?_,λ_ _=>rfl,rfl,rfl,rfl,Out.refl _⟩;have:m=[]:=by simpa using hm
  subst this;rw[ad];have:cur=(l++([]++r)).toArray:=by rw[<-aq]
  rw[<-this]
 |v::vs,i,cur,w,l,m,r,ad,bw,aq,hl,hm,B4=>by
  obtain⟨x,m,rfl⟩:∃x iQ,m=x::iQ:=by cases m with
   |nil=>simp at hm
   |cons x m=>exact⟨x,m,rfl⟩
  have hlen:cur.size=(l++(x::m++r)).length:=by rw[<-aq];simp
  have e6:o+i<cur.size:=by rw[hlen];simp;omega
  have B5:w.cell? ⟨b,o+i,none⟩=some cur[o+i]:=by simp[World.cell?,ad,e6]
  have TL:w.frozen? ⟨b,o+i,none⟩=false:=by
   have:=bw (o+i) e6;simp only[World.frozen?,ad];simp only[Bool.and_eq_false_iff,decide_eq_false_iff_not];by_cases ag:fr.1<=o+i
   .right;exact λah=>this ⟨ag,ah⟩
   .left;exact ag
  have sB:(w.setCell ⟨b,o+i,none⟩ v).heap[b]? =some (.cells ((l++[v])++(m++r)).toArray e fr):=by
   simp only[World.setCell,Array.getElem?_modify,if_true,ad,Option.map_some,Option.isSome_none,Bool.false_eq_true,if_false];congr 2;apply Array.ext';rw[Array.toList_setIfInBounds,aq,<-hl,List.set_append_right _ _ (Nat.le_refl _)];simp
  have tV:(store ((⟨b,o,none⟩:Addr).add i) v).run P w= .ok () (w.setCell ⟨b,o+i,none⟩ v):=by
   have ag:=B4 v (by simp);rw[Addr.add_lit];cases v<;>first|(simp[Value.ha]at ag;done)|simp[Go.store,Sem.run,B5,TL]
  obtain⟨aL,g1,g2,g3,g4,g5,g6,g7⟩:=B3 (P:=P) (b:=b) (o:=o) vs (i+1) _ (w.setCell ⟨b,o+i,none⟩ v) (l++[v]) m r sB (by
   have:(l++[v]++(m++r)).toArray.size=cur.size:=by rw[hlen];simp
   rw[this];exact bw) (by simp) (by simp;omega) (by simpa using hm) (λu hu=>B4 u (by simp[hu]))
  refine⟨aL,?_,by simpa using g2,λc aq=>?_,?_,g5,g6,g7⟩
  .simp only[storeCells,Sem.run_bind,tV,Result.andThen];exact g1
  .rw[g3 c aq];simp only[World.setCell,Array.getElem?_modify];rw[if_neg (λe=>aq e.symm)]
  .rw[g4];simp[World.setCell]
theorem yO {d:I} {v:Value} (h:eA d v) (aj:∀az,d≠.tuple az):v.cells=(cz v).toArray:=by
 cases d with
 |tuple az=>exact(aj _ rfl).elim
 |agg az=>obtain⟨arr,rfl⟩:=h;simp[Value.cells,cz,iv]
 |_=>
  have ag:Value.ha v=true:=h;rw[hH ag];cases v<;>first|rfl|(simp[Value.ha]at ag)
def gH (C:cl) (s:ar) (T:TypeId) (x y:I):Option ar:=
 match db s y,loc s x with
 |some (d,s1),some (z,q)=>match d with
  | .tuple _=>none
  |d=>match I.sub q (s z)with
   |some d0=>if d.wd=d0.wd/\d.wd=(C.T T).sz/\(C.T T).ok=true/\y.owner≠some z then some (dD (iO z s1) z (I.put q d (s z)))else none
   |none=>none
 |_,_=>none
theorem TM {s s1:ar} {y d:I} {z:Nat} (h:db s y=some (d,s1)) (cg:(s z).tree=true) (hy:y.owner≠some z):s1 z=s z:=by
 cases y with
 |h x q=>
  simp only[db]at h;split at h
  .split at h
   .cases h
   .simp only[Option.some.injEq,Prod.mk.injEq]at h;obtain⟨_,rfl⟩:=h;rw[j1 _ _ (λe=>hy (by rw[I.owner,e]))];exact GP cg
  .cases h
 |au x q=>simp[db]at h
 |ad x q=>simp[db]at h
 |fn f c=>simp[db]at h
 |hole=>simp[db]at h
 |_=>simp only[db,Option.some.injEq,Prod.mk.injEq]at h;rw[h.2]
theorem TN (bx:C.fc) (h:bU w0 F0 X F S s aC w) {T:TypeId} {x y:I} {iF jx:Value} (G_:aO w F s aC x iF (λ_=>False)) (hy:y.plain=true) (TO:aO w F s aC y jx (λ_=>False))
  {s2:ar} (he:gH C s T x y=some s2):
  ∃aL aW,(Instr.storeAt T iF jx).run C.P w= .ok () aL/\bU w0 F0 X F aW s2 aC aL:=by
 unfold gH at he;split at he
 .rename_i d s1 z q bj hl;have key:∀d:I,(∀az,d≠.tuple az)->db s y=some (d,s1)->(match I.sub q (s z)with
   |some d0=>if d.wd=d0.wd/\d.wd=(C.T T).sz/\(C.T T).ok=true/\y.owner≠some z then some (dD (iO z s1) z (I.put q d (s z)))else none
   |none=>none)=some s2->∃aL aW,(Instr.storeAt T iF jx).run C.P w= .ok () aL/\bU w0 F0 X F aW s2 aC aL:=by
   intro d ry bj he;split at he
   .rename_i d0 lW;split at he
    .rename_i tW;obtain⟨ag,ah,aN,bg⟩:=tW;simp only[Option.some.injEq]at he;subst he;obtain⟨pK,c6,b,o,rfl,lE⟩:=G5 h G_ hl lW;obtain⟨ck,g0,g1,g2,Sn,g3,g4,g5,g6,g7,g8⟩:=pI h hy TO bj;have eM:s1 z=s z:=TM bj (iE lW (.inr pK)) bg;rw[<-eM]at lW pK lE⊢;obtain⟨gD,gp,l,r,cur,e,fr,k0,b7,cw,fi,ep⟩:=g0.store lW pK g3 ag g4 g5 g6 g7;rw[lE]at k0;simp only[Option.some.injEq,Prod.mk.injEq,true_and]at k0;obtain⟨rfl,rfl,rfl⟩:=k0;obtain⟨i,d,rv,aX,a6,aQ,cC,cF,cc,b4⟩:=bx.info aN;have hlen:=ax.length _ _ _ g3;have hm:c6.length=(cz jx).length:=by
      have Ln:=g0.dF z;rw[aO.cT (iE lW (.inr pK))]at Ln;obtain⟨_,_,_,_,c0,_,_,_,c4,_⟩:=ctx q (s1 z) (cz (aC z)) (ck z) none _ Ln.2 lW;rw[lE]at c0;simp only[Option.some.injEq,Prod.mk.injEq,true_and]at c0;rw[c0.1,ax.length _ _ _ c4,hlen,ag]
     obtain⟨aL,m1,m2,m3,m4,m5,m6,m7⟩:=B3 (P:=C.P) (b:=b) (o:=l.length) (e:=e) (fr:=fr) (cz jx) 0 cur w l c6 r b7 fi cw rfl hm (ax.tU _ _ _ g3);obtain⟨aW,fQ⟩:=ep aL m2 m3 m4 m5 m6 m7;refine⟨aL,aW,?_,fQ⟩;have pL:=yO g2 ry;simp[Instr.storeAt,Instr.sureAddr,storeVar,kJ aX,a6,pL,hlen,ah,m1]
    .cases he
   .cases he
  split at he
  .cases he
  .rename_i ry;exact key _ (λaz e=>ry az e) bj he
 .cases he
theorem bU.alloc (h:bU w0 F0 X F S s aC w) {d:I} {cs:List Value} {Sn:Nat->Prop} (e:TypeId) (aT:ax w F d cs Sn)
  (e6:∀b,Sn b->b<w.heap.size) (bL:∀b,Sn b->¬F b) (b8:∀u b,Sn b->¬S u b) (ba:∀b,Sn b->X b\/w0.heap.size<=b):
  bU w0 F0 X F S s aC (w.alloc (.cells cs.toArray e))/\
   mg w0 X F S s aC (w.alloc (.cells cs.toArray e)) (.bh d) (.pointer (some ⟨w.heap.size,0,none⟩)):=by
 have hold:∀b,b<w.heap.size->(w.alloc (.cells cs.toArray e)).heap[b]? =w.heap[b]? :=by
  intro b ad;show(w.heap.push _)[b]? =_;rw[Array.getElem?_push,if_neg (by omega)]
 refine⟨h.grow hold (by simp) rfl rfl ⟨rfl,λ_=>Nat.le_refl _⟩,.inr ⟨rfl,rfl,λb=>b=w.heap.size\/Sn b,?_,?_,?_,?_,?_⟩⟩
 .rw[ax];refine⟨w.heap.size,cs.toArray,e,(0,0),Sn,rfl,.inl rfl,?_,?_,?_,λc aq=>.inr aq,λaq=>Nat.lt_irrefl _ (e6 _ aq)⟩
  .show(w.heap.push _)[_]? =_;simp
  .intro o _ ⟨_,ah⟩;exact absurd ah (Nat.not_lt_zero _)
  .exact ax.frame (λb ad=>hold b (h.fy b ad)) _ _ _ (λb ad=>hold b (e6 b ad)) aT
 .rintro b (rfl|ad)
  .simp
  .have:=e6 b ad;simp;omega
 .rintro b (rfl|ad) rz
  .exact Nat.lt_irrefl _ (h.fy _ rz)
  .exact bL b ad rz
 .rintro u b (rfl|ad) hu
  .exact Nat.lt_irrefl _ (h.e7 _ _ hu)
  .exact b8 u b ad hu
 .rintro b (rfl|ad)
  .exact .inr h.size
  .exact ba b ad
def hx (C:cl) (T:TypeId):Option I:=if(C.T T).ok=true then(match(C.T T).k,(C.T T).zero with
    | .fA e,.agg [.dS,.bz]=>some (.eD (.iN T e []))
    | .fA _,_=>none
    |_,z=>(match flat z with|some _=>some (.bh z)|none=>none))else none
theorem TP (bx:C.fc) (h:bU w0 F0 X F S s aC w) {T:TypeId} (he:hx C T=some av):Good C w0 F0 X aC w (Instr.alloc T true (.tuple #[])) av s:=by
 unfold hx at he;split at he
 .rename_i ay;split at he
  .rename_i aGW aGX TQ;simp only[Option.some.injEq]at he;subst he;obtain⟨i,d,z,aX,a6,aQ,cC,cF,cc,b4⟩:=bx.info ay;have cg:=cF [.pointer none,.slice none 0 0] (by rw[TQ];rfl);have hold:∀b,b<w.heap.size->(w.alloc (.cells #[.pointer none,.slice none 0 0] T)).heap[b]? =w.heap[b]? :=by
    intro b ad;show(w.heap.push _)[b]? =_;rw[Array.getElem?_push,if_neg (by omega)]
   refine⟨.pointer (some ⟨w.heap.size,0,none⟩),w.alloc (.cells #[.pointer none,.slice none 0 0] T),F,S,?_,h.grow hold (by simp) rfl rfl ⟨rfl,λ_=>Nat.le_refl _⟩,.inr ⟨rfl,rfl,λb=>b=w.heap.size,?_,?_,?_,?_,?_⟩⟩
   .simp[Instr.alloc,sA aX cC,newVar,newRow,newObj,Sem.run,cg]
   .rw[ax];refine⟨w.heap.size,.pointer none,.slice none 0 0,rfl,rfl,?_,.inl rfl,.inl ⟨rfl,rfl⟩⟩;show(w.heap.push _)[_]? =_;simp
   .rintro b rfl;simp
   .rintro b rfl rz;exact Nat.lt_irrefl _ (h.fy _ rz)
   .rintro u b rfl hu;exact Nat.lt_irrefl _ (h.e7 _ _ hu)
   .rintro b rfl;exact .inr h.size
  .cases he
  split at he
  .rename_i cs hI;simp only[Option.some.injEq]at he;subst he;obtain⟨i,d,z,aX,a6,aQ,cC,cF,cc,b4⟩:=bx.info ay;have cg:=cF cs hI;obtain⟨ei,bp⟩:=h.alloc (d:=(C.T T).zero) T ((ax.flat _).1 _ cs (λ_=>False) (Nat.le_refl _) hI) (λ_ h=>h.elim) (λ_ h=>h.elim) (λ_ _ h=>h.elim) (λ_ h=>h.elim);refine⟨_,_,F,S,?_,ei,bp⟩;simp[Instr.alloc,sA aX cC,newVar,newRow,newObj,Sem.run,cg]
  .cases he
 .cases he
def dm (s:ar) (x:I):Option (I×ar):=match db s x with
 |some (.tuple _,_)=>none
 |some (d,s1)=>some (.bh d,s1)
 |none=>none
def kr (s:ar) (x:I):Option (I×ar):=match x with
 | .h y q=>match q,s y with
   |[],.agg ds=>if I.ef ds then none else some (.ad y 0,s)
   |_,_=>none
 | .fn f caps=>if caps.all (λd=>d.single&&(d.tree&&d.plain))=true then some (.ref (.fn f caps),s)else none
 |_=>none
theorem bm.Lo {w:World} {F b3:Nat->Prop} {s:ar} {aC:Nat->Value} (bL:∀b,F b->b3 b):∀(ds:List I) (vs:List Value),(∀d∈ds,d.single=true/\d.tree=true/\d.plain=true)->eH w F s aC ds vs->bm w b3 ds vs (λ_=>False)
 |[],vs,_,h=>by rw[eH]at h;rw[bm];exact h
 |d::ds,vs,ae,h=>by
  rw[eH]at h;obtain⟨v,kp,rfl,ag,ah⟩:=h;obtain⟨d1,d2,d3⟩:=ae d (by simp);have aN:=(aO.cT d2).1 ag;have cy:Value.ha v=true:=by
   have:=aN.1;cases d<;>first|exact this|cases d1
  have bg:=aN.2;rw[hH cy]at bg;rw[bm];exact⟨[v],kp,λ_=>False,λ_=>False,rfl,ax.mono bL _ _ _ _ (λ_ h=>h) bg,bm.Lo bL ds kp (λx aw=>ae x (by simp[aw])) ah,λ_ h=>h,λ_ h=>h,λ_ h=>h.elim⟩
theorem TR {T:TypeId} {v:Value} (h:bU w0 F0 X F S s aC w):bU w0 F0 X (λb=>F b\/b=w.heap.size) S s aC (w.alloc (.cells (cz v).toArray T)):=by
 have hold:∀b,b<w.heap.size->(w.alloc (.cells (cz v).toArray T)).heap[b]? =w.heap[b]? :=by
  intro b ad;show(w.heap.push _)[b]? =_;rw[Array.getElem?_push,if_neg (by omega)]
 have ag:=h.grow hold (by simp) rfl rfl ⟨rfl,λ_=>Nat.le_refl _⟩;exact {
  hG:=λb ad=>.inl (ag.hG b ad)
  h4:=λb ad=>by
   rcases ad with ad|rfl
   .exact ag.h4 b ad
   .exact .inr (.inr h.size)
  fy:=λb ad=>by
   rcases ad with ad|rfl
   .exact ag.fy b ad
   .simp
  e7:=ag.e7
  gf:=λt b ad bw=>by
   rcases bw with bw|rfl
   .exact ag.gf t b ad bw
   .exact absurd (h.e7 t _ ad) (Nat.lt_irrefl _)
  fz:=ag.fz
  ey:=ag.ey
  dF:=λt=>aO.frame (λ_ _=>rfl) (λb ad=>.inl ad) (λ_ _ _=>rfl) ag.dF _ _ _ (λ_ _=>rfl) (ag.dF t)
  old:=ag.old
  size:=ag.size
  os:=ag.os
  tape:=ag.tape
  output:=ag.output
  hj:=h.hj}
theorem TS (h:bU w0 F0 X F S s aC w) {T:TypeId} {x:I} {v:Value} (aT:aO w F s aC x v (λ_=>False)) (he:kr s x=some (av,s1)):
  Good C w0 F0 X aC w (Instr.box T v) av s1:=by
 unfold kr at he;split at he
 .rename_i y q;split at he
  .rename_i ds og;split at he
   .cases he
   .rename_i yN;simp only[Option.some.injEq,Prod.mk.injEq]at he;obtain⟨rfl,rfl⟩:=he;rw[aO]at aT;obtain⟨c6,a,g1,g2,g3⟩:=aT (s y) (by simp only[I.sub]) (by rw[og];simp only[I.plain];simpa using yN);simp only[dP,Option.some.injEq,Prod.mk.injEq,true_and]at g1;rw[og]at g3;have pL:=yO g3 (λaz e=>by cases e);have hold:∀b,b<w.heap.size->(w.alloc (.cells (cz v).toArray T)).heap[b]? =w.heap[b]? :=by
     intro b ad;show(w.heap.push _)[b]? =_;rw[Array.getElem?_push,if_neg (by omega)]
    refine⟨.pointer (some ⟨w.heap.size,0,none⟩),w.alloc (.cells (cz v).toArray T),λb=>F b\/b=w.heap.size,S,by simp[Instr.box,newVar,newRow,newObj,Sem.run,pL],?_,.inl ⟨rfl,?_⟩⟩
    .have ag:=h.grow hold (by simp) rfl rfl ⟨rfl,λ_=>Nat.le_refl _⟩;exact {
      hG:=λb ad=>.inl (ag.hG b ad)
      h4:=λb ad=>by
       rcases ad with ad|rfl
       .exact ag.h4 b ad
       .exact .inr (.inr h.size)
      fy:=λb ad=>by
       rcases ad with ad|rfl
       .exact ag.fy b ad
       .simp
      e7:=ag.e7
      gf:=λt b ad bw=>by
       rcases bw with bw|rfl
       .exact ag.gf t b ad bw
       .exact absurd (h.e7 t _ ad) (Nat.lt_irrefl _)
      fz:=ag.fz
      ey:=ag.ey
      dF:=λt=>aO.frame (λ_ _=>rfl) (λb ad=>.inl ad) (λ_ _ _=>rfl) ag.dF _ _ _ (λ_ _=>rfl) (ag.dF t)
      old:=ag.old
      size:=ag.size
      os:=ag.os
      tape:=ag.tape
      output:=ag.output
      hj:=h.hj}
    .rw[aO];intro _;refine⟨w.heap.size,(cz v).toArray,T,(0,0),rfl,.inr rfl,?_,?_⟩
     .show(w.heap.push _)[_]? =_;simp
     .rw[g1.1,<-g2]
  .cases he
 .rename_i f caps;split at he
  .rename_i aq;simp only[Option.some.injEq,Prod.mk.injEq]at he;obtain⟨rfl,rfl⟩:=he;have hI:∀d∈caps,d.single=true/\d.tree=true/\d.plain=true:=λd aj=>by
    have:=List.all_eq_true.1 aq d aj;simpa only[Bool.and_eq_true]using this
   rw[aO]at aT;obtain⟨arr,rfl,aT⟩:=aT;have pL:=yO (d:=.fn f caps) (v:=.func (.func f) #[] arr) rfl (λaz e=>by cases e);have hg:=TR (T:=T) (v:=.func (.func f) #[] arr) h;refine⟨.pointer (some ⟨w.heap.size,0,none⟩),w.alloc (.cells (cz (.func (.func f) #[] arr)).toArray T),λb=>F b\/b=w.heap.size,S,by simp[Instr.box,newVar,newRow,newObj,Sem.run,pL],hg,.inl ⟨rfl,?_⟩⟩;refine(aO.cT rfl).2 ⟨rfl,?_⟩;rw[ax];refine⟨w.heap.size,0,[.func (.func f) #[] arr],rfl,.inr rfl,?_,?_⟩
   .have gF:(w.alloc (.cells (cz (.func (.func f) #[] arr)).toArray T)).heap[w.heap.size]? =some (.cells (cz (.func (.func f) #[] arr)).toArray T (0,0)):=by
     show(w.heap.push _)[_]? =_;simp
    intro j c cH;cases j with
    |zero=>
     simp only[List.getElem?_cons_zero,Option.some.injEq]at cH;subst cH;have e:cz (.func (.func f) #[] arr)=[.func (.func f) #[] arr]:=hH rfl;unfold World.cell?;show(match(w.alloc (.cells (cz (.func (.func f) #[] arr)).toArray T)).heap[w.heap.size]? with
      |some (.cells c _ _)=>c[0+0]?
      |_=>none)=_
     rw[gF,e];rfl
    |succ j=>simp at cH
   .rw[ax];refine⟨arr,rfl,λd aj=>(hI d aj).1,?_⟩;have bR:=bm.Lo (b3:=F) (λb ad=>ad) caps arr.toList hI aT;refine bm.mono (F:=F) (λb ad=>.inl ad) caps _ _ _ (λ_ h=>h) (bm.frame (λb ad=>?_) caps _ _ (λ_ h=>h.elim) bR);have e6:=h.fy b ad;show(w.heap.push _)[b]? =_;rw[Array.getElem?_push,if_neg (by omega)]
  .cases he
 .cases he
theorem TT (h:bU w0 F0 X F S s aC w) {T:TypeId} {x:I} {v:Value} (aw:x.plain=true) (aT:aO w F s aC x v (λ_=>False)) (he:dm s x=some (av,s1)):
  Good C w0 F0 X aC w (Instr.box T v) av s1:=by
 unfold dm at he;split at he
 .cases he
 .rename_i d s2 ry bj;simp only[Option.some.injEq,Prod.mk.injEq]at he;obtain⟨rfl,rfl⟩:=he;obtain⟨ck,g0,g1,g2,Sn,g3,g4,g5,g6,g7,g8⟩:=pI h aw aT bj;obtain⟨ei,bp⟩:=g0.alloc T g3 g4 g5 g6 g7;refine⟨_,_,F,ck,?_,ei,bp⟩;have pL:=yO g2 (λaz e=>ry az e);simp[Instr.box,newVar,newRow,newObj,Sem.run,pL]
 .cases he
end
end Go.c_
