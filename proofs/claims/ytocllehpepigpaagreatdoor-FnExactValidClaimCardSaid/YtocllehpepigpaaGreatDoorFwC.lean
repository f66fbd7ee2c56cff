/- Part of a proof that a law returns true for every input. No condition. -/
import Derived.Test.YtocllehpepigpaaGreatDoorFwB
import Derived.Laws.Entries
namespace Go.cI
inductive mE where
 |int (k:IntKind)
 |bool
 |str
 |ptr (e:TypeId)
 |slice (e:TypeId)
 |struct (aq:List (TypeId×Nat))
 |fn
 |fE (e:TypeId)
 |map (k e:TypeId)
 |other
structure fS where
 k:mE
 sz:Nat
 bytes:Nat
 zero:I
mutual
def flat:I→Option (List Value)
 | .bool b=>some [.bool b]
 | .int k n=>some [.int k n]
 | .str s=>some [.string ⟨⟨s⟩⟩]
 | .cS=>some [.pointer none]
 | .bk=>some [.slice none 0 0]
 | .agg aq=>o4 aq
 | .dq .pR=>some [.map none]
 |_=>none
def o4:List I→Option (List Value)
 |[]=>some []
 |d::ds=>match flat d,o4 ds with
  |some a,some b=>some (a++b)
  |_,_=>none
end
theorem ak.flat {w:World} {F:Nat→Prop}:∀n,(∀(d:I) (cs:List Value) (S:Nat→Prop),SizeOf.sizeOf d≤n→flat d=some cs→ak w F d cs S)∧
  (∀(ds:List I) (cs:List Value) (S:Nat→Prop),SizeOf.sizeOf ds≤n→o4 ds=some cs→aW w F ds cs S):=by
 intro n
 induction n with
 |zero=>exact⟨fun d _ _ bG=>by cases d<;>simp at bG<;>omega,fun ds _ _ bG=>by cases ds<;>simp at bG<;>omega⟩
 |succ n ih=>
  refine⟨fun d cs S bG h=> ?_,fun ds cs S bG h=> ?_⟩
  ·cases d with
   |agg aq=>rw[ak];exact ih.2 aq cs S (by simp at bG;omega) (by simpa [cI.flat]using h)
   |bool b=>simp[cI.flat]at h;subst h;rw[ak]
   |int k n=>simp[cI.flat]at h;subst h;rw[ak]
   |str s=>simp[cI.flat]at h;subst h;rw[ak]
   |cS=>simp[cI.flat]at h;subst h;rw[ak]
   |bk=>simp[cI.flat]at h;subst h;rw[ak]
   |dq o=>cases o<;>simp[cI.flat]at h;subst h;rw[ak];rfl
   |_=>simp[cI.flat]at h
  ·cases ds with
   |nil=>simp[o4]at h;subst h;rw[aW]
   |cons d ds=>
    simp only[o4]at h
    split at h
    ·rename_i a b cb U
     simp at h;subst h
     simp at bG
     rw[aW]
     exact⟨a,b,fun _=>False,fun _=>False,rfl,ih.1 d a _ (by omega) cb,ih.2 ds b _ (by omega) U,fun _ h=>h.elim,fun _ h=>h.elim,fun _ h=>h.elim⟩
    ·cases h
def kH:mE→TypeDesc→Prop
 | .int k,.int dj=>k=dj
 | .bool,.bool=>True
 | .str,.string=>True
 | .ptr e,.pointer fQ=>e=fQ
 | .slice e,.slice fQ=>e=fQ
 | .struct aq,.struct gs=>gs.toList.map (fun g=>(g.type,g.offset))=aq
 | .fn,.func _ _ _=>True
 | .fE _,.struct _=>True
 | .map k e,.map dj fQ=>k=dj∧e=fQ
 |_,_=>False
def Ef (P:Program) (t:TypeId) (x:fS):Prop:=
 (∃e n b z,x=⟨.other,e,n,b⟩∧z=0)∨
 ∃i d z,P.info? t=some i∧i.size=x.sz∧i.bytes=x.bytes∧i.zero=some z∧(∀cs,flat x.zero=some cs→z.cells=cs.toArray)∧P.underlying t=some d∧kH x.k d
structure bS where
 P:Program
 T:TypeId→fS
 M:FuncId→List Bool
structure bS.en (C:bS):Prop where
 ty:∀t,Ef C.P t (C.T t)
 mixed:C.P.follows .mixedOrders=true
inductive aC where
 |t (n:Nat)
 |c (av:I)
 |f (g:FuncId)
def w6:Value→Option I
 | .bool b=>some (.bool b)
 | .int k n=>some (.int k n)
 | .string s=>some (.str s.data.toList)
 | .pointer none=>some .cS
 | .slice none 0 0=>some .bk
 |_=>none
def db:Operand→Option aC
 | .tmp n=>some (.t n)
 | .const v=>(w6 v).map .c
 | .func g=>some (.f g)
 | .global _=>none
def iG (x:Nat) (d:I):I:=if d.plain then d else .h x []
def aE (s:an):aC→I
 | .t n=>iG n (s n)
 | .c av=>av
 | .f g=>.fn g []
theorem aB.nothing {w:World} {F:Nat→Prop} {s:an} {au:Nat→Value} {d:I} {v:Value} {S aG:Nat→Prop} (ao:d.plain=true) (h:aB w F s au d v S):aB w F s au d v aG:=by
 cases d<;>first
  |(rw[aB];trivial)
  |(rw[aB]at h⊢;exact h)
  |(have bb:=(aB.b9 rfl).1 h;exact(aB.b9 rfl).2 ⟨bb.1,ak.plain _ _ _ _ ao bb.2⟩)
section
variable {w0 w:World} {F0 X F:Nat→Prop} {S:Nat→Nat→Prop} {s:an} {au:Nat→Value} {a:Act}
theorem Eg (s:an) (x:aC) (aj:∀av,x= .c av→av.plain=true):(aE s x).plain=true:=by
 cases x with
 |t n=>simp only[aE,iG];split<;>first|assumption|rfl
 |c av=>exact aj _ rfl
 |f g=>rfl
theorem AK {v:Value} {av:I} (h:w6 v=some av):av.plain=true:=by
 unfold w6 at h;split at h<;>simp at h<;>subst h<;>rfl
theorem eF (h:bw w0 F0 X F S s au w) (dF:∀t,au t=a.tmps.getD t undef) {o:Operand} {x:aC} (cd:db o=some x):
  (aE s x).plain=true∧aB w F s au (aE s x) (a.eval o) (fun _=>False):=by
 cases o with
 |tmp n=>
  simp[db]at cd;subst cd
  simp only[aE,iG,Act.eval,←dF]
  split
  ·rename_i ao;exact⟨ao,aB.nothing ao (h.cN n)⟩
  ·rename_i ao
   refine⟨rfl,?_⟩
   rw[aB]
   intro d ah K5
   simp only[I.sub,Option.some.injEq]at ah;subst ah
   have aY:=hq (q:=[]) rfl (.inl K5)
   exact⟨_,none,rfl,rfl,((aB.b9 aY).1 (h.cN n)).1⟩
 |const v=>
  simp only[db,Option.map_eq_some_iff]at cd
  obtain⟨av,nQ,rfl⟩:=cd
  refine⟨AK nQ,?_⟩
  simp only[aE,Act.eval]
  unfold w6 at nQ
  split at nQ<;>simp at nQ<;>subst nQ<;>rw[aB,ak]<;>exact⟨rfl,rfl⟩
 |func g=>
  simp[db]at cd;subst cd
  refine⟨rfl,?_⟩
  simp only[aE,Act.eval]
  rw[aB]
  exact⟨#[],rfl,by rw[dx]⟩
 |global g=>simp[db]at cd
def kI (w0:World) (X F:Nat→Prop) (S:Nat→Nat→Prop) (s:an) (au:Nat→Value) (w:World) (av:I) (v:Value):Prop:=
 (av.plain=true∧aB w F s au av v (fun _=>False))∨
 (av.tree=true∧ck av v∧∃Sn,ak w F av (bU v) Sn∧(∀b,Sn b→b<w.heap.size)∧(∀b,Sn b→¬F b)∧(∀u b,Sn b→¬S u b)∧(∀b,Sn b→X b∨w0.heap.size≤b))
def fin (s:an) (dst:Option Nat) (av:I):an:=match dst with
 |none=>s
 |some t=>if av.plain then c7 s t av else c7 (mD t s) t av
def o5 (au:Nat→Value) (dst:Option Nat) (v:Value):Nat→Value:=match dst with
 |none=>au
 |some t=>c7 au t v
theorem bw.fin (h:bw w0 F0 X F S s au w) {av:I} {v:Value} (aI:kI w0 X F S s au w av v) (dst:Option Nat):
  ∃aG,bw w0 F0 X F aG (cI.fin s dst av) (o5 au dst v) w:=by
 cases dst with
 |none=>exact⟨S,h⟩
 |some t=>
  simp only[cI.fin,o5]
  rcases aI with⟨ao,ah⟩|⟨aY,aa,Sn,ad,ag,aF,a8,bF⟩
  ·rw[if_pos ao];exact⟨_,h.uo ao ah⟩
  ·split
   ·rename_i ao
    exact⟨_,h.uo ao ((aB.b9 aY).2 ⟨aa,ak.plain _ _ _ _ ao ad⟩)⟩
   ·exact⟨_,h.Ea aY aa ad ag aF (fun u b _ U=>a8 u b U) bF⟩
def ch (s:an):I→Option (I×an)
 | .h x q=>match I.sub q (s x)with
   |some d=>if d.plain then none else some (d,c7 (hR x s) x (I.put q d.cG (s x)))
   |none=>none
 | .ao _ _=>none
 | .U _ _=>none
 | .fn _ _=>none
 | .hole=>none
 |d=>some (d,s)
def I.owner:I→Option Nat
 | .h x _=>some x
 |_=>none
def kq:Option Nat→I→I
 |some x,d=>bR x d
 |none,d=>d
theorem nR (h:bw w0 F0 X F S s au w) {av d:I} {s1:an} {v:Value} (nQ:av.plain=true) (aI:aB w F s au av v (fun _=>False)) (aY:ch s av=some (d,s1)):
  ∃bN,bw w0 F0 X F bN s1 au w∧d.tree=true∧ck d v∧∃Sn,ak w F d (bU v) Sn∧(∀b,Sn b→b<w.heap.size)∧(∀b,Sn b→¬F b)∧(∀u b,Sn b→¬bN u b)∧(∀b,Sn b→X b∨w0.heap.size≤b)∧
   (∀u b,bN u b→S u b)∧(∀b,Sn b→∃u,S u b)∧(∀(bf:I) (fA:Value) (aG:Nat→Prop),aB w F s au bf fA aG→aB w F s1 au (kq av.owner bf) fA aG):=by
 have tree:∀d:I,d.tree=true→d.plain=true→aB w F s au d v (fun _=>False)→
   ∃bN,bw w0 F0 X F bN s au w∧d.tree=true∧ck d v∧∃Sn,ak w F d (bU v) Sn∧(∀b,Sn b→b<w.heap.size)∧(∀b,Sn b→¬F b)∧(∀u b,Sn b→¬bN u b)∧(∀b,Sn b→X b∨w0.heap.size≤b)∧
    (∀u b,bN u b→S u b)∧(∀b,Sn b→∃u,S u b):=by
  intro d ah _ bb
  have bb:=(aB.b9 ah).1 bb
  exact⟨S,h,ah,bb.1,_,bb.2,fun _ h=>h.elim,fun _ h=>h.elim,fun _ _ h=>h.elim,fun _ h=>h.elim,fun _ _ h=>h,fun _ h=>h.elim⟩
 cases av with
 |h x q=>
  simp only[ch]at aY
  split at aY
  ·rename_i e he
   split at aY
   ·cases aY
   ·rename_i ao
    simp only[Option.some.injEq,Prod.mk.injEq]at aY
    obtain⟨rfl,rfl⟩:=aY
    have ao:e.plain=false:=by simpa using ao
    obtain⟨Sn,eM,cc,cz,ea,bD,dt,cT,fF,du,e3⟩:=h.take he ao
    rw[aB]at aI
    obtain⟨alD,a2,g1,g2,g3⟩:=aI e he ao
    rw[bD]at g1
    simp only[Option.some.injEq,Prod.mk.injEq,true_and]at g1
    obtain⟨rfl,rfl⟩:=g1
    have AL:e.tree=true:=by cases e<;>first|rfl|(simp[I.plain]at ao)
    refine⟨_,ea,AL,g3,eM,by rw[g2];exact dt,fun b U=>h.eg x b (cT b U),fun b U=>h.fa x b (cT b U),?_,fun b U=>h.dp x b (cT b U),?_,fun b U=>⟨x,cT b U⟩,e3⟩
    ·intro u b U hu
     simp only[fR]at hu
     split at hu
     ·exact du b U hu
     ·rename_i w7;exact h.eN u x b w7 hu (cT b U)
    ·intro u b hu
     simp only[fR]at hu
     split at hu
     ·rename_i e;subst e;exact fF b hu
     ·exact hu
  ·cases aY
 |ao x q=>simp[ch]at aY
 |U x q=>simp[ch]at aY
 |fn f c=>simp[ch]at aY
 |hole=>simp[ch]at aY
 |aL sz xs=>simp[I.plain]at nQ
 |bM d=>simp[I.plain]at nQ
 |_=>
  simp only[ch,Option.some.injEq,Prod.mk.injEq]at aY
  obtain⟨rfl,rfl⟩:=aY
  obtain⟨bN,t1,t2,t3,Sn,t4,t5,t6,t7,t8,t9,t10⟩:=tree _ rfl nQ aI
  exact⟨bN,t1,t2,t3,Sn,t4,t5,t6,t7,t8,t9,t10,fun _ _ _ h=>h⟩
def loc (s:an):I→Option (Nat×List Nat)
 | .h x q=>match I.sub q (s x)with
   |some (.bM _)=>some (x,q++[0])
   |_=>none
 | .ao x q=>if I.e2 q (s x)then some (x,q)else none
 |_=>none
theorem ux:∀(q:List Nat) (av d:I) (r:List Nat),I.sub q av=some d→I.sub (q++r) av=I.sub r d:=by
 intro q
 induction q with
 |nil=>intro av d r h;simp[I.sub]at h;subst h;rfl
 |cons k q ih=>
  intro av d r h
  cases av with
  |agg aq=>
   simp only[I.sub,List.cons_append]at h⊢
   split at h
   ·rename_i x ai;exact ih _ _ _ h
   ·cases h
  |tuple aq=>
   simp only[I.sub,List.cons_append]at h⊢
   split at h
   ·rename_i x ai;exact ih _ _ _ h
   ·cases h
  |aL sz aq=>
   simp only[I.sub,List.cons_append]at h⊢
   split at h
   ·rename_i x ai;exact ih _ _ _ h
   ·cases h
  |bM x=>
   cases k with
   |zero=>simp only[I.sub,List.cons_append]at h⊢;exact ih _ _ _ h
   |succ k=>simp[I.sub]at h
  |_=>simp[I.sub]at h
theorem K6:∀(q:List Nat) (av d:I) (r:List Nat),I.sub q av=some d→I.e2 (q++r) av=(I.e2 q av||I.e2 r d):=by
 intro q
 induction q with
 |nil=>intro av d r h;simp[I.sub]at h;subst h;simp[I.e2]
 |cons k q ih=>
  intro av d r h
  cases av with
  |agg aq=>
   simp only[I.sub]at h
   split at h
   ·rename_i x ai
    simp only[I.e2,List.cons_append,ai]
    exact ih _ _ r h
   ·cases h
  |tuple aq=>
   simp only[I.sub]at h
   split at h
   ·rename_i x ai
    simp only[I.e2,List.cons_append,ai]
    exact ih _ _ r h
   ·cases h
  |aL sz aq=>simp[I.e2]
  |bM x=>simp[I.e2]
  |_=>simp[I.sub]at h
theorem uy (w:World):∀(q:List Nat) (av d:I) (cs cc:List Value) (a cz:Option (Nat×Nat)) (r:List Nat),cL w q av cs a=some (d,cc,cz)→cL w (q++r) av cs a=cL w r d cc cz:=by
 intro q
 induction q with
 |nil=>intro av d cs cc a cz r h;simp[cL]at h;obtain⟨rfl,rfl,rfl⟩:=h;rfl
 |cons k q ih=>
  intro av d cs cc a cz r h
  cases av with
  |agg aq=>
   rw[List.cons_append]
   rw[cL]at h⊢
   split at h
   ·rename_i x ai;exact ih _ _ _ _ _ _ _ h
   ·cases h
  |tuple aq=>
   rw[List.cons_append]
   rw[cL]at h⊢
   split at h
   ·rename_i x ai;exact ih _ _ _ _ _ _ _ h
   ·cases h
  |aL sz aq=>
   rw[List.cons_append]
   rw[cL.eq_def]at h⊢
   simp only at h⊢
   split at h
   ·exact ih _ _ _ _ _ _ _ h
   ·cases h
  |bM x=>
   cases k with
   |zero=>
    rw[List.cons_append]
    rw[cL.eq_def]at h⊢
    simp only at h⊢
    split at h
    ·exact ih _ _ _ _ _ _ _ h
    ·cases h
   |succ k=>rw[show cL w ((k+1)::q) (.bM x) cs a=none from rfl]at h;cases h
  |_=>simp[cL]at h
end
def fS.ok (x:fS):Bool:=match x.k with
 | .other=>false
 |_=>true
theorem bS.en.info {C:bS} (bc:C.en) {t:TypeId} (h:(C.T t).ok=true):
  ∃i d z,C.P.info? t=some i∧i.size=(C.T t).sz∧i.bytes=(C.T t).bytes∧i.zero=some z∧(∀cs,flat (C.T t).zero=some cs→z.cells=cs.toArray)∧C.P.underlying t=some d∧kH (C.T t).k d:=by
 rcases bc.ty t with⟨e,n,b,z,ai,_⟩|bb
 ·rw[ai]at h;simp[fS.ok]at h
 ·exact bb
theorem fh {x:fS} {k:mE} (h:x.k=k) (ax:k≠.other):x.ok=true:=by
 unfold fS.ok;rw[h];cases k<;>first|rfl|exact(ax rfl).elim
theorem uz {d:TypeDesc} {aq:List (TypeId×Nat)} (h:kH (.struct aq) d):∃gs,d= .struct gs∧gs.toList.map (fun g=>(g.type,g.offset))=aq:=by
 cases d<;>simp[kH]at h
 exact⟨_,rfl,h⟩
theorem kJ {d:TypeDesc} {e:TypeId} (h:kH (.slice e) d):d= .slice e:=by
 cases d<;>simp[kH]at h
 rw[h]
theorem uA {d:TypeDesc} {k:IntKind} (h:kH (.int k) d):d= .int k:=by
 cases d<;>simp[kH]at h
 rw[h]
theorem oz {d:TypeDesc} (h:kH .str d):d= .string:=by
 cases d<;>simp[kH]at h
 rfl
theorem AM {d:TypeDesc} (h:kH .bool d):d= .bool:=by
 cases d<;>simp[kH]at h
 rfl
theorem Eh {d:TypeDesc} {e:TypeId} (h:kH (.ptr e) d):d= .pointer e:=by
 cases d<;>simp[kH]at h
 rw[h]
theorem gp {v:Value} (h:Value.f_ v=true):bU v=[v]:=by
 cases v<;>first|rfl|(simp[Value.f_]at h)
theorem qY {P:Program} {t:TypeId} {i:TypeInfo} (h:P.info? t=some i) (w:World):(typeInfo t).run P w= .ok i w:=by simp[typeInfo,h]
theorem jR {P:Program} {t:TypeId} {i:TypeInfo} (h:P.info? t=some i) (w:World):(Go.sizeOf t).run P w= .ok i.size w:=by simp[Go.sizeOf,qY h]
theorem qZ {P:Program} {t:TypeId} {i:TypeInfo} {z:Value} (h:P.info? t=some i) (bG:i.zero=some z) (w:World):(zeroValue t).run P w= .ok z w:=by simp[zeroValue,qY h,bG]
section
variable {C:bS} {w0 w:World} {F0 X F:Nat→Prop} {S:Nat→Nat→Prop} {s s1:an} {au:Nat→Value} {av:I}
def Good (C:bS) (w0:World) (F0 X:Nat→Prop) (au:Nat→Value) (w:World) (m:Sem Value) (av:I) (s1:an):Prop:=
 ∃v aA bC aG,m.run C.P w= .ok v aA∧bw w0 F0 X bC aG s1 au aA∧kI w0 X bC aG s1 au aA av v
theorem Good.same (h:bw w0 F0 X F S s au w) {m:Sem Value} {v:Value} (aH:m.run C.P w= .ok v w) (ao:av.plain=true) (aI:aB w F s au av v (fun _=>False)):Good C w0 F0 X au w m av s:=
 ⟨v,w,F,S,aH,h,.inl ⟨ao,aI⟩⟩
theorem AN (_h:bw w0 F0 X F S s au w) {x:I} {v:Value} (aI:aB w F s au x v (fun _=>False)) {y:Nat} {q:List Nat} (aO:loc s x=some (y,q)) {d:I} (ah:I.sub q (s y)=some d):
  I.e2 q (s y)=true∧∃cc b o,v= .pointer (some ⟨b,o,none⟩)∧cL w q (s y) (bU (au y)) none=some (d,cc,some (b,o)):=by
 cases x with
 |h z eb=>
  simp only[loc]at aO
  split at aO
  ·rename_i e he
   simp only[Option.some.injEq,Prod.mk.injEq]at aO
   obtain⟨rfl,rfl⟩:=aO
   rw[aB]at aI
   obtain⟨cc,a,g1,g2,g3⟩:=aI _ he rfl
   have gL:e=d:=by
    rw[ux _ _ _ _ he]at ah
    simpa [I.sub]using ah
   subst gL
   refine⟨by rw[K6 _ _ _ _ he];simp[I.e2],?_⟩
   have ad:Value.f_ v=true:=g3
   rw[gp ad]at g2
   subst g2
   have j_:=uy w eb (s z) _ _ _ none a [0] g1
   have ai:=_h.cN z
   rw[aB.b9 (hq he (.inl rfl))]at ai
   obtain⟨ff,cz,dE,eM,k0,bV,b7,eh,dd,eO⟩:=ctx eb (s z) (bU (au z)) (S z) none _ ai.2 he
   rw[k0]at g1
   simp only[Option.some.injEq,Prod.mk.injEq,true_and]at g1
   obtain⟨rfl,rfl⟩:=g1
   rw[ak]at dd
   obtain⟨b,cur,aX,fr,dc,aS,_⟩:=dd
   simp only[List.cons.injEq,and_true]at aS
   subst aS
   exact⟨_,b,0,rfl,by rw[j_];rfl⟩
  ·cases aO
 |ao z eb=>
  simp only[loc]at aO
  split at aO
  ·rename_i aj
   simp only[Option.some.injEq,Prod.mk.injEq]at aO
   obtain⟨rfl,rfl⟩:=aO
   rw[aB]at aI
   obtain⟨cc,b,o,g1,g2⟩:=aI _ ah aj
   exact⟨aj,cc,b,o,g2,g1⟩
  ·cases aO
 |_=>simp[loc]at aO
def cH (C:bS) (s:an) (T:TypeId) (x:I) (k:Nat):Option I:=
 match(C.T T).k with
 | .struct aq=>match aq[k]? with
   |some (je,off)=>if(C.T je).ok=true∧(C.T je).sz≠0 then
     match x with
     | .ref (.agg ds)=>match ds[k]? with
       |some d=>if I.dD (ds.take k)=off then some (.ref d)else none
       |none=>none
     | .U y o=>if(s y).plain then none else some (.U y (o+off))
     |x=>match loc s x with
      |some (y,q)=>match I.sub q (s y)with
       |some (.agg ds)=>if k<ds.length∧I.dD (ds.take k)=off then some (.ao y (q++[k]))else none
       |_=>none
      |none=>none
    else none
   |none=>none
 |_=>none
theorem hl.AO {w:World} {b o:Nat} {b5 fe c2:List Value} (h:hl w b o (b5++(fe++c2))):hl w b (o+b5.length) fe:=by
 intro j c b6
 have d_:j<fe.length:=(List.getElem?_eq_some_iff.1 b6).1
 have:=h (b5.length+j) c (by rw[List.getElem?_append_right (by omega),List.getElem?_append_left (by omega),←b6];congr 1;omega)
 rw[Nat.add_assoc];exact this
theorem AP (bc:C.en) {T je:TypeId} {aq:List (TypeId×Nat)} {k off:Nat} (ax:(C.T T).k= .struct aq) (br:aq[k]? =some (je,off)) (ad:(C.T je).ok=true) (ag:(C.T je).sz≠0) (b o:Nat) (w:World):
  (Instr.fieldAt T (.pointer (some ⟨b,o,none⟩)) k).run C.P w= .ok (.pointer (some ⟨b,o+off,none⟩)) w:=by
 obtain⟨i,d,z,aT,aX,aS,bQ,cp,bK,bH⟩:=bc.info (fh ax (by simp))
 rw[ax]at bH
 obtain⟨gs,rfl,gb⟩:=uz bH
 obtain⟨o6,bf,o7,f1,f2,f3,f4,f5,f6,f7⟩:=bc.info ad
 have hg:∃g,gs[k]? =some g∧g.type=je∧g.offset=off:=by
  rw[←gb,List.getElem?_map]at br
  simp only[Option.map_eq_some_iff,Prod.mk.injEq]at br
  obtain⟨g,ad,ag,aF⟩:=br
  exact⟨g,by simpa using ad,ag,aF⟩
 obtain⟨g,g1,rfl,rfl⟩:=hg
 simp[Instr.fieldAt,run_underlying bK,g1,Instr.sureAddr,fieldPlace,jR f1,f2,ag,Addr.add_lit]
theorem K7 (bc:C.en) (h:bw w0 F0 X F S s au w) {T:TypeId} {x:I} {v:Value} {k:Nat} (ai:x.plain=true) (aI:aB w F s au x v (fun _=>False)) (he:cH C s T x k=some av):
  Good C w0 F0 X au w (Instr.fieldAt T v k) av s:=by
 unfold cH at he
 split at he
 ·rename_i aq ax
  split at he
  ·rename_i je off br
   split at he
   ·rename_i sk
    split at he
    ·rename_i ds
     split at he
     ·rename_i d ah
      split at he
      ·rename_i oA
       simp only[Option.some.injEq]at he;subst he
       have kK:=(aB.b9 rfl).1 aI
       rw[ak]at kK
       obtain⟨aa,b,o,dI,ad,ag,aF,a8⟩:=kK
       rw[gp aa]at ad
       simp only[List.cons.injEq,and_true]at ad;subst ad
       rw[ak]at a8
       obtain⟨b5,fe,c2,bN,ho,rfl,hd,fg,gM,hP,fz,lB⟩:=aW.pick ds _ _ k d a8 ah
       refine Good.same h (AP bc ax br sk.1 sk.2 b o w) rfl ((aB.b9 rfl).2 ⟨rfl,?_⟩)
       rw[ak]
       refine⟨b,o+off,fe,rfl,ag,?_,ak.mono (fun _ h=>h) _ _ _ _ (fun b U=>gM b U) fz⟩
       rw[←oA,←hd];exact aF.AO
      ·cases he
     ·cases he
    ·rename_i y o
     split at he
     ·cases he
     ·rename_i ao
      simp only[Option.some.injEq]at he;subst he
      rw[aB]at aI
      obtain⟨b,cur,e,fr,rfl,ag,aF,a8⟩:=aI (by simpa using ao)
      refine Good.same h (AP bc ax br sk.1 sk.2 b o w) rfl ?_
      rw[aB]
      exact fun _=>⟨b,cur,e,fr,rfl,ag,aF,a8⟩
    ·rename_i x _ _
     split at he
     ·rename_i y q aO
      split at he
      ·rename_i ds ah
       split at he
       ·rename_i oA
        simp only[Option.some.injEq]at he;subst he
        obtain⟨aj,cc,b,o,rfl,j_⟩:=AN h aI aO ah
        refine Good.same h (AP bc ax br sk.1 sk.2 b o w) rfl ?_
        rw[aB]
        intro d2 hf q0
        rw[uy w q _ _ _ _ _ _ [k] j_]
        rw[ux _ _ _ _ ah]at hf
        have pW:∃d3,ds[k]? =some d3:=⟨_,List.getElem?_eq_getElem oA.1⟩
        obtain⟨d3,uB⟩:=pW
        simp only[I.sub,uB,Option.some.injEq]at hf
        subst hf
        simp only[cL,uB]
        refine⟨(cc.drop off).take d3.wd,b,o+off,?_,rfl⟩
        rw[oA.2];rfl
       ·cases he
      ·cases he
     ·cases he
   ·cases he
  ·cases he
 ·cases he
def dO (C:bS) (s:an) (T:TypeId) (x i:I):Option I:=
 match(C.T T).k,i with
 | .slice e,.int _ n=>if 0≤n∧(C.T e).ok=true then
   match x with
   | .slice xs=>match xs[n.toNat]? with
     |some d=>if d.wd=(C.T e).sz then some (.ref d)else none
     |none=>none
   | .h y q=>match I.sub q (s y)with
     |some (.aL sz xs)=>if n.toNat<xs.length∧sz=(C.T e).sz then some (.ao y (q++[n.toNat]))else none
     |_=>none
   |_=>none
   else none
 |_,_=>none
theorem Ei (bc:C.en) {T e:TypeId} (ax:(C.T T).k= .slice e) (he:(C.T e).ok=true) (b o len cap:Nat) (k:IntKind) (n:Nat) (aV:n<len) (w:World):
  (Instr.indexAt T (.slice (some ⟨b,o,none⟩) len cap) (.int k n)).run C.P w= .ok (.pointer (some ⟨b,o+n*(C.T e).sz,none⟩)) w:=by
 obtain⟨i,d,z,aT,aX,aS,bQ,cp,bK,bH⟩:=bc.info (fh ax (by simp))
 rw[ax]at bH
 have:=kJ bH;subst this
 obtain⟨o6,bf,o7,f1,f2,f3,f4,f5,f6,f7⟩:=bc.info he
 simp[Instr.indexAt,run_underlying bK,asIntOf,aV,jR f1,f2,Addr.add_lit]
theorem K8 (bc:C.en) (h:bw w0 F0 X F S s au w) {T:TypeId} {x i:I} {v mY:Value} (aI:aB w F s au x v (fun _=>False)) (K9:aB w F s au i mY (fun _=>False))
  (he:dO C s T x i=some av):Good C w0 F0 X au w (Instr.indexAt T v mY) av s:=by
 unfold dO at he
 split at he
 ·rename_i e k n ax
  have AQ:=(aB.b9 rfl).1 K9
  rw[ak,gp AQ.1]at AQ
  have:mY= .int k n:=by simpa using AQ.2
  subst this
  split at he
  ·rename_i aV
   obtain⟨n,rfl⟩:=Int.eq_ofNat_of_zero_le aV.1
   simp only[Int.toNat_natCast]at he
   split at he
   ·rename_i xs
    split at he
    ·rename_i d ah
     split at he
     ·rename_i hw
      simp only[Option.some.injEq]at he;subst he
      have kK:=(aB.b9 rfl).1 aI
      rw[ak,gp kK.1]at kK
      obtain⟨aa,⟨rfl,_⟩|⟨b,o,cap,dI,sz,ad,ag,aF,a8,bF,cn,cD⟩⟩:=kK
      ·simp at ah
      ·simp only[List.cons.injEq,and_true]at ad;subst ad
       have d_:n<xs.length:=(List.getElem?_eq_some_iff.1 ah).1
       obtain⟨b5,fe,c2,bN,ho,rfl,hd,fg,gM,hP,fz,lB⟩:=aW.pick xs _ _ n d cD ah
       refine Good.same h (Ei bc ax aV.2 b o _ _ k n d_ w) rfl ((aB.b9 rfl).2 ⟨rfl,?_⟩)
       rw[ak]
       refine⟨b,_,fe,rfl,ag,?_,ak.mono (fun _ h=>h) _ _ _ _ (fun b U=>gM b U) fz⟩
       have K_:=bF d (List.mem_of_getElem? ah)
       have:n*(C.T e).sz=b5.length:=by
        rw[hd,qT _ (fun d ah=>bF d (List.mem_of_mem_take ah)),List.length_take,Nat.min_eq_left (by omega),←hw,K_]
       rw[this];exact cn.AO
     ·cases he
    ·cases he
   ·rename_i y q
    split at he
    ·rename_i sz xs ah
     split at he
     ·rename_i hw
      simp only[Option.some.injEq]at he;subst he
      rw[aB]at aI
      obtain⟨cc,a,g1,g2,g3⟩:=aI _ ah rfl
      have aa:Value.f_ v=true:=g3
      rw[gp aa]at g2;subst g2
      have ai:=h.cN y
      rw[aB.b9 (hq ah (.inl rfl))]at ai
      obtain⟨ff,cz,dE,eM,k0,bV,b7,eh,dd,eO⟩:=ctx q (s y) (bU (au y)) (S y) none _ ai.2 ah
      rw[k0]at g1
      simp only[Option.some.injEq,Prod.mk.injEq,true_and]at g1
      obtain⟨rfl,rfl⟩:=g1
      rw[ak]at dd
      rcases dd with⟨rfl,_⟩|⟨b,cap,cur,aX,fr,dc,aS,_⟩
      ·simp at hw
      ·simp only[List.cons.injEq,and_true]at aS;subst aS
       refine Good.same h (Ei bc ax aV.2 b 0 _ _ k n hw.1 w) rfl ?_
       rw[aB]
       intro d2 hf _
       rw[uy w q _ _ _ _ _ _ [n] k0]
       rw[ux _ _ _ _ ah]at hf
       obtain⟨d3,uB⟩:∃d3,xs[n]? =some d3:=⟨_,List.getElem?_eq_getElem hw.1⟩
       simp only[I.sub,uB,Option.some.injEq]at hf
       subst hf
       simp only[cL,uB]
       exact⟨_,b,n*sz,rfl,by simp[hw.2]⟩
     ·cases he
    ·cases he
   ·cases he
  ·cases he
 ·cases he
end
section
variable {C:bS} {w0 w:World} {F0 X F:Nat→Prop} {S:Nat→Nat→Prop} {s s1:an} {au:Nat→Value} {av:I}
theorem Ej (bc:C.en) {T:TypeId} {aq:List (TypeId×Nat)} (ax:(C.T T).k= .struct aq) (w:World):(isAgg T).run C.P w= .ok true w:=by
 obtain⟨i,d,z,aT,aX,aS,bQ,cp,bK,bH⟩:=bc.info (fh ax (by simp))
 rw[ax]at bH
 obtain⟨gs,rfl,_⟩:=uz bH
 simp[isAgg,run_underlying bK]
def fS.flat (x:fS):Bool:=match x.k with
 | .other=>false
 | .fE _=>false
 | .struct _=>false
 |_=>true
theorem Ek {x:fS} (h:x.flat=true):x.ok=true:=by
 unfold fS.flat at h;unfold fS.ok;revert h;cases x.k<;>simp
theorem AR (bc:C.en) {T:TypeId} (ax:(C.T T).flat=true) (w:World):(isAgg T).run C.P w= .ok false w:=by
 obtain⟨i,d,z,aT,aX,aS,bQ,cp,bK,bH⟩:=bc.info (Ek ax)
 have dr:(∀aq,d≠.struct aq)∧(∀n e,d≠.array n e):=by
  clear bK
  unfold fS.flat at ax
  generalize (C.T T).k=kL at*
  cases kL<;>cases d<;>simp[kH]at bH ax⊢
 cases d<;>first|exact(dr.1 _ rfl).elim|exact(dr.2 _ _ rfl).elim|simp[isAgg,run_underlying bK]
theorem hl.one {w:World} {b o:Nat} {v:Value} (h:hl w b o [v]):w.cell? ⟨b,o,none⟩=some v:=by simpa using h 0 v rfl
theorem El {P:Program} {b o:Nat}:∀(cs:List Value) (i:Nat) (acc:Array Value),hl w b (o+i) cs→(loadCellsFrom ⟨b,o,none⟩ i cs.length acc).run P w= .ok (acc++cs.toArray) w
 |[],i,acc,_=>by simp[loadCellsFrom]
 |c::cs,i,acc,h=>by
  have bm:w.cell? ⟨b,o+i,none⟩=some c:=by simpa using h 0 c rfl
  have ad:hl w b (o+(i+1)) cs:=by
   intro j x b6
   have:=h (j+1) x (by simpa using b6)
   rw[←this];congr 2;omega
  have ih:=El (P:=P) cs (i+1) (acc.push c) ad
  simp only[List.length_cons,loadCellsFrom,Sem.run_bind,Go.load,Sem.run,Addr.add_lit,bm,Result.andThen]
  rw[ih];simp
theorem La (bc:C.en) {T:TypeId} {aq:List (TypeId×Nat)} (ax:(C.T T).k= .struct aq) {b o:Nat} {cs:List Value} (h:hl w b o cs) (aO:cs.length=(C.T T).sz):
  (loadVar T ⟨b,o,none⟩).run C.P w= .ok (.agg cs.toArray) w:=by
 obtain⟨i,d,z,aT,aX,aS,bQ,cp,bK,bH⟩:=bc.info (fh ax (by simp))
 have:=El (P:=C.P) (b:=b) (o:=o) cs 0 #[] (by simpa using h)
 simp only[loadVar,Sem.run_bind,Ej bc ax,Result.andThen,if_true,jR aT,aX,←aO,loadCells,this]
 simp
theorem Em (bc:C.en) {T:TypeId} (ax:(C.T T).flat=true) {b o:Nat} {v:Value} (h:hl w b o [v]):
  (loadVar T ⟨b,o,none⟩).run C.P w= .ok v w:=by
 simp[loadVar,AR bc ax,Go.load,Sem.run,h.one]
def fits (C:bS) (T:TypeId) (d:I):Bool:=match(C.T T).k,d with
    | .struct _,.agg ds=>I.dD ds==(C.T T).sz
    | .struct _,_=>false
    |_,.agg _=>false
    |_,.tuple _=>false
    |_,_=>(C.T T).flat
def En:List I→Nat→Nat→Option Nat
 |[],_,_=>none
 |d::ds,i,k=>if k=0 then some i else if d.wd≤k then En ds (i+1) (k-d.wd)else none
def bY (C:bS) (s:an) (T:TypeId) (x:I):Option I:=
 match x with
 | .ref d=>if fits C T d=true then some d else none
 | .U y k=>match s y with
   | .agg ds=>if I.fK ds then none else match En ds 0 k with
     |some i=>match ds[i]? with
      |some d=>if I.dD (ds.take i)=k∧fits C T d=true then some (if d.plain then d else .h y [i])else none
      |none=>none
     |none=>none
   |_=>none
 |x=>match loc s x with
  |some (y,q)=>match I.sub q (s y)with
   |some d=>if fits C T d=true then some (if d.plain then d else .h y q)else none
   |none=>none
  |none=>none
theorem ak.one {F:Nat→Prop} {d:I} {cs:List Value} {S:Nat→Prop} (h:ak w F d cs S) (ad:∀aq,d≠.agg aq) (ag:∀aq,d≠.tuple aq):∃v,cs=[v]∧Value.f_ v=true:=by
 cases d with
 |hole=>rw[ak]at h;obtain⟨v,h,rfl⟩:=h;exact⟨v,rfl,h⟩
 |et=>rw[ak]at h;obtain⟨v,rfl⟩:=h;exact⟨_,rfl,rfl⟩
 |slice xs=>rw[ak]at h;rcases h with⟨_,a,c,rfl,_⟩|⟨b,o,cap,dI,sz,rfl,_⟩<;>exact⟨_,rfl,rfl⟩
 |aL sz xs=>rw[ak]at h;rcases h with⟨_,_,rfl⟩|⟨b,cap,cur,e,fr,dp,rfl,_⟩<;>exact⟨_,rfl,rfl⟩
 |ref d=>rw[ak]at h;obtain⟨b,o,dI,rfl,_⟩:=h;exact⟨_,rfl,rfl⟩
 |bM d=>rw[ak]at h;obtain⟨b,cur,e,fr,dp,rfl,_⟩:=h;exact⟨_,rfl,rfl⟩
 |agg aq=>exact(ad _ rfl).elim
 |tuple aq=>exact(ag _ rfl).elim
 |fn _ _=>rw[ak]at h;obtain⟨arr,rfl,_⟩:=h;exact⟨_,rfl,rfl⟩
 |h _ _=>rw[ak]at h;exact h.elim
 |ao _ _=>rw[ak]at h;exact h.elim
 |U _ _=>rw[ak]at h;exact h.elim
 |dq _=>rw[ak]at h;obtain⟨v,gK,rfl⟩:=k_.one h;exact⟨v,rfl,gK⟩
 |_=>rw[ak]at h;subst h;exact⟨_,rfl,rfl⟩
theorem I.w8 {d:I} (h:d.single=true):(∀aq,d≠.agg aq)∧∀aq,d≠.tuple aq:=
 ⟨fun aq e=>(by subst e;cases h),fun aq e=>(by subst e;cases h)⟩
theorem aB.nS {F:Nat→Prop} {s:an} {au:Nat→Value} {d:I} {v:Value} (aY:d.tree=true) (aa:d.single=true) (h:ak w F d [v] (fun _=>False)):aB w F s au d v (fun _=>False):=by
 obtain⟨fA,e,ad⟩:=ak.one h (I.w8 aa).1 (I.w8 aa).2
 have:v=fA:=by simpa using e
 subst this
 refine(aB.b9 aY).2 ⟨?_,by rw[gp ad];exact h⟩
 cases d<;>first|exact ad|cases aa
mutual
theorem aB.oB {F:Nat→Prop} {s:an} {au:Nat→Value}:∀(d:I) (v:Value),d.single=true→ak w F d [v] (fun _=>False)→aB w F s au d v (fun _=>False)
 | .fn f caps,v,_,h=>by
   rw[ak]at h
   obtain⟨arr,ad,ag,aF⟩:=h
   rw[aB]
   exact⟨arr,by simpa using ad,dx.oB caps _ ag aF⟩
 | .bool b,v,aa,h=>aB.nS rfl aa h
 | .et,v,aa,h=>aB.nS rfl aa h
 | .int k n,v,aa,h=>aB.nS rfl aa h
 | .str x,v,aa,h=>aB.nS rfl aa h
 | .cS,v,aa,h=>aB.nS rfl aa h
 | .bk,v,aa,h=>aB.nS rfl aa h
 | .slice xs,v,aa,h=>aB.nS rfl aa h
 | .aL sz xs,v,aa,h=>aB.nS rfl aa h
 | .ref d,v,aa,h=>aB.nS rfl aa h
 | .bM d,v,aa,h=>aB.nS rfl aa h
 | .h _ _,v,_,h=>by rw[ak]at h;exact h.elim
 | .ao _ _,v,_,h=>by rw[ak]at h;exact h.elim
 | .U _ _,v,_,h=>by rw[ak]at h;exact h.elim
 | .dq _,v,aa,h=>aB.nS rfl aa h
theorem dx.oB {F:Nat→Prop} {s:an} {au:Nat→Value}:∀(ds:List I) (vs:List Value),(∀d∈ds,d.single=true)→aW w F ds vs (fun _=>False)→dx w F s au ds vs
 |[],vs,_,h=>by rw[aW]at h;rw[dx];exact h
 |d::ds,vs,aa,h=>by
  rw[aW]at h
  obtain⟨b5,c2,bN,dc,rfl,ag,aF,a8,bF,_⟩:=h
  have ah:=aa d (by simp)
  obtain⟨v,rfl,_⟩:=ak.one ag (I.w8 ah).1 (I.w8 ah).2
  rw[dx]
  exact⟨v,c2,rfl,aB.oB d v ah (ak.mono (fun _ h=>h) _ _ _ _ (fun b U=>a8 b U) ag),dx.oB ds c2 (fun x ai=>aa x (by simp[ai])) (aW.mono (fun _ h=>h) _ _ _ _ (fun b U=>bF b U) aF)⟩
end
theorem w9 (bc:C.en) {T:TypeId} {d:I} {b o:Nat} {cs:List Value} {S:Nat→Prop} (h:hl w b o cs) (ah:ak w F d cs S)
  (hE:fits C T d=true):
  ∃v,(loadVar T ⟨b,o,none⟩).run C.P w= .ok v w∧bU v=cs∧ck d v:=by
 unfold fits at hE
 by_cases aa:∃aq,(C.T T).k= .struct aq
 ·obtain⟨aq,ax⟩:=aa
  rw[ax]at hE
  cases d with
  |agg ds=>
   simp only[beq_iff_eq]at hE
   refine⟨_,La bc ax h ((ak.length _ _ _ ah).trans hE),rfl,⟨_,rfl⟩⟩
  |_=>simp at hE
 ·have iH:(C.T T).flat=true∧(∀aq,d≠.agg aq)∧(∀aq,d≠.tuple aq):=by
   revert hE aa
   cases ax:(C.T T).k<;>cases d<;>simp
  obtain⟨v,rfl,ad⟩:=ak.one ah iH.2.1 iH.2.2
  refine⟨v,Em bc iH.1 h,gp ad,?_⟩
  cases d<;>first|exact ad|exact(iH.2.1 _ rfl).elim|exact(iH.2.2 _ rfl).elim
theorem Lb (bc:C.en) {T:TypeId} {d:I} {off:Nat} {arr:Array Value} {b5 cs c2:List Value} {S:Nat→Prop} (he:arr.toList=b5++(cs++c2)) (cd:b5.length=off) (ah:ak w F d cs S)
  (hE:fits C T d=true):
  ∃v,(part T arr off).run C.P w= .ok v w∧bU v=cs∧ck d v:=by
 unfold fits at hE
 by_cases aa:∃aq,(C.T T).k= .struct aq
 ·obtain⟨aq,ax⟩:=aa
  rw[ax]at hE
  cases d with
  |agg ds=>
   simp only[beq_iff_eq]at hE
   obtain⟨i,d,z,aT,aX,aS,bQ,cp,bK,bH⟩:=bc.info (fh ax (by simp))
   have aO:cs.length=(C.T T).sz:=(ak.length _ _ _ ah).trans hE
   have ai:(arr.extract off (off+(C.T T).sz)).toList=cs:=by
    rw[Array.toList_extract,he,List.extract_eq_take_drop,←aO,←cd,Nat.add_sub_cancel_left,List.drop_left,List.take_left]
   refine⟨.agg (arr.extract off (off+(C.T T).sz)),?_,by simpa [bU,hp]using ai,⟨_,rfl⟩⟩
   simp[part,Ej bc ax,jR aT,aX]
  |_=>simp at hE
 ·have iH:(C.T T).flat=true∧(∀aq,d≠.agg aq)∧(∀aq,d≠.tuple aq):=by
   revert hE aa
   cases ax:(C.T T).k<;>cases d<;>simp
  obtain⟨v,rfl,ad⟩:=ak.one ah iH.2.1 iH.2.2
  have hg:arr[off]? =some v:=by
   rw[←Array.getElem?_toList,he,←cd,List.getElem?_append_right (Nat.le_refl _)];simp
  refine⟨v,?_,gp ad,?_⟩
  ·simp[part,AR bc iH.1,hg]
  ·cases d<;>first|exact ad|exact(iH.2.1 _ rfl).elim|exact(iH.2.2 _ rfl).elim
theorem Lc (bc:C.en) (h:bw w0 F0 X F S s au w) {T:TypeId} {x:I} {v:Value} (aI:aB w F s au x v (fun _=>False)) (he:bY C s T x=some av):
  Good C w0 F0 X au w (Instr.loadAt T v) av s:=by
 unfold bY at he
 split at he
 ·rename_i d
  split at he
  ·rename_i hE
   simp only[Option.some.injEq]at he;subst he
   have kK:=(aB.b9 rfl).1 aI
   rw[ak,gp kK.1]at kK
   obtain⟨aa,b,o,dI,ad,ag,aF,a8⟩:=kK
   simp only[List.cons.injEq,and_true]at ad;subst ad
   obtain⟨fA,aH,aj,l8⟩:=w9 bc aF a8 hE
   have dV:(Instr.loadAt T (.pointer (some ⟨b,o,none⟩))).run C.P w= .ok fA w:=by simp[Instr.loadAt,Instr.sureAddr,aH]
   refine⟨fA,w,F,S,dV,h,?_⟩
   by_cases aY:d.tree=true
   ·exact .inr ⟨aY,l8,fun _=>False,by rw[aj];exact a8,fun _ h=>h.elim,fun _ h=>h.elim,fun _ _ h=>h.elim,fun _ h=>h.elim⟩
   ·cases d<;>first|exact(aY rfl).elim|(rw[ak]at a8;exact a8.elim)|exact .inl ⟨rfl,by rw[aB];trivial⟩|(have bF:=a8;rw[ak]at bF;obtain⟨arr,e,_⟩:=bF;rw[←aj]at e a8;rw[gp (by exact l8)]at a8;exact .inl ⟨rfl,aB.oB _ _ rfl a8⟩)
  ·cases he
 ·rename_i y k
  split at he
  ·rename_i ds mF
   split at he
   ·cases he
   ·rename_i uC
    split at he
    ·rename_i i ay
     split at he
     ·rename_i d ah
      split at he
      ·rename_i hE
       simp only[Option.some.injEq]at he
       have gT:(s y).plain=false:=by rw[mF];simp only[I.plain];simpa using uC
       rw[aB]at aI
       obtain⟨b,cur,e,fr,rfl,ag,aF,a8⟩:=aI gT
       have hy:=h.cN y
       rw[mF]at hy
       have Eo:=((aB.b9 rfl).1 hy).2
       rw[ak]at Eo
       obtain⟨b5,fe,c2,bN,ho,hs,hd,fg,gM,hP,fz,lB⟩:=aW.pick ds _ _ i d Eo ah
       have jo:hl w b k fe:=by
        intro j c b6
        have d_:j<fe.length:=(List.getElem?_eq_some_iff.1 b6).1
        have:cur.toList[k+j]? =some c:=by
         rw[a8,hs,List.getElem?_append_right (by omega),List.getElem?_append_left (by omega),←b6];congr 1;omega
        simp[World.cell?,aF]
        simpa using this
       obtain⟨fA,aH,aj,l8⟩:=w9 bc jo fz hE.2
       have dV:(Instr.loadAt T (.pointer (some ⟨b,k,none⟩))).run C.P w= .ok fA w:=by simp[Instr.loadAt,Instr.sureAddr,aH]
       refine⟨fA,w,F,S,dV,h,?_⟩
       split at he
       ·rename_i ao
        subst he
        by_cases aY:d.tree=true
        ·exact .inl ⟨ao,(aB.b9 aY).2 ⟨l8,by rw[aj];exact ak.plain _ _ _ _ ao fz⟩⟩
        ·cases d<;>first|exact(aY rfl).elim|(rw[ak]at fz;exact fz.elim)|exact .inl ⟨rfl,by rw[aB];trivial⟩|(have bF:=ak.plain _ _ _ (fun _=>False) ao fz;rw[←aj]at bF;rw[gp (by exact l8)]at bF;exact .inl ⟨rfl,aB.oB _ _ rfl bF⟩)
       ·subst he
        refine .inl ⟨rfl,?_⟩
        rw[aB]
        intro d2 hf _
        rw[mF]at hf⊢
        simp only[I.sub,ah,Option.some.injEq]at hf
        subst hf
        refine⟨fe,none,?_,aj,l8⟩
        simp only[cL,ah]
        rw[hs,qR b5 fe c2 _ _ hd (ak.length _ _ _ fz)]
        rfl
      ·cases he
     ·cases he
    ·cases he
  ·cases he
 ·rename_i x _ _
  split at he
  ·rename_i y q aO
   split at he
   ·rename_i d ah
    split at he
    ·rename_i hE
     simp only[Option.some.injEq]at he
     obtain⟨nT,cc,b,o,rfl,j_⟩:=AN h aI aO ah
     have hy:=h.cN y
     rw[aB.b9 (hq ah (.inr nT))]at hy
     obtain⟨ff,cz,dE,eM,k0,bV,b7,eh,dd,eO⟩:=ctx q (s y) (bU (au y)) (S y) none _ hy.2 ah
     rw[k0]at j_
     simp only[Option.some.injEq,Prod.mk.injEq,true_and]at j_
     obtain⟨rfl,rfl⟩:=j_
     have jo:hl w b o ff:=by
      rcases eO with⟨l,r,aT,aX,_⟩|⟨e8,cur,e,fr,l,r,aT,aX,aS,bQ,cp,_⟩
      ·simp at aX
      ·simp only[Option.some.injEq,Prod.mk.injEq]at aT
       obtain⟨rfl,rfl⟩:=aT
       intro j c b6
       have d_:j<ff.length:=(List.getElem?_eq_some_iff.1 b6).1
       have:cur.toList[l.length+j]? =some c:=by
        rw[cp,List.getElem?_append_right (by omega),List.getElem?_append_left (by omega),←b6];congr 1;omega
       simp[World.cell?,aS]
       simpa using this
     obtain⟨fA,aH,aj,l8⟩:=w9 bc jo dd hE
     have dV:(Instr.loadAt T (.pointer (some ⟨b,o,none⟩))).run C.P w= .ok fA w:=by simp[Instr.loadAt,Instr.sureAddr,aH]
     refine⟨fA,w,F,S,dV,h,?_⟩
     split at he
     ·rename_i ao
      subst he
      by_cases aY:d.tree=true
      ·exact .inl ⟨ao,(aB.b9 aY).2 ⟨l8,by rw[aj];exact ak.plain _ _ _ _ ao dd⟩⟩
      ·cases d<;>first|exact(aY rfl).elim|(rw[ak]at dd;exact dd.elim)|exact .inl ⟨rfl,by rw[aB];trivial⟩|(have bF:=ak.plain _ _ _ (fun _=>False) ao dd;rw[←aj]at bF;rw[gp (by exact l8)]at bF;exact .inl ⟨rfl,aB.oB _ _ rfl bF⟩)
     ·subst he
      refine .inl ⟨rfl,?_⟩
      rw[aB]
      intro d2 hf _
      rw[ah]at hf
      simp only[Option.some.injEq]at hf
      subst hf
      exact⟨_,_,k0,aj,l8⟩
    ·cases he
   ·cases he
  ·cases he
mutual
theorem ak.q1 {F:Nat→Prop}:∀(d:I) (cs:List Value) (S:Nat→Prop),ak w F d cs S→∀c∈cs,Value.f_ c=true
 | .hole,cs,S,h=>by rw[ak]at h;obtain⟨v,h,rfl⟩:=h;simpa using h
 | .bool _,cs,S,h=>by rw[ak]at h;subst h;simp[Value.f_]
 | .et,cs,S,h=>by rw[ak]at h;obtain⟨b,rfl⟩:=h;simp[Value.f_]
 | .int _ _,cs,S,h=>by rw[ak]at h;subst h;simp[Value.f_]
 | .str _,cs,S,h=>by rw[ak]at h;subst h;simp[Value.f_]
 | .cS,cs,S,h=>by rw[ak]at h;subst h;simp[Value.f_]
 | .bk,cs,S,h=>by rw[ak]at h;subst h;simp[Value.f_]
 | .slice xs,cs,S,h=>by
   rw[ak]at h
   rcases h with⟨_,a,c,rfl,_⟩|⟨b,o,cap,dI,sz,rfl,_⟩<;>simp[Value.f_]
 | .aL sz xs,cs,S,h=>by
   rw[ak]at h
   rcases h with⟨_,_,rfl⟩|⟨b,cap,cur,e,fr,aG,rfl,_⟩<;>simp[Value.f_]
 | .ref d,cs,S,h=>by rw[ak]at h;obtain⟨b,o,dI,rfl,_⟩:=h;simp[Value.f_]
 | .bM d,cs,S,h=>by rw[ak]at h;obtain⟨b,o,dI,_,_,rfl,_⟩:=h;simp[Value.f_]
 | .agg aq,cs,S,h=>by rw[ak]at h;exact aW.q1 aq _ _ h
 | .tuple aq,cs,S,h=>by rw[ak]at h;exact aW.q1 aq _ _ h
 | .fn _ _,cs,S,h=>by rw[ak]at h;obtain⟨arr,rfl,_⟩:=h;simp[Value.f_]
 | .h _ _,cs,S,h=>by rw[ak]at h;exact h.elim
 | .ao _ _,cs,S,h=>by rw[ak]at h;exact h.elim
 | .U _ _,cs,S,h=>by rw[ak]at h;exact h.elim
 | .dq _,cs,S,h=>by rw[ak]at h;obtain⟨v,gK,rfl⟩:=k_.one h;simpa using gK
theorem aW.q1 {F:Nat→Prop}:∀(ds:List I) (cs:List Value) (S:Nat→Prop),aW w F ds cs S→∀c∈cs,Value.f_ c=true
 |[],cs,S,h=>by rw[aW]at h;subst h;simp
 |d::ds,cs,S,h=>by
  rw[aW]at h
  obtain⟨b5,c2,bN,dc,rfl,ag,aF,_⟩:=h
  intro c aj
  rcases List.mem_append.1 aj with aj|aj
  ·exact ak.q1 d _ _ ag c aj
  ·exact aW.q1 ds _ _ aF c aj
end
theorem AU {P:Program} {b o:Nat} {e:TypeId} {fr:Nat×Nat}:∀(vs:List Value) (i:Nat) (cur:Array Value) (w:World) (l m r:List Value),w.heap[b]? =some (.cells cur e fr)→pS fr cur.size→
  cur.toList=l++(m++r)→l.length=o+i→m.length=vs.length→(∀v∈vs,Value.f_ v=true)→
  ∃aA,(storeCells ⟨b,o,none⟩ vs i).run P w= .ok () aA∧aA.heap[b]? =some (.cells (l++(vs++r)).toArray e fr)∧(∀c,c≠b→aA.heap[c]? =w.heap[c]?)∧aA.heap.size=w.heap.size∧aA.os=w.os∧aA.tape=w.tape∧Out aA w
 |[],i,cur,w,l,m,r,U,br,aj,aO,hm,_=>by
  refine⟨w,rfl,?_,fun _ _=>rfl,rfl,rfl,rfl,Out.refl _⟩
  have:m=[]:=by simpa using hm
  subst this
  rw[U]
  have:cur=(l++([]++r)).toArray:=by rw[←aj]
  rw[←this]
 |v::vs,i,cur,w,l,m,r,U,br,aj,aO,hm,w_=>by
  obtain⟨x,m,rfl⟩:∃x jq,m=x::jq:=by cases m with
   |nil=>simp at hm
   |cons x m=>exact⟨x,m,rfl⟩
  have hlen:cur.size=(l++(x::m++r)).length:=by rw[←aj];simp
  have d_:o+i<cur.size:=by rw[hlen];simp;omega
  have xa:w.cell? ⟨b,o+i,none⟩=some cur[o+i]:=by simp[World.cell?,U,d_]
  have Ld:w.frozen? ⟨b,o+i,none⟩=false:=by
   have:=br (o+i) d_
   simp only[World.frozen?,U]
   simp only[Bool.and_eq_false_iff,decide_eq_false_iff_not]
   by_cases ad:fr.1≤o+i
   ·right;exact fun ag=>this ⟨ad,ag⟩
   ·left;exact ad
  have pX:(w.setCell ⟨b,o+i,none⟩ v).heap[b]? =some (.cells ((l++[v])++(m++r)).toArray e fr):=by
   simp only[World.setCell,Array.getElem?_modify,if_true,U,Option.map_some,Option.isSome_none,Bool.false_eq_true,if_false]
   congr 2
   apply Array.ext'
   rw[Array.toList_setIfInBounds,aj,←aO,List.set_append_right _ _ (Nat.le_refl _)]
   simp
  have q2:(store ((⟨b,o,none⟩:Addr).add i) v).run P w= .ok () (w.setCell ⟨b,o+i,none⟩ v):=by
   have ad:=w_ v (by simp)
   rw[Addr.add_lit]
   cases v<;>first|(simp[Value.f_]at ad;done)|simp[Go.store,Sem.run,xa,Ld]
  obtain⟨aA,g1,g2,g3,g4,g5,g6,g7⟩:=AU (P:=P) (b:=b) (o:=o) vs (i+1) _ (w.setCell ⟨b,o+i,none⟩ v) (l++[v]) m r pX (by
   have:(l++[v]++(m++r)).toArray.size=cur.size:=by rw[hlen];simp
   rw[this];exact br) (by simp) (by simp;omega) (by simpa using hm) (fun u hu=>w_ u (by simp[hu]))
  refine⟨aA,?_,by simpa using g2,fun c aj=> ?_,?_,g5,g6,g7⟩
  ·simp only[storeCells,Sem.run_bind,q2,Result.andThen];exact g1
  ·rw[g3 c aj]
   simp only[World.setCell,Array.getElem?_modify]
   rw[if_neg (fun e=>aj e.symm)]
  ·rw[g4];simp[World.setCell]
theorem uD {d:I} {v:Value} (h:ck d v) (ah:∀aq,d≠.tuple aq):v.cells=(bU v).toArray:=by
 cases d with
 |tuple aq=>exact(ah _ rfl).elim
 |agg aq=>obtain⟨arr,rfl⟩:=h;simp[Value.cells,bU,hp]
 |_=>
  have ad:Value.f_ v=true:=h
  rw[gp ad]
  cases v<;>first|rfl|(simp[Value.f_]at ad)
def gd (C:bS) (s:an) (T:TypeId) (x y:I):Option an:=
 match ch s y,loc s x with
 |some (d,s1),some (z,q)=>match d with
  | .tuple _=>none
  |d=>match I.sub q (s z)with
   |some d0=>if d.wd=d0.wd∧d.wd=(C.T T).sz∧(C.T T).ok=true∧y.owner≠some z then some (c7 (hR z s1) z (I.put q d (s z)))else none
   |none=>none
 |_,_=>none
theorem Le {s s1:an} {y d:I} {z:Nat} (h:ch s y=some (d,s1)) (bG:(s z).tree=true) (hy:y.owner≠some z):s1 z=s z:=by
 cases y with
 |h x q=>
  simp only[ch]at h
  split at h
  ·split at h
   ·cases h
   ·simp only[Option.some.injEq,Prod.mk.injEq]at h
    obtain⟨_,rfl⟩:=h
    rw[jd _ _ (fun e=>hy (by rw[I.owner,e]))]
    exact Ax bG
  ·cases h
 |ao x q=>simp[ch]at h
 |U x q=>simp[ch]at h
 |fn f c=>simp[ch]at h
 |hole=>simp[ch]at h
 |_=>simp only[ch,Option.some.injEq,Prod.mk.injEq]at h;rw[h.2]
theorem Lf (bc:C.en) (h:bw w0 F0 X F S s au w) {T:TypeId} {x y:I} {ht h6:Value} (AV:aB w F s au x ht (fun _=>False)) (hy:y.plain=true) (Lg:aB w F s au y h6 (fun _=>False))
  {s2:an} (he:gd C s T x y=some s2):
  ∃aA aG,(Instr.storeAt T ht h6).run C.P w= .ok () aA∧bw w0 F0 X F aG s2 au aA:=by
 unfold gd at he
 split at he
 ·rename_i d s1 z q aY aO
  have key:∀d:I,(∀aq,d≠.tuple aq)→ch s y=some (d,s1)→(match I.sub q (s z)with
   |some d0=>if d.wd=d0.wd∧d.wd=(C.T T).sz∧(C.T T).ok=true∧y.owner≠some z then some (c7 (hR z s1) z (I.put q d (s z)))else none
   |none=>none)=some s2→∃aA aG,(Instr.storeAt T ht h6).run C.P w= .ok () aA∧bw w0 F0 X F aG s2 au aA:=by
   intro d o8 aY he
   split at he
   ·rename_i d0 l9
    split at he
    ·rename_i q3
     obtain⟨ad,ag,aF,a8⟩:=q3
     simp only[Option.some.injEq]at he;subst he
     obtain⟨nT,cc,b,o,rfl,j_⟩:=AN h AV aO l9
     obtain⟨bN,g0,g1,g2,Sn,g3,g4,g5,g6,g7,g8⟩:=nR h hy Lg aY
     have dJ:s1 z=s z:=Le aY (hq l9 (.inr nT)) a8
     rw[←dJ]at l9 nT j_⊢
     obtain⟨ff,e8,l,r,cur,e,fr,k0,bV,b7,eh,dd⟩:=g0.store l9 nT g3 ad g4 g5 g6 g7
     rw[j_]at k0
     simp only[Option.some.injEq,Prod.mk.injEq,true_and]at k0
     obtain⟨rfl,rfl,rfl⟩:=k0
     obtain⟨i,d,o7,aT,aX,aS,bQ,cp,bK,bH⟩:=bc.info aF
     have hlen:=ak.length _ _ _ g3
     have hm:cc.length=(bU h6).length:=by
      have Ep:=g0.cN z
      rw[aB.b9 (hq l9 (.inr nT))]at Ep
      obtain⟨_,_,_,_,c0,_,_,_,c4,_⟩:=ctx q (s1 z) (bU (au z)) (bN z) none _ Ep.2 l9
      rw[j_]at c0
      simp only[Option.some.injEq,Prod.mk.injEq,true_and]at c0
      rw[c0.1,ak.length _ _ _ c4,hlen,ad]
     obtain⟨aA,m1,m2,m3,m4,m5,m6,m7⟩:=AU (P:=C.P) (b:=b) (o:=l.length) (e:=e) (fr:=fr) (bU h6) 0 cur w l cc r bV eh b7 rfl hm (ak.q1 _ _ _ g3)
     obtain⟨aG,eO⟩:=dd aA m2 m3 m4 m5 m6 m7
     refine⟨aA,aG,?_,eO⟩
     have nU:=uD g2 o8
     simp[Instr.storeAt,Instr.sureAddr,storeVar,jR aT,aX,nU,hlen,ag,m1]
    ·cases he
   ·cases he
  split at he
  ·cases he
  ·rename_i o8
   exact key _ (fun aq e=>o8 aq e) aY he
 ·cases he
theorem bw.alloc (h:bw w0 F0 X F S s au w) {d:I} {cs:List Value} {Sn:Nat→Prop} (e:TypeId) (aI:ak w F d cs Sn)
  (d_:∀b,Sn b→b<w.heap.size) (bl:∀b,Sn b→¬F b) (bI:∀u b,Sn b→¬S u b) (bm:∀b,Sn b→X b∨w0.heap.size≤b):
  bw w0 F0 X F S s au (w.alloc (.cells cs.toArray e))∧
   kI w0 X F S s au (w.alloc (.cells cs.toArray e)) (.bM d) (.pointer (some ⟨w.heap.size,0,none⟩)):=by
 have hold:∀b,b<w.heap.size→(w.alloc (.cells cs.toArray e)).heap[b]? =w.heap[b]? :=by
  intro b U
  show(w.heap.push _)[b]? =_
  rw[Array.getElem?_push,if_neg (by omega)]
 refine⟨h.grow hold (by simp) rfl rfl ⟨rfl,fun _=>Nat.le_refl _⟩,.inr ⟨rfl,rfl,fun b=>b=w.heap.size∨Sn b,?_,?_,?_,?_,?_⟩⟩
 ·rw[ak]
  refine⟨w.heap.size,cs.toArray,e,(0,0),Sn,rfl,.inl rfl,?_,?_,?_,fun c aj=>.inr aj,fun aj=>Nat.lt_irrefl _ (d_ _ aj)⟩
  ·show(w.heap.push _)[_]? =_
   simp
  ·intro o _ ⟨_,ag⟩;exact absurd ag (Nat.not_lt_zero _)
  ·exact ak.frame (fun b U=>hold b (h.eT b U)) _ _ _ (fun b U=>hold b (d_ b U)) aI
 ·rintro b (rfl|U)
  ·simp
  ·have:=d_ b U;simp;omega
 ·rintro b (rfl|U) o9
  ·exact Nat.lt_irrefl _ (h.eT _ o9)
  ·exact bl b U o9
 ·rintro u b (rfl|U) hu
  ·exact Nat.lt_irrefl _ (h.eg _ _ hu)
  ·exact bI u b U hu
 ·rintro b (rfl|U)
  ·exact .inr h.size
  ·exact bm b U
def gU (C:bS) (T:TypeId):Option I:=if(C.T T).ok=true then(match(C.T T).k,(C.T T).zero with
    | .fE e,.agg [.cS,.bk]=>some (.dq (.hC T e []))
    | .fE _,_=>none
    |_,z=>(match flat z with|some _=>some (.bM z)|none=>none))else none
theorem Lh (bc:C.en) (h:bw w0 F0 X F S s au w) {T:TypeId} (he:gU C T=some av):Good C w0 F0 X au w (Instr.alloc T true (.tuple #[])) av s:=by
 unfold gU at he
 split at he
 ·rename_i ax
  split at he
  ·rename_i alE alF Li
   simp only[Option.some.injEq]at he;subst he
   obtain⟨i,d,z,aT,aX,aS,bQ,cp,bK,bH⟩:=bc.info ax
   have bG:=cp [.pointer none,.slice none 0 0] (by rw[Li];rfl)
   have hold:∀b,b<w.heap.size→(w.alloc (.cells #[.pointer none,.slice none 0 0] T)).heap[b]? =w.heap[b]? :=by
    intro b U
    show(w.heap.push _)[b]? =_
    rw[Array.getElem?_push,if_neg (by omega)]
   refine⟨.pointer (some ⟨w.heap.size,0,none⟩),w.alloc (.cells #[.pointer none,.slice none 0 0] T),F,S,?_,h.grow hold (by simp) rfl rfl ⟨rfl,fun _=>Nat.le_refl _⟩,.inr ⟨rfl,rfl,fun b=>b=w.heap.size,?_,?_,?_,?_,?_⟩⟩
   ·simp[Instr.alloc,qZ aT bQ,newVar,newRow,newObj,Sem.run,bG]
   ·rw[ak]
    refine⟨w.heap.size,.pointer none,.slice none 0 0,rfl,rfl,?_,.inl rfl,.inl ⟨rfl,rfl⟩⟩
    show(w.heap.push _)[_]? =_
    simp
   ·rintro b rfl;simp
   ·rintro b rfl o9;exact Nat.lt_irrefl _ (h.eT _ o9)
   ·rintro u b rfl hu;exact Nat.lt_irrefl _ (h.eg _ _ hu)
   ·rintro b rfl;exact .inr h.size
  ·cases he
  split at he
  ·rename_i cs hs
   simp only[Option.some.injEq]at he;subst he
   obtain⟨i,d,z,aT,aX,aS,bQ,cp,bK,bH⟩:=bc.info ax
   have bG:=cp cs hs
   obtain⟨ea,bD⟩:=h.alloc (d:=(C.T T).zero) T ((ak.flat _).1 _ cs (fun _=>False) (Nat.le_refl _) hs) (fun _ h=>h.elim) (fun _ h=>h.elim) (fun _ _ h=>h.elim) (fun _ h=>h.elim)
   refine⟨_,_,F,S,?_,ea,bD⟩
   simp[Instr.alloc,qZ aT bQ,newVar,newRow,newObj,Sem.run,bG]
  ·cases he
 ·cases he
def cQ (s:an) (x:I):Option (I×an):=match ch s x with
 |some (.tuple _,_)=>none
 |some (d,s1)=>some (.bM d,s1)
 |none=>none
def kM (s:an) (x:I):Option (I×an):=match x with
 | .h y q=>match q,s y with
   |[],.agg ds=>if I.fK ds then none else some (.U y 0,s)
   |_,_=>none
 | .fn f caps=>if caps.all (fun d=>d.single&&(d.tree&&d.plain))=true then some (.ref (.fn f caps),s)else none
 |_=>none
theorem aW.Er {w:World} {F bC:Nat→Prop} {s:an} {au:Nat→Value} (bl:∀b,F b→bC b):∀(ds:List I) (vs:List Value),(∀d∈ds,d.single=true∧d.tree=true∧d.plain=true)→dx w F s au ds vs→aW w bC ds vs (fun _=>False)
 |[],vs,_,h=>by rw[dx]at h;rw[aW];exact h
 |d::ds,vs,aa,h=>by
  rw[dx]at h
  obtain⟨v,jc,rfl,ad,ag⟩:=h
  obtain⟨d1,d2,d3⟩:=aa d (by simp)
  have aF:=(aB.b9 d2).1 ad
  have cd:Value.f_ v=true:=by
   have:=aF.1
   cases d<;>first|exact this|cases d1
  have a8:=aF.2
  rw[gp cd]at a8
  rw[aW]
  exact⟨[v],jc,fun _=>False,fun _=>False,rfl,ak.mono bl _ _ _ _ (fun _ h=>h) a8,aW.Er bl ds jc (fun x ai=>aa x (by simp[ai])) ag,fun _ h=>h,fun _ h=>h,fun _ h=>h.elim⟩
theorem Lj {T:TypeId} {v:Value} (h:bw w0 F0 X F S s au w):bw w0 F0 X (fun b=>F b∨b=w.heap.size) S s au (w.alloc (.cells (bU v).toArray T)):=by
 have hold:∀b,b<w.heap.size→(w.alloc (.cells (bU v).toArray T)).heap[b]? =w.heap[b]? :=by
  intro b U
  show(w.heap.push _)[b]? =_
  rw[Array.getElem?_push,if_neg (by omega)]
 have ad:=h.grow hold (by simp) rfl rfl ⟨rfl,fun _=>Nat.le_refl _⟩
 exact {
  gF:=fun b U=>.inl (ad.gF b U)
  gS:=fun b U=>by
   rcases U with U|rfl
   ·exact ad.gS b U
   ·exact .inr (.inr h.size)
  eT:=fun b U=>by
   rcases U with U|rfl
   ·exact ad.eT b U
   ·simp
  eg:=ad.eg
  fa:=fun t b U br=>by
   rcases br with br|rfl
   ·exact ad.fa t b U br
   ·exact absurd (h.eg t _ U) (Nat.lt_irrefl _)
  eN:=ad.eN
  dp:=ad.dp
  cN:=fun t=>aB.frame (fun _ _=>rfl) (fun b U=>.inl U) (fun _ _ _=>rfl) ad.cN _ _ _ (fun _ _=>rfl) (ad.cN t)
  old:=ad.old
  size:=ad.size
  os:=ad.os
  tape:=ad.tape
  output:=ad.output
  gn:=h.gn}
theorem Lk (h:bw w0 F0 X F S s au w) {T:TypeId} {x:I} {v:Value} (aI:aB w F s au x v (fun _=>False)) (he:kM s x=some (av,s1)):
  Good C w0 F0 X au w (Instr.box T v) av s1:=by
 unfold kM at he
 split at he
 ·rename_i y q
  split at he
  ·rename_i ds mF
   split at he
   ·cases he
   ·rename_i uC
    simp only[Option.some.injEq,Prod.mk.injEq]at he
    obtain⟨rfl,rfl⟩:=he
    rw[aB]at aI
    obtain⟨cc,a,g1,g2,g3⟩:=aI (s y) (by simp only[I.sub]) (by rw[mF];simp only[I.plain];simpa using uC)
    simp only[cL,Option.some.injEq,Prod.mk.injEq,true_and]at g1
    rw[mF]at g3
    have nU:=uD g3 (fun aq e=>by cases e)
    have hold:∀b,b<w.heap.size→(w.alloc (.cells (bU v).toArray T)).heap[b]? =w.heap[b]? :=by
     intro b U
     show(w.heap.push _)[b]? =_
     rw[Array.getElem?_push,if_neg (by omega)]
    refine⟨.pointer (some ⟨w.heap.size,0,none⟩),w.alloc (.cells (bU v).toArray T),fun b=>F b∨b=w.heap.size,S,by simp[Instr.box,newVar,newRow,newObj,Sem.run,nU],?_,.inl ⟨rfl,?_⟩⟩
    ·have ad:=h.grow hold (by simp) rfl rfl ⟨rfl,fun _=>Nat.le_refl _⟩
     exact {
      gF:=fun b U=>.inl (ad.gF b U)
      gS:=fun b U=>by
       rcases U with U|rfl
       ·exact ad.gS b U
       ·exact .inr (.inr h.size)
      eT:=fun b U=>by
       rcases U with U|rfl
       ·exact ad.eT b U
       ·simp
      eg:=ad.eg
      fa:=fun t b U br=>by
       rcases br with br|rfl
       ·exact ad.fa t b U br
       ·exact absurd (h.eg t _ U) (Nat.lt_irrefl _)
      eN:=ad.eN
      dp:=ad.dp
      cN:=fun t=>aB.frame (fun _ _=>rfl) (fun b U=>.inl U) (fun _ _ _=>rfl) ad.cN _ _ _ (fun _ _=>rfl) (ad.cN t)
      old:=ad.old
      size:=ad.size
      os:=ad.os
      tape:=ad.tape
      output:=ad.output
      gn:=h.gn}
    ·rw[aB]
     intro _
     refine⟨w.heap.size,(bU v).toArray,T,(0,0),rfl,.inr rfl,?_,?_⟩
     ·show(w.heap.push _)[_]? =_
      simp
     ·rw[g1.1,←g2]
  ·cases he
 ·rename_i f caps
  split at he
  ·rename_i aj
   simp only[Option.some.injEq,Prod.mk.injEq]at he
   obtain⟨rfl,rfl⟩:=he
   have hs:∀d∈caps,d.single=true∧d.tree=true∧d.plain=true:=fun d ah=>by
    have:=List.all_eq_true.1 aj d ah
    simpa only[Bool.and_eq_true]using this
   rw[aB]at aI
   obtain⟨arr,rfl,aI⟩:=aI
   have nU:=uD (d:=.fn f caps) (v:=.func (.func f) #[] arr) rfl (fun aq e=>by cases e)
   have hg:=Lj (T:=T) (v:=.func (.func f) #[] arr) h
   refine⟨.pointer (some ⟨w.heap.size,0,none⟩),w.alloc (.cells (bU (.func (.func f) #[] arr)).toArray T),fun b=>F b∨b=w.heap.size,S,by simp[Instr.box,newVar,newRow,newObj,Sem.run,nU],hg,.inl ⟨rfl,?_⟩⟩
   refine(aB.b9 rfl).2 ⟨rfl,?_⟩
   rw[ak]
   refine⟨w.heap.size,0,[.func (.func f) #[] arr],rfl,.inr rfl,?_,?_⟩
   ·have hD:(w.alloc (.cells (bU (.func (.func f) #[] arr)).toArray T)).heap[w.heap.size]? =some (.cells (bU (.func (.func f) #[] arr)).toArray T (0,0)):=by
     show(w.heap.push _)[_]? =_
     simp
    intro j c b6
    cases j with
    |zero=>
     simp only[List.getElem?_cons_zero,Option.some.injEq]at b6
     subst b6
     have e:bU (.func (.func f) #[] arr)=[.func (.func f) #[] arr]:=gp rfl
     unfold World.cell?
     show(match(w.alloc (.cells (bU (.func (.func f) #[] arr)).toArray T)).heap[w.heap.size]? with
      |some (.cells c _ _)=>c[0+0]?
      |_=>none)=_
     rw[hD,e]
     rfl
    |succ j=>simp at b6
   ·rw[ak]
    refine⟨arr,rfl,fun d ah=>(hs d ah).1,?_⟩
    have bF:=aW.Er (bC:=F) (fun b U=>U) caps arr.toList hs aI
    refine aW.mono (F:=F) (fun b U=>.inl U) caps _ _ _ (fun _ h=>h) (aW.frame (fun b U=> ?_) caps _ _ (fun _ h=>h.elim) bF)
    have d_:=h.eT b U
    show(w.heap.push _)[b]? =_
    rw[Array.getElem?_push,if_neg (by omega)]
  ·cases he
 ·cases he
theorem Ll (h:bw w0 F0 X F S s au w) {T:TypeId} {x:I} {v:Value} (ai:x.plain=true) (aI:aB w F s au x v (fun _=>False)) (he:cQ s x=some (av,s1)):
  Good C w0 F0 X au w (Instr.box T v) av s1:=by
 unfold cQ at he
 split at he
 ·cases he
 ·rename_i d s2 o8 aY
  simp only[Option.some.injEq,Prod.mk.injEq]at he
  obtain⟨rfl,rfl⟩:=he
  obtain⟨bN,g0,g1,g2,Sn,g3,g4,g5,g6,g7,g8⟩:=nR h ai aI aY
  obtain⟨ea,bD⟩:=g0.alloc T g3 g4 g5 g6 g7
  refine⟨_,_,F,bN,?_,ea,bD⟩
  have nU:=uD g2 (fun aq e=>o8 aq e)
  simp[Instr.box,newVar,newRow,newObj,Sem.run,nU]
 ·cases he
end
end Go.cI
