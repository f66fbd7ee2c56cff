/- Part of a proof that a law returns true for every input. No condition. -/
import Derived.Test.YtipllbfpaepajaaGreatDoorFwB
import Derived.Laws.Entries
namespace Go.b9
inductive kk where
 |int (k:IntKind)
 |bool
 |str
 |ptr (e:TypeId)
 |slice (e:TypeId)
 |struct (af:List (TypeId×Nat))
 |fn
 |dH (e:TypeId)
 |map (k e:TypeId)
 |other
structure ez where
 k:kk
 sz:Nat
 bytes:Nat
 zero:I
mutual
def flat:I→Option (List Value)
 | .bool b=>some [.bool b]
 | .int k n=>some [.int k n]
 | .str s=>some [.string ⟨⟨s⟩⟩]
 | .cn=>some [.pointer none]
 | .bH=>some [.slice none 0 0]
 | .agg af=>na af
 | .cA .nS=>some [.map none]
 |_=>none
def na:List I→Option (List Value)
 |[]=>some []
 |d::ds=>match flat d,na ds with
  |some a,some b=>some (a++b)
  |_,_=>none
end
theorem al.flat {w:World} {F:Nat→Prop}:∀n,(∀(d:I) (cs:List Value) (S:Nat→Prop),SizeOf.sizeOf d≤n→flat d=some cs→al w F d cs S)∧
  (∀(ds:List I) (cs:List Value) (S:Nat→Prop),SizeOf.sizeOf ds≤n→na ds=some cs→aM w F ds cs S):=by
 intro n
 induction n with
 |zero=>exact⟨fun d _ _ bl=>by cases d<;>simp at bl<;>omega,fun ds _ _ bl=>by cases ds<;>simp at bl<;>omega⟩
 |succ n ih=>
  refine⟨fun d cs S bl h=> ?_,fun ds cs S bl h=> ?_⟩
  ·cases d with
   |agg af=>rw[al];exact ih.2 af cs S (by simp at bl;omega) (by simpa [b9.flat]using h)
   |bool b=>simp[b9.flat]at h;subst h;rw[al]
   |int k n=>simp[b9.flat]at h;subst h;rw[al]
   |str s=>simp[b9.flat]at h;subst h;rw[al]
   |cn=>simp[b9.flat]at h;subst h;rw[al]
   |bH=>simp[b9.flat]at h;subst h;rw[al]
   |cA o=>cases o<;>simp[b9.flat]at h;subst h;rw[al];rfl
   |_=>simp[b9.flat]at h
  ·cases ds with
   |nil=>simp[na]at h;subst h;rw[aM]
   |cons d ds=>
    simp only[na]at h
    split at h
    ·rename_i a b bQ R
     simp at h;subst h
     simp at bl
     rw[aM]
     exact⟨a,b,fun _=>False,fun _=>False,rfl,ih.1 d a _ (by omega) bQ,ih.2 ds b _ (by omega) R,fun _ h=>h.elim,fun _ h=>h.elim,fun _ h=>h.elim⟩
    ·cases h
def iv:kk→TypeDesc→Prop
 | .int k,.int cy=>k=cy
 | .bool,.bool=>True
 | .str,.string=>True
 | .ptr e,.pointer ew=>e=ew
 | .slice e,.slice ew=>e=ew
 | .struct af,.struct gs=>gs.toList.map (fun g=>(g.type,g.offset))=af
 | .fn,.func _ _ _=>True
 | .dH _,.struct _=>True
 | .map k e,.map cy ew=>k=cy∧e=ew
 |_,_=>False
def AE (P:Program) (t:TypeId) (x:ez):Prop:=
 (∃e n b z,x=⟨.other,e,n,b⟩∧z=0)∨
 ∃i d z,P.info? t=some i∧i.size=x.sz∧i.bytes=x.bytes∧i.zero=some z∧(∀cs,flat x.zero=some cs→z.cells=cs.toArray)∧P.underlying t=some d∧iv x.k d
structure bq where
 P:Program
 T:TypeId→ez
 M:FuncId→List Bool
structure bq.db (C:bq):Prop where
 ty:∀t,AE C.P t (C.T t)
 mixed:C.P.follows .mixedOrders=true
inductive ay where
 |t (n:Nat)
 |c (av:I)
 |f (g:FuncId)
def uu:Value→Option I
 | .bool b=>some (.bool b)
 | .int k n=>some (.int k n)
 | .string s=>some (.str s.data.toList)
 | .pointer none=>some .cn
 | .slice none 0 0=>some .bH
 |_=>none
def cq:Operand→Option ay
 | .tmp n=>some (.t n)
 | .const v=>(uu v).map .c
 | .func g=>some (.f g)
 | .global _=>none
def gp (x:Nat) (d:I):I:=if d.plain then d else .h x []
def az (s:aj):ay→I
 | .t n=>gp n (s n)
 | .c av=>av
 | .f g=>.fn g []
theorem ax.nothing {w:World} {F:Nat→Prop} {s:aj} {an:Nat→Value} {d:I} {v:Value} {S aD:Nat→Prop} (ak:d.plain=true) (h:ax w F s an d v S):ax w F s an d v aD:=by
 cases d<;>first
  |(rw[ax];trivial)
  |(rw[ax]at h⊢;exact h)
  |(have aQ:=(ax.bJ rfl).1 h;exact(ax.bJ rfl).2 ⟨aQ.1,al.plain _ _ _ _ ak aQ.2⟩)
section
variable {w0 w:World} {F0 X F:Nat→Prop} {S:Nat→Nat→Prop} {s:aj} {an:Nat→Value} {a:Act}
theorem AF (s:aj) (x:ay) (ai:∀av,x= .c av→av.plain=true):(az s x).plain=true:=by
 cases x with
 |t n=>simp only[az,gp];split<;>first|assumption|rfl
 |c av=>exact ai _ rfl
 |f g=>rfl
theorem xd {v:Value} {av:I} (h:uu v=some av):av.plain=true:=by
 unfold uu at h;split at h<;>simp at h<;>subst h<;>rfl
theorem dk (h:a7 w0 F0 X F S s an w) (cM:∀t,an t=a.tmps.getD t undef) {o:Operand} {x:ay} (bI:cq o=some x):
  (az s x).plain=true∧ax w F s an (az s x) (a.eval o) (fun _=>False):=by
 cases o with
 |tmp n=>
  simp[cq]at bI;subst bI
  simp only[az,gp,Act.eval,←cM]
  split
  ·rename_i ak;exact⟨ak,ax.nothing ak (h.cd n)⟩
  ·rename_i ak
   refine⟨rfl,?_⟩
   rw[ax]
   intro d ae GK
   simp only[I.sub,Option.some.injEq]at ae;subst ae
   have aN:=fm (q:=[]) rfl (.inl GK)
   exact⟨_,none,rfl,rfl,((ax.bJ aN).1 (h.cd n)).1⟩
 |const v=>
  simp only[cq,Option.map_eq_some_iff]at bI
  obtain⟨av,lr,rfl⟩:=bI
  refine⟨xd lr,?_⟩
  simp only[az,Act.eval]
  unfold uu at lr
  split at lr<;>simp at lr<;>subst lr<;>rw[ax,al]<;>exact⟨rfl,rfl⟩
 |func g=>
  simp[cq]at bI;subst bI
  refine⟨rfl,?_⟩
  simp only[az,Act.eval]
  rw[ax]
  exact⟨#[],rfl,by rw[cG]⟩
 |global g=>simp[cq]at bI
def iw (w0:World) (X F:Nat→Prop) (S:Nat→Nat→Prop) (s:aj) (an:Nat→Value) (w:World) (av:I) (v:Value):Prop:=
 (av.plain=true∧ax w F s an av v (fun _=>False))∨
 (av.tree=true∧cx av v∧∃Sn,al w F av (bw v) Sn∧(∀b,Sn b→b<w.heap.size)∧(∀b,Sn b→¬F b)∧(∀u b,Sn b→¬S u b)∧(∀b,Sn b→X b∨w0.heap.size≤b))
def fin (s:aj) (dst:Option Nat) (av:I):aj:=match dst with
 |none=>s
 |some t=>if av.plain then cg s t av else cg (iV t s) t av
def nb (an:Nat→Value) (dst:Option Nat) (v:Value):Nat→Value:=match dst with
 |none=>an
 |some t=>cg an t v
theorem a7.fin (h:a7 w0 F0 X F S s an w) {av:I} {v:Value} (aE:iw w0 X F S s an w av v) (dst:Option Nat):
  ∃aD,a7 w0 F0 X F aD (b9.fin s dst av) (nb an dst v) w:=by
 cases dst with
 |none=>exact⟨S,h⟩
 |some t=>
  simp only[b9.fin,nb]
  rcases aE with⟨ak,ae⟩|⟨aN,U,Sn,aa,ad,aB,aO,a6⟩
  ·rw[if_pos ak];exact⟨_,h.r9 ak ae⟩
  ·split
   ·rename_i ak
    exact⟨_,h.r9 ak ((ax.bJ aN).2 ⟨U,al.plain _ _ _ _ ak aa⟩)⟩
   ·exact⟨_,h.Ay aN U aa ad aB (fun u b _ R=>aO u b R) a6⟩
def bR (s:aj):I→Option (I×aj)
 | .h x q=>match I.sub q (s x)with
   |some d=>if d.plain then none else some (d,cg (fz x s) x (I.put q d.b6 (s x)))
   |none=>none
 | .ak _ _=>none
 | .R _ _=>none
 | .fn _ _=>none
 | .hole=>none
 |d=>some (d,s)
def I.owner:I→Option Nat
 | .h x _=>some x
 |_=>none
def h1:Option Nat→I→I
 |some x,d=>bn x d
 |none,d=>d
theorem lu (h:a7 w0 F0 X F S s an w) {av d:I} {s1:aj} {v:Value} (lr:av.plain=true) (aE:ax w F s an av v (fun _=>False)) (aN:bR s av=some (d,s1)):
  ∃bk,a7 w0 F0 X F bk s1 an w∧d.tree=true∧cx d v∧∃Sn,al w F d (bw v) Sn∧(∀b,Sn b→b<w.heap.size)∧(∀b,Sn b→¬F b)∧(∀u b,Sn b→¬bk u b)∧(∀b,Sn b→X b∨w0.heap.size≤b)∧
   (∀u b,bk u b→S u b)∧(∀b,Sn b→∃u,S u b)∧(∀(aV:I) (ef:Value) (aD:Nat→Prop),ax w F s an aV ef aD→ax w F s1 an (h1 av.owner aV) ef aD):=by
 have tree:∀d:I,d.tree=true→d.plain=true→ax w F s an d v (fun _=>False)→
   ∃bk,a7 w0 F0 X F bk s an w∧d.tree=true∧cx d v∧∃Sn,al w F d (bw v) Sn∧(∀b,Sn b→b<w.heap.size)∧(∀b,Sn b→¬F b)∧(∀u b,Sn b→¬bk u b)∧(∀b,Sn b→X b∨w0.heap.size≤b)∧
    (∀u b,bk u b→S u b)∧(∀b,Sn b→∃u,S u b):=by
  intro d ae _ aQ
  have aQ:=(ax.bJ ae).1 aQ
  exact⟨S,h,ae,aQ.1,_,aQ.2,fun _ h=>h.elim,fun _ h=>h.elim,fun _ _ h=>h.elim,fun _ h=>h.elim,fun _ _ h=>h,fun _ h=>h.elim⟩
 cases av with
 |h x q=>
  simp only[bR]at aN
  split at aN
  ·rename_i e he
   split at aN
   ·cases aN
   ·rename_i ak
    simp only[Option.some.injEq,Prod.mk.injEq]at aN
    obtain⟨rfl,rfl⟩:=aN
    have ak:e.plain=false:=by simpa using ak
    obtain⟨Sn,dp,bP,b2,ev,cr,fp,dQ,gq,fA,gG⟩:=h.take he ak
    rw[ax]at aE
    obtain⟨YF,a2,g1,g2,g3⟩:=aE e he ak
    rw[cr]at g1
    simp only[Option.some.injEq,Prod.mk.injEq,true_and]at g1
    obtain⟨rfl,rfl⟩:=g1
    have xe:e.tree=true:=by cases e<;>first|rfl|(simp[I.plain]at ak)
    refine⟨_,ev,xe,g3,dp,by rw[g2];exact fp,fun b R=>h.c6 x b (dQ b R),fun b R=>h.dP x b (dQ b R),?_,fun b R=>h.cz x b (dQ b R),?_,fun b R=>⟨x,dQ b R⟩,gG⟩
    ·intro u b R hu
     simp only[ey]at hu
     split at hu
     ·exact fA b R hu
     ·rename_i uv;exact h.dq u x b uv hu (dQ b R)
    ·intro u b hu
     simp only[ey]at hu
     split at hu
     ·rename_i e;subst e;exact gq b hu
     ·exact hu
  ·cases aN
 |ak x q=>simp[bR]at aN
 |R x q=>simp[bR]at aN
 |fn f c=>simp[bR]at aN
 |hole=>simp[bR]at aN
 |aK sz xs=>simp[I.plain]at lr
 |a1 d=>simp[I.plain]at lr
 |_=>
  simp only[bR,Option.some.injEq,Prod.mk.injEq]at aN
  obtain⟨rfl,rfl⟩:=aN
  obtain⟨bk,t1,t2,t3,Sn,t4,t5,t6,t7,t8,t9,t10⟩:=tree _ rfl lr aE
  exact⟨bk,t1,t2,t3,Sn,t4,t5,t6,t7,t8,t9,t10,fun _ _ _ h=>h⟩
def loc (s:aj):I→Option (Nat×List Nat)
 | .h x q=>match I.sub q (s x)with
   |some (.a1 _)=>some (x,q++[0])
   |_=>none
 | .ak x q=>if I.dC q (s x)then some (x,q)else none
 |_=>none
theorem se:∀(q:List Nat) (av d:I) (r:List Nat),I.sub q av=some d→I.sub (q++r) av=I.sub r d:=by
 intro q
 induction q with
 |nil=>intro av d r h;simp[I.sub]at h;subst h;rfl
 |cons k q ih=>
  intro av d r h
  cases av with
  |agg af=>
   simp only[I.sub,List.cons_append]at h⊢
   split at h
   ·rename_i x ao;exact ih _ _ _ h
   ·cases h
  |tuple af=>
   simp only[I.sub,List.cons_append]at h⊢
   split at h
   ·rename_i x ao;exact ih _ _ _ h
   ·cases h
  |aK sz af=>
   simp only[I.sub,List.cons_append]at h⊢
   split at h
   ·rename_i x ao;exact ih _ _ _ h
   ·cases h
  |a1 x=>
   cases k with
   |zero=>simp only[I.sub,List.cons_append]at h⊢;exact ih _ _ _ h
   |succ k=>simp[I.sub]at h
  |_=>simp[I.sub]at h
theorem GL:∀(q:List Nat) (av d:I) (r:List Nat),I.sub q av=some d→I.dC (q++r) av=(I.dC q av||I.dC r d):=by
 intro q
 induction q with
 |nil=>intro av d r h;simp[I.sub]at h;subst h;simp[I.dC]
 |cons k q ih=>
  intro av d r h
  cases av with
  |agg af=>
   simp only[I.sub]at h
   split at h
   ·rename_i x ao
    simp only[I.dC,List.cons_append,ao]
    exact ih _ _ r h
   ·cases h
  |tuple af=>
   simp only[I.sub]at h
   split at h
   ·rename_i x ao
    simp only[I.dC,List.cons_append,ao]
    exact ih _ _ r h
   ·cases h
  |aK sz af=>simp[I.dC]
  |a1 x=>simp[I.dC]
  |_=>simp[I.sub]at h
theorem sf (w:World):∀(q:List Nat) (av d:I) (cs bP:List Value) (a b2:Option (Nat×Nat)) (r:List Nat),cb w q av cs a=some (d,bP,b2)→cb w (q++r) av cs a=cb w r d bP b2:=by
 intro q
 induction q with
 |nil=>intro av d cs bP a b2 r h;simp[cb]at h;obtain⟨rfl,rfl,rfl⟩:=h;rfl
 |cons k q ih=>
  intro av d cs bP a b2 r h
  cases av with
  |agg af=>
   rw[List.cons_append]
   rw[cb]at h⊢
   split at h
   ·rename_i x ao;exact ih _ _ _ _ _ _ _ h
   ·cases h
  |tuple af=>
   rw[List.cons_append]
   rw[cb]at h⊢
   split at h
   ·rename_i x ao;exact ih _ _ _ _ _ _ _ h
   ·cases h
  |aK sz af=>
   rw[List.cons_append]
   rw[cb.eq_def]at h⊢
   simp only at h⊢
   split at h
   ·exact ih _ _ _ _ _ _ _ h
   ·cases h
  |a1 x=>
   cases k with
   |zero=>
    rw[List.cons_append]
    rw[cb.eq_def]at h⊢
    simp only at h⊢
    split at h
    ·exact ih _ _ _ _ _ _ _ h
    ·cases h
   |succ k=>rw[show cb w ((k+1)::q) (.a1 x) cs a=none from rfl]at h;cases h
  |_=>simp[cb]at h
end
def ez.ok (x:ez):Bool:=match x.k with
 | .other=>false
 |_=>true
theorem bq.db.info {C:bq} (aT:C.db) {t:TypeId} (h:(C.T t).ok=true):
  ∃i d z,C.P.info? t=some i∧i.size=(C.T t).sz∧i.bytes=(C.T t).bytes∧i.zero=some z∧(∀cs,flat (C.T t).zero=some cs→z.cells=cs.toArray)∧C.P.underlying t=some d∧iv (C.T t).k d:=by
 rcases aT.ty t with⟨e,n,b,z,ao,_⟩|aQ
 ·rw[ao]at h;simp[ez.ok]at h
 ·exact aQ
theorem dX {x:ez} {k:kk} (h:x.k=k) (ar:k≠.other):x.ok=true:=by
 unfold ez.ok;rw[h];cases k<;>first|rfl|exact(ar rfl).elim
theorem sg {d:TypeDesc} {af:List (TypeId×Nat)} (h:iv (.struct af) d):∃gs,d= .struct gs∧gs.toList.map (fun g=>(g.type,g.offset))=af:=by
 cases d<;>simp[iv]at h
 exact⟨_,rfl,h⟩
theorem ix {d:TypeDesc} {e:TypeId} (h:iv (.slice e) d):d= .slice e:=by
 cases d<;>simp[iv]at h
 rw[h]
theorem si {d:TypeDesc} {k:IntKind} (h:iv (.int k) d):d= .int k:=by
 cases d<;>simp[iv]at h
 rw[h]
theorem l8 {d:TypeDesc} (h:iv .str d):d= .string:=by
 cases d<;>simp[iv]at h
 rfl
theorem xf {d:TypeDesc} (h:iv .bool d):d= .bool:=by
 cases d<;>simp[iv]at h
 rfl
theorem AG {d:TypeDesc} {e:TypeId} (h:iv (.ptr e) d):d= .pointer e:=by
 cases d<;>simp[iv]at h
 rw[h]
theorem eO {v:Value} (h:Value.eF v=true):bw v=[v]:=by
 cases v<;>first|rfl|(simp[Value.eF]at h)
theorem o7 {P:Program} {t:TypeId} {i:TypeInfo} (h:P.info? t=some i) (w:World):(typeInfo t).run P w= .ok i w:=by simp[typeInfo,h]
theorem hv {P:Program} {t:TypeId} {i:TypeInfo} (h:P.info? t=some i) (w:World):(Go.sizeOf t).run P w= .ok i.size w:=by simp[Go.sizeOf,o7 h]
theorem o8 {P:Program} {t:TypeId} {i:TypeInfo} {z:Value} (h:P.info? t=some i) (bl:i.zero=some z) (w:World):(zeroValue t).run P w= .ok z w:=by simp[zeroValue,o7 h,bl]
section
variable {C:bq} {w0 w:World} {F0 X F:Nat→Prop} {S:Nat→Nat→Prop} {s s1:aj} {an:Nat→Value} {av:I}
def Good (C:bq) (w0:World) (F0 X:Nat→Prop) (an:Nat→Value) (w:World) (m:Sem Value) (av:I) (s1:aj):Prop:=
 ∃v aw bc aD,m.run C.P w= .ok v aw∧a7 w0 F0 X bc aD s1 an aw∧iw w0 X bc aD s1 an aw av v
theorem Good.same (h:a7 w0 F0 X F S s an w) {m:Sem Value} {v:Value} (aC:m.run C.P w= .ok v w) (ak:av.plain=true) (aE:ax w F s an av v (fun _=>False)):Good C w0 F0 X an w m av s:=
 ⟨v,w,F,S,aC,h,.inl ⟨ak,aE⟩⟩
theorem xg (_h:a7 w0 F0 X F S s an w) {x:I} {v:Value} (aE:ax w F s an x v (fun _=>False)) {y:Nat} {q:List Nat} (aJ:loc s x=some (y,q)) {d:I} (ae:I.sub q (s y)=some d):
  I.dC q (s y)=true∧∃bP b o,v= .pointer (some ⟨b,o,none⟩)∧cb w q (s y) (bw (an y)) none=some (d,bP,some (b,o)):=by
 cases x with
 |h z cZ=>
  simp only[loc]at aJ
  split at aJ
  ·rename_i e he
   simp only[Option.some.injEq,Prod.mk.injEq]at aJ
   obtain⟨rfl,rfl⟩:=aJ
   rw[ax]at aE
   obtain⟨bP,a,g1,g2,g3⟩:=aE _ he rfl
   have eX:e=d:=by
    rw[se _ _ _ _ he]at ae
    simpa [I.sub]using ae
   subst eX
   refine⟨by rw[GL _ _ _ _ he];simp[I.dC],?_⟩
   have aa:Value.eF v=true:=g3
   rw[eO aa]at g2
   subst g2
   have hI:=sf w cZ (s z) _ _ _ none a [0] g1
   have ao:=_h.cd z
   rw[ax.bJ (fm he (.inl rfl))]at ao
   obtain⟨dU,b2,cL,dp,k0,bx,bF,c7,ct,dr⟩:=ctx cZ (s z) (bw (an z)) (S z) none _ ao.2 he
   rw[k0]at g1
   simp only[Option.some.injEq,Prod.mk.injEq,true_and]at g1
   obtain⟨rfl,rfl⟩:=g1
   rw[al]at ct
   obtain⟨b,cur,aI,fr,cp,aL,_⟩:=ct
   simp only[List.cons.injEq,and_true]at aL
   subst aL
   exact⟨_,b,0,rfl,by rw[hI];rfl⟩
  ·cases aJ
 |ak z cZ=>
  simp only[loc]at aJ
  split at aJ
  ·rename_i ai
   simp only[Option.some.injEq,Prod.mk.injEq]at aJ
   obtain⟨rfl,rfl⟩:=aJ
   rw[ax]at aE
   obtain⟨bP,b,o,g1,g2⟩:=aE _ ae ai
   exact⟨ai,bP,b,o,g2,g1⟩
  ·cases aJ
 |_=>simp[loc]at aJ
def ek (C:bq) (s:aj) (T:TypeId) (x:I) (k:Nat):Option I:=
 match(C.T T).k with
 | .struct af=>match af[k]? with
   |some (gS,off)=>if(C.T gS).ok=true∧(C.T gS).sz≠0 then
     match x with
     | .ref (.agg ds)=>match ds[k]? with
       |some d=>if I.cH (ds.take k)=off then some (.ref d)else none
       |none=>none
     | .R y o=>if(s y).plain then none else some (.R y (o+off))
     |x=>match loc s x with
      |some (y,q)=>match I.sub q (s y)with
       |some (.agg ds)=>if k<ds.length∧I.cH (ds.take k)=off then some (.ak y (q++[k]))else none
       |_=>none
      |none=>none
    else none
   |none=>none
 |_=>none
theorem fi.xh {w:World} {b o:Nat} {bN dT c2:List Value} (h:fi w b o (bN++(dT++c2))):fi w b (o+bN.length) dT:=by
 intro j c bY
 have cY:j<dT.length:=(List.getElem?_eq_some_iff.1 bY).1
 have:=h (bN.length+j) c (by rw[List.getElem?_append_right (by omega),List.getElem?_append_left (by omega),←bY];congr 1;omega)
 rw[Nat.add_assoc];exact this
theorem xi (aT:C.db) {T gS:TypeId} {af:List (TypeId×Nat)} {k off:Nat} (ar:(C.T T).k= .struct af) (bh:af[k]? =some (gS,off)) (aa:(C.T gS).ok=true) (ad:(C.T gS).sz≠0) (b o:Nat) (w:World):
  (Instr.fieldAt T (.pointer (some ⟨b,o,none⟩)) k).run C.P w= .ok (.pointer (some ⟨b,o+off,none⟩)) w:=by
 obtain⟨i,d,z,aF,aI,aL,bX,b7,bs,bj⟩:=aT.info (dX ar (by simp))
 rw[ar]at bj
 obtain⟨gs,rfl,gX⟩:=sg bj
 obtain⟨nc,aV,nd,f1,f2,f3,f4,f5,f6,f7⟩:=aT.info aa
 have hg:∃g,gs[k]? =some g∧g.type=gS∧g.offset=off:=by
  rw[←gX,List.getElem?_map]at bh
  simp only[Option.map_eq_some_iff,Prod.mk.injEq]at bh
  obtain⟨g,aa,ad,aB⟩:=bh
  exact⟨g,by simpa using aa,ad,aB⟩
 obtain⟨g,g1,rfl,rfl⟩:=hg
 simp[Instr.fieldAt,run_underlying bs,g1,Instr.sureAddr,fieldPlace,hv f1,f2,ad,Addr.add_lit]
theorem GM (aT:C.db) (h:a7 w0 F0 X F S s an w) {T:TypeId} {x:I} {v:Value} {k:Nat} (ao:x.plain=true) (aE:ax w F s an x v (fun _=>False)) (he:ek C s T x k=some av):
  Good C w0 F0 X an w (Instr.fieldAt T v k) av s:=by
 unfold ek at he
 split at he
 ·rename_i af ar
  split at he
  ·rename_i gS off bh
   split at he
   ·rename_i ql
    split at he
    ·rename_i ds
     split at he
     ·rename_i d ae
      split at he
      ·rename_i l9
       simp only[Option.some.injEq]at he;subst he
       have iy:=(ax.bJ rfl).1 aE
       rw[al]at iy
       obtain⟨U,b,o,cO,aa,ad,aB,aO⟩:=iy
       rw[eO U]at aa
       simp only[List.cons.injEq,and_true]at aa;subst aa
       rw[al]at aO
       obtain⟨bN,dT,c2,bk,fk,rfl,fa,dV,eY,fH,ee,jl⟩:=aM.pick ds _ _ k d aO ae
       refine Good.same h (xi aT ar bh ql.1 ql.2 b o w) rfl ((ax.bJ rfl).2 ⟨rfl,?_⟩)
       rw[al]
       refine⟨b,o+off,dT,rfl,ad,?_,al.mono (fun _ h=>h) _ _ _ _ (fun b R=>eY b R) ee⟩
       rw[←l9,←fa];exact aB.xh
      ·cases he
     ·cases he
    ·rename_i y o
     split at he
     ·cases he
     ·rename_i ak
      simp only[Option.some.injEq]at he;subst he
      rw[ax]at aE
      obtain⟨b,cur,e,fr,rfl,ad,aB,aO⟩:=aE (by simpa using ak)
      refine Good.same h (xi aT ar bh ql.1 ql.2 b o w) rfl ?_
      rw[ax]
      exact fun _=>⟨b,cur,e,fr,rfl,ad,aB,aO⟩
    ·rename_i x _ _
     split at he
     ·rename_i y q aJ
      split at he
      ·rename_i ds ae
       split at he
       ·rename_i l9
        simp only[Option.some.injEq]at he;subst he
        obtain⟨ai,bP,b,o,rfl,hI⟩:=xg h aE aJ ae
        refine Good.same h (xi aT ar bh ql.1 ql.2 b o w) rfl ?_
        rw[ax]
        intro d2 eZ o9
        rw[sf w q _ _ _ _ _ _ [k] hI]
        rw[se _ _ _ _ ae]at eZ
        have nW:∃d3,ds[k]? =some d3:=⟨_,List.getElem?_eq_getElem l9.1⟩
        obtain⟨d3,sj⟩:=nW
        simp only[I.sub,sj,Option.some.injEq]at eZ
        subst eZ
        simp only[cb,sj]
        refine⟨(bP.drop off).take d3.wd,b,o+off,?_,rfl⟩
        rw[l9.2];rfl
       ·cases he
      ·cases he
     ·cases he
   ·cases he
  ·cases he
 ·cases he
def eA (C:bq) (s:aj) (T:TypeId) (x i:I):Option I:=
 match(C.T T).k,i with
 | .slice e,.int _ n=>if 0≤n∧(C.T e).ok=true then
   match x with
   | .slice xs=>match xs[n.toNat]? with
     |some d=>if d.wd=(C.T e).sz then some (.ref d)else none
     |none=>none
   | .h y q=>match I.sub q (s y)with
     |some (.aK sz xs)=>if n.toNat<xs.length∧sz=(C.T e).sz then some (.ak y (q++[n.toNat]))else none
     |_=>none
   |_=>none
   else none
 |_,_=>none
theorem AH (aT:C.db) {T e:TypeId} (ar:(C.T T).k= .slice e) (he:(C.T e).ok=true) (b o len cap:Nat) (k:IntKind) (n:Nat) (aW:n<len) (w:World):
  (Instr.indexAt T (.slice (some ⟨b,o,none⟩) len cap) (.int k n)).run C.P w= .ok (.pointer (some ⟨b,o+n*(C.T e).sz,none⟩)) w:=by
 obtain⟨i,d,z,aF,aI,aL,bX,b7,bs,bj⟩:=aT.info (dX ar (by simp))
 rw[ar]at bj
 have:=ix bj;subst this
 obtain⟨nc,aV,nd,f1,f2,f3,f4,f5,f6,f7⟩:=aT.info he
 simp[Instr.indexAt,run_underlying bs,asIntOf,aW,hv f1,f2,Addr.add_lit]
theorem GN (aT:C.db) (h:a7 w0 F0 X F S s an w) {T:TypeId} {x i:I} {v kM:Value} (aE:ax w F s an x v (fun _=>False)) (GO:ax w F s an i kM (fun _=>False))
  (he:eA C s T x i=some av):Good C w0 F0 X an w (Instr.indexAt T v kM) av s:=by
 unfold eA at he
 split at he
 ·rename_i e k n ar
  have xj:=(ax.bJ rfl).1 GO
  rw[al,eO xj.1]at xj
  have:kM= .int k n:=by simpa using xj.2
  subst this
  split at he
  ·rename_i aW
   obtain⟨n,rfl⟩:=Int.eq_ofNat_of_zero_le aW.1
   simp only[Int.toNat_natCast]at he
   split at he
   ·rename_i xs
    split at he
    ·rename_i d ae
     split at he
     ·rename_i hw
      simp only[Option.some.injEq]at he;subst he
      have iy:=(ax.bJ rfl).1 aE
      rw[al,eO iy.1]at iy
      obtain⟨U,⟨rfl,_⟩|⟨b,o,cap,cO,sz,aa,ad,aB,aO,a6,bp,bB⟩⟩:=iy
      ·simp at ae
      ·simp only[List.cons.injEq,and_true]at aa;subst aa
       have cY:n<xs.length:=(List.getElem?_eq_some_iff.1 ae).1
       obtain⟨bN,dT,c2,bk,fk,rfl,fa,dV,eY,fH,ee,jl⟩:=aM.pick xs _ _ n d bB ae
       refine Good.same h (AH aT ar aW.2 b o _ _ k n cY w) rfl ((ax.bJ rfl).2 ⟨rfl,?_⟩)
       rw[al]
       refine⟨b,_,dT,rfl,ad,?_,al.mono (fun _ h=>h) _ _ _ _ (fun b R=>eY b R) ee⟩
       have GP:=a6 d (List.mem_of_getElem? ae)
       have:n*(C.T e).sz=bN.length:=by
        rw[fa,o2 _ (fun d ae=>a6 d (List.mem_of_mem_take ae)),List.length_take,Nat.min_eq_left (by omega),←hw,GP]
       rw[this];exact bp.xh
     ·cases he
    ·cases he
   ·rename_i y q
    split at he
    ·rename_i sz xs ae
     split at he
     ·rename_i hw
      simp only[Option.some.injEq]at he;subst he
      rw[ax]at aE
      obtain⟨bP,a,g1,g2,g3⟩:=aE _ ae rfl
      have U:Value.eF v=true:=g3
      rw[eO U]at g2;subst g2
      have ao:=h.cd y
      rw[ax.bJ (fm ae (.inl rfl))]at ao
      obtain⟨dU,b2,cL,dp,k0,bx,bF,c7,ct,dr⟩:=ctx q (s y) (bw (an y)) (S y) none _ ao.2 ae
      rw[k0]at g1
      simp only[Option.some.injEq,Prod.mk.injEq,true_and]at g1
      obtain⟨rfl,rfl⟩:=g1
      rw[al]at ct
      rcases ct with⟨rfl,_⟩|⟨b,cap,cur,aI,fr,cp,aL,_⟩
      ·simp at hw
      ·simp only[List.cons.injEq,and_true]at aL;subst aL
       refine Good.same h (AH aT ar aW.2 b 0 _ _ k n hw.1 w) rfl ?_
       rw[ax]
       intro d2 eZ _
       rw[sf w q _ _ _ _ _ _ [n] k0]
       rw[se _ _ _ _ ae]at eZ
       obtain⟨d3,sj⟩:∃d3,xs[n]? =some d3:=⟨_,List.getElem?_eq_getElem hw.1⟩
       simp only[I.sub,sj,Option.some.injEq]at eZ
       subst eZ
       simp only[cb,sj]
       exact⟨_,b,n*sz,rfl,by simp[hw.2]⟩
     ·cases he
    ·cases he
   ·cases he
  ·cases he
 ·cases he
end
section
variable {C:bq} {w0 w:World} {F0 X F:Nat→Prop} {S:Nat→Nat→Prop} {s s1:aj} {an:Nat→Value} {av:I}
theorem AJ (aT:C.db) {T:TypeId} {af:List (TypeId×Nat)} (ar:(C.T T).k= .struct af) (w:World):(isAgg T).run C.P w= .ok true w:=by
 obtain⟨i,d,z,aF,aI,aL,bX,b7,bs,bj⟩:=aT.info (dX ar (by simp))
 rw[ar]at bj
 obtain⟨gs,rfl,_⟩:=sg bj
 simp[isAgg,run_underlying bs]
def ez.flat (x:ez):Bool:=match x.k with
 | .other=>false
 | .dH _=>false
 | .struct _=>false
 |_=>true
theorem AK {x:ez} (h:x.flat=true):x.ok=true:=by
 unfold ez.flat at h;unfold ez.ok;revert h;cases x.k<;>simp
theorem xk (aT:C.db) {T:TypeId} (ar:(C.T T).flat=true) (w:World):(isAgg T).run C.P w= .ok false w:=by
 obtain⟨i,d,z,aF,aI,aL,bX,b7,bs,bj⟩:=aT.info (AK ar)
 have cB:(∀af,d≠.struct af)∧(∀n e,d≠.array n e):=by
  clear bs
  unfold ez.flat at ar
  generalize (C.T T).k=iz at*
  cases iz<;>cases d<;>simp[iv]at bj ar⊢
 cases d<;>first|exact(cB.1 _ rfl).elim|exact(cB.2 _ _ rfl).elim|simp[isAgg,run_underlying bs]
theorem fi.one {w:World} {b o:Nat} {v:Value} (h:fi w b o [v]):w.cell? ⟨b,o,none⟩=some v:=by simpa using h 0 v rfl
theorem AL {P:Program} {b o:Nat}:∀(cs:List Value) (i:Nat) (acc:Array Value),fi w b (o+i) cs→(loadCellsFrom ⟨b,o,none⟩ i cs.length acc).run P w= .ok (acc++cs.toArray) w
 |[],i,acc,_=>by simp[loadCellsFrom]
 |c::cs,i,acc,h=>by
  have bz:w.cell? ⟨b,o+i,none⟩=some c:=by simpa using h 0 c rfl
  have aa:fi w b (o+(i+1)) cs:=by
   intro j x bY
   have:=h (j+1) x (by simpa using bY)
   rw[←this];congr 2;omega
  have ih:=AL (P:=P) cs (i+1) (acc.push c) aa
  simp only[List.length_cons,loadCellsFrom,Sem.run_bind,Go.load,Sem.run,Addr.add_lit,bz,Result.andThen]
  rw[ih];simp
theorem GQ (aT:C.db) {T:TypeId} {af:List (TypeId×Nat)} (ar:(C.T T).k= .struct af) {b o:Nat} {cs:List Value} (h:fi w b o cs) (aJ:cs.length=(C.T T).sz):
  (loadVar T ⟨b,o,none⟩).run C.P w= .ok (.agg cs.toArray) w:=by
 obtain⟨i,d,z,aF,aI,aL,bX,b7,bs,bj⟩:=aT.info (dX ar (by simp))
 have:=AL (P:=C.P) (b:=b) (o:=o) cs 0 #[] (by simpa using h)
 simp only[loadVar,Sem.run_bind,AJ aT ar,Result.andThen,if_true,hv aF,aI,←aJ,loadCells,this]
 simp
theorem AM (aT:C.db) {T:TypeId} (ar:(C.T T).flat=true) {b o:Nat} {v:Value} (h:fi w b o [v]):
  (loadVar T ⟨b,o,none⟩).run C.P w= .ok v w:=by
 simp[loadVar,xk aT ar,Go.load,Sem.run,h.one]
def fits (C:bq) (T:TypeId) (d:I):Bool:=match(C.T T).k,d with
    | .struct _,.agg ds=>I.cH ds==(C.T T).sz
    | .struct _,_=>false
    |_,.agg _=>false
    |_,.tuple _=>false
    |_,_=>(C.T T).flat
def AN:List I→Nat→Nat→Option Nat
 |[],_,_=>none
 |d::ds,i,k=>if k=0 then some i else if d.wd≤k then AN ds (i+1) (k-d.wd)else none
def c8 (C:bq) (s:aj) (T:TypeId) (x:I):Option I:=
 match x with
 | .ref d=>if fits C T d=true then some d else none
 | .R y k=>match s y with
   | .agg ds=>if I.dW ds then none else match AN ds 0 k with
     |some i=>match ds[i]? with
      |some d=>if I.cH (ds.take i)=k∧fits C T d=true then some (if d.plain then d else .h y [i])else none
      |none=>none
     |none=>none
   |_=>none
 |x=>match loc s x with
  |some (y,q)=>match I.sub q (s y)with
   |some d=>if fits C T d=true then some (if d.plain then d else .h y q)else none
   |none=>none
  |none=>none
theorem al.one {F:Nat→Prop} {d:I} {cs:List Value} {S:Nat→Prop} (h:al w F d cs S) (aa:∀af,d≠.agg af) (ad:∀af,d≠.tuple af):∃v,cs=[v]∧Value.eF v=true:=by
 cases d with
 |hole=>rw[al]at h;obtain⟨v,h,rfl⟩:=h;exact⟨v,rfl,h⟩
 |dd=>rw[al]at h;obtain⟨v,rfl⟩:=h;exact⟨_,rfl,rfl⟩
 |slice xs=>rw[al]at h;rcases h with⟨_,a,c,rfl,_⟩|⟨b,o,cap,cO,sz,rfl,_⟩<;>exact⟨_,rfl,rfl⟩
 |aK sz xs=>rw[al]at h;rcases h with⟨_,_,rfl⟩|⟨b,cap,cur,e,fr,cz,rfl,_⟩<;>exact⟨_,rfl,rfl⟩
 |ref d=>rw[al]at h;obtain⟨b,o,cO,rfl,_⟩:=h;exact⟨_,rfl,rfl⟩
 |a1 d=>rw[al]at h;obtain⟨b,cur,e,fr,cz,rfl,_⟩:=h;exact⟨_,rfl,rfl⟩
 |agg af=>exact(aa _ rfl).elim
 |tuple af=>exact(ad _ rfl).elim
 |fn _ _=>rw[al]at h;obtain⟨arr,rfl,_⟩:=h;exact⟨_,rfl,rfl⟩
 |h _ _=>rw[al]at h;exact h.elim
 |ak _ _=>rw[al]at h;exact h.elim
 |R _ _=>rw[al]at h;exact h.elim
 |cA _=>rw[al]at h;obtain⟨v,eL,rfl⟩:=iT.one h;exact⟨v,rfl,eL⟩
 |_=>rw[al]at h;subst h;exact⟨_,rfl,rfl⟩
theorem I.uw {d:I} (h:d.single=true):(∀af,d≠.agg af)∧∀af,d≠.tuple af:=
 ⟨fun af e=>(by subst e;cases h),fun af e=>(by subst e;cases h)⟩
theorem ax.lv {F:Nat→Prop} {s:aj} {an:Nat→Value} {d:I} {v:Value} (aN:d.tree=true) (U:d.single=true) (h:al w F d [v] (fun _=>False)):ax w F s an d v (fun _=>False):=by
 obtain⟨ef,e,aa⟩:=al.one h (I.uw U).1 (I.uw U).2
 have:v=ef:=by simpa using e
 subst this
 refine(ax.bJ aN).2 ⟨?_,by rw[eO aa];exact h⟩
 cases d<;>first|exact aa|cases U
mutual
theorem ax.l_ {F:Nat→Prop} {s:aj} {an:Nat→Value}:∀(d:I) (v:Value),d.single=true→al w F d [v] (fun _=>False)→ax w F s an d v (fun _=>False)
 | .fn f caps,v,_,h=>by
   rw[al]at h
   obtain⟨arr,aa,ad,aB⟩:=h
   rw[ax]
   exact⟨arr,by simpa using aa,cG.l_ caps _ ad aB⟩
 | .bool b,v,U,h=>ax.lv rfl U h
 | .dd,v,U,h=>ax.lv rfl U h
 | .int k n,v,U,h=>ax.lv rfl U h
 | .str x,v,U,h=>ax.lv rfl U h
 | .cn,v,U,h=>ax.lv rfl U h
 | .bH,v,U,h=>ax.lv rfl U h
 | .slice xs,v,U,h=>ax.lv rfl U h
 | .aK sz xs,v,U,h=>ax.lv rfl U h
 | .ref d,v,U,h=>ax.lv rfl U h
 | .a1 d,v,U,h=>ax.lv rfl U h
 | .h _ _,v,_,h=>by rw[al]at h;exact h.elim
 | .ak _ _,v,_,h=>by rw[al]at h;exact h.elim
 | .R _ _,v,_,h=>by rw[al]at h;exact h.elim
 | .cA _,v,U,h=>ax.lv rfl U h
theorem cG.l_ {F:Nat→Prop} {s:aj} {an:Nat→Value}:∀(ds:List I) (vs:List Value),(∀d∈ds,d.single=true)→aM w F ds vs (fun _=>False)→cG w F s an ds vs
 |[],vs,_,h=>by rw[aM]at h;rw[cG];exact h
 |d::ds,vs,U,h=>by
  rw[aM]at h
  obtain⟨bN,c2,bk,cp,rfl,ad,aB,aO,a6,_⟩:=h
  have ae:=U d (by simp)
  obtain⟨v,rfl,_⟩:=al.one ad (I.uw ae).1 (I.uw ae).2
  rw[cG]
  exact⟨v,c2,rfl,ax.l_ d v ae (al.mono (fun _ h=>h) _ _ _ _ (fun b R=>aO b R) ad),cG.l_ ds c2 (fun x ao=>U x (by simp[ao])) (aM.mono (fun _ h=>h) _ _ _ _ (fun b R=>a6 b R) aB)⟩
end
theorem ux (aT:C.db) {T:TypeId} {d:I} {b o:Nat} {cs:List Value} {S:Nat→Prop} (h:fi w b o cs) (ae:al w F d cs S)
  (fB:fits C T d=true):
  ∃v,(loadVar T ⟨b,o,none⟩).run C.P w= .ok v w∧bw v=cs∧cx d v:=by
 unfold fits at fB
 by_cases U:∃af,(C.T T).k= .struct af
 ·obtain⟨af,ar⟩:=U
  rw[ar]at fB
  cases d with
  |agg ds=>
   simp only[beq_iff_eq]at fB
   refine⟨_,GQ aT ar h ((al.length _ _ _ ae).trans fB),rfl,⟨_,rfl⟩⟩
  |_=>simp at fB
 ·have gr:(C.T T).flat=true∧(∀af,d≠.agg af)∧(∀af,d≠.tuple af):=by
   revert fB U
   cases ar:(C.T T).k<;>cases d<;>simp
  obtain⟨v,rfl,aa⟩:=al.one ae gr.2.1 gr.2.2
  refine⟨v,AM aT gr.1 h,eO aa,?_⟩
  cases d<;>first|exact aa|exact(gr.2.1 _ rfl).elim|exact(gr.2.2 _ rfl).elim
theorem GR (aT:C.db) {T:TypeId} {d:I} {off:Nat} {arr:Array Value} {bN cs c2:List Value} {S:Nat→Prop} (he:arr.toList=bN++(cs++c2)) (bI:bN.length=off) (ae:al w F d cs S)
  (fB:fits C T d=true):
  ∃v,(part T arr off).run C.P w= .ok v w∧bw v=cs∧cx d v:=by
 unfold fits at fB
 by_cases U:∃af,(C.T T).k= .struct af
 ·obtain⟨af,ar⟩:=U
  rw[ar]at fB
  cases d with
  |agg ds=>
   simp only[beq_iff_eq]at fB
   obtain⟨i,d,z,aF,aI,aL,bX,b7,bs,bj⟩:=aT.info (dX ar (by simp))
   have aJ:cs.length=(C.T T).sz:=(al.length _ _ _ ae).trans fB
   have ao:(arr.extract off (off+(C.T T).sz)).toList=cs:=by
    rw[Array.toList_extract,he,List.extract_eq_take_drop,←aJ,←bI,Nat.add_sub_cancel_left,List.drop_left,List.take_left]
   refine⟨.agg (arr.extract off (off+(C.T T).sz)),?_,by simpa [bw,fl]using ao,⟨_,rfl⟩⟩
   simp[part,AJ aT ar,hv aF,aI]
  |_=>simp at fB
 ·have gr:(C.T T).flat=true∧(∀af,d≠.agg af)∧(∀af,d≠.tuple af):=by
   revert fB U
   cases ar:(C.T T).k<;>cases d<;>simp
  obtain⟨v,rfl,aa⟩:=al.one ae gr.2.1 gr.2.2
  have hg:arr[off]? =some v:=by
   rw[←Array.getElem?_toList,he,←bI,List.getElem?_append_right (Nat.le_refl _)];simp
  refine⟨v,?_,eO aa,?_⟩
  ·simp[part,xk aT gr.1,hg]
  ·cases d<;>first|exact aa|exact(gr.2.1 _ rfl).elim|exact(gr.2.2 _ rfl).elim
theorem GS (aT:C.db) (h:a7 w0 F0 X F S s an w) {T:TypeId} {x:I} {v:Value} (aE:ax w F s an x v (fun _=>False)) (he:c8 C s T x=some av):
  Good C w0 F0 X an w (Instr.loadAt T v) av s:=by
 unfold c8 at he
 split at he
 ·rename_i d
  split at he
  ·rename_i fB
   simp only[Option.some.injEq]at he;subst he
   have iy:=(ax.bJ rfl).1 aE
   rw[al,eO iy.1]at iy
   obtain⟨U,b,o,cO,aa,ad,aB,aO⟩:=iy
   simp only[List.cons.injEq,and_true]at aa;subst aa
   obtain⟨ef,aC,ai,jT⟩:=ux aT aB aO fB
   have cU:(Instr.loadAt T (.pointer (some ⟨b,o,none⟩))).run C.P w= .ok ef w:=by simp[Instr.loadAt,Instr.sureAddr,aC]
   refine⟨ef,w,F,S,cU,h,?_⟩
   by_cases aN:d.tree=true
   ·exact .inr ⟨aN,jT,fun _=>False,by rw[ai];exact aO,fun _ h=>h.elim,fun _ h=>h.elim,fun _ _ h=>h.elim,fun _ h=>h.elim⟩
   ·cases d<;>first|exact(aN rfl).elim|(rw[al]at aO;exact aO.elim)|exact .inl ⟨rfl,by rw[ax];trivial⟩|(have a6:=aO;rw[al]at a6;obtain⟨arr,e,_⟩:=a6;rw[←ai]at e aO;rw[eO (by exact jT)]at aO;exact .inl ⟨rfl,ax.l_ _ _ rfl aO⟩)
  ·cases he
 ·rename_i y k
  split at he
  ·rename_i ds kl
   split at he
   ·cases he
   ·rename_i sk
    split at he
    ·rename_i i aA
     split at he
     ·rename_i d ae
      split at he
      ·rename_i fB
       simp only[Option.some.injEq]at he
       have e5:(s y).plain=false:=by rw[kl];simp only[I.plain];simpa using sk
       rw[ax]at aE
       obtain⟨b,cur,e,fr,rfl,ad,aB,aO⟩:=aE e5
       have hy:=h.cd y
       rw[kl]at hy
       have AO:=((ax.bJ rfl).1 hy).2
       rw[al]at AO
       obtain⟨bN,dT,c2,bk,fk,hx,fa,dV,eY,fH,ee,jl⟩:=aM.pick ds _ _ i d AO ae
       have gW:fi w b k dT:=by
        intro j c bY
        have cY:j<dT.length:=(List.getElem?_eq_some_iff.1 bY).1
        have:cur.toList[k+j]? =some c:=by
         rw[aO,hx,List.getElem?_append_right (by omega),List.getElem?_append_left (by omega),←bY];congr 1;omega
        simp[World.cell?,aB]
        simpa using this
       obtain⟨ef,aC,ai,jT⟩:=ux aT gW ee fB.2
       have cU:(Instr.loadAt T (.pointer (some ⟨b,k,none⟩))).run C.P w= .ok ef w:=by simp[Instr.loadAt,Instr.sureAddr,aC]
       refine⟨ef,w,F,S,cU,h,?_⟩
       split at he
       ·rename_i ak
        subst he
        by_cases aN:d.tree=true
        ·exact .inl ⟨ak,(ax.bJ aN).2 ⟨jT,by rw[ai];exact al.plain _ _ _ _ ak ee⟩⟩
        ·cases d<;>first|exact(aN rfl).elim|(rw[al]at ee;exact ee.elim)|exact .inl ⟨rfl,by rw[ax];trivial⟩|(have a6:=al.plain _ _ _ (fun _=>False) ak ee;rw[←ai]at a6;rw[eO (by exact jT)]at a6;exact .inl ⟨rfl,ax.l_ _ _ rfl a6⟩)
       ·subst he
        refine .inl ⟨rfl,?_⟩
        rw[ax]
        intro d2 eZ _
        rw[kl]at eZ⊢
        simp only[I.sub,ae,Option.some.injEq]at eZ
        subst eZ
        refine⟨dT,none,?_,ai,jT⟩
        simp only[cb,ae]
        rw[hx,o0 bN dT c2 _ _ fa (al.length _ _ _ ee)]
        rfl
      ·cases he
     ·cases he
    ·cases he
  ·cases he
 ·rename_i x _ _
  split at he
  ·rename_i y q aJ
   split at he
   ·rename_i d ae
    split at he
    ·rename_i fB
     simp only[Option.some.injEq]at he
     obtain⟨lx,bP,b,o,rfl,hI⟩:=xg h aE aJ ae
     have hy:=h.cd y
     rw[ax.bJ (fm ae (.inr lx))]at hy
     obtain⟨dU,b2,cL,dp,k0,bx,bF,c7,ct,dr⟩:=ctx q (s y) (bw (an y)) (S y) none _ hy.2 ae
     rw[k0]at hI
     simp only[Option.some.injEq,Prod.mk.injEq,true_and]at hI
     obtain⟨rfl,rfl⟩:=hI
     have gW:fi w b o dU:=by
      rcases dr with⟨l,r,aF,aI,_⟩|⟨dG,cur,e,fr,l,r,aF,aI,aL,bX,b7,_⟩
      ·simp at aI
      ·simp only[Option.some.injEq,Prod.mk.injEq]at aF
       obtain⟨rfl,rfl⟩:=aF
       intro j c bY
       have cY:j<dU.length:=(List.getElem?_eq_some_iff.1 bY).1
       have:cur.toList[l.length+j]? =some c:=by
        rw[b7,List.getElem?_append_right (by omega),List.getElem?_append_left (by omega),←bY];congr 1;omega
       simp[World.cell?,aL]
       simpa using this
     obtain⟨ef,aC,ai,jT⟩:=ux aT gW ct fB
     have cU:(Instr.loadAt T (.pointer (some ⟨b,o,none⟩))).run C.P w= .ok ef w:=by simp[Instr.loadAt,Instr.sureAddr,aC]
     refine⟨ef,w,F,S,cU,h,?_⟩
     split at he
     ·rename_i ak
      subst he
      by_cases aN:d.tree=true
      ·exact .inl ⟨ak,(ax.bJ aN).2 ⟨jT,by rw[ai];exact al.plain _ _ _ _ ak ct⟩⟩
      ·cases d<;>first|exact(aN rfl).elim|(rw[al]at ct;exact ct.elim)|exact .inl ⟨rfl,by rw[ax];trivial⟩|(have a6:=al.plain _ _ _ (fun _=>False) ak ct;rw[←ai]at a6;rw[eO (by exact jT)]at a6;exact .inl ⟨rfl,ax.l_ _ _ rfl a6⟩)
     ·subst he
      refine .inl ⟨rfl,?_⟩
      rw[ax]
      intro d2 eZ _
      rw[ae]at eZ
      simp only[Option.some.injEq]at eZ
      subst eZ
      exact⟨_,_,k0,ai,jT⟩
    ·cases he
   ·cases he
  ·cases he
mutual
theorem al.o_ {F:Nat→Prop}:∀(d:I) (cs:List Value) (S:Nat→Prop),al w F d cs S→∀c∈cs,Value.eF c=true
 | .hole,cs,S,h=>by rw[al]at h;obtain⟨v,h,rfl⟩:=h;simpa using h
 | .bool _,cs,S,h=>by rw[al]at h;subst h;simp[Value.eF]
 | .dd,cs,S,h=>by rw[al]at h;obtain⟨b,rfl⟩:=h;simp[Value.eF]
 | .int _ _,cs,S,h=>by rw[al]at h;subst h;simp[Value.eF]
 | .str _,cs,S,h=>by rw[al]at h;subst h;simp[Value.eF]
 | .cn,cs,S,h=>by rw[al]at h;subst h;simp[Value.eF]
 | .bH,cs,S,h=>by rw[al]at h;subst h;simp[Value.eF]
 | .slice xs,cs,S,h=>by
   rw[al]at h
   rcases h with⟨_,a,c,rfl,_⟩|⟨b,o,cap,cO,sz,rfl,_⟩<;>simp[Value.eF]
 | .aK sz xs,cs,S,h=>by
   rw[al]at h
   rcases h with⟨_,_,rfl⟩|⟨b,cap,cur,e,fr,aD,rfl,_⟩<;>simp[Value.eF]
 | .ref d,cs,S,h=>by rw[al]at h;obtain⟨b,o,cO,rfl,_⟩:=h;simp[Value.eF]
 | .a1 d,cs,S,h=>by rw[al]at h;obtain⟨b,o,cO,_,_,rfl,_⟩:=h;simp[Value.eF]
 | .agg af,cs,S,h=>by rw[al]at h;exact aM.o_ af _ _ h
 | .tuple af,cs,S,h=>by rw[al]at h;exact aM.o_ af _ _ h
 | .fn _ _,cs,S,h=>by rw[al]at h;obtain⟨arr,rfl,_⟩:=h;simp[Value.eF]
 | .h _ _,cs,S,h=>by rw[al]at h;exact h.elim
 | .ak _ _,cs,S,h=>by rw[al]at h;exact h.elim
 | .R _ _,cs,S,h=>by rw[al]at h;exact h.elim
 | .cA _,cs,S,h=>by rw[al]at h;obtain⟨v,eL,rfl⟩:=iT.one h;simpa using eL
theorem aM.o_ {F:Nat→Prop}:∀(ds:List I) (cs:List Value) (S:Nat→Prop),aM w F ds cs S→∀c∈cs,Value.eF c=true
 |[],cs,S,h=>by rw[aM]at h;subst h;simp
 |d::ds,cs,S,h=>by
  rw[aM]at h
  obtain⟨bN,c2,bk,cp,rfl,ad,aB,_⟩:=h
  intro c ai
  rcases List.mem_append.1 ai with ai|ai
  ·exact al.o_ d _ _ ad c ai
  ·exact aM.o_ ds _ _ aB c ai
end
theorem xl {P:Program} {b o:Nat} {e:TypeId} {fr:Nat×Nat}:∀(vs:List Value) (i:Nat) (cur:Array Value) (w:World) (l m r:List Value),w.heap[b]? =some (.cells cur e fr)→nT fr cur.size→
  cur.toList=l++(m++r)→l.length=o+i→m.length=vs.length→(∀v∈vs,Value.eF v=true)→
  ∃aw,(storeCells ⟨b,o,none⟩ vs i).run P w= .ok () aw∧aw.heap[b]? =some (.cells (l++(vs++r)).toArray e fr)∧(∀c,c≠b→aw.heap[c]? =w.heap[c]?)∧aw.heap.size=w.heap.size∧aw.os=w.os∧aw.tape=w.tape∧Out aw w
 |[],i,cur,w,l,m,r,R,bh,ai,aJ,hm,_=>by
  refine⟨w,rfl,?_,fun _ _=>rfl,rfl,rfl,rfl,Out.refl _⟩
  have:m=[]:=by simpa using hm
  subst this
  rw[R]
  have:cur=(l++([]++r)).toArray:=by rw[←ai]
  rw[←this]
 |v::vs,i,cur,w,l,m,r,R,bh,ai,aJ,hm,uy=>by
  obtain⟨x,m,rfl⟩:∃x gY,m=x::gY:=by cases m with
   |nil=>simp at hm
   |cons x m=>exact⟨x,m,rfl⟩
  have hlen:cur.size=(l++(x::m++r)).length:=by rw[←ai];simp
  have cY:o+i<cur.size:=by rw[hlen];simp;omega
  have uz:w.cell? ⟨b,o+i,none⟩=some cur[o+i]:=by simp[World.cell?,R,cY]
  have GU:w.frozen? ⟨b,o+i,none⟩=false:=by
   have:=bh (o+i) cY
   simp only[World.frozen?,R]
   simp only[Bool.and_eq_false_iff,decide_eq_false_iff_not]
   by_cases aa:fr.1≤o+i
   ·right;exact fun ad=>this ⟨aa,ad⟩
   ·left;exact aa
  have nX:(w.setCell ⟨b,o+i,none⟩ v).heap[b]? =some (.cells ((l++[v])++(m++r)).toArray e fr):=by
   simp only[World.setCell,Array.getElem?_modify,if_true,R,Option.map_some,Option.isSome_none,Bool.false_eq_true,if_false]
   congr 2
   apply Array.ext'
   rw[Array.toList_setIfInBounds,ai,←aJ,List.set_append_right _ _ (Nat.le_refl _)]
   simp
  have pa:(store ((⟨b,o,none⟩:Addr).add i) v).run P w= .ok () (w.setCell ⟨b,o+i,none⟩ v):=by
   have aa:=uy v (by simp)
   rw[Addr.add_lit]
   cases v<;>first|(simp[Value.eF]at aa;done)|simp[Go.store,Sem.run,uz,GU]
  obtain⟨aw,g1,g2,g3,g4,g5,g6,g7⟩:=xl (P:=P) (b:=b) (o:=o) vs (i+1) _ (w.setCell ⟨b,o+i,none⟩ v) (l++[v]) m r nX (by
   have:(l++[v]++(m++r)).toArray.size=cur.size:=by rw[hlen];simp
   rw[this];exact bh) (by simp) (by simp;omega) (by simpa using hm) (fun u hu=>uy u (by simp[hu]))
  refine⟨aw,?_,by simpa using g2,fun c ai=> ?_,?_,g5,g6,g7⟩
  ·simp only[storeCells,Sem.run_bind,pa,Result.andThen];exact g1
  ·rw[g3 c ai]
   simp only[World.setCell,Array.getElem?_modify]
   rw[if_neg (fun e=>ai e.symm)]
  ·rw[g4];simp[World.setCell]
theorem sl {d:I} {v:Value} (h:cx d v) (ae:∀af,d≠.tuple af):v.cells=(bw v).toArray:=by
 cases d with
 |tuple af=>exact(ae _ rfl).elim
 |agg af=>obtain⟨arr,rfl⟩:=h;simp[Value.cells,bw,fl]
 |_=>
  have aa:Value.eF v=true:=h
  rw[eO aa]
  cases v<;>first|rfl|(simp[Value.eF]at aa)
def dY (C:bq) (s:aj) (T:TypeId) (x y:I):Option aj:=
 match bR s y,loc s x with
 |some (d,s1),some (z,q)=>match d with
  | .tuple _=>none
  |d=>match I.sub q (s z)with
   |some d0=>if d.wd=d0.wd∧d.wd=(C.T T).sz∧(C.T T).ok=true∧y.owner≠some z then some (cg (fz z s1) z (I.put q d (s z)))else none
   |none=>none
 |_,_=>none
theorem GV {s s1:aj} {y d:I} {z:Nat} (h:bR s y=some (d,s1)) (bl:(s z).tree=true) (hy:y.owner≠some z):s1 z=s z:=by
 cases y with
 |h x q=>
  simp only[bR]at h
  split at h
  ·split at h
   ·cases h
   ·simp only[Option.some.injEq,Prod.mk.injEq]at h
    obtain⟨_,rfl⟩:=h
    rw[gR _ _ (fun e=>hy (by rw[I.owner,e]))]
    exact w3 bl
  ·cases h
 |ak x q=>simp[bR]at h
 |R x q=>simp[bR]at h
 |fn f c=>simp[bR]at h
 |hole=>simp[bR]at h
 |_=>simp only[bR,Option.some.injEq,Prod.mk.injEq]at h;rw[h.2]
theorem GW (aT:C.db) (h:a7 w0 F0 X F S s an w) {T:TypeId} {x y:I} {fq fU:Value} (xm:ax w F s an x fq (fun _=>False)) (hy:y.plain=true) (GX:ax w F s an y fU (fun _=>False))
  {s2:aj} (he:dY C s T x y=some s2):
  ∃aw aD,(Instr.storeAt T fq fU).run C.P w= .ok () aw∧a7 w0 F0 X F aD s2 an aw:=by
 unfold dY at he
 split at he
 ·rename_i d s1 z q aN aJ
  have key:∀d:I,(∀af,d≠.tuple af)→bR s y=some (d,s1)→(match I.sub q (s z)with
   |some d0=>if d.wd=d0.wd∧d.wd=(C.T T).sz∧(C.T T).ok=true∧y.owner≠some z then some (cg (fz z s1) z (I.put q d (s z)))else none
   |none=>none)=some s2→∃aw aD,(Instr.storeAt T fq fU).run C.P w= .ok () aw∧a7 w0 F0 X F aD s2 an aw:=by
   intro d nf aN he
   split at he
   ·rename_i d0 jU
    split at he
    ·rename_i pb
     obtain⟨aa,ad,aB,aO⟩:=pb
     simp only[Option.some.injEq]at he;subst he
     obtain⟨lx,bP,b,o,rfl,hI⟩:=xg h xm aJ jU
     obtain⟨bk,g0,g1,g2,Sn,g3,g4,g5,g6,g7,g8⟩:=lu h hy GX aN
     have cP:s1 z=s z:=GV aN (fm jU (.inr lx)) aO
     rw[←cP]at jU lx hI⊢
     obtain⟨dU,dG,l,r,cur,e,fr,k0,bx,bF,c7,ct⟩:=g0.store jU lx g3 aa g4 g5 g6 g7
     rw[hI]at k0
     simp only[Option.some.injEq,Prod.mk.injEq,true_and]at k0
     obtain⟨rfl,rfl,rfl⟩:=k0
     obtain⟨i,d,nd,aF,aI,aL,bX,b7,bs,bj⟩:=aT.info aB
     have hlen:=al.length _ _ _ g3
     have hm:bP.length=(bw fU).length:=by
      have AP:=g0.cd z
      rw[ax.bJ (fm jU (.inr lx))]at AP
      obtain⟨_,_,_,_,c0,_,_,_,c4,_⟩:=ctx q (s1 z) (bw (an z)) (bk z) none _ AP.2 jU
      rw[hI]at c0
      simp only[Option.some.injEq,Prod.mk.injEq,true_and]at c0
      rw[c0.1,al.length _ _ _ c4,hlen,aa]
     obtain⟨aw,m1,m2,m3,m4,m5,m6,m7⟩:=xl (P:=C.P) (b:=b) (o:=l.length) (e:=e) (fr:=fr) (bw fU) 0 cur w l bP r bx c7 bF rfl hm (al.o_ _ _ _ g3)
     obtain⟨aD,dr⟩:=ct aw m2 m3 m4 m5 m6 m7
     refine⟨aw,aD,?_,dr⟩
     have ly:=sl g2 nf
     simp[Instr.storeAt,Instr.sureAddr,storeVar,hv aF,aI,ly,hlen,ad,m1]
    ·cases he
   ·cases he
  split at he
  ·cases he
  ·rename_i nf
   exact key _ (fun af e=>nf af e) aN he
 ·cases he
theorem a7.alloc (h:a7 w0 F0 X F S s an w) {d:I} {cs:List Value} {Sn:Nat→Prop} (e:TypeId) (aE:al w F d cs Sn)
  (cY:∀b,Sn b→b<w.heap.size) (aX:∀b,Sn b→¬F b) (bd:∀u b,Sn b→¬S u b) (bz:∀b,Sn b→X b∨w0.heap.size≤b):
  a7 w0 F0 X F S s an (w.alloc (.cells cs.toArray e))∧
   iw w0 X F S s an (w.alloc (.cells cs.toArray e)) (.a1 d) (.pointer (some ⟨w.heap.size,0,none⟩)):=by
 have hold:∀b,b<w.heap.size→(w.alloc (.cells cs.toArray e)).heap[b]? =w.heap[b]? :=by
  intro b R
  show(w.heap.push _)[b]? =_
  rw[Array.getElem?_push,if_neg (by omega)]
 refine⟨h.grow hold (by simp) rfl rfl ⟨rfl,fun _=>Nat.le_refl _⟩,.inr ⟨rfl,rfl,fun b=>b=w.heap.size∨Sn b,?_,?_,?_,?_,?_⟩⟩
 ·rw[al]
  refine⟨w.heap.size,cs.toArray,e,(0,0),Sn,rfl,.inl rfl,?_,?_,?_,fun c ai=>.inr ai,fun ai=>Nat.lt_irrefl _ (cY _ ai)⟩
  ·show(w.heap.push _)[_]? =_
   simp
  ·intro o _ ⟨_,ad⟩;exact absurd ad (Nat.not_lt_zero _)
  ·exact al.frame (fun b R=>hold b (h.dw b R)) _ _ _ (fun b R=>hold b (cY b R)) aE
 ·rintro b (rfl|R)
  ·simp
  ·have:=cY b R;simp;omega
 ·rintro b (rfl|R) ng
  ·exact Nat.lt_irrefl _ (h.dw _ ng)
  ·exact aX b R ng
 ·rintro u b (rfl|R) hu
  ·exact Nat.lt_irrefl _ (h.c6 _ _ hu)
  ·exact bd u b R hu
 ·rintro b (rfl|R)
  ·exact .inr h.size
  ·exact bz b R
def fc (C:bq) (T:TypeId):Option I:=if(C.T T).ok=true then(match(C.T T).k,(C.T T).zero with
    | .dH e,.agg [.cn,.bH]=>some (.cA (.fy T e []))
    | .dH _,_=>none
    |_,z=>(match flat z with|some _=>some (.a1 z)|none=>none))else none
theorem GY (aT:C.db) (h:a7 w0 F0 X F S s an w) {T:TypeId} (he:fc C T=some av):Good C w0 F0 X an w (Instr.alloc T true (.tuple #[])) av s:=by
 unfold fc at he
 split at he
 ·rename_i ar
  split at he
  ·rename_i AQ YG GZ
   simp only[Option.some.injEq]at he;subst he
   obtain⟨i,d,z,aF,aI,aL,bX,b7,bs,bj⟩:=aT.info ar
   have bl:=b7 [.pointer none,.slice none 0 0] (by rw[GZ];rfl)
   have hold:∀b,b<w.heap.size→(w.alloc (.cells #[.pointer none,.slice none 0 0] T)).heap[b]? =w.heap[b]? :=by
    intro b R
    show(w.heap.push _)[b]? =_
    rw[Array.getElem?_push,if_neg (by omega)]
   refine⟨.pointer (some ⟨w.heap.size,0,none⟩),w.alloc (.cells #[.pointer none,.slice none 0 0] T),F,S,?_,h.grow hold (by simp) rfl rfl ⟨rfl,fun _=>Nat.le_refl _⟩,.inr ⟨rfl,rfl,fun b=>b=w.heap.size,?_,?_,?_,?_,?_⟩⟩
   ·simp[Instr.alloc,o8 aF bX,newVar,newRow,newObj,Sem.run,bl]
   ·rw[al]
    refine⟨w.heap.size,.pointer none,.slice none 0 0,rfl,rfl,?_,.inl rfl,.inl ⟨rfl,rfl⟩⟩
    show(w.heap.push _)[_]? =_
    simp
   ·rintro b rfl;simp
   ·rintro b rfl ng;exact Nat.lt_irrefl _ (h.dw _ ng)
   ·rintro u b rfl hu;exact Nat.lt_irrefl _ (h.c6 _ _ hu)
   ·rintro b rfl;exact .inr h.size
  ·cases he
  split at he
  ·rename_i cs hx
   simp only[Option.some.injEq]at he;subst he
   obtain⟨i,d,z,aF,aI,aL,bX,b7,bs,bj⟩:=aT.info ar
   have bl:=b7 cs hx
   obtain⟨ev,cr⟩:=h.alloc (d:=(C.T T).zero) T ((al.flat _).1 _ cs (fun _=>False) (Nat.le_refl _) hx) (fun _ h=>h.elim) (fun _ h=>h.elim) (fun _ _ h=>h.elim) (fun _ h=>h.elim)
   refine⟨_,_,F,S,?_,ev,cr⟩
   simp[Instr.alloc,o8 aF bX,newVar,newRow,newObj,Sem.run,bl]
  ·cases he
 ·cases he
def eg (s:aj) (x:I):Option (I×aj):=match bR s x with
 |some (.tuple _,_)=>none
 |some (d,s1)=>some (.a1 d,s1)
 |none=>none
def iA (s:aj) (x:I):Option (I×aj):=match x with
 | .h y q=>match q,s y with
   |[],.agg ds=>if I.dW ds then none else some (.R y 0,s)
   |_,_=>none
 | .fn f caps=>if caps.all (fun d=>d.single&&(d.tree&&d.plain))=true then some (.ref (.fn f caps),s)else none
 |_=>none
theorem aM.AR {w:World} {F bc:Nat→Prop} {s:aj} {an:Nat→Value} (aX:∀b,F b→bc b):∀(ds:List I) (vs:List Value),(∀d∈ds,d.single=true∧d.tree=true∧d.plain=true)→cG w F s an ds vs→aM w bc ds vs (fun _=>False)
 |[],vs,_,h=>by rw[cG]at h;rw[aM];exact h
 |d::ds,vs,U,h=>by
  rw[cG]at h
  obtain⟨v,gQ,rfl,aa,ad⟩:=h
  obtain⟨d1,d2,d3⟩:=U d (by simp)
  have aB:=(ax.bJ d2).1 aa
  have bI:Value.eF v=true:=by
   have:=aB.1
   cases d<;>first|exact this|cases d1
  have aO:=aB.2
  rw[eO bI]at aO
  rw[aM]
  exact⟨[v],gQ,fun _=>False,fun _=>False,rfl,al.mono aX _ _ _ _ (fun _ h=>h) aO,aM.AR aX ds gQ (fun x ao=>U x (by simp[ao])) ad,fun _ h=>h,fun _ h=>h,fun _ h=>h.elim⟩
theorem G0 {T:TypeId} {v:Value} (h:a7 w0 F0 X F S s an w):a7 w0 F0 X (fun b=>F b∨b=w.heap.size) S s an (w.alloc (.cells (bw v).toArray T)):=by
 have hold:∀b,b<w.heap.size→(w.alloc (.cells (bw v).toArray T)).heap[b]? =w.heap[b]? :=by
  intro b R
  show(w.heap.push _)[b]? =_
  rw[Array.getElem?_push,if_neg (by omega)]
 have aa:=h.grow hold (by simp) rfl rfl ⟨rfl,fun _=>Nat.le_refl _⟩
 exact {
  eU:=fun b R=>.inl (aa.eU b R)
  e4:=fun b R=>by
   rcases R with R|rfl
   ·exact aa.e4 b R
   ·exact .inr (.inr h.size)
  dw:=fun b R=>by
   rcases R with R|rfl
   ·exact aa.dw b R
   ·simp
  c6:=aa.c6
  dP:=fun t b R bh=>by
   rcases bh with bh|rfl
   ·exact aa.dP t b R bh
   ·exact absurd (h.c6 t _ R) (Nat.lt_irrefl _)
  dq:=aa.dq
  cz:=aa.cz
  cd:=fun t=>ax.frame (fun _ _=>rfl) (fun b R=>.inl R) (fun _ _ _=>rfl) aa.cd _ _ _ (fun _ _=>rfl) (aa.cd t)
  old:=aa.old
  size:=aa.size
  os:=aa.os
  tape:=aa.tape
  output:=aa.output
  eN:=h.eN}
theorem G1 (h:a7 w0 F0 X F S s an w) {T:TypeId} {x:I} {v:Value} (aE:ax w F s an x v (fun _=>False)) (he:iA s x=some (av,s1)):
  Good C w0 F0 X an w (Instr.box T v) av s1:=by
 unfold iA at he
 split at he
 ·rename_i y q
  split at he
  ·rename_i ds kl
   split at he
   ·cases he
   ·rename_i sk
    simp only[Option.some.injEq,Prod.mk.injEq]at he
    obtain⟨rfl,rfl⟩:=he
    rw[ax]at aE
    obtain⟨bP,a,g1,g2,g3⟩:=aE (s y) (by simp only[I.sub]) (by rw[kl];simp only[I.plain];simpa using sk)
    simp only[cb,Option.some.injEq,Prod.mk.injEq,true_and]at g1
    rw[kl]at g3
    have ly:=sl g3 (fun af e=>by cases e)
    have hold:∀b,b<w.heap.size→(w.alloc (.cells (bw v).toArray T)).heap[b]? =w.heap[b]? :=by
     intro b R
     show(w.heap.push _)[b]? =_
     rw[Array.getElem?_push,if_neg (by omega)]
    refine⟨.pointer (some ⟨w.heap.size,0,none⟩),w.alloc (.cells (bw v).toArray T),fun b=>F b∨b=w.heap.size,S,by simp[Instr.box,newVar,newRow,newObj,Sem.run,ly],?_,.inl ⟨rfl,?_⟩⟩
    ·have aa:=h.grow hold (by simp) rfl rfl ⟨rfl,fun _=>Nat.le_refl _⟩
     exact {
      eU:=fun b R=>.inl (aa.eU b R)
      e4:=fun b R=>by
       rcases R with R|rfl
       ·exact aa.e4 b R
       ·exact .inr (.inr h.size)
      dw:=fun b R=>by
       rcases R with R|rfl
       ·exact aa.dw b R
       ·simp
      c6:=aa.c6
      dP:=fun t b R bh=>by
       rcases bh with bh|rfl
       ·exact aa.dP t b R bh
       ·exact absurd (h.c6 t _ R) (Nat.lt_irrefl _)
      dq:=aa.dq
      cz:=aa.cz
      cd:=fun t=>ax.frame (fun _ _=>rfl) (fun b R=>.inl R) (fun _ _ _=>rfl) aa.cd _ _ _ (fun _ _=>rfl) (aa.cd t)
      old:=aa.old
      size:=aa.size
      os:=aa.os
      tape:=aa.tape
      output:=aa.output
      eN:=h.eN}
    ·rw[ax]
     intro _
     refine⟨w.heap.size,(bw v).toArray,T,(0,0),rfl,.inr rfl,?_,?_⟩
     ·show(w.heap.push _)[_]? =_
      simp
     ·rw[g1.1,←g2]
  ·cases he
 ·rename_i f caps
  split at he
  ·rename_i ai
   simp only[Option.some.injEq,Prod.mk.injEq]at he
   obtain⟨rfl,rfl⟩:=he
   have hx:∀d∈caps,d.single=true∧d.tree=true∧d.plain=true:=fun d ae=>by
    have:=List.all_eq_true.1 ai d ae
    simpa only[Bool.and_eq_true]using this
   rw[ax]at aE
   obtain⟨arr,rfl,aE⟩:=aE
   have ly:=sl (d:=.fn f caps) (v:=.func (.func f) #[] arr) rfl (fun af e=>by cases e)
   have hg:=G0 (T:=T) (v:=.func (.func f) #[] arr) h
   refine⟨.pointer (some ⟨w.heap.size,0,none⟩),w.alloc (.cells (bw (.func (.func f) #[] arr)).toArray T),fun b=>F b∨b=w.heap.size,S,by simp[Instr.box,newVar,newRow,newObj,Sem.run,ly],hg,.inl ⟨rfl,?_⟩⟩
   refine(ax.bJ rfl).2 ⟨rfl,?_⟩
   rw[al]
   refine⟨w.heap.size,0,[.func (.func f) #[] arr],rfl,.inr rfl,?_,?_⟩
   ·have fb:(w.alloc (.cells (bw (.func (.func f) #[] arr)).toArray T)).heap[w.heap.size]? =some (.cells (bw (.func (.func f) #[] arr)).toArray T (0,0)):=by
     show(w.heap.push _)[_]? =_
     simp
    intro j c bY
    cases j with
    |zero=>
     simp only[List.getElem?_cons_zero,Option.some.injEq]at bY
     subst bY
     have e:bw (.func (.func f) #[] arr)=[.func (.func f) #[] arr]:=eO rfl
     unfold World.cell?
     show(match(w.alloc (.cells (bw (.func (.func f) #[] arr)).toArray T)).heap[w.heap.size]? with
      |some (.cells c _ _)=>c[0+0]?
      |_=>none)=_
     rw[fb,e]
     rfl
    |succ j=>simp at bY
   ·rw[al]
    refine⟨arr,rfl,fun d ae=>(hx d ae).1,?_⟩
    have a6:=aM.AR (bc:=F) (fun b R=>R) caps arr.toList hx aE
    refine aM.mono (F:=F) (fun b R=>.inl R) caps _ _ _ (fun _ h=>h) (aM.frame (fun b R=> ?_) caps _ _ (fun _ h=>h.elim) a6)
    have cY:=h.dw b R
    show(w.heap.push _)[b]? =_
    rw[Array.getElem?_push,if_neg (by omega)]
  ·cases he
 ·cases he
theorem G2 (h:a7 w0 F0 X F S s an w) {T:TypeId} {x:I} {v:Value} (ao:x.plain=true) (aE:ax w F s an x v (fun _=>False)) (he:eg s x=some (av,s1)):
  Good C w0 F0 X an w (Instr.box T v) av s1:=by
 unfold eg at he
 split at he
 ·cases he
 ·rename_i d s2 nf aN
  simp only[Option.some.injEq,Prod.mk.injEq]at he
  obtain⟨rfl,rfl⟩:=he
  obtain⟨bk,g0,g1,g2,Sn,g3,g4,g5,g6,g7,g8⟩:=lu h ao aE aN
  obtain⟨ev,cr⟩:=g0.alloc T g3 g4 g5 g6 g7
  refine⟨_,_,F,bk,?_,ev,cr⟩
  have ly:=sl g2 (fun af e=>nf af e)
  simp[Instr.box,newVar,newRow,newObj,Sem.run,ly]
 ·cases he
end
end Go.b9
