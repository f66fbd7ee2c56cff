/- Part of a proof that a law returns true for every input. No condition. -/
import Derived.Test.YtipllbfpaepajaaGreatDoorFwB
import Derived.Laws.Entries
namespace Go.ca
inductive kP where
 |int (k:IntKind)
 |bool
 |str
 |ptr (e:TypeId)
 |slice (e:TypeId)
 |struct (ag:List (TypeId×Nat))
 |fn
 |dR (e:TypeId)
 |map (k e:TypeId)
 |other
structure eC where
 k:kP
 sz:Nat
 bytes:Nat
 zero:I
mutual
def flat:I→Option (List Value)
 | .bool b=>some [.bool b]
 | .int k n=>some [.int k n]
 | .str s=>some [.string ⟨⟨s⟩⟩]
 | .ct=>some [.pointer none]
 | .bD=>some [.slice none 0 0]
 | .agg ag=>nI ag
 | .cH .ot=>some [.map none]
 |_=>none
def nI:List I→Option (List Value)
 |[]=>some []
 |d::ds=>match flat d,nI ds with
  |some a,some b=>some (a++b)
  |_,_=>none
end
theorem an.flat {w:World} {F:Nat→Prop}:∀n,(∀(d:I) (cs:List Value) (S:Nat→Prop),SizeOf.sizeOf d≤n→flat d=some cs→an w F d cs S)∧
  (∀(ds:List I) (cs:List Value) (S:Nat→Prop),SizeOf.sizeOf ds≤n→nI ds=some cs→aN w F ds cs S):=by
 intro n
 induction n with
 |zero=>exact⟨fun d _ _ bp=>by cases d<;>simp at bp<;>omega,fun ds _ _ bp=>by cases ds<;>simp at bp<;>omega⟩
 |succ n ih=>
  refine⟨fun d cs S bp h=> ?_,fun ds cs S bp h=> ?_⟩
  ·cases d with
   |agg ag=>rw[an];exact ih.2 ag cs S (by simp at bp;omega) (by simpa [ca.flat]using h)
   |bool b=>simp[ca.flat]at h;subst h;rw[an]
   |int k n=>simp[ca.flat]at h;subst h;rw[an]
   |str s=>simp[ca.flat]at h;subst h;rw[an]
   |ct=>simp[ca.flat]at h;subst h;rw[an]
   |bD=>simp[ca.flat]at h;subst h;rw[an]
   |cH o=>cases o<;>simp[ca.flat]at h;subst h;rw[an];rfl
   |_=>simp[ca.flat]at h
  ·cases ds with
   |nil=>simp[nI]at h;subst h;rw[aN]
   |cons d ds=>
    simp only[nI]at h
    split at h
    ·rename_i a b bT R
     simp at h;subst h
     simp at bp
     rw[aN]
     exact⟨a,b,fun _=>False,fun _=>False,rfl,ih.1 d a _ (by omega) bT,ih.2 ds b _ (by omega) R,fun _ h=>h.elim,fun _ h=>h.elim,fun _ h=>h.elim⟩
    ·cases h
def iU:kP→TypeDesc→Prop
 | .int k,.int cB=>k=cB
 | .bool,.bool=>True
 | .str,.string=>True
 | .ptr e,.pointer eG=>e=eG
 | .slice e,.slice eG=>e=eG
 | .struct ag,.struct gs=>gs.toList.map (fun g=>(g.type,g.offset))=ag
 | .fn,.func _ _ _=>True
 | .dR _,.struct _=>True
 | .map k e,.map cB eG=>k=cB∧e=eG
 |_,_=>False
def Bn (P:Program) (t:TypeId) (x:eC):Prop:=
 (∃e n b z,x=⟨.other,e,n,b⟩∧z=0)∨
 ∃i d z,P.info? t=some i∧i.size=x.sz∧i.bytes=x.bytes∧i.zero=some z∧(∀cs,flat x.zero=some cs→z.cells=cs.toArray)∧P.underlying t=some d∧iU x.k d
structure bt where
 P:Program
 T:TypeId→eC
 M:FuncId→List Bool
structure bt.dn (C:bt):Prop where
 ty:∀t,Bn C.P t (C.T t)
 mixed:C.P.follows .mixedOrders=true
inductive ax where
 |t (n:Nat)
 |c (av:I)
 |f (g:FuncId)
def u6:Value→Option I
 | .bool b=>some (.bool b)
 | .int k n=>some (.int k n)
 | .string s=>some (.str s.data.toList)
 | .pointer none=>some .ct
 | .slice none 0 0=>some .bD
 |_=>none
def cv:Operand→Option ax
 | .tmp n=>some (.t n)
 | .const v=>(u6 v).map .c
 | .func g=>some (.f g)
 | .global _=>none
def gO (x:Nat) (d:I):I:=if d.plain then d else .h x []
def az (s:aj):ax→I
 | .t n=>gO n (s n)
 | .c av=>av
 | .f g=>.fn g []
theorem ay.nothing {w:World} {F:Nat→Prop} {s:aj} {ao:Nat→Value} {d:I} {v:Value} {S aF:Nat→Prop} (ak:d.plain=true) (h:ay w F s ao d v S):ay w F s ao d v aF:=by
 cases d<;>first
  |(rw[ay];trivial)
  |(rw[ay]at h⊢;exact h)
  |(have aS:=(ay.bM rfl).1 h;exact(ay.bM rfl).2 ⟨aS.1,an.plain _ _ _ _ ak aS.2⟩)
section
variable {w0 w:World} {F0 X F:Nat→Prop} {S:Nat→Nat→Prop} {s:aj} {ao:Nat→Value} {a:Act}
theorem Bo (s:aj) (x:ax) (ai:∀av,x= .c av→av.plain=true):(az s x).plain=true:=by
 cases x with
 |t n=>simp only[az,gO];split<;>first|assumption|rfl
 |c av=>exact ai _ rfl
 |f g=>rfl
theorem xX {v:Value} {av:I} (h:u6 v=some av):av.plain=true:=by
 unfold u6 at h;split at h<;>simp at h<;>subst h<;>rfl
theorem dy (h:bb w0 F0 X F S s ao w) (cR:∀t,ao t=a.tmps.getD t undef) {o:Operand} {x:ax} (bL:cv o=some x):
  (az s x).plain=true∧ay w F s ao (az s x) (a.eval o) (fun _=>False):=by
 cases o with
 |tmp n=>
  simp[cv]at bL;subst bL
  simp only[az,gO,Act.eval,←cR]
  split
  ·rename_i ak;exact⟨ak,ay.nothing ak (h.cj n)⟩
  ·rename_i ak
   refine⟨rfl,?_⟩
   rw[ay]
   intro d ae HO
   simp only[I.sub,Option.some.injEq]at ae;subst ae
   have aO:=fE (q:=[]) rfl (.inl HO)
   exact⟨_,none,rfl,rfl,((ay.bM aO).1 (h.cj n)).1⟩
 |const v=>
  simp only[cv,Option.map_eq_some_iff]at bL
  obtain⟨av,l6,rfl⟩:=bL
  refine⟨xX l6,?_⟩
  simp only[az,Act.eval]
  unfold u6 at l6
  split at l6<;>simp at l6<;>subst l6<;>rw[ay,an]<;>exact⟨rfl,rfl⟩
 |func g=>
  simp[cv]at bL;subst bL
  refine⟨rfl,?_⟩
  simp only[az,Act.eval]
  rw[ay]
  exact⟨#[],rfl,by rw[cL]⟩
 |global g=>simp[cv]at bL
def iV (w0:World) (X F:Nat→Prop) (S:Nat→Nat→Prop) (s:aj) (ao:Nat→Value) (w:World) (av:I) (v:Value):Prop:=
 (av.plain=true∧ay w F s ao av v (fun _=>False))∨
 (av.tree=true∧cA av v∧∃Sn,an w F av (bx v) Sn∧(∀b,Sn b→b<w.heap.size)∧(∀b,Sn b→¬F b)∧(∀u b,Sn b→¬S u b)∧(∀b,Sn b→X b∨w0.heap.size≤b))
def fin (s:aj) (dst:Option Nat) (av:I):aj:=match dst with
 |none=>s
 |some t=>if av.plain then cm s t av else cm (jt t s) t av
def nJ (ao:Nat→Value) (dst:Option Nat) (v:Value):Nat→Value:=match dst with
 |none=>ao
 |some t=>cm ao t v
theorem bb.fin (h:bb w0 F0 X F S s ao w) {av:I} {v:Value} (aG:iV w0 X F S s ao w av v) (dst:Option Nat):
  ∃aF,bb w0 F0 X F aF (ca.fin s dst av) (nJ ao dst v) w:=by
 cases dst with
 |none=>exact⟨S,h⟩
 |some t=>
  simp only[ca.fin,nJ]
  rcases aG with⟨ak,ae⟩|⟨aO,U,Sn,ab,ad,aB,aR,ba⟩
  ·rw[if_pos ak];exact⟨_,h.sH ak ae⟩
  ·split
   ·rename_i ak
    exact⟨_,h.sH ak ((ay.bM aO).2 ⟨U,an.plain _ _ _ _ ak ab⟩)⟩
   ·exact⟨_,h.Bi aO U ab ad aB (fun u b _ R=>aR u b R) ba⟩
def bV (s:aj):I→Option (I×aj)
 | .h x q=>match I.sub q (s x)with
   |some d=>if d.plain then none else some (d,cm (fO x s) x (I.put q d.b8 (s x)))
   |none=>none
 | .ak _ _=>none
 | .R _ _=>none
 | .fn _ _=>none
 | .hole=>none
 |d=>some (d,s)
def I.owner:I→Option Nat
 | .h x _=>some x
 |_=>none
def iv:Option Nat→I→I
 |some x,d=>bs x d
 |none,d=>d
theorem l7 (h:bb w0 F0 X F S s ao w) {av d:I} {s1:aj} {v:Value} (l6:av.plain=true) (aG:ay w F s ao av v (fun _=>False)) (aO:bV s av=some (d,s1)):
  ∃bo,bb w0 F0 X F bo s1 ao w∧d.tree=true∧cA d v∧∃Sn,an w F d (bx v) Sn∧(∀b,Sn b→b<w.heap.size)∧(∀b,Sn b→¬F b)∧(∀u b,Sn b→¬bo u b)∧(∀b,Sn b→X b∨w0.heap.size≤b)∧
   (∀u b,bo u b→S u b)∧(∀b,Sn b→∃u,S u b)∧(∀(aY:I) (eo:Value) (aF:Nat→Prop),ay w F s ao aY eo aF→ay w F s1 ao (iv av.owner aY) eo aF):=by
 have tree:∀d:I,d.tree=true→d.plain=true→ay w F s ao d v (fun _=>False)→
   ∃bo,bb w0 F0 X F bo s ao w∧d.tree=true∧cA d v∧∃Sn,an w F d (bx v) Sn∧(∀b,Sn b→b<w.heap.size)∧(∀b,Sn b→¬F b)∧(∀u b,Sn b→¬bo u b)∧(∀b,Sn b→X b∨w0.heap.size≤b)∧
    (∀u b,bo u b→S u b)∧(∀b,Sn b→∃u,S u b):=by
  intro d ae _ aS
  have aS:=(ay.bM ae).1 aS
  exact⟨S,h,ae,aS.1,_,aS.2,fun _ h=>h.elim,fun _ h=>h.elim,fun _ _ h=>h.elim,fun _ h=>h.elim,fun _ _ h=>h,fun _ h=>h.elim⟩
 cases av with
 |h x q=>
  simp only[bV]at aO
  split at aO
  ·rename_i e he
   split at aO
   ·cases aO
   ·rename_i ak
    simp only[Option.some.injEq,Prod.mk.injEq]at aO
    obtain⟨rfl,rfl⟩:=aO
    have ak:e.plain=false:=by simpa using ak
    obtain⟨Sn,dz,bR,bU,eF,cd,fj,dt,e9,fk,gB⟩:=h.take he ak
    rw[ay]at aG
    obtain⟨abc,a2,g1,g2,g3⟩:=aG e he ak
    rw[cd]at g1
    simp only[Option.some.injEq,Prod.mk.injEq,true_and]at g1
    obtain⟨rfl,rfl⟩:=g1
    have xY:e.tree=true:=by cases e<;>first|rfl|(simp[I.plain]at ak)
    refine⟨_,eF,xY,g3,dz,by rw[g2];exact fj,fun b R=>h.de x b (dt b R),fun b R=>h.dY x b (dt b R),?_,fun b R=>h.cE x b (dt b R),?_,fun b R=>⟨x,dt b R⟩,gB⟩
    ·intro u b R hu
     simp only[eH]at hu
     split at hu
     ·exact fk b R hu
     ·rename_i u7;exact h.dA u x b u7 hu (dt b R)
    ·intro u b hu
     simp only[eH]at hu
     split at hu
     ·rename_i e;subst e;exact e9 b hu
     ·exact hu
  ·cases aO
 |ak x q=>simp[bV]at aO
 |R x q=>simp[bV]at aO
 |fn f c=>simp[bV]at aO
 |hole=>simp[bV]at aO
 |aE sz xs=>simp[I.plain]at l6
 |a_ d=>simp[I.plain]at l6
 |_=>
  simp only[bV,Option.some.injEq,Prod.mk.injEq]at aO
  obtain⟨rfl,rfl⟩:=aO
  obtain⟨bo,t1,t2,t3,Sn,t4,t5,t6,t7,t8,t9,t10⟩:=tree _ rfl l6 aG
  exact⟨bo,t1,t2,t3,Sn,t4,t5,t6,t7,t8,t9,t10,fun _ _ _ h=>h⟩
def loc (s:aj):I→Option (Nat×List Nat)
 | .h x q=>match I.sub q (s x)with
   |some (.a_ _)=>some (x,q++[0])
   |_=>none
 | .ak x q=>if I.dL q (s x)then some (x,q)else none
 |_=>none
theorem sN:∀(q:List Nat) (av d:I) (r:List Nat),I.sub q av=some d→I.sub (q++r) av=I.sub r d:=by
 intro q
 induction q with
 |nil=>intro av d r h;simp[I.sub]at h;subst h;rfl
 |cons k q ih=>
  intro av d r h
  cases av with
  |agg ag=>
   simp only[I.sub,List.cons_append]at h⊢
   split at h
   ·rename_i x aq;exact ih _ _ _ h
   ·cases h
  |tuple ag=>
   simp only[I.sub,List.cons_append]at h⊢
   split at h
   ·rename_i x aq;exact ih _ _ _ h
   ·cases h
  |aE sz ag=>
   simp only[I.sub,List.cons_append]at h⊢
   split at h
   ·rename_i x aq;exact ih _ _ _ h
   ·cases h
  |a_ x=>
   cases k with
   |zero=>simp only[I.sub,List.cons_append]at h⊢;exact ih _ _ _ h
   |succ k=>simp[I.sub]at h
  |_=>simp[I.sub]at h
theorem HP:∀(q:List Nat) (av d:I) (r:List Nat),I.sub q av=some d→I.dL (q++r) av=(I.dL q av||I.dL r d):=by
 intro q
 induction q with
 |nil=>intro av d r h;simp[I.sub]at h;subst h;simp[I.dL]
 |cons k q ih=>
  intro av d r h
  cases av with
  |agg ag=>
   simp only[I.sub]at h
   split at h
   ·rename_i x aq
    simp only[I.dL,List.cons_append,aq]
    exact ih _ _ r h
   ·cases h
  |tuple ag=>
   simp only[I.sub]at h
   split at h
   ·rename_i x aq
    simp only[I.dL,List.cons_append,aq]
    exact ih _ _ r h
   ·cases h
  |aE sz ag=>simp[I.dL]
  |a_ x=>simp[I.dL]
  |_=>simp[I.sub]at h
theorem sO (w:World):∀(q:List Nat) (av d:I) (cs bR:List Value) (a bU:Option (Nat×Nat)) (r:List Nat),cg w q av cs a=some (d,bR,bU)→cg w (q++r) av cs a=cg w r d bR bU:=by
 intro q
 induction q with
 |nil=>intro av d cs bR a bU r h;simp[cg]at h;obtain⟨rfl,rfl,rfl⟩:=h;rfl
 |cons k q ih=>
  intro av d cs bR a bU r h
  cases av with
  |agg ag=>
   rw[List.cons_append]
   rw[cg]at h⊢
   split at h
   ·rename_i x aq;exact ih _ _ _ _ _ _ _ h
   ·cases h
  |tuple ag=>
   rw[List.cons_append]
   rw[cg]at h⊢
   split at h
   ·rename_i x aq;exact ih _ _ _ _ _ _ _ h
   ·cases h
  |aE sz ag=>
   rw[List.cons_append]
   rw[cg.eq_def]at h⊢
   simp only at h⊢
   split at h
   ·exact ih _ _ _ _ _ _ _ h
   ·cases h
  |a_ x=>
   cases k with
   |zero=>
    rw[List.cons_append]
    rw[cg.eq_def]at h⊢
    simp only at h⊢
    split at h
    ·exact ih _ _ _ _ _ _ _ h
    ·cases h
   |succ k=>rw[show cg w ((k+1)::q) (.a_ x) cs a=none from rfl]at h;cases h
  |_=>simp[cg]at h
end
def eC.ok (x:eC):Bool:=match x.k with
 | .other=>false
 |_=>true
theorem bt.dn.info {C:bt} (aU:C.dn) {t:TypeId} (h:(C.T t).ok=true):
  ∃i d z,C.P.info? t=some i∧i.size=(C.T t).sz∧i.bytes=(C.T t).bytes∧i.zero=some z∧(∀cs,flat (C.T t).zero=some cs→z.cells=cs.toArray)∧C.P.underlying t=some d∧iU (C.T t).k d:=by
 rcases aU.ty t with⟨e,n,b,z,aq,_⟩|aS
 ·rw[aq]at h;simp[eC.ok]at h
 ·exact aS
theorem eg {x:eC} {k:kP} (h:x.k=k) (al:k≠.other):x.ok=true:=by
 unfold eC.ok;rw[h];cases k<;>first|rfl|exact(al rfl).elim
theorem sP {d:TypeDesc} {ag:List (TypeId×Nat)} (h:iU (.struct ag) d):∃gs,d= .struct gs∧gs.toList.map (fun g=>(g.type,g.offset))=ag:=by
 cases d<;>simp[iU]at h
 exact⟨_,rfl,h⟩
theorem iW {d:TypeDesc} {e:TypeId} (h:iU (.slice e) d):d= .slice e:=by
 cases d<;>simp[iU]at h
 rw[h]
theorem sQ {d:TypeDesc} {k:IntKind} (h:iU (.int k) d):d= .int k:=by
 cases d<;>simp[iU]at h
 rw[h]
theorem mK {d:TypeDesc} (h:iU .str d):d= .string:=by
 cases d<;>simp[iU]at h
 rfl
theorem xZ {d:TypeDesc} (h:iU .bool d):d= .bool:=by
 cases d<;>simp[iU]at h
 rfl
theorem Bp {d:TypeDesc} {e:TypeId} (h:iU (.ptr e) d):d= .pointer e:=by
 cases d<;>simp[iU]at h
 rw[h]
theorem eU {v:Value} (h:Value.eO v=true):bx v=[v]:=by
 cases v<;>first|rfl|(simp[Value.eO]at h)
theorem pz {P:Program} {t:TypeId} {i:TypeInfo} (h:P.info? t=some i) (w:World):(typeInfo t).run P w= .ok i w:=by simp[typeInfo,h]
theorem hR {P:Program} {t:TypeId} {i:TypeInfo} (h:P.info? t=some i) (w:World):(Go.sizeOf t).run P w= .ok i.size w:=by simp[Go.sizeOf,pz h]
theorem pA {P:Program} {t:TypeId} {i:TypeInfo} {z:Value} (h:P.info? t=some i) (bp:i.zero=some z) (w:World):(zeroValue t).run P w= .ok z w:=by simp[zeroValue,pz h,bp]
section
variable {C:bt} {w0 w:World} {F0 X F:Nat→Prop} {S:Nat→Nat→Prop} {s s1:aj} {ao:Nat→Value} {av:I}
def Good (C:bt) (w0:World) (F0 X:Nat→Prop) (ao:Nat→Value) (w:World) (m:Sem Value) (av:I) (s1:aj):Prop:=
 ∃v aw bf aF,m.run C.P w= .ok v aw∧bb w0 F0 X bf aF s1 ao aw∧iV w0 X bf aF s1 ao aw av v
theorem Good.same (h:bb w0 F0 X F S s ao w) {m:Sem Value} {v:Value} (aD:m.run C.P w= .ok v w) (ak:av.plain=true) (aG:ay w F s ao av v (fun _=>False)):Good C w0 F0 X ao w m av s:=
 ⟨v,w,F,S,aD,h,.inl ⟨ak,aG⟩⟩
theorem x0 (_h:bb w0 F0 X F S s ao w) {x:I} {v:Value} (aG:ay w F s ao x v (fun _=>False)) {y:Nat} {q:List Nat} (hl:loc s x=some (y,q)) {d:I} (ae:I.sub q (s y)=some d):
  I.dL q (s y)=true∧∃bR b o,v= .pointer (some ⟨b,o,none⟩)∧cg w q (s y) (bx (ao y)) none=some (d,bR,some (b,o)):=by
 cases x with
 |h z da=>
  simp only[loc]at hl
  split at hl
  ·rename_i e he
   simp only[Option.some.injEq,Prod.mk.injEq]at hl
   obtain⟨rfl,rfl⟩:=hl
   rw[ay]at aG
   obtain⟨bR,a,g1,g2,g3⟩:=aG _ he rfl
   have e6:e=d:=by
    rw[sN _ _ _ _ he]at ae
    simpa [I.sub]using ae
   subst e6
   refine⟨by rw[HP _ _ _ _ he];simp[I.dL],?_⟩
   have ab:Value.eO v=true:=g3
   rw[eU ab]at g2
   subst g2
   have h6:=sO w da (s z) _ _ _ none a [0] g1
   have aq:=_h.cj z
   rw[ay.bM (fE he (.inl rfl))]at aq
   obtain⟨ed,bU,cQ,dz,k0,bz,bK,df,cx,dB⟩:=ctx da (s z) (bx (ao z)) (S z) none _ aq.2 he
   rw[k0]at g1
   simp only[Option.some.injEq,Prod.mk.injEq,true_and]at g1
   obtain⟨rfl,rfl⟩:=g1
   rw[an]at cx
   obtain⟨b,cur,aJ,fr,cu,aK,_⟩:=cx
   simp only[List.cons.injEq,and_true]at aK
   subst aK
   exact⟨_,b,0,rfl,by rw[h6];rfl⟩
  ·cases hl
 |ak z da=>
  simp only[loc]at hl
  split at hl
  ·rename_i ai
   simp only[Option.some.injEq,Prod.mk.injEq]at hl
   obtain⟨rfl,rfl⟩:=hl
   rw[ay]at aG
   obtain⟨bR,b,o,g1,g2⟩:=aG _ ae ai
   exact⟨ai,bR,b,o,g2,g1⟩
  ·cases hl
 |_=>simp[loc]at hl
def ev (C:bt) (s:aj) (T:TypeId) (x:I) (k:Nat):Option I:=
 match(C.T T).k with
 | .struct ag=>match ag[k]? with
   |some (hn,off)=>if(C.T hn).ok=true∧(C.T hn).sz≠0 then
     match x with
     | .ref (.agg ds)=>match ds[k]? with
       |some d=>if I.cO (ds.take k)=off then some (.ref d)else none
       |none=>none
     | .R y o=>if(s y).plain then none else some (.R y (o+off))
     |x=>match loc s x with
      |some (y,q)=>match I.sub q (s y)with
       |some (.agg ds)=>if k<ds.length∧I.cO (ds.take k)=off then some (.ak y (q++[k]))else none
       |_=>none
      |none=>none
    else none
   |none=>none
 |_=>none
theorem fA.x1 {w:World} {b o:Nat} {bJ eb c2:List Value} (h:fA w b o (bJ++(eb++c2))):fA w b (o+bJ.length) eb:=by
 intro j c b2
 have c_:j<eb.length:=(List.getElem?_eq_some_iff.1 b2).1
 have:=h (bJ.length+j) c (by rw[List.getElem?_append_right (by omega),List.getElem?_append_left (by omega),←b2];congr 1;omega)
 rw[Nat.add_assoc];exact this
theorem x2 (aU:C.dn) {T hn:TypeId} {ag:List (TypeId×Nat)} {k off:Nat} (al:(C.T T).k= .struct ag) (bk:ag[k]? =some (hn,off)) (ab:(C.T hn).ok=true) (ad:(C.T hn).sz≠0) (b o:Nat) (w:World):
  (Instr.fieldAt T (.pointer (some ⟨b,o,none⟩)) k).run C.P w= .ok (.pointer (some ⟨b,o+off,none⟩)) w:=by
 obtain⟨i,d,z,aH,aJ,aK,b0,b_,bw,bn⟩:=aU.info (eg al (by simp))
 rw[al]at bn
 obtain⟨gs,rfl,gC⟩:=sP bn
 obtain⟨nK,aY,mL,f1,f2,f3,f4,f5,f6,f7⟩:=aU.info ab
 have hg:∃g,gs[k]? =some g∧g.type=hn∧g.offset=off:=by
  rw[←gC,List.getElem?_map]at bk
  simp only[Option.map_eq_some_iff,Prod.mk.injEq]at bk
  obtain⟨g,ab,ad,aB⟩:=bk
  exact⟨g,by simpa using ab,ad,aB⟩
 obtain⟨g,g1,rfl,rfl⟩:=hg
 simp[Instr.fieldAt,run_underlying bw,g1,Instr.sureAddr,fieldPlace,hR f1,f2,ad,Addr.add_lit]
theorem HQ (aU:C.dn) (h:bb w0 F0 X F S s ao w) {T:TypeId} {x:I} {v:Value} {k:Nat} (aq:x.plain=true) (aG:ay w F s ao x v (fun _=>False)) (he:ev C s T x k=some av):
  Good C w0 F0 X ao w (Instr.fieldAt T v k) av s:=by
 unfold ev at he
 split at he
 ·rename_i ag al
  split at he
  ·rename_i hn off bk
   split at he
   ·rename_i qQ
    split at he
    ·rename_i ds
     split at he
     ·rename_i d ae
      split at he
      ·rename_i mM
       simp only[Option.some.injEq]at he;subst he
       have iX:=(ay.bM rfl).1 aG
       rw[an]at iX
       obtain⟨U,b,o,cU,ab,ad,aB,aR⟩:=iX
       rw[eU U]at ab
       simp only[List.cons.injEq,and_true]at ab;subst ab
       rw[an]at aR
       obtain⟨bJ,eb,c2,bo,fC,rfl,ft,ee,e7,fX,en,jN⟩:=aN.pick ds _ _ k d aR ae
       refine Good.same h (x2 aU al bk qQ.1 qQ.2 b o w) rfl ((ay.bM rfl).2 ⟨rfl,?_⟩)
       rw[an]
       refine⟨b,o+off,eb,rfl,ad,?_,an.mono (fun _ h=>h) _ _ _ _ (fun b R=>e7 b R) en⟩
       rw[←mM,←ft];exact aB.x1
      ·cases he
     ·cases he
    ·rename_i y o
     split at he
     ·cases he
     ·rename_i ak
      simp only[Option.some.injEq]at he;subst he
      rw[ay]at aG
      obtain⟨b,cur,e,fr,rfl,ad,aB,aR⟩:=aG (by simpa using ak)
      refine Good.same h (x2 aU al bk qQ.1 qQ.2 b o w) rfl ?_
      rw[ay]
      exact fun _=>⟨b,cur,e,fr,rfl,ad,aB,aR⟩
    ·rename_i x _ _
     split at he
     ·rename_i y q hl
      split at he
      ·rename_i ds ae
       split at he
       ·rename_i mM
        simp only[Option.some.injEq]at he;subst he
        obtain⟨ai,bR,b,o,rfl,h6⟩:=x0 h aG hl ae
        refine Good.same h (x2 aU al bk qQ.1 qQ.2 b o w) rfl ?_
        rw[ay]
        intro d2 e8 pB
        rw[sO w q _ _ _ _ _ _ [k] h6]
        rw[sN _ _ _ _ ae]at e8
        have ox:∃d3,ds[k]? =some d3:=⟨_,List.getElem?_eq_getElem mM.1⟩
        obtain⟨d3,sR⟩:=ox
        simp only[I.sub,sR,Option.some.injEq]at e8
        subst e8
        simp only[cg,sR]
        refine⟨(bR.drop off).take d3.wd,b,o+off,?_,rfl⟩
        rw[mM.2];rfl
       ·cases he
      ·cases he
     ·cases he
   ·cases he
  ·cases he
 ·cases he
def eI (C:bt) (s:aj) (T:TypeId) (x i:I):Option I:=
 match(C.T T).k,i with
 | .slice e,.int _ n=>if 0≤n∧(C.T e).ok=true then
   match x with
   | .slice xs=>match xs[n.toNat]? with
     |some d=>if d.wd=(C.T e).sz then some (.ref d)else none
     |none=>none
   | .h y q=>match I.sub q (s y)with
     |some (.aE sz xs)=>if n.toNat<xs.length∧sz=(C.T e).sz then some (.ak y (q++[n.toNat]))else none
     |_=>none
   |_=>none
   else none
 |_,_=>none
theorem Bq (aU:C.dn) {T e:TypeId} (al:(C.T T).k= .slice e) (he:(C.T e).ok=true) (b o len cap:Nat) (k:IntKind) (n:Nat) (aW:n<len) (w:World):
  (Instr.indexAt T (.slice (some ⟨b,o,none⟩) len cap) (.int k n)).run C.P w= .ok (.pointer (some ⟨b,o+n*(C.T e).sz,none⟩)) w:=by
 obtain⟨i,d,z,aH,aJ,aK,b0,b_,bw,bn⟩:=aU.info (eg al (by simp))
 rw[al]at bn
 have:=iW bn;subst this
 obtain⟨nK,aY,mL,f1,f2,f3,f4,f5,f6,f7⟩:=aU.info he
 simp[Instr.indexAt,run_underlying bw,asIntOf,aW,hR f1,f2,Addr.add_lit]
theorem HR (aU:C.dn) (h:bb w0 F0 X F S s ao w) {T:TypeId} {x i:I} {v lA:Value} (aG:ay w F s ao x v (fun _=>False)) (HS:ay w F s ao i lA (fun _=>False))
  (he:eI C s T x i=some av):Good C w0 F0 X ao w (Instr.indexAt T v lA) av s:=by
 unfold eI at he
 split at he
 ·rename_i e k n al
  have x3:=(ay.bM rfl).1 HS
  rw[an,eU x3.1]at x3
  have:lA= .int k n:=by simpa using x3.2
  subst this
  split at he
  ·rename_i aW
   obtain⟨n,rfl⟩:=Int.eq_ofNat_of_zero_le aW.1
   simp only[Int.toNat_natCast]at he
   split at he
   ·rename_i xs
    split at he
    ·rename_i d ae
     split at he
     ·rename_i hw
      simp only[Option.some.injEq]at he;subst he
      have iX:=(ay.bM rfl).1 aG
      rw[an,eU iX.1]at iX
      obtain⟨U,⟨rfl,_⟩|⟨b,o,cap,cU,sz,ab,ad,aB,aR,ba,bu,bE⟩⟩:=iX
      ·simp at ae
      ·simp only[List.cons.injEq,and_true]at ab;subst ab
       have c_:n<xs.length:=(List.getElem?_eq_some_iff.1 ae).1
       obtain⟨bJ,eb,c2,bo,fC,rfl,ft,ee,e7,fX,en,jN⟩:=aN.pick xs _ _ n d bE ae
       refine Good.same h (Bq aU al aW.2 b o _ _ k n c_ w) rfl ((ay.bM rfl).2 ⟨rfl,?_⟩)
       rw[an]
       refine⟨b,_,eb,rfl,ad,?_,an.mono (fun _ h=>h) _ _ _ _ (fun b R=>e7 b R) en⟩
       have HT:=ba d (List.mem_of_getElem? ae)
       have:n*(C.T e).sz=bJ.length:=by
        rw[ft,pt _ (fun d ae=>ba d (List.mem_of_mem_take ae)),List.length_take,Nat.min_eq_left (by omega),←hw,HT]
       rw[this];exact bu.x1
     ·cases he
    ·cases he
   ·rename_i y q
    split at he
    ·rename_i sz xs ae
     split at he
     ·rename_i hw
      simp only[Option.some.injEq]at he;subst he
      rw[ay]at aG
      obtain⟨bR,a,g1,g2,g3⟩:=aG _ ae rfl
      have U:Value.eO v=true:=g3
      rw[eU U]at g2;subst g2
      have aq:=h.cj y
      rw[ay.bM (fE ae (.inl rfl))]at aq
      obtain⟨ed,bU,cQ,dz,k0,bz,bK,df,cx,dB⟩:=ctx q (s y) (bx (ao y)) (S y) none _ aq.2 ae
      rw[k0]at g1
      simp only[Option.some.injEq,Prod.mk.injEq,true_and]at g1
      obtain⟨rfl,rfl⟩:=g1
      rw[an]at cx
      rcases cx with⟨rfl,_⟩|⟨b,cap,cur,aJ,fr,cu,aK,_⟩
      ·simp at hw
      ·simp only[List.cons.injEq,and_true]at aK;subst aK
       refine Good.same h (Bq aU al aW.2 b 0 _ _ k n hw.1 w) rfl ?_
       rw[ay]
       intro d2 e8 _
       rw[sO w q _ _ _ _ _ _ [n] k0]
       rw[sN _ _ _ _ ae]at e8
       obtain⟨d3,sR⟩:∃d3,xs[n]? =some d3:=⟨_,List.getElem?_eq_getElem hw.1⟩
       simp only[I.sub,sR,Option.some.injEq]at e8
       subst e8
       simp only[cg,sR]
       exact⟨_,b,n*sz,rfl,by simp[hw.2]⟩
     ·cases he
    ·cases he
   ·cases he
  ·cases he
 ·cases he
end
section
variable {C:bt} {w0 w:World} {F0 X F:Nat→Prop} {S:Nat→Nat→Prop} {s s1:aj} {ao:Nat→Value} {av:I}
theorem Br (aU:C.dn) {T:TypeId} {ag:List (TypeId×Nat)} (al:(C.T T).k= .struct ag) (w:World):(isAgg T).run C.P w= .ok true w:=by
 obtain⟨i,d,z,aH,aJ,aK,b0,b_,bw,bn⟩:=aU.info (eg al (by simp))
 rw[al]at bn
 obtain⟨gs,rfl,_⟩:=sP bn
 simp[isAgg,run_underlying bw]
def eC.flat (x:eC):Bool:=match x.k with
 | .other=>false
 | .dR _=>false
 | .struct _=>false
 |_=>true
theorem Bs {x:eC} (h:x.flat=true):x.ok=true:=by
 unfold eC.flat at h;unfold eC.ok;revert h;cases x.k<;>simp
theorem x4 (aU:C.dn) {T:TypeId} (al:(C.T T).flat=true) (w:World):(isAgg T).run C.P w= .ok false w:=by
 obtain⟨i,d,z,aH,aJ,aK,b0,b_,bw,bn⟩:=aU.info (Bs al)
 have cI:(∀ag,d≠.struct ag)∧(∀n e,d≠.array n e):=by
  clear bw
  unfold eC.flat at al
  generalize (C.T T).k=iY at*
  cases iY<;>cases d<;>simp[iU]at bn al⊢
 cases d<;>first|exact(cI.1 _ rfl).elim|exact(cI.2 _ _ rfl).elim|simp[isAgg,run_underlying bw]
theorem fA.one {w:World} {b o:Nat} {v:Value} (h:fA w b o [v]):w.cell? ⟨b,o,none⟩=some v:=by simpa using h 0 v rfl
theorem Bt {P:Program} {b o:Nat}:∀(cs:List Value) (i:Nat) (acc:Array Value),fA w b (o+i) cs→(loadCellsFrom ⟨b,o,none⟩ i cs.length acc).run P w= .ok (acc++cs.toArray) w
 |[],i,acc,_=>by simp[loadCellsFrom]
 |c::cs,i,acc,h=>by
  have bm:w.cell? ⟨b,o+i,none⟩=some c:=by simpa using h 0 c rfl
  have ab:fA w b (o+(i+1)) cs:=by
   intro j x b2
   have:=h (j+1) x (by simpa using b2)
   rw[←this];congr 2;omega
  have ih:=Bt (P:=P) cs (i+1) (acc.push c) ab
  simp only[List.length_cons,loadCellsFrom,Sem.run_bind,Go.load,Sem.run,Addr.add_lit,bm,Result.andThen]
  rw[ih];simp
theorem HU (aU:C.dn) {T:TypeId} {ag:List (TypeId×Nat)} (al:(C.T T).k= .struct ag) {b o:Nat} {cs:List Value} (h:fA w b o cs) (hl:cs.length=(C.T T).sz):
  (loadVar T ⟨b,o,none⟩).run C.P w= .ok (.agg cs.toArray) w:=by
 obtain⟨i,d,z,aH,aJ,aK,b0,b_,bw,bn⟩:=aU.info (eg al (by simp))
 have:=Bt (P:=C.P) (b:=b) (o:=o) cs 0 #[] (by simpa using h)
 simp only[loadVar,Sem.run_bind,Br aU al,Result.andThen,if_true,hR aH,aJ,←hl,loadCells,this]
 simp
theorem Bu (aU:C.dn) {T:TypeId} (al:(C.T T).flat=true) {b o:Nat} {v:Value} (h:fA w b o [v]):
  (loadVar T ⟨b,o,none⟩).run C.P w= .ok v w:=by
 simp[loadVar,x4 aU al,Go.load,Sem.run,h.one]
def fits (C:bt) (T:TypeId) (d:I):Bool:=match(C.T T).k,d with
    | .struct _,.agg ds=>I.cO ds==(C.T T).sz
    | .struct _,_=>false
    |_,.agg _=>false
    |_,.tuple _=>false
    |_,_=>(C.T T).flat
def Bv:List I→Nat→Nat→Option Nat
 |[],_,_=>none
 |d::ds,i,k=>if k=0 then some i else if d.wd≤k then Bv ds (i+1) (k-d.wd)else none
def dh (C:bt) (s:aj) (T:TypeId) (x:I):Option I:=
 match x with
 | .ref d=>if fits C T d=true then some d else none
 | .R y k=>match s y with
   | .agg ds=>if I.ef ds then none else match Bv ds 0 k with
     |some i=>match ds[i]? with
      |some d=>if I.cO (ds.take i)=k∧fits C T d=true then some (if d.plain then d else .h y [i])else none
      |none=>none
     |none=>none
   |_=>none
 |x=>match loc s x with
  |some (y,q)=>match I.sub q (s y)with
   |some d=>if fits C T d=true then some (if d.plain then d else .h y q)else none
   |none=>none
  |none=>none
theorem an.one {F:Nat→Prop} {d:I} {cs:List Value} {S:Nat→Prop} (h:an w F d cs S) (ab:∀ag,d≠.agg ag) (ad:∀ag,d≠.tuple ag):∃v,cs=[v]∧Value.eO v=true:=by
 cases d with
 |hole=>rw[an]at h;obtain⟨v,h,rfl⟩:=h;exact⟨v,rfl,h⟩
 |dk=>rw[an]at h;obtain⟨v,rfl⟩:=h;exact⟨_,rfl,rfl⟩
 |slice xs=>rw[an]at h;rcases h with⟨_,a,c,rfl,_⟩|⟨b,o,cap,cU,sz,rfl,_⟩<;>exact⟨_,rfl,rfl⟩
 |aE sz xs=>rw[an]at h;rcases h with⟨_,_,rfl⟩|⟨b,cap,cur,e,fr,cE,rfl,_⟩<;>exact⟨_,rfl,rfl⟩
 |ref d=>rw[an]at h;obtain⟨b,o,cU,rfl,_⟩:=h;exact⟨_,rfl,rfl⟩
 |a_ d=>rw[an]at h;obtain⟨b,cur,e,fr,cE,rfl,_⟩:=h;exact⟨_,rfl,rfl⟩
 |agg ag=>exact(ab _ rfl).elim
 |tuple ag=>exact(ad _ rfl).elim
 |fn _ _=>rw[an]at h;obtain⟨arr,rfl,_⟩:=h;exact⟨_,rfl,rfl⟩
 |h _ _=>rw[an]at h;exact h.elim
 |ak _ _=>rw[an]at h;exact h.elim
 |R _ _=>rw[an]at h;exact h.elim
 |cH _=>rw[an]at h;obtain⟨v,eR,rfl⟩:=jr.one h;exact⟨v,rfl,eR⟩
 |_=>rw[an]at h;subst h;exact⟨_,rfl,rfl⟩
theorem I.u9 {d:I} (h:d.single=true):(∀ag,d≠.agg ag)∧∀ag,d≠.tuple ag:=
 ⟨fun ag e=>(by subst e;cases h),fun ag e=>(by subst e;cases h)⟩
theorem ay.l8 {F:Nat→Prop} {s:aj} {ao:Nat→Value} {d:I} {v:Value} (aO:d.tree=true) (U:d.single=true) (h:an w F d [v] (fun _=>False)):ay w F s ao d v (fun _=>False):=by
 obtain⟨eo,e,ab⟩:=an.one h (I.u9 U).1 (I.u9 U).2
 have:v=eo:=by simpa using e
 subst this
 refine(ay.bM aO).2 ⟨?_,by rw[eU ab];exact h⟩
 cases d<;>first|exact ab|cases U
mutual
theorem ay.mN {F:Nat→Prop} {s:aj} {ao:Nat→Value}:∀(d:I) (v:Value),d.single=true→an w F d [v] (fun _=>False)→ay w F s ao d v (fun _=>False)
 | .fn f caps,v,_,h=>by
   rw[an]at h
   obtain⟨arr,ab,ad,aB⟩:=h
   rw[ay]
   exact⟨arr,by simpa using ab,cL.mN caps _ ad aB⟩
 | .bool b,v,U,h=>ay.l8 rfl U h
 | .dk,v,U,h=>ay.l8 rfl U h
 | .int k n,v,U,h=>ay.l8 rfl U h
 | .str x,v,U,h=>ay.l8 rfl U h
 | .ct,v,U,h=>ay.l8 rfl U h
 | .bD,v,U,h=>ay.l8 rfl U h
 | .slice xs,v,U,h=>ay.l8 rfl U h
 | .aE sz xs,v,U,h=>ay.l8 rfl U h
 | .ref d,v,U,h=>ay.l8 rfl U h
 | .a_ d,v,U,h=>ay.l8 rfl U h
 | .h _ _,v,_,h=>by rw[an]at h;exact h.elim
 | .ak _ _,v,_,h=>by rw[an]at h;exact h.elim
 | .R _ _,v,_,h=>by rw[an]at h;exact h.elim
 | .cH _,v,U,h=>ay.l8 rfl U h
theorem cL.mN {F:Nat→Prop} {s:aj} {ao:Nat→Value}:∀(ds:List I) (vs:List Value),(∀d∈ds,d.single=true)→aN w F ds vs (fun _=>False)→cL w F s ao ds vs
 |[],vs,_,h=>by rw[aN]at h;rw[cL];exact h
 |d::ds,vs,U,h=>by
  rw[aN]at h
  obtain⟨bJ,c2,bo,cu,rfl,ad,aB,aR,ba,_⟩:=h
  have ae:=U d (by simp)
  obtain⟨v,rfl,_⟩:=an.one ad (I.u9 ae).1 (I.u9 ae).2
  rw[cL]
  exact⟨v,c2,rfl,ay.mN d v ae (an.mono (fun _ h=>h) _ _ _ _ (fun b R=>aR b R) ad),cL.mN ds c2 (fun x aq=>U x (by simp[aq])) (aN.mono (fun _ h=>h) _ _ _ _ (fun b R=>ba b R) aB)⟩
end
theorem u_ (aU:C.dn) {T:TypeId} {d:I} {b o:Nat} {cs:List Value} {S:Nat→Prop} (h:fA w b o cs) (ae:an w F d cs S)
  (fP:fits C T d=true):
  ∃v,(loadVar T ⟨b,o,none⟩).run C.P w= .ok v w∧bx v=cs∧cA d v:=by
 unfold fits at fP
 by_cases U:∃ag,(C.T T).k= .struct ag
 ·obtain⟨ag,al⟩:=U
  rw[al]at fP
  cases d with
  |agg ds=>
   simp only[beq_iff_eq]at fP
   refine⟨_,HU aU al h ((an.length _ _ _ ae).trans fP),rfl,⟨_,rfl⟩⟩
  |_=>simp at fP
 ·have gP:(C.T T).flat=true∧(∀ag,d≠.agg ag)∧(∀ag,d≠.tuple ag):=by
   revert fP U
   cases al:(C.T T).k<;>cases d<;>simp
  obtain⟨v,rfl,ab⟩:=an.one ae gP.2.1 gP.2.2
  refine⟨v,Bu aU gP.1 h,eU ab,?_⟩
  cases d<;>first|exact ab|exact(gP.2.1 _ rfl).elim|exact(gP.2.2 _ rfl).elim
theorem HV (aU:C.dn) {T:TypeId} {d:I} {off:Nat} {arr:Array Value} {bJ cs c2:List Value} {S:Nat→Prop} (he:arr.toList=bJ++(cs++c2)) (bL:bJ.length=off) (ae:an w F d cs S)
  (fP:fits C T d=true):
  ∃v,(part T arr off).run C.P w= .ok v w∧bx v=cs∧cA d v:=by
 unfold fits at fP
 by_cases U:∃ag,(C.T T).k= .struct ag
 ·obtain⟨ag,al⟩:=U
  rw[al]at fP
  cases d with
  |agg ds=>
   simp only[beq_iff_eq]at fP
   obtain⟨i,d,z,aH,aJ,aK,b0,b_,bw,bn⟩:=aU.info (eg al (by simp))
   have hl:cs.length=(C.T T).sz:=(an.length _ _ _ ae).trans fP
   have aq:(arr.extract off (off+(C.T T).sz)).toList=cs:=by
    rw[Array.toList_extract,he,List.extract_eq_take_drop,←hl,←bL,Nat.add_sub_cancel_left,List.drop_left,List.take_left]
   refine⟨.agg (arr.extract off (off+(C.T T).sz)),?_,by simpa [bx,fD]using aq,⟨_,rfl⟩⟩
   simp[part,Br aU al,hR aH,aJ]
  |_=>simp at fP
 ·have gP:(C.T T).flat=true∧(∀ag,d≠.agg ag)∧(∀ag,d≠.tuple ag):=by
   revert fP U
   cases al:(C.T T).k<;>cases d<;>simp
  obtain⟨v,rfl,ab⟩:=an.one ae gP.2.1 gP.2.2
  have hg:arr[off]? =some v:=by
   rw[←Array.getElem?_toList,he,←bL,List.getElem?_append_right (Nat.le_refl _)];simp
  refine⟨v,?_,eU ab,?_⟩
  ·simp[part,x4 aU gP.1,hg]
  ·cases d<;>first|exact ab|exact(gP.2.1 _ rfl).elim|exact(gP.2.2 _ rfl).elim
theorem HW (aU:C.dn) (h:bb w0 F0 X F S s ao w) {T:TypeId} {x:I} {v:Value} (aG:ay w F s ao x v (fun _=>False)) (he:dh C s T x=some av):
  Good C w0 F0 X ao w (Instr.loadAt T v) av s:=by
 unfold dh at he
 split at he
 ·rename_i d
  split at he
  ·rename_i fP
   simp only[Option.some.injEq]at he;subst he
   have iX:=(ay.bM rfl).1 aG
   rw[an,eU iX.1]at iX
   obtain⟨U,b,o,cU,ab,ad,aB,aR⟩:=iX
   simp only[List.cons.injEq,and_true]at ab;subst ab
   obtain⟨eo,aD,ai,kl⟩:=u_ aU aB aR fP
   have c1:(Instr.loadAt T (.pointer (some ⟨b,o,none⟩))).run C.P w= .ok eo w:=by simp[Instr.loadAt,Instr.sureAddr,aD]
   refine⟨eo,w,F,S,c1,h,?_⟩
   by_cases aO:d.tree=true
   ·exact .inr ⟨aO,kl,fun _=>False,by rw[ai];exact aR,fun _ h=>h.elim,fun _ h=>h.elim,fun _ _ h=>h.elim,fun _ h=>h.elim⟩
   ·cases d<;>first|exact(aO rfl).elim|(rw[an]at aR;exact aR.elim)|exact .inl ⟨rfl,by rw[ay];trivial⟩|(have ba:=aR;rw[an]at ba;obtain⟨arr,e,_⟩:=ba;rw[←ai]at e aR;rw[eU (by exact kl)]at aR;exact .inl ⟨rfl,ay.mN _ _ rfl aR⟩)
  ·cases he
 ·rename_i y k
  split at he
  ·rename_i ds kQ
   split at he
   ·cases he
   ·rename_i sS
    split at he
    ·rename_i i aA
     split at he
     ·rename_i d ae
      split at he
      ·rename_i fP
       simp only[Option.some.injEq]at he
       have fi:(s y).plain=false:=by rw[kQ];simp only[I.plain];simpa using sS
       rw[ay]at aG
       obtain⟨b,cur,e,fr,rfl,ad,aB,aR⟩:=aG fi
       have hy:=h.cj y
       rw[kQ]at hy
       have Bw:=((ay.bM rfl).1 hy).2
       rw[an]at Bw
       obtain⟨bJ,eb,c2,bo,fC,hS,ft,ee,e7,fX,en,jN⟩:=aN.pick ds _ _ i d Bw ae
       have ht:fA w b k eb:=by
        intro j c b2
        have c_:j<eb.length:=(List.getElem?_eq_some_iff.1 b2).1
        have:cur.toList[k+j]? =some c:=by
         rw[aR,hS,List.getElem?_append_right (by omega),List.getElem?_append_left (by omega),←b2];congr 1;omega
        simp[World.cell?,aB]
        simpa using this
       obtain⟨eo,aD,ai,kl⟩:=u_ aU ht en fP.2
       have c1:(Instr.loadAt T (.pointer (some ⟨b,k,none⟩))).run C.P w= .ok eo w:=by simp[Instr.loadAt,Instr.sureAddr,aD]
       refine⟨eo,w,F,S,c1,h,?_⟩
       split at he
       ·rename_i ak
        subst he
        by_cases aO:d.tree=true
        ·exact .inl ⟨ak,(ay.bM aO).2 ⟨kl,by rw[ai];exact an.plain _ _ _ _ ak en⟩⟩
        ·cases d<;>first|exact(aO rfl).elim|(rw[an]at en;exact en.elim)|exact .inl ⟨rfl,by rw[ay];trivial⟩|(have ba:=an.plain _ _ _ (fun _=>False) ak en;rw[←ai]at ba;rw[eU (by exact kl)]at ba;exact .inl ⟨rfl,ay.mN _ _ rfl ba⟩)
       ·subst he
        refine .inl ⟨rfl,?_⟩
        rw[ay]
        intro d2 e8 _
        rw[kQ]at e8⊢
        simp only[I.sub,ae,Option.some.injEq]at e8
        subst e8
        refine⟨eb,none,?_,ai,kl⟩
        simp only[cg,ae]
        rw[hS,pq bJ eb c2 _ _ ft (an.length _ _ _ en)]
        rfl
      ·cases he
     ·cases he
    ·cases he
  ·cases he
 ·rename_i x _ _
  split at he
  ·rename_i y q hl
   split at he
   ·rename_i d ae
    split at he
    ·rename_i fP
     simp only[Option.some.injEq]at he
     obtain⟨l9,bR,b,o,rfl,h6⟩:=x0 h aG hl ae
     have hy:=h.cj y
     rw[ay.bM (fE ae (.inr l9))]at hy
     obtain⟨ed,bU,cQ,dz,k0,bz,bK,df,cx,dB⟩:=ctx q (s y) (bx (ao y)) (S y) none _ hy.2 ae
     rw[k0]at h6
     simp only[Option.some.injEq,Prod.mk.injEq,true_and]at h6
     obtain⟨rfl,rfl⟩:=h6
     have ht:fA w b o ed:=by
      rcases dB with⟨l,r,aH,aJ,_⟩|⟨dQ,cur,e,fr,l,r,aH,aJ,aK,b0,b_,_⟩
      ·simp at aJ
      ·simp only[Option.some.injEq,Prod.mk.injEq]at aH
       obtain⟨rfl,rfl⟩:=aH
       intro j c b2
       have c_:j<ed.length:=(List.getElem?_eq_some_iff.1 b2).1
       have:cur.toList[l.length+j]? =some c:=by
        rw[b_,List.getElem?_append_right (by omega),List.getElem?_append_left (by omega),←b2];congr 1;omega
       simp[World.cell?,aK]
       simpa using this
     obtain⟨eo,aD,ai,kl⟩:=u_ aU ht cx fP
     have c1:(Instr.loadAt T (.pointer (some ⟨b,o,none⟩))).run C.P w= .ok eo w:=by simp[Instr.loadAt,Instr.sureAddr,aD]
     refine⟨eo,w,F,S,c1,h,?_⟩
     split at he
     ·rename_i ak
      subst he
      by_cases aO:d.tree=true
      ·exact .inl ⟨ak,(ay.bM aO).2 ⟨kl,by rw[ai];exact an.plain _ _ _ _ ak cx⟩⟩
      ·cases d<;>first|exact(aO rfl).elim|(rw[an]at cx;exact cx.elim)|exact .inl ⟨rfl,by rw[ay];trivial⟩|(have ba:=an.plain _ _ _ (fun _=>False) ak cx;rw[←ai]at ba;rw[eU (by exact kl)]at ba;exact .inl ⟨rfl,ay.mN _ _ rfl ba⟩)
     ·subst he
      refine .inl ⟨rfl,?_⟩
      rw[ay]
      intro d2 e8 _
      rw[ae]at e8
      simp only[Option.some.injEq]at e8
      subst e8
      exact⟨_,_,k0,ai,kl⟩
    ·cases he
   ·cases he
  ·cases he
mutual
theorem an.pC {F:Nat→Prop}:∀(d:I) (cs:List Value) (S:Nat→Prop),an w F d cs S→∀c∈cs,Value.eO c=true
 | .hole,cs,S,h=>by rw[an]at h;obtain⟨v,h,rfl⟩:=h;simpa using h
 | .bool _,cs,S,h=>by rw[an]at h;subst h;simp[Value.eO]
 | .dk,cs,S,h=>by rw[an]at h;obtain⟨b,rfl⟩:=h;simp[Value.eO]
 | .int _ _,cs,S,h=>by rw[an]at h;subst h;simp[Value.eO]
 | .str _,cs,S,h=>by rw[an]at h;subst h;simp[Value.eO]
 | .ct,cs,S,h=>by rw[an]at h;subst h;simp[Value.eO]
 | .bD,cs,S,h=>by rw[an]at h;subst h;simp[Value.eO]
 | .slice xs,cs,S,h=>by
   rw[an]at h
   rcases h with⟨_,a,c,rfl,_⟩|⟨b,o,cap,cU,sz,rfl,_⟩<;>simp[Value.eO]
 | .aE sz xs,cs,S,h=>by
   rw[an]at h
   rcases h with⟨_,_,rfl⟩|⟨b,cap,cur,e,fr,aF,rfl,_⟩<;>simp[Value.eO]
 | .ref d,cs,S,h=>by rw[an]at h;obtain⟨b,o,cU,rfl,_⟩:=h;simp[Value.eO]
 | .a_ d,cs,S,h=>by rw[an]at h;obtain⟨b,o,cU,_,_,rfl,_⟩:=h;simp[Value.eO]
 | .agg ag,cs,S,h=>by rw[an]at h;exact aN.pC ag _ _ h
 | .tuple ag,cs,S,h=>by rw[an]at h;exact aN.pC ag _ _ h
 | .fn _ _,cs,S,h=>by rw[an]at h;obtain⟨arr,rfl,_⟩:=h;simp[Value.eO]
 | .h _ _,cs,S,h=>by rw[an]at h;exact h.elim
 | .ak _ _,cs,S,h=>by rw[an]at h;exact h.elim
 | .R _ _,cs,S,h=>by rw[an]at h;exact h.elim
 | .cH _,cs,S,h=>by rw[an]at h;obtain⟨v,eR,rfl⟩:=jr.one h;simpa using eR
theorem aN.pC {F:Nat→Prop}:∀(ds:List I) (cs:List Value) (S:Nat→Prop),aN w F ds cs S→∀c∈cs,Value.eO c=true
 |[],cs,S,h=>by rw[aN]at h;subst h;simp
 |d::ds,cs,S,h=>by
  rw[aN]at h
  obtain⟨bJ,c2,bo,cu,rfl,ad,aB,_⟩:=h
  intro c ai
  rcases List.mem_append.1 ai with ai|ai
  ·exact an.pC d _ _ ad c ai
  ·exact aN.pC ds _ _ aB c ai
end
theorem x5 {P:Program} {b o:Nat} {e:TypeId} {fr:Nat×Nat}:∀(vs:List Value) (i:Nat) (cur:Array Value) (w:World) (l m r:List Value),w.heap[b]? =some (.cells cur e fr)→ou fr cur.size→
  cur.toList=l++(m++r)→l.length=o+i→m.length=vs.length→(∀v∈vs,Value.eO v=true)→
  ∃aw,(storeCells ⟨b,o,none⟩ vs i).run P w= .ok () aw∧aw.heap[b]? =some (.cells (l++(vs++r)).toArray e fr)∧(∀c,c≠b→aw.heap[c]? =w.heap[c]?)∧aw.heap.size=w.heap.size∧aw.os=w.os∧aw.tape=w.tape∧Out aw w
 |[],i,cur,w,l,m,r,R,bk,ai,hl,hm,_=>by
  refine⟨w,rfl,?_,fun _ _=>rfl,rfl,rfl,rfl,Out.refl _⟩
  have:m=[]:=by simpa using hm
  subst this
  rw[R]
  have:cur=(l++([]++r)).toArray:=by rw[←ai]
  rw[←this]
 |v::vs,i,cur,w,l,m,r,R,bk,ai,hl,hm,va=>by
  obtain⟨x,m,rfl⟩:∃x hv,m=x::hv:=by cases m with
   |nil=>simp at hm
   |cons x m=>exact⟨x,m,rfl⟩
  have hlen:cur.size=(l++(x::m++r)).length:=by rw[←ai];simp
  have c_:o+i<cur.size:=by rw[hlen];simp;omega
  have vb:w.cell? ⟨b,o+i,none⟩=some cur[o+i]:=by simp[World.cell?,R,c_]
  have HX:w.frozen? ⟨b,o+i,none⟩=false:=by
   have:=bk (o+i) c_
   simp only[World.frozen?,R]
   simp only[Bool.and_eq_false_iff,decide_eq_false_iff_not]
   by_cases ab:fr.1≤o+i
   ·right;exact fun ad=>this ⟨ab,ad⟩
   ·left;exact ab
  have oy:(w.setCell ⟨b,o+i,none⟩ v).heap[b]? =some (.cells ((l++[v])++(m++r)).toArray e fr):=by
   simp only[World.setCell,Array.getElem?_modify,if_true,R,Option.map_some,Option.isSome_none,Bool.false_eq_true,if_false]
   congr 2
   apply Array.ext'
   rw[Array.toList_setIfInBounds,ai,←hl,List.set_append_right _ _ (Nat.le_refl _)]
   simp
  have pD:(store ((⟨b,o,none⟩:Addr).add i) v).run P w= .ok () (w.setCell ⟨b,o+i,none⟩ v):=by
   have ab:=va v (by simp)
   rw[Addr.add_lit]
   cases v<;>first|(simp[Value.eO]at ab;done)|simp[Go.store,Sem.run,vb,HX]
  obtain⟨aw,g1,g2,g3,g4,g5,g6,g7⟩:=x5 (P:=P) (b:=b) (o:=o) vs (i+1) _ (w.setCell ⟨b,o+i,none⟩ v) (l++[v]) m r oy (by
   have:(l++[v]++(m++r)).toArray.size=cur.size:=by rw[hlen];simp
   rw[this];exact bk) (by simp) (by simp;omega) (by simpa using hm) (fun u hu=>va u (by simp[hu]))
  refine⟨aw,?_,by simpa using g2,fun c ai=> ?_,?_,g5,g6,g7⟩
  ·simp only[storeCells,Sem.run_bind,pD,Result.andThen];exact g1
  ·rw[g3 c ai]
   simp only[World.setCell,Array.getElem?_modify]
   rw[if_neg (fun e=>ai e.symm)]
  ·rw[g4];simp[World.setCell]
theorem sT {d:I} {v:Value} (h:cA d v) (ae:∀ag,d≠.tuple ag):v.cells=(bx v).toArray:=by
 cases d with
 |tuple ag=>exact(ae _ rfl).elim
 |agg ag=>obtain⟨arr,rfl⟩:=h;simp[Value.cells,bx,fD]
 |_=>
  have ab:Value.eO v=true:=h
  rw[eU ab]
  cases v<;>first|rfl|(simp[Value.eO]at ab)
def eh (C:bt) (s:aj) (T:TypeId) (x y:I):Option aj:=
 match bV s y,loc s x with
 |some (d,s1),some (z,q)=>match d with
  | .tuple _=>none
  |d=>match I.sub q (s z)with
   |some d0=>if d.wd=d0.wd∧d.wd=(C.T T).sz∧(C.T T).ok=true∧y.owner≠some z then some (cm (fO z s1) z (I.put q d (s z)))else none
   |none=>none
 |_,_=>none
theorem HY {s s1:aj} {y d:I} {z:Nat} (h:bV s y=some (d,s1)) (bp:(s z).tree=true) (hy:y.owner≠some z):s1 z=s z:=by
 cases y with
 |h x q=>
  simp only[bV]at h
  split at h
  ·split at h
   ·cases h
   ·simp only[Option.some.injEq,Prod.mk.injEq]at h
    obtain⟨_,rfl⟩:=h
    rw[hk _ _ (fun e=>hy (by rw[I.owner,e]))]
    exact xM bp
  ·cases h
 |ak x q=>simp[bV]at h
 |R x q=>simp[bV]at h
 |fn f c=>simp[bV]at h
 |hole=>simp[bV]at h
 |_=>simp only[bV,Option.some.injEq,Prod.mk.injEq]at h;rw[h.2]
theorem HZ (aU:C.dn) (h:bb w0 F0 X F S s ao w) {T:TypeId} {x y:I} {fF gr:Value} (x6:ay w F s ao x fF (fun _=>False)) (hy:y.plain=true) (H0:ay w F s ao y gr (fun _=>False))
  {s2:aj} (he:eh C s T x y=some s2):
  ∃aw aF,(Instr.storeAt T fF gr).run C.P w= .ok () aw∧bb w0 F0 X F aF s2 ao aw:=by
 unfold eh at he
 split at he
 ·rename_i d s1 z q aO hl
  have key:∀d:I,(∀ag,d≠.tuple ag)→bV s y=some (d,s1)→(match I.sub q (s z)with
   |some d0=>if d.wd=d0.wd∧d.wd=(C.T T).sz∧(C.T T).ok=true∧y.owner≠some z then some (cm (fO z s1) z (I.put q d (s z)))else none
   |none=>none)=some s2→∃aw aF,(Instr.storeAt T fF gr).run C.P w= .ok () aw∧bb w0 F0 X F aF s2 ao aw:=by
   intro d nL aO he
   split at he
   ·rename_i d0 km
    split at he
    ·rename_i pE
     obtain⟨ab,ad,aB,aR⟩:=pE
     simp only[Option.some.injEq]at he;subst he
     obtain⟨l9,bR,b,o,rfl,h6⟩:=x0 h x6 hl km
     obtain⟨bo,g0,g1,g2,Sn,g3,g4,g5,g6,g7,g8⟩:=l7 h hy H0 aO
     have cV:s1 z=s z:=HY aO (fE km (.inr l9)) aR
     rw[←cV]at km l9 h6⊢
     obtain⟨ed,dQ,l,r,cur,e,fr,k0,bz,bK,df,cx⟩:=g0.store km l9 g3 ab g4 g5 g6 g7
     rw[h6]at k0
     simp only[Option.some.injEq,Prod.mk.injEq,true_and]at k0
     obtain⟨rfl,rfl,rfl⟩:=k0
     obtain⟨i,d,mL,aH,aJ,aK,b0,b_,bw,bn⟩:=aU.info aB
     have hlen:=an.length _ _ _ g3
     have hm:bR.length=(bx gr).length:=by
      have Bx:=g0.cj z
      rw[ay.bM (fE km (.inr l9))]at Bx
      obtain⟨_,_,_,_,c0,_,_,_,c4,_⟩:=ctx q (s1 z) (bx (ao z)) (bo z) none _ Bx.2 km
      rw[h6]at c0
      simp only[Option.some.injEq,Prod.mk.injEq,true_and]at c0
      rw[c0.1,an.length _ _ _ c4,hlen,ab]
     obtain⟨aw,m1,m2,m3,m4,m5,m6,m7⟩:=x5 (P:=C.P) (b:=b) (o:=l.length) (e:=e) (fr:=fr) (bx gr) 0 cur w l bR r bz df bK rfl hm (an.pC _ _ _ g3)
     obtain⟨aF,dB⟩:=cx aw m2 m3 m4 m5 m6 m7
     refine⟨aw,aF,?_,dB⟩
     have l_:=sT g2 nL
     simp[Instr.storeAt,Instr.sureAddr,storeVar,hR aH,aJ,l_,hlen,ad,m1]
    ·cases he
   ·cases he
  split at he
  ·cases he
  ·rename_i nL
   exact key _ (fun ag e=>nL ag e) aO he
 ·cases he
theorem bb.alloc (h:bb w0 F0 X F S s ao w) {d:I} {cs:List Value} {Sn:Nat→Prop} (e:TypeId) (aG:an w F d cs Sn)
  (c_:∀b,Sn b→b<w.heap.size) (a1:∀b,Sn b→¬F b) (bg:∀u b,Sn b→¬S u b) (bm:∀b,Sn b→X b∨w0.heap.size≤b):
  bb w0 F0 X F S s ao (w.alloc (.cells cs.toArray e))∧
   iV w0 X F S s ao (w.alloc (.cells cs.toArray e)) (.a_ d) (.pointer (some ⟨w.heap.size,0,none⟩)):=by
 have hold:∀b,b<w.heap.size→(w.alloc (.cells cs.toArray e)).heap[b]? =w.heap[b]? :=by
  intro b R
  show(w.heap.push _)[b]? =_
  rw[Array.getElem?_push,if_neg (by omega)]
 refine⟨h.grow hold (by simp) rfl rfl ⟨rfl,fun _=>Nat.le_refl _⟩,.inr ⟨rfl,rfl,fun b=>b=w.heap.size∨Sn b,?_,?_,?_,?_,?_⟩⟩
 ·rw[an]
  refine⟨w.heap.size,cs.toArray,e,(0,0),Sn,rfl,.inl rfl,?_,?_,?_,fun c ai=>.inr ai,fun ai=>Nat.lt_irrefl _ (c_ _ ai)⟩
  ·show(w.heap.push _)[_]? =_
   simp
  ·intro o _ ⟨_,ad⟩;exact absurd ad (Nat.not_lt_zero _)
  ·exact an.frame (fun b R=>hold b (h.dH b R)) _ _ _ (fun b R=>hold b (c_ b R)) aG
 ·rintro b (rfl|R)
  ·simp
  ·have:=c_ b R;simp;omega
 ·rintro b (rfl|R) nM
  ·exact Nat.lt_irrefl _ (h.dH _ nM)
  ·exact a1 b R nM
 ·rintro u b (rfl|R) hu
  ·exact Nat.lt_irrefl _ (h.de _ _ hu)
  ·exact bg u b R hu
 ·rintro b (rfl|R)
  ·exact .inr h.size
  ·exact bm b R
def fv (C:bt) (T:TypeId):Option I:=if(C.T T).ok=true then(match(C.T T).k,(C.T T).zero with
    | .dR e,.agg [.ct,.bD]=>some (.cH (.fN T e []))
    | .dR _,_=>none
    |_,z=>(match flat z with|some _=>some (.a_ z)|none=>none))else none
theorem H2 (aU:C.dn) (h:bb w0 F0 X F S s ao w) {T:TypeId} (he:fv C T=some av):Good C w0 F0 X ao w (Instr.alloc T true (.tuple #[])) av s:=by
 unfold fv at he
 split at he
 ·rename_i al
  split at he
  ·rename_i Bz abd H3
   simp only[Option.some.injEq]at he;subst he
   obtain⟨i,d,z,aH,aJ,aK,b0,b_,bw,bn⟩:=aU.info al
   have bp:=b_ [.pointer none,.slice none 0 0] (by rw[H3];rfl)
   have hold:∀b,b<w.heap.size→(w.alloc (.cells #[.pointer none,.slice none 0 0] T)).heap[b]? =w.heap[b]? :=by
    intro b R
    show(w.heap.push _)[b]? =_
    rw[Array.getElem?_push,if_neg (by omega)]
   refine⟨.pointer (some ⟨w.heap.size,0,none⟩),w.alloc (.cells #[.pointer none,.slice none 0 0] T),F,S,?_,h.grow hold (by simp) rfl rfl ⟨rfl,fun _=>Nat.le_refl _⟩,.inr ⟨rfl,rfl,fun b=>b=w.heap.size,?_,?_,?_,?_,?_⟩⟩
   ·simp[Instr.alloc,pA aH b0,newVar,newRow,newObj,Sem.run,bp]
   ·rw[an]
    refine⟨w.heap.size,.pointer none,.slice none 0 0,rfl,rfl,?_,.inl rfl,.inl ⟨rfl,rfl⟩⟩
    show(w.heap.push _)[_]? =_
    simp
   ·rintro b rfl;simp
   ·rintro b rfl nM;exact Nat.lt_irrefl _ (h.dH _ nM)
   ·rintro u b rfl hu;exact Nat.lt_irrefl _ (h.de _ _ hu)
   ·rintro b rfl;exact .inr h.size
  ·cases he
  split at he
  ·rename_i cs hS
   simp only[Option.some.injEq]at he;subst he
   obtain⟨i,d,z,aH,aJ,aK,b0,b_,bw,bn⟩:=aU.info al
   have bp:=b_ cs hS
   obtain⟨eF,cd⟩:=h.alloc (d:=(C.T T).zero) T ((an.flat _).1 _ cs (fun _=>False) (Nat.le_refl _) hS) (fun _ h=>h.elim) (fun _ h=>h.elim) (fun _ _ h=>h.elim) (fun _ h=>h.elim)
   refine⟨_,_,F,S,?_,eF,cd⟩
   simp[Instr.alloc,pA aH b0,newVar,newRow,newObj,Sem.run,bp]
  ·cases he
 ·cases he
def ep (s:aj) (x:I):Option (I×aj):=match bV s x with
 |some (.tuple _,_)=>none
 |some (d,s1)=>some (.a_ d,s1)
 |none=>none
def iZ (s:aj) (x:I):Option (I×aj):=match x with
 | .h y q=>match q,s y with
   |[],.agg ds=>if I.ef ds then none else some (.R y 0,s)
   |_,_=>none
 | .fn f caps=>if caps.all (fun d=>d.single&&(d.tree&&d.plain))=true then some (.ref (.fn f caps),s)else none
 |_=>none
theorem aN.BA {w:World} {F bf:Nat→Prop} {s:aj} {ao:Nat→Value} (a1:∀b,F b→bf b):∀(ds:List I) (vs:List Value),(∀d∈ds,d.single=true∧d.tree=true∧d.plain=true)→cL w F s ao ds vs→aN w bf ds vs (fun _=>False)
 |[],vs,_,h=>by rw[cL]at h;rw[aN];exact h
 |d::ds,vs,U,h=>by
  rw[cL]at h
  obtain⟨v,hj,rfl,ab,ad⟩:=h
  obtain⟨d1,d2,d3⟩:=U d (by simp)
  have aB:=(ay.bM d2).1 ab
  have bL:Value.eO v=true:=by
   have:=aB.1
   cases d<;>first|exact this|cases d1
  have aR:=aB.2
  rw[eU bL]at aR
  rw[aN]
  exact⟨[v],hj,fun _=>False,fun _=>False,rfl,an.mono a1 _ _ _ _ (fun _ h=>h) aR,aN.BA a1 ds hj (fun x aq=>U x (by simp[aq])) ad,fun _ h=>h,fun _ h=>h,fun _ h=>h.elim⟩
theorem H4 {T:TypeId} {v:Value} (h:bb w0 F0 X F S s ao w):bb w0 F0 X (fun b=>F b∨b=w.heap.size) S s ao (w.alloc (.cells (bx v).toArray T)):=by
 have hold:∀b,b<w.heap.size→(w.alloc (.cells (bx v).toArray T)).heap[b]? =w.heap[b]? :=by
  intro b R
  show(w.heap.push _)[b]? =_
  rw[Array.getElem?_push,if_neg (by omega)]
 have ab:=h.grow hold (by simp) rfl rfl ⟨rfl,fun _=>Nat.le_refl _⟩
 exact {
  e3:=fun b R=>.inl (ab.e3 b R)
  fh:=fun b R=>by
   rcases R with R|rfl
   ·exact ab.fh b R
   ·exact .inr (.inr h.size)
  dH:=fun b R=>by
   rcases R with R|rfl
   ·exact ab.dH b R
   ·simp
  de:=ab.de
  dY:=fun t b R bk=>by
   rcases bk with bk|rfl
   ·exact ab.dY t b R bk
   ·exact absurd (h.de t _ R) (Nat.lt_irrefl _)
  dA:=ab.dA
  cE:=ab.cE
  cj:=fun t=>ay.frame (fun _ _=>rfl) (fun b R=>.inl R) (fun _ _ _=>rfl) ab.cj _ _ _ (fun _ _=>rfl) (ab.cj t)
  old:=ab.old
  size:=ab.size
  os:=ab.os
  tape:=ab.tape
  output:=ab.output
  eT:=h.eT}
theorem H5 (h:bb w0 F0 X F S s ao w) {T:TypeId} {x:I} {v:Value} (aG:ay w F s ao x v (fun _=>False)) (he:iZ s x=some (av,s1)):
  Good C w0 F0 X ao w (Instr.box T v) av s1:=by
 unfold iZ at he
 split at he
 ·rename_i y q
  split at he
  ·rename_i ds kQ
   split at he
   ·cases he
   ·rename_i sS
    simp only[Option.some.injEq,Prod.mk.injEq]at he
    obtain⟨rfl,rfl⟩:=he
    rw[ay]at aG
    obtain⟨bR,a,g1,g2,g3⟩:=aG (s y) (by simp only[I.sub]) (by rw[kQ];simp only[I.plain];simpa using sS)
    simp only[cg,Option.some.injEq,Prod.mk.injEq,true_and]at g1
    rw[kQ]at g3
    have l_:=sT g3 (fun ag e=>by cases e)
    have hold:∀b,b<w.heap.size→(w.alloc (.cells (bx v).toArray T)).heap[b]? =w.heap[b]? :=by
     intro b R
     show(w.heap.push _)[b]? =_
     rw[Array.getElem?_push,if_neg (by omega)]
    refine⟨.pointer (some ⟨w.heap.size,0,none⟩),w.alloc (.cells (bx v).toArray T),fun b=>F b∨b=w.heap.size,S,by simp[Instr.box,newVar,newRow,newObj,Sem.run,l_],?_,.inl ⟨rfl,?_⟩⟩
    ·have ab:=h.grow hold (by simp) rfl rfl ⟨rfl,fun _=>Nat.le_refl _⟩
     exact {
      e3:=fun b R=>.inl (ab.e3 b R)
      fh:=fun b R=>by
       rcases R with R|rfl
       ·exact ab.fh b R
       ·exact .inr (.inr h.size)
      dH:=fun b R=>by
       rcases R with R|rfl
       ·exact ab.dH b R
       ·simp
      de:=ab.de
      dY:=fun t b R bk=>by
       rcases bk with bk|rfl
       ·exact ab.dY t b R bk
       ·exact absurd (h.de t _ R) (Nat.lt_irrefl _)
      dA:=ab.dA
      cE:=ab.cE
      cj:=fun t=>ay.frame (fun _ _=>rfl) (fun b R=>.inl R) (fun _ _ _=>rfl) ab.cj _ _ _ (fun _ _=>rfl) (ab.cj t)
      old:=ab.old
      size:=ab.size
      os:=ab.os
      tape:=ab.tape
      output:=ab.output
      eT:=h.eT}
    ·rw[ay]
     intro _
     refine⟨w.heap.size,(bx v).toArray,T,(0,0),rfl,.inr rfl,?_,?_⟩
     ·show(w.heap.push _)[_]? =_
      simp
     ·rw[g1.1,←g2]
  ·cases he
 ·rename_i f caps
  split at he
  ·rename_i ai
   simp only[Option.some.injEq,Prod.mk.injEq]at he
   obtain⟨rfl,rfl⟩:=he
   have hS:∀d∈caps,d.single=true∧d.tree=true∧d.plain=true:=fun d ae=>by
    have:=List.all_eq_true.1 ai d ae
    simpa only[Bool.and_eq_true]using this
   rw[ay]at aG
   obtain⟨arr,rfl,aG⟩:=aG
   have l_:=sT (d:=.fn f caps) (v:=.func (.func f) #[] arr) rfl (fun ag e=>by cases e)
   have hg:=H4 (T:=T) (v:=.func (.func f) #[] arr) h
   refine⟨.pointer (some ⟨w.heap.size,0,none⟩),w.alloc (.cells (bx (.func (.func f) #[] arr)).toArray T),fun b=>F b∨b=w.heap.size,S,by simp[Instr.box,newVar,newRow,newObj,Sem.run,l_],hg,.inl ⟨rfl,?_⟩⟩
   refine(ay.bM rfl).2 ⟨rfl,?_⟩
   rw[an]
   refine⟨w.heap.size,0,[.func (.func f) #[] arr],rfl,.inr rfl,?_,?_⟩
   ·have fu:(w.alloc (.cells (bx (.func (.func f) #[] arr)).toArray T)).heap[w.heap.size]? =some (.cells (bx (.func (.func f) #[] arr)).toArray T (0,0)):=by
     show(w.heap.push _)[_]? =_
     simp
    intro j c b2
    cases j with
    |zero=>
     simp only[List.getElem?_cons_zero,Option.some.injEq]at b2
     subst b2
     have e:bx (.func (.func f) #[] arr)=[.func (.func f) #[] arr]:=eU rfl
     unfold World.cell?
     show(match(w.alloc (.cells (bx (.func (.func f) #[] arr)).toArray T)).heap[w.heap.size]? with
      |some (.cells c _ _)=>c[0+0]?
      |_=>none)=_
     rw[fu,e]
     rfl
    |succ j=>simp at b2
   ·rw[an]
    refine⟨arr,rfl,fun d ae=>(hS d ae).1,?_⟩
    have ba:=aN.BA (bf:=F) (fun b R=>R) caps arr.toList hS aG
    refine aN.mono (F:=F) (fun b R=>.inl R) caps _ _ _ (fun _ h=>h) (aN.frame (fun b R=> ?_) caps _ _ (fun _ h=>h.elim) ba)
    have c_:=h.dH b R
    show(w.heap.push _)[b]? =_
    rw[Array.getElem?_push,if_neg (by omega)]
  ·cases he
 ·cases he
theorem H6 (h:bb w0 F0 X F S s ao w) {T:TypeId} {x:I} {v:Value} (aq:x.plain=true) (aG:ay w F s ao x v (fun _=>False)) (he:ep s x=some (av,s1)):
  Good C w0 F0 X ao w (Instr.box T v) av s1:=by
 unfold ep at he
 split at he
 ·cases he
 ·rename_i d s2 nL aO
  simp only[Option.some.injEq,Prod.mk.injEq]at he
  obtain⟨rfl,rfl⟩:=he
  obtain⟨bo,g0,g1,g2,Sn,g3,g4,g5,g6,g7,g8⟩:=l7 h aq aG aO
  obtain⟨eF,cd⟩:=g0.alloc T g3 g4 g5 g6 g7
  refine⟨_,_,F,bo,?_,eF,cd⟩
  have l_:=sT g2 (fun ag e=>nL ag e)
  simp[Instr.box,newVar,newRow,newObj,Sem.run,l_]
 ·cases he
end
end Go.ca
