/- Part of a proof that a law returns true for every input. No condition. -/
import Derived.Test.YtocllehpepigpaaGreatFwB
import Derived.Laws.Entries
namespace Go.cZ
inductive n9 where
 |int (k:IntKind)
 |bool
 |str
 |ptr (e:TypeId)
 |slice (e:TypeId)
 |struct (ay:List (TypeId×Nat))
 |fn
 |e0 (e:TypeId)
 |map (k e:TypeId)
 |other
structure gS where
 k:n9
 sz:Nat
 bytes:Nat
 zero:I
mutual
def flat:I→Option (List Value)
 | .bool b=>some [.bool b]
 | .int k n=>some [.int k n]
 | .str s=>some [.string ⟨⟨s⟩⟩]
 | .dI=>some [.pointer none]
 | .bk=>some [.slice none 0 0]
 | .agg ay=>qE ay
 | .en .xq=>some [.map none]
 |_=>none
def qE:List I→Option (List Value)
 |[]=>some []
 |d::ds=>match flat d,qE ds with
  |some a,some b=>some (a++b)
  |_,_=>none
end
theorem ax.flat {w:World} {F:Nat→Prop}:∀n,(∀(d:I) (cs:List Value) (S:Nat→Prop),SizeOf.sizeOf d≤n→flat d=some cs→ax w F d cs S)∧
  (∀(ds:List I) (cs:List Value) (S:Nat→Prop),SizeOf.sizeOf ds≤n→qE ds=some cs→bc w F ds cs S):=by
 intro n
 induction n with
 |zero=>exact⟨fun d _ _ cf=>by cases d<;>simp at cf<;>omega,fun ds _ _ cf=>by cases ds<;>simp at cf<;>omega⟩
 |succ n ih=>
  refine⟨fun d cs S cf h=> ?_,fun ds cs S cf h=> ?_⟩
  ·cases d with
   |agg ay=>rw[ax];exact ih.2 ay cs S (by simp at cf;omega) (by simpa [cZ.flat]using h)
   |bool b=>simp[cZ.flat]at h;subst h;rw[ax]
   |int k n=>simp[cZ.flat]at h;subst h;rw[ax]
   |str s=>simp[cZ.flat]at h;subst h;rw[ax]
   |dI=>simp[cZ.flat]at h;subst h;rw[ax]
   |bk=>simp[cZ.flat]at h;subst h;rw[ax]
   |en o=>cases o<;>simp[cZ.flat]at h;subst h;rw[ax];rfl
   |_=>simp[cZ.flat]at h
  ·cases ds with
   |nil=>simp[qE]at h;subst h;rw[bc]
   |cons d ds=>
    simp only[qE]at h
    split at h
    ·rename_i a b cE ae
     simp at h;subst h
     simp at cf
     rw[bc]
     exact⟨a,b,fun _=>False,fun _=>False,rfl,ih.1 d a _ (by omega) cE,ih.2 ds b _ (by omega) ae,fun _ h=>h.elim,fun _ h=>h.elim,fun _ h=>h.elim⟩
    ·cases h
def lE:n9→TypeDesc→Prop
 | .int k,.int cW=>k=cW
 | .bool,.bool=>True
 | .str,.string=>True
 | .ptr e,.pointer gE=>e=gE
 | .slice e,.slice gE=>e=gE
 | .struct ay,.struct gs=>gs.toList.map (fun g=>(g.type,g.offset))=ay
 | .fn,.func _ _ _=>True
 | .e0 _,.struct _=>True
 | .map k e,.map cW gE=>k=cW∧e=gE
 |_,_=>False
def Jn (P:Program) (t:TypeId) (x:gS):Prop:=
 (∃e n b z,x=⟨.other,e,n,b⟩∧z=0)∨
 ∃i d z,P.info? t=some i∧i.size=x.sz∧i.bytes=x.bytes∧i.zero=some z∧(∀cs,flat x.zero=some cs→z.cells=cs.toArray)∧P.underlying t=some d∧lE x.k d
structure cw where
 P:Program
 T:TypeId→gS
 M:FuncId→List Bool
structure cw.Ok (C:cw):Prop where
 ty:∀t,Jn C.P t (C.T t)
 mixed:C.P.follows .mixedOrders=true
inductive aK where
 |t (n:Nat)
 |c (av:I)
 |f (g:FuncId)
def AV:Value→Option I
 | .bool b=>some (.bool b)
 | .int k n=>some (.int k n)
 | .string s=>some (.str s.data.toList)
 | .pointer none=>some .dI
 | .slice none 0 0=>some .bk
 |_=>none
def dO:Operand→Option aK
 | .tmp n=>some (.t n)
 | .const v=>(AV v).map .c
 | .func g=>some (.f g)
 | .global _=>none
def js (x:Nat) (d:I):I:=if d.plain then d else .h x []
def aN (s:ar):aK→I
 | .t n=>js n (s n)
 | .c av=>av
 | .f g=>.fn g []
theorem aL.nothing {w:World} {F:Nat→Prop} {s:ar} {aA:Nat→Value} {d:I} {v:Value} {S aR:Nat→Prop} (au:d.plain=true) (h:aL w F s aA d v S):aL w F s aA d v aR:=by
 cases d<;>first
  |(rw[aL];trivial)
  |(rw[aL]at h⊢;exact h)
  |(have bL:=(aL.cV rfl).1 h;exact(aL.cV rfl).2 ⟨bL.1,ax.plain _ _ _ _ au bL.2⟩)
section
variable {w0 w:World} {F0 X F:Nat→Prop} {S:Nat→Nat→Prop} {s:ar} {aA:Nat→Value} {a:Act}
theorem Jo (s:ar) (x:aK) (aq:∀av,x= .c av→av.plain=true):(aN s x).plain=true:=by
 cases x with
 |t n=>simp only[aN,js];split<;>first|assumption|rfl
 |c av=>exact aq _ rfl
 |f g=>rfl
theorem Fb {v:Value} {av:I} (h:AV v=some av):av.plain=true:=by
 unfold AV at h;split at h<;>simp at h<;>subst h<;>rfl
theorem fA (h:bQ w0 F0 X F S s aA w) (eE:∀t,aA t=a.tmps.getD t undef) {o:Operand} {x:aK} (cr:dO o=some x):
  (aN s x).plain=true∧aL w F s aA (aN s x) (a.eval o) (fun _=>False):=by
 cases o with
 |tmp n=>
  simp[dO]at cr;subst cr
  simp only[aN,js,Act.eval,←eE]
  split
  ·rename_i au;exact⟨au,aL.nothing au (h.dF n)⟩
  ·rename_i au
   refine⟨rfl,?_⟩
   rw[aL]
   intro d aj Fe
   simp only[I.sub,Option.some.injEq]at aj;subst aj
   have ba:=ig (q:=[]) rfl (.inl Fe)
   exact⟨_,none,rfl,rfl,((aL.cV ba).1 (h.dF n)).1⟩
 |const v=>
  simp only[dO,Option.map_eq_some_iff]at cr
  obtain⟨av,oX,rfl⟩:=cr
  refine⟨Fb oX,?_⟩
  simp only[aN,Act.eval]
  unfold AV at oX
  split at oX<;>simp at oX<;>subst oX<;>rw[aL,ax]<;>exact⟨rfl,rfl⟩
 |func g=>
  simp[dO]at cr;subst cr
  refine⟨rfl,?_⟩
  simp only[aN,Act.eval]
  rw[aL]
  exact⟨#[],rfl,by rw[eA]⟩
 |global g=>simp[dO]at cr
def lF (w0:World) (X F:Nat→Prop) (S:Nat→Nat→Prop) (s:ar) (aA:Nat→Value) (w:World) (av:I) (v:Value):Prop:=
 (av.plain=true∧aL w F s aA av v (fun _=>False))∨
 (av.tree=true∧ei av v∧∃Sn,ax w F av (cC v) Sn∧(∀b,Sn b→b<w.heap.size)∧(∀b,Sn b→¬F b)∧(∀u b,Sn b→¬S u b)∧(∀b,Sn b→X b∨w0.heap.size≤b))
def fin (s:ar) (dst:Option Nat) (av:I):ar:=match dst with
 |none=>s
 |some t=>if av.plain then du s t av else du (lZ t s) t av
def nz (aA:Nat→Value) (dst:Option Nat) (v:Value):Nat→Value:=match dst with
 |none=>aA
 |some t=>du aA t v
theorem bQ.fin (h:bQ w0 F0 X F S s aA w) {av:I} {v:Value} (aM:lF w0 X F S s aA w av v) (dst:Option Nat):
  ∃aR,bQ w0 F0 X F aR (cZ.fin s dst av) (nz aA dst v) w:=by
 cases dst with
 |none=>exact⟨S,h⟩
 |some t=>
  simp only[cZ.fin,nz]
  rcases aM with⟨au,aj⟩|⟨ba,ag,Sn,h1,ah,aC,a8,bK⟩
  ·rw[if_pos au];exact⟨_,h.u_ au aj⟩
  ·split
   ·rename_i au
    exact⟨_,h.u_ au ((aL.cV ba).2 ⟨ag,ax.plain _ _ _ _ au h1⟩)⟩
   ·exact⟨_,h.Ji ba ag h1 ah aC (fun u b _ ae=>a8 u b ae) bK⟩
def c7 (s:ar):I→Option (I×ar)
 | .h x q=>match I.sub q (s x)with
   |some d=>if d.plain then none else some (d,du (iu x s) x (I.put q d.dq (s x)))
   |none=>none
 | .au _ _=>none
 | .ae _ _=>none
 | .fn _ _=>none
 | .hole=>none
 |d=>some (d,s)
def I.owner:I→Option Nat
 | .h x _=>some x
 |_=>none
def kV:Option Nat→I→I
 |some x,d=>cv x d
 |none,d=>d
theorem oY (h:bQ w0 F0 X F S s aA w) {av d:I} {s1:ar} {v:Value} (oX:av.plain=true) (aM:aL w F s aA av v (fun _=>False)) (ba:c7 s av=some (d,s1)):
  ∃cq,bQ w0 F0 X F cq s1 aA w∧d.tree=true∧ei d v∧∃Sn,ax w F d (cC v) Sn∧(∀b,Sn b→b<w.heap.size)∧(∀b,Sn b→¬F b)∧(∀u b,Sn b→¬cq u b)∧(∀b,Sn b→X b∨w0.heap.size≤b)∧
   (∀u b,cq u b→S u b)∧(∀b,Sn b→∃u,S u b)∧(∀(bp:I) (gG:Value) (aR:Nat→Prop),aL w F s aA bp gG aR→aL w F s1 aA (kV av.owner bp) gG aR):=by
 have tree:∀d:I,d.tree=true→d.plain=true→aL w F s aA d v (fun _=>False)→
   ∃cq,bQ w0 F0 X F cq s aA w∧d.tree=true∧ei d v∧∃Sn,ax w F d (cC v) Sn∧(∀b,Sn b→b<w.heap.size)∧(∀b,Sn b→¬F b)∧(∀u b,Sn b→¬cq u b)∧(∀b,Sn b→X b∨w0.heap.size≤b)∧
    (∀u b,cq u b→S u b)∧(∀b,Sn b→∃u,S u b):=by
  intro d aj _ bL
  have bL:=(aL.cV aj).1 bL
  exact⟨S,h,aj,bL.1,_,bL.2,fun _ h=>h.elim,fun _ h=>h.elim,fun _ _ h=>h.elim,fun _ h=>h.elim,fun _ _ h=>h,fun _ h=>h.elim⟩
 cases av with
 |h x q=>
  simp only[c7]at ba
  split at ba
  ·rename_i e he
   split at ba
   ·cases ba
   ·rename_i au
    simp only[Option.some.injEq,Prod.mk.injEq]at ba
    obtain⟨rfl,rfl⟩:=ba
    have au:e.plain=false:=by simpa using au
    obtain⟨Sn,fE,c3,c4,dw,bg,di,cd,cS,dj,dY⟩:=h.take he au
    rw[aL]at aM
    obtain⟨aDm,a2,g1,g2,g3⟩:=aM e he au
    rw[bg]at g1
    simp only[Option.some.injEq,Prod.mk.injEq,true_and]at g1
    obtain⟨rfl,rfl⟩:=g1
    have Ff:e.tree=true:=by cases e<;>first|rfl|(simp[I.plain]at au)
    refine⟨_,dw,Ff,g3,fE,by rw[g2];exact di,fun b ae=>h.eD x b (cd b ae),fun b ae=>h.fz x b (cd b ae),?_,fun b ae=>h.dZ x b (cd b ae),?_,fun b ae=>⟨x,cd b ae⟩,dY⟩
    ·intro u b ae hu
     simp only[f_]at hu
     split at hu
     ·exact dj b ae hu
     ·rename_i AW;exact h.fs u x b AW hu (cd b ae)
    ·intro u b hu
     simp only[f_]at hu
     split at hu
     ·rename_i e;subst e;exact cS b hu
     ·exact hu
  ·cases ba
 |au x q=>simp[c7]at ba
 |ae x q=>simp[c7]at ba
 |fn f c=>simp[c7]at ba
 |hole=>simp[c7]at ba
 |an sz xs=>simp[I.plain]at oX
 |bd d=>simp[I.plain]at oX
 |_=>
  simp only[c7,Option.some.injEq,Prod.mk.injEq]at ba
  obtain⟨rfl,rfl⟩:=ba
  obtain⟨cq,t1,t2,t3,Sn,t4,t5,t6,t7,t8,t9,t10⟩:=tree _ rfl oX aM
  exact⟨cq,t1,t2,t3,Sn,t4,t5,t6,t7,t8,t9,t10,fun _ _ _ h=>h⟩
def loc (s:ar):I→Option (Nat×List Nat)
 | .h x q=>match I.sub q (s x)with
   |some (.bd _)=>some (x,q++[0])
   |_=>none
 | .au x q=>if I.fU q (s x)then some (x,q)else none
 |_=>none
theorem xB:∀(q:List Nat) (av d:I) (r:List Nat),I.sub q av=some d→I.sub (q++r) av=I.sub r d:=by
 intro q
 induction q with
 |nil=>intro av d r h;simp[I.sub]at h;subst h;rfl
 |cons k q ih=>
  intro av d r h
  cases av with
  |agg ay=>
   simp only[I.sub,List.cons_append]at h⊢
   split at h
   ·rename_i x aw;exact ih _ _ _ h
   ·cases h
  |tuple ay=>
   simp only[I.sub,List.cons_append]at h⊢
   split at h
   ·rename_i x aw;exact ih _ _ _ h
   ·cases h
  |an sz ay=>
   simp only[I.sub,List.cons_append]at h⊢
   split at h
   ·rename_i x aw;exact ih _ _ _ h
   ·cases h
  |bd x=>
   cases k with
   |zero=>simp only[I.sub,List.cons_append]at h⊢;exact ih _ _ _ h
   |succ k=>simp[I.sub]at h
  |_=>simp[I.sub]at h
theorem RA:∀(q:List Nat) (av d:I) (r:List Nat),I.sub q av=some d→I.fU (q++r) av=(I.fU q av||I.fU r d):=by
 intro q
 induction q with
 |nil=>intro av d r h;simp[I.sub]at h;subst h;simp[I.fU]
 |cons k q ih=>
  intro av d r h
  cases av with
  |agg ay=>
   simp only[I.sub]at h
   split at h
   ·rename_i x aw
    simp only[I.fU,List.cons_append,aw]
    exact ih _ _ r h
   ·cases h
  |tuple ay=>
   simp only[I.sub]at h
   split at h
   ·rename_i x aw
    simp only[I.fU,List.cons_append,aw]
    exact ih _ _ r h
   ·cases h
  |an sz ay=>simp[I.fU]
  |bd x=>simp[I.fU]
  |_=>simp[I.sub]at h
theorem xC (w:World):∀(q:List Nat) (av d:I) (cs c3:List Value) (a c4:Option (Nat×Nat)) (r:List Nat),dB w q av cs a=some (d,c3,c4)→dB w (q++r) av cs a=dB w r d c3 c4:=by
 intro q
 induction q with
 |nil=>intro av d cs c3 a c4 r h;simp[dB]at h;obtain⟨rfl,rfl,rfl⟩:=h;rfl
 |cons k q ih=>
  intro av d cs c3 a c4 r h
  cases av with
  |agg ay=>
   rw[List.cons_append]
   rw[dB]at h⊢
   split at h
   ·rename_i x aw;exact ih _ _ _ _ _ _ _ h
   ·cases h
  |tuple ay=>
   rw[List.cons_append]
   rw[dB]at h⊢
   split at h
   ·rename_i x aw;exact ih _ _ _ _ _ _ _ h
   ·cases h
  |an sz ay=>
   rw[List.cons_append]
   rw[dB.eq_def]at h⊢
   simp only at h⊢
   split at h
   ·exact ih _ _ _ _ _ _ _ h
   ·cases h
  |bd x=>
   cases k with
   |zero=>
    rw[List.cons_append]
    rw[dB.eq_def]at h⊢
    simp only at h⊢
    split at h
    ·exact ih _ _ _ _ _ _ _ h
    ·cases h
   |succ k=>rw[show dB w ((k+1)::q) (.bd x) cs a=none from rfl]at h;cases h
  |_=>simp[dB]at h
end
def gS.ok (x:gS):Bool:=match x.k with
 | .other=>false
 |_=>true
theorem cw.Ok.info {C:cw} (bu:C.Ok) {t:TypeId} (h:(C.T t).ok=true):
  ∃i d z,C.P.info? t=some i∧i.size=(C.T t).sz∧i.bytes=(C.T t).bytes∧i.zero=some z∧(∀cs,flat (C.T t).zero=some cs→z.cells=cs.toArray)∧C.P.underlying t=some d∧lE (C.T t).k d:=by
 rcases bu.ty t with⟨e,n,b,z,aw,_⟩|bL
 ·rw[aw]at h;simp[gS.ok]at h
 ·exact bL
theorem gr {x:gS} {k:n9} (h:x.k=k) (hk:k≠.other):x.ok=true:=by
 unfold gS.ok;rw[h];cases k<;>first|rfl|exact(hk rfl).elim
theorem xD {d:TypeDesc} {ay:List (TypeId×Nat)} (h:lE (.struct ay) d):∃gs,d= .struct gs∧gs.toList.map (fun g=>(g.type,g.offset))=ay:=by
 cases d<;>simp[lE]at h
 exact⟨_,rfl,h⟩
theorem lG {d:TypeDesc} {e:TypeId} (h:lE (.slice e) d):d= .slice e:=by
 cases d<;>simp[lE]at h
 rw[h]
theorem xE {d:TypeDesc} {k:IntKind} (h:lE (.int k) d):d= .int k:=by
 cases d<;>simp[lE]at h
 rw[h]
theorem pS {d:TypeDesc} (h:lE .str d):d= .string:=by
 cases d<;>simp[lE]at h
 rfl
theorem Fg {d:TypeDesc} (h:lE .bool d):d= .bool:=by
 cases d<;>simp[lE]at h
 rfl
theorem Jp {d:TypeDesc} {e:TypeId} (h:lE (.ptr e) d):d= .pointer e:=by
 cases d<;>simp[lE]at h
 rw[h]
theorem hp {v:Value} (h:Value.gC v=true):cC v=[v]:=by
 cases v<;>first|rfl|(simp[Value.gC]at h)
theorem sO {P:Program} {t:TypeId} {i:TypeInfo} (h:P.info? t=some i) (w:World):(typeInfo t).run P w= .ok i w:=by simp[typeInfo,h]
theorem kh {P:Program} {t:TypeId} {i:TypeInfo} (h:P.info? t=some i) (w:World):(Go.sizeOf t).run P w= .ok i.size w:=by simp[Go.sizeOf,sO h]
theorem rC {P:Program} {t:TypeId} {i:TypeInfo} {z:Value} (h:P.info? t=some i) (cf:i.zero=some z) (w:World):(zeroValue t).run P w= .ok z w:=by simp[zeroValue,sO h,cf]
section
variable {C:cw} {w0 w:World} {F0 X F:Nat→Prop} {S:Nat→Nat→Prop} {s s1:ar} {aA:Nat→Value} {av:I}
def Good (C:cw) (w0:World) (F0 X:Nat→Prop) (aA:Nat→Value) (w:World) (m:Sem Value) (av:I) (s1:ar):Prop:=
 ∃v aG b2 aR,m.run C.P w= .ok v aG∧bQ w0 F0 X b2 aR s1 aA aG∧lF w0 X b2 aR s1 aA aG av v
theorem Good.same (h:bQ w0 F0 X F S s aA w) {m:Sem Value} {v:Value} (aX:m.run C.P w= .ok v w) (au:av.plain=true) (aM:aL w F s aA av v (fun _=>False)):Good C w0 F0 X aA w m av s:=
 ⟨v,w,F,S,aX,h,.inl ⟨au,aM⟩⟩
theorem Fh (_h:bQ w0 F0 X F S s aA w) {x:I} {v:Value} (aM:aL w F s aA x v (fun _=>False)) {y:Nat} {q:List Nat} (hl:loc s x=some (y,q)) {d:I} (aj:I.sub q (s y)=some d):
  I.fU q (s y)=true∧∃c3 b o,v= .pointer (some ⟨b,o,none⟩)∧dB w q (s y) (cC (aA y)) none=some (d,c3,some (b,o)):=by
 cases x with
 |h z AX=>
  simp only[loc]at hl
  split at hl
  ·rename_i e he
   simp only[Option.some.injEq,Prod.mk.injEq]at hl
   obtain⟨rfl,rfl⟩:=hl
   rw[aL]at aM
   obtain⟨c3,a,g1,g2,g3⟩:=aM _ he rfl
   have ha:e=d:=by
    rw[xB _ _ _ _ he]at aj
    simpa [I.sub]using aj
   subst ha
   refine⟨by rw[RA _ _ _ _ he];simp[I.fU],?_⟩
   have h1:Value.gC v=true:=g3
   rw[hp h1]at g2
   subst g2
   have kS:=xC w AX (s z) _ _ _ none a [0] g1
   have aw:=_h.dF z
   rw[aL.cV (ig he (.inl rfl))]at aw
   obtain⟨gp,c4,eF,fE,k0,b8,cy,e_,ed,fF⟩:=ctx AX (s z) (cC (aA z)) (S z) none _ aw.2 he
   rw[k0]at g1
   simp only[Option.some.injEq,Prod.mk.injEq,true_and]at g1
   obtain⟨rfl,rfl⟩:=g1
   rw[ax]at ed
   obtain⟨b,cur,aZ,fr,dU,aQ,_⟩:=ed
   simp only[List.cons.injEq,and_true]at aQ
   subst aQ
   exact⟨_,b,0,rfl,by rw[kS];rfl⟩
  ·cases hl
 |au z AX=>
  simp only[loc]at hl
  split at hl
  ·rename_i aq
   simp only[Option.some.injEq,Prod.mk.injEq]at hl
   obtain⟨rfl,rfl⟩:=hl
   rw[aL]at aM
   obtain⟨c3,b,o,g1,g2⟩:=aM _ aj aq
   exact⟨aq,c3,b,o,g2,g1⟩
  ·cases hl
 |_=>simp[loc]at hl
def c1 (C:cw) (s:ar) (T:TypeId) (x:I) (k:Nat):Option I:=
 match(C.T T).k with
 | .struct ay=>match ay[k]? with
   |some (j3,off)=>if(C.T j3).ok=true∧(C.T j3).sz≠0 then
     match x with
     | .ref (.agg ds)=>match ds[k]? with
       |some d=>if I.eC (ds.take k)=off then some (.ref d)else none
       |none=>none
     | .ae y o=>if(s y).plain then none else some (.ae y (o+off))
     |x=>match loc s x with
      |some (y,q)=>match I.sub q (s y)with
       |some (.agg ds)=>if k<ds.length∧I.eC (ds.take k)=off then some (.au y (q++[k]))else none
       |_=>none
      |none=>none
    else none
   |none=>none
 |_=>none
theorem Rd.Fi {w:World} {b o:Nat} {cB gn cu:List Value} (h:Rd w b o (cB++(gn++cu))):Rd w b (o+cB.length) gn:=by
 intro j c b_
 have e7:j<gn.length:=(List.getElem?_eq_some_iff.1 b_).1
 have:=h (cB.length+j) c (by rw[List.getElem?_append_right (by omega),List.getElem?_append_left (by omega),←b_];congr 1;omega)
 rw[Nat.add_assoc];exact this
theorem Fj (bu:C.Ok) {T j3:TypeId} {ay:List (TypeId×Nat)} {k off:Nat} (hk:(C.T T).k= .struct ay) (bC:ay[k]? =some (j3,off)) (h1:(C.T j3).ok=true) (ah:(C.T j3).sz≠0) (b o:Nat) (w:World):
  (Instr.fieldAt T (.pointer (some ⟨b,o,none⟩)) k).run C.P w= .ok (.pointer (some ⟨b,o+off,none⟩)) w:=by
 obtain⟨i,d,z,aS,aZ,aQ,cF,cR,ch,b3⟩:=bu.info (gr hk (by simp))
 rw[hk]at b3
 obtain⟨gs,rfl,hq⟩:=xD b3
 obtain⟨qF,bp,qG,f1,f2,f3,f4,f5,f6,f7⟩:=bu.info h1
 have b9:∃g,gs[k]? =some g∧g.type=j3∧g.offset=off:=by
  rw[←hq,List.getElem?_map]at bC
  simp only[Option.map_eq_some_iff,Prod.mk.injEq]at bC
  obtain⟨g,h1,ah,aC⟩:=bC
  exact⟨g,by simpa using h1,ah,aC⟩
 obtain⟨g,g1,rfl,rfl⟩:=b9
 simp[Instr.fieldAt,run_underlying ch,g1,Instr.sureAddr,fieldPlace,kh f1,f2,ah,Addr.add_lit]
theorem RB (bu:C.Ok) (h:bQ w0 F0 X F S s aA w) {T:TypeId} {x:I} {v:Value} {k:Nat} (aw:x.plain=true) (aM:aL w F s aA x v (fun _=>False)) (he:c1 C s T x k=some av):
  Good C w0 F0 X aA w (Instr.fieldAt T v k) av s:=by
 unfold c1 at he
 split at he
 ·rename_i ay hk
  split at he
  ·rename_i j3 off bC
   split at he
   ·rename_i vb
    split at he
    ·rename_i ds
     split at he
     ·rename_i d aj
      split at he
      ·rename_i pT
       simp only[Option.some.injEq]at he;subst he
       have mq:=(aL.cV rfl).1 aM
       rw[ax]at mq
       obtain⟨ag,b,o,eR,h1,ah,aC,a8⟩:=mq
       rw[hp ag]at h1
       simp only[List.cons.injEq,and_true]at h1;subst h1
       rw[ax]at a8
       obtain⟨cB,gn,cu,cq,ic,rfl,h5,fQ,hC,ie,gD,mn⟩:=bc.pick ds _ _ k d a8 aj
       refine Good.same h (Fj bu hk bC vb.1 vb.2 b o w) rfl ((aL.cV rfl).2 ⟨rfl,?_⟩)
       rw[ax]
       refine⟨b,o+off,gn,rfl,ah,?_,ax.mono (fun _ h=>h) _ _ _ _ (fun b ae=>hC b ae) gD⟩
       rw[←pT,←h5];exact aC.Fi
      ·cases he
     ·cases he
    ·rename_i y o
     split at he
     ·cases he
     ·rename_i au
      simp only[Option.some.injEq]at he;subst he
      rw[aL]at aM
      obtain⟨b,cur,e,fr,rfl,ah,aC,a8⟩:=aM (by simpa using au)
      refine Good.same h (Fj bu hk bC vb.1 vb.2 b o w) rfl ?_
      rw[aL]
      exact fun _=>⟨b,cur,e,fr,rfl,ah,aC,a8⟩
    ·rename_i x _ _
     split at he
     ·rename_i y q hl
      split at he
      ·rename_i ds aj
       split at he
       ·rename_i pT
        simp only[Option.some.injEq]at he;subst he
        obtain⟨aq,c3,b,o,rfl,kS⟩:=Fh h aM hl aj
        refine Good.same h (Fj bu hk bC vb.1 vb.2 b o w) rfl ?_
        rw[aL]
        intro d2 iv mW
        rw[xC w q _ _ _ _ _ _ [k] kS]
        rw[xB _ _ _ _ aj]at iv
        have oZ:∃d3,ds[k]? =some d3:=⟨_,List.getElem?_eq_getElem pT.1⟩
        obtain⟨d3,xF⟩:=oZ
        simp only[I.sub,xF,Option.some.injEq]at iv
        subst iv
        simp only[dB,xF]
        refine⟨(c3.drop off).take d3.wd,b,o+off,?_,rfl⟩
        rw[pT.2];rfl
       ·cases he
      ·cases he
     ·cases he
   ·cases he
  ·cases he
 ·cases he
def fc (C:cw) (s:ar) (T:TypeId) (x i:I):Option I:=
 match(C.T T).k,i with
 | .slice e,.int _ n=>if 0≤n∧(C.T e).ok=true then
   match x with
   | .slice xs=>match xs[n.toNat]? with
     |some d=>if d.wd=(C.T e).sz then some (.ref d)else none
     |none=>none
   | .h y q=>match I.sub q (s y)with
     |some (.an sz xs)=>if n.toNat<xs.length∧sz=(C.T e).sz then some (.au y (q++[n.toNat]))else none
     |_=>none
   |_=>none
   else none
 |_,_=>none
theorem Jq (bu:C.Ok) {T e:TypeId} (hk:(C.T T).k= .slice e) (he:(C.T e).ok=true) (b o len cap:Nat) (k:IntKind) (n:Nat) (a6:n<len) (w:World):
  (Instr.indexAt T (.slice (some ⟨b,o,none⟩) len cap) (.int k n)).run C.P w= .ok (.pointer (some ⟨b,o+n*(C.T e).sz,none⟩)) w:=by
 obtain⟨i,d,z,aS,aZ,aQ,cF,cR,ch,b3⟩:=bu.info (gr hk (by simp))
 rw[hk]at b3
 have:=lG b3;subst this
 obtain⟨qF,bp,qG,f1,f2,f3,f4,f5,f6,f7⟩:=bu.info he
 simp[Instr.indexAt,run_underlying ch,asIntOf,a6,kh f1,f2,Addr.add_lit]
theorem RC (bu:C.Ok) (h:bQ w0 F0 X F S s aA w) {T:TypeId} {x i:I} {v n_:Value} (aM:aL w F s aA x v (fun _=>False)) (RD:aL w F s aA i n_ (fun _=>False))
  (he:fc C s T x i=some av):Good C w0 F0 X aA w (Instr.indexAt T v n_) av s:=by
 unfold fc at he
 split at he
 ·rename_i e k n hk
  have Fk:=(aL.cV rfl).1 RD
  rw[ax,hp Fk.1]at Fk
  have:n_= .int k n:=by simpa using Fk.2
  subst this
  split at he
  ·rename_i a6
   obtain⟨n,rfl⟩:=Int.eq_ofNat_of_zero_le a6.1
   simp only[Int.toNat_natCast]at he
   split at he
   ·rename_i xs
    split at he
    ·rename_i d aj
     split at he
     ·rename_i hw
      simp only[Option.some.injEq]at he;subst he
      have mq:=(aL.cV rfl).1 aM
      rw[ax,hp mq.1]at mq
      obtain⟨ag,⟨rfl,_⟩|⟨b,o,cap,eR,sz,h1,ah,aC,a8,bK,cU,cJ⟩⟩:=mq
      ·simp at aj
      ·simp only[List.cons.injEq,and_true]at h1;subst h1
       have e7:n<xs.length:=(List.getElem?_eq_some_iff.1 aj).1
       obtain⟨cB,gn,cu,cq,ic,rfl,h5,fQ,hC,ie,gD,mn⟩:=bc.pick xs _ _ n d cJ aj
       refine Good.same h (Jq bu hk a6.2 b o _ _ k n e7 w) rfl ((aL.cV rfl).2 ⟨rfl,?_⟩)
       rw[ax]
       refine⟨b,_,gn,rfl,ah,?_,ax.mono (fun _ h=>h) _ _ _ _ (fun b ae=>hC b ae) gD⟩
       have RE:=bK d (List.mem_of_getElem? aj)
       have:n*(C.T e).sz=cB.length:=by
        rw[h5,sJ _ (fun d aj=>bK d (List.mem_of_mem_take aj)),List.length_take,Nat.min_eq_left (by omega),←hw,RE]
       rw[this];exact cU.Fi
     ·cases he
    ·cases he
   ·rename_i y q
    split at he
    ·rename_i sz xs aj
     split at he
     ·rename_i hw
      simp only[Option.some.injEq]at he;subst he
      rw[aL]at aM
      obtain⟨c3,a,g1,g2,g3⟩:=aM _ aj rfl
      have ag:Value.gC v=true:=g3
      rw[hp ag]at g2;subst g2
      have aw:=h.dF y
      rw[aL.cV (ig aj (.inl rfl))]at aw
      obtain⟨gp,c4,eF,fE,k0,b8,cy,e_,ed,fF⟩:=ctx q (s y) (cC (aA y)) (S y) none _ aw.2 aj
      rw[k0]at g1
      simp only[Option.some.injEq,Prod.mk.injEq,true_and]at g1
      obtain⟨rfl,rfl⟩:=g1
      rw[ax]at ed
      rcases ed with⟨rfl,_⟩|⟨b,cap,cur,aZ,fr,dU,aQ,_⟩
      ·simp at hw
      ·simp only[List.cons.injEq,and_true]at aQ;subst aQ
       refine Good.same h (Jq bu hk a6.2 b 0 _ _ k n hw.1 w) rfl ?_
       rw[aL]
       intro d2 iv _
       rw[xC w q _ _ _ _ _ _ [n] k0]
       rw[xB _ _ _ _ aj]at iv
       obtain⟨d3,xF⟩:∃d3,xs[n]? =some d3:=⟨_,List.getElem?_eq_getElem hw.1⟩
       simp only[I.sub,xF,Option.some.injEq]at iv
       subst iv
       simp only[dB,xF]
       exact⟨_,b,n*sz,rfl,by simp[hw.2]⟩
     ·cases he
    ·cases he
   ·cases he
  ·cases he
 ·cases he
end
section
variable {C:cw} {w0 w:World} {F0 X F:Nat→Prop} {S:Nat→Nat→Prop} {s s1:ar} {aA:Nat→Value} {av:I}
theorem Jr (bu:C.Ok) {T:TypeId} {ay:List (TypeId×Nat)} (hk:(C.T T).k= .struct ay) (w:World):(isAgg T).run C.P w= .ok true w:=by
 obtain⟨i,d,z,aS,aZ,aQ,cF,cR,ch,b3⟩:=bu.info (gr hk (by simp))
 rw[hk]at b3
 obtain⟨gs,rfl,_⟩:=xD b3
 simp[isAgg,run_underlying ch]
def gS.flat (x:gS):Bool:=match x.k with
 | .other=>false
 | .e0 _=>false
 | .struct _=>false
 |_=>true
theorem Js {x:gS} (h:x.flat=true):x.ok=true:=by
 unfold gS.flat at h;unfold gS.ok;revert h;cases x.k<;>simp
theorem Fl (bu:C.Ok) {T:TypeId} (hk:(C.T T).flat=true) (w:World):(isAgg T).run C.P w= .ok false w:=by
 obtain⟨i,d,z,aS,aZ,aQ,cF,cR,ch,b3⟩:=bu.info (Js hk)
 have df:(∀ay,d≠.struct ay)∧(∀n e,d≠.array n e):=by
  clear ch
  unfold gS.flat at hk
  generalize (C.T T).k=mr at*
  cases mr<;>cases d<;>simp[lE]at b3 hk⊢
 cases d<;>first|exact(df.1 _ rfl).elim|exact(df.2 _ _ rfl).elim|simp[isAgg,run_underlying ch]
theorem Rd.one {w:World} {b o:Nat} {v:Value} (h:Rd w b o [v]):w.cell? ⟨b,o,none⟩=some v:=by simpa using h 0 v rfl
theorem Jt {P:Program} {b o:Nat}:∀(cs:List Value) (i:Nat) (acc:Array Value),Rd w b (o+i) cs→(loadCellsFrom ⟨b,o,none⟩ i cs.length acc).run P w= .ok (acc++cs.toArray) w
 |[],i,acc,_=>by simp[loadCellsFrom]
 |c::cs,i,acc,h=>by
  have bf:w.cell? ⟨b,o+i,none⟩=some c:=by simpa using h 0 c rfl
  have h1:Rd w b (o+(i+1)) cs:=by
   intro j x b_
   have:=h (j+1) x (by simpa using b_)
   rw[←this];congr 2;omega
  have ih:=Jt (P:=P) cs (i+1) (acc.push c) h1
  simp only[List.length_cons,loadCellsFrom,Sem.run_bind,Go.load,Sem.run,Addr.add_lit,bf,Result.andThen]
  rw[ih];simp
theorem RF (bu:C.Ok) {T:TypeId} {ay:List (TypeId×Nat)} (hk:(C.T T).k= .struct ay) {b o:Nat} {cs:List Value} (h:Rd w b o cs) (hl:cs.length=(C.T T).sz):
  (loadVar T ⟨b,o,none⟩).run C.P w= .ok (.agg cs.toArray) w:=by
 obtain⟨i,d,z,aS,aZ,aQ,cF,cR,ch,b3⟩:=bu.info (gr hk (by simp))
 have:=Jt (P:=C.P) (b:=b) (o:=o) cs 0 #[] (by simpa using h)
 simp only[loadVar,Sem.run_bind,Jr bu hk,Result.andThen,if_true,kh aS,aZ,←hl,loadCells,this]
 simp
theorem Ju (bu:C.Ok) {T:TypeId} (hk:(C.T T).flat=true) {b o:Nat} {v:Value} (h:Rd w b o [v]):
  (loadVar T ⟨b,o,none⟩).run C.P w= .ok v w:=by
 simp[loadVar,Fl bu hk,Go.load,Sem.run,h.one]
def fits (C:cw) (T:TypeId) (d:I):Bool:=match(C.T T).k,d with
    | .struct _,.agg ds=>I.eC ds==(C.T T).sz
    | .struct _,_=>false
    |_,.agg _=>false
    |_,.tuple _=>false
    |_,_=>(C.T T).flat
def AY:List I→Nat→Nat→Option Nat
 |[],_,_=>none
 |d::ds,i,k=>if k=0 then some i else if d.wd≤k then AY ds (i+1) (k-d.wd)else none
def ld (C:cw) (s:ar) (T:TypeId) (x:I):Option I:=
 match x with
 | .ref d=>if fits C T d=true then some d else none
 | .ae y k=>match s y with
   | .agg ds=>if I.dX ds then none else match AY ds 0 k with
     |some i=>match ds[i]? with
      |some d=>if I.eC (ds.take i)=k∧fits C T d=true then some (if d.plain then d else .h y [i])else none
      |none=>none
     |none=>none
   |_=>none
 |x=>match loc s x with
  |some (y,q)=>match I.sub q (s y)with
   |some d=>if fits C T d=true then some (if d.plain then d else .h y q)else none
   |none=>none
  |none=>none
theorem ax.one {F:Nat→Prop} {d:I} {cs:List Value} {S:Nat→Prop} (h:ax w F d cs S) (h1:∀ay,d≠.agg ay) (ah:∀ay,d≠.tuple ay):∃v,cs=[v]∧Value.gC v=true:=by
 cases d with
 |hole=>rw[ax]at h;obtain⟨v,h,rfl⟩:=h;exact⟨v,rfl,h⟩
 |fb=>rw[ax]at h;obtain⟨v,rfl⟩:=h;exact⟨_,rfl,rfl⟩
 |slice xs=>rw[ax]at h;rcases h with⟨_,a,c,rfl,_⟩|⟨b,o,cap,eR,sz,rfl,_⟩<;>exact⟨_,rfl,rfl⟩
 |an sz xs=>rw[ax]at h;rcases h with⟨_,_,rfl⟩|⟨b,cap,cur,e,fr,dZ,rfl,_⟩<;>exact⟨_,rfl,rfl⟩
 |ref d=>rw[ax]at h;obtain⟨b,o,eR,rfl,_⟩:=h;exact⟨_,rfl,rfl⟩
 |bd d=>rw[ax]at h;obtain⟨b,cur,e,fr,dZ,rfl,_⟩:=h;exact⟨_,rfl,rfl⟩
 |agg ay=>exact(h1 _ rfl).elim
 |tuple ay=>exact(ah _ rfl).elim
 |fn _ _=>rw[ax]at h;obtain⟨arr,rfl,_⟩:=h;exact⟨_,rfl,rfl⟩
 |h _ _=>rw[ax]at h;exact h.elim
 |au _ _=>rw[ax]at h;exact h.elim
 |ae _ _=>rw[ax]at h;exact h.elim
 |en _=>rw[ax]at h;obtain⟨v,hR,rfl⟩:=lY.one h;exact⟨v,rfl,hR⟩
 |_=>rw[ax]at h;subst h;exact⟨_,rfl,rfl⟩
theorem I.AZ {d:I} (h:d.single=true):(∀ay,d≠.agg ay)∧∀ay,d≠.tuple ay:=
 ⟨fun ay e=>(by subst e;cases h),fun ay e=>(by subst e;cases h)⟩
theorem aL.o0 {F:Nat→Prop} {s:ar} {aA:Nat→Value} {d:I} {v:Value} (ba:d.tree=true) (ag:d.single=true) (h:ax w F d [v] (fun _=>False)):aL w F s aA d v (fun _=>False):=by
 obtain⟨gG,e,h1⟩:=ax.one h (I.AZ ag).1 (I.AZ ag).2
 have:v=gG:=by simpa using e
 subst this
 refine(aL.cV ba).2 ⟨?_,by rw[hp h1];exact h⟩
 cases d<;>first|exact h1|cases ag
mutual
theorem aL.pU {F:Nat→Prop} {s:ar} {aA:Nat→Value}:∀(d:I) (v:Value),d.single=true→ax w F d [v] (fun _=>False)→aL w F s aA d v (fun _=>False)
 | .fn f caps,v,_,h=>by
   rw[ax]at h
   obtain⟨arr,h1,ah,aC⟩:=h
   rw[aL]
   exact⟨arr,by simpa using h1,eA.pU caps _ ah aC⟩
 | .bool b,v,ag,h=>aL.o0 rfl ag h
 | .fb,v,ag,h=>aL.o0 rfl ag h
 | .int k n,v,ag,h=>aL.o0 rfl ag h
 | .str x,v,ag,h=>aL.o0 rfl ag h
 | .dI,v,ag,h=>aL.o0 rfl ag h
 | .bk,v,ag,h=>aL.o0 rfl ag h
 | .slice xs,v,ag,h=>aL.o0 rfl ag h
 | .an sz xs,v,ag,h=>aL.o0 rfl ag h
 | .ref d,v,ag,h=>aL.o0 rfl ag h
 | .bd d,v,ag,h=>aL.o0 rfl ag h
 | .h _ _,v,_,h=>by rw[ax]at h;exact h.elim
 | .au _ _,v,_,h=>by rw[ax]at h;exact h.elim
 | .ae _ _,v,_,h=>by rw[ax]at h;exact h.elim
 | .en _,v,ag,h=>aL.o0 rfl ag h
theorem eA.pU {F:Nat→Prop} {s:ar} {aA:Nat→Value}:∀(ds:List I) (vs:List Value),(∀d∈ds,d.single=true)→bc w F ds vs (fun _=>False)→eA w F s aA ds vs
 |[],vs,_,h=>by rw[bc]at h;rw[eA];exact h
 |d::ds,vs,ag,h=>by
  rw[bc]at h
  obtain⟨cB,cu,cq,dU,rfl,ah,aC,a8,bK,_⟩:=h
  have aj:=ag d (by simp)
  obtain⟨v,rfl,_⟩:=ax.one ah (I.AZ aj).1 (I.AZ aj).2
  rw[eA]
  exact⟨v,cu,rfl,aL.pU d v aj (ax.mono (fun _ h=>h) _ _ _ _ (fun b ae=>a8 b ae) ah),eA.pU ds cu (fun x aw=>ag x (by simp[aw])) (bc.mono (fun _ h=>h) _ _ _ _ (fun b ae=>bK b ae) aC)⟩
end
theorem A0 (bu:C.Ok) {T:TypeId} {d:I} {b o:Nat} {cs:List Value} {S:Nat→Prop} (h:Rd w b o cs) (aj:ax w F d cs S)
  (iw:fits C T d=true):
  ∃v,(loadVar T ⟨b,o,none⟩).run C.P w= .ok v w∧cC v=cs∧ei d v:=by
 unfold fits at iw
 by_cases ag:∃ay,(C.T T).k= .struct ay
 ·obtain⟨ay,hk⟩:=ag
  rw[hk]at iw
  cases d with
  |agg ds=>
   simp only[beq_iff_eq]at iw
   refine⟨_,RF bu hk h ((ax.length _ _ _ aj).trans iw),rfl,⟨_,rfl⟩⟩
  |_=>simp at iw
 ·have jK:(C.T T).flat=true∧(∀ay,d≠.agg ay)∧(∀ay,d≠.tuple ay):=by
   revert iw ag
   cases hk:(C.T T).k<;>cases d<;>simp
  obtain⟨v,rfl,h1⟩:=ax.one aj jK.2.1 jK.2.2
  refine⟨v,Ju bu jK.1 h,hp h1,?_⟩
  cases d<;>first|exact h1|exact(jK.2.1 _ rfl).elim|exact(jK.2.2 _ rfl).elim
theorem RG (bu:C.Ok) {T:TypeId} {d:I} {off:Nat} {arr:Array Value} {cB cs cu:List Value} {S:Nat→Prop} (he:arr.toList=cB++(cs++cu)) (cr:cB.length=off) (aj:ax w F d cs S)
  (iw:fits C T d=true):
  ∃v,(part T arr off).run C.P w= .ok v w∧cC v=cs∧ei d v:=by
 unfold fits at iw
 by_cases ag:∃ay,(C.T T).k= .struct ay
 ·obtain⟨ay,hk⟩:=ag
  rw[hk]at iw
  cases d with
  |agg ds=>
   simp only[beq_iff_eq]at iw
   obtain⟨i,d,z,aS,aZ,aQ,cF,cR,ch,b3⟩:=bu.info (gr hk (by simp))
   have hl:cs.length=(C.T T).sz:=(ax.length _ _ _ aj).trans iw
   have aw:(arr.extract off (off+(C.T T).sz)).toList=cs:=by
    rw[Array.toList_extract,he,List.extract_eq_take_drop,←hl,←cr,Nat.add_sub_cancel_left,List.drop_left,List.take_left]
   refine⟨.agg (arr.extract off (off+(C.T T).sz)),?_,by simpa [cC,h6]using aw,⟨_,rfl⟩⟩
   simp[part,Jr bu hk,kh aS,aZ]
  |_=>simp at iw
 ·have jK:(C.T T).flat=true∧(∀ay,d≠.agg ay)∧(∀ay,d≠.tuple ay):=by
   revert iw ag
   cases hk:(C.T T).k<;>cases d<;>simp
  obtain⟨v,rfl,h1⟩:=ax.one aj jK.2.1 jK.2.2
  have b9:arr[off]? =some v:=by
   rw[←Array.getElem?_toList,he,←cr,List.getElem?_append_right (Nat.le_refl _)];simp
  refine⟨v,?_,hp h1,?_⟩
  ·simp[part,Fl bu jK.1,b9]
  ·cases d<;>first|exact h1|exact(jK.2.1 _ rfl).elim|exact(jK.2.2 _ rfl).elim
theorem RH (bu:C.Ok) (h:bQ w0 F0 X F S s aA w) {T:TypeId} {x:I} {v:Value} (aM:aL w F s aA x v (fun _=>False)) (he:ld C s T x=some av):
  Good C w0 F0 X aA w (Instr.loadAt T v) av s:=by
 unfold ld at he
 split at he
 ·rename_i d
  split at he
  ·rename_i iw
   simp only[Option.some.injEq]at he;subst he
   have mq:=(aL.cV rfl).1 aM
   rw[ax,hp mq.1]at mq
   obtain⟨ag,b,o,eR,h1,ah,aC,a8⟩:=mq
   simp only[List.cons.injEq,and_true]at h1;subst h1
   obtain⟨gG,aX,aq,oa⟩:=A0 bu aC a8 iw
   have eV:(Instr.loadAt T (.pointer (some ⟨b,o,none⟩))).run C.P w= .ok gG w:=by simp[Instr.loadAt,Instr.sureAddr,aX]
   refine⟨gG,w,F,S,eV,h,?_⟩
   by_cases ba:d.tree=true
   ·exact .inr ⟨ba,oa,fun _=>False,by rw[aq];exact a8,fun _ h=>h.elim,fun _ h=>h.elim,fun _ _ h=>h.elim,fun _ h=>h.elim⟩
   ·cases d<;>first|exact(ba rfl).elim|(rw[ax]at a8;exact a8.elim)|exact .inl ⟨rfl,by rw[aL];trivial⟩|(have bK:=a8;rw[ax]at bK;obtain⟨arr,e,_⟩:=bK;rw[←aq]at e a8;rw[hp (by exact oa)]at a8;exact .inl ⟨rfl,aL.pU _ _ rfl a8⟩)
  ·cases he
 ·rename_i y k
  split at he
  ·rename_i ds nA
   split at he
   ·cases he
   ·rename_i xG
    split at he
    ·rename_i i ao
     split at he
     ·rename_i d aj
      split at he
      ·rename_i iw
       simp only[Option.some.injEq]at he
       have gq:(s y).plain=false:=by rw[nA];simp only[I.plain];simpa using xG
       rw[aL]at aM
       obtain⟨b,cur,e,fr,rfl,ah,aC,a8⟩:=aM gq
       have bt:=h.dF y
       rw[nA]at bt
       have Jv:=((aL.cV rfl).1 bt).2
       rw[ax]at Jv
       obtain⟨cB,gn,cu,cq,ic,hb,h5,fQ,hC,ie,gD,mn⟩:=bc.pick ds _ _ i d Jv aj
       have kg:Rd w b k gn:=by
        intro j c b_
        have e7:j<gn.length:=(List.getElem?_eq_some_iff.1 b_).1
        have:cur.toList[k+j]? =some c:=by
         rw[a8,hb,List.getElem?_append_right (by omega),List.getElem?_append_left (by omega),←b_];congr 1;omega
        simp[World.cell?,aC]
        simpa using this
       obtain⟨gG,aX,aq,oa⟩:=A0 bu kg gD iw.2
       have eV:(Instr.loadAt T (.pointer (some ⟨b,k,none⟩))).run C.P w= .ok gG w:=by simp[Instr.loadAt,Instr.sureAddr,aX]
       refine⟨gG,w,F,S,eV,h,?_⟩
       split at he
       ·rename_i au
        subst he
        by_cases ba:d.tree=true
        ·exact .inl ⟨au,(aL.cV ba).2 ⟨oa,by rw[aq];exact ax.plain _ _ _ _ au gD⟩⟩
        ·cases d<;>first|exact(ba rfl).elim|(rw[ax]at gD;exact gD.elim)|exact .inl ⟨rfl,by rw[aL];trivial⟩|(have bK:=ax.plain _ _ _ (fun _=>False) au gD;rw[←aq]at bK;rw[hp (by exact oa)]at bK;exact .inl ⟨rfl,aL.pU _ _ rfl bK⟩)
       ·subst he
        refine .inl ⟨rfl,?_⟩
        rw[aL]
        intro d2 iv _
        rw[nA]at iv⊢
        simp only[I.sub,aj,Option.some.injEq]at iv
        subst iv
        refine⟨gn,none,?_,aq,oa⟩
        simp only[dB,aj]
        rw[hb,sH cB gn cu _ _ h5 (ax.length _ _ _ gD)]
        rfl
      ·cases he
     ·cases he
    ·cases he
  ·cases he
 ·rename_i x _ _
  split at he
  ·rename_i y q hl
   split at he
   ·rename_i d aj
    split at he
    ·rename_i iw
     simp only[Option.some.injEq]at he
     obtain⟨o1,c3,b,o,rfl,kS⟩:=Fh h aM hl aj
     have bt:=h.dF y
     rw[aL.cV (ig aj (.inr o1))]at bt
     obtain⟨gp,c4,eF,fE,k0,b8,cy,e_,ed,fF⟩:=ctx q (s y) (cC (aA y)) (S y) none _ bt.2 aj
     rw[k0]at kS
     simp only[Option.some.injEq,Prod.mk.injEq,true_and]at kS
     obtain⟨rfl,rfl⟩:=kS
     have kg:Rd w b o gp:=by
      rcases fF with⟨l,r,aS,aZ,_⟩|⟨fZ,cur,e,fr,l,r,aS,aZ,aQ,cF,cR,_⟩
      ·simp at aZ
      ·simp only[Option.some.injEq,Prod.mk.injEq]at aS
       obtain⟨rfl,rfl⟩:=aS
       intro j c b_
       have e7:j<gp.length:=(List.getElem?_eq_some_iff.1 b_).1
       have:cur.toList[l.length+j]? =some c:=by
        rw[cR,List.getElem?_append_right (by omega),List.getElem?_append_left (by omega),←b_];congr 1;omega
       simp[World.cell?,aQ]
       simpa using this
     obtain⟨gG,aX,aq,oa⟩:=A0 bu kg ed iw
     have eV:(Instr.loadAt T (.pointer (some ⟨b,o,none⟩))).run C.P w= .ok gG w:=by simp[Instr.loadAt,Instr.sureAddr,aX]
     refine⟨gG,w,F,S,eV,h,?_⟩
     split at he
     ·rename_i au
      subst he
      by_cases ba:d.tree=true
      ·exact .inl ⟨au,(aL.cV ba).2 ⟨oa,by rw[aq];exact ax.plain _ _ _ _ au ed⟩⟩
      ·cases d<;>first|exact(ba rfl).elim|(rw[ax]at ed;exact ed.elim)|exact .inl ⟨rfl,by rw[aL];trivial⟩|(have bK:=ax.plain _ _ _ (fun _=>False) au ed;rw[←aq]at bK;rw[hp (by exact oa)]at bK;exact .inl ⟨rfl,aL.pU _ _ rfl bK⟩)
     ·subst he
      refine .inl ⟨rfl,?_⟩
      rw[aL]
      intro d2 iv _
      rw[aj]at iv
      simp only[Option.some.injEq]at iv
      subst iv
      exact⟨_,_,k0,aq,oa⟩
    ·cases he
   ·cases he
  ·cases he
mutual
theorem ax.rD {F:Nat→Prop}:∀(d:I) (cs:List Value) (S:Nat→Prop),ax w F d cs S→∀c∈cs,Value.gC c=true
 | .hole,cs,S,h=>by rw[ax]at h;obtain⟨v,h,rfl⟩:=h;simpa using h
 | .bool _,cs,S,h=>by rw[ax]at h;subst h;simp[Value.gC]
 | .fb,cs,S,h=>by rw[ax]at h;obtain⟨b,rfl⟩:=h;simp[Value.gC]
 | .int _ _,cs,S,h=>by rw[ax]at h;subst h;simp[Value.gC]
 | .str _,cs,S,h=>by rw[ax]at h;subst h;simp[Value.gC]
 | .dI,cs,S,h=>by rw[ax]at h;subst h;simp[Value.gC]
 | .bk,cs,S,h=>by rw[ax]at h;subst h;simp[Value.gC]
 | .slice xs,cs,S,h=>by
   rw[ax]at h
   rcases h with⟨_,a,c,rfl,_⟩|⟨b,o,cap,eR,sz,rfl,_⟩<;>simp[Value.gC]
 | .an sz xs,cs,S,h=>by
   rw[ax]at h
   rcases h with⟨_,_,rfl⟩|⟨b,cap,cur,e,fr,aR,rfl,_⟩<;>simp[Value.gC]
 | .ref d,cs,S,h=>by rw[ax]at h;obtain⟨b,o,eR,rfl,_⟩:=h;simp[Value.gC]
 | .bd d,cs,S,h=>by rw[ax]at h;obtain⟨b,o,eR,_,_,rfl,_⟩:=h;simp[Value.gC]
 | .agg ay,cs,S,h=>by rw[ax]at h;exact bc.rD ay _ _ h
 | .tuple ay,cs,S,h=>by rw[ax]at h;exact bc.rD ay _ _ h
 | .fn _ _,cs,S,h=>by rw[ax]at h;obtain⟨arr,rfl,_⟩:=h;simp[Value.gC]
 | .h _ _,cs,S,h=>by rw[ax]at h;exact h.elim
 | .au _ _,cs,S,h=>by rw[ax]at h;exact h.elim
 | .ae _ _,cs,S,h=>by rw[ax]at h;exact h.elim
 | .en _,cs,S,h=>by rw[ax]at h;obtain⟨v,hR,rfl⟩:=lY.one h;simpa using hR
theorem bc.rD {F:Nat→Prop}:∀(ds:List I) (cs:List Value) (S:Nat→Prop),bc w F ds cs S→∀c∈cs,Value.gC c=true
 |[],cs,S,h=>by rw[bc]at h;subst h;simp
 |d::ds,cs,S,h=>by
  rw[bc]at h
  obtain⟨cB,cu,cq,dU,rfl,ah,aC,_⟩:=h
  intro c aq
  rcases List.mem_append.1 aq with aq|aq
  ·exact ax.rD d _ _ ah c aq
  ·exact bc.rD ds _ _ aC c aq
end
theorem A1 {P:Program} {b o:Nat} {e:TypeId} {fr:Nat×Nat}:∀(vs:List Value) (i:Nat) (cur:Array Value) (w:World) (l m r:List Value),w.heap[b]? =some (.cells cur e fr)→oV fr cur.size→
  cur.toList=l++(m++r)→l.length=o+i→m.length=vs.length→(∀v∈vs,Value.gC v=true)→
  ∃aG,(storeCells ⟨b,o,none⟩ vs i).run P w= .ok () aG∧aG.heap[b]? =some (.cells (l++(vs++r)).toArray e fr)∧(∀c,c≠b→aG.heap[c]? =w.heap[c]?)∧aG.heap.size=w.heap.size∧aG.os=w.os∧aG.tape=w.tape∧Out aG w
 |[],i,cur,w,l,m,r,ae,bC,aq,hl,hm,_=>by
  refine⟨w,rfl,?_,fun _ _=>rfl,rfl,rfl,rfl,Out.refl _⟩
  have:m=[]:=by simpa using hm
  subst this
  rw[ae]
  have:cur=(l++([]++r)).toArray:=by rw[←aq]
  rw[←this]
 |v::vs,i,cur,w,l,m,r,ae,bC,aq,hl,hm,vc=>by
  obtain⟨x,m,rfl⟩:∃x ix,m=x::ix:=by cases m with
   |nil=>simp at hm
   |cons x m=>exact⟨x,m,rfl⟩
  have hlen:cur.size=(l++(x::m++r)).length:=by rw[←aq];simp
  have e7:o+i<cur.size:=by rw[hlen];simp;omega
  have vd:w.cell? ⟨b,o+i,none⟩=some cur[o+i]:=by simp[World.cell?,ae,e7]
  have RI:w.frozen? ⟨b,o+i,none⟩=false:=by
   have:=bC (o+i) e7
   simp only[World.frozen?,ae]
   simp only[Bool.and_eq_false_iff,decide_eq_false_iff_not]
   by_cases h1:fr.1≤o+i
   ·right;exact fun ah=>this ⟨h1,ah⟩
   ·left;exact h1
  have rE:(w.setCell ⟨b,o+i,none⟩ v).heap[b]? =some (.cells ((l++[v])++(m++r)).toArray e fr):=by
   simp only[World.setCell,Array.getElem?_modify,if_true,ae,Option.map_some,Option.isSome_none,Bool.false_eq_true,if_false]
   congr 2
   apply Array.ext'
   rw[Array.toList_setIfInBounds,aq,←hl,List.set_append_right _ _ (Nat.le_refl _)]
   simp
  have sP:(store ((⟨b,o,none⟩:Addr).add i) v).run P w= .ok () (w.setCell ⟨b,o+i,none⟩ v):=by
   have h1:=vc v (by simp)
   rw[Addr.add_lit]
   cases v<;>first|(simp[Value.gC]at h1;done)|simp[Go.store,Sem.run,vd,RI]
  obtain⟨aG,g1,g2,g3,g4,g5,g6,g7⟩:=A1 (P:=P) (b:=b) (o:=o) vs (i+1) _ (w.setCell ⟨b,o+i,none⟩ v) (l++[v]) m r rE (by
   have:(l++[v]++(m++r)).toArray.size=cur.size:=by rw[hlen];simp
   rw[this];exact bC) (by simp) (by simp;omega) (by simpa using hm) (fun u hu=>vc u (by simp[hu]))
  refine⟨aG,?_,by simpa using g2,fun c aq=> ?_,?_,g5,g6,g7⟩
  ·simp only[storeCells,Sem.run_bind,sP,Result.andThen];exact g1
  ·rw[g3 c aq]
   simp only[World.setCell,Array.getElem?_modify]
   rw[if_neg (fun e=>aq e.symm)]
  ·rw[g4];simp[World.setCell]
theorem xH {d:I} {v:Value} (h:ei d v) (aj:∀ay,d≠.tuple ay):v.cells=(cC v).toArray:=by
 cases d with
 |tuple ay=>exact(aj _ rfl).elim
 |agg ay=>obtain⟨arr,rfl⟩:=h;simp[Value.cells,cC,h6]
 |_=>
  have h1:Value.gC v=true:=h
  rw[hp h1]
  cases v<;>first|rfl|(simp[Value.gC]at h1)
def gu (C:cw) (s:ar) (T:TypeId) (x y:I):Option ar:=
 match c7 s y,loc s x with
 |some (d,s1),some (z,q)=>match d with
  | .tuple _=>none
  |d=>match I.sub q (s z)with
   |some d0=>if d.wd=d0.wd∧d.wd=(C.T T).sz∧(C.T T).ok=true∧y.owner≠some z then some (du (iu z s1) z (I.put q d (s z)))else none
   |none=>none
 |_,_=>none
theorem RJ {s s1:ar} {y d:I} {z:Nat} (h:c7 s y=some (d,s1)) (cf:(s z).tree=true) (bt:y.owner≠some z):s1 z=s z:=by
 cases y with
 |h x q=>
  simp only[c7]at h
  split at h
  ·split at h
   ·cases h
   ·simp only[Option.some.injEq,Prod.mk.injEq]at h
    obtain⟨_,rfl⟩:=h
    rw[jH _ _ (fun e=>bt (by rw[I.owner,e]))]
    exact E7 cf
  ·cases h
 |au x q=>simp[c7]at h
 |ae x q=>simp[c7]at h
 |fn f c=>simp[c7]at h
 |hole=>simp[c7]at h
 |_=>simp only[c7,Option.some.injEq,Prod.mk.injEq]at h;rw[h.2]
theorem RK (bu:C.Ok) (h:bQ w0 F0 X F S s aA w) {T:TypeId} {x y:I} {ij ja:Value} (Fm:aL w F s aA x ij (fun _=>False)) (bt:y.plain=true) (RL:aL w F s aA y ja (fun _=>False))
  {s2:ar} (he:gu C s T x y=some s2):
  ∃aG aR,(Instr.storeAt T ij ja).run C.P w= .ok () aG∧bQ w0 F0 X F aR s2 aA aG:=by
 unfold gu at he
 split at he
 ·rename_i d s1 z q ba hl
  have key:∀d:I,(∀ay,d≠.tuple ay)→c7 s y=some (d,s1)→(match I.sub q (s z)with
   |some d0=>if d.wd=d0.wd∧d.wd=(C.T T).sz∧(C.T T).ok=true∧y.owner≠some z then some (du (iu z s1) z (I.put q d (s z)))else none
   |none=>none)=some s2→∃aG aR,(Instr.storeAt T ij ja).run C.P w= .ok () aG∧bQ w0 F0 X F aR s2 aA aG:=by
   intro d qH ba he
   split at he
   ·rename_i d0 lg
    split at he
    ·rename_i sQ
     obtain⟨h1,ah,aC,a8⟩:=sQ
     simp only[Option.some.injEq]at he;subst he
     obtain⟨o1,c3,b,o,rfl,kS⟩:=Fh h Fm hl lg
     obtain⟨cq,g0,g1,g2,Sn,g3,g4,g5,g6,g7,g8⟩:=oY h bt RL ba
     have dR:s1 z=s z:=RJ ba (ig lg (.inr o1)) a8
     rw[←dR]at lg o1 kS⊢
     obtain⟨gp,fZ,l,r,cur,e,fr,k0,b8,cy,e_,ed⟩:=g0.store lg o1 g3 h1 g4 g5 g6 g7
     rw[kS]at k0
     simp only[Option.some.injEq,Prod.mk.injEq,true_and]at k0
     obtain⟨rfl,rfl,rfl⟩:=k0
     obtain⟨i,d,qG,aS,aZ,aQ,cF,cR,ch,b3⟩:=bu.info aC
     have hlen:=ax.length _ _ _ g3
     have hm:c3.length=(cC ja).length:=by
      have Jw:=g0.dF z
      rw[aL.cV (ig lg (.inr o1))]at Jw
      obtain⟨_,_,_,_,ny,_,_,_,mX,_⟩:=ctx q (s1 z) (cC (aA z)) (cq z) none _ Jw.2 lg
      rw[kS]at ny
      simp only[Option.some.injEq,Prod.mk.injEq,true_and]at ny
      rw[ny.1,ax.length _ _ _ mX,hlen,h1]
     obtain⟨aG,m1,m2,m3,m4,m5,m6,m7⟩:=A1 (P:=C.P) (b:=b) (o:=l.length) (e:=e) (fr:=fr) (cC ja) 0 cur w l c3 r b8 e_ cy rfl hm (ax.rD _ _ _ g3)
     obtain⟨aR,fF⟩:=ed aG m2 m3 m4 m5 m6 m7
     refine⟨aG,aR,?_,fF⟩
     have o2:=xH g2 qH
     simp[Instr.storeAt,Instr.sureAddr,storeVar,kh aS,aZ,o2,hlen,ah,m1]
    ·cases he
   ·cases he
  split at he
  ·cases he
  ·rename_i qH
   exact key _ (fun ay e=>qH ay e) ba he
 ·cases he
theorem bQ.alloc (h:bQ w0 F0 X F S s aA w) {d:I} {cs:List Value} {Sn:Nat→Prop} (e:TypeId) (aM:ax w F d cs Sn)
  (e7:∀b,Sn b→b<w.heap.size) (bI:∀b,Sn b→¬F b) (b1:∀u b,Sn b→¬S u b) (bf:∀b,Sn b→X b∨w0.heap.size≤b):
  bQ w0 F0 X F S s aA (w.alloc (.cells cs.toArray e))∧
   lF w0 X F S s aA (w.alloc (.cells cs.toArray e)) (.bd d) (.pointer (some ⟨w.heap.size,0,none⟩)):=by
 have hold:∀b,b<w.heap.size→(w.alloc (.cells cs.toArray e)).heap[b]? =w.heap[b]? :=by
  intro b ae
  show(w.heap.push _)[b]? =_
  rw[Array.getElem?_push,if_neg (by omega)]
 refine⟨h.grow hold (by simp) rfl rfl ⟨rfl,fun _=>Nat.le_refl _⟩,.inr ⟨rfl,rfl,fun b=>b=w.heap.size∨Sn b,?_,?_,?_,?_,?_⟩⟩
 ·rw[ax]
  refine⟨w.heap.size,cs.toArray,e,(0,0),Sn,rfl,.inl rfl,?_,?_,?_,fun c aq=>.inr aq,fun aq=>Nat.lt_irrefl _ (e7 _ aq)⟩
  ·show(w.heap.push _)[_]? =_
   simp
  ·intro o _ ⟨_,ah⟩;exact absurd ah (Nat.not_lt_zero _)
  ·exact ax.frame (fun b ae=>hold b (h.fm b ae)) _ _ _ (fun b ae=>hold b (e7 b ae)) aM
 ·rintro b (rfl|ae)
  ·simp
  ·have:=e7 b ae;simp;omega
 ·rintro b (rfl|ae) qI
  ·exact Nat.lt_irrefl _ (h.fm _ qI)
  ·exact bI b ae qI
 ·rintro u b (rfl|ae) hu
  ·exact Nat.lt_irrefl _ (h.eD _ _ hu)
  ·exact b1 u b ae hu
 ·rintro b (rfl|ae)
  ·exact .inr h.size
  ·exact bf b ae
def hc (C:cw) (T:TypeId):Option I:=if(C.T T).ok=true then(match(C.T T).k,(C.T T).zero with
    | .e0 e,.agg [.dI,.bk]=>some (.en (.i7 T e []))
    | .e0 _,_=>none
    |_,z=>(match flat z with|some _=>some (.bd z)|none=>none))else none
theorem RM (bu:C.Ok) (h:bQ w0 F0 X F S s aA w) {T:TypeId} (he:hc C T=some av):Good C w0 F0 X aA w (Instr.alloc T true (.tuple #[])) av s:=by
 unfold hc at he
 split at he
 ·rename_i hk
  split at he
  ·rename_i aDn aDo RN
   simp only[Option.some.injEq]at he;subst he
   obtain⟨i,d,z,aS,aZ,aQ,cF,cR,ch,b3⟩:=bu.info hk
   have cf:=cR [.pointer none,.slice none 0 0] (by rw[RN];rfl)
   have hold:∀b,b<w.heap.size→(w.alloc (.cells #[.pointer none,.slice none 0 0] T)).heap[b]? =w.heap[b]? :=by
    intro b ae
    show(w.heap.push _)[b]? =_
    rw[Array.getElem?_push,if_neg (by omega)]
   refine⟨.pointer (some ⟨w.heap.size,0,none⟩),w.alloc (.cells #[.pointer none,.slice none 0 0] T),F,S,?_,h.grow hold (by simp) rfl rfl ⟨rfl,fun _=>Nat.le_refl _⟩,.inr ⟨rfl,rfl,fun b=>b=w.heap.size,?_,?_,?_,?_,?_⟩⟩
   ·simp[Instr.alloc,rC aS cF,newVar,newRow,newObj,Sem.run,cf]
   ·rw[ax]
    refine⟨w.heap.size,.pointer none,.slice none 0 0,rfl,rfl,?_,.inl rfl,.inl ⟨rfl,rfl⟩⟩
    show(w.heap.push _)[_]? =_
    simp
   ·rintro b rfl;simp
   ·rintro b rfl qI;exact Nat.lt_irrefl _ (h.fm _ qI)
   ·rintro u b rfl hu;exact Nat.lt_irrefl _ (h.eD _ _ hu)
   ·rintro b rfl;exact .inr h.size
  ·cases he
  split at he
  ·rename_i cs hb
   simp only[Option.some.injEq]at he;subst he
   obtain⟨i,d,z,aS,aZ,aQ,cF,cR,ch,b3⟩:=bu.info hk
   have cf:=cR cs hb
   obtain⟨dw,bg⟩:=h.alloc (d:=(C.T T).zero) T ((ax.flat _).1 _ cs (fun _=>False) (Nat.le_refl _) hb) (fun _ h=>h.elim) (fun _ h=>h.elim) (fun _ _ h=>h.elim) (fun _ h=>h.elim)
   refine⟨_,_,F,S,?_,dw,bg⟩
   simp[Instr.alloc,rC aS cF,newVar,newRow,newObj,Sem.run,cf]
  ·cases he
 ·cases he
def da (s:ar) (x:I):Option (I×ar):=match c7 s x with
 |some (.tuple _,_)=>none
 |some (d,s1)=>some (.bd d,s1)
 |none=>none
def j4 (s:ar) (x:I):Option (I×ar):=match x with
 | .h y q=>match q,s y with
   |[],.agg ds=>if I.dX ds then none else some (.ae y 0,s)
   |_,_=>none
 | .fn f caps=>if caps.all (fun d=>d.single&&(d.tree&&d.plain))=true then some (.ref (.fn f caps),s)else none
 |_=>none
theorem bc.Jx {w:World} {F b2:Nat→Prop} {s:ar} {aA:Nat→Value} (bI:∀b,F b→b2 b):∀(ds:List I) (vs:List Value),(∀d∈ds,d.single=true∧d.tree=true∧d.plain=true)→eA w F s aA ds vs→bc w b2 ds vs (fun _=>False)
 |[],vs,_,h=>by rw[eA]at h;rw[bc];exact h
 |d::ds,vs,ag,h=>by
  rw[eA]at h
  obtain⟨v,j1,rfl,h1,ah⟩:=h
  obtain⟨d1,d2,d3⟩:=ag d (by simp)
  have aC:=(aL.cV d2).1 h1
  have cr:Value.gC v=true:=by
   have:=aC.1
   cases d<;>first|exact this|cases d1
  have a8:=aC.2
  rw[hp cr]at a8
  rw[bc]
  exact⟨[v],j1,fun _=>False,fun _=>False,rfl,ax.mono bI _ _ _ _ (fun _ h=>h) a8,bc.Jx bI ds j1 (fun x aw=>ag x (by simp[aw])) ah,fun _ h=>h,fun _ h=>h,fun _ h=>h.elim⟩
theorem RO {T:TypeId} {v:Value} (h:bQ w0 F0 X F S s aA w):bQ w0 F0 X (fun b=>F b∨b=w.heap.size) S s aA (w.alloc (.cells (cC v).toArray T)):=by
 have hold:∀b,b<w.heap.size→(w.alloc (.cells (cC v).toArray T)).heap[b]? =w.heap[b]? :=by
  intro b ae
  show(w.heap.push _)[b]? =_
  rw[Array.getElem?_push,if_neg (by omega)]
 have h1:=h.grow hold (by simp) rfl rfl ⟨rfl,fun _=>Nat.le_refl _⟩
 exact {
  ho:=fun b ae=>.inl (h1.ho b ae)
  hO:=fun b ae=>by
   rcases ae with ae|rfl
   ·exact h1.hO b ae
   ·exact .inr (.inr h.size)
  fm:=fun b ae=>by
   rcases ae with ae|rfl
   ·exact h1.fm b ae
   ·simp
  eD:=h1.eD
  fz:=fun t b ae bC=>by
   rcases bC with bC|rfl
   ·exact h1.fz t b ae bC
   ·exact absurd (h.eD t _ ae) (Nat.lt_irrefl _)
  fs:=h1.fs
  dZ:=h1.dZ
  dF:=fun t=>aL.frame (fun _ _=>rfl) (fun b ae=>.inl ae) (fun _ _ _=>rfl) h1.dF _ _ _ (fun _ _=>rfl) (h1.dF t)
  old:=h1.old
  size:=h1.size
  os:=h1.os
  tape:=h1.tape
  output:=h1.output
  hD:=h.hD}
theorem RP (h:bQ w0 F0 X F S s aA w) {T:TypeId} {x:I} {v:Value} (aM:aL w F s aA x v (fun _=>False)) (he:j4 s x=some (av,s1)):
  Good C w0 F0 X aA w (Instr.box T v) av s1:=by
 unfold j4 at he
 split at he
 ·rename_i y q
  split at he
  ·rename_i ds nA
   split at he
   ·cases he
   ·rename_i xG
    simp only[Option.some.injEq,Prod.mk.injEq]at he
    obtain⟨rfl,rfl⟩:=he
    rw[aL]at aM
    obtain⟨c3,a,g1,g2,g3⟩:=aM (s y) (by simp only[I.sub]) (by rw[nA];simp only[I.plain];simpa using xG)
    simp only[dB,Option.some.injEq,Prod.mk.injEq,true_and]at g1
    rw[nA]at g3
    have o2:=xH g3 (fun ay e=>by cases e)
    have hold:∀b,b<w.heap.size→(w.alloc (.cells (cC v).toArray T)).heap[b]? =w.heap[b]? :=by
     intro b ae
     show(w.heap.push _)[b]? =_
     rw[Array.getElem?_push,if_neg (by omega)]
    refine⟨.pointer (some ⟨w.heap.size,0,none⟩),w.alloc (.cells (cC v).toArray T),fun b=>F b∨b=w.heap.size,S,by simp[Instr.box,newVar,newRow,newObj,Sem.run,o2],?_,.inl ⟨rfl,?_⟩⟩
    ·have h1:=h.grow hold (by simp) rfl rfl ⟨rfl,fun _=>Nat.le_refl _⟩
     exact {
      ho:=fun b ae=>.inl (h1.ho b ae)
      hO:=fun b ae=>by
       rcases ae with ae|rfl
       ·exact h1.hO b ae
       ·exact .inr (.inr h.size)
      fm:=fun b ae=>by
       rcases ae with ae|rfl
       ·exact h1.fm b ae
       ·simp
      eD:=h1.eD
      fz:=fun t b ae bC=>by
       rcases bC with bC|rfl
       ·exact h1.fz t b ae bC
       ·exact absurd (h.eD t _ ae) (Nat.lt_irrefl _)
      fs:=h1.fs
      dZ:=h1.dZ
      dF:=fun t=>aL.frame (fun _ _=>rfl) (fun b ae=>.inl ae) (fun _ _ _=>rfl) h1.dF _ _ _ (fun _ _=>rfl) (h1.dF t)
      old:=h1.old
      size:=h1.size
      os:=h1.os
      tape:=h1.tape
      output:=h1.output
      hD:=h.hD}
    ·rw[aL]
     intro _
     refine⟨w.heap.size,(cC v).toArray,T,(0,0),rfl,.inr rfl,?_,?_⟩
     ·show(w.heap.push _)[_]? =_
      simp
     ·rw[g1.1,←g2]
  ·cases he
 ·rename_i f caps
  split at he
  ·rename_i aq
   simp only[Option.some.injEq,Prod.mk.injEq]at he
   obtain⟨rfl,rfl⟩:=he
   have hb:∀d∈caps,d.single=true∧d.tree=true∧d.plain=true:=fun d aj=>by
    have:=List.all_eq_true.1 aq d aj
    simpa only[Bool.and_eq_true]using this
   rw[aL]at aM
   obtain⟨arr,rfl,aM⟩:=aM
   have o2:=xH (d:=.fn f caps) (v:=.func (.func f) #[] arr) rfl (fun ay e=>by cases e)
   have b9:=RO (T:=T) (v:=.func (.func f) #[] arr) h
   refine⟨.pointer (some ⟨w.heap.size,0,none⟩),w.alloc (.cells (cC (.func (.func f) #[] arr)).toArray T),fun b=>F b∨b=w.heap.size,S,by simp[Instr.box,newVar,newRow,newObj,Sem.run,o2],b9,.inl ⟨rfl,?_⟩⟩
   refine(aL.cV rfl).2 ⟨rfl,?_⟩
   rw[ax]
   refine⟨w.heap.size,0,[.func (.func f) #[] arr],rfl,.inr rfl,?_,?_⟩
   ·have kT:(w.alloc (.cells (cC (.func (.func f) #[] arr)).toArray T)).heap[w.heap.size]? =some (.cells (cC (.func (.func f) #[] arr)).toArray T (0,0)):=by
     show(w.heap.push _)[_]? =_
     simp
    intro j c b_
    cases j with
    |zero=>
     simp only[List.getElem?_cons_zero,Option.some.injEq]at b_
     subst b_
     have e:cC (.func (.func f) #[] arr)=[.func (.func f) #[] arr]:=hp rfl
     unfold World.cell?
     show(match(w.alloc (.cells (cC (.func (.func f) #[] arr)).toArray T)).heap[w.heap.size]? with
      |some (.cells c _ _)=>c[0+0]?
      |_=>none)=_
     rw[kT,e]
     rfl
    |succ j=>simp at b_
   ·rw[ax]
    refine⟨arr,rfl,fun d aj=>(hb d aj).1,?_⟩
    have bK:=bc.Jx (b2:=F) (fun b ae=>ae) caps arr.toList hb aM
    refine bc.mono (F:=F) (fun b ae=>.inl ae) caps _ _ _ (fun _ h=>h) (bc.frame (fun b ae=> ?_) caps _ _ (fun _ h=>h.elim) bK)
    have e7:=h.fm b ae
    show(w.heap.push _)[b]? =_
    rw[Array.getElem?_push,if_neg (by omega)]
  ·cases he
 ·cases he
theorem RQ (h:bQ w0 F0 X F S s aA w) {T:TypeId} {x:I} {v:Value} (aw:x.plain=true) (aM:aL w F s aA x v (fun _=>False)) (he:da s x=some (av,s1)):
  Good C w0 F0 X aA w (Instr.box T v) av s1:=by
 unfold da at he
 split at he
 ·cases he
 ·rename_i d s2 qH ba
  simp only[Option.some.injEq,Prod.mk.injEq]at he
  obtain⟨rfl,rfl⟩:=he
  obtain⟨cq,g0,g1,g2,Sn,g3,g4,g5,g6,g7,g8⟩:=oY h aw aM ba
  obtain⟨dw,bg⟩:=g0.alloc T g3 g4 g5 g6 g7
  refine⟨_,_,F,cq,?_,dw,bg⟩
  have o2:=xH g2 (fun ay e=>qH ay e)
  simp[Instr.box,newVar,newRow,newObj,Sem.run,o2]
 ·cases he
end
end Go.cZ
