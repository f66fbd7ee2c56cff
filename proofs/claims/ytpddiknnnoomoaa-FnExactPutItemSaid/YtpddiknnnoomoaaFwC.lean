/- Part of a proof that a law returns true for every input. No condition. -/
import Derived.Test.YtpddiknnnoomoaaFwB
import Derived.Laws.Entries
namespace Go.bZ
inductive jY where
 |int (k:IntKind)
 |bool
 |str
 |ptr (e:TypeId)
 |slice (e:TypeId)
 |struct (ah:List (TypeId×Nat))
 |fn
 |dO (e:TypeId)
 |map (k e:TypeId)
 |other
structure dR where
 k:jY
 sz:Nat
 bytes:Nat
 zero:j
mutual
def flat:j→Option (List Value)
 | .bool b=>some [.bool b]
 | .int k n=>some [.int k n]
 | .str s=>some [.string ⟨⟨s⟩⟩]
 | .cw=>some [.pointer none]
 | .bt=>some [.slice none 0 0]
 | .agg ah=>mi ah
 | .cx .lq=>some [.map none]
 |_=>none
def mi:List j→Option (List Value)
 |[]=>some []
 |d::ds=>match flat d,mi ds with
  |some a,some b=>some (a++b)
  |_,_=>none
end
theorem ai.flat {w:World} {F:Nat→Prop}:∀n,(∀(d:j) (cs:List Value) (S:Nat→Prop),SizeOf.sizeOf d≤n→flat d=some cs→ai w F d cs S)∧
  (∀(ds:List j) (cs:List Value) (S:Nat→Prop),SizeOf.sizeOf ds≤n→mi ds=some cs→aJ w F ds cs S):=by
 intro n
 induction n with
 |zero=>exact⟨fun d _ _ bf=>by cases d<;>simp at bf<;>omega,fun ds _ _ bf=>by cases ds<;>simp at bf<;>omega⟩
 |succ n ih=>
  refine⟨fun d cs S bf h=> ?_,fun ds cs S bf h=> ?_⟩
  ·cases d with
   |agg ah=>rw[ai];exact ih.2 ah cs S (by simp at bf;omega) (by simpa [bZ.flat]using h)
   |bool b=>simp[bZ.flat]at h;subst h;rw[ai]
   |int k n=>simp[bZ.flat]at h;subst h;rw[ai]
   |str s=>simp[bZ.flat]at h;subst h;rw[ai]
   |cw=>simp[bZ.flat]at h;subst h;rw[ai]
   |bt=>simp[bZ.flat]at h;subst h;rw[ai]
   |cx o=>cases o<;>simp[bZ.flat]at h;subst h;rw[ai];rfl
   |_=>simp[bZ.flat]at h
  ·cases ds with
   |nil=>simp[mi]at h;subst h;rw[aJ]
   |cons d ds=>
    simp only[mi]at h
    split at h
    ·rename_i a b bN I
     simp at h;subst h
     simp at bf
     rw[aJ]
     exact⟨a,b,fun _=>False,fun _=>False,rfl,ih.1 d a _ (by omega) bN,ih.2 ds b _ (by omega) I,fun _ h=>h.elim,fun _ h=>h.elim,fun _ h=>h.elim⟩
    ·cases h
def hP:jY→TypeDesc→Prop
 | .int k,.int b3=>k=b3
 | .bool,.bool=>True
 | .str,.string=>True
 | .ptr e,.pointer ei=>e=ei
 | .slice e,.slice ei=>e=ei
 | .struct ah,.struct gs=>gs.toList.map (fun g=>(g.type,g.offset))=ah
 | .fn,.func _ _ _=>True
 | .dO _,.struct _=>True
 | .map k e,.map b3 ei=>k=b3∧e=ei
 |_,_=>False
def yd (P:Program) (t:TypeId) (x:dR):Prop:=
 (∃e n b z,x=⟨.other,e,n,b⟩∧z=0)∨
 ∃i d z,P.info? t=some i∧i.size=x.sz∧i.bytes=x.bytes∧i.zero=some z∧(∀cs,flat x.zero=some cs→z.cells=cs.toArray)∧P.underlying t=some d∧hP x.k d
structure bo where
 P:Program
 T:TypeId→dR
 M:FuncId→List Bool
structure bo.c5 (C:bo):Prop where
 ty:∀t,yd C.P t (C.T t)
 mixed:C.P.follows .mixedOrders=true
inductive au where
 |t (n:Nat)
 |c (av:j)
 |f (g:FuncId)
def sS:Value→Option j
 | .bool b=>some (.bool b)
 | .int k n=>some (.int k n)
 | .string s=>some (.str s.data.toList)
 | .pointer none=>some .cw
 | .slice none 0 0=>some .bt
 |_=>none
def cj:Operand→Option au
 | .tmp n=>some (.t n)
 | .const v=>(sS v).map .c
 | .func g=>some (.f g)
 | .global _=>none
def ga (x:Nat) (d:j):j:=if d.plain then d else .h x []
def ax (s:ag):au→j
 | .t n=>ga n (s n)
 | .c av=>av
 | .f g=>.fn g []
theorem ar.nothing {w:World} {F:Nat→Prop} {s:ag} {ak:Nat→Value} {d:j} {v:Value} {S az:Nat→Prop} (an:d.plain=true) (h:ar w F s ak d v S):ar w F s ak d v az:=by
 cases d<;>first
  |(rw[ar];trivial)
  |(rw[ar]at h⊢;exact h)
  |(have a2:=(ar.bx rfl).1 h;exact(ar.bx rfl).2 ⟨a2.1,ai.plain _ _ _ _ an a2.2⟩)
section
variable {w0 w:World} {F0 X F:Nat→Prop} {S:Nat→Nat→Prop} {s:ag} {ak:Nat→Value} {a:Act}
theorem ye (s:ag) (x:au) (ae:∀av,x= .c av→av.plain=true):(ax s x).plain=true:=by
 cases x with
 |t n=>simp only[ax,ga];split<;>first|assumption|rfl
 |c av=>exact ae _ rfl
 |f g=>rfl
theorem u3 {v:Value} {av:j} (h:sS v=some av):av.plain=true:=by
 unfold sS at h;split at h<;>simp at h<;>subst h<;>rfl
theorem dc (h:aX w0 F0 X F S s ak w) (cJ:∀t,ak t=a.tmps.getD t undef) {o:Operand} {x:au} (bs:cj o=some x):
  (ax s x).plain=true∧ar w F s ak (ax s x) (a.eval o) (fun _=>False):=by
 cases o with
 |tmp n=>
  simp[cj]at bs;subst bs
  simp only[ax,ga,Act.eval,←cJ]
  split
  ·rename_i an;exact⟨an,ar.nothing an (h.b5 n)⟩
  ·rename_i an
   refine⟨rfl,?_⟩
   rw[ar]
   intro d ab DO
   simp only[j.sub,Option.some.injEq]at ab;subst ab
   have aM:=fa (q:=[]) rfl (.inl DO)
   exact⟨_,none,rfl,rfl,((ar.bx aM).1 (h.b5 n)).1⟩
 |const v=>
  simp only[cj,Option.map_eq_some_iff]at bs
  obtain⟨av,kE,rfl⟩:=bs
  refine⟨u3 kE,?_⟩
  simp only[ax,Act.eval]
  unfold sS at kE
  split at kE<;>simp at kE<;>subst kE<;>rw[ar,ai]<;>exact⟨rfl,rfl⟩
 |func g=>
  simp[cj]at bs;subst bs
  refine⟨rfl,?_⟩
  simp only[ax,Act.eval]
  rw[ar]
  exact⟨#[],rfl,by rw[cE]⟩
 |global g=>simp[cj]at bs
def hQ (w0:World) (X F:Nat→Prop) (S:Nat→Nat→Prop) (s:ag) (ak:Nat→Value) (w:World) (av:j) (v:Value):Prop:=
 (av.plain=true∧ar w F s ak av v (fun _=>False))∨
 (av.tree=true∧ct av v∧∃Sn,ai w F av (ba v) Sn∧(∀b,Sn b→b<w.heap.size)∧(∀b,Sn b→¬F b)∧(∀u b,Sn b→¬S u b)∧(∀b,Sn b→X b∨w0.heap.size≤b))
def fin (s:ag) (dst:Option Nat) (av:j):ag:=match dst with
 |none=>s
 |some t=>if av.plain then b4 s t av else b4 (ia t s) t av
def mj (ak:Nat→Value) (dst:Option Nat) (v:Value):Nat→Value:=match dst with
 |none=>ak
 |some t=>b4 ak t v
theorem aX.fin (h:aX w0 F0 X F S s ak w) {av:j} {v:Value} (aC:hQ w0 X F S s ak w av v) (dst:Option Nat):
  ∃az,aX w0 F0 X F az (bZ.fin s dst av) (mj ak dst v) w:=by
 cases dst with
 |none=>exact⟨S,h⟩
 |some t=>
  simp only[bZ.fin,mj]
  rcases aC with⟨an,ab⟩|⟨aM,R,Sn,U,aa,aw,aN,a8⟩
  ·rw[if_pos an];exact⟨_,h.qV an ab⟩
  ·split
   ·rename_i an
    exact⟨_,h.qV an ((ar.bx aM).2 ⟨R,ai.plain _ _ _ _ an U⟩)⟩
   ·exact⟨_,h.x9 aM R U aa aw (fun u b _ I=>aN u b I) a8⟩
def bK (s:ag):j→Option (j×ag)
 | .h x q=>match j.sub q (s x)with
   |some d=>if d.plain then none else some (d,b4 (ff x s) x (j.put q d.bT (s x)))
   |none=>none
 | .an _ _=>none
 | .I _ _=>none
 | .fn _ _=>none
 | .hole=>none
 |d=>some (d,s)
def j.owner:j→Option Nat
 | .h x _=>some x
 |_=>none
def hs:Option Nat→j→j
 |some x,d=>bn x d
 |none,d=>d
theorem kF (h:aX w0 F0 X F S s ak w) {av d:j} {s1:ag} {v:Value} (kE:av.plain=true) (aC:ar w F s ak av v (fun _=>False)) (aM:bK s av=some (d,s1)):
  ∃bj,aX w0 F0 X F bj s1 ak w∧d.tree=true∧ct d v∧∃Sn,ai w F d (ba v) Sn∧(∀b,Sn b→b<w.heap.size)∧(∀b,Sn b→¬F b)∧(∀u b,Sn b→¬bj u b)∧(∀b,Sn b→X b∨w0.heap.size≤b)∧
   (∀u b,bj u b→S u b)∧(∀b,Sn b→∃u,S u b)∧(∀(aV:j) (dM:Value) (az:Nat→Prop),ar w F s ak aV dM az→ar w F s1 ak (hs av.owner aV) dM az):=by
 have tree:∀d:j,d.tree=true→d.plain=true→ar w F s ak d v (fun _=>False)→
   ∃bj,aX w0 F0 X F bj s ak w∧d.tree=true∧ct d v∧∃Sn,ai w F d (ba v) Sn∧(∀b,Sn b→b<w.heap.size)∧(∀b,Sn b→¬F b)∧(∀u b,Sn b→¬bj u b)∧(∀b,Sn b→X b∨w0.heap.size≤b)∧
    (∀u b,bj u b→S u b)∧(∀b,Sn b→∃u,S u b):=by
  intro d ab _ a2
  have a2:=(ar.bx ab).1 a2
  exact⟨S,h,ab,a2.1,_,a2.2,fun _ h=>h.elim,fun _ h=>h.elim,fun _ _ h=>h.elim,fun _ h=>h.elim,fun _ _ h=>h,fun _ h=>h.elim⟩
 cases av with
 |h x q=>
  simp only[bK]at aM
  split at aM
  ·rename_i e he
   split at aM
   ·cases aM
   ·rename_i an
    simp only[Option.some.injEq,Prod.mk.injEq]at aM
    obtain⟨rfl,rfl⟩:=aM
    have an:e.plain=false:=by simpa using an
    obtain⟨Sn,df,bG,bM,dw,cy,fu,fv,g0,hR,ht⟩:=h.take he an
    rw[ar]at aC
    obtain⟨Rm,cn,aE,aO,bg⟩:=aC e he an
    rw[cy]at aE
    simp only[Option.some.injEq,Prod.mk.injEq,true_and]at aE
    obtain⟨rfl,rfl⟩:=aE
    have u4:e.tree=true:=by cases e<;>first|rfl|(simp[j.plain]at an)
    refine⟨_,dw,u4,bg,df,by rw[aO];exact fu,fun b I=>h.cT x b (fv b I),fun b I=>h.dp x b (fv b I),?_,fun b I=>h.cl x b (fv b I),?_,fun b I=>⟨x,fv b I⟩,ht⟩
    ·intro u b I hu
     simp only[dV]at hu
     split at hu
     ·exact hR b I hu
     ·rename_i sT;exact h.c8 u x b sT hu (fv b I)
    ·intro u b hu
     simp only[dV]at hu
     split at hu
     ·rename_i e;subst e;exact g0 b hu
     ·exact hu
  ·cases aM
 |an x q=>simp[bK]at aM
 |I x q=>simp[bK]at aM
 |fn f c=>simp[bK]at aM
 |hole=>simp[bK]at aM
 |aH sz xs=>simp[j.plain]at kE
 |bm d=>simp[j.plain]at kE
 |_=>
  simp only[bK,Option.some.injEq,Prod.mk.injEq]at aM
  obtain⟨rfl,rfl⟩:=aM
  obtain⟨bj,t1,t2,t3,Sn,t4,t5,t6,t7,t8,t9,t10⟩:=tree _ rfl kE aC
  exact⟨bj,t1,t2,t3,Sn,t4,t5,t6,t7,t8,t9,t10,fun _ _ _ h=>h⟩
def loc (s:ag):j→Option (Nat×List Nat)
 | .h x q=>match j.sub q (s x)with
   |some (.bm _)=>some (x,q++[0])
   |_=>none
 | .an x q=>if j.dn q (s x)then some (x,q)else none
 |_=>none
theorem q1:∀(q:List Nat) (av d:j) (r:List Nat),j.sub q av=some d→j.sub (q++r) av=j.sub r d:=by
 intro q
 induction q with
 |nil=>intro av d r h;simp[j.sub]at h;subst h;rfl
 |cons k q ih=>
  intro av d r h
  cases av with
  |agg ah=>
   simp only[j.sub,List.cons_append]at h⊢
   split at h
   ·rename_i x ao;exact ih _ _ _ h
   ·cases h
  |tuple ah=>
   simp only[j.sub,List.cons_append]at h⊢
   split at h
   ·rename_i x ao;exact ih _ _ _ h
   ·cases h
  |aH sz ah=>
   simp only[j.sub,List.cons_append]at h⊢
   split at h
   ·rename_i x ao;exact ih _ _ _ h
   ·cases h
  |bm x=>
   cases k with
   |zero=>simp only[j.sub,List.cons_append]at h⊢;exact ih _ _ _ h
   |succ k=>simp[j.sub]at h
  |_=>simp[j.sub]at h
theorem DP:∀(q:List Nat) (av d:j) (r:List Nat),j.sub q av=some d→j.dn (q++r) av=(j.dn q av||j.dn r d):=by
 intro q
 induction q with
 |nil=>intro av d r h;simp[j.sub]at h;subst h;simp[j.dn]
 |cons k q ih=>
  intro av d r h
  cases av with
  |agg ah=>
   simp only[j.sub]at h
   split at h
   ·rename_i x ao
    simp only[j.dn,List.cons_append,ao]
    exact ih _ _ r h
   ·cases h
  |tuple ah=>
   simp only[j.sub]at h
   split at h
   ·rename_i x ao
    simp only[j.dn,List.cons_append,ao]
    exact ih _ _ r h
   ·cases h
  |aH sz ah=>simp[j.dn]
  |bm x=>simp[j.dn]
  |_=>simp[j.sub]at h
theorem q2 (w:World):∀(q:List Nat) (av d:j) (cs bG:List Value) (a bM:Option (Nat×Nat)) (r:List Nat),b0 w q av cs a=some (d,bG,bM)→b0 w (q++r) av cs a=b0 w r d bG bM:=by
 intro q
 induction q with
 |nil=>intro av d cs bG a bM r h;simp[b0]at h;obtain⟨rfl,rfl,rfl⟩:=h;rfl
 |cons k q ih=>
  intro av d cs bG a bM r h
  cases av with
  |agg ah=>
   rw[List.cons_append]
   rw[b0]at h⊢
   split at h
   ·rename_i x ao;exact ih _ _ _ _ _ _ _ h
   ·cases h
  |tuple ah=>
   rw[List.cons_append]
   rw[b0]at h⊢
   split at h
   ·rename_i x ao;exact ih _ _ _ _ _ _ _ h
   ·cases h
  |aH sz ah=>
   rw[List.cons_append]
   rw[b0.eq_def]at h⊢
   simp only at h⊢
   split at h
   ·exact ih _ _ _ _ _ _ _ h
   ·cases h
  |bm x=>
   cases k with
   |zero=>
    rw[List.cons_append]
    rw[b0.eq_def]at h⊢
    simp only at h⊢
    split at h
    ·exact ih _ _ _ _ _ _ _ h
    ·cases h
   |succ k=>rw[show b0 w ((k+1)::q) (.bm x) cs a=none from rfl]at h;cases h
  |_=>simp[b0]at h
end
def dR.ok (x:dR):Bool:=match x.k with
 | .other=>false
 |_=>true
theorem bo.c5.info {C:bo} (aQ:C.c5) {t:TypeId} (h:(C.T t).ok=true):
  ∃i d z,C.P.info? t=some i∧i.size=(C.T t).sz∧i.bytes=(C.T t).bytes∧i.zero=some z∧(∀cs,flat (C.T t).zero=some cs→z.cells=cs.toArray)∧C.P.underlying t=some d∧hP (C.T t).k d:=by
 rcases aQ.ty t with⟨e,n,b,z,ao,_⟩|a2
 ·rw[ao]at h;simp[dR.ok]at h
 ·exact a2
theorem dF {x:dR} {k:jY} (h:x.k=k) (al:k≠.other):x.ok=true:=by
 unfold dR.ok;rw[h];cases k<;>first|rfl|exact(al rfl).elim
theorem q3 {d:TypeDesc} {ah:List (TypeId×Nat)} (h:hP (.struct ah) d):∃gs,d= .struct gs∧gs.toList.map (fun g=>(g.type,g.offset))=ah:=by
 cases d<;>simp[hP]at h
 exact⟨_,rfl,h⟩
theorem hS {d:TypeDesc} {e:TypeId} (h:hP (.slice e) d):d= .slice e:=by
 cases d<;>simp[hP]at h
 rw[h]
theorem q4 {d:TypeDesc} {k:IntKind} (h:hP (.int k) d):d= .int k:=by
 cases d<;>simp[hP]at h
 rw[h]
theorem lv {d:TypeDesc} (h:hP .str d):d= .string:=by
 cases d<;>simp[hP]at h
 rfl
theorem u5 {d:TypeDesc} (h:hP .bool d):d= .bool:=by
 cases d<;>simp[hP]at h
 rfl
theorem yf {d:TypeDesc} {e:TypeId} (h:hP (.ptr e) d):d= .pointer e:=by
 cases d<;>simp[hP]at h
 rw[h]
theorem ek {v:Value} (h:Value.dZ v=true):ba v=[v]:=by
 cases v<;>first|rfl|(simp[Value.dZ]at h)
theorem n5 {P:Program} {t:TypeId} {i:TypeInfo} (h:P.info? t=some i) (w:World):(typeInfo t).run P w= .ok i w:=by simp[typeInfo,h]
theorem g1 {P:Program} {t:TypeId} {i:TypeInfo} (h:P.info? t=some i) (w:World):(Go.sizeOf t).run P w= .ok i.size w:=by simp[Go.sizeOf,n5 h]
theorem n6 {P:Program} {t:TypeId} {i:TypeInfo} {z:Value} (h:P.info? t=some i) (bf:i.zero=some z) (w:World):(zeroValue t).run P w= .ok z w:=by simp[zeroValue,n5 h,bf]
section
variable {C:bo} {w0 w:World} {F0 X F:Nat→Prop} {S:Nat→Nat→Prop} {s s1:ag} {ak:Nat→Value} {av:j}
def Good (C:bo) (w0:World) (F0 X:Nat→Prop) (ak:Nat→Value) (w:World) (m:Sem Value) (av:j) (s1:ag):Prop:=
 ∃v aq a7 az,m.run C.P w= .ok v aq∧aX w0 F0 X a7 az s1 ak aq∧hQ w0 X a7 az s1 ak aq av v
theorem Good.same (h:aX w0 F0 X F S s ak w) {m:Sem Value} {v:Value} (aB:m.run C.P w= .ok v w) (an:av.plain=true) (aC:ar w F s ak av v (fun _=>False)):Good C w0 F0 X ak w m av s:=
 ⟨v,w,F,S,aB,h,.inl ⟨an,aC⟩⟩
theorem u6 (_h:aX w0 F0 X F S s ak w) {x:j} {v:Value} (aC:ar w F s ak x v (fun _=>False)) {y:Nat} {q:List Nat} (hl:loc s x=some (y,q)) {d:j} (ab:j.sub q (s y)=some d):
  j.dn q (s y)=true∧∃bG b o,v= .pointer (some ⟨b,o,none⟩)∧b0 w q (s y) (ba (ak y)) none=some (d,bG,some (b,o)):=by
 cases x with
 |h z sU=>
  simp only[loc]at hl
  split at hl
  ·rename_i e he
   simp only[Option.some.injEq,Prod.mk.injEq]at hl
   obtain⟨rfl,rfl⟩:=hl
   rw[ar]at aC
   obtain⟨bG,a,aE,aO,bg⟩:=aC _ he rfl
   have eJ:e=d:=by
    rw[q1 _ _ _ _ he]at ab
    simpa [j.sub]using ab
   subst eJ
   refine⟨by rw[DP _ _ _ _ he];simp[j.dn],?_⟩
   have U:Value.dZ v=true:=bg
   rw[ek U]at aO
   subst aO
   have g_:=q2 w sU (s z) _ _ _ none a [0] aE
   have ao:=_h.b5 z
   rw[ar.bx (fa he (.inl rfl))]at ao
   obtain⟨dC,bM,cI,df,k0,bb,bq,cD,b1,cZ⟩:=ctx sU (s z) (ba (ak z)) (S z) none _ ao.2 he
   rw[k0]at aE
   simp only[Option.some.injEq,Prod.mk.injEq,true_and]at aE
   obtain⟨rfl,rfl⟩:=aE
   rw[ai]at b1
   obtain⟨b,cur,aL,fr,ch,a1,_⟩:=b1
   simp only[List.cons.injEq,and_true]at a1
   subst a1
   exact⟨_,b,0,rfl,by rw[g_];rfl⟩
  ·cases hl
 |an z sU=>
  simp only[loc]at hl
  split at hl
  ·rename_i ae
   simp only[Option.some.injEq,Prod.mk.injEq]at hl
   obtain⟨rfl,rfl⟩:=hl
   rw[ar]at aC
   obtain⟨bG,b,o,aE,aO⟩:=aC _ ab ae
   exact⟨ae,bG,b,o,aO,aE⟩
  ·cases hl
 |_=>simp[loc]at hl
def dG (C:bo) (s:ag) (T:TypeId) (x:j) (k:Nat):Option j:=
 match(C.T T).k with
 | .struct ah=>match ah[k]? with
   |some (gD,off)=>if(C.T gD).ok=true∧(C.T gD).sz≠0 then
     match x with
     | .ref (.agg ds)=>match ds[k]? with
       |some d=>if j.cF (ds.take k)=off then some (.ref d)else none
       |none=>none
     | .I y o=>if(s y).plain then none else some (.I y (o+off))
     |x=>match loc s x with
      |some (y,q)=>match j.sub q (s y)with
       |some (.agg ds)=>if k<ds.length∧j.cF (ds.take k)=off then some (.an y (q++[k]))else none
       |_=>none
      |none=>none
    else none
   |none=>none
 |_=>none
theorem e8.u7 {w:World} {b o:Nat} {bB dB bF:List Value} (h:e8 w b o (bB++(dB++bF))):e8 w b (o+bB.length) dB:=by
 intro ad c aU
 have cC:ad<dB.length:=(List.getElem?_eq_some_iff.1 aU).1
 have:=h (bB.length+ad) c (by rw[List.getElem?_append_right (by omega),List.getElem?_append_left (by omega),←aU];congr 1;omega)
 rw[Nat.add_assoc];exact this
theorem u9 (aQ:C.c5) {T gD:TypeId} {ah:List (TypeId×Nat)} {k off:Nat} (al:(C.T T).k= .struct ah) (bc:ah[k]? =some (gD,off)) (U:(C.T gD).ok=true) (aa:(C.T gD).sz≠0) (b o:Nat) (w:World):
  (Instr.fieldAt T (.pointer (some ⟨b,o,none⟩)) k).run C.P w= .ok (.pointer (some ⟨b,o+off,none⟩)) w:=by
 obtain⟨i,d,z,aG,aL,a1,b2,cb,bp,bk⟩:=aQ.info (dF al (by simp))
 rw[al]at bk
 obtain⟨gs,rfl,ie⟩:=q3 bk
 obtain⟨ml,aV,mm,f1,f2,f3,f4,f5,f6,f7⟩:=aQ.info U
 have aY:∃g,gs[k]? =some g∧g.type=gD∧g.offset=off:=by
  rw[←ie,List.getElem?_map]at bc
  simp only[Option.map_eq_some_iff,Prod.mk.injEq]at bc
  obtain⟨g,U,aa,aw⟩:=bc
  exact⟨g,by simpa using U,aa,aw⟩
 obtain⟨g,aE,rfl,rfl⟩:=aY
 simp[Instr.fieldAt,run_underlying bp,aE,Instr.sureAddr,fieldPlace,g1 f1,f2,aa,Addr.add_lit]
theorem DQ (aQ:C.c5) (h:aX w0 F0 X F S s ak w) {T:TypeId} {x:j} {v:Value} {k:Nat} (ao:x.plain=true) (aC:ar w F s ak x v (fun _=>False)) (he:dG C s T x k=some av):
  Good C w0 F0 X ak w (Instr.fieldAt T v k) av s:=by
 unfold dG at he
 split at he
 ·rename_i ah al
  split at he
  ·rename_i gD off bc
   split at he
   ·rename_i pn
    split at he
    ·rename_i ds
     split at he
     ·rename_i d ab
      split at he
      ·rename_i lx
       simp only[Option.some.injEq]at he;subst he
       have iK:=(ar.bx rfl).1 aC
       rw[ai]at iK
       obtain⟨R,b,o,cO,U,aa,aw,aN⟩:=iK
       rw[ek R]at U
       simp only[List.cons.injEq,and_true]at U;subst U
       rw[ai]at aN
       obtain⟨bB,dB,bF,bj,e9,rfl,e1,dD,eK,fo,dK,iG⟩:=aJ.pick ds _ _ k d aN ab
       refine Good.same h (u9 aQ al bc pn.1 pn.2 b o w) rfl ((ar.bx rfl).2 ⟨rfl,?_⟩)
       rw[ai]
       refine⟨b,o+off,dB,rfl,aa,?_,ai.mono (fun _ h=>h) _ _ _ _ (fun b I=>eK b I) dK⟩
       rw[←lx,←e1];exact aw.u7
      ·cases he
     ·cases he
    ·rename_i y o
     split at he
     ·cases he
     ·rename_i an
      simp only[Option.some.injEq]at he;subst he
      rw[ar]at aC
      obtain⟨b,cur,e,fr,rfl,aa,aw,aN⟩:=aC (by simpa using an)
      refine Good.same h (u9 aQ al bc pn.1 pn.2 b o w) rfl ?_
      rw[ar]
      exact fun _=>⟨b,cur,e,fr,rfl,aa,aw,aN⟩
    ·rename_i x _ _
     split at he
     ·rename_i y q hl
      split at he
      ·rename_i ds ab
       split at he
       ·rename_i lx
        simp only[Option.some.injEq]at he;subst he
        obtain⟨ae,bG,b,o,rfl,g_⟩:=u6 h aC hl ab
        refine Good.same h (u9 aQ al bc pn.1 pn.2 b o w) rfl ?_
        rw[ar]
        intro d2 fg hT
        rw[q2 w q _ _ _ _ _ _ [k] g_]
        rw[q1 _ _ _ _ ab]at fg
        have m9:∃d3,ds[k]? =some d3:=⟨_,List.getElem?_eq_getElem lx.1⟩
        obtain⟨d3,q5⟩:=m9
        simp only[j.sub,q5,Option.some.injEq]at fg
        subst fg
        simp only[b0,q5]
        refine⟨(bG.drop off).take d3.wd,b,o+off,?_,rfl⟩
        rw[lx.2];rfl
       ·cases he
      ·cases he
     ·cases he
   ·cases he
  ·cases he
 ·cases he
def dx (C:bo) (s:ag) (T:TypeId) (x i:j):Option j:=
 match(C.T T).k,i with
 | .slice e,.int _ n=>if 0≤n∧(C.T e).ok=true then
   match x with
   | .slice xs=>match xs[n.toNat]? with
     |some d=>if d.wd=(C.T e).sz then some (.ref d)else none
     |none=>none
   | .h y q=>match j.sub q (s y)with
     |some (.aH sz xs)=>if n.toNat<xs.length∧sz=(C.T e).sz then some (.an y (q++[n.toNat]))else none
     |_=>none
   |_=>none
   else none
 |_,_=>none
theorem yg (aQ:C.c5) {T e:TypeId} (al:(C.T T).k= .slice e) (he:(C.T e).ok=true) (b o len cap:Nat) (k:IntKind) (n:Nat) (aR:n<len) (w:World):
  (Instr.indexAt T (.slice (some ⟨b,o,none⟩) len cap) (.int k n)).run C.P w= .ok (.pointer (some ⟨b,o+n*(C.T e).sz,none⟩)) w:=by
 obtain⟨i,d,z,aG,aL,a1,b2,cb,bp,bk⟩:=aQ.info (dF al (by simp))
 rw[al]at bk
 have:=hS bk;subst this
 obtain⟨ml,aV,mm,f1,f2,f3,f4,f5,f6,f7⟩:=aQ.info he
 simp[Instr.indexAt,run_underlying bp,asIntOf,aR,g1 f1,f2,Addr.add_lit]
theorem DR (aQ:C.c5) (h:aX w0 F0 X F S s ak w) {T:TypeId} {x i:j} {v jZ:Value} (aC:ar w F s ak x v (fun _=>False)) (DS:ar w F s ak i jZ (fun _=>False))
  (he:dx C s T x i=some av):Good C w0 F0 X ak w (Instr.indexAt T v jZ) av s:=by
 unfold dx at he
 split at he
 ·rename_i e k n al
  have u_:=(ar.bx rfl).1 DS
  rw[ai,ek u_.1]at u_
  have:jZ= .int k n:=by simpa using u_.2
  subst this
  split at he
  ·rename_i aR
   obtain⟨n,rfl⟩:=Int.eq_ofNat_of_zero_le aR.1
   simp only[Int.toNat_natCast]at he
   split at he
   ·rename_i xs
    split at he
    ·rename_i d ab
     split at he
     ·rename_i hw
      simp only[Option.some.injEq]at he;subst he
      have iK:=(ar.bx rfl).1 aC
      rw[ai,ek iK.1]at iK
      obtain⟨R,⟨rfl,_⟩|⟨b,o,cap,cO,sz,U,aa,aw,aN,a8,bI,bO⟩⟩:=iK
      ·simp at ab
      ·simp only[List.cons.injEq,and_true]at U;subst U
       have cC:n<xs.length:=(List.getElem?_eq_some_iff.1 ab).1
       obtain⟨bB,dB,bF,bj,e9,rfl,e1,dD,eK,fo,dK,iG⟩:=aJ.pick xs _ _ n d bO ab
       refine Good.same h (yg aQ al aR.2 b o _ _ k n cC w) rfl ((ar.bx rfl).2 ⟨rfl,?_⟩)
       rw[ai]
       refine⟨b,_,dB,rfl,aa,?_,ai.mono (fun _ h=>h) _ _ _ _ (fun b I=>eK b I) dK⟩
       have DT:=a8 d (List.mem_of_getElem? ab)
       have:n*(C.T e).sz=bB.length:=by
        rw[e1,n0 _ (fun d ab=>a8 d (List.mem_of_mem_take ab)),List.length_take,Nat.min_eq_left (by omega),←hw,DT]
       rw[this];exact bI.u7
     ·cases he
    ·cases he
   ·rename_i y q
    split at he
    ·rename_i sz xs ab
     split at he
     ·rename_i hw
      simp only[Option.some.injEq]at he;subst he
      rw[ar]at aC
      obtain⟨bG,a,aE,aO,bg⟩:=aC _ ab rfl
      have R:Value.dZ v=true:=bg
      rw[ek R]at aO;subst aO
      have ao:=h.b5 y
      rw[ar.bx (fa ab (.inl rfl))]at ao
      obtain⟨dC,bM,cI,df,k0,bb,bq,cD,b1,cZ⟩:=ctx q (s y) (ba (ak y)) (S y) none _ ao.2 ab
      rw[k0]at aE
      simp only[Option.some.injEq,Prod.mk.injEq,true_and]at aE
      obtain⟨rfl,rfl⟩:=aE
      rw[ai]at b1
      rcases b1 with⟨rfl,_⟩|⟨b,cap,cur,aL,fr,ch,a1,_⟩
      ·simp at hw
      ·simp only[List.cons.injEq,and_true]at a1;subst a1
       refine Good.same h (yg aQ al aR.2 b 0 _ _ k n hw.1 w) rfl ?_
       rw[ar]
       intro d2 fg _
       rw[q2 w q _ _ _ _ _ _ [n] k0]
       rw[q1 _ _ _ _ ab]at fg
       obtain⟨d3,q5⟩:∃d3,xs[n]? =some d3:=⟨_,List.getElem?_eq_getElem hw.1⟩
       simp only[j.sub,q5,Option.some.injEq]at fg
       subst fg
       simp only[b0,q5]
       exact⟨_,b,n*sz,rfl,by simp[hw.2]⟩
     ·cases he
    ·cases he
   ·cases he
  ·cases he
 ·cases he
end
section
variable {C:bo} {w0 w:World} {F0 X F:Nat→Prop} {S:Nat→Nat→Prop} {s s1:ag} {ak:Nat→Value} {av:j}
theorem yh (aQ:C.c5) {T:TypeId} {ah:List (TypeId×Nat)} (al:(C.T T).k= .struct ah) (w:World):(isAgg T).run C.P w= .ok true w:=by
 obtain⟨i,d,z,aG,aL,a1,b2,cb,bp,bk⟩:=aQ.info (dF al (by simp))
 rw[al]at bk
 obtain⟨gs,rfl,_⟩:=q3 bk
 simp[isAgg,run_underlying bp]
def dR.flat (x:dR):Bool:=match x.k with
 | .other=>false
 | .dO _=>false
 | .struct _=>false
 |_=>true
theorem yi {x:dR} (h:x.flat=true):x.ok=true:=by
 unfold dR.flat at h;unfold dR.ok;revert h;cases x.k<;>simp
theorem va (aQ:C.c5) {T:TypeId} (al:(C.T T).flat=true) (w:World):(isAgg T).run C.P w= .ok false w:=by
 obtain⟨i,d,z,aG,aL,a1,b2,cb,bp,bk⟩:=aQ.info (yi al)
 have cr:(∀ah,d≠.struct ah)∧(∀n e,d≠.array n e):=by
  clear bp
  unfold dR.flat at al
  generalize (C.T T).k=iL at*
  cases iL<;>cases d<;>simp[hP]at bk al⊢
 cases d<;>first|exact(cr.1 _ rfl).elim|exact(cr.2 _ _ rfl).elim|simp[isAgg,run_underlying bp]
theorem e8.one {w:World} {b o:Nat} {v:Value} (h:e8 w b o [v]):w.cell? ⟨b,o,none⟩=some v:=by simpa using h 0 v rfl
theorem yj {P:Program} {b o:Nat}:∀(cs:List Value) (i:Nat) (acc:Array Value),e8 w b (o+i) cs→(loadCellsFrom ⟨b,o,none⟩ i cs.length acc).run P w= .ok (acc++cs.toArray) w
 |[],i,acc,_=>by simp[loadCellsFrom]
 |c::cs,i,acc,h=>by
  have bu:w.cell? ⟨b,o+i,none⟩=some c:=by simpa using h 0 c rfl
  have U:e8 w b (o+(i+1)) cs:=by
   intro ad x aU
   have:=h (ad+1) x (by simpa using aU)
   rw[←this];congr 2;omega
  have ih:=yj (P:=P) cs (i+1) (acc.push c) U
  simp only[List.length_cons,loadCellsFrom,Sem.run_bind,Go.load,Sem.run,Addr.add_lit,bu,Result.andThen]
  rw[ih];simp
theorem DU (aQ:C.c5) {T:TypeId} {ah:List (TypeId×Nat)} (al:(C.T T).k= .struct ah) {b o:Nat} {cs:List Value} (h:e8 w b o cs) (hl:cs.length=(C.T T).sz):
  (loadVar T ⟨b,o,none⟩).run C.P w= .ok (.agg cs.toArray) w:=by
 obtain⟨i,d,z,aG,aL,a1,b2,cb,bp,bk⟩:=aQ.info (dF al (by simp))
 have:=yj (P:=C.P) (b:=b) (o:=o) cs 0 #[] (by simpa using h)
 simp only[loadVar,Sem.run_bind,yh aQ al,Result.andThen,if_true,g1 aG,aL,←hl,loadCells,this]
 simp
theorem yk (aQ:C.c5) {T:TypeId} (al:(C.T T).flat=true) {b o:Nat} {v:Value} (h:e8 w b o [v]):
  (loadVar T ⟨b,o,none⟩).run C.P w= .ok v w:=by
 simp[loadVar,va aQ al,Go.load,Sem.run,h.one]
def fits (C:bo) (T:TypeId) (d:j):Bool:=match(C.T T).k,d with
    | .struct _,.agg ds=>j.cF ds==(C.T T).sz
    | .struct _,_=>false
    |_,.agg _=>false
    |_,.tuple _=>false
    |_,_=>(C.T T).flat
def yl:List j→Nat→Nat→Option Nat
 |[],_,_=>none
 |d::ds,i,k=>if k=0 then some i else if d.wd≤k then yl ds (i+1) (k-d.wd)else none
def cR (C:bo) (s:ag) (T:TypeId) (x:j):Option j:=
 match x with
 | .ref d=>if fits C T d=true then some d else none
 | .I y k=>match s y with
   | .agg ds=>if j.dE ds then none else match yl ds 0 k with
     |some i=>match ds[i]? with
      |some d=>if j.cF (ds.take i)=k∧fits C T d=true then some (if d.plain then d else .h y [i])else none
      |none=>none
     |none=>none
   |_=>none
 |x=>match loc s x with
  |some (y,q)=>match j.sub q (s y)with
   |some d=>if fits C T d=true then some (if d.plain then d else .h y q)else none
   |none=>none
  |none=>none
theorem ai.one {F:Nat→Prop} {d:j} {cs:List Value} {S:Nat→Prop} (h:ai w F d cs S) (U:∀ah,d≠.agg ah) (aa:∀ah,d≠.tuple ah):∃v,cs=[v]∧Value.dZ v=true:=by
 cases d with
 |hole=>rw[ai]at h;obtain⟨v,h,rfl⟩:=h;exact⟨v,rfl,h⟩
 |c2=>rw[ai]at h;obtain⟨v,rfl⟩:=h;exact⟨_,rfl,rfl⟩
 |slice xs=>rw[ai]at h;rcases h with⟨_,a,c,rfl,_⟩|⟨b,o,cap,cO,sz,rfl,_⟩<;>exact⟨_,rfl,rfl⟩
 |aH sz xs=>rw[ai]at h;rcases h with⟨_,_,rfl⟩|⟨b,cap,cur,e,fr,cl,rfl,_⟩<;>exact⟨_,rfl,rfl⟩
 |ref d=>rw[ai]at h;obtain⟨b,o,cO,rfl,_⟩:=h;exact⟨_,rfl,rfl⟩
 |bm d=>rw[ai]at h;obtain⟨b,cur,e,fr,cl,rfl,_⟩:=h;exact⟨_,rfl,rfl⟩
 |agg ah=>exact(U _ rfl).elim
 |tuple ah=>exact(aa _ rfl).elim
 |fn _ _=>rw[ai]at h;obtain⟨arr,rfl,_⟩:=h;exact⟨_,rfl,rfl⟩
 |h _ _=>rw[ai]at h;exact h.elim
 |an _ _=>rw[ai]at h;exact h.elim
 |I _ _=>rw[ai]at h;exact h.elim
 |cx _=>rw[ai]at h;obtain⟨v,eY,rfl⟩:=h_.one h;exact⟨v,rfl,eY⟩
 |_=>rw[ai]at h;subst h;exact⟨_,rfl,rfl⟩
theorem j.sV {d:j} (h:d.single=true):(∀ah,d≠.agg ah)∧∀ah,d≠.tuple ah:=
 ⟨fun ah e=>(by subst e;cases h),fun ah e=>(by subst e;cases h)⟩
theorem ar.kG {F:Nat→Prop} {s:ag} {ak:Nat→Value} {d:j} {v:Value} (aM:d.tree=true) (R:d.single=true) (h:ai w F d [v] (fun _=>False)):ar w F s ak d v (fun _=>False):=by
 obtain⟨dM,e,U⟩:=ai.one h (j.sV R).1 (j.sV R).2
 have:v=dM:=by simpa using e
 subst this
 refine(ar.bx aM).2 ⟨?_,by rw[ek U];exact h⟩
 cases d<;>first|exact U|cases R
mutual
theorem ar.ly {F:Nat→Prop} {s:ag} {ak:Nat→Value}:∀(d:j) (v:Value),d.single=true→ai w F d [v] (fun _=>False)→ar w F s ak d v (fun _=>False)
 | .fn f caps,v,_,h=>by
   rw[ai]at h
   obtain⟨arr,U,aa,aw⟩:=h
   rw[ar]
   exact⟨arr,by simpa using U,cE.ly caps _ aa aw⟩
 | .bool b,v,R,h=>ar.kG rfl R h
 | .c2,v,R,h=>ar.kG rfl R h
 | .int k n,v,R,h=>ar.kG rfl R h
 | .str x,v,R,h=>ar.kG rfl R h
 | .cw,v,R,h=>ar.kG rfl R h
 | .bt,v,R,h=>ar.kG rfl R h
 | .slice xs,v,R,h=>ar.kG rfl R h
 | .aH sz xs,v,R,h=>ar.kG rfl R h
 | .ref d,v,R,h=>ar.kG rfl R h
 | .bm d,v,R,h=>ar.kG rfl R h
 | .h _ _,v,_,h=>by rw[ai]at h;exact h.elim
 | .an _ _,v,_,h=>by rw[ai]at h;exact h.elim
 | .I _ _,v,_,h=>by rw[ai]at h;exact h.elim
 | .cx _,v,R,h=>ar.kG rfl R h
theorem cE.ly {F:Nat→Prop} {s:ag} {ak:Nat→Value}:∀(ds:List j) (vs:List Value),(∀d∈ds,d.single=true)→aJ w F ds vs (fun _=>False)→cE w F s ak ds vs
 |[],vs,_,h=>by rw[aJ]at h;rw[cE];exact h
 |d::ds,vs,R,h=>by
  rw[aJ]at h
  obtain⟨bB,bF,bj,ch,rfl,aa,aw,aN,a8,_⟩:=h
  have ab:=R d (by simp)
  obtain⟨v,rfl,_⟩:=ai.one aa (j.sV ab).1 (j.sV ab).2
  rw[cE]
  exact⟨v,bF,rfl,ar.ly d v ab (ai.mono (fun _ h=>h) _ _ _ _ (fun b I=>aN b I) aa),cE.ly ds bF (fun x ao=>R x (by simp[ao])) (aJ.mono (fun _ h=>h) _ _ _ _ (fun b I=>a8 b I) aw)⟩
end
theorem sW (aQ:C.c5) {T:TypeId} {d:j} {b o:Nat} {cs:List Value} {S:Nat→Prop} (h:e8 w b o cs) (ab:ai w F d cs S)
  (fh:fits C T d=true):
  ∃v,(loadVar T ⟨b,o,none⟩).run C.P w= .ok v w∧ba v=cs∧ct d v:=by
 unfold fits at fh
 by_cases R:∃ah,(C.T T).k= .struct ah
 ·obtain⟨ah,al⟩:=R
  rw[al]at fh
  cases d with
  |agg ds=>
   simp only[beq_iff_eq]at fh
   refine⟨_,DU aQ al h ((ai.length _ _ _ ab).trans fh),rfl,⟨_,rfl⟩⟩
  |_=>simp at fh
 ·have gb:(C.T T).flat=true∧(∀ah,d≠.agg ah)∧(∀ah,d≠.tuple ah):=by
   revert fh R
   cases al:(C.T T).k<;>cases d<;>simp
  obtain⟨v,rfl,U⟩:=ai.one ab gb.2.1 gb.2.2
  refine⟨v,yk aQ gb.1 h,ek U,?_⟩
  cases d<;>first|exact U|exact(gb.2.1 _ rfl).elim|exact(gb.2.2 _ rfl).elim
theorem DV (aQ:C.c5) {T:TypeId} {d:j} {off:Nat} {arr:Array Value} {bB cs bF:List Value} {S:Nat→Prop} (he:arr.toList=bB++(cs++bF)) (bs:bB.length=off) (ab:ai w F d cs S)
  (fh:fits C T d=true):
  ∃v,(part T arr off).run C.P w= .ok v w∧ba v=cs∧ct d v:=by
 unfold fits at fh
 by_cases R:∃ah,(C.T T).k= .struct ah
 ·obtain⟨ah,al⟩:=R
  rw[al]at fh
  cases d with
  |agg ds=>
   simp only[beq_iff_eq]at fh
   obtain⟨i,d,z,aG,aL,a1,b2,cb,bp,bk⟩:=aQ.info (dF al (by simp))
   have hl:cs.length=(C.T T).sz:=(ai.length _ _ _ ab).trans fh
   have ao:(arr.extract off (off+(C.T T).sz)).toList=cs:=by
    rw[Array.toList_extract,he,List.extract_eq_take_drop,←hl,←bs,Nat.add_sub_cancel_left,List.drop_left,List.take_left]
   refine⟨.agg (arr.extract off (off+(C.T T).sz)),?_,by simpa [ba,e_]using ao,⟨_,rfl⟩⟩
   simp[part,yh aQ al,g1 aG,aL]
  |_=>simp at fh
 ·have gb:(C.T T).flat=true∧(∀ah,d≠.agg ah)∧(∀ah,d≠.tuple ah):=by
   revert fh R
   cases al:(C.T T).k<;>cases d<;>simp
  obtain⟨v,rfl,U⟩:=ai.one ab gb.2.1 gb.2.2
  have aY:arr[off]? =some v:=by
   rw[←Array.getElem?_toList,he,←bs,List.getElem?_append_right (Nat.le_refl _)];simp
  refine⟨v,?_,ek U,?_⟩
  ·simp[part,va aQ gb.1,aY]
  ·cases d<;>first|exact U|exact(gb.2.1 _ rfl).elim|exact(gb.2.2 _ rfl).elim
theorem DW (aQ:C.c5) (h:aX w0 F0 X F S s ak w) {T:TypeId} {x:j} {v:Value} (aC:ar w F s ak x v (fun _=>False)) (he:cR C s T x=some av):
  Good C w0 F0 X ak w (Instr.loadAt T v) av s:=by
 unfold cR at he
 split at he
 ·rename_i d
  split at he
  ·rename_i fh
   simp only[Option.some.injEq]at he;subst he
   have iK:=(ar.bx rfl).1 aC
   rw[ai,ek iK.1]at iK
   obtain⟨R,b,o,cO,U,aa,aw,aN⟩:=iK
   simp only[List.cons.injEq,and_true]at U;subst U
   obtain⟨dM,aB,ae,je⟩:=sW aQ aw aN fh
   have cU:(Instr.loadAt T (.pointer (some ⟨b,o,none⟩))).run C.P w= .ok dM w:=by simp[Instr.loadAt,Instr.sureAddr,aB]
   refine⟨dM,w,F,S,cU,h,?_⟩
   by_cases aM:d.tree=true
   ·exact .inr ⟨aM,je,fun _=>False,by rw[ae];exact aN,fun _ h=>h.elim,fun _ h=>h.elim,fun _ _ h=>h.elim,fun _ h=>h.elim⟩
   ·cases d<;>first|exact(aM rfl).elim|(rw[ai]at aN;exact aN.elim)|exact .inl ⟨rfl,by rw[ar];trivial⟩|(have a8:=aN;rw[ai]at a8;obtain⟨arr,e,_⟩:=a8;rw[←ae]at e aN;rw[ek (by exact je)]at aN;exact .inl ⟨rfl,ar.ly _ _ rfl aN⟩)
  ·cases he
 ·rename_i y k
  split at he
  ·rename_i ds jH
   split at he
   ·cases he
   ·rename_i q6
    split at he
    ·rename_i i ay
     split at he
     ·rename_i d ab
      split at he
      ·rename_i fh
       simp only[Option.some.injEq]at he
       have eE:(s y).plain=false:=by rw[jH];simp only[j.plain];simpa using q6
       rw[ar]at aC
       obtain⟨b,cur,e,fr,rfl,aa,aw,aN⟩:=aC eE
       have aT:=h.b5 y
       rw[jH]at aT
       have ym:=((ar.bx rfl).1 aT).2
       rw[ai]at ym
       obtain⟨bB,dB,bF,bj,e9,eQ,e1,dD,eK,fo,dK,iG⟩:=aJ.pick ds _ _ i d ym ab
       have gK:e8 w b k dB:=by
        intro ad c aU
        have cC:ad<dB.length:=(List.getElem?_eq_some_iff.1 aU).1
        have:cur.toList[k+ad]? =some c:=by
         rw[aN,eQ,List.getElem?_append_right (by omega),List.getElem?_append_left (by omega),←aU];congr 1;omega
        simp[World.cell?,aw]
        simpa using this
       obtain⟨dM,aB,ae,je⟩:=sW aQ gK dK fh.2
       have cU:(Instr.loadAt T (.pointer (some ⟨b,k,none⟩))).run C.P w= .ok dM w:=by simp[Instr.loadAt,Instr.sureAddr,aB]
       refine⟨dM,w,F,S,cU,h,?_⟩
       split at he
       ·rename_i an
        subst he
        by_cases aM:d.tree=true
        ·exact .inl ⟨an,(ar.bx aM).2 ⟨je,by rw[ae];exact ai.plain _ _ _ _ an dK⟩⟩
        ·cases d<;>first|exact(aM rfl).elim|(rw[ai]at dK;exact dK.elim)|exact .inl ⟨rfl,by rw[ar];trivial⟩|(have a8:=ai.plain _ _ _ (fun _=>False) an dK;rw[←ae]at a8;rw[ek (by exact je)]at a8;exact .inl ⟨rfl,ar.ly _ _ rfl a8⟩)
       ·subst he
        refine .inl ⟨rfl,?_⟩
        rw[ar]
        intro d2 fg _
        rw[jH]at fg⊢
        simp only[j.sub,ab,Option.some.injEq]at fg
        subst fg
        refine⟨dB,none,?_,ae,je⟩
        simp only[b0,ab]
        rw[eQ,nY bB dB bF _ _ e1 (ai.length _ _ _ dK)]
        rfl
      ·cases he
     ·cases he
    ·cases he
  ·cases he
 ·rename_i x _ _
  split at he
  ·rename_i y q hl
   split at he
   ·rename_i d ab
    split at he
    ·rename_i fh
     simp only[Option.some.injEq]at he
     obtain⟨kH,bG,b,o,rfl,g_⟩:=u6 h aC hl ab
     have aT:=h.b5 y
     rw[ar.bx (fa ab (.inr kH))]at aT
     obtain⟨dC,bM,cI,df,k0,bb,bq,cD,b1,cZ⟩:=ctx q (s y) (ba (ak y)) (S y) none _ aT.2 ab
     rw[k0]at g_
     simp only[Option.some.injEq,Prod.mk.injEq,true_and]at g_
     obtain⟨rfl,rfl⟩:=g_
     have gK:e8 w b o dC:=by
      rcases cZ with⟨l,r,aG,aL,_⟩|⟨dr,cur,e,fr,l,r,aG,aL,a1,b2,cb,_⟩
      ·simp at aL
      ·simp only[Option.some.injEq,Prod.mk.injEq]at aG
       obtain⟨rfl,rfl⟩:=aG
       intro ad c aU
       have cC:ad<dC.length:=(List.getElem?_eq_some_iff.1 aU).1
       have:cur.toList[l.length+ad]? =some c:=by
        rw[cb,List.getElem?_append_right (by omega),List.getElem?_append_left (by omega),←aU];congr 1;omega
       simp[World.cell?,a1]
       simpa using this
     obtain⟨dM,aB,ae,je⟩:=sW aQ gK b1 fh
     have cU:(Instr.loadAt T (.pointer (some ⟨b,o,none⟩))).run C.P w= .ok dM w:=by simp[Instr.loadAt,Instr.sureAddr,aB]
     refine⟨dM,w,F,S,cU,h,?_⟩
     split at he
     ·rename_i an
      subst he
      by_cases aM:d.tree=true
      ·exact .inl ⟨an,(ar.bx aM).2 ⟨je,by rw[ae];exact ai.plain _ _ _ _ an b1⟩⟩
      ·cases d<;>first|exact(aM rfl).elim|(rw[ai]at b1;exact b1.elim)|exact .inl ⟨rfl,by rw[ar];trivial⟩|(have a8:=ai.plain _ _ _ (fun _=>False) an b1;rw[←ae]at a8;rw[ek (by exact je)]at a8;exact .inl ⟨rfl,ar.ly _ _ rfl a8⟩)
     ·subst he
      refine .inl ⟨rfl,?_⟩
      rw[ar]
      intro d2 fg _
      rw[ab]at fg
      simp only[Option.some.injEq]at fg
      subst fg
      exact⟨_,_,k0,ae,je⟩
    ·cases he
   ·cases he
  ·cases he
mutual
theorem ai.n7 {F:Nat→Prop}:∀(d:j) (cs:List Value) (S:Nat→Prop),ai w F d cs S→∀c∈cs,Value.dZ c=true
 | .hole,cs,S,h=>by rw[ai]at h;obtain⟨v,h,rfl⟩:=h;simpa using h
 | .bool _,cs,S,h=>by rw[ai]at h;subst h;simp[Value.dZ]
 | .c2,cs,S,h=>by rw[ai]at h;obtain⟨b,rfl⟩:=h;simp[Value.dZ]
 | .int _ _,cs,S,h=>by rw[ai]at h;subst h;simp[Value.dZ]
 | .str _,cs,S,h=>by rw[ai]at h;subst h;simp[Value.dZ]
 | .cw,cs,S,h=>by rw[ai]at h;subst h;simp[Value.dZ]
 | .bt,cs,S,h=>by rw[ai]at h;subst h;simp[Value.dZ]
 | .slice xs,cs,S,h=>by
   rw[ai]at h
   rcases h with⟨_,a,c,rfl,_⟩|⟨b,o,cap,cO,sz,rfl,_⟩<;>simp[Value.dZ]
 | .aH sz xs,cs,S,h=>by
   rw[ai]at h
   rcases h with⟨_,_,rfl⟩|⟨b,cap,cur,e,fr,az,rfl,_⟩<;>simp[Value.dZ]
 | .ref d,cs,S,h=>by rw[ai]at h;obtain⟨b,o,cO,rfl,_⟩:=h;simp[Value.dZ]
 | .bm d,cs,S,h=>by rw[ai]at h;obtain⟨b,o,cO,_,_,rfl,_⟩:=h;simp[Value.dZ]
 | .agg ah,cs,S,h=>by rw[ai]at h;exact aJ.n7 ah _ _ h
 | .tuple ah,cs,S,h=>by rw[ai]at h;exact aJ.n7 ah _ _ h
 | .fn _ _,cs,S,h=>by rw[ai]at h;obtain⟨arr,rfl,_⟩:=h;simp[Value.dZ]
 | .h _ _,cs,S,h=>by rw[ai]at h;exact h.elim
 | .an _ _,cs,S,h=>by rw[ai]at h;exact h.elim
 | .I _ _,cs,S,h=>by rw[ai]at h;exact h.elim
 | .cx _,cs,S,h=>by rw[ai]at h;obtain⟨v,eY,rfl⟩:=h_.one h;simpa using eY
theorem aJ.n7 {F:Nat→Prop}:∀(ds:List j) (cs:List Value) (S:Nat→Prop),aJ w F ds cs S→∀c∈cs,Value.dZ c=true
 |[],cs,S,h=>by rw[aJ]at h;subst h;simp
 |d::ds,cs,S,h=>by
  rw[aJ]at h
  obtain⟨bB,bF,bj,ch,rfl,aa,aw,_⟩:=h
  intro c ae
  rcases List.mem_append.1 ae with ae|ae
  ·exact ai.n7 d _ _ aa c ae
  ·exact aJ.n7 ds _ _ aw c ae
end
theorem vb {P:Program} {b o:Nat} {e:TypeId} {fr:Nat×Nat}:∀(vs:List Value) (i:Nat) (cur:Array Value) (w:World) (l m r:List Value),w.heap[b]? =some (.cells cur e fr)→hM fr cur.size→
  cur.toList=l++(m++r)→l.length=o+i→m.length=vs.length→(∀v∈vs,Value.dZ v=true)→
  ∃aq,(storeCells ⟨b,o,none⟩ vs i).run P w= .ok () aq∧aq.heap[b]? =some (.cells (l++(vs++r)).toArray e fr)∧(∀c,c≠b→aq.heap[c]? =w.heap[c]?)∧aq.heap.size=w.heap.size∧aq.os=w.os∧aq.tape=w.tape∧Out aq w
 |[],i,cur,w,l,m,r,I,bc,ae,hl,hm,_=>by
  refine⟨w,rfl,?_,fun _ _=>rfl,rfl,rfl,rfl,Out.refl _⟩
  have:m=[]:=by simpa using hm
  subst this
  rw[I]
  have:cur=(l++([]++r)).toArray:=by rw[←ae]
  rw[←this]
 |v::vs,i,cur,w,l,m,r,I,bc,ae,hl,hm,sX=>by
  obtain⟨x,m,rfl⟩:∃x gL,m=x::gL:=by cases m with
   |nil=>simp at hm
   |cons x m=>exact⟨x,m,rfl⟩
  have hlen:cur.size=(l++(x::m++r)).length:=by rw[←ae];simp
  have cC:o+i<cur.size:=by rw[hlen];simp;omega
  have na:w.cell? ⟨b,o+i,none⟩=some cur[o+i]:=by simp[World.cell?,I,cC]
  have DX:w.frozen? ⟨b,o+i,none⟩=false:=by
   have:=bc (o+i) cC
   simp only[World.frozen?,I]
   simp only[Bool.and_eq_false_iff,decide_eq_false_iff_not]
   by_cases U:fr.1≤o+i
   ·right;exact fun aa=>this ⟨U,aa⟩
   ·left;exact U
  have nb:(w.setCell ⟨b,o+i,none⟩ v).heap[b]? =some (.cells ((l++[v])++(m++r)).toArray e fr):=by
   simp only[World.setCell,Array.getElem?_modify,if_true,I,Option.map_some,Option.isSome_none,Bool.false_eq_true,if_false]
   congr 2
   apply Array.ext'
   rw[Array.toList_setIfInBounds,ae,←hl,List.set_append_right _ _ (Nat.le_refl _)]
   simp
  have j0:(store ((⟨b,o,none⟩:Addr).add i) v).run P w= .ok () (w.setCell ⟨b,o+i,none⟩ v):=by
   have U:=sX v (by simp)
   rw[Addr.add_lit]
   cases v<;>first|(simp[Value.dZ]at U;done)|simp[Go.store,Sem.run,na,DX]
  obtain⟨aq,aE,aO,bg,cd,cQ,d_,eF⟩:=vb (P:=P) (b:=b) (o:=o) vs (i+1) _ (w.setCell ⟨b,o+i,none⟩ v) (l++[v]) m r nb (by
   have:(l++[v]++(m++r)).toArray.size=cur.size:=by rw[hlen];simp
   rw[this];exact bc) (by simp) (by simp;omega) (by simpa using hm) (fun u hu=>sX u (by simp[hu]))
  refine⟨aq,?_,by simpa using aO,fun c ae=> ?_,?_,cQ,d_,eF⟩
  ·simp only[storeCells,Sem.run_bind,j0,Result.andThen];exact aE
  ·rw[bg c ae]
   simp only[World.setCell,Array.getElem?_modify]
   rw[if_neg (fun e=>ae e.symm)]
  ·rw[cd];simp[World.setCell]
theorem q7 {d:j} {v:Value} (h:ct d v) (ab:∀ah,d≠.tuple ah):v.cells=(ba v).toArray:=by
 cases d with
 |tuple ah=>exact(ab _ rfl).elim
 |agg ah=>obtain⟨arr,rfl⟩:=h;simp[Value.cells,ba,e_]
 |_=>
  have U:Value.dZ v=true:=h
  rw[ek U]
  cases v<;>first|rfl|(simp[Value.dZ]at U)
def ea (C:bo) (s:ag) (T:TypeId) (x y:j):Option ag:=
 match bK s y,loc s x with
 |some (d,s1),some (z,q)=>match d with
  | .tuple _=>none
  |d=>match j.sub q (s z)with
   |some d0=>if d.wd=d0.wd∧d.wd=(C.T T).sz∧(C.T T).ok=true∧y.owner≠some z then some (b4 (ff z s1) z (j.put q d (s z)))else none
   |none=>none
 |_,_=>none
theorem DY {s s1:ag} {y d:j} {z:Nat} (h:bK s y=some (d,s1)) (bf:(s z).tree=true) (aT:y.owner≠some z):s1 z=s z:=by
 cases y with
 |h x q=>
  simp only[bK]at h
  split at h
  ·split at h
   ·cases h
   ·simp only[Option.some.injEq,Prod.mk.injEq]at h
    obtain⟨_,rfl⟩:=h
    rw[gB _ _ (fun e=>aT (by rw[j.owner,e]))]
    exact uY bf
  ·cases h
 |an x q=>simp[bK]at h
 |I x q=>simp[bK]at h
 |fn f c=>simp[bK]at h
 |hole=>simp[bK]at h
 |_=>simp only[bK,Option.some.injEq,Prod.mk.injEq]at h;rw[h.2]
theorem DZ (aQ:C.c5) (h:aX w0 F0 X F S s ak w) {T:TypeId} {x y:j} {fb fE:Value} (vc:ar w F s ak x fb (fun _=>False)) (aT:y.plain=true) (D0:ar w F s ak y fE (fun _=>False))
  {s2:ag} (he:ea C s T x y=some s2):
  ∃aq az,(Instr.storeAt T fb fE).run C.P w= .ok () aq∧aX w0 F0 X F az s2 ak aq:=by
 unfold ea at he
 split at he
 ·rename_i d s1 z q aM hl
  have key:∀d:j,(∀ah,d≠.tuple ah)→bK s y=some (d,s1)→(match j.sub q (s z)with
   |some d0=>if d.wd=d0.wd∧d.wd=(C.T T).sz∧(C.T T).ok=true∧y.owner≠some z then some (b4 (ff z s1) z (j.put q d (s z)))else none
   |none=>none)=some s2→∃aq az,(Instr.storeAt T fb fE).run C.P w= .ok () aq∧aX w0 F0 X F az s2 ak aq:=by
   intro d mn aM he
   split at he
   ·rename_i d0 jf
    split at he
    ·rename_i n8
     obtain⟨U,aa,aw,aN⟩:=n8
     simp only[Option.some.injEq]at he;subst he
     obtain⟨kH,bG,b,o,rfl,g_⟩:=u6 h vc hl jf
     obtain⟨bj,dL,aE,aO,Sn,bg,cd,cQ,d_,eF,fQ⟩:=kF h aT D0 aM
     have cm:s1 z=s z:=DY aM (fa jf (.inr kH)) aN
     rw[←cm]at jf kH g_⊢
     obtain⟨dC,dr,l,r,cur,e,fr,k0,bb,bq,cD,b1⟩:=dL.store jf kH bg U cd cQ d_ eF
     rw[g_]at k0
     simp only[Option.some.injEq,Prod.mk.injEq,true_and]at k0
     obtain⟨rfl,rfl,rfl⟩:=k0
     obtain⟨i,d,mm,aG,aL,a1,b2,cb,bp,bk⟩:=aQ.info aw
     have hlen:=ai.length _ _ _ bg
     have hm:bG.length=(ba fE).length:=by
      have n9:=dL.b5 z
      rw[ar.bx (fa jf (.inr kH))]at n9
      obtain⟨_,_,_,_,kC,_,_,_,po,_⟩:=ctx q (s1 z) (ba (ak z)) (bj z) none _ n9.2 jf
      rw[g_]at kC
      simp only[Option.some.injEq,Prod.mk.injEq,true_and]at kC
      rw[kC.1,ai.length _ _ _ po,hlen,U]
     obtain⟨aq,eb,fc,gn,kI,lz,eG,mo⟩:=vb (P:=C.P) (b:=b) (o:=l.length) (e:=e) (fr:=fr) (ba fE) 0 cur w l bG r bb cD bq rfl hm (ai.n7 _ _ _ bg)
     obtain⟨az,cZ⟩:=b1 aq fc gn kI lz eG mo
     refine⟨aq,az,?_,cZ⟩
     have kJ:=q7 aO mn
     simp[Instr.storeAt,Instr.sureAddr,storeVar,g1 aG,aL,kJ,hlen,aa,eb]
    ·cases he
   ·cases he
  split at he
  ·cases he
  ·rename_i mn
   exact key _ (fun ah e=>mn ah e) aM he
 ·cases he
theorem aX.alloc (h:aX w0 F0 X F S s ak w) {d:j} {cs:List Value} {Sn:Nat→Prop} (e:TypeId) (aC:ai w F d cs Sn)
  (cC:∀b,Sn b→b<w.heap.size) (aS:∀b,Sn b→¬F b) (a_:∀u b,Sn b→¬S u b) (bu:∀b,Sn b→X b∨w0.heap.size≤b):
  aX w0 F0 X F S s ak (w.alloc (.cells cs.toArray e))∧
   hQ w0 X F S s ak (w.alloc (.cells cs.toArray e)) (.bm d) (.pointer (some ⟨w.heap.size,0,none⟩)):=by
 have hold:∀b,b<w.heap.size→(w.alloc (.cells cs.toArray e)).heap[b]? =w.heap[b]? :=by
  intro b I
  show(w.heap.push _)[b]? =_
  rw[Array.getElem?_push,if_neg (by omega)]
 refine⟨h.grow hold (by simp) rfl rfl ⟨rfl,fun _=>Nat.le_refl _⟩,.inr ⟨rfl,rfl,fun b=>b=w.heap.size∨Sn b,?_,?_,?_,?_,?_⟩⟩
 ·rw[ai]
  refine⟨w.heap.size,cs.toArray,e,(0,0),Sn,rfl,.inl rfl,?_,?_,?_,fun c ae=>.inr ae,fun ae=>Nat.lt_irrefl _ (cC _ ae)⟩
  ·show(w.heap.push _)[_]? =_
   simp
  ·intro o _ ⟨_,aa⟩;exact absurd aa (Nat.not_lt_zero _)
  ·exact ai.frame (fun b I=>hold b (h.db b I)) _ _ _ (fun b I=>hold b (cC b I)) aC
 ·rintro b (rfl|I)
  ·simp
  ·have:=cC b I;simp;omega
 ·rintro b (rfl|I) mq
  ·exact Nat.lt_irrefl _ (h.db _ mq)
  ·exact aS b I mq
 ·rintro u b (rfl|I) hu
  ·exact Nat.lt_irrefl _ (h.cT _ _ hu)
  ·exact a_ u b I hu
 ·rintro b (rfl|I)
  ·exact .inr h.size
  ·exact bu b I
def eR (C:bo) (T:TypeId):Option j:=if(C.T T).ok=true then(match(C.T T).k,(C.T T).zero with
    | .dO e,.agg [.cw,.bt]=>some (.cx (.fB T e []))
    | .dO _,_=>none
    |_,z=>(match flat z with|some _=>some (.bm z)|none=>none))else none
theorem D1 (aQ:C.c5) (h:aX w0 F0 X F S s ak w) {T:TypeId} (he:eR C T=some av):Good C w0 F0 X ak w (Instr.alloc T true (.tuple #[])) av s:=by
 unfold eR at he
 split at he
 ·rename_i al
  split at he
  ·rename_i Rn Ro n_
   simp only[Option.some.injEq]at he;subst he
   obtain⟨i,d,z,aG,aL,a1,b2,cb,bp,bk⟩:=aQ.info al
   have bf:=cb [.pointer none,.slice none 0 0] (by rw[n_];rfl)
   have hold:∀b,b<w.heap.size→(w.alloc (.cells #[.pointer none,.slice none 0 0] T)).heap[b]? =w.heap[b]? :=by
    intro b I
    show(w.heap.push _)[b]? =_
    rw[Array.getElem?_push,if_neg (by omega)]
   refine⟨.pointer (some ⟨w.heap.size,0,none⟩),w.alloc (.cells #[.pointer none,.slice none 0 0] T),F,S,?_,h.grow hold (by simp) rfl rfl ⟨rfl,fun _=>Nat.le_refl _⟩,.inr ⟨rfl,rfl,fun b=>b=w.heap.size,?_,?_,?_,?_,?_⟩⟩
   ·simp[Instr.alloc,n6 aG b2,newVar,newRow,newObj,Sem.run,bf]
   ·rw[ai]
    refine⟨w.heap.size,.pointer none,.slice none 0 0,rfl,rfl,?_,.inl rfl,.inl ⟨rfl,rfl⟩⟩
    show(w.heap.push _)[_]? =_
    simp
   ·rintro b rfl;simp
   ·rintro b rfl mq;exact Nat.lt_irrefl _ (h.db _ mq)
   ·rintro u b rfl hu;exact Nat.lt_irrefl _ (h.cT _ _ hu)
   ·rintro b rfl;exact .inr h.size
  ·cases he
  split at he
  ·rename_i cs eQ
   simp only[Option.some.injEq]at he;subst he
   obtain⟨i,d,z,aG,aL,a1,b2,cb,bp,bk⟩:=aQ.info al
   have bf:=cb cs eQ
   obtain⟨dw,cy⟩:=h.alloc (d:=(C.T T).zero) T ((ai.flat _).1 _ cs (fun _=>False) (Nat.le_refl _) eQ) (fun _ h=>h.elim) (fun _ h=>h.elim) (fun _ _ h=>h.elim) (fun _ h=>h.elim)
   refine⟨_,_,F,S,?_,dw,cy⟩
   simp[Instr.alloc,n6 aG b2,newVar,newRow,newObj,Sem.run,bf]
  ·cases he
 ·cases he
def dd (s:ag) (x:j):Option (j×ag):=match bK s x with
 |some (.tuple _,_)=>none
 |some (d,s1)=>some (.bm d,s1)
 |none=>none
def hU (s:ag) (x:j):Option (j×ag):=match x with
 | .h y q=>match q,s y with
   |[],.agg ds=>if j.dE ds then none else some (.I y 0,s)
   |_,_=>none
 | .fn f caps=>if caps.all (fun d=>d.single&&(d.tree&&d.plain))=true then some (.ref (.fn f caps),s)else none
 |_=>none
theorem aJ.yn {w:World} {F a7:Nat→Prop} {s:ag} {ak:Nat→Value} (aS:∀b,F b→a7 b):∀(ds:List j) (vs:List Value),(∀d∈ds,d.single=true∧d.tree=true∧d.plain=true)→cE w F s ak ds vs→aJ w a7 ds vs (fun _=>False)
 |[],vs,_,h=>by rw[cE]at h;rw[aJ];exact h
 |d::ds,vs,R,h=>by
  rw[cE]at h
  obtain⟨v,gA,rfl,U,aa⟩:=h
  obtain⟨d1,d2,d3⟩:=R d (by simp)
  have aw:=(ar.bx d2).1 U
  have bs:Value.dZ v=true:=by
   have:=aw.1
   cases d<;>first|exact this|cases d1
  have aN:=aw.2
  rw[ek bs]at aN
  rw[aJ]
  exact⟨[v],gA,fun _=>False,fun _=>False,rfl,ai.mono aS _ _ _ _ (fun _ h=>h) aN,aJ.yn aS ds gA (fun x ao=>R x (by simp[ao])) aa,fun _ h=>h,fun _ h=>h,fun _ h=>h.elim⟩
theorem D2 {T:TypeId} {v:Value} (h:aX w0 F0 X F S s ak w):aX w0 F0 X (fun b=>F b∨b=w.heap.size) S s ak (w.alloc (.cells (ba v).toArray T)):=by
 have hold:∀b,b<w.heap.size→(w.alloc (.cells (ba v).toArray T)).heap[b]? =w.heap[b]? :=by
  intro b I
  show(w.heap.push _)[b]? =_
  rw[Array.getElem?_push,if_neg (by omega)]
 have U:=h.grow hold (by simp) rfl rfl ⟨rfl,fun _=>Nat.le_refl _⟩
 exact {
  er:=fun b I=>.inl (U.er b I)
  eL:=fun b I=>by
   rcases I with I|rfl
   ·exact U.eL b I
   ·exact .inr (.inr h.size)
  db:=fun b I=>by
   rcases I with I|rfl
   ·exact U.db b I
   ·simp
  cT:=U.cT
  dp:=fun t b I bc=>by
   rcases bc with bc|rfl
   ·exact U.dp t b I bc
   ·exact absurd (h.cT t _ I) (Nat.lt_irrefl _)
  c8:=U.c8
  cl:=U.cl
  b5:=fun t=>ar.frame (fun _ _=>rfl) (fun b I=>.inl I) (fun _ _ _=>rfl) U.b5 _ _ _ (fun _ _=>rfl) (U.b5 t)
  old:=U.old
  size:=U.size
  os:=U.os
  tape:=U.tape
  output:=U.output
  et:=h.et}
theorem D3 (h:aX w0 F0 X F S s ak w) {T:TypeId} {x:j} {v:Value} (aC:ar w F s ak x v (fun _=>False)) (he:hU s x=some (av,s1)):
  Good C w0 F0 X ak w (Instr.box T v) av s1:=by
 unfold hU at he
 split at he
 ·rename_i y q
  split at he
  ·rename_i ds jH
   split at he
   ·cases he
   ·rename_i q6
    simp only[Option.some.injEq,Prod.mk.injEq]at he
    obtain⟨rfl,rfl⟩:=he
    rw[ar]at aC
    obtain⟨bG,a,aE,aO,bg⟩:=aC (s y) (by simp only[j.sub]) (by rw[jH];simp only[j.plain];simpa using q6)
    simp only[b0,Option.some.injEq,Prod.mk.injEq,true_and]at aE
    rw[jH]at bg
    have kJ:=q7 bg (fun ah e=>by cases e)
    have hold:∀b,b<w.heap.size→(w.alloc (.cells (ba v).toArray T)).heap[b]? =w.heap[b]? :=by
     intro b I
     show(w.heap.push _)[b]? =_
     rw[Array.getElem?_push,if_neg (by omega)]
    refine⟨.pointer (some ⟨w.heap.size,0,none⟩),w.alloc (.cells (ba v).toArray T),fun b=>F b∨b=w.heap.size,S,by simp[Instr.box,newVar,newRow,newObj,Sem.run,kJ],?_,.inl ⟨rfl,?_⟩⟩
    ·have U:=h.grow hold (by simp) rfl rfl ⟨rfl,fun _=>Nat.le_refl _⟩
     exact {
      er:=fun b I=>.inl (U.er b I)
      eL:=fun b I=>by
       rcases I with I|rfl
       ·exact U.eL b I
       ·exact .inr (.inr h.size)
      db:=fun b I=>by
       rcases I with I|rfl
       ·exact U.db b I
       ·simp
      cT:=U.cT
      dp:=fun t b I bc=>by
       rcases bc with bc|rfl
       ·exact U.dp t b I bc
       ·exact absurd (h.cT t _ I) (Nat.lt_irrefl _)
      c8:=U.c8
      cl:=U.cl
      b5:=fun t=>ar.frame (fun _ _=>rfl) (fun b I=>.inl I) (fun _ _ _=>rfl) U.b5 _ _ _ (fun _ _=>rfl) (U.b5 t)
      old:=U.old
      size:=U.size
      os:=U.os
      tape:=U.tape
      output:=U.output
      et:=h.et}
    ·rw[ar]
     intro _
     refine⟨w.heap.size,(ba v).toArray,T,(0,0),rfl,.inr rfl,?_,?_⟩
     ·show(w.heap.push _)[_]? =_
      simp
     ·rw[aE.1,←aO]
  ·cases he
 ·rename_i f caps
  split at he
  ·rename_i ae
   simp only[Option.some.injEq,Prod.mk.injEq]at he
   obtain⟨rfl,rfl⟩:=he
   have eQ:∀d∈caps,d.single=true∧d.tree=true∧d.plain=true:=fun d ab=>by
    have:=List.all_eq_true.1 ae d ab
    simpa only[Bool.and_eq_true]using this
   rw[ar]at aC
   obtain⟨arr,rfl,aC⟩:=aC
   have kJ:=q7 (d:=.fn f caps) (v:=.func (.func f) #[] arr) rfl (fun ah e=>by cases e)
   have aY:=D2 (T:=T) (v:=.func (.func f) #[] arr) h
   refine⟨.pointer (some ⟨w.heap.size,0,none⟩),w.alloc (.cells (ba (.func (.func f) #[] arr)).toArray T),fun b=>F b∨b=w.heap.size,S,by simp[Instr.box,newVar,newRow,newObj,Sem.run,kJ],aY,.inl ⟨rfl,?_⟩⟩
   refine(ar.bx rfl).2 ⟨rfl,?_⟩
   rw[ai]
   refine⟨w.heap.size,0,[.func (.func f) #[] arr],rfl,.inr rfl,?_,?_⟩
   ·have jc:(w.alloc (.cells (ba (.func (.func f) #[] arr)).toArray T)).heap[w.heap.size]? =some (.cells (ba (.func (.func f) #[] arr)).toArray T (0,0)):=by
     show(w.heap.push _)[_]? =_
     simp
    intro ad c aU
    cases ad with
    |zero=>
     simp only[List.getElem?_cons_zero,Option.some.injEq]at aU
     subst aU
     have e:ba (.func (.func f) #[] arr)=[.func (.func f) #[] arr]:=ek rfl
     unfold World.cell?
     show(match(w.alloc (.cells (ba (.func (.func f) #[] arr)).toArray T)).heap[w.heap.size]? with
      |some (.cells c _ _)=>c[0+0]?
      |_=>none)=_
     rw[jc,e]
     rfl
    |succ ad=>simp at aU
   ·rw[ai]
    refine⟨arr,rfl,fun d ab=>(eQ d ab).1,?_⟩
    have a8:=aJ.yn (a7:=F) (fun b I=>I) caps arr.toList eQ aC
    refine aJ.mono (F:=F) (fun b I=>.inl I) caps _ _ _ (fun _ h=>h) (aJ.frame (fun b I=> ?_) caps _ _ (fun _ h=>h.elim) a8)
    have cC:=h.db b I
    show(w.heap.push _)[b]? =_
    rw[Array.getElem?_push,if_neg (by omega)]
  ·cases he
 ·cases he
theorem D4 (h:aX w0 F0 X F S s ak w) {T:TypeId} {x:j} {v:Value} (ao:x.plain=true) (aC:ar w F s ak x v (fun _=>False)) (he:dd s x=some (av,s1)):
  Good C w0 F0 X ak w (Instr.box T v) av s1:=by
 unfold dd at he
 split at he
 ·cases he
 ·rename_i d s2 mn aM
  simp only[Option.some.injEq,Prod.mk.injEq]at he
  obtain⟨rfl,rfl⟩:=he
  obtain⟨bj,dL,aE,aO,Sn,bg,cd,cQ,d_,eF,fQ⟩:=kF h ao aC aM
  obtain⟨dw,cy⟩:=dL.alloc T bg cd cQ d_ eF
  refine⟨_,_,F,bj,?_,dw,cy⟩
  have kJ:=q7 aO (fun ah e=>mn ah e)
  simp[Instr.box,newVar,newRow,newObj,Sem.run,kJ]
 ·cases he
end
end Go.bZ
