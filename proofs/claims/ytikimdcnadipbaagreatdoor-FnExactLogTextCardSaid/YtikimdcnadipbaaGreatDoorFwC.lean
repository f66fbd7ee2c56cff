/- Part of a proof that a law returns true for every input. No condition. -/
import Derived.Test.YtikimdcnadipbaaGreatDoorFwB
import Derived.Laws.Entries
namespace Go.bZ
inductive ki where
 |int (k:IntKind)
 |bool
 |str
 |ptr (e:TypeId)
 |slice (e:TypeId)
 |struct (aj:List (TypeId×Nat))
 |fn
 |dP (e:TypeId)
 |map (k e:TypeId)
 |other
structure ee where
 k:ki
 sz:Nat
 bytes:Nat
 zero:I
mutual
def flat:I→Option (List Value)
 | .bool b=>some [.bool b]
 | .int k n=>some [.int k n]
 | .str s=>some [.string ⟨⟨s⟩⟩]
 | .cw=>some [.pointer none]
 | .bu=>some [.slice none 0 0]
 | .agg aj=>mO aj
 | .b9 .nN=>some [.map none]
 |_=>none
def mO:List I→Option (List Value)
 |[]=>some []
 |d::ds=>match flat d,mO ds with
  |some a,some b=>some (a++b)
  |_,_=>none
end
theorem ak.flat {w:World} {F:Nat→Prop}:∀n,(∀(d:I) (cs:List Value) (S:Nat→Prop),SizeOf.sizeOf d≤n→flat d=some cs→ak w F d cs S)∧
  (∀(ds:List I) (cs:List Value) (S:Nat→Prop),SizeOf.sizeOf ds≤n→mO ds=some cs→aL w F ds cs S):=by
 intro n
 induction n with
 |zero=>exact⟨fun d _ _ bd=>by cases d<;>simp at bd<;>omega,fun ds _ _ bd=>by cases ds<;>simp at bd<;>omega⟩
 |succ n ih=>
  refine⟨fun d cs S bd h=> ?_,fun ds cs S bd h=> ?_⟩
  ·cases d with
   |agg aj=>rw[ak];exact ih.2 aj cs S (by simp at bd;omega) (by simpa [bZ.flat]using h)
   |bool b=>simp[bZ.flat]at h;subst h;rw[ak]
   |int k n=>simp[bZ.flat]at h;subst h;rw[ak]
   |str s=>simp[bZ.flat]at h;subst h;rw[ak]
   |cw=>simp[bZ.flat]at h;subst h;rw[ak]
   |bu=>simp[bZ.flat]at h;subst h;rw[ak]
   |b9 o=>cases o<;>simp[bZ.flat]at h;subst h;rw[ak];rfl
   |_=>simp[bZ.flat]at h
  ·cases ds with
   |nil=>simp[mO]at h;subst h;rw[aL]
   |cons d ds=>
    simp only[mO]at h
    split at h
    ·rename_i a b br J
     simp at h;subst h
     simp at bd
     rw[aL]
     exact⟨a,b,fun _=>False,fun _=>False,rfl,ih.1 d a _ (by omega) br,ih.2 ds b _ (by omega) J,fun _ h=>h.elim,fun _ h=>h.elim,fun _ h=>h.elim⟩
    ·cases h
def ic:ki→TypeDesc→Prop
 | .int k,.int cr=>k=cr
 | .bool,.bool=>True
 | .str,.string=>True
 | .ptr e,.pointer eA=>e=eA
 | .slice e,.slice eA=>e=eA
 | .struct aj,.struct gs=>gs.toList.map (fun g=>(g.type,g.offset))=aj
 | .fn,.func _ _ _=>True
 | .dP _,.struct _=>True
 | .map k e,.map cr eA=>k=cr∧e=eA
 |_,_=>False
def Ar (P:Program) (t:TypeId) (x:ee):Prop:=
 (∃e n b z,x=⟨.other,e,n,b⟩∧z=0)∨
 ∃i d z,P.info? t=some i∧i.size=x.sz∧i.bytes=x.bytes∧i.zero=some z∧(∀cs,flat x.zero=some cs→z.cells=cs.toArray)∧P.underlying t=some d∧ic x.k d
structure bm where
 P:Program
 T:TypeId→ee
 M:FuncId→List Bool
structure bm.db (C:bm):Prop where
 ty:∀t,Ar C.P t (C.T t)
 mixed:C.P.follows .mixedOrders=true
inductive aw where
 |t (n:Nat)
 |c (av:I)
 |f (g:FuncId)
def uc:Value→Option I
 | .bool b=>some (.bool b)
 | .int k n=>some (.int k n)
 | .string s=>some (.str s.data.toList)
 | .pointer none=>some .cw
 | .slice none 0 0=>some .bu
 |_=>none
def cv:Operand→Option aw
 | .tmp n=>some (.t n)
 | .const v=>(uc v).map .c
 | .func g=>some (.f g)
 | .global _=>none
def gp (x:Nat) (d:I):I:=if d.plain then d else .h x []
def az (s:ag):aw→I
 | .t n=>gp n (s n)
 | .c av=>av
 | .f g=>.fn g []
theorem au.nothing {w:World} {F:Nat→Prop} {s:ag} {an:Nat→Value} {d:I} {v:Value} {S aE:Nat→Prop} (ah:d.plain=true) (h:au w F s an d v S):au w F s an d v aE:=by
 cases d<;>first
  |(rw[au];trivial)
  |(rw[au]at h⊢;exact h)
  |(have aT:=(au.bB rfl).1 h;exact(au.bB rfl).2 ⟨aT.1,ak.plain _ _ _ _ ah aT.2⟩)
section
variable {w0 w:World} {F0 X F:Nat→Prop} {S:Nat→Nat→Prop} {s:ag} {an:Nat→Value} {a:Act}
theorem As (s:ag) (x:aw) (af:∀av,x= .c av→av.plain=true):(az s x).plain=true:=by
 cases x with
 |t n=>simp only[az,gp];split<;>first|assumption|rfl
 |c av=>exact af _ rfl
 |f g=>rfl
theorem w5 {v:Value} {av:I} (h:uc v=some av):av.plain=true:=by
 unfold uc at h;split at h<;>simp at h<;>subst h<;>rfl
theorem dv (h:a1 w0 F0 X F S s an w) (cL:∀t,an t=a.tmps.getD t undef) {o:Operand} {x:aw} (bH:cv o=some x):
  (az s x).plain=true∧au w F s an (az s x) (a.eval o) (fun _=>False):=by
 cases o with
 |tmp n=>
  simp[cv]at bH;subst bH
  simp only[az,gp,Act.eval,←cL]
  split
  ·rename_i ah;exact⟨ah,au.nothing ah (h.b2 n)⟩
  ·rename_i ah
   refine⟨rfl,?_⟩
   rw[au]
   intro d ae GB
   simp only[I.sub,Option.some.injEq]at ae;subst ae
   have aK:=fg (q:=[]) rfl (.inl GB)
   exact⟨_,none,rfl,rfl,((au.bB aK).1 (h.b2 n)).1⟩
 |const v=>
  simp only[cv,Option.map_eq_some_iff]at bH
  obtain⟨av,lp,rfl⟩:=bH
  refine⟨w5 lp,?_⟩
  simp only[az,Act.eval]
  unfold uc at lp
  split at lp<;>simp at lp<;>subst lp<;>rw[au,ak]<;>exact⟨rfl,rfl⟩
 |func g=>
  simp[cv]at bH;subst bH
  refine⟨rfl,?_⟩
  simp only[az,Act.eval]
  rw[au]
  exact⟨#[],rfl,by rw[cG]⟩
 |global g=>simp[cv]at bH
def ie (w0:World) (X F:Nat→Prop) (S:Nat→Nat→Prop) (s:ag) (an:Nat→Value) (w:World) (av:I) (v:Value):Prop:=
 (av.plain=true∧au w F s an av v (fun _=>False))∨
 (av.tree=true∧cA av v∧∃Sn,ak w F av (bs v) Sn∧(∀b,Sn b→b<w.heap.size)∧(∀b,Sn b→¬F b)∧(∀u b,Sn b→¬S u b)∧(∀b,Sn b→X b∨w0.heap.size≤b))
def fin (s:ag) (dst:Option Nat) (av:I):ag:=match dst with
 |none=>s
 |some t=>if av.plain then cf s t av else cf (iK t s) t av
def mP (an:Nat→Value) (dst:Option Nat) (v:Value):Nat→Value:=match dst with
 |none=>an
 |some t=>cf an t v
theorem a1.fin (h:a1 w0 F0 X F S s an w) {av:I} {v:Value} (aD:ie w0 X F S s an w av v) (dst:Option Nat):
  ∃aE,a1 w0 F0 X F aE (bZ.fin s dst av) (mP an dst v) w:=by
 cases dst with
 |none=>exact⟨S,h⟩
 |some t=>
  simp only[bZ.fin,mP]
  rcases aD with⟨ah,ae⟩|⟨aK,U,Sn,aa,ab,aB,aP,bb⟩
  ·rw[if_pos ah];exact⟨_,h.rR ah ae⟩
  ·split
   ·rename_i ah
    exact⟨_,h.rR ah ((au.bB aK).2 ⟨U,ak.plain _ _ _ _ ah aa⟩)⟩
   ·exact⟨_,h.Am aK U aa ab aB (fun u b _ J=>aP u b J) bb⟩
def bM (s:ag):I→Option (I×ag)
 | .h x q=>match I.sub q (s x)with
   |some d=>if d.plain then none else some (d,cf (fq x s) x (I.put q d.b0 (s x)))
   |none=>none
 | .ah _ _=>none
 | .J _ _=>none
 | .fn _ _=>none
 | .hole=>none
 |d=>some (d,s)
def I.owner:I→Option Nat
 | .h x _=>some x
 |_=>none
def hQ:Option Nat→I→I
 |some x,d=>bo x d
 |none,d=>d
theorem lq (h:a1 w0 F0 X F S s an w) {av d:I} {s1:ag} {v:Value} (lp:av.plain=true) (aD:au w F s an av v (fun _=>False)) (aK:bM s av=some (d,s1)):
  ∃bk,a1 w0 F0 X F bk s1 an w∧d.tree=true∧cA d v∧∃Sn,ak w F d (bs v) Sn∧(∀b,Sn b→b<w.heap.size)∧(∀b,Sn b→¬F b)∧(∀u b,Sn b→¬bk u b)∧(∀b,Sn b→X b∨w0.heap.size≤b)∧
   (∀u b,bk u b→S u b)∧(∀b,Sn b→∃u,S u b)∧(∀(aX:I) (ct:Value) (aE:Nat→Prop),au w F s an aX ct aE→au w F s1 an (hQ av.owner aX) ct aE):=by
 have tree:∀d:I,d.tree=true→d.plain=true→au w F s an d v (fun _=>False)→
   ∃bk,a1 w0 F0 X F bk s an w∧d.tree=true∧cA d v∧∃Sn,ak w F d (bs v) Sn∧(∀b,Sn b→b<w.heap.size)∧(∀b,Sn b→¬F b)∧(∀u b,Sn b→¬bk u b)∧(∀b,Sn b→X b∨w0.heap.size≤b)∧
    (∀u b,bk u b→S u b)∧(∀b,Sn b→∃u,S u b):=by
  intro d ae _ aT
  have aT:=(au.bB ae).1 aT
  exact⟨S,h,ae,aT.1,_,aT.2,fun _ h=>h.elim,fun _ h=>h.elim,fun _ _ h=>h.elim,fun _ h=>h.elim,fun _ _ h=>h,fun _ h=>h.elim⟩
 cases av with
 |h x q=>
  simp only[bM]at aK
  split at aK
  ·rename_i e he
   split at aK
   ·cases aK
   ·rename_i ah
    simp only[Option.some.injEq,Prod.mk.injEq]at aK
    obtain⟨rfl,rfl⟩:=aK
    have ah:e.plain=false:=by simpa using ah
    obtain⟨Sn,dx,bK,bU,ed,cn,e8,ef,gK,fX,hn⟩:=h.take he ah
    rw[au]at aD
    obtain⟨X6,a2,g1,g2,g3⟩:=aD e he ah
    rw[cn]at g1
    simp only[Option.some.injEq,Prod.mk.injEq,true_and]at g1
    obtain⟨rfl,rfl⟩:=g1
    have w6:e.tree=true:=by cases e<;>first|rfl|(simp[I.plain]at ah)
    refine⟨_,ed,w6,g3,dx,by rw[g2];exact e8,fun b J=>h.cV x b (ef b J),fun b J=>h.dy x b (ef b J),?_,fun b J=>h.cp x b (ef b J),?_,fun b J=>⟨x,ef b J⟩,hn⟩
    ·intro u b J hu
     simp only[ei]at hu
     split at hu
     ·exact fX b J hu
     ·rename_i ud;exact h.dm u x b ud hu (ef b J)
    ·intro u b hu
     simp only[ei]at hu
     split at hu
     ·rename_i e;subst e;exact gK b hu
     ·exact hu
  ·cases aK
 |ah x q=>simp[bM]at aK
 |J x q=>simp[bM]at aK
 |fn f c=>simp[bM]at aK
 |hole=>simp[bM]at aK
 |aG sz xs=>simp[I.plain]at lp
 |bG d=>simp[I.plain]at lp
 |_=>
  simp only[bM,Option.some.injEq,Prod.mk.injEq]at aK
  obtain⟨rfl,rfl⟩:=aK
  obtain⟨bk,t1,t2,t3,Sn,t4,t5,t6,t7,t8,t9,t10⟩:=tree _ rfl lp aD
  exact⟨bk,t1,t2,t3,Sn,t4,t5,t6,t7,t8,t9,t10,fun _ _ _ h=>h⟩
def loc (s:ag):I→Option (Nat×List Nat)
 | .h x q=>match I.sub q (s x)with
   |some (.bG _)=>some (x,q++[0])
   |_=>none
 | .ah x q=>if I.dD q (s x)then some (x,q)else none
 |_=>none
theorem rX:∀(q:List Nat) (av d:I) (r:List Nat),I.sub q av=some d→I.sub (q++r) av=I.sub r d:=by
 intro q
 induction q with
 |nil=>intro av d r h;simp[I.sub]at h;subst h;rfl
 |cons k q ih=>
  intro av d r h
  cases av with
  |agg aj=>
   simp only[I.sub,List.cons_append]at h⊢
   split at h
   ·rename_i x ai;exact ih _ _ _ h
   ·cases h
  |tuple aj=>
   simp only[I.sub,List.cons_append]at h⊢
   split at h
   ·rename_i x ai;exact ih _ _ _ h
   ·cases h
  |aG sz aj=>
   simp only[I.sub,List.cons_append]at h⊢
   split at h
   ·rename_i x ai;exact ih _ _ _ h
   ·cases h
  |bG x=>
   cases k with
   |zero=>simp only[I.sub,List.cons_append]at h⊢;exact ih _ _ _ h
   |succ k=>simp[I.sub]at h
  |_=>simp[I.sub]at h
theorem GC:∀(q:List Nat) (av d:I) (r:List Nat),I.sub q av=some d→I.dD (q++r) av=(I.dD q av||I.dD r d):=by
 intro q
 induction q with
 |nil=>intro av d r h;simp[I.sub]at h;subst h;simp[I.dD]
 |cons k q ih=>
  intro av d r h
  cases av with
  |agg aj=>
   simp only[I.sub]at h
   split at h
   ·rename_i x ai
    simp only[I.dD,List.cons_append,ai]
    exact ih _ _ r h
   ·cases h
  |tuple aj=>
   simp only[I.sub]at h
   split at h
   ·rename_i x ai
    simp only[I.dD,List.cons_append,ai]
    exact ih _ _ r h
   ·cases h
  |aG sz aj=>simp[I.dD]
  |bG x=>simp[I.dD]
  |_=>simp[I.sub]at h
theorem rY (w:World):∀(q:List Nat) (av d:I) (cs bK:List Value) (a bU:Option (Nat×Nat)) (r:List Nat),b_ w q av cs a=some (d,bK,bU)→b_ w (q++r) av cs a=b_ w r d bK bU:=by
 intro q
 induction q with
 |nil=>intro av d cs bK a bU r h;simp[b_]at h;obtain⟨rfl,rfl,rfl⟩:=h;rfl
 |cons k q ih=>
  intro av d cs bK a bU r h
  cases av with
  |agg aj=>
   rw[List.cons_append]
   rw[b_]at h⊢
   split at h
   ·rename_i x ai;exact ih _ _ _ _ _ _ _ h
   ·cases h
  |tuple aj=>
   rw[List.cons_append]
   rw[b_]at h⊢
   split at h
   ·rename_i x ai;exact ih _ _ _ _ _ _ _ h
   ·cases h
  |aG sz aj=>
   rw[List.cons_append]
   rw[b_.eq_def]at h⊢
   simp only at h⊢
   split at h
   ·exact ih _ _ _ _ _ _ _ h
   ·cases h
  |bG x=>
   cases k with
   |zero=>
    rw[List.cons_append]
    rw[b_.eq_def]at h⊢
    simp only at h⊢
    split at h
    ·exact ih _ _ _ _ _ _ _ h
    ·cases h
   |succ k=>rw[show b_ w ((k+1)::q) (.bG x) cs a=none from rfl]at h;cases h
  |_=>simp[b_]at h
end
def ee.ok (x:ee):Bool:=match x.k with
 | .other=>false
 |_=>true
theorem bm.db.info {C:bm} (aV:C.db) {t:TypeId} (h:(C.T t).ok=true):
  ∃i d z,C.P.info? t=some i∧i.size=(C.T t).sz∧i.bytes=(C.T t).bytes∧i.zero=some z∧(∀cs,flat (C.T t).zero=some cs→z.cells=cs.toArray)∧C.P.underlying t=some d∧ic (C.T t).k d:=by
 rcases aV.ty t with⟨e,n,b,z,ai,_⟩|aT
 ·rw[ai]at h;simp[ee.ok]at h
 ·exact aT
theorem dQ {x:ee} {k:ki} (h:x.k=k) (al:k≠.other):x.ok=true:=by
 unfold ee.ok;rw[h];cases k<;>first|rfl|exact(al rfl).elim
theorem rZ {d:TypeDesc} {aj:List (TypeId×Nat)} (h:ic (.struct aj) d):∃gs,d= .struct gs∧gs.toList.map (fun g=>(g.type,g.offset))=aj:=by
 cases d<;>simp[ic]at h
 exact⟨_,rfl,h⟩
theorem ig {d:TypeDesc} {e:TypeId} (h:ic (.slice e) d):d= .slice e:=by
 cases d<;>simp[ic]at h
 rw[h]
theorem r0 {d:TypeDesc} {k:IntKind} (h:ic (.int k) d):d= .int k:=by
 cases d<;>simp[ic]at h
 rw[h]
theorem l1 {d:TypeDesc} (h:ic .str d):d= .string:=by
 cases d<;>simp[ic]at h
 rfl
theorem w7 {d:TypeDesc} (h:ic .bool d):d= .bool:=by
 cases d<;>simp[ic]at h
 rfl
theorem At {d:TypeDesc} {e:TypeId} (h:ic (.ptr e) d):d= .pointer e:=by
 cases d<;>simp[ic]at h
 rw[h]
theorem eC {v:Value} (h:Value.ep v=true):bs v=[v]:=by
 cases v<;>first|rfl|(simp[Value.ep]at h)
theorem oW {P:Program} {t:TypeId} {i:TypeInfo} (h:P.info? t=some i) (w:World):(typeInfo t).run P w= .ok i w:=by simp[typeInfo,h]
theorem ho {P:Program} {t:TypeId} {i:TypeInfo} (h:P.info? t=some i) (w:World):(Go.sizeOf t).run P w= .ok i.size w:=by simp[Go.sizeOf,oW h]
theorem oX {P:Program} {t:TypeId} {i:TypeInfo} {z:Value} (h:P.info? t=some i) (bd:i.zero=some z) (w:World):(zeroValue t).run P w= .ok z w:=by simp[zeroValue,oW h,bd]
section
variable {C:bm} {w0 w:World} {F0 X F:Nat→Prop} {S:Nat→Nat→Prop} {s s1:ag} {an:Nat→Value} {av:I}
def Good (C:bm) (w0:World) (F0 X:Nat→Prop) (an:Nat→Value) (w:World) (m:Sem Value) (av:I) (s1:ag):Prop:=
 ∃v ar a8 aE,m.run C.P w= .ok v ar∧a1 w0 F0 X a8 aE s1 an ar∧ie w0 X a8 aE s1 an ar av v
theorem Good.same (h:a1 w0 F0 X F S s an w) {m:Sem Value} {v:Value} (aC:m.run C.P w= .ok v w) (ah:av.plain=true) (aD:au w F s an av v (fun _=>False)):Good C w0 F0 X an w m av s:=
 ⟨v,w,F,S,aC,h,.inl ⟨ah,aD⟩⟩
theorem w8 (_h:a1 w0 F0 X F S s an w) {x:I} {v:Value} (aD:au w F s an x v (fun _=>False)) {y:Nat} {q:List Nat} (aI:loc s x=some (y,q)) {d:I} (ae:I.sub q (s y)=some d):
  I.dD q (s y)=true∧∃bK b o,v= .pointer (some ⟨b,o,none⟩)∧b_ w q (s y) (bs (an y)) none=some (d,bK,some (b,o)):=by
 cases x with
 |h z c6=>
  simp only[loc]at aI
  split at aI
  ·rename_i e he
   simp only[Option.some.injEq,Prod.mk.injEq]at aI
   obtain⟨rfl,rfl⟩:=aI
   rw[au]at aD
   obtain⟨bK,a,g1,g2,g3⟩:=aD _ he rfl
   have eV:e=d:=by
    rw[rX _ _ _ _ he]at ae
    simpa [I.sub]using ae
   subst eV
   refine⟨by rw[GC _ _ _ _ he];simp[I.dD],?_⟩
   have aa:Value.ep v=true:=g3
   rw[eC aa]at g2
   subst g2
   have hD:=rY w c6 (s z) _ _ _ none a [0] g1
   have ai:=_h.b2 z
   rw[au.bB (fg he (.inl rfl))]at ai
   obtain⟨dO,bU,cK,dx,k0,bg,bw,cM,cc,c8⟩:=ctx c6 (s z) (bs (an z)) (S z) none _ ai.2 he
   rw[k0]at g1
   simp only[Option.some.injEq,Prod.mk.injEq,true_and]at g1
   obtain⟨rfl,rfl⟩:=g1
   rw[ak]at cc
   obtain⟨b,cur,aJ,fr,cx,aN,_⟩:=cc
   simp only[List.cons.injEq,and_true]at aN
   subst aN
   exact⟨_,b,0,rfl,by rw[hD];rfl⟩
  ·cases aI
 |ah z c6=>
  simp only[loc]at aI
  split at aI
  ·rename_i af
   simp only[Option.some.injEq,Prod.mk.injEq]at aI
   obtain⟨rfl,rfl⟩:=aI
   rw[au]at aD
   obtain⟨bK,b,o,g1,g2⟩:=aD _ ae af
   exact⟨af,bK,b,o,g2,g1⟩
  ·cases aI
 |_=>simp[loc]at aI
def dX (C:bm) (s:ag) (T:TypeId) (x:I) (k:Nat):Option I:=
 match(C.T T).k with
 | .struct aj=>match aj[k]? with
   |some (gL,off)=>if(C.T gL).ok=true∧(C.T gL).sz≠0 then
     match x with
     | .ref (.agg ds)=>match ds[k]? with
       |some d=>if I.cI (ds.take k)=off then some (.ref d)else none
       |none=>none
     | .J y o=>if(s y).plain then none else some (.J y (o+off))
     |x=>match loc s x with
      |some (y,q)=>match I.sub q (s y)with
       |some (.agg ds)=>if k<ds.length∧I.cI (ds.take k)=off then some (.ah y (q++[k]))else none
       |_=>none
      |none=>none
    else none
   |none=>none
 |_=>none
theorem fc.w9 {w:World} {b o:Nat} {bD dN c2:List Value} (h:fc w b o (bD++(dN++c2))):fc w b (o+bD.length) dN:=by
 intro j c bE
 have cJ:j<dN.length:=(List.getElem?_eq_some_iff.1 bE).1
 have:=h (bD.length+j) c (by rw[List.getElem?_append_right (by omega),List.getElem?_append_left (by omega),←bE];congr 1;omega)
 rw[Nat.add_assoc];exact this
theorem w_ (aV:C.db) {T gL:TypeId} {aj:List (TypeId×Nat)} {k off:Nat} (al:(C.T T).k= .struct aj) (bc:aj[k]? =some (gL,off)) (aa:(C.T gL).ok=true) (ab:(C.T gL).sz≠0) (b o:Nat) (w:World):
  (Instr.fieldAt T (.pointer (some ⟨b,o,none⟩)) k).run C.P w= .ok (.pointer (some ⟨b,o+off,none⟩)) w:=by
 obtain⟨i,d,z,aF,aJ,aN,bt,bN,bh,ba⟩:=aV.info (dQ al (by simp))
 rw[al]at ba
 obtain⟨gs,rfl,gz⟩:=rZ ba
 obtain⟨mQ,aX,mR,f1,f2,f3,f4,f5,f6,f7⟩:=aV.info aa
 have hg:∃g,gs[k]? =some g∧g.type=gL∧g.offset=off:=by
  rw[←gz,List.getElem?_map]at bc
  simp only[Option.map_eq_some_iff,Prod.mk.injEq]at bc
  obtain⟨g,aa,ab,aB⟩:=bc
  exact⟨g,by simpa using aa,ab,aB⟩
 obtain⟨g,g1,rfl,rfl⟩:=hg
 simp[Instr.fieldAt,run_underlying bh,g1,Instr.sureAddr,fieldPlace,ho f1,f2,ab,Addr.add_lit]
theorem GD (aV:C.db) (h:a1 w0 F0 X F S s an w) {T:TypeId} {x:I} {v:Value} {k:Nat} (ai:x.plain=true) (aD:au w F s an x v (fun _=>False)) (he:dX C s T x k=some av):
  Good C w0 F0 X an w (Instr.fieldAt T v k) av s:=by
 unfold dX at he
 split at he
 ·rename_i aj al
  split at he
  ·rename_i gL off bc
   split at he
   ·rename_i p6
    split at he
    ·rename_i ds
     split at he
     ·rename_i d ae
      split at he
      ·rename_i l3
       simp only[Option.some.injEq]at he;subst he
       have ij:=(au.bB rfl).1 aD
       rw[ak]at ij
       obtain⟨U,b,o,cN,aa,ab,aB,aP⟩:=ij
       rw[eC U]at aa
       simp only[List.cons.injEq,and_true]at aa;subst aa
       rw[ak]at aP
       obtain⟨bD,dN,c2,bk,fe,rfl,e6,d_,eW,fA,dU,jh⟩:=aL.pick ds _ _ k d aP ae
       refine Good.same h (w_ aV al bc p6.1 p6.2 b o w) rfl ((au.bB rfl).2 ⟨rfl,?_⟩)
       rw[ak]
       refine⟨b,o+off,dN,rfl,ab,?_,ak.mono (fun _ h=>h) _ _ _ _ (fun b J=>eW b J) dU⟩
       rw[←l3,←e6];exact aB.w9
      ·cases he
     ·cases he
    ·rename_i y o
     split at he
     ·cases he
     ·rename_i ah
      simp only[Option.some.injEq]at he;subst he
      rw[au]at aD
      obtain⟨b,cur,e,fr,rfl,ab,aB,aP⟩:=aD (by simpa using ah)
      refine Good.same h (w_ aV al bc p6.1 p6.2 b o w) rfl ?_
      rw[au]
      exact fun _=>⟨b,cur,e,fr,rfl,ab,aB,aP⟩
    ·rename_i x _ _
     split at he
     ·rename_i y q aI
      split at he
      ·rename_i ds ae
       split at he
       ·rename_i l3
        simp only[Option.some.injEq]at he;subst he
        obtain⟨af,bK,b,o,rfl,hD⟩:=w8 h aD aI ae
        refine Good.same h (w_ aV al bc p6.1 p6.2 b o w) rfl ?_
        rw[au]
        intro d2 e7 mS
        rw[rY w q _ _ _ _ _ _ [k] hD]
        rw[rX _ _ _ _ ae]at e7
        have nR:∃d3,ds[k]? =some d3:=⟨_,List.getElem?_eq_getElem l3.1⟩
        obtain⟨d3,r1⟩:=nR
        simp only[I.sub,r1,Option.some.injEq]at e7
        subst e7
        simp only[b_,r1]
        refine⟨(bK.drop off).take d3.wd,b,o+off,?_,rfl⟩
        rw[l3.2];rfl
       ·cases he
      ·cases he
     ·cases he
   ·cases he
  ·cases he
 ·cases he
def ej (C:bm) (s:ag) (T:TypeId) (x i:I):Option I:=
 match(C.T T).k,i with
 | .slice e,.int _ n=>if 0≤n∧(C.T e).ok=true then
   match x with
   | .slice xs=>match xs[n.toNat]? with
     |some d=>if d.wd=(C.T e).sz then some (.ref d)else none
     |none=>none
   | .h y q=>match I.sub q (s y)with
     |some (.aG sz xs)=>if n.toNat<xs.length∧sz=(C.T e).sz then some (.ah y (q++[n.toNat]))else none
     |_=>none
   |_=>none
   else none
 |_,_=>none
theorem Au (aV:C.db) {T e:TypeId} (al:(C.T T).k= .slice e) (he:(C.T e).ok=true) (b o len cap:Nat) (k:IntKind) (n:Nat) (aQ:n<len) (w:World):
  (Instr.indexAt T (.slice (some ⟨b,o,none⟩) len cap) (.int k n)).run C.P w= .ok (.pointer (some ⟨b,o+n*(C.T e).sz,none⟩)) w:=by
 obtain⟨i,d,z,aF,aJ,aN,bt,bN,bh,ba⟩:=aV.info (dQ al (by simp))
 rw[al]at ba
 have:=ig ba;subst this
 obtain⟨mQ,aX,mR,f1,f2,f3,f4,f5,f6,f7⟩:=aV.info he
 simp[Instr.indexAt,run_underlying bh,asIntOf,aQ,ho f1,f2,Addr.add_lit]
theorem GF (aV:C.db) (h:a1 w0 F0 X F S s an w) {T:TypeId} {x i:I} {v kI:Value} (aD:au w F s an x v (fun _=>False)) (GG:au w F s an i kI (fun _=>False))
  (he:ej C s T x i=some av):Good C w0 F0 X an w (Instr.indexAt T v kI) av s:=by
 unfold ej at he
 split at he
 ·rename_i e k n al
  have xa:=(au.bB rfl).1 GG
  rw[ak,eC xa.1]at xa
  have:kI= .int k n:=by simpa using xa.2
  subst this
  split at he
  ·rename_i aQ
   obtain⟨n,rfl⟩:=Int.eq_ofNat_of_zero_le aQ.1
   simp only[Int.toNat_natCast]at he
   split at he
   ·rename_i xs
    split at he
    ·rename_i d ae
     split at he
     ·rename_i hw
      simp only[Option.some.injEq]at he;subst he
      have ij:=(au.bB rfl).1 aD
      rw[ak,eC ij.1]at ij
      obtain⟨U,⟨rfl,_⟩|⟨b,o,cap,cN,sz,aa,ab,aB,aP,bb,bQ,bT⟩⟩:=ij
      ·simp at ae
      ·simp only[List.cons.injEq,and_true]at aa;subst aa
       have cJ:n<xs.length:=(List.getElem?_eq_some_iff.1 ae).1
       obtain⟨bD,dN,c2,bk,fe,rfl,e6,d_,eW,fA,dU,jh⟩:=aL.pick xs _ _ n d bT ae
       refine Good.same h (Au aV al aQ.2 b o _ _ k n cJ w) rfl ((au.bB rfl).2 ⟨rfl,?_⟩)
       rw[ak]
       refine⟨b,_,dN,rfl,ab,?_,ak.mono (fun _ h=>h) _ _ _ _ (fun b J=>eW b J) dU⟩
       have GH:=bb d (List.mem_of_getElem? ae)
       have:n*(C.T e).sz=bD.length:=by
        rw[e6,oR _ (fun d ae=>bb d (List.mem_of_mem_take ae)),List.length_take,Nat.min_eq_left (by omega),←hw,GH]
       rw[this];exact bQ.w9
     ·cases he
    ·cases he
   ·rename_i y q
    split at he
    ·rename_i sz xs ae
     split at he
     ·rename_i hw
      simp only[Option.some.injEq]at he;subst he
      rw[au]at aD
      obtain⟨bK,a,g1,g2,g3⟩:=aD _ ae rfl
      have U:Value.ep v=true:=g3
      rw[eC U]at g2;subst g2
      have ai:=h.b2 y
      rw[au.bB (fg ae (.inl rfl))]at ai
      obtain⟨dO,bU,cK,dx,k0,bg,bw,cM,cc,c8⟩:=ctx q (s y) (bs (an y)) (S y) none _ ai.2 ae
      rw[k0]at g1
      simp only[Option.some.injEq,Prod.mk.injEq,true_and]at g1
      obtain⟨rfl,rfl⟩:=g1
      rw[ak]at cc
      rcases cc with⟨rfl,_⟩|⟨b,cap,cur,aJ,fr,cx,aN,_⟩
      ·simp at hw
      ·simp only[List.cons.injEq,and_true]at aN;subst aN
       refine Good.same h (Au aV al aQ.2 b 0 _ _ k n hw.1 w) rfl ?_
       rw[au]
       intro d2 e7 _
       rw[rY w q _ _ _ _ _ _ [n] k0]
       rw[rX _ _ _ _ ae]at e7
       obtain⟨d3,r1⟩:∃d3,xs[n]? =some d3:=⟨_,List.getElem?_eq_getElem hw.1⟩
       simp only[I.sub,r1,Option.some.injEq]at e7
       subst e7
       simp only[b_,r1]
       exact⟨_,b,n*sz,rfl,by simp[hw.2]⟩
     ·cases he
    ·cases he
   ·cases he
  ·cases he
 ·cases he
end
section
variable {C:bm} {w0 w:World} {F0 X F:Nat→Prop} {S:Nat→Nat→Prop} {s s1:ag} {an:Nat→Value} {av:I}
theorem Av (aV:C.db) {T:TypeId} {aj:List (TypeId×Nat)} (al:(C.T T).k= .struct aj) (w:World):(isAgg T).run C.P w= .ok true w:=by
 obtain⟨i,d,z,aF,aJ,aN,bt,bN,bh,ba⟩:=aV.info (dQ al (by simp))
 rw[al]at ba
 obtain⟨gs,rfl,_⟩:=rZ ba
 simp[isAgg,run_underlying bh]
def ee.flat (x:ee):Bool:=match x.k with
 | .other=>false
 | .dP _=>false
 | .struct _=>false
 |_=>true
theorem Aw {x:ee} (h:x.flat=true):x.ok=true:=by
 unfold ee.flat at h;unfold ee.ok;revert h;cases x.k<;>simp
theorem xb (aV:C.db) {T:TypeId} (al:(C.T T).flat=true) (w:World):(isAgg T).run C.P w= .ok false w:=by
 obtain⟨i,d,z,aF,aJ,aN,bt,bN,bh,ba⟩:=aV.info (Aw al)
 have cj:(∀aj,d≠.struct aj)∧(∀n e,d≠.array n e):=by
  clear bh
  unfold ee.flat at al
  generalize (C.T T).k=ik at*
  cases ik<;>cases d<;>simp[ic]at ba al⊢
 cases d<;>first|exact(cj.1 _ rfl).elim|exact(cj.2 _ _ rfl).elim|simp[isAgg,run_underlying bh]
theorem fc.one {w:World} {b o:Nat} {v:Value} (h:fc w b o [v]):w.cell? ⟨b,o,none⟩=some v:=by simpa using h 0 v rfl
theorem Ax {P:Program} {b o:Nat}:∀(cs:List Value) (i:Nat) (acc:Array Value),fc w b (o+i) cs→(loadCellsFrom ⟨b,o,none⟩ i cs.length acc).run P w= .ok (acc++cs.toArray) w
 |[],i,acc,_=>by simp[loadCellsFrom]
 |c::cs,i,acc,h=>by
  have bl:w.cell? ⟨b,o+i,none⟩=some c:=by simpa using h 0 c rfl
  have aa:fc w b (o+(i+1)) cs:=by
   intro j x bE
   have:=h (j+1) x (by simpa using bE)
   rw[←this];congr 2;omega
  have ih:=Ax (P:=P) cs (i+1) (acc.push c) aa
  simp only[List.length_cons,loadCellsFrom,Sem.run_bind,Go.load,Sem.run,Addr.add_lit,bl,Result.andThen]
  rw[ih];simp
theorem GI (aV:C.db) {T:TypeId} {aj:List (TypeId×Nat)} (al:(C.T T).k= .struct aj) {b o:Nat} {cs:List Value} (h:fc w b o cs) (aI:cs.length=(C.T T).sz):
  (loadVar T ⟨b,o,none⟩).run C.P w= .ok (.agg cs.toArray) w:=by
 obtain⟨i,d,z,aF,aJ,aN,bt,bN,bh,ba⟩:=aV.info (dQ al (by simp))
 have:=Ax (P:=C.P) (b:=b) (o:=o) cs 0 #[] (by simpa using h)
 simp only[loadVar,Sem.run_bind,Av aV al,Result.andThen,if_true,ho aF,aJ,←aI,loadCells,this]
 simp
theorem Ay (aV:C.db) {T:TypeId} (al:(C.T T).flat=true) {b o:Nat} {v:Value} (h:fc w b o [v]):
  (loadVar T ⟨b,o,none⟩).run C.P w= .ok v w:=by
 simp[loadVar,xb aV al,Go.load,Sem.run,h.one]
def fits (C:bm) (T:TypeId) (d:I):Bool:=match(C.T T).k,d with
    | .struct _,.agg ds=>I.cI ds==(C.T T).sz
    | .struct _,_=>false
    |_,.agg _=>false
    |_,.tuple _=>false
    |_,_=>(C.T T).flat
def Az:List I→Nat→Nat→Option Nat
 |[],_,_=>none
 |d::ds,i,k=>if k=0 then some i else if d.wd≤k then Az ds (i+1) (k-d.wd)else none
def c7 (C:bm) (s:ag) (T:TypeId) (x:I):Option I:=
 match x with
 | .ref d=>if fits C T d=true then some d else none
 | .J y k=>match s y with
   | .agg ds=>if I.dV ds then none else match Az ds 0 k with
     |some i=>match ds[i]? with
      |some d=>if I.cI (ds.take i)=k∧fits C T d=true then some (if d.plain then d else .h y [i])else none
      |none=>none
     |none=>none
   |_=>none
 |x=>match loc s x with
  |some (y,q)=>match I.sub q (s y)with
   |some d=>if fits C T d=true then some (if d.plain then d else .h y q)else none
   |none=>none
  |none=>none
theorem ak.one {F:Nat→Prop} {d:I} {cs:List Value} {S:Nat→Prop} (h:ak w F d cs S) (aa:∀aj,d≠.agg aj) (ab:∀aj,d≠.tuple aj):∃v,cs=[v]∧Value.ep v=true:=by
 cases d with
 |hole=>rw[ak]at h;obtain⟨v,h,rfl⟩:=h;exact⟨v,rfl,h⟩
 |di=>rw[ak]at h;obtain⟨v,rfl⟩:=h;exact⟨_,rfl,rfl⟩
 |slice xs=>rw[ak]at h;rcases h with⟨_,a,c,rfl,_⟩|⟨b,o,cap,cN,sz,rfl,_⟩<;>exact⟨_,rfl,rfl⟩
 |aG sz xs=>rw[ak]at h;rcases h with⟨_,_,rfl⟩|⟨b,cap,cur,e,fr,cp,rfl,_⟩<;>exact⟨_,rfl,rfl⟩
 |ref d=>rw[ak]at h;obtain⟨b,o,cN,rfl,_⟩:=h;exact⟨_,rfl,rfl⟩
 |bG d=>rw[ak]at h;obtain⟨b,cur,e,fr,cp,rfl,_⟩:=h;exact⟨_,rfl,rfl⟩
 |agg aj=>exact(aa _ rfl).elim
 |tuple aj=>exact(ab _ rfl).elim
 |fn _ _=>rw[ak]at h;obtain⟨arr,rfl,_⟩:=h;exact⟨_,rfl,rfl⟩
 |h _ _=>rw[ak]at h;exact h.elim
 |ah _ _=>rw[ak]at h;exact h.elim
 |J _ _=>rw[ak]at h;exact h.elim
 |b9 _=>rw[ak]at h;obtain⟨v,eF,rfl⟩:=iI.one h;exact⟨v,rfl,eF⟩
 |_=>rw[ak]at h;subst h;exact⟨_,rfl,rfl⟩
theorem I.ue {d:I} (h:d.single=true):(∀aj,d≠.agg aj)∧∀aj,d≠.tuple aj:=
 ⟨fun aj e=>(by subst e;cases h),fun aj e=>(by subst e;cases h)⟩
theorem au.lr {F:Nat→Prop} {s:ag} {an:Nat→Value} {d:I} {v:Value} (aK:d.tree=true) (U:d.single=true) (h:ak w F d [v] (fun _=>False)):au w F s an d v (fun _=>False):=by
 obtain⟨ct,e,aa⟩:=ak.one h (I.ue U).1 (I.ue U).2
 have:v=ct:=by simpa using e
 subst this
 refine(au.bB aK).2 ⟨?_,by rw[eC aa];exact h⟩
 cases d<;>first|exact aa|cases U
mutual
theorem au.l4 {F:Nat→Prop} {s:ag} {an:Nat→Value}:∀(d:I) (v:Value),d.single=true→ak w F d [v] (fun _=>False)→au w F s an d v (fun _=>False)
 | .fn f caps,v,_,h=>by
   rw[ak]at h
   obtain⟨arr,aa,ab,aB⟩:=h
   rw[au]
   exact⟨arr,by simpa using aa,cG.l4 caps _ ab aB⟩
 | .bool b,v,U,h=>au.lr rfl U h
 | .di,v,U,h=>au.lr rfl U h
 | .int k n,v,U,h=>au.lr rfl U h
 | .str x,v,U,h=>au.lr rfl U h
 | .cw,v,U,h=>au.lr rfl U h
 | .bu,v,U,h=>au.lr rfl U h
 | .slice xs,v,U,h=>au.lr rfl U h
 | .aG sz xs,v,U,h=>au.lr rfl U h
 | .ref d,v,U,h=>au.lr rfl U h
 | .bG d,v,U,h=>au.lr rfl U h
 | .h _ _,v,_,h=>by rw[ak]at h;exact h.elim
 | .ah _ _,v,_,h=>by rw[ak]at h;exact h.elim
 | .J _ _,v,_,h=>by rw[ak]at h;exact h.elim
 | .b9 _,v,U,h=>au.lr rfl U h
theorem cG.l4 {F:Nat→Prop} {s:ag} {an:Nat→Value}:∀(ds:List I) (vs:List Value),(∀d∈ds,d.single=true)→aL w F ds vs (fun _=>False)→cG w F s an ds vs
 |[],vs,_,h=>by rw[aL]at h;rw[cG];exact h
 |d::ds,vs,U,h=>by
  rw[aL]at h
  obtain⟨bD,c2,bk,cx,rfl,ab,aB,aP,bb,_⟩:=h
  have ae:=U d (by simp)
  obtain⟨v,rfl,_⟩:=ak.one ab (I.ue ae).1 (I.ue ae).2
  rw[cG]
  exact⟨v,c2,rfl,au.l4 d v ae (ak.mono (fun _ h=>h) _ _ _ _ (fun b J=>aP b J) ab),cG.l4 ds c2 (fun x ai=>U x (by simp[ai])) (aL.mono (fun _ h=>h) _ _ _ _ (fun b J=>bb b J) aB)⟩
end
theorem uf (aV:C.db) {T:TypeId} {d:I} {b o:Nat} {cs:List Value} {S:Nat→Prop} (h:fc w b o cs) (ae:ak w F d cs S)
  (ft:fits C T d=true):
  ∃v,(loadVar T ⟨b,o,none⟩).run C.P w= .ok v w∧bs v=cs∧cA d v:=by
 unfold fits at ft
 by_cases U:∃aj,(C.T T).k= .struct aj
 ·obtain⟨aj,al⟩:=U
  rw[al]at ft
  cases d with
  |agg ds=>
   simp only[beq_iff_eq]at ft
   refine⟨_,GI aV al h ((ak.length _ _ _ ae).trans ft),rfl,⟨_,rfl⟩⟩
  |_=>simp at ft
 ·have gq:(C.T T).flat=true∧(∀aj,d≠.agg aj)∧(∀aj,d≠.tuple aj):=by
   revert ft U
   cases al:(C.T T).k<;>cases d<;>simp
  obtain⟨v,rfl,aa⟩:=ak.one ae gq.2.1 gq.2.2
  refine⟨v,Ay aV gq.1 h,eC aa,?_⟩
  cases d<;>first|exact aa|exact(gq.2.1 _ rfl).elim|exact(gq.2.2 _ rfl).elim
theorem GJ (aV:C.db) {T:TypeId} {d:I} {off:Nat} {arr:Array Value} {bD cs c2:List Value} {S:Nat→Prop} (he:arr.toList=bD++(cs++c2)) (bH:bD.length=off) (ae:ak w F d cs S)
  (ft:fits C T d=true):
  ∃v,(part T arr off).run C.P w= .ok v w∧bs v=cs∧cA d v:=by
 unfold fits at ft
 by_cases U:∃aj,(C.T T).k= .struct aj
 ·obtain⟨aj,al⟩:=U
  rw[al]at ft
  cases d with
  |agg ds=>
   simp only[beq_iff_eq]at ft
   obtain⟨i,d,z,aF,aJ,aN,bt,bN,bh,ba⟩:=aV.info (dQ al (by simp))
   have aI:cs.length=(C.T T).sz:=(ak.length _ _ _ ae).trans ft
   have ai:(arr.extract off (off+(C.T T).sz)).toList=cs:=by
    rw[Array.toList_extract,he,List.extract_eq_take_drop,←aI,←bH,Nat.add_sub_cancel_left,List.drop_left,List.take_left]
   refine⟨.agg (arr.extract off (off+(C.T T).sz)),?_,by simpa [bs,ff]using ai,⟨_,rfl⟩⟩
   simp[part,Av aV al,ho aF,aJ]
  |_=>simp at ft
 ·have gq:(C.T T).flat=true∧(∀aj,d≠.agg aj)∧(∀aj,d≠.tuple aj):=by
   revert ft U
   cases al:(C.T T).k<;>cases d<;>simp
  obtain⟨v,rfl,aa⟩:=ak.one ae gq.2.1 gq.2.2
  have hg:arr[off]? =some v:=by
   rw[←Array.getElem?_toList,he,←bH,List.getElem?_append_right (Nat.le_refl _)];simp
  refine⟨v,?_,eC aa,?_⟩
  ·simp[part,xb aV gq.1,hg]
  ·cases d<;>first|exact aa|exact(gq.2.1 _ rfl).elim|exact(gq.2.2 _ rfl).elim
theorem GK (aV:C.db) (h:a1 w0 F0 X F S s an w) {T:TypeId} {x:I} {v:Value} (aD:au w F s an x v (fun _=>False)) (he:c7 C s T x=some av):
  Good C w0 F0 X an w (Instr.loadAt T v) av s:=by
 unfold c7 at he
 split at he
 ·rename_i d
  split at he
  ·rename_i ft
   simp only[Option.some.injEq]at he;subst he
   have ij:=(au.bB rfl).1 aD
   rw[ak,eC ij.1]at ij
   obtain⟨U,b,o,cN,aa,ab,aB,aP⟩:=ij
   simp only[List.cons.injEq,and_true]at aa;subst aa
   obtain⟨ct,aC,af,jM⟩:=uf aV aB aP ft
   have cW:(Instr.loadAt T (.pointer (some ⟨b,o,none⟩))).run C.P w= .ok ct w:=by simp[Instr.loadAt,Instr.sureAddr,aC]
   refine⟨ct,w,F,S,cW,h,?_⟩
   by_cases aK:d.tree=true
   ·exact .inr ⟨aK,jM,fun _=>False,by rw[af];exact aP,fun _ h=>h.elim,fun _ h=>h.elim,fun _ _ h=>h.elim,fun _ h=>h.elim⟩
   ·cases d<;>first|exact(aK rfl).elim|(rw[ak]at aP;exact aP.elim)|exact .inl ⟨rfl,by rw[au];trivial⟩|(have bb:=aP;rw[ak]at bb;obtain⟨arr,e,_⟩:=bb;rw[←af]at e aP;rw[eC (by exact jM)]at aP;exact .inl ⟨rfl,au.l4 _ _ rfl aP⟩)
  ·cases he
 ·rename_i y k
  split at he
  ·rename_i ds kj
   split at he
   ·cases he
   ·rename_i r2
    split at he
    ·rename_i i ay
     split at he
     ·rename_i d ae
      split at he
      ·rename_i ft
       simp only[Option.some.injEq]at he
       have e0:(s y).plain=false:=by rw[kj];simp only[I.plain];simpa using r2
       rw[au]at aD
       obtain⟨b,cur,e,fr,rfl,ab,aB,aP⟩:=aD e0
       have hy:=h.b2 y
       rw[kj]at hy
       have AA:=((au.bB rfl).1 hy).2
       rw[ak]at AA
       obtain⟨bD,dN,c2,bk,fe,fO,e6,d_,eW,fA,dU,jh⟩:=aL.pick ds _ _ i d AA ae
       have gQ:fc w b k dN:=by
        intro j c bE
        have cJ:j<dN.length:=(List.getElem?_eq_some_iff.1 bE).1
        have:cur.toList[k+j]? =some c:=by
         rw[aP,fO,List.getElem?_append_right (by omega),List.getElem?_append_left (by omega),←bE];congr 1;omega
        simp[World.cell?,aB]
        simpa using this
       obtain⟨ct,aC,af,jM⟩:=uf aV gQ dU ft.2
       have cW:(Instr.loadAt T (.pointer (some ⟨b,k,none⟩))).run C.P w= .ok ct w:=by simp[Instr.loadAt,Instr.sureAddr,aC]
       refine⟨ct,w,F,S,cW,h,?_⟩
       split at he
       ·rename_i ah
        subst he
        by_cases aK:d.tree=true
        ·exact .inl ⟨ah,(au.bB aK).2 ⟨jM,by rw[af];exact ak.plain _ _ _ _ ah dU⟩⟩
        ·cases d<;>first|exact(aK rfl).elim|(rw[ak]at dU;exact dU.elim)|exact .inl ⟨rfl,by rw[au];trivial⟩|(have bb:=ak.plain _ _ _ (fun _=>False) ah dU;rw[←af]at bb;rw[eC (by exact jM)]at bb;exact .inl ⟨rfl,au.l4 _ _ rfl bb⟩)
       ·subst he
        refine .inl ⟨rfl,?_⟩
        rw[au]
        intro d2 e7 _
        rw[kj]at e7⊢
        simp only[I.sub,ae,Option.some.injEq]at e7
        subst e7
        refine⟨dN,none,?_,af,jM⟩
        simp only[b_,ae]
        rw[fO,oP bD dN c2 _ _ e6 (ak.length _ _ _ dU)]
        rfl
      ·cases he
     ·cases he
    ·cases he
  ·cases he
 ·rename_i x _ _
  split at he
  ·rename_i y q aI
   split at he
   ·rename_i d ae
    split at he
    ·rename_i ft
     simp only[Option.some.injEq]at he
     obtain⟨lu,bK,b,o,rfl,hD⟩:=w8 h aD aI ae
     have hy:=h.b2 y
     rw[au.bB (fg ae (.inr lu))]at hy
     obtain⟨dO,bU,cK,dx,k0,bg,bw,cM,cc,c8⟩:=ctx q (s y) (bs (an y)) (S y) none _ hy.2 ae
     rw[k0]at hD
     simp only[Option.some.injEq,Prod.mk.injEq,true_and]at hD
     obtain⟨rfl,rfl⟩:=hD
     have gQ:fc w b o dO:=by
      rcases c8 with⟨l,r,aF,aJ,_⟩|⟨dK,cur,e,fr,l,r,aF,aJ,aN,bt,bN,_⟩
      ·simp at aJ
      ·simp only[Option.some.injEq,Prod.mk.injEq]at aF
       obtain⟨rfl,rfl⟩:=aF
       intro j c bE
       have cJ:j<dO.length:=(List.getElem?_eq_some_iff.1 bE).1
       have:cur.toList[l.length+j]? =some c:=by
        rw[bN,List.getElem?_append_right (by omega),List.getElem?_append_left (by omega),←bE];congr 1;omega
       simp[World.cell?,aN]
       simpa using this
     obtain⟨ct,aC,af,jM⟩:=uf aV gQ cc ft
     have cW:(Instr.loadAt T (.pointer (some ⟨b,o,none⟩))).run C.P w= .ok ct w:=by simp[Instr.loadAt,Instr.sureAddr,aC]
     refine⟨ct,w,F,S,cW,h,?_⟩
     split at he
     ·rename_i ah
      subst he
      by_cases aK:d.tree=true
      ·exact .inl ⟨ah,(au.bB aK).2 ⟨jM,by rw[af];exact ak.plain _ _ _ _ ah cc⟩⟩
      ·cases d<;>first|exact(aK rfl).elim|(rw[ak]at cc;exact cc.elim)|exact .inl ⟨rfl,by rw[au];trivial⟩|(have bb:=ak.plain _ _ _ (fun _=>False) ah cc;rw[←af]at bb;rw[eC (by exact jM)]at bb;exact .inl ⟨rfl,au.l4 _ _ rfl bb⟩)
     ·subst he
      refine .inl ⟨rfl,?_⟩
      rw[au]
      intro d2 e7 _
      rw[ae]at e7
      simp only[Option.some.injEq]at e7
      subst e7
      exact⟨_,_,k0,af,jM⟩
    ·cases he
   ·cases he
  ·cases he
mutual
theorem ak.oY {F:Nat→Prop}:∀(d:I) (cs:List Value) (S:Nat→Prop),ak w F d cs S→∀c∈cs,Value.ep c=true
 | .hole,cs,S,h=>by rw[ak]at h;obtain⟨v,h,rfl⟩:=h;simpa using h
 | .bool _,cs,S,h=>by rw[ak]at h;subst h;simp[Value.ep]
 | .di,cs,S,h=>by rw[ak]at h;obtain⟨b,rfl⟩:=h;simp[Value.ep]
 | .int _ _,cs,S,h=>by rw[ak]at h;subst h;simp[Value.ep]
 | .str _,cs,S,h=>by rw[ak]at h;subst h;simp[Value.ep]
 | .cw,cs,S,h=>by rw[ak]at h;subst h;simp[Value.ep]
 | .bu,cs,S,h=>by rw[ak]at h;subst h;simp[Value.ep]
 | .slice xs,cs,S,h=>by
   rw[ak]at h
   rcases h with⟨_,a,c,rfl,_⟩|⟨b,o,cap,cN,sz,rfl,_⟩<;>simp[Value.ep]
 | .aG sz xs,cs,S,h=>by
   rw[ak]at h
   rcases h with⟨_,_,rfl⟩|⟨b,cap,cur,e,fr,aE,rfl,_⟩<;>simp[Value.ep]
 | .ref d,cs,S,h=>by rw[ak]at h;obtain⟨b,o,cN,rfl,_⟩:=h;simp[Value.ep]
 | .bG d,cs,S,h=>by rw[ak]at h;obtain⟨b,o,cN,_,_,rfl,_⟩:=h;simp[Value.ep]
 | .agg aj,cs,S,h=>by rw[ak]at h;exact aL.oY aj _ _ h
 | .tuple aj,cs,S,h=>by rw[ak]at h;exact aL.oY aj _ _ h
 | .fn _ _,cs,S,h=>by rw[ak]at h;obtain⟨arr,rfl,_⟩:=h;simp[Value.ep]
 | .h _ _,cs,S,h=>by rw[ak]at h;exact h.elim
 | .ah _ _,cs,S,h=>by rw[ak]at h;exact h.elim
 | .J _ _,cs,S,h=>by rw[ak]at h;exact h.elim
 | .b9 _,cs,S,h=>by rw[ak]at h;obtain⟨v,eF,rfl⟩:=iI.one h;simpa using eF
theorem aL.oY {F:Nat→Prop}:∀(ds:List I) (cs:List Value) (S:Nat→Prop),aL w F ds cs S→∀c∈cs,Value.ep c=true
 |[],cs,S,h=>by rw[aL]at h;subst h;simp
 |d::ds,cs,S,h=>by
  rw[aL]at h
  obtain⟨bD,c2,bk,cx,rfl,ab,aB,_⟩:=h
  intro c af
  rcases List.mem_append.1 af with af|af
  ·exact ak.oY d _ _ ab c af
  ·exact aL.oY ds _ _ aB c af
end
theorem xc {P:Program} {b o:Nat} {e:TypeId} {fr:Nat×Nat}:∀(vs:List Value) (i:Nat) (cur:Array Value) (w:World) (l m r:List Value),w.heap[b]? =some (.cells cur e fr)→nO fr cur.size→
  cur.toList=l++(m++r)→l.length=o+i→m.length=vs.length→(∀v∈vs,Value.ep v=true)→
  ∃ar,(storeCells ⟨b,o,none⟩ vs i).run P w= .ok () ar∧ar.heap[b]? =some (.cells (l++(vs++r)).toArray e fr)∧(∀c,c≠b→ar.heap[c]? =w.heap[c]?)∧ar.heap.size=w.heap.size∧ar.os=w.os∧ar.tape=w.tape∧Out ar w
 |[],i,cur,w,l,m,r,J,bc,af,aI,hm,_=>by
  refine⟨w,rfl,?_,fun _ _=>rfl,rfl,rfl,rfl,Out.refl _⟩
  have:m=[]:=by simpa using hm
  subst this
  rw[J]
  have:cur=(l++([]++r)).toArray:=by rw[←af]
  rw[←this]
 |v::vs,i,cur,w,l,m,r,J,bc,af,aI,hm,ug=>by
  obtain⟨x,m,rfl⟩:∃x gS,m=x::gS:=by cases m with
   |nil=>simp at hm
   |cons x m=>exact⟨x,m,rfl⟩
  have hlen:cur.size=(l++(x::m++r)).length:=by rw[←af];simp
  have cJ:o+i<cur.size:=by rw[hlen];simp;omega
  have uh:w.cell? ⟨b,o+i,none⟩=some cur[o+i]:=by simp[World.cell?,J,cJ]
  have GL:w.frozen? ⟨b,o+i,none⟩=false:=by
   have:=bc (o+i) cJ
   simp only[World.frozen?,J]
   simp only[Bool.and_eq_false_iff,decide_eq_false_iff_not]
   by_cases aa:fr.1≤o+i
   ·right;exact fun ab=>this ⟨aa,ab⟩
   ·left;exact aa
  have nS:(w.setCell ⟨b,o+i,none⟩ v).heap[b]? =some (.cells ((l++[v])++(m++r)).toArray e fr):=by
   simp only[World.setCell,Array.getElem?_modify,if_true,J,Option.map_some,Option.isSome_none,Bool.false_eq_true,if_false]
   congr 2
   apply Array.ext'
   rw[Array.toList_setIfInBounds,af,←aI,List.set_append_right _ _ (Nat.le_refl _)]
   simp
  have oZ:(store ((⟨b,o,none⟩:Addr).add i) v).run P w= .ok () (w.setCell ⟨b,o+i,none⟩ v):=by
   have aa:=ug v (by simp)
   rw[Addr.add_lit]
   cases v<;>first|(simp[Value.ep]at aa;done)|simp[Go.store,Sem.run,uh,GL]
  obtain⟨ar,g1,g2,g3,g4,g5,g6,g7⟩:=xc (P:=P) (b:=b) (o:=o) vs (i+1) _ (w.setCell ⟨b,o+i,none⟩ v) (l++[v]) m r nS (by
   have:(l++[v]++(m++r)).toArray.size=cur.size:=by rw[hlen];simp
   rw[this];exact bc) (by simp) (by simp;omega) (by simpa using hm) (fun u hu=>ug u (by simp[hu]))
  refine⟨ar,?_,by simpa using g2,fun c af=> ?_,?_,g5,g6,g7⟩
  ·simp only[storeCells,Sem.run_bind,oZ,Result.andThen];exact g1
  ·rw[g3 c af]
   simp only[World.setCell,Array.getElem?_modify]
   rw[if_neg (fun e=>af e.symm)]
  ·rw[g4];simp[World.setCell]
theorem r3 {d:I} {v:Value} (h:cA d v) (ae:∀aj,d≠.tuple aj):v.cells=(bs v).toArray:=by
 cases d with
 |tuple aj=>exact(ae _ rfl).elim
 |agg aj=>obtain⟨arr,rfl⟩:=h;simp[Value.cells,bs,ff]
 |_=>
  have aa:Value.ep v=true:=h
  rw[eC aa]
  cases v<;>first|rfl|(simp[Value.ep]at aa)
def et (C:bm) (s:ag) (T:TypeId) (x y:I):Option ag:=
 match bM s y,loc s x with
 |some (d,s1),some (z,q)=>match d with
  | .tuple _=>none
  |d=>match I.sub q (s z)with
   |some d0=>if d.wd=d0.wd∧d.wd=(C.T T).sz∧(C.T T).ok=true∧y.owner≠some z then some (cf (fq z s1) z (I.put q d (s z)))else none
   |none=>none
 |_,_=>none
theorem GM {s s1:ag} {y d:I} {z:Nat} (h:bM s y=some (d,s1)) (bd:(s z).tree=true) (hy:y.owner≠some z):s1 z=s z:=by
 cases y with
 |h x q=>
  simp only[bM]at h
  split at h
  ·split at h
   ·cases h
   ·simp only[Option.some.injEq,Prod.mk.injEq]at h
    obtain⟨_,rfl⟩:=h
    rw[gJ _ _ (fun e=>hy (by rw[I.owner,e]))]
    exact wW bd
  ·cases h
 |ah x q=>simp[bM]at h
 |J x q=>simp[bM]at h
 |fn f c=>simp[bM]at h
 |hole=>simp[bM]at h
 |_=>simp only[bM,Option.some.injEq,Prod.mk.injEq]at h;rw[h.2]
theorem GN (aV:C.db) (h:a1 w0 F0 X F S s an w) {T:TypeId} {x y:I} {fh fP:Value} (xd:au w F s an x fh (fun _=>False)) (hy:y.plain=true) (GO:au w F s an y fP (fun _=>False))
  {s2:ag} (he:et C s T x y=some s2):
  ∃ar aE,(Instr.storeAt T fh fP).run C.P w= .ok () ar∧a1 w0 F0 X F aE s2 an ar:=by
 unfold et at he
 split at he
 ·rename_i d s1 z q aK aI
  have key:∀d:I,(∀aj,d≠.tuple aj)→bM s y=some (d,s1)→(match I.sub q (s z)with
   |some d0=>if d.wd=d0.wd∧d.wd=(C.T T).sz∧(C.T T).ok=true∧y.owner≠some z then some (cf (fq z s1) z (I.put q d (s z)))else none
   |none=>none)=some s2→∃ar aE,(Instr.storeAt T fh fP).run C.P w= .ok () ar∧a1 w0 F0 X F aE s2 an ar:=by
   intro d mT aK he
   split at he
   ·rename_i d0 hR
    split at he
    ·rename_i o0
     obtain⟨aa,ab,aB,aP⟩:=o0
     simp only[Option.some.injEq]at he;subst he
     obtain⟨lu,bK,b,o,rfl,hD⟩:=w8 h xd aI hR
     obtain⟨bk,g0,g1,g2,Sn,g3,g4,g5,g6,g7,g8⟩:=lq h hy GO aK
     have cO:s1 z=s z:=GM aK (fg hR (.inr lu)) aP
     rw[←cO]at hR lu hD⊢
     obtain⟨dO,dK,l,r,cur,e,fr,k0,bg,bw,cM,cc⟩:=g0.store hR lu g3 aa g4 g5 g6 g7
     rw[hD]at k0
     simp only[Option.some.injEq,Prod.mk.injEq,true_and]at k0
     obtain⟨rfl,rfl,rfl⟩:=k0
     obtain⟨i,d,mR,aF,aJ,aN,bt,bN,bh,ba⟩:=aV.info aB
     have hlen:=ak.length _ _ _ g3
     have hm:bK.length=(bs fP).length:=by
      have ui:=g0.b2 z
      rw[au.bB (fg hR (.inr lu))]at ui
      obtain⟨_,_,_,_,c0,_,_,_,c4,_⟩:=ctx q (s1 z) (bs (an z)) (bk z) none _ ui.2 hR
      rw[hD]at c0
      simp only[Option.some.injEq,Prod.mk.injEq,true_and]at c0
      rw[c0.1,ak.length _ _ _ c4,hlen,aa]
     obtain⟨ar,m1,m2,m3,m4,m5,m6,m7⟩:=xc (P:=C.P) (b:=b) (o:=l.length) (e:=e) (fr:=fr) (bs fP) 0 cur w l bK r bg cM bw rfl hm (ak.oY _ _ _ g3)
     obtain⟨aE,c8⟩:=cc ar m2 m3 m4 m5 m6 m7
     refine⟨ar,aE,?_,c8⟩
     have lv:=r3 g2 mT
     simp[Instr.storeAt,Instr.sureAddr,storeVar,ho aF,aJ,lv,hlen,ab,m1]
    ·cases he
   ·cases he
  split at he
  ·cases he
  ·rename_i mT
   exact key _ (fun aj e=>mT aj e) aK he
 ·cases he
theorem a1.alloc (h:a1 w0 F0 X F S s an w) {d:I} {cs:List Value} {Sn:Nat→Prop} (e:TypeId) (aD:ak w F d cs Sn)
  (cJ:∀b,Sn b→b<w.heap.size) (aW:∀b,Sn b→¬F b) (a_:∀u b,Sn b→¬S u b) (bl:∀b,Sn b→X b∨w0.heap.size≤b):
  a1 w0 F0 X F S s an (w.alloc (.cells cs.toArray e))∧
   ie w0 X F S s an (w.alloc (.cells cs.toArray e)) (.bG d) (.pointer (some ⟨w.heap.size,0,none⟩)):=by
 have hold:∀b,b<w.heap.size→(w.alloc (.cells cs.toArray e)).heap[b]? =w.heap[b]? :=by
  intro b J
  show(w.heap.push _)[b]? =_
  rw[Array.getElem?_push,if_neg (by omega)]
 refine⟨h.grow hold (by simp) rfl rfl ⟨rfl,fun _=>Nat.le_refl _⟩,.inr ⟨rfl,rfl,fun b=>b=w.heap.size∨Sn b,?_,?_,?_,?_,?_⟩⟩
 ·rw[ak]
  refine⟨w.heap.size,cs.toArray,e,(0,0),Sn,rfl,.inl rfl,?_,?_,?_,fun c af=>.inr af,fun af=>Nat.lt_irrefl _ (cJ _ af)⟩
  ·show(w.heap.push _)[_]? =_
   simp
  ·intro o _ ⟨_,ab⟩;exact absurd ab (Nat.not_lt_zero _)
  ·exact ak.frame (fun b J=>hold b (h.de b J)) _ _ _ (fun b J=>hold b (cJ b J)) aD
 ·rintro b (rfl|J)
  ·simp
  ·have:=cJ b J;simp;omega
 ·rintro b (rfl|J) mU
  ·exact Nat.lt_irrefl _ (h.de _ mU)
  ·exact aW b J mU
 ·rintro u b (rfl|J) hu
  ·exact Nat.lt_irrefl _ (h.cV _ _ hu)
  ·exact a_ u b J hu
 ·rintro b (rfl|J)
  ·exact .inr h.size
  ·exact bl b J
def e1 (C:bm) (T:TypeId):Option I:=if(C.T T).ok=true then(match(C.T T).k,(C.T T).zero with
    | .dP e,.agg [.cw,.bu]=>some (.b9 (.dM T e []))
    | .dP _,_=>none
    |_,z=>(match flat z with|some _=>some (.bG z)|none=>none))else none
theorem GP (aV:C.db) (h:a1 w0 F0 X F S s an w) {T:TypeId} (he:e1 C T=some av):Good C w0 F0 X an w (Instr.alloc T true (.tuple #[])) av s:=by
 unfold e1 at he
 split at he
 ·rename_i al
  split at he
  ·rename_i X7 xe GQ
   simp only[Option.some.injEq]at he;subst he
   obtain⟨i,d,z,aF,aJ,aN,bt,bN,bh,ba⟩:=aV.info al
   have bd:=bN [.pointer none,.slice none 0 0] (by rw[GQ];rfl)
   have hold:∀b,b<w.heap.size→(w.alloc (.cells #[.pointer none,.slice none 0 0] T)).heap[b]? =w.heap[b]? :=by
    intro b J
    show(w.heap.push _)[b]? =_
    rw[Array.getElem?_push,if_neg (by omega)]
   refine⟨.pointer (some ⟨w.heap.size,0,none⟩),w.alloc (.cells #[.pointer none,.slice none 0 0] T),F,S,?_,h.grow hold (by simp) rfl rfl ⟨rfl,fun _=>Nat.le_refl _⟩,.inr ⟨rfl,rfl,fun b=>b=w.heap.size,?_,?_,?_,?_,?_⟩⟩
   ·simp[Instr.alloc,oX aF bt,newVar,newRow,newObj,Sem.run,bd]
   ·rw[ak]
    refine⟨w.heap.size,.pointer none,.slice none 0 0,rfl,rfl,?_,.inl rfl,.inl ⟨rfl,rfl⟩⟩
    show(w.heap.push _)[_]? =_
    simp
   ·rintro b rfl;simp
   ·rintro b rfl mU;exact Nat.lt_irrefl _ (h.de _ mU)
   ·rintro u b rfl hu;exact Nat.lt_irrefl _ (h.cV _ _ hu)
   ·rintro b rfl;exact .inr h.size
  ·cases he
  split at he
  ·rename_i cs fO
   simp only[Option.some.injEq]at he;subst he
   obtain⟨i,d,z,aF,aJ,aN,bt,bN,bh,ba⟩:=aV.info al
   have bd:=bN cs fO
   obtain⟨ed,cn⟩:=h.alloc (d:=(C.T T).zero) T ((ak.flat _).1 _ cs (fun _=>False) (Nat.le_refl _) fO) (fun _ h=>h.elim) (fun _ h=>h.elim) (fun _ _ h=>h.elim) (fun _ h=>h.elim)
   refine⟨_,_,F,S,?_,ed,cn⟩
   simp[Instr.alloc,oX aF bt,newVar,newRow,newObj,Sem.run,bd]
  ·cases he
 ·cases he
def dB (s:ag) (x:I):Option (I×ag):=match bM s x with
 |some (.tuple _,_)=>none
 |some (d,s1)=>some (.bG d,s1)
 |none=>none
def il (s:ag) (x:I):Option (I×ag):=match x with
 | .h y q=>match q,s y with
   |[],.agg ds=>if I.dV ds then none else some (.J y 0,s)
   |_,_=>none
 | .fn f caps=>if caps.all (fun d=>d.single&&(d.tree&&d.plain))=true then some (.ref (.fn f caps),s)else none
 |_=>none
theorem aL.AB {w:World} {F a8:Nat→Prop} {s:ag} {an:Nat→Value} (aW:∀b,F b→a8 b):∀(ds:List I) (vs:List Value),(∀d∈ds,d.single=true∧d.tree=true∧d.plain=true)→cG w F s an ds vs→aL w a8 ds vs (fun _=>False)
 |[],vs,_,h=>by rw[cG]at h;rw[aL];exact h
 |d::ds,vs,U,h=>by
  rw[cG]at h
  obtain⟨v,gI,rfl,aa,ab⟩:=h
  obtain⟨d1,d2,d3⟩:=U d (by simp)
  have aB:=(au.bB d2).1 aa
  have bH:Value.ep v=true:=by
   have:=aB.1
   cases d<;>first|exact this|cases d1
  have aP:=aB.2
  rw[eC bH]at aP
  rw[aL]
  exact⟨[v],gI,fun _=>False,fun _=>False,rfl,ak.mono aW _ _ _ _ (fun _ h=>h) aP,aL.AB aW ds gI (fun x ai=>U x (by simp[ai])) ab,fun _ h=>h,fun _ h=>h,fun _ h=>h.elim⟩
theorem GR {T:TypeId} {v:Value} (h:a1 w0 F0 X F S s an w):a1 w0 F0 X (fun b=>F b∨b=w.heap.size) S s an (w.alloc (.cells (bs v).toArray T)):=by
 have hold:∀b,b<w.heap.size→(w.alloc (.cells (bs v).toArray T)).heap[b]? =w.heap[b]? :=by
  intro b J
  show(w.heap.push _)[b]? =_
  rw[Array.getElem?_push,if_neg (by omega)]
 have aa:=h.grow hold (by simp) rfl rfl ⟨rfl,fun _=>Nat.le_refl _⟩
 exact {
  eB:=fun b J=>.inl (aa.eB b J)
  eQ:=fun b J=>by
   rcases J with J|rfl
   ·exact aa.eQ b J
   ·exact .inr (.inr h.size)
  de:=fun b J=>by
   rcases J with J|rfl
   ·exact aa.de b J
   ·simp
  cV:=aa.cV
  dy:=fun t b J bc=>by
   rcases bc with bc|rfl
   ·exact aa.dy t b J bc
   ·exact absurd (h.cV t _ J) (Nat.lt_irrefl _)
  dm:=aa.dm
  cp:=aa.cp
  b2:=fun t=>au.frame (fun _ _=>rfl) (fun b J=>.inl J) (fun _ _ _=>rfl) aa.b2 _ _ _ (fun _ _=>rfl) (aa.b2 t)
  old:=aa.old
  size:=aa.size
  os:=aa.os
  tape:=aa.tape
  output:=aa.output
  dW:=h.dW}
theorem GS (h:a1 w0 F0 X F S s an w) {T:TypeId} {x:I} {v:Value} (aD:au w F s an x v (fun _=>False)) (he:il s x=some (av,s1)):
  Good C w0 F0 X an w (Instr.box T v) av s1:=by
 unfold il at he
 split at he
 ·rename_i y q
  split at he
  ·rename_i ds kj
   split at he
   ·cases he
   ·rename_i r2
    simp only[Option.some.injEq,Prod.mk.injEq]at he
    obtain⟨rfl,rfl⟩:=he
    rw[au]at aD
    obtain⟨bK,a,g1,g2,g3⟩:=aD (s y) (by simp only[I.sub]) (by rw[kj];simp only[I.plain];simpa using r2)
    simp only[b_,Option.some.injEq,Prod.mk.injEq,true_and]at g1
    rw[kj]at g3
    have lv:=r3 g3 (fun aj e=>by cases e)
    have hold:∀b,b<w.heap.size→(w.alloc (.cells (bs v).toArray T)).heap[b]? =w.heap[b]? :=by
     intro b J
     show(w.heap.push _)[b]? =_
     rw[Array.getElem?_push,if_neg (by omega)]
    refine⟨.pointer (some ⟨w.heap.size,0,none⟩),w.alloc (.cells (bs v).toArray T),fun b=>F b∨b=w.heap.size,S,by simp[Instr.box,newVar,newRow,newObj,Sem.run,lv],?_,.inl ⟨rfl,?_⟩⟩
    ·have aa:=h.grow hold (by simp) rfl rfl ⟨rfl,fun _=>Nat.le_refl _⟩
     exact {
      eB:=fun b J=>.inl (aa.eB b J)
      eQ:=fun b J=>by
       rcases J with J|rfl
       ·exact aa.eQ b J
       ·exact .inr (.inr h.size)
      de:=fun b J=>by
       rcases J with J|rfl
       ·exact aa.de b J
       ·simp
      cV:=aa.cV
      dy:=fun t b J bc=>by
       rcases bc with bc|rfl
       ·exact aa.dy t b J bc
       ·exact absurd (h.cV t _ J) (Nat.lt_irrefl _)
      dm:=aa.dm
      cp:=aa.cp
      b2:=fun t=>au.frame (fun _ _=>rfl) (fun b J=>.inl J) (fun _ _ _=>rfl) aa.b2 _ _ _ (fun _ _=>rfl) (aa.b2 t)
      old:=aa.old
      size:=aa.size
      os:=aa.os
      tape:=aa.tape
      output:=aa.output
      dW:=h.dW}
    ·rw[au]
     intro _
     refine⟨w.heap.size,(bs v).toArray,T,(0,0),rfl,.inr rfl,?_,?_⟩
     ·show(w.heap.push _)[_]? =_
      simp
     ·rw[g1.1,←g2]
  ·cases he
 ·rename_i f caps
  split at he
  ·rename_i af
   simp only[Option.some.injEq,Prod.mk.injEq]at he
   obtain⟨rfl,rfl⟩:=he
   have fO:∀d∈caps,d.single=true∧d.tree=true∧d.plain=true:=fun d ae=>by
    have:=List.all_eq_true.1 af d ae
    simpa only[Bool.and_eq_true]using this
   rw[au]at aD
   obtain⟨arr,rfl,aD⟩:=aD
   have lv:=r3 (d:=.fn f caps) (v:=.func (.func f) #[] arr) rfl (fun aj e=>by cases e)
   have hg:=GR (T:=T) (v:=.func (.func f) #[] arr) h
   refine⟨.pointer (some ⟨w.heap.size,0,none⟩),w.alloc (.cells (bs (.func (.func f) #[] arr)).toArray T),fun b=>F b∨b=w.heap.size,S,by simp[Instr.box,newVar,newRow,newObj,Sem.run,lv],hg,.inl ⟨rfl,?_⟩⟩
   refine(au.bB rfl).2 ⟨rfl,?_⟩
   rw[ak]
   refine⟨w.heap.size,0,[.func (.func f) #[] arr],rfl,.inr rfl,?_,?_⟩
   ·have fs:(w.alloc (.cells (bs (.func (.func f) #[] arr)).toArray T)).heap[w.heap.size]? =some (.cells (bs (.func (.func f) #[] arr)).toArray T (0,0)):=by
     show(w.heap.push _)[_]? =_
     simp
    intro j c bE
    cases j with
    |zero=>
     simp only[List.getElem?_cons_zero,Option.some.injEq]at bE
     subst bE
     have e:bs (.func (.func f) #[] arr)=[.func (.func f) #[] arr]:=eC rfl
     unfold World.cell?
     show(match(w.alloc (.cells (bs (.func (.func f) #[] arr)).toArray T)).heap[w.heap.size]? with
      |some (.cells c _ _)=>c[0+0]?
      |_=>none)=_
     rw[fs,e]
     rfl
    |succ j=>simp at bE
   ·rw[ak]
    refine⟨arr,rfl,fun d ae=>(fO d ae).1,?_⟩
    have bb:=aL.AB (a8:=F) (fun b J=>J) caps arr.toList fO aD
    refine aL.mono (F:=F) (fun b J=>.inl J) caps _ _ _ (fun _ h=>h) (aL.frame (fun b J=> ?_) caps _ _ (fun _ h=>h.elim) bb)
    have cJ:=h.de b J
    show(w.heap.push _)[b]? =_
    rw[Array.getElem?_push,if_neg (by omega)]
  ·cases he
 ·cases he
theorem GU (h:a1 w0 F0 X F S s an w) {T:TypeId} {x:I} {v:Value} (ai:x.plain=true) (aD:au w F s an x v (fun _=>False)) (he:dB s x=some (av,s1)):
  Good C w0 F0 X an w (Instr.box T v) av s1:=by
 unfold dB at he
 split at he
 ·cases he
 ·rename_i d s2 mT aK
  simp only[Option.some.injEq,Prod.mk.injEq]at he
  obtain⟨rfl,rfl⟩:=he
  obtain⟨bk,g0,g1,g2,Sn,g3,g4,g5,g6,g7,g8⟩:=lq h ai aD aK
  obtain⟨ed,cn⟩:=g0.alloc T g3 g4 g5 g6 g7
  refine⟨_,_,F,bk,?_,ed,cn⟩
  have lv:=r3 g2 (fun aj e=>mT aj e)
  simp[Instr.box,newVar,newRow,newObj,Sem.run,lv]
 ·cases he
end
end Go.bZ
