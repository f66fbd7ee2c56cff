/- Part of a proof that a law returns true for every input. No condition. -/
import Derived.Test.YtpddiknnnoomoaaFwB
import Derived.Laws.Entries
namespace Go.bV
inductive jk where
 |int (k:IntKind)
 |bool
 |str
 |ptr (e:TypeId)
 |slice (e:TypeId)
 |struct (ag:List (TypeId×Nat))
 |fn
 |cL (e:TypeId)
 |map (k e:TypeId)
 |other
structure dR where
 k:jk
 sz:Nat
 bytes:Nat
 zero:j
mutual
def flat:j→Option (List Value)
 | .bool b=>some [.bool b]
 | .int k n=>some [.int k n]
 | .str s=>some [.string ⟨⟨s⟩⟩]
 | .ck=>some [.pointer none]
 | .bG=>some [.slice none 0 0]
 | .agg ag=>lx ag
 | .cr .kF=>some [.map none]
 |_=>none
def lx:List j→Option (List Value)
 |[]=>some []
 |d::ds=>match flat d,lx ds with
  |some a,some b=>some (a++b)
  |_,_=>none
end
theorem al.flat {w:World} {F:Nat→Prop}:∀n,(∀(d:j) (cs:List Value) (S:Nat→Prop),SizeOf.sizeOf d≤n→flat d=some cs→al w F d cs S)∧
  (∀(ds:List j) (cs:List Value) (S:Nat→Prop),SizeOf.sizeOf ds≤n→lx ds=some cs→aH w F ds cs S):=by
 intro n
 induction n with
 |zero=>exact⟨fun d _ _ bj=>by cases d<;>simp at bj<;>omega,fun ds _ _ bj=>by cases ds<;>simp at bj<;>omega⟩
 |succ n ih=>
  refine⟨fun d cs S bj h=> ?_,fun ds cs S bj h=> ?_⟩
  ·cases d with
   |agg ag=>rw[al];exact ih.2 ag cs S (by simp at bj;omega) (by simpa [bV.flat]using h)
   |bool b=>simp[bV.flat]at h;subst h;rw[al]
   |int k n=>simp[bV.flat]at h;subst h;rw[al]
   |str s=>simp[bV.flat]at h;subst h;rw[al]
   |ck=>simp[bV.flat]at h;subst h;rw[al]
   |bG=>simp[bV.flat]at h;subst h;rw[al]
   |cr o=>cases o<;>simp[bV.flat]at h;subst h;rw[al];rfl
   |_=>simp[bV.flat]at h
  ·cases ds with
   |nil=>simp[lx]at h;subst h;rw[aH]
   |cons d ds=>
    simp only[lx]at h
    split at h
    ·rename_i a b bU I
     simp at h;subst h
     simp at bj
     rw[aH]
     exact⟨a,b,fun _=>False,fun _=>False,rfl,ih.1 d a _ (by omega) bU,ih.2 ds b _ (by omega) I,fun _ h=>h.elim,fun _ h=>h.elim,fun _ h=>h.elim⟩
    ·cases h
def hf:jk→TypeDesc→Prop
 | .int k,.int bY=>k=bY
 | .bool,.bool=>True
 | .str,.string=>True
 | .ptr e,.pointer ej=>e=ej
 | .slice e,.slice ej=>e=ej
 | .struct ag,.struct gs=>gs.toList.map (fun g=>(g.type,g.offset))=ag
 | .fn,.func _ _ _=>True
 | .cL _,.struct _=>True
 | .map k e,.map bY ej=>k=bY∧e=ej
 |_,_=>False
def xw (P:Program) (t:TypeId) (x:dR):Prop:=
 (∃e n b z,x=⟨.other,e,n,b⟩∧z=0)∨
 ∃i d z,P.info? t=some i∧i.size=x.sz∧i.bytes=x.bytes∧i.zero=some z∧(∀cs,flat x.zero=some cs→z.cells=cs.toArray)∧P.underlying t=some d∧hf x.k d
structure bq where
 P:Program
 T:TypeId→dR
 M:FuncId→List Bool
structure bq.cY (C:bq):Prop where
 ty:∀t,xw C.P t (C.T t)
 mixed:C.P.follows .mixedOrders=true
inductive au where
 |t (n:Nat)
 |c (av:j)
 |f (g:FuncId)
def r4:Value→Option j
 | .bool b=>some (.bool b)
 | .int k n=>some (.int k n)
 | .string s=>some (.str s.data.toList)
 | .pointer none=>some .ck
 | .slice none 0 0=>some .bG
 |_=>none
def cd:Operand→Option au
 | .tmp n=>some (.t n)
 | .const v=>(r4 v).map .c
 | .func g=>some (.f g)
 | .global _=>none
def fN (x:Nat) (d:j):j:=if d.plain then d else .h x []
def ax (s:af):au→j
 | .t n=>fN n (s n)
 | .c av=>av
 | .f g=>.fn g []
theorem ar.nothing {w:World} {F:Nat→Prop} {s:af} {ak:Nat→Value} {d:j} {v:Value} {S ay:Nat→Prop} (an:d.plain=true) (h:ar w F s ak d v S):ar w F s ak d v ay:=by
 cases d<;>first
  |(rw[ar];trivial)
  |(rw[ar]at h⊢;exact h)
  |(have a5:=(ar.bx rfl).1 h;exact(ar.bx rfl).2 ⟨a5.1,al.plain _ _ _ _ an a5.2⟩)
section
variable {w0 w:World} {F0 X F:Nat→Prop} {S:Nat→Nat→Prop} {s:af} {ak:Nat→Value} {a:Act}
theorem xx (s:af) (x:au) (ae:∀av,x= .c av→av.plain=true):(ax s x).plain=true:=by
 cases x with
 |t n=>simp only[ax,fN];split<;>first|assumption|rfl
 |c av=>exact ae _ rfl
 |f g=>rfl
theorem uc {v:Value} {av:j} (h:r4 v=some av):av.plain=true:=by
 unfold r4 at h;split at h<;>simp at h<;>subst h<;>rfl
theorem da (h:aY w0 F0 X F S s ak w) (cE:∀t,ak t=a.tmps.getD t undef) {o:Operand} {x:au} (bs:cd o=some x):
  (ax s x).plain=true∧ar w F s ak (ax s x) (a.eval o) (fun _=>False):=by
 cases o with
 |tmp n=>
  simp[cd]at bs;subst bs
  simp only[ax,fN,Act.eval,←cE]
  split
  ·rename_i an;exact⟨an,ar.nothing an (h.b0 n)⟩
  ·rename_i an
   refine⟨rfl,?_⟩
   rw[ar]
   intro d ab CM
   simp only[j.sub,Option.some.injEq]at ab;subst ab
   have aG:=e2 (q:=[]) rfl (.inl CM)
   exact⟨_,none,rfl,rfl,((ar.bx aG).1 (h.b0 n)).1⟩
 |const v=>
  simp only[cd,Option.map_eq_some_iff]at bs
  obtain⟨av,jY,rfl⟩:=bs
  refine⟨uc jY,?_⟩
  simp only[ax,Act.eval]
  unfold r4 at jY
  split at jY<;>simp at jY<;>subst jY<;>rw[ar,al]<;>exact⟨rfl,rfl⟩
 |func g=>
  simp[cd]at bs;subst bs
  refine⟨rfl,?_⟩
  simp only[ax,Act.eval]
  rw[ar]
  exact⟨#[],rfl,by rw[cx]⟩
 |global g=>simp[cd]at bs
def hg (w0:World) (X F:Nat→Prop) (S:Nat→Nat→Prop) (s:af) (ak:Nat→Value) (w:World) (av:j) (v:Value):Prop:=
 (av.plain=true∧ar w F s ak av v (fun _=>False))∨
 (av.tree=true∧cl av v∧∃Sn,al w F av (bd v) Sn∧(∀b,Sn b→b<w.heap.size)∧(∀b,Sn b→¬F b)∧(∀u b,Sn b→¬S u b)∧(∀b,Sn b→X b∨w0.heap.size≤b))
def fin (s:af) (dst:Option Nat) (av:j):af:=match dst with
 |none=>s
 |some t=>if av.plain then bZ s t av else bZ (hD t s) t av
def ly (ak:Nat→Value) (dst:Option Nat) (v:Value):Nat→Value:=match dst with
 |none=>ak
 |some t=>bZ ak t v
theorem aY.fin (h:aY w0 F0 X F S s ak w) {av:j} {v:Value} (aC:hg w0 X F S s ak w av v) (dst:Option Nat):
  ∃ay,aY w0 F0 X F ay (bV.fin s dst av) (ly ak dst v) w:=by
 cases dst with
 |none=>exact⟨S,h⟩
 |some t=>
  simp only[bV.fin,ly]
  rcases aC with⟨an,ab⟩|⟨aG,R,Sn,U,aa,aw,aN,a2⟩
  ·rw[if_pos an];exact⟨_,h.qa an ab⟩
  ·split
   ·rename_i an
    exact⟨_,h.qa an ((ar.bx aG).2 ⟨R,al.plain _ _ _ _ an U⟩)⟩
   ·exact⟨_,h.xq aG R U aa aw (fun u b _ I=>aN u b I) a2⟩
def bL (s:af):j→Option (j×af)
 | .h x q=>match j.sub q (s x)with
   |some d=>if d.plain then none else some (d,bZ (e_ x s) x (j.put q d.bT (s x)))
   |none=>none
 | .an _ _=>none
 | .I _ _=>none
 | .fn _ _=>none
 | .hole=>none
 |d=>some (d,s)
def j.owner:j→Option Nat
 | .h x _=>some x
 |_=>none
def g0:Option Nat→j→j
 |some x,d=>bo x d
 |none,d=>d
theorem jZ (h:aY w0 F0 X F S s ak w) {av d:j} {s1:af} {v:Value} (jY:av.plain=true) (aC:ar w F s ak av v (fun _=>False)) (aG:bL s av=some (d,s1)):
  ∃bh,aY w0 F0 X F bh s1 ak w∧d.tree=true∧cl d v∧∃Sn,al w F d (bd v) Sn∧(∀b,Sn b→b<w.heap.size)∧(∀b,Sn b→¬F b)∧(∀u b,Sn b→¬bh u b)∧(∀b,Sn b→X b∨w0.heap.size≤b)∧
   (∀u b,bh u b→S u b)∧(∀b,Sn b→∃u,S u b)∧(∀(aT:j) (dJ:Value) (ay:Nat→Prop),ar w F s ak aT dJ ay→ar w F s1 ak (g0 av.owner aT) dJ ay):=by
 have tree:∀d:j,d.tree=true→d.plain=true→ar w F s ak d v (fun _=>False)→
   ∃bh,aY w0 F0 X F bh s ak w∧d.tree=true∧cl d v∧∃Sn,al w F d (bd v) Sn∧(∀b,Sn b→b<w.heap.size)∧(∀b,Sn b→¬F b)∧(∀u b,Sn b→¬bh u b)∧(∀b,Sn b→X b∨w0.heap.size≤b)∧
    (∀u b,bh u b→S u b)∧(∀b,Sn b→∃u,S u b):=by
  intro d ab _ a5
  have a5:=(ar.bx ab).1 a5
  exact⟨S,h,ab,a5.1,_,a5.2,fun _ h=>h.elim,fun _ h=>h.elim,fun _ _ h=>h.elim,fun _ h=>h.elim,fun _ _ h=>h,fun _ h=>h.elim⟩
 cases av with
 |h x q=>
  simp only[bL]at aG
  split at aG
  ·rename_i e he
   split at aG
   ·cases aG
   ·rename_i an
    simp only[Option.some.injEq,Prod.mk.injEq]at aG
    obtain⟨rfl,rfl⟩:=aG
    have an:e.plain=false:=by simpa using an
    obtain⟨Sn,dd,bE,bM,eb,cw,gD,fq,gk,gO,iD⟩:=h.take he an
    rw[ar]at aC
    obtain⟨Pp,cj,aD,aO,bg⟩:=aC e he an
    rw[cw]at aD
    simp only[Option.some.injEq,Prod.mk.injEq,true_and]at aD
    obtain⟨rfl,rfl⟩:=aD
    have ud:e.tree=true:=by cases e<;>first|rfl|(simp[j.plain]at an)
    refine⟨_,eb,ud,bg,dd,by rw[aO];exact gD,fun b I=>h.cP x b (fq b I),fun b I=>h.dj x b (fq b I),?_,fun b I=>h.cf x b (fq b I),?_,fun b I=>⟨x,fq b I⟩,iD⟩
    ·intro u b I hu
     simp only[dV]at hu
     split at hu
     ·exact gO b I hu
     ·rename_i r5;exact h.c8 u x b r5 hu (fq b I)
    ·intro u b hu
     simp only[dV]at hu
     split at hu
     ·rename_i e;subst e;exact gk b hu
     ·exact hu
  ·cases aG
 |an x q=>simp[bL]at aG
 |I x q=>simp[bL]at aG
 |fn f c=>simp[bL]at aG
 |hole=>simp[bL]at aG
 |aK sz xs=>simp[j.plain]at jY
 |bc d=>simp[j.plain]at jY
 |_=>
  simp only[bL,Option.some.injEq,Prod.mk.injEq]at aG
  obtain⟨rfl,rfl⟩:=aG
  obtain⟨bh,t1,t2,t3,Sn,t4,t5,t6,t7,t8,t9,t10⟩:=tree _ rfl jY aC
  exact⟨bh,t1,t2,t3,Sn,t4,t5,t6,t7,t8,t9,t10,fun _ _ _ h=>h⟩
def loc (s:af):j→Option (Nat×List Nat)
 | .h x q=>match j.sub q (s x)with
   |some (.bc _)=>some (x,q++[0])
   |_=>none
 | .an x q=>if j.di q (s x)then some (x,q)else none
 |_=>none
theorem qg:∀(q:List Nat) (av d:j) (r:List Nat),j.sub q av=some d→j.sub (q++r) av=j.sub r d:=by
 intro q
 induction q with
 |nil=>intro av d r h;simp[j.sub]at h;subst h;rfl
 |cons k q ih=>
  intro av d r h
  cases av with
  |agg ag=>
   simp only[j.sub,List.cons_append]at h⊢
   split at h
   ·rename_i x ao;exact ih _ _ _ h
   ·cases h
  |tuple ag=>
   simp only[j.sub,List.cons_append]at h⊢
   split at h
   ·rename_i x ao;exact ih _ _ _ h
   ·cases h
  |aK sz ag=>
   simp only[j.sub,List.cons_append]at h⊢
   split at h
   ·rename_i x ao;exact ih _ _ _ h
   ·cases h
  |bc x=>
   cases k with
   |zero=>simp only[j.sub,List.cons_append]at h⊢;exact ih _ _ _ h
   |succ k=>simp[j.sub]at h
  |_=>simp[j.sub]at h
theorem CN:∀(q:List Nat) (av d:j) (r:List Nat),j.sub q av=some d→j.di (q++r) av=(j.di q av||j.di r d):=by
 intro q
 induction q with
 |nil=>intro av d r h;simp[j.sub]at h;subst h;simp[j.di]
 |cons k q ih=>
  intro av d r h
  cases av with
  |agg ag=>
   simp only[j.sub]at h
   split at h
   ·rename_i x ao
    simp only[j.di,List.cons_append,ao]
    exact ih _ _ r h
   ·cases h
  |tuple ag=>
   simp only[j.sub]at h
   split at h
   ·rename_i x ao
    simp only[j.di,List.cons_append,ao]
    exact ih _ _ r h
   ·cases h
  |aK sz ag=>simp[j.di]
  |bc x=>simp[j.di]
  |_=>simp[j.sub]at h
theorem qh (w:World):∀(q:List Nat) (av d:j) (cs bE:List Value) (a bM:Option (Nat×Nat)) (r:List Nat),bX w q av cs a=some (d,bE,bM)→bX w (q++r) av cs a=bX w r d bE bM:=by
 intro q
 induction q with
 |nil=>intro av d cs bE a bM r h;simp[bX]at h;obtain⟨rfl,rfl,rfl⟩:=h;rfl
 |cons k q ih=>
  intro av d cs bE a bM r h
  cases av with
  |agg ag=>
   rw[List.cons_append]
   rw[bX]at h⊢
   split at h
   ·rename_i x ao;exact ih _ _ _ _ _ _ _ h
   ·cases h
  |tuple ag=>
   rw[List.cons_append]
   rw[bX]at h⊢
   split at h
   ·rename_i x ao;exact ih _ _ _ _ _ _ _ h
   ·cases h
  |aK sz ag=>
   rw[List.cons_append]
   rw[bX.eq_def]at h⊢
   simp only at h⊢
   split at h
   ·exact ih _ _ _ _ _ _ _ h
   ·cases h
  |bc x=>
   cases k with
   |zero=>
    rw[List.cons_append]
    rw[bX.eq_def]at h⊢
    simp only at h⊢
    split at h
    ·exact ih _ _ _ _ _ _ _ h
    ·cases h
   |succ k=>rw[show bX w ((k+1)::q) (.bc x) cs a=none from rfl]at h;cases h
  |_=>simp[bX]at h
end
def dR.ok (x:dR):Bool:=match x.k with
 | .other=>false
 |_=>true
theorem bq.cY.info {C:bq} (aQ:C.cY) {t:TypeId} (h:(C.T t).ok=true):
  ∃i d z,C.P.info? t=some i∧i.size=(C.T t).sz∧i.bytes=(C.T t).bytes∧i.zero=some z∧(∀cs,flat (C.T t).zero=some cs→z.cells=cs.toArray)∧C.P.underlying t=some d∧hf (C.T t).k d:=by
 rcases aQ.ty t with⟨e,n,b,z,ao,_⟩|a5
 ·rw[ao]at h;simp[dR.ok]at h
 ·exact a5
theorem dB {x:dR} {k:jk} (h:x.k=k) (ai:k≠.other):x.ok=true:=by
 unfold dR.ok;rw[h];cases k<;>first|rfl|exact(ai rfl).elim
theorem qi {d:TypeDesc} {ag:List (TypeId×Nat)} (h:hf (.struct ag) d):∃gs,d= .struct gs∧gs.toList.map (fun g=>(g.type,g.offset))=ag:=by
 cases d<;>simp[hf]at h
 exact⟨_,rfl,h⟩
theorem hh {d:TypeDesc} {e:TypeId} (h:hf (.slice e) d):d= .slice e:=by
 cases d<;>simp[hf]at h
 rw[h]
theorem qj {d:TypeDesc} {k:IntKind} (h:hf (.int k) d):d= .int k:=by
 cases d<;>simp[hf]at h
 rw[h]
theorem kI {d:TypeDesc} (h:hf .str d):d= .string:=by
 cases d<;>simp[hf]at h
 rfl
theorem ue {d:TypeDesc} (h:hf .bool d):d= .bool:=by
 cases d<;>simp[hf]at h
 rfl
theorem xy {d:TypeDesc} {e:TypeId} (h:hf (.ptr e) d):d= .pointer e:=by
 cases d<;>simp[hf]at h
 rw[h]
theorem el {v:Value} (h:Value.ea v=true):bd v=[v]:=by
 cases v<;>first|rfl|(simp[Value.ea]at h)
theorem nj {P:Program} {t:TypeId} {i:TypeInfo} (h:P.info? t=some i) (w:World):(typeInfo t).run P w= .ok i w:=by simp[typeInfo,h]
theorem gE {P:Program} {t:TypeId} {i:TypeInfo} (h:P.info? t=some i) (w:World):(Go.sizeOf t).run P w= .ok i.size w:=by simp[Go.sizeOf,nj h]
theorem nk {P:Program} {t:TypeId} {i:TypeInfo} {z:Value} (h:P.info? t=some i) (bj:i.zero=some z) (w:World):(zeroValue t).run P w= .ok z w:=by simp[zeroValue,nj h,bj]
section
variable {C:bq} {w0 w:World} {F0 X F:Nat→Prop} {S:Nat→Nat→Prop} {s s1:af} {ak:Nat→Value} {av:j}
def Good (C:bq) (w0:World) (F0 X:Nat→Prop) (ak:Nat→Value) (w:World) (m:Sem Value) (av:j) (s1:af):Prop:=
 ∃v aq a_ ay,m.run C.P w= .ok v aq∧aY w0 F0 X a_ ay s1 ak aq∧hg w0 X a_ ay s1 ak aq av v
theorem Good.same (h:aY w0 F0 X F S s ak w) {m:Sem Value} {v:Value} (aA:m.run C.P w= .ok v w) (an:av.plain=true) (aC:ar w F s ak av v (fun _=>False)):Good C w0 F0 X ak w m av s:=
 ⟨v,w,F,S,aA,h,.inl ⟨an,aC⟩⟩
theorem uf (_h:aY w0 F0 X F S s ak w) {x:j} {v:Value} (aC:ar w F s ak x v (fun _=>False)) {y:Nat} {q:List Nat} (hl:loc s x=some (y,q)) {d:j} (ab:j.sub q (s y)=some d):
  j.di q (s y)=true∧∃bE b o,v= .pointer (some ⟨b,o,none⟩)∧bX w q (s y) (bd (ak y)) none=some (d,bE,some (b,o)):=by
 cases x with
 |h z r6=>
  simp only[loc]at hl
  split at hl
  ·rename_i e he
   simp only[Option.some.injEq,Prod.mk.injEq]at hl
   obtain⟨rfl,rfl⟩:=hl
   rw[ar]at aC
   obtain⟨bE,a,aD,aO,bg⟩:=aC _ he rfl
   have eA:e=d:=by
    rw[qg _ _ _ _ he]at ab
    simpa [j.sub]using ab
   subst eA
   refine⟨by rw[CN _ _ _ _ he];simp[j.di],?_⟩
   have U:Value.ea v=true:=bg
   rw[el U]at aO
   subst aO
   have gN:=qh w r6 (s z) _ _ _ none a [0] aD
   have ao:=_h.b0 z
   rw[ar.bx (e2 he (.inl rfl))]at ao
   obtain⟨dz,bM,cD,dd,k0,bn,bp,cy,b_,c4⟩:=ctx r6 (s z) (bd (ak z)) (S z) none _ ao.2 he
   rw[k0]at aD
   simp only[Option.some.injEq,Prod.mk.injEq,true_and]at aD
   obtain⟨rfl,rfl⟩:=aD
   rw[al]at b_
   obtain⟨b,cur,aL,fr,cc,bb,_⟩:=b_
   simp only[List.cons.injEq,and_true]at bb
   subst bb
   exact⟨_,b,0,rfl,by rw[gN];rfl⟩
  ·cases hl
 |an z r6=>
  simp only[loc]at hl
  split at hl
  ·rename_i ae
   simp only[Option.some.injEq,Prod.mk.injEq]at hl
   obtain⟨rfl,rfl⟩:=hl
   rw[ar]at aC
   obtain⟨bE,b,o,aD,aO⟩:=aC _ ab ae
   exact⟨ae,bE,b,o,aO,aD⟩
  ·cases hl
 |_=>simp[loc]at hl
def dC (C:bq) (s:af) (T:TypeId) (x:j) (k:Nat):Option j:=
 match(C.T T).k with
 | .struct ag=>match ag[k]? with
   |some (gb,off)=>if(C.T gb).ok=true∧(C.T gb).sz≠0 then
     match x with
     | .ref (.agg ds)=>match ds[k]? with
       |some d=>if j.cz (ds.take k)=off then some (.ref d)else none
       |none=>none
     | .I y o=>if(s y).plain then none else some (.I y (o+off))
     |x=>match loc s x with
      |some (y,q)=>match j.sub q (s y)with
       |some (.agg ds)=>if k<ds.length∧j.cz (ds.take k)=off then some (.an y (q++[k]))else none
       |_=>none
      |none=>none
    else none
   |none=>none
 |_=>none
theorem e8.ug {w:World} {b o:Nat} {bz dy bA:List Value} (h:e8 w b o (bz++(dy++bA))):e8 w b (o+bz.length) dy:=by
 intro ad c aS
 have cv:ad<dy.length:=(List.getElem?_eq_some_iff.1 aS).1
 have:=h (bz.length+ad) c (by rw[List.getElem?_append_right (by omega),List.getElem?_append_left (by omega),←aS];congr 1;omega)
 rw[Nat.add_assoc];exact this
theorem uh (aQ:C.cY) {T gb:TypeId} {ag:List (TypeId×Nat)} {k off:Nat} (ai:(C.T T).k= .struct ag) (bk:ag[k]? =some (gb,off)) (U:(C.T gb).ok=true) (aa:(C.T gb).sz≠0) (b o:Nat) (w:World):
  (Instr.fieldAt T (.pointer (some ⟨b,o,none⟩)) k).run C.P w= .ok (.pointer (some ⟨b,o+off,none⟩)) w:=by
 obtain⟨i,d,z,aE,aL,bb,b2,b9,bl,bf⟩:=aQ.info (dB ai (by simp))
 rw[ai]at bf
 obtain⟨gs,rfl,iE⟩:=qi bf
 obtain⟨lz,aT,lA,f1,f2,f3,f4,f5,f6,f7⟩:=aQ.info U
 have aZ:∃g,gs[k]? =some g∧g.type=gb∧g.offset=off:=by
  rw[←iE,List.getElem?_map]at bk
  simp only[Option.map_eq_some_iff,Prod.mk.injEq]at bk
  obtain⟨g,U,aa,aw⟩:=bk
  exact⟨g,by simpa using U,aa,aw⟩
 obtain⟨g,aD,rfl,rfl⟩:=aZ
 simp[Instr.fieldAt,run_underlying bl,aD,Instr.sureAddr,fieldPlace,gE f1,f2,aa,Addr.add_lit]
theorem CO (aQ:C.cY) (h:aY w0 F0 X F S s ak w) {T:TypeId} {x:j} {v:Value} {k:Nat} (ao:x.plain=true) (aC:ar w F s ak x v (fun _=>False)) (he:dC C s T x k=some av):
  Good C w0 F0 X ak w (Instr.fieldAt T v k) av s:=by
 unfold dC at he
 split at he
 ·rename_i ag ai
  split at he
  ·rename_i gb off bk
   split at he
   ·rename_i oo
    split at he
    ·rename_i ds
     split at he
     ·rename_i d ab
      split at he
      ·rename_i kJ
       simp only[Option.some.injEq]at he;subst he
       have h1:=(ar.bx rfl).1 aC
       rw[al]at h1
       obtain⟨R,b,o,c2,U,aa,aw,aN⟩:=h1
       rw[el R]at U
       simp only[List.cons.injEq,and_true]at U;subst U
       rw[al]at aN
       obtain⟨bz,dy,bA,bh,e1,rfl,eT,dw,dU,eB,dH,hX⟩:=aH.pick ds _ _ k d aN ab
       refine Good.same h (uh aQ ai bk oo.1 oo.2 b o w) rfl ((ar.bx rfl).2 ⟨rfl,?_⟩)
       rw[al]
       refine⟨b,o+off,dy,rfl,aa,?_,al.mono (fun _ h=>h) _ _ _ _ (fun b I=>dU b I) dH⟩
       rw[←kJ,←eT];exact aw.ug
      ·cases he
     ·cases he
    ·rename_i y o
     split at he
     ·cases he
     ·rename_i an
      simp only[Option.some.injEq]at he;subst he
      rw[ar]at aC
      obtain⟨b,cur,e,fr,rfl,aa,aw,aN⟩:=aC (by simpa using an)
      refine Good.same h (uh aQ ai bk oo.1 oo.2 b o w) rfl ?_
      rw[ar]
      exact fun _=>⟨b,cur,e,fr,rfl,aa,aw,aN⟩
    ·rename_i x _ _
     split at he
     ·rename_i y q hl
      split at he
      ·rename_i ds ab
       split at he
       ·rename_i kJ
        simp only[Option.some.injEq]at he;subst he
        obtain⟨ae,bE,b,o,rfl,gN⟩:=uf h aC hl ab
        refine Good.same h (uh aQ ai bk oo.1 oo.2 b o w) rfl ?_
        rw[ar]
        intro d2 fa nm
        rw[qh w q _ _ _ _ _ _ [k] gN]
        rw[qg _ _ _ _ ab]at fa
        have mm:∃d3,ds[k]? =some d3:=⟨_,List.getElem?_eq_getElem kJ.1⟩
        obtain⟨d3,qk⟩:=mm
        simp only[j.sub,qk,Option.some.injEq]at fa
        subst fa
        simp only[bX,qk]
        refine⟨(bE.drop off).take d3.wd,b,o+off,?_,rfl⟩
        rw[kJ.2];rfl
       ·cases he
      ·cases he
     ·cases he
   ·cases he
  ·cases he
 ·cases he
def dK (C:bq) (s:af) (T:TypeId) (x i:j):Option j:=
 match(C.T T).k,i with
 | .slice e,.int _ n=>if 0≤n∧(C.T e).ok=true then
   match x with
   | .slice xs=>match xs[n.toNat]? with
     |some d=>if d.wd=(C.T e).sz then some (.ref d)else none
     |none=>none
   | .h y q=>match j.sub q (s y)with
     |some (.aK sz xs)=>if n.toNat<xs.length∧sz=(C.T e).sz then some (.an y (q++[n.toNat]))else none
     |_=>none
   |_=>none
   else none
 |_,_=>none
theorem xz (aQ:C.cY) {T e:TypeId} (ai:(C.T T).k= .slice e) (he:(C.T e).ok=true) (b o len cap:Nat) (k:IntKind) (n:Nat) (aV:n<len) (w:World):
  (Instr.indexAt T (.slice (some ⟨b,o,none⟩) len cap) (.int k n)).run C.P w= .ok (.pointer (some ⟨b,o+n*(C.T e).sz,none⟩)) w:=by
 obtain⟨i,d,z,aE,aL,bb,b2,b9,bl,bf⟩:=aQ.info (dB ai (by simp))
 rw[ai]at bf
 have:=hh bf;subst this
 obtain⟨lz,aT,lA,f1,f2,f3,f4,f5,f6,f7⟩:=aQ.info he
 simp[Instr.indexAt,run_underlying bl,asIntOf,aV,gE f1,f2,Addr.add_lit]
theorem CP (aQ:C.cY) (h:aY w0 F0 X F S s ak w) {T:TypeId} {x i:j} {v jl:Value} (aC:ar w F s ak x v (fun _=>False)) (CQ:ar w F s ak i jl (fun _=>False))
  (he:dK C s T x i=some av):Good C w0 F0 X ak w (Instr.indexAt T v jl) av s:=by
 unfold dK at he
 split at he
 ·rename_i e k n ai
  have ui:=(ar.bx rfl).1 CQ
  rw[al,el ui.1]at ui
  have:jl= .int k n:=by simpa using ui.2
  subst this
  split at he
  ·rename_i aV
   obtain⟨n,rfl⟩:=Int.eq_ofNat_of_zero_le aV.1
   simp only[Int.toNat_natCast]at he
   split at he
   ·rename_i xs
    split at he
    ·rename_i d ab
     split at he
     ·rename_i hw
      simp only[Option.some.injEq]at he;subst he
      have h1:=(ar.bx rfl).1 aC
      rw[al,el h1.1]at h1
      obtain⟨R,⟨rfl,_⟩|⟨b,o,cap,c2,sz,U,aa,aw,aN,a2,bJ,bO⟩⟩:=h1
      ·simp at ab
      ·simp only[List.cons.injEq,and_true]at U;subst U
       have cv:n<xs.length:=(List.getElem?_eq_some_iff.1 ab).1
       obtain⟨bz,dy,bA,bh,e1,rfl,eT,dw,dU,eB,dH,hX⟩:=aH.pick xs _ _ n d bO ab
       refine Good.same h (xz aQ ai aV.2 b o _ _ k n cv w) rfl ((ar.bx rfl).2 ⟨rfl,?_⟩)
       rw[al]
       refine⟨b,_,dy,rfl,aa,?_,al.mono (fun _ h=>h) _ _ _ _ (fun b I=>dU b I) dH⟩
       have CR:=a2 d (List.mem_of_getElem? ab)
       have:n*(C.T e).sz=bz.length:=by
        rw[eT,nd _ (fun d ab=>a2 d (List.mem_of_mem_take ab)),List.length_take,Nat.min_eq_left (by omega),←hw,CR]
       rw[this];exact bJ.ug
     ·cases he
    ·cases he
   ·rename_i y q
    split at he
    ·rename_i sz xs ab
     split at he
     ·rename_i hw
      simp only[Option.some.injEq]at he;subst he
      rw[ar]at aC
      obtain⟨bE,a,aD,aO,bg⟩:=aC _ ab rfl
      have R:Value.ea v=true:=bg
      rw[el R]at aO;subst aO
      have ao:=h.b0 y
      rw[ar.bx (e2 ab (.inl rfl))]at ao
      obtain⟨dz,bM,cD,dd,k0,bn,bp,cy,b_,c4⟩:=ctx q (s y) (bd (ak y)) (S y) none _ ao.2 ab
      rw[k0]at aD
      simp only[Option.some.injEq,Prod.mk.injEq,true_and]at aD
      obtain⟨rfl,rfl⟩:=aD
      rw[al]at b_
      rcases b_ with⟨rfl,_⟩|⟨b,cap,cur,aL,fr,cc,bb,_⟩
      ·simp at hw
      ·simp only[List.cons.injEq,and_true]at bb;subst bb
       refine Good.same h (xz aQ ai aV.2 b 0 _ _ k n hw.1 w) rfl ?_
       rw[ar]
       intro d2 fa _
       rw[qh w q _ _ _ _ _ _ [n] k0]
       rw[qg _ _ _ _ ab]at fa
       obtain⟨d3,qk⟩:∃d3,xs[n]? =some d3:=⟨_,List.getElem?_eq_getElem hw.1⟩
       simp only[j.sub,qk,Option.some.injEq]at fa
       subst fa
       simp only[bX,qk]
       exact⟨_,b,n*sz,rfl,by simp[hw.2]⟩
     ·cases he
    ·cases he
   ·cases he
  ·cases he
 ·cases he
end
section
variable {C:bq} {w0 w:World} {F0 X F:Nat→Prop} {S:Nat→Nat→Prop} {s s1:af} {ak:Nat→Value} {av:j}
theorem xA (aQ:C.cY) {T:TypeId} {ag:List (TypeId×Nat)} (ai:(C.T T).k= .struct ag) (w:World):(isAgg T).run C.P w= .ok true w:=by
 obtain⟨i,d,z,aE,aL,bb,b2,b9,bl,bf⟩:=aQ.info (dB ai (by simp))
 rw[ai]at bf
 obtain⟨gs,rfl,_⟩:=qi bf
 simp[isAgg,run_underlying bl]
def dR.flat (x:dR):Bool:=match x.k with
 | .other=>false
 | .cL _=>false
 | .struct _=>false
 |_=>true
theorem xB {x:dR} (h:x.flat=true):x.ok=true:=by
 unfold dR.flat at h;unfold dR.ok;revert h;cases x.k<;>simp
theorem uj (aQ:C.cY) {T:TypeId} (ai:(C.T T).flat=true) (w:World):(isAgg T).run C.P w= .ok false w:=by
 obtain⟨i,d,z,aE,aL,bb,b2,b9,bl,bf⟩:=aQ.info (xB ai)
 have cg:(∀ag,d≠.struct ag)∧(∀n e,d≠.array n e):=by
  clear bl
  unfold dR.flat at ai
  generalize (C.T T).k=h2 at*
  cases h2<;>cases d<;>simp[hf]at bf ai⊢
 cases d<;>first|exact(cg.1 _ rfl).elim|exact(cg.2 _ _ rfl).elim|simp[isAgg,run_underlying bl]
theorem e8.one {w:World} {b o:Nat} {v:Value} (h:e8 w b o [v]):w.cell? ⟨b,o,none⟩=some v:=by simpa using h 0 v rfl
theorem xC {P:Program} {b o:Nat}:∀(cs:List Value) (i:Nat) (acc:Array Value),e8 w b (o+i) cs→(loadCellsFrom ⟨b,o,none⟩ i cs.length acc).run P w= .ok (acc++cs.toArray) w
 |[],i,acc,_=>by simp[loadCellsFrom]
 |c::cs,i,acc,h=>by
  have bI:w.cell? ⟨b,o+i,none⟩=some c:=by simpa using h 0 c rfl
  have U:e8 w b (o+(i+1)) cs:=by
   intro ad x aS
   have:=h (ad+1) x (by simpa using aS)
   rw[←this];congr 2;omega
  have ih:=xC (P:=P) cs (i+1) (acc.push c) U
  simp only[List.length_cons,loadCellsFrom,Sem.run_bind,Go.load,Sem.run,Addr.add_lit,bI,Result.andThen]
  rw[ih];simp
theorem CS (aQ:C.cY) {T:TypeId} {ag:List (TypeId×Nat)} (ai:(C.T T).k= .struct ag) {b o:Nat} {cs:List Value} (h:e8 w b o cs) (hl:cs.length=(C.T T).sz):
  (loadVar T ⟨b,o,none⟩).run C.P w= .ok (.agg cs.toArray) w:=by
 obtain⟨i,d,z,aE,aL,bb,b2,b9,bl,bf⟩:=aQ.info (dB ai (by simp))
 have:=xC (P:=C.P) (b:=b) (o:=o) cs 0 #[] (by simpa using h)
 simp only[loadVar,Sem.run_bind,xA aQ ai,Result.andThen,if_true,gE aE,aL,←hl,loadCells,this]
 simp
theorem xD (aQ:C.cY) {T:TypeId} (ai:(C.T T).flat=true) {b o:Nat} {v:Value} (h:e8 w b o [v]):
  (loadVar T ⟨b,o,none⟩).run C.P w= .ok v w:=by
 simp[loadVar,uj aQ ai,Go.load,Sem.run,h.one]
def fits (C:bq) (T:TypeId) (d:j):Bool:=match(C.T T).k,d with
    | .struct _,.agg ds=>j.cz ds==(C.T T).sz
    | .struct _,_=>false
    |_,.agg _=>false
    |_,.tuple _=>false
    |_,_=>(C.T T).flat
def xE:List j→Nat→Nat→Option Nat
 |[],_,_=>none
 |d::ds,i,k=>if k=0 then some i else if d.wd≤k then xE ds (i+1) (k-d.wd)else none
def cM (C:bq) (s:af) (T:TypeId) (x:j):Option j:=
 match x with
 | .ref d=>if fits C T d=true then some d else none
 | .I y k=>match s y with
   | .agg ds=>if j.dA ds then none else match xE ds 0 k with
     |some i=>match ds[i]? with
      |some d=>if j.cz (ds.take i)=k∧fits C T d=true then some (if d.plain then d else .h y [i])else none
      |none=>none
     |none=>none
   |_=>none
 |x=>match loc s x with
  |some (y,q)=>match j.sub q (s y)with
   |some d=>if fits C T d=true then some (if d.plain then d else .h y q)else none
   |none=>none
  |none=>none
theorem al.one {F:Nat→Prop} {d:j} {cs:List Value} {S:Nat→Prop} (h:al w F d cs S) (U:∀ag,d≠.agg ag) (aa:∀ag,d≠.tuple ag):∃v,cs=[v]∧Value.ea v=true:=by
 cases d with
 |hole=>rw[al]at h;obtain⟨v,h,rfl⟩:=h;exact⟨v,rfl,h⟩
 |c1=>rw[al]at h;obtain⟨v,rfl⟩:=h;exact⟨_,rfl,rfl⟩
 |slice xs=>rw[al]at h;rcases h with⟨_,a,c,rfl,_⟩|⟨b,o,cap,c2,sz,rfl,_⟩<;>exact⟨_,rfl,rfl⟩
 |aK sz xs=>rw[al]at h;rcases h with⟨_,_,rfl⟩|⟨b,cap,cur,e,fr,cf,rfl,_⟩<;>exact⟨_,rfl,rfl⟩
 |ref d=>rw[al]at h;obtain⟨b,o,c2,rfl,_⟩:=h;exact⟨_,rfl,rfl⟩
 |bc d=>rw[al]at h;obtain⟨b,cur,e,fr,cf,rfl,_⟩:=h;exact⟨_,rfl,rfl⟩
 |agg ag=>exact(U _ rfl).elim
 |tuple ag=>exact(aa _ rfl).elim
 |fn _ _=>rw[al]at h;obtain⟨arr,rfl,_⟩:=h;exact⟨_,rfl,rfl⟩
 |h _ _=>rw[al]at h;exact h.elim
 |an _ _=>rw[al]at h;exact h.elim
 |I _ _=>rw[al]at h;exact h.elim
 |cr _=>rw[al]at h;obtain⟨v,eR,rfl⟩:=hC.one h;exact⟨v,rfl,eR⟩
 |_=>rw[al]at h;subst h;exact⟨_,rfl,rfl⟩
theorem j.r7 {d:j} (h:d.single=true):(∀ag,d≠.agg ag)∧∀ag,d≠.tuple ag:=
 ⟨fun ag e=>(by subst e;cases h),fun ag e=>(by subst e;cases h)⟩
theorem ar.j0 {F:Nat→Prop} {s:af} {ak:Nat→Value} {d:j} {v:Value} (aG:d.tree=true) (R:d.single=true) (h:al w F d [v] (fun _=>False)):ar w F s ak d v (fun _=>False):=by
 obtain⟨dJ,e,U⟩:=al.one h (j.r7 R).1 (j.r7 R).2
 have:v=dJ:=by simpa using e
 subst this
 refine(ar.bx aG).2 ⟨?_,by rw[el U];exact h⟩
 cases d<;>first|exact U|cases R
mutual
theorem ar.kK {F:Nat→Prop} {s:af} {ak:Nat→Value}:∀(d:j) (v:Value),d.single=true→al w F d [v] (fun _=>False)→ar w F s ak d v (fun _=>False)
 | .fn f caps,v,_,h=>by
   rw[al]at h
   obtain⟨arr,U,aa,aw⟩:=h
   rw[ar]
   exact⟨arr,by simpa using U,cx.kK caps _ aa aw⟩
 | .bool b,v,R,h=>ar.j0 rfl R h
 | .c1,v,R,h=>ar.j0 rfl R h
 | .int k n,v,R,h=>ar.j0 rfl R h
 | .str x,v,R,h=>ar.j0 rfl R h
 | .ck,v,R,h=>ar.j0 rfl R h
 | .bG,v,R,h=>ar.j0 rfl R h
 | .slice xs,v,R,h=>ar.j0 rfl R h
 | .aK sz xs,v,R,h=>ar.j0 rfl R h
 | .ref d,v,R,h=>ar.j0 rfl R h
 | .bc d,v,R,h=>ar.j0 rfl R h
 | .h _ _,v,_,h=>by rw[al]at h;exact h.elim
 | .an _ _,v,_,h=>by rw[al]at h;exact h.elim
 | .I _ _,v,_,h=>by rw[al]at h;exact h.elim
 | .cr _,v,R,h=>ar.j0 rfl R h
theorem cx.kK {F:Nat→Prop} {s:af} {ak:Nat→Value}:∀(ds:List j) (vs:List Value),(∀d∈ds,d.single=true)→aH w F ds vs (fun _=>False)→cx w F s ak ds vs
 |[],vs,_,h=>by rw[aH]at h;rw[cx];exact h
 |d::ds,vs,R,h=>by
  rw[aH]at h
  obtain⟨bz,bA,bh,cc,rfl,aa,aw,aN,a2,_⟩:=h
  have ab:=R d (by simp)
  obtain⟨v,rfl,_⟩:=al.one aa (j.r7 ab).1 (j.r7 ab).2
  rw[cx]
  exact⟨v,bA,rfl,ar.kK d v ab (al.mono (fun _ h=>h) _ _ _ _ (fun b I=>aN b I) aa),cx.kK ds bA (fun x ao=>R x (by simp[ao])) (aH.mono (fun _ h=>h) _ _ _ _ (fun b I=>a2 b I) aw)⟩
end
theorem r8 (aQ:C.cY) {T:TypeId} {d:j} {b o:Nat} {cs:List Value} {S:Nat→Prop} (h:e8 w b o cs) (ab:al w F d cs S)
  (fb:fits C T d=true):
  ∃v,(loadVar T ⟨b,o,none⟩).run C.P w= .ok v w∧bd v=cs∧cl d v:=by
 unfold fits at fb
 by_cases R:∃ag,(C.T T).k= .struct ag
 ·obtain⟨ag,ai⟩:=R
  rw[ai]at fb
  cases d with
  |agg ds=>
   simp only[beq_iff_eq]at fb
   refine⟨_,CS aQ ai h ((al.length _ _ _ ab).trans fb),rfl,⟨_,rfl⟩⟩
  |_=>simp at fb
 ·have fO:(C.T T).flat=true∧(∀ag,d≠.agg ag)∧(∀ag,d≠.tuple ag):=by
   revert fb R
   cases ai:(C.T T).k<;>cases d<;>simp
  obtain⟨v,rfl,U⟩:=al.one ab fO.2.1 fO.2.2
  refine⟨v,xD aQ fO.1 h,el U,?_⟩
  cases d<;>first|exact U|exact(fO.2.1 _ rfl).elim|exact(fO.2.2 _ rfl).elim
theorem CT (aQ:C.cY) {T:TypeId} {d:j} {off:Nat} {arr:Array Value} {bz cs bA:List Value} {S:Nat→Prop} (he:arr.toList=bz++(cs++bA)) (bs:bz.length=off) (ab:al w F d cs S)
  (fb:fits C T d=true):
  ∃v,(part T arr off).run C.P w= .ok v w∧bd v=cs∧cl d v:=by
 unfold fits at fb
 by_cases R:∃ag,(C.T T).k= .struct ag
 ·obtain⟨ag,ai⟩:=R
  rw[ai]at fb
  cases d with
  |agg ds=>
   simp only[beq_iff_eq]at fb
   obtain⟨i,d,z,aE,aL,bb,b2,b9,bl,bf⟩:=aQ.info (dB ai (by simp))
   have hl:cs.length=(C.T T).sz:=(al.length _ _ _ ab).trans fb
   have ao:(arr.extract off (off+(C.T T).sz)).toList=cs:=by
    rw[Array.toList_extract,he,List.extract_eq_take_drop,←hl,←bs,Nat.add_sub_cancel_left,List.drop_left,List.take_left]
   refine⟨.agg (arr.extract off (off+(C.T T).sz)),?_,by simpa [bd,e9]using ao,⟨_,rfl⟩⟩
   simp[part,xA aQ ai,gE aE,aL]
  |_=>simp at fb
 ·have fO:(C.T T).flat=true∧(∀ag,d≠.agg ag)∧(∀ag,d≠.tuple ag):=by
   revert fb R
   cases ai:(C.T T).k<;>cases d<;>simp
  obtain⟨v,rfl,U⟩:=al.one ab fO.2.1 fO.2.2
  have aZ:arr[off]? =some v:=by
   rw[←Array.getElem?_toList,he,←bs,List.getElem?_append_right (Nat.le_refl _)];simp
  refine⟨v,?_,el U,?_⟩
  ·simp[part,uj aQ fO.1,aZ]
  ·cases d<;>first|exact U|exact(fO.2.1 _ rfl).elim|exact(fO.2.2 _ rfl).elim
theorem CU (aQ:C.cY) (h:aY w0 F0 X F S s ak w) {T:TypeId} {x:j} {v:Value} (aC:ar w F s ak x v (fun _=>False)) (he:cM C s T x=some av):
  Good C w0 F0 X ak w (Instr.loadAt T v) av s:=by
 unfold cM at he
 split at he
 ·rename_i d
  split at he
  ·rename_i fb
   simp only[Option.some.injEq]at he;subst he
   have h1:=(ar.bx rfl).1 aC
   rw[al,el h1.1]at h1
   obtain⟨R,b,o,c2,U,aa,aw,aN⟩:=h1
   simp only[List.cons.injEq,and_true]at U;subst U
   obtain⟨dJ,aA,ae,iF⟩:=r8 aQ aw aN fb
   have cQ:(Instr.loadAt T (.pointer (some ⟨b,o,none⟩))).run C.P w= .ok dJ w:=by simp[Instr.loadAt,Instr.sureAddr,aA]
   refine⟨dJ,w,F,S,cQ,h,?_⟩
   by_cases aG:d.tree=true
   ·exact .inr ⟨aG,iF,fun _=>False,by rw[ae];exact aN,fun _ h=>h.elim,fun _ h=>h.elim,fun _ _ h=>h.elim,fun _ h=>h.elim⟩
   ·cases d<;>first|exact(aG rfl).elim|(rw[al]at aN;exact aN.elim)|exact .inl ⟨rfl,by rw[ar];trivial⟩|(have a2:=aN;rw[al]at a2;obtain⟨arr,e,_⟩:=a2;rw[←ae]at e aN;rw[el (by exact iF)]at aN;exact .inl ⟨rfl,ar.kK _ _ rfl aN⟩)
  ·cases he
 ·rename_i y k
  split at he
  ·rename_i ds i0
   split at he
   ·cases he
   ·rename_i ql
    split at he
    ·rename_i i az
     split at he
     ·rename_i d ab
      split at he
      ·rename_i fb
       simp only[Option.some.injEq]at he
       have eJ:(s y).plain=false:=by rw[i0];simp only[j.plain];simpa using ql
       rw[ar]at aC
       obtain⟨b,cur,e,fr,rfl,aa,aw,aN⟩:=aC eJ
       have aW:=h.b0 y
       rw[i0]at aW
       have xF:=((ar.bx rfl).1 aW).2
       rw[al]at xF
       obtain⟨bz,dy,bA,bh,e1,e3,eT,dw,dU,eB,dH,hX⟩:=aH.pick ds _ _ i d xF ab
       have gj:e8 w b k dy:=by
        intro ad c aS
        have cv:ad<dy.length:=(List.getElem?_eq_some_iff.1 aS).1
        have:cur.toList[k+ad]? =some c:=by
         rw[aN,e3,List.getElem?_append_right (by omega),List.getElem?_append_left (by omega),←aS];congr 1;omega
        simp[World.cell?,aw]
        simpa using this
       obtain⟨dJ,aA,ae,iF⟩:=r8 aQ gj dH fb.2
       have cQ:(Instr.loadAt T (.pointer (some ⟨b,k,none⟩))).run C.P w= .ok dJ w:=by simp[Instr.loadAt,Instr.sureAddr,aA]
       refine⟨dJ,w,F,S,cQ,h,?_⟩
       split at he
       ·rename_i an
        subst he
        by_cases aG:d.tree=true
        ·exact .inl ⟨an,(ar.bx aG).2 ⟨iF,by rw[ae];exact al.plain _ _ _ _ an dH⟩⟩
        ·cases d<;>first|exact(aG rfl).elim|(rw[al]at dH;exact dH.elim)|exact .inl ⟨rfl,by rw[ar];trivial⟩|(have a2:=al.plain _ _ _ (fun _=>False) an dH;rw[←ae]at a2;rw[el (by exact iF)]at a2;exact .inl ⟨rfl,ar.kK _ _ rfl a2⟩)
       ·subst he
        refine .inl ⟨rfl,?_⟩
        rw[ar]
        intro d2 fa _
        rw[i0]at fa⊢
        simp only[j.sub,ab,Option.some.injEq]at fa
        subst fa
        refine⟨dy,none,?_,ae,iF⟩
        simp only[bX,ab]
        rw[e3,nb bz dy bA _ _ eT (al.length _ _ _ dH)]
        rfl
      ·cases he
     ·cases he
    ·cases he
  ·cases he
 ·rename_i x _ _
  split at he
  ·rename_i y q hl
   split at he
   ·rename_i d ab
    split at he
    ·rename_i fb
     simp only[Option.some.injEq]at he
     obtain⟨j1,bE,b,o,rfl,gN⟩:=uf h aC hl ab
     have aW:=h.b0 y
     rw[ar.bx (e2 ab (.inr j1))]at aW
     obtain⟨dz,bM,cD,dd,k0,bn,bp,cy,b_,c4⟩:=ctx q (s y) (bd (ak y)) (S y) none _ aW.2 ab
     rw[k0]at gN
     simp only[Option.some.injEq,Prod.mk.injEq,true_and]at gN
     obtain⟨rfl,rfl⟩:=gN
     have gj:e8 w b o dz:=by
      rcases c4 with⟨l,r,aE,aL,_⟩|⟨dp,cur,e,fr,l,r,aE,aL,bb,b2,b9,_⟩
      ·simp at aL
      ·simp only[Option.some.injEq,Prod.mk.injEq]at aE
       obtain⟨rfl,rfl⟩:=aE
       intro ad c aS
       have cv:ad<dz.length:=(List.getElem?_eq_some_iff.1 aS).1
       have:cur.toList[l.length+ad]? =some c:=by
        rw[b9,List.getElem?_append_right (by omega),List.getElem?_append_left (by omega),←aS];congr 1;omega
       simp[World.cell?,bb]
       simpa using this
     obtain⟨dJ,aA,ae,iF⟩:=r8 aQ gj b_ fb
     have cQ:(Instr.loadAt T (.pointer (some ⟨b,o,none⟩))).run C.P w= .ok dJ w:=by simp[Instr.loadAt,Instr.sureAddr,aA]
     refine⟨dJ,w,F,S,cQ,h,?_⟩
     split at he
     ·rename_i an
      subst he
      by_cases aG:d.tree=true
      ·exact .inl ⟨an,(ar.bx aG).2 ⟨iF,by rw[ae];exact al.plain _ _ _ _ an b_⟩⟩
      ·cases d<;>first|exact(aG rfl).elim|(rw[al]at b_;exact b_.elim)|exact .inl ⟨rfl,by rw[ar];trivial⟩|(have a2:=al.plain _ _ _ (fun _=>False) an b_;rw[←ae]at a2;rw[el (by exact iF)]at a2;exact .inl ⟨rfl,ar.kK _ _ rfl a2⟩)
     ·subst he
      refine .inl ⟨rfl,?_⟩
      rw[ar]
      intro d2 fa _
      rw[ab]at fa
      simp only[Option.some.injEq]at fa
      subst fa
      exact⟨_,_,k0,ae,iF⟩
    ·cases he
   ·cases he
  ·cases he
mutual
theorem al.nn {F:Nat→Prop}:∀(d:j) (cs:List Value) (S:Nat→Prop),al w F d cs S→∀c∈cs,Value.ea c=true
 | .hole,cs,S,h=>by rw[al]at h;obtain⟨v,h,rfl⟩:=h;simpa using h
 | .bool _,cs,S,h=>by rw[al]at h;subst h;simp[Value.ea]
 | .c1,cs,S,h=>by rw[al]at h;obtain⟨b,rfl⟩:=h;simp[Value.ea]
 | .int _ _,cs,S,h=>by rw[al]at h;subst h;simp[Value.ea]
 | .str _,cs,S,h=>by rw[al]at h;subst h;simp[Value.ea]
 | .ck,cs,S,h=>by rw[al]at h;subst h;simp[Value.ea]
 | .bG,cs,S,h=>by rw[al]at h;subst h;simp[Value.ea]
 | .slice xs,cs,S,h=>by
   rw[al]at h
   rcases h with⟨_,a,c,rfl,_⟩|⟨b,o,cap,c2,sz,rfl,_⟩<;>simp[Value.ea]
 | .aK sz xs,cs,S,h=>by
   rw[al]at h
   rcases h with⟨_,_,rfl⟩|⟨b,cap,cur,e,fr,ay,rfl,_⟩<;>simp[Value.ea]
 | .ref d,cs,S,h=>by rw[al]at h;obtain⟨b,o,c2,rfl,_⟩:=h;simp[Value.ea]
 | .bc d,cs,S,h=>by rw[al]at h;obtain⟨b,o,c2,_,_,rfl,_⟩:=h;simp[Value.ea]
 | .agg ag,cs,S,h=>by rw[al]at h;exact aH.nn ag _ _ h
 | .tuple ag,cs,S,h=>by rw[al]at h;exact aH.nn ag _ _ h
 | .fn _ _,cs,S,h=>by rw[al]at h;obtain⟨arr,rfl,_⟩:=h;simp[Value.ea]
 | .h _ _,cs,S,h=>by rw[al]at h;exact h.elim
 | .an _ _,cs,S,h=>by rw[al]at h;exact h.elim
 | .I _ _,cs,S,h=>by rw[al]at h;exact h.elim
 | .cr _,cs,S,h=>by rw[al]at h;obtain⟨v,eR,rfl⟩:=hC.one h;simpa using eR
theorem aH.nn {F:Nat→Prop}:∀(ds:List j) (cs:List Value) (S:Nat→Prop),aH w F ds cs S→∀c∈cs,Value.ea c=true
 |[],cs,S,h=>by rw[aH]at h;subst h;simp
 |d::ds,cs,S,h=>by
  rw[aH]at h
  obtain⟨bz,bA,bh,cc,rfl,aa,aw,_⟩:=h
  intro c ae
  rcases List.mem_append.1 ae with ae|ae
  ·exact al.nn d _ _ aa c ae
  ·exact aH.nn ds _ _ aw c ae
end
theorem uk {P:Program} {b o:Nat} {e:TypeId} {fr:Nat×Nat}:∀(vs:List Value) (i:Nat) (cur:Array Value) (w:World) (l m r:List Value),w.heap[b]? =some (.cells cur e fr)→hb fr cur.size→
  cur.toList=l++(m++r)→l.length=o+i→m.length=vs.length→(∀v∈vs,Value.ea v=true)→
  ∃aq,(storeCells ⟨b,o,none⟩ vs i).run P w= .ok () aq∧aq.heap[b]? =some (.cells (l++(vs++r)).toArray e fr)∧(∀c,c≠b→aq.heap[c]? =w.heap[c]?)∧aq.heap.size=w.heap.size∧aq.os=w.os∧aq.tape=w.tape∧Out aq w
 |[],i,cur,w,l,m,r,I,bk,ae,hl,hm,_=>by
  refine⟨w,rfl,?_,fun _ _=>rfl,rfl,rfl,rfl,Out.refl _⟩
  have:m=[]:=by simpa using hm
  subst this
  rw[I]
  have:cur=(l++([]++r)).toArray:=by rw[←ae]
  rw[←this]
 |v::vs,i,cur,w,l,m,r,I,bk,ae,hl,hm,r9=>by
  obtain⟨x,m,rfl⟩:∃x e4,m=x::e4:=by cases m with
   |nil=>simp at hm
   |cons x m=>exact⟨x,m,rfl⟩
  have hlen:cur.size=(l++(x::m++r)).length:=by rw[←ae];simp
  have cv:o+i<cur.size:=by rw[hlen];simp;omega
  have mn:w.cell? ⟨b,o+i,none⟩=some cur[o+i]:=by simp[World.cell?,I,cv]
  have CV:w.frozen? ⟨b,o+i,none⟩=false:=by
   have:=bk (o+i) cv
   simp only[World.frozen?,I]
   simp only[Bool.and_eq_false_iff,decide_eq_false_iff_not]
   by_cases U:fr.1≤o+i
   ·right;exact fun aa=>this ⟨U,aa⟩
   ·left;exact U
  have mo:(w.setCell ⟨b,o+i,none⟩ v).heap[b]? =some (.cells ((l++[v])++(m++r)).toArray e fr):=by
   simp only[World.setCell,Array.getElem?_modify,if_true,I,Option.map_some,Option.isSome_none,Bool.false_eq_true,if_false]
   congr 2
   apply Array.ext'
   rw[Array.toList_setIfInBounds,ae,←hl,List.set_append_right _ _ (Nat.le_refl _)]
   simp
  have jm:(store ((⟨b,o,none⟩:Addr).add i) v).run P w= .ok () (w.setCell ⟨b,o+i,none⟩ v):=by
   have U:=r9 v (by simp)
   rw[Addr.add_lit]
   cases v<;>first|(simp[Value.ea]at U;done)|simp[Go.store,Sem.run,mn,CV]
  obtain⟨aq,aD,aO,bg,b6,cJ,ec,ew⟩:=uk (P:=P) (b:=b) (o:=o) vs (i+1) _ (w.setCell ⟨b,o+i,none⟩ v) (l++[v]) m r mo (by
   have:(l++[v]++(m++r)).toArray.size=cur.size:=by rw[hlen];simp
   rw[this];exact bk) (by simp) (by simp;omega) (by simpa using hm) (fun u hu=>r9 u (by simp[hu]))
  refine⟨aq,?_,by simpa using aO,fun c ae=> ?_,?_,cJ,ec,ew⟩
  ·simp only[storeCells,Sem.run_bind,jm,Result.andThen];exact aD
  ·rw[bg c ae]
   simp only[World.setCell,Array.getElem?_modify]
   rw[if_neg (fun e=>ae e.symm)]
  ·rw[b6];simp[World.setCell]
theorem qm {d:j} {v:Value} (h:cl d v) (ab:∀ag,d≠.tuple ag):v.cells=(bd v).toArray:=by
 cases d with
 |tuple ag=>exact(ab _ rfl).elim
 |agg ag=>obtain⟨arr,rfl⟩:=h;simp[Value.cells,bd,e9]
 |_=>
  have U:Value.ea v=true:=h
  rw[el U]
  cases v<;>first|rfl|(simp[Value.ea]at U)
def dW (C:bq) (s:af) (T:TypeId) (x y:j):Option af:=
 match bL s y,loc s x with
 |some (d,s1),some (z,q)=>match d with
  | .tuple _=>none
  |d=>match j.sub q (s z)with
   |some d0=>if d.wd=d0.wd∧d.wd=(C.T T).sz∧(C.T T).ok=true∧y.owner≠some z then some (bZ (e_ z s1) z (j.put q d (s z)))else none
   |none=>none
 |_,_=>none
theorem CW {s s1:af} {y d:j} {z:Nat} (h:bL s y=some (d,s1)) (bj:(s z).tree=true) (aW:y.owner≠some z):s1 z=s z:=by
 cases y with
 |h x q=>
  simp only[bL]at h
  split at h
  ·split at h
   ·cases h
   ·simp only[Option.some.injEq,Prod.mk.injEq]at h
    obtain⟨_,rfl⟩:=h
    rw[f_ _ _ (fun e=>aW (by rw[j.owner,e]))]
    exact tY bj
  ·cases h
 |an x q=>simp[bL]at h
 |I x q=>simp[bL]at h
 |fn f c=>simp[bL]at h
 |hole=>simp[bL]at h
 |_=>simp only[bL,Option.some.injEq,Prod.mk.injEq]at h;rw[h.2]
theorem CX (aQ:C.cY) (h:aY w0 F0 X F S s ak w) {T:TypeId} {x y:j} {e5 fw:Value} (um:ar w F s ak x e5 (fun _=>False)) (aW:y.plain=true) (CY:ar w F s ak y fw (fun _=>False))
  {s2:af} (he:dW C s T x y=some s2):
  ∃aq ay,(Instr.storeAt T e5 fw).run C.P w= .ok () aq∧aY w0 F0 X F ay s2 ak aq:=by
 unfold dW at he
 split at he
 ·rename_i d s1 z q aG hl
  have key:∀d:j,(∀ag,d≠.tuple ag)→bL s y=some (d,s1)→(match j.sub q (s z)with
   |some d0=>if d.wd=d0.wd∧d.wd=(C.T T).sz∧(C.T T).ok=true∧y.owner≠some z then some (bZ (e_ z s1) z (j.put q d (s z)))else none
   |none=>none)=some s2→∃aq ay,(Instr.storeAt T e5 fw).run C.P w= .ok () aq∧aY w0 F0 X F ay s2 ak aq:=by
   intro d lB aG he
   split at he
   ·rename_i d0 iG
    split at he
    ·rename_i np
     obtain⟨U,aa,aw,aN⟩:=np
     simp only[Option.some.injEq]at he;subst he
     obtain⟨j1,bE,b,o,rfl,gN⟩:=uf h um hl iG
     obtain⟨bh,dI,aD,aO,Sn,bg,b6,cJ,ec,ew,fE⟩:=jZ h aW CY aG
     have cp:s1 z=s z:=CW aG (e2 iG (.inr j1)) aN
     rw[←cp]at iG j1 gN⊢
     obtain⟨dz,dp,l,r,cur,e,fr,k0,bn,bp,cy,b_⟩:=dI.store iG j1 bg U b6 cJ ec ew
     rw[gN]at k0
     simp only[Option.some.injEq,Prod.mk.injEq,true_and]at k0
     obtain⟨rfl,rfl,rfl⟩:=k0
     obtain⟨i,d,lA,aE,aL,bb,b2,b9,bl,bf⟩:=aQ.info aw
     have hlen:=al.length _ _ _ bg
     have hm:bE.length=(bd fw).length:=by
      have nq:=dI.b0 z
      rw[ar.bx (e2 iG (.inr j1))]at nq
      obtain⟨_,_,_,_,mh,_,_,_,r_,_⟩:=ctx q (s1 z) (bd (ak z)) (bh z) none _ nq.2 iG
      rw[gN]at mh
      simp only[Option.some.injEq,Prod.mk.injEq,true_and]at mh
      rw[mh.1,al.length _ _ _ r_,hlen,U]
     obtain⟨aq,ey,fi,fW,j2,kL,e6,lC⟩:=uk (P:=C.P) (b:=b) (o:=l.length) (e:=e) (fr:=fr) (bd fw) 0 cur w l bE r bn cy bp rfl hm (al.nn _ _ _ bg)
     obtain⟨ay,c4⟩:=b_ aq fi fW j2 kL e6 lC
     refine⟨aq,ay,?_,c4⟩
     have j3:=qm aO lB
     simp[Instr.storeAt,Instr.sureAddr,storeVar,gE aE,aL,j3,hlen,aa,ey]
    ·cases he
   ·cases he
  split at he
  ·cases he
  ·rename_i lB
   exact key _ (fun ag e=>lB ag e) aG he
 ·cases he
theorem aY.alloc (h:aY w0 F0 X F S s ak w) {d:j} {cs:List Value} {Sn:Nat→Prop} (e:TypeId) (aC:al w F d cs Sn)
  (cv:∀b,Sn b→b<w.heap.size) (aR:∀b,Sn b→¬F b) (ba:∀u b,Sn b→¬S u b) (bI:∀b,Sn b→X b∨w0.heap.size≤b):
  aY w0 F0 X F S s ak (w.alloc (.cells cs.toArray e))∧
   hg w0 X F S s ak (w.alloc (.cells cs.toArray e)) (.bc d) (.pointer (some ⟨w.heap.size,0,none⟩)):=by
 have hold:∀b,b<w.heap.size→(w.alloc (.cells cs.toArray e)).heap[b]? =w.heap[b]? :=by
  intro b I
  show(w.heap.push _)[b]? =_
  rw[Array.getElem?_push,if_neg (by omega)]
 refine⟨h.grow hold (by simp) rfl rfl ⟨rfl,fun _=>Nat.le_refl _⟩,.inr ⟨rfl,rfl,fun b=>b=w.heap.size∨Sn b,?_,?_,?_,?_,?_⟩⟩
 ·rw[al]
  refine⟨w.heap.size,cs.toArray,e,(0,0),Sn,rfl,.inl rfl,?_,?_,?_,fun c ae=>.inr ae,fun ae=>Nat.lt_irrefl _ (cv _ ae)⟩
  ·show(w.heap.push _)[_]? =_
   simp
  ·intro o _ ⟨_,aa⟩;exact absurd aa (Nat.not_lt_zero _)
  ·exact al.frame (fun b I=>hold b (h.c_ b I)) _ _ _ (fun b I=>hold b (cv b I)) aC
 ·rintro b (rfl|I)
  ·simp
  ·have:=cv b I;simp;omega
 ·rintro b (rfl|I) lD
  ·exact Nat.lt_irrefl _ (h.c_ _ lD)
  ·exact aR b I lD
 ·rintro u b (rfl|I) hu
  ·exact Nat.lt_irrefl _ (h.cP _ _ hu)
  ·exact ba u b I hu
 ·rintro b (rfl|I)
  ·exact .inr h.size
  ·exact bI b I
def eK (C:bq) (T:TypeId):Option j:=if(C.T T).ok=true then(match(C.T T).k,(C.T T).zero with
    | .cL e,.agg [.ck,.bG]=>some (.cr (.fu T e []))
    | .cL _,_=>none
    |_,z=>(match flat z with|some _=>some (.bc z)|none=>none))else none
theorem CZ (aQ:C.cY) (h:aY w0 F0 X F S s ak w) {T:TypeId} (he:eK C T=some av):Good C w0 F0 X ak w (Instr.alloc T true (.tuple #[])) av s:=by
 unfold eK at he
 split at he
 ·rename_i ai
  split at he
  ·rename_i Pq Pr nr
   simp only[Option.some.injEq]at he;subst he
   obtain⟨i,d,z,aE,aL,bb,b2,b9,bl,bf⟩:=aQ.info ai
   have bj:=b9 [.pointer none,.slice none 0 0] (by rw[nr];rfl)
   have hold:∀b,b<w.heap.size→(w.alloc (.cells #[.pointer none,.slice none 0 0] T)).heap[b]? =w.heap[b]? :=by
    intro b I
    show(w.heap.push _)[b]? =_
    rw[Array.getElem?_push,if_neg (by omega)]
   refine⟨.pointer (some ⟨w.heap.size,0,none⟩),w.alloc (.cells #[.pointer none,.slice none 0 0] T),F,S,?_,h.grow hold (by simp) rfl rfl ⟨rfl,fun _=>Nat.le_refl _⟩,.inr ⟨rfl,rfl,fun b=>b=w.heap.size,?_,?_,?_,?_,?_⟩⟩
   ·simp[Instr.alloc,nk aE b2,newVar,newRow,newObj,Sem.run,bj]
   ·rw[al]
    refine⟨w.heap.size,.pointer none,.slice none 0 0,rfl,rfl,?_,.inl rfl,.inl ⟨rfl,rfl⟩⟩
    show(w.heap.push _)[_]? =_
    simp
   ·rintro b rfl;simp
   ·rintro b rfl lD;exact Nat.lt_irrefl _ (h.c_ _ lD)
   ·rintro u b rfl hu;exact Nat.lt_irrefl _ (h.cP _ _ hu)
   ·rintro b rfl;exact .inr h.size
  ·cases he
  split at he
  ·rename_i cs e3
   simp only[Option.some.injEq]at he;subst he
   obtain⟨i,d,z,aE,aL,bb,b2,b9,bl,bf⟩:=aQ.info ai
   have bj:=b9 cs e3
   obtain⟨eb,cw⟩:=h.alloc (d:=(C.T T).zero) T ((al.flat _).1 _ cs (fun _=>False) (Nat.le_refl _) e3) (fun _ h=>h.elim) (fun _ h=>h.elim) (fun _ _ h=>h.elim) (fun _ h=>h.elim)
   refine⟨_,_,F,S,?_,eb,cw⟩
   simp[Instr.alloc,nk aE b2,newVar,newRow,newObj,Sem.run,bj]
  ·cases he
 ·cases he
def dq (s:af) (x:j):Option (j×af):=match bL s x with
 |some (.tuple _,_)=>none
 |some (d,s1)=>some (.bc d,s1)
 |none=>none
def hi (s:af) (x:j):Option (j×af):=match x with
 | .h y q=>match q,s y with
   |[],.agg ds=>if j.dA ds then none else some (.I y 0,s)
   |_,_=>none
 | .fn f caps=>if caps.all (fun d=>d.single&&(d.tree&&d.plain))=true then some (.ref (.fn f caps),s)else none
 |_=>none
theorem aH.xG {w:World} {F a_:Nat→Prop} {s:af} {ak:Nat→Value} (aR:∀b,F b→a_ b):∀(ds:List j) (vs:List Value),(∀d∈ds,d.single=true∧d.tree=true∧d.plain=true)→cx w F s ak ds vs→aH w a_ ds vs (fun _=>False)
 |[],vs,_,h=>by rw[cx]at h;rw[aH];exact h
 |d::ds,vs,R,h=>by
  rw[cx]at h
  obtain⟨v,fZ,rfl,U,aa⟩:=h
  obtain⟨d1,d2,d3⟩:=R d (by simp)
  have aw:=(ar.bx d2).1 U
  have bs:Value.ea v=true:=by
   have:=aw.1
   cases d<;>first|exact this|cases d1
  have aN:=aw.2
  rw[el bs]at aN
  rw[aH]
  exact⟨[v],fZ,fun _=>False,fun _=>False,rfl,al.mono aR _ _ _ _ (fun _ h=>h) aN,aH.xG aR ds fZ (fun x ao=>R x (by simp[ao])) aa,fun _ h=>h,fun _ h=>h,fun _ h=>h.elim⟩
theorem C0 {T:TypeId} {v:Value} (h:aY w0 F0 X F S s ak w):aY w0 F0 X (fun b=>F b∨b=w.heap.size) S s ak (w.alloc (.cells (bd v).toArray T)):=by
 have hold:∀b,b<w.heap.size→(w.alloc (.cells (bd v).toArray T)).heap[b]? =w.heap[b]? :=by
  intro b I
  show(w.heap.push _)[b]? =_
  rw[Array.getElem?_push,if_neg (by omega)]
 have U:=h.grow hold (by simp) rfl rfl ⟨rfl,fun _=>Nat.le_refl _⟩
 exact {
  ep:=fun b I=>.inl (U.ep b I)
  eC:=fun b I=>by
   rcases I with I|rfl
   ·exact U.eC b I
   ·exact .inr (.inr h.size)
  c_:=fun b I=>by
   rcases I with I|rfl
   ·exact U.c_ b I
   ·simp
  cP:=U.cP
  dj:=fun t b I bk=>by
   rcases bk with bk|rfl
   ·exact U.dj t b I bk
   ·exact absurd (h.cP t _ I) (Nat.lt_irrefl _)
  c8:=U.c8
  cf:=U.cf
  b0:=fun t=>ar.frame (fun _ _=>rfl) (fun b I=>.inl I) (fun _ _ _=>rfl) U.b0 _ _ _ (fun _ _=>rfl) (U.b0 t)
  old:=U.old
  size:=U.size
  os:=U.os
  tape:=U.tape
  output:=U.output
  er:=h.er}
theorem C1 (h:aY w0 F0 X F S s ak w) {T:TypeId} {x:j} {v:Value} (aC:ar w F s ak x v (fun _=>False)) (he:hi s x=some (av,s1)):
  Good C w0 F0 X ak w (Instr.box T v) av s1:=by
 unfold hi at he
 split at he
 ·rename_i y q
  split at he
  ·rename_i ds i0
   split at he
   ·cases he
   ·rename_i ql
    simp only[Option.some.injEq,Prod.mk.injEq]at he
    obtain⟨rfl,rfl⟩:=he
    rw[ar]at aC
    obtain⟨bE,a,aD,aO,bg⟩:=aC (s y) (by simp only[j.sub]) (by rw[i0];simp only[j.plain];simpa using ql)
    simp only[bX,Option.some.injEq,Prod.mk.injEq,true_and]at aD
    rw[i0]at bg
    have j3:=qm bg (fun ag e=>by cases e)
    have hold:∀b,b<w.heap.size→(w.alloc (.cells (bd v).toArray T)).heap[b]? =w.heap[b]? :=by
     intro b I
     show(w.heap.push _)[b]? =_
     rw[Array.getElem?_push,if_neg (by omega)]
    refine⟨.pointer (some ⟨w.heap.size,0,none⟩),w.alloc (.cells (bd v).toArray T),fun b=>F b∨b=w.heap.size,S,by simp[Instr.box,newVar,newRow,newObj,Sem.run,j3],?_,.inl ⟨rfl,?_⟩⟩
    ·have U:=h.grow hold (by simp) rfl rfl ⟨rfl,fun _=>Nat.le_refl _⟩
     exact {
      ep:=fun b I=>.inl (U.ep b I)
      eC:=fun b I=>by
       rcases I with I|rfl
       ·exact U.eC b I
       ·exact .inr (.inr h.size)
      c_:=fun b I=>by
       rcases I with I|rfl
       ·exact U.c_ b I
       ·simp
      cP:=U.cP
      dj:=fun t b I bk=>by
       rcases bk with bk|rfl
       ·exact U.dj t b I bk
       ·exact absurd (h.cP t _ I) (Nat.lt_irrefl _)
      c8:=U.c8
      cf:=U.cf
      b0:=fun t=>ar.frame (fun _ _=>rfl) (fun b I=>.inl I) (fun _ _ _=>rfl) U.b0 _ _ _ (fun _ _=>rfl) (U.b0 t)
      old:=U.old
      size:=U.size
      os:=U.os
      tape:=U.tape
      output:=U.output
      er:=h.er}
    ·rw[ar]
     intro _
     refine⟨w.heap.size,(bd v).toArray,T,(0,0),rfl,.inr rfl,?_,?_⟩
     ·show(w.heap.push _)[_]? =_
      simp
     ·rw[aD.1,←aO]
  ·cases he
 ·rename_i f caps
  split at he
  ·rename_i ae
   simp only[Option.some.injEq,Prod.mk.injEq]at he
   obtain⟨rfl,rfl⟩:=he
   have e3:∀d∈caps,d.single=true∧d.tree=true∧d.plain=true:=fun d ab=>by
    have:=List.all_eq_true.1 ae d ab
    simpa only[Bool.and_eq_true]using this
   rw[ar]at aC
   obtain⟨arr,rfl,aC⟩:=aC
   have j3:=qm (d:=.fn f caps) (v:=.func (.func f) #[] arr) rfl (fun ag e=>by cases e)
   have aZ:=C0 (T:=T) (v:=.func (.func f) #[] arr) h
   refine⟨.pointer (some ⟨w.heap.size,0,none⟩),w.alloc (.cells (bd (.func (.func f) #[] arr)).toArray T),fun b=>F b∨b=w.heap.size,S,by simp[Instr.box,newVar,newRow,newObj,Sem.run,j3],aZ,.inl ⟨rfl,?_⟩⟩
   refine(ar.bx rfl).2 ⟨rfl,?_⟩
   rw[al]
   refine⟨w.heap.size,0,[.func (.func f) #[] arr],rfl,.inr rfl,?_,?_⟩
   ·have iB:(w.alloc (.cells (bd (.func (.func f) #[] arr)).toArray T)).heap[w.heap.size]? =some (.cells (bd (.func (.func f) #[] arr)).toArray T (0,0)):=by
     show(w.heap.push _)[_]? =_
     simp
    intro ad c aS
    cases ad with
    |zero=>
     simp only[List.getElem?_cons_zero,Option.some.injEq]at aS
     subst aS
     have e:bd (.func (.func f) #[] arr)=[.func (.func f) #[] arr]:=el rfl
     unfold World.cell?
     show(match(w.alloc (.cells (bd (.func (.func f) #[] arr)).toArray T)).heap[w.heap.size]? with
      |some (.cells c _ _)=>c[0+0]?
      |_=>none)=_
     rw[iB,e]
     rfl
    |succ ad=>simp at aS
   ·rw[al]
    refine⟨arr,rfl,fun d ab=>(e3 d ab).1,?_⟩
    have a2:=aH.xG (a_:=F) (fun b I=>I) caps arr.toList e3 aC
    refine aH.mono (F:=F) (fun b I=>.inl I) caps _ _ _ (fun _ h=>h) (aH.frame (fun b I=> ?_) caps _ _ (fun _ h=>h.elim) a2)
    have cv:=h.c_ b I
    show(w.heap.push _)[b]? =_
    rw[Array.getElem?_push,if_neg (by omega)]
  ·cases he
 ·cases he
theorem C2 (h:aY w0 F0 X F S s ak w) {T:TypeId} {x:j} {v:Value} (ao:x.plain=true) (aC:ar w F s ak x v (fun _=>False)) (he:dq s x=some (av,s1)):
  Good C w0 F0 X ak w (Instr.box T v) av s1:=by
 unfold dq at he
 split at he
 ·cases he
 ·rename_i d s2 lB aG
  simp only[Option.some.injEq,Prod.mk.injEq]at he
  obtain⟨rfl,rfl⟩:=he
  obtain⟨bh,dI,aD,aO,Sn,bg,b6,cJ,ec,ew,fE⟩:=jZ h ao aC aG
  obtain⟨eb,cw⟩:=dI.alloc T bg b6 cJ ec ew
  refine⟨_,_,F,bh,?_,eb,cw⟩
  have j3:=qm aO (fun ag e=>lB ag e)
  simp[Instr.box,newVar,newRow,newObj,Sem.run,j3]
 ·cases he
end
end Go.bV
