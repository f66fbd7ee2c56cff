/- Part of a proof that a law returns true for every input. No condition. -/
import Derived.Test.YtndfcecbamffaaaGreatDoorFwB
import Derived.Laws.Entries
namespace Go.cG
open List Option Go.IntKind Nat Or
inductive mb where
 |int (k:IntKind)
 |bool
 |str
 |ptr (e:TypeId)
 |slice (e:TypeId)
 |struct (ar:List (TypeId×Nat))
 |fn
 |hi (e:TypeId)
 |map (k e:TypeId)
 |other
structure fv where
 k:mb
 sz:Nat
 bytes:Nat
 zero:j
mutual
def flat:j->Option ach
 | .bool b=>some [.bool b]
 | .int k n=>some [.int k n]
 | .str s=>some [.string ⟨⟨s⟩⟩]
 | .c6=>some [.pointer none]
 | .bc=>some [.slice none 0 0]
 | .agg ar=>pZ ar
 | .b3 .rZ=>some [.map none]
 |_=>none
def pZ:acj->Option ach
 |[]=>some []
 |d::ds=>match flat d,pZ ds with
  |some a,some b=>some (a++b)
  |_,_=>none
end
theorem al.flat {w:World} {F:Nat->Prop}:∀n,(∀(d:j) (cs:ach) (S:Nat->Prop),SizeOf.sizeOf d<=n->flat d=some cs->al w F d cs S)/\
  (∀(ds:acj) (cs:ach) (S:Nat->Prop),SizeOf.sizeOf ds<=n->pZ ds=some cs->aT w F ds cs S):=by
 intro n;induction n with
 |zero=>exact⟨λd _ _ bD=>by cases d<;>simp at bD<;>omega,λds _ _ bD=>by cases ds<;>simp at bD<;>omega⟩
 |succ n ih=>
  refine⟨λd cs S bD h=>?_,λds cs S bD h=>?_⟩
  .cases d with
   |agg ar=>rw[al];exact ih.2 ar cs S (by simp at bD;omega) (by simpa [cG.flat]using h)
   |bool b=>simp[cG.flat]at h;subst h;rw[al]
   |int k n=>simp[cG.flat]at h;subst h;rw[al]
   |str s=>simp[cG.flat]at h;subst h;rw[al]
   |c6=>simp[cG.flat]at h;subst h;rw[al]
   |bc=>simp[cG.flat]at h;subst h;rw[al]
   |b3 o=>cases o<;>simp[cG.flat]at h;subst h;rw[al];rfl
   |_=>simp[cG.flat]at h
  .cases ds with
   |nil=>simp[pZ]at h;subst h;rw[aT]
   |cons d ds=>
    simp only[pZ]at h;split at h
    .rename_i a b bx I;simp at h;subst h;simp at bD;rw[aT];exact⟨a,b,λ_=>False,λ_=>False,rfl,ih.1 d a _ (by omega) bx,ih.2 ds b _ (by omega) I,λ_ h=>h.elim,λ_ h=>h.elim,λ_ h=>h.elim⟩
    .cases h
def kB:mb->TypeDesc->Prop
 | .int k,.int cO=>k=cO
 | .bool,.bool=>True
 | .str,.string=>True
 | .ptr e,.pointer fH=>e=fH
 | .slice e,.slice fH=>e=fH
 | .struct ar,.struct gs=>gs.toList.map (λg=>(g.type,g.offset))=ar
 | .fn,.func _ _ _=>True
 | .hi _,.struct _=>True
 | .map k e,.map cO fH=>k=cO/\e=fH
 |_,_=>False
def GN (P:Program) (t:TypeId) (x:fv):Prop:=
 (∃e n b z,x=⟨.other,e,n,b⟩/\z=0)\/
 ∃i d z,P.info? t=some i/\i.size=x.sz/\i.bytes=x.bytes/\i.zero=some z/\(∀cs,flat x.zero=some cs->z.cells=cs.toArray)/\P.underlying t=some d/\kB x.k d
structure bz where
 P:Program
 T:TypeId->fv
 M:FuncId->List Bool
structure bz.du (C:bz):Prop where
 ty:∀t,GN C.P t (C.T t)
 mixed:C.P.follows .mixedOrders=true
inductive aR where
 |t (n:Nat)
 |c (av:j)
 |f (g:FuncId)
def yG:Value->Option j
 | .bool b=>some (.bool b)
 | .int k n=>some (.int k n)
 | .string s=>some (.str s.data.toList)
 | .pointer none=>some .c6
 | .slice none 0 0=>some .bc
 |_=>none
def c2:Operand->Option aR
 | .tmp n=>some (.t n)
 | .const v=>(yG v).map .c
 | .func g=>some (.f g)
 | .global _=>none
def kC (x:Nat) (d:j):j:=if d.plain then d else .h x []
def a7 (s:ag):aR->j
 | .t n=>kC n (s n)
 | .c av=>av
 | .f g=>.fn g []
theorem az.nothing {w:World} {F:Nat->Prop} {s:ag} {an:Nat->Value} {d:j} {v:Value} {S aG:Nat->Prop} (ai:d.plain=true) (h:az w F s an d v S):az w F s an d v aG:=by
 cases d<;>first
  |(rw[az];trivial)
  |(rw[az]at h⊢;exact h)
  |(have bC:=(az.b8 rfl).1 h;exact(az.b8 rfl).2 ⟨bC.1,al.plain _ _ _ _ ai bC.2⟩)
section
variable {w0 w:World} {F0 X F:Nat->Prop} {S:Nat->Nat->Prop} {s:ag} {an:Nat->Value} {a:Act}
theorem GO (s:ag) (x:aR) (aj:∀av,x= .c av->av.plain=true):(a7 s x).plain=true:=by
 cases x with
 |t n=>simp only[a7,kC];split<;>first|assumption|rfl
 |c av=>exact aj _ rfl
 |f g=>rfl
theorem BJ {v:Value} {av:j} (h:yG v=some av):av.plain=true:=by
 unfold yG at h;split at h<;>simp at h<;>subst h<;>rfl
theorem eB (h:bm w0 F0 X F S s an w) (dv:∀t,an t=a.tmps.getD t undef) {o:Operand} {x:aR} (a_:c2 o=some x):
  (a7 s x).plain=true/\az w F s an (a7 s x) (a.eval o) (λ_=>False):=by
 cases o with
 |tmp n=>
  simp[c2]at a_;subst a_;simp only[a7,kC,Act.eval,<-dv];split
  .rename_i ai;exact⟨ai,az.nothing ai (h.cz n)⟩
  .rename_i ai;refine⟨rfl,?_⟩;rw[az];intro d ad N6;simp only[j.sub,some.injEq]at ad;subst ad;have aK:=gN (q:=[]) rfl (.inl N6);exact⟨_,none,rfl,rfl,((az.b8 aK).1 (h.cz n)).1⟩
 |const v=>
  simp only[c2,map_eq_some_iff]at a_;obtain⟨av,n7,rfl⟩:=a_;refine⟨BJ n7,?_⟩;simp only[a7,Act.eval];unfold yG at n7;split at n7<;>simp at n7<;>subst n7<;>rw[az,al]<;>exact⟨rfl,rfl⟩
 |func g=>
  simp[c2]at a_;subst a_;refine⟨rfl,?_⟩;simp only[a7,Act.eval];rw[az];exact⟨#[],rfl,by rw[cJ]⟩
 |global g=>simp[c2]at a_
def iK (w0:World) (X F:Nat->Prop) (S:Nat->Nat->Prop) (s:ag) (an:Nat->Value) (w:World) (av:j) (v:Value):Prop:=
 (av.plain=true/\az w F s an av v (λ_=>False))\/
 (av.tree=true/\cU av v/\∃Sn,al w F av (bZ v) Sn/\(∀b,Sn b->b<w.heap.size)/\(∀b,Sn b->¬F b)/\(∀u b,Sn b->¬S u b)/\(∀b,Sn b->X b\/w0.heap.size<=b))
def fin (s:ag) (dst:Option Nat) (av:j):ag:=match dst with
 |none=>s
 |some t=>if av.plain then cw s t av else cw (jP t s) t av
def mc (an:Nat->Value) (dst:Option Nat) (v:Value):Nat->Value:=match dst with
 |none=>an
 |some t=>cw an t v
theorem bm.fin (h:bm w0 F0 X F S s an w) {av:j} {v:Value} (aE:iK w0 X F S s an w av v) (dst:Option Nat):
  ∃aG,bm w0 F0 X F aG (cG.fin s dst av) (mc an dst v) w:=by
 cases dst with
 |none=>exact⟨S,h⟩
 |some t=>
  simp only[cG.fin,mc];rcases aE with⟨ai,ad⟩|⟨aK,J,Sn,R,U,aw,aQ,bk⟩
  .rw[if_pos ai];exact⟨_,h.qT ai ad⟩
  .split
   .rename_i ai;exact⟨_,h.qT ai ((az.b8 aK).2 ⟨J,al.plain _ _ _ _ ai R⟩)⟩
   .exact⟨_,h.yE aK J R U aw (λu b _ I=>aQ u b I) bk⟩
def cr (s:ag):j->Option (j×ag)
 | .h x q=>match j.sub q (s x)with
   |some d=>if d.plain then none else some (d,cw (gO x s) x (j.put q d.cv (s x)))
   |none=>none
 | .ai _ _=>none
 | .I _ _=>none
 | .fn _ _=>none
 | .hole=>none
 |d=>some (d,s)
def j.owner:j->Option Nat
 | .h x _=>some x
 |_=>none
def jQ:Option Nat->j->j
 |some x,d=>bU x d
 |none,d=>d
theorem o0 (h:bm w0 F0 X F S s an w) {av d:j} {s1:ag} {v:Value} (n7:av.plain=true) (aE:az w F s an av v (λ_=>False)) (aK:cr s av=some (d,s1)):
  ∃bT,bm w0 F0 X F bT s1 an w/\d.tree=true/\cU d v/\∃Sn,al w F d (bZ v) Sn/\(∀b,Sn b->b<w.heap.size)/\(∀b,Sn b->¬F b)/\(∀u b,Sn b->¬bT u b)/\(∀b,Sn b->X b\/w0.heap.size<=b)/\
   (∀u b,bT u b->S u b)/\(∀b,Sn b->∃u,S u b)/\(∀(bd:j) (dD:Value) (aG:Nat->Prop),az w F s an bd dD aG->az w F s1 an (jQ av.owner bd) dD aG):=by
 have tree:∀d:j,d.tree=true->d.plain=true->az w F s an d v (λ_=>False)->
   ∃bT,bm w0 F0 X F bT s an w/\d.tree=true/\cU d v/\∃Sn,al w F d (bZ v) Sn/\(∀b,Sn b->b<w.heap.size)/\(∀b,Sn b->¬F b)/\(∀u b,Sn b->¬bT u b)/\(∀b,Sn b->X b\/w0.heap.size<=b)/\
    (∀u b,bT u b->S u b)/\(∀b,Sn b->∃u,S u b):=by
  intro d ad _ bC;have bC:=(az.b8 ad).1 bC;exact⟨S,h,ad,bC.1,_,bC.2,λ_ h=>h.elim,λ_ h=>h.elim,λ_ _ h=>h.elim,λ_ h=>h.elim,λ_ _ h=>h,λ_ h=>h.elim⟩
 cases av with
 |h x q=>
  simp only[cr]at aK;split at aK
  .rename_i e he;split at aK
   .cases aK
   .rename_i ai;simp only[some.injEq,Prod.mk.injEq]at aK;obtain⟨rfl,rfl⟩:=aK;have ai:e.plain=false:=by simpa using ai
    obtain⟨Sn,eG,cn,bG,cQ,bl,cA,cc,dn,ek,fK⟩:=h.take he ai;rw[az]at aE;obtain⟨aaL,a2,g1,g2,g3⟩:=aE e he ai;rw[bl]at g1;simp only[some.injEq,Prod.mk.injEq,true_and]at g1;obtain⟨rfl,rfl⟩:=g1;have BK:e.tree=true:=by cases e<;>first|rfl|(simp[j.plain]at ai)
    refine⟨_,cQ,BK,g3,eG,by rw[g2];exact cA,λb I=>h.dt x b (cc b I),λb I=>h.eh x b (cc b I),?_,λb I=>h.cS x b (cc b I),?_,λb I=>⟨x,cc b I⟩,fK⟩
    .intro u b I hu;simp only[fg]at hu;split at hu
     .exact ek b I hu
     .rename_i N7;exact h.dW u x b N7 hu (cc b I)
    .intro u b hu;simp only[fg]at hu;split at hu
     .rename_i e;subst e;exact dn b hu
     .exact hu
  .cases aK
 |ai x q=>simp[cr]at aK
 |I x q=>simp[cr]at aK
 |fn f c=>simp[cr]at aK
 |hole=>simp[cr]at aK
 |ao sz xs=>simp[j.plain]at n7
 |aV d=>simp[j.plain]at n7
 |_=>
  simp only[cr,some.injEq,Prod.mk.injEq]at aK;obtain⟨rfl,rfl⟩:=aK;obtain⟨bT,t1,t2,t3,Sn,t4,t5,t6,t7,t8,t9,t10⟩:=tree _ rfl n7 aE;exact⟨bT,t1,t2,t3,Sn,t4,t5,t6,t7,t8,t9,t10,λ_ _ _ h=>h⟩
def loc (s:ag):j->Option (Nat×ace)
 | .h x q=>match j.sub q (s x)with
   |some (.aV _)=>some (x,q++[0])
   |_=>none
 | .ai x q=>if j.eP q (s x)then some (x,q)else none
 |_=>none
theorem vX:∀(q:ace) (av d:j) (r:ace),j.sub q av=some d->j.sub (q++r) av=j.sub r d:=by
 intro q;induction q with
 |nil=>intro av d r h;simp[j.sub]at h;subst h;rfl
 |cons k q ih=>
  intro av d r h;cases av with
  |agg ar=>
   simp only[j.sub,cons_append]at h⊢;split at h
   .rename_i x ae;exact ih _ _ _ h
   .cases h
  |tuple ar=>
   simp only[j.sub,cons_append]at h⊢;split at h
   .rename_i x ae;exact ih _ _ _ h
   .cases h
  |ao sz ar=>
   simp only[j.sub,cons_append]at h⊢;split at h
   .rename_i x ae;exact ih _ _ _ h
   .cases h
  |aV x=>
   cases k with
   |zero=>simp only[j.sub,cons_append]at h⊢;exact ih _ _ _ h
   |succ k=>simp[j.sub]at h
  |_=>simp[j.sub]at h
theorem N8:∀(q:ace) (av d:j) (r:ace),j.sub q av=some d->j.eP (q++r) av=(j.eP q av||j.eP r d):=by
 intro q;induction q with
 |nil=>intro av d r h;simp[j.sub]at h;subst h;simp[j.eP]
 |cons k q ih=>
  intro av d r h;cases av with
  |agg ar=>
   simp only[j.sub]at h;split at h
   .rename_i x ae;simp only[j.eP,cons_append,ae];exact ih _ _ r h
   .cases h
  |tuple ar=>
   simp only[j.sub]at h;split at h
   .rename_i x ae;simp only[j.eP,cons_append,ae];exact ih _ _ r h
   .cases h
  |ao sz ar=>simp[j.eP]
  |aV x=>simp[j.eP]
  |_=>simp[j.sub]at h
theorem vY (w:World):∀(q:ace) (av d:j) (cs cn:ach) (a bG:Option (Nat×Nat)) (r:ace),cM w q av cs a=some (d,cn,bG)->cM w (q++r) av cs a=cM w r d cn bG:=by
 intro q;induction q with
 |nil=>intro av d cs cn a bG r h;simp[cM]at h;obtain⟨rfl,rfl,rfl⟩:=h;rfl
 |cons k q ih=>
  intro av d cs cn a bG r h;cases av with
  |agg ar=>
   rw[cons_append];rw[cM]at h⊢;split at h
   .rename_i x ae;exact ih _ _ _ _ _ _ _ h
   .cases h
  |tuple ar=>
   rw[cons_append];rw[cM]at h⊢;split at h
   .rename_i x ae;exact ih _ _ _ _ _ _ _ h
   .cases h
  |ao sz ar=>
   rw[cons_append];rw[cM.eq_def]at h⊢;simp only at h⊢;split at h
   .exact ih _ _ _ _ _ _ _ h
   .cases h
  |aV x=>
   cases k with
   |zero=>
    rw[cons_append];rw[cM.eq_def]at h⊢;simp only at h⊢;split at h
    .exact ih _ _ _ _ _ _ _ h
    .cases h
   |succ k=>rw[show cM w ((k+1)::q) (.aV x) cs a=none from rfl]at h;cases h
  |_=>simp[cM]at h
end
def fv.ok (x:fv):Bool:=match x.k with
 | .other=>false
 |_=>true
theorem bz.du.info {C:bz} (a1:C.du) {t:TypeId} (h:(C.T t).ok=true):
  ∃i d z,C.P.info? t=some i/\i.size=(C.T t).sz/\i.bytes=(C.T t).bytes/\i.zero=some z/\(∀cs,flat (C.T t).zero=some cs->z.cells=cs.toArray)/\C.P.underlying t=some d/\kB (C.T t).k d:=by
 rcases a1.ty t with⟨e,n,b,z,ae,_⟩|bC
 .rw[ae]at h;simp[fv.ok]at h
 .exact bC
theorem e8 {x:fv} {k:mb} (h:x.k=k) (ak:k≠.other):x.ok=true:=by
 unfold fv.ok;rw[h];cases k<;>first|rfl|exact(ak rfl).elim
theorem vZ {d:TypeDesc} {ar:List (TypeId×Nat)} (h:kB (.struct ar) d):∃gs,d= .struct gs/\gs.toList.map (λg=>(g.type,g.offset))=ar:=by
 cases d<;>simp[kB]at h;exact⟨_,rfl,h⟩
theorem kD {d:TypeDesc} {e:TypeId} (h:kB (.slice e) d):d= .slice e:=by
 cases d<;>simp[kB]at h;rw[h]
theorem v7 {d:TypeDesc} {k:IntKind} (h:kB (.int k) d):d= .int k:=by
 cases d<;>simp[kB]at h;rw[h]
theorem o1 {d:TypeDesc} (h:kB .str d):d= .string:=by
 cases d<;>simp[kB]at h;rfl
theorem BL {d:TypeDesc} (h:kB .bool d):d= .bool:=by
 cases d<;>simp[kB]at h;rfl
theorem GP {d:TypeDesc} {e:TypeId} (h:kB (.ptr e) d):d= .pointer e:=by
 cases d<;>simp[kB]at h;rw[h]
theorem eH {v:Value} (h:Value.ej v=true):bZ v=[v]:=by
 cases v<;>first|rfl|(simp[Value.ej]at h)
theorem r8 {P:Program} {t:TypeId} {i:TypeInfo} (h:P.info? t=some i) (w:World):(typeInfo t).run P w= .ok i w:=by simp[typeInfo,h]
theorem jt {P:Program} {t:TypeId} {i:TypeInfo} (h:P.info? t=some i) (w:World):(Go.sizeOf t).run P w= .ok i.size w:=by simp[Go.sizeOf,r8 h]
theorem r9 {P:Program} {t:TypeId} {i:TypeInfo} {z:Value} (h:P.info? t=some i) (bD:i.zero=some z) (w:World):(zeroValue t).run P w= .ok z w:=by simp[zeroValue,r8 h,bD]
section
variable {C:bz} {w0 w:World} {F0 X F:Nat->Prop} {S:Nat->Nat->Prop} {s s1:ag} {an:Nat->Value} {av:j}
def Good (C:bz) (w0:World) (F0 X:Nat->Prop) (an:Nat->Value) (w:World) (m:Sem Value) (av:j) (s1:ag):Prop:=
 ∃v au bh aG,m.run C.P w= .ok v au/\bm w0 F0 X bh aG s1 an au/\iK w0 X bh aG s1 an au av v
theorem Good.same (h:bm w0 F0 X F S s an w) {m:Sem Value} {v:Value} (aD:m.run C.P w= .ok v w) (ai:av.plain=true) (aE:az w F s an av v (λ_=>False)):Good C w0 F0 X an w m av s:=
 ⟨v,w,F,S,aD,h,.inl ⟨ai,aE⟩⟩
theorem BM (_h:bm w0 F0 X F S s an w) {x:j} {v:Value} (aE:az w F s an x v (λ_=>False)) {y:Nat} {q:ace} (hl:loc s x=some (y,q)) {d:j} (ad:j.sub q (s y)=some d):
  j.eP q (s y)=true/\∃cn b o,v= .pointer (some ⟨b,o,none⟩)/\cM w q (s y) (bZ (an y)) none=some (d,cn,some (b,o)):=by
 cases x with
 |h z yH=>
  simp only[loc]at hl;split at hl
  .rename_i e he;simp only[some.injEq,Prod.mk.injEq]at hl;obtain⟨rfl,rfl⟩:=hl;rw[az]at aE;obtain⟨cn,a,g1,g2,g3⟩:=aE _ he rfl;have fQ:e=d:=by
    rw[vX _ _ _ _ he]at ad;simpa [j.sub]using ad
   subst fQ;refine⟨by rw[N8 _ _ _ _ he];simp[j.eP],?_⟩;have R:Value.ej v=true:=g3;rw[eH R]at g2;subst g2;have jO:=vY w yH (s z) _ _ _ none a [0] g1;have ae:=_h.cz z;rw[az.b8 (gN he (.inl rfl))]at ae;obtain⟨eZ,bG,dd,eG,k0,bO,b1,cX,cT,ev⟩:=ctx yH (s z) (bZ (an z)) (S z) none _ ae.2 he;rw[k0]at g1;simp only[some.injEq,Prod.mk.injEq,true_and]at g1;obtain⟨rfl,rfl⟩:=g1;rw[al]at cT;obtain⟨b,cur,aN,fr,cI,aP,_⟩:=cT;simp only[cons.injEq,and_true]at aP;subst aP;exact⟨_,b,0,rfl,by rw[jO];rfl⟩
  .cases hl
 |ai z yH=>
  simp only[loc]at hl;split at hl
  .rename_i aj;simp only[some.injEq,Prod.mk.injEq]at hl;obtain⟨rfl,rfl⟩:=hl;rw[az]at aE;obtain⟨cn,b,o,g1,g2⟩:=aE _ ad aj;exact⟨aj,cn,b,o,g2,g1⟩
  .cases hl
 |_=>simp[loc]at hl
def gB (C:bz) (s:ag) (T:TypeId) (x:j) (k:Nat):Option j:=
 match(C.T T).k with
 | .struct ar=>match ar[k]? with
   |some (iL,off)=>if(C.T iL).ok=true/\(C.T iL).sz≠0 then
     match x with
     | .ref (.agg ds)=>match ds[k]? with
       |some d=>if j.di (ds.take k)=off then some (.ref d)else none
       |none=>none
     | .I y o=>if(s y).plain then none else some (.I y (o+off))
     |x=>match loc s x with
      |some (y,q)=>match j.sub q (s y)with
       |some (.agg ds)=>if k<ds.length/\j.di (ds.take k)=off then some (.ai y (q++[k]))else none
       |_=>none
      |none=>none
    else none
   |none=>none
 |_=>none
theorem gJ.BN {w:World} {b o:Nat} {bK e6 bJ:ach} (h:gJ w b o (bK++(e6++bJ))):gJ w b (o+bK.length) e6:=by
 intro aB c cp;have cW:aB<e6.length:=(List.getElem?_eq_some_iff.1 cp).1;have:=h (bK.length+aB) c (by rw[getElem?_append_right (by omega),getElem?_append_left (by omega),<-cp];congr 1;omega);rw[Nat.add_assoc];exact this
theorem BO (a1:C.du) {T iL:TypeId} {ar:List (TypeId×Nat)} {k off:Nat} (ak:(C.T T).k= .struct ar) (bf:ar[k]? =some (iL,off)) (R:(C.T iL).ok=true) (U:(C.T iL).sz≠0) (b o:Nat) (w:World):
  (Instr.fieldAt T (.pointer (some ⟨b,o,none⟩)) k).run C.P w= .ok (.pointer (some ⟨b,o+off,none⟩)) w:=by
 obtain⟨i,d,z,aH,aN,aP,bQ,b_,bM,bH⟩:=a1.info (e8 ak (by simp));rw[ak]at bH;obtain⟨gs,rfl,hy⟩:=vZ bH;obtain⟨o2,bd,o3,f1,f2,f3,f4,f5,f6,f7⟩:=a1.info R;have bo:∃g,gs[k]? =some g/\g.type=iL/\g.offset=off:=by
  rw[<-hy,getElem?_map]at bf;simp only[map_eq_some_iff,Prod.mk.injEq]at bf;obtain⟨g,R,U,aw⟩:=bf;exact⟨g,by simpa using R,U,aw⟩
 obtain⟨g,g1,rfl,rfl⟩:=bo;simp[Instr.fieldAt,run_underlying bM,g1,Instr.sureAddr,fieldPlace,jt f1,f2,U,Addr.add_lit]
theorem N9 (a1:C.du) (h:bm w0 F0 X F S s an w) {T:TypeId} {x:j} {v:Value} {k:Nat} (ae:x.plain=true) (aE:az w F s an x v (λ_=>False)) (he:gB C s T x k=some av):
  Good C w0 F0 X an w (Instr.fieldAt T v k) av s:=by
 unfold gB at he;split at he
 .rename_i ar ak;split at he
  .rename_i iL off bf;split at he
   .rename_i tS;split at he
    .rename_i ds;split at he
     .rename_i d ad;split at he
      .rename_i o4;simp only[some.injEq]at he;subst he;have lB:=(az.b8 rfl).1 aE;rw[al]at lB;obtain⟨J,b,o,dC,R,U,aw,aQ⟩:=lB;rw[eH J]at R;simp only[cons.injEq,and_true]at R;subst R;rw[al]at aQ;obtain⟨bK,e6,bJ,bT,gU,rfl,gL,e0,f_,gA,fe,lz⟩:=aT.pick ds _ _ k d aQ ad;refine Good.same h (BO a1 ak bf tS.1 tS.2 b o w) rfl ((az.b8 rfl).2 ⟨rfl,?_⟩);rw[al];refine⟨b,o+off,e6,rfl,U,?_,al.mono (λ_ h=>h) _ _ _ _ (λb I=>f_ b I) fe⟩;rw[<-o4,<-gL];exact aw.BN
      .cases he
     .cases he
    .rename_i y o;split at he
     .cases he
     .rename_i ai;simp only[some.injEq]at he;subst he;rw[az]at aE;obtain⟨b,cur,e,fr,rfl,U,aw,aQ⟩:=aE (by simpa using ai);refine Good.same h (BO a1 ak bf tS.1 tS.2 b o w) rfl ?_;rw[az];exact λ_=>⟨b,cur,e,fr,rfl,U,aw,aQ⟩
    .rename_i x _ _;split at he
     .rename_i y q hl;split at he
      .rename_i ds ad;split at he
       .rename_i o4;simp only[some.injEq]at he;subst he;obtain⟨aj,cn,b,o,rfl,jO⟩:=BM h aE hl ad;refine Good.same h (BO a1 ak bf tS.1 tS.2 b o w) rfl ?_;rw[az];intro d2 fJ r_;rw[vY w q _ _ _ _ _ _ [k] jO];rw[vX _ _ _ _ ad]at fJ;have mH:∃d3,ds[k]? =some d3:=⟨_,getElem?_eq_getElem o4.1⟩
        obtain⟨d3,p0⟩:=mH;simp only[j.sub,p0,some.injEq]at fJ;subst fJ;simp only[cM,p0];refine⟨(cn.drop off).take d3.wd,b,o+off,?_,rfl⟩;rw[o4.2];rfl
       .cases he
      .cases he
     .cases he
   .cases he
  .cases he
 .cases he
def hT (C:bz) (s:ag) (T:TypeId) (x i:j):Option j:=
 match(C.T T).k,i with
 | .slice e,.int _ n=>if 0<=n/\(C.T e).ok=true then
   match x with
   | .slice xs=>match xs[n.toNat]? with
     |some d=>if d.wd=(C.T e).sz then some (.ref d)else none
     |none=>none
   | .h y q=>match j.sub q (s y)with
     |some (.ao sz xs)=>if n.toNat<xs.length/\sz=(C.T e).sz then some (.ai y (q++[n.toNat]))else none
     |_=>none
   |_=>none
   else none
 |_,_=>none
theorem GQ (a1:C.du) {T e:TypeId} (ak:(C.T T).k= .slice e) (he:(C.T e).ok=true) (b o len cap:Nat) (k:IntKind) (n:Nat) (aO:n<len) (w:World):
  (Instr.indexAt T (.slice (some ⟨b,o,none⟩) len cap) (.int k n)).run C.P w= .ok (.pointer (some ⟨b,o+n*(C.T e).sz,none⟩)) w:=by
 obtain⟨i,d,z,aH,aN,aP,bQ,b_,bM,bH⟩:=a1.info (e8 ak (by simp));rw[ak]at bH;have:=kD bH;subst this;obtain⟨o2,bd,o3,f1,f2,f3,f4,f5,f6,f7⟩:=a1.info he;simp[Instr.indexAt,run_underlying bM,asIntOf,aO,jt f1,f2,Addr.add_lit]
theorem N_ (a1:C.du) (h:bm w0 F0 X F S s an w) {T:TypeId} {x i:j} {v nx:Value} (aE:az w F s an x v (λ_=>False)) (Oa:az w F s an i nx (λ_=>False))
  (he:hT C s T x i=some av):Good C w0 F0 X an w (Instr.indexAt T v nx) av s:=by
 unfold hT at he;split at he
 .rename_i e k n ak;have BP:=(az.b8 rfl).1 Oa;rw[al,eH BP.1]at BP;have:nx= .int k n:=by simpa using BP.2
  subst this;split at he
  .rename_i aO;obtain⟨n,rfl⟩:=Int.eq_ofNat_of_zero_le aO.1;simp only[Int.toNat_natCast]at he;split at he
   .rename_i xs;split at he
    .rename_i d ad;split at he
     .rename_i hw;simp only[some.injEq]at he;subst he;have lB:=(az.b8 rfl).1 aE;rw[al,eH lB.1]at lB;obtain⟨J,⟨rfl,_⟩|⟨b,o,cap,dC,sz,R,U,aw,aQ,bk,bS,bL⟩⟩:=lB
      .simp at ad
      .simp only[cons.injEq,and_true]at R;subst R;have cW:n<xs.length:=(List.getElem?_eq_some_iff.1 ad).1;obtain⟨bK,e6,bJ,bT,gU,rfl,gL,e0,f_,gA,fe,lz⟩:=aT.pick xs _ _ n d bL ad;refine Good.same h (GQ a1 ak aO.2 b o _ _ k n cW w) rfl ((az.b8 rfl).2 ⟨rfl,?_⟩);rw[al];refine⟨b,_,e6,rfl,U,?_,al.mono (λ_ h=>h) _ _ _ _ (λb I=>f_ b I) fe⟩;have Ob:=bk d (mem_of_getElem? ad);have:n*(C.T e).sz=bK.length:=by
        rw[gL,r3 _ (λd ad=>bk d (mem_of_mem_take ad)),length_take,Nat.min_eq_left (by omega),<-hw,Ob]
       rw[this];exact bS.BN
     .cases he
    .cases he
   .rename_i y q;split at he
    .rename_i sz xs ad;split at he
     .rename_i hw;simp only[some.injEq]at he;subst he;rw[az]at aE;obtain⟨cn,a,g1,g2,g3⟩:=aE _ ad rfl;have J:Value.ej v=true:=g3;rw[eH J]at g2;subst g2;have ae:=h.cz y;rw[az.b8 (gN ad (.inl rfl))]at ae;obtain⟨eZ,bG,dd,eG,k0,bO,b1,cX,cT,ev⟩:=ctx q (s y) (bZ (an y)) (S y) none _ ae.2 ad;rw[k0]at g1;simp only[some.injEq,Prod.mk.injEq,true_and]at g1;obtain⟨rfl,rfl⟩:=g1;rw[al]at cT;rcases cT with⟨rfl,_⟩|⟨b,cap,cur,aN,fr,cI,aP,_⟩
      .simp at hw
      .simp only[cons.injEq,and_true]at aP;subst aP;refine Good.same h (GQ a1 ak aO.2 b 0 _ _ k n hw.1 w) rfl ?_;rw[az];intro d2 fJ _;rw[vY w q _ _ _ _ _ _ [n] k0];rw[vX _ _ _ _ ad]at fJ;obtain⟨d3,p0⟩:∃d3,xs[n]? =some d3:=⟨_,getElem?_eq_getElem hw.1⟩
       simp only[j.sub,p0,some.injEq]at fJ;subst fJ;simp only[cM,p0];exact⟨_,b,n*sz,rfl,by simp[hw.2]⟩
     .cases he
    .cases he
   .cases he
  .cases he
 .cases he
end
section
variable {C:bz} {w0 w:World} {F0 X F:Nat->Prop} {S:Nat->Nat->Prop} {s s1:ag} {an:Nat->Value} {av:j}
theorem GR (a1:C.du) {T:TypeId} {ar:List (TypeId×Nat)} (ak:(C.T T).k= .struct ar) (w:World):(isAgg T).run C.P w= .ok true w:=by
 obtain⟨i,d,z,aH,aN,aP,bQ,b_,bM,bH⟩:=a1.info (e8 ak (by simp));rw[ak]at bH;obtain⟨gs,rfl,_⟩:=vZ bH;simp[isAgg,run_underlying bM]
def fv.flat (x:fv):Bool:=match x.k with
 | .other=>false
 | .hi _=>false
 | .struct _=>false
 |_=>true
theorem GS {x:fv} (h:x.flat=true):x.ok=true:=by
 unfold fv.flat at h;unfold fv.ok;revert h;cases x.k<;>simp
theorem BQ (a1:C.du) {T:TypeId} (ak:(C.T T).flat=true) (w:World):(isAgg T).run C.P w= .ok false w:=by
 obtain⟨i,d,z,aH,aN,aP,bQ,b_,bM,bH⟩:=a1.info (GS ak);have c9:(∀ar,d≠.struct ar)/\(∀n e,d≠.array n e):=by
  clear bM;unfold fv.flat at ak;generalize (C.T T).k=iT at*;cases iT<;>cases d<;>simp[kB]at bH ak⊢
 cases d<;>first|exact(c9.1 _ rfl).elim|exact(c9.2 _ _ rfl).elim|simp[isAgg,run_underlying bM]
theorem gJ.one {w:World} {b o:Nat} {v:Value} (h:gJ w b o [v]):w.cell? ⟨b,o,none⟩=some v:=by simpa using h 0 v rfl
theorem GU {P:Program} {b o:Nat}:∀(cs:ach) (i:Nat) (acc:Array Value),gJ w b (o+i) cs->(loadCellsFrom ⟨b,o,none⟩ i cs.length acc).run P w= .ok (acc++cs.toArray) w
 |[],i,acc,_=>by simp[loadCellsFrom]
 |c::cs,i,acc,h=>by
  have bg:w.cell? ⟨b,o+i,none⟩=some c:=by simpa using h 0 c rfl
  have R:gJ w b (o+(i+1)) cs:=by
   intro aB x cp;have:=h (aB+1) x (by simpa using cp);rw[<-this];congr 2;omega
  have ih:=GU (P:=P) cs (i+1) (acc.push c) R;simp only[length_cons,loadCellsFrom,Sem.run_bind,Go.load,Sem.run,Addr.add_lit,bg,Result.andThen];rw[ih];simp
theorem Oc (a1:C.du) {T:TypeId} {ar:List (TypeId×Nat)} (ak:(C.T T).k= .struct ar) {b o:Nat} {cs:ach} (h:gJ w b o cs) (hl:cs.length=(C.T T).sz):
  (loadVar T ⟨b,o,none⟩).run C.P w= .ok (.agg cs.toArray) w:=by
 obtain⟨i,d,z,aH,aN,aP,bQ,b_,bM,bH⟩:=a1.info (e8 ak (by simp));have:=GU (P:=C.P) (b:=b) (o:=o) cs 0 #[] (by simpa using h);simp only[loadVar,Sem.run_bind,GR a1 ak,Result.andThen,if_true,jt aH,aN,<-hl,loadCells,this];simp
theorem BR (a1:C.du) {T:TypeId} (ak:(C.T T).flat=true) {b o:Nat} {v:Value} (h:gJ w b o [v]):
  (loadVar T ⟨b,o,none⟩).run C.P w= .ok v w:=by
 simp[loadVar,BQ a1 ak,Go.load,Sem.run,h.one]
def fits (C:bz) (T:TypeId) (d:j):Bool:=match(C.T T).k,d with
    | .struct _,.agg ds=>j.di ds==(C.T T).sz
    | .struct _,_=>false
    |_,.agg _=>false
    |_,.tuple _=>false
    |_,_=>(C.T T).flat
def yI:acj->Nat->Nat->Option Nat
 |[],_,_=>none
 |d::ds,i,k=>if k=0 then some i else if d.wd<=k then yI ds (i+1) (k-d.wd)else none
def dU (C:bz) (s:ag) (T:TypeId) (x:j):Option j:=
 match x with
 | .ref d=>if fits C T d=true then some d else none
 | .I y k=>match s y with
   | .agg ds=>if j.dj ds then none else match yI ds 0 k with
     |some i=>match ds[i]? with
      |some d=>if j.di (ds.take i)=k/\fits C T d=true then some (if d.plain then d else .h y [i])else none
      |none=>none
     |none=>none
   |_=>none
 |x=>match loc s x with
  |some (y,q)=>match j.sub q (s y)with
   |some d=>if fits C T d=true then some (if d.plain then d else .h y q)else none
   |none=>none
  |none=>none
theorem al.one {F:Nat->Prop} {d:j} {cs:ach} {S:Nat->Prop} (h:al w F d cs S) (R:∀ar,d≠.agg ar) (U:∀ar,d≠.tuple ar):∃v,cs=[v]/\Value.ej v=true:=by
 cases d with
 |hole=>rw[al]at h;obtain⟨v,h,rfl⟩:=h;exact⟨v,rfl,h⟩
 |eT=>rw[al]at h;obtain⟨v,rfl⟩:=h;exact⟨_,rfl,rfl⟩
 |slice xs=>rw[al]at h;rcases h with⟨_,a,c,rfl,_⟩|⟨b,o,cap,dC,sz,rfl,_⟩<;>exact⟨_,rfl,rfl⟩
 |ao sz xs=>rw[al]at h;rcases h with⟨_,_,rfl⟩|⟨b,cap,cur,e,fr,cS,rfl,_⟩<;>exact⟨_,rfl,rfl⟩
 |ref d=>rw[al]at h;obtain⟨b,o,dC,rfl,_⟩:=h;exact⟨_,rfl,rfl⟩
 |aV d=>rw[al]at h;obtain⟨b,cur,e,fr,cS,rfl,_⟩:=h;exact⟨_,rfl,rfl⟩
 |agg ar=>exact(R _ rfl).elim
 |tuple ar=>exact(U _ rfl).elim
 |fn _ _=>rw[al]at h;obtain⟨arr,rfl,_⟩:=h;exact⟨_,rfl,rfl⟩
 |h _ _=>rw[al]at h;exact h.elim
 |ai _ _=>rw[al]at h;exact h.elim
 |I _ _=>rw[al]at h;exact h.elim
 |b3 _=>rw[al]at h;obtain⟨v,hR,rfl⟩:=k4.one h;exact⟨v,rfl,hR⟩
 |a8 _ _=>rw[al]at h;obtain⟨arr,rfl,_⟩:=h;exact⟨_,rfl,rfl⟩
 |cH _=>rw[al]at h;obtain⟨b,v,e,fr,rfl,_⟩:=h;exact⟨_,rfl,rfl⟩
 |_=>rw[al]at h;subst h;exact⟨_,rfl,rfl⟩
theorem j.yJ {d:j} (h:d.single=true):(∀ar,d≠.agg ar)/\∀ar,d≠.tuple ar:=
 ⟨λar e=>(by subst e;cases h),λar e=>(by subst e;cases h)⟩
theorem az.mI {F:Nat->Prop} {s:ag} {an:Nat->Value} {d:j} {v:Value} (aK:d.tree=true) (J:d.single=true) (h:al w F d [v] (λ_=>False)):az w F s an d v (λ_=>False):=by
 obtain⟨dD,e,R⟩:=al.one h (j.yJ J).1 (j.yJ J).2;have:v=dD:=by simpa using e
 subst this;refine(az.b8 aK).2 ⟨?_,by rw[eH R];exact h⟩;cases d<;>first|exact R|cases J
mutual
theorem az.o5 {F:Nat->Prop} {s:ag} {an:Nat->Value}:∀(d:j) (v:Value),d.single=true->al w F d [v] (λ_=>False)->az w F s an d v (λ_=>False)
 | .fn f caps,v,_,h=>by
   rw[al]at h;obtain⟨arr,R,U,aw⟩:=h;rw[az];exact⟨arr,by simpa using R,cJ.o5 caps _ U aw⟩
 | .bool b,v,J,h=>az.mI rfl J h
 | .eT,v,J,h=>az.mI rfl J h
 | .int k n,v,J,h=>az.mI rfl J h
 | .str x,v,J,h=>az.mI rfl J h
 | .c6,v,J,h=>az.mI rfl J h
 | .bc,v,J,h=>az.mI rfl J h
 | .slice xs,v,J,h=>az.mI rfl J h
 | .ao sz xs,v,J,h=>az.mI rfl J h
 | .ref d,v,J,h=>az.mI rfl J h
 | .aV d,v,J,h=>az.mI rfl J h
 | .h _ _,v,_,h=>by rw[al]at h;exact h.elim
 | .ai _ _,v,_,h=>by rw[al]at h;exact h.elim
 | .I _ _,v,_,h=>by rw[al]at h;exact h.elim
 | .b3 _,v,J,h=>az.mI rfl J h
 | .a8 _ _,v,J,h=>az.mI rfl J h
 | .cH _,v,J,h=>az.mI rfl J h
theorem cJ.o5 {F:Nat->Prop} {s:ag} {an:Nat->Value}:∀(ds:acj) (vs:ach),(∀d∈ds,d.single=true)->aT w F ds vs (λ_=>False)->cJ w F s an ds vs
 |[],vs,_,h=>by rw[aT]at h;rw[cJ];exact h
 |d::ds,vs,J,h=>by
  rw[aT]at h;obtain⟨bK,bJ,bT,cI,rfl,U,aw,aQ,bk,_⟩:=h;have ad:=J d (by simp);obtain⟨v,rfl,_⟩:=al.one U (j.yJ ad).1 (j.yJ ad).2;rw[cJ];exact⟨v,bJ,rfl,az.o5 d v ad (al.mono (λ_ h=>h) _ _ _ _ (λb I=>aQ b I) U),cJ.o5 ds bJ (λx ae=>J x (by simp[ae])) (aT.mono (λ_ h=>h) _ _ _ _ (λb I=>bk b I) aw)⟩
end
theorem yK (a1:C.du) {T:TypeId} {d:j} {b o:Nat} {cs:ach} {S:Nat->Prop} (h:gJ w b o cs) (ad:al w F d cs S)
  (gX:fits C T d=true):
  ∃v,(loadVar T ⟨b,o,none⟩).run C.P w= .ok v w/\bZ v=cs/\cU d v:=by
 unfold fits at gX;by_cases J:∃ar,(C.T T).k= .struct ar
 .obtain⟨ar,ak⟩:=J;rw[ak]at gX;cases d with
  |agg ds=>
   simp only[beq_iff_eq]at gX;refine⟨_,Oc a1 ak h ((al.length _ _ _ ad).trans gX),rfl,⟨_,rfl⟩⟩
  |_=>simp at gX
 .have ie:(C.T T).flat=true/\(∀ar,d≠.agg ar)/\(∀ar,d≠.tuple ar):=by
   revert gX J;cases ak:(C.T T).k<;>cases d<;>simp
  obtain⟨v,rfl,R⟩:=al.one ad ie.2.1 ie.2.2;refine⟨v,BR a1 ie.1 h,eH R,?_⟩;cases d<;>first|exact R|exact(ie.2.1 _ rfl).elim|exact(ie.2.2 _ rfl).elim
theorem Od (a1:C.du) {T:TypeId} {d:j} {off:Nat} {arr:Array Value} {bK cs bJ:ach} {S:Nat->Prop} (he:arr.toList=bK++(cs++bJ)) (a_:bK.length=off) (ad:al w F d cs S)
  (gX:fits C T d=true):
  ∃v,(part T arr off).run C.P w= .ok v w/\bZ v=cs/\cU d v:=by
 unfold fits at gX;by_cases J:∃ar,(C.T T).k= .struct ar
 .obtain⟨ar,ak⟩:=J;rw[ak]at gX;cases d with
  |agg ds=>
   simp only[beq_iff_eq]at gX;obtain⟨i,d,z,aH,aN,aP,bQ,b_,bM,bH⟩:=a1.info (e8 ak (by simp));have hl:cs.length=(C.T T).sz:=(al.length _ _ _ ad).trans gX;have ae:(arr.extract off (off+(C.T T).sz)).toList=cs:=by
    rw[Array.toList_extract,he,extract_eq_take_drop,<-hl,<-a_,Nat.add_sub_cancel_left,drop_left,take_left]
   refine⟨.agg (arr.extract off (off+(C.T T).sz)),?_,by simpa [bZ,gM]using ae,⟨_,rfl⟩⟩;simp[part,GR a1 ak,jt aH,aN]
  |_=>simp at gX
 .have ie:(C.T T).flat=true/\(∀ar,d≠.agg ar)/\(∀ar,d≠.tuple ar):=by
   revert gX J;cases ak:(C.T T).k<;>cases d<;>simp
  obtain⟨v,rfl,R⟩:=al.one ad ie.2.1 ie.2.2;have bo:arr[off]? =some v:=by
   rw[<-Array.getElem?_toList,he,<-a_,getElem?_append_right (Nat.le_refl _)];simp
  refine⟨v,?_,eH R,?_⟩
  .simp[part,BQ a1 ie.1,bo]
  .cases d<;>first|exact R|exact(ie.2.1 _ rfl).elim|exact(ie.2.2 _ rfl).elim
theorem Oe (a1:C.du) (h:bm w0 F0 X F S s an w) {T:TypeId} {x:j} {v:Value} (aE:az w F s an x v (λ_=>False)) (he:dU C s T x=some av):
  Good C w0 F0 X an w (Instr.loadAt T v) av s:=by
 unfold dU at he;split at he
 .rename_i d;split at he
  .rename_i gX;simp only[some.injEq]at he;subst he;have lB:=(az.b8 rfl).1 aE;rw[al,eH lB.1]at lB;obtain⟨J,b,o,dC,R,U,aw,aQ⟩:=lB;simp only[cons.injEq,and_true]at R;subst R;obtain⟨dD,aD,aj,k6⟩:=yK a1 aw aQ gX;have c3:(Instr.loadAt T (.pointer (some ⟨b,o,none⟩))).run C.P w= .ok dD w:=by simp[Instr.loadAt,Instr.sureAddr,aD]
   refine⟨dD,w,F,S,c3,h,?_⟩;by_cases aK:d.tree=true
   .exact .inr ⟨aK,k6,λ_=>False,by rw[aj];exact aQ,λ_ h=>h.elim,λ_ h=>h.elim,λ_ _ h=>h.elim,λ_ h=>h.elim⟩
   .cases d<;>first|exact(aK rfl).elim|(rw[al]at aQ;exact aQ.elim)|exact .inl ⟨rfl,by rw[az];trivial⟩|(have bk:=aQ;rw[al]at bk;obtain⟨arr,e,_⟩:=bk;rw[<-aj]at e aQ;rw[eH (by exact k6)]at aQ;exact .inl ⟨rfl,az.o5 _ _ rfl aQ⟩)
  .cases he
 .rename_i y k;split at he
  .rename_i ds qV;split at he
   .cases he
   .rename_i Of;split at he
    .rename_i i ax;split at he
     .rename_i d ad;split at he
      .rename_i gX;simp only[some.injEq]at he;have dQ:(s y).plain=false:=by rw[qV];simp only[j.plain];simpa using Of
       rw[az]at aE;obtain⟨b,cur,e,fr,rfl,U,aw,aQ⟩:=aE dQ;have a6:=h.cz y;rw[qV]at a6;have GV:=((az.b8 rfl).1 a6).2;rw[al]at GV;obtain⟨bK,e6,bJ,bT,gU,gY,gL,e0,f_,gA,fe,lz⟩:=aT.pick ds _ _ i d GV ad;have iy:gJ w b k e6:=by
        intro aB c cp;have cW:aB<e6.length:=(List.getElem?_eq_some_iff.1 cp).1;have:cur.toList[k+aB]? =some c:=by
         rw[aQ,gY,getElem?_append_right (by omega),getElem?_append_left (by omega),<-cp];congr 1;omega
        simp[World.cell?,aw];simpa using this
       obtain⟨dD,aD,aj,k6⟩:=yK a1 iy fe gX.2;have c3:(Instr.loadAt T (.pointer (some ⟨b,k,none⟩))).run C.P w= .ok dD w:=by simp[Instr.loadAt,Instr.sureAddr,aD]
       refine⟨dD,w,F,S,c3,h,?_⟩;split at he
       .rename_i ai;subst he;by_cases aK:d.tree=true
        .exact .inl ⟨ai,(az.b8 aK).2 ⟨k6,by rw[aj];exact al.plain _ _ _ _ ai fe⟩⟩
        .cases d<;>first|exact(aK rfl).elim|(rw[al]at fe;exact fe.elim)|exact .inl ⟨rfl,by rw[az];trivial⟩|(have bk:=al.plain _ _ _ (λ_=>False) ai fe;rw[<-aj]at bk;rw[eH (by exact k6)]at bk;exact .inl ⟨rfl,az.o5 _ _ rfl bk⟩)
       .subst he;refine .inl ⟨rfl,?_⟩;rw[az];intro d2 fJ _;rw[qV]at fJ⊢;simp only[j.sub,ad,some.injEq]at fJ;subst fJ;refine⟨e6,none,?_,aj,k6⟩;simp only[cM,ad];rw[gY,r1 bK e6 bJ _ _ gL (al.length _ _ _ fe)];rfl
      .cases he
     .cases he
    .cases he
  .cases he
 .rename_i x _ _;split at he
  .rename_i y q hl;split at he
   .rename_i d ad;split at he
    .rename_i gX;simp only[some.injEq]at he;obtain⟨n8,cn,b,o,rfl,jO⟩:=BM h aE hl ad;have a6:=h.cz y;rw[az.b8 (gN ad (.inr n8))]at a6;obtain⟨eZ,bG,dd,eG,k0,bO,b1,cX,cT,ev⟩:=ctx q (s y) (bZ (an y)) (S y) none _ a6.2 ad;rw[k0]at jO;simp only[some.injEq,Prod.mk.injEq,true_and]at jO;obtain⟨rfl,rfl⟩:=jO;have iy:gJ w b o eZ:=by
      rcases ev with⟨l,r,aH,aN,_⟩|⟨eA,cur,e,fr,l,r,aH,aN,aP,bQ,b_,_⟩
      .simp at aN
      .simp only[some.injEq,Prod.mk.injEq]at aH;obtain⟨rfl,rfl⟩:=aH;intro aB c cp;have cW:aB<eZ.length:=(List.getElem?_eq_some_iff.1 cp).1;have:cur.toList[l.length+aB]? =some c:=by
        rw[b_,getElem?_append_right (by omega),getElem?_append_left (by omega),<-cp];congr 1;omega
       simp[World.cell?,aP];simpa using this
     obtain⟨dD,aD,aj,k6⟩:=yK a1 iy cT gX;have c3:(Instr.loadAt T (.pointer (some ⟨b,o,none⟩))).run C.P w= .ok dD w:=by simp[Instr.loadAt,Instr.sureAddr,aD]
     refine⟨dD,w,F,S,c3,h,?_⟩;split at he
     .rename_i ai;subst he;by_cases aK:d.tree=true
      .exact .inl ⟨ai,(az.b8 aK).2 ⟨k6,by rw[aj];exact al.plain _ _ _ _ ai cT⟩⟩
      .cases d<;>first|exact(aK rfl).elim|(rw[al]at cT;exact cT.elim)|exact .inl ⟨rfl,by rw[az];trivial⟩|(have bk:=al.plain _ _ _ (λ_=>False) ai cT;rw[<-aj]at bk;rw[eH (by exact k6)]at bk;exact .inl ⟨rfl,az.o5 _ _ rfl bk⟩)
     .subst he;refine .inl ⟨rfl,?_⟩;rw[az];intro d2 fJ _;rw[ad]at fJ;simp only[some.injEq]at fJ;subst fJ;exact⟨_,_,k0,aj,k6⟩
    .cases he
   .cases he
  .cases he
mutual
theorem al.me {F:Nat->Prop}:∀(d:j) (cs:ach) (S:Nat->Prop),al w F d cs S->∀c∈cs,Value.ej c=true
 | .hole,cs,S,h=>by rw[al]at h;obtain⟨v,h,rfl⟩:=h;simpa using h
 | .bool _,cs,S,h=>by rw[al]at h;subst h;simp[Value.ej]
 | .eT,cs,S,h=>by rw[al]at h;obtain⟨b,rfl⟩:=h;simp[Value.ej]
 | .int _ _,cs,S,h=>by rw[al]at h;subst h;simp[Value.ej]
 | .str _,cs,S,h=>by rw[al]at h;subst h;simp[Value.ej]
 | .c6,cs,S,h=>by rw[al]at h;subst h;simp[Value.ej]
 | .bc,cs,S,h=>by rw[al]at h;subst h;simp[Value.ej]
 | .slice xs,cs,S,h=>by
   rw[al]at h;rcases h with⟨_,a,c,rfl,_⟩|⟨b,o,cap,dC,sz,rfl,_⟩<;>simp[Value.ej]
 | .ao sz xs,cs,S,h=>by
   rw[al]at h;rcases h with⟨_,_,rfl⟩|⟨b,cap,cur,e,fr,aG,rfl,_⟩<;>simp[Value.ej]
 | .ref d,cs,S,h=>by rw[al]at h;obtain⟨b,o,dC,rfl,_⟩:=h;simp[Value.ej]
 | .aV d,cs,S,h=>by rw[al]at h;obtain⟨b,o,dC,_,_,rfl,_⟩:=h;simp[Value.ej]
 | .agg ar,cs,S,h=>by rw[al]at h;exact aT.me ar _ _ h
 | .tuple ar,cs,S,h=>by rw[al]at h;exact aT.me ar _ _ h
 | .fn _ _,cs,S,h=>by rw[al]at h;obtain⟨arr,rfl,_⟩:=h;simp[Value.ej]
 | .h _ _,cs,S,h=>by rw[al]at h;exact h.elim
 | .ai _ _,cs,S,h=>by rw[al]at h;exact h.elim
 | .I _ _,cs,S,h=>by rw[al]at h;exact h.elim
 | .b3 _,cs,S,h=>by rw[al]at h;obtain⟨v,hR,rfl⟩:=k4.one h;simpa using hR
 | .a8 _ _,cs,S,h=>by rw[al]at h;obtain⟨arr,rfl,_⟩:=h;simp[Value.ej]
 | .cH _,cs,S,h=>by rw[al]at h;obtain⟨b,v,e,fr,rfl,_⟩:=h;simp[Value.ej]
theorem aT.me {F:Nat->Prop}:∀(ds:acj) (cs:ach) (S:Nat->Prop),aT w F ds cs S->∀c∈cs,Value.ej c=true
 |[],cs,S,h=>by rw[aT]at h;subst h;simp
 |d::ds,cs,S,h=>by
  rw[aT]at h;obtain⟨bK,bJ,bT,cI,rfl,U,aw,_⟩:=h;intro c aj;rcases mem_append.1 aj with aj|aj
  .exact al.me d _ _ U c aj
  .exact aT.me ds _ _ aw c aj
end
theorem BS {P:Program} {b o:Nat} {e:TypeId} {fr:Nat×Nat}:∀(vs:ach) (i:Nat) (cur:Array Value) (w:World) (l m r:ach),w.heap[b]? =some (.cells cur e fr)->l8 fr cur.size->
  cur.toList=l++(m++r)->l.length=o+i->m.length=vs.length->(∀v∈vs,Value.ej v=true)->
  ∃au,(storeCells ⟨b,o,none⟩ vs i).run P w= .ok () au/\au.heap[b]? =some (.cells (l++(vs++r)).toArray e fr)/\(∀c,c≠b->au.heap[c]? =w.heap[c]?)/\au.heap.size=w.heap.size/\au.os=w.os/\au.tape=w.tape/\Out au w
 |[],i,cur,w,l,m,r,I,bf,aj,hl,hm,_=>by
  refine⟨w,rfl,?_,λ_ _=>rfl,rfl,rfl,rfl,Out.refl _⟩;have:m=[]:=by simpa using hm
  subst this;rw[I];have:cur=(l++([]++r)).toArray:=by rw[<-aj]
  rw[<-this]
 |v::vs,i,cur,w,l,m,r,I,bf,aj,hl,hm,j7=>by
  obtain⟨x,m,rfl⟩:∃x iU,m=x::iU:=by cases m with
   |nil=>simp at hm
   |cons x m=>exact⟨x,m,rfl⟩
  have hlen:cur.size=(l++(x::m++r)).length:=by rw[<-aj];simp
  have cW:o+i<cur.size:=by rw[hlen];simp;omega
  have sa:w.cell? ⟨b,o+i,none⟩=some cur[o+i]:=by simp[World.cell?,I,cW]
  have Og:w.frozen? ⟨b,o+i,none⟩=false:=by
   have:=bf (o+i) cW;simp only[World.frozen?,I];simp only[Bool.and_eq_false_iff,decide_eq_false_iff_not];by_cases R:fr.1<=o+i
   .right;exact λU=>this ⟨R,U⟩
   .left;exact R
  have qW:(w.setCell ⟨b,o+i,none⟩ v).heap[b]? =some (.cells ((l++[v])++(m++r)).toArray e fr):=by
   simp only[World.setCell,Array.getElem?_modify,if_true,I,map_some,isSome_none,Bool.false_eq_true,if_false];congr 2;apply Array.ext';rw[Array.toList_setIfInBounds,aj,<-hl,set_append_right _ _ (Nat.le_refl _)];simp
  have sb:(store ((⟨b,o,none⟩:Addr).add i) v).run P w= .ok () (w.setCell ⟨b,o+i,none⟩ v):=by
   have R:=j7 v (by simp);rw[Addr.add_lit];cases v<;>first|(simp[Value.ej]at R;done)|simp[Go.store,Sem.run,sa,Og]
  obtain⟨au,g1,g2,g3,g4,g5,g6,g7⟩:=BS (P:=P) (b:=b) (o:=o) vs (i+1) _ (w.setCell ⟨b,o+i,none⟩ v) (l++[v]) m r qW (by
   have:(l++[v]++(m++r)).toArray.size=cur.size:=by rw[hlen];simp
   rw[this];exact bf) (by simp) (by simp;omega) (by simpa using hm) (λu hu=>j7 u (by simp[hu]))
  refine⟨au,?_,by simpa using g2,λc aj=>?_,?_,g5,g6,g7⟩
  .simp only[storeCells,Sem.run_bind,sb,Result.andThen];exact g1
  .rw[g3 c aj];simp only[World.setCell,Array.getElem?_modify];rw[if_neg (λe=>aj e.symm)]
  .rw[g4];simp[World.setCell]
theorem v8 {d:j} {v:Value} (h:cU d v) (ad:∀ar,d≠.tuple ar):v.cells=(bZ v).toArray:=by
 cases d with
 |tuple ar=>exact(ad _ rfl).elim
 |agg ar=>obtain⟨arr,rfl⟩:=h;simp[Value.cells,bZ,gM]
 |_=>
  have R:Value.ej v=true:=h;rw[eH R];cases v<;>first|rfl|(simp[Value.ej]at R)
def iV (C:bz) (s:ag) (T:TypeId) (x y:j):Option ag:=
 match cr s y,loc s x with
 |some (d,s1),some (z,q)=>match d with
  | .tuple _=>none
  |d=>match j.sub q (s z)with
   |some d0=>if d.wd=d0.wd/\d.wd=(C.T T).sz/\(C.T T).ok=true/\y.owner≠some z then some (cw (gO z s1) z (j.put q d (s z)))else none
   |none=>none
 |_,_=>none
theorem Oh {s s1:ag} {y d:j} {z:Nat} (h:cr s y=some (d,s1)) (bD:(s z).tree=true) (a6:y.owner≠some z):s1 z=s z:=by
 cases y with
 |h x q=>
  simp only[cr]at h;split at h
  .split at h
   .cases h
   .simp only[some.injEq,Prod.mk.injEq]at h;obtain⟨_,rfl⟩:=h;rw[ia _ _ (λe=>a6 (by rw[j.owner,e]))];exact BD bD
  .cases h
 |ai x q=>simp[cr]at h
 |I x q=>simp[cr]at h
 |fn f c=>simp[cr]at h
 |hole=>simp[cr]at h
 |_=>simp only[cr,some.injEq,Prod.mk.injEq]at h;rw[h.2]
theorem Oi (a1:C.du) (h:bm w0 F0 X F S s an w) {T:TypeId} {x y:j} {dE gC:Value} (BT:az w F s an x dE (λ_=>False)) (a6:y.plain=true) (Oj:az w F s an y gC (λ_=>False))
  {s2:ag} (he:iV C s T x y=some s2):
  ∃au aG,(Instr.storeAt T dE gC).run C.P w= .ok () au/\bm w0 F0 X F aG s2 an au:=by
 unfold iV at he;split at he
 .rename_i d s1 z q aK hl;have key:∀d:j,(∀ar,d≠.tuple ar)->cr s y=some (d,s1)->(match j.sub q (s z)with
   |some d0=>if d.wd=d0.wd/\d.wd=(C.T T).sz/\(C.T T).ok=true/\y.owner≠some z then some (cw (gO z s1) z (j.put q d (s z)))else none
   |none=>none)=some s2->∃au aG,(Instr.storeAt T dE gC).run C.P w= .ok () au/\bm w0 F0 X F aG s2 an au:=by
   intro d p1 aK he;split at he
   .rename_i d0 mf;split at he
    .rename_i sc;obtain⟨R,U,aw,aQ⟩:=sc;simp only[some.injEq]at he;subst he;obtain⟨n8,cn,b,o,rfl,jO⟩:=BM h BT hl mf;obtain⟨bT,g0,g1,g2,Sn,g3,g4,g5,g6,g7,g8⟩:=o0 h a6 Oj aK;have dm:s1 z=s z:=Oh aK (gN mf (.inr n8)) aQ;rw[<-dm]at mf n8 jO⊢;obtain⟨eZ,eA,l,r,cur,e,fr,k0,bO,b1,cX,cT⟩:=g0.store mf n8 g3 R g4 g5 g6 g7;rw[jO]at k0;simp only[some.injEq,Prod.mk.injEq,true_and]at k0;obtain⟨rfl,rfl,rfl⟩:=k0;obtain⟨i,d,o3,aH,aN,aP,bQ,b_,bM,bH⟩:=a1.info aw;have hlen:=al.length _ _ _ g3;have hm:cn.length=(bZ gC).length:=by
      have GW:=g0.cz z;rw[az.b8 (gN mf (.inr n8))]at GW;obtain⟨_,_,_,_,n5,_,_,_,hz,_⟩:=ctx q (s1 z) (bZ (an z)) (bT z) none _ GW.2 mf;rw[jO]at n5;simp only[some.injEq,Prod.mk.injEq,true_and]at n5;rw[n5.1,al.length _ _ _ hz,hlen,R]
     obtain⟨au,m1,m2,m3,m4,m5,m6,m7⟩:=BS (P:=C.P) (b:=b) (o:=l.length) (e:=e) (fr:=fr) (bZ gC) 0 cur w l cn r bO cX b1 rfl hm (al.me _ _ _ g3);obtain⟨aG,ev⟩:=cT au m2 m3 m4 m5 m6 m7;refine⟨au,aG,?_,ev⟩;have n9:=v8 g2 p1;simp[Instr.storeAt,Instr.sureAddr,storeVar,jt aH,aN,n9,hlen,U,m1]
    .cases he
   .cases he
  split at he
  .cases he
  .rename_i p1;exact key _ (λar e=>p1 ar e) aK he
 .cases he
theorem bm.alloc (h:bm w0 F0 X F S s an w) {d:j} {cs:ach} {Sn:Nat->Prop} (e:TypeId) (aE:al w F d cs Sn)
  (cW:∀b,Sn b->b<w.heap.size) (aZ:∀b,Sn b->¬F b) (bI:∀u b,Sn b->¬S u b) (bg:∀b,Sn b->X b\/w0.heap.size<=b):
  bm w0 F0 X F S s an (w.alloc (.cells cs.toArray e))/\
   iK w0 X F S s an (w.alloc (.cells cs.toArray e)) (.aV d) (.pointer (some ⟨w.heap.size,0,none⟩)):=by
 have hold:∀b,b<w.heap.size->(w.alloc (.cells cs.toArray e)).heap[b]? =w.heap[b]? :=by
  intro b I;show(w.heap.push _)[b]? =_;rw[Array.getElem?_push,if_neg (by omega)]
 refine⟨h.grow hold (by simp) rfl rfl ⟨rfl,λ_=>Nat.le_refl _⟩,.inr ⟨rfl,rfl,λb=>b=w.heap.size\/Sn b,?_,?_,?_,?_,?_⟩⟩
 .rw[al];refine⟨w.heap.size,cs.toArray,e,(0,0),Sn,rfl,.inl rfl,?_,?_,?_,λc aj=>.inr aj,λaj=>Nat.lt_irrefl _ (cW _ aj)⟩
  .show(w.heap.push _)[_]? =_;simp
  .intro o _ ⟨_,U⟩;exact absurd U (not_lt_zero _)
  .exact al.frame (λb I=>hold b (h.dP b I)) _ _ _ (λb I=>hold b (cW b I)) aE
 .rintro b (rfl|I)
  .simp
  .have:=cW b I;simp;omega
 .rintro b (rfl|I) p2
  .exact Nat.lt_irrefl _ (h.dP _ p2)
  .exact aZ b I p2
 .rintro u b (rfl|I) hu
  .exact Nat.lt_irrefl _ (h.dt _ _ hu)
  .exact bI u b I hu
 .rintro b (rfl|I)
  .exact .inr h.size
  .exact bg b I
def lC (C:bz) (T:TypeId):Option j:=if(C.T T).ok=true then(match(C.T T).k,(C.T T).zero with
    | .hi e,.agg [.c6,.bc]=>some (.b3 (.gW T e []))
    | .hi _,_=>none
    |_,z=>(match flat z with|some _=>some (.aV z)|none=>none))else none
theorem Ok (a1:C.du) (h:bm w0 F0 X F S s an w) {T:TypeId} (he:lC C T=some av):Good C w0 F0 X an w (Instr.alloc T true (.tuple #[])) av s:=by
 unfold lC at he;split at he
 .rename_i ak;split at he
  .rename_i aaM mg Ol;simp only[some.injEq]at he;subst he;obtain⟨i,d,z,aH,aN,aP,bQ,b_,bM,bH⟩:=a1.info ak;have bD:=b_ [.pointer none,.slice none 0 0] (by rw[Ol];rfl);have hold:∀b,b<w.heap.size->(w.alloc (.cells #[.pointer none,.slice none 0 0] T)).heap[b]? =w.heap[b]? :=by
    intro b I;show(w.heap.push _)[b]? =_;rw[Array.getElem?_push,if_neg (by omega)]
   refine⟨.pointer (some ⟨w.heap.size,0,none⟩),w.alloc (.cells #[.pointer none,.slice none 0 0] T),F,S,?_,h.grow hold (by simp) rfl rfl ⟨rfl,λ_=>Nat.le_refl _⟩,.inr ⟨rfl,rfl,λb=>b=w.heap.size,?_,?_,?_,?_,?_⟩⟩
   .simp[Instr.alloc,r9 aH bQ,newVar,newRow,newObj,Sem.run,bD]
   .rw[al];refine⟨w.heap.size,.pointer none,.slice none 0 0,rfl,rfl,?_,.inl rfl,.inl ⟨rfl,rfl⟩⟩;show(w.heap.push _)[_]? =_;simp
   .rintro b rfl;simp
   .rintro b rfl p2;exact Nat.lt_irrefl _ (h.dP _ p2)
   .rintro u b rfl hu;exact Nat.lt_irrefl _ (h.dt _ _ hu)
   .rintro b rfl;exact .inr h.size
  .cases he
  split at he
  .rename_i cs gY;simp only[some.injEq]at he;subst he;obtain⟨i,d,z,aH,aN,aP,bQ,b_,bM,bH⟩:=a1.info ak;have bD:=b_ cs gY;obtain⟨cQ,bl⟩:=h.alloc (d:=(C.T T).zero) T ((al.flat _).1 _ cs (λ_=>False) (Nat.le_refl _) gY) (λ_ h=>h.elim) (λ_ h=>h.elim) (λ_ _ h=>h.elim) (λ_ h=>h.elim);refine⟨_,_,F,S,?_,cQ,bl⟩;simp[Instr.alloc,r9 aH bQ,newVar,newRow,newObj,Sem.run,bD]
  .cases he
 .cases he
def hj (s:ag) (x:j):Option (j×ag):=match cr s x with
 |some (.tuple _,_)=>none
 |some (d,s1)=>some (.aV d,s1)
 |none=>none
def yL:j->Bool
 | .agg ds=> !j.dj ds
 | .a8 _ _=>true
 |_=>false
theorem GX {d:j} (h:yL d=true):d.plain=false/\∀ar,d≠.tuple ar:=by
 cases d with
 |agg ds=>simp only[yL,Bool.not_eq_true']at h;exact⟨by simp only[j.plain];exact h,λ_ e=>by cases e⟩
 |a8 f c=>exact⟨rfl,λ_ e=>by cases e⟩
 |_=>cases h
def iA (s:ag) (x:j):Option (j×ag):=match x with
 | .h y q=>if q=[]/\yL (s y)=true then some (.I y 0,s)else none
 | .fn f caps=>if caps.all (λd=>d.single&&(d.tree&&d.plain))=true then some (.ref (.fn f caps),s)else none
 |_=>none
theorem aT.GY {w:World} {F bh:Nat->Prop} {s:ag} {an:Nat->Value} (aZ:∀b,F b->bh b):∀(ds:acj) (vs:ach),(∀d∈ds,d.single=true/\d.tree=true/\d.plain=true)->cJ w F s an ds vs->aT w bh ds vs (λ_=>False)
 |[],vs,_,h=>by rw[cJ]at h;rw[aT];exact h
 |d::ds,vs,J,h=>by
  rw[cJ]at h;obtain⟨v,eg,rfl,R,U⟩:=h;obtain⟨d1,d2,d3⟩:=J d (by simp);have aw:=(az.b8 d2).1 R;have a_:Value.ej v=true:=by
   have:=aw.1;cases d<;>first|exact this|cases d1
  have aQ:=aw.2;rw[eH a_]at aQ;rw[aT];exact⟨[v],eg,λ_=>False,λ_=>False,rfl,al.mono aZ _ _ _ _ (λ_ h=>h) aQ,aT.GY aZ ds eg (λx ae=>J x (by simp[ae])) U,λ_ h=>h,λ_ h=>h,λ_ h=>h.elim⟩
theorem Om {T:TypeId} {v:Value} (h:bm w0 F0 X F S s an w):bm w0 F0 X (λb=>F b\/b=w.heap.size) S s an (w.alloc (.cells (bZ v).toArray T)):=by
 have hold:∀b,b<w.heap.size->(w.alloc (.cells (bZ v).toArray T)).heap[b]? =w.heap[b]? :=by
  intro b I;show(w.heap.push _)[b]? =_;rw[Array.getElem?_push,if_neg (by omega)]
 have R:=h.grow hold (by simp) rfl rfl ⟨rfl,λ_=>Nat.le_refl _⟩;exact {
  ff:=λb I=>.inl (R.ff b I)
  fI:=λb I=>by
   rcases I with I|rfl
   .exact R.fI b I
   .exact .inr (.inr h.size)
  dP:=λb I=>by
   rcases I with I|rfl
   .exact R.dP b I
   .simp
  dt:=R.dt
  eh:=λt b I bf=>by
   rcases bf with bf|rfl
   .exact R.eh t b I bf
   .exact absurd (h.dt t _ I) (Nat.lt_irrefl _)
  dW:=R.dW
  cS:=R.cS
  cz:=λt=>az.frame (λ_ _=>rfl) (λb I=>.inl I) (λ_ _ _=>rfl) R.cz _ _ _ (λ_ _=>rfl) (R.cz t)
  old:=R.old
  size:=R.size
  os:=R.os
  tape:=R.tape
  output:=R.output
  fu:=h.fu}
theorem On (h:bm w0 F0 X F S s an w) {T:TypeId} {x:j} {v:Value} (aE:az w F s an x v (λ_=>False)) (he:iA s x=some (av,s1)):
  Good C w0 F0 X an w (Instr.box T v) av s1:=by
 unfold iA at he;split at he
 .rename_i y q;split at he
  .rename_i BU;obtain⟨rfl,GZ⟩:=BU
   .simp only[some.injEq,Prod.mk.injEq]at he;obtain⟨rfl,rfl⟩:=he;rw[az]at aE;obtain⟨cn,a,g1,g2,g3⟩:=aE (s y) (by simp only[j.sub]) (GX GZ).1;simp only[cM,some.injEq,Prod.mk.injEq,true_and]at g1;have n9:=v8 g3 (GX GZ).2;have hold:∀b,b<w.heap.size->(w.alloc (.cells (bZ v).toArray T)).heap[b]? =w.heap[b]? :=by
     intro b I;show(w.heap.push _)[b]? =_;rw[Array.getElem?_push,if_neg (by omega)]
    refine⟨.pointer (some ⟨w.heap.size,0,none⟩),w.alloc (.cells (bZ v).toArray T),λb=>F b\/b=w.heap.size,S,by simp[Instr.box,newVar,newRow,newObj,Sem.run,n9],?_,.inl ⟨rfl,?_⟩⟩
    .have R:=h.grow hold (by simp) rfl rfl ⟨rfl,λ_=>Nat.le_refl _⟩;exact {
      ff:=λb I=>.inl (R.ff b I)
      fI:=λb I=>by
       rcases I with I|rfl
       .exact R.fI b I
       .exact .inr (.inr h.size)
      dP:=λb I=>by
       rcases I with I|rfl
       .exact R.dP b I
       .simp
      dt:=R.dt
      eh:=λt b I bf=>by
       rcases bf with bf|rfl
       .exact R.eh t b I bf
       .exact absurd (h.dt t _ I) (Nat.lt_irrefl _)
      dW:=R.dW
      cS:=R.cS
      cz:=λt=>az.frame (λ_ _=>rfl) (λb I=>.inl I) (λ_ _ _=>rfl) R.cz _ _ _ (λ_ _=>rfl) (R.cz t)
      old:=R.old
      size:=R.size
      os:=R.os
      tape:=R.tape
      output:=R.output
      fu:=h.fu}
    .rw[az];intro _;refine⟨w.heap.size,(bZ v).toArray,T,(0,0),rfl,.inr rfl,?_,?_⟩
     .show(w.heap.push _)[_]? =_;simp
     .rw[g1.1,<-g2]
  .cases he
 .rename_i f caps;split at he
  .rename_i aj;simp only[some.injEq,Prod.mk.injEq]at he;obtain⟨rfl,rfl⟩:=he;have gY:∀d∈caps,d.single=true/\d.tree=true/\d.plain=true:=λd ad=>by
    have:=List.all_eq_true.1 aj d ad;simpa only[Bool.and_eq_true]using this
   rw[az]at aE;obtain⟨arr,rfl,aE⟩:=aE;have n9:=v8 (d:=.fn f caps) (v:=.func (.func f) #[] arr) rfl (λar e=>by cases e);have bo:=Om (T:=T) (v:=.func (.func f) #[] arr) h;refine⟨.pointer (some ⟨w.heap.size,0,none⟩),w.alloc (.cells (bZ (.func (.func f) #[] arr)).toArray T),λb=>F b\/b=w.heap.size,S,by simp[Instr.box,newVar,newRow,newObj,Sem.run,n9],bo,.inl ⟨rfl,?_⟩⟩;refine(az.b8 rfl).2 ⟨rfl,?_⟩;rw[al];refine⟨w.heap.size,0,[.func (.func f) #[] arr],rfl,.inr rfl,?_,?_⟩
   .have j5:(w.alloc (.cells (bZ (.func (.func f) #[] arr)).toArray T)).heap[w.heap.size]? =some (.cells (bZ (.func (.func f) #[] arr)).toArray T (0,0)):=by
     show(w.heap.push _)[_]? =_;simp
    intro aB c cp;cases aB with
    |zero=>
     simp only[getElem?_cons_zero,some.injEq]at cp;subst cp;have e:bZ (.func (.func f) #[] arr)=[.func (.func f) #[] arr]:=eH rfl;unfold World.cell?;show(match(w.alloc (.cells (bZ (.func (.func f) #[] arr)).toArray T)).heap[w.heap.size]? with
      |some (.cells c _ _)=>c[0+0]?
      |_=>none)=_
     rw[j5,e];rfl
    |succ aB=>simp at cp
   .rw[al];refine⟨arr,rfl,λd ad=>(gY d ad).1,?_⟩;have bk:=aT.GY (bh:=F) (λb I=>I) caps arr.toList gY aE;refine aT.mono (F:=F) (λb I=>.inl I) caps _ _ _ (λ_ h=>h) (aT.frame (λb I=>?_) caps _ _ (λ_ h=>h.elim) bk);have cW:=h.dP b I;show(w.heap.push _)[b]? =_;rw[Array.getElem?_push,if_neg (by omega)]
  .cases he
 .cases he
theorem Oo (h:bm w0 F0 X F S s an w) {T:TypeId} {x:j} {v:Value} (ae:x.plain=true) (aE:az w F s an x v (λ_=>False)) (he:hj s x=some (av,s1)):
  Good C w0 F0 X an w (Instr.box T v) av s1:=by
 unfold hj at he;split at he
 .cases he
 .rename_i d s2 p1 aK;simp only[some.injEq,Prod.mk.injEq]at he;obtain⟨rfl,rfl⟩:=he;obtain⟨bT,g0,g1,g2,Sn,g3,g4,g5,g6,g7,g8⟩:=o0 h ae aE aK;obtain⟨cQ,bl⟩:=g0.alloc T g3 g4 g5 g6 g7;refine⟨_,_,F,bT,?_,cQ,bl⟩;have n9:=v8 g2 (λar e=>p1 ar e);simp[Instr.box,newVar,newRow,newObj,Sem.run,n9]
 .cases he
end
end Go.cG
