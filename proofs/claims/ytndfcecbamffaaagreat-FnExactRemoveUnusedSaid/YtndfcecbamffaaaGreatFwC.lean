/- Part of a proof that a law returns true for every input. No condition. -/
import Derived.Test.YtndfcecbamffaaaGreatFwB
import Derived.Laws.Entries
namespace Go.cW
open List Option Go.IntKind Nat Or
inductive lF where
 |int (k:IntKind)
 |bool
 |str
 |ptr (e:TypeId)
 |slice (e:TypeId)
 |struct (ar:List (TypeId×Nat))
 |fn
 |gm (e:TypeId)
 |map (k e:TypeId)
 |other
structure fu where
 k:lF
 sz:Nat
 bytes:Nat
 zero:j
mutual
def flat:j->Option abL
 | .bool b=>some [.bool b]
 | .int k n=>some [.int k n]
 | .str s=>some [.string ⟨⟨s⟩⟩]
 | .c8=>some [.pointer none]
 | .aJ=>some [.slice none 0 0]
 | .agg ar=>pR ar
 | .dc .vP=>some [.map none]
 |_=>none
def pR:abN->Option abL
 |[]=>some []
 |d::ds=>match flat d,pR ds with
  |some a,some b=>some (a++b)
  |_,_=>none
end
theorem ai.flat {w:World} {F:Nat->Prop}:∀n,(∀(d:j) (cs:abL) (S:Nat->Prop),SizeOf.sizeOf d<=n->flat d=some cs->ai w F d cs S)/\
  (∀(ds:abN) (cs:abL) (S:Nat->Prop),SizeOf.sizeOf ds<=n->pR ds=some cs->aS w F ds cs S):=by
 intro n;induction n with
 |zero=>exact⟨λd _ _ bA=>by cases d<;>simp at bA<;>omega,λds _ _ bA=>by cases ds<;>simp at bA<;>omega⟩
 |succ n ih=>
  refine⟨λd cs S bA h=>?_,λds cs S bA h=>?_⟩
  .cases d with
   |agg ar=>rw[ai];exact ih.2 ar cs S (by simp at bA;omega) (by simpa [cW.flat]using h)
   |bool b=>simp[cW.flat]at h;subst h;rw[ai]
   |int k n=>simp[cW.flat]at h;subst h;rw[ai]
   |str s=>simp[cW.flat]at h;subst h;rw[ai]
   |c8=>simp[cW.flat]at h;subst h;rw[ai]
   |aJ=>simp[cW.flat]at h;subst h;rw[ai]
   |dc o=>cases o<;>simp[cW.flat]at h;subst h;rw[ai];rfl
   |_=>simp[cW.flat]at h
  .cases ds with
   |nil=>simp[pR]at h;subst h;rw[aS]
   |cons d ds=>
    simp only[pR]at h;split at h
    .rename_i a b b8 J;simp at h;subst h;simp at bA;rw[aS];exact⟨a,b,λ_=>False,λ_=>False,rfl,ih.1 d a _ (by omega) b8,ih.2 ds b _ (by omega) J,λ_ h=>h.elim,λ_ h=>h.elim,λ_ h=>h.elim⟩
    .cases h
def j7:lF->TypeDesc->Prop
 | .int k,.int cY=>k=cY
 | .bool,.bool=>True
 | .str,.string=>True
 | .ptr e,.pointer dY=>e=dY
 | .slice e,.slice dY=>e=dY
 | .struct ar,.struct gs=>gs.toList.map (λg=>(g.type,g.offset))=ar
 | .fn,.func _ _ _=>True
 | .gm _,.struct _=>True
 | .map k e,.map cY dY=>k=cY/\e=dY
 |_,_=>False
def G1 (P:Program) (t:TypeId) (x:fu):Prop:=
 (∃e n b z,x=⟨.other,e,n,b⟩/\z=0)\/
 ∃i d z,P.info? t=some i/\i.size=x.sz/\i.bytes=x.bytes/\i.zero=some z/\(∀cs,flat x.zero=some cs->z.cells=cs.toArray)/\P.underlying t=some d/\j7 x.k d
structure bI where
 P:Program
 T:TypeId->fu
 M:FuncId->List Bool
structure bI.Ok (C:bI):Prop where
 ty:∀t,G1 C.P t (C.T t)
 mixed:C.P.follows .mixedOrders=true
inductive aZ where
 |t (n:Nat)
 |c (av:j)
 |f (g:FuncId)
def yC:Value->Option j
 | .bool b=>some (.bool b)
 | .int k n=>some (.int k n)
 | .string s=>some (.str s.data.toList)
 | .pointer none=>some .c8
 | .slice none 0 0=>some .aJ
 |_=>none
def cZ:Operand->Option aZ
 | .tmp n=>some (.t n)
 | .const v=>(yC v).map .c
 | .func g=>some (.f g)
 | .global _=>none
def mT (x:Nat) (d:j):j:=if d.plain then d else .h x []
def aX (s:ah):aZ->j
 | .t n=>mT n (s n)
 | .c av=>av
 | .f g=>.fn g []
theorem aB.nothing {w:World} {F:Nat->Prop} {s:ah} {ao:Nat->Value} {d:j} {v:Value} {S aF:Nat->Prop} (al:d.plain=true) (h:aB w F s ao d v S):aB w F s ao d v aF:=by
 cases d<;>first
  |(rw[aB];trivial)
  |(rw[aB]at h⊢;exact h)
  |(have bz:=(aB.b4 rfl).1 h;exact(aB.b4 rfl).2 ⟨bz.1,ai.plain _ _ _ _ al bz.2⟩)
section
variable {w0 w:World} {F0 X F:Nat->Prop} {S:Nat->Nat->Prop} {s:ah} {ao:Nat->Value} {a:Act}
theorem G2 (s:ah) (x:aZ) (aj:∀av,x= .c av->av.plain=true):(aX s x).plain=true:=by
 cases x with
 |t n=>simp only[aX,mT];split<;>first|assumption|rfl
 |c av=>exact aj _ rfl
 |f g=>rfl
theorem Bx {v:Value} {av:j} (h:yC v=some av):av.plain=true:=by
 unfold yC at h;split at h<;>simp at h<;>subst h<;>rfl
theorem dZ (h:bu w0 F0 X F S s ao w) (du:∀t,ao t=a.tmps.getD t undef) {o:Operand} {x:aZ} (br:cZ o=some x):
  (aX s x).plain=true/\aB w F s ao (aX s x) (a.eval o) (λ_=>False):=by
 cases o with
 |tmp n=>
  simp[cZ]at br;subst br;simp only[aX,mT,Act.eval,<-du];split
  .rename_i al;exact⟨al,aB.nothing al (h.cK n)⟩
  .rename_i al;refine⟨rfl,?_⟩;rw[aB];intro d ae NT;simp only[j.sub,some.injEq]at ae;subst ae;have aL:=fQ (q:=[]) rfl (.inl NT);exact⟨_,none,rfl,rfl,((aB.b4 aL).1 (h.cK n)).1⟩
 |const v=>
  simp only[cZ,map_eq_some_iff]at br;obtain⟨av,nI,rfl⟩:=br;refine⟨Bx nI,?_⟩;simp only[aX,Act.eval];unfold yC at nI;split at nI<;>simp at nI<;>subst nI<;>rw[aB,ai]<;>exact⟨rfl,rfl⟩
 |func g=>
  simp[cZ]at br;subst br;refine⟨rfl,?_⟩;simp only[aX,Act.eval];rw[aB];exact⟨#[],rfl,by rw[dk]⟩
 |global g=>simp[cZ]at br
def jN (w0:World) (X F:Nat->Prop) (S:Nat->Nat->Prop) (s:ah) (ao:Nat->Value) (w:World) (av:j) (v:Value):Prop:=
 (av.plain=true/\aB w F s ao av v (λ_=>False))\/
 (av.tree=true/\c0 av v/\∃Sn,ai w F av (bR v) Sn/\(∀b,Sn b->b<w.heap.size)/\(∀b,Sn b->¬F b)/\(∀u b,Sn b->¬S u b)/\(∀b,Sn b->X b\/w0.heap.size<=b))
def fin (s:ah) (dst:Option Nat) (av:j):ah:=match dst with
 |none=>s
 |some t=>if av.plain then ck s t av else ck (kr t s) t av
def pS (ao:Nat->Value) (dst:Option Nat) (v:Value):Nat->Value:=match dst with
 |none=>ao
 |some t=>ck ao t v
theorem bu.fin (h:bu w0 F0 X F S s ao w) {av:j} {v:Value} (ay:jN w0 X F S s ao w av v) (dst:Option Nat):
  ∃aF,bu w0 F0 X F aF (cW.fin s dst av) (pS ao dst v) w:=by
 cases dst with
 |none=>exact⟨S,h⟩
 |some t=>
  simp only[cW.fin,pS];rcases ay with⟨al,ae⟩|⟨aL,I,Sn,R,U,aA,aU,bt⟩
  .rw[if_pos al];exact⟨_,h.tH al ae⟩
  .split
   .rename_i al;exact⟨_,h.tH al ((aB.b4 aL).2 ⟨I,ai.plain _ _ _ _ al R⟩)⟩
   .exact⟨_,h.GV aL I R U aA (λu b _ J=>aU u b J) bt⟩
def cg (s:ah):j->Option (j×ah)
 | .h x q=>match j.sub q (s x)with
   |some d=>if d.plain then none else some (d,ck (e_ x s) x (j.put q d.cf (s x)))
   |none=>none
 | .al _ _=>none
 | .J _ _=>none
 | .fn _ _=>none
 | .hole=>none
 |d=>some (d,s)
def j.owner:j->Option Nat
 | .h x _=>some x
 |_=>none
def jl:Option Nat->j->j
 |some x,d=>bV x d
 |none,d=>d
theorem mU (h:bu w0 F0 X F S s ao w) {av d:j} {s1:ah} {v:Value} (nI:av.plain=true) (ay:aB w F s ao av v (λ_=>False)) (aL:cg s av=some (d,s1)):
  ∃bJ,bu w0 F0 X F bJ s1 ao w/\d.tree=true/\c0 d v/\∃Sn,ai w F d (bR v) Sn/\(∀b,Sn b->b<w.heap.size)/\(∀b,Sn b->¬F b)/\(∀u b,Sn b->¬bJ u b)/\(∀b,Sn b->X b\/w0.heap.size<=b)/\
   (∀u b,bJ u b->S u b)/\(∀b,Sn b->∃u,S u b)/\(∀(bb:j) (fh:Value) (aF:Nat->Prop),aB w F s ao bb fh aF->aB w F s1 ao (jl av.owner bb) fh aF):=by
 have tree:∀d:j,d.tree=true->d.plain=true->aB w F s ao d v (λ_=>False)->
   ∃bJ,bu w0 F0 X F bJ s ao w/\d.tree=true/\c0 d v/\∃Sn,ai w F d (bR v) Sn/\(∀b,Sn b->b<w.heap.size)/\(∀b,Sn b->¬F b)/\(∀u b,Sn b->¬bJ u b)/\(∀b,Sn b->X b\/w0.heap.size<=b)/\
    (∀u b,bJ u b->S u b)/\(∀b,Sn b->∃u,S u b):=by
  intro d ae _ bz;have bz:=(aB.b4 ae).1 bz;exact⟨S,h,ae,bz.1,_,bz.2,λ_ h=>h.elim,λ_ h=>h.elim,λ_ _ h=>h.elim,λ_ h=>h.elim,λ_ _ h=>h,λ_ h=>h.elim⟩
 cases av with
 |h x q=>
  simp only[cg]at aL;split at aL
  .rename_i e he;split at aL
   .cases aL
   .rename_i al;simp only[some.injEq,Prod.mk.injEq]at aL;obtain⟨rfl,rfl⟩:=aL;have al:e.plain=false:=by simpa using al
    obtain⟨Sn,ej,b0,b3,dK,bL,eZ,cy,dn,dN,ek⟩:=h.take he al;rw[aB]at ay;obtain⟨yD,bF,aQ,a2,bQ⟩:=ay e he al;rw[bL]at aQ;simp only[some.injEq,Prod.mk.injEq,true_and]at aQ;obtain⟨rfl,rfl⟩:=aQ;have Bz:e.tree=true:=by cases e<;>first|rfl|(simp[j.plain]at al)
    refine⟨_,dK,Bz,bQ,ej,by rw[a2];exact eZ,λb J=>h.dD x b (cy b J),λb J=>h.eW x b (cy b J),?_,λb J=>h.cN x b (cy b J),?_,λb J=>⟨x,cy b J⟩,ek⟩
    .intro u b J hu;simp only[fy]at hu;split at hu
     .exact dN b J hu
     .rename_i BA;exact h.ev u x b BA hu (cy b J)
    .intro u b hu;simp only[fy]at hu;split at hu
     .rename_i e;subst e;exact dn b hu
     .exact hu
  .cases aL
 |al x q=>simp[cg]at aL
 |J x q=>simp[cg]at aL
 |fn f c=>simp[cg]at aL
 |hole=>simp[cg]at aL
 |ad sz xs=>simp[j.plain]at nI
 |aD d=>simp[j.plain]at nI
 |_=>
  simp only[cg,some.injEq,Prod.mk.injEq]at aL;obtain⟨rfl,rfl⟩:=aL;obtain⟨bJ,t1,t2,t3,Sn,t4,t5,t6,t7,t8,t9,t10⟩:=tree _ rfl nI ay;exact⟨bJ,t1,t2,t3,Sn,t4,t5,t6,t7,t8,t9,t10,λ_ _ _ h=>h⟩
def loc (s:ah):j->Option (Nat×abI)
 | .h x q=>match j.sub q (s x)with
   |some (.aD _)=>some (x,q++[0])
   |_=>none
 | .al x q=>if j.dG q (s x)then some (x,q)else none
 |_=>none
theorem tI:∀(q:abI) (av d:j) (r:abI),j.sub q av=some d->j.sub (q++r) av=j.sub r d:=by
 intro q;induction q with
 |nil=>intro av d r h;simp[j.sub]at h;subst h;rfl
 |cons k q ih=>
  intro av d r h;cases av with
  |agg ar=>
   simp only[j.sub,cons_append]at h⊢;split at h
   .rename_i x ag;exact ih _ _ _ h
   .cases h
  |tuple ar=>
   simp only[j.sub,cons_append]at h⊢;split at h
   .rename_i x ag;exact ih _ _ _ h
   .cases h
  |ad sz ar=>
   simp only[j.sub,cons_append]at h⊢;split at h
   .rename_i x ag;exact ih _ _ _ h
   .cases h
  |aD x=>
   cases k with
   |zero=>simp only[j.sub,cons_append]at h⊢;exact ih _ _ _ h
   |succ k=>simp[j.sub]at h
  |_=>simp[j.sub]at h
theorem NU:∀(q:abI) (av d:j) (r:abI),j.sub q av=some d->j.dG (q++r) av=(j.dG q av||j.dG r d):=by
 intro q;induction q with
 |nil=>intro av d r h;simp[j.sub]at h;subst h;simp[j.dG]
 |cons k q ih=>
  intro av d r h;cases av with
  |agg ar=>
   simp only[j.sub]at h;split at h
   .rename_i x ag;simp only[j.dG,cons_append,ag];exact ih _ _ r h
   .cases h
  |tuple ar=>
   simp only[j.sub]at h;split at h
   .rename_i x ag;simp only[j.dG,cons_append,ag];exact ih _ _ r h
   .cases h
  |ad sz ar=>simp[j.dG]
  |aD x=>simp[j.dG]
  |_=>simp[j.sub]at h
theorem rM (w:World):∀(q:abI) (av d:j) (cs b0:abL) (a b3:Option (Nat×Nat)) (r:abI),cb w q av cs a=some (d,b0,b3)->cb w (q++r) av cs a=cb w r d b0 b3:=by
 intro q;induction q with
 |nil=>intro av d cs b0 a b3 r h;simp[cb]at h;obtain⟨rfl,rfl,rfl⟩:=h;rfl
 |cons k q ih=>
  intro av d cs b0 a b3 r h;cases av with
  |agg ar=>
   rw[cons_append];rw[cb]at h⊢;split at h
   .rename_i x ag;exact ih _ _ _ _ _ _ _ h
   .cases h
  |tuple ar=>
   rw[cons_append];rw[cb]at h⊢;split at h
   .rename_i x ag;exact ih _ _ _ _ _ _ _ h
   .cases h
  |ad sz ar=>
   rw[cons_append];rw[cb.eq_def]at h⊢;simp only at h⊢;split at h
   .exact ih _ _ _ _ _ _ _ h
   .cases h
  |aD x=>
   cases k with
   |zero=>
    rw[cons_append];rw[cb.eq_def]at h⊢;simp only at h⊢;split at h
    .exact ih _ _ _ _ _ _ _ h
    .cases h
   |succ k=>rw[show cb w ((k+1)::q) (.aD x) cs a=none from rfl]at h;cases h
  |_=>simp[cb]at h
end
def fu.ok (x:fu):Bool:=match x.k with
 | .other=>false
 |_=>true
theorem bI.Ok.info {C:bI} (a_:C.Ok) {t:TypeId} (h:(C.T t).ok=true):
  ∃i d z,C.P.info? t=some i/\i.size=(C.T t).sz/\i.bytes=(C.T t).bytes/\i.zero=some z/\(∀cs,flat (C.T t).zero=some cs->z.cells=cs.toArray)/\C.P.underlying t=some d/\j7 (C.T t).k d:=by
 rcases a_.ty t with⟨e,n,b,z,ag,_⟩|bz
 .rw[ag]at h;simp[fu.ok]at h
 .exact bz
theorem fa {x:fu} {k:lF} (h:x.k=k) (ak:k≠.other):x.ok=true:=by
 unfold fu.ok;rw[h];cases k<;>first|rfl|exact(ak rfl).elim
theorem v8 {d:TypeDesc} {ar:List (TypeId×Nat)} (h:j7 (.struct ar) d):∃gs,d= .struct gs/\gs.toList.map (λg=>(g.type,g.offset))=ar:=by
 cases d<;>simp[j7]at h;exact⟨_,rfl,h⟩
theorem j8 {d:TypeDesc} {e:TypeId} (h:j7 (.slice e) d):d= .slice e:=by
 cases d<;>simp[j7]at h;rw[h]
theorem v_ {d:TypeDesc} {k:IntKind} (h:j7 (.int k) d):d= .int k:=by
 cases d<;>simp[j7]at h;rw[h]
theorem oP {d:TypeDesc} (h:j7 .str d):d= .string:=by
 cases d<;>simp[j7]at h;rfl
theorem BB {d:TypeDesc} (h:j7 .bool d):d= .bool:=by
 cases d<;>simp[j7]at h;rfl
theorem G3 {d:TypeDesc} {e:TypeId} (h:j7 (.ptr e) d):d= .pointer e:=by
 cases d<;>simp[j7]at h;rw[h]
theorem fM {v:Value} (h:Value.ft v=true):bR v=[v]:=by
 cases v<;>first|rfl|(simp[Value.ft]at h)
theorem rN {P:Program} {t:TypeId} {i:TypeInfo} (h:P.info? t=some i) (w:World):(typeInfo t).run P w= .ok i w:=by simp[typeInfo,h]
theorem iz {P:Program} {t:TypeId} {i:TypeInfo} (h:P.info? t=some i) (w:World):(Go.sizeOf t).run P w= .ok i.size w:=by simp[Go.sizeOf,rN h]
theorem rO {P:Program} {t:TypeId} {i:TypeInfo} {z:Value} (h:P.info? t=some i) (bA:i.zero=some z) (w:World):(zeroValue t).run P w= .ok z w:=by simp[zeroValue,rN h,bA]
section
variable {C:bI} {w0 w:World} {F0 X F:Nat->Prop} {S:Nat->Nat->Prop} {s s1:ah} {ao:Nat->Value} {av:j}
def Good (C:bI) (w0:World) (F0 X:Nat->Prop) (ao:Nat->Value) (w:World) (m:Sem Value) (av:j) (s1:ah):Prop:=
 ∃v ax bC aF,m.run C.P w= .ok v ax/\bu w0 F0 X bC aF s1 ao ax/\jN w0 X bC aF s1 ao ax av v
theorem Good.same (h:bu w0 F0 X F S s ao w) {m:Sem Value} {v:Value} (aN:m.run C.P w= .ok v w) (al:av.plain=true) (ay:aB w F s ao av v (λ_=>False)):Good C w0 F0 X ao w m av s:=
 ⟨v,w,F,S,aN,h,.inl ⟨al,ay⟩⟩
theorem wa (_h:bu w0 F0 X F S s ao w) {x:j} {v:Value} (ay:aB w F s ao x v (λ_=>False)) {y:Nat} {q:abI} (hl:loc s x=some (y,q)) {d:j} (ae:j.sub q (s y)=some d):
  j.dG q (s y)=true/\∃b0 b o,v= .pointer (some ⟨b,o,none⟩)/\cb w q (s y) (bR (ao y)) none=some (d,b0,some (b,o)):=by
 cases x with
 |h z yE=>
  simp only[loc]at hl;split at hl
  .rename_i e he;simp only[some.injEq,Prod.mk.injEq]at hl;obtain⟨rfl,rfl⟩:=hl;rw[aB]at ay;obtain⟨b0,a,aQ,a2,bQ⟩:=ay _ he rfl;have gj:e=d:=by
    rw[tI _ _ _ _ he]at ae;simpa [j.sub]using ae
   subst gj;refine⟨by rw[NU _ _ _ _ he];simp[j.dG],?_⟩;have R:Value.ft v=true:=bQ;rw[fM R]at a2;subst a2;have ha:=rM w yE (s z) _ _ _ none a [0] aQ;have ag:=_h.cK z;rw[aB.b4 (fQ he (.inl rfl))]at ag;obtain⟨e4,b3,dj,ej,k0,bU,cc,de,cQ,dT⟩:=ctx yE (s z) (bR (ao z)) (S z) none _ ag.2 he;rw[k0]at aQ;simp only[some.injEq,Prod.mk.injEq,true_and]at aQ;obtain⟨rfl,rfl⟩:=aQ;rw[ai]at cQ;obtain⟨b,cur,aV,fr,cS,a1,_⟩:=cQ;simp only[cons.injEq,and_true]at a1;subst a1;exact⟨_,b,0,rfl,by rw[ha];rfl⟩
  .cases hl
 |al z yE=>
  simp only[loc]at hl;split at hl
  .rename_i aj;simp only[some.injEq,Prod.mk.injEq]at hl;obtain⟨rfl,rfl⟩:=hl;rw[aB]at ay;obtain⟨b0,b,o,aQ,a2⟩:=ay _ ae aj;exact⟨aj,b0,b,o,a2,aQ⟩
  .cases hl
 |_=>simp[loc]at hl
def hb (C:bI) (s:ah) (T:TypeId) (x:j) (k:Nat):Option j:=
 match(C.T T).k with
 | .struct ar=>match ar[k]? with
   |some (iA,off)=>if(C.T iA).ok=true/\(C.T iA).sz≠0 then
     match x with
     | .ref (.agg ds)=>match ds[k]? with
       |some d=>if j.c6 (ds.take k)=off then some (.ref d)else none
       |none=>none
     | .J y o=>if(s y).plain then none else some (.J y (o+off))
     |x=>match loc s x with
      |some (y,q)=>match j.sub q (s y)with
       |some (.agg ds)=>if k<ds.length/\j.c6 (ds.take k)=off then some (.al y (q++[k]))else none
       |_=>none
      |none=>none
    else none
   |none=>none
 |_=>none
theorem Rd.BC {w:World} {b o:Nat} {bD dz bH:abL} (h:Rd w b o (bD++(dz++bH))):Rd w b (o+bD.length) dz:=by
 intro au c bN;have cB:au<dz.length:=(List.getElem?_eq_some_iff.1 bN).1;have:=h (bD.length+au) c (by rw[getElem?_append_right (by omega),getElem?_append_left (by omega),<-bN];congr 1;omega);rw[Nat.add_assoc];exact this
theorem BD (a_:C.Ok) {T iA:TypeId} {ar:List (TypeId×Nat)} {k off:Nat} (ak:(C.T T).k= .struct ar) (a6:ar[k]? =some (iA,off)) (R:(C.T iA).ok=true) (U:(C.T iA).sz≠0) (b o:Nat) (w:World):
  (Instr.fieldAt T (.pointer (some ⟨b,o,none⟩)) k).run C.P w= .ok (.pointer (some ⟨b,o+off,none⟩)) w:=by
 obtain⟨i,d,z,aK,aV,a1,b6,cH,bT,bK⟩:=a_.info (fa ak (by simp));rw[ak]at bK;obtain⟨gs,rfl,hY⟩:=v8 bK;obtain⟨l9,bb,mV,f1,f2,f3,f4,f5,f6,f7⟩:=a_.info R;have bm:∃g,gs[k]? =some g/\g.type=iA/\g.offset=off:=by
  rw[<-hY,getElem?_map]at a6;simp only[map_eq_some_iff,Prod.mk.injEq]at a6;obtain⟨g,R,U,aA⟩:=a6;exact⟨g,by simpa using R,U,aA⟩
 obtain⟨g,aQ,rfl,rfl⟩:=bm;simp[Instr.fieldAt,run_underlying bT,aQ,Instr.sureAddr,fieldPlace,iz f1,f2,U,Addr.add_lit]
theorem NV (a_:C.Ok) (h:bu w0 F0 X F S s ao w) {T:TypeId} {x:j} {v:Value} {k:Nat} (ag:x.plain=true) (ay:aB w F s ao x v (λ_=>False)) (he:hb C s T x k=some av):
  Good C w0 F0 X ao w (Instr.fieldAt T v k) av s:=by
 unfold hb at he;split at he
 .rename_i ar ak;split at he
  .rename_i iA off a6;split at he
   .rename_i tJ;split at he
    .rename_i ds;split at he
     .rename_i d ae;split at he
      .rename_i oQ;simp only[some.injEq]at he;subst he;have jO:=(aB.b4 rfl).1 ay;rw[ai]at jO;obtain⟨I,b,o,cX,R,U,aA,aU⟩:=jO;rw[fM I]at R;simp only[cons.injEq,and_true]at R;subst R;rw[ai]at aU;obtain⟨bD,dz,bH,bJ,fJ,rfl,eN,dX,eG,fY,dw,h8⟩:=aS.pick ds _ _ k d aU ae;refine Good.same h (BD a_ ak a6 tJ.1 tJ.2 b o w) rfl ((aB.b4 rfl).2 ⟨rfl,?_⟩);rw[ai];refine⟨b,o+off,dz,rfl,U,?_,ai.mono (λ_ h=>h) _ _ _ _ (λb J=>eG b J) dw⟩;rw[<-oQ,<-eN];exact aA.BC
      .cases he
     .cases he
    .rename_i y o;split at he
     .cases he
     .rename_i al;simp only[some.injEq]at he;subst he;rw[aB]at ay;obtain⟨b,cur,e,fr,rfl,U,aA,aU⟩:=ay (by simpa using al);refine Good.same h (BD a_ ak a6 tJ.1 tJ.2 b o w) rfl ?_;rw[aB];exact λ_=>⟨b,cur,e,fr,rfl,U,aA,aU⟩
    .rename_i x _ _;split at he
     .rename_i y q hl;split at he
      .rename_i ds ae;split at he
       .rename_i oQ;simp only[some.injEq]at he;subst he;obtain⟨aj,b0,b,o,rfl,ha⟩:=wa h ay hl ae;refine Good.same h (BD a_ ak a6 tJ.1 tJ.2 b o w) rfl ?_;rw[aB];intro d2 gU rP;rw[rM w q _ _ _ _ _ _ [k] ha];rw[tI _ _ _ _ ae]at gU;have nJ:∃d3,ds[k]? =some d3:=⟨_,getElem?_eq_getElem oQ.1⟩
        obtain⟨d3,wb⟩:=nJ;simp only[j.sub,wb,some.injEq]at gU;subst gU;simp only[cb,wb];refine⟨(b0.drop off).take d3.wd,b,o+off,?_,rfl⟩;rw[oQ.2];rfl
       .cases he
      .cases he
     .cases he
   .cases he
  .cases he
 .cases he
def iP (C:bI) (s:ah) (T:TypeId) (x i:j):Option j:=
 match(C.T T).k,i with
 | .slice e,.int _ n=>if 0<=n/\(C.T e).ok=true then
   match x with
   | .slice xs=>match xs[n.toNat]? with
     |some d=>if d.wd=(C.T e).sz then some (.ref d)else none
     |none=>none
   | .h y q=>match j.sub q (s y)with
     |some (.ad sz xs)=>if n.toNat<xs.length/\sz=(C.T e).sz then some (.al y (q++[n.toNat]))else none
     |_=>none
   |_=>none
   else none
 |_,_=>none
theorem G4 (a_:C.Ok) {T e:TypeId} (ak:(C.T T).k= .slice e) (he:(C.T e).ok=true) (b o len cap:Nat) (k:IntKind) (n:Nat) (a7:n<len) (w:World):
  (Instr.indexAt T (.slice (some ⟨b,o,none⟩) len cap) (.int k n)).run C.P w= .ok (.pointer (some ⟨b,o+n*(C.T e).sz,none⟩)) w:=by
 obtain⟨i,d,z,aK,aV,a1,b6,cH,bT,bK⟩:=a_.info (fa ak (by simp));rw[ak]at bK;have:=j8 bK;subst this;obtain⟨l9,bb,mV,f1,f2,f3,f4,f5,f6,f7⟩:=a_.info he;simp[Instr.indexAt,run_underlying bT,asIntOf,a7,iz f1,f2,Addr.add_lit]
theorem NW (a_:C.Ok) (h:bu w0 F0 X F S s ao w) {T:TypeId} {x i:j} {v mW:Value} (ay:aB w F s ao x v (λ_=>False)) (NX:aB w F s ao i mW (λ_=>False))
  (he:iP C s T x i=some av):Good C w0 F0 X ao w (Instr.indexAt T v mW) av s:=by
 unfold iP at he;split at he
 .rename_i e k n ak;have BE:=(aB.b4 rfl).1 NX;rw[ai,fM BE.1]at BE;have:mW= .int k n:=by simpa using BE.2
  subst this;split at he
  .rename_i a7;obtain⟨n,rfl⟩:=Int.eq_ofNat_of_zero_le a7.1;simp only[Int.toNat_natCast]at he;split at he
   .rename_i xs;split at he
    .rename_i d ae;split at he
     .rename_i hw;simp only[some.injEq]at he;subst he;have jO:=(aB.b4 rfl).1 ay;rw[ai,fM jO.1]at jO;obtain⟨I,⟨rfl,_⟩|⟨b,o,cap,cX,sz,R,U,aA,aU,bt,b5,cd⟩⟩:=jO
      .simp at ae
      .simp only[cons.injEq,and_true]at R;subst R;have cB:n<xs.length:=(List.getElem?_eq_some_iff.1 ae).1;obtain⟨bD,dz,bH,bJ,fJ,rfl,eN,dX,eG,fY,dw,h8⟩:=aS.pick xs _ _ n d cd ae;refine Good.same h (G4 a_ ak a7.2 b o _ _ k n cB w) rfl ((aB.b4 rfl).2 ⟨rfl,?_⟩);rw[ai];refine⟨b,_,dz,rfl,U,?_,ai.mono (λ_ h=>h) _ _ _ _ (λb J=>eG b J) dw⟩;have NY:=bt d (mem_of_getElem? ae);have:n*(C.T e).sz=bD.length:=by
        rw[eN,pP _ (λd ae=>bt d (mem_of_mem_take ae)),length_take,Nat.min_eq_left (by omega),<-hw,NY]
       rw[this];exact b5.BC
     .cases he
    .cases he
   .rename_i y q;split at he
    .rename_i sz xs ae;split at he
     .rename_i hw;simp only[some.injEq]at he;subst he;rw[aB]at ay;obtain⟨b0,a,aQ,a2,bQ⟩:=ay _ ae rfl;have I:Value.ft v=true:=bQ;rw[fM I]at a2;subst a2;have ag:=h.cK y;rw[aB.b4 (fQ ae (.inl rfl))]at ag;obtain⟨e4,b3,dj,ej,k0,bU,cc,de,cQ,dT⟩:=ctx q (s y) (bR (ao y)) (S y) none _ ag.2 ae;rw[k0]at aQ;simp only[some.injEq,Prod.mk.injEq,true_and]at aQ;obtain⟨rfl,rfl⟩:=aQ;rw[ai]at cQ;rcases cQ with⟨rfl,_⟩|⟨b,cap,cur,aV,fr,cS,a1,_⟩
      .simp at hw
      .simp only[cons.injEq,and_true]at a1;subst a1;refine Good.same h (G4 a_ ak a7.2 b 0 _ _ k n hw.1 w) rfl ?_;rw[aB];intro d2 gU _;rw[rM w q _ _ _ _ _ _ [n] k0];rw[tI _ _ _ _ ae]at gU;obtain⟨d3,wb⟩:∃d3,xs[n]? =some d3:=⟨_,getElem?_eq_getElem hw.1⟩
       simp only[j.sub,wb,some.injEq]at gU;subst gU;simp only[cb,wb];exact⟨_,b,n*sz,rfl,by simp[hw.2]⟩
     .cases he
    .cases he
   .cases he
  .cases he
 .cases he
end
section
variable {C:bI} {w0 w:World} {F0 X F:Nat->Prop} {S:Nat->Nat->Prop} {s s1:ah} {ao:Nat->Value} {av:j}
theorem G5 (a_:C.Ok) {T:TypeId} {ar:List (TypeId×Nat)} (ak:(C.T T).k= .struct ar) (w:World):(isAgg T).run C.P w= .ok true w:=by
 obtain⟨i,d,z,aK,aV,a1,b6,cH,bT,bK⟩:=a_.info (fa ak (by simp));rw[ak]at bK;obtain⟨gs,rfl,_⟩:=v8 bK;simp[isAgg,run_underlying bT]
def fu.flat (x:fu):Bool:=match x.k with
 | .other=>false
 | .gm _=>false
 | .struct _=>false
 |_=>true
theorem G6 {x:fu} (h:x.flat=true):x.ok=true:=by
 unfold fu.flat at h;unfold fu.ok;revert h;cases x.k<;>simp
theorem BF (a_:C.Ok) {T:TypeId} (ak:(C.T T).flat=true) (w:World):(isAgg T).run C.P w= .ok false w:=by
 obtain⟨i,d,z,aK,aV,a1,b6,cH,bT,bK⟩:=a_.info (G6 ak);have cO:(∀ar,d≠.struct ar)/\(∀n e,d≠.array n e):=by
  clear bT;unfold fu.flat at ak;generalize (C.T T).k=iQ at*;cases iQ<;>cases d<;>simp[j7]at bK ak⊢
 cases d<;>first|exact(cO.1 _ rfl).elim|exact(cO.2 _ _ rfl).elim|simp[isAgg,run_underlying bT]
theorem Rd.one {w:World} {b o:Nat} {v:Value} (h:Rd w b o [v]):w.cell? ⟨b,o,none⟩=some v:=by simpa using h 0 v rfl
theorem G7 {P:Program} {b o:Nat}:∀(cs:abL) (i:Nat) (acc:Array Value),Rd w b (o+i) cs->(loadCellsFrom ⟨b,o,none⟩ i cs.length acc).run P w= .ok (acc++cs.toArray) w
 |[],i,acc,_=>by simp[loadCellsFrom]
 |c::cs,i,acc,h=>by
  have bq:w.cell? ⟨b,o+i,none⟩=some c:=by simpa using h 0 c rfl
  have R:Rd w b (o+(i+1)) cs:=by
   intro au x bN;have:=h (au+1) x (by simpa using bN);rw[<-this];congr 2;omega
  have ih:=G7 (P:=P) cs (i+1) (acc.push c) R;simp only[length_cons,loadCellsFrom,Sem.run_bind,Go.load,Sem.run,Addr.add_lit,bq,Result.andThen];rw[ih];simp
theorem NZ (a_:C.Ok) {T:TypeId} {ar:List (TypeId×Nat)} (ak:(C.T T).k= .struct ar) {b o:Nat} {cs:abL} (h:Rd w b o cs) (hl:cs.length=(C.T T).sz):
  (loadVar T ⟨b,o,none⟩).run C.P w= .ok (.agg cs.toArray) w:=by
 obtain⟨i,d,z,aK,aV,a1,b6,cH,bT,bK⟩:=a_.info (fa ak (by simp));have:=G7 (P:=C.P) (b:=b) (o:=o) cs 0 #[] (by simpa using h);simp only[loadVar,Sem.run_bind,G5 a_ ak,Result.andThen,if_true,iz aK,aV,<-hl,loadCells,this];simp
theorem G8 (a_:C.Ok) {T:TypeId} (ak:(C.T T).flat=true) {b o:Nat} {v:Value} (h:Rd w b o [v]):
  (loadVar T ⟨b,o,none⟩).run C.P w= .ok v w:=by
 simp[loadVar,BF a_ ak,Go.load,Sem.run,h.one]
def fits (C:bI) (T:TypeId) (d:j):Bool:=match(C.T T).k,d with
    | .struct _,.agg ds=>j.c6 ds==(C.T T).sz
    | .struct _,_=>false
    |_,.agg _=>false
    |_,.tuple _=>false
    |_,_=>(C.T T).flat
def yF:abN->Nat->Nat->Option Nat
 |[],_,_=>none
 |d::ds,i,k=>if k=0 then some i else if d.wd<=k then yF ds (i+1) (k-d.wd)else none
def e0 (C:bI) (s:ah) (T:TypeId) (x:j):Option j:=
 match x with
 | .ref d=>if fits C T d=true then some d else none
 | .J y k=>match s y with
   | .agg ds=>if j.dF ds then none else match yF ds 0 k with
     |some i=>match ds[i]? with
      |some d=>if j.c6 (ds.take i)=k/\fits C T d=true then some (if d.plain then d else .h y [i])else none
      |none=>none
     |none=>none
   |_=>none
 |x=>match loc s x with
  |some (y,q)=>match j.sub q (s y)with
   |some d=>if fits C T d=true then some (if d.plain then d else .h y q)else none
   |none=>none
  |none=>none
theorem ai.one {F:Nat->Prop} {d:j} {cs:abL} {S:Nat->Prop} (h:ai w F d cs S) (R:∀ar,d≠.agg ar) (U:∀ar,d≠.tuple ar):∃v,cs=[v]/\Value.ft v=true:=by
 cases d with
 |hole=>rw[ai]at h;obtain⟨v,h,rfl⟩:=h;exact⟨v,rfl,h⟩
 |eF=>rw[ai]at h;obtain⟨v,rfl⟩:=h;exact⟨_,rfl,rfl⟩
 |slice xs=>rw[ai]at h;rcases h with⟨_,a,c,rfl,_⟩|⟨b,o,cap,cX,sz,rfl,_⟩<;>exact⟨_,rfl,rfl⟩
 |ad sz xs=>rw[ai]at h;rcases h with⟨_,_,rfl⟩|⟨b,cap,cur,e,fr,cN,rfl,_⟩<;>exact⟨_,rfl,rfl⟩
 |ref d=>rw[ai]at h;obtain⟨b,o,cX,rfl,_⟩:=h;exact⟨_,rfl,rfl⟩
 |aD d=>rw[ai]at h;obtain⟨b,cur,e,fr,cN,rfl,_⟩:=h;exact⟨_,rfl,rfl⟩
 |agg ar=>exact(R _ rfl).elim
 |tuple ar=>exact(U _ rfl).elim
 |fn _ _=>rw[ai]at h;obtain⟨arr,rfl,_⟩:=h;exact⟨_,rfl,rfl⟩
 |h _ _=>rw[ai]at h;exact h.elim
 |al _ _=>rw[ai]at h;exact h.elim
 |J _ _=>rw[ai]at h;exact h.elim
 |dc _=>rw[ai]at h;obtain⟨v,gQ,rfl⟩:=kq.one h;exact⟨v,rfl,gQ⟩
 |eU _ _=>rw[ai]at h;obtain⟨arr,rfl,_⟩:=h;exact⟨_,rfl,rfl⟩
 |fB _=>rw[ai]at h;obtain⟨b,v,e,fr,rfl,_⟩:=h;exact⟨_,rfl,rfl⟩
 |_=>rw[ai]at h;subst h;exact⟨_,rfl,rfl⟩
theorem j.yG {d:j} (h:d.single=true):(∀ar,d≠.agg ar)/\∀ar,d≠.tuple ar:=
 ⟨λar e=>(by subst e;cases h),λar e=>(by subst e;cases h)⟩
theorem aB.l_ {F:Nat->Prop} {s:ah} {ao:Nat->Value} {d:j} {v:Value} (aL:d.tree=true) (I:d.single=true) (h:ai w F d [v] (λ_=>False)):aB w F s ao d v (λ_=>False):=by
 obtain⟨fh,e,R⟩:=ai.one h (j.yG I).1 (j.yG I).2;have:v=fh:=by simpa using e
 subst this;refine(aB.b4 aL).2 ⟨?_,by rw[fM R];exact h⟩;cases d<;>first|exact R|cases I
mutual
theorem aB.oR {F:Nat->Prop} {s:ah} {ao:Nat->Value}:∀(d:j) (v:Value),d.single=true->ai w F d [v] (λ_=>False)->aB w F s ao d v (λ_=>False)
 | .fn f caps,v,_,h=>by
   rw[ai]at h;obtain⟨arr,R,U,aA⟩:=h;rw[aB];exact⟨arr,by simpa using R,dk.oR caps _ U aA⟩
 | .bool b,v,I,h=>aB.l_ rfl I h
 | .eF,v,I,h=>aB.l_ rfl I h
 | .int k n,v,I,h=>aB.l_ rfl I h
 | .str x,v,I,h=>aB.l_ rfl I h
 | .c8,v,I,h=>aB.l_ rfl I h
 | .aJ,v,I,h=>aB.l_ rfl I h
 | .slice xs,v,I,h=>aB.l_ rfl I h
 | .ad sz xs,v,I,h=>aB.l_ rfl I h
 | .ref d,v,I,h=>aB.l_ rfl I h
 | .aD d,v,I,h=>aB.l_ rfl I h
 | .h _ _,v,_,h=>by rw[ai]at h;exact h.elim
 | .al _ _,v,_,h=>by rw[ai]at h;exact h.elim
 | .J _ _,v,_,h=>by rw[ai]at h;exact h.elim
 | .dc _,v,I,h=>aB.l_ rfl I h
 | .eU _ _,v,I,h=>aB.l_ rfl I h
 | .fB _,v,I,h=>aB.l_ rfl I h
theorem dk.oR {F:Nat->Prop} {s:ah} {ao:Nat->Value}:∀(ds:abN) (vs:abL),(∀d∈ds,d.single=true)->aS w F ds vs (λ_=>False)->dk w F s ao ds vs
 |[],vs,_,h=>by rw[aS]at h;rw[dk];exact h
 |d::ds,vs,I,h=>by
  rw[aS]at h;obtain⟨bD,bH,bJ,cS,rfl,U,aA,aU,bt,_⟩:=h;have ae:=I d (by simp);obtain⟨v,rfl,_⟩:=ai.one U (j.yG ae).1 (j.yG ae).2;rw[dk];exact⟨v,bH,rfl,aB.oR d v ae (ai.mono (λ_ h=>h) _ _ _ _ (λb J=>aU b J) U),dk.oR ds bH (λx ag=>I x (by simp[ag])) (aS.mono (λ_ h=>h) _ _ _ _ (λb J=>bt b J) aA)⟩
end
theorem yH (a_:C.Ok) {T:TypeId} {d:j} {b o:Nat} {cs:abL} {S:Nat->Prop} (h:Rd w b o cs) (ae:ai w F d cs S)
  (gV:fits C T d=true):
  ∃v,(loadVar T ⟨b,o,none⟩).run C.P w= .ok v w/\bR v=cs/\c0 d v:=by
 unfold fits at gV;by_cases I:∃ar,(C.T T).k= .struct ar
 .obtain⟨ar,ak⟩:=I;rw[ak]at gV;cases d with
  |agg ds=>
   simp only[beq_iff_eq]at gV;refine⟨_,NZ a_ ak h ((ai.length _ _ _ ae).trans gV),rfl,⟨_,rfl⟩⟩
  |_=>simp at gV
 .have hZ:(C.T T).flat=true/\(∀ar,d≠.agg ar)/\(∀ar,d≠.tuple ar):=by
   revert gV I;cases ak:(C.T T).k<;>cases d<;>simp
  obtain⟨v,rfl,R⟩:=ai.one ae hZ.2.1 hZ.2.2;refine⟨v,G8 a_ hZ.1 h,fM R,?_⟩;cases d<;>first|exact R|exact(hZ.2.1 _ rfl).elim|exact(hZ.2.2 _ rfl).elim
theorem N0 (a_:C.Ok) {T:TypeId} {d:j} {off:Nat} {arr:Array Value} {bD cs bH:abL} {S:Nat->Prop} (he:arr.toList=bD++(cs++bH)) (br:bD.length=off) (ae:ai w F d cs S)
  (gV:fits C T d=true):
  ∃v,(part T arr off).run C.P w= .ok v w/\bR v=cs/\c0 d v:=by
 unfold fits at gV;by_cases I:∃ar,(C.T T).k= .struct ar
 .obtain⟨ar,ak⟩:=I;rw[ak]at gV;cases d with
  |agg ds=>
   simp only[beq_iff_eq]at gV;obtain⟨i,d,z,aK,aV,a1,b6,cH,bT,bK⟩:=a_.info (fa ak (by simp));have hl:cs.length=(C.T T).sz:=(ai.length _ _ _ ae).trans gV;have ag:(arr.extract off (off+(C.T T).sz)).toList=cs:=by
    rw[Array.toList_extract,he,extract_eq_take_drop,<-hl,<-br,Nat.add_sub_cancel_left,drop_left,take_left]
   refine⟨.agg (arr.extract off (off+(C.T T).sz)),?_,by simpa [bR,gS]using ag,⟨_,rfl⟩⟩;simp[part,G5 a_ ak,iz aK,aV]
  |_=>simp at gV
 .have hZ:(C.T T).flat=true/\(∀ar,d≠.agg ar)/\(∀ar,d≠.tuple ar):=by
   revert gV I;cases ak:(C.T T).k<;>cases d<;>simp
  obtain⟨v,rfl,R⟩:=ai.one ae hZ.2.1 hZ.2.2;have bm:arr[off]? =some v:=by
   rw[<-Array.getElem?_toList,he,<-br,getElem?_append_right (Nat.le_refl _)];simp
  refine⟨v,?_,fM R,?_⟩
  .simp[part,BF a_ hZ.1,bm]
  .cases d<;>first|exact R|exact(hZ.2.1 _ rfl).elim|exact(hZ.2.2 _ rfl).elim
theorem N1 (a_:C.Ok) (h:bu w0 F0 X F S s ao w) {T:TypeId} {x:j} {v:Value} (ay:aB w F s ao x v (λ_=>False)) (he:e0 C s T x=some av):
  Good C w0 F0 X ao w (Instr.loadAt T v) av s:=by
 unfold e0 at he;split at he
 .rename_i d;split at he
  .rename_i gV;simp only[some.injEq]at he;subst he;have jO:=(aB.b4 rfl).1 ay;rw[ai,fM jO.1]at jO;obtain⟨I,b,o,cX,R,U,aA,aU⟩:=jO;simp only[cons.injEq,and_true]at R;subst R;obtain⟨fh,aN,aj,lG⟩:=yH a_ aA aU gV;have dA:(Instr.loadAt T (.pointer (some ⟨b,o,none⟩))).run C.P w= .ok fh w:=by simp[Instr.loadAt,Instr.sureAddr,aN]
   refine⟨fh,w,F,S,dA,h,?_⟩;by_cases aL:d.tree=true
   .exact .inr ⟨aL,lG,λ_=>False,by rw[aj];exact aU,λ_ h=>h.elim,λ_ h=>h.elim,λ_ _ h=>h.elim,λ_ h=>h.elim⟩
   .cases d<;>first|exact(aL rfl).elim|(rw[ai]at aU;exact aU.elim)|exact .inl ⟨rfl,by rw[aB];trivial⟩|(have bt:=aU;rw[ai]at bt;obtain⟨arr,e,_⟩:=bt;rw[<-aj]at e aU;rw[fM (by exact lG)]at aU;exact .inl ⟨rfl,aB.oR _ _ rfl aU⟩)
  .cases he
 .rename_i y k;split at he
  .rename_i ds qE;split at he
   .cases he
   .rename_i N2;split at he
    .rename_i i aw;split at he
     .rename_i d ae;split at he
      .rename_i gV;simp only[some.injEq]at he;have f_:(s y).plain=false:=by rw[qE];simp only[j.plain];simpa using N2
       rw[aB]at ay;obtain⟨b,cur,e,fr,rfl,U,aA,aU⟩:=ay f_;have bh:=h.cK y;rw[qE]at bh;have G9:=((aB.b4 rfl).1 bh).2;rw[ai]at G9;obtain⟨bD,dz,bH,bJ,fJ,ga,eN,dX,eG,fY,dw,h8⟩:=aS.pick ds _ _ i d G9 ae;have gR:Rd w b k dz:=by
        intro au c bN;have cB:au<dz.length:=(List.getElem?_eq_some_iff.1 bN).1;have:cur.toList[k+au]? =some c:=by
         rw[aU,ga,getElem?_append_right (by omega),getElem?_append_left (by omega),<-bN];congr 1;omega
        simp[World.cell?,aA];simpa using this
       obtain⟨fh,aN,aj,lG⟩:=yH a_ gR dw gV.2;have dA:(Instr.loadAt T (.pointer (some ⟨b,k,none⟩))).run C.P w= .ok fh w:=by simp[Instr.loadAt,Instr.sureAddr,aN]
       refine⟨fh,w,F,S,dA,h,?_⟩;split at he
       .rename_i al;subst he;by_cases aL:d.tree=true
        .exact .inl ⟨al,(aB.b4 aL).2 ⟨lG,by rw[aj];exact ai.plain _ _ _ _ al dw⟩⟩
        .cases d<;>first|exact(aL rfl).elim|(rw[ai]at dw;exact dw.elim)|exact .inl ⟨rfl,by rw[aB];trivial⟩|(have bt:=ai.plain _ _ _ (λ_=>False) al dw;rw[<-aj]at bt;rw[fM (by exact lG)]at bt;exact .inl ⟨rfl,aB.oR _ _ rfl bt⟩)
       .subst he;refine .inl ⟨rfl,?_⟩;rw[aB];intro d2 gU _;rw[qE]at gU⊢;simp only[j.sub,ae,some.injEq]at gU;subst gU;refine⟨dz,none,?_,aj,lG⟩;simp only[cb,ae];rw[ga,mQ bD dz bH _ _ eN (ai.length _ _ _ dw)];rfl
      .cases he
     .cases he
    .cases he
  .cases he
 .rename_i x _ _;split at he
  .rename_i y q hl;split at he
   .rename_i d ae;split at he
    .rename_i gV;simp only[some.injEq]at he;obtain⟨i5,b0,b,o,rfl,ha⟩:=wa h ay hl ae;have bh:=h.cK y;rw[aB.b4 (fQ ae (.inr i5))]at bh;obtain⟨e4,b3,dj,ej,k0,bU,cc,de,cQ,dT⟩:=ctx q (s y) (bR (ao y)) (S y) none _ bh.2 ae;rw[k0]at ha;simp only[some.injEq,Prod.mk.injEq,true_and]at ha;obtain⟨rfl,rfl⟩:=ha;have gR:Rd w b o e4:=by
      rcases dT with⟨l,r,aK,aV,_⟩|⟨eI,cur,e,fr,l,r,aK,aV,a1,b6,cH,_⟩
      .simp at aV
      .simp only[some.injEq,Prod.mk.injEq]at aK;obtain⟨rfl,rfl⟩:=aK;intro au c bN;have cB:au<e4.length:=(List.getElem?_eq_some_iff.1 bN).1;have:cur.toList[l.length+au]? =some c:=by
        rw[cH,getElem?_append_right (by omega),getElem?_append_left (by omega),<-bN];congr 1;omega
       simp[World.cell?,a1];simpa using this
     obtain⟨fh,aN,aj,lG⟩:=yH a_ gR cQ gV;have dA:(Instr.loadAt T (.pointer (some ⟨b,o,none⟩))).run C.P w= .ok fh w:=by simp[Instr.loadAt,Instr.sureAddr,aN]
     refine⟨fh,w,F,S,dA,h,?_⟩;split at he
     .rename_i al;subst he;by_cases aL:d.tree=true
      .exact .inl ⟨al,(aB.b4 aL).2 ⟨lG,by rw[aj];exact ai.plain _ _ _ _ al cQ⟩⟩
      .cases d<;>first|exact(aL rfl).elim|(rw[ai]at cQ;exact cQ.elim)|exact .inl ⟨rfl,by rw[aB];trivial⟩|(have bt:=ai.plain _ _ _ (λ_=>False) al cQ;rw[<-aj]at bt;rw[fM (by exact lG)]at bt;exact .inl ⟨rfl,aB.oR _ _ rfl bt⟩)
     .subst he;refine .inl ⟨rfl,?_⟩;rw[aB];intro d2 gU _;rw[ae]at gU;simp only[some.injEq]at gU;subst gU;exact⟨_,_,k0,aj,lG⟩
    .cases he
   .cases he
  .cases he
mutual
theorem ai.pT {F:Nat->Prop}:∀(d:j) (cs:abL) (S:Nat->Prop),ai w F d cs S->∀c∈cs,Value.ft c=true
 | .hole,cs,S,h=>by rw[ai]at h;obtain⟨v,h,rfl⟩:=h;simpa using h
 | .bool _,cs,S,h=>by rw[ai]at h;subst h;simp[Value.ft]
 | .eF,cs,S,h=>by rw[ai]at h;obtain⟨b,rfl⟩:=h;simp[Value.ft]
 | .int _ _,cs,S,h=>by rw[ai]at h;subst h;simp[Value.ft]
 | .str _,cs,S,h=>by rw[ai]at h;subst h;simp[Value.ft]
 | .c8,cs,S,h=>by rw[ai]at h;subst h;simp[Value.ft]
 | .aJ,cs,S,h=>by rw[ai]at h;subst h;simp[Value.ft]
 | .slice xs,cs,S,h=>by
   rw[ai]at h;rcases h with⟨_,a,c,rfl,_⟩|⟨b,o,cap,cX,sz,rfl,_⟩<;>simp[Value.ft]
 | .ad sz xs,cs,S,h=>by
   rw[ai]at h;rcases h with⟨_,_,rfl⟩|⟨b,cap,cur,e,fr,aF,rfl,_⟩<;>simp[Value.ft]
 | .ref d,cs,S,h=>by rw[ai]at h;obtain⟨b,o,cX,rfl,_⟩:=h;simp[Value.ft]
 | .aD d,cs,S,h=>by rw[ai]at h;obtain⟨b,o,cX,_,_,rfl,_⟩:=h;simp[Value.ft]
 | .agg ar,cs,S,h=>by rw[ai]at h;exact aS.pT ar _ _ h
 | .tuple ar,cs,S,h=>by rw[ai]at h;exact aS.pT ar _ _ h
 | .fn _ _,cs,S,h=>by rw[ai]at h;obtain⟨arr,rfl,_⟩:=h;simp[Value.ft]
 | .h _ _,cs,S,h=>by rw[ai]at h;exact h.elim
 | .al _ _,cs,S,h=>by rw[ai]at h;exact h.elim
 | .J _ _,cs,S,h=>by rw[ai]at h;exact h.elim
 | .dc _,cs,S,h=>by rw[ai]at h;obtain⟨v,gQ,rfl⟩:=kq.one h;simpa using gQ
 | .eU _ _,cs,S,h=>by rw[ai]at h;obtain⟨arr,rfl,_⟩:=h;simp[Value.ft]
 | .fB _,cs,S,h=>by rw[ai]at h;obtain⟨b,v,e,fr,rfl,_⟩:=h;simp[Value.ft]
theorem aS.pT {F:Nat->Prop}:∀(ds:abN) (cs:abL) (S:Nat->Prop),aS w F ds cs S->∀c∈cs,Value.ft c=true
 |[],cs,S,h=>by rw[aS]at h;subst h;simp
 |d::ds,cs,S,h=>by
  rw[aS]at h;obtain⟨bD,bH,bJ,cS,rfl,U,aA,_⟩:=h;intro c aj;rcases mem_append.1 aj with aj|aj
  .exact ai.pT d _ _ U c aj
  .exact aS.pT ds _ _ aA c aj
end
theorem wc {P:Program} {b o:Nat} {e:TypeId} {fr:Nat×Nat}:∀(vs:abL) (i:Nat) (cur:Array Value) (w:World) (l m r:abL),w.heap[b]? =some (.cells cur e fr)->j6 fr cur.size->
  cur.toList=l++(m++r)->l.length=o+i->m.length=vs.length->(∀v∈vs,Value.ft v=true)->
  ∃ax,(storeCells ⟨b,o,none⟩ vs i).run P w= .ok () ax/\ax.heap[b]? =some (.cells (l++(vs++r)).toArray e fr)/\(∀c,c≠b->ax.heap[c]? =w.heap[c]?)/\ax.heap.size=w.heap.size/\ax.os=w.os/\ax.tape=w.tape/\Out ax w
 |[],i,cur,w,l,m,r,J,a6,aj,hl,hm,_=>by
  refine⟨w,rfl,?_,λ_ _=>rfl,rfl,rfl,rfl,Out.refl _⟩;have:m=[]:=by simpa using hm
  subst this;rw[J];have:cur=(l++([]++r)).toArray:=by rw[<-aj]
  rw[<-this]
 |v::vs,i,cur,w,l,m,r,J,a6,aj,hl,hm,yI=>by
  obtain⟨x,m,rfl⟩:∃x ed,m=x::ed:=by cases m with
   |nil=>simp at hm
   |cons x m=>exact⟨x,m,rfl⟩
  have hlen:cur.size=(l++(x::m++r)).length:=by rw[<-aj];simp
  have cB:o+i<cur.size:=by rw[hlen];simp;omega
  have yJ:w.cell? ⟨b,o+i,none⟩=some cur[o+i]:=by simp[World.cell?,J,cB]
  have N3:w.frozen? ⟨b,o+i,none⟩=false:=by
   have:=a6 (o+i) cB;simp only[World.frozen?,J];simp only[Bool.and_eq_false_iff,decide_eq_false_iff_not];by_cases R:fr.1<=o+i
   .right;exact λU=>this ⟨R,U⟩
   .left;exact R
  have qF:(w.setCell ⟨b,o+i,none⟩ v).heap[b]? =some (.cells ((l++[v])++(m++r)).toArray e fr):=by
   simp only[World.setCell,Array.getElem?_modify,if_true,J,map_some,isSome_none,Bool.false_eq_true,if_false];congr 2;apply Array.ext';rw[Array.toList_setIfInBounds,aj,<-hl,set_append_right _ _ (Nat.le_refl _)];simp
  have rQ:(store ((⟨b,o,none⟩:Addr).add i) v).run P w= .ok () (w.setCell ⟨b,o+i,none⟩ v):=by
   have R:=yI v (by simp);rw[Addr.add_lit];cases v<;>first|(simp[Value.ft]at R;done)|simp[Go.store,Sem.run,yJ,N3]
  obtain⟨ax,aQ,a2,bQ,c4,dR,gn,gW⟩:=wc (P:=P) (b:=b) (o:=o) vs (i+1) _ (w.setCell ⟨b,o+i,none⟩ v) (l++[v]) m r qF (by
   have:(l++[v]++(m++r)).toArray.size=cur.size:=by rw[hlen];simp
   rw[this];exact a6) (by simp) (by simp;omega) (by simpa using hm) (λu hu=>yI u (by simp[hu]))
  refine⟨ax,?_,by simpa using a2,λc aj=>?_,?_,dR,gn,gW⟩
  .simp only[storeCells,Sem.run_bind,rQ,Result.andThen];exact aQ
  .rw[bQ c aj];simp only[World.setCell,Array.getElem?_modify];rw[if_neg (λe=>aj e.symm)]
  .rw[c4];simp[World.setCell]
theorem rR {d:j} {v:Value} (h:c0 d v) (ae:∀ar,d≠.tuple ar):v.cells=(bR v).toArray:=by
 cases d with
 |tuple ar=>exact(ae _ rfl).elim
 |agg ar=>obtain⟨arr,rfl⟩:=h;simp[Value.cells,bR,gS]
 |_=>
  have R:Value.ft v=true:=h;rw[fM R];cases v<;>first|rfl|(simp[Value.ft]at R)
def gp (C:bI) (s:ah) (T:TypeId) (x y:j):Option ah:=
 match cg s y,loc s x with
 |some (d,s1),some (z,q)=>match d with
  | .tuple _=>none
  |d=>match j.sub q (s z)with
   |some d0=>if d.wd=d0.wd/\d.wd=(C.T T).sz/\(C.T T).ok=true/\y.owner≠some z then some (ck (e_ z s1) z (j.put q d (s z)))else none
   |none=>none
 |_,_=>none
theorem G_ {s s1:ah} {y d:j} {z:Nat} (h:cg s y=some (d,s1)) (bA:(s z).tree=true) (bh:y.owner≠some z):s1 z=s z:=by
 cases y with
 |h x q=>
  simp only[cg]at h;split at h
  .split at h
   .cases h
   .simp only[some.injEq,Prod.mk.injEq]at h;obtain⟨_,rfl⟩:=h;rw[hX _ _ (λe=>bh (by rw[j.owner,e]))];exact Bt bA
  .cases h
 |al x q=>simp[cg]at h
 |J x q=>simp[cg]at h
 |fn f c=>simp[cg]at h
 |hole=>simp[cg]at h
 |_=>simp only[cg,some.injEq,Prod.mk.injEq]at h;rw[h.2]
theorem N4 (a_:C.Ok) (h:bu w0 F0 X F S s ao w) {T:TypeId} {x y:j} {fD fE:Value} (rS:aB w F s ao x fD (λ_=>False)) (bh:y.plain=true) (we:aB w F s ao y fE (λ_=>False))
  {s2:ah} (he:gp C s T x y=some s2):
  ∃ax aF,(Instr.storeAt T fD fE).run C.P w= .ok () ax/\bu w0 F0 X F aF s2 ao ax:=by
 unfold gp at he;split at he
 .rename_i d s1 z q aL hl;have key:∀d:j,(∀ar,d≠.tuple ar)->cg s y=some (d,s1)->(match j.sub q (s z)with
   |some d0=>if d.wd=d0.wd/\d.wd=(C.T T).sz/\(C.T T).ok=true/\y.owner≠some z then some (ck (e_ z s1) z (j.put q d (s z)))else none
   |none=>none)=some s2->∃ax aF,(Instr.storeAt T fD fE).run C.P w= .ok () ax/\bu w0 F0 X F aF s2 ao ax:=by
   intro d ma aL he;split at he
   .rename_i d0 hc;split at he
    .rename_i nK;obtain⟨R,U,aA,aU⟩:=nK;simp only[some.injEq]at he;subst he;obtain⟨i5,b0,b,o,rfl,ha⟩:=wa h rS hl hc;obtain⟨bJ,e9,aQ,a2,Sn,bQ,c4,dR,gn,gW,j9⟩:=mU h bh we aL;have cT:s1 z=s z:=G_ aL (fQ hc (.inr i5)) aU;rw[<-cT]at hc i5 ha⊢;obtain⟨e4,eI,l,r,cur,e,fr,k0,bU,cc,de,cQ⟩:=e9.store hc i5 bQ R c4 dR gn gW;rw[ha]at k0;simp only[some.injEq,Prod.mk.injEq,true_and]at k0;obtain⟨rfl,rfl,rfl⟩:=k0;obtain⟨i,d,mV,aK,aV,a1,b6,cH,bT,bK⟩:=a_.info aA;have hlen:=ai.length _ _ _ bQ;have hm:b0.length=(bR fE).length:=by
      have nL:=e9.cK z;rw[aB.b4 (fQ hc (.inr i5))]at nL;obtain⟨_,_,_,_,h7,_,_,_,i6,_⟩:=ctx q (s1 z) (bR (ao z)) (bJ z) none _ nL.2 hc;rw[ha]at h7;simp only[some.injEq,Prod.mk.injEq,true_and]at h7;rw[h7.1,ai.length _ _ _ i6,hlen,R]
     obtain⟨ax,ee,fb,gy,jm,jP,kU,mb⟩:=wc (P:=C.P) (b:=b) (o:=l.length) (e:=e) (fr:=fr) (bR fE) 0 cur w l b0 r bU de cc rfl hm (ai.pT _ _ _ bQ);obtain⟨aF,dT⟩:=cQ ax fb gy jm jP kU mb;refine⟨ax,aF,?_,dT⟩;have kV:=rR a2 ma;simp[Instr.storeAt,Instr.sureAddr,storeVar,iz aK,aV,kV,hlen,U,ee]
    .cases he
   .cases he
  split at he
  .cases he
  .rename_i ma;exact key _ (λar e=>ma ar e) aL he
 .cases he
theorem bu.alloc (h:bu w0 F0 X F S s ao w) {d:j} {cs:abL} {Sn:Nat->Prop} (e:TypeId) (ay:ai w F d cs Sn)
  (cB:∀b,Sn b->b<w.heap.size) (aY:∀b,Sn b->¬F b) (bg:∀u b,Sn b->¬S u b) (bq:∀b,Sn b->X b\/w0.heap.size<=b):
  bu w0 F0 X F S s ao (w.alloc (.cells cs.toArray e))/\
   jN w0 X F S s ao (w.alloc (.cells cs.toArray e)) (.aD d) (.pointer (some ⟨w.heap.size,0,none⟩)):=by
 have hold:∀b,b<w.heap.size->(w.alloc (.cells cs.toArray e)).heap[b]? =w.heap[b]? :=by
  intro b J;show(w.heap.push _)[b]? =_;rw[Array.getElem?_push,if_neg (by omega)]
 refine⟨h.grow hold (by simp) rfl rfl ⟨rfl,λ_=>Nat.le_refl _⟩,.inr ⟨rfl,rfl,λb=>b=w.heap.size\/Sn b,?_,?_,?_,?_,?_⟩⟩
 .rw[ai];refine⟨w.heap.size,cs.toArray,e,(0,0),Sn,rfl,.inl rfl,?_,?_,?_,λc aj=>.inr aj,λaj=>Nat.lt_irrefl _ (cB _ aj)⟩
  .show(w.heap.push _)[_]? =_;simp
  .intro o _ ⟨_,U⟩;exact absurd U (not_lt_zero _)
  .exact ai.frame (λb J=>hold b (h.eu b J)) _ _ _ (λb J=>hold b (cB b J)) ay
 .rintro b (rfl|J)
  .simp
  .have:=cB b J;simp;omega
 .rintro b (rfl|J) pU
  .exact Nat.lt_irrefl _ (h.eu _ pU)
  .exact aY b J pU
 .rintro u b (rfl|J) hu
  .exact Nat.lt_irrefl _ (h.dD _ _ hu)
  .exact bg u b J hu
 .rintro b (rfl|J)
  .exact .inr h.size
  .exact bq b J
def kW (C:bI) (T:TypeId):Option j:=if(C.T T).ok=true then(match(C.T T).k,(C.T T).zero with
    | .gm e,.agg [.c8,.aJ]=>some (.dc (.gP T e []))
    | .gm _,_=>none
    |_,z=>(match flat z with|some _=>some (.aD z)|none=>none))else none
theorem N5 (a_:C.Ok) (h:bu w0 F0 X F S s ao w) {T:TypeId} (he:kW C T=some av):Good C w0 F0 X ao w (Instr.alloc T true (.tuple #[])) av s:=by
 unfold kW at he;split at he
 .rename_i ak;split at he
  .rename_i aah jQ N6;simp only[some.injEq]at he;subst he;obtain⟨i,d,z,aK,aV,a1,b6,cH,bT,bK⟩:=a_.info ak;have bA:=cH [.pointer none,.slice none 0 0] (by rw[N6];rfl);have hold:∀b,b<w.heap.size->(w.alloc (.cells #[.pointer none,.slice none 0 0] T)).heap[b]? =w.heap[b]? :=by
    intro b J;show(w.heap.push _)[b]? =_;rw[Array.getElem?_push,if_neg (by omega)]
   refine⟨.pointer (some ⟨w.heap.size,0,none⟩),w.alloc (.cells #[.pointer none,.slice none 0 0] T),F,S,?_,h.grow hold (by simp) rfl rfl ⟨rfl,λ_=>Nat.le_refl _⟩,.inr ⟨rfl,rfl,λb=>b=w.heap.size,?_,?_,?_,?_,?_⟩⟩
   .simp[Instr.alloc,rO aK b6,newVar,newRow,newObj,Sem.run,bA]
   .rw[ai];refine⟨w.heap.size,.pointer none,.slice none 0 0,rfl,rfl,?_,.inl rfl,.inl ⟨rfl,rfl⟩⟩;show(w.heap.push _)[_]? =_;simp
   .rintro b rfl;simp
   .rintro b rfl pU;exact Nat.lt_irrefl _ (h.eu _ pU)
   .rintro u b rfl hu;exact Nat.lt_irrefl _ (h.dD _ _ hu)
   .rintro b rfl;exact .inr h.size
  .cases he
  split at he
  .rename_i cs ga;simp only[some.injEq]at he;subst he;obtain⟨i,d,z,aK,aV,a1,b6,cH,bT,bK⟩:=a_.info ak;have bA:=cH cs ga;obtain⟨dK,bL⟩:=h.alloc (d:=(C.T T).zero) T ((ai.flat _).1 _ cs (λ_=>False) (Nat.le_refl _) ga) (λ_ h=>h.elim) (λ_ h=>h.elim) (λ_ _ h=>h.elim) (λ_ h=>h.elim);refine⟨_,_,F,S,?_,dK,bL⟩;simp[Instr.alloc,rO aK b6,newVar,newRow,newObj,Sem.run,bA]
  .cases he
 .cases he
def gK (s:ah) (x:j):Option (j×ah):=match cg s x with
 |some (.tuple _,_)=>none
 |some (d,s1)=>some (.aD d,s1)
 |none=>none
def yK:j->Bool
 | .agg ds=> !j.dF ds
 | .eU _ _=>true
 |_=>false
theorem Ha {d:j} (h:yK d=true):d.plain=false/\∀ar,d≠.tuple ar:=by
 cases d with
 |agg ds=>simp only[yK,Bool.not_eq_true']at h;exact⟨by simp only[j.plain];exact h,λ_ e=>by cases e⟩
 |eU f c=>exact⟨rfl,λ_ e=>by cases e⟩
 |_=>cases h
def h0 (s:ah) (x:j):Option (j×ah):=match x with
 | .h y q=>if q=[]/\yK (s y)=true then some (.J y 0,s)else none
 | .fn f caps=>if caps.all (λd=>d.single&&(d.tree&&d.plain))=true then some (.ref (.fn f caps),s)else none
 |_=>none
theorem aS.Hb {w:World} {F bC:Nat->Prop} {s:ah} {ao:Nat->Value} (aY:∀b,F b->bC b):∀(ds:abN) (vs:abL),(∀d∈ds,d.single=true/\d.tree=true/\d.plain=true)->dk w F s ao ds vs->aS w bC ds vs (λ_=>False)
 |[],vs,_,h=>by rw[dk]at h;rw[aS];exact h
 |d::ds,vs,I,h=>by
  rw[dk]at h;obtain⟨v,iw,rfl,R,U⟩:=h;obtain⟨d1,d2,d3⟩:=I d (by simp);have aA:=(aB.b4 d2).1 R;have br:Value.ft v=true:=by
   have:=aA.1;cases d<;>first|exact this|cases d1
  have aU:=aA.2;rw[fM br]at aU;rw[aS];exact⟨[v],iw,λ_=>False,λ_=>False,rfl,ai.mono aY _ _ _ _ (λ_ h=>h) aU,aS.Hb aY ds iw (λx ag=>I x (by simp[ag])) U,λ_ h=>h,λ_ h=>h,λ_ h=>h.elim⟩
theorem N7 {T:TypeId} {v:Value} (h:bu w0 F0 X F S s ao w):bu w0 F0 X (λb=>F b\/b=w.heap.size) S s ao (w.alloc (.cells (bR v).toArray T)):=by
 have hold:∀b,b<w.heap.size->(w.alloc (.cells (bR v).toArray T)).heap[b]? =w.heap[b]? :=by
  intro b J;show(w.heap.push _)[b]? =_;rw[Array.getElem?_push,if_neg (by omega)]
 have R:=h.grow hold (by simp) rfl rfl ⟨rfl,λ_=>Nat.le_refl _⟩;exact {
  fR:=λb J=>.inl (R.fR b J)
  gl:=λb J=>by
   rcases J with J|rfl
   .exact R.gl b J
   .exact .inr (.inr h.size)
  eu:=λb J=>by
   rcases J with J|rfl
   .exact R.eu b J
   .simp
  dD:=R.dD
  eW:=λt b J a6=>by
   rcases a6 with a6|rfl
   .exact R.eW t b J a6
   .exact absurd (h.dD t _ J) (Nat.lt_irrefl _)
  ev:=R.ev
  cN:=R.cN
  cK:=λt=>aB.frame (λ_ _=>rfl) (λb J=>.inl J) (λ_ _ _=>rfl) R.cK _ _ _ (λ_ _=>rfl) (R.cK t)
  old:=R.old
  size:=R.size
  os:=R.os
  tape:=R.tape
  output:=R.output
  fL:=h.fL}
theorem N8 (h:bu w0 F0 X F S s ao w) {T:TypeId} {x:j} {v:Value} (ay:aB w F s ao x v (λ_=>False)) (he:h0 s x=some (av,s1)):
  Good C w0 F0 X ao w (Instr.box T v) av s1:=by
 unfold h0 at he;split at he
 .rename_i y q;split at he
  .rename_i BG;obtain⟨rfl,Hc⟩:=BG
   .simp only[some.injEq,Prod.mk.injEq]at he;obtain⟨rfl,rfl⟩:=he;rw[aB]at ay;obtain⟨b0,a,aQ,a2,bQ⟩:=ay (s y) (by simp only[j.sub]) (Ha Hc).1;simp only[cb,some.injEq,Prod.mk.injEq,true_and]at aQ;have kV:=rR bQ (Ha Hc).2;have hold:∀b,b<w.heap.size->(w.alloc (.cells (bR v).toArray T)).heap[b]? =w.heap[b]? :=by
     intro b J;show(w.heap.push _)[b]? =_;rw[Array.getElem?_push,if_neg (by omega)]
    refine⟨.pointer (some ⟨w.heap.size,0,none⟩),w.alloc (.cells (bR v).toArray T),λb=>F b\/b=w.heap.size,S,by simp[Instr.box,newVar,newRow,newObj,Sem.run,kV],?_,.inl ⟨rfl,?_⟩⟩
    .have R:=h.grow hold (by simp) rfl rfl ⟨rfl,λ_=>Nat.le_refl _⟩;exact {
      fR:=λb J=>.inl (R.fR b J)
      gl:=λb J=>by
       rcases J with J|rfl
       .exact R.gl b J
       .exact .inr (.inr h.size)
      eu:=λb J=>by
       rcases J with J|rfl
       .exact R.eu b J
       .simp
      dD:=R.dD
      eW:=λt b J a6=>by
       rcases a6 with a6|rfl
       .exact R.eW t b J a6
       .exact absurd (h.dD t _ J) (Nat.lt_irrefl _)
      ev:=R.ev
      cN:=R.cN
      cK:=λt=>aB.frame (λ_ _=>rfl) (λb J=>.inl J) (λ_ _ _=>rfl) R.cK _ _ _ (λ_ _=>rfl) (R.cK t)
      old:=R.old
      size:=R.size
      os:=R.os
      tape:=R.tape
      output:=R.output
      fL:=h.fL}
    .rw[aB];intro _;refine⟨w.heap.size,(bR v).toArray,T,(0,0),rfl,.inr rfl,?_,?_⟩
     .show(w.heap.push _)[_]? =_;simp
     .rw[aQ.1,<-a2]
  .cases he
 .rename_i f caps;split at he
  .rename_i aj;simp only[some.injEq,Prod.mk.injEq]at he;obtain⟨rfl,rfl⟩:=he;have ga:∀d∈caps,d.single=true/\d.tree=true/\d.plain=true:=λd ae=>by
    have:=List.all_eq_true.1 aj d ae;simpa only[Bool.and_eq_true]using this
   rw[aB]at ay;obtain⟨arr,rfl,ay⟩:=ay;have kV:=rR (d:=.fn f caps) (v:=.func (.func f) #[] arr) rfl (λar e=>by cases e);have bm:=N7 (T:=T) (v:=.func (.func f) #[] arr) h;refine⟨.pointer (some ⟨w.heap.size,0,none⟩),w.alloc (.cells (bR (.func (.func f) #[] arr)).toArray T),λb=>F b\/b=w.heap.size,S,by simp[Instr.box,newVar,newRow,newObj,Sem.run,kV],bm,.inl ⟨rfl,?_⟩⟩;refine(aB.b4 rfl).2 ⟨rfl,?_⟩;rw[ai];refine⟨w.heap.size,0,[.func (.func f) #[] arr],rfl,.inr rfl,?_,?_⟩
   .have lD:(w.alloc (.cells (bR (.func (.func f) #[] arr)).toArray T)).heap[w.heap.size]? =some (.cells (bR (.func (.func f) #[] arr)).toArray T (0,0)):=by
     show(w.heap.push _)[_]? =_;simp
    intro au c bN;cases au with
    |zero=>
     simp only[getElem?_cons_zero,some.injEq]at bN;subst bN;have e:bR (.func (.func f) #[] arr)=[.func (.func f) #[] arr]:=fM rfl;unfold World.cell?;show(match(w.alloc (.cells (bR (.func (.func f) #[] arr)).toArray T)).heap[w.heap.size]? with
      |some (.cells c _ _)=>c[0+0]?
      |_=>none)=_
     rw[lD,e];rfl
    |succ au=>simp at bN
   .rw[ai];refine⟨arr,rfl,λd ae=>(ga d ae).1,?_⟩;have bt:=aS.Hb (bC:=F) (λb J=>J) caps arr.toList ga ay;refine aS.mono (F:=F) (λb J=>.inl J) caps _ _ _ (λ_ h=>h) (aS.frame (λb J=>?_) caps _ _ (λ_ h=>h.elim) bt);have cB:=h.eu b J;show(w.heap.push _)[b]? =_;rw[Array.getElem?_push,if_neg (by omega)]
  .cases he
 .cases he
theorem N9 (h:bu w0 F0 X F S s ao w) {T:TypeId} {x:j} {v:Value} (ag:x.plain=true) (ay:aB w F s ao x v (λ_=>False)) (he:gK s x=some (av,s1)):
  Good C w0 F0 X ao w (Instr.box T v) av s1:=by
 unfold gK at he;split at he
 .cases he
 .rename_i d s2 ma aL;simp only[some.injEq,Prod.mk.injEq]at he;obtain⟨rfl,rfl⟩:=he;obtain⟨bJ,e9,aQ,a2,Sn,bQ,c4,dR,gn,gW,j9⟩:=mU h ag ay aL;obtain⟨dK,bL⟩:=e9.alloc T bQ c4 dR gn gW;refine⟨_,_,F,bJ,?_,dK,bL⟩;have kV:=rR a2 (λar e=>ma ar e);simp[Instr.box,newVar,newRow,newObj,Sem.run,kV]
 .cases he
end
end Go.cW
