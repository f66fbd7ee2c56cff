/- Part of a proof that a law returns true for every input. No condition. -/
import Derived.Test.YtndfcecbamffaaaGreatFwB
import Derived.Laws.Entries
namespace Go.c3
open List Option Go.IntKind Nat Or
inductive mj where
 |int (k:IntKind)
 |bool
 |str
 |ptr (e:TypeId)
 |slice (e:TypeId)
 |struct (ay:List (TypeId×Nat))
 |fn
 |fl (e:TypeId)
 |map (k e:TypeId)
 |other
structure fW where
 k:mj
 sz:Nat
 bytes:Nat
 zero:I
mutual
def flat:I->Option aff
 | .bool b=>some [.bool b]
 | .int k n=>some [.int k n]
 | .str s=>some [.string ⟨⟨s⟩⟩]
 | .db=>some [.pointer none]
 | .aN=>some [.slice none 0 0]
 | .agg ay=>qt ay
 | .dm .wz=>some [.map none]
 |_=>none
def qt:afh->Option aff
 |[]=>some []
 |d::ds=>match flat d,qt ds with
  |some a,some b=>some (a++b)
  |_,_=>none
end
theorem ao.flat {w:World} {F:Nat->Prop}:∀n,(∀(d:I) (cs:aff) (S:Nat->Prop),SizeOf.sizeOf d<=n->flat d=some cs->ao w F d cs S)/\
  (∀(ds:afh) (cs:aff) (S:Nat->Prop),SizeOf.sizeOf ds<=n->qt ds=some cs->aX w F ds cs S):=by
 intro n;induction n with
 |zero=>exact⟨λd _ _ bF=>by cases d<;>simp at bF<;>omega,λds _ _ bF=>by cases ds<;>simp at bF<;>omega⟩
 |succ n ih=>
  refine⟨λd cs S bF h=>?_,λds cs S bF h=>?_⟩
  .cases d with
   |agg ay=>rw[ao];exact ih.2 ay cs S (by simp at bF;omega) (by simpa [c3.flat]using h)
   |bool b=>simp[c3.flat]at h;subst h;rw[ao]
   |int k n=>simp[c3.flat]at h;subst h;rw[ao]
   |str s=>simp[c3.flat]at h;subst h;rw[ao]
   |db=>simp[c3.flat]at h;subst h;rw[ao]
   |aN=>simp[c3.flat]at h;subst h;rw[ao]
   |dm o=>cases o<;>simp[c3.flat]at h;subst h;rw[ao];rfl
   |_=>simp[c3.flat]at h
  .cases ds with
   |nil=>simp[qt]at h;subst h;rw[aX]
   |cons d ds=>
    simp only[qt]at h;split at h
    .rename_i a b b8 U;simp at h;subst h;simp at bF;rw[aX];exact⟨a,b,λ_=>False,λ_=>False,rfl,ih.1 d a _ (by omega) b8,ih.2 ds b _ (by omega) U,λ_ h=>h.elim,λ_ h=>h.elim,λ_ h=>h.elim⟩
    .cases h
def kN:mj->TypeDesc->Prop
 | .int k,.int c8=>k=c8
 | .bool,.bool=>True
 | .str,.string=>True
 | .ptr e,.pointer gd=>e=gd
 | .slice e,.slice gd=>e=gd
 | .struct ay,.struct gs=>gs.toList.map (λg=>(g.type,g.offset))=ay
 | .fn,.func _ _ _=>True
 | .fl _,.struct _=>True
 | .map k e,.map c8 gd=>k=c8/\e=gd
 |_,_=>False
def Ic (P:Program) (t:TypeId) (x:fW):Prop:=
 (∃e n b z,x=⟨.other,e,n,b⟩/\z=0)\/
 ∃i d z,P.info? t=some i/\i.size=x.sz/\i.bytes=x.bytes/\i.zero=some z/\(∀cs,flat x.zero=some cs->z.cells=cs.toArray)/\P.underlying t=some d/\kN x.k d
structure bH where
 P:Program
 T:TypeId->fW
 M:FuncId->List Bool
structure bH.dL (C:bH):Prop where
 ty:∀t,Ic C.P t (C.T t)
 mixed:C.P.follows .mixedOrders=true
inductive a6 where
 |t (n:Nat)
 |c (av:I)
 |f (g:FuncId)
def zp:Value->Option I
 | .bool b=>some (.bool b)
 | .int k n=>some (.int k n)
 | .string s=>some (.str s.data.toList)
 | .pointer none=>some .db
 | .slice none 0 0=>some .aN
 |_=>none
def cY:Operand->Option a6
 | .tmp n=>some (.t n)
 | .const v=>(zp v).map .c
 | .func g=>some (.f g)
 | .global _=>none
def nR (x:Nat) (d:I):I:=if d.plain then d else .h x []
def a7 (s:ak):a6->I
 | .t n=>nR n (s n)
 | .c av=>av
 | .f g=>.fn g []
theorem aG.nothing {w:World} {F:Nat->Prop} {s:ak} {aw:Nat->Value} {d:I} {v:Value} {S aO:Nat->Prop} (au:d.plain=true) (h:aG w F s aw d v S):aG w F s aw d v aO:=by
 cases d<;>first
  |(rw[aG];trivial)
  |(rw[aG]at h⊢;exact h)
  |(have bB:=(aG.cd rfl).1 h;exact(aG.cd rfl).2 ⟨bB.1,ao.plain _ _ _ _ au bB.2⟩)
section
variable {w0 w:World} {F0 X F:Nat->Prop} {S:Nat->Nat->Prop} {s:ak} {aw:Nat->Value} {a:Act}
theorem Ie (s:ak) (x:a6) (an:∀av,x= .c av->av.plain=true):(a7 s x).plain=true:=by
 cases x with
 |t n=>simp only[a7,nR];split<;>first|assumption|rfl
 |c av=>exact an _ rfl
 |f g=>rfl
theorem CO {v:Value} {av:I} (h:zp v=some av):av.plain=true:=by
 unfold zp at h;split at h<;>simp at h<;>subst h<;>rfl
theorem eg (h:bw w0 F0 X F S s aw w) (dt:∀t,aw t=a.tmps.getD t undef) {o:Operand} {x:a6} (bO:cY o=some x):
  (a7 s x).plain=true/\aG w F s aw (a7 s x) (a.eval o) (λ_=>False):=by
 cases o with
 |tmp n=>
  simp[cY]at bO;subst bO;simp only[a7,nR,Act.eval,<-dt];split
  .rename_i au;exact⟨au,aG.nothing au (h.cV n)⟩
  .rename_i au;refine⟨rfl,?_⟩;rw[aG];intro d ai Pj;simp only[I.sub,some.injEq]at ai;subst ai;have aP:=gx (q:=[]) rfl (.inl Pj);exact⟨_,none,rfl,rfl,((aG.cd aP).1 (h.cV n)).1⟩
 |const v=>
  simp only[cY,map_eq_some_iff]at bO;obtain⟨av,oF,rfl⟩:=bO;refine⟨CO oF,?_⟩;simp only[a7,Act.eval];unfold zp at oF;split at oF<;>simp at oF<;>subst oF<;>rw[aG,ao]<;>exact⟨rfl,rfl⟩
 |func g=>
  simp[cY]at bO;subst bO;refine⟨rfl,?_⟩;simp only[a7,Act.eval];rw[aG];exact⟨#[],rfl,by rw[dC]⟩
 |global g=>simp[cY]at bO
def kq (w0:World) (X F:Nat->Prop) (S:Nat->Nat->Prop) (s:ak) (aw:Nat->Value) (w:World) (av:I) (v:Value):Prop:=
 (av.plain=true/\aG w F s aw av v (λ_=>False))\/
 (av.tree=true/\dc av v/\∃Sn,ao w F av (bX v) Sn/\(∀b,Sn b->b<w.heap.size)/\(∀b,Sn b->¬F b)/\(∀u b,Sn b->¬S u b)/\(∀b,Sn b->X b\/w0.heap.size<=b))
def fin (s:ak) (dst:Option Nat) (av:I):ak:=match dst with
 |none=>s
 |some t=>if av.plain then cg s t av else cg (lf t s) t av
def kr (aw:Nat->Value) (dst:Option Nat) (v:Value):Nat->Value:=match dst with
 |none=>aw
 |some t=>cg aw t v
theorem bw.fin (h:bw w0 F0 X F S s aw w) {av:I} {v:Value} (aH:kq w0 X F S s aw w av v) (dst:Option Nat):
  ∃aO,bw w0 F0 X F aO (c3.fin s dst av) (kr aw dst v) w:=by
 cases dst with
 |none=>exact⟨S,h⟩
 |some t=>
  simp only[c3.fin,kr];rcases aH with⟨au,ai⟩|⟨aP,aa,Sn,ae,af,aF,a1,bt⟩
  .rw[if_pos au];exact⟨_,h.uj au ai⟩
  .split
   .rename_i au;exact⟨_,h.uj au ((aG.cd aP).2 ⟨aa,ao.plain _ _ _ _ au ae⟩)⟩
   .exact⟨_,h.H7 aP aa ae af aF (λu b _ U=>a1 u b U) bt⟩
def cr (s:ak):I->Option (I×ak)
 | .h x q=>match I.sub q (s x)with
   |some d=>if d.plain then none else some (d,cg (e0 x s) x (I.put q d.ct (s x)))
   |none=>none
 | .au _ _=>none
 | .U _ _=>none
 | .fn _ _=>none
 | .hole=>none
 |d=>some (d,s)
def I.owner:I->Option Nat
 | .h x _=>some x
 |_=>none
def j8:Option Nat->I->I
 |some x,d=>b5 x d
 |none,d=>d
theorem mW (h:bw w0 F0 X F S s aw w) {av d:I} {s1:ak} {v:Value} (oF:av.plain=true) (aH:aG w F s aw av v (λ_=>False)) (aP:cr s av=some (d,s1)):
  ∃S1,bw w0 F0 X F S1 s1 aw w/\d.tree=true/\dc d v/\∃Sn,ao w F d (bX v) Sn/\(∀b,Sn b->b<w.heap.size)/\(∀b,Sn b->¬F b)/\(∀u b,Sn b->¬S1 u b)/\(∀b,Sn b->X b\/w0.heap.size<=b)/\
   (∀u b,S1 u b->S u b)/\(∀b,Sn b->∃u,S u b)/\(∀(bh:I) (fI:Value) (aO:Nat->Prop),aG w F s aw bh fI aO->aG w F s1 aw (j8 av.owner bh) fI aO):=by
 have tree:∀d:I,d.tree=true->d.plain=true->aG w F s aw d v (λ_=>False)->
   ∃S1,bw w0 F0 X F S1 s aw w/\d.tree=true/\dc d v/\∃Sn,ao w F d (bX v) Sn/\(∀b,Sn b->b<w.heap.size)/\(∀b,Sn b->¬F b)/\(∀u b,Sn b->¬S1 u b)/\(∀b,Sn b->X b\/w0.heap.size<=b)/\
    (∀u b,S1 u b->S u b)/\(∀b,Sn b->∃u,S u b):=by
  intro d ai _ bB;have bB:=(aG.cd ai).1 bB;exact⟨S,h,ai,bB.1,_,bB.2,λ_ h=>h.elim,λ_ h=>h.elim,λ_ _ h=>h.elim,λ_ h=>h.elim,λ_ _ h=>h,λ_ h=>h.elim⟩
 cases av with
 |h x q=>
  simp only[cr]at aP;split at aP
  .rename_i e he;split at aP
   .cases aP
   .rename_i au;simp only[some.injEq,Prod.mk.injEq]at aP;obtain⟨rfl,rfl⟩:=aP;have au:e.plain=false:=by simpa using au
    obtain⟨Sn,eF,b7,ca,dR,bx,e1,bR,cQ,dF,fe⟩:=h.take he au;rw[aG]at aH;obtain⟨zq,aW,aV,ba,bT⟩:=aH e he au;rw[bx]at aV;simp only[some.injEq,Prod.mk.injEq,true_and]at aV;obtain⟨rfl,rfl⟩:=aV;have CP:e.tree=true:=by cases e<;>first|rfl|(simp[I.plain]at au)
    refine⟨_,dR,CP,bT,eF,by rw[ba];exact e1,λb U=>h.ek x b (bR b U),λb U=>h.fC x b (bR b U),?_,λb U=>h.c7 x b (bR b U),?_,λb U=>⟨x,bR b U⟩,fe⟩
    .intro u b U hu;simp only[gf]at hu;split at hu
     .exact dF b U hu
     .rename_i CQ;exact h.e9 u x b CQ hu (bR b U)
    .intro u b hu;simp only[gf]at hu;split at hu
     .rename_i e;subst e;exact cQ b hu
     .exact hu
  .cases aP
 |au x q=>simp[cr]at aP
 |U x q=>simp[cr]at aP
 |fn f c=>simp[cr]at aP
 |hole=>simp[cr]at aP
 |ag sz xs=>simp[I.plain]at oF
 |aK d=>simp[I.plain]at oF
 |_=>
  simp only[cr,some.injEq,Prod.mk.injEq]at aP;obtain⟨rfl,rfl⟩:=aP;obtain⟨S1,t1,t2,t3,Sn,t4,t5,t6,t7,t8,t9,t10⟩:=tree _ rfl oF aH;exact⟨S1,t1,t2,t3,Sn,t4,t5,t6,t7,t8,t9,t10,λ_ _ _ h=>h⟩
def loc (s:ak):I->Option (Nat×afc)
 | .h x q=>match I.sub q (s x)with
   |some (.aK _)=>some (x,q++[0])
   |_=>none
 | .au x q=>if I.dZ q (s x)then some (x,q)else none
 |_=>none
theorem um:∀(q:afc) (av d:I) (r:afc),I.sub q av=some d->I.sub (q++r) av=I.sub r d:=by
 intro q;induction q with
 |nil=>intro av d r h;simp[I.sub]at h;subst h;rfl
 |cons k q ih=>
  intro av d r h;cases av with
  |agg ay=>
   simp only[I.sub,cons_append]at h⊢;split at h
   .rename_i x al;exact ih _ _ _ h
   .cases h
  |tuple ay=>
   simp only[I.sub,cons_append]at h⊢;split at h
   .rename_i x al;exact ih _ _ _ h
   .cases h
  |ag sz ay=>
   simp only[I.sub,cons_append]at h⊢;split at h
   .rename_i x al;exact ih _ _ _ h
   .cases h
  |aK x=>
   cases k with
   |zero=>simp only[I.sub,cons_append]at h⊢;exact ih _ _ _ h
   |succ k=>simp[I.sub]at h
  |_=>simp[I.sub]at h
theorem Pk:∀(q:afc) (av d:I) (r:afc),I.sub q av=some d->I.dZ (q++r) av=(I.dZ q av||I.dZ r d):=by
 intro q;induction q with
 |nil=>intro av d r h;simp[I.sub]at h;subst h;simp[I.dZ]
 |cons k q ih=>
  intro av d r h;cases av with
  |agg ay=>
   simp only[I.sub]at h;split at h
   .rename_i x al;simp only[I.dZ,cons_append,al];exact ih _ _ r h
   .cases h
  |tuple ay=>
   simp only[I.sub]at h;split at h
   .rename_i x al;simp only[I.dZ,cons_append,al];exact ih _ _ r h
   .cases h
  |ag sz ay=>simp[I.dZ]
  |aK x=>simp[I.dZ]
  |_=>simp[I.sub]at h
theorem sw (w:World):∀(q:afc) (av d:I) (cs b7:aff) (a ca:Option (Nat×Nat)) (r:afc),cj w q av cs a=some (d,b7,ca)->cj w (q++r) av cs a=cj w r d b7 ca:=by
 intro q;induction q with
 |nil=>intro av d cs b7 a ca r h;simp[cj]at h;obtain⟨rfl,rfl,rfl⟩:=h;rfl
 |cons k q ih=>
  intro av d cs b7 a ca r h;cases av with
  |agg ay=>
   rw[cons_append];rw[cj]at h⊢;split at h
   .rename_i x al;exact ih _ _ _ _ _ _ _ h
   .cases h
  |tuple ay=>
   rw[cons_append];rw[cj]at h⊢;split at h
   .rename_i x al;exact ih _ _ _ _ _ _ _ h
   .cases h
  |ag sz ay=>
   rw[cons_append];rw[cj.eq_def]at h⊢;simp only at h⊢;split at h
   .exact ih _ _ _ _ _ _ _ h
   .cases h
  |aK x=>
   cases k with
   |zero=>
    rw[cons_append];rw[cj.eq_def]at h⊢;simp only at h⊢;split at h
    .exact ih _ _ _ _ _ _ _ h
    .cases h
   |succ k=>rw[show cj w ((k+1)::q) (.aK x) cs a=none from rfl]at h;cases h
  |_=>simp[cj]at h
end
def fW.ok (x:fW):Bool:=match x.k with
 | .other=>false
 |_=>true
theorem bH.dL.info {C:bH} (a9:C.dL) {t:TypeId} (h:(C.T t).ok=true):
  ∃i d z,C.P.info? t=some i/\i.size=(C.T t).sz/\i.bytes=(C.T t).bytes/\i.zero=some z/\(∀cs,flat (C.T t).zero=some cs->z.cells=cs.toArray)/\C.P.underlying t=some d/\kN (C.T t).k d:=by
 rcases a9.ty t with⟨e,n,b,z,al,_⟩|bB
 .rw[al]at h;simp[fW.ok]at h
 .exact bB
theorem fv {x:fW} {k:mj} (h:x.k=k) (aj:k≠.other):x.ok=true:=by
 unfold fW.ok;rw[h];cases k<;>first|rfl|exact(aj rfl).elim
theorem wK {d:TypeDesc} {ay:List (TypeId×Nat)} (h:kN (.struct ay) d):∃gs,d= .struct gs/\gs.toList.map (λg=>(g.type,g.offset))=ay:=by
 cases d<;>simp[kN]at h;exact⟨_,rfl,h⟩
theorem ks {d:TypeDesc} {e:TypeId} (h:kN (.slice e) d):d= .slice e:=by
 cases d<;>simp[kN]at h;rw[h]
theorem wL {d:TypeDesc} {k:IntKind} (h:kN (.int k) d):d= .int k:=by
 cases d<;>simp[kN]at h;rw[h]
theorem pA {d:TypeDesc} (h:kN .str d):d= .string:=by
 cases d<;>simp[kN]at h;rfl
theorem CR {d:TypeDesc} (h:kN .bool d):d= .bool:=by
 cases d<;>simp[kN]at h;rfl
theorem Ig {d:TypeDesc} {e:TypeId} (h:kN (.ptr e) d):d= .pointer e:=by
 cases d<;>simp[kN]at h;rw[h]
theorem fX {v:Value} (h:Value.fU v=true):bX v=[v]:=by
 cases v<;>first|rfl|(simp[Value.fU]at h)
theorem sx {P:Program} {t:TypeId} {i:TypeInfo} (h:P.info? t=some i) (w:World):(typeInfo t).run P w= .ok i w:=by simp[typeInfo,h]
theorem iR {P:Program} {t:TypeId} {i:TypeInfo} (h:P.info? t=some i) (w:World):(Go.sizeOf t).run P w= .ok i.size w:=by simp[Go.sizeOf,sx h]
theorem rA {P:Program} {t:TypeId} {i:TypeInfo} {z:Value} (h:P.info? t=some i) (bF:i.zero=some z) (w:World):(zeroValue t).run P w= .ok z w:=by simp[zeroValue,sx h,bF]
section
variable {C:bH} {w0 w:World} {F0 X F:Nat->Prop} {S:Nat->Nat->Prop} {s s1:ak} {aw:Nat->Value} {av:I}
def Good (C:bH) (w0:World) (F0 X:Nat->Prop) (aw:Nat->Value) (w:World) (m:Sem Value) (av:I) (s1:ak):Prop:=
 ∃v aB bC aO,m.run C.P w= .ok v aB/\bw w0 F0 X bC aO s1 aw aB/\kq w0 X bC aO s1 aw aB av v
theorem Good.same (h:bw w0 F0 X F S s aw w) {m:Sem Value} {v:Value} (aR:m.run C.P w= .ok v w) (au:av.plain=true) (aH:aG w F s aw av v (λ_=>False)):Good C w0 F0 X aw w m av s:=
 ⟨v,w,F,S,aR,h,.inl ⟨au,aH⟩⟩
theorem wM (_h:bw w0 F0 X F S s aw w) {x:I} {v:Value} (aH:aG w F s aw x v (λ_=>False)) {y:Nat} {q:afc} (hl:loc s x=some (y,q)) {d:I} (ai:I.sub q (s y)=some d):
  I.dZ q (s y)=true/\∃b7 b o,v= .pointer (some ⟨b,o,none⟩)/\cj w q (s y) (bX (aw y)) none=some (d,b7,some (b,o)):=by
 cases x with
 |h z nS=>
  simp only[loc]at hl;split at hl
  .rename_i e he;simp only[some.injEq,Prod.mk.injEq]at hl;obtain⟨rfl,rfl⟩:=hl;rw[aG]at aH;obtain⟨b7,a,aV,ba,bT⟩:=aH _ he rfl;have gR:e=d:=by
    rw[um _ _ _ _ he]at ai;simpa [I.sub]using ai
   subst gR;refine⟨by rw[Pk _ _ _ _ he];simp[I.dZ],?_⟩;have ae:Value.fU v=true:=bT;rw[fX ae]at ba;subst ba;have hM:=sw w nS (s z) _ _ _ none a [0] aV;have al:=_h.cV z;rw[aG.cd (gx he (.inl rfl))]at al;obtain⟨fk,ca,dB,eF,k0,bU,ch,dd,cW,ed⟩:=ctx nS (s z) (bX (aw z)) (S z) none _ al.2 he;rw[k0]at aV;simp only[some.injEq,Prod.mk.injEq,true_and]at aV;obtain⟨rfl,rfl⟩:=aV;rw[ao]at cW;obtain⟨b,cur,a3,fr,S2,aY,_⟩:=cW;simp only[cons.injEq,and_true]at aY;subst aY;exact⟨_,b,0,rfl,by rw[hM];rfl⟩
  .cases hl
 |au z nS=>
  simp only[loc]at hl;split at hl
  .rename_i an;simp only[some.injEq,Prod.mk.injEq]at hl;obtain⟨rfl,rfl⟩:=hl;rw[aG]at aH;obtain⟨b7,b,o,aV,ba⟩:=aH _ ai an;exact⟨an,b7,b,o,ba,aV⟩
  .cases hl
 |_=>simp[loc]at hl
def hN (C:bH) (s:ak) (T:TypeId) (x:I) (k:Nat):Option I:=
 match(C.T T).k with
 | .struct ay=>match ay[k]? with
   |some (jq,off)=>if(C.T jq).ok=true/\(C.T jq).sz≠0 then
     match x with
     | .ref (.agg ds)=>match ds[k]? with
       |some d=>if I.dh (ds.take k)=off then some (.ref d)else none
       |none=>none
     | .U y o=>if(s y).plain then none else some (.U y (o+off))
     |x=>match loc s x with
      |some (y,q)=>match I.sub q (s y)with
       |some (.agg ds)=>if k<ds.length/\I.dh (ds.take k)=off then some (.au y (q++[k]))else none
       |_=>none
      |none=>none
    else none
   |none=>none
 |_=>none
theorem hi.CS {w:World} {b o:Nat} {bA dQ bK:aff} (h:hi w b o (bA++(dQ++bK))):hi w b (o+bA.length) dQ:=by
 intro j c bZ;have c5:j<dQ.length:=(List.getElem?_eq_some_iff.1 bZ).1;have:=h (bA.length+j) c (by rw[getElem?_append_right (by omega),getElem?_append_left (by omega),<-bZ];congr 1;omega);rw[Nat.add_assoc];exact this
theorem CT (a9:C.dL) {T jq:TypeId} {ay:List (TypeId×Nat)} {k off:Nat} (aj:(C.T T).k= .struct ay) (a8:ay[k]? =some (jq,off)) (ae:(C.T jq).ok=true) (af:(C.T jq).sz≠0) (b o:Nat) (w:World):
  (Instr.fieldAt T (.pointer (some ⟨b,o,none⟩)) k).run C.P w= .ok (.pointer (some ⟨b,o+off,none⟩)) w:=by
 obtain⟨i,d,z,aT,a3,aY,b1,cI,bQ,bL⟩:=a9.info (fv aj (by simp));rw[aj]at bL;obtain⟨gs,rfl,gI⟩:=wK bL;obtain⟨ml,bh,mX,f1,f2,f3,f4,f5,f6,f7⟩:=a9.info ae;have bl:∃g,gs[k]? =some g/\g.type=jq/\g.offset=off:=by
  rw[<-gI,getElem?_map]at a8;simp only[map_eq_some_iff,Prod.mk.injEq]at a8;obtain⟨g,ae,af,aF⟩:=a8;exact⟨g,by simpa using ae,af,aF⟩
 obtain⟨g,aV,rfl,rfl⟩:=bl;simp[Instr.fieldAt,run_underlying bQ,aV,Instr.sureAddr,fieldPlace,iR f1,f2,af,Addr.add_lit]
theorem Pl (a9:C.dL) (h:bw w0 F0 X F S s aw w) {T:TypeId} {x:I} {v:Value} {k:Nat} (al:x.plain=true) (aH:aG w F s aw x v (λ_=>False)) (he:hN C s T x k=some av):
  Good C w0 F0 X aw w (Instr.fieldAt T v k) av s:=by
 unfold hN at he;split at he
 .rename_i ay aj;split at he
  .rename_i jq off a8;split at he
   .rename_i uo;split at he
    .rename_i ds;split at he
     .rename_i d ai;split at he
      .rename_i pB;simp only[some.injEq]at he;subst he;have lI:=(aG.cd rfl).1 aH;rw[ao]at lI;obtain⟨aa,b,o,c4,ae,af,aF,a1⟩:=lI;rw[fX aa]at ae;simp only[cons.injEq,and_true]at ae;subst ae;rw[ao]at a1;obtain⟨bA,dQ,bK,S1,gq,rfl,eZ,dD,ej,fV,dE,ia⟩:=aX.pick ds _ _ k d a1 ai;refine Good.same h (CT a9 aj a8 uo.1 uo.2 b o w) rfl ((aG.cd rfl).2 ⟨rfl,?_⟩);rw[ao];refine⟨b,o+off,dQ,rfl,af,?_,ao.mono (λ_ h=>h) _ _ _ _ (λb U=>ej b U) dE⟩;rw[<-pB,<-eZ];exact aF.CS
      .cases he
     .cases he
    .rename_i y o;split at he
     .cases he
     .rename_i au;simp only[some.injEq]at he;subst he;rw[aG]at aH;obtain⟨b,cur,e,fr,rfl,af,aF,a1⟩:=aH (by simpa using au);refine Good.same h (CT a9 aj a8 uo.1 uo.2 b o w) rfl ?_;rw[aG];exact λ_=>⟨b,cur,e,fr,rfl,af,aF,a1⟩
    .rename_i x _ _;split at he
     .rename_i y q hl;split at he
      .rename_i ds ai;split at he
       .rename_i pB;simp only[some.injEq]at he;subst he;obtain⟨an,b7,b,o,rfl,hM⟩:=wM h aH hl ai;refine Good.same h (CT a9 aj a8 uo.1 uo.2 b o w) rfl ?_;rw[aG];intro d2 hx sy;rw[sw w q _ _ _ _ _ _ [k] hM];rw[um _ _ _ _ ai]at hx;have oG:∃d3,ds[k]? =some d3:=⟨_,getElem?_eq_getElem pB.1⟩
        obtain⟨d3,wN⟩:=oG;simp only[I.sub,wN,some.injEq]at hx;subst hx;simp only[cj,wN];refine⟨(b7.drop off).take d3.wd,b,o+off,?_,rfl⟩;rw[pB.2];rfl
       .cases he
      .cases he
     .cases he
   .cases he
  .cases he
 .cases he
def jA (C:bH) (s:ak) (T:TypeId) (x i:I):Option I:=
 match(C.T T).k,i with
 | .slice e,.int _ n=>if 0<=n/\(C.T e).ok=true then
   match x with
   | .slice xs=>match xs[n.toNat]? with
     |some d=>if d.wd=(C.T e).sz then some (.ref d)else none
     |none=>none
   | .h y q=>match I.sub q (s y)with
     |some (.ag sz xs)=>if n.toNat<xs.length/\sz=(C.T e).sz then some (.au y (q++[n.toNat]))else none
     |_=>none
   |_=>none
   else none
 |_,_=>none
theorem Ih (a9:C.dL) {T e:TypeId} (aj:(C.T T).k= .slice e) (he:(C.T e).ok=true) (b o len cap:Nat) (k:IntKind) (n:Nat) (a4:n<len) (w:World):
  (Instr.indexAt T (.slice (some ⟨b,o,none⟩) len cap) (.int k n)).run C.P w= .ok (.pointer (some ⟨b,o+n*(C.T e).sz,none⟩)) w:=by
 obtain⟨i,d,z,aT,a3,aY,b1,cI,bQ,bL⟩:=a9.info (fv aj (by simp));rw[aj]at bL;have:=ks bL;subst this;obtain⟨ml,bh,mX,f1,f2,f3,f4,f5,f6,f7⟩:=a9.info he;simp[Instr.indexAt,run_underlying bQ,asIntOf,a4,iR f1,f2,Addr.add_lit]
theorem Pm (a9:C.dL) (h:bw w0 F0 X F S s aw w) {T:TypeId} {x i:I} {v nT:Value} (aH:aG w F s aw x v (λ_=>False)) (Pn:aG w F s aw i nT (λ_=>False))
  (he:jA C s T x i=some av):Good C w0 F0 X aw w (Instr.indexAt T v nT) av s:=by
 unfold jA at he;split at he
 .rename_i e k n aj;have CU:=(aG.cd rfl).1 Pn;rw[ao,fX CU.1]at CU;have:nT= .int k n:=by simpa using CU.2
  subst this;split at he
  .rename_i a4;obtain⟨n,rfl⟩:=Int.eq_ofNat_of_zero_le a4.1;simp only[Int.toNat_natCast]at he;split at he
   .rename_i xs;split at he
    .rename_i d ai;split at he
     .rename_i hw;simp only[some.injEq]at he;subst he;have lI:=(aG.cd rfl).1 aH;rw[ao,fX lI.1]at lI;obtain⟨aa,⟨rfl,_⟩|⟨b,o,cap,c4,sz,ae,af,aF,a1,bt,b_,cq⟩⟩:=lI
      .simp at ai
      .simp only[cons.injEq,and_true]at ae;subst ae;have c5:n<xs.length:=(List.getElem?_eq_some_iff.1 ai).1;obtain⟨bA,dQ,bK,S1,gq,rfl,eZ,dD,ej,fV,dE,ia⟩:=aX.pick xs _ _ n d cq ai;refine Good.same h (Ih a9 aj a4.2 b o _ _ k n c5 w) rfl ((aG.cd rfl).2 ⟨rfl,?_⟩);rw[ao];refine⟨b,_,dQ,rfl,af,?_,ao.mono (λ_ h=>h) _ _ _ _ (λb U=>ej b U) dE⟩;have Po:=bt d (mem_of_getElem? ai);have:n*(C.T e).sz=bA.length:=by
        rw[eZ,oE _ (λd ai=>bt d (mem_of_mem_take ai)),length_take,Nat.min_eq_left (by omega),<-hw,Po]
       rw[this];exact b_.CS
     .cases he
    .cases he
   .rename_i y q;split at he
    .rename_i sz xs ai;split at he
     .rename_i hw;simp only[some.injEq]at he;subst he;rw[aG]at aH;obtain⟨b7,a,aV,ba,bT⟩:=aH _ ai rfl;have aa:Value.fU v=true:=bT;rw[fX aa]at ba;subst ba;have al:=h.cV y;rw[aG.cd (gx ai (.inl rfl))]at al;obtain⟨fk,ca,dB,eF,k0,bU,ch,dd,cW,ed⟩:=ctx q (s y) (bX (aw y)) (S y) none _ al.2 ai;rw[k0]at aV;simp only[some.injEq,Prod.mk.injEq,true_and]at aV;obtain⟨rfl,rfl⟩:=aV;rw[ao]at cW;rcases cW with⟨rfl,_⟩|⟨b,cap,cur,a3,fr,S2,aY,_⟩
      .simp at hw
      .simp only[cons.injEq,and_true]at aY;subst aY;refine Good.same h (Ih a9 aj a4.2 b 0 _ _ k n hw.1 w) rfl ?_;rw[aG];intro d2 hx _;rw[sw w q _ _ _ _ _ _ [n] k0];rw[um _ _ _ _ ai]at hx;obtain⟨d3,wN⟩:∃d3,xs[n]? =some d3:=⟨_,getElem?_eq_getElem hw.1⟩
       simp only[I.sub,wN,some.injEq]at hx;subst hx;simp only[cj,wN];exact⟨_,b,n*sz,rfl,by simp[hw.2]⟩
     .cases he
    .cases he
   .cases he
  .cases he
 .cases he
end
section
variable {C:bH} {w0 w:World} {F0 X F:Nat->Prop} {S:Nat->Nat->Prop} {s s1:ak} {aw:Nat->Value} {av:I}
theorem Ii (a9:C.dL) {T:TypeId} {ay:List (TypeId×Nat)} (aj:(C.T T).k= .struct ay) (w:World):(isAgg T).run C.P w= .ok true w:=by
 obtain⟨i,d,z,aT,a3,aY,b1,cI,bQ,bL⟩:=a9.info (fv aj (by simp));rw[aj]at bL;obtain⟨gs,rfl,_⟩:=wK bL;simp[isAgg,run_underlying bQ]
def fW.flat (x:fW):Bool:=match x.k with
 | .other=>false
 | .fl _=>false
 | .struct _=>false
 |_=>true
theorem Ij {x:fW} (h:x.flat=true):x.ok=true:=by
 unfold fW.flat at h;unfold fW.ok;revert h;cases x.k<;>simp
theorem CV (a9:C.dL) {T:TypeId} (aj:(C.T T).flat=true) (w:World):(isAgg T).run C.P w= .ok false w:=by
 obtain⟨i,d,z,aT,a3,aY,b1,cI,bQ,bL⟩:=a9.info (Ij aj);have c_:(∀ay,d≠.struct ay)/\(∀n e,d≠.array n e):=by
  clear bQ;unfold fW.flat at aj;generalize (C.T T).k=jB at*;cases jB<;>cases d<;>simp[kN]at bL aj⊢
 cases d<;>first|exact(c_.1 _ rfl).elim|exact(c_.2 _ _ rfl).elim|simp[isAgg,run_underlying bQ]
theorem hi.one {w:World} {b o:Nat} {v:Value} (h:hi w b o [v]):w.cell? ⟨b,o,none⟩=some v:=by simpa using h 0 v rfl
theorem Ik {P:Program} {b o:Nat}:∀(cs:aff) (i:Nat) (acc:Array Value),hi w b (o+i) cs->(loadCellsFrom ⟨b,o,none⟩ i cs.length acc).run P w= .ok (acc++cs.toArray) w
 |[],i,acc,_=>by simp[loadCellsFrom]
 |c::cs,i,acc,h=>by
  have bo:w.cell? ⟨b,o+i,none⟩=some c:=by simpa using h 0 c rfl
  have ae:hi w b (o+(i+1)) cs:=by
   intro j x bZ;have:=h (j+1) x (by simpa using bZ);rw[<-this];congr 2;omega
  have ih:=Ik (P:=P) cs (i+1) (acc.push c) ae;simp only[length_cons,loadCellsFrom,Sem.run_bind,Go.load,Sem.run,Addr.add_lit,bo,Result.andThen];rw[ih];simp
theorem Pp (a9:C.dL) {T:TypeId} {ay:List (TypeId×Nat)} (aj:(C.T T).k= .struct ay) {b o:Nat} {cs:aff} (h:hi w b o cs) (hl:cs.length=(C.T T).sz):
  (loadVar T ⟨b,o,none⟩).run C.P w= .ok (.agg cs.toArray) w:=by
 obtain⟨i,d,z,aT,a3,aY,b1,cI,bQ,bL⟩:=a9.info (fv aj (by simp));have:=Ik (P:=C.P) (b:=b) (o:=o) cs 0 #[] (by simpa using h);simp only[loadVar,Sem.run_bind,Ii a9 aj,Result.andThen,if_true,iR aT,a3,<-hl,loadCells,this];simp
theorem Il (a9:C.dL) {T:TypeId} (aj:(C.T T).flat=true) {b o:Nat} {v:Value} (h:hi w b o [v]):
  (loadVar T ⟨b,o,none⟩).run C.P w= .ok v w:=by
 simp[loadVar,CV a9 aj,Go.load,Sem.run,h.one]
def fits (C:bH) (T:TypeId) (d:I):Bool:=match(C.T T).k,d with
    | .struct _,.agg ds=>I.dh ds==(C.T T).sz
    | .struct _,_=>false
    |_,.agg _=>false
    |_,.tuple _=>false
    |_,_=>(C.T T).flat
def zr:afh->Nat->Nat->Option Nat
 |[],_,_=>none
 |d::ds,i,k=>if k=0 then some i else if d.wd<=k then zr ds (i+1) (k-d.wd)else none
def ff (C:bH) (s:ak) (T:TypeId) (x:I):Option I:=
 match x with
 | .ref d=>if fits C T d=true then some d else none
 | .U y k=>match s y with
   | .agg ds=>if I.eb ds then none else match zr ds 0 k with
     |some i=>match ds[i]? with
      |some d=>if I.dh (ds.take i)=k/\fits C T d=true then some (if d.plain then d else .h y [i])else none
      |none=>none
     |none=>none
   |_=>none
 |x=>match loc s x with
  |some (y,q)=>match I.sub q (s y)with
   |some d=>if fits C T d=true then some (if d.plain then d else .h y q)else none
   |none=>none
  |none=>none
theorem ao.one {F:Nat->Prop} {d:I} {cs:aff} {S:Nat->Prop} (h:ao w F d cs S) (ae:∀ay,d≠.agg ay) (af:∀ay,d≠.tuple ay):∃v,cs=[v]/\Value.fU v=true:=by
 cases d with
 |hole=>rw[ao]at h;obtain⟨v,h,rfl⟩:=h;exact⟨v,rfl,h⟩
 |eM=>rw[ao]at h;obtain⟨v,rfl⟩:=h;exact⟨_,rfl,rfl⟩
 |slice xs=>rw[ao]at h;rcases h with⟨_,a,c,rfl,_⟩|⟨b,o,cap,c4,sz,rfl,_⟩<;>exact⟨_,rfl,rfl⟩
 |ag sz xs=>rw[ao]at h;rcases h with⟨_,_,rfl⟩|⟨b,cap,cur,e,fr,c7,rfl,_⟩<;>exact⟨_,rfl,rfl⟩
 |ref d=>rw[ao]at h;obtain⟨b,o,c4,rfl,_⟩:=h;exact⟨_,rfl,rfl⟩
 |aK d=>rw[ao]at h;obtain⟨b,cur,e,fr,c7,rfl,_⟩:=h;exact⟨_,rfl,rfl⟩
 |agg ay=>exact(ae _ rfl).elim
 |tuple ay=>exact(af _ rfl).elim
 |fn _ _=>rw[ao]at h;obtain⟨arr,rfl,_⟩:=h;exact⟨_,rfl,rfl⟩
 |h _ _=>rw[ao]at h;exact h.elim
 |au _ _=>rw[ao]at h;exact h.elim
 |U _ _=>rw[ao]at h;exact h.elim
 |dm _=>rw[ao]at h;obtain⟨v,h1,rfl⟩:=ld.one h;exact⟨v,rfl,h1⟩
 |eY _ _=>rw[ao]at h;obtain⟨arr,rfl,_⟩:=h;exact⟨_,rfl,rfl⟩
 |gb _=>rw[ao]at h;obtain⟨b,v,e,fr,rfl,_⟩:=h;exact⟨_,rfl,rfl⟩
 |_=>rw[ao]at h;subst h;exact⟨_,rfl,rfl⟩
theorem I.zs {d:I} (h:d.single=true):(∀ay,d≠.agg ay)/\∀ay,d≠.tuple ay:=
 ⟨λay e=>(by subst e;cases h),λay e=>(by subst e;cases h)⟩
theorem aG.mY {F:Nat->Prop} {s:ak} {aw:Nat->Value} {d:I} {v:Value} (aP:d.tree=true) (aa:d.single=true) (h:ao w F d [v] (λ_=>False)):aG w F s aw d v (λ_=>False):=by
 obtain⟨fI,e,ae⟩:=ao.one h (I.zs aa).1 (I.zs aa).2;have:v=fI:=by simpa using e
 subst this;refine(aG.cd aP).2 ⟨?_,by rw[fX ae];exact h⟩;cases d<;>first|exact ae|cases aa
mutual
theorem aG.pC {F:Nat->Prop} {s:ak} {aw:Nat->Value}:∀(d:I) (v:Value),d.single=true->ao w F d [v] (λ_=>False)->aG w F s aw d v (λ_=>False)
 | .fn f caps,v,_,h=>by
   rw[ao]at h;obtain⟨arr,ae,af,aF⟩:=h;rw[aG];exact⟨arr,by simpa using ae,dC.pC caps _ af aF⟩
 | .bool b,v,aa,h=>aG.mY rfl aa h
 | .eM,v,aa,h=>aG.mY rfl aa h
 | .int k n,v,aa,h=>aG.mY rfl aa h
 | .str x,v,aa,h=>aG.mY rfl aa h
 | .db,v,aa,h=>aG.mY rfl aa h
 | .aN,v,aa,h=>aG.mY rfl aa h
 | .slice xs,v,aa,h=>aG.mY rfl aa h
 | .ag sz xs,v,aa,h=>aG.mY rfl aa h
 | .ref d,v,aa,h=>aG.mY rfl aa h
 | .aK d,v,aa,h=>aG.mY rfl aa h
 | .h _ _,v,_,h=>by rw[ao]at h;exact h.elim
 | .au _ _,v,_,h=>by rw[ao]at h;exact h.elim
 | .U _ _,v,_,h=>by rw[ao]at h;exact h.elim
 | .dm _,v,aa,h=>aG.mY rfl aa h
 | .eY _ _,v,aa,h=>aG.mY rfl aa h
 | .gb _,v,aa,h=>aG.mY rfl aa h
theorem dC.pC {F:Nat->Prop} {s:ak} {aw:Nat->Value}:∀(ds:afh) (vs:aff),(∀d∈ds,d.single=true)->aX w F ds vs (λ_=>False)->dC w F s aw ds vs
 |[],vs,_,h=>by rw[aX]at h;rw[dC];exact h
 |d::ds,vs,aa,h=>by
  rw[aX]at h;obtain⟨bA,bK,S1,S2,rfl,af,aF,a1,bt,_⟩:=h;have ai:=aa d (by simp);obtain⟨v,rfl,_⟩:=ao.one af (I.zs ai).1 (I.zs ai).2;rw[dC];exact⟨v,bK,rfl,aG.pC d v ai (ao.mono (λ_ h=>h) _ _ _ _ (λb U=>a1 b U) af),dC.pC ds bK (λx al=>aa x (by simp[al])) (aX.mono (λ_ h=>h) _ _ _ _ (λb U=>bt b U) aF)⟩
end
theorem zt (a9:C.dL) {T:TypeId} {d:I} {b o:Nat} {cs:aff} {S:Nat->Prop} (h:hi w b o cs) (ai:ao w F d cs S)
  (hy:fits C T d=true):
  ∃v,(loadVar T ⟨b,o,none⟩).run C.P w= .ok v w/\bX v=cs/\dc d v:=by
 unfold fits at hy;by_cases aa:∃ay,(C.T T).k= .struct ay
 .obtain⟨ay,aj⟩:=aa;rw[aj]at hy;cases d with
  |agg ds=>
   simp only[beq_iff_eq]at hy;refine⟨_,Pp a9 aj h ((ao.length _ _ _ ai).trans hy),rfl,⟨_,rfl⟩⟩
  |_=>simp at hy
 .have hO:(C.T T).flat=true/\(∀ay,d≠.agg ay)/\(∀ay,d≠.tuple ay):=by
   revert hy aa;cases aj:(C.T T).k<;>cases d<;>simp
  obtain⟨v,rfl,ae⟩:=ao.one ai hO.2.1 hO.2.2;refine⟨v,Il a9 hO.1 h,fX ae,?_⟩;cases d<;>first|exact ae|exact(hO.2.1 _ rfl).elim|exact(hO.2.2 _ rfl).elim
theorem Pq (a9:C.dL) {T:TypeId} {d:I} {off:Nat} {arr:Array Value} {bA cs bK:aff} {S:Nat->Prop} (he:arr.toList=bA++(cs++bK)) (bO:bA.length=off) (ai:ao w F d cs S)
  (hy:fits C T d=true):
  ∃v,(part T arr off).run C.P w= .ok v w/\bX v=cs/\dc d v:=by
 unfold fits at hy;by_cases aa:∃ay,(C.T T).k= .struct ay
 .obtain⟨ay,aj⟩:=aa;rw[aj]at hy;cases d with
  |agg ds=>
   simp only[beq_iff_eq]at hy;obtain⟨i,d,z,aT,a3,aY,b1,cI,bQ,bL⟩:=a9.info (fv aj (by simp));have hl:cs.length=(C.T T).sz:=(ao.length _ _ _ ai).trans hy;have al:(arr.extract off (off+(C.T T).sz)).toList=cs:=by
    rw[Array.toList_extract,he,extract_eq_take_drop,<-hl,<-bO,Nat.add_sub_cancel_left,drop_left,take_left]
   refine⟨.agg (arr.extract off (off+(C.T T).sz)),?_,by simpa [bX,hj]using al,⟨_,rfl⟩⟩;simp[part,Ii a9 aj,iR aT,a3]
  |_=>simp at hy
 .have hO:(C.T T).flat=true/\(∀ay,d≠.agg ay)/\(∀ay,d≠.tuple ay):=by
   revert hy aa;cases aj:(C.T T).k<;>cases d<;>simp
  obtain⟨v,rfl,ae⟩:=ao.one ai hO.2.1 hO.2.2;have bl:arr[off]? =some v:=by
   rw[<-Array.getElem?_toList,he,<-bO,getElem?_append_right (Nat.le_refl _)];simp
  refine⟨v,?_,fX ae,?_⟩
  .simp[part,CV a9 hO.1,bl]
  .cases d<;>first|exact ae|exact(hO.2.1 _ rfl).elim|exact(hO.2.2 _ rfl).elim
theorem Pr (a9:C.dL) (h:bw w0 F0 X F S s aw w) {T:TypeId} {x:I} {v:Value} (aH:aG w F s aw x v (λ_=>False)) (he:ff C s T x=some av):
  Good C w0 F0 X aw w (Instr.loadAt T v) av s:=by
 unfold ff at he;split at he
 .rename_i d;split at he
  .rename_i hy;simp only[some.injEq]at he;subst he;have lI:=(aG.cd rfl).1 aH;rw[ao,fX lI.1]at lI;obtain⟨aa,b,o,c4,ae,af,aF,a1⟩:=lI;simp only[cons.injEq,and_true]at ae;subst ae;obtain⟨fI,aR,an,nU⟩:=zt a9 aF a1 hy;have dS:(Instr.loadAt T (.pointer (some ⟨b,o,none⟩))).run C.P w= .ok fI w:=by simp[Instr.loadAt,Instr.sureAddr,aR]
   refine⟨fI,w,F,S,dS,h,?_⟩;by_cases aP:d.tree=true
   .exact .inr ⟨aP,nU,λ_=>False,by rw[an];exact a1,λ_ h=>h.elim,λ_ h=>h.elim,λ_ _ h=>h.elim,λ_ h=>h.elim⟩
   .cases d<;>first|exact(aP rfl).elim|(rw[ao]at a1;exact a1.elim)|exact .inl ⟨rfl,by rw[aG];trivial⟩|(have bt:=a1;rw[ao]at bt;obtain⟨arr,e,_⟩:=bt;rw[<-an]at e a1;rw[fX (by exact nU)]at a1;exact .inl ⟨rfl,aG.pC _ _ rfl a1⟩)
  .cases he
 .rename_i y k;split at he
  .rename_i ds rB;split at he
   .cases he
   .rename_i Ps;split at he
    .rename_i i aC;split at he
     .rename_i d ai;split at he
      .rename_i hy;simp only[some.injEq]at he;have gH:(s y).plain=false:=by rw[rB];simp only[I.plain];simpa using Ps
       rw[aG]at aH;obtain⟨b,cur,e,fr,rfl,af,aF,a1⟩:=aH gH;have a5:=h.cV y;rw[rB]at a5;have zu:=((aG.cd rfl).1 a5).2;rw[ao]at zu;obtain⟨bA,dQ,bK,S1,gq,ho,eZ,dD,ej,fV,dE,ia⟩:=aX.pick ds _ _ i d zu ai;have hv:hi w b k dQ:=by
        intro j c bZ;have c5:j<dQ.length:=(List.getElem?_eq_some_iff.1 bZ).1;have:cur.toList[k+j]? =some c:=by
         rw[a1,ho,getElem?_append_right (by omega),getElem?_append_left (by omega),<-bZ];congr 1;omega
        simp[World.cell?,aF];simpa using this
       obtain⟨fI,aR,an,nU⟩:=zt a9 hv dE hy.2;have dS:(Instr.loadAt T (.pointer (some ⟨b,k,none⟩))).run C.P w= .ok fI w:=by simp[Instr.loadAt,Instr.sureAddr,aR]
       refine⟨fI,w,F,S,dS,h,?_⟩;split at he
       .rename_i au;subst he;by_cases aP:d.tree=true
        .exact .inl ⟨au,(aG.cd aP).2 ⟨nU,by rw[an];exact ao.plain _ _ _ _ au dE⟩⟩
        .cases d<;>first|exact(aP rfl).elim|(rw[ao]at dE;exact dE.elim)|exact .inl ⟨rfl,by rw[aG];trivial⟩|(have bt:=ao.plain _ _ _ (λ_=>False) au dE;rw[<-an]at bt;rw[fX (by exact nU)]at bt;exact .inl ⟨rfl,aG.pC _ _ rfl bt⟩)
       .subst he;refine .inl ⟨rfl,?_⟩;rw[aG];intro d2 hx _;rw[rB]at hx⊢;simp only[I.sub,ai,some.injEq]at hx;subst hx;refine⟨dQ,none,?_,an,nU⟩;simp only[cj,ai];rw[ho,nO bA dQ bK _ _ eZ (ao.length _ _ _ dE)];rfl
      .cases he
     .cases he
    .cases he
  .cases he
 .rename_i x _ _;split at he
  .rename_i y q hl;split at he
   .rename_i d ai;split at he
    .rename_i hy;simp only[some.injEq]at he;obtain⟨i6,b7,b,o,rfl,hM⟩:=wM h aH hl ai;have a5:=h.cV y;rw[aG.cd (gx ai (.inr i6))]at a5;obtain⟨fk,ca,dB,eF,k0,bU,ch,dd,cW,ed⟩:=ctx q (s y) (bX (aw y)) (S y) none _ a5.2 ai;rw[k0]at hM;simp only[some.injEq,Prod.mk.injEq,true_and]at hM;obtain⟨rfl,rfl⟩:=hM;have hv:hi w b o fk:=by
      rcases ed with⟨l,r,aT,a3,_⟩|⟨eN,cur,e,fr,l,r,aT,a3,aY,b1,cI,_⟩
      .simp at a3
      .simp only[some.injEq,Prod.mk.injEq]at aT;obtain⟨rfl,rfl⟩:=aT;intro j c bZ;have c5:j<fk.length:=(List.getElem?_eq_some_iff.1 bZ).1;have:cur.toList[l.length+j]? =some c:=by
        rw[cI,getElem?_append_right (by omega),getElem?_append_left (by omega),<-bZ];congr 1;omega
       simp[World.cell?,aY];simpa using this
     obtain⟨fI,aR,an,nU⟩:=zt a9 hv cW hy;have dS:(Instr.loadAt T (.pointer (some ⟨b,o,none⟩))).run C.P w= .ok fI w:=by simp[Instr.loadAt,Instr.sureAddr,aR]
     refine⟨fI,w,F,S,dS,h,?_⟩;split at he
     .rename_i au;subst he;by_cases aP:d.tree=true
      .exact .inl ⟨au,(aG.cd aP).2 ⟨nU,by rw[an];exact ao.plain _ _ _ _ au cW⟩⟩
      .cases d<;>first|exact(aP rfl).elim|(rw[ao]at cW;exact cW.elim)|exact .inl ⟨rfl,by rw[aG];trivial⟩|(have bt:=ao.plain _ _ _ (λ_=>False) au cW;rw[<-an]at bt;rw[fX (by exact nU)]at bt;exact .inl ⟨rfl,aG.pC _ _ rfl bt⟩)
     .subst he;refine .inl ⟨rfl,?_⟩;rw[aG];intro d2 hx _;rw[ai]at hx;simp only[some.injEq]at hx;subst hx;exact⟨_,_,k0,an,nU⟩
    .cases he
   .cases he
  .cases he
mutual
theorem ao.qu {F:Nat->Prop}:∀(d:I) (cs:aff) (S:Nat->Prop),ao w F d cs S->∀c∈cs,Value.fU c=true
 | .hole,cs,S,h=>by rw[ao]at h;obtain⟨v,h,rfl⟩:=h;simpa using h
 | .bool _,cs,S,h=>by rw[ao]at h;subst h;simp[Value.fU]
 | .eM,cs,S,h=>by rw[ao]at h;obtain⟨b,rfl⟩:=h;simp[Value.fU]
 | .int _ _,cs,S,h=>by rw[ao]at h;subst h;simp[Value.fU]
 | .str _,cs,S,h=>by rw[ao]at h;subst h;simp[Value.fU]
 | .db,cs,S,h=>by rw[ao]at h;subst h;simp[Value.fU]
 | .aN,cs,S,h=>by rw[ao]at h;subst h;simp[Value.fU]
 | .slice xs,cs,S,h=>by
   rw[ao]at h;rcases h with⟨_,a,c,rfl,_⟩|⟨b,o,cap,c4,sz,rfl,_⟩<;>simp[Value.fU]
 | .ag sz xs,cs,S,h=>by
   rw[ao]at h;rcases h with⟨_,_,rfl⟩|⟨b,cap,cur,e,fr,aO,rfl,_⟩<;>simp[Value.fU]
 | .ref d,cs,S,h=>by rw[ao]at h;obtain⟨b,o,c4,rfl,_⟩:=h;simp[Value.fU]
 | .aK d,cs,S,h=>by rw[ao]at h;obtain⟨b,o,c4,_,_,rfl,_⟩:=h;simp[Value.fU]
 | .agg ay,cs,S,h=>by rw[ao]at h;exact aX.qu ay _ _ h
 | .tuple ay,cs,S,h=>by rw[ao]at h;exact aX.qu ay _ _ h
 | .fn _ _,cs,S,h=>by rw[ao]at h;obtain⟨arr,rfl,_⟩:=h;simp[Value.fU]
 | .h _ _,cs,S,h=>by rw[ao]at h;exact h.elim
 | .au _ _,cs,S,h=>by rw[ao]at h;exact h.elim
 | .U _ _,cs,S,h=>by rw[ao]at h;exact h.elim
 | .dm _,cs,S,h=>by rw[ao]at h;obtain⟨v,h1,rfl⟩:=ld.one h;simpa using h1
 | .eY _ _,cs,S,h=>by rw[ao]at h;obtain⟨arr,rfl,_⟩:=h;simp[Value.fU]
 | .gb _,cs,S,h=>by rw[ao]at h;obtain⟨b,v,e,fr,rfl,_⟩:=h;simp[Value.fU]
theorem aX.qu {F:Nat->Prop}:∀(ds:afh) (cs:aff) (S:Nat->Prop),aX w F ds cs S->∀c∈cs,Value.fU c=true
 |[],cs,S,h=>by rw[aX]at h;subst h;simp
 |d::ds,cs,S,h=>by
  rw[aX]at h;obtain⟨bA,bK,S1,S2,rfl,af,aF,_⟩:=h;intro c an;rcases mem_append.1 an with an|an
  .exact ao.qu d _ _ af c an
  .exact aX.qu ds _ _ aF c an
end
theorem uq {P:Program} {b o:Nat} {e:TypeId} {fr:Nat×Nat}:∀(vs:aff) (i:Nat) (cur:Array Value) (w:World) (l m r:aff),w.heap[b]? =some (.cells cur e fr)->mf fr cur.size->
  cur.toList=l++(m++r)->l.length=o+i->m.length=vs.length->(∀v∈vs,Value.fU v=true)->
  ∃aB,(storeCells ⟨b,o,none⟩ vs i).run P w= .ok () aB/\aB.heap[b]? =some (.cells (l++(vs++r)).toArray e fr)/\(∀c,c≠b->aB.heap[c]? =w.heap[c]?)/\aB.heap.size=w.heap.size/\aB.os=w.os/\aB.tape=w.tape/\Out aB w
 |[],i,cur,w,l,m,r,U,a8,an,hl,hm,_=>by
  refine⟨w,rfl,?_,λ_ _=>rfl,rfl,rfl,rfl,Out.refl _⟩;have:m=[]:=by simpa using hm
  subst this;rw[U];have:cur=(l++([]++r)).toArray:=by rw[<-an]
  rw[<-this]
 |v::vs,i,cur,w,l,m,r,U,a8,an,hl,hm,zv=>by
  obtain⟨x,m,rfl⟩:∃x ez,m=x::ez:=by cases m with
   |nil=>simp at hm
   |cons x m=>exact⟨x,m,rfl⟩
  have hlen:cur.size=(l++(x::m++r)).length:=by rw[<-an];simp
  have c5:o+i<cur.size:=by rw[hlen];simp;omega
  have zw:w.cell? ⟨b,o+i,none⟩=some cur[o+i]:=by simp[World.cell?,U,c5]
  have Pt:w.frozen? ⟨b,o+i,none⟩=false:=by
   have:=a8 (o+i) c5;simp only[World.frozen?,U];simp only[Bool.and_eq_false_iff,decide_eq_false_iff_not];by_cases ae:fr.1<=o+i
   .right;exact λaf=>this ⟨ae,af⟩
   .left;exact ae
  have rC:(w.setCell ⟨b,o+i,none⟩ v).heap[b]? =some (.cells ((l++[v])++(m++r)).toArray e fr):=by
   simp only[World.setCell,Array.getElem?_modify,if_true,U,map_some,isSome_none,Bool.false_eq_true,if_false];congr 2;apply Array.ext';rw[Array.toList_setIfInBounds,an,<-hl,set_append_right _ _ (Nat.le_refl _)];simp
  have qv:(store ((⟨b,o,none⟩:Addr).add i) v).run P w= .ok () (w.setCell ⟨b,o+i,none⟩ v):=by
   have ae:=zv v (by simp);rw[Addr.add_lit];cases v<;>first|(simp[Value.fU]at ae;done)|simp[Go.store,Sem.run,zw,Pt]
  obtain⟨aB,aV,ba,bT,c6,ea,gy,g9⟩:=uq (P:=P) (b:=b) (o:=o) vs (i+1) _ (w.setCell ⟨b,o+i,none⟩ v) (l++[v]) m r rC (by
   have:(l++[v]++(m++r)).toArray.size=cur.size:=by rw[hlen];simp
   rw[this];exact a8) (by simp) (by simp;omega) (by simpa using hm) (λu hu=>zv u (by simp[hu]))
  refine⟨aB,?_,by simpa using ba,λc an=>?_,?_,ea,gy,g9⟩
  .simp only[storeCells,Sem.run_bind,qv,Result.andThen];exact aV
  .rw[bT c an];simp only[World.setCell,Array.getElem?_modify];rw[if_neg (λe=>an e.symm)]
  .rw[c6];simp[World.setCell]
theorem sA {d:I} {v:Value} (h:dc d v) (ai:∀ay,d≠.tuple ay):v.cells=(bX v).toArray:=by
 cases d with
 |tuple ay=>exact(ai _ rfl).elim
 |agg ay=>obtain⟨arr,rfl⟩:=h;simp[Value.cells,bX,hj]
 |_=>
  have ae:Value.fU v=true:=h;rw[fX ae];cases v<;>first|rfl|(simp[Value.fU]at ae)
def gT (C:bH) (s:ak) (T:TypeId) (x y:I):Option ak:=
 match cr s y,loc s x with
 |some (d,s1),some (z,q)=>match d with
  | .tuple _=>none
  |d=>match I.sub q (s z)with
   |some d0=>if d.wd=d0.wd/\d.wd=(C.T T).sz/\(C.T T).ok=true/\y.owner≠some z then some (cg (e0 z s1) z (I.put q d (s z)))else none
   |none=>none
 |_,_=>none
theorem Im {s s1:ak} {y d:I} {z:Nat} (h:cr s y=some (d,s1)) (bF:(s z).tree=true) (a5:y.owner≠some z):s1 z=s z:=by
 cases y with
 |h x q=>
  simp only[cr]at h;split at h
  .split at h
   .cases h
   .simp only[some.injEq,Prod.mk.injEq]at h;obtain⟨_,rfl⟩:=h;rw[h2 _ _ (λe=>a5 (by rw[I.owner,e]))];exact CJ bF
  .cases h
 |au x q=>simp[cr]at h
 |U x q=>simp[cr]at h
 |fn f c=>simp[cr]at h
 |hole=>simp[cr]at h
 |_=>simp only[cr,some.injEq,Prod.mk.injEq]at h;rw[h.2]
theorem Pu (a9:C.dL) (h:bw w0 F0 X F S s aw w) {T:TypeId} {x y:I} {fD gh:Value} (sB:aG w F s aw x fD (λ_=>False)) (a5:y.plain=true) (wO:aG w F s aw y gh (λ_=>False))
  {s2:ak} (he:gT C s T x y=some s2):
  ∃aB aO,(Instr.storeAt T fD gh).run C.P w= .ok () aB/\bw w0 F0 X F aO s2 aw aB:=by
 unfold gT at he;split at he
 .rename_i d s1 z q aP hl;have key:∀d:I,(∀ay,d≠.tuple ay)->cr s y=some (d,s1)->(match I.sub q (s z)with
   |some d0=>if d.wd=d0.wd/\d.wd=(C.T T).sz/\(C.T T).ok=true/\y.owner≠some z then some (cg (e0 z s1) z (I.put q d (s z)))else none
   |none=>none)=some s2->∃aB aO,(Instr.storeAt T fD gh).run C.P w= .ok () aB/\bw w0 F0 X F aO s2 aw aB:=by
   intro d mZ aP he;split at he
   .rename_i d0 hP;split at he
    .rename_i oH;obtain⟨ae,af,aF,a1⟩:=oH;simp only[some.injEq]at he;subst he;obtain⟨i6,b7,b,o,rfl,hM⟩:=wM h sB hl hP;obtain⟨S1,fB,aV,ba,Sn,bT,c6,ea,gy,g9,kO⟩:=mW h a5 wO aP;have cO:s1 z=s z:=Im aP (gx hP (.inr i6)) a1;rw[<-cO]at hP i6 hM⊢;obtain⟨fk,eN,l,r,cur,e,fr,k0,bU,ch,dd,cW⟩:=fB.store hP i6 bT ae c6 ea gy g9;rw[hM]at k0;simp only[some.injEq,Prod.mk.injEq,true_and]at k0;obtain⟨rfl,rfl,rfl⟩:=k0;obtain⟨i,d,mX,aT,a3,aY,b1,cI,bQ,bL⟩:=a9.info aF;have hlen:=ao.length _ _ _ bT;have hm:b7.length=(bX gh).length:=by
      have lJ:=fB.cV z;rw[aG.cd (gx hP (.inr i6))]at lJ;obtain⟨_,_,_,_,i4,_,_,_,jS,_⟩:=ctx q (s1 z) (bX (aw z)) (S1 z) none _ lJ.2 hP;rw[hM]at i4;simp only[some.injEq,Prod.mk.injEq,true_and]at i4;rw[i4.1,ao.length _ _ _ jS,hlen,ae]
     obtain⟨aB,el,fJ,gU,jT,j9,lK,m0⟩:=uq (P:=C.P) (b:=b) (o:=l.length) (e:=e) (fr:=fr) (bX gh) 0 cur w l b7 r bU dd ch rfl hm (ao.qu _ _ _ bT);obtain⟨aO,ed⟩:=cW aB fJ gU jT j9 lK m0;refine⟨aB,aO,?_,ed⟩;have lL:=sA ba mZ;simp[Instr.storeAt,Instr.sureAddr,storeVar,iR aT,a3,lL,hlen,af,el]
    .cases he
   .cases he
  split at he
  .cases he
  .rename_i mZ;exact key _ (λay e=>mZ ay e) aP he
 .cases he
theorem bw.alloc (h:bw w0 F0 X F S s aw w) {d:I} {cs:aff} {Sn:Nat->Prop} (e:TypeId) (aH:ao w F d cs Sn)
  (c5:∀b,Sn b->b<w.heap.size) (bb:∀b,Sn b->¬F b) (bs:∀u b,Sn b->¬S u b) (bo:∀b,Sn b->X b\/w0.heap.size<=b):
  bw w0 F0 X F S s aw (w.alloc (.cells cs.toArray e))/\
   kq w0 X F S s aw (w.alloc (.cells cs.toArray e)) (.aK d) (.pointer (some ⟨w.heap.size,0,none⟩)):=by
 have hold:∀b,b<w.heap.size->(w.alloc (.cells cs.toArray e)).heap[b]? =w.heap[b]? :=by
  intro b U;show(w.heap.push _)[b]? =_;rw[Array.getElem?_push,if_neg (by omega)]
 refine⟨h.grow hold (by simp) rfl rfl ⟨rfl,λ_=>Nat.le_refl _⟩,.inr ⟨rfl,rfl,λb=>b=w.heap.size\/Sn b,?_,?_,?_,?_,?_⟩⟩
 .rw[ao];refine⟨w.heap.size,cs.toArray,e,(0,0),Sn,rfl,.inl rfl,?_,?_,?_,λc an=>.inr an,λan=>Nat.lt_irrefl _ (c5 _ an)⟩
  .show(w.heap.push _)[_]? =_;simp
  .intro o _ ⟨_,af⟩;exact absurd af (not_lt_zero _)
  .exact ao.frame (λb U=>hold b (h.fu b U)) _ _ _ (λb U=>hold b (c5 b U)) aH
 .rintro b (rfl|U)
  .simp
  .have:=c5 b U;simp;omega
 .rintro b (rfl|U) oI
  .exact Nat.lt_irrefl _ (h.fu _ oI)
  .exact bb b U oI
 .rintro u b (rfl|U) hu
  .exact Nat.lt_irrefl _ (h.ek _ _ hu)
  .exact bs u b U hu
 .rintro b (rfl|U)
  .exact .inr h.size
  .exact bo b U
def lM (C:bH) (T:TypeId):Option I:=if(C.T T).ok=true then(match(C.T T).k,(C.T T).zero with
    | .fl e,.agg [.db,.aN]=>some (.dm (.ht T e []))
    | .fl _,_=>none
    |_,z=>(match flat z with|some _=>some (.aK z)|none=>none))else none
theorem Pv (a9:C.dL) (h:bw w0 F0 X F S s aw w) {T:TypeId} (he:lM C T=some av):Good C w0 F0 X aw w (Instr.alloc T true (.tuple #[])) av s:=by
 unfold lM at he;split at he
 .rename_i aj;split at he
  .rename_i adv kt Pw;simp only[some.injEq]at he;subst he;obtain⟨i,d,z,aT,a3,aY,b1,cI,bQ,bL⟩:=a9.info aj;have bF:=cI [.pointer none,.slice none 0 0] (by rw[Pw];rfl);have hold:∀b,b<w.heap.size->(w.alloc (.cells #[.pointer none,.slice none 0 0] T)).heap[b]? =w.heap[b]? :=by
    intro b U;show(w.heap.push _)[b]? =_;rw[Array.getElem?_push,if_neg (by omega)]
   refine⟨.pointer (some ⟨w.heap.size,0,none⟩),w.alloc (.cells #[.pointer none,.slice none 0 0] T),F,S,?_,h.grow hold (by simp) rfl rfl ⟨rfl,λ_=>Nat.le_refl _⟩,.inr ⟨rfl,rfl,λb=>b=w.heap.size,?_,?_,?_,?_,?_⟩⟩
   .simp[Instr.alloc,rA aT b1,newVar,newRow,newObj,Sem.run,bF]
   .rw[ao];refine⟨w.heap.size,.pointer none,.slice none 0 0,rfl,rfl,?_,.inl rfl,.inl ⟨rfl,rfl⟩⟩;show(w.heap.push _)[_]? =_;simp
   .rintro b rfl;simp
   .rintro b rfl oI;exact Nat.lt_irrefl _ (h.fu _ oI)
   .rintro u b rfl hu;exact Nat.lt_irrefl _ (h.ek _ _ hu)
   .rintro b rfl;exact .inr h.size
  .cases he
  split at he
  .rename_i cs ho;simp only[some.injEq]at he;subst he;obtain⟨i,d,z,aT,a3,aY,b1,cI,bQ,bL⟩:=a9.info aj;have bF:=cI cs ho;obtain⟨dR,bx⟩:=h.alloc (d:=(C.T T).zero) T ((ao.flat _).1 _ cs (λ_=>False) (Nat.le_refl _) ho) (λ_ h=>h.elim) (λ_ h=>h.elim) (λ_ _ h=>h.elim) (λ_ h=>h.elim);refine⟨_,_,F,S,?_,dR,bx⟩;simp[Instr.alloc,rA aT b1,newVar,newRow,newObj,Sem.run,bF]
  .cases he
 .cases he
def g_ (s:ak) (x:I):Option (I×ak):=match cr s x with
 |some (.tuple _,_)=>none
 |some (d,s1)=>some (.aK d,s1)
 |none=>none
def zx:I->Bool
 | .agg ds=> !I.eb ds
 | .eY _ _=>true
 |_=>false
theorem Io {d:I} (h:zx d=true):d.plain=false/\∀ay,d≠.tuple ay:=by
 cases d with
 |agg ds=>simp only[zx,Bool.not_eq_true']at h;exact⟨by simp only[I.plain];exact h,λ_ e=>by cases e⟩
 |eY f c=>exact⟨rfl,λ_ e=>by cases e⟩
 |_=>cases h
def ic (s:ak) (x:I):Option (I×ak):=match x with
 | .h y q=>if q=[]/\zx (s y)=true then some (.U y 0,s)else none
 | .fn f caps=>if caps.all (λd=>d.single&&(d.tree&&d.plain))=true then some (.ref (.fn f caps),s)else none
 |_=>none
theorem aX.Ip {w:World} {F bC:Nat->Prop} {s:ak} {aw:Nat->Value} (bb:∀b,F b->bC b):∀(ds:afh) (vs:aff),(∀d∈ds,d.single=true/\d.tree=true/\d.plain=true)->dC w F s aw ds vs->aX w bC ds vs (λ_=>False)
 |[],vs,_,h=>by rw[dC]at h;rw[aX];exact h
 |d::ds,vs,aa,h=>by
  rw[dC]at h;obtain⟨v,jm,rfl,ae,af⟩:=h;obtain⟨d1,d2,d3⟩:=aa d (by simp);have aF:=(aG.cd d2).1 ae;have bO:Value.fU v=true:=by
   have:=aF.1;cases d<;>first|exact this|cases d1
  have a1:=aF.2;rw[fX bO]at a1;rw[aX];exact⟨[v],jm,λ_=>False,λ_=>False,rfl,ao.mono bb _ _ _ _ (λ_ h=>h) a1,aX.Ip bb ds jm (λx al=>aa x (by simp[al])) af,λ_ h=>h,λ_ h=>h,λ_ h=>h.elim⟩
theorem Px {T:TypeId} {v:Value} (h:bw w0 F0 X F S s aw w):bw w0 F0 X (λb=>F b\/b=w.heap.size) S s aw (w.alloc (.cells (bX v).toArray T)):=by
 have hold:∀b,b<w.heap.size->(w.alloc (.cells (bX v).toArray T)).heap[b]? =w.heap[b]? :=by
  intro b U;show(w.heap.push _)[b]? =_;rw[Array.getElem?_push,if_neg (by omega)]
 have ae:=h.grow hold (by simp) rfl rfl ⟨rfl,λ_=>Nat.le_refl _⟩;exact {
  g2:=λb U=>.inl (ae.g2 b U)
  hk:=λb U=>by
   rcases U with U|rfl
   .exact ae.hk b U
   .exact .inr (.inr h.size)
  fu:=λb U=>by
   rcases U with U|rfl
   .exact ae.fu b U
   .simp
  ek:=ae.ek
  fC:=λt b U a8=>by
   rcases a8 with a8|rfl
   .exact ae.fC t b U a8
   .exact absurd (h.ek t _ U) (Nat.lt_irrefl _)
  e9:=ae.e9
  c7:=ae.c7
  cV:=λt=>aG.frame (λ_ _=>rfl) (λb U=>.inl U) (λ_ _ _=>rfl) ae.cV _ _ _ (λ_ _=>rfl) (ae.cV t)
  old:=ae.old
  size:=ae.size
  os:=ae.os
  tape:=ae.tape
  output:=ae.output
  hn:=h.hn}
theorem Py (h:bw w0 F0 X F S s aw w) {T:TypeId} {x:I} {v:Value} (aH:aG w F s aw x v (λ_=>False)) (he:ic s x=some (av,s1)):
  Good C w0 F0 X aw w (Instr.box T v) av s1:=by
 unfold ic at he;split at he
 .rename_i y q;split at he
  .rename_i CW;obtain⟨rfl,Iq⟩:=CW
   .simp only[some.injEq,Prod.mk.injEq]at he;obtain⟨rfl,rfl⟩:=he;rw[aG]at aH;obtain⟨b7,a,aV,ba,bT⟩:=aH (s y) (by simp only[I.sub]) (Io Iq).1;simp only[cj,some.injEq,Prod.mk.injEq,true_and]at aV;have lL:=sA bT (Io Iq).2;have hold:∀b,b<w.heap.size->(w.alloc (.cells (bX v).toArray T)).heap[b]? =w.heap[b]? :=by
     intro b U;show(w.heap.push _)[b]? =_;rw[Array.getElem?_push,if_neg (by omega)]
    refine⟨.pointer (some ⟨w.heap.size,0,none⟩),w.alloc (.cells (bX v).toArray T),λb=>F b\/b=w.heap.size,S,by simp[Instr.box,newVar,newRow,newObj,Sem.run,lL],?_,.inl ⟨rfl,?_⟩⟩
    .have ae:=h.grow hold (by simp) rfl rfl ⟨rfl,λ_=>Nat.le_refl _⟩;exact {
      g2:=λb U=>.inl (ae.g2 b U)
      hk:=λb U=>by
       rcases U with U|rfl
       .exact ae.hk b U
       .exact .inr (.inr h.size)
      fu:=λb U=>by
       rcases U with U|rfl
       .exact ae.fu b U
       .simp
      ek:=ae.ek
      fC:=λt b U a8=>by
       rcases a8 with a8|rfl
       .exact ae.fC t b U a8
       .exact absurd (h.ek t _ U) (Nat.lt_irrefl _)
      e9:=ae.e9
      c7:=ae.c7
      cV:=λt=>aG.frame (λ_ _=>rfl) (λb U=>.inl U) (λ_ _ _=>rfl) ae.cV _ _ _ (λ_ _=>rfl) (ae.cV t)
      old:=ae.old
      size:=ae.size
      os:=ae.os
      tape:=ae.tape
      output:=ae.output
      hn:=h.hn}
    .rw[aG];intro _;refine⟨w.heap.size,(bX v).toArray,T,(0,0),rfl,.inr rfl,?_,?_⟩
     .show(w.heap.push _)[_]? =_;simp
     .rw[aV.1,<-ba]
  .cases he
 .rename_i f caps;split at he
  .rename_i an;simp only[some.injEq,Prod.mk.injEq]at he;obtain⟨rfl,rfl⟩:=he;have ho:∀d∈caps,d.single=true/\d.tree=true/\d.plain=true:=λd ai=>by
    have:=List.all_eq_true.1 an d ai;simpa only[Bool.and_eq_true]using this
   rw[aG]at aH;obtain⟨arr,rfl,aH⟩:=aH;have lL:=sA (d:=.fn f caps) (v:=.func (.func f) #[] arr) rfl (λay e=>by cases e);have bl:=Px (T:=T) (v:=.func (.func f) #[] arr) h;refine⟨.pointer (some ⟨w.heap.size,0,none⟩),w.alloc (.cells (bX (.func (.func f) #[] arr)).toArray T),λb=>F b\/b=w.heap.size,S,by simp[Instr.box,newVar,newRow,newObj,Sem.run,lL],bl,.inl ⟨rfl,?_⟩⟩;refine(aG.cd rfl).2 ⟨rfl,?_⟩;rw[ao];refine⟨w.heap.size,0,[.func (.func f) #[] arr],rfl,.inr rfl,?_,?_⟩
   .have mi:(w.alloc (.cells (bX (.func (.func f) #[] arr)).toArray T)).heap[w.heap.size]? =some (.cells (bX (.func (.func f) #[] arr)).toArray T (0,0)):=by
     show(w.heap.push _)[_]? =_;simp
    intro j c bZ;cases j with
    |zero=>
     simp only[getElem?_cons_zero,some.injEq]at bZ;subst bZ;have e:bX (.func (.func f) #[] arr)=[.func (.func f) #[] arr]:=fX rfl;unfold World.cell?;show(match(w.alloc (.cells (bX (.func (.func f) #[] arr)).toArray T)).heap[w.heap.size]? with
      |some (.cells c _ _)=>c[0+0]?
      |_=>none)=_
     rw[mi,e];rfl
    |succ j=>simp at bZ
   .rw[ao];refine⟨arr,rfl,λd ai=>(ho d ai).1,?_⟩;have bt:=aX.Ip (bC:=F) (λb U=>U) caps arr.toList ho aH;refine aX.mono (F:=F) (λb U=>.inl U) caps _ _ _ (λ_ h=>h) (aX.frame (λb U=>?_) caps _ _ (λ_ h=>h.elim) bt);have c5:=h.fu b U;show(w.heap.push _)[b]? =_;rw[Array.getElem?_push,if_neg (by omega)]
  .cases he
 .cases he
theorem Pz (h:bw w0 F0 X F S s aw w) {T:TypeId} {x:I} {v:Value} (al:x.plain=true) (aH:aG w F s aw x v (λ_=>False)) (he:g_ s x=some (av,s1)):
  Good C w0 F0 X aw w (Instr.box T v) av s1:=by
 unfold g_ at he;split at he
 .cases he
 .rename_i d s2 mZ aP;simp only[some.injEq,Prod.mk.injEq]at he;obtain⟨rfl,rfl⟩:=he;obtain⟨S1,fB,aV,ba,Sn,bT,c6,ea,gy,g9,kO⟩:=mW h al aH aP;obtain⟨dR,bx⟩:=fB.alloc T bT c6 ea gy g9;refine⟨_,_,F,S1,?_,dR,bx⟩;have lL:=sA ba (λay e=>mZ ay e);simp[Instr.box,newVar,newRow,newObj,Sem.run,lL]
 .cases he
end
end Go.c3
