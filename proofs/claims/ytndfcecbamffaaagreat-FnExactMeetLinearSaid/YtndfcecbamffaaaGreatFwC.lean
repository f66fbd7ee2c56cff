/- Part of a proof that a law returns true for every input. No condition. -/
import Derived.Test.YtndfcecbamffaaaGreatFwB
import Derived.Laws.Entries
namespace Go.dD
open List Option Go.IntKind Nat Or
inductive mO where
 |int (k:IntKind)
 |bool
 |str
 |ptr (e:TypeId)
 |slice (e:TypeId)
 |struct (aG:List (TypeId×Nat))
 |fn
 |d_ (e:TypeId)
 |map (k e:TypeId)
 |other
structure gD where
 k:mO
 sz:Nat
 bytes:Nat
 zero:I
mutual
def flat:I->Option ahF
 | .bool b=>some [.bool b]
 | .int k n=>some [.int k n]
 | .str s=>some [.string ⟨⟨s⟩⟩]
 | .dM=>some [.pointer none]
 | .ah=>some [.slice none 0 0]
 | .agg aG=>rp aG
 | .dN .h6=>some [.map none]
 |_=>none
def rp:ahI->Option ahF
 |[]=>some []
 |d::ds=>match flat d,rp ds with
  |some a,some b=>some (a++b)
  |_,_=>none
end
theorem ay.flat {w:World} {F:Nat->Prop}:∀n,(∀(d:I) (cs:ahF) (S:Nat->Prop),SizeOf.sizeOf d<=n->flat d=some cs->ay w F d cs S)/\
  (∀(ds:ahI) (cs:ahF) (S:Nat->Prop),SizeOf.sizeOf ds<=n->rp ds=some cs->bh w F ds cs S):=by
 intro n;induction n with
 |zero=>exact⟨λd _ _ b3=>by cases d<;>simp at b3<;>omega,λds _ _ b3=>by cases ds<;>simp at b3<;>omega⟩
 |succ n ih=>
  refine⟨λd cs S b3 h=>?_,λds cs S b3 h=>?_⟩
  .cases d with
   |agg aG=>rw[ay];exact ih.2 aG cs S (by simp at b3;omega) (by simpa [dD.flat]using h)
   |bool b=>simp[dD.flat]at h;subst h;rw[ay]
   |int k n=>simp[dD.flat]at h;subst h;rw[ay]
   |str s=>simp[dD.flat]at h;subst h;rw[ay]
   |dM=>simp[dD.flat]at h;subst h;rw[ay]
   |ah=>simp[dD.flat]at h;subst h;rw[ay]
   |dN o=>cases o<;>simp[dD.flat]at h;subst h;rw[ay];rfl
   |_=>simp[dD.flat]at h
  .cases ds with
   |nil=>simp[rp]at h;subst h;rw[bh]
   |cons d ds=>
    simp only[rp]at h;split at h
    .rename_i a b bY U;simp at h;subst h;simp at b3;rw[bh];exact⟨a,b,λ_=>False,λ_=>False,rfl,ih.1 d a _ (by omega) bY,ih.2 ds b _ (by omega) U,λ_ h=>h.elim,λ_ h=>h.elim,λ_ h=>h.elim⟩
    .cases h
def lR:mO->TypeDesc->Prop
 | .int k,.int c7=>k=c7
 | .bool,.bool=>True
 | .str,.string=>True
 | .ptr e,.pointer dJ=>e=dJ
 | .slice e,.slice dJ=>e=dJ
 | .struct aG,.struct gs=>gs.toList.map (λg=>(g.type,g.offset))=aG
 | .fn,.func _ _ _=>True
 | .d_ _,.struct _=>True
 | .map k e,.map c7 dJ=>k=c7/\e=dJ
 |_,_=>False
def JV (P:Program) (t:TypeId) (x:gD):Prop:=
 (∃e n b z,x=⟨.other,e,n,b⟩/\z=0)\/
 ∃i d z,P.info? t=some i/\i.size=x.sz/\i.bytes=x.bytes/\i.zero=some z/\(∀cs,flat x.zero=some cs->z.cells=cs.toArray)/\P.underlying t=some d/\lR x.k d
structure bV where
 P:Program
 T:TypeId->gD
 M:FuncId->List Bool
structure bV.eN (C:bV):Prop where
 ty:∀t,JV C.P t (C.T t)
 mixed:C.P.follows .mixedOrders=true
inductive bn where
 |t (n:Nat)
 |c (av:I)
 |f (g:FuncId)
def AS:Value->Option I
 | .bool b=>some (.bool b)
 | .int k n=>some (.int k n)
 | .string s=>some (.str s.data.toList)
 | .pointer none=>some .dM
 | .slice none 0 0=>some .ah
 |_=>none
def dE:Operand->Option bn
 | .tmp n=>some (.t n)
 | .const v=>(AS v).map .c
 | .func g=>some (.f g)
 | .global _=>none
def qz (x:Nat) (d:I):I:=if d.plain then d else .h x []
def br (s:ao):bn->I
 | .t n=>qz n (s n)
 | .c av=>av
 | .f g=>.fn g []
theorem aO.nothing {w:World} {F:Nat->Prop} {s:ao} {aF:Nat->Value} {d:I} {v:Value} {S aS:Nat->Prop} (aw:d.plain=true) (h:aO w F s aF d v S):aO w F s aF d v aS:=by
 cases d<;>first
  |(rw[aO];trivial)
  |(rw[aO]at h⊢;exact h)
  |(have bO:=(aO.cI rfl).1 h;exact(aO.cI rfl).2 ⟨bO.1,ay.plain _ _ _ _ aw bO.2⟩)
section
variable {w0 w:World} {F0 X F:Nat->Prop} {S:Nat->Nat->Prop} {s:ao} {aF:Nat->Value} {a:Act}
theorem JW (s:ao) (x:bn) (aC:∀av,x= .c av->av.plain=true):(br s x).plain=true:=by
 cases x with
 |t n=>simp only[br,qz];split<;>first|assumption|rfl
 |c av=>exact aC _ rfl
 |f g=>rfl
theorem Ea {v:Value} {av:I} (h:AS v=some av):av.plain=true:=by
 unfold AS at h;split at h<;>simp at h<;>subst h<;>rfl
theorem fA (h:bK w0 F0 X F S s aF w) (ea:∀t,aF t=a.tmps.getD t undef) {o:Operand} {x:bn} (b_:dE o=some x):
  (br s x).plain=true/\aO w F s aF (br s x) (a.eval o) (λ_=>False):=by
 cases o with
 |tmp n=>
  simp[dE]at b_;subst b_;simp only[br,qz,Act.eval,<-ea];split
  .rename_i aw;exact⟨aw,aO.nothing aw (h.dz n)⟩
  .rename_i aw;refine⟨rfl,?_⟩;rw[aO];intro d al Ru;simp only[I.sub,some.injEq]at al;subst al;have aZ:=h7 (q:=[]) rfl (.inl Ru);exact⟨_,none,rfl,rfl,((aO.cI aZ).1 (h.dz n)).1⟩
 |const v=>
  simp only[dE,map_eq_some_iff]at b_;obtain⟨av,pw,rfl⟩:=b_;refine⟨Ea pw,?_⟩;simp only[br,Act.eval];unfold AS at pw;split at pw<;>simp at pw<;>subst pw<;>rw[aO,ay]<;>exact⟨rfl,rfl⟩
 |func g=>
  simp[dE]at b_;subst b_;refine⟨rfl,?_⟩;simp only[br,Act.eval];rw[aO];exact⟨#[],rfl,by rw[ef]⟩
 |global g=>simp[dE]at b_
def lz (w0:World) (X F:Nat->Prop) (S:Nat->Nat->Prop) (s:ao) (aF:Nat->Value) (w:World) (av:I) (v:Value):Prop:=
 (av.plain=true/\aO w F s aF av v (λ_=>False))\/
 (av.tree=true/\dy av v/\∃Sn,ay w F av (ct v) Sn/\(∀b,Sn b->b<w.heap.size)/\(∀b,Sn b->¬F b)/\(∀u b,Sn b->¬S u b)/\(∀b,Sn b->X b\/w0.heap.size<=b))
def fin (s:ao) (dst:Option Nat) (av:I):ao:=match dst with
 |none=>s
 |some t=>if av.plain then cY s t av else cY (kR t s) t av
def px (aF:Nat->Value) (dst:Option Nat) (v:Value):Nat->Value:=match dst with
 |none=>aF
 |some t=>cY aF t v
theorem bK.fin (h:bK w0 F0 X F S s aF w) {av:I} {v:Value} (aP:lz w0 X F S s aF w av v) (dst:Option Nat):
  ∃aS,bK w0 F0 X F aS (dD.fin s dst av) (px aF dst v) w:=by
 cases dst with
 |none=>exact⟨S,h⟩
 |some t=>
  simp only[dD.fin,px];rcases aP with⟨aw,al⟩|⟨aZ,ae,Sn,af,ag,aJ,a_,bC⟩
  .rw[if_pos aw];exact⟨_,h.rn aw al⟩
  .split
   .rename_i aw;exact⟨_,h.rn aw ((aO.cI aZ).2 ⟨ae,ay.plain _ _ _ _ aw af⟩)⟩
   .exact⟨_,h.AR aZ ae af ag aJ (λu b _ U=>a_ u b U) bC⟩
def cV (s:ao):I->Option (I×ao)
 | .h x q=>match I.sub q (s x)with
   |some d=>if d.plain then none else some (d,cY (hV x s) x (I.put q d.cZ (s x)))
   |none=>none
 | .aw _ _=>none
 | .U _ _=>none
 | .fn _ _=>none
 | .hole=>none
 |d=>some (d,s)
def I.owner:I->Option Nat
 | .h x _=>some x
 |_=>none
def k9:Option Nat->I->I
 |some x,d=>cp x d
 |none,d=>d
theorem py (h:bK w0 F0 X F S s aF w) {av d:I} {s1:ao} {v:Value} (pw:av.plain=true) (aP:aO w F s aF av v (λ_=>False)) (aZ:cV s av=some (d,s1)):
  ∃ck,bK w0 F0 X F ck s1 aF w/\d.tree=true/\dy d v/\∃Sn,ay w F d (ct v) Sn/\(∀b,Sn b->b<w.heap.size)/\(∀b,Sn b->¬F b)/\(∀u b,Sn b->¬ck u b)/\(∀b,Sn b->X b\/w0.heap.size<=b)/\
   (∀u b,ck u b->S u b)/\(∀b,Sn b->∃u,S u b)/\(∀(bz:I) (e4:Value) (aS:Nat->Prop),aO w F s aF bz e4 aS->aO w F s1 aF (k9 av.owner bz) e4 aS):=by
 have tree:∀d:I,d.tree=true->d.plain=true->aO w F s aF d v (λ_=>False)->
   ∃ck,bK w0 F0 X F ck s aF w/\d.tree=true/\dy d v/\∃Sn,ay w F d (ct v) Sn/\(∀b,Sn b->b<w.heap.size)/\(∀b,Sn b->¬F b)/\(∀u b,Sn b->¬ck u b)/\(∀b,Sn b->X b\/w0.heap.size<=b)/\
    (∀u b,ck u b->S u b)/\(∀b,Sn b->∃u,S u b):=by
  intro d al _ bO;have bO:=(aO.cI al).1 bO;exact⟨S,h,al,bO.1,_,bO.2,λ_ h=>h.elim,λ_ h=>h.elim,λ_ _ h=>h.elim,λ_ h=>h.elim,λ_ _ h=>h,λ_ h=>h.elim⟩
 cases av with
 |h x q=>
  simp only[cV]at aZ;split at aZ
  .rename_i e he;split at aZ
   .cases aZ
   .rename_i aw;simp only[some.injEq,Prod.mk.injEq]at aZ;obtain⟨rfl,rfl⟩:=aZ;have aw:e.plain=false:=by simpa using aw
    obtain⟨Sn,fy,cO,cj,dZ,bD,dS,cG,c1,c8,eR⟩:=h.take he aw;rw[aO]at aP;obtain⟨afW,aB,aX,bk,ca⟩:=aP e he aw;rw[bD]at aX;simp only[some.injEq,Prod.mk.injEq,true_and]at aX;obtain⟨rfl,rfl⟩:=aX;have Eb:e.tree=true:=by cases e<;>first|rfl|(simp[I.plain]at aw)
    refine⟨_,dZ,Eb,ca,fy,by rw[bk];exact dS,λb U=>h.et x b (cG b U),λb U=>h.fS x b (cG b U),?_,λb U=>h.dI x b (cG b U),?_,λb U=>⟨x,cG b U⟩,eR⟩
    .intro u b U hu;simp only[gm]at hu;split at hu
     .exact c8 b U hu
     .rename_i Rv;exact h.fe u x b Rv hu (cG b U)
    .intro u b hu;simp only[gm]at hu;split at hu
     .rename_i e;subst e;exact c1 b hu
     .exact hu
  .cases aZ
 |aw x q=>simp[cV]at aZ
 |U x q=>simp[cV]at aZ
 |fn f c=>simp[cV]at aZ
 |hole=>simp[cV]at aZ
 |ad sz xs=>simp[I.plain]at pw
 |ai d=>simp[I.plain]at pw
 |_=>
  simp only[cV,some.injEq,Prod.mk.injEq]at aZ;obtain⟨rfl,rfl⟩:=aZ;obtain⟨ck,t1,t2,t3,Sn,t4,t5,t6,t7,t8,t9,t10⟩:=tree _ rfl pw aP;exact⟨ck,t1,t2,t3,Sn,t4,t5,t6,t7,t8,t9,t10,λ_ _ _ h=>h⟩
def loc (s:ao):I->Option (Nat×ahC)
 | .h x q=>match I.sub q (s x)with
   |some (.ai _)=>some (x,q++[0])
   |_=>none
 | .aw x q=>if I.fU q (s x)then some (x,q)else none
 |_=>none
theorem ya:∀(q:ahC) (av d:I) (r:ahC),I.sub q av=some d->I.sub (q++r) av=I.sub r d:=by
 intro q;induction q with
 |nil=>intro av d r h;simp[I.sub]at h;subst h;rfl
 |cons k q ih=>
  intro av d r h;cases av with
  |agg aG=>
   simp only[I.sub,cons_append]at h⊢;split at h
   .rename_i x aA;exact ih _ _ _ h
   .cases h
  |tuple aG=>
   simp only[I.sub,cons_append]at h⊢;split at h
   .rename_i x aA;exact ih _ _ _ h
   .cases h
  |ad sz aG=>
   simp only[I.sub,cons_append]at h⊢;split at h
   .rename_i x aA;exact ih _ _ _ h
   .cases h
  |ai x=>
   cases k with
   |zero=>simp only[I.sub,cons_append]at h⊢;exact ih _ _ _ h
   |succ k=>simp[I.sub]at h
  |_=>simp[I.sub]at h
theorem Rw:∀(q:ahC) (av d:I) (r:ahC),I.sub q av=some d->I.fU (q++r) av=(I.fU q av||I.fU r d):=by
 intro q;induction q with
 |nil=>intro av d r h;simp[I.sub]at h;subst h;simp[I.fU]
 |cons k q ih=>
  intro av d r h;cases av with
  |agg aG=>
   simp only[I.sub]at h;split at h
   .rename_i x aA;simp only[I.fU,cons_append,aA];exact ih _ _ r h
   .cases h
  |tuple aG=>
   simp only[I.sub]at h;split at h
   .rename_i x aA;simp only[I.fU,cons_append,aA];exact ih _ _ r h
   .cases h
  |ad sz aG=>simp[I.fU]
  |ai x=>simp[I.fU]
  |_=>simp[I.sub]at h
theorem yb (w:World):∀(q:ahC) (av d:I) (cs cO:ahF) (a cj:Option (Nat×Nat)) (r:ahC),dh w q av cs a=some (d,cO,cj)->dh w (q++r) av cs a=dh w r d cO cj:=by
 intro q;induction q with
 |nil=>intro av d cs cO a cj r h;simp[dh]at h;obtain⟨rfl,rfl,rfl⟩:=h;rfl
 |cons k q ih=>
  intro av d cs cO a cj r h;cases av with
  |agg aG=>
   rw[cons_append];rw[dh]at h⊢;split at h
   .rename_i x aA;exact ih _ _ _ _ _ _ _ h
   .cases h
  |tuple aG=>
   rw[cons_append];rw[dh]at h⊢;split at h
   .rename_i x aA;exact ih _ _ _ _ _ _ _ h
   .cases h
  |ad sz aG=>
   rw[cons_append];rw[dh.eq_def]at h⊢;simp only at h⊢;split at h
   .exact ih _ _ _ _ _ _ _ h
   .cases h
  |ai x=>
   cases k with
   |zero=>
    rw[cons_append];rw[dh.eq_def]at h⊢;simp only at h⊢;split at h
    .exact ih _ _ _ _ _ _ _ h
    .cases h
   |succ k=>rw[show dh w ((k+1)::q) (.ai x) cs a=none from rfl]at h;cases h
  |_=>simp[dh]at h
end
def gD.ok (x:gD):Bool:=match x.k with
 | .other=>false
 |_=>true
theorem bV.eN.info {C:bV} (bx:C.eN) {t:TypeId} (h:(C.T t).ok=true):
  ∃i d z,C.P.info? t=some i/\i.size=(C.T t).sz/\i.bytes=(C.T t).bytes/\i.zero=some z/\(∀cs,flat (C.T t).zero=some cs->z.cells=cs.toArray)/\C.P.underlying t=some d/\lR (C.T t).k d:=by
 rcases bx.ty t with⟨e,n,b,z,aA,_⟩|bO
 .rw[aA]at h;simp[gD.ok]at h
 .exact bO
theorem gi {x:gD} {k:mO} (h:x.k=k) (au:k≠.other):x.ok=true:=by
 unfold gD.ok;rw[h];cases k<;>first|rfl|exact(au rfl).elim
theorem yc {d:TypeDesc} {aG:List (TypeId×Nat)} (h:lR (.struct aG) d):∃gs,d= .struct gs/\gs.toList.map (λg=>(g.type,g.offset))=aG:=by
 cases d<;>simp[lR]at h;exact⟨_,rfl,h⟩
theorem lS {d:TypeDesc} {e:TypeId} (h:lR (.slice e) d):d= .slice e:=by
 cases d<;>simp[lR]at h;rw[h]
theorem yd {d:TypeDesc} {k:IntKind} (h:lR (.int k) d):d= .int k:=by
 cases d<;>simp[lR]at h;rw[h]
theorem qA {d:TypeDesc} (h:lR .str d):d= .string:=by
 cases d<;>simp[lR]at h;rfl
theorem Ec {d:TypeDesc} (h:lR .bool d):d= .bool:=by
 cases d<;>simp[lR]at h;rfl
theorem JX {d:TypeDesc} {e:TypeId} (h:lR (.ptr e) d):d= .pointer e:=by
 cases d<;>simp[lR]at h;rw[h]
theorem gj {v:Value} (h:Value.fN v=true):ct v=[v]:=by
 cases v<;>first|rfl|(simp[Value.fN]at h)
theorem t_ {P:Program} {t:TypeId} {i:TypeInfo} (h:P.info? t=some i) (w:World):(typeInfo t).run P w= .ok i w:=by simp[typeInfo,h]
theorem kS {P:Program} {t:TypeId} {i:TypeInfo} (h:P.info? t=some i) (w:World):(Go.sizeOf t).run P w= .ok i.size w:=by simp[Go.sizeOf,t_ h]
theorem ua {P:Program} {t:TypeId} {i:TypeInfo} {z:Value} (h:P.info? t=some i) (b3:i.zero=some z) (w:World):(zeroValue t).run P w= .ok z w:=by simp[zeroValue,t_ h,b3]
section
variable {C:bV} {w0 w:World} {F0 X F:Nat->Prop} {S:Nat->Nat->Prop} {s s1:ao} {aF:Nat->Value} {av:I}
def Good (C:bV) (w0:World) (F0 X:Nat->Prop) (aF:Nat->Value) (w:World) (m:Sem Value) (av:I) (s1:ao):Prop:=
 ∃v aK bJ aS,m.run C.P w= .ok v aK/\bK w0 F0 X bJ aS s1 aF aK/\lz w0 X bJ aS s1 aF aK av v
theorem Good.same (h:bK w0 F0 X F S s aF w) {m:Sem Value} {v:Value} (aV:m.run C.P w= .ok v w) (aw:av.plain=true) (aP:aO w F s aF av v (λ_=>False)):Good C w0 F0 X aF w m av s:=
 ⟨v,w,F,S,aV,h,.inl ⟨aw,aP⟩⟩
theorem Ed (_h:bK w0 F0 X F S s aF w) {x:I} {v:Value} (aP:aO w F s aF x v (λ_=>False)) {y:Nat} {q:ahC} (hl:loc s x=some (y,q)) {d:I} (al:I.sub q (s y)=some d):
  I.fU q (s y)=true/\∃cO b o,v= .pointer (some ⟨b,o,none⟩)/\dh w q (s y) (ct (aF y)) none=some (d,cO,some (b,o)):=by
 cases x with
 |h z AU=>
  simp only[loc]at hl;split at hl
  .rename_i e he;simp only[some.injEq,Prod.mk.injEq]at hl;obtain⟨rfl,rfl⟩:=hl;rw[aO]at aP;obtain⟨cO,a,aX,bk,ca⟩:=aP _ he rfl;have hn:e=d:=by
    rw[ya _ _ _ _ he]at al;simpa [I.sub]using al
   subst hn;refine⟨by rw[Rw _ _ _ _ he];simp[I.fU],?_⟩;have af:Value.fN v=true:=ca;rw[gj af]at bk;subst bk;have kx:=yb w AU (s z) _ _ _ none a [0] aX;have aA:=_h.dz z;rw[aO.cI (h7 he (.inl rfl))]at aA;obtain⟨gh,cj,ei,fy,k0,cv,cK,eJ,cU,fq⟩:=ctx AU (s z) (ct (aF z)) (S z) none _ aA.2 he;rw[k0]at aX;simp only[some.injEq,Prod.mk.injEq,true_and]at aX;obtain⟨rfl,rfl⟩:=aX;rw[ay]at cU;obtain⟨b,cur,bc,fr,dq,bb,_⟩:=cU;simp only[cons.injEq,and_true]at bb;subst bb;exact⟨_,b,0,rfl,by rw[kx];rfl⟩
  .cases hl
 |aw z AU=>
  simp only[loc]at hl;split at hl
  .rename_i aC;simp only[some.injEq,Prod.mk.injEq]at hl;obtain⟨rfl,rfl⟩:=hl;rw[aO]at aP;obtain⟨cO,b,o,aX,bk⟩:=aP _ al aC;exact⟨aC,cO,b,o,bk,aX⟩
  .cases hl
 |_=>simp[loc]at hl
def gZ (C:bV) (s:ao) (T:TypeId) (x:I) (k:Nat):Option I:=
 match(C.T T).k with
 | .struct aG=>match aG[k]? with
   |some (jJ,off)=>if(C.T jJ).ok=true/\(C.T jJ).sz≠0 then
     match x with
     | .ref (.agg ds)=>match ds[k]? with
       |some d=>if I.dO (ds.take k)=off then some (.ref d)else none
       |none=>none
     | .U y o=>if(s y).plain then none else some (.U y (o+off))
     |x=>match loc s x with
      |some (y,q)=>match I.sub q (s y)with
       |some (.agg ds)=>if k<ds.length/\I.dO (ds.take k)=off then some (.aw y (q++[k]))else none
       |_=>none
      |none=>none
    else none
   |none=>none
 |_=>none
theorem hk.AV {w:World} {b o:Nat} {b1 fO cd:ahF} (h:hk w b o (b1++(fO++cd))):hk w b (o+b1.length) fO:=by
 intro az c ch;have en:az<fO.length:=(List.getElem?_eq_some_iff.1 ch).1;have:=h (b1.length+az) c (by rw[getElem?_append_right (by omega),getElem?_append_left (by omega),<-ch];congr 1;omega);rw[Nat.add_assoc];exact this
theorem AW (bx:C.eN) {T jJ:TypeId} {aG:List (TypeId×Nat)} {k off:Nat} (au:(C.T T).k= .struct aG) (bS:aG[k]? =some (jJ,off)) (af:(C.T jJ).ok=true) (ag:(C.T jJ).sz≠0) (b o:Nat) (w:World):
  (Instr.fieldAt T (.pointer (some ⟨b,o,none⟩)) k).run C.P w= .ok (.pointer (some ⟨b,o+off,none⟩)) w:=by
 obtain⟨i,d,z,a1,bc,bb,cl,cR,b0,b7⟩:=bx.info (gi au (by simp));rw[au]at b7;obtain⟨gs,rfl,hW⟩:=yc b7;obtain⟨rq,bz,rr,f1,f2,f3,f4,f5,f6,f7⟩:=bx.info af;have bP:∃g,gs[k]? =some g/\g.type=jJ/\g.offset=off:=by
  rw[<-hW,getElem?_map]at bS;simp only[map_eq_some_iff,Prod.mk.injEq]at bS;obtain⟨g,af,ag,aJ⟩:=bS;exact⟨g,by simpa using af,ag,aJ⟩
 obtain⟨g,aX,rfl,rfl⟩:=bP;simp[Instr.fieldAt,run_underlying b0,aX,Instr.sureAddr,fieldPlace,kS f1,f2,ag,Addr.add_lit]
theorem Rx (bx:C.eN) (h:bK w0 F0 X F S s aF w) {T:TypeId} {x:I} {v:Value} {k:Nat} (aA:x.plain=true) (aP:aO w F s aF x v (λ_=>False)) (he:gZ C s T x k=some av):
  Good C w0 F0 X aF w (Instr.fieldAt T v k) av s:=by
 unfold gZ at he;split at he
 .rename_i aG au;split at he
  .rename_i jJ off bS;split at he
   .rename_i vK;split at he
    .rename_i ds;split at he
     .rename_i d al;split at he
      .rename_i oG;simp only[some.injEq]at he;subst he;have mP:=(aO.cI rfl).1 aP;rw[ay]at mP;obtain⟨ae,b,o,eA,af,ag,aJ,a_⟩:=mP;rw[gj ae]at af;simp only[cons.injEq,and_true]at af;subst af;rw[ay]at a_;obtain⟨b1,fO,cd,ck,hU,rfl,g_,fp,fP,ha,e9,mu⟩:=bh.pick ds _ _ k d a_ al;refine Good.same h (AW bx au bS vK.1 vK.2 b o w) rfl ((aO.cI rfl).2 ⟨rfl,?_⟩);rw[ay];refine⟨b,o+off,fO,rfl,ag,?_,ay.mono (λ_ h=>h) _ _ _ _ (λb U=>fP b U) e9⟩;rw[<-oG,<-g_];exact aJ.AV
      .cases he
     .cases he
    .rename_i y o;split at he
     .cases he
     .rename_i aw;simp only[some.injEq]at he;subst he;rw[aO]at aP;obtain⟨b,cur,e,fr,rfl,ag,aJ,a_⟩:=aP (by simpa using aw);refine Good.same h (AW bx au bS vK.1 vK.2 b o w) rfl ?_;rw[aO];exact λ_=>⟨b,cur,e,fr,rfl,ag,aJ,a_⟩
    .rename_i x _ _;split at he
     .rename_i y q hl;split at he
      .rename_i ds al;split at he
       .rename_i oG;simp only[some.injEq]at he;subst he;obtain⟨aC,cO,b,o,rfl,kx⟩:=Ed h aP hl al;refine Good.same h (AW bx au bS vK.1 vK.2 b o w) rfl ?_;rw[aO];intro d2 iA lT;rw[yb w q _ _ _ _ _ _ [k] kx];rw[ya _ _ _ _ al]at iA;have pz:∃d3,ds[k]? =some d3:=⟨_,getElem?_eq_getElem oG.1⟩
        obtain⟨d3,ye⟩:=pz;simp only[I.sub,ye,some.injEq]at iA;subst iA;simp only[dh,ye];refine⟨(cO.drop off).take d3.wd,b,o+off,?_,rfl⟩;rw[oG.2];rfl
       .cases he
      .cases he
     .cases he
   .cases he
  .cases he
 .cases he
def jr (C:bV) (s:ao) (T:TypeId) (x i:I):Option I:=
 match(C.T T).k,i with
 | .slice e,.int _ n=>if 0<=n/\(C.T e).ok=true then
   match x with
   | .slice xs=>match xs[n.toNat]? with
     |some d=>if d.wd=(C.T e).sz then some (.ref d)else none
     |none=>none
   | .h y q=>match I.sub q (s y)with
     |some (.ad sz xs)=>if n.toNat<xs.length/\sz=(C.T e).sz then some (.aw y (q++[n.toNat]))else none
     |_=>none
   |_=>none
   else none
 |_,_=>none
theorem JY (bx:C.eN) {T e:TypeId} (au:(C.T T).k= .slice e) (he:(C.T e).ok=true) (b o len cap:Nat) (k:IntKind) (n:Nat) (ba:n<len) (w:World):
  (Instr.indexAt T (.slice (some ⟨b,o,none⟩) len cap) (.int k n)).run C.P w= .ok (.pointer (some ⟨b,o+n*(C.T e).sz,none⟩)) w:=by
 obtain⟨i,d,z,a1,bc,bb,cl,cR,b0,b7⟩:=bx.info (gi au (by simp));rw[au]at b7;have:=lS b7;subst this;obtain⟨rq,bz,rr,f1,f2,f3,f4,f5,f6,f7⟩:=bx.info he;simp[Instr.indexAt,run_underlying b0,asIntOf,ba,kS f1,f2,Addr.add_lit]
theorem Ry (bx:C.eN) (h:bK w0 F0 X F S s aF w) {T:TypeId} {x i:I} {v oH:Value} (aP:aO w F s aF x v (λ_=>False)) (Rz:aO w F s aF i oH (λ_=>False))
  (he:jr C s T x i=some av):Good C w0 F0 X aF w (Instr.indexAt T v oH) av s:=by
 unfold jr at he;split at he
 .rename_i e k n au;have Ee:=(aO.cI rfl).1 Rz;rw[ay,gj Ee.1]at Ee;have:oH= .int k n:=by simpa using Ee.2
  subst this;split at he
  .rename_i ba;obtain⟨n,rfl⟩:=Int.eq_ofNat_of_zero_le ba.1;simp only[Int.toNat_natCast]at he;split at he
   .rename_i xs;split at he
    .rename_i d al;split at he
     .rename_i hw;simp only[some.injEq]at he;subst he;have mP:=(aO.cI rfl).1 aP;rw[ay,gj mP.1]at mP;obtain⟨ae,⟨rfl,_⟩|⟨b,o,cap,eA,sz,af,ag,aJ,a_,bC,cw,cQ⟩⟩:=mP
      .simp at al
      .simp only[cons.injEq,and_true]at af;subst af;have en:n<xs.length:=(List.getElem?_eq_some_iff.1 al).1;obtain⟨b1,fO,cd,ck,hU,rfl,g_,fp,fP,ha,e9,mu⟩:=bh.pick xs _ _ n d cQ al;refine Good.same h (JY bx au ba.2 b o _ _ k n en w) rfl ((aO.cI rfl).2 ⟨rfl,?_⟩);rw[ay];refine⟨b,_,fO,rfl,ag,?_,ay.mono (λ_ h=>h) _ _ _ _ (λb U=>fP b U) e9⟩;have RA:=bC d (mem_of_getElem? al);have:n*(C.T e).sz=b1.length:=by
        rw[g_,tV _ (λd al=>bC d (mem_of_mem_take al)),length_take,Nat.min_eq_left (by omega),<-hw,RA]
       rw[this];exact cw.AV
     .cases he
    .cases he
   .rename_i y q;split at he
    .rename_i sz xs al;split at he
     .rename_i hw;simp only[some.injEq]at he;subst he;rw[aO]at aP;obtain⟨cO,a,aX,bk,ca⟩:=aP _ al rfl;have ae:Value.fN v=true:=ca;rw[gj ae]at bk;subst bk;have aA:=h.dz y;rw[aO.cI (h7 al (.inl rfl))]at aA;obtain⟨gh,cj,ei,fy,k0,cv,cK,eJ,cU,fq⟩:=ctx q (s y) (ct (aF y)) (S y) none _ aA.2 al;rw[k0]at aX;simp only[some.injEq,Prod.mk.injEq,true_and]at aX;obtain⟨rfl,rfl⟩:=aX;rw[ay]at cU;rcases cU with⟨rfl,_⟩|⟨b,cap,cur,bc,fr,dq,bb,_⟩
      .simp at hw
      .simp only[cons.injEq,and_true]at bb;subst bb;refine Good.same h (JY bx au ba.2 b 0 _ _ k n hw.1 w) rfl ?_;rw[aO];intro d2 iA _;rw[yb w q _ _ _ _ _ _ [n] k0];rw[ya _ _ _ _ al]at iA;obtain⟨d3,ye⟩:∃d3,xs[n]? =some d3:=⟨_,getElem?_eq_getElem hw.1⟩
       simp only[I.sub,ye,some.injEq]at iA;subst iA;simp only[dh,ye];exact⟨_,b,n*sz,rfl,by simp[hw.2]⟩
     .cases he
    .cases he
   .cases he
  .cases he
 .cases he
end
section
variable {C:bV} {w0 w:World} {F0 X F:Nat->Prop} {S:Nat->Nat->Prop} {s s1:ao} {aF:Nat->Value} {av:I}
theorem JZ (bx:C.eN) {T:TypeId} {aG:List (TypeId×Nat)} (au:(C.T T).k= .struct aG) (w:World):(isAgg T).run C.P w= .ok true w:=by
 obtain⟨i,d,z,a1,bc,bb,cl,cR,b0,b7⟩:=bx.info (gi au (by simp));rw[au]at b7;obtain⟨gs,rfl,_⟩:=yc b7;simp[isAgg,run_underlying b0]
def gD.flat (x:gD):Bool:=match x.k with
 | .other=>false
 | .d_ _=>false
 | .struct _=>false
 |_=>true
theorem J0 {x:gD} (h:x.flat=true):x.ok=true:=by
 unfold gD.flat at h;unfold gD.ok;revert h;cases x.k<;>simp
theorem Ef (bx:C.eN) {T:TypeId} (au:(C.T T).flat=true) (w:World):(isAgg T).run C.P w= .ok false w:=by
 obtain⟨i,d,z,a1,bc,bb,cl,cR,b0,b7⟩:=bx.info (J0 au);have dG:(∀aG,d≠.struct aG)/\(∀n e,d≠.array n e):=by
  clear b0;unfold gD.flat at au;generalize (C.T T).k=i_ at*;cases i_<;>cases d<;>simp[lR]at b7 au⊢
 cases d<;>first|exact(dG.1 _ rfl).elim|exact(dG.2 _ _ rfl).elim|simp[isAgg,run_underlying b0]
theorem hk.one {w:World} {b o:Nat} {v:Value} (h:hk w b o [v]):w.cell? ⟨b,o,none⟩=some v:=by simpa using h 0 v rfl
theorem J1 {P:Program} {b o:Nat}:∀(cs:ahF) (i:Nat) (acc:Array Value),hk w b (o+i) cs->(loadCellsFrom ⟨b,o,none⟩ i cs.length acc).run P w= .ok (acc++cs.toArray) w
 |[],i,acc,_=>by simp[loadCellsFrom]
 |c::cs,i,acc,h=>by
  have bA:w.cell? ⟨b,o+i,none⟩=some c:=by simpa using h 0 c rfl
  have af:hk w b (o+(i+1)) cs:=by
   intro az x ch;have:=h (az+1) x (by simpa using ch);rw[<-this];congr 2;omega
  have ih:=J1 (P:=P) cs (i+1) (acc.push c) af;simp only[length_cons,loadCellsFrom,Sem.run_bind,Go.load,Sem.run,Addr.add_lit,bA,Result.andThen];rw[ih];simp
theorem RB (bx:C.eN) {T:TypeId} {aG:List (TypeId×Nat)} (au:(C.T T).k= .struct aG) {b o:Nat} {cs:ahF} (h:hk w b o cs) (hl:cs.length=(C.T T).sz):
  (loadVar T ⟨b,o,none⟩).run C.P w= .ok (.agg cs.toArray) w:=by
 obtain⟨i,d,z,a1,bc,bb,cl,cR,b0,b7⟩:=bx.info (gi au (by simp));have:=J1 (P:=C.P) (b:=b) (o:=o) cs 0 #[] (by simpa using h);simp only[loadVar,Sem.run_bind,JZ bx au,Result.andThen,if_true,kS a1,bc,<-hl,loadCells,this];simp
theorem Eg (bx:C.eN) {T:TypeId} (au:(C.T T).flat=true) {b o:Nat} {v:Value} (h:hk w b o [v]):
  (loadVar T ⟨b,o,none⟩).run C.P w= .ok v w:=by
 simp[loadVar,Ef bx au,Go.load,Sem.run,h.one]
def fits (C:bV) (T:TypeId) (d:I):Bool:=match(C.T T).k,d with
    | .struct _,.agg ds=>I.dO ds==(C.T T).sz
    | .struct _,_=>false
    |_,.agg _=>false
    |_,.tuple _=>false
    |_,_=>(C.T T).flat
def AX:ahI->Nat->Nat->Option Nat
 |[],_,_=>none
 |d::ds,i,k=>if k=0 then some i else if d.wd<=k then AX ds (i+1) (k-d.wd)else none
def e_ (C:bV) (s:ao) (T:TypeId) (x:I):Option I:=
 match x with
 | .ref d=>if fits C T d=true then some d else none
 | .U y k=>match s y with
   | .agg ds=>if I.eY ds then none else match AX ds 0 k with
     |some i=>match ds[i]? with
      |some d=>if I.dO (ds.take i)=k/\fits C T d=true then some (if d.plain then d else .h y [i])else none
      |none=>none
     |none=>none
   |_=>none
 |x=>match loc s x with
  |some (y,q)=>match I.sub q (s y)with
   |some d=>if fits C T d=true then some (if d.plain then d else .h y q)else none
   |none=>none
  |none=>none
theorem ay.one {F:Nat->Prop} {d:I} {cs:ahF} {S:Nat->Prop} (h:ay w F d cs S) (af:∀aG,d≠.agg aG) (ag:∀aG,d≠.tuple aG):∃v,cs=[v]/\Value.fN v=true:=by
 cases d with
 |hole=>rw[ay]at h;obtain⟨v,h,rfl⟩:=h;exact⟨v,rfl,h⟩
 |fo=>rw[ay]at h;obtain⟨v,rfl⟩:=h;exact⟨_,rfl,rfl⟩
 |slice xs=>rw[ay]at h;rcases h with⟨_,a,c,rfl,_⟩|⟨b,o,cap,eA,sz,rfl,_⟩<;>exact⟨_,rfl,rfl⟩
 |ad sz xs=>rw[ay]at h;rcases h with⟨_,_,rfl⟩|⟨b,cap,cur,e,fr,dI,rfl,_⟩<;>exact⟨_,rfl,rfl⟩
 |ref d=>rw[ay]at h;obtain⟨b,o,eA,rfl,_⟩:=h;exact⟨_,rfl,rfl⟩
 |ai d=>rw[ay]at h;obtain⟨b,cur,e,fr,dI,rfl,_⟩:=h;exact⟨_,rfl,rfl⟩
 |agg aG=>exact(af _ rfl).elim
 |tuple aG=>exact(ag _ rfl).elim
 |fn _ _=>rw[ay]at h;obtain⟨arr,rfl,_⟩:=h;exact⟨_,rfl,rfl⟩
 |h _ _=>rw[ay]at h;exact h.elim
 |aw _ _=>rw[ay]at h;exact h.elim
 |U _ _=>rw[ay]at h;exact h.elim
 |dN _=>rw[ay]at h;obtain⟨v,jq,rfl⟩:=mo.one h;exact⟨v,rfl,jq⟩
 |eQ _ _=>rw[ay]at h;obtain⟨arr,rfl,_⟩:=h;exact⟨_,rfl,rfl⟩
 |gC _=>rw[ay]at h;obtain⟨b,v,e,fr,rfl,_⟩:=h;exact⟨_,rfl,rfl⟩
 |_=>rw[ay]at h;subst h;exact⟨_,rfl,rfl⟩
theorem I.AY {d:I} (h:d.single=true):(∀aG,d≠.agg aG)/\∀aG,d≠.tuple aG:=
 ⟨λaG e=>(by subst e;cases h),λaG e=>(by subst e;cases h)⟩
theorem aO.nZ {F:Nat->Prop} {s:ao} {aF:Nat->Value} {d:I} {v:Value} (aZ:d.tree=true) (ae:d.single=true) (h:ay w F d [v] (λ_=>False)):aO w F s aF d v (λ_=>False):=by
 obtain⟨e4,e,af⟩:=ay.one h (I.AY ae).1 (I.AY ae).2;have:v=e4:=by simpa using e
 subst this;refine(aO.cI aZ).2 ⟨?_,by rw[gj af];exact h⟩;cases d<;>first|exact af|cases ae
mutual
theorem aO.qB {F:Nat->Prop} {s:ao} {aF:Nat->Value}:∀(d:I) (v:Value),d.single=true->ay w F d [v] (λ_=>False)->aO w F s aF d v (λ_=>False)
 | .fn f caps,v,_,h=>by
   rw[ay]at h;obtain⟨arr,af,ag,aJ⟩:=h;rw[aO];exact⟨arr,by simpa using af,ef.qB caps _ ag aJ⟩
 | .bool b,v,ae,h=>aO.nZ rfl ae h
 | .fo,v,ae,h=>aO.nZ rfl ae h
 | .int k n,v,ae,h=>aO.nZ rfl ae h
 | .str x,v,ae,h=>aO.nZ rfl ae h
 | .dM,v,ae,h=>aO.nZ rfl ae h
 | .ah,v,ae,h=>aO.nZ rfl ae h
 | .slice xs,v,ae,h=>aO.nZ rfl ae h
 | .ad sz xs,v,ae,h=>aO.nZ rfl ae h
 | .ref d,v,ae,h=>aO.nZ rfl ae h
 | .ai d,v,ae,h=>aO.nZ rfl ae h
 | .h _ _,v,_,h=>by rw[ay]at h;exact h.elim
 | .aw _ _,v,_,h=>by rw[ay]at h;exact h.elim
 | .U _ _,v,_,h=>by rw[ay]at h;exact h.elim
 | .dN _,v,ae,h=>aO.nZ rfl ae h
 | .eQ _ _,v,ae,h=>aO.nZ rfl ae h
 | .gC _,v,ae,h=>aO.nZ rfl ae h
theorem ef.qB {F:Nat->Prop} {s:ao} {aF:Nat->Value}:∀(ds:ahI) (vs:ahF),(∀d∈ds,d.single=true)->bh w F ds vs (λ_=>False)->ef w F s aF ds vs
 |[],vs,_,h=>by rw[bh]at h;rw[ef];exact h
 |d::ds,vs,ae,h=>by
  rw[bh]at h;obtain⟨b1,cd,ck,dq,rfl,ag,aJ,a_,bC,_⟩:=h;have al:=ae d (by simp);obtain⟨v,rfl,_⟩:=ay.one ag (I.AY al).1 (I.AY al).2;rw[ef];exact⟨v,cd,rfl,aO.qB d v al (ay.mono (λ_ h=>h) _ _ _ _ (λb U=>a_ b U) ag),ef.qB ds cd (λx aA=>ae x (by simp[aA])) (bh.mono (λ_ h=>h) _ _ _ _ (λb U=>bC b U) aJ)⟩
end
theorem AZ (bx:C.eN) {T:TypeId} {d:I} {b o:Nat} {cs:ahF} {S:Nat->Prop} (h:hk w b o cs) (al:ay w F d cs S)
  (iB:fits C T d=true):
  ∃v,(loadVar T ⟨b,o,none⟩).run C.P w= .ok v w/\ct v=cs/\dy d v:=by
 unfold fits at iB;by_cases ae:∃aG,(C.T T).k= .struct aG
 .obtain⟨aG,au⟩:=ae;rw[au]at iB;cases d with
  |agg ds=>
   simp only[beq_iff_eq]at iB;refine⟨_,RB bx au h ((ay.length _ _ _ al).trans iB),rfl,⟨_,rfl⟩⟩
  |_=>simp at iB
 .have jK:(C.T T).flat=true/\(∀aG,d≠.agg aG)/\(∀aG,d≠.tuple aG):=by
   revert iB ae;cases au:(C.T T).k<;>cases d<;>simp
  obtain⟨v,rfl,af⟩:=ay.one al jK.2.1 jK.2.2;refine⟨v,Eg bx jK.1 h,gj af,?_⟩;cases d<;>first|exact af|exact(jK.2.1 _ rfl).elim|exact(jK.2.2 _ rfl).elim
theorem RC (bx:C.eN) {T:TypeId} {d:I} {off:Nat} {arr:Array Value} {b1 cs cd:ahF} {S:Nat->Prop} (he:arr.toList=b1++(cs++cd)) (b_:b1.length=off) (al:ay w F d cs S)
  (iB:fits C T d=true):
  ∃v,(part T arr off).run C.P w= .ok v w/\ct v=cs/\dy d v:=by
 unfold fits at iB;by_cases ae:∃aG,(C.T T).k= .struct aG
 .obtain⟨aG,au⟩:=ae;rw[au]at iB;cases d with
  |agg ds=>
   simp only[beq_iff_eq]at iB;obtain⟨i,d,z,a1,bc,bb,cl,cR,b0,b7⟩:=bx.info (gi au (by simp));have hl:cs.length=(C.T T).sz:=(ay.length _ _ _ al).trans iB;have aA:(arr.extract off (off+(C.T T).sz)).toList=cs:=by
    rw[Array.toList_extract,he,extract_eq_take_drop,<-hl,<-b_,Nat.add_sub_cancel_left,drop_left,take_left]
   refine⟨.agg (arr.extract off (off+(C.T T).sz)),?_,by simpa [ct,iy]using aA,⟨_,rfl⟩⟩;simp[part,JZ bx au,kS a1,bc]
  |_=>simp at iB
 .have jK:(C.T T).flat=true/\(∀aG,d≠.agg aG)/\(∀aG,d≠.tuple aG):=by
   revert iB ae;cases au:(C.T T).k<;>cases d<;>simp
  obtain⟨v,rfl,af⟩:=ay.one al jK.2.1 jK.2.2;have bP:arr[off]? =some v:=by
   rw[<-Array.getElem?_toList,he,<-b_,getElem?_append_right (Nat.le_refl _)];simp
  refine⟨v,?_,gj af,?_⟩
  .simp[part,Ef bx jK.1,bP]
  .cases d<;>first|exact af|exact(jK.2.1 _ rfl).elim|exact(jK.2.2 _ rfl).elim
theorem RD (bx:C.eN) (h:bK w0 F0 X F S s aF w) {T:TypeId} {x:I} {v:Value} (aP:aO w F s aF x v (λ_=>False)) (he:e_ C s T x=some av):
  Good C w0 F0 X aF w (Instr.loadAt T v) av s:=by
 unfold e_ at he;split at he
 .rename_i d;split at he
  .rename_i iB;simp only[some.injEq]at he;subst he;have mP:=(aO.cI rfl).1 aP;rw[ay,gj mP.1]at mP;obtain⟨ae,b,o,eA,af,ag,aJ,a_⟩:=mP;simp only[cons.injEq,and_true]at af;subst af;obtain⟨e4,aV,aC,mQ⟩:=AZ bx aJ a_ iB;have ek:(Instr.loadAt T (.pointer (some ⟨b,o,none⟩))).run C.P w= .ok e4 w:=by simp[Instr.loadAt,Instr.sureAddr,aV]
   refine⟨e4,w,F,S,ek,h,?_⟩;by_cases aZ:d.tree=true
   .exact .inr ⟨aZ,mQ,λ_=>False,by rw[aC];exact a_,λ_ h=>h.elim,λ_ h=>h.elim,λ_ _ h=>h.elim,λ_ h=>h.elim⟩
   .cases d<;>first|exact(aZ rfl).elim|(rw[ay]at a_;exact a_.elim)|exact .inl ⟨rfl,by rw[aO];trivial⟩|(have bC:=a_;rw[ay]at bC;obtain⟨arr,e,_⟩:=bC;rw[<-aC]at e a_;rw[gj (by exact mQ)]at a_;exact .inl ⟨rfl,aO.qB _ _ rfl a_⟩)
  .cases he
 .rename_i y k;split at he
  .rename_i ds sD;split at he
   .cases he
   .rename_i RE;split at he
    .rename_i i aq;split at he
     .rename_i d al;split at he
      .rename_i iB;simp only[some.injEq]at he;have hc:(s y).plain=false:=by rw[sD];simp only[I.plain];simpa using RE
       rw[aO]at aP;obtain⟨b,cur,e,fr,rfl,ag,aJ,a_⟩:=aP hc;have bu:=h.dz y;rw[sD]at bu;have J2:=((aO.cI rfl).1 bu).2;rw[ay]at J2;obtain⟨b1,fO,cd,ck,hU,iP,g_,fp,fP,ha,e9,mu⟩:=bh.pick ds _ _ i d J2 al;have j0:hk w b k fO:=by
        intro az c ch;have en:az<fO.length:=(List.getElem?_eq_some_iff.1 ch).1;have:cur.toList[k+az]? =some c:=by
         rw[a_,iP,getElem?_append_right (by omega),getElem?_append_left (by omega),<-ch];congr 1;omega
        simp[World.cell?,aJ];simpa using this
       obtain⟨e4,aV,aC,mQ⟩:=AZ bx j0 e9 iB.2;have ek:(Instr.loadAt T (.pointer (some ⟨b,k,none⟩))).run C.P w= .ok e4 w:=by simp[Instr.loadAt,Instr.sureAddr,aV]
       refine⟨e4,w,F,S,ek,h,?_⟩;split at he
       .rename_i aw;subst he;by_cases aZ:d.tree=true
        .exact .inl ⟨aw,(aO.cI aZ).2 ⟨mQ,by rw[aC];exact ay.plain _ _ _ _ aw e9⟩⟩
        .cases d<;>first|exact(aZ rfl).elim|(rw[ay]at e9;exact e9.elim)|exact .inl ⟨rfl,by rw[aO];trivial⟩|(have bC:=ay.plain _ _ _ (λ_=>False) aw e9;rw[<-aC]at bC;rw[gj (by exact mQ)]at bC;exact .inl ⟨rfl,aO.qB _ _ rfl bC⟩)
       .subst he;refine .inl ⟨rfl,?_⟩;rw[aO];intro d2 iA _;rw[sD]at iA⊢;simp only[I.sub,al,some.injEq]at iA;subst iA;refine⟨fO,none,?_,aC,mQ⟩;simp only[dh,al];rw[iP,tT b1 fO cd _ _ g_ (ay.length _ _ _ e9)];rfl
      .cases he
     .cases he
    .cases he
  .cases he
 .rename_i x _ _;split at he
  .rename_i y q hl;split at he
   .rename_i d al;split at he
    .rename_i iB;simp only[some.injEq]at he;obtain⟨pA,cO,b,o,rfl,kx⟩:=Ed h aP hl al;have bu:=h.dz y;rw[aO.cI (h7 al (.inr pA))]at bu;obtain⟨gh,cj,ei,fy,k0,cv,cK,eJ,cU,fq⟩:=ctx q (s y) (ct (aF y)) (S y) none _ bu.2 al;rw[k0]at kx;simp only[some.injEq,Prod.mk.injEq,true_and]at kx;obtain⟨rfl,rfl⟩:=kx;have j0:hk w b o gh:=by
      rcases fq with⟨l,r,a1,bc,_⟩|⟨ee,cur,e,fr,l,r,a1,bc,bb,cl,cR,_⟩
      .simp at bc
      .simp only[some.injEq,Prod.mk.injEq]at a1;obtain⟨rfl,rfl⟩:=a1;intro az c ch;have en:az<gh.length:=(List.getElem?_eq_some_iff.1 ch).1;have:cur.toList[l.length+az]? =some c:=by
        rw[cR,getElem?_append_right (by omega),getElem?_append_left (by omega),<-ch];congr 1;omega
       simp[World.cell?,bb];simpa using this
     obtain⟨e4,aV,aC,mQ⟩:=AZ bx j0 cU iB;have ek:(Instr.loadAt T (.pointer (some ⟨b,o,none⟩))).run C.P w= .ok e4 w:=by simp[Instr.loadAt,Instr.sureAddr,aV]
     refine⟨e4,w,F,S,ek,h,?_⟩;split at he
     .rename_i aw;subst he;by_cases aZ:d.tree=true
      .exact .inl ⟨aw,(aO.cI aZ).2 ⟨mQ,by rw[aC];exact ay.plain _ _ _ _ aw cU⟩⟩
      .cases d<;>first|exact(aZ rfl).elim|(rw[ay]at cU;exact cU.elim)|exact .inl ⟨rfl,by rw[aO];trivial⟩|(have bC:=ay.plain _ _ _ (λ_=>False) aw cU;rw[<-aC]at bC;rw[gj (by exact mQ)]at bC;exact .inl ⟨rfl,aO.qB _ _ rfl bC⟩)
     .subst he;refine .inl ⟨rfl,?_⟩;rw[aO];intro d2 iA _;rw[al]at iA;simp only[some.injEq]at iA;subst iA;exact⟨_,_,k0,aC,mQ⟩
    .cases he
   .cases he
  .cases he
mutual
theorem ay.pB {F:Nat->Prop}:∀(d:I) (cs:ahF) (S:Nat->Prop),ay w F d cs S->∀c∈cs,Value.fN c=true
 | .hole,cs,S,h=>by rw[ay]at h;obtain⟨v,h,rfl⟩:=h;simpa using h
 | .bool _,cs,S,h=>by rw[ay]at h;subst h;simp[Value.fN]
 | .fo,cs,S,h=>by rw[ay]at h;obtain⟨b,rfl⟩:=h;simp[Value.fN]
 | .int _ _,cs,S,h=>by rw[ay]at h;subst h;simp[Value.fN]
 | .str _,cs,S,h=>by rw[ay]at h;subst h;simp[Value.fN]
 | .dM,cs,S,h=>by rw[ay]at h;subst h;simp[Value.fN]
 | .ah,cs,S,h=>by rw[ay]at h;subst h;simp[Value.fN]
 | .slice xs,cs,S,h=>by
   rw[ay]at h;rcases h with⟨_,a,c,rfl,_⟩|⟨b,o,cap,eA,sz,rfl,_⟩<;>simp[Value.fN]
 | .ad sz xs,cs,S,h=>by
   rw[ay]at h;rcases h with⟨_,_,rfl⟩|⟨b,cap,cur,e,fr,aS,rfl,_⟩<;>simp[Value.fN]
 | .ref d,cs,S,h=>by rw[ay]at h;obtain⟨b,o,eA,rfl,_⟩:=h;simp[Value.fN]
 | .ai d,cs,S,h=>by rw[ay]at h;obtain⟨b,o,eA,_,_,rfl,_⟩:=h;simp[Value.fN]
 | .agg aG,cs,S,h=>by rw[ay]at h;exact bh.pB aG _ _ h
 | .tuple aG,cs,S,h=>by rw[ay]at h;exact bh.pB aG _ _ h
 | .fn _ _,cs,S,h=>by rw[ay]at h;obtain⟨arr,rfl,_⟩:=h;simp[Value.fN]
 | .h _ _,cs,S,h=>by rw[ay]at h;exact h.elim
 | .aw _ _,cs,S,h=>by rw[ay]at h;exact h.elim
 | .U _ _,cs,S,h=>by rw[ay]at h;exact h.elim
 | .dN _,cs,S,h=>by rw[ay]at h;obtain⟨v,jq,rfl⟩:=mo.one h;simpa using jq
 | .eQ _ _,cs,S,h=>by rw[ay]at h;obtain⟨arr,rfl,_⟩:=h;simp[Value.fN]
 | .gC _,cs,S,h=>by rw[ay]at h;obtain⟨b,v,e,fr,rfl,_⟩:=h;simp[Value.fN]
theorem bh.pB {F:Nat->Prop}:∀(ds:ahI) (cs:ahF) (S:Nat->Prop),bh w F ds cs S->∀c∈cs,Value.fN c=true
 |[],cs,S,h=>by rw[bh]at h;subst h;simp
 |d::ds,cs,S,h=>by
  rw[bh]at h;obtain⟨b1,cd,ck,dq,rfl,ag,aJ,_⟩:=h;intro c aC;rcases mem_append.1 aC with aC|aC
  .exact ay.pB d _ _ ag c aC
  .exact bh.pB ds _ _ aJ c aC
end
theorem Eh {P:Program} {b o:Nat} {e:TypeId} {fr:Nat×Nat}:∀(vs:ahF) (i:Nat) (cur:Array Value) (w:World) (l m r:ahF),w.heap[b]? =some (.cells cur e fr)->nm fr cur.size->
  cur.toList=l++(m++r)->l.length=o+i->m.length=vs.length->(∀v∈vs,Value.fN v=true)->
  ∃aK,(storeCells ⟨b,o,none⟩ vs i).run P w= .ok () aK/\aK.heap[b]? =some (.cells (l++(vs++r)).toArray e fr)/\(∀c,c≠b->aK.heap[c]? =w.heap[c]?)/\aK.heap.size=w.heap.size/\aK.os=w.os/\aK.tape=w.tape/\Out aK w
 |[],i,cur,w,l,m,r,U,bS,aC,hl,hm,_=>by
  refine⟨w,rfl,?_,λ_ _=>rfl,rfl,rfl,rfl,Out.refl _⟩;have:m=[]:=by simpa using hm
  subst this;rw[U];have:cur=(l++([]++r)).toArray:=by rw[<-aC]
  rw[<-this]
 |v::vs,i,cur,w,l,m,r,U,bS,aC,hl,hm,ru=>by
  obtain⟨x,m,rfl⟩:∃x js,m=x::js:=by cases m with
   |nil=>simp at hm
   |cons x m=>exact⟨x,m,rfl⟩
  have hlen:cur.size=(l++(x::m++r)).length:=by rw[<-aC];simp
  have en:o+i<cur.size:=by rw[hlen];simp;omega
  have A0:w.cell? ⟨b,o+i,none⟩=some cur[o+i]:=by simp[World.cell?,U,en]
  have RF:w.frozen? ⟨b,o+i,none⟩=false:=by
   have:=bS (o+i) en;simp only[World.frozen?,U];simp only[Bool.and_eq_false_iff,decide_eq_false_iff_not];by_cases af:fr.1<=o+i
   .right;exact λag=>this ⟨af,ag⟩
   .left;exact af
  have qC:(w.setCell ⟨b,o+i,none⟩ v).heap[b]? =some (.cells ((l++[v])++(m++r)).toArray e fr):=by
   simp only[World.setCell,Array.getElem?_modify,if_true,U,map_some,isSome_none,Bool.false_eq_true,if_false];congr 2;apply Array.ext';rw[Array.toList_setIfInBounds,aC,<-hl,set_append_right _ _ (Nat.le_refl _)];simp
  have ub:(store ((⟨b,o,none⟩:Addr).add i) v).run P w= .ok () (w.setCell ⟨b,o+i,none⟩ v):=by
   have af:=ru v (by simp);rw[Addr.add_lit];cases v<;>first|(simp[Value.fN]at af;done)|simp[Go.store,Sem.run,A0,RF]
  obtain⟨aK,aX,bk,ca,dr,er,hd,ja⟩:=Eh (P:=P) (b:=b) (o:=o) vs (i+1) _ (w.setCell ⟨b,o+i,none⟩ v) (l++[v]) m r qC (by
   have:(l++[v]++(m++r)).toArray.size=cur.size:=by rw[hlen];simp
   rw[this];exact bS) (by simp) (by simp;omega) (by simpa using hm) (λu hu=>ru u (by simp[hu]))
  refine⟨aK,?_,by simpa using bk,λc aC=>?_,?_,er,hd,ja⟩
  .simp only[storeCells,Sem.run_bind,ub,Result.andThen];exact aX
  .rw[ca c aC];simp only[World.setCell,Array.getElem?_modify];rw[if_neg (λe=>aC e.symm)]
  .rw[dr];simp[World.setCell]
theorem yf {d:I} {v:Value} (h:dy d v) (al:∀aG,d≠.tuple aG):v.cells=(ct v).toArray:=by
 cases d with
 |tuple aG=>exact(al _ rfl).elim
 |agg aG=>obtain⟨arr,rfl⟩:=h;simp[Value.cells,ct,iy]
 |_=>
  have af:Value.fN v=true:=h;rw[gj af];cases v<;>first|rfl|(simp[Value.fN]at af)
def kT (C:bV) (s:ao) (T:TypeId) (x y:I):Option ao:=
 match cV s y,loc s x with
 |some (d,s1),some (z,q)=>match d with
  | .tuple _=>none
  |d=>match I.sub q (s z)with
   |some d0=>if d.wd=d0.wd/\d.wd=(C.T T).sz/\(C.T T).ok=true/\y.owner≠some z then some (cY (hV z s1) z (I.put q d (s z)))else none
   |none=>none
 |_,_=>none
theorem RG {s s1:ao} {y d:I} {z:Nat} (h:cV s y=some (d,s1)) (b3:(s z).tree=true) (bu:y.owner≠some z):s1 z=s z:=by
 cases y with
 |h x q=>
  simp only[cV]at h;split at h
  .split at h
   .cases h
   .simp only[some.injEq,Prod.mk.injEq]at h;obtain⟨_,rfl⟩:=h;rw[iz _ _ (λe=>bu (by rw[I.owner,e]))];exact D6 b3
  .cases h
 |aw x q=>simp[cV]at h
 |U x q=>simp[cV]at h
 |fn f c=>simp[cV]at h
 |hole=>simp[cV]at h
 |_=>simp only[cV,some.injEq,Prod.mk.injEq]at h;rw[h.2]
theorem RH (bx:C.eN) (h:bK w0 F0 X F S s aF w) {T:TypeId} {x y:I} {ff gP:Value} (Ei:aO w F s aF x ff (λ_=>False)) (bu:y.plain=true) (RI:aO w F s aF y gP (λ_=>False))
  {s2:ao} (he:kT C s T x y=some s2):
  ∃aK aS,(Instr.storeAt T ff gP).run C.P w= .ok () aK/\bK w0 F0 X F aS s2 aF aK:=by
 unfold kT at he;split at he
 .rename_i d s1 z q aZ hl;have key:∀d:I,(∀aG,d≠.tuple aG)->cV s y=some (d,s1)->(match I.sub q (s z)with
   |some d0=>if d.wd=d0.wd/\d.wd=(C.T T).sz/\(C.T T).ok=true/\y.owner≠some z then some (cY (hV z s1) z (I.put q d (s z)))else none
   |none=>none)=some s2->∃aK aS,(Instr.storeAt T ff gP).run C.P w= .ok () aK/\bK w0 F0 X F aS s2 aF aK:=by
   intro d rv aZ he;split at he
   .rename_i d0 ns;split at he
    .rename_i uc;obtain⟨af,ag,aJ,a_⟩:=uc;simp only[some.injEq]at he;subst he;obtain⟨pA,cO,b,o,rfl,kx⟩:=Ed h Ei hl ns;obtain⟨ck,gO,aX,bk,Sn,ca,dr,er,hd,ja,mw⟩:=py h bu RI aZ;have dR:s1 z=s z:=RG aZ (h7 ns (.inr pA)) a_;rw[<-dR]at ns pA kx⊢;obtain⟨gh,ee,l,r,cur,e,fr,k0,cv,cK,eJ,cU⟩:=gO.store ns pA ca af dr er hd ja;rw[kx]at k0;simp only[some.injEq,Prod.mk.injEq,true_and]at k0;obtain⟨rfl,rfl,rfl⟩:=k0;obtain⟨i,d,rr,a1,bc,bb,cl,cR,b0,b7⟩:=bx.info aJ;have hlen:=ay.length _ _ _ ca;have hm:cO.length=(ct gP).length:=by
      have J3:=gO.dz z;rw[aO.cI (h7 ns (.inr pA))]at J3;obtain⟨_,_,_,_,mr,_,_,_,mR,_⟩:=ctx q (s1 z) (ct (aF z)) (ck z) none _ J3.2 ns;rw[kx]at mr;simp only[some.injEq,Prod.mk.injEq,true_and]at mr;rw[mr.1,ay.length _ _ _ mR,hlen,af]
     obtain⟨aK,fY,g6,jt,mS,nt,ry,rz⟩:=Eh (P:=C.P) (b:=b) (o:=l.length) (e:=e) (fr:=fr) (ct gP) 0 cur w l cO r cv eJ cK rfl hm (ay.pB _ _ _ ca);obtain⟨aS,fq⟩:=cU aK g6 jt mS nt ry rz;refine⟨aK,aS,?_,fq⟩;have pC:=yf bk rv;simp[Instr.storeAt,Instr.sureAddr,storeVar,kS a1,bc,pC,hlen,ag,fY]
    .cases he
   .cases he
  split at he
  .cases he
  .rename_i rv;exact key _ (λaG e=>rv aG e) aZ he
 .cases he
theorem bK.alloc (h:bK w0 F0 X F S s aF w) {d:I} {cs:ahF} {Sn:Nat->Prop} (e:TypeId) (aP:ay w F d cs Sn)
  (en:∀b,Sn b->b<w.heap.size) (bm:∀b,Sn b->¬F b) (bN:∀u b,Sn b->¬S u b) (bA:∀b,Sn b->X b\/w0.heap.size<=b):
  bK w0 F0 X F S s aF (w.alloc (.cells cs.toArray e))/\
   lz w0 X F S s aF (w.alloc (.cells cs.toArray e)) (.ai d) (.pointer (some ⟨w.heap.size,0,none⟩)):=by
 have hold:∀b,b<w.heap.size->(w.alloc (.cells cs.toArray e)).heap[b]? =w.heap[b]? :=by
  intro b U;show(w.heap.push _)[b]? =_;rw[Array.getElem?_push,if_neg (by omega)]
 refine⟨h.grow hold (by simp) rfl rfl ⟨rfl,λ_=>Nat.le_refl _⟩,.inr ⟨rfl,rfl,λb=>b=w.heap.size\/Sn b,?_,?_,?_,?_,?_⟩⟩
 .rw[ay];refine⟨w.heap.size,cs.toArray,e,(0,0),Sn,rfl,.inl rfl,?_,?_,?_,λc aC=>.inr aC,λaC=>Nat.lt_irrefl _ (en _ aC)⟩
  .show(w.heap.push _)[_]? =_;simp
  .intro o _ ⟨_,ag⟩;exact absurd ag (not_lt_zero _)
  .exact ay.frame (λb U=>hold b (h.fR b U)) _ _ _ (λb U=>hold b (en b U)) aP
 .rintro b (rfl|U)
  .simp
  .have:=en b U;simp;omega
 .rintro b (rfl|U) rA
  .exact Nat.lt_irrefl _ (h.fR _ rA)
  .exact bm b U rA
 .rintro u b (rfl|U) hu
  .exact Nat.lt_irrefl _ (h.et _ _ hu)
  .exact bN u b U hu
 .rintro b (rfl|U)
  .exact .inr h.size
  .exact bA b U
def mT (C:bV) (T:TypeId):Option I:=if(C.T T).ok=true then(match(C.T T).k,(C.T T).zero with
    | .d_ e,.agg [.dM,.ah]=>some (.dN (.ix T e []))
    | .d_ _,_=>none
    |_,z=>(match flat z with|some _=>some (.ai z)|none=>none))else none
theorem RJ (bx:C.eN) (h:bK w0 F0 X F S s aF w) {T:TypeId} (he:mT C T=some av):Good C w0 F0 X aF w (Instr.alloc T true (.tuple #[])) av s:=by
 unfold mT at he;split at he
 .rename_i au;split at he
  .rename_i afX afY RK;simp only[some.injEq]at he;subst he;obtain⟨i,d,z,a1,bc,bb,cl,cR,b0,b7⟩:=bx.info au;have b3:=cR [.pointer none,.slice none 0 0] (by rw[RK];rfl);have hold:∀b,b<w.heap.size->(w.alloc (.cells #[.pointer none,.slice none 0 0] T)).heap[b]? =w.heap[b]? :=by
    intro b U;show(w.heap.push _)[b]? =_;rw[Array.getElem?_push,if_neg (by omega)]
   refine⟨.pointer (some ⟨w.heap.size,0,none⟩),w.alloc (.cells #[.pointer none,.slice none 0 0] T),F,S,?_,h.grow hold (by simp) rfl rfl ⟨rfl,λ_=>Nat.le_refl _⟩,.inr ⟨rfl,rfl,λb=>b=w.heap.size,?_,?_,?_,?_,?_⟩⟩
   .simp[Instr.alloc,ua a1 cl,newVar,newRow,newObj,Sem.run,b3]
   .rw[ay];refine⟨w.heap.size,.pointer none,.slice none 0 0,rfl,rfl,?_,.inl rfl,.inl ⟨rfl,rfl⟩⟩;show(w.heap.push _)[_]? =_;simp
   .rintro b rfl;simp
   .rintro b rfl rA;exact Nat.lt_irrefl _ (h.fR _ rA)
   .rintro u b rfl hu;exact Nat.lt_irrefl _ (h.et _ _ hu)
   .rintro b rfl;exact .inr h.size
  .cases he
  split at he
  .rename_i cs iP;simp only[some.injEq]at he;subst he;obtain⟨i,d,z,a1,bc,bb,cl,cR,b0,b7⟩:=bx.info au;have b3:=cR cs iP;obtain⟨dZ,bD⟩:=h.alloc (d:=(C.T T).zero) T ((ay.flat _).1 _ cs (λ_=>False) (Nat.le_refl _) iP) (λ_ h=>h.elim) (λ_ h=>h.elim) (λ_ _ h=>h.elim) (λ_ h=>h.elim);refine⟨_,_,F,S,?_,dZ,bD⟩;simp[Instr.alloc,ua a1 cl,newVar,newRow,newObj,Sem.run,b3]
  .cases he
 .cases he
def g7 (s:ao) (x:I):Option (I×ao):=match cV s x with
 |some (.tuple _,_)=>none
 |some (d,s1)=>some (.ai d,s1)
 |none=>none
def A1:I->Bool
 | .agg ds=> !I.eY ds
 | .eQ _ _=>true
 |_=>false
theorem J4 {d:I} (h:A1 d=true):d.plain=false/\∀aG,d≠.tuple aG:=by
 cases d with
 |agg ds=>simp only[A1,Bool.not_eq_true']at h;exact⟨by simp only[I.plain];exact h,λ_ e=>by cases e⟩
 |eQ f c=>exact⟨rfl,λ_ e=>by cases e⟩
 |_=>cases h
def h8 (s:ao) (x:I):Option (I×ao):=match x with
 | .h y q=>if q=[]/\A1 (s y)=true then some (.U y 0,s)else none
 | .fn f caps=>if caps.all (λd=>d.single&&(d.tree&&d.plain))=true then some (.ref (.fn f caps),s)else none
 |_=>none
theorem bh.J5 {w:World} {F bJ:Nat->Prop} {s:ao} {aF:Nat->Value} (bm:∀b,F b->bJ b):∀(ds:ahI) (vs:ahF),(∀d∈ds,d.single=true/\d.tree=true/\d.plain=true)->ef w F s aF ds vs->bh w bJ ds vs (λ_=>False)
 |[],vs,_,h=>by rw[ef]at h;rw[bh];exact h
 |d::ds,vs,ae,h=>by
  rw[ef]at h;obtain⟨v,gY,rfl,af,ag⟩:=h;obtain⟨d1,d2,d3⟩:=ae d (by simp);have aJ:=(aO.cI d2).1 af;have b_:Value.fN v=true:=by
   have:=aJ.1;cases d<;>first|exact this|cases d1
  have a_:=aJ.2;rw[gj b_]at a_;rw[bh];exact⟨[v],gY,λ_=>False,λ_=>False,rfl,ay.mono bm _ _ _ _ (λ_ h=>h) a_,bh.J5 bm ds gY (λx aA=>ae x (by simp[aA])) ag,λ_ h=>h,λ_ h=>h,λ_ h=>h.elim⟩
theorem RL {T:TypeId} {v:Value} (h:bK w0 F0 X F S s aF w):bK w0 F0 X (λb=>F b\/b=w.heap.size) S s aF (w.alloc (.cells (ct v).toArray T)):=by
 have hold:∀b,b<w.heap.size->(w.alloc (.cells (ct v).toArray T)).heap[b]? =w.heap[b]? :=by
  intro b U;show(w.heap.push _)[b]? =_;rw[Array.getElem?_push,if_neg (by omega)]
 have af:=h.grow hold (by simp) rfl rfl ⟨rfl,λ_=>Nat.le_refl _⟩;exact {
  g5:=λb U=>.inl (af.g5 b U)
  ho:=λb U=>by
   rcases U with U|rfl
   .exact af.ho b U
   .exact .inr (.inr h.size)
  fR:=λb U=>by
   rcases U with U|rfl
   .exact af.fR b U
   .simp
  et:=af.et
  fS:=λt b U bS=>by
   rcases bS with bS|rfl
   .exact af.fS t b U bS
   .exact absurd (h.et t _ U) (Nat.lt_irrefl _)
  fe:=af.fe
  dI:=af.dI
  dz:=λt=>aO.frame (λ_ _=>rfl) (λb U=>.inl U) (λ_ _ _=>rfl) af.dz _ _ _ (λ_ _=>rfl) (af.dz t)
  old:=af.old
  size:=af.size
  os:=af.os
  tape:=af.tape
  output:=af.output
  hG:=h.hG}
theorem RM (h:bK w0 F0 X F S s aF w) {T:TypeId} {x:I} {v:Value} (aP:aO w F s aF x v (λ_=>False)) (he:h8 s x=some (av,s1)):
  Good C w0 F0 X aF w (Instr.box T v) av s1:=by
 unfold h8 at he;split at he
 .rename_i y q;split at he
  .rename_i Ej;obtain⟨rfl,J6⟩:=Ej
   .simp only[some.injEq,Prod.mk.injEq]at he;obtain⟨rfl,rfl⟩:=he;rw[aO]at aP;obtain⟨cO,a,aX,bk,ca⟩:=aP (s y) (by simp only[I.sub]) (J4 J6).1;simp only[dh,some.injEq,Prod.mk.injEq,true_and]at aX;have pC:=yf ca (J4 J6).2;have hold:∀b,b<w.heap.size->(w.alloc (.cells (ct v).toArray T)).heap[b]? =w.heap[b]? :=by
     intro b U;show(w.heap.push _)[b]? =_;rw[Array.getElem?_push,if_neg (by omega)]
    refine⟨.pointer (some ⟨w.heap.size,0,none⟩),w.alloc (.cells (ct v).toArray T),λb=>F b\/b=w.heap.size,S,by simp[Instr.box,newVar,newRow,newObj,Sem.run,pC],?_,.inl ⟨rfl,?_⟩⟩
    .have af:=h.grow hold (by simp) rfl rfl ⟨rfl,λ_=>Nat.le_refl _⟩;exact {
      g5:=λb U=>.inl (af.g5 b U)
      ho:=λb U=>by
       rcases U with U|rfl
       .exact af.ho b U
       .exact .inr (.inr h.size)
      fR:=λb U=>by
       rcases U with U|rfl
       .exact af.fR b U
       .simp
      et:=af.et
      fS:=λt b U bS=>by
       rcases bS with bS|rfl
       .exact af.fS t b U bS
       .exact absurd (h.et t _ U) (Nat.lt_irrefl _)
      fe:=af.fe
      dI:=af.dI
      dz:=λt=>aO.frame (λ_ _=>rfl) (λb U=>.inl U) (λ_ _ _=>rfl) af.dz _ _ _ (λ_ _=>rfl) (af.dz t)
      old:=af.old
      size:=af.size
      os:=af.os
      tape:=af.tape
      output:=af.output
      hG:=h.hG}
    .rw[aO];intro _;refine⟨w.heap.size,(ct v).toArray,T,(0,0),rfl,.inr rfl,?_,?_⟩
     .show(w.heap.push _)[_]? =_;simp
     .rw[aX.1,<-bk]
  .cases he
 .rename_i f caps;split at he
  .rename_i aC;simp only[some.injEq,Prod.mk.injEq]at he;obtain⟨rfl,rfl⟩:=he;have iP:∀d∈caps,d.single=true/\d.tree=true/\d.plain=true:=λd al=>by
    have:=List.all_eq_true.1 aC d al;simpa only[Bool.and_eq_true]using this
   rw[aO]at aP;obtain⟨arr,rfl,aP⟩:=aP;have pC:=yf (d:=.fn f caps) (v:=.func (.func f) #[] arr) rfl (λaG e=>by cases e);have bP:=RL (T:=T) (v:=.func (.func f) #[] arr) h;refine⟨.pointer (some ⟨w.heap.size,0,none⟩),w.alloc (.cells (ct (.func (.func f) #[] arr)).toArray T),λb=>F b\/b=w.heap.size,S,by simp[Instr.box,newVar,newRow,newObj,Sem.run,pC],bP,.inl ⟨rfl,?_⟩⟩;refine(aO.cI rfl).2 ⟨rfl,?_⟩;rw[ay];refine⟨w.heap.size,0,[.func (.func f) #[] arr],rfl,.inr rfl,?_,?_⟩
   .have i9:(w.alloc (.cells (ct (.func (.func f) #[] arr)).toArray T)).heap[w.heap.size]? =some (.cells (ct (.func (.func f) #[] arr)).toArray T (0,0)):=by
     show(w.heap.push _)[_]? =_;simp
    intro az c ch;cases az with
    |zero=>
     simp only[getElem?_cons_zero,some.injEq]at ch;subst ch;have e:ct (.func (.func f) #[] arr)=[.func (.func f) #[] arr]:=gj rfl;unfold World.cell?;show(match(w.alloc (.cells (ct (.func (.func f) #[] arr)).toArray T)).heap[w.heap.size]? with
      |some (.cells c _ _)=>c[0+0]?
      |_=>none)=_
     rw[i9,e];rfl
    |succ az=>simp at ch
   .rw[ay];refine⟨arr,rfl,λd al=>(iP d al).1,?_⟩;have bC:=bh.J5 (bJ:=F) (λb U=>U) caps arr.toList iP aP;refine bh.mono (F:=F) (λb U=>.inl U) caps _ _ _ (λ_ h=>h) (bh.frame (λb U=>?_) caps _ _ (λ_ h=>h.elim) bC);have en:=h.fR b U;show(w.heap.push _)[b]? =_;rw[Array.getElem?_push,if_neg (by omega)]
  .cases he
 .cases he
theorem RN (h:bK w0 F0 X F S s aF w) {T:TypeId} {x:I} {v:Value} (aA:x.plain=true) (aP:aO w F s aF x v (λ_=>False)) (he:g7 s x=some (av,s1)):
  Good C w0 F0 X aF w (Instr.box T v) av s1:=by
 unfold g7 at he;split at he
 .cases he
 .rename_i d s2 rv aZ;simp only[some.injEq,Prod.mk.injEq]at he;obtain⟨rfl,rfl⟩:=he;obtain⟨ck,gO,aX,bk,Sn,ca,dr,er,hd,ja,mw⟩:=py h aA aP aZ;obtain⟨dZ,bD⟩:=gO.alloc T ca dr er hd ja;refine⟨_,_,F,ck,?_,dZ,bD⟩;have pC:=yf bk (λaG e=>rv aG e);simp[Instr.box,newVar,newRow,newObj,Sem.run,pC]
 .cases he
end
end Go.dD
