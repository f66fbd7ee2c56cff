/- Part of a proof that a law returns true for every input. No condition. -/
import Derived.Test.YtmaepbgkcmjcjagGreatDoorFwB
import Derived.Laws.Entries
namespace Go.ef
open List Option Go.IntKind Nat
inductive p2 where
 |int (k:IntKind)
 |bool
 |str
 |ptr (e:TypeId)
 |slice (e:TypeId)
 |struct (aD:List (TypeId×Nat))
 |fn
 |gx (e:TypeId)
 |map (k e:TypeId)
 |other
structure hA where
 k:p2
 sz:Nat
 bytes:Nat
 zero:I
mutual
def flat:I->Option axg
 | .bool b=>some [.bool b]
 | .int k n=>some [.int k n]
 | .str s=>some [.string ⟨⟨s⟩⟩]
 | .en=>some [.pointer none]
 | .a8=>some [.slice none 0 0]
 | .agg aD=>uS aD
 | .b4 .j2=>some [.map none]
 |_=>none
def uS:axi->Option axg
 |[]=>some []
 |d::ds=>match flat d,uS ds with
  |some a,some b=>some (a++b)
  |_,_=>none
end
theorem aA.flat {w:World} {F:Nat->Prop}:∀n,(∀(d:I) (cs:axg) (S:Nat->Prop),SizeOf.sizeOf d<=n->flat d=some cs->aA w F d cs S)/\
  (∀(ds:axi) (cs:axg) (S:Nat->Prop),SizeOf.sizeOf ds<=n->uS ds=some cs->bx w F ds cs S):=by
 intro n;induction n with
 |zero=>exact⟨λd _ _ b9=>by cases d<;>simp at b9<;>omega,λds _ _ b9=>by cases ds<;>simp at b9<;>omega⟩
 |succ n ih=>
  refine⟨λd cs S b9 h=>?_,λds cs S b9 h=>?_⟩
  .cases d with
   |agg aD=>rw[aA];exact ih.2 aD cs S (by simp at b9;omega) (by simpa [ef.flat]using h)
   |bool b=>simp[ef.flat]at h;subst h;rw[aA]
   |int k n=>simp[ef.flat]at h;subst h;rw[aA]
   |str s=>simp[ef.flat]at h;subst h;rw[aA]
   |en=>simp[ef.flat]at h;subst h;rw[aA]
   |a8=>simp[ef.flat]at h;subst h;rw[aA]
   |b4 o=>cases o<;>simp[ef.flat]at h;subst h;rw[aA];rfl
   |_=>simp[ef.flat]at h
  .cases ds with
   |nil=>simp[uS]at h;subst h;rw[bx]
   |cons d ds=>
    simp only[uS]at h;split at h
    .rename_i a b bl ab;simp at h;subst h;simp at b9;rw[bx];exact⟨a,b,λ_=>False,λ_=>False,rfl,ih.1 d a _ (by omega) bl,ih.2 ds b _ (by omega) ab,λ_ h=>h.elim,λ_ h=>h.elim,λ_ h=>h.elim⟩
    .cases h
def nP:p2->TypeDesc->Prop
 | .int k,.int c_=>k=c_
 | .bool,.bool=>True
 | .str,.string=>True
 | .ptr e,.pointer hd=>e=hd
 | .slice e,.slice hd=>e=hd
 | .struct aD,.struct gs=>gs.toList.map (λg=>(g.type,g.offset))=aD
 | .fn,.func _ _ _=>True
 | .gx _,.struct _=>True
 | .map k e,.map c_ hd=>k=c_/\e=hd
 |_,_=>False
def Ss (P:Program) (t:TypeId) (x:hA):Prop:=
 (∃e n b z,x=⟨.other,e,n,b⟩/\z=0)\/
 ∃i d z,P.info? t=some i/\i.size=x.sz/\i.bytes=x.bytes/\i.zero=some z/\(∀cs,flat x.zero=some cs->z.cells=cs.toArray)/\P.underlying t=some d/\nP x.k d
structure cj where
 P:Program
 T:TypeId->hA
 M:FuncId->List Bool
structure cj.fz (C:cj):Prop where
 ty:∀t,Ss C.P t (C.T t)
 mixed:C.P.follows .mixedOrders=true
inductive bC where
 |t (n:Nat)
 |c (av:I)
 |f (g:FuncId)
def Hc:Value->Option I
 | .bool b=>some (.bool b)
 | .int k n=>some (.int k n)
 | .string s=>some (.str s.data.toList)
 | .pointer none=>some .en
 | .slice none 0 0=>some .a8
 |_=>none
def eC:Operand->Option bC
 | .tmp n=>some (.t n)
 | .const v=>(Hc v).map .c
 | .func g=>some (.f g)
 | .global _=>none
def uT (x:Nat) (d:I):I:=if d.plain then d else .h x []
def bw (s:ak):bC->I
 | .t n=>uT n (s n)
 | .c av=>av
 | .f g=>.fn g []
theorem aO.nothing {w:World} {F:Nat->Prop} {s:ak} {aG:Nat->Value} {d:I} {v:Value} {S aX:Nat->Prop} (ax:d.plain=true) (h:aO w F s aG d v S):aO w F s aG d v aX:=by
 cases d<;>first
  |(rw[aO];trivial)
  |(rw[aO]at h⊢;exact h)
  |(have bB:=(aO.dk rfl).1 h;exact(aO.dk rfl).2 ⟨bB.1,aA.plain _ _ _ _ ax bB.2⟩)
section
variable {w0 w:World} {F0 X F:Nat->Prop} {S:Nat->Nat->Prop} {s:ak} {aG:Nat->Value} {a:Act}
theorem St (s:ak) (x:bC) (ar:∀av,x= .c av->av.plain=true):(bw s x).plain=true:=by
 cases x with
 |t n=>simp only[bw,uT];split<;>first|assumption|rfl
 |c av=>exact ar _ rfl
 |f g=>rfl
theorem Lu {v:Value} {av:I} (h:Hc v=some av):av.plain=true:=by
 unfold Hc at h;split at h<;>simp at h<;>subst h<;>rfl
theorem gF (h:b8 w0 F0 X F S s aG w) (e_:∀t,aG t=a.tmps.getD t undef) {o:Operand} {x:bC} (bH:eC o=some x):
  (bw s x).plain=true/\aO w F s aG (bw s x) (a.eval o) (λ_=>False):=by
 cases o with
 |tmp n=>
  simp[eC]at bH;subst bH;simp only[bw,uT,Act.eval,<-e_];split
  .rename_i ax;exact⟨ax,aO.nothing ax (h.ew n)⟩
  .rename_i ax;refine⟨rfl,?_⟩;rw[aO];intro d al Lv;simp only[I.sub,some.injEq]at al;subst al;have aZ:=jf (q:=[]) rfl (.inl Lv);exact⟨_,none,rfl,rfl,((aO.dk aZ).1 (h.ew n)).1⟩
 |const v=>
  simp only[eC,map_eq_some_iff]at bH;obtain⟨av,rV,rfl⟩:=bH;refine⟨Lu rV,?_⟩;simp only[bw,Act.eval];unfold Hc at rV;split at rV<;>simp at rV<;>subst rV<;>rw[aO,aA]<;>exact⟨rfl,rfl⟩
 |func g=>
  simp[eC]at bH;subst bH;refine⟨rfl,?_⟩;simp only[bw,Act.eval];rw[aO];exact⟨#[],rfl,by rw[fm]⟩
 |global g=>simp[eC]at bH
def nQ (w0:World) (X F:Nat->Prop) (S:Nat->Nat->Prop) (s:ak) (aG:Nat->Value) (w:World) (av:I) (v:Value):Prop:=
 (av.plain=true/\aO w F s aG av v (λ_=>False))\/
 (av.tree=true/\eM av v/\∃Sn,aA w F av (c8 v) Sn/\(∀b,Sn b->b<w.heap.size)/\(∀b,Sn b->¬F b)/\(∀u b,Sn b->¬S u b)/\(∀b,Sn b->X b\/w0.heap.size<=b))
def fin (s:ak) (dst:Option Nat) (av:I):ak:=match dst with
 |none=>s
 |some t=>if av.plain then et s t av else et (om t s) t av
def p3 (aG:Nat->Value) (dst:Option Nat) (v:Value):Nat->Value:=match dst with
 |none=>aG
 |some t=>et aG t v
theorem b8.fin (h:b8 w0 F0 X F S s aG w) {av:I} {v:Value} (aE:nQ w0 X F S s aG w av v) (dst:Option Nat):
  ∃aX,b8 w0 F0 X F aX (ef.fin s dst av) (p3 aG dst v) w:=by
 cases dst with
 |none=>exact⟨S,h⟩
 |some t=>
  simp only[ef.fin,p3];rcases aE with⟨ax,al⟩|⟨aZ,aa,Sn,ad,ae,aI,bc,bY⟩
  .rw[if_pos ax];exact⟨_,h.Dl ax al⟩
  .split
   .rename_i ax;exact⟨_,h.Dl ax ((aO.dk aZ).2 ⟨aa,aA.plain _ _ _ _ ax ad⟩)⟩
   .exact⟨_,h.Sm aZ aa ad ae aI (λu b _ ab=>bc u b ab) bY⟩
def dw (s:ak):I->Option (I×ak)
 | .h x q=>match I.sub q (s x)with
   |some d=>if d.plain then none else some (d,et (iW x s) x (I.put q d.dN (s x)))
   |none=>none
 | .ax _ _=>none
 | .ab _ _=>none
 | .fn _ _=>none
 | .hole=>none
 |d=>some (d,s)
def I.owner:I->Option Nat
 | .h x _=>some x
 |_=>none
def na:Option Nat->I->I
 |some x,d=>cK x d
 |none,d=>d
theorem rW (h:b8 w0 F0 X F S s aG w) {av d:I} {s1:ak} {v:Value} (rV:av.plain=true) (aE:aO w F s aG av v (λ_=>False)) (aZ:dw s av=some (d,s1)):
  ∃cA,b8 w0 F0 X F cA s1 aG w/\d.tree=true/\eM d v/\∃Sn,aA w F d (c8 v) Sn/\(∀b,Sn b->b<w.heap.size)/\(∀b,Sn b->¬F b)/\(∀u b,Sn b->¬cA u b)/\(∀b,Sn b->X b\/w0.heap.size<=b)/\
   (∀u b,cA u b->S u b)/\(∀b,Sn b->∃u,S u b)/\(∀(bI:I) (hi:Value) (aX:Nat->Prop),aO w F s aG bI hi aX->aO w F s1 aG (na av.owner bI) hi aX):=by
 have tree:∀d:I,d.tree=true->d.plain=true->aO w F s aG d v (λ_=>False)->
   ∃cA,b8 w0 F0 X F cA s aG w/\d.tree=true/\eM d v/\∃Sn,aA w F d (c8 v) Sn/\(∀b,Sn b->b<w.heap.size)/\(∀b,Sn b->¬F b)/\(∀u b,Sn b->¬cA u b)/\(∀b,Sn b->X b\/w0.heap.size<=b)/\
    (∀u b,cA u b->S u b)/\(∀b,Sn b->∃u,S u b):=by
  intro d al _ bB;have bB:=(aO.dk al).1 bB;exact⟨S,h,al,bB.1,_,bB.2,λ_ h=>h.elim,λ_ h=>h.elim,λ_ _ h=>h.elim,λ_ h=>h.elim,λ_ _ h=>h,λ_ h=>h.elim⟩
 cases av with
 |h x q=>
  simp only[dw]at aZ;split at aZ
  .rename_i e he;split at aZ
   .cases aZ
   .rename_i ax;simp only[some.injEq,Prod.mk.injEq]at aZ;obtain⟨rfl,rfl⟩:=aZ;have ax:e.plain=false:=by simpa using ax
    obtain⟨Sn,gm,dp,dC,ea,bf,de,bR,df,cH,dE⟩:=h.take he ax;rw[aO]at aE;obtain⟨atS,a2,g1,g2,g3⟩:=aE e he ax;rw[bf]at g1;simp only[some.injEq,Prod.mk.injEq,true_and]at g1;obtain⟨rfl,rfl⟩:=g1;have Dr:e.tree=true:=by cases e<;>first|rfl|(simp[I.plain]at ax)
    refine⟨_,ea,Dr,g3,gm,by rw[g2];exact de,λb ab=>h.fN x b (bR b ab),λb ab=>h.hf x b (bR b ab),?_,λb ab=>h.eS x b (bR b ab),?_,λb ab=>⟨x,bR b ab⟩,dE⟩
    .intro u b ab hu;simp only[hh]at hu;split at hu
     .exact cH b ab hu
     .rename_i aba;exact h.gE u x b aba hu (bR b ab)
    .intro u b hu;simp only[hh]at hu;split at hu
     .rename_i e;subst e;exact df b hu
     .exact hu
  .cases aZ
 |ax x q=>simp[dw]at aZ
 |ab x q=>simp[dw]at aZ
 |fn f c=>simp[dw]at aZ
 |hole=>simp[dw]at aZ
 |aj sz xs=>simp[I.plain]at rV
 |aM d=>simp[I.plain]at rV
 |_=>
  simp only[dw,some.injEq,Prod.mk.injEq]at aZ;obtain⟨rfl,rfl⟩:=aZ;obtain⟨cA,t1,t2,t3,Sn,t4,t5,t6,t7,t8,t9,t10⟩:=tree _ rfl rV aE;exact⟨cA,t1,t2,t3,Sn,t4,t5,t6,t7,t8,t9,t10,λ_ _ _ h=>h⟩
def loc (s:ak):I->Option (Nat×axd)
 | .h x q=>match I.sub q (s x)with
   |some (.aM _)=>some (x,q++[0])
   |_=>none
 | .ax x q=>if I.gD q (s x)then some (x,q)else none
 |_=>none
theorem Ds:∀(q:axd) (av d:I) (r:axd),I.sub q av=some d->I.sub (q++r) av=I.sub r d:=by
 intro q;induction q with
 |nil=>intro av d r h;simp[I.sub]at h;subst h;rfl
 |cons k q ih=>
  intro av d r h;cases av with
  |agg aD=>
   simp only[I.sub,cons_append]at h⊢;split at h
   .rename_i x an;exact ih _ _ _ h
   .cases h
  |tuple aD=>
   simp only[I.sub,cons_append]at h⊢;split at h
   .rename_i x an;exact ih _ _ _ h
   .cases h
  |aj sz aD=>
   simp only[I.sub,cons_append]at h⊢;split at h
   .rename_i x an;exact ih _ _ _ h
   .cases h
  |aM x=>
   cases k with
   |zero=>simp only[I.sub,cons_append]at h⊢;exact ih _ _ _ h
   |succ k=>simp[I.sub]at h
  |_=>simp[I.sub]at h
theorem abb:∀(q:axd) (av d:I) (r:axd),I.sub q av=some d->I.gD (q++r) av=(I.gD q av||I.gD r d):=by
 intro q;induction q with
 |nil=>intro av d r h;simp[I.sub]at h;subst h;simp[I.gD]
 |cons k q ih=>
  intro av d r h;cases av with
  |agg aD=>
   simp only[I.sub]at h;split at h
   .rename_i x an;simp only[I.gD,cons_append,an];exact ih _ _ r h
   .cases h
  |tuple aD=>
   simp only[I.sub]at h;split at h
   .rename_i x an;simp only[I.gD,cons_append,an];exact ih _ _ r h
   .cases h
  |aj sz aD=>simp[I.gD]
  |aM x=>simp[I.gD]
  |_=>simp[I.sub]at h
theorem Dt (w:World):∀(q:axd) (av d:I) (cs dp:axg) (a dC:Option (Nat×Nat)) (r:axd),er w q av cs a=some (d,dp,dC)->er w (q++r) av cs a=er w r d dp dC:=by
 intro q;induction q with
 |nil=>intro av d cs dp a dC r h;simp[er]at h;obtain⟨rfl,rfl,rfl⟩:=h;rfl
 |cons k q ih=>
  intro av d cs dp a dC r h;cases av with
  |agg aD=>
   rw[cons_append];rw[er]at h⊢;split at h
   .rename_i x an;exact ih _ _ _ _ _ _ _ h
   .cases h
  |tuple aD=>
   rw[cons_append];rw[er]at h⊢;split at h
   .rename_i x an;exact ih _ _ _ _ _ _ _ h
   .cases h
  |aj sz aD=>
   rw[cons_append];rw[er.eq_def]at h⊢;simp only at h⊢;split at h
   .exact ih _ _ _ _ _ _ _ h
   .cases h
  |aM x=>
   cases k with
   |zero=>
    rw[cons_append];rw[er.eq_def]at h⊢;simp only at h⊢;split at h
    .exact ih _ _ _ _ _ _ _ h
    .cases h
   |succ k=>rw[show er w ((k+1)::q) (.aM x) cs a=none from rfl]at h;cases h
  |_=>simp[er]at h
end
def hA.ok (x:hA):Bool:=match x.k with
 | .other=>false
 |_=>true
theorem cj.fz.info {C:cj} (bK:C.fz) {t:TypeId} (h:(C.T t).ok=true):
  ∃i d z,C.P.info? t=some i/\i.size=(C.T t).sz/\i.bytes=(C.T t).bytes/\i.zero=some z/\(∀cs,flat (C.T t).zero=some cs->z.cells=cs.toArray)/\C.P.underlying t=some d/\nP (C.T t).k d:=by
 rcases bK.ty t with⟨e,n,b,z,an,_⟩|bB
 .rw[an]at h;simp[hA.ok]at h
 .exact bB
theorem hr {x:hA} {k:p2} (h:x.k=k) (au:k≠.other):x.ok=true:=by
 unfold hA.ok;rw[h];cases k<;>first|rfl|exact(au rfl).elim
theorem Du {d:TypeDesc} {aD:List (TypeId×Nat)} (h:nP (.struct aD) d):∃gs,d= .struct gs/\gs.toList.map (λg=>(g.type,g.offset))=aD:=by
 cases d<;>simp[nP]at h;exact⟨_,rfl,h⟩
theorem oq {d:TypeDesc} {e:TypeId} (h:nP (.slice e) d):d= .slice e:=by
 cases d<;>simp[nP]at h;rw[h]
theorem Hd {d:TypeDesc} {k:IntKind} (h:nP (.int k) d):d= .int k:=by
 cases d<;>simp[nP]at h;rw[h]
theorem tl {d:TypeDesc} (h:nP .str d):d= .string:=by
 cases d<;>simp[nP]at h;rfl
theorem Lw {d:TypeDesc} (h:nP .bool d):d= .bool:=by
 cases d<;>simp[nP]at h;rfl
theorem Su {d:TypeDesc} {e:TypeId} (h:nP (.ptr e) d):d= .pointer e:=by
 cases d<;>simp[nP]at h;rw[h]
theorem ib {v:Value} (h:Value.hE v=true):c8 v=[v]:=by
 cases v<;>first|rfl|(simp[Value.hE]at h)
theorem Dv {P:Program} {t:TypeId} {i:TypeInfo} (h:P.info? t=some i) (w:World):(typeInfo t).run P w= .ok i w:=by simp[typeInfo,h]
theorem nb {P:Program} {t:TypeId} {i:TypeInfo} (h:P.info? t=some i) (w:World):(Go.sizeOf t).run P w= .ok i.size w:=by simp[Go.sizeOf,Dv h]
theorem yf {P:Program} {t:TypeId} {i:TypeInfo} {z:Value} (h:P.info? t=some i) (b9:i.zero=some z) (w:World):(zeroValue t).run P w= .ok z w:=by simp[zeroValue,Dv h,b9]
section
variable {C:cj} {w0 w:World} {F0 X F:Nat->Prop} {S:Nat->Nat->Prop} {s s1:ak} {aG:Nat->Value} {av:I}
def Good (C:cj) (w0:World) (F0 X:Nat->Prop) (aG:Nat->Value) (w:World) (m:Sem Value) (av:I) (s1:ak):Prop:=
 ∃v aL cl aX,m.run C.P w= .ok v aL/\b8 w0 F0 X cl aX s1 aG aL/\nQ w0 X cl aX s1 aG aL av v
theorem Good.same (h:b8 w0 F0 X F S s aG w) {m:Sem Value} {v:Value} (aQ:m.run C.P w= .ok v w) (ax:av.plain=true) (aE:aO w F s aG av v (λ_=>False)):Good C w0 F0 X aG w m av s:=
 ⟨v,w,F,S,aQ,h,.inl ⟨ax,aE⟩⟩
theorem Lx (_h:b8 w0 F0 X F S s aG w) {x:I} {v:Value} (aE:aO w F s aG x v (λ_=>False)) {y:Nat} {q:axd} (aC:loc s x=some (y,q)) {d:I} (al:I.sub q (s y)=some d):
  I.gD q (s y)=true/\∃dp b o,v= .pointer (some ⟨b,o,none⟩)/\er w q (s y) (c8 (aG y)) none=some (d,dp,some (b,o)):=by
 cases x with
 |h z At=>
  simp only[loc]at aC;split at aC
  .rename_i e he;simp only[some.injEq,Prod.mk.injEq]at aC;obtain⟨rfl,rfl⟩:=aC;rw[aO]at aE;obtain⟨dp,a,g1,g2,g3⟩:=aE _ he rfl;have iS:e=d:=by
    rw[Ds _ _ _ _ he]at al;simpa [I.sub]using al
   subst iS;refine⟨by rw[abb _ _ _ _ he];simp[I.gD],?_⟩;have ad:Value.hE v=true:=g3;rw[ib ad]at g2;subst g2;have mZ:=Dt w At (s z) _ _ _ none a [0] g1;have an:=_h.ew z;rw[aO.dk (jf he (.inl rfl))]at an;obtain⟨g_,dC,e5,gm,k0,bX,cN,dH,dT,eG⟩:=ctx At (s z) (c8 (aG z)) (S z) none _ an.2 he;rw[k0]at g1;simp only[some.injEq,Prod.mk.injEq,true_and]at g1;obtain⟨rfl,rfl⟩:=g1;rw[aA]at dT;obtain⟨b,cur,aU,fr,eI,aR,_⟩:=dT;simp only[cons.injEq,and_true]at aR;subst aR;exact⟨_,b,0,rfl,by rw[mZ];rfl⟩
  .cases aC
 |ax z At=>
  simp only[loc]at aC;split at aC
  .rename_i ar;simp only[some.injEq,Prod.mk.injEq]at aC;obtain⟨rfl,rfl⟩:=aC;rw[aO]at aE;obtain⟨dp,b,o,g1,g2⟩:=aE _ al ar;exact⟨ar,dp,b,o,g2,g1⟩
  .cases aC
 |_=>simp[loc]at aC
def hK (C:cj) (s:ak) (T:TypeId) (x:I) (k:Nat):Option I:=
 match(C.T T).k with
 | .struct aD=>match aD[k]? with
   |some (lR,off)=>if(C.T lR).ok=true/\(C.T lR).sz≠0 then
     match x with
     | .ref (.agg ds)=>match ds[k]? with
       |some d=>if I.eY (ds.take k)=off then some (.ref d)else none
       |none=>none
     | .ab y o=>if(s y).plain then none else some (.ab y (o+off))
     |x=>match loc s x with
      |some (y,q)=>match I.sub q (s y)with
       |some (.agg ds)=>if k<ds.length/\I.eY (ds.take k)=off then some (.ax y (q++[k]))else none
       |_=>none
      |none=>none
    else none
   |none=>none
 |_=>none
theorem jc.Ly {w:World} {b o:Nat} {cz gZ c2:axg} (h:jc w b o (cz++(gZ++c2))):jc w b (o+cz.length) gZ:=by
 intro j c bE;have eB:j<gZ.length:=(List.getElem?_eq_some_iff.1 bE).1;have:=h (cz.length+j) c (by rw[getElem?_append_right (by omega),getElem?_append_left (by omega),<-bE];congr 1;omega);rw[Nat.add_assoc];exact this
theorem Lz (bK:C.fz) {T lR:TypeId} {aD:List (TypeId×Nat)} {k off:Nat} (au:(C.T T).k= .struct aD) (bF:aD[k]? =some (lR,off)) (ad:(C.T lR).ok=true) (ae:(C.T lR).sz≠0) (b o:Nat) (w:World):
  (Instr.fieldAt T (.pointer (some ⟨b,o,none⟩)) k).run C.P w= .ok (.pointer (some ⟨b,o+off,none⟩)) w:=by
 obtain⟨i,d,z,aN,aU,aR,bW,cM,cg,b3⟩:=bK.info (hr au (by simp));rw[au]at b3;obtain⟨gs,rfl,fu⟩:=Du b3;obtain⟨tm,bI,uU,f1,f2,f3,f4,f5,f6,f7⟩:=bK.info ad;have hg:∃g,gs[k]? =some g/\g.type=lR/\g.offset=off:=by
  rw[<-fu,getElem?_map]at bF;simp only[map_eq_some_iff,Prod.mk.injEq]at bF;obtain⟨g,ad,ae,aI⟩:=bF;exact⟨g,by simpa using ad,ae,aI⟩
 obtain⟨g,g1,rfl,rfl⟩:=hg;simp[Instr.fieldAt,run_underlying cg,g1,Instr.sureAddr,fieldPlace,nb f1,f2,ae,Addr.add_lit]
theorem abc (bK:C.fz) (h:b8 w0 F0 X F S s aG w) {T:TypeId} {x:I} {v:Value} {k:Nat} (an:x.plain=true) (aE:aO w F s aG x v (λ_=>False)) (he:hK C s T x k=some av):
  Good C w0 F0 X aG w (Instr.fieldAt T v k) av s:=by
 unfold hK at he;split at he
 .rename_i aD au;split at he
  .rename_i lR off bF;split at he
   .rename_i Au;split at he
    .rename_i ds;split at he
     .rename_i d al;split at he
      .rename_i tn;simp only[some.injEq]at he;subst he;have oR:=(aO.dk rfl).1 aE;rw[aA]at oR;obtain⟨aa,b,o,e9,ad,ae,aI,bc⟩:=oR;rw[ib aa]at ad;simp only[cons.injEq,and_true]at ad;subst ad;rw[aA]at bc;obtain⟨cz,gZ,c2,cA,jd,rfl,iU,hp,iV,kq,hc,oN⟩:=bx.pick ds _ _ k d bc al;refine Good.same h (Lz bK au bF Au.1 Au.2 b o w) rfl ((aO.dk rfl).2 ⟨rfl,?_⟩);rw[aA];refine⟨b,o+off,gZ,rfl,ae,?_,aA.mono (λ_ h=>h) _ _ _ _ (λb ab=>iV b ab) hc⟩;rw[<-tn,<-iU];exact aI.Ly
      .cases he
     .cases he
    .rename_i y o;split at he
     .cases he
     .rename_i ax;simp only[some.injEq]at he;subst he;rw[aO]at aE;obtain⟨b,cur,e,fr,rfl,ae,aI,bc⟩:=aE (by simpa using ax);refine Good.same h (Lz bK au bF Au.1 Au.2 b o w) rfl ?_;rw[aO];exact λ_=>⟨b,cur,e,fr,rfl,ae,aI,bc⟩
    .rename_i x _ _;split at he
     .rename_i y q aC;split at he
      .rename_i ds al;split at he
       .rename_i tn;simp only[some.injEq]at he;subst he;obtain⟨ar,dp,b,o,rfl,mZ⟩:=Lx h aE aC al;refine Good.same h (Lz bK au bF Au.1 Au.2 b o w) rfl ?_;rw[aO];intro d2 hq k4;rw[Dt w q _ _ _ _ _ _ [k] mZ];rw[Ds _ _ _ _ al]at hq;have oS:∃d3,ds[k]? =some d3:=⟨_,getElem?_eq_getElem tn.1⟩
        obtain⟨d3,Dw⟩:=oS;simp only[I.sub,Dw,some.injEq]at hq;subst hq;simp only[er,Dw];refine⟨(dp.drop off).take d3.wd,b,o+off,?_,rfl⟩;rw[tn.2];rfl
       .cases he
      .cases he
     .cases he
   .cases he
  .cases he
 .cases he
def ks (C:cj) (s:ak) (T:TypeId) (x i:I):Option I:=
 match(C.T T).k,i with
 | .slice e,.int _ n=>if 0<=n/\(C.T e).ok=true then
   match x with
   | .slice xs=>match xs[n.toNat]? with
     |some d=>if d.wd=(C.T e).sz then some (.ref d)else none
     |none=>none
   | .h y q=>match I.sub q (s y)with
     |some (.aj sz xs)=>if n.toNat<xs.length/\sz=(C.T e).sz then some (.ax y (q++[n.toNat]))else none
     |_=>none
   |_=>none
   else none
 |_,_=>none
theorem Sv (bK:C.fz) {T e:TypeId} (au:(C.T T).k= .slice e) (he:(C.T e).ok=true) (b o len cap:Nat) (k:IntKind) (n:Nat) (aS:n<len) (w:World):
  (Instr.indexAt T (.slice (some ⟨b,o,none⟩) len cap) (.int k n)).run C.P w= .ok (.pointer (some ⟨b,o+n*(C.T e).sz,none⟩)) w:=by
 obtain⟨i,d,z,aN,aU,aR,bW,cM,cg,b3⟩:=bK.info (hr au (by simp));rw[au]at b3;have:=oq b3;subst this;obtain⟨tm,bI,uU,f1,f2,f3,f4,f5,f6,f7⟩:=bK.info he;simp[Instr.indexAt,run_underlying cg,asIntOf,aS,nb f1,f2,Addr.add_lit]
theorem abd (bK:C.fz) (h:b8 w0 F0 X F S s aG w) {T:TypeId} {x i:I} {v qH:Value} (aE:aO w F s aG x v (λ_=>False)) (abe:aO w F s aG i qH (λ_=>False))
  (he:ks C s T x i=some av):Good C w0 F0 X aG w (Instr.indexAt T v qH) av s:=by
 unfold ks at he;split at he
 .rename_i e k n au;have LA:=(aO.dk rfl).1 abe;rw[aA,ib LA.1]at LA;have:qH= .int k n:=by simpa using LA.2
  subst this;split at he
  .rename_i aS;obtain⟨n,rfl⟩:=Int.eq_ofNat_of_zero_le aS.1;simp only[Int.toNat_natCast]at he;split at he
   .rename_i xs;split at he
    .rename_i d al;split at he
     .rename_i hw;simp only[some.injEq]at he;subst he;have oR:=(aO.dk rfl).1 aE;rw[aA,ib oR.1]at oR;obtain⟨aa,⟨rfl,_⟩|⟨b,o,cap,e9,sz,ad,ae,aI,bc,bY,dt,dv⟩⟩:=oR
      .simp at al
      .simp only[cons.injEq,and_true]at ad;subst ad;have eB:n<xs.length:=(List.getElem?_eq_some_iff.1 al).1;obtain⟨cz,gZ,c2,cA,jd,rfl,iU,hp,iV,kq,hc,oN⟩:=bx.pick xs _ _ n d dv al;refine Good.same h (Sv bK au aS.2 b o _ _ k n eB w) rfl ((aO.dk rfl).2 ⟨rfl,?_⟩);rw[aA];refine⟨b,_,gZ,rfl,ae,?_,aA.mono (λ_ h=>h) _ _ _ _ (λb ab=>iV b ab) hc⟩;have abf:=bY d (mem_of_getElem? al);have:n*(C.T e).sz=cz.length:=by
        rw[iU,ya _ (λd al=>bY d (mem_of_mem_take al)),length_take,Nat.min_eq_left (by omega),<-hw,abf]
       rw[this];exact dt.Ly
     .cases he
    .cases he
   .rename_i y q;split at he
    .rename_i sz xs al;split at he
     .rename_i hw;simp only[some.injEq]at he;subst he;rw[aO]at aE;obtain⟨dp,a,g1,g2,g3⟩:=aE _ al rfl;have aa:Value.hE v=true:=g3;rw[ib aa]at g2;subst g2;have an:=h.ew y;rw[aO.dk (jf al (.inl rfl))]at an;obtain⟨g_,dC,e5,gm,k0,bX,cN,dH,dT,eG⟩:=ctx q (s y) (c8 (aG y)) (S y) none _ an.2 al;rw[k0]at g1;simp only[some.injEq,Prod.mk.injEq,true_and]at g1;obtain⟨rfl,rfl⟩:=g1;rw[aA]at dT;rcases dT with⟨rfl,_⟩|⟨b,cap,cur,aU,fr,eI,aR,_⟩
      .simp at hw
      .simp only[cons.injEq,and_true]at aR;subst aR;refine Good.same h (Sv bK au aS.2 b 0 _ _ k n hw.1 w) rfl ?_;rw[aO];intro d2 hq _;rw[Dt w q _ _ _ _ _ _ [n] k0];rw[Ds _ _ _ _ al]at hq;obtain⟨d3,Dw⟩:∃d3,xs[n]? =some d3:=⟨_,getElem?_eq_getElem hw.1⟩
       simp only[I.sub,Dw,some.injEq]at hq;subst hq;simp only[er,Dw];exact⟨_,b,n*sz,rfl,by simp[hw.2]⟩
     .cases he
    .cases he
   .cases he
  .cases he
 .cases he
end
section
variable {C:cj} {w0 w:World} {F0 X F:Nat->Prop} {S:Nat->Nat->Prop} {s s1:ak} {aG:Nat->Value} {av:I}
theorem Sw (bK:C.fz) {T:TypeId} {aD:List (TypeId×Nat)} (au:(C.T T).k= .struct aD) (w:World):(isAgg T).run C.P w= .ok true w:=by
 obtain⟨i,d,z,aN,aU,aR,bW,cM,cg,b3⟩:=bK.info (hr au (by simp));rw[au]at b3;obtain⟨gs,rfl,_⟩:=Du b3;simp[isAgg,run_underlying cg]
def hA.flat (x:hA):Bool:=match x.k with
 | .other=>false
 | .gx _=>false
 | .struct _=>false
 |_=>true
theorem Sy {x:hA} (h:x.flat=true):x.ok=true:=by
 unfold hA.flat at h;unfold hA.ok;revert h;cases x.k<;>simp
theorem LB (bK:C.fz) {T:TypeId} (au:(C.T T).flat=true) (w:World):(isAgg T).run C.P w= .ok false w:=by
 obtain⟨i,d,z,aN,aU,aR,bW,cM,cg,b3⟩:=bK.info (Sy au);have dQ:(∀aD,d≠.struct aD)/\(∀n e,d≠.array n e):=by
  clear cg;unfold hA.flat at au;generalize (C.T T).k=nR at*;cases nR<;>cases d<;>simp[nP]at b3 au⊢
 cases d<;>first|exact(dQ.1 _ rfl).elim|exact(dQ.2 _ _ rfl).elim|simp[isAgg,run_underlying cg]
theorem jc.one {w:World} {b o:Nat} {v:Value} (h:jc w b o [v]):w.cell? ⟨b,o,none⟩=some v:=by simpa using h 0 v rfl
theorem Sz {P:Program} {b o:Nat}:∀(cs:axg) (i:Nat) (acc:Array Value),jc w b (o+i) cs->(loadCellsFrom ⟨b,o,none⟩ i cs.length acc).run P w= .ok (acc++cs.toArray) w
 |[],i,acc,_=>by simp[loadCellsFrom]
 |c::cs,i,acc,h=>by
  have bb:w.cell? ⟨b,o+i,none⟩=some c:=by simpa using h 0 c rfl
  have ad:jc w b (o+(i+1)) cs:=by
   intro j x bE;have:=h (j+1) x (by simpa using bE);rw[<-this];congr 2;omega
  have ih:=Sz (P:=P) cs (i+1) (acc.push c) ad;simp only[length_cons,loadCellsFrom,Sem.run_bind,Go.load,Sem.run,Addr.add_lit,bb,Result.andThen];rw[ih];simp
theorem abg (bK:C.fz) {T:TypeId} {aD:List (TypeId×Nat)} (au:(C.T T).k= .struct aD) {b o:Nat} {cs:axg} (h:jc w b o cs) (aC:cs.length=(C.T T).sz):
  (loadVar T ⟨b,o,none⟩).run C.P w= .ok (.agg cs.toArray) w:=by
 obtain⟨i,d,z,aN,aU,aR,bW,cM,cg,b3⟩:=bK.info (hr au (by simp));have:=Sz (P:=C.P) (b:=b) (o:=o) cs 0 #[] (by simpa using h);simp only[loadVar,Sem.run_bind,Sw bK au,Result.andThen,if_true,nb aN,aU,<-aC,loadCells,this];simp
theorem SA (bK:C.fz) {T:TypeId} (au:(C.T T).flat=true) {b o:Nat} {v:Value} (h:jc w b o [v]):
  (loadVar T ⟨b,o,none⟩).run C.P w= .ok v w:=by
 simp[loadVar,LB bK au,Go.load,Sem.run,h.one]
def fits (C:cj) (T:TypeId) (d:I):Bool:=match(C.T T).k,d with
    | .struct _,.agg ds=>I.eY ds==(C.T T).sz
    | .struct _,_=>false
    |_,.agg _=>false
    |_,.tuple _=>false
    |_,_=>(C.T T).flat
def SB:axi->Nat->Nat->Option Nat
 |[],_,_=>none
 |d::ds,i,k=>if k=0 then some i else if d.wd<=k then SB ds (i+1) (k-d.wd)else none
def fO (C:cj) (s:ak) (T:TypeId) (x:I):Option I:=
 match x with
 | .ref d=>if fits C T d=true then some d else none
 | .ab y k=>match s y with
   | .agg ds=>if I.hz ds then none else match SB ds 0 k with
     |some i=>match ds[i]? with
      |some d=>if I.eY (ds.take i)=k/\fits C T d=true then some (if d.plain then d else .h y [i])else none
      |none=>none
     |none=>none
   |_=>none
 |x=>match loc s x with
  |some (y,q)=>match I.sub q (s y)with
   |some d=>if fits C T d=true then some (if d.plain then d else .h y q)else none
   |none=>none
  |none=>none
theorem aA.one {F:Nat->Prop} {d:I} {cs:axg} {S:Nat->Prop} (h:aA w F d cs S) (ad:∀aD,d≠.agg aD) (ae:∀aD,d≠.tuple aD):∃v,cs=[v]/\Value.hE v=true:=by
 cases d with
 |hole=>rw[aA]at h;obtain⟨v,h,rfl⟩:=h;exact⟨v,rfl,h⟩
 |gw=>rw[aA]at h;obtain⟨v,rfl⟩:=h;exact⟨_,rfl,rfl⟩
 |slice xs=>rw[aA]at h;rcases h with⟨_,a,c,rfl,_⟩|⟨b,o,cap,e9,sz,rfl,_⟩<;>exact⟨_,rfl,rfl⟩
 |aj sz xs=>rw[aA]at h;rcases h with⟨_,_,rfl⟩|⟨b,cap,cur,e,fr,eS,rfl,_⟩<;>exact⟨_,rfl,rfl⟩
 |ref d=>rw[aA]at h;obtain⟨b,o,e9,rfl,_⟩:=h;exact⟨_,rfl,rfl⟩
 |aM d=>rw[aA]at h;obtain⟨b,cur,e,fr,eS,rfl,_⟩:=h;exact⟨_,rfl,rfl⟩
 |agg aD=>exact(ad _ rfl).elim
 |tuple aD=>exact(ae _ rfl).elim
 |fn _ _=>rw[aA]at h;obtain⟨arr,rfl,_⟩:=h;exact⟨_,rfl,rfl⟩
 |h _ _=>rw[aA]at h;exact h.elim
 |ax _ _=>rw[aA]at h;exact h.elim
 |ab _ _=>rw[aA]at h;exact h.elim
 |b4 _=>rw[aA]at h;obtain⟨v,j3,rfl⟩:=oi.one h;exact⟨v,rfl,j3⟩
 |_=>rw[aA]at h;subst h;exact⟨_,rfl,rfl⟩
theorem I.He {d:I} (h:d.single=true):(∀aD,d≠.agg aD)/\∀aD,d≠.tuple aD:=
 ⟨λaD e=>(by subst e;cases h),λaD e=>(by subst e;cases h)⟩
theorem aO.rX {F:Nat->Prop} {s:ak} {aG:Nat->Value} {d:I} {v:Value} (aZ:d.tree=true) (aa:d.single=true) (h:aA w F d [v] (λ_=>False)):aO w F s aG d v (λ_=>False):=by
 obtain⟨hi,e,ad⟩:=aA.one h (I.He aa).1 (I.He aa).2;have:v=hi:=by simpa using e
 subst this;refine(aO.dk aZ).2 ⟨?_,by rw[ib ad];exact h⟩;cases d<;>first|exact ad|cases aa
mutual
theorem aO.tp {F:Nat->Prop} {s:ak} {aG:Nat->Value}:∀(d:I) (v:Value),d.single=true->aA w F d [v] (λ_=>False)->aO w F s aG d v (λ_=>False)
 | .fn f caps,v,_,h=>by
   rw[aA]at h;obtain⟨arr,ad,ae,aI⟩:=h;rw[aO];exact⟨arr,by simpa using ad,fm.tp caps _ ae aI⟩
 | .bool b,v,aa,h=>aO.rX rfl aa h
 | .gw,v,aa,h=>aO.rX rfl aa h
 | .int k n,v,aa,h=>aO.rX rfl aa h
 | .str x,v,aa,h=>aO.rX rfl aa h
 | .en,v,aa,h=>aO.rX rfl aa h
 | .a8,v,aa,h=>aO.rX rfl aa h
 | .slice xs,v,aa,h=>aO.rX rfl aa h
 | .aj sz xs,v,aa,h=>aO.rX rfl aa h
 | .ref d,v,aa,h=>aO.rX rfl aa h
 | .aM d,v,aa,h=>aO.rX rfl aa h
 | .h _ _,v,_,h=>by rw[aA]at h;exact h.elim
 | .ax _ _,v,_,h=>by rw[aA]at h;exact h.elim
 | .ab _ _,v,_,h=>by rw[aA]at h;exact h.elim
 | .b4 _,v,aa,h=>aO.rX rfl aa h
theorem fm.tp {F:Nat->Prop} {s:ak} {aG:Nat->Value}:∀(ds:axi) (vs:axg),(∀d∈ds,d.single=true)->bx w F ds vs (λ_=>False)->fm w F s aG ds vs
 |[],vs,_,h=>by rw[bx]at h;rw[fm];exact h
 |d::ds,vs,aa,h=>by
  rw[bx]at h;obtain⟨cz,c2,cA,eI,rfl,ae,aI,bc,bY,_⟩:=h;have al:=aa d (by simp);obtain⟨v,rfl,_⟩:=aA.one ae (I.He al).1 (I.He al).2;rw[fm];exact⟨v,c2,rfl,aO.tp d v al (aA.mono (λ_ h=>h) _ _ _ _ (λb ab=>bc b ab) ae),fm.tp ds c2 (λx an=>aa x (by simp[an])) (bx.mono (λ_ h=>h) _ _ _ _ (λb ab=>bY b ab) aI)⟩
end
theorem Hf (bK:C.fz) {T:TypeId} {d:I} {b o:Nat} {cs:axg} {S:Nat->Prop} (h:jc w b o cs) (al:aA w F d cs S)
  (j4:fits C T d=true):
  ∃v,(loadVar T ⟨b,o,none⟩).run C.P w= .ok v w/\c8 v=cs/\eM d v:=by
 unfold fits at j4;by_cases aa:∃aD,(C.T T).k= .struct aD
 .obtain⟨aD,au⟩:=aa;rw[au]at j4;cases d with
  |agg ds=>
   simp only[beq_iff_eq]at j4;refine⟨_,abg bK au h ((aA.length _ _ _ al).trans j4),rfl,⟨_,rfl⟩⟩
  |_=>simp at j4
 .have j5:(C.T T).flat=true/\(∀aD,d≠.agg aD)/\(∀aD,d≠.tuple aD):=by
   revert j4 aa;cases au:(C.T T).k<;>cases d<;>simp
  obtain⟨v,rfl,ad⟩:=aA.one al j5.2.1 j5.2.2;refine⟨v,SA bK j5.1 h,ib ad,?_⟩;cases d<;>first|exact ad|exact(j5.2.1 _ rfl).elim|exact(j5.2.2 _ rfl).elim
theorem abh (bK:C.fz) {T:TypeId} {d:I} {off:Nat} {arr:Array Value} {cz cs c2:axg} {S:Nat->Prop} (he:arr.toList=cz++(cs++c2)) (bH:cz.length=off) (al:aA w F d cs S)
  (j4:fits C T d=true):
  ∃v,(part T arr off).run C.P w= .ok v w/\c8 v=cs/\eM d v:=by
 unfold fits at j4;by_cases aa:∃aD,(C.T T).k= .struct aD
 .obtain⟨aD,au⟩:=aa;rw[au]at j4;cases d with
  |agg ds=>
   simp only[beq_iff_eq]at j4;obtain⟨i,d,z,aN,aU,aR,bW,cM,cg,b3⟩:=bK.info (hr au (by simp));have aC:cs.length=(C.T T).sz:=(aA.length _ _ _ al).trans j4;have an:(arr.extract off (off+(C.T T).sz)).toList=cs:=by
    rw[Array.toList_extract,he,extract_eq_take_drop,<-aC,<-bH,Nat.add_sub_cancel_left,drop_left,take_left]
   refine⟨.agg (arr.extract off (off+(C.T T).sz)),?_,by simpa [c8,je]using an,⟨_,rfl⟩⟩;simp[part,Sw bK au,nb aN,aU]
  |_=>simp at j4
 .have j5:(C.T T).flat=true/\(∀aD,d≠.agg aD)/\(∀aD,d≠.tuple aD):=by
   revert j4 aa;cases au:(C.T T).k<;>cases d<;>simp
  obtain⟨v,rfl,ad⟩:=aA.one al j5.2.1 j5.2.2;have hg:arr[off]? =some v:=by
   rw[<-Array.getElem?_toList,he,<-bH,getElem?_append_right (Nat.le_refl _)];simp
  refine⟨v,?_,ib ad,?_⟩
  .simp[part,LB bK j5.1,hg]
  .cases d<;>first|exact ad|exact(j5.2.1 _ rfl).elim|exact(j5.2.2 _ rfl).elim
theorem abj (bK:C.fz) (h:b8 w0 F0 X F S s aG w) {T:TypeId} {x:I} {v:Value} (aE:aO w F s aG x v (λ_=>False)) (he:fO C s T x=some av):
  Good C w0 F0 X aG w (Instr.loadAt T v) av s:=by
 unfold fO at he;split at he
 .rename_i d;split at he
  .rename_i j4;simp only[some.injEq]at he;subst he;have oR:=(aO.dk rfl).1 aE;rw[aA,ib oR.1]at oR;obtain⟨aa,b,o,e9,ad,ae,aI,bc⟩:=oR;simp only[cons.injEq,and_true]at ad;subst ad;obtain⟨hi,aQ,ar,ot⟩:=Hf bK aI bc j4;have fh:(Instr.loadAt T (.pointer (some ⟨b,o,none⟩))).run C.P w= .ok hi w:=by simp[Instr.loadAt,Instr.sureAddr,aQ]
   refine⟨hi,w,F,S,fh,h,?_⟩;by_cases aZ:d.tree=true
   .exact .inr ⟨aZ,ot,λ_=>False,by rw[ar];exact bc,λ_ h=>h.elim,λ_ h=>h.elim,λ_ _ h=>h.elim,λ_ h=>h.elim⟩
   .cases d<;>first|exact(aZ rfl).elim|(rw[aA]at bc;exact bc.elim)|exact .inl ⟨rfl,by rw[aO];trivial⟩|(have bY:=bc;rw[aA]at bY;obtain⟨arr,e,_⟩:=bY;rw[<-ar]at e bc;rw[ib (by exact ot)]at bc;exact .inl ⟨rfl,aO.tp _ _ rfl bc⟩)
  .cases he
 .rename_i y k;split at he
  .rename_i ds wI;split at he
   .cases he
   .rename_i abk;split at he
    .rename_i i ag;split at he
     .rename_i d al;split at he
      .rename_i j4;simp only[some.injEq]at he;have fA:(s y).plain=false:=by rw[wI];simp only[I.plain];simpa using abk
       rw[aO]at aE;obtain⟨b,cur,e,fr,rfl,ae,aI,bc⟩:=aE fA;have hy:=h.ew y;rw[wI]at hy;have SC:=((aO.dk rfl).1 hy).2;rw[aA]at SC;obtain⟨cz,gZ,c2,cA,jd,iX,iU,hp,iV,kq,hc,oN⟩:=bx.pick ds _ _ i d SC al;have mc:jc w b k gZ:=by
        intro j c bE;have eB:j<gZ.length:=(List.getElem?_eq_some_iff.1 bE).1;have:cur.toList[k+j]? =some c:=by
         rw[bc,iX,getElem?_append_right (by omega),getElem?_append_left (by omega),<-bE];congr 1;omega
        simp[World.cell?,aI];simpa using this
       obtain⟨hi,aQ,ar,ot⟩:=Hf bK mc hc j4.2;have fh:(Instr.loadAt T (.pointer (some ⟨b,k,none⟩))).run C.P w= .ok hi w:=by simp[Instr.loadAt,Instr.sureAddr,aQ]
       refine⟨hi,w,F,S,fh,h,?_⟩;split at he
       .rename_i ax;subst he;by_cases aZ:d.tree=true
        .exact .inl ⟨ax,(aO.dk aZ).2 ⟨ot,by rw[ar];exact aA.plain _ _ _ _ ax hc⟩⟩
        .cases d<;>first|exact(aZ rfl).elim|(rw[aA]at hc;exact hc.elim)|exact .inl ⟨rfl,by rw[aO];trivial⟩|(have bY:=aA.plain _ _ _ (λ_=>False) ax hc;rw[<-ar]at bY;rw[ib (by exact ot)]at bY;exact .inl ⟨rfl,aO.tp _ _ rfl bY⟩)
       .subst he;refine .inl ⟨rfl,?_⟩;rw[aO];intro d2 hq _;rw[wI]at hq⊢;simp only[I.sub,al,some.injEq]at hq;subst hq;refine⟨gZ,none,?_,ar,ot⟩;simp only[er,al];rw[iX,x9 cz gZ c2 _ _ iU (aA.length _ _ _ hc)];rfl
      .cases he
     .cases he
    .cases he
  .cases he
 .rename_i x _ _;split at he
  .rename_i y q aC;split at he
   .rename_i d al;split at he
    .rename_i j4;simp only[some.injEq]at he;obtain⟨rY,dp,b,o,rfl,mZ⟩:=Lx h aE aC al;have hy:=h.ew y;rw[aO.dk (jf al (.inr rY))]at hy;obtain⟨g_,dC,e5,gm,k0,bX,cN,dH,dT,eG⟩:=ctx q (s y) (c8 (aG y)) (S y) none _ hy.2 al;rw[k0]at mZ;simp only[some.injEq,Prod.mk.injEq,true_and]at mZ;obtain⟨rfl,rfl⟩:=mZ;have mc:jc w b o g_:=by
      rcases eG with⟨l,r,aN,aU,_⟩|⟨gM,cur,e,fr,l,r,aN,aU,aR,bW,cM,_⟩
      .simp at aU
      .simp only[some.injEq,Prod.mk.injEq]at aN;obtain⟨rfl,rfl⟩:=aN;intro j c bE;have eB:j<g_.length:=(List.getElem?_eq_some_iff.1 bE).1;have:cur.toList[l.length+j]? =some c:=by
        rw[cM,getElem?_append_right (by omega),getElem?_append_left (by omega),<-bE];congr 1;omega
       simp[World.cell?,aR];simpa using this
     obtain⟨hi,aQ,ar,ot⟩:=Hf bK mc dT j4;have fh:(Instr.loadAt T (.pointer (some ⟨b,o,none⟩))).run C.P w= .ok hi w:=by simp[Instr.loadAt,Instr.sureAddr,aQ]
     refine⟨hi,w,F,S,fh,h,?_⟩;split at he
     .rename_i ax;subst he;by_cases aZ:d.tree=true
      .exact .inl ⟨ax,(aO.dk aZ).2 ⟨ot,by rw[ar];exact aA.plain _ _ _ _ ax dT⟩⟩
      .cases d<;>first|exact(aZ rfl).elim|(rw[aA]at dT;exact dT.elim)|exact .inl ⟨rfl,by rw[aO];trivial⟩|(have bY:=aA.plain _ _ _ (λ_=>False) ax dT;rw[<-ar]at bY;rw[ib (by exact ot)]at bY;exact .inl ⟨rfl,aO.tp _ _ rfl bY⟩)
     .subst he;refine .inl ⟨rfl,?_⟩;rw[aO];intro d2 hq _;rw[al]at hq;simp only[some.injEq]at hq;subst hq;exact⟨_,_,k0,ar,ot⟩
    .cases he
   .cases he
  .cases he
mutual
theorem aA.yg {F:Nat->Prop}:∀(d:I) (cs:axg) (S:Nat->Prop),aA w F d cs S->∀c∈cs,Value.hE c=true
 | .hole,cs,S,h=>by rw[aA]at h;obtain⟨v,h,rfl⟩:=h;simpa using h
 | .bool _,cs,S,h=>by rw[aA]at h;subst h;simp[Value.hE]
 | .gw,cs,S,h=>by rw[aA]at h;obtain⟨b,rfl⟩:=h;simp[Value.hE]
 | .int _ _,cs,S,h=>by rw[aA]at h;subst h;simp[Value.hE]
 | .str _,cs,S,h=>by rw[aA]at h;subst h;simp[Value.hE]
 | .en,cs,S,h=>by rw[aA]at h;subst h;simp[Value.hE]
 | .a8,cs,S,h=>by rw[aA]at h;subst h;simp[Value.hE]
 | .slice xs,cs,S,h=>by
   rw[aA]at h;rcases h with⟨_,a,c,rfl,_⟩|⟨b,o,cap,e9,sz,rfl,_⟩<;>simp[Value.hE]
 | .aj sz xs,cs,S,h=>by
   rw[aA]at h;rcases h with⟨_,_,rfl⟩|⟨b,cap,cur,e,fr,aX,rfl,_⟩<;>simp[Value.hE]
 | .ref d,cs,S,h=>by rw[aA]at h;obtain⟨b,o,e9,rfl,_⟩:=h;simp[Value.hE]
 | .aM d,cs,S,h=>by rw[aA]at h;obtain⟨b,o,e9,_,_,rfl,_⟩:=h;simp[Value.hE]
 | .agg aD,cs,S,h=>by rw[aA]at h;exact bx.yg aD _ _ h
 | .tuple aD,cs,S,h=>by rw[aA]at h;exact bx.yg aD _ _ h
 | .fn _ _,cs,S,h=>by rw[aA]at h;obtain⟨arr,rfl,_⟩:=h;simp[Value.hE]
 | .h _ _,cs,S,h=>by rw[aA]at h;exact h.elim
 | .ax _ _,cs,S,h=>by rw[aA]at h;exact h.elim
 | .ab _ _,cs,S,h=>by rw[aA]at h;exact h.elim
 | .b4 _,cs,S,h=>by rw[aA]at h;obtain⟨v,j3,rfl⟩:=oi.one h;simpa using j3
theorem bx.yg {F:Nat->Prop}:∀(ds:axi) (cs:axg) (S:Nat->Prop),bx w F ds cs S->∀c∈cs,Value.hE c=true
 |[],cs,S,h=>by rw[bx]at h;subst h;simp
 |d::ds,cs,S,h=>by
  rw[bx]at h;obtain⟨cz,c2,cA,eI,rfl,ae,aI,_⟩:=h;intro c ar;rcases mem_append.1 ar with ar|ar
  .exact aA.yg d _ _ ae c ar
  .exact bx.yg ds _ _ aI c ar
end
theorem Hg {P:Program} {b o:Nat} {e:TypeId} {fr:Nat×Nat}:∀(vs:axg) (i:Nat) (cur:Array Value) (w:World) (l m r:axg),w.heap[b]? =some (.cells cur e fr)->po fr cur.size->
  cur.toList=l++(m++r)->l.length=o+i->m.length=vs.length->(∀v∈vs,Value.hE v=true)->
  ∃aL,(storeCells ⟨b,o,none⟩ vs i).run P w= .ok () aL/\aL.heap[b]? =some (.cells (l++(vs++r)).toArray e fr)/\(∀c,c≠b->aL.heap[c]? =w.heap[c]?)/\aL.heap.size=w.heap.size/\aL.os=w.os/\aL.tape=w.tape/\Out aL w
 |[],i,cur,w,l,m,r,ab,bF,ar,aC,hm,_=>by
  refine⟨w,rfl,?_,λ_ _=>rfl,rfl,rfl,rfl,Out.refl _⟩;have:m=[]:=by simpa using hm
  subst this;rw[ab];have:cur=(l++([]++r)).toArray:=by rw[<-ar]
  rw[<-this]
 |v::vs,i,cur,w,l,m,r,ab,bF,ar,aC,hm,Hh=>by
  obtain⟨x,m,rfl⟩:∃x js,m=x::js:=by cases m with
   |nil=>simp at hm
   |cons x m=>exact⟨x,m,rfl⟩
  have hlen:cur.size=(l++(x::m++r)).length:=by rw[<-ar];simp
  have eB:o+i<cur.size:=by rw[hlen];simp;omega
  have Hi:w.cell? ⟨b,o+i,none⟩=some cur[o+i]:=by simp[World.cell?,ab,eB]
  have abl:w.frozen? ⟨b,o+i,none⟩=false:=by
   have:=bF (o+i) eB;simp only[World.frozen?,ab];simp only[Bool.and_eq_false_iff,decide_eq_false_iff_not];by_cases ad:fr.1<=o+i
   .right;exact λae=>this ⟨ad,ae⟩
   .left;exact ad
  have wJ:(w.setCell ⟨b,o+i,none⟩ v).heap[b]? =some (.cells ((l++[v])++(m++r)).toArray e fr):=by
   simp only[World.setCell,Array.getElem?_modify,if_true,ab,map_some,isSome_none,Bool.false_eq_true,if_false];congr 2;apply Array.ext';rw[Array.toList_setIfInBounds,ar,<-aC,set_append_right _ _ (Nat.le_refl _)];simp
  have yh:(store ((⟨b,o,none⟩:Addr).add i) v).run P w= .ok () (w.setCell ⟨b,o+i,none⟩ v):=by
   have ad:=Hh v (by simp);rw[Addr.add_lit];cases v<;>first|(simp[Value.hE]at ad;done)|simp[Go.store,Sem.run,Hi,abl]
  obtain⟨aL,g1,g2,g3,g4,g5,g6,g7⟩:=Hg (P:=P) (b:=b) (o:=o) vs (i+1) _ (w.setCell ⟨b,o+i,none⟩ v) (l++[v]) m r wJ (by
   have:(l++[v]++(m++r)).toArray.size=cur.size:=by rw[hlen];simp
   rw[this];exact bF) (by simp) (by simp;omega) (by simpa using hm) (λu hu=>Hh u (by simp[hu]))
  refine⟨aL,?_,by simpa using g2,λc ar=>?_,?_,g5,g6,g7⟩
  .simp only[storeCells,Sem.run_bind,yh,Result.andThen];exact g1
  .rw[g3 c ar];simp only[World.setCell,Array.getElem?_modify];rw[if_neg (λe=>ar e.symm)]
  .rw[g4];simp[World.setCell]
theorem LC {d:I} {v:Value} (h:eM d v) (al:∀aD,d≠.tuple aD):v.cells=(c8 v).toArray:=by
 cases d with
 |tuple aD=>exact(al _ rfl).elim
 |agg aD=>obtain⟨arr,rfl⟩:=h;simp[Value.cells,c8,je]
 |_=>
  have ad:Value.hE v=true:=h;rw[ib ad];cases v<;>first|rfl|(simp[Value.hE]at ad)
def kI (C:cj) (s:ak) (T:TypeId) (x y:I):Option ak:=
 match dw s y,loc s x with
 |some (d,s1),some (z,q)=>match d with
  | .tuple _=>none
  |d=>match I.sub q (s z)with
   |some d0=>if d.wd=d0.wd/\d.wd=(C.T T).sz/\(C.T T).ok=true/\y.owner≠some z then some (et (iW z s1) z (I.put q d (s z)))else none
   |none=>none
 |_,_=>none
theorem abm {s s1:ak} {y d:I} {z:Nat} (h:dw s y=some (d,s1)) (b9:(s z).tree=true) (hy:y.owner≠some z):s1 z=s z:=by
 cases y with
 |h x q=>
  simp only[dw]at h;split at h
  .split at h
   .cases h
   .simp only[some.injEq,Prod.mk.injEq]at h;obtain⟨_,rfl⟩:=h;rw[lp _ _ (λe=>hy (by rw[I.owner,e]))];exact Ll b9
  .cases h
 |ax x q=>simp[dw]at h
 |ab x q=>simp[dw]at h
 |fn f c=>simp[dw]at h
 |hole=>simp[dw]at h
 |_=>simp only[dw,some.injEq,Prod.mk.injEq]at h;rw[h.2]
theorem abn (bK:C.fz) (h:b8 w0 F0 X F S s aG w) {T:TypeId} {x y:I} {j6 lr:Value} (LD:aO w F s aG x j6 (λ_=>False)) (hy:y.plain=true) (abo:aO w F s aG y lr (λ_=>False))
  {s2:ak} (he:kI C s T x y=some s2):
  ∃aL aX,(Instr.storeAt T j6 lr).run C.P w= .ok () aL/\b8 w0 F0 X F aX s2 aG aL:=by
 unfold kI at he;split at he
 .rename_i d s1 z q aZ aC;have key:∀d:I,(∀aD,d≠.tuple aD)->dw s y=some (d,s1)->(match I.sub q (s z)with
   |some d0=>if d.wd=d0.wd/\d.wd=(C.T T).sz/\(C.T T).ok=true/\y.owner≠some z then some (et (iW z s1) z (I.put q d (s z)))else none
   |none=>none)=some s2->∃aL aX,(Instr.storeAt T j6 lr).run C.P w= .ok () aL/\b8 w0 F0 X F aX s2 aG aL:=by
   intro d uV aZ he;split at he
   .rename_i d0 nt;split at he
    .rename_i Dx;obtain⟨ad,ae,aI,bc⟩:=Dx;simp only[some.injEq]at he;subst he;obtain⟨rY,dp,b,o,rfl,mZ⟩:=Lx h LD aC nt;obtain⟨cA,g0,g1,g2,Sn,g3,g4,g5,g6,g7,g8⟩:=rW h hy abo aZ;have fg:s1 z=s z:=abm aZ (jf nt (.inr rY)) bc;rw[<-fg]at nt rY mZ⊢;obtain⟨g_,gM,l,r,cur,e,fr,k0,bX,cN,dH,dT⟩:=g0.store nt rY g3 ad g4 g5 g6 g7;rw[mZ]at k0;simp only[some.injEq,Prod.mk.injEq,true_and]at k0;obtain⟨rfl,rfl,rfl⟩:=k0;obtain⟨i,d,uU,aN,aU,aR,bW,cM,cg,b3⟩:=bK.info aI;have hlen:=aA.length _ _ _ g3;have hm:dp.length=(c8 lr).length:=by
      have SD:=g0.ew z;rw[aO.dk (jf nt (.inr rY))]at SD;obtain⟨_,_,_,_,c0,_,_,_,c4,_⟩:=ctx q (s1 z) (c8 (aG z)) (cA z) none _ SD.2 nt;rw[mZ]at c0;simp only[some.injEq,Prod.mk.injEq,true_and]at c0;rw[c0.1,aA.length _ _ _ c4,hlen,ad]
     obtain⟨aL,m1,m2,m3,m4,m5,m6,m7⟩:=Hg (P:=C.P) (b:=b) (o:=l.length) (e:=e) (fr:=fr) (c8 lr) 0 cur w l dp r bX dH cN rfl hm (aA.yg _ _ _ g3);obtain⟨aX,eG⟩:=dT aL m2 m3 m4 m5 m6 m7;refine⟨aL,aX,?_,eG⟩;have yi:=LC g2 uV;simp[Instr.storeAt,Instr.sureAddr,storeVar,nb aN,aU,yi,hlen,ae,m1]
    .cases he
   .cases he
  split at he
  .cases he
  .rename_i uV;exact key _ (λaD e=>uV aD e) aZ he
 .cases he
theorem b8.alloc (h:b8 w0 F0 X F S s aG w) {d:I} {cs:axg} {Sn:Nat->Prop} (e:TypeId) (aE:aA w F d cs Sn)
  (eB:∀b,Sn b->b<w.heap.size) (bG:∀b,Sn b->¬F b) (ca:∀u b,Sn b->¬S u b) (bb:∀b,Sn b->X b\/w0.heap.size<=b):
  b8 w0 F0 X F S s aG (w.alloc (.cells cs.toArray e))/\
   nQ w0 X F S s aG (w.alloc (.cells cs.toArray e)) (.aM d) (.pointer (some ⟨w.heap.size,0,none⟩)):=by
 have hold:∀b,b<w.heap.size->(w.alloc (.cells cs.toArray e)).heap[b]? =w.heap[b]? :=by
  intro b ab;show(w.heap.push _)[b]? =_;rw[Array.getElem?_push,if_neg (by omega)]
 refine⟨h.grow hold (by simp) rfl rfl ⟨rfl,λ_=>Nat.le_refl _⟩,.inr ⟨rfl,rfl,λb=>b=w.heap.size\/Sn b,?_,?_,?_,?_,?_⟩⟩
 .rw[aA];refine⟨w.heap.size,cs.toArray,e,(0,0),Sn,rfl,.inl rfl,?_,?_,?_,λc ar=>.inr ar,λar=>Nat.lt_irrefl _ (eB _ ar)⟩
  .show(w.heap.push _)[_]? =_;simp
  .intro o _ ⟨_,ae⟩;exact absurd ae (not_lt_zero _)
  .exact aA.frame (λb ab=>hold b (h.gN b ab)) _ _ _ (λb ab=>hold b (eB b ab)) aE
 .rintro b (rfl|ab)
  .simp
  .have:=eB b ab;simp;omega
 .rintro b (rfl|ab) uW
  .exact Nat.lt_irrefl _ (h.gN _ uW)
  .exact bG b ab uW
 .rintro u b (rfl|ab) hu
  .exact Nat.lt_irrefl _ (h.fN _ _ hu)
  .exact ca u b ab hu
 .rintro b (rfl|ab)
  .exact .inr h.size
  .exact bb b ab
def mE (C:cj) (T:TypeId):Option I:=if(C.T T).ok=true then(match(C.T T).k,(C.T T).zero with
    | .gx e,.agg [.en,.a8]=>some (.b4 (.jr T e []))
    | .gx _,_=>none
    |_,z=>(match flat z with|some _=>some (.aM z)|none=>none))else none
theorem abp (bK:C.fz) (h:b8 w0 F0 X F S s aG w) {T:TypeId} (he:mE C T=some av):Good C w0 F0 X aG w (Instr.alloc T true (.tuple #[])) av s:=by
 unfold mE at he;split at he
 .rename_i au;split at he
  .rename_i atT atU yj;simp only[some.injEq]at he;subst he;obtain⟨i,d,z,aN,aU,aR,bW,cM,cg,b3⟩:=bK.info au;have b9:=cM [.pointer none,.slice none 0 0] (by rw[yj];rfl);have hold:∀b,b<w.heap.size->(w.alloc (.cells #[.pointer none,.slice none 0 0] T)).heap[b]? =w.heap[b]? :=by
    intro b ab;show(w.heap.push _)[b]? =_;rw[Array.getElem?_push,if_neg (by omega)]
   refine⟨.pointer (some ⟨w.heap.size,0,none⟩),w.alloc (.cells #[.pointer none,.slice none 0 0] T),F,S,?_,h.grow hold (by simp) rfl rfl ⟨rfl,λ_=>Nat.le_refl _⟩,.inr ⟨rfl,rfl,λb=>b=w.heap.size,?_,?_,?_,?_,?_⟩⟩
   .simp[Instr.alloc,yf aN bW,newVar,newRow,newObj,Sem.run,b9]
   .rw[aA];refine⟨w.heap.size,.pointer none,.slice none 0 0,rfl,rfl,?_,.inl rfl,.inl ⟨rfl,rfl⟩⟩;show(w.heap.push _)[_]? =_;simp
   .rintro b rfl;simp
   .rintro b rfl uW;exact Nat.lt_irrefl _ (h.gN _ uW)
   .rintro u b rfl hu;exact Nat.lt_irrefl _ (h.fN _ _ hu)
   .rintro b rfl;exact .inr h.size
  .cases he
  split at he
  .rename_i cs iX;simp only[some.injEq]at he;subst he;obtain⟨i,d,z,aN,aU,aR,bW,cM,cg,b3⟩:=bK.info au;have b9:=cM cs iX;obtain⟨ea,bf⟩:=h.alloc (d:=(C.T T).zero) T ((aA.flat _).1 _ cs (λ_=>False) (Nat.le_refl _) iX) (λ_ h=>h.elim) (λ_ h=>h.elim) (λ_ _ h=>h.elim) (λ_ h=>h.elim);refine⟨_,_,F,S,?_,ea,bf⟩;simp[Instr.alloc,yf aN bW,newVar,newRow,newObj,Sem.run,b9]
  .cases he
 .cases he
def iY (s:ak) (x:I):Option (I×ak):=match dw s x with
 |some (.tuple _,_)=>none
 |some (d,s1)=>some (.aM d,s1)
 |none=>none
theorem abq (h:b8 w0 F0 X F S s aG w) {T:TypeId} {x:I} {v:Value} (an:x.plain=true) (aE:aO w F s aG x v (λ_=>False)) (he:iY s x=some (av,s1)):
  Good C w0 F0 X aG w (Instr.box T v) av s1:=by
 unfold iY at he;split at he
 .cases he
 .rename_i d s2 uV aZ;simp only[some.injEq,Prod.mk.injEq]at he;obtain⟨rfl,rfl⟩:=he;obtain⟨cA,g0,g1,g2,Sn,g3,g4,g5,g6,g7,g8⟩:=rW h an aE aZ;obtain⟨ea,bf⟩:=g0.alloc T g3 g4 g5 g6 g7;refine⟨_,_,F,cA,?_,ea,bf⟩;have yi:=LC g2 (λaD e=>uV aD e);simp[Instr.box,newVar,newRow,newObj,Sem.run,yi]
 .cases he
end
end Go.ef
