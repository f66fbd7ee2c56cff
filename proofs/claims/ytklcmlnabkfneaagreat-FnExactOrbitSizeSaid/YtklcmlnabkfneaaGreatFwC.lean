/- Part of a proof that a law returns true for every input. No condition. -/
import Derived.Test.YtklcmlnabkfneaaGreatFwB
import Derived.Laws.Entries
namespace Go.cU
open List Option Go.IntKind Nat Or
inductive mT where
 |int (k:IntKind)
 |bool
 |str
 |ptr (e:TypeId)
 |slice (e:TypeId)
 |struct (ay:List (TypeId×Nat))
 |fn
 |gH (e:TypeId)
 |map (k e:TypeId)
 |other
structure fZ where
 k:mT
 sz:Nat
 bytes:Nat
 zero:I
mutual
def flat:I->Option aiD
 | .bool b=>some [.bool b]
 | .int k n=>some [.int k n]
 | .str s=>some [.string ⟨⟨s⟩⟩]
 | .di=>some [.pointer none]
 | .a_=>some [.slice none 0 0]
 | .agg ay=>pQ ay
 | .dz .vt=>some [.map none]
 |_=>none
def pQ:aiF->Option aiD
 |[]=>some []
 |d::ds=>match flat d,pQ ds with
  |some a,some b=>some (a++b)
  |_,_=>none
end
theorem aq.flat {w:World} {F:Nat->Prop}:∀n,(∀(d:I) (cs:aiD) (S:Nat->Prop),SizeOf.sizeOf d<=n->flat d=some cs->aq w F d cs S)/\
  (∀(ds:aiF) (cs:aiD) (S:Nat->Prop),SizeOf.sizeOf ds<=n->pQ ds=some cs->aV w F ds cs S):=by
 intro n;induction n with
 |zero=>exact⟨λd _ _ bO=>by cases d<;>simp at bO<;>omega,λds _ _ bO=>by cases ds<;>simp at bO<;>omega⟩
 |succ n ih=>
  refine⟨λd cs S bO h=>?_,λds cs S bO h=>?_⟩
  .cases d with
   |agg ay=>rw[aq];exact ih.2 ay cs S (by simp at bO;omega) (by simpa [cU.flat]using h)
   |bool b=>simp[cU.flat]at h;subst h;rw[aq]
   |int k n=>simp[cU.flat]at h;subst h;rw[aq]
   |str s=>simp[cU.flat]at h;subst h;rw[aq]
   |di=>simp[cU.flat]at h;subst h;rw[aq]
   |a_=>simp[cU.flat]at h;subst h;rw[aq]
   |dz o=>cases o<;>simp[cU.flat]at h;subst h;rw[aq];rfl
   |_=>simp[cU.flat]at h
  .cases ds with
   |nil=>simp[pQ]at h;subst h;rw[aV]
   |cons d ds=>
    simp only[pQ]at h;split at h
    .rename_i a b bU R;simp at h;subst h;simp at bO;rw[aV];exact⟨a,b,λ_=>False,λ_=>False,rfl,ih.1 d a _ (by omega) bU,ih.2 ds b _ (by omega) R,λ_ h=>h.elim,λ_ h=>h.elim,λ_ h=>h.elim⟩
    .cases h
def kN:mT->TypeDesc->Prop
 | .int k,.int ct=>k=ct
 | .bool,.bool=>True
 | .str,.string=>True
 | .ptr e,.pointer fF=>e=fF
 | .slice e,.slice fF=>e=fF
 | .struct ay,.struct gs=>gs.toList.map (λg=>(g.type,g.offset))=ay
 | .fn,.func _ _ _=>True
 | .gH _,.struct _=>True
 | .map k e,.map ct fF=>k=ct/\e=fF
 |_,_=>False
def Iv (P:Program) (t:TypeId) (x:fZ):Prop:=
 (∃e n b z,x=⟨.other,e,n,b⟩/\z=0)\/
 ∃i d z,P.info? t=some i/\i.size=x.sz/\i.bytes=x.bytes/\i.zero=some z/\(∀cs,flat x.zero=some cs->z.cells=cs.toArray)/\P.underlying t=some d/\kN x.k d
structure bY where
 P:Program
 T:TypeId->fZ
 M:FuncId->List Bool
structure bY.Ok (C:bY):Prop where
 ty:∀t,Iv C.P t (C.T t)
 mixed:C.P.follows .mixedOrders=true
inductive bg where
 |t (n:Nat)
 |c (av:I)
 |f (g:FuncId)
def zd:Value->Option I
 | .bool b=>some (.bool b)
 | .int k n=>some (.int k n)
 | .string s=>some (.str s.data.toList)
 | .pointer none=>some .di
 | .slice none 0 0=>some .a_
 |_=>none
def dj:Operand->Option bg
 | .tmp n=>some (.t n)
 | .const v=>(zd v).map .c
 | .func g=>some (.f g)
 | .global _=>none
def pR (x:Nat) (d:I):I:=if d.plain then d else .h x []
def bp (s:ax):bg->I
 | .t n=>pR n (s n)
 | .c av=>av
 | .f g=>.fn g []
theorem aG.nothing {w:World} {F:Nat->Prop} {s:ax} {aC:Nat->Value} {d:I} {v:Value} {S aL:Nat->Prop} (au:d.plain=true) (h:aG w F s aC d v S):aG w F s aC d v aL:=by
 cases d<;>first
  |(rw[aG];trivial)
  |(rw[aG]at h⊢;exact h)
  |(have bq:=(aG.ca rfl).1 h;exact(aG.ca rfl).2 ⟨bq.1,aq.plain _ _ _ _ au bq.2⟩)
section
variable {w0 w:World} {F0 X F:Nat->Prop} {S:Nat->Nat->Prop} {s:ax} {aC:Nat->Value} {a:Act}
theorem Iw (s:ax) (x:bg) (aj:∀av,x= .c av->av.plain=true):(bp s x).plain=true:=by
 cases x with
 |t n=>simp only[bp,pR];split<;>first|assumption|rfl
 |c av=>exact aj _ rfl
 |f g=>rfl
theorem CP {v:Value} {av:I} (h:zd v=some av):av.plain=true:=by
 unfold zd at h;split at h<;>simp at h<;>subst h<;>rfl
theorem fm (h:bs w0 F0 X F S s aC w) (dX:∀t,aC t=a.tmps.getD t undef) {o:Operand} {x:bg} (bx:dj o=some x):
  (bp s x).plain=true/\aG w F s aC (bp s x) (a.eval o) (λ_=>False):=by
 cases o with
 |tmp n=>
  simp[dj]at bx;subst bx;simp only[bp,pR,Act.eval,<-dX];split
  .rename_i au;exact⟨au,aG.nothing au (h.df n)⟩
  .rename_i au;refine⟨rfl,?_⟩;rw[aG];intro d ag CQ;simp only[I.sub,some.injEq]at ag;subst ag;have aY:=hs (q:=[]) rfl (.inl CQ);exact⟨_,none,rfl,rfl,((aG.ca aY).1 (h.df n)).1⟩
 |const v=>
  simp only[dj,map_eq_some_iff]at bx;obtain⟨av,nJ,rfl⟩:=bx;refine⟨CP nJ,?_⟩;simp only[bp,Act.eval];unfold zd at nJ;split at nJ<;>simp at nJ<;>subst nJ<;>rw[aG,aq]<;>exact⟨rfl,rfl⟩
 |func g=>
  simp[dj]at bx;subst bx;refine⟨rfl,?_⟩;simp only[bp,Act.eval];rw[aG];exact⟨#[],rfl,by rw[ee]⟩
 |global g=>simp[dj]at bx
def kv (w0:World) (X F:Nat->Prop) (S:Nat->Nat->Prop) (s:ax) (aC:Nat->Value) (w:World) (av:I) (v:Value):Prop:=
 (av.plain=true/\aG w F s aC av v (λ_=>False))\/
 (av.tree=true/\dd av v/\∃Sn,aq w F av (b9 v) Sn/\(∀b,Sn b->b<w.heap.size)/\(∀b,Sn b->¬F b)/\(∀u b,Sn b->¬S u b)/\(∀b,Sn b->X b\/w0.heap.size<=b))
def fin (s:ax) (dst:Option Nat) (av:I):ax:=match dst with
 |none=>s
 |some t=>if av.plain then de s t av else de (k5 t s) t av
def mn (aC:Nat->Value) (dst:Option Nat) (v:Value):Nat->Value:=match dst with
 |none=>aC
 |some t=>de aC t v
theorem bs.fin (h:bs w0 F0 X F S s aC w) {av:I} {v:Value} (aH:kv w0 X F S s aC w av v) (dst:Option Nat):
  ∃aL,bs w0 F0 X F aL (cU.fin s dst av) (mn aC dst v) w:=by
 cases dst with
 |none=>exact⟨S,h⟩
 |some t=>
  simp only[cU.fin,mn];rcases aH with⟨au,ag⟩|⟨aY,U,Sn,ab,ad,aA,aZ,bA⟩
  .rw[if_pos au];exact⟨_,h.vz au ag⟩
  .split
   .rename_i au;exact⟨_,h.vz au ((aG.ca aY).2 ⟨U,aq.plain _ _ _ _ au ab⟩)⟩
   .exact⟨_,h.Iq aY U ab ad aA (λu b _ R=>aZ u b R) bA⟩
def cB (s:ax):I->Option (I×ax)
 | .h x q=>match I.sub q (s x)with
   |some d=>if d.plain then none else some (d,de (hA x s) x (I.put q d.cN (s x)))
   |none=>none
 | .au _ _=>none
 | .R _ _=>none
 | .fn _ _=>none
 | .hole=>none
 |d=>some (d,s)
def I.owner:I->Option Nat
 | .h x _=>some x
 |_=>none
def j8:Option Nat->I->I
 |some x,d=>bT x d
 |none,d=>d
theorem oP (h:bs w0 F0 X F S s aC w) {av d:I} {s1:ax} {v:Value} (nJ:av.plain=true) (aH:aG w F s aC av v (λ_=>False)) (aY:cB s av=some (d,s1)):
  ∃bM,bs w0 F0 X F bM s1 aC w/\d.tree=true/\dd d v/\∃Sn,aq w F d (b9 v) Sn/\(∀b,Sn b->b<w.heap.size)/\(∀b,Sn b->¬F b)/\(∀u b,Sn b->¬bM u b)/\(∀b,Sn b->X b\/w0.heap.size<=b)/\
   (∀u b,bM u b->S u b)/\(∀b,Sn b->∃u,S u b)/\(∀(a6:I) (fH:Value) (aL:Nat->Prop),aG w F s aC a6 fH aL->aG w F s1 aC (j8 av.owner a6) fH aL):=by
 have tree:∀d:I,d.tree=true->d.plain=true->aG w F s aC d v (λ_=>False)->
   ∃bM,bs w0 F0 X F bM s aC w/\d.tree=true/\dd d v/\∃Sn,aq w F d (b9 v) Sn/\(∀b,Sn b->b<w.heap.size)/\(∀b,Sn b->¬F b)/\(∀u b,Sn b->¬bM u b)/\(∀b,Sn b->X b\/w0.heap.size<=b)/\
    (∀u b,bM u b->S u b)/\(∀b,Sn b->∃u,S u b):=by
  intro d ag _ bq;have bq:=(aG.ca ag).1 bq;exact⟨S,h,ag,bq.1,_,bq.2,λ_ h=>h.elim,λ_ h=>h.elim,λ_ _ h=>h.elim,λ_ h=>h.elim,λ_ _ h=>h,λ_ h=>h.elim⟩
 cases av with
 |h x q=>
  simp only[cB]at aY;split at aY
  .rename_i e he;split at aY
   .cases aY
   .rename_i au;simp only[some.injEq,Prod.mk.injEq]at aY;obtain⟨rfl,rfl⟩:=aY;have au:e.plain=false:=by simpa using au
    obtain⟨Sn,eY,cq,cA,cY,ba,cG,bV,cO,cC,dR⟩:=h.take he au;rw[aG]at aH;obtain⟨agr,a2,g1,g2,g3⟩:=aH e he au;rw[ba]at g1;simp only[some.injEq,Prod.mk.injEq,true_and]at g1;obtain⟨rfl,rfl⟩:=g1;have CR:e.tree=true:=by cases e<;>first|rfl|(simp[I.plain]at au)
    refine⟨_,cY,CR,g3,eY,by rw[g2];exact cG,λb R=>h.dW x b (bV b R),λb R=>h.e8 x b (bV b R),?_,λb R=>h.dh x b (bV b R),?_,λb R=>⟨x,bV b R⟩,dR⟩
    .intro u b R hu;simp only[fG]at hu;split at hu
     .exact cC b R hu
     .rename_i Pt;exact h.eZ u x b Pt hu (bV b R)
    .intro u b hu;simp only[fG]at hu;split at hu
     .rename_i e;subst e;exact cO b hu
     .exact hu
  .cases aY
 |au x q=>simp[cB]at aY
 |R x q=>simp[cB]at aY
 |fn f c=>simp[cB]at aY
 |hole=>simp[cB]at aY
 |al sz xs=>simp[I.plain]at nJ
 |bb d=>simp[I.plain]at nJ
 |_=>
  simp only[cB,some.injEq,Prod.mk.injEq]at aY;obtain⟨rfl,rfl⟩:=aY;obtain⟨bM,t1,t2,t3,Sn,t4,t5,t6,t7,t8,t9,t10⟩:=tree _ rfl nJ aH;exact⟨bM,t1,t2,t3,Sn,t4,t5,t6,t7,t8,t9,t10,λ_ _ _ h=>h⟩
def loc (s:ax):I->Option (Nat×aiA)
 | .h x q=>match I.sub q (s x)with
   |some (.bb _)=>some (x,q++[0])
   |_=>none
 | .au x q=>if I.ff q (s x)then some (x,q)else none
 |_=>none
theorem vD:∀(q:aiA) (av d:I) (r:aiA),I.sub q av=some d->I.sub (q++r) av=I.sub r d:=by
 intro q;induction q with
 |nil=>intro av d r h;simp[I.sub]at h;subst h;rfl
 |cons k q ih=>
  intro av d r h;cases av with
  |agg ay=>
   simp only[I.sub,cons_append]at h⊢;split at h
   .rename_i x ar;exact ih _ _ _ h
   .cases h
  |tuple ay=>
   simp only[I.sub,cons_append]at h⊢;split at h
   .rename_i x ar;exact ih _ _ _ h
   .cases h
  |al sz ay=>
   simp only[I.sub,cons_append]at h⊢;split at h
   .rename_i x ar;exact ih _ _ _ h
   .cases h
  |bb x=>
   cases k with
   |zero=>simp only[I.sub,cons_append]at h⊢;exact ih _ _ _ h
   |succ k=>simp[I.sub]at h
  |_=>simp[I.sub]at h
theorem Pu:∀(q:aiA) (av d:I) (r:aiA),I.sub q av=some d->I.ff (q++r) av=(I.ff q av||I.ff r d):=by
 intro q;induction q with
 |nil=>intro av d r h;simp[I.sub]at h;subst h;simp[I.ff]
 |cons k q ih=>
  intro av d r h;cases av with
  |agg ay=>
   simp only[I.sub]at h;split at h
   .rename_i x ar;simp only[I.ff,cons_append,ar];exact ih _ _ r h
   .cases h
  |tuple ay=>
   simp only[I.sub]at h;split at h
   .rename_i x ar;simp only[I.ff,cons_append,ar];exact ih _ _ r h
   .cases h
  |al sz ay=>simp[I.ff]
  |bb x=>simp[I.ff]
  |_=>simp[I.sub]at h
theorem vE (w:World):∀(q:aiA) (av d:I) (cs cq:aiD) (a cA:Option (Nat×Nat)) (r:aiA),c7 w q av cs a=some (d,cq,cA)->c7 w (q++r) av cs a=c7 w r d cq cA:=by
 intro q;induction q with
 |nil=>intro av d cs cq a cA r h;simp[c7]at h;obtain⟨rfl,rfl,rfl⟩:=h;rfl
 |cons k q ih=>
  intro av d cs cq a cA r h;cases av with
  |agg ay=>
   rw[cons_append];rw[c7]at h⊢;split at h
   .rename_i x ar;exact ih _ _ _ _ _ _ _ h
   .cases h
  |tuple ay=>
   rw[cons_append];rw[c7]at h⊢;split at h
   .rename_i x ar;exact ih _ _ _ _ _ _ _ h
   .cases h
  |al sz ay=>
   rw[cons_append];rw[c7.eq_def]at h⊢;simp only at h⊢;split at h
   .exact ih _ _ _ _ _ _ _ h
   .cases h
  |bb x=>
   cases k with
   |zero=>
    rw[cons_append];rw[c7.eq_def]at h⊢;simp only at h⊢;split at h
    .exact ih _ _ _ _ _ _ _ h
    .cases h
   |succ k=>rw[show c7 w ((k+1)::q) (.bb x) cs a=none from rfl]at h;cases h
  |_=>simp[c7]at h
end
def fZ.ok (x:fZ):Bool:=match x.k with
 | .other=>false
 |_=>true
theorem bY.Ok.info {C:bY} (bh:C.Ok) {t:TypeId} (h:(C.T t).ok=true):
  ∃i d z,C.P.info? t=some i/\i.size=(C.T t).sz/\i.bytes=(C.T t).bytes/\i.zero=some z/\(∀cs,flat (C.T t).zero=some cs->z.cells=cs.toArray)/\C.P.underlying t=some d/\kN (C.T t).k d:=by
 rcases bh.ty t with⟨e,n,b,z,ar,_⟩|bq
 .rw[ar]at h;simp[fZ.ok]at h
 .exact bq
theorem fP {x:fZ} {k:mT} (h:x.k=k) (aw:k≠.other):x.ok=true:=by
 unfold fZ.ok;rw[h];cases k<;>first|rfl|exact(aw rfl).elim
theorem vF {d:TypeDesc} {ay:List (TypeId×Nat)} (h:kN (.struct ay) d):∃gs,d= .struct gs/\gs.toList.map (λg=>(g.type,g.offset))=ay:=by
 cases d<;>simp[kN]at h;exact⟨_,rfl,h⟩
theorem k_ {d:TypeDesc} {e:TypeId} (h:kN (.slice e) d):d= .slice e:=by
 cases d<;>simp[kN]at h;rw[h]
theorem ze {d:TypeDesc} {k:IntKind} (h:kN (.int k) d):d= .int k:=by
 cases d<;>simp[kN]at h;rw[h]
theorem oQ {d:TypeDesc} (h:kN .str d):d= .string:=by
 cases d<;>simp[kN]at h;rfl
theorem CS {d:TypeDesc} (h:kN .bool d):d= .bool:=by
 cases d<;>simp[kN]at h;rfl
theorem Ix {d:TypeDesc} {e:TypeId} (h:kN (.ptr e) d):d= .pointer e:=by
 cases d<;>simp[kN]at h;rw[h]
theorem ga {v:Value} (h:Value.fw v=true):b9 v=[v]:=by
 cases v<;>first|rfl|(simp[Value.fw]at h)
theorem vG {P:Program} {t:TypeId} {i:TypeInfo} (h:P.info? t=some i) (w:World):(typeInfo t).run P w= .ok i w:=by simp[typeInfo,h]
theorem j9 {P:Program} {t:TypeId} {i:TypeInfo} (h:P.info? t=some i) (w:World):(Go.sizeOf t).run P w= .ok i.size w:=by simp[Go.sizeOf,vG h]
theorem r2 {P:Program} {t:TypeId} {i:TypeInfo} {z:Value} (h:P.info? t=some i) (bO:i.zero=some z) (w:World):(zeroValue t).run P w= .ok z w:=by simp[zeroValue,vG h,bO]
section
variable {C:bY} {w0 w:World} {F0 X F:Nat->Prop} {S:Nat->Nat->Prop} {s s1:ax} {aC:Nat->Value} {av:I}
def Good (C:bY) (w0:World) (F0 X:Nat->Prop) (aC:Nat->Value) (w:World) (m:Sem Value) (av:I) (s1:ax):Prop:=
 ∃v aB bF aL,m.run C.P w= .ok v aB/\bs w0 F0 X bF aL s1 aC aB/\kv w0 X bF aL s1 aC aB av v
theorem Good.same (h:bs w0 F0 X F S s aC w) {m:Sem Value} {v:Value} (aK:m.run C.P w= .ok v w) (au:av.plain=true) (aH:aG w F s aC av v (λ_=>False)):Good C w0 F0 X aC w m av s:=
 ⟨v,w,F,S,aK,h,.inl ⟨au,aH⟩⟩
theorem CT (_h:bs w0 F0 X F S s aC w) {x:I} {v:Value} (aH:aG w F s aC x v (λ_=>False)) {y:Nat} {q:aiA} (aO:loc s x=some (y,q)) {d:I} (ag:I.sub q (s y)=some d):
  I.ff q (s y)=true/\∃cq b o,v= .pointer (some ⟨b,o,none⟩)/\c7 w q (s y) (b9 (aC y)) none=some (d,cq,some (b,o)):=by
 cases x with
 |h z zf=>
  simp only[loc]at aO;split at aO
  .rename_i e he;simp only[some.injEq,Prod.mk.injEq]at aO;obtain⟨rfl,rfl⟩:=aO;rw[aG]at aH;obtain⟨cq,a,g1,g2,g3⟩:=aH _ he rfl;have gG:e=d:=by
    rw[vD _ _ _ _ he]at ag;simpa [I.sub]using ag
   subst gG;refine⟨by rw[Pu _ _ _ _ he];simp[I.ff],?_⟩;have ab:Value.fw v=true:=g3;rw[ga ab]at g2;subst g2;have j7:=vE w zf (s z) _ _ _ none a [0] g1;have ar:=_h.df z;rw[aG.ca (hs he (.inl rfl))]at ar;obtain⟨fy,cA,dL,eY,k0,b1,cb,eu,dp,e0⟩:=ctx zf (s z) (b9 (aC z)) (S z) none _ ar.2 he;rw[k0]at g1;simp only[some.injEq,Prod.mk.injEq,true_and]at g1;obtain⟨rfl,rfl⟩:=g1;rw[aq]at dp;obtain⟨b,cur,aR,fr,c3,aS,_⟩:=dp;simp only[cons.injEq,and_true]at aS;subst aS;exact⟨_,b,0,rfl,by rw[j7];rfl⟩
  .cases aO
 |au z zf=>
  simp only[loc]at aO;split at aO
  .rename_i aj;simp only[some.injEq,Prod.mk.injEq]at aO;obtain⟨rfl,rfl⟩:=aO;rw[aG]at aH;obtain⟨cq,b,o,g1,g2⟩:=aH _ ag aj;exact⟨aj,cq,b,o,g2,g1⟩
  .cases aO
 |_=>simp[loc]at aO
def gK (C:bY) (s:ax) (T:TypeId) (x:I) (k:Nat):Option I:=
 match(C.T T).k with
 | .struct ay=>match ay[k]? with
   |some (jj,off)=>if(C.T jj).ok=true/\(C.T jj).sz≠0 then
     match x with
     | .ref (.agg ds)=>match ds[k]? with
       |some d=>if I.dH (ds.take k)=off then some (.ref d)else none
       |none=>none
     | .R y o=>if(s y).plain then none else some (.R y (o+off))
     |x=>match loc s x with
      |some (y,q)=>match I.sub q (s y)with
       |some (.agg ds)=>if k<ds.length/\I.dH (ds.take k)=off then some (.au y (q++[k]))else none
       |_=>none
      |none=>none
    else none
   |none=>none
 |_=>none
theorem Rd.CU {w:World} {b o:Nat} {c1 fj c2:aiD} (h:Rd w b o (c1++(fj++c2))):Rd w b (o+c1.length) fj:=by
 intro j c bd;have c9:j<fj.length:=(List.getElem?_eq_some_iff.1 bd).1;have:=h (c1.length+j) c (by rw[getElem?_append_right (by omega),getElem?_append_left (by omega),<-bd];congr 1;omega);rw[Nat.add_assoc];exact this
theorem CV (bh:C.Ok) {T jj:TypeId} {ay:List (TypeId×Nat)} {k off:Nat} (aw:(C.T T).k= .struct ay) (bn:ay[k]? =some (jj,off)) (ab:(C.T jj).ok=true) (ad:(C.T jj).sz≠0) (b o:Nat) (w:World):
  (Instr.fieldAt T (.pointer (some ⟨b,o,none⟩)) k).run C.P w= .ok (.pointer (some ⟨b,o+off,none⟩)) w:=by
 obtain⟨i,d,z,aN,aR,aS,b0,cd,bQ,bH⟩:=bh.info (fP aw (by simp));rw[aw]at bH;obtain⟨gs,rfl,gS⟩:=vF bH;obtain⟨pS,a6,pT,f1,f2,f3,f4,f5,f6,f7⟩:=bh.info ab;have bB:∃g,gs[k]? =some g/\g.type=jj/\g.offset=off:=by
  rw[<-gS,getElem?_map]at bn;simp only[map_eq_some_iff,Prod.mk.injEq]at bn;obtain⟨g,ab,ad,aA⟩:=bn;exact⟨g,by simpa using ab,ad,aA⟩
 obtain⟨g,g1,rfl,rfl⟩:=bB;simp[Instr.fieldAt,run_underlying bQ,g1,Instr.sureAddr,fieldPlace,j9 f1,f2,ad,Addr.add_lit]
theorem Pv (bh:C.Ok) (h:bs w0 F0 X F S s aC w) {T:TypeId} {x:I} {v:Value} {k:Nat} (ar:x.plain=true) (aH:aG w F s aC x v (λ_=>False)) (he:gK C s T x k=some av):
  Good C w0 F0 X aC w (Instr.fieldAt T v k) av s:=by
 unfold gK at he;split at he
 .rename_i ay aw;split at he
  .rename_i jj off bn;split at he
   .rename_i tu;split at he
    .rename_i ds;split at he
     .rename_i d ag;split at he
      .rename_i oR;simp only[some.injEq]at he;subst he;have lz:=(aG.ca rfl).1 aH;rw[aq]at lz;obtain⟨U,b,o,d_,ab,ad,aA,aZ⟩:=lz;rw[ga U]at ab;simp only[cons.injEq,and_true]at ab;subst ab;rw[aq]at aZ;obtain⟨c1,fj,c2,bM,hr,rfl,g_,fO,ha,h8,fE,lx⟩:=aV.pick ds _ _ k d aZ ag;refine Good.same h (CV bh aw bn tu.1 tu.2 b o w) rfl ((aG.ca rfl).2 ⟨rfl,?_⟩);rw[aq];refine⟨b,o+off,fj,rfl,ad,?_,aq.mono (λ_ h=>h) _ _ _ _ (λb R=>ha b R) fE⟩;rw[<-oR,<-g_];exact aA.CU
      .cases he
     .cases he
    .rename_i y o;split at he
     .cases he
     .rename_i au;simp only[some.injEq]at he;subst he;rw[aG]at aH;obtain⟨b,cur,e,fr,rfl,ad,aA,aZ⟩:=aH (by simpa using au);refine Good.same h (CV bh aw bn tu.1 tu.2 b o w) rfl ?_;rw[aG];exact λ_=>⟨b,cur,e,fr,rfl,ad,aA,aZ⟩
    .rename_i x _ _;split at he
     .rename_i y q aO;split at he
      .rename_i ds ag;split at he
       .rename_i oR;simp only[some.injEq]at he;subst he;obtain⟨aj,cq,b,o,rfl,j7⟩:=CT h aH aO ag;refine Good.same h (CV bh aw bn tu.1 tu.2 b o w) rfl ?_;rw[aG];intro d2 gR lZ;rw[vE w q _ _ _ _ _ _ [k] j7];rw[vD _ _ _ _ ag]at gR;have nK:∃d3,ds[k]? =some d3:=⟨_,getElem?_eq_getElem oR.1⟩
        obtain⟨d3,vH⟩:=nK;simp only[I.sub,vH,some.injEq]at gR;subst gR;simp only[c7,vH];refine⟨(cq.drop off).take d3.wd,b,o+off,?_,rfl⟩;rw[oR.2];rfl
       .cases he
      .cases he
     .cases he
   .cases he
  .cases he
 .cases he
def jk (C:bY) (s:ax) (T:TypeId) (x i:I):Option I:=
 match(C.T T).k,i with
 | .slice e,.int _ n=>if 0<=n/\(C.T e).ok=true then
   match x with
   | .slice xs=>match xs[n.toNat]? with
     |some d=>if d.wd=(C.T e).sz then some (.ref d)else none
     |none=>none
   | .h y q=>match I.sub q (s y)with
     |some (.al sz xs)=>if n.toNat<xs.length/\sz=(C.T e).sz then some (.au y (q++[n.toNat]))else none
     |_=>none
   |_=>none
   else none
 |_,_=>none
theorem Iy (bh:C.Ok) {T e:TypeId} (aw:(C.T T).k= .slice e) (he:(C.T e).ok=true) (b o len cap:Nat) (k:IntKind) (n:Nat) (aP:n<len) (w:World):
  (Instr.indexAt T (.slice (some ⟨b,o,none⟩) len cap) (.int k n)).run C.P w= .ok (.pointer (some ⟨b,o+n*(C.T e).sz,none⟩)) w:=by
 obtain⟨i,d,z,aN,aR,aS,b0,cd,bQ,bH⟩:=bh.info (fP aw (by simp));rw[aw]at bH;have:=k_ bH;subst this;obtain⟨pS,a6,pT,f1,f2,f3,f4,f5,f6,f7⟩:=bh.info he;simp[Instr.indexAt,run_underlying bQ,asIntOf,aP,j9 f1,f2,Addr.add_lit]
theorem Pw (bh:C.Ok) (h:bs w0 F0 X F S s aC w) {T:TypeId} {x i:I} {v mU:Value} (aH:aG w F s aC x v (λ_=>False)) (Px:aG w F s aC i mU (λ_=>False))
  (he:jk C s T x i=some av):Good C w0 F0 X aC w (Instr.indexAt T v mU) av s:=by
 unfold jk at he;split at he
 .rename_i e k n aw;have CW:=(aG.ca rfl).1 Px;rw[aq,ga CW.1]at CW;have:mU= .int k n:=by simpa using CW.2
  subst this;split at he
  .rename_i aP;obtain⟨n,rfl⟩:=Int.eq_ofNat_of_zero_le aP.1;simp only[Int.toNat_natCast]at he;split at he
   .rename_i xs;split at he
    .rename_i d ag;split at he
     .rename_i hw;simp only[some.injEq]at he;subst he;have lz:=(aG.ca rfl).1 aH;rw[aq,ga lz.1]at lz;obtain⟨U,⟨rfl,_⟩|⟨b,o,cap,d_,sz,ab,ad,aA,aZ,bA,cH,cI⟩⟩:=lz
      .simp at ag
      .simp only[cons.injEq,and_true]at ab;subst ab;have c9:n<xs.length:=(List.getElem?_eq_some_iff.1 ag).1;obtain⟨c1,fj,c2,bM,hr,rfl,g_,fO,ha,h8,fE,lx⟩:=aV.pick xs _ _ n d cI ag;refine Good.same h (Iy bh aw aP.2 b o _ _ k n c9 w) rfl ((aG.ca rfl).2 ⟨rfl,?_⟩);rw[aq];refine⟨b,_,fj,rfl,ad,?_,aq.mono (λ_ h=>h) _ _ _ _ (λb R=>ha b R) fE⟩;have Py:=bA d (mem_of_getElem? ag);have:n*(C.T e).sz=c1.length:=by
        rw[g_,rX _ (λd ag=>bA d (mem_of_mem_take ag)),length_take,Nat.min_eq_left (by omega),<-hw,Py]
       rw[this];exact cH.CU
     .cases he
    .cases he
   .rename_i y q;split at he
    .rename_i sz xs ag;split at he
     .rename_i hw;simp only[some.injEq]at he;subst he;rw[aG]at aH;obtain⟨cq,a,g1,g2,g3⟩:=aH _ ag rfl;have U:Value.fw v=true:=g3;rw[ga U]at g2;subst g2;have ar:=h.df y;rw[aG.ca (hs ag (.inl rfl))]at ar;obtain⟨fy,cA,dL,eY,k0,b1,cb,eu,dp,e0⟩:=ctx q (s y) (b9 (aC y)) (S y) none _ ar.2 ag;rw[k0]at g1;simp only[some.injEq,Prod.mk.injEq,true_and]at g1;obtain⟨rfl,rfl⟩:=g1;rw[aq]at dp;rcases dp with⟨rfl,_⟩|⟨b,cap,cur,aR,fr,c3,aS,_⟩
      .simp at hw
      .simp only[cons.injEq,and_true]at aS;subst aS;refine Good.same h (Iy bh aw aP.2 b 0 _ _ k n hw.1 w) rfl ?_;rw[aG];intro d2 gR _;rw[vE w q _ _ _ _ _ _ [n] k0];rw[vD _ _ _ _ ag]at gR;obtain⟨d3,vH⟩:∃d3,xs[n]? =some d3:=⟨_,getElem?_eq_getElem hw.1⟩
       simp only[I.sub,vH,some.injEq]at gR;subst gR;simp only[c7,vH];exact⟨_,b,n*sz,rfl,by simp[hw.2]⟩
     .cases he
    .cases he
   .cases he
  .cases he
 .cases he
end
section
variable {C:bY} {w0 w:World} {F0 X F:Nat->Prop} {S:Nat->Nat->Prop} {s s1:ax} {aC:Nat->Value} {av:I}
theorem Iz (bh:C.Ok) {T:TypeId} {ay:List (TypeId×Nat)} (aw:(C.T T).k= .struct ay) (w:World):(isAgg T).run C.P w= .ok true w:=by
 obtain⟨i,d,z,aN,aR,aS,b0,cd,bQ,bH⟩:=bh.info (fP aw (by simp));rw[aw]at bH;obtain⟨gs,rfl,_⟩:=vF bH;simp[isAgg,run_underlying bQ]
def fZ.flat (x:fZ):Bool:=match x.k with
 | .other=>false
 | .gH _=>false
 | .struct _=>false
 |_=>true
theorem IA {x:fZ} (h:x.flat=true):x.ok=true:=by
 unfold fZ.flat at h;unfold fZ.ok;revert h;cases x.k<;>simp
theorem CX (bh:C.Ok) {T:TypeId} (aw:(C.T T).flat=true) (w:World):(isAgg T).run C.P w= .ok false w:=by
 obtain⟨i,d,z,aN,aR,aS,b0,cd,bQ,bH⟩:=bh.info (IA aw);have cw:(∀ay,d≠.struct ay)/\(∀n e,d≠.array n e):=by
  clear bQ;unfold fZ.flat at aw;generalize (C.T T).k=dA at*;cases dA<;>cases d<;>simp[kN]at bH aw⊢
 cases d<;>first|exact(cw.1 _ rfl).elim|exact(cw.2 _ _ rfl).elim|simp[isAgg,run_underlying bQ]
theorem Rd.one {w:World} {b o:Nat} {v:Value} (h:Rd w b o [v]):w.cell? ⟨b,o,none⟩=some v:=by simpa using h 0 v rfl
theorem IB {P:Program} {b o:Nat}:∀(cs:aiD) (i:Nat) (acc:Array Value),Rd w b (o+i) cs->(loadCellsFrom ⟨b,o,none⟩ i cs.length acc).run P w= .ok (acc++cs.toArray) w
 |[],i,acc,_=>by simp[loadCellsFrom]
 |c::cs,i,acc,h=>by
  have a7:w.cell? ⟨b,o+i,none⟩=some c:=by simpa using h 0 c rfl
  have ab:Rd w b (o+(i+1)) cs:=by
   intro j x bd;have:=h (j+1) x (by simpa using bd);rw[<-this];congr 2;omega
  have ih:=IB (P:=P) cs (i+1) (acc.push c) ab;simp only[length_cons,loadCellsFrom,Sem.run_bind,Go.load,Sem.run,Addr.add_lit,a7,Result.andThen];rw[ih];simp
theorem Pz (bh:C.Ok) {T:TypeId} {ay:List (TypeId×Nat)} (aw:(C.T T).k= .struct ay) {b o:Nat} {cs:aiD} (h:Rd w b o cs) (aO:cs.length=(C.T T).sz):
  (loadVar T ⟨b,o,none⟩).run C.P w= .ok (.agg cs.toArray) w:=by
 obtain⟨i,d,z,aN,aR,aS,b0,cd,bQ,bH⟩:=bh.info (fP aw (by simp));have:=IB (P:=C.P) (b:=b) (o:=o) cs 0 #[] (by simpa using h);simp only[loadVar,Sem.run_bind,Iz bh aw,Result.andThen,if_true,j9 aN,aR,<-aO,loadCells,this];simp
theorem IC (bh:C.Ok) {T:TypeId} (aw:(C.T T).flat=true) {b o:Nat} {v:Value} (h:Rd w b o [v]):
  (loadVar T ⟨b,o,none⟩).run C.P w= .ok v w:=by
 simp[loadVar,CX bh aw,Go.load,Sem.run,h.one]
def fits (C:bY) (T:TypeId) (d:I):Bool:=match(C.T T).k,d with
    | .struct _,.agg ds=>I.dH ds==(C.T T).sz
    | .struct _,_=>false
    |_,.agg _=>false
    |_,.tuple _=>false
    |_,_=>(C.T T).flat
def ID:aiF->Nat->Nat->Option Nat
 |[],_,_=>none
 |d::ds,i,k=>if k=0 then some i else if d.wd<=k then ID ds (i+1) (k-d.wd)else none
def eR (C:bY) (s:ax) (T:TypeId) (x:I):Option I:=
 match x with
 | .ref d=>if fits C T d=true then some d else none
 | .R y k=>match s y with
   | .agg ds=>if I.fY ds then none else match ID ds 0 k with
     |some i=>match ds[i]? with
      |some d=>if I.dH (ds.take i)=k/\fits C T d=true then some (if d.plain then d else .h y [i])else none
      |none=>none
     |none=>none
   |_=>none
 |x=>match loc s x with
  |some (y,q)=>match I.sub q (s y)with
   |some d=>if fits C T d=true then some (if d.plain then d else .h y q)else none
   |none=>none
  |none=>none
theorem aq.one {F:Nat->Prop} {d:I} {cs:aiD} {S:Nat->Prop} (h:aq w F d cs S) (ab:∀ay,d≠.agg ay) (ad:∀ay,d≠.tuple ay):∃v,cs=[v]/\Value.fw v=true:=by
 cases d with
 |hole=>rw[aq]at h;obtain⟨v,h,rfl⟩:=h;exact⟨v,rfl,h⟩
 |e7=>rw[aq]at h;obtain⟨v,rfl⟩:=h;exact⟨_,rfl,rfl⟩
 |slice xs=>rw[aq]at h;rcases h with⟨_,a,c,rfl,_⟩|⟨b,o,cap,d_,sz,rfl,_⟩<;>exact⟨_,rfl,rfl⟩
 |al sz xs=>rw[aq]at h;rcases h with⟨_,_,rfl⟩|⟨b,cap,cur,e,fr,dh,rfl,_⟩<;>exact⟨_,rfl,rfl⟩
 |ref d=>rw[aq]at h;obtain⟨b,o,d_,rfl,_⟩:=h;exact⟨_,rfl,rfl⟩
 |bb d=>rw[aq]at h;obtain⟨b,cur,e,fr,dh,rfl,_⟩:=h;exact⟨_,rfl,rfl⟩
 |agg ay=>exact(ab _ rfl).elim
 |tuple ay=>exact(ad _ rfl).elim
 |fn _ _=>rw[aq]at h;obtain⟨arr,rfl,_⟩:=h;exact⟨_,rfl,rfl⟩
 |h _ _=>rw[aq]at h;exact h.elim
 |au _ _=>rw[aq]at h;exact h.elim
 |R _ _=>rw[aq]at h;exact h.elim
 |dz _=>rw[aq]at h;obtain⟨v,jv,rfl⟩:=k4.one h;exact⟨v,rfl,jv⟩
 |fv _ _=>rw[aq]at h;obtain⟨arr,rfl,_⟩:=h;exact⟨_,rfl,rfl⟩
 |_=>rw[aq]at h;subst h;exact⟨_,rfl,rfl⟩
theorem I.zg {d:I} (h:d.single=true):(∀ay,d≠.agg ay)/\∀ay,d≠.tuple ay:=
 ⟨λay e=>(by subst e;cases h),λay e=>(by subst e;cases h)⟩
theorem aG.mV {F:Nat->Prop} {s:ax} {aC:Nat->Value} {d:I} {v:Value} (aY:d.tree=true) (U:d.single=true) (h:aq w F d [v] (λ_=>False)):aG w F s aC d v (λ_=>False):=by
 obtain⟨fH,e,ab⟩:=aq.one h (I.zg U).1 (I.zg U).2;have:v=fH:=by simpa using e
 subst this;refine(aG.ca aY).2 ⟨?_,by rw[ga ab];exact h⟩;cases d<;>first|exact ab|cases U
mutual
theorem aG.oS {F:Nat->Prop} {s:ax} {aC:Nat->Value}:∀(d:I) (v:Value),d.single=true->aq w F d [v] (λ_=>False)->aG w F s aC d v (λ_=>False)
 | .fn f caps,v,_,h=>by
   rw[aq]at h;obtain⟨arr,ab,ad,aA⟩:=h;rw[aG];exact⟨arr,by simpa using ab,ee.oS caps _ ad aA⟩
 | .bool b,v,U,h=>aG.mV rfl U h
 | .e7,v,U,h=>aG.mV rfl U h
 | .int k n,v,U,h=>aG.mV rfl U h
 | .str x,v,U,h=>aG.mV rfl U h
 | .di,v,U,h=>aG.mV rfl U h
 | .a_,v,U,h=>aG.mV rfl U h
 | .slice xs,v,U,h=>aG.mV rfl U h
 | .al sz xs,v,U,h=>aG.mV rfl U h
 | .ref d,v,U,h=>aG.mV rfl U h
 | .bb d,v,U,h=>aG.mV rfl U h
 | .h _ _,v,_,h=>by rw[aq]at h;exact h.elim
 | .au _ _,v,_,h=>by rw[aq]at h;exact h.elim
 | .R _ _,v,_,h=>by rw[aq]at h;exact h.elim
 | .dz _,v,U,h=>aG.mV rfl U h
 | .fv _ _,v,U,h=>aG.mV rfl U h
theorem ee.oS {F:Nat->Prop} {s:ax} {aC:Nat->Value}:∀(ds:aiF) (vs:aiD),(∀d∈ds,d.single=true)->aV w F ds vs (λ_=>False)->ee w F s aC ds vs
 |[],vs,_,h=>by rw[aV]at h;rw[ee];exact h
 |d::ds,vs,U,h=>by
  rw[aV]at h;obtain⟨c1,c2,bM,c3,rfl,ad,aA,aZ,bA,_⟩:=h;have ag:=U d (by simp);obtain⟨v,rfl,_⟩:=aq.one ad (I.zg ag).1 (I.zg ag).2;rw[ee];exact⟨v,c2,rfl,aG.oS d v ag (aq.mono (λ_ h=>h) _ _ _ _ (λb R=>aZ b R) ad),ee.oS ds c2 (λx ar=>U x (by simp[ar])) (aV.mono (λ_ h=>h) _ _ _ _ (λb R=>bA b R) aA)⟩
end
theorem zh (bh:C.Ok) {T:TypeId} {d:I} {b o:Nat} {cs:aiD} {S:Nat->Prop} (h:Rd w b o cs) (ag:aq w F d cs S)
  (h0:fits C T d=true):
  ∃v,(loadVar T ⟨b,o,none⟩).run C.P w= .ok v w/\b9 v=cs/\dd d v:=by
 unfold fits at h0;by_cases U:∃ay,(C.T T).k= .struct ay
 .obtain⟨ay,aw⟩:=U;rw[aw]at h0;cases d with
  |agg ds=>
   simp only[beq_iff_eq]at h0;refine⟨_,Pz bh aw h ((aq.length _ _ _ ag).trans h0),rfl,⟨_,rfl⟩⟩
  |_=>simp at h0
 .have jR:(C.T T).flat=true/\(∀ay,d≠.agg ay)/\(∀ay,d≠.tuple ay):=by
   revert h0 U;cases aw:(C.T T).k<;>cases d<;>simp
  obtain⟨v,rfl,ab⟩:=aq.one ag jR.2.1 jR.2.2;refine⟨v,IC bh jR.1 h,ga ab,?_⟩;cases d<;>first|exact ab|exact(jR.2.1 _ rfl).elim|exact(jR.2.2 _ rfl).elim
theorem PA (bh:C.Ok) {T:TypeId} {d:I} {off:Nat} {arr:Array Value} {c1 cs c2:aiD} {S:Nat->Prop} (he:arr.toList=c1++(cs++c2)) (bx:c1.length=off) (ag:aq w F d cs S)
  (h0:fits C T d=true):
  ∃v,(part T arr off).run C.P w= .ok v w/\b9 v=cs/\dd d v:=by
 unfold fits at h0;by_cases U:∃ay,(C.T T).k= .struct ay
 .obtain⟨ay,aw⟩:=U;rw[aw]at h0;cases d with
  |agg ds=>
   simp only[beq_iff_eq]at h0;obtain⟨i,d,z,aN,aR,aS,b0,cd,bQ,bH⟩:=bh.info (fP aw (by simp));have aO:cs.length=(C.T T).sz:=(aq.length _ _ _ ag).trans h0;have ar:(arr.extract off (off+(C.T T).sz)).toList=cs:=by
    rw[Array.toList_extract,he,extract_eq_take_drop,<-aO,<-bx,Nat.add_sub_cancel_left,drop_left,take_left]
   refine⟨.agg (arr.extract off (off+(C.T T).sz)),?_,by simpa [b9,hU]using ar,⟨_,rfl⟩⟩;simp[part,Iz bh aw,j9 aN,aR]
  |_=>simp at h0
 .have jR:(C.T T).flat=true/\(∀ay,d≠.agg ay)/\(∀ay,d≠.tuple ay):=by
   revert h0 U;cases aw:(C.T T).k<;>cases d<;>simp
  obtain⟨v,rfl,ab⟩:=aq.one ag jR.2.1 jR.2.2;have bB:arr[off]? =some v:=by
   rw[<-Array.getElem?_toList,he,<-bx,getElem?_append_right (Nat.le_refl _)];simp
  refine⟨v,?_,ga ab,?_⟩
  .simp[part,CX bh jR.1,bB]
  .cases d<;>first|exact ab|exact(jR.2.1 _ rfl).elim|exact(jR.2.2 _ rfl).elim
theorem PB (bh:C.Ok) (h:bs w0 F0 X F S s aC w) {T:TypeId} {x:I} {v:Value} (aH:aG w F s aC x v (λ_=>False)) (he:eR C s T x=some av):
  Good C w0 F0 X aC w (Instr.loadAt T v) av s:=by
 unfold eR at he;split at he
 .rename_i d;split at he
  .rename_i h0;simp only[some.injEq]at he;subst he;have lz:=(aG.ca rfl).1 aH;rw[aq,ga lz.1]at lz;obtain⟨U,b,o,d_,ab,ad,aA,aZ⟩:=lz;simp only[cons.injEq,and_true]at ab;subst ab;obtain⟨fH,aK,aj,kO⟩:=zh bh aA aZ h0;have ef:(Instr.loadAt T (.pointer (some ⟨b,o,none⟩))).run C.P w= .ok fH w:=by simp[Instr.loadAt,Instr.sureAddr,aK]
   refine⟨fH,w,F,S,ef,h,?_⟩;by_cases aY:d.tree=true
   .exact .inr ⟨aY,kO,λ_=>False,by rw[aj];exact aZ,λ_ h=>h.elim,λ_ h=>h.elim,λ_ _ h=>h.elim,λ_ h=>h.elim⟩
   .cases d<;>first|exact(aY rfl).elim|(rw[aq]at aZ;exact aZ.elim)|exact .inl ⟨rfl,by rw[aG];trivial⟩|(have bA:=aZ;rw[aq]at bA;obtain⟨arr,e,_⟩:=bA;rw[<-aj]at e aZ;rw[ga (by exact kO)]at aZ;exact .inl ⟨rfl,aG.oS _ _ rfl aZ⟩)
  .cases he
 .rename_i y k;split at he
  .rename_i ds qQ;split at he
   .cases he
   .rename_i PC;split at he
    .rename_i i ak;split at he
     .rename_i d ag;split at he
      .rename_i h0;simp only[some.injEq]at he;have fl:(s y).plain=false:=by rw[qQ];simp only[I.plain];simpa using PC
       rw[aG]at aH;obtain⟨b,cur,e,fr,rfl,ad,aA,aZ⟩:=aH fl;have a8:=h.df y;rw[qQ]at a8;have IE:=((aG.ca rfl).1 a8).2;rw[aq]at IE;obtain⟨c1,fj,c2,bM,hr,gb,g_,fO,ha,h8,fE,lx⟩:=aV.pick ds _ _ i d IE ag;have jw:Rd w b k fj:=by
        intro j c bd;have c9:j<fj.length:=(List.getElem?_eq_some_iff.1 bd).1;have:cur.toList[k+j]? =some c:=by
         rw[aZ,gb,getElem?_append_right (by omega),getElem?_append_left (by omega),<-bd];congr 1;omega
        simp[World.cell?,aA];simpa using this
       obtain⟨fH,aK,aj,kO⟩:=zh bh jw fE h0.2;have ef:(Instr.loadAt T (.pointer (some ⟨b,k,none⟩))).run C.P w= .ok fH w:=by simp[Instr.loadAt,Instr.sureAddr,aK]
       refine⟨fH,w,F,S,ef,h,?_⟩;split at he
       .rename_i au;subst he;by_cases aY:d.tree=true
        .exact .inl ⟨au,(aG.ca aY).2 ⟨kO,by rw[aj];exact aq.plain _ _ _ _ au fE⟩⟩
        .cases d<;>first|exact(aY rfl).elim|(rw[aq]at fE;exact fE.elim)|exact .inl ⟨rfl,by rw[aG];trivial⟩|(have bA:=aq.plain _ _ _ (λ_=>False) au fE;rw[<-aj]at bA;rw[ga (by exact kO)]at bA;exact .inl ⟨rfl,aG.oS _ _ rfl bA⟩)
       .subst he;refine .inl ⟨rfl,?_⟩;rw[aG];intro d2 gR _;rw[qQ]at gR⊢;simp only[I.sub,ag,some.injEq]at gR;subst gR;refine⟨fj,none,?_,aj,kO⟩;simp only[c7,ag];rw[gb,rV c1 fj c2 _ _ g_ (aq.length _ _ _ fE)];rfl
      .cases he
     .cases he
    .cases he
  .cases he
 .rename_i x _ _;split at he
  .rename_i y q aO;split at he
   .rename_i d ag;split at he
    .rename_i h0;simp only[some.injEq]at he;obtain⟨nL,cq,b,o,rfl,j7⟩:=CT h aH aO ag;have a8:=h.df y;rw[aG.ca (hs ag (.inr nL))]at a8;obtain⟨fy,cA,dL,eY,k0,b1,cb,eu,dp,e0⟩:=ctx q (s y) (b9 (aC y)) (S y) none _ a8.2 ag;rw[k0]at j7;simp only[some.injEq,Prod.mk.injEq,true_and]at j7;obtain⟨rfl,rfl⟩:=j7;have jw:Rd w b o fy:=by
      rcases e0 with⟨l,r,aN,aR,_⟩|⟨fk,cur,e,fr,l,r,aN,aR,aS,b0,cd,_⟩
      .simp at aR
      .simp only[some.injEq,Prod.mk.injEq]at aN;obtain⟨rfl,rfl⟩:=aN;intro j c bd;have c9:j<fy.length:=(List.getElem?_eq_some_iff.1 bd).1;have:cur.toList[l.length+j]? =some c:=by
        rw[cd,getElem?_append_right (by omega),getElem?_append_left (by omega),<-bd];congr 1;omega
       simp[World.cell?,aS];simpa using this
     obtain⟨fH,aK,aj,kO⟩:=zh bh jw dp h0;have ef:(Instr.loadAt T (.pointer (some ⟨b,o,none⟩))).run C.P w= .ok fH w:=by simp[Instr.loadAt,Instr.sureAddr,aK]
     refine⟨fH,w,F,S,ef,h,?_⟩;split at he
     .rename_i au;subst he;by_cases aY:d.tree=true
      .exact .inl ⟨au,(aG.ca aY).2 ⟨kO,by rw[aj];exact aq.plain _ _ _ _ au dp⟩⟩
      .cases d<;>first|exact(aY rfl).elim|(rw[aq]at dp;exact dp.elim)|exact .inl ⟨rfl,by rw[aG];trivial⟩|(have bA:=aq.plain _ _ _ (λ_=>False) au dp;rw[<-aj]at bA;rw[ga (by exact kO)]at bA;exact .inl ⟨rfl,aG.oS _ _ rfl bA⟩)
     .subst he;refine .inl ⟨rfl,?_⟩;rw[aG];intro d2 gR _;rw[ag]at gR;simp only[some.injEq]at gR;subst gR;exact⟨_,_,k0,aj,kO⟩
    .cases he
   .cases he
  .cases he
mutual
theorem aq.pU {F:Nat->Prop}:∀(d:I) (cs:aiD) (S:Nat->Prop),aq w F d cs S->∀c∈cs,Value.fw c=true
 | .hole,cs,S,h=>by rw[aq]at h;obtain⟨v,h,rfl⟩:=h;simpa using h
 | .bool _,cs,S,h=>by rw[aq]at h;subst h;simp[Value.fw]
 | .e7,cs,S,h=>by rw[aq]at h;obtain⟨b,rfl⟩:=h;simp[Value.fw]
 | .int _ _,cs,S,h=>by rw[aq]at h;subst h;simp[Value.fw]
 | .str _,cs,S,h=>by rw[aq]at h;subst h;simp[Value.fw]
 | .di,cs,S,h=>by rw[aq]at h;subst h;simp[Value.fw]
 | .a_,cs,S,h=>by rw[aq]at h;subst h;simp[Value.fw]
 | .slice xs,cs,S,h=>by
   rw[aq]at h;rcases h with⟨_,a,c,rfl,_⟩|⟨b,o,cap,d_,sz,rfl,_⟩<;>simp[Value.fw]
 | .al sz xs,cs,S,h=>by
   rw[aq]at h;rcases h with⟨_,_,rfl⟩|⟨b,cap,cur,e,fr,aL,rfl,_⟩<;>simp[Value.fw]
 | .ref d,cs,S,h=>by rw[aq]at h;obtain⟨b,o,d_,rfl,_⟩:=h;simp[Value.fw]
 | .bb d,cs,S,h=>by rw[aq]at h;obtain⟨b,o,d_,_,_,rfl,_⟩:=h;simp[Value.fw]
 | .agg ay,cs,S,h=>by rw[aq]at h;exact aV.pU ay _ _ h
 | .tuple ay,cs,S,h=>by rw[aq]at h;exact aV.pU ay _ _ h
 | .fn _ _,cs,S,h=>by rw[aq]at h;obtain⟨arr,rfl,_⟩:=h;simp[Value.fw]
 | .h _ _,cs,S,h=>by rw[aq]at h;exact h.elim
 | .au _ _,cs,S,h=>by rw[aq]at h;exact h.elim
 | .R _ _,cs,S,h=>by rw[aq]at h;exact h.elim
 | .dz _,cs,S,h=>by rw[aq]at h;obtain⟨v,jv,rfl⟩:=k4.one h;simpa using jv
 | .fv _ _,cs,S,h=>by rw[aq]at h;obtain⟨arr,rfl,_⟩:=h;simp[Value.fw]
theorem aV.pU {F:Nat->Prop}:∀(ds:aiF) (cs:aiD) (S:Nat->Prop),aV w F ds cs S->∀c∈cs,Value.fw c=true
 |[],cs,S,h=>by rw[aV]at h;subst h;simp
 |d::ds,cs,S,h=>by
  rw[aV]at h;obtain⟨c1,c2,bM,c3,rfl,ad,aA,_⟩:=h;intro c aj;rcases mem_append.1 aj with aj|aj
  .exact aq.pU d _ _ ad c aj
  .exact aV.pU ds _ _ aA c aj
end
theorem zi {P:Program} {b o:Nat} {e:TypeId} {fr:Nat×Nat}:∀(vs:aiD) (i:Nat) (cur:Array Value) (w:World) (l m r:aiD),w.heap[b]? =some (.cells cur e fr)->kt fr cur.size->
  cur.toList=l++(m++r)->l.length=o+i->m.length=vs.length->(∀v∈vs,Value.fw v=true)->
  ∃aB,(storeCells ⟨b,o,none⟩ vs i).run P w= .ok () aB/\aB.heap[b]? =some (.cells (l++(vs++r)).toArray e fr)/\(∀c,c≠b->aB.heap[c]? =w.heap[c]?)/\aB.heap.size=w.heap.size/\aB.os=w.os/\aB.tape=w.tape/\Out aB w
 |[],i,cur,w,l,m,r,R,bn,aj,aO,hm,_=>by
  refine⟨w,rfl,?_,λ_ _=>rfl,rfl,rfl,rfl,Out.refl _⟩;have:m=[]:=by simpa using hm
  subst this;rw[R];have:cur=(l++([]++r)).toArray:=by rw[<-aj]
  rw[<-this]
 |v::vs,i,cur,w,l,m,r,R,bn,aj,aO,hm,oT=>by
  obtain⟨x,m,rfl⟩:∃x hB,m=x::hB:=by cases m with
   |nil=>simp at hm
   |cons x m=>exact⟨x,m,rfl⟩
  have hlen:cur.size=(l++(x::m++r)).length:=by rw[<-aj];simp
  have c9:o+i<cur.size:=by rw[hlen];simp;omega
  have nM:w.cell? ⟨b,o+i,none⟩=some cur[o+i]:=by simp[World.cell?,R,c9]
  have PD:w.frozen? ⟨b,o+i,none⟩=false:=by
   have:=bn (o+i) c9;simp only[World.frozen?,R];simp only[Bool.and_eq_false_iff,decide_eq_false_iff_not];by_cases ab:fr.1<=o+i
   .right;exact λad=>this ⟨ab,ad⟩
   .left;exact ab
  have qR:(w.setCell ⟨b,o+i,none⟩ v).heap[b]? =some (.cells ((l++[v])++(m++r)).toArray e fr):=by
   simp only[World.setCell,Array.getElem?_modify,if_true,R,map_some,isSome_none,Bool.false_eq_true,if_false];congr 2;apply Array.ext';rw[Array.toList_setIfInBounds,aj,<-aO,set_append_right _ _ (Nat.le_refl _)];simp
  have r3:(store ((⟨b,o,none⟩:Addr).add i) v).run P w= .ok () (w.setCell ⟨b,o+i,none⟩ v):=by
   have ab:=oT v (by simp);rw[Addr.add_lit];cases v<;>first|(simp[Value.fw]at ab;done)|simp[Go.store,Sem.run,nM,PD]
  obtain⟨aB,g1,g2,g3,g4,g5,g6,g7⟩:=zi (P:=P) (b:=b) (o:=o) vs (i+1) _ (w.setCell ⟨b,o+i,none⟩ v) (l++[v]) m r qR (by
   have:(l++[v]++(m++r)).toArray.size=cur.size:=by rw[hlen];simp
   rw[this];exact bn) (by simp) (by simp;omega) (by simpa using hm) (λu hu=>oT u (by simp[hu]))
  refine⟨aB,?_,by simpa using g2,λc aj=>?_,?_,g5,g6,g7⟩
  .simp only[storeCells,Sem.run_bind,r3,Result.andThen];exact g1
  .rw[g3 c aj];simp only[World.setCell,Array.getElem?_modify];rw[if_neg (λe=>aj e.symm)]
  .rw[g4];simp[World.setCell]
theorem CY {d:I} {v:Value} (h:dd d v) (ag:∀ay,d≠.tuple ay):v.cells=(b9 v).toArray:=by
 cases d with
 |tuple ay=>exact(ag _ rfl).elim
 |agg ay=>obtain⟨arr,rfl⟩:=h;simp[Value.cells,b9,hU]
 |_=>
  have ab:Value.fw v=true:=h;rw[ga ab];cases v<;>first|rfl|(simp[Value.fw]at ab)
def ik (C:bY) (s:ax) (T:TypeId) (x y:I):Option ax:=
 match cB s y,loc s x with
 |some (d,s1),some (z,q)=>match d with
  | .tuple _=>none
  |d=>match I.sub q (s z)with
   |some d0=>if d.wd=d0.wd/\d.wd=(C.T T).sz/\(C.T T).ok=true/\y.owner≠some z then some (de (hA z s1) z (I.put q d (s z)))else none
   |none=>none
 |_,_=>none
theorem PE {s s1:ax} {y d:I} {z:Nat} (h:cB s y=some (d,s1)) (bO:(s z).tree=true) (a8:y.owner≠some z):s1 z=s z:=by
 cases y with
 |h x q=>
  simp only[cB]at h;split at h
  .split at h
   .cases h
   .simp only[some.injEq,Prod.mk.injEq]at h;obtain⟨_,rfl⟩:=h;rw[iZ _ _ (λe=>a8 (by rw[I.owner,e]))];exact CJ bO
  .cases h
 |au x q=>simp[cB]at h
 |R x q=>simp[cB]at h
 |fn f c=>simp[cB]at h
 |hole=>simp[cB]at h
 |_=>simp only[cB,some.injEq,Prod.mk.injEq]at h;rw[h.2]
theorem PF (bh:C.Ok) (h:bs w0 F0 X F S s aC w) {T:TypeId} {x y:I} {h1 i1:Value} (CZ:aG w F s aC x h1 (λ_=>False)) (a8:y.plain=true) (PG:aG w F s aC y i1 (λ_=>False))
  {s2:ax} (he:ik C s T x y=some s2):
  ∃aB aL,(Instr.storeAt T h1 i1).run C.P w= .ok () aB/\bs w0 F0 X F aL s2 aC aB:=by
 unfold ik at he;split at he
 .rename_i d s1 z q aY aO;have key:∀d:I,(∀ay,d≠.tuple ay)->cB s y=some (d,s1)->(match I.sub q (s z)with
   |some d0=>if d.wd=d0.wd/\d.wd=(C.T T).sz/\(C.T T).ok=true/\y.owner≠some z then some (de (hA z s1) z (I.put q d (s z)))else none
   |none=>none)=some s2->∃aB aL,(Instr.storeAt T h1 i1).run C.P w= .ok () aB/\bs w0 F0 X F aL s2 aC aB:=by
   intro d pV aY he;split at he
   .rename_i d0 kx;split at he
    .rename_i vI;obtain⟨ab,ad,aA,aZ⟩:=vI;simp only[some.injEq]at he;subst he;obtain⟨nL,cq,b,o,rfl,j7⟩:=CT h CZ aO kx;obtain⟨bM,g0,g1,g2,Sn,g3,g4,g5,g6,g7,g8⟩:=oP h a8 PG aY;have dP:s1 z=s z:=PE aY (hs kx (.inr nL)) aZ;rw[<-dP]at kx nL j7⊢;obtain⟨fy,fk,l,r,cur,e,fr,k0,b1,cb,eu,dp⟩:=g0.store kx nL g3 ab g4 g5 g6 g7;rw[j7]at k0;simp only[some.injEq,Prod.mk.injEq,true_and]at k0;obtain⟨rfl,rfl,rfl⟩:=k0;obtain⟨i,d,pT,aN,aR,aS,b0,cd,bQ,bH⟩:=bh.info aA;have hlen:=aq.length _ _ _ g3;have hm:cq.length=(b9 i1).length:=by
      have IF:=g0.df z;rw[aG.ca (hs kx (.inr nL))]at IF;obtain⟨_,_,_,_,mm,_,_,_,vJ,_⟩:=ctx q (s1 z) (b9 (aC z)) (bM z) none _ IF.2 kx;rw[j7]at mm;simp only[some.injEq,Prod.mk.injEq,true_and]at mm;rw[mm.1,aq.length _ _ _ vJ,hlen,ab]
     obtain⟨aB,m1,m2,m3,m4,m5,m6,m7⟩:=zi (P:=C.P) (b:=b) (o:=l.length) (e:=e) (fr:=fr) (b9 i1) 0 cur w l cq r b1 eu cb rfl hm (aq.pU _ _ _ g3);obtain⟨aL,e0⟩:=dp aB m2 m3 m4 m5 m6 m7;refine⟨aB,aL,?_,e0⟩;have r4:=CY g2 pV;simp[Instr.storeAt,Instr.sureAddr,storeVar,j9 aN,aR,r4,hlen,ad,m1]
    .cases he
   .cases he
  split at he
  .cases he
  .rename_i pV;exact key _ (λay e=>pV ay e) aY he
 .cases he
theorem bs.alloc (h:bs w0 F0 X F S s aC w) {d:I} {cs:aiD} {Sn:Nat->Prop} (e:TypeId) (aH:aq w F d cs Sn)
  (c9:∀b,Sn b->b<w.heap.size) (bc:∀b,Sn b->¬F b) (br:∀u b,Sn b->¬S u b) (a7:∀b,Sn b->X b\/w0.heap.size<=b):
  bs w0 F0 X F S s aC (w.alloc (.cells cs.toArray e))/\
   kv w0 X F S s aC (w.alloc (.cells cs.toArray e)) (.bb d) (.pointer (some ⟨w.heap.size,0,none⟩)):=by
 have hold:∀b,b<w.heap.size->(w.alloc (.cells cs.toArray e)).heap[b]? =w.heap[b]? :=by
  intro b R;show(w.heap.push _)[b]? =_;rw[Array.getElem?_push,if_neg (by omega)]
 refine⟨h.grow hold (by simp) rfl rfl ⟨rfl,λ_=>Nat.le_refl _⟩,.inr ⟨rfl,rfl,λb=>b=w.heap.size\/Sn b,?_,?_,?_,?_,?_⟩⟩
 .rw[aq];refine⟨w.heap.size,cs.toArray,e,(0,0),Sn,rfl,.inl rfl,?_,?_,?_,λc aj=>.inr aj,λaj=>Nat.lt_irrefl _ (c9 _ aj)⟩
  .show(w.heap.push _)[_]? =_;simp
  .intro o _ ⟨_,ad⟩;exact absurd ad (not_lt_zero _)
  .exact aq.frame (λb R=>hold b (h.eH b R)) _ _ _ (λb R=>hold b (c9 b R)) aH
 .rintro b (rfl|R)
  .simp
  .have:=c9 b R;simp;omega
 .rintro b (rfl|R) pW
  .exact Nat.lt_irrefl _ (h.eH _ pW)
  .exact bc b R pW
 .rintro u b (rfl|R) hu
  .exact Nat.lt_irrefl _ (h.dW _ _ hu)
  .exact br u b R hu
 .rintro b (rfl|R)
  .exact .inr h.size
  .exact a7 b R
def jS (C:bY) (T:TypeId):Option I:=if(C.T T).ok=true then(match(C.T T).k,(C.T T).zero with
    | .gH e,.agg [.di,.a_]=>some (.dz (.h7 T e []))
    | .gH _,_=>none
    |_,z=>(match flat z with|some _=>some (.bb z)|none=>none))else none
theorem PH (bh:C.Ok) (h:bs w0 F0 X F S s aC w) {T:TypeId} (he:jS C T=some av):Good C w0 F0 X aC w (Instr.alloc T true (.tuple #[])) av s:=by
 unfold jS at he;split at he
 .rename_i aw;split at he
  .rename_i ags agt PI;simp only[some.injEq]at he;subst he;obtain⟨i,d,z,aN,aR,aS,b0,cd,bQ,bH⟩:=bh.info aw;have bO:=cd [.pointer none,.slice none 0 0] (by rw[PI];rfl);have hold:∀b,b<w.heap.size->(w.alloc (.cells #[.pointer none,.slice none 0 0] T)).heap[b]? =w.heap[b]? :=by
    intro b R;show(w.heap.push _)[b]? =_;rw[Array.getElem?_push,if_neg (by omega)]
   refine⟨.pointer (some ⟨w.heap.size,0,none⟩),w.alloc (.cells #[.pointer none,.slice none 0 0] T),F,S,?_,h.grow hold (by simp) rfl rfl ⟨rfl,λ_=>Nat.le_refl _⟩,.inr ⟨rfl,rfl,λb=>b=w.heap.size,?_,?_,?_,?_,?_⟩⟩
   .simp[Instr.alloc,r2 aN b0,newVar,newRow,newObj,Sem.run,bO]
   .rw[aq];refine⟨w.heap.size,.pointer none,.slice none 0 0,rfl,rfl,?_,.inl rfl,.inl ⟨rfl,rfl⟩⟩;show(w.heap.push _)[_]? =_;simp
   .rintro b rfl;simp
   .rintro b rfl pW;exact Nat.lt_irrefl _ (h.eH _ pW)
   .rintro u b rfl hu;exact Nat.lt_irrefl _ (h.dW _ _ hu)
   .rintro b rfl;exact .inr h.size
  .cases he
  split at he
  .rename_i cs gb;simp only[some.injEq]at he;subst he;obtain⟨i,d,z,aN,aR,aS,b0,cd,bQ,bH⟩:=bh.info aw;have bO:=cd cs gb;obtain⟨cY,ba⟩:=h.alloc (d:=(C.T T).zero) T ((aq.flat _).1 _ cs (λ_=>False) (Nat.le_refl _) gb) (λ_ h=>h.elim) (λ_ h=>h.elim) (λ_ _ h=>h.elim) (λ_ h=>h.elim);refine⟨_,_,F,S,?_,cY,ba⟩;simp[Instr.alloc,r2 aN b0,newVar,newRow,newObj,Sem.run,bO]
  .cases he
 .cases he
def iJ (s:ax) (x:I):Option (I×ax):=match cB s x with
 |some (.tuple _,_)=>none
 |some (d,s1)=>some (.bb d,s1)
 |none=>none
theorem PJ (h:bs w0 F0 X F S s aC w) {T:TypeId} {x:I} {v:Value} (ar:x.plain=true) (aH:aG w F s aC x v (λ_=>False)) (he:iJ s x=some (av,s1)):
  Good C w0 F0 X aC w (Instr.box T v) av s1:=by
 unfold iJ at he;split at he
 .cases he
 .rename_i d s2 pV aY;simp only[some.injEq,Prod.mk.injEq]at he;obtain⟨rfl,rfl⟩:=he;obtain⟨bM,g0,g1,g2,Sn,g3,g4,g5,g6,g7,g8⟩:=oP h ar aH aY;obtain⟨cY,ba⟩:=g0.alloc T g3 g4 g5 g6 g7;refine⟨_,_,F,bM,?_,cY,ba⟩;have r4:=CY g2 (λay e=>pV ay e);simp[Instr.box,newVar,newRow,newObj,Sem.run,r4]
 .cases he
end
end Go.cU
