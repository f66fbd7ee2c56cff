/- Part of a proof that a law returns true for every input. No condition. -/
import Derived.Test.YtmaepbgkcmjcjafGreatDoorFwB
import Derived.Laws.Entries
namespace Go.eg
open List Option Go.IntKind Nat
inductive qc where
 |int (k:IntKind)
 |bool
 |str
 |ptr (e:TypeId)
 |slice (e:TypeId)
 |struct (aF:List (TypeId×Nat))
 |fn
 |gz (e:TypeId)
 |map (k e:TypeId)
 |other
structure hG where
 k:qc
 sz:Nat
 bytes:Nat
 zero:I
mutual
def flat:I->Option ayi
 | .bool b=>some [.bool b]
 | .int k n=>some [.int k n]
 | .str s=>some [.string ⟨⟨s⟩⟩]
 | .er=>some [.pointer none]
 | .bg=>some [.slice none 0 0]
 | .agg aF=>vb aF
 | .cc .ki=>some [.map none]
 |_=>none
def vb:ayk->Option ayi
 |[]=>some []
 |d::ds=>match flat d,vb ds with
  |some a,some b=>some (a++b)
  |_,_=>none
end
theorem aB.flat {w:World} {F:Nat->Prop}:∀n,(∀(d:I) (cs:ayi) (S:Nat->Prop),SizeOf.sizeOf d<=n->flat d=some cs->aB w F d cs S)/\
  (∀(ds:ayk) (cs:ayi) (S:Nat->Prop),SizeOf.sizeOf ds<=n->vb ds=some cs->bt w F ds cs S):=by
 intro n;induction n with
 |zero=>exact⟨λd _ _ b8=>by cases d<;>simp at b8<;>omega,λds _ _ b8=>by cases ds<;>simp at b8<;>omega⟩
 |succ n ih=>
  refine⟨λd cs S b8 h=>?_,λds cs S b8 h=>?_⟩
  .cases d with
   |agg aF=>rw[aB];exact ih.2 aF cs S (by simp at b8;omega) (by simpa [eg.flat]using h)
   |bool b=>simp[eg.flat]at h;subst h;rw[aB]
   |int k n=>simp[eg.flat]at h;subst h;rw[aB]
   |str s=>simp[eg.flat]at h;subst h;rw[aB]
   |er=>simp[eg.flat]at h;subst h;rw[aB]
   |bg=>simp[eg.flat]at h;subst h;rw[aB]
   |cc o=>cases o<;>simp[eg.flat]at h;subst h;rw[aB];rfl
   |_=>simp[eg.flat]at h
  .cases ds with
   |nil=>simp[vb]at h;subst h;rw[bt]
   |cons d ds=>
    simp only[vb]at h;split at h
    .rename_i a b br aa;simp at h;subst h;simp at b8;rw[bt];exact⟨a,b,λ_=>False,λ_=>False,rfl,ih.1 d a _ (by omega) br,ih.2 ds b _ (by omega) aa,λ_ h=>h.elim,λ_ h=>h.elim,λ_ h=>h.elim⟩
    .cases h
def n0:qc->TypeDesc->Prop
 | .int k,.int di=>k=di
 | .bool,.bool=>True
 | .str,.string=>True
 | .ptr e,.pointer hp=>e=hp
 | .slice e,.slice hp=>e=hp
 | .struct aF,.struct gs=>gs.toList.map (λg=>(g.type,g.offset))=aF
 | .fn,.func _ _ _=>True
 | .gz _,.struct _=>True
 | .map k e,.map di hp=>k=di/\e=hp
 |_,_=>False
def TF (P:Program) (t:TypeId) (x:hG):Prop:=
 (∃e n b z,x=⟨.other,e,n,b⟩/\z=0)\/
 ∃i d z,P.info? t=some i/\i.size=x.sz/\i.bytes=x.bytes/\i.zero=some z/\(∀cs,flat x.zero=some cs->z.cells=cs.toArray)/\P.underlying t=some d/\n0 x.k d
structure cm where
 P:Program
 T:TypeId->hG
 M:FuncId->List Bool
structure cm.fH (C:cm):Prop where
 ty:∀t,TF C.P t (C.T t)
 mixed:C.P.follows .mixedOrders=true
inductive bz where
 |t (n:Nat)
 |c (av:I)
 |f (g:FuncId)
def HT:Value->Option I
 | .bool b=>some (.bool b)
 | .int k n=>some (.int k n)
 | .string s=>some (.str s.data.toList)
 | .pointer none=>some .er
 | .slice none 0 0=>some .bg
 |_=>none
def eJ:Operand->Option bz
 | .tmp n=>some (.t n)
 | .const v=>(HT v).map .c
 | .func g=>some (.f g)
 | .global _=>none
def tA (x:Nat) (d:I):I:=if d.plain then d else .h x []
def bu (s:ak):bz->I
 | .t n=>tA n (s n)
 | .c av=>av
 | .f g=>.fn g []
theorem aO.nothing {w:World} {F:Nat->Prop} {s:ak} {aI:Nat->Value} {d:I} {v:Value} {S a7:Nat->Prop} (ax:d.plain=true) (h:aO w F s aI d v S):aO w F s aI d v a7:=by
 cases d<;>first
  |(rw[aO];trivial)
  |(rw[aO]at h⊢;exact h)
  |(have bC:=(aO.dh rfl).1 h;exact(aO.dh rfl).2 ⟨bC.1,aB.plain _ _ _ _ ax bC.2⟩)
section
variable {w0 w:World} {F0 X F:Nat->Prop} {S:Nat->Nat->Prop} {s:ak} {aI:Nat->Value} {a:Act}
theorem TG (s:ak) (x:bz) (ar:∀av,x= .c av->av.plain=true):(bu s x).plain=true:=by
 cases x with
 |t n=>simp only[bu,tA];split<;>first|assumption|rfl
 |c av=>exact ar _ rfl
 |f g=>rfl
theorem Md {v:Value} {av:I} (h:HT v=some av):av.plain=true:=by
 unfold HT at h;split at h<;>simp at h<;>subst h<;>rfl
theorem gA (h:cb w0 F0 X F S s aI w) (fc:∀t,aI t=a.tmps.getD t undef) {o:Operand} {x:bz} (bI:eJ o=some x):
  (bu s x).plain=true/\aO w F s aI (bu s x) (a.eval o) (λ_=>False):=by
 cases o with
 |tmp n=>
  simp[eJ]at bI;subst bI;simp only[bu,tA,Act.eval,<-fc];split
  .rename_i ax;exact⟨ax,aO.nothing ax (h.el n)⟩
  .rename_i ax;refine⟨rfl,?_⟩;rw[aO];intro d an Me;simp only[I.sub,some.injEq]at an;subst an;have ba:=jy (q:=[]) rfl (.inl Me);exact⟨_,none,rfl,rfl,((aO.dh ba).1 (h.el n)).1⟩
 |const v=>
  simp only[eJ,map_eq_some_iff]at bI;obtain⟨av,r9,rfl⟩:=bI;refine⟨Md r9,?_⟩;simp only[bu,Act.eval];unfold HT at r9;split at r9<;>simp at r9<;>subst r9<;>rw[aO,aB]<;>exact⟨rfl,rfl⟩
 |func g=>
  simp[eJ]at bI;subst bI;refine⟨rfl,?_⟩;simp only[bu,Act.eval];rw[aO];exact⟨#[],rfl,by rw[e_]⟩
 |global g=>simp[eJ]at bI
def n1 (w0:World) (X F:Nat->Prop) (S:Nat->Nat->Prop) (s:ak) (aI:Nat->Value) (w:World) (av:I) (v:Value):Prop:=
 (av.plain=true/\aO w F s aI av v (λ_=>False))\/
 (av.tree=true/\eY av v/\∃Sn,aB w F av (cT v) Sn/\(∀b,Sn b->b<w.heap.size)/\(∀b,Sn b->¬F b)/\(∀u b,Sn b->¬S u b)/\(∀b,Sn b->X b\/w0.heap.size<=b))
def fin (s:ak) (dst:Option Nat) (av:I):ak:=match dst with
 |none=>s
 |some t=>if av.plain then ei s t av else ei (oB t s) t av
def qd (aI:Nat->Value) (dst:Option Nat) (v:Value):Nat->Value:=match dst with
 |none=>aI
 |some t=>ei aI t v
theorem cb.fin (h:cb w0 F0 X F S s aI w) {av:I} {v:Value} (aJ:n1 w0 X F S s aI w av v) (dst:Option Nat):
  ∃a7,cb w0 F0 X F a7 (eg.fin s dst av) (qd aI dst v) w:=by
 cases dst with
 |none=>exact⟨S,h⟩
 |some t=>
  simp only[eg.fin,qd];rcases aJ with⟨ax,an⟩|⟨ba,ab,Sn,ad,af,aG,bf,bU⟩
  .rw[if_pos ax];exact⟨_,h.AK ax an⟩
  .split
   .rename_i ax;exact⟨_,h.AK ax ((aO.dh ba).2 ⟨ab,aB.plain _ _ _ _ ax ad⟩)⟩
   .exact⟨_,h.TA ba ab ad af aG (λu b _ aa=>bf u b aa) bU⟩
def dG (s:ak):I->Option (I×ak)
 | .h x q=>match I.sub q (s x)with
   |some d=>if d.plain then none else some (d,ei (jk x s) x (I.put q d.dY (s x)))
   |none=>none
 | .ax _ _=>none
 | .aa _ _=>none
 | .fn _ _=>none
 | .hole=>none
 |d=>some (d,s)
def I.owner:I->Option Nat
 | .h x _=>some x
 |_=>none
def ng:Option Nat->I->I
 |some x,d=>cJ x d
 |none,d=>d
theorem r_ (h:cb w0 F0 X F S s aI w) {av d:I} {s1:ak} {v:Value} (r9:av.plain=true) (aJ:aO w F s aI av v (λ_=>False)) (ba:dG s av=some (d,s1)):
  ∃cI,cb w0 F0 X F cI s1 aI w/\d.tree=true/\eY d v/\∃Sn,aB w F d (cT v) Sn/\(∀b,Sn b->b<w.heap.size)/\(∀b,Sn b->¬F b)/\(∀u b,Sn b->¬cI u b)/\(∀b,Sn b->X b\/w0.heap.size<=b)/\
   (∀u b,cI u b->S u b)/\(∀b,Sn b->∃u,S u b)/\(∀(bJ:I) (hq:Value) (a7:Nat->Prop),aO w F s aI bJ hq a7->aO w F s1 aI (ng av.owner bJ) hq a7):=by
 have tree:∀d:I,d.tree=true->d.plain=true->aO w F s aI d v (λ_=>False)->
   ∃cI,cb w0 F0 X F cI s aI w/\d.tree=true/\eY d v/\∃Sn,aB w F d (cT v) Sn/\(∀b,Sn b->b<w.heap.size)/\(∀b,Sn b->¬F b)/\(∀u b,Sn b->¬cI u b)/\(∀b,Sn b->X b\/w0.heap.size<=b)/\
    (∀u b,cI u b->S u b)/\(∀b,Sn b->∃u,S u b):=by
  intro d an _ bC;have bC:=(aO.dh an).1 bC;exact⟨S,h,an,bC.1,_,bC.2,λ_ h=>h.elim,λ_ h=>h.elim,λ_ _ h=>h.elim,λ_ h=>h.elim,λ_ _ h=>h,λ_ h=>h.elim⟩
 cases av with
 |h x q=>
  simp only[dG]at ba;split at ba
  .rename_i e he;split at ba
   .cases ba
   .rename_i ax;simp only[some.injEq,Prod.mk.injEq]at ba;obtain⟨rfl,rfl⟩:=ba;have ax:e.plain=false:=by simpa using ax
    obtain⟨Sn,gp,dx,dt,eh,bc,dm,bG,cn,cW,eK⟩:=h.take he ax;rw[aO]at aJ;obtain⟨av8,a2,g1,g2,g3⟩:=aJ e he ax;rw[bc]at g1;simp only[some.injEq,Prod.mk.injEq,true_and]at g1;obtain⟨rfl,rfl⟩:=g1;have DU:e.tree=true:=by cases e<;>first|rfl|(simp[I.plain]at ax)
    refine⟨_,eh,DU,g3,gp,by rw[g2];exact dm,λb aa=>h.fz x b (bG b aa),λb aa=>h.gD x b (bG b aa),?_,λb aa=>h.eU x b (bG b aa),?_,λb aa=>⟨x,bG b aa⟩,eK⟩
    .intro u b aa hu;simp only[hc]at hu;split at hu
     .exact cW b aa hu
     .rename_i acw;exact h.ga u x b acw hu (bG b aa)
    .intro u b hu;simp only[hc]at hu;split at hu
     .rename_i e;subst e;exact cn b hu
     .exact hu
  .cases ba
 |ax x q=>simp[dG]at ba
 |aa x q=>simp[dG]at ba
 |fn f c=>simp[dG]at ba
 |hole=>simp[dG]at ba
 |ag sz xs=>simp[I.plain]at r9
 |aS d=>simp[I.plain]at r9
 |_=>
  simp only[dG,some.injEq,Prod.mk.injEq]at ba;obtain⟨rfl,rfl⟩:=ba;obtain⟨cI,t1,t2,t3,Sn,t4,t5,t6,t7,t8,t9,t10⟩:=tree _ rfl r9 aJ;exact⟨cI,t1,t2,t3,Sn,t4,t5,t6,t7,t8,t9,t10,λ_ _ _ h=>h⟩
def loc (s:ak):I->Option (Nat×ayf)
 | .h x q=>match I.sub q (s x)with
   |some (.aS _)=>some (x,q++[0])
   |_=>none
 | .ax x q=>if I.gC q (s x)then some (x,q)else none
 |_=>none
theorem DV:∀(q:ayf) (av d:I) (r:ayf),I.sub q av=some d->I.sub (q++r) av=I.sub r d:=by
 intro q;induction q with
 |nil=>intro av d r h;simp[I.sub]at h;subst h;rfl
 |cons k q ih=>
  intro av d r h;cases av with
  |agg aF=>
   simp only[I.sub,cons_append]at h⊢;split at h
   .rename_i x ao;exact ih _ _ _ h
   .cases h
  |tuple aF=>
   simp only[I.sub,cons_append]at h⊢;split at h
   .rename_i x ao;exact ih _ _ _ h
   .cases h
  |ag sz aF=>
   simp only[I.sub,cons_append]at h⊢;split at h
   .rename_i x ao;exact ih _ _ _ h
   .cases h
  |aS x=>
   cases k with
   |zero=>simp only[I.sub,cons_append]at h⊢;exact ih _ _ _ h
   |succ k=>simp[I.sub]at h
  |_=>simp[I.sub]at h
theorem acx:∀(q:ayf) (av d:I) (r:ayf),I.sub q av=some d->I.gC (q++r) av=(I.gC q av||I.gC r d):=by
 intro q;induction q with
 |nil=>intro av d r h;simp[I.sub]at h;subst h;simp[I.gC]
 |cons k q ih=>
  intro av d r h;cases av with
  |agg aF=>
   simp only[I.sub]at h;split at h
   .rename_i x ao;simp only[I.gC,cons_append,ao];exact ih _ _ r h
   .cases h
  |tuple aF=>
   simp only[I.sub]at h;split at h
   .rename_i x ao;simp only[I.gC,cons_append,ao];exact ih _ _ r h
   .cases h
  |ag sz aF=>simp[I.gC]
  |aS x=>simp[I.gC]
  |_=>simp[I.sub]at h
theorem DW (w:World):∀(q:ayf) (av d:I) (cs dx:ayi) (a dt:Option (Nat×Nat)) (r:ayf),et w q av cs a=some (d,dx,dt)->et w (q++r) av cs a=et w r d dx dt:=by
 intro q;induction q with
 |nil=>intro av d cs dx a dt r h;simp[et]at h;obtain⟨rfl,rfl,rfl⟩:=h;rfl
 |cons k q ih=>
  intro av d cs dx a dt r h;cases av with
  |agg aF=>
   rw[cons_append];rw[et]at h⊢;split at h
   .rename_i x ao;exact ih _ _ _ _ _ _ _ h
   .cases h
  |tuple aF=>
   rw[cons_append];rw[et]at h⊢;split at h
   .rename_i x ao;exact ih _ _ _ _ _ _ _ h
   .cases h
  |ag sz aF=>
   rw[cons_append];rw[et.eq_def]at h⊢;simp only at h⊢;split at h
   .exact ih _ _ _ _ _ _ _ h
   .cases h
  |aS x=>
   cases k with
   |zero=>
    rw[cons_append];rw[et.eq_def]at h⊢;simp only at h⊢;split at h
    .exact ih _ _ _ _ _ _ _ h
    .cases h
   |succ k=>rw[show et w ((k+1)::q) (.aS x) cs a=none from rfl]at h;cases h
  |_=>simp[et]at h
end
def hG.ok (x:hG):Bool:=match x.k with
 | .other=>false
 |_=>true
theorem cm.fH.info {C:cm} (bP:C.fH) {t:TypeId} (h:(C.T t).ok=true):
  ∃i d z,C.P.info? t=some i/\i.size=(C.T t).sz/\i.bytes=(C.T t).bytes/\i.zero=some z/\(∀cs,flat (C.T t).zero=some cs->z.cells=cs.toArray)/\C.P.underlying t=some d/\n0 (C.T t).k d:=by
 rcases bP.ty t with⟨e,n,b,z,ao,_⟩|bC
 .rw[ao]at h;simp[hG.ok]at h
 .exact bC
theorem hz {x:hG} {k:qc} (h:x.k=k) (au:k≠.other):x.ok=true:=by
 unfold hG.ok;rw[h];cases k<;>first|rfl|exact(au rfl).elim
theorem DX {d:TypeDesc} {aF:List (TypeId×Nat)} (h:n0 (.struct aF) d):∃gs,d= .struct gs/\gs.toList.map (λg=>(g.type,g.offset))=aF:=by
 cases d<;>simp[n0]at h;exact⟨_,rfl,h⟩
theorem oD {d:TypeDesc} {e:TypeId} (h:n0 (.slice e) d):d= .slice e:=by
 cases d<;>simp[n0]at h;rw[h]
theorem HU {d:TypeDesc} {k:IntKind} (h:n0 (.int k) d):d= .int k:=by
 cases d<;>simp[n0]at h;rw[h]
theorem tB {d:TypeDesc} (h:n0 .str d):d= .string:=by
 cases d<;>simp[n0]at h;rfl
theorem Mf {d:TypeDesc} (h:n0 .bool d):d= .bool:=by
 cases d<;>simp[n0]at h;rfl
theorem TH {d:TypeDesc} {e:TypeId} (h:n0 (.ptr e) d):d= .pointer e:=by
 cases d<;>simp[n0]at h;rw[h]
theorem h4 {v:Value} (h:Value.hF v=true):cT v=[v]:=by
 cases v<;>first|rfl|(simp[Value.hF]at h)
theorem DY {P:Program} {t:TypeId} {i:TypeInfo} (h:P.info? t=some i) (w:World):(typeInfo t).run P w= .ok i w:=by simp[typeInfo,h]
theorem nh {P:Program} {t:TypeId} {i:TypeInfo} (h:P.info? t=some i) (w:World):(Go.sizeOf t).run P w= .ok i.size w:=by simp[Go.sizeOf,DY h]
theorem yA {P:Program} {t:TypeId} {i:TypeInfo} {z:Value} (h:P.info? t=some i) (b8:i.zero=some z) (w:World):(zeroValue t).run P w= .ok z w:=by simp[zeroValue,DY h,b8]
section
variable {C:cm} {w0 w:World} {F0 X F:Nat->Prop} {S:Nat->Nat->Prop} {s s1:ak} {aI:Nat->Value} {av:I}
def Good (C:cm) (w0:World) (F0 X:Nat->Prop) (aI:Nat->Value) (w:World) (m:Sem Value) (av:I) (s1:ak):Prop:=
 ∃v aN ch a7,m.run C.P w= .ok v aN/\cb w0 F0 X ch a7 s1 aI aN/\n1 w0 X ch a7 s1 aI aN av v
theorem Good.same (h:cb w0 F0 X F S s aI w) {m:Sem Value} {v:Value} (aQ:m.run C.P w= .ok v w) (ax:av.plain=true) (aJ:aO w F s aI av v (λ_=>False)):Good C w0 F0 X aI w m av s:=
 ⟨v,w,F,S,aQ,h,.inl ⟨ax,aJ⟩⟩
theorem Mg (_h:cb w0 F0 X F S s aI w) {x:I} {v:Value} (aJ:aO w F s aI x v (λ_=>False)) {y:Nat} {q:ayf} (hl:loc s x=some (y,q)) {d:I} (an:I.sub q (s y)=some d):
  I.gC q (s y)=true/\∃dx b o,v= .pointer (some ⟨b,o,none⟩)/\et w q (s y) (cT (aI y)) none=some (d,dx,some (b,o)):=by
 cases x with
 |h z AN=>
  simp only[loc]at hl;split at hl
  .rename_i e he;simp only[some.injEq,Prod.mk.injEq]at hl;obtain⟨rfl,rfl⟩:=hl;rw[aO]at aJ;obtain⟨dx,a,g1,g2,g3⟩:=aJ _ he rfl;have jh:e=d:=by
    rw[DV _ _ _ _ he]at an;simpa [I.sub]using an
   subst jh;refine⟨by rw[acx _ _ _ _ he];simp[I.gC],?_⟩;have ad:Value.hF v=true:=g3;rw[h4 ad]at g2;subst g2;have nf:=DW w AN (s z) _ _ _ none a [0] g1;have ao:=_h.el z;rw[aO.dh (jy he (.inl rfl))]at ao;obtain⟨hb,dt,fi,gp,k0,bS,ct,dT,ed,eQ⟩:=ctx AN (s z) (cT (aI z)) (S z) none _ ao.2 he;rw[k0]at g1;simp only[some.injEq,Prod.mk.injEq,true_and]at g1;obtain⟨rfl,rfl⟩:=g1;rw[aB]at ed;obtain⟨b,cur,aY,fr,eF,aU,_⟩:=ed;simp only[cons.injEq,and_true]at aU;subst aU;exact⟨_,b,0,rfl,by rw[nf];rfl⟩
  .cases hl
 |ax z AN=>
  simp only[loc]at hl;split at hl
  .rename_i ar;simp only[some.injEq,Prod.mk.injEq]at hl;obtain⟨rfl,rfl⟩:=hl;rw[aO]at aJ;obtain⟨dx,b,o,g1,g2⟩:=aJ _ an ar;exact⟨ar,dx,b,o,g2,g1⟩
  .cases hl
 |_=>simp[loc]at hl
def hU (C:cm) (s:ak) (T:TypeId) (x:I) (k:Nat):Option I:=
 match(C.T T).k with
 | .struct aF=>match aF[k]? with
   |some (lZ,off)=>if(C.T lZ).ok=true/\(C.T lZ).sz≠0 then
     match x with
     | .ref (.agg ds)=>match ds[k]? with
       |some d=>if I.e9 (ds.take k)=off then some (.ref d)else none
       |none=>none
     | .aa y o=>if(s y).plain then none else some (.aa y (o+off))
     |x=>match loc s x with
      |some (y,q)=>match I.sub q (s y)with
       |some (.agg ds)=>if k<ds.length/\I.e9 (ds.take k)=off then some (.ax y (q++[k]))else none
       |_=>none
      |none=>none
    else none
   |none=>none
 |_=>none
theorem jv.Mh {w:World} {b o:Nat} {cr ha c2:ayi} (h:jv w b o (cr++(ha++c2))):jv w b (o+cr.length) ha:=by
 intro j c bF;have eI:j<ha.length:=(List.getElem?_eq_some_iff.1 bF).1;have:=h (cr.length+j) c (by rw[getElem?_append_right (by omega),getElem?_append_left (by omega),<-bF];congr 1;omega);rw[Nat.add_assoc];exact this
theorem Mi (bP:C.fH) {T lZ:TypeId} {aF:List (TypeId×Nat)} {k off:Nat} (au:(C.T T).k= .struct aF) (bD:aF[k]? =some (lZ,off)) (ad:(C.T lZ).ok=true) (af:(C.T lZ).sz≠0) (b o:Nat) (w:World):
  (Instr.fieldAt T (.pointer (some ⟨b,o,none⟩)) k).run C.P w= .ok (.pointer (some ⟨b,o+off,none⟩)) w:=by
 obtain⟨i,d,z,aP,aY,aU,b4,cM,cl,b9⟩:=bP.info (hz au (by simp));rw[au]at b9;obtain⟨gs,rfl,fJ⟩:=DX b9;obtain⟨tC,bJ,vc,f1,f2,f3,f4,f5,f6,f7⟩:=bP.info ad;have hg:∃g,gs[k]? =some g/\g.type=lZ/\g.offset=off:=by
  rw[<-fJ,getElem?_map]at bD;simp only[map_eq_some_iff,Prod.mk.injEq]at bD;obtain⟨g,ad,af,aG⟩:=bD;exact⟨g,by simpa using ad,af,aG⟩
 obtain⟨g,g1,rfl,rfl⟩:=hg;simp[Instr.fieldAt,run_underlying cl,g1,Instr.sureAddr,fieldPlace,nh f1,f2,af,Addr.add_lit]
theorem acy (bP:C.fH) (h:cb w0 F0 X F S s aI w) {T:TypeId} {x:I} {v:Value} {k:Nat} (ao:x.plain=true) (aJ:aO w F s aI x v (λ_=>False)) (he:hU C s T x k=some av):
  Good C w0 F0 X aI w (Instr.fieldAt T v k) av s:=by
 unfold hU at he;split at he
 .rename_i aF au;split at he
  .rename_i lZ off bD;split at he
   .rename_i AO;split at he
    .rename_i ds;split at he
     .rename_i d an;split at he
      .rename_i tD;simp only[some.injEq]at he;subst he;have o7:=(aO.dh rfl).1 aJ;rw[aB]at o7;obtain⟨ab,b,o,fo,ad,af,aG,bf⟩:=o7;rw[h4 ab]at ad;simp only[cons.injEq,and_true]at ad;subst ad;rw[aB]at bf;obtain⟨cr,ha,c2,cI,jw,rfl,jj,gT,iO,j2,ho,o4⟩:=bt.pick ds _ _ k d bf an;refine Good.same h (Mi bP au bD AO.1 AO.2 b o w) rfl ((aO.dh rfl).2 ⟨rfl,?_⟩);rw[aB];refine⟨b,o+off,ha,rfl,af,?_,aB.mono (λ_ h=>h) _ _ _ _ (λb aa=>iO b aa) ho⟩;rw[<-tD,<-jj];exact aG.Mh
      .cases he
     .cases he
    .rename_i y o;split at he
     .cases he
     .rename_i ax;simp only[some.injEq]at he;subst he;rw[aO]at aJ;obtain⟨b,cur,e,fr,rfl,af,aG,bf⟩:=aJ (by simpa using ax);refine Good.same h (Mi bP au bD AO.1 AO.2 b o w) rfl ?_;rw[aO];exact λ_=>⟨b,cur,e,fr,rfl,af,aG,bf⟩
    .rename_i x _ _;split at he
     .rename_i y q hl;split at he
      .rename_i ds an;split at he
       .rename_i tD;simp only[some.injEq]at he;subst he;obtain⟨ar,dx,b,o,rfl,nf⟩:=Mg h aJ hl an;refine Good.same h (Mi bP au bD AO.1 AO.2 b o w) rfl ?_;rw[aO];intro d2 hx lf;rw[DW w q _ _ _ _ _ _ [k] nf];rw[DV _ _ _ _ an]at hx;have o8:∃d3,ds[k]? =some d3:=⟨_,getElem?_eq_getElem tD.1⟩
        obtain⟨d3,DZ⟩:=o8;simp only[I.sub,DZ,some.injEq]at hx;subst hx;simp only[et,DZ];refine⟨(dx.drop off).take d3.wd,b,o+off,?_,rfl⟩;rw[tD.2];rfl
       .cases he
      .cases he
     .cases he
   .cases he
  .cases he
 .cases he
def kD (C:cm) (s:ak) (T:TypeId) (x i:I):Option I:=
 match(C.T T).k,i with
 | .slice e,.int _ n=>if 0<=n/\(C.T e).ok=true then
   match x with
   | .slice xs=>match xs[n.toNat]? with
     |some d=>if d.wd=(C.T e).sz then some (.ref d)else none
     |none=>none
   | .h y q=>match I.sub q (s y)with
     |some (.ag sz xs)=>if n.toNat<xs.length/\sz=(C.T e).sz then some (.ax y (q++[n.toNat]))else none
     |_=>none
   |_=>none
   else none
 |_,_=>none
theorem TI (bP:C.fH) {T e:TypeId} (au:(C.T T).k= .slice e) (he:(C.T e).ok=true) (b o len cap:Nat) (k:IntKind) (n:Nat) (aV:n<len) (w:World):
  (Instr.indexAt T (.slice (some ⟨b,o,none⟩) len cap) (.int k n)).run C.P w= .ok (.pointer (some ⟨b,o+n*(C.T e).sz,none⟩)) w:=by
 obtain⟨i,d,z,aP,aY,aU,b4,cM,cl,b9⟩:=bP.info (hz au (by simp));rw[au]at b9;have:=oD b9;subst this;obtain⟨tC,bJ,vc,f1,f2,f3,f4,f5,f6,f7⟩:=bP.info he;simp[Instr.indexAt,run_underlying cl,asIntOf,aV,nh f1,f2,Addr.add_lit]
theorem acz (bP:C.fH) (h:cb w0 F0 X F S s aI w) {T:TypeId} {x i:I} {v qV:Value} (aJ:aO w F s aI x v (λ_=>False)) (acA:aO w F s aI i qV (λ_=>False))
  (he:kD C s T x i=some av):Good C w0 F0 X aI w (Instr.indexAt T v qV) av s:=by
 unfold kD at he;split at he
 .rename_i e k n au;have Mj:=(aO.dh rfl).1 acA;rw[aB,h4 Mj.1]at Mj;have:qV= .int k n:=by simpa using Mj.2
  subst this;split at he
  .rename_i aV;obtain⟨n,rfl⟩:=Int.eq_ofNat_of_zero_le aV.1;simp only[Int.toNat_natCast]at he;split at he
   .rename_i xs;split at he
    .rename_i d an;split at he
     .rename_i hw;simp only[some.injEq]at he;subst he;have o7:=(aO.dh rfl).1 aJ;rw[aB,h4 o7.1]at o7;obtain⟨ab,⟨rfl,_⟩|⟨b,o,cap,fo,sz,ad,af,aG,bf,bU,dc,c1⟩⟩:=o7
      .simp at an
      .simp only[cons.injEq,and_true]at ad;subst ad;have eI:n<xs.length:=(List.getElem?_eq_some_iff.1 an).1;obtain⟨cr,ha,c2,cI,jw,rfl,jj,gT,iO,j2,ho,o4⟩:=bt.pick xs _ _ n d c1 an;refine Good.same h (TI bP au aV.2 b o _ _ k n eI w) rfl ((aO.dh rfl).2 ⟨rfl,?_⟩);rw[aB];refine⟨b,_,ha,rfl,af,?_,aB.mono (λ_ h=>h) _ _ _ _ (λb aa=>iO b aa) ho⟩;have acB:=bU d (mem_of_getElem? an);have:n*(C.T e).sz=cr.length:=by
        rw[jj,yv _ (λd an=>bU d (mem_of_mem_take an)),length_take,Nat.min_eq_left (by omega),<-hw,acB]
       rw[this];exact dc.Mh
     .cases he
    .cases he
   .rename_i y q;split at he
    .rename_i sz xs an;split at he
     .rename_i hw;simp only[some.injEq]at he;subst he;rw[aO]at aJ;obtain⟨dx,a,g1,g2,g3⟩:=aJ _ an rfl;have ab:Value.hF v=true:=g3;rw[h4 ab]at g2;subst g2;have ao:=h.el y;rw[aO.dh (jy an (.inl rfl))]at ao;obtain⟨hb,dt,fi,gp,k0,bS,ct,dT,ed,eQ⟩:=ctx q (s y) (cT (aI y)) (S y) none _ ao.2 an;rw[k0]at g1;simp only[some.injEq,Prod.mk.injEq,true_and]at g1;obtain⟨rfl,rfl⟩:=g1;rw[aB]at ed;rcases ed with⟨rfl,_⟩|⟨b,cap,cur,aY,fr,eF,aU,_⟩
      .simp at hw
      .simp only[cons.injEq,and_true]at aU;subst aU;refine Good.same h (TI bP au aV.2 b 0 _ _ k n hw.1 w) rfl ?_;rw[aO];intro d2 hx _;rw[DW w q _ _ _ _ _ _ [n] k0];rw[DV _ _ _ _ an]at hx;obtain⟨d3,DZ⟩:∃d3,xs[n]? =some d3:=⟨_,getElem?_eq_getElem hw.1⟩
       simp only[I.sub,DZ,some.injEq]at hx;subst hx;simp only[et,DZ];exact⟨_,b,n*sz,rfl,by simp[hw.2]⟩
     .cases he
    .cases he
   .cases he
  .cases he
 .cases he
end
section
variable {C:cm} {w0 w:World} {F0 X F:Nat->Prop} {S:Nat->Nat->Prop} {s s1:ak} {aI:Nat->Value} {av:I}
theorem TJ (bP:C.fH) {T:TypeId} {aF:List (TypeId×Nat)} (au:(C.T T).k= .struct aF) (w:World):(isAgg T).run C.P w= .ok true w:=by
 obtain⟨i,d,z,aP,aY,aU,b4,cM,cl,b9⟩:=bP.info (hz au (by simp));rw[au]at b9;obtain⟨gs,rfl,_⟩:=DX b9;simp[isAgg,run_underlying cl]
def hG.flat (x:hG):Bool:=match x.k with
 | .other=>false
 | .gz _=>false
 | .struct _=>false
 |_=>true
theorem TK {x:hG} (h:x.flat=true):x.ok=true:=by
 unfold hG.flat at h;unfold hG.ok;revert h;cases x.k<;>simp
theorem Mk (bP:C.fH) {T:TypeId} (au:(C.T T).flat=true) (w:World):(isAgg T).run C.P w= .ok false w:=by
 obtain⟨i,d,z,aP,aY,aU,b4,cM,cl,b9⟩:=bP.info (TK au);have d_:(∀aF,d≠.struct aF)/\(∀n e,d≠.array n e):=by
  clear cl;unfold hG.flat at au;generalize (C.T T).k=n2 at*;cases n2<;>cases d<;>simp[n0]at b9 au⊢
 cases d<;>first|exact(d_.1 _ rfl).elim|exact(d_.2 _ _ rfl).elim|simp[isAgg,run_underlying cl]
theorem jv.one {w:World} {b o:Nat} {v:Value} (h:jv w b o [v]):w.cell? ⟨b,o,none⟩=some v:=by simpa using h 0 v rfl
theorem TL {P:Program} {b o:Nat}:∀(cs:ayi) (i:Nat) (acc:Array Value),jv w b (o+i) cs->(loadCellsFrom ⟨b,o,none⟩ i cs.length acc).run P w= .ok (acc++cs.toArray) w
 |[],i,acc,_=>by simp[loadCellsFrom]
 |c::cs,i,acc,h=>by
  have a_:w.cell? ⟨b,o+i,none⟩=some c:=by simpa using h 0 c rfl
  have ad:jv w b (o+(i+1)) cs:=by
   intro j x bF;have:=h (j+1) x (by simpa using bF);rw[<-this];congr 2;omega
  have ih:=TL (P:=P) cs (i+1) (acc.push c) ad;simp only[length_cons,loadCellsFrom,Sem.run_bind,Go.load,Sem.run,Addr.add_lit,a_,Result.andThen];rw[ih];simp
theorem acC (bP:C.fH) {T:TypeId} {aF:List (TypeId×Nat)} (au:(C.T T).k= .struct aF) {b o:Nat} {cs:ayi} (h:jv w b o cs) (hl:cs.length=(C.T T).sz):
  (loadVar T ⟨b,o,none⟩).run C.P w= .ok (.agg cs.toArray) w:=by
 obtain⟨i,d,z,aP,aY,aU,b4,cM,cl,b9⟩:=bP.info (hz au (by simp));have:=TL (P:=C.P) (b:=b) (o:=o) cs 0 #[] (by simpa using h);simp only[loadVar,Sem.run_bind,TJ bP au,Result.andThen,if_true,nh aP,aY,<-hl,loadCells,this];simp
theorem TM (bP:C.fH) {T:TypeId} (au:(C.T T).flat=true) {b o:Nat} {v:Value} (h:jv w b o [v]):
  (loadVar T ⟨b,o,none⟩).run C.P w= .ok v w:=by
 simp[loadVar,Mk bP au,Go.load,Sem.run,h.one]
def fits (C:cm) (T:TypeId) (d:I):Bool:=match(C.T T).k,d with
    | .struct _,.agg ds=>I.e9 ds==(C.T T).sz
    | .struct _,_=>false
    |_,.agg _=>false
    |_,.tuple _=>false
    |_,_=>(C.T T).flat
def HV:ayk->Nat->Nat->Option Nat
 |[],_,_=>none
 |d::ds,i,k=>if k=0 then some i else if d.wd<=k then HV ds (i+1) (k-d.wd)else none
def fS (C:cm) (s:ak) (T:TypeId) (x:I):Option I:=
 match x with
 | .ref d=>if fits C T d=true then some d else none
 | .aa y k=>match s y with
   | .agg ds=>if I.e5 ds then none else match HV ds 0 k with
     |some i=>match ds[i]? with
      |some d=>if I.e9 (ds.take i)=k/\fits C T d=true then some (if d.plain then d else .h y [i])else none
      |none=>none
     |none=>none
   |_=>none
 |x=>match loc s x with
  |some (y,q)=>match I.sub q (s y)with
   |some d=>if fits C T d=true then some (if d.plain then d else .h y q)else none
   |none=>none
  |none=>none
theorem aB.one {F:Nat->Prop} {d:I} {cs:ayi} {S:Nat->Prop} (h:aB w F d cs S) (ad:∀aF,d≠.agg aF) (af:∀aF,d≠.tuple aF):∃v,cs=[v]/\Value.hF v=true:=by
 cases d with
 |hole=>rw[aB]at h;obtain⟨v,h,rfl⟩:=h;exact⟨v,rfl,h⟩
 |gn=>rw[aB]at h;obtain⟨v,rfl⟩:=h;exact⟨_,rfl,rfl⟩
 |slice xs=>rw[aB]at h;rcases h with⟨_,a,c,rfl,_⟩|⟨b,o,cap,fo,sz,rfl,_⟩<;>exact⟨_,rfl,rfl⟩
 |ag sz xs=>rw[aB]at h;rcases h with⟨_,_,rfl⟩|⟨b,cap,cur,e,fr,eU,rfl,_⟩<;>exact⟨_,rfl,rfl⟩
 |ref d=>rw[aB]at h;obtain⟨b,o,fo,rfl,_⟩:=h;exact⟨_,rfl,rfl⟩
 |aS d=>rw[aB]at h;obtain⟨b,cur,e,fr,eU,rfl,_⟩:=h;exact⟨_,rfl,rfl⟩
 |agg aF=>exact(ad _ rfl).elim
 |tuple aF=>exact(af _ rfl).elim
 |fn _ _=>rw[aB]at h;obtain⟨arr,rfl,_⟩:=h;exact⟨_,rfl,rfl⟩
 |h _ _=>rw[aB]at h;exact h.elim
 |ax _ _=>rw[aB]at h;exact h.elim
 |aa _ _=>rw[aB]at h;exact h.elim
 |cc _=>rw[aB]at h;obtain⟨v,iN,rfl⟩:=oz.one h;exact⟨v,rfl,iN⟩
 |_=>rw[aB]at h;subst h;exact⟨_,rfl,rfl⟩
theorem I.HW {d:I} (h:d.single=true):(∀aF,d≠.agg aF)/\∀aF,d≠.tuple aF:=
 ⟨λaF e=>(by subst e;cases h),λaF e=>(by subst e;cases h)⟩
theorem aO.sa {F:Nat->Prop} {s:ak} {aI:Nat->Value} {d:I} {v:Value} (ba:d.tree=true) (ab:d.single=true) (h:aB w F d [v] (λ_=>False)):aO w F s aI d v (λ_=>False):=by
 obtain⟨hq,e,ad⟩:=aB.one h (I.HW ab).1 (I.HW ab).2;have:v=hq:=by simpa using e
 subst this;refine(aO.dh ba).2 ⟨?_,by rw[h4 ad];exact h⟩;cases d<;>first|exact ad|cases ab
mutual
theorem aO.tE {F:Nat->Prop} {s:ak} {aI:Nat->Value}:∀(d:I) (v:Value),d.single=true->aB w F d [v] (λ_=>False)->aO w F s aI d v (λ_=>False)
 | .fn f caps,v,_,h=>by
   rw[aB]at h;obtain⟨arr,ad,af,aG⟩:=h;rw[aO];exact⟨arr,by simpa using ad,e_.tE caps _ af aG⟩
 | .bool b,v,ab,h=>aO.sa rfl ab h
 | .gn,v,ab,h=>aO.sa rfl ab h
 | .int k n,v,ab,h=>aO.sa rfl ab h
 | .str x,v,ab,h=>aO.sa rfl ab h
 | .er,v,ab,h=>aO.sa rfl ab h
 | .bg,v,ab,h=>aO.sa rfl ab h
 | .slice xs,v,ab,h=>aO.sa rfl ab h
 | .ag sz xs,v,ab,h=>aO.sa rfl ab h
 | .ref d,v,ab,h=>aO.sa rfl ab h
 | .aS d,v,ab,h=>aO.sa rfl ab h
 | .h _ _,v,_,h=>by rw[aB]at h;exact h.elim
 | .ax _ _,v,_,h=>by rw[aB]at h;exact h.elim
 | .aa _ _,v,_,h=>by rw[aB]at h;exact h.elim
 | .cc _,v,ab,h=>aO.sa rfl ab h
theorem e_.tE {F:Nat->Prop} {s:ak} {aI:Nat->Value}:∀(ds:ayk) (vs:ayi),(∀d∈ds,d.single=true)->bt w F ds vs (λ_=>False)->e_ w F s aI ds vs
 |[],vs,_,h=>by rw[bt]at h;rw[e_];exact h
 |d::ds,vs,ab,h=>by
  rw[bt]at h;obtain⟨cr,c2,cI,eF,rfl,af,aG,bf,bU,_⟩:=h;have an:=ab d (by simp);obtain⟨v,rfl,_⟩:=aB.one af (I.HW an).1 (I.HW an).2;rw[e_];exact⟨v,c2,rfl,aO.tE d v an (aB.mono (λ_ h=>h) _ _ _ _ (λb aa=>bf b aa) af),e_.tE ds c2 (λx ao=>ab x (by simp[ao])) (bt.mono (λ_ h=>h) _ _ _ _ (λb aa=>bU b aa) aG)⟩
end
theorem HX (bP:C.fH) {T:TypeId} {d:I} {b o:Nat} {cs:ayi} {S:Nat->Prop} (h:jv w b o cs) (an:aB w F d cs S)
  (kk:fits C T d=true):
  ∃v,(loadVar T ⟨b,o,none⟩).run C.P w= .ok v w/\cT v=cs/\eY d v:=by
 unfold fits at kk;by_cases ab:∃aF,(C.T T).k= .struct aF
 .obtain⟨aF,au⟩:=ab;rw[au]at kk;cases d with
  |agg ds=>
   simp only[beq_iff_eq]at kk;refine⟨_,acC bP au h ((aB.length _ _ _ an).trans kk),rfl,⟨_,rfl⟩⟩
  |_=>simp at kk
 .have kl:(C.T T).flat=true/\(∀aF,d≠.agg aF)/\(∀aF,d≠.tuple aF):=by
   revert kk ab;cases au:(C.T T).k<;>cases d<;>simp
  obtain⟨v,rfl,ad⟩:=aB.one an kl.2.1 kl.2.2;refine⟨v,TM bP kl.1 h,h4 ad,?_⟩;cases d<;>first|exact ad|exact(kl.2.1 _ rfl).elim|exact(kl.2.2 _ rfl).elim
theorem acD (bP:C.fH) {T:TypeId} {d:I} {off:Nat} {arr:Array Value} {cr cs c2:ayi} {S:Nat->Prop} (he:arr.toList=cr++(cs++c2)) (bI:cr.length=off) (an:aB w F d cs S)
  (kk:fits C T d=true):
  ∃v,(part T arr off).run C.P w= .ok v w/\cT v=cs/\eY d v:=by
 unfold fits at kk;by_cases ab:∃aF,(C.T T).k= .struct aF
 .obtain⟨aF,au⟩:=ab;rw[au]at kk;cases d with
  |agg ds=>
   simp only[beq_iff_eq]at kk;obtain⟨i,d,z,aP,aY,aU,b4,cM,cl,b9⟩:=bP.info (hz au (by simp));have hl:cs.length=(C.T T).sz:=(aB.length _ _ _ an).trans kk;have ao:(arr.extract off (off+(C.T T).sz)).toList=cs:=by
    rw[Array.toList_extract,he,extract_eq_take_drop,<-hl,<-bI,Nat.add_sub_cancel_left,drop_left,take_left]
   refine⟨.agg (arr.extract off (off+(C.T T).sz)),?_,by simpa [cT,jx]using ao,⟨_,rfl⟩⟩;simp[part,TJ bP au,nh aP,aY]
  |_=>simp at kk
 .have kl:(C.T T).flat=true/\(∀aF,d≠.agg aF)/\(∀aF,d≠.tuple aF):=by
   revert kk ab;cases au:(C.T T).k<;>cases d<;>simp
  obtain⟨v,rfl,ad⟩:=aB.one an kl.2.1 kl.2.2;have hg:arr[off]? =some v:=by
   rw[<-Array.getElem?_toList,he,<-bI,getElem?_append_right (Nat.le_refl _)];simp
  refine⟨v,?_,h4 ad,?_⟩
  .simp[part,Mk bP kl.1,hg]
  .cases d<;>first|exact ad|exact(kl.2.1 _ rfl).elim|exact(kl.2.2 _ rfl).elim
theorem acE (bP:C.fH) (h:cb w0 F0 X F S s aI w) {T:TypeId} {x:I} {v:Value} (aJ:aO w F s aI x v (λ_=>False)) (he:fS C s T x=some av):
  Good C w0 F0 X aI w (Instr.loadAt T v) av s:=by
 unfold fS at he;split at he
 .rename_i d;split at he
  .rename_i kk;simp only[some.injEq]at he;subst he;have o7:=(aO.dh rfl).1 aJ;rw[aB,h4 o7.1]at o7;obtain⟨ab,b,o,fo,ad,af,aG,bf⟩:=o7;simp only[cons.injEq,and_true]at ad;subst ad;obtain⟨hq,aQ,ar,oE⟩:=HX bP aG bf kk;have fw:(Instr.loadAt T (.pointer (some ⟨b,o,none⟩))).run C.P w= .ok hq w:=by simp[Instr.loadAt,Instr.sureAddr,aQ]
   refine⟨hq,w,F,S,fw,h,?_⟩;by_cases ba:d.tree=true
   .exact .inr ⟨ba,oE,λ_=>False,by rw[ar];exact bf,λ_ h=>h.elim,λ_ h=>h.elim,λ_ _ h=>h.elim,λ_ h=>h.elim⟩
   .cases d<;>first|exact(ba rfl).elim|(rw[aB]at bf;exact bf.elim)|exact .inl ⟨rfl,by rw[aO];trivial⟩|(have bU:=bf;rw[aB]at bU;obtain⟨arr,e,_⟩:=bU;rw[<-ar]at e bf;rw[h4 (by exact oE)]at bf;exact .inl ⟨rfl,aO.tE _ _ rfl bf⟩)
  .cases he
 .rename_i y k;split at he
  .rename_i ds qe;split at he
   .cases he
   .rename_i D0;split at he
    .rename_i i aj;split at he
     .rename_i d an;split at he
      .rename_i kk;simp only[some.injEq]at he;have fI:(s y).plain=false:=by rw[qe];simp only[I.plain];simpa using D0
       rw[aO]at aJ;obtain⟨b,cur,e,fr,rfl,af,aG,bf⟩:=aJ fI;have hy:=h.el y;rw[qe]at hy;have TN:=((aO.dh rfl).1 hy).2;rw[aB]at TN;obtain⟨cr,ha,c2,cI,jw,iC,jj,gT,iO,j2,ho,o4⟩:=bt.pick ds _ _ i d TN an;have ml:jv w b k ha:=by
        intro j c bF;have eI:j<ha.length:=(List.getElem?_eq_some_iff.1 bF).1;have:cur.toList[k+j]? =some c:=by
         rw[bf,iC,getElem?_append_right (by omega),getElem?_append_left (by omega),<-bF];congr 1;omega
        simp[World.cell?,aG];simpa using this
       obtain⟨hq,aQ,ar,oE⟩:=HX bP ml ho kk.2;have fw:(Instr.loadAt T (.pointer (some ⟨b,k,none⟩))).run C.P w= .ok hq w:=by simp[Instr.loadAt,Instr.sureAddr,aQ]
       refine⟨hq,w,F,S,fw,h,?_⟩;split at he
       .rename_i ax;subst he;by_cases ba:d.tree=true
        .exact .inl ⟨ax,(aO.dh ba).2 ⟨oE,by rw[ar];exact aB.plain _ _ _ _ ax ho⟩⟩
        .cases d<;>first|exact(ba rfl).elim|(rw[aB]at ho;exact ho.elim)|exact .inl ⟨rfl,by rw[aO];trivial⟩|(have bU:=aB.plain _ _ _ (λ_=>False) ax ho;rw[<-ar]at bU;rw[h4 (by exact oE)]at bU;exact .inl ⟨rfl,aO.tE _ _ rfl bU⟩)
       .subst he;refine .inl ⟨rfl,?_⟩;rw[aO];intro d2 hx _;rw[qe]at hx⊢;simp only[I.sub,an,some.injEq]at hx;subst hx;refine⟨ha,none,?_,ar,oE⟩;simp only[et,an];rw[iC,yt cr ha c2 _ _ jj (aB.length _ _ _ ho)];rfl
      .cases he
     .cases he
    .cases he
  .cases he
 .rename_i x _ _;split at he
  .rename_i y q hl;split at he
   .rename_i d an;split at he
    .rename_i kk;simp only[some.injEq]at he;obtain⟨sb,dx,b,o,rfl,nf⟩:=Mg h aJ hl an;have hy:=h.el y;rw[aO.dh (jy an (.inr sb))]at hy;obtain⟨hb,dt,fi,gp,k0,bS,ct,dT,ed,eQ⟩:=ctx q (s y) (cT (aI y)) (S y) none _ hy.2 an;rw[k0]at nf;simp only[some.injEq,Prod.mk.injEq,true_and]at nf;obtain⟨rfl,rfl⟩:=nf;have ml:jv w b o hb:=by
      rcases eQ with⟨l,r,aP,aY,_⟩|⟨gL,cur,e,fr,l,r,aP,aY,aU,b4,cM,_⟩
      .simp at aY
      .simp only[some.injEq,Prod.mk.injEq]at aP;obtain⟨rfl,rfl⟩:=aP;intro j c bF;have eI:j<hb.length:=(List.getElem?_eq_some_iff.1 bF).1;have:cur.toList[l.length+j]? =some c:=by
        rw[cM,getElem?_append_right (by omega),getElem?_append_left (by omega),<-bF];congr 1;omega
       simp[World.cell?,aU];simpa using this
     obtain⟨hq,aQ,ar,oE⟩:=HX bP ml ed kk;have fw:(Instr.loadAt T (.pointer (some ⟨b,o,none⟩))).run C.P w= .ok hq w:=by simp[Instr.loadAt,Instr.sureAddr,aQ]
     refine⟨hq,w,F,S,fw,h,?_⟩;split at he
     .rename_i ax;subst he;by_cases ba:d.tree=true
      .exact .inl ⟨ax,(aO.dh ba).2 ⟨oE,by rw[ar];exact aB.plain _ _ _ _ ax ed⟩⟩
      .cases d<;>first|exact(ba rfl).elim|(rw[aB]at ed;exact ed.elim)|exact .inl ⟨rfl,by rw[aO];trivial⟩|(have bU:=aB.plain _ _ _ (λ_=>False) ax ed;rw[<-ar]at bU;rw[h4 (by exact oE)]at bU;exact .inl ⟨rfl,aO.tE _ _ rfl bU⟩)
     .subst he;refine .inl ⟨rfl,?_⟩;rw[aO];intro d2 hx _;rw[an]at hx;simp only[some.injEq]at hx;subst hx;exact⟨_,_,k0,ar,oE⟩
    .cases he
   .cases he
  .cases he
mutual
theorem aB.yB {F:Nat->Prop}:∀(d:I) (cs:ayi) (S:Nat->Prop),aB w F d cs S->∀c∈cs,Value.hF c=true
 | .hole,cs,S,h=>by rw[aB]at h;obtain⟨v,h,rfl⟩:=h;simpa using h
 | .bool _,cs,S,h=>by rw[aB]at h;subst h;simp[Value.hF]
 | .gn,cs,S,h=>by rw[aB]at h;obtain⟨b,rfl⟩:=h;simp[Value.hF]
 | .int _ _,cs,S,h=>by rw[aB]at h;subst h;simp[Value.hF]
 | .str _,cs,S,h=>by rw[aB]at h;subst h;simp[Value.hF]
 | .er,cs,S,h=>by rw[aB]at h;subst h;simp[Value.hF]
 | .bg,cs,S,h=>by rw[aB]at h;subst h;simp[Value.hF]
 | .slice xs,cs,S,h=>by
   rw[aB]at h;rcases h with⟨_,a,c,rfl,_⟩|⟨b,o,cap,fo,sz,rfl,_⟩<;>simp[Value.hF]
 | .ag sz xs,cs,S,h=>by
   rw[aB]at h;rcases h with⟨_,_,rfl⟩|⟨b,cap,cur,e,fr,a7,rfl,_⟩<;>simp[Value.hF]
 | .ref d,cs,S,h=>by rw[aB]at h;obtain⟨b,o,fo,rfl,_⟩:=h;simp[Value.hF]
 | .aS d,cs,S,h=>by rw[aB]at h;obtain⟨b,o,fo,_,_,rfl,_⟩:=h;simp[Value.hF]
 | .agg aF,cs,S,h=>by rw[aB]at h;exact bt.yB aF _ _ h
 | .tuple aF,cs,S,h=>by rw[aB]at h;exact bt.yB aF _ _ h
 | .fn _ _,cs,S,h=>by rw[aB]at h;obtain⟨arr,rfl,_⟩:=h;simp[Value.hF]
 | .h _ _,cs,S,h=>by rw[aB]at h;exact h.elim
 | .ax _ _,cs,S,h=>by rw[aB]at h;exact h.elim
 | .aa _ _,cs,S,h=>by rw[aB]at h;exact h.elim
 | .cc _,cs,S,h=>by rw[aB]at h;obtain⟨v,iN,rfl⟩:=oz.one h;simpa using iN
theorem bt.yB {F:Nat->Prop}:∀(ds:ayk) (cs:ayi) (S:Nat->Prop),bt w F ds cs S->∀c∈cs,Value.hF c=true
 |[],cs,S,h=>by rw[bt]at h;subst h;simp
 |d::ds,cs,S,h=>by
  rw[bt]at h;obtain⟨cr,c2,cI,eF,rfl,af,aG,_⟩:=h;intro c ar;rcases mem_append.1 ar with ar|ar
  .exact aB.yB d _ _ af c ar
  .exact bt.yB ds _ _ aG c ar
end
theorem HY {P:Program} {b o:Nat} {e:TypeId} {fr:Nat×Nat}:∀(vs:ayi) (i:Nat) (cur:Array Value) (w:World) (l m r:ayi),w.heap[b]? =some (.cells cur e fr)->pF fr cur.size->
  cur.toList=l++(m++r)->l.length=o+i->m.length=vs.length->(∀v∈vs,Value.hF v=true)->
  ∃aN,(storeCells ⟨b,o,none⟩ vs i).run P w= .ok () aN/\aN.heap[b]? =some (.cells (l++(vs++r)).toArray e fr)/\(∀c,c≠b->aN.heap[c]? =w.heap[c]?)/\aN.heap.size=w.heap.size/\aN.os=w.os/\aN.tape=w.tape/\Out aN w
 |[],i,cur,w,l,m,r,aa,bD,ar,hl,hm,_=>by
  refine⟨w,rfl,?_,λ_ _=>rfl,rfl,rfl,rfl,Out.refl _⟩;have:m=[]:=by simpa using hm
  subst this;rw[aa];have:cur=(l++([]++r)).toArray:=by rw[<-ar]
  rw[<-this]
 |v::vs,i,cur,w,l,m,r,aa,bD,ar,hl,hm,HZ=>by
  obtain⟨x,m,rfl⟩:∃x jG,m=x::jG:=by cases m with
   |nil=>simp at hm
   |cons x m=>exact⟨x,m,rfl⟩
  have hlen:cur.size=(l++(x::m++r)).length:=by rw[<-ar];simp
  have eI:o+i<cur.size:=by rw[hlen];simp;omega
  have H0:w.cell? ⟨b,o+i,none⟩=some cur[o+i]:=by simp[World.cell?,aa,eI]
  have acF:w.frozen? ⟨b,o+i,none⟩=false:=by
   have:=bD (o+i) eI;simp only[World.frozen?,aa];simp only[Bool.and_eq_false_iff,decide_eq_false_iff_not];by_cases ad:fr.1<=o+i
   .right;exact λaf=>this ⟨ad,af⟩
   .left;exact ad
  have w3:(w.setCell ⟨b,o+i,none⟩ v).heap[b]? =some (.cells ((l++[v])++(m++r)).toArray e fr):=by
   simp only[World.setCell,Array.getElem?_modify,if_true,aa,map_some,isSome_none,Bool.false_eq_true,if_false];congr 2;apply Array.ext';rw[Array.toList_setIfInBounds,ar,<-hl,set_append_right _ _ (Nat.le_refl _)];simp
  have yC:(store ((⟨b,o,none⟩:Addr).add i) v).run P w= .ok () (w.setCell ⟨b,o+i,none⟩ v):=by
   have ad:=HZ v (by simp);rw[Addr.add_lit];cases v<;>first|(simp[Value.hF]at ad;done)|simp[Go.store,Sem.run,H0,acF]
  obtain⟨aN,g1,g2,g3,g4,g5,g6,g7⟩:=HY (P:=P) (b:=b) (o:=o) vs (i+1) _ (w.setCell ⟨b,o+i,none⟩ v) (l++[v]) m r w3 (by
   have:(l++[v]++(m++r)).toArray.size=cur.size:=by rw[hlen];simp
   rw[this];exact bD) (by simp) (by simp;omega) (by simpa using hm) (λu hu=>HZ u (by simp[hu]))
  refine⟨aN,?_,by simpa using g2,λc ar=>?_,?_,g5,g6,g7⟩
  .simp only[storeCells,Sem.run_bind,yC,Result.andThen];exact g1
  .rw[g3 c ar];simp only[World.setCell,Array.getElem?_modify];rw[if_neg (λe=>ar e.symm)]
  .rw[g4];simp[World.setCell]
theorem D1 {d:I} {v:Value} (h:eY d v) (an:∀aF,d≠.tuple aF):v.cells=(cT v).toArray:=by
 cases d with
 |tuple aF=>exact(an _ rfl).elim
 |agg aF=>obtain⟨arr,rfl⟩:=h;simp[Value.cells,cT,jx]
 |_=>
  have ad:Value.hF v=true:=h;rw[h4 ad];cases v<;>first|rfl|(simp[Value.hF]at ad)
def kR (C:cm) (s:ak) (T:TypeId) (x y:I):Option ak:=
 match dG s y,loc s x with
 |some (d,s1),some (z,q)=>match d with
  | .tuple _=>none
  |d=>match I.sub q (s z)with
   |some d0=>if d.wd=d0.wd/\d.wd=(C.T T).sz/\(C.T T).ok=true/\y.owner≠some z then some (ei (jk z s1) z (I.put q d (s z)))else none
   |none=>none
 |_,_=>none
theorem acG {s s1:ak} {y d:I} {z:Nat} (h:dG s y=some (d,s1)) (b8:(s z).tree=true) (hy:y.owner≠some z):s1 z=s z:=by
 cases y with
 |h x q=>
  simp only[dG]at h;split at h
  .split at h
   .cases h
   .simp only[some.injEq,Prod.mk.injEq]at h;obtain⟨_,rfl⟩:=h;rw[lb _ _ (λe=>hy (by rw[I.owner,e]))];exact L5 b8
  .cases h
 |ax x q=>simp[dG]at h
 |aa x q=>simp[dG]at h
 |fn f c=>simp[dG]at h
 |hole=>simp[dG]at h
 |_=>simp only[dG,some.injEq,Prod.mk.injEq]at h;rw[h.2]
theorem acH (bP:C.fH) (h:cb w0 F0 X F S s aI w) {T:TypeId} {x y:I} {km lI:Value} (Ml:aO w F s aI x km (λ_=>False)) (hy:y.plain=true) (acI:aO w F s aI y lI (λ_=>False))
  {s2:ak} (he:kR C s T x y=some s2):
  ∃aN a7,(Instr.storeAt T km lI).run C.P w= .ok () aN/\cb w0 F0 X F a7 s2 aI aN:=by
 unfold kR at he;split at he
 .rename_i d s1 z q ba hl;have key:∀d:I,(∀aF,d≠.tuple aF)->dG s y=some (d,s1)->(match I.sub q (s z)with
   |some d0=>if d.wd=d0.wd/\d.wd=(C.T T).sz/\(C.T T).ok=true/\y.owner≠some z then some (ei (jk z s1) z (I.put q d (s z)))else none
   |none=>none)=some s2->∃aN a7,(Instr.storeAt T km lI).run C.P w= .ok () aN/\cb w0 F0 X F a7 s2 aI aN:=by
   intro d vd ba he;split at he
   .rename_i d0 nB;split at he
    .rename_i D2;obtain⟨ad,af,aG,bf⟩:=D2;simp only[some.injEq]at he;subst he;obtain⟨sb,dx,b,o,rfl,nf⟩:=Mg h Ml hl nB;obtain⟨cI,g0,g1,g2,Sn,g3,g4,g5,g6,g7,g8⟩:=r_ h hy acI ba;have fj:s1 z=s z:=acG ba (jy nB (.inr sb)) bf;rw[<-fj]at nB sb nf⊢;obtain⟨hb,gL,l,r,cur,e,fr,k0,bS,ct,dT,ed⟩:=g0.store nB sb g3 ad g4 g5 g6 g7;rw[nf]at k0;simp only[some.injEq,Prod.mk.injEq,true_and]at k0;obtain⟨rfl,rfl,rfl⟩:=k0;obtain⟨i,d,vc,aP,aY,aU,b4,cM,cl,b9⟩:=bP.info aG;have hlen:=aB.length _ _ _ g3;have hm:dx.length=(cT lI).length:=by
      have TO:=g0.el z;rw[aO.dh (jy nB (.inr sb))]at TO;obtain⟨_,_,_,_,c0,_,_,_,c4,_⟩:=ctx q (s1 z) (cT (aI z)) (cI z) none _ TO.2 nB;rw[nf]at c0;simp only[some.injEq,Prod.mk.injEq,true_and]at c0;rw[c0.1,aB.length _ _ _ c4,hlen,ad]
     obtain⟨aN,m1,m2,m3,m4,m5,m6,m7⟩:=HY (P:=C.P) (b:=b) (o:=l.length) (e:=e) (fr:=fr) (cT lI) 0 cur w l dx r bS dT ct rfl hm (aB.yB _ _ _ g3);obtain⟨a7,eQ⟩:=ed aN m2 m3 m4 m5 m6 m7;refine⟨aN,a7,?_,eQ⟩;have sc:=D1 g2 vd;simp[Instr.storeAt,Instr.sureAddr,storeVar,nh aP,aY,sc,hlen,af,m1]
    .cases he
   .cases he
  split at he
  .cases he
  .rename_i vd;exact key _ (λaF e=>vd aF e) ba he
 .cases he
theorem cb.alloc (h:cb w0 F0 X F S s aI w) {d:I} {cs:ayi} {Sn:Nat->Prop} (e:TypeId) (aJ:aB w F d cs Sn)
  (eI:∀b,Sn b->b<w.heap.size) (bE:∀b,Sn b->¬F b) (cj:∀u b,Sn b->¬S u b) (a_:∀b,Sn b->X b\/w0.heap.size<=b):
  cb w0 F0 X F S s aI (w.alloc (.cells cs.toArray e))/\
   n1 w0 X F S s aI (w.alloc (.cells cs.toArray e)) (.aS d) (.pointer (some ⟨w.heap.size,0,none⟩)):=by
 have hold:∀b,b<w.heap.size->(w.alloc (.cells cs.toArray e)).heap[b]? =w.heap[b]? :=by
  intro b aa;show(w.heap.push _)[b]? =_;rw[Array.getElem?_push,if_neg (by omega)]
 refine⟨h.grow hold (by simp) rfl rfl ⟨rfl,λ_=>Nat.le_refl _⟩,.inr ⟨rfl,rfl,λb=>b=w.heap.size\/Sn b,?_,?_,?_,?_,?_⟩⟩
 .rw[aB];refine⟨w.heap.size,cs.toArray,e,(0,0),Sn,rfl,.inl rfl,?_,?_,?_,λc ar=>.inr ar,λar=>Nat.lt_irrefl _ (eI _ ar)⟩
  .show(w.heap.push _)[_]? =_;simp
  .intro o _ ⟨_,af⟩;exact absurd af (not_lt_zero _)
  .exact aB.frame (λb aa=>hold b (h.f_ b aa)) _ _ _ (λb aa=>hold b (eI b aa)) aJ
 .rintro b (rfl|aa)
  .simp
  .have:=eI b aa;simp;omega
 .rintro b (rfl|aa) ve
  .exact Nat.lt_irrefl _ (h.f_ _ ve)
  .exact bE b aa ve
 .rintro u b (rfl|aa) hu
  .exact Nat.lt_irrefl _ (h.fz _ _ hu)
  .exact cj u b aa hu
 .rintro b (rfl|aa)
  .exact .inr h.size
  .exact a_ b aa
def mL (C:cm) (T:TypeId):Option I:=if(C.T T).ok=true then(match(C.T T).k,(C.T T).zero with
    | .gz e,.agg [.er,.bg]=>some (.cc (.jF T e []))
    | .gz _,_=>none
    |_,z=>(match flat z with|some _=>some (.aS z)|none=>none))else none
theorem acJ (bP:C.fH) (h:cb w0 F0 X F S s aI w) {T:TypeId} (he:mL C T=some av):Good C w0 F0 X aI w (Instr.alloc T true (.tuple #[])) av s:=by
 unfold mL at he;split at he
 .rename_i au;split at he
  .rename_i av9 av_ yD;simp only[some.injEq]at he;subst he;obtain⟨i,d,z,aP,aY,aU,b4,cM,cl,b9⟩:=bP.info au;have b8:=cM [.pointer none,.slice none 0 0] (by rw[yD];rfl);have hold:∀b,b<w.heap.size->(w.alloc (.cells #[.pointer none,.slice none 0 0] T)).heap[b]? =w.heap[b]? :=by
    intro b aa;show(w.heap.push _)[b]? =_;rw[Array.getElem?_push,if_neg (by omega)]
   refine⟨.pointer (some ⟨w.heap.size,0,none⟩),w.alloc (.cells #[.pointer none,.slice none 0 0] T),F,S,?_,h.grow hold (by simp) rfl rfl ⟨rfl,λ_=>Nat.le_refl _⟩,.inr ⟨rfl,rfl,λb=>b=w.heap.size,?_,?_,?_,?_,?_⟩⟩
   .simp[Instr.alloc,yA aP b4,newVar,newRow,newObj,Sem.run,b8]
   .rw[aB];refine⟨w.heap.size,.pointer none,.slice none 0 0,rfl,rfl,?_,.inl rfl,.inl ⟨rfl,rfl⟩⟩;show(w.heap.push _)[_]? =_;simp
   .rintro b rfl;simp
   .rintro b rfl ve;exact Nat.lt_irrefl _ (h.f_ _ ve)
   .rintro u b rfl hu;exact Nat.lt_irrefl _ (h.fz _ _ hu)
   .rintro b rfl;exact .inr h.size
  .cases he
  split at he
  .rename_i cs iC;simp only[some.injEq]at he;subst he;obtain⟨i,d,z,aP,aY,aU,b4,cM,cl,b9⟩:=bP.info au;have b8:=cM cs iC;obtain⟨eh,bc⟩:=h.alloc (d:=(C.T T).zero) T ((aB.flat _).1 _ cs (λ_=>False) (Nat.le_refl _) iC) (λ_ h=>h.elim) (λ_ h=>h.elim) (λ_ _ h=>h.elim) (λ_ h=>h.elim);refine⟨_,_,F,S,?_,eh,bc⟩;simp[Instr.alloc,yA aP b4,newVar,newRow,newObj,Sem.run,b8]
  .cases he
 .cases he
def ij (s:ak) (x:I):Option (I×ak):=match dG s x with
 |some (.tuple _,_)=>none
 |some (d,s1)=>some (.aS d,s1)
 |none=>none
def l0 (s:ak) (x:I):Option (I×ak):=match x with
 | .h y q=>match q,s y with
   |[],.agg ds=>if I.e5 ds then none else some (.aa y 0,s)
   |_,_=>none
 | .fn f caps=>if caps.all (λd=>d.single&&(d.tree&&d.plain))=true then some (.ref (.fn f caps),s)else none
 |_=>none
theorem bt.TP {w:World} {F ch:Nat->Prop} {s:ak} {aI:Nat->Value} (bE:∀b,F b->ch b):∀(ds:ayk) (vs:ayi),(∀d∈ds,d.single=true/\d.tree=true/\d.plain=true)->e_ w F s aI ds vs->bt w ch ds vs (λ_=>False)
 |[],vs,_,h=>by rw[e_]at h;rw[bt];exact h
 |d::ds,vs,ab,h=>by
  rw[e_]at h;obtain⟨v,lY,rfl,ad,af⟩:=h;obtain⟨d1,d2,d3⟩:=ab d (by simp);have aG:=(aO.dh d2).1 ad;have bI:Value.hF v=true:=by
   have:=aG.1;cases d<;>first|exact this|cases d1
  have bf:=aG.2;rw[h4 bI]at bf;rw[bt];exact⟨[v],lY,λ_=>False,λ_=>False,rfl,aB.mono bE _ _ _ _ (λ_ h=>h) bf,bt.TP bE ds lY (λx ao=>ab x (by simp[ao])) af,λ_ h=>h,λ_ h=>h,λ_ h=>h.elim⟩
theorem acK {T:TypeId} {v:Value} (h:cb w0 F0 X F S s aI w):cb w0 F0 X (λb=>F b\/b=w.heap.size) S s aI (w.alloc (.cells (cT v).toArray T)):=by
 have hold:∀b,b<w.heap.size->(w.alloc (.cells (cT v).toArray T)).heap[b]? =w.heap[b]? :=by
  intro b aa;show(w.heap.push _)[b]? =_;rw[Array.getElem?_push,if_neg (by omega)]
 have ad:=h.grow hold (by simp) rfl rfl ⟨rfl,λ_=>Nat.le_refl _⟩;exact {
  h3:=λb aa=>.inl (ad.h3 b aa)
  iB:=λb aa=>by
   rcases aa with aa|rfl
   .exact ad.iB b aa
   .exact .inr (.inr h.size)
  f_:=λb aa=>by
   rcases aa with aa|rfl
   .exact ad.f_ b aa
   .simp
  fz:=ad.fz
  gD:=λt b aa bD=>by
   rcases bD with bD|rfl
   .exact ad.gD t b aa bD
   .exact absurd (h.fz t _ aa) (Nat.lt_irrefl _)
  ga:=ad.ga
  eU:=ad.eU
  el:=λt=>aO.frame (λ_ _=>rfl) (λb aa=>.inl aa) (λ_ _ _=>rfl) ad.el _ _ _ (λ_ _=>rfl) (ad.el t)
  old:=ad.old
  size:=ad.size
  os:=ad.os
  tape:=ad.tape
  output:=ad.output
  gq:=h.gq}
theorem acL (h:cb w0 F0 X F S s aI w) {T:TypeId} {x:I} {v:Value} (aJ:aO w F s aI x v (λ_=>False)) (he:l0 s x=some (av,s1)):
  Good C w0 F0 X aI w (Instr.box T v) av s1:=by
 unfold l0 at he;split at he
 .rename_i y q;split at he
  .rename_i ds qe;split at he
   .cases he
   .rename_i D0;simp only[some.injEq,Prod.mk.injEq]at he;obtain⟨rfl,rfl⟩:=he;rw[aO]at aJ;obtain⟨dx,a,g1,g2,g3⟩:=aJ (s y) (by simp only[I.sub]) (by rw[qe];simp only[I.plain];simpa using D0);simp only[et,some.injEq,Prod.mk.injEq,true_and]at g1;rw[qe]at g3;have sc:=D1 g3 (λaF e=>by cases e);have hold:∀b,b<w.heap.size->(w.alloc (.cells (cT v).toArray T)).heap[b]? =w.heap[b]? :=by
     intro b aa;show(w.heap.push _)[b]? =_;rw[Array.getElem?_push,if_neg (by omega)]
    refine⟨.pointer (some ⟨w.heap.size,0,none⟩),w.alloc (.cells (cT v).toArray T),λb=>F b\/b=w.heap.size,S,by simp[Instr.box,newVar,newRow,newObj,Sem.run,sc],?_,.inl ⟨rfl,?_⟩⟩
    .have ad:=h.grow hold (by simp) rfl rfl ⟨rfl,λ_=>Nat.le_refl _⟩;exact {
      h3:=λb aa=>.inl (ad.h3 b aa)
      iB:=λb aa=>by
       rcases aa with aa|rfl
       .exact ad.iB b aa
       .exact .inr (.inr h.size)
      f_:=λb aa=>by
       rcases aa with aa|rfl
       .exact ad.f_ b aa
       .simp
      fz:=ad.fz
      gD:=λt b aa bD=>by
       rcases bD with bD|rfl
       .exact ad.gD t b aa bD
       .exact absurd (h.fz t _ aa) (Nat.lt_irrefl _)
      ga:=ad.ga
      eU:=ad.eU
      el:=λt=>aO.frame (λ_ _=>rfl) (λb aa=>.inl aa) (λ_ _ _=>rfl) ad.el _ _ _ (λ_ _=>rfl) (ad.el t)
      old:=ad.old
      size:=ad.size
      os:=ad.os
      tape:=ad.tape
      output:=ad.output
      gq:=h.gq}
    .rw[aO];intro _;refine⟨w.heap.size,(cT v).toArray,T,(0,0),rfl,.inr rfl,?_,?_⟩
     .show(w.heap.push _)[_]? =_;simp
     .rw[g1.1,<-g2]
  .cases he
 .rename_i f caps;split at he
  .rename_i ar;simp only[some.injEq,Prod.mk.injEq]at he;obtain⟨rfl,rfl⟩:=he;have iC:∀d∈caps,d.single=true/\d.tree=true/\d.plain=true:=λd an=>by
    have:=List.all_eq_true.1 ar d an;simpa only[Bool.and_eq_true]using this
   rw[aO]at aJ;obtain⟨arr,rfl,aJ⟩:=aJ;have sc:=D1 (d:=.fn f caps) (v:=.func (.func f) #[] arr) rfl (λaF e=>by cases e);have hg:=acK (T:=T) (v:=.func (.func f) #[] arr) h;refine⟨.pointer (some ⟨w.heap.size,0,none⟩),w.alloc (.cells (cT (.func (.func f) #[] arr)).toArray T),λb=>F b\/b=w.heap.size,S,by simp[Instr.box,newVar,newRow,newObj,Sem.run,sc],hg,.inl ⟨rfl,?_⟩⟩;refine(aO.dh rfl).2 ⟨rfl,?_⟩;rw[aB];refine⟨w.heap.size,0,[.func (.func f) #[] arr],rfl,.inr rfl,?_,?_⟩
   .have kj:(w.alloc (.cells (cT (.func (.func f) #[] arr)).toArray T)).heap[w.heap.size]? =some (.cells (cT (.func (.func f) #[] arr)).toArray T (0,0)):=by
     show(w.heap.push _)[_]? =_;simp
    intro j c bF;cases j with
    |zero=>
     simp only[getElem?_cons_zero,some.injEq]at bF;subst bF;have e:cT (.func (.func f) #[] arr)=[.func (.func f) #[] arr]:=h4 rfl;unfold World.cell?;show(match(w.alloc (.cells (cT (.func (.func f) #[] arr)).toArray T)).heap[w.heap.size]? with
      |some (.cells c _ _)=>c[0+0]?
      |_=>none)=_
     rw[kj,e];rfl
    |succ j=>simp at bF
   .rw[aB];refine⟨arr,rfl,λd an=>(iC d an).1,?_⟩;have bU:=bt.TP (ch:=F) (λb aa=>aa) caps arr.toList iC aJ;refine bt.mono (F:=F) (λb aa=>.inl aa) caps _ _ _ (λ_ h=>h) (bt.frame (λb aa=>?_) caps _ _ (λ_ h=>h.elim) bU);have eI:=h.f_ b aa;show(w.heap.push _)[b]? =_;rw[Array.getElem?_push,if_neg (by omega)]
  .cases he
 .cases he
theorem acM (h:cb w0 F0 X F S s aI w) {T:TypeId} {x:I} {v:Value} (ao:x.plain=true) (aJ:aO w F s aI x v (λ_=>False)) (he:ij s x=some (av,s1)):
  Good C w0 F0 X aI w (Instr.box T v) av s1:=by
 unfold ij at he;split at he
 .cases he
 .rename_i d s2 vd ba;simp only[some.injEq,Prod.mk.injEq]at he;obtain⟨rfl,rfl⟩:=he;obtain⟨cI,g0,g1,g2,Sn,g3,g4,g5,g6,g7,g8⟩:=r_ h ao aJ ba;obtain⟨eh,bc⟩:=g0.alloc T g3 g4 g5 g6 g7;refine⟨_,_,F,cI,?_,eh,bc⟩;have sc:=D1 g2 (λaF e=>vd aF e);simp[Instr.box,newVar,newRow,newObj,Sem.run,sc]
 .cases he
end
end Go.eg
