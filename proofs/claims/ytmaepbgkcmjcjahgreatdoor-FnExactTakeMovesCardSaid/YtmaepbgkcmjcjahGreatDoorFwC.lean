/- Part of a proof that a law returns true for every input. No condition. -/
import Derived.Test.YtmaepbgkcmjcjahGreatDoorFwB
import Derived.Laws.Entries
namespace Go.ei
open List Option Go.IntKind Nat Or
inductive qE where
 |int (k:IntKind)
 |bool
 |str
 |ptr (e:TypeId)
 |slice (e:TypeId)
 |struct (aG:List (TypeId×Nat))
 |fn
 |gH (e:TypeId)
 |map (k e:TypeId)
 |other
structure hP where
 k:qE
 sz:Nat
 bytes:Nat
 zero:I
mutual
def flat:I->Option azi
 | .bool b=>some [.bool b]
 | .int k n=>some [.int k n]
 | .str s=>some [.string ⟨⟨s⟩⟩]
 | .ez=>some [.pointer none]
 | .bd=>some [.slice none 0 0]
 | .agg aG=>vM aG
 | .ck .ky=>some [.map none]
 |_=>none
def vM:azk->Option azi
 |[]=>some []
 |d::ds=>match flat d,vM ds with
  |some a,some b=>some (a++b)
  |_,_=>none
end
theorem az.flat {w:World} {F:Nat->Prop}:∀n,(∀(d:I) (cs:azi) (S:Nat->Prop),SizeOf.sizeOf d<=n->flat d=some cs->az w F d cs S)/\
  (∀(ds:azk) (cs:azi) (S:Nat->Prop),SizeOf.sizeOf ds<=n->vM ds=some cs->bA w F ds cs S):=by
 intro n;induction n with
 |zero=>exact⟨λd _ _ cf=>by cases d<;>simp at cf<;>omega,λds _ _ cf=>by cases ds<;>simp at cf<;>omega⟩
 |succ n ih=>
  refine⟨λd cs S cf h=>?_,λds cs S cf h=>?_⟩
  .cases d with
   |agg aG=>rw[az];exact ih.2 aG cs S (by simp at cf;omega) (by simpa [ei.flat]using h)
   |bool b=>simp[ei.flat]at h;subst h;rw[az]
   |int k n=>simp[ei.flat]at h;subst h;rw[az]
   |str s=>simp[ei.flat]at h;subst h;rw[az]
   |ez=>simp[ei.flat]at h;subst h;rw[az]
   |bd=>simp[ei.flat]at h;subst h;rw[az]
   |ck o=>cases o<;>simp[ei.flat]at h;subst h;rw[az];rfl
   |_=>simp[ei.flat]at h
  .cases ds with
   |nil=>simp[vM]at h;subst h;rw[bA]
   |cons d ds=>
    simp only[vM]at h;split at h
    .rename_i a b bo ab;simp at h;subst h;simp at cf;rw[bA];exact⟨a,b,λ_=>False,λ_=>False,rfl,ih.1 d a _ (by omega) bo,ih.2 ds b _ (by omega) ab,λ_ h=>h.elim,λ_ h=>h.elim,λ_ h=>h.elim⟩
    .cases h
def og:qE->TypeDesc->Prop
 | .int k,.int dv=>k=dv
 | .bool,.bool=>True
 | .str,.string=>True
 | .ptr e,.pointer hs=>e=hs
 | .slice e,.slice hs=>e=hs
 | .struct aG,.struct gs=>gs.toList.map (λg=>(g.type,g.offset))=aG
 | .fn,.func _ _ _=>True
 | .gH _,.struct _=>True
 | .map k e,.map dv hs=>k=dv/\e=hs
 |_,_=>False
def Uy (P:Program) (t:TypeId) (x:hP):Prop:=
 (∃e n b z,x=⟨.other,e,n,b⟩/\z=0)\/
 ∃i d z,P.info? t=some i/\i.size=x.sz/\i.bytes=x.bytes/\i.zero=some z/\(∀cs,flat x.zero=some cs->z.cells=cs.toArray)/\P.underlying t=some d/\og x.k d
structure cy where
 P:Program
 T:TypeId->hP
 M:FuncId->List Bool
structure cy.fK (C:cy):Prop where
 ty:∀t,Uy C.P t (C.T t)
 mixed:C.P.follows .mixedOrders=true
inductive bB where
 |t (n:Nat)
 |c (av:I)
 |f (g:FuncId)
def IE:Value->Option I
 | .bool b=>some (.bool b)
 | .int k n=>some (.int k n)
 | .string s=>some (.str s.data.toList)
 | .pointer none=>some .ez
 | .slice none 0 0=>some .bd
 |_=>none
def eK:Operand->Option bB
 | .tmp n=>some (.t n)
 | .const v=>(IE v).map .c
 | .func g=>some (.f g)
 | .global _=>none
def uh (x:Nat) (d:I):I:=if d.plain then d else .h x []
def bx (s:al):bB->I
 | .t n=>uh n (s n)
 | .c av=>av
 | .f g=>.fn g []
theorem aQ.nothing {w:World} {F:Nat->Prop} {s:al} {aH:Nat->Value} {d:I} {v:Value} {S a_:Nat->Prop} (ax:d.plain=true) (h:aQ w F s aH d v S):aQ w F s aH d v a_:=by
 cases d<;>first
  |(rw[aQ];trivial)
  |(rw[aQ]at h⊢;exact h)
  |(have bF:=(aQ.dx rfl).1 h;exact(aQ.dx rfl).2 ⟨bF.1,az.plain _ _ _ _ ax bF.2⟩)
section
variable {w0 w:World} {F0 X F:Nat->Prop} {S:Nat->Nat->Prop} {s:al} {aH:Nat->Value} {a:Act}
theorem Uz (s:al) (x:bB) (au:∀av,x= .c av->av.plain=true):(bx s x).plain=true:=by
 cases x with
 |t n=>simp only[bx,uh];split<;>first|assumption|rfl
 |c av=>exact au _ rfl
 |f g=>rfl
theorem MS {v:Value} {av:I} (h:IE v=some av):av.plain=true:=by
 unfold IE at h;split at h<;>simp at h<;>subst h<;>rfl
theorem gy (h:cj w0 F0 X F S s aH w) (ff:∀t,aH t=a.tmps.getD t undef) {o:Operand} {x:bB} (bO:eK o=some x):
  (bx s x).plain=true/\aQ w F s aH (bx s x) (a.eval o) (λ_=>False):=by
 cases o with
 |tmp n=>
  simp[eK]at bO;subst bO;simp only[bx,uh,Act.eval,<-ff];split
  .rename_i ax;exact⟨ax,aQ.nothing ax (h.eu n)⟩
  .rename_i ax;refine⟨rfl,?_⟩;rw[aQ];intro d ao MT;simp only[I.sub,some.injEq]at ao;subst ao;have bb:=jG (q:=[]) rfl (.inl MT);exact⟨_,none,rfl,rfl,((aQ.dx bb).1 (h.eu n)).1⟩
 |const v=>
  simp only[eK,map_eq_some_iff]at bO;obtain⟨av,sO,rfl⟩:=bO;refine⟨MS sO,?_⟩;simp only[bx,Act.eval];unfold IE at sO;split at sO<;>simp at sO<;>subst sO<;>rw[aQ,az]<;>exact⟨rfl,rfl⟩
 |func g=>
  simp[eK]at bO;subst bO;refine⟨rfl,?_⟩;simp only[bx,Act.eval];rw[aQ];exact⟨#[],rfl,by rw[e_]⟩
 |global g=>simp[eK]at bO
def oh (w0:World) (X F:Nat->Prop) (S:Nat->Nat->Prop) (s:al) (aH:Nat->Value) (w:World) (av:I) (v:Value):Prop:=
 (av.plain=true/\aQ w F s aH av v (λ_=>False))\/
 (av.tree=true/\eY av v/\∃Sn,az w F av (c_ v) Sn/\(∀b,Sn b->b<w.heap.size)/\(∀b,Sn b->¬F b)/\(∀u b,Sn b->¬S u b)/\(∀b,Sn b->X b\/w0.heap.size<=b))
def fin (s:al) (dst:Option Nat) (av:I):al:=match dst with
 |none=>s
 |some t=>if av.plain then el s t av else el (oU t s) t av
def qF (aH:Nat->Value) (dst:Option Nat) (v:Value):Nat->Value:=match dst with
 |none=>aH
 |some t=>el aH t v
theorem cj.fin (h:cj w0 F0 X F S s aH w) {av:I} {v:Value} (aF:oh w0 X F S s aH w av v) (dst:Option Nat):
  ∃a_,cj w0 F0 X F a_ (ei.fin s dst av) (qF aH dst v) w:=by
 cases dst with
 |none=>exact⟨S,h⟩
 |some t=>
  simp only[ei.fin,qF];rcases aF with⟨ax,ao⟩|⟨bb,aa,Sn,ad,ag,aD,bh,b1⟩
  .rw[if_pos ax];exact⟨_,h.Bz ax ao⟩
  .split
   .rename_i ax;exact⟨_,h.Bz ax ((aQ.dx bb).2 ⟨aa,az.plain _ _ _ _ ax ad⟩)⟩
   .exact⟨_,h.Ut bb aa ad ag aD (λu b _ ab=>bh u b ab) b1⟩
def dJ (s:al):I->Option (I×al)
 | .h x q=>match I.sub q (s x)with
   |some d=>if d.plain then none else some (d,el (js x s) x (I.put q d.ee (s x)))
   |none=>none
 | .ax _ _=>none
 | .ab _ _=>none
 | .fn _ _=>none
 | .hole=>none
 |d=>some (d,s)
def I.owner:I->Option Nat
 | .h x _=>some x
 |_=>none
def nx:Option Nat->I->I
 |some x,d=>cW x d
 |none,d=>d
theorem rv (h:cj w0 F0 X F S s aH w) {av d:I} {s1:al} {v:Value} (sO:av.plain=true) (aF:aQ w F s aH av v (λ_=>False)) (bb:dJ s av=some (d,s1)):
  ∃cO,cj w0 F0 X F cO s1 aH w/\d.tree=true/\eY d v/\∃Sn,az w F d (c_ v) Sn/\(∀b,Sn b->b<w.heap.size)/\(∀b,Sn b->¬F b)/\(∀u b,Sn b->¬cO u b)/\(∀b,Sn b->X b\/w0.heap.size<=b)/\
   (∀u b,cO u b->S u b)/\(∀b,Sn b->∃u,S u b)/\(∀(bM:I) (ht:Value) (a_:Nat->Prop),aQ w F s aH bM ht a_->aQ w F s1 aH (nx av.owner bM) ht a_):=by
 have tree:∀d:I,d.tree=true->d.plain=true->aQ w F s aH d v (λ_=>False)->
   ∃cO,cj w0 F0 X F cO s aH w/\d.tree=true/\eY d v/\∃Sn,az w F d (c_ v) Sn/\(∀b,Sn b->b<w.heap.size)/\(∀b,Sn b->¬F b)/\(∀u b,Sn b->¬cO u b)/\(∀b,Sn b->X b\/w0.heap.size<=b)/\
    (∀u b,cO u b->S u b)/\(∀b,Sn b->∃u,S u b):=by
  intro d ao _ bF;have bF:=(aQ.dx ao).1 bF;exact⟨S,h,ao,bF.1,_,bF.2,λ_ h=>h.elim,λ_ h=>h.elim,λ_ _ h=>h.elim,λ_ h=>h.elim,λ_ _ h=>h,λ_ h=>h.elim⟩
 cases av with
 |h x q=>
  simp only[dJ]at bb;split at bb
  .rename_i e he;split at bb
   .cases bb
   .rename_i ax;simp only[some.injEq,Prod.mk.injEq]at bb;obtain⟨rfl,rfl⟩:=bb;have ax:e.plain=false:=by simpa using ax
    obtain⟨Sn,gv,dK,dI,ek,bf,dA,bL,cG,dn,eO⟩:=h.take he ax;rw[aQ]at aF;obtain⟨awZ,a2,g1,g2,g3⟩:=aF e he ax;rw[bf]at g1;simp only[some.injEq,Prod.mk.injEq,true_and]at g1;obtain⟨rfl,rfl⟩:=g1;have ED:e.tree=true:=by cases e<;>first|rfl|(simp[I.plain]at ax)
    refine⟨_,ek,ED,g3,gv,by rw[g2];exact dA,λb ab=>h.fB x b (bL b ab),λb ab=>h.gN x b (bL b ab),?_,λb ab=>h.eX x b (bL b ab),?_,λb ab=>⟨x,bL b ab⟩,eO⟩
    .intro u b ab hu;simp only[hn]at hu;split at hu
     .exact dn b ab hu
     .rename_i ac8;exact h.gh u x b ac8 hu (bL b ab)
    .intro u b hu;simp only[hn]at hu;split at hu
     .rename_i e;subst e;exact cG b hu
     .exact hu
  .cases bb
 |ax x q=>simp[dJ]at bb
 |ab x q=>simp[dJ]at bb
 |fn f c=>simp[dJ]at bb
 |hole=>simp[dJ]at bb
 |ae sz xs=>simp[I.plain]at sO
 |aM d=>simp[I.plain]at sO
 |_=>
  simp only[dJ,some.injEq,Prod.mk.injEq]at bb;obtain⟨rfl,rfl⟩:=bb;obtain⟨cO,t1,t2,t3,Sn,t4,t5,t6,t7,t8,t9,t10⟩:=tree _ rfl sO aF;exact⟨cO,t1,t2,t3,Sn,t4,t5,t6,t7,t8,t9,t10,λ_ _ _ h=>h⟩
def loc (s:al):I->Option (Nat×azf)
 | .h x q=>match I.sub q (s x)with
   |some (.aM _)=>some (x,q++[0])
   |_=>none
 | .ax x q=>if I.gM q (s x)then some (x,q)else none
 |_=>none
theorem EE:∀(q:azf) (av d:I) (r:azf),I.sub q av=some d->I.sub (q++r) av=I.sub r d:=by
 intro q;induction q with
 |nil=>intro av d r h;simp[I.sub]at h;subst h;rfl
 |cons k q ih=>
  intro av d r h;cases av with
  |agg aG=>
   simp only[I.sub,cons_append]at h⊢;split at h
   .rename_i x aq;exact ih _ _ _ h
   .cases h
  |tuple aG=>
   simp only[I.sub,cons_append]at h⊢;split at h
   .rename_i x aq;exact ih _ _ _ h
   .cases h
  |ae sz aG=>
   simp only[I.sub,cons_append]at h⊢;split at h
   .rename_i x aq;exact ih _ _ _ h
   .cases h
  |aM x=>
   cases k with
   |zero=>simp only[I.sub,cons_append]at h⊢;exact ih _ _ _ h
   |succ k=>simp[I.sub]at h
  |_=>simp[I.sub]at h
theorem ac9:∀(q:azf) (av d:I) (r:azf),I.sub q av=some d->I.gM (q++r) av=(I.gM q av||I.gM r d):=by
 intro q;induction q with
 |nil=>intro av d r h;simp[I.sub]at h;subst h;simp[I.gM]
 |cons k q ih=>
  intro av d r h;cases av with
  |agg aG=>
   simp only[I.sub]at h;split at h
   .rename_i x aq;simp only[I.gM,cons_append,aq];exact ih _ _ r h
   .cases h
  |tuple aG=>
   simp only[I.sub]at h;split at h
   .rename_i x aq;simp only[I.gM,cons_append,aq];exact ih _ _ r h
   .cases h
  |ae sz aG=>simp[I.gM]
  |aM x=>simp[I.gM]
  |_=>simp[I.sub]at h
theorem EF (w:World):∀(q:azf) (av d:I) (cs dK:azi) (a dI:Option (Nat×Nat)) (r:azf),eA w q av cs a=some (d,dK,dI)->eA w (q++r) av cs a=eA w r d dK dI:=by
 intro q;induction q with
 |nil=>intro av d cs dK a dI r h;simp[eA]at h;obtain⟨rfl,rfl,rfl⟩:=h;rfl
 |cons k q ih=>
  intro av d cs dK a dI r h;cases av with
  |agg aG=>
   rw[cons_append];rw[eA]at h⊢;split at h
   .rename_i x aq;exact ih _ _ _ _ _ _ _ h
   .cases h
  |tuple aG=>
   rw[cons_append];rw[eA]at h⊢;split at h
   .rename_i x aq;exact ih _ _ _ _ _ _ _ h
   .cases h
  |ae sz aG=>
   rw[cons_append];rw[eA.eq_def]at h⊢;simp only at h⊢;split at h
   .exact ih _ _ _ _ _ _ _ h
   .cases h
  |aM x=>
   cases k with
   |zero=>
    rw[cons_append];rw[eA.eq_def]at h⊢;simp only at h⊢;split at h
    .exact ih _ _ _ _ _ _ _ h
    .cases h
   |succ k=>rw[show eA w ((k+1)::q) (.aM x) cs a=none from rfl]at h;cases h
  |_=>simp[eA]at h
end
def hP.ok (x:hP):Bool:=match x.k with
 | .other=>false
 |_=>true
theorem cy.fK.info {C:cy} (bU:C.fK) {t:TypeId} (h:(C.T t).ok=true):
  ∃i d z,C.P.info? t=some i/\i.size=(C.T t).sz/\i.bytes=(C.T t).bytes/\i.zero=some z/\(∀cs,flat (C.T t).zero=some cs->z.cells=cs.toArray)/\C.P.underlying t=some d/\og (C.T t).k d:=by
 rcases bU.ty t with⟨e,n,b,z,aq,_⟩|bF
 .rw[aq]at h;simp[hP.ok]at h
 .exact bF
theorem hF {x:hP} {k:qE} (h:x.k=k) (aw:k≠.other):x.ok=true:=by
 unfold hP.ok;rw[h];cases k<;>first|rfl|exact(aw rfl).elim
theorem EG {d:TypeDesc} {aG:List (TypeId×Nat)} (h:og (.struct aG) d):∃gs,d= .struct gs/\gs.toList.map (λg=>(g.type,g.offset))=aG:=by
 cases d<;>simp[og]at h;exact⟨_,rfl,h⟩
theorem oX {d:TypeDesc} {e:TypeId} (h:og (.slice e) d):d= .slice e:=by
 cases d<;>simp[og]at h;rw[h]
theorem IF {d:TypeDesc} {k:IntKind} (h:og (.int k) d):d= .int k:=by
 cases d<;>simp[og]at h;rw[h]
theorem ui {d:TypeDesc} (h:og .str d):d= .string:=by
 cases d<;>simp[og]at h;rfl
theorem MU {d:TypeDesc} (h:og .bool d):d= .bool:=by
 cases d<;>simp[og]at h;rfl
theorem UA {d:TypeDesc} {e:TypeId} (h:og (.ptr e) d):d= .pointer e:=by
 cases d<;>simp[og]at h;rw[h]
theorem ia {v:Value} (h:Value.hO v=true):c_ v=[v]:=by
 cases v<;>first|rfl|(simp[Value.hO]at h)
theorem EH {P:Program} {t:TypeId} {i:TypeInfo} (h:P.info? t=some i) (w:World):(typeInfo t).run P w= .ok i w:=by simp[typeInfo,h]
theorem ny {P:Program} {t:TypeId} {i:TypeInfo} (h:P.info? t=some i) (w:World):(Go.sizeOf t).run P w= .ok i.size w:=by simp[Go.sizeOf,EH h]
theorem zd {P:Program} {t:TypeId} {i:TypeInfo} {z:Value} (h:P.info? t=some i) (cf:i.zero=some z) (w:World):(zeroValue t).run P w= .ok z w:=by simp[zeroValue,EH h,cf]
section
variable {C:cy} {w0 w:World} {F0 X F:Nat->Prop} {S:Nat->Nat->Prop} {s s1:al} {aH:Nat->Value} {av:I}
def Good (C:cy) (w0:World) (F0 X:Nat->Prop) (aH:Nat->Value) (w:World) (m:Sem Value) (av:I) (s1:al):Prop:=
 ∃v aP cn a_,m.run C.P w= .ok v aP/\cj w0 F0 X cn a_ s1 aH aP/\oh w0 X cn a_ s1 aH aP av v
theorem Good.same (h:cj w0 F0 X F S s aH w) {m:Sem Value} {v:Value} (aS:m.run C.P w= .ok v w) (ax:av.plain=true) (aF:aQ w F s aH av v (λ_=>False)):Good C w0 F0 X aH w m av s:=
 ⟨v,w,F,S,aS,h,.inl ⟨ax,aF⟩⟩
theorem MV (_h:cj w0 F0 X F S s aH w) {x:I} {v:Value} (aF:aQ w F s aH x v (λ_=>False)) {y:Nat} {q:azf} (hl:loc s x=some (y,q)) {d:I} (ao:I.sub q (s y)=some d):
  I.gM q (s y)=true/\∃dK b o,v= .pointer (some ⟨b,o,none⟩)/\eA w q (s y) (c_ (aH y)) none=some (d,dK,some (b,o)):=by
 cases x with
 |h z uj=>
  simp only[loc]at hl;split at hl
  .rename_i e he;simp only[some.injEq,Prod.mk.injEq]at hl;obtain⟨rfl,rfl⟩:=hl;rw[aQ]at aF;obtain⟨dK,a,g1,g2,g3⟩:=aF _ he rfl;have jo:e=d:=by
    rw[EE _ _ _ _ he]at ao;simpa [I.sub]using ao
   subst jo;refine⟨by rw[ac9 _ _ _ _ he];simp[I.gM],?_⟩;have ad:Value.hO v=true:=g3;rw[ia ad]at g2;subst g2;have nw:=EF w uj (s z) _ _ _ none a [0] g1;have aq:=_h.eu z;rw[aQ.dx (jG he (.inl rfl))]at aq;obtain⟨hk,dI,fj,gv,k0,bX,cu,dS,dW,eB⟩:=ctx uj (s z) (c_ (aH z)) (S z) none _ aq.2 he;rw[k0]at g1;simp only[some.injEq,Prod.mk.injEq,true_and]at g1;obtain⟨rfl,rfl⟩:=g1;rw[az]at dW;obtain⟨b,cur,aW,fr,eJ,aU,_⟩:=dW;simp only[cons.injEq,and_true]at aU;subst aU;exact⟨_,b,0,rfl,by rw[nw];rfl⟩
  .cases hl
 |ax z uj=>
  simp only[loc]at hl;split at hl
  .rename_i au;simp only[some.injEq,Prod.mk.injEq]at hl;obtain⟨rfl,rfl⟩:=hl;rw[aQ]at aF;obtain⟨dK,b,o,g1,g2⟩:=aF _ ao au;exact⟨au,dK,b,o,g2,g1⟩
  .cases hl
 |_=>simp[loc]at hl
def h2 (C:cy) (s:al) (T:TypeId) (x:I) (k:Nat):Option I:=
 match(C.T T).k with
 | .struct aG=>match aG[k]? with
   |some (mb,off)=>if(C.T mb).ok=true/\(C.T mb).sz≠0 then
     match x with
     | .ref (.agg ds)=>match ds[k]? with
       |some d=>if I.e9 (ds.take k)=off then some (.ref d)else none
       |none=>none
     | .ab y o=>if(s y).plain then none else some (.ab y (o+off))
     |x=>match loc s x with
      |some (y,q)=>match I.sub q (s y)with
       |some (.agg ds)=>if k<ds.length/\I.e9 (ds.take k)=off then some (.ax y (q++[k]))else none
       |_=>none
      |none=>none
    else none
   |none=>none
 |_=>none
theorem jD.MW {w:World} {b o:Nat} {cx hj c2:azi} (h:jD w b o (cx++(hj++c2))):jD w b (o+cx.length) hj:=by
 intro j c bG;have eN:j<hj.length:=(List.getElem?_eq_some_iff.1 bG).1;have:=h (cx.length+j) c (by rw[getElem?_append_right (by omega),getElem?_append_left (by omega),<-bG];congr 1;omega);rw[Nat.add_assoc];exact this
theorem MX (bU:C.fK) {T mb:TypeId} {aG:List (TypeId×Nat)} {k off:Nat} (aw:(C.T T).k= .struct aG) (bH:aG[k]? =some (mb,off)) (ad:(C.T mb).ok=true) (ag:(C.T mb).sz≠0) (b o:Nat) (w:World):
  (Instr.fieldAt T (.pointer (some ⟨b,o,none⟩)) k).run C.P w= .ok (.pointer (some ⟨b,o+off,none⟩)) w:=by
 obtain⟨i,d,z,aR,aW,aU,cc,cZ,cv,cd⟩:=bU.info (hF aw (by simp));rw[aw]at cd;obtain⟨gs,rfl,fC⟩:=EG cd;obtain⟨uk,bM,vN,f1,f2,f3,f4,f5,f6,f7⟩:=bU.info ad;have hg:∃g,gs[k]? =some g/\g.type=mb/\g.offset=off:=by
  rw[<-fC,getElem?_map]at bH;simp only[map_eq_some_iff,Prod.mk.injEq]at bH;obtain⟨g,ad,ag,aD⟩:=bH;exact⟨g,by simpa using ad,ag,aD⟩
 obtain⟨g,g1,rfl,rfl⟩:=hg;simp[Instr.fieldAt,run_underlying cv,g1,Instr.sureAddr,fieldPlace,ny f1,f2,ag,Addr.add_lit]
theorem ac_ (bU:C.fK) (h:cj w0 F0 X F S s aH w) {T:TypeId} {x:I} {v:Value} {k:Nat} (aq:x.plain=true) (aF:aQ w F s aH x v (λ_=>False)) (he:h2 C s T x k=some av):
  Good C w0 F0 X aH w (Instr.fieldAt T v k) av s:=by
 unfold h2 at he;split at he
 .rename_i aG aw;split at he
  .rename_i mb off bH;split at he
   .rename_i BC;split at he
    .rename_i ds;split at he
     .rename_i d ao;split at he
      .rename_i um;simp only[some.injEq]at he;subst he;have pq:=(aQ.dx rfl).1 aF;rw[az]at pq;obtain⟨aa,b,o,fp,ad,ag,aD,bh⟩:=pq;rw[ia aa]at ad;simp only[cons.injEq,and_true]at ad;subst ad;rw[az]at bh;obtain⟨cx,hj,c2,cO,jE,rfl,jr,gY,ix,kh,hr,pn⟩:=bA.pick ds _ _ k d bh ao;refine Good.same h (MX bU aw bH BC.1 BC.2 b o w) rfl ((aQ.dx rfl).2 ⟨rfl,?_⟩);rw[az];refine⟨b,o+off,hj,rfl,ag,?_,az.mono (λ_ h=>h) _ _ _ _ (λb ab=>ix b ab) hr⟩;rw[<-um,<-jr];exact aD.MW
      .cases he
     .cases he
    .rename_i y o;split at he
     .cases he
     .rename_i ax;simp only[some.injEq]at he;subst he;rw[aQ]at aF;obtain⟨b,cur,e,fr,rfl,ag,aD,bh⟩:=aF (by simpa using ax);refine Good.same h (MX bU aw bH BC.1 BC.2 b o w) rfl ?_;rw[aQ];exact λ_=>⟨b,cur,e,fr,rfl,ag,aD,bh⟩
    .rename_i x _ _;split at he
     .rename_i y q hl;split at he
      .rename_i ds ao;split at he
       .rename_i um;simp only[some.injEq]at he;subst he;obtain⟨au,dK,b,o,rfl,nw⟩:=MV h aF hl ao;refine Good.same h (MX bU aw bH BC.1 BC.2 b o w) rfl ?_;rw[aQ];intro d2 hE lo;rw[EF w q _ _ _ _ _ _ [k] nw];rw[EE _ _ _ _ ao]at hE;have pr:∃d3,ds[k]? =some d3:=⟨_,getElem?_eq_getElem um.1⟩
        obtain⟨d3,EI⟩:=pr;simp only[I.sub,EI,some.injEq]at hE;subst hE;simp only[eA,EI];refine⟨(dK.drop off).take d3.wd,b,o+off,?_,rfl⟩;rw[um.2];rfl
       .cases he
      .cases he
     .cases he
   .cases he
  .cases he
 .cases he
def kM (C:cy) (s:al) (T:TypeId) (x i:I):Option I:=
 match(C.T T).k,i with
 | .slice e,.int _ n=>if 0<=n/\(C.T e).ok=true then
   match x with
   | .slice xs=>match xs[n.toNat]? with
     |some d=>if d.wd=(C.T e).sz then some (.ref d)else none
     |none=>none
   | .h y q=>match I.sub q (s y)with
     |some (.ae sz xs)=>if n.toNat<xs.length/\sz=(C.T e).sz then some (.ax y (q++[n.toNat]))else none
     |_=>none
   |_=>none
   else none
 |_,_=>none
theorem UB (bU:C.fK) {T e:TypeId} (aw:(C.T T).k= .slice e) (he:(C.T e).ok=true) (b o len cap:Nat) (k:IntKind) (n:Nat) (aV:n<len) (w:World):
  (Instr.indexAt T (.slice (some ⟨b,o,none⟩) len cap) (.int k n)).run C.P w= .ok (.pointer (some ⟨b,o+n*(C.T e).sz,none⟩)) w:=by
 obtain⟨i,d,z,aR,aW,aU,cc,cZ,cv,cd⟩:=bU.info (hF aw (by simp));rw[aw]at cd;have:=oX cd;subst this;obtain⟨uk,bM,vN,f1,f2,f3,f4,f5,f6,f7⟩:=bU.info he;simp[Instr.indexAt,run_underlying cv,asIntOf,aV,ny f1,f2,Addr.add_lit]
theorem ada (bU:C.fK) (h:cj w0 F0 X F S s aH w) {T:TypeId} {x i:I} {v ry:Value} (aF:aQ w F s aH x v (λ_=>False)) (adb:aQ w F s aH i ry (λ_=>False))
  (he:kM C s T x i=some av):Good C w0 F0 X aH w (Instr.indexAt T v ry) av s:=by
 unfold kM at he;split at he
 .rename_i e k n aw;have MY:=(aQ.dx rfl).1 adb;rw[az,ia MY.1]at MY;have:ry= .int k n:=by simpa using MY.2
  subst this;split at he
  .rename_i aV;obtain⟨n,rfl⟩:=Int.eq_ofNat_of_zero_le aV.1;simp only[Int.toNat_natCast]at he;split at he
   .rename_i xs;split at he
    .rename_i d ao;split at he
     .rename_i hw;simp only[some.injEq]at he;subst he;have pq:=(aQ.dx rfl).1 aF;rw[az,ia pq.1]at pq;obtain⟨aa,⟨rfl,_⟩|⟨b,o,cap,fp,sz,ad,ag,aD,bh,b1,du,di⟩⟩:=pq
      .simp at ao
      .simp only[cons.injEq,and_true]at ad;subst ad;have eN:n<xs.length:=(List.getElem?_eq_some_iff.1 ao).1;obtain⟨cx,hj,c2,cO,jE,rfl,jr,gY,ix,kh,hr,pn⟩:=bA.pick xs _ _ n d di ao;refine Good.same h (UB bU aw aV.2 b o _ _ k n eN w) rfl ((aQ.dx rfl).2 ⟨rfl,?_⟩);rw[az];refine⟨b,_,hj,rfl,ag,?_,az.mono (λ_ h=>h) _ _ _ _ (λb ab=>ix b ab) hr⟩;have ade:=b1 d (mem_of_getElem? ao);have:n*(C.T e).sz=cx.length:=by
        rw[jr,y9 _ (λd ao=>b1 d (mem_of_mem_take ao)),length_take,Nat.min_eq_left (by omega),<-hw,ade]
       rw[this];exact du.MW
     .cases he
    .cases he
   .rename_i y q;split at he
    .rename_i sz xs ao;split at he
     .rename_i hw;simp only[some.injEq]at he;subst he;rw[aQ]at aF;obtain⟨dK,a,g1,g2,g3⟩:=aF _ ao rfl;have aa:Value.hO v=true:=g3;rw[ia aa]at g2;subst g2;have aq:=h.eu y;rw[aQ.dx (jG ao (.inl rfl))]at aq;obtain⟨hk,dI,fj,gv,k0,bX,cu,dS,dW,eB⟩:=ctx q (s y) (c_ (aH y)) (S y) none _ aq.2 ao;rw[k0]at g1;simp only[some.injEq,Prod.mk.injEq,true_and]at g1;obtain⟨rfl,rfl⟩:=g1;rw[az]at dW;rcases dW with⟨rfl,_⟩|⟨b,cap,cur,aW,fr,eJ,aU,_⟩
      .simp at hw
      .simp only[cons.injEq,and_true]at aU;subst aU;refine Good.same h (UB bU aw aV.2 b 0 _ _ k n hw.1 w) rfl ?_;rw[aQ];intro d2 hE _;rw[EF w q _ _ _ _ _ _ [n] k0];rw[EE _ _ _ _ ao]at hE;obtain⟨d3,EI⟩:∃d3,xs[n]? =some d3:=⟨_,getElem?_eq_getElem hw.1⟩
       simp only[I.sub,EI,some.injEq]at hE;subst hE;simp only[eA,EI];exact⟨_,b,n*sz,rfl,by simp[hw.2]⟩
     .cases he
    .cases he
   .cases he
  .cases he
 .cases he
end
section
variable {C:cy} {w0 w:World} {F0 X F:Nat->Prop} {S:Nat->Nat->Prop} {s s1:al} {aH:Nat->Value} {av:I}
theorem UC (bU:C.fK) {T:TypeId} {aG:List (TypeId×Nat)} (aw:(C.T T).k= .struct aG) (w:World):(isAgg T).run C.P w= .ok true w:=by
 obtain⟨i,d,z,aR,aW,aU,cc,cZ,cv,cd⟩:=bU.info (hF aw (by simp));rw[aw]at cd;obtain⟨gs,rfl,_⟩:=EG cd;simp[isAgg,run_underlying cv]
def hP.flat (x:hP):Bool:=match x.k with
 | .other=>false
 | .gH _=>false
 | .struct _=>false
 |_=>true
theorem UD {x:hP} (h:x.flat=true):x.ok=true:=by
 unfold hP.flat at h;unfold hP.ok;revert h;cases x.k<;>simp
theorem MZ (bU:C.fK) {T:TypeId} (aw:(C.T T).flat=true) (w:World):(isAgg T).run C.P w= .ok false w:=by
 obtain⟨i,d,z,aR,aW,aU,cc,cZ,cv,cd⟩:=bU.info (UD aw);have eb:(∀aG,d≠.struct aG)/\(∀n e,d≠.array n e):=by
  clear cv;unfold hP.flat at aw;generalize (C.T T).k=nz at*;cases nz<;>cases d<;>simp[og]at cd aw⊢
 cases d<;>first|exact(eb.1 _ rfl).elim|exact(eb.2 _ _ rfl).elim|simp[isAgg,run_underlying cv]
theorem jD.one {w:World} {b o:Nat} {v:Value} (h:jD w b o [v]):w.cell? ⟨b,o,none⟩=some v:=by simpa using h 0 v rfl
theorem UE {P:Program} {b o:Nat}:∀(cs:azi) (i:Nat) (acc:Array Value),jD w b (o+i) cs->(loadCellsFrom ⟨b,o,none⟩ i cs.length acc).run P w= .ok (acc++cs.toArray) w
 |[],i,acc,_=>by simp[loadCellsFrom]
 |c::cs,i,acc,h=>by
  have bc:w.cell? ⟨b,o+i,none⟩=some c:=by simpa using h 0 c rfl
  have ad:jD w b (o+(i+1)) cs:=by
   intro j x bG;have:=h (j+1) x (by simpa using bG);rw[<-this];congr 2;omega
  have ih:=UE (P:=P) cs (i+1) (acc.push c) ad;simp only[length_cons,loadCellsFrom,Sem.run_bind,Go.load,Sem.run,Addr.add_lit,bc,Result.andThen];rw[ih];simp
theorem adf (bU:C.fK) {T:TypeId} {aG:List (TypeId×Nat)} (aw:(C.T T).k= .struct aG) {b o:Nat} {cs:azi} (h:jD w b o cs) (hl:cs.length=(C.T T).sz):
  (loadVar T ⟨b,o,none⟩).run C.P w= .ok (.agg cs.toArray) w:=by
 obtain⟨i,d,z,aR,aW,aU,cc,cZ,cv,cd⟩:=bU.info (hF aw (by simp));have:=UE (P:=C.P) (b:=b) (o:=o) cs 0 #[] (by simpa using h);simp only[loadVar,Sem.run_bind,UC bU aw,Result.andThen,if_true,ny aR,aW,<-hl,loadCells,this];simp
theorem UF (bU:C.fK) {T:TypeId} (aw:(C.T T).flat=true) {b o:Nat} {v:Value} (h:jD w b o [v]):
  (loadVar T ⟨b,o,none⟩).run C.P w= .ok v w:=by
 simp[loadVar,MZ bU aw,Go.load,Sem.run,h.one]
def fits (C:cy) (T:TypeId) (d:I):Bool:=match(C.T T).k,d with
    | .struct _,.agg ds=>I.e9 ds==(C.T T).sz
    | .struct _,_=>false
    |_,.agg _=>false
    |_,.tuple _=>false
    |_,_=>(C.T T).flat
def IG:azk->Nat->Nat->Option Nat
 |[],_,_=>none
 |d::ds,i,k=>if k=0 then some i else if d.wd<=k then IG ds (i+1) (k-d.wd)else none
def fV (C:cy) (s:al) (T:TypeId) (x:I):Option I:=
 match x with
 | .ref d=>if fits C T d=true then some d else none
 | .ab y k=>match s y with
   | .agg ds=>if I.e6 ds then none else match IG ds 0 k with
     |some i=>match ds[i]? with
      |some d=>if I.e9 (ds.take i)=k/\fits C T d=true then some (if d.plain then d else .h y [i])else none
      |none=>none
     |none=>none
   |_=>none
 |x=>match loc s x with
  |some (y,q)=>match I.sub q (s y)with
   |some d=>if fits C T d=true then some (if d.plain then d else .h y q)else none
   |none=>none
  |none=>none
theorem az.one {F:Nat->Prop} {d:I} {cs:azi} {S:Nat->Prop} (h:az w F d cs S) (ad:∀aG,d≠.agg aG) (ag:∀aG,d≠.tuple aG):∃v,cs=[v]/\Value.hO v=true:=by
 cases d with
 |hole=>rw[az]at h;obtain⟨v,h,rfl⟩:=h;exact⟨v,rfl,h⟩
 |gu=>rw[az]at h;obtain⟨v,rfl⟩:=h;exact⟨_,rfl,rfl⟩
 |slice xs=>rw[az]at h;rcases h with⟨_,a,c,rfl,_⟩|⟨b,o,cap,fp,sz,rfl,_⟩<;>exact⟨_,rfl,rfl⟩
 |ae sz xs=>rw[az]at h;rcases h with⟨_,_,rfl⟩|⟨b,cap,cur,e,fr,eX,rfl,_⟩<;>exact⟨_,rfl,rfl⟩
 |ref d=>rw[az]at h;obtain⟨b,o,fp,rfl,_⟩:=h;exact⟨_,rfl,rfl⟩
 |aM d=>rw[az]at h;obtain⟨b,cur,e,fr,eX,rfl,_⟩:=h;exact⟨_,rfl,rfl⟩
 |agg aG=>exact(ad _ rfl).elim
 |tuple aG=>exact(ag _ rfl).elim
 |fn _ _=>rw[az]at h;obtain⟨arr,rfl,_⟩:=h;exact⟨_,rfl,rfl⟩
 |h _ _=>rw[az]at h;exact h.elim
 |ax _ _=>rw[az]at h;exact h.elim
 |ab _ _=>rw[az]at h;exact h.elim
 |ck _=>rw[az]at h;obtain⟨v,iV,rfl⟩:=oS.one h;exact⟨v,rfl,iV⟩
 |_=>rw[az]at h;subst h;exact⟨_,rfl,rfl⟩
theorem I.IH {d:I} (h:d.single=true):(∀aG,d≠.agg aG)/\∀aG,d≠.tuple aG:=
 ⟨λaG e=>(by subst e;cases h),λaG e=>(by subst e;cases h)⟩
theorem aQ.sP {F:Nat->Prop} {s:al} {aH:Nat->Value} {d:I} {v:Value} (bb:d.tree=true) (aa:d.single=true) (h:az w F d [v] (λ_=>False)):aQ w F s aH d v (λ_=>False):=by
 obtain⟨ht,e,ad⟩:=az.one h (I.IH aa).1 (I.IH aa).2;have:v=ht:=by simpa using e
 subst this;refine(aQ.dx bb).2 ⟨?_,by rw[ia ad];exact h⟩;cases d<;>first|exact ad|cases aa
mutual
theorem aQ.uo {F:Nat->Prop} {s:al} {aH:Nat->Value}:∀(d:I) (v:Value),d.single=true->az w F d [v] (λ_=>False)->aQ w F s aH d v (λ_=>False)
 | .fn f caps,v,_,h=>by
   rw[az]at h;obtain⟨arr,ad,ag,aD⟩:=h;rw[aQ];exact⟨arr,by simpa using ad,e_.uo caps _ ag aD⟩
 | .bool b,v,aa,h=>aQ.sP rfl aa h
 | .gu,v,aa,h=>aQ.sP rfl aa h
 | .int k n,v,aa,h=>aQ.sP rfl aa h
 | .str x,v,aa,h=>aQ.sP rfl aa h
 | .ez,v,aa,h=>aQ.sP rfl aa h
 | .bd,v,aa,h=>aQ.sP rfl aa h
 | .slice xs,v,aa,h=>aQ.sP rfl aa h
 | .ae sz xs,v,aa,h=>aQ.sP rfl aa h
 | .ref d,v,aa,h=>aQ.sP rfl aa h
 | .aM d,v,aa,h=>aQ.sP rfl aa h
 | .h _ _,v,_,h=>by rw[az]at h;exact h.elim
 | .ax _ _,v,_,h=>by rw[az]at h;exact h.elim
 | .ab _ _,v,_,h=>by rw[az]at h;exact h.elim
 | .ck _,v,aa,h=>aQ.sP rfl aa h
theorem e_.uo {F:Nat->Prop} {s:al} {aH:Nat->Value}:∀(ds:azk) (vs:azi),(∀d∈ds,d.single=true)->bA w F ds vs (λ_=>False)->e_ w F s aH ds vs
 |[],vs,_,h=>by rw[bA]at h;rw[e_];exact h
 |d::ds,vs,aa,h=>by
  rw[bA]at h;obtain⟨cx,c2,cO,eJ,rfl,ag,aD,bh,b1,_⟩:=h;have ao:=aa d (by simp);obtain⟨v,rfl,_⟩:=az.one ag (I.IH ao).1 (I.IH ao).2;rw[e_];exact⟨v,c2,rfl,aQ.uo d v ao (az.mono (λ_ h=>h) _ _ _ _ (λb ab=>bh b ab) ag),e_.uo ds c2 (λx aq=>aa x (by simp[aq])) (bA.mono (λ_ h=>h) _ _ _ _ (λb ab=>b1 b ab) aD)⟩
end
theorem II (bU:C.fK) {T:TypeId} {d:I} {b o:Nat} {cs:azi} {S:Nat->Prop} (h:jD w b o cs) (ao:az w F d cs S)
  (kB:fits C T d=true):
  ∃v,(loadVar T ⟨b,o,none⟩).run C.P w= .ok v w/\c_ v=cs/\eY d v:=by
 unfold fits at kB;by_cases aa:∃aG,(C.T T).k= .struct aG
 .obtain⟨aG,aw⟩:=aa;rw[aw]at kB;cases d with
  |agg ds=>
   simp only[beq_iff_eq]at kB;refine⟨_,adf bU aw h ((az.length _ _ _ ao).trans kB),rfl,⟨_,rfl⟩⟩
  |_=>simp at kB
 .have jg:(C.T T).flat=true/\(∀aG,d≠.agg aG)/\(∀aG,d≠.tuple aG):=by
   revert kB aa;cases aw:(C.T T).k<;>cases d<;>simp
  obtain⟨v,rfl,ad⟩:=az.one ao jg.2.1 jg.2.2;refine⟨v,UF bU jg.1 h,ia ad,?_⟩;cases d<;>first|exact ad|exact(jg.2.1 _ rfl).elim|exact(jg.2.2 _ rfl).elim
theorem adg (bU:C.fK) {T:TypeId} {d:I} {off:Nat} {arr:Array Value} {cx cs c2:azi} {S:Nat->Prop} (he:arr.toList=cx++(cs++c2)) (bO:cx.length=off) (ao:az w F d cs S)
  (kB:fits C T d=true):
  ∃v,(part T arr off).run C.P w= .ok v w/\c_ v=cs/\eY d v:=by
 unfold fits at kB;by_cases aa:∃aG,(C.T T).k= .struct aG
 .obtain⟨aG,aw⟩:=aa;rw[aw]at kB;cases d with
  |agg ds=>
   simp only[beq_iff_eq]at kB;obtain⟨i,d,z,aR,aW,aU,cc,cZ,cv,cd⟩:=bU.info (hF aw (by simp));have hl:cs.length=(C.T T).sz:=(az.length _ _ _ ao).trans kB;have aq:(arr.extract off (off+(C.T T).sz)).toList=cs:=by
    rw[Array.toList_extract,he,extract_eq_take_drop,<-hl,<-bO,Nat.add_sub_cancel_left,drop_left,take_left]
   refine⟨.agg (arr.extract off (off+(C.T T).sz)),?_,by simpa [c_,jF]using aq,⟨_,rfl⟩⟩;simp[part,UC bU aw,ny aR,aW]
  |_=>simp at kB
 .have jg:(C.T T).flat=true/\(∀aG,d≠.agg aG)/\(∀aG,d≠.tuple aG):=by
   revert kB aa;cases aw:(C.T T).k<;>cases d<;>simp
  obtain⟨v,rfl,ad⟩:=az.one ao jg.2.1 jg.2.2;have hg:arr[off]? =some v:=by
   rw[<-Array.getElem?_toList,he,<-bO,getElem?_append_right (Nat.le_refl _)];simp
  refine⟨v,?_,ia ad,?_⟩
  .simp[part,MZ bU jg.1,hg]
  .cases d<;>first|exact ad|exact(jg.2.1 _ rfl).elim|exact(jg.2.2 _ rfl).elim
theorem adh (bU:C.fK) (h:cj w0 F0 X F S s aH w) {T:TypeId} {x:I} {v:Value} (aF:aQ w F s aH x v (λ_=>False)) (he:fV C s T x=some av):
  Good C w0 F0 X aH w (Instr.loadAt T v) av s:=by
 unfold fV at he;split at he
 .rename_i d;split at he
  .rename_i kB;simp only[some.injEq]at he;subst he;have pq:=(aQ.dx rfl).1 aF;rw[az,ia pq.1]at pq;obtain⟨aa,b,o,fp,ad,ag,aD,bh⟩:=pq;simp only[cons.injEq,and_true]at ad;subst ad;obtain⟨ht,aS,au,nT⟩:=II bU aD bh kB;have fA:(Instr.loadAt T (.pointer (some ⟨b,o,none⟩))).run C.P w= .ok ht w:=by simp[Instr.loadAt,Instr.sureAddr,aS]
   refine⟨ht,w,F,S,fA,h,?_⟩;by_cases bb:d.tree=true
   .exact .inr ⟨bb,nT,λ_=>False,by rw[au];exact bh,λ_ h=>h.elim,λ_ h=>h.elim,λ_ _ h=>h.elim,λ_ h=>h.elim⟩
   .cases d<;>first|exact(bb rfl).elim|(rw[az]at bh;exact bh.elim)|exact .inl ⟨rfl,by rw[aQ];trivial⟩|(have b1:=bh;rw[az]at b1;obtain⟨arr,e,_⟩:=b1;rw[<-au]at e bh;rw[ia (by exact nT)]at bh;exact .inl ⟨rfl,aQ.uo _ _ rfl bh⟩)
  .cases he
 .rename_i y k;split at he
  .rename_i ds qG;split at he
   .cases he
   .rename_i EJ;split at he
    .rename_i i ai;split at he
     .rename_i d ao;split at he
      .rename_i kB;simp only[some.injEq]at he;have fO:(s y).plain=false:=by rw[qG];simp only[I.plain];simpa using EJ
       rw[aQ]at aF;obtain⟨b,cur,e,fr,rfl,ag,aD,bh⟩:=aF fO;have hy:=h.eu y;rw[qG]at hy;have UG:=((aQ.dx rfl).1 hy).2;rw[az]at UG;obtain⟨cx,hj,c2,cO,jE,ib,jr,gY,ix,kh,hr,pn⟩:=bA.pick ds _ _ i d UG ao;have mB:jD w b k hj:=by
        intro j c bG;have eN:j<hj.length:=(List.getElem?_eq_some_iff.1 bG).1;have:cur.toList[k+j]? =some c:=by
         rw[bh,ib,getElem?_append_right (by omega),getElem?_append_left (by omega),<-bG];congr 1;omega
        simp[World.cell?,aD];simpa using this
       obtain⟨ht,aS,au,nT⟩:=II bU mB hr kB.2;have fA:(Instr.loadAt T (.pointer (some ⟨b,k,none⟩))).run C.P w= .ok ht w:=by simp[Instr.loadAt,Instr.sureAddr,aS]
       refine⟨ht,w,F,S,fA,h,?_⟩;split at he
       .rename_i ax;subst he;by_cases bb:d.tree=true
        .exact .inl ⟨ax,(aQ.dx bb).2 ⟨nT,by rw[au];exact az.plain _ _ _ _ ax hr⟩⟩
        .cases d<;>first|exact(bb rfl).elim|(rw[az]at hr;exact hr.elim)|exact .inl ⟨rfl,by rw[aQ];trivial⟩|(have b1:=az.plain _ _ _ (λ_=>False) ax hr;rw[<-au]at b1;rw[ia (by exact nT)]at b1;exact .inl ⟨rfl,aQ.uo _ _ rfl b1⟩)
       .subst he;refine .inl ⟨rfl,?_⟩;rw[aQ];intro d2 hE _;rw[qG]at hE⊢;simp only[I.sub,ao,some.injEq]at hE;subst hE;refine⟨hj,none,?_,au,nT⟩;simp only[eA,ao];rw[ib,y7 cx hj c2 _ _ jr (az.length _ _ _ hr)];rfl
      .cases he
     .cases he
    .cases he
  .cases he
 .rename_i x _ _;split at he
  .rename_i y q hl;split at he
   .rename_i d ao;split at he
    .rename_i kB;simp only[some.injEq]at he;obtain⟨sQ,dK,b,o,rfl,nw⟩:=MV h aF hl ao;have hy:=h.eu y;rw[aQ.dx (jG ao (.inr sQ))]at hy;obtain⟨hk,dI,fj,gv,k0,bX,cu,dS,dW,eB⟩:=ctx q (s y) (c_ (aH y)) (S y) none _ hy.2 ao;rw[k0]at nw;simp only[some.injEq,Prod.mk.injEq,true_and]at nw;obtain⟨rfl,rfl⟩:=nw;have mB:jD w b o hk:=by
      rcases eB with⟨l,r,aR,aW,_⟩|⟨gV,cur,e,fr,l,r,aR,aW,aU,cc,cZ,_⟩
      .simp at aW
      .simp only[some.injEq,Prod.mk.injEq]at aR;obtain⟨rfl,rfl⟩:=aR;intro j c bG;have eN:j<hk.length:=(List.getElem?_eq_some_iff.1 bG).1;have:cur.toList[l.length+j]? =some c:=by
        rw[cZ,getElem?_append_right (by omega),getElem?_append_left (by omega),<-bG];congr 1;omega
       simp[World.cell?,aU];simpa using this
     obtain⟨ht,aS,au,nT⟩:=II bU mB dW kB;have fA:(Instr.loadAt T (.pointer (some ⟨b,o,none⟩))).run C.P w= .ok ht w:=by simp[Instr.loadAt,Instr.sureAddr,aS]
     refine⟨ht,w,F,S,fA,h,?_⟩;split at he
     .rename_i ax;subst he;by_cases bb:d.tree=true
      .exact .inl ⟨ax,(aQ.dx bb).2 ⟨nT,by rw[au];exact az.plain _ _ _ _ ax dW⟩⟩
      .cases d<;>first|exact(bb rfl).elim|(rw[az]at dW;exact dW.elim)|exact .inl ⟨rfl,by rw[aQ];trivial⟩|(have b1:=az.plain _ _ _ (λ_=>False) ax dW;rw[<-au]at b1;rw[ia (by exact nT)]at b1;exact .inl ⟨rfl,aQ.uo _ _ rfl b1⟩)
     .subst he;refine .inl ⟨rfl,?_⟩;rw[aQ];intro d2 hE _;rw[ao]at hE;simp only[some.injEq]at hE;subst hE;exact⟨_,_,k0,au,nT⟩
    .cases he
   .cases he
  .cases he
mutual
theorem az.ze {F:Nat->Prop}:∀(d:I) (cs:azi) (S:Nat->Prop),az w F d cs S->∀c∈cs,Value.hO c=true
 | .hole,cs,S,h=>by rw[az]at h;obtain⟨v,h,rfl⟩:=h;simpa using h
 | .bool _,cs,S,h=>by rw[az]at h;subst h;simp[Value.hO]
 | .gu,cs,S,h=>by rw[az]at h;obtain⟨b,rfl⟩:=h;simp[Value.hO]
 | .int _ _,cs,S,h=>by rw[az]at h;subst h;simp[Value.hO]
 | .str _,cs,S,h=>by rw[az]at h;subst h;simp[Value.hO]
 | .ez,cs,S,h=>by rw[az]at h;subst h;simp[Value.hO]
 | .bd,cs,S,h=>by rw[az]at h;subst h;simp[Value.hO]
 | .slice xs,cs,S,h=>by
   rw[az]at h;rcases h with⟨_,a,c,rfl,_⟩|⟨b,o,cap,fp,sz,rfl,_⟩<;>simp[Value.hO]
 | .ae sz xs,cs,S,h=>by
   rw[az]at h;rcases h with⟨_,_,rfl⟩|⟨b,cap,cur,e,fr,a_,rfl,_⟩<;>simp[Value.hO]
 | .ref d,cs,S,h=>by rw[az]at h;obtain⟨b,o,fp,rfl,_⟩:=h;simp[Value.hO]
 | .aM d,cs,S,h=>by rw[az]at h;obtain⟨b,o,fp,_,_,rfl,_⟩:=h;simp[Value.hO]
 | .agg aG,cs,S,h=>by rw[az]at h;exact bA.ze aG _ _ h
 | .tuple aG,cs,S,h=>by rw[az]at h;exact bA.ze aG _ _ h
 | .fn _ _,cs,S,h=>by rw[az]at h;obtain⟨arr,rfl,_⟩:=h;simp[Value.hO]
 | .h _ _,cs,S,h=>by rw[az]at h;exact h.elim
 | .ax _ _,cs,S,h=>by rw[az]at h;exact h.elim
 | .ab _ _,cs,S,h=>by rw[az]at h;exact h.elim
 | .ck _,cs,S,h=>by rw[az]at h;obtain⟨v,iV,rfl⟩:=oS.one h;simpa using iV
theorem bA.ze {F:Nat->Prop}:∀(ds:azk) (cs:azi) (S:Nat->Prop),bA w F ds cs S->∀c∈cs,Value.hO c=true
 |[],cs,S,h=>by rw[bA]at h;subst h;simp
 |d::ds,cs,S,h=>by
  rw[bA]at h;obtain⟨cx,c2,cO,eJ,rfl,ag,aD,_⟩:=h;intro c au;rcases mem_append.1 au with au|au
  .exact az.ze d _ _ ag c au
  .exact bA.ze ds _ _ aD c au
end
theorem IJ {P:Program} {b o:Nat} {e:TypeId} {fr:Nat×Nat}:∀(vs:azi) (i:Nat) (cur:Array Value) (w:World) (l m r:azi),w.heap[b]? =some (.cells cur e fr)->pZ fr cur.size->
  cur.toList=l++(m++r)->l.length=o+i->m.length=vs.length->(∀v∈vs,Value.hO v=true)->
  ∃aP,(storeCells ⟨b,o,none⟩ vs i).run P w= .ok () aP/\aP.heap[b]? =some (.cells (l++(vs++r)).toArray e fr)/\(∀c,c≠b->aP.heap[c]? =w.heap[c]?)/\aP.heap.size=w.heap.size/\aP.os=w.os/\aP.tape=w.tape/\Out aP w
 |[],i,cur,w,l,m,r,ab,bH,au,hl,hm,_=>by
  refine⟨w,rfl,?_,λ_ _=>rfl,rfl,rfl,rfl,Out.refl _⟩;have:m=[]:=by simpa using hm
  subst this;rw[ab];have:cur=(l++([]++r)).toArray:=by rw[<-au]
  rw[<-this]
 |v::vs,i,cur,w,l,m,r,ab,bH,au,hl,hm,IK=>by
  obtain⟨x,m,rfl⟩:∃x jS,m=x::jS:=by cases m with
   |nil=>simp at hm
   |cons x m=>exact⟨x,m,rfl⟩
  have hlen:cur.size=(l++(x::m++r)).length:=by rw[<-au];simp
  have eN:o+i<cur.size:=by rw[hlen];simp;omega
  have IL:w.cell? ⟨b,o+i,none⟩=some cur[o+i]:=by simp[World.cell?,ab,eN]
  have adi:w.frozen? ⟨b,o+i,none⟩=false:=by
   have:=bH (o+i) eN;simp only[World.frozen?,ab];simp only[Bool.and_eq_false_iff,decide_eq_false_iff_not];by_cases ad:fr.1<=o+i
   .right;exact λag=>this ⟨ad,ag⟩
   .left;exact ad
  have xC:(w.setCell ⟨b,o+i,none⟩ v).heap[b]? =some (.cells ((l++[v])++(m++r)).toArray e fr):=by
   simp only[World.setCell,Array.getElem?_modify,if_true,ab,map_some,isSome_none,Bool.false_eq_true,if_false];congr 2;apply Array.ext';rw[Array.toList_setIfInBounds,au,<-hl,set_append_right _ _ (Nat.le_refl _)];simp
  have zf:(store ((⟨b,o,none⟩:Addr).add i) v).run P w= .ok () (w.setCell ⟨b,o+i,none⟩ v):=by
   have ad:=IK v (by simp);rw[Addr.add_lit];cases v<;>first|(simp[Value.hO]at ad;done)|simp[Go.store,Sem.run,IL,adi]
  obtain⟨aP,g1,g2,g3,g4,g5,g6,g7⟩:=IJ (P:=P) (b:=b) (o:=o) vs (i+1) _ (w.setCell ⟨b,o+i,none⟩ v) (l++[v]) m r xC (by
   have:(l++[v]++(m++r)).toArray.size=cur.size:=by rw[hlen];simp
   rw[this];exact bH) (by simp) (by simp;omega) (by simpa using hm) (λu hu=>IK u (by simp[hu]))
  refine⟨aP,?_,by simpa using g2,λc au=>?_,?_,g5,g6,g7⟩
  .simp only[storeCells,Sem.run_bind,zf,Result.andThen];exact g1
  .rw[g3 c au];simp only[World.setCell,Array.getElem?_modify];rw[if_neg (λe=>au e.symm)]
  .rw[g4];simp[World.setCell]
theorem EK {d:I} {v:Value} (h:eY d v) (ao:∀aG,d≠.tuple aG):v.cells=(c_ v).toArray:=by
 cases d with
 |tuple aG=>exact(ao _ rfl).elim
 |agg aG=>obtain⟨arr,rfl⟩:=h;simp[Value.cells,c_,jF]
 |_=>
  have ad:Value.hO v=true:=h;rw[ia ad];cases v<;>first|rfl|(simp[Value.hO]at ad)
def k1 (C:cy) (s:al) (T:TypeId) (x y:I):Option al:=
 match dJ s y,loc s x with
 |some (d,s1),some (z,q)=>match d with
  | .tuple _=>none
  |d=>match I.sub q (s z)with
   |some d0=>if d.wd=d0.wd/\d.wd=(C.T T).sz/\(C.T T).ok=true/\y.owner≠some z then some (el (js z s1) z (I.put q d (s z)))else none
   |none=>none
 |_,_=>none
theorem adj {s s1:al} {y d:I} {z:Nat} (h:dJ s y=some (d,s1)) (cf:(s z).tree=true) (hy:y.owner≠some z):s1 z=s z:=by
 cases y with
 |h x q=>
  simp only[dJ]at h;split at h
  .split at h
   .cases h
   .simp only[some.injEq,Prod.mk.injEq]at h;obtain⟨_,rfl⟩:=h;rw[ll _ _ (λe=>hy (by rw[I.owner,e]))];exact MJ cf
  .cases h
 |ax x q=>simp[dJ]at h
 |ab x q=>simp[dJ]at h
 |fn f c=>simp[dJ]at h
 |hole=>simp[dJ]at h
 |_=>simp only[dJ,some.injEq,Prod.mk.injEq]at h;rw[h.2]
theorem adk (bU:C.fK) (h:cj w0 F0 X F S s aH w) {T:TypeId} {x y:I} {kC lQ:Value} (M0:aQ w F s aH x kC (λ_=>False)) (hy:y.plain=true) (adl:aQ w F s aH y lQ (λ_=>False))
  {s2:al} (he:k1 C s T x y=some s2):
  ∃aP a_,(Instr.storeAt T kC lQ).run C.P w= .ok () aP/\cj w0 F0 X F a_ s2 aH aP:=by
 unfold k1 at he;split at he
 .rename_i d s1 z q bb hl;have key:∀d:I,(∀aG,d≠.tuple aG)->dJ s y=some (d,s1)->(match I.sub q (s z)with
   |some d0=>if d.wd=d0.wd/\d.wd=(C.T T).sz/\(C.T T).ok=true/\y.owner≠some z then some (el (js z s1) z (I.put q d (s z)))else none
   |none=>none)=some s2->∃aP a_,(Instr.storeAt T kC lQ).run C.P w= .ok () aP/\cj w0 F0 X F a_ s2 aH aP:=by
   intro d vO bb he;split at he
   .rename_i d0 nU;split at he
    .rename_i EL;obtain⟨ad,ag,aD,bh⟩:=EL;simp only[some.injEq]at he;subst he;obtain⟨sQ,dK,b,o,rfl,nw⟩:=MV h M0 hl nU;obtain⟨cO,g0,g1,g2,Sn,g3,g4,g5,g6,g7,g8⟩:=rv h hy adl bb;have fa:s1 z=s z:=adj bb (jG nU (.inr sQ)) bh;rw[<-fa]at nU sQ nw⊢;obtain⟨hk,gV,l,r,cur,e,fr,k0,bX,cu,dS,dW⟩:=g0.store nU sQ g3 ad g4 g5 g6 g7;rw[nw]at k0;simp only[some.injEq,Prod.mk.injEq,true_and]at k0;obtain⟨rfl,rfl,rfl⟩:=k0;obtain⟨i,d,vN,aR,aW,aU,cc,cZ,cv,cd⟩:=bU.info aD;have hlen:=az.length _ _ _ g3;have hm:dK.length=(c_ lQ).length:=by
      have UH:=g0.eu z;rw[aQ.dx (jG nU (.inr sQ))]at UH;obtain⟨_,_,_,_,c0,_,_,_,c4,_⟩:=ctx q (s1 z) (c_ (aH z)) (cO z) none _ UH.2 nU;rw[nw]at c0;simp only[some.injEq,Prod.mk.injEq,true_and]at c0;rw[c0.1,az.length _ _ _ c4,hlen,ad]
     obtain⟨aP,m1,m2,m3,m4,m5,m6,m7⟩:=IJ (P:=C.P) (b:=b) (o:=l.length) (e:=e) (fr:=fr) (c_ lQ) 0 cur w l dK r bX dS cu rfl hm (az.ze _ _ _ g3);obtain⟨a_,eB⟩:=dW aP m2 m3 m4 m5 m6 m7;refine⟨aP,a_,?_,eB⟩;have sR:=EK g2 vO;simp[Instr.storeAt,Instr.sureAddr,storeVar,ny aR,aW,sR,hlen,ag,m1]
    .cases he
   .cases he
  split at he
  .cases he
  .rename_i vO;exact key _ (λaG e=>vO aG e) bb he
 .cases he
theorem cj.alloc (h:cj w0 F0 X F S s aH w) {d:I} {cs:azi} {Sn:Nat->Prop} (e:TypeId) (aF:az w F d cs Sn)
  (eN:∀b,Sn b->b<w.heap.size) (bJ:∀b,Sn b->¬F b) (cq:∀u b,Sn b->¬S u b) (bc:∀b,Sn b->X b\/w0.heap.size<=b):
  cj w0 F0 X F S s aH (w.alloc (.cells cs.toArray e))/\
   oh w0 X F S s aH (w.alloc (.cells cs.toArray e)) (.aM d) (.pointer (some ⟨w.heap.size,0,none⟩)):=by
 have hold:∀b,b<w.heap.size->(w.alloc (.cells cs.toArray e)).heap[b]? =w.heap[b]? :=by
  intro b ab;show(w.heap.push _)[b]? =_;rw[Array.getElem?_push,if_neg (by omega)]
 refine⟨h.grow hold (by simp) rfl rfl ⟨rfl,λ_=>Nat.le_refl _⟩,.inr ⟨rfl,rfl,λb=>b=w.heap.size\/Sn b,?_,?_,?_,?_,?_⟩⟩
 .rw[az];refine⟨w.heap.size,cs.toArray,e,(0,0),Sn,rfl,.inl rfl,?_,?_,?_,λc au=>.inr au,λau=>Nat.lt_irrefl _ (eN _ au)⟩
  .show(w.heap.push _)[_]? =_;simp
  .intro o _ ⟨_,ag⟩;exact absurd ag (not_lt_zero _)
  .exact az.frame (λb ab=>hold b (h.gg b ab)) _ _ _ (λb ab=>hold b (eN b ab)) aF
 .rintro b (rfl|ab)
  .simp
  .have:=eN b ab;simp;omega
 .rintro b (rfl|ab) vP
  .exact Nat.lt_irrefl _ (h.gg _ vP)
  .exact bJ b ab vP
 .rintro u b (rfl|ab) hu
  .exact Nat.lt_irrefl _ (h.fB _ _ hu)
  .exact cq u b ab hu
 .rintro b (rfl|ab)
  .exact .inr h.size
  .exact bc b ab
def mU (C:cy) (T:TypeId):Option I:=if(C.T T).ok=true then(match(C.T T).k,(C.T T).zero with
    | .gH e,.agg [.ez,.bd]=>some (.ck (.jR T e []))
    | .gH _,_=>none
    |_,z=>(match flat z with|some _=>some (.aM z)|none=>none))else none
theorem adm (bU:C.fK) (h:cj w0 F0 X F S s aH w) {T:TypeId} (he:mU C T=some av):Good C w0 F0 X aH w (Instr.alloc T true (.tuple #[])) av s:=by
 unfold mU at he;split at he
 .rename_i aw;split at he
  .rename_i aw0 aw1 zg;simp only[some.injEq]at he;subst he;obtain⟨i,d,z,aR,aW,aU,cc,cZ,cv,cd⟩:=bU.info aw;have cf:=cZ [.pointer none,.slice none 0 0] (by rw[zg];rfl);have hold:∀b,b<w.heap.size->(w.alloc (.cells #[.pointer none,.slice none 0 0] T)).heap[b]? =w.heap[b]? :=by
    intro b ab;show(w.heap.push _)[b]? =_;rw[Array.getElem?_push,if_neg (by omega)]
   refine⟨.pointer (some ⟨w.heap.size,0,none⟩),w.alloc (.cells #[.pointer none,.slice none 0 0] T),F,S,?_,h.grow hold (by simp) rfl rfl ⟨rfl,λ_=>Nat.le_refl _⟩,.inr ⟨rfl,rfl,λb=>b=w.heap.size,?_,?_,?_,?_,?_⟩⟩
   .simp[Instr.alloc,zd aR cc,newVar,newRow,newObj,Sem.run,cf]
   .rw[az];refine⟨w.heap.size,.pointer none,.slice none 0 0,rfl,rfl,?_,.inl rfl,.inl ⟨rfl,rfl⟩⟩;show(w.heap.push _)[_]? =_;simp
   .rintro b rfl;simp
   .rintro b rfl vP;exact Nat.lt_irrefl _ (h.gg _ vP)
   .rintro u b rfl hu;exact Nat.lt_irrefl _ (h.fB _ _ hu)
   .rintro b rfl;exact .inr h.size
  .cases he
  split at he
  .rename_i cs ib;simp only[some.injEq]at he;subst he;obtain⟨i,d,z,aR,aW,aU,cc,cZ,cv,cd⟩:=bU.info aw;have cf:=cZ cs ib;obtain⟨ek,bf⟩:=h.alloc (d:=(C.T T).zero) T ((az.flat _).1 _ cs (λ_=>False) (Nat.le_refl _) ib) (λ_ h=>h.elim) (λ_ h=>h.elim) (λ_ _ h=>h.elim) (λ_ h=>h.elim);refine⟨_,_,F,S,?_,ek,bf⟩;simp[Instr.alloc,zd aR cc,newVar,newRow,newObj,Sem.run,cf]
  .cases he
 .cases he
def iy (s:al) (x:I):Option (I×al):=match dJ s x with
 |some (.tuple _,_)=>none
 |some (d,s1)=>some (.aM d,s1)
 |none=>none
def mc (s:al) (x:I):Option (I×al):=match x with
 | .h y q=>match q,s y with
   |[],.agg ds=>if I.e6 ds then none else some (.ab y 0,s)
   |_,_=>none
 | .fn f caps=>if caps.all (λd=>d.single&&(d.tree&&d.plain))=true then some (.ref (.fn f caps),s)else none
 |_=>none
theorem bA.UI {w:World} {F cn:Nat->Prop} {s:al} {aH:Nat->Value} (bJ:∀b,F b->cn b):∀(ds:azk) (vs:azi),(∀d∈ds,d.single=true/\d.tree=true/\d.plain=true)->e_ w F s aH ds vs->bA w cn ds vs (λ_=>False)
 |[],vs,_,h=>by rw[e_]at h;rw[bA];exact h
 |d::ds,vs,aa,h=>by
  rw[e_]at h;obtain⟨v,ma,rfl,ad,ag⟩:=h;obtain⟨d1,d2,d3⟩:=aa d (by simp);have aD:=(aQ.dx d2).1 ad;have bO:Value.hO v=true:=by
   have:=aD.1;cases d<;>first|exact this|cases d1
  have bh:=aD.2;rw[ia bO]at bh;rw[bA];exact⟨[v],ma,λ_=>False,λ_=>False,rfl,az.mono bJ _ _ _ _ (λ_ h=>h) bh,bA.UI bJ ds ma (λx aq=>aa x (by simp[aq])) ag,λ_ h=>h,λ_ h=>h,λ_ h=>h.elim⟩
theorem adn {T:TypeId} {v:Value} (h:cj w0 F0 X F S s aH w):cj w0 F0 X (λb=>F b\/b=w.heap.size) S s aH (w.alloc (.cells (c_ v).toArray T)):=by
 have hold:∀b,b<w.heap.size->(w.alloc (.cells (c_ v).toArray T)).heap[b]? =w.heap[b]? :=by
  intro b ab;show(w.heap.push _)[b]? =_;rw[Array.getElem?_push,if_neg (by omega)]
 have ad:=h.grow hold (by simp) rfl rfl ⟨rfl,λ_=>Nat.le_refl _⟩;exact {
  h_:=λb ab=>.inl (ad.h_ b ab)
  iL:=λb ab=>by
   rcases ab with ab|rfl
   .exact ad.iL b ab
   .exact .inr (.inr h.size)
  gg:=λb ab=>by
   rcases ab with ab|rfl
   .exact ad.gg b ab
   .simp
  fB:=ad.fB
  gN:=λt b ab bH=>by
   rcases bH with bH|rfl
   .exact ad.gN t b ab bH
   .exact absurd (h.fB t _ ab) (Nat.lt_irrefl _)
  gh:=ad.gh
  eX:=ad.eX
  eu:=λt=>aQ.frame (λ_ _=>rfl) (λb ab=>.inl ab) (λ_ _ _=>rfl) ad.eu _ _ _ (λ_ _=>rfl) (ad.eu t)
  old:=ad.old
  size:=ad.size
  os:=ad.os
  tape:=ad.tape
  output:=ad.output
  gw:=h.gw}
theorem ado (h:cj w0 F0 X F S s aH w) {T:TypeId} {x:I} {v:Value} (aF:aQ w F s aH x v (λ_=>False)) (he:mc s x=some (av,s1)):
  Good C w0 F0 X aH w (Instr.box T v) av s1:=by
 unfold mc at he;split at he
 .rename_i y q;split at he
  .rename_i ds qG;split at he
   .cases he
   .rename_i EJ;simp only[some.injEq,Prod.mk.injEq]at he;obtain⟨rfl,rfl⟩:=he;rw[aQ]at aF;obtain⟨dK,a,g1,g2,g3⟩:=aF (s y) (by simp only[I.sub]) (by rw[qG];simp only[I.plain];simpa using EJ);simp only[eA,some.injEq,Prod.mk.injEq,true_and]at g1;rw[qG]at g3;have sR:=EK g3 (λaG e=>by cases e);have hold:∀b,b<w.heap.size->(w.alloc (.cells (c_ v).toArray T)).heap[b]? =w.heap[b]? :=by
     intro b ab;show(w.heap.push _)[b]? =_;rw[Array.getElem?_push,if_neg (by omega)]
    refine⟨.pointer (some ⟨w.heap.size,0,none⟩),w.alloc (.cells (c_ v).toArray T),λb=>F b\/b=w.heap.size,S,by simp[Instr.box,newVar,newRow,newObj,Sem.run,sR],?_,.inl ⟨rfl,?_⟩⟩
    .have ad:=h.grow hold (by simp) rfl rfl ⟨rfl,λ_=>Nat.le_refl _⟩;exact {
      h_:=λb ab=>.inl (ad.h_ b ab)
      iL:=λb ab=>by
       rcases ab with ab|rfl
       .exact ad.iL b ab
       .exact .inr (.inr h.size)
      gg:=λb ab=>by
       rcases ab with ab|rfl
       .exact ad.gg b ab
       .simp
      fB:=ad.fB
      gN:=λt b ab bH=>by
       rcases bH with bH|rfl
       .exact ad.gN t b ab bH
       .exact absurd (h.fB t _ ab) (Nat.lt_irrefl _)
      gh:=ad.gh
      eX:=ad.eX
      eu:=λt=>aQ.frame (λ_ _=>rfl) (λb ab=>.inl ab) (λ_ _ _=>rfl) ad.eu _ _ _ (λ_ _=>rfl) (ad.eu t)
      old:=ad.old
      size:=ad.size
      os:=ad.os
      tape:=ad.tape
      output:=ad.output
      gw:=h.gw}
    .rw[aQ];intro _;refine⟨w.heap.size,(c_ v).toArray,T,(0,0),rfl,.inr rfl,?_,?_⟩
     .show(w.heap.push _)[_]? =_;simp
     .rw[g1.1,<-g2]
  .cases he
 .rename_i f caps;split at he
  .rename_i au;simp only[some.injEq,Prod.mk.injEq]at he;obtain⟨rfl,rfl⟩:=he;have ib:∀d∈caps,d.single=true/\d.tree=true/\d.plain=true:=λd ao=>by
    have:=List.all_eq_true.1 au d ao;simpa only[Bool.and_eq_true]using this
   rw[aQ]at aF;obtain⟨arr,rfl,aF⟩:=aF;have sR:=EK (d:=.fn f caps) (v:=.func (.func f) #[] arr) rfl (λaG e=>by cases e);have hg:=adn (T:=T) (v:=.func (.func f) #[] arr) h;refine⟨.pointer (some ⟨w.heap.size,0,none⟩),w.alloc (.cells (c_ (.func (.func f) #[] arr)).toArray T),λb=>F b\/b=w.heap.size,S,by simp[Instr.box,newVar,newRow,newObj,Sem.run,sR],hg,.inl ⟨rfl,?_⟩⟩;refine(aQ.dx rfl).2 ⟨rfl,?_⟩;rw[az];refine⟨w.heap.size,0,[.func (.func f) #[] arr],rfl,.inr rfl,?_,?_⟩
   .have kz:(w.alloc (.cells (c_ (.func (.func f) #[] arr)).toArray T)).heap[w.heap.size]? =some (.cells (c_ (.func (.func f) #[] arr)).toArray T (0,0)):=by
     show(w.heap.push _)[_]? =_;simp
    intro j c bG;cases j with
    |zero=>
     simp only[getElem?_cons_zero,some.injEq]at bG;subst bG;have e:c_ (.func (.func f) #[] arr)=[.func (.func f) #[] arr]:=ia rfl;unfold World.cell?;show(match(w.alloc (.cells (c_ (.func (.func f) #[] arr)).toArray T)).heap[w.heap.size]? with
      |some (.cells c _ _)=>c[0+0]?
      |_=>none)=_
     rw[kz,e];rfl
    |succ j=>simp at bG
   .rw[az];refine⟨arr,rfl,λd ao=>(ib d ao).1,?_⟩;have b1:=bA.UI (cn:=F) (λb ab=>ab) caps arr.toList ib aF;refine bA.mono (F:=F) (λb ab=>.inl ab) caps _ _ _ (λ_ h=>h) (bA.frame (λb ab=>?_) caps _ _ (λ_ h=>h.elim) b1);have eN:=h.gg b ab;show(w.heap.push _)[b]? =_;rw[Array.getElem?_push,if_neg (by omega)]
  .cases he
 .cases he
theorem adp (h:cj w0 F0 X F S s aH w) {T:TypeId} {x:I} {v:Value} (aq:x.plain=true) (aF:aQ w F s aH x v (λ_=>False)) (he:iy s x=some (av,s1)):
  Good C w0 F0 X aH w (Instr.box T v) av s1:=by
 unfold iy at he;split at he
 .cases he
 .rename_i d s2 vO bb;simp only[some.injEq,Prod.mk.injEq]at he;obtain⟨rfl,rfl⟩:=he;obtain⟨cO,g0,g1,g2,Sn,g3,g4,g5,g6,g7,g8⟩:=rv h aq aF bb;obtain⟨ek,bf⟩:=g0.alloc T g3 g4 g5 g6 g7;refine⟨_,_,F,cO,?_,ek,bf⟩;have sR:=EK g2 (λaG e=>vO aG e);simp[Instr.box,newVar,newRow,newObj,Sem.run,sR]
 .cases he
end
end Go.ei
