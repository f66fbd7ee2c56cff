/- Part of a proof that a law returns true for every input. No condition. -/
import Derived.Test.YtngohoaiimbacabGreatDoorFwB
import Derived.Laws.Entries
namespace Go.c_
open List Option Go.IntKind Nat Or
inductive mO where
 |int (k:IntKind)
 |bool
 |str
 |ptr (e:TypeId)
 |slice (e:TypeId)
 |struct (az:List (TypeId×Nat))
 |fn
 |gr (e:TypeId)
 |map (k e:TypeId)
 |other
structure gg where
 k:mO
 sz:Nat
 bytes:Nat
 zero:I
mutual
def flat:I->Option ahz
 | .bool b=>some [.bool b]
 | .int k n=>some [.int k n]
 | .str s=>some [.string ⟨⟨s⟩⟩]
 | .dr=>some [.pointer none]
 | .bf=>some [.slice none 0 0]
 | .agg az=>p8 az
 | .dK .q1=>some [.map none]
 |_=>none
def p8:ahB->Option ahz
 |[]=>some []
 |d::ds=>match flat d,p8 ds with
  |some a,some b=>some (a++b)
  |_,_=>none
end
theorem au.flat {w:World} {F:Nat->Prop}:∀n,(∀(d:I) (cs:ahz) (S:Nat->Prop),SizeOf.sizeOf d<=n->flat d=some cs->au w F d cs S)/\
  (∀(ds:ahB) (cs:ahz) (S:Nat->Prop),SizeOf.sizeOf ds<=n->p8 ds=some cs->aZ w F ds cs S):=by
 intro n;induction n with
 |zero=>exact⟨λd _ _ bR=>by cases d<;>simp at bR<;>omega,λds _ _ bR=>by cases ds<;>simp at bR<;>omega⟩
 |succ n ih=>
  refine⟨λd cs S bR h=>?_,λds cs S bR h=>?_⟩
  .cases d with
   |agg az=>rw[au];exact ih.2 az cs S (by simp at bR;omega) (by simpa [c_.flat]using h)
   |bool b=>simp[c_.flat]at h;subst h;rw[au]
   |int k n=>simp[c_.flat]at h;subst h;rw[au]
   |str s=>simp[c_.flat]at h;subst h;rw[au]
   |dr=>simp[c_.flat]at h;subst h;rw[au]
   |bf=>simp[c_.flat]at h;subst h;rw[au]
   |dK o=>cases o<;>simp[c_.flat]at h;subst h;rw[au];rfl
   |_=>simp[c_.flat]at h
  .cases ds with
   |nil=>simp[p8]at h;subst h;rw[aZ]
   |cons d ds=>
    simp only[p8]at h;split at h
    .rename_i a b bM R;simp at h;subst h;simp at bR;rw[aZ];exact⟨a,b,λ_=>False,λ_=>False,rfl,ih.1 d a _ (by omega) bM,ih.2 ds b _ (by omega) R,λ_ h=>h.elim,λ_ h=>h.elim,λ_ h=>h.elim⟩
    .cases h
def lf:mO->TypeDesc->Prop
 | .int k,.int cI=>k=cI
 | .bool,.bool=>True
 | .str,.string=>True
 | .ptr e,.pointer fV=>e=fV
 | .slice e,.slice fV=>e=fV
 | .struct az,.struct gs=>gs.toList.map (λg=>(g.type,g.offset))=az
 | .fn,.func _ _ _=>True
 | .gr _,.struct _=>True
 | .map k e,.map cI fV=>k=cI/\e=fV
 |_,_=>False
def I8 (P:Program) (t:TypeId) (x:gg):Prop:=
 (∃e n b z,x=⟨.other,e,n,b⟩/\z=0)\/
 ∃i d z,P.info? t=some i/\i.size=x.sz/\i.bytes=x.bytes/\i.zero=some z/\(∀cs,flat x.zero=some cs->z.cells=cs.toArray)/\P.underlying t=some d/\lf x.k d
structure bW where
 P:Program
 T:TypeId->gg
 M:FuncId->List Bool
structure bW.eF (C:bW):Prop where
 ty:∀t,I8 C.P t (C.T t)
 mixed:C.P.follows .mixedOrders=true
inductive bb where
 |t (n:Nat)
 |c (av:I)
 |f (g:FuncId)
def zx:Value->Option I
 | .bool b=>some (.bool b)
 | .int k n=>some (.int k n)
 | .string s=>some (.str s.data.toList)
 | .pointer none=>some .dr
 | .slice none 0 0=>some .bf
 |_=>none
def dt:Operand->Option bb
 | .tmp n=>some (.t n)
 | .const v=>(zx v).map .c
 | .func g=>some (.f g)
 | .global _=>none
def o4 (x:Nat) (d:I):I:=if d.plain then d else .h x []
def bj (s:aw):bb->I
 | .t n=>o4 n (s n)
 | .c av=>av
 | .f g=>.fn g []
theorem aF.nothing {w:World} {F:Nat->Prop} {s:aw} {ay:Nat->Value} {d:I} {v:Value} {S aN:Nat->Prop} (an:d.plain=true) (h:aF w F s ay d v S):aF w F s ay d v aN:=by
 cases d<;>first
  |(rw[aF];trivial)
  |(rw[aF]at h⊢;exact h)
  |(have bc:=(aF.cr rfl).1 h;exact(aF.cr rfl).2 ⟨bc.1,au.plain _ _ _ _ an bc.2⟩)
section
variable {w0 w:World} {F0 X F:Nat->Prop} {S:Nat->Nat->Prop} {s:aw} {ay:Nat->Value} {a:Act}
theorem I9 (s:aw) (x:bb) (ai:∀av,x= .c av->av.plain=true):(bj s x).plain=true:=by
 cases x with
 |t n=>simp only[bj,o4];split<;>first|assumption|rfl
 |c av=>exact ai _ rfl
 |f g=>rfl
theorem Dh {v:Value} {av:I} (h:zx v=some av):av.plain=true:=by
 unfold zx at h;split at h<;>simp at h<;>subst h<;>rfl
theorem fz (h:bx w0 F0 X F S s ay w) (dY:∀t,ay t=a.tmps.getD t undef) {o:Operand} {x:bb} (b1:dt o=some x):
  (bj s x).plain=true/\aF w F s ay (bj s x) (a.eval o) (λ_=>False):=by
 cases o with
 |tmp n=>
  simp[dt]at b1;subst b1;simp only[bj,o4,Act.eval,<-dY];split
  .rename_i an;exact⟨an,aF.nothing an (h.cW n)⟩
  .rename_i an;refine⟨rfl,?_⟩;rw[aF];intro d ae Di;simp only[I.sub,some.injEq]at ae;subst ae;have aY:=hG (q:=[]) rfl (.inl Di);exact⟨_,none,rfl,rfl,((aF.cr aY).1 (h.cW n)).1⟩
 |const v=>
  simp only[dt,map_eq_some_iff]at b1;obtain⟨av,oa,rfl⟩:=b1;refine⟨Dh oa,?_⟩;simp only[bj,Act.eval];unfold zx at oa;split at oa<;>simp at oa<;>subst oa<;>rw[aF,au]<;>exact⟨rfl,rfl⟩
 |func g=>
  simp[dt]at b1;subst b1;refine⟨rfl,?_⟩;simp only[bj,Act.eval];rw[aF];exact⟨#[],rfl,by rw[dP]⟩
 |global g=>simp[dt]at b1
def kR (w0:World) (X F:Nat->Prop) (S:Nat->Nat->Prop) (s:aw) (ay:Nat->Value) (w:World) (av:I) (v:Value):Prop:=
 (av.plain=true/\aF w F s ay av v (λ_=>False))\/
 (av.tree=true/\dz av v/\∃Sn,au w F av (b8 v) Sn/\(∀b,Sn b->b<w.heap.size)/\(∀b,Sn b->¬F b)/\(∀u b,Sn b->¬S u b)/\(∀b,Sn b->X b\/w0.heap.size<=b))
def fin (s:aw) (dst:Option Nat) (av:I):aw:=match dst with
 |none=>s
 |some t=>if av.plain then da s t av else da (lK t s) t av
def mP (ay:Nat->Value) (dst:Option Nat) (v:Value):Nat->Value:=match dst with
 |none=>ay
 |some t=>da ay t v
theorem bx.fin (h:bx w0 F0 X F S s ay w) {av:I} {v:Value} (aI:kR w0 X F S s ay w av v) (dst:Option Nat):
  ∃aN,bx w0 F0 X F aN (c_.fin s dst av) (mP ay dst v) w:=by
 cases dst with
 |none=>exact⟨S,h⟩
 |some t=>
  simp only[c_.fin,mP];rcases aI with⟨an,ae⟩|⟨aY,U,Sn,ab,ad,aC,aW,bu⟩
  .rw[if_pos an];exact⟨_,h.ug an ae⟩
  .split
   .rename_i an;exact⟨_,h.ug an ((aF.cr aY).2 ⟨U,au.plain _ _ _ _ an ab⟩)⟩
   .exact⟨_,h.I3 aY U ab ad aC (λu b _ R=>aW u b R) bu⟩
def cH (s:aw):I->Option (I×aw)
 | .h x q=>match I.sub q (s x)with
   |some d=>if d.plain then none else some (d,da (hM x s) x (I.put q d.cS (s x)))
   |none=>none
 | .an _ _=>none
 | .R _ _=>none
 | .fn _ _=>none
 | .hole=>none
 |d=>some (d,s)
def I.owner:I->Option Nat
 | .h x _=>some x
 |_=>none
def ku:Option Nat->I->I
 |some x,d=>b6 x d
 |none,d=>d
theorem o5 (h:bx w0 F0 X F S s ay w) {av d:I} {s1:aw} {v:Value} (oa:av.plain=true) (aI:aF w F s ay av v (λ_=>False)) (aY:cH s av=some (d,s1)):
  ∃b3,bx w0 F0 X F b3 s1 ay w/\d.tree=true/\dz d v/\∃Sn,au w F d (b8 v) Sn/\(∀b,Sn b->b<w.heap.size)/\(∀b,Sn b->¬F b)/\(∀u b,Sn b->¬b3 u b)/\(∀b,Sn b->X b\/w0.heap.size<=b)/\
   (∀u b,b3 u b->S u b)/\(∀b,Sn b->∃u,S u b)/\(∀(bp:I) (fX:Value) (aN:Nat->Prop),aF w F s ay bp fX aN->aF w F s1 ay (ku av.owner bp) fX aN):=by
 have tree:∀d:I,d.tree=true->d.plain=true->aF w F s ay d v (λ_=>False)->
   ∃b3,bx w0 F0 X F b3 s ay w/\d.tree=true/\dz d v/\∃Sn,au w F d (b8 v) Sn/\(∀b,Sn b->b<w.heap.size)/\(∀b,Sn b->¬F b)/\(∀u b,Sn b->¬b3 u b)/\(∀b,Sn b->X b\/w0.heap.size<=b)/\
    (∀u b,b3 u b->S u b)/\(∀b,Sn b->∃u,S u b):=by
  intro d ae _ bc;have bc:=(aF.cr ae).1 bc;exact⟨S,h,ae,bc.1,_,bc.2,λ_ h=>h.elim,λ_ h=>h.elim,λ_ _ h=>h.elim,λ_ h=>h.elim,λ_ _ h=>h,λ_ h=>h.elim⟩
 cases av with
 |h x q=>
  simp only[cH]at aY;split at aY
  .rename_i e he;split at aY
   .cases aY
   .rename_i an;simp only[some.injEq,Prod.mk.injEq]at aY;obtain⟨rfl,rfl⟩:=aY;have an:e.plain=false:=by simpa using an
    obtain⟨Sn,e5,cD,cB,dm,a7,db,bJ,cJ,dA,eG⟩:=h.take he an;rw[aF]at aI;obtain⟨afM,a2,g1,g2,g3⟩:=aI e he an;rw[a7]at g1;simp only[some.injEq,Prod.mk.injEq,true_and]at g1;obtain⟨rfl,rfl⟩:=g1;have Dj:e.tree=true:=by cases e<;>first|rfl|(simp[I.plain]at an)
    refine⟨_,dm,Dj,g3,e5,by rw[g2];exact db,λb R=>h.et x b (bJ b R),λb R=>h.fg x b (bJ b R),?_,λb R=>h.dy x b (bJ b R),?_,λb R=>⟨x,bJ b R⟩,eG⟩
    .intro u b R hu;simp only[fP]at hu;split at hu
     .exact dA b R hu
     .rename_i Qk;exact h.eT u x b Qk hu (bJ b R)
    .intro u b hu;simp only[fP]at hu;split at hu
     .rename_i e;subst e;exact cJ b hu
     .exact hu
  .cases aY
 |an x q=>simp[cH]at aY
 |R x q=>simp[cH]at aY
 |fn f c=>simp[cH]at aY
 |hole=>simp[cH]at aY
 |ao sz xs=>simp[I.plain]at oa
 |a1 d=>simp[I.plain]at oa
 |_=>
  simp only[cH,some.injEq,Prod.mk.injEq]at aY;obtain⟨rfl,rfl⟩:=aY;obtain⟨b3,t1,t2,t3,Sn,t4,t5,t6,t7,t8,t9,t10⟩:=tree _ rfl oa aI;exact⟨b3,t1,t2,t3,Sn,t4,t5,t6,t7,t8,t9,t10,λ_ _ _ h=>h⟩
def loc (s:aw):I->Option (Nat×ahw)
 | .h x q=>match I.sub q (s x)with
   |some (.a1 _)=>some (x,q++[0])
   |_=>none
 | .an x q=>if I.fm q (s x)then some (x,q)else none
 |_=>none
theorem wu:∀(q:ahw) (av d:I) (r:ahw),I.sub q av=some d->I.sub (q++r) av=I.sub r d:=by
 intro q;induction q with
 |nil=>intro av d r h;simp[I.sub]at h;subst h;rfl
 |cons k q ih=>
  intro av d r h;cases av with
  |agg az=>
   simp only[I.sub,cons_append]at h⊢;split at h
   .rename_i x ar;exact ih _ _ _ h
   .cases h
  |tuple az=>
   simp only[I.sub,cons_append]at h⊢;split at h
   .rename_i x ar;exact ih _ _ _ h
   .cases h
  |ao sz az=>
   simp only[I.sub,cons_append]at h⊢;split at h
   .rename_i x ar;exact ih _ _ _ h
   .cases h
  |a1 x=>
   cases k with
   |zero=>simp only[I.sub,cons_append]at h⊢;exact ih _ _ _ h
   |succ k=>simp[I.sub]at h
  |_=>simp[I.sub]at h
theorem Ql:∀(q:ahw) (av d:I) (r:ahw),I.sub q av=some d->I.fm (q++r) av=(I.fm q av||I.fm r d):=by
 intro q;induction q with
 |nil=>intro av d r h;simp[I.sub]at h;subst h;simp[I.fm]
 |cons k q ih=>
  intro av d r h;cases av with
  |agg az=>
   simp only[I.sub]at h;split at h
   .rename_i x ar;simp only[I.fm,cons_append,ar];exact ih _ _ r h
   .cases h
  |tuple az=>
   simp only[I.sub]at h;split at h
   .rename_i x ar;simp only[I.fm,cons_append,ar];exact ih _ _ r h
   .cases h
  |ao sz az=>simp[I.fm]
  |a1 x=>simp[I.fm]
  |_=>simp[I.sub]at h
theorem wv (w:World):∀(q:ahw) (av d:I) (cs cD:ahz) (a cB:Option (Nat×Nat)) (r:ahw),dc w q av cs a=some (d,cD,cB)->dc w (q++r) av cs a=dc w r d cD cB:=by
 intro q;induction q with
 |nil=>intro av d cs cD a cB r h;simp[dc]at h;obtain⟨rfl,rfl,rfl⟩:=h;rfl
 |cons k q ih=>
  intro av d cs cD a cB r h;cases av with
  |agg az=>
   rw[cons_append];rw[dc]at h⊢;split at h
   .rename_i x ar;exact ih _ _ _ _ _ _ _ h
   .cases h
  |tuple az=>
   rw[cons_append];rw[dc]at h⊢;split at h
   .rename_i x ar;exact ih _ _ _ _ _ _ _ h
   .cases h
  |ao sz az=>
   rw[cons_append];rw[dc.eq_def]at h⊢;simp only at h⊢;split at h
   .exact ih _ _ _ _ _ _ _ h
   .cases h
  |a1 x=>
   cases k with
   |zero=>
    rw[cons_append];rw[dc.eq_def]at h⊢;simp only at h⊢;split at h
    .exact ih _ _ _ _ _ _ _ h
    .cases h
   |succ k=>rw[show dc w ((k+1)::q) (.a1 x) cs a=none from rfl]at h;cases h
  |_=>simp[dc]at h
end
def gg.ok (x:gg):Bool:=match x.k with
 | .other=>false
 |_=>true
theorem bW.eF.info {C:bW} (bk:C.eF) {t:TypeId} (h:(C.T t).ok=true):
  ∃i d z,C.P.info? t=some i/\i.size=(C.T t).sz/\i.bytes=(C.T t).bytes/\i.zero=some z/\(∀cs,flat (C.T t).zero=some cs->z.cells=cs.toArray)/\C.P.underlying t=some d/\lf (C.T t).k d:=by
 rcases bk.ty t with⟨e,n,b,z,ar,_⟩|bc
 .rw[ar]at h;simp[gg.ok]at h
 .exact bc
theorem fZ {x:gg} {k:mO} (h:x.k=k) (aq:k≠.other):x.ok=true:=by
 unfold gg.ok;rw[h];cases k<;>first|rfl|exact(aq rfl).elim
theorem wx {d:TypeDesc} {az:List (TypeId×Nat)} (h:lf (.struct az) d):∃gs,d= .struct gs/\gs.toList.map (λg=>(g.type,g.offset))=az:=by
 cases d<;>simp[lf]at h;exact⟨_,rfl,h⟩
theorem lM {d:TypeDesc} {e:TypeId} (h:lf (.slice e) d):d= .slice e:=by
 cases d<;>simp[lf]at h;rw[h]
theorem zy {d:TypeDesc} {k:IntKind} (h:lf (.int k) d):d= .int k:=by
 cases d<;>simp[lf]at h;rw[h]
theorem o6 {d:TypeDesc} (h:lf .str d):d= .string:=by
 cases d<;>simp[lf]at h;rfl
theorem Dk {d:TypeDesc} (h:lf .bool d):d= .bool:=by
 cases d<;>simp[lf]at h;rfl
theorem I_ {d:TypeDesc} {e:TypeId} (h:lf (.ptr e) d):d= .pointer e:=by
 cases d<;>simp[lf]at h;rw[h]
theorem gz {v:Value} (h:Value.fY v=true):b8 v=[v]:=by
 cases v<;>first|rfl|(simp[Value.fY]at h)
theorem wy {P:Program} {t:TypeId} {i:TypeInfo} (h:P.info? t=some i) (w:World):(typeInfo t).run P w= .ok i w:=by simp[typeInfo,h]
theorem kv {P:Program} {t:TypeId} {i:TypeInfo} (h:P.info? t=some i) (w:World):(Go.sizeOf t).run P w= .ok i.size w:=by simp[Go.sizeOf,wy h]
theorem so {P:Program} {t:TypeId} {i:TypeInfo} {z:Value} (h:P.info? t=some i) (bR:i.zero=some z) (w:World):(zeroValue t).run P w= .ok z w:=by simp[zeroValue,wy h,bR]
section
variable {C:bW} {w0 w:World} {F0 X F:Nat->Prop} {S:Nat->Nat->Prop} {s s1:aw} {ay:Nat->Value} {av:I}
def Good (C:bW) (w0:World) (F0 X:Nat->Prop) (ay:Nat->Value) (w:World) (m:Sem Value) (av:I) (s1:aw):Prop:=
 ∃v aD bE aN,m.run C.P w= .ok v aD/\bx w0 F0 X bE aN s1 ay aD/\kR w0 X bE aN s1 ay aD av v
theorem Good.same (h:bx w0 F0 X F S s ay w) {m:Sem Value} {v:Value} (aH:m.run C.P w= .ok v w) (an:av.plain=true) (aI:aF w F s ay av v (λ_=>False)):Good C w0 F0 X ay w m av s:=
 ⟨v,w,F,S,aH,h,.inl ⟨an,aI⟩⟩
theorem Dl (_h:bx w0 F0 X F S s ay w) {x:I} {v:Value} (aI:aF w F s ay x v (λ_=>False)) {y:Nat} {q:ahw} (hl:loc s x=some (y,q)) {d:I} (ae:I.sub q (s y)=some d):
  I.fm q (s y)=true/\∃cD b o,v= .pointer (some ⟨b,o,none⟩)/\dc w q (s y) (b8 (ay y)) none=some (d,cD,some (b,o)):=by
 cases x with
 |h z zz=>
  simp only[loc]at hl;split at hl
  .rename_i e he;simp only[some.injEq,Prod.mk.injEq]at hl;obtain⟨rfl,rfl⟩:=hl;rw[aF]at aI;obtain⟨cD,a,g1,g2,g3⟩:=aI _ he rfl;have gV:e=d:=by
    rw[wu _ _ _ _ he]at ae;simpa [I.sub]using ae
   subst gV;refine⟨by rw[Ql _ _ _ _ he];simp[I.fm],?_⟩;have ab:Value.fY v=true:=g3;rw[gz ab]at g2;subst g2;have kt:=wv w zz (s z) _ _ _ none a [0] g1;have ar:=_h.cW z;rw[aF.cr (hG he (.inl rfl))]at ar;obtain⟨fO,cB,dW,e5,k0,bN,cc,eB,dB,e6⟩:=ctx zz (s z) (b8 (ay z)) (S z) none _ ar.2 he;rw[k0]at g1;simp only[some.injEq,Prod.mk.injEq,true_and]at g1;obtain⟨rfl,rfl⟩:=g1;rw[au]at dB;obtain⟨b,cur,aT,fr,dh,aR,_⟩:=dB;simp only[cons.injEq,and_true]at aR;subst aR;exact⟨_,b,0,rfl,by rw[kt];rfl⟩
  .cases hl
 |an z zz=>
  simp only[loc]at hl;split at hl
  .rename_i ai;simp only[some.injEq,Prod.mk.injEq]at hl;obtain⟨rfl,rfl⟩:=hl;rw[aF]at aI;obtain⟨cD,b,o,g1,g2⟩:=aI _ ae ai;exact⟨ai,cD,b,o,g2,g1⟩
  .cases hl
 |_=>simp[loc]at hl
def gW (C:bW) (s:aw) (T:TypeId) (x:I) (k:Nat):Option I:=
 match(C.T T).k with
 | .struct az=>match az[k]? with
   |some (jE,off)=>if(C.T jE).ok=true/\(C.T jE).sz≠0 then
     match x with
     | .ref (.agg ds)=>match ds[k]? with
       |some d=>if I.dT (ds.take k)=off then some (.ref d)else none
       |none=>none
     | .R y o=>if(s y).plain then none else some (.R y (o+off))
     |x=>match loc s x with
      |some (y,q)=>match I.sub q (s y)with
       |some (.agg ds)=>if k<ds.length/\I.dT (ds.take k)=off then some (.an y (q++[k]))else none
       |_=>none
      |none=>none
    else none
   |none=>none
 |_=>none
theorem hE.Dm {w:World} {b o:Nat} {b2 fN c2:ahz} (h:hE w b o (b2++(fN++c2))):hE w b (o+b2.length) fN:=by
 intro j c bQ;have ei:j<fN.length:=(List.getElem?_eq_some_iff.1 bQ).1;have:=h (b2.length+j) c (by rw[getElem?_append_right (by omega),getElem?_append_left (by omega),<-bQ];congr 1;omega);rw[Nat.add_assoc];exact this
theorem Dn (bk:C.eF) {T jE:TypeId} {az:List (TypeId×Nat)} {k off:Nat} (aq:(C.T T).k= .struct az) (bd:az[k]? =some (jE,off)) (ab:(C.T jE).ok=true) (ad:(C.T jE).sz≠0) (b o:Nat) (w:World):
  (Instr.fieldAt T (.pointer (some ⟨b,o,none⟩)) k).run C.P w= .ok (.pointer (some ⟨b,o+off,none⟩)) w:=by
 obtain⟨i,d,z,aP,aT,aR,b4,cz,bV,bF⟩:=bk.info (fZ aq (by simp));rw[aq]at bF;obtain⟨gs,rfl,gL⟩:=wx bF;obtain⟨p9,bp,p_,f1,f2,f3,f4,f5,f6,f7⟩:=bk.info ab;have hg:∃g,gs[k]? =some g/\g.type=jE/\g.offset=off:=by
  rw[<-gL,getElem?_map]at bd;simp only[map_eq_some_iff,Prod.mk.injEq]at bd;obtain⟨g,ab,ad,aC⟩:=bd;exact⟨g,by simpa using ab,ad,aC⟩
 obtain⟨g,g1,rfl,rfl⟩:=hg;simp[Instr.fieldAt,run_underlying bV,g1,Instr.sureAddr,fieldPlace,kv f1,f2,ad,Addr.add_lit]
theorem Qm (bk:C.eF) (h:bx w0 F0 X F S s ay w) {T:TypeId} {x:I} {v:Value} {k:Nat} (ar:x.plain=true) (aI:aF w F s ay x v (λ_=>False)) (he:gW C s T x k=some av):
  Good C w0 F0 X ay w (Instr.fieldAt T v k) av s:=by
 unfold gW at he;split at he
 .rename_i az aq;split at he
  .rename_i jE off bd;split at he
   .rename_i ui;split at he
    .rename_i ds;split at he
     .rename_i d ae;split at he
      .rename_i o7;simp only[some.injEq]at he;subst he;have l8:=(aF.cr rfl).1 aI;rw[au]at l8;obtain⟨U,b,o,eh,ab,ad,aC,aW⟩:=l8;rw[gz U]at ab;simp only[cons.injEq,and_true]at ab;subst ab;rw[au]at aW;obtain⟨b2,fN,c2,b3,hF,rfl,hr,fl,gJ,h3,fU,l7⟩:=aZ.pick ds _ _ k d aW ae;refine Good.same h (Dn bk aq bd ui.1 ui.2 b o w) rfl ((aF.cr rfl).2 ⟨rfl,?_⟩);rw[au];refine⟨b,o+off,fN,rfl,ad,?_,au.mono (λ_ h=>h) _ _ _ _ (λb R=>gJ b R) fU⟩;rw[<-o7,<-hr];exact aC.Dm
      .cases he
     .cases he
    .rename_i y o;split at he
     .cases he
     .rename_i an;simp only[some.injEq]at he;subst he;rw[aF]at aI;obtain⟨b,cur,e,fr,rfl,ad,aC,aW⟩:=aI (by simpa using an);refine Good.same h (Dn bk aq bd ui.1 ui.2 b o w) rfl ?_;rw[aF];exact λ_=>⟨b,cur,e,fr,rfl,ad,aC,aW⟩
    .rename_i x _ _;split at he
     .rename_i y q hl;split at he
      .rename_i ds ae;split at he
       .rename_i o7;simp only[some.injEq]at he;subst he;obtain⟨ai,cD,b,o,rfl,kt⟩:=Dl h aI hl ae;refine Good.same h (Dn bk aq bd ui.1 ui.2 b o w) rfl ?_;rw[aF];intro d2 hN mu;rw[wv w q _ _ _ _ _ _ [k] kt];rw[wu _ _ _ _ ae]at hN;have ob:∃d3,ds[k]? =some d3:=⟨_,getElem?_eq_getElem o7.1⟩
        obtain⟨d3,wz⟩:=ob;simp only[I.sub,wz,some.injEq]at hN;subst hN;simp only[dc,wz];refine⟨(cD.drop off).take d3.wd,b,o+off,?_,rfl⟩;rw[o7.2];rfl
       .cases he
      .cases he
     .cases he
   .cases he
  .cases he
 .cases he
def iz (C:bW) (s:aw) (T:TypeId) (x i:I):Option I:=
 match(C.T T).k,i with
 | .slice e,.int _ n=>if 0<=n/\(C.T e).ok=true then
   match x with
   | .slice xs=>match xs[n.toNat]? with
     |some d=>if d.wd=(C.T e).sz then some (.ref d)else none
     |none=>none
   | .h y q=>match I.sub q (s y)with
     |some (.ao sz xs)=>if n.toNat<xs.length/\sz=(C.T e).sz then some (.an y (q++[n.toNat]))else none
     |_=>none
   |_=>none
   else none
 |_,_=>none
theorem Ja (bk:C.eF) {T e:TypeId} (aq:(C.T T).k= .slice e) (he:(C.T e).ok=true) (b o len cap:Nat) (k:IntKind) (n:Nat) (aU:n<len) (w:World):
  (Instr.indexAt T (.slice (some ⟨b,o,none⟩) len cap) (.int k n)).run C.P w= .ok (.pointer (some ⟨b,o+n*(C.T e).sz,none⟩)) w:=by
 obtain⟨i,d,z,aP,aT,aR,b4,cz,bV,bF⟩:=bk.info (fZ aq (by simp));rw[aq]at bF;have:=lM bF;subst this;obtain⟨p9,bp,p_,f1,f2,f3,f4,f5,f6,f7⟩:=bk.info he;simp[Instr.indexAt,run_underlying bV,asIntOf,aU,kv f1,f2,Addr.add_lit]
theorem Qn (bk:C.eF) (h:bx w0 F0 X F S s ay w) {T:TypeId} {x i:I} {v nt:Value} (aI:aF w F s ay x v (λ_=>False)) (Qo:aF w F s ay i nt (λ_=>False))
  (he:iz C s T x i=some av):Good C w0 F0 X ay w (Instr.indexAt T v nt) av s:=by
 unfold iz at he;split at he
 .rename_i e k n aq;have Dp:=(aF.cr rfl).1 Qo;rw[au,gz Dp.1]at Dp;have:nt= .int k n:=by simpa using Dp.2
  subst this;split at he
  .rename_i aU;obtain⟨n,rfl⟩:=Int.eq_ofNat_of_zero_le aU.1;simp only[Int.toNat_natCast]at he;split at he
   .rename_i xs;split at he
    .rename_i d ae;split at he
     .rename_i hw;simp only[some.injEq]at he;subst he;have l8:=(aF.cr rfl).1 aI;rw[au,gz l8.1]at l8;obtain⟨U,⟨rfl,_⟩|⟨b,o,cap,eh,sz,ab,ad,aC,aW,bu,cy,cl⟩⟩:=l8
      .simp at ae
      .simp only[cons.injEq,and_true]at ab;subst ab;have ei:n<xs.length:=(List.getElem?_eq_some_iff.1 ae).1;obtain⟨b2,fN,c2,b3,hF,rfl,hr,fl,gJ,h3,fU,l7⟩:=aZ.pick xs _ _ n d cl ae;refine Good.same h (Ja bk aq aU.2 b o _ _ k n ei w) rfl ((aF.cr rfl).2 ⟨rfl,?_⟩);rw[au];refine⟨b,_,fN,rfl,ad,?_,au.mono (λ_ h=>h) _ _ _ _ (λb R=>gJ b R) fU⟩;have Qp:=bu d (mem_of_getElem? ae);have:n*(C.T e).sz=b2.length:=by
        rw[hr,sj _ (λd ae=>bu d (mem_of_mem_take ae)),length_take,Nat.min_eq_left (by omega),<-hw,Qp]
       rw[this];exact cy.Dm
     .cases he
    .cases he
   .rename_i y q;split at he
    .rename_i sz xs ae;split at he
     .rename_i hw;simp only[some.injEq]at he;subst he;rw[aF]at aI;obtain⟨cD,a,g1,g2,g3⟩:=aI _ ae rfl;have U:Value.fY v=true:=g3;rw[gz U]at g2;subst g2;have ar:=h.cW y;rw[aF.cr (hG ae (.inl rfl))]at ar;obtain⟨fO,cB,dW,e5,k0,bN,cc,eB,dB,e6⟩:=ctx q (s y) (b8 (ay y)) (S y) none _ ar.2 ae;rw[k0]at g1;simp only[some.injEq,Prod.mk.injEq,true_and]at g1;obtain⟨rfl,rfl⟩:=g1;rw[au]at dB;rcases dB with⟨rfl,_⟩|⟨b,cap,cur,aT,fr,dh,aR,_⟩
      .simp at hw
      .simp only[cons.injEq,and_true]at aR;subst aR;refine Good.same h (Ja bk aq aU.2 b 0 _ _ k n hw.1 w) rfl ?_;rw[aF];intro d2 hN _;rw[wv w q _ _ _ _ _ _ [n] k0];rw[wu _ _ _ _ ae]at hN;obtain⟨d3,wz⟩:∃d3,xs[n]? =some d3:=⟨_,getElem?_eq_getElem hw.1⟩
       simp only[I.sub,wz,some.injEq]at hN;subst hN;simp only[dc,wz];exact⟨_,b,n*sz,rfl,by simp[hw.2]⟩
     .cases he
    .cases he
   .cases he
  .cases he
 .cases he
end
section
variable {C:bW} {w0 w:World} {F0 X F:Nat->Prop} {S:Nat->Nat->Prop} {s s1:aw} {ay:Nat->Value} {av:I}
theorem Jb (bk:C.eF) {T:TypeId} {az:List (TypeId×Nat)} (aq:(C.T T).k= .struct az) (w:World):(isAgg T).run C.P w= .ok true w:=by
 obtain⟨i,d,z,aP,aT,aR,b4,cz,bV,bF⟩:=bk.info (fZ aq (by simp));rw[aq]at bF;obtain⟨gs,rfl,_⟩:=wx bF;simp[isAgg,run_underlying bV]
def gg.flat (x:gg):Bool:=match x.k with
 | .other=>false
 | .gr _=>false
 | .struct _=>false
 |_=>true
theorem Jc {x:gg} (h:x.flat=true):x.ok=true:=by
 unfold gg.flat at h;unfold gg.ok;revert h;cases x.k<;>simp
theorem Dq (bk:C.eF) {T:TypeId} (aq:(C.T T).flat=true) (w:World):(isAgg T).run C.P w= .ok false w:=by
 obtain⟨i,d,z,aP,aT,aR,b4,cz,bV,bF⟩:=bk.info (Jc aq);have cO:(∀az,d≠.struct az)/\(∀n e,d≠.array n e):=by
  clear bV;unfold gg.flat at aq;generalize (C.T T).k=kx at*;cases kx<;>cases d<;>simp[lf]at bF aq⊢
 cases d<;>first|exact(cO.1 _ rfl).elim|exact(cO.2 _ _ rfl).elim|simp[isAgg,run_underlying bV]
theorem hE.one {w:World} {b o:Nat} {v:Value} (h:hE w b o [v]):w.cell? ⟨b,o,none⟩=some v:=by simpa using h 0 v rfl
theorem Jd {P:Program} {b o:Nat}:∀(cs:ahz) (i:Nat) (acc:Array Value),hE w b (o+i) cs->(loadCellsFrom ⟨b,o,none⟩ i cs.length acc).run P w= .ok (acc++cs.toArray) w
 |[],i,acc,_=>by simp[loadCellsFrom]
 |c::cs,i,acc,h=>by
  have aV:w.cell? ⟨b,o+i,none⟩=some c:=by simpa using h 0 c rfl
  have ab:hE w b (o+(i+1)) cs:=by
   intro j x bQ;have:=h (j+1) x (by simpa using bQ);rw[<-this];congr 2;omega
  have ih:=Jd (P:=P) cs (i+1) (acc.push c) ab;simp only[length_cons,loadCellsFrom,Sem.run_bind,Go.load,Sem.run,Addr.add_lit,aV,Result.andThen];rw[ih];simp
theorem Qq (bk:C.eF) {T:TypeId} {az:List (TypeId×Nat)} (aq:(C.T T).k= .struct az) {b o:Nat} {cs:ahz} (h:hE w b o cs) (hl:cs.length=(C.T T).sz):
  (loadVar T ⟨b,o,none⟩).run C.P w= .ok (.agg cs.toArray) w:=by
 obtain⟨i,d,z,aP,aT,aR,b4,cz,bV,bF⟩:=bk.info (fZ aq (by simp));have:=Jd (P:=C.P) (b:=b) (o:=o) cs 0 #[] (by simpa using h);simp only[loadVar,Sem.run_bind,Jb bk aq,Result.andThen,if_true,kv aP,aT,<-hl,loadCells,this];simp
theorem Je (bk:C.eF) {T:TypeId} (aq:(C.T T).flat=true) {b o:Nat} {v:Value} (h:hE w b o [v]):
  (loadVar T ⟨b,o,none⟩).run C.P w= .ok v w:=by
 simp[loadVar,Dq bk aq,Go.load,Sem.run,h.one]
def fits (C:bW) (T:TypeId) (d:I):Bool:=match(C.T T).k,d with
    | .struct _,.agg ds=>I.dT ds==(C.T T).sz
    | .struct _,_=>false
    |_,.agg _=>false
    |_,.tuple _=>false
    |_,_=>(C.T T).flat
def zA:ahB->Nat->Nat->Option Nat
 |[],_,_=>none
 |d::ds,i,k=>if k=0 then some i else if d.wd<=k then zA ds (i+1) (k-d.wd)else none
def e3 (C:bW) (s:aw) (T:TypeId) (x:I):Option I:=
 match x with
 | .ref d=>if fits C T d=true then some d else none
 | .R y k=>match s y with
   | .agg ds=>if I.dU ds then none else match zA ds 0 k with
     |some i=>match ds[i]? with
      |some d=>if I.dT (ds.take i)=k/\fits C T d=true then some (if d.plain then d else .h y [i])else none
      |none=>none
     |none=>none
   |_=>none
 |x=>match loc s x with
  |some (y,q)=>match I.sub q (s y)with
   |some d=>if fits C T d=true then some (if d.plain then d else .h y q)else none
   |none=>none
  |none=>none
theorem au.one {F:Nat->Prop} {d:I} {cs:ahz} {S:Nat->Prop} (h:au w F d cs S) (ab:∀az,d≠.agg az) (ad:∀az,d≠.tuple az):∃v,cs=[v]/\Value.fY v=true:=by
 cases d with
 |hole=>rw[au]at h;obtain⟨v,h,rfl⟩:=h;exact⟨v,rfl,h⟩
 |fw=>rw[au]at h;obtain⟨v,rfl⟩:=h;exact⟨_,rfl,rfl⟩
 |slice xs=>rw[au]at h;rcases h with⟨_,a,c,rfl,_⟩|⟨b,o,cap,eh,sz,rfl,_⟩<;>exact⟨_,rfl,rfl⟩
 |ao sz xs=>rw[au]at h;rcases h with⟨_,_,rfl⟩|⟨b,cap,cur,e,fr,dy,rfl,_⟩<;>exact⟨_,rfl,rfl⟩
 |ref d=>rw[au]at h;obtain⟨b,o,eh,rfl,_⟩:=h;exact⟨_,rfl,rfl⟩
 |a1 d=>rw[au]at h;obtain⟨b,cur,e,fr,dy,rfl,_⟩:=h;exact⟨_,rfl,rfl⟩
 |agg az=>exact(ab _ rfl).elim
 |tuple az=>exact(ad _ rfl).elim
 |fn _ _=>rw[au]at h;obtain⟨arr,rfl,_⟩:=h;exact⟨_,rfl,rfl⟩
 |h _ _=>rw[au]at h;exact h.elim
 |an _ _=>rw[au]at h;exact h.elim
 |R _ _=>rw[au]at h;exact h.elim
 |dK _=>rw[au]at h;obtain⟨v,h9,rfl⟩:=lI.one h;exact⟨v,rfl,h9⟩
 |fD _ _=>rw[au]at h;obtain⟨arr,rfl,_⟩:=h;exact⟨_,rfl,rfl⟩
 |_=>rw[au]at h;subst h;exact⟨_,rfl,rfl⟩
theorem I.zB {d:I} (h:d.single=true):(∀az,d≠.agg az)/\∀az,d≠.tuple az:=
 ⟨λaz e=>(by subst e;cases h),λaz e=>(by subst e;cases h)⟩
theorem aF.nu {F:Nat->Prop} {s:aw} {ay:Nat->Value} {d:I} {v:Value} (aY:d.tree=true) (U:d.single=true) (h:au w F d [v] (λ_=>False)):aF w F s ay d v (λ_=>False):=by
 obtain⟨fX,e,ab⟩:=au.one h (I.zB U).1 (I.zB U).2;have:v=fX:=by simpa using e
 subst this;refine(aF.cr aY).2 ⟨?_,by rw[gz ab];exact h⟩;cases d<;>first|exact ab|cases U
mutual
theorem aF.o8 {F:Nat->Prop} {s:aw} {ay:Nat->Value}:∀(d:I) (v:Value),d.single=true->au w F d [v] (λ_=>False)->aF w F s ay d v (λ_=>False)
 | .fn f caps,v,_,h=>by
   rw[au]at h;obtain⟨arr,ab,ad,aC⟩:=h;rw[aF];exact⟨arr,by simpa using ab,dP.o8 caps _ ad aC⟩
 | .bool b,v,U,h=>aF.nu rfl U h
 | .fw,v,U,h=>aF.nu rfl U h
 | .int k n,v,U,h=>aF.nu rfl U h
 | .str x,v,U,h=>aF.nu rfl U h
 | .dr,v,U,h=>aF.nu rfl U h
 | .bf,v,U,h=>aF.nu rfl U h
 | .slice xs,v,U,h=>aF.nu rfl U h
 | .ao sz xs,v,U,h=>aF.nu rfl U h
 | .ref d,v,U,h=>aF.nu rfl U h
 | .a1 d,v,U,h=>aF.nu rfl U h
 | .h _ _,v,_,h=>by rw[au]at h;exact h.elim
 | .an _ _,v,_,h=>by rw[au]at h;exact h.elim
 | .R _ _,v,_,h=>by rw[au]at h;exact h.elim
 | .dK _,v,U,h=>aF.nu rfl U h
 | .fD _ _,v,U,h=>aF.nu rfl U h
theorem dP.o8 {F:Nat->Prop} {s:aw} {ay:Nat->Value}:∀(ds:ahB) (vs:ahz),(∀d∈ds,d.single=true)->aZ w F ds vs (λ_=>False)->dP w F s ay ds vs
 |[],vs,_,h=>by rw[aZ]at h;rw[dP];exact h
 |d::ds,vs,U,h=>by
  rw[aZ]at h;obtain⟨b2,c2,b3,dh,rfl,ad,aC,aW,bu,_⟩:=h;have ae:=U d (by simp);obtain⟨v,rfl,_⟩:=au.one ad (I.zB ae).1 (I.zB ae).2;rw[dP];exact⟨v,c2,rfl,aF.o8 d v ae (au.mono (λ_ h=>h) _ _ _ _ (λb R=>aW b R) ad),dP.o8 ds c2 (λx ar=>U x (by simp[ar])) (aZ.mono (λ_ h=>h) _ _ _ _ (λb R=>bu b R) aC)⟩
end
theorem zC (bk:C.eF) {T:TypeId} {d:I} {b o:Nat} {cs:ahz} {S:Nat->Prop} (h:hE w b o cs) (ae:au w F d cs S)
  (h_:fits C T d=true):
  ∃v,(loadVar T ⟨b,o,none⟩).run C.P w= .ok v w/\b8 v=cs/\dz d v:=by
 unfold fits at h_;by_cases U:∃az,(C.T T).k= .struct az
 .obtain⟨az,aq⟩:=U;rw[aq]at h_;cases d with
  |agg ds=>
   simp only[beq_iff_eq]at h_;refine⟨_,Qq bk aq h ((au.length _ _ _ ae).trans h_),rfl,⟨_,rfl⟩⟩
  |_=>simp at h_
 .have jP:(C.T T).flat=true/\(∀az,d≠.agg az)/\(∀az,d≠.tuple az):=by
   revert h_ U;cases aq:(C.T T).k<;>cases d<;>simp
  obtain⟨v,rfl,ab⟩:=au.one ae jP.2.1 jP.2.2;refine⟨v,Je bk jP.1 h,gz ab,?_⟩;cases d<;>first|exact ab|exact(jP.2.1 _ rfl).elim|exact(jP.2.2 _ rfl).elim
theorem Qr (bk:C.eF) {T:TypeId} {d:I} {off:Nat} {arr:Array Value} {b2 cs c2:ahz} {S:Nat->Prop} (he:arr.toList=b2++(cs++c2)) (b1:b2.length=off) (ae:au w F d cs S)
  (h_:fits C T d=true):
  ∃v,(part T arr off).run C.P w= .ok v w/\b8 v=cs/\dz d v:=by
 unfold fits at h_;by_cases U:∃az,(C.T T).k= .struct az
 .obtain⟨az,aq⟩:=U;rw[aq]at h_;cases d with
  |agg ds=>
   simp only[beq_iff_eq]at h_;obtain⟨i,d,z,aP,aT,aR,b4,cz,bV,bF⟩:=bk.info (fZ aq (by simp));have hl:cs.length=(C.T T).sz:=(au.length _ _ _ ae).trans h_;have ar:(arr.extract off (off+(C.T T).sz)).toList=cs:=by
    rw[Array.toList_extract,he,extract_eq_take_drop,<-hl,<-b1,Nat.add_sub_cancel_left,drop_left,take_left]
   refine⟨.agg (arr.extract off (off+(C.T T).sz)),?_,by simpa [b8,hs]using ar,⟨_,rfl⟩⟩;simp[part,Jb bk aq,kv aP,aT]
  |_=>simp at h_
 .have jP:(C.T T).flat=true/\(∀az,d≠.agg az)/\(∀az,d≠.tuple az):=by
   revert h_ U;cases aq:(C.T T).k<;>cases d<;>simp
  obtain⟨v,rfl,ab⟩:=au.one ae jP.2.1 jP.2.2;have hg:arr[off]? =some v:=by
   rw[<-Array.getElem?_toList,he,<-b1,getElem?_append_right (Nat.le_refl _)];simp
  refine⟨v,?_,gz ab,?_⟩
  .simp[part,Dq bk jP.1,hg]
  .cases d<;>first|exact ab|exact(jP.2.1 _ rfl).elim|exact(jP.2.2 _ rfl).elim
theorem Qs (bk:C.eF) (h:bx w0 F0 X F S s ay w) {T:TypeId} {x:I} {v:Value} (aI:aF w F s ay x v (λ_=>False)) (he:e3 C s T x=some av):
  Good C w0 F0 X ay w (Instr.loadAt T v) av s:=by
 unfold e3 at he;split at he
 .rename_i d;split at he
  .rename_i h_;simp only[some.injEq]at he;subst he;have l8:=(aF.cr rfl).1 aI;rw[au,gz l8.1]at l8;obtain⟨U,b,o,eh,ab,ad,aC,aW⟩:=l8;simp only[cons.injEq,and_true]at ab;subst ab;obtain⟨fX,aH,ai,ky⟩:=zC bk aC aW h_;have eu:(Instr.loadAt T (.pointer (some ⟨b,o,none⟩))).run C.P w= .ok fX w:=by simp[Instr.loadAt,Instr.sureAddr,aH]
   refine⟨fX,w,F,S,eu,h,?_⟩;by_cases aY:d.tree=true
   .exact .inr ⟨aY,ky,λ_=>False,by rw[ai];exact aW,λ_ h=>h.elim,λ_ h=>h.elim,λ_ _ h=>h.elim,λ_ h=>h.elim⟩
   .cases d<;>first|exact(aY rfl).elim|(rw[au]at aW;exact aW.elim)|exact .inl ⟨rfl,by rw[aF];trivial⟩|(have bu:=aW;rw[au]at bu;obtain⟨arr,e,_⟩:=bu;rw[<-ai]at e aW;rw[gz (by exact ky)]at aW;exact .inl ⟨rfl,aF.o8 _ _ rfl aW⟩)
  .cases he
 .rename_i y k;split at he
  .rename_i ds mQ;split at he
   .cases he
   .rename_i wA;split at he
    .rename_i i ak;split at he
     .rename_i d ae;split at he
      .rename_i h_;simp only[some.injEq]at he;have fy:(s y).plain=false:=by rw[mQ];simp only[I.plain];simpa using wA
       rw[aF]at aI;obtain⟨b,cur,e,fr,rfl,ad,aC,aW⟩:=aI fy;have hy:=h.cW y;rw[mQ]at hy;have Jf:=((aF.cr rfl).1 hy).2;rw[au]at Jf;obtain⟨b2,fN,c2,b3,hF,hj,hr,fl,gJ,h3,fU,l7⟩:=aZ.pick ds _ _ i d Jf ae;have jN:hE w b k fN:=by
        intro j c bQ;have ei:j<fN.length:=(List.getElem?_eq_some_iff.1 bQ).1;have:cur.toList[k+j]? =some c:=by
         rw[aW,hj,getElem?_append_right (by omega),getElem?_append_left (by omega),<-bQ];congr 1;omega
        simp[World.cell?,aC];simpa using this
       obtain⟨fX,aH,ai,ky⟩:=zC bk jN fU h_.2;have eu:(Instr.loadAt T (.pointer (some ⟨b,k,none⟩))).run C.P w= .ok fX w:=by simp[Instr.loadAt,Instr.sureAddr,aH]
       refine⟨fX,w,F,S,eu,h,?_⟩;split at he
       .rename_i an;subst he;by_cases aY:d.tree=true
        .exact .inl ⟨an,(aF.cr aY).2 ⟨ky,by rw[ai];exact au.plain _ _ _ _ an fU⟩⟩
        .cases d<;>first|exact(aY rfl).elim|(rw[au]at fU;exact fU.elim)|exact .inl ⟨rfl,by rw[aF];trivial⟩|(have bu:=au.plain _ _ _ (λ_=>False) an fU;rw[<-ai]at bu;rw[gz (by exact ky)]at bu;exact .inl ⟨rfl,aF.o8 _ _ rfl bu⟩)
       .subst he;refine .inl ⟨rfl,?_⟩;rw[aF];intro d2 hN _;rw[mQ]at hN⊢;simp only[I.sub,ae,some.injEq]at hN;subst hN;refine⟨fN,none,?_,ai,ky⟩;simp only[dc,ae];rw[hj,sg b2 fN c2 _ _ hr (au.length _ _ _ fU)];rfl
      .cases he
     .cases he
    .cases he
  .cases he
 .rename_i x _ _;split at he
  .rename_i y q hl;split at he
   .rename_i d ae;split at he
    .rename_i h_;simp only[some.injEq]at he;obtain⟨oc,cD,b,o,rfl,kt⟩:=Dl h aI hl ae;have hy:=h.cW y;rw[aF.cr (hG ae (.inr oc))]at hy;obtain⟨fO,cB,dW,e5,k0,bN,cc,eB,dB,e6⟩:=ctx q (s y) (b8 (ay y)) (S y) none _ hy.2 ae;rw[k0]at kt;simp only[some.injEq,Prod.mk.injEq,true_and]at kt;obtain⟨rfl,rfl⟩:=kt;have jN:hE w b o fO:=by
      rcases e6 with⟨l,r,aP,aT,_⟩|⟨ff,cur,e,fr,l,r,aP,aT,aR,b4,cz,_⟩
      .simp at aT
      .simp only[some.injEq,Prod.mk.injEq]at aP;obtain⟨rfl,rfl⟩:=aP;intro j c bQ;have ei:j<fO.length:=(List.getElem?_eq_some_iff.1 bQ).1;have:cur.toList[l.length+j]? =some c:=by
        rw[cz,getElem?_append_right (by omega),getElem?_append_left (by omega),<-bQ];congr 1;omega
       simp[World.cell?,aR];simpa using this
     obtain⟨fX,aH,ai,ky⟩:=zC bk jN dB h_;have eu:(Instr.loadAt T (.pointer (some ⟨b,o,none⟩))).run C.P w= .ok fX w:=by simp[Instr.loadAt,Instr.sureAddr,aH]
     refine⟨fX,w,F,S,eu,h,?_⟩;split at he
     .rename_i an;subst he;by_cases aY:d.tree=true
      .exact .inl ⟨an,(aF.cr aY).2 ⟨ky,by rw[ai];exact au.plain _ _ _ _ an dB⟩⟩
      .cases d<;>first|exact(aY rfl).elim|(rw[au]at dB;exact dB.elim)|exact .inl ⟨rfl,by rw[aF];trivial⟩|(have bu:=au.plain _ _ _ (λ_=>False) an dB;rw[<-ai]at bu;rw[gz (by exact ky)]at bu;exact .inl ⟨rfl,aF.o8 _ _ rfl bu⟩)
     .subst he;refine .inl ⟨rfl,?_⟩;rw[aF];intro d2 hN _;rw[ae]at hN;simp only[some.injEq]at hN;subst hN;exact⟨_,_,k0,ai,ky⟩
    .cases he
   .cases he
  .cases he
mutual
theorem au.sq {F:Nat->Prop}:∀(d:I) (cs:ahz) (S:Nat->Prop),au w F d cs S->∀c∈cs,Value.fY c=true
 | .hole,cs,S,h=>by rw[au]at h;obtain⟨v,h,rfl⟩:=h;simpa using h
 | .bool _,cs,S,h=>by rw[au]at h;subst h;simp[Value.fY]
 | .fw,cs,S,h=>by rw[au]at h;obtain⟨b,rfl⟩:=h;simp[Value.fY]
 | .int _ _,cs,S,h=>by rw[au]at h;subst h;simp[Value.fY]
 | .str _,cs,S,h=>by rw[au]at h;subst h;simp[Value.fY]
 | .dr,cs,S,h=>by rw[au]at h;subst h;simp[Value.fY]
 | .bf,cs,S,h=>by rw[au]at h;subst h;simp[Value.fY]
 | .slice xs,cs,S,h=>by
   rw[au]at h;rcases h with⟨_,a,c,rfl,_⟩|⟨b,o,cap,eh,sz,rfl,_⟩<;>simp[Value.fY]
 | .ao sz xs,cs,S,h=>by
   rw[au]at h;rcases h with⟨_,_,rfl⟩|⟨b,cap,cur,e,fr,aN,rfl,_⟩<;>simp[Value.fY]
 | .ref d,cs,S,h=>by rw[au]at h;obtain⟨b,o,eh,rfl,_⟩:=h;simp[Value.fY]
 | .a1 d,cs,S,h=>by rw[au]at h;obtain⟨b,o,eh,_,_,rfl,_⟩:=h;simp[Value.fY]
 | .agg az,cs,S,h=>by rw[au]at h;exact aZ.sq az _ _ h
 | .tuple az,cs,S,h=>by rw[au]at h;exact aZ.sq az _ _ h
 | .fn _ _,cs,S,h=>by rw[au]at h;obtain⟨arr,rfl,_⟩:=h;simp[Value.fY]
 | .h _ _,cs,S,h=>by rw[au]at h;exact h.elim
 | .an _ _,cs,S,h=>by rw[au]at h;exact h.elim
 | .R _ _,cs,S,h=>by rw[au]at h;exact h.elim
 | .dK _,cs,S,h=>by rw[au]at h;obtain⟨v,h9,rfl⟩:=lI.one h;simpa using h9
 | .fD _ _,cs,S,h=>by rw[au]at h;obtain⟨arr,rfl,_⟩:=h;simp[Value.fY]
theorem aZ.sq {F:Nat->Prop}:∀(ds:ahB) (cs:ahz) (S:Nat->Prop),aZ w F ds cs S->∀c∈cs,Value.fY c=true
 |[],cs,S,h=>by rw[aZ]at h;subst h;simp
 |d::ds,cs,S,h=>by
  rw[aZ]at h;obtain⟨b2,c2,b3,dh,rfl,ad,aC,_⟩:=h;intro c ai;rcases mem_append.1 ai with ai|ai
  .exact au.sq d _ _ ad c ai
  .exact aZ.sq ds _ _ aC c ai
end
theorem zD {P:Program} {b o:Nat} {e:TypeId} {fr:Nat×Nat}:∀(vs:ahz) (i:Nat) (cur:Array Value) (w:World) (l m r:ahz),w.heap[b]? =some (.cells cur e fr)->mo fr cur.size->
  cur.toList=l++(m++r)->l.length=o+i->m.length=vs.length->(∀v∈vs,Value.fY v=true)->
  ∃aD,(storeCells ⟨b,o,none⟩ vs i).run P w= .ok () aD/\aD.heap[b]? =some (.cells (l++(vs++r)).toArray e fr)/\(∀c,c≠b->aD.heap[c]? =w.heap[c]?)/\aD.heap.size=w.heap.size/\aD.os=w.os/\aD.tape=w.tape/\Out aD w
 |[],i,cur,w,l,m,r,R,bd,ai,hl,hm,_=>by
  refine⟨w,rfl,?_,λ_ _=>rfl,rfl,rfl,rfl,Out.refl _⟩;have:m=[]:=by simpa using hm
  subst this;rw[R];have:cur=(l++([]++r)).toArray:=by rw[<-ai]
  rw[<-this]
 |v::vs,i,cur,w,l,m,r,R,bd,ai,hl,hm,zE=>by
  obtain⟨x,m,rfl⟩:∃x hO,m=x::hO:=by cases m with
   |nil=>simp at hm
   |cons x m=>exact⟨x,m,rfl⟩
  have hlen:cur.size=(l++(x::m++r)).length:=by rw[<-ai];simp
  have ei:o+i<cur.size:=by rw[hlen];simp;omega
  have zF:w.cell? ⟨b,o+i,none⟩=some cur[o+i]:=by simp[World.cell?,R,ei]
  have Qt:w.frozen? ⟨b,o+i,none⟩=false:=by
   have:=bd (o+i) ei;simp only[World.frozen?,R];simp only[Bool.and_eq_false_iff,decide_eq_false_iff_not];by_cases ab:fr.1<=o+i
   .right;exact λad=>this ⟨ab,ad⟩
   .left;exact ab
  have q5:(w.setCell ⟨b,o+i,none⟩ v).heap[b]? =some (.cells ((l++[v])++(m++r)).toArray e fr):=by
   simp only[World.setCell,Array.getElem?_modify,if_true,R,map_some,isSome_none,Bool.false_eq_true,if_false];congr 2;apply Array.ext';rw[Array.toList_setIfInBounds,ai,<-hl,set_append_right _ _ (Nat.le_refl _)];simp
  have sr:(store ((⟨b,o,none⟩:Addr).add i) v).run P w= .ok () (w.setCell ⟨b,o+i,none⟩ v):=by
   have ab:=zE v (by simp);rw[Addr.add_lit];cases v<;>first|(simp[Value.fY]at ab;done)|simp[Go.store,Sem.run,zF,Qt]
  obtain⟨aD,g1,g2,g3,g4,g5,g6,g7⟩:=zD (P:=P) (b:=b) (o:=o) vs (i+1) _ (w.setCell ⟨b,o+i,none⟩ v) (l++[v]) m r q5 (by
   have:(l++[v]++(m++r)).toArray.size=cur.size:=by rw[hlen];simp
   rw[this];exact bd) (by simp) (by simp;omega) (by simpa using hm) (λu hu=>zE u (by simp[hu]))
  refine⟨aD,?_,by simpa using g2,λc ai=>?_,?_,g5,g6,g7⟩
  .simp only[storeCells,Sem.run_bind,sr,Result.andThen];exact g1
  .rw[g3 c ai];simp only[World.setCell,Array.getElem?_modify];rw[if_neg (λe=>ai e.symm)]
  .rw[g4];simp[World.setCell]
theorem wB {d:I} {v:Value} (h:dz d v) (ae:∀az,d≠.tuple az):v.cells=(b8 v).toArray:=by
 cases d with
 |tuple az=>exact(ae _ rfl).elim
 |agg az=>obtain⟨arr,rfl⟩:=h;simp[Value.cells,b8,hs]
 |_=>
  have ab:Value.fY v=true:=h;rw[gz ab];cases v<;>first|rfl|(simp[Value.fY]at ab)
def iA (C:bW) (s:aw) (T:TypeId) (x y:I):Option aw:=
 match cH s y,loc s x with
 |some (d,s1),some (z,q)=>match d with
  | .tuple _=>none
  |d=>match I.sub q (s z)with
   |some d0=>if d.wd=d0.wd/\d.wd=(C.T T).sz/\(C.T T).ok=true/\y.owner≠some z then some (da (hM z s1) z (I.put q d (s z)))else none
   |none=>none
 |_,_=>none
theorem Qu {s s1:aw} {y d:I} {z:Nat} (h:cH s y=some (d,s1)) (bR:(s z).tree=true) (hy:y.owner≠some z):s1 z=s z:=by
 cases y with
 |h x q=>
  simp only[cH]at h;split at h
  .split at h
   .cases h
   .simp only[some.injEq,Prod.mk.injEq]at h;obtain⟨_,rfl⟩:=h;rw[iV _ _ (λe=>hy (by rw[I.owner,e]))];exact C_ bR
  .cases h
 |an x q=>simp[cH]at h
 |R x q=>simp[cH]at h
 |fn f c=>simp[cH]at h
 |hole=>simp[cH]at h
 |_=>simp only[cH,some.injEq,Prod.mk.injEq]at h;rw[h.2]
theorem Qv (bk:C.eF) (h:bx w0 F0 X F S s ay w) {T:TypeId} {x y:I} {ia jm:Value} (Dr:aF w F s ay x ia (λ_=>False)) (hy:y.plain=true) (Qw:aF w F s ay y jm (λ_=>False))
  {s2:aw} (he:iA C s T x y=some s2):
  ∃aD aN,(Instr.storeAt T ia jm).run C.P w= .ok () aD/\bx w0 F0 X F aN s2 ay aD:=by
 unfold iA at he;split at he
 .rename_i d s1 z q aY hl;have key:∀d:I,(∀az,d≠.tuple az)->cH s y=some (d,s1)->(match I.sub q (s z)with
   |some d0=>if d.wd=d0.wd/\d.wd=(C.T T).sz/\(C.T T).ok=true/\y.owner≠some z then some (da (hM z s1) z (I.put q d (s z)))else none
   |none=>none)=some s2->∃aD aN,(Instr.storeAt T ia jm).run C.P w= .ok () aD/\bx w0 F0 X F aN s2 ay aD:=by
   intro d qa aY he;split at he
   .rename_i d0 kS;split at he
    .rename_i wC;obtain⟨ab,ad,aC,aW⟩:=wC;simp only[some.injEq]at he;subst he;obtain⟨oc,cD,b,o,rfl,kt⟩:=Dl h Dr hl kS;obtain⟨b3,g0,g1,g2,Sn,g3,g4,g5,g6,g7,g8⟩:=o5 h hy Qw aY;have eJ:s1 z=s z:=Qu aY (hG kS (.inr oc)) aW;rw[<-eJ]at kS oc kt⊢;obtain⟨fO,ff,l,r,cur,e,fr,k0,bN,cc,eB,dB⟩:=g0.store kS oc g3 ab g4 g5 g6 g7;rw[kt]at k0;simp only[some.injEq,Prod.mk.injEq,true_and]at k0;obtain⟨rfl,rfl,rfl⟩:=k0;obtain⟨i,d,p_,aP,aT,aR,b4,cz,bV,bF⟩:=bk.info aC;have hlen:=au.length _ _ _ g3;have hm:cD.length=(b8 jm).length:=by
      have Jg:=g0.cW z;rw[aF.cr (hG kS (.inr oc))]at Jg;obtain⟨_,_,_,_,c0,_,_,_,c4,_⟩:=ctx q (s1 z) (b8 (ay z)) (b3 z) none _ Jg.2 kS;rw[kt]at c0;simp only[some.injEq,Prod.mk.injEq,true_and]at c0;rw[c0.1,au.length _ _ _ c4,hlen,ab]
     obtain⟨aD,m1,m2,m3,m4,m5,m6,m7⟩:=zD (P:=C.P) (b:=b) (o:=l.length) (e:=e) (fr:=fr) (b8 jm) 0 cur w l cD r bN eB cc rfl hm (au.sq _ _ _ g3);obtain⟨aN,e6⟩:=dB aD m2 m3 m4 m5 m6 m7;refine⟨aD,aN,?_,e6⟩;have od:=wB g2 qa;simp[Instr.storeAt,Instr.sureAddr,storeVar,kv aP,aT,od,hlen,ad,m1]
    .cases he
   .cases he
  split at he
  .cases he
  .rename_i qa;exact key _ (λaz e=>qa az e) aY he
 .cases he
theorem bx.alloc (h:bx w0 F0 X F S s ay w) {d:I} {cs:ahz} {Sn:Nat->Prop} (e:TypeId) (aI:au w F d cs Sn)
  (ei:∀b,Sn b->b<w.heap.size) (a8:∀b,Sn b->¬F b) (bK:∀u b,Sn b->¬S u b) (aV:∀b,Sn b->X b\/w0.heap.size<=b):
  bx w0 F0 X F S s ay (w.alloc (.cells cs.toArray e))/\
   kR w0 X F S s ay (w.alloc (.cells cs.toArray e)) (.a1 d) (.pointer (some ⟨w.heap.size,0,none⟩)):=by
 have hold:∀b,b<w.heap.size->(w.alloc (.cells cs.toArray e)).heap[b]? =w.heap[b]? :=by
  intro b R;show(w.heap.push _)[b]? =_;rw[Array.getElem?_push,if_neg (by omega)]
 refine⟨h.grow hold (by simp) rfl rfl ⟨rfl,λ_=>Nat.le_refl _⟩,.inr ⟨rfl,rfl,λb=>b=w.heap.size\/Sn b,?_,?_,?_,?_,?_⟩⟩
 .rw[au];refine⟨w.heap.size,cs.toArray,e,(0,0),Sn,rfl,.inl rfl,?_,?_,?_,λc ai=>.inr ai,λai=>Nat.lt_irrefl _ (ei _ ai)⟩
  .show(w.heap.push _)[_]? =_;simp
  .intro o _ ⟨_,ad⟩;exact absurd ad (not_lt_zero _)
  .exact au.frame (λb R=>hold b (h.eK b R)) _ _ _ (λb R=>hold b (ei b R)) aI
 .rintro b (rfl|R)
  .simp
  .have:=ei b R;simp;omega
 .rintro b (rfl|R) qb
  .exact Nat.lt_irrefl _ (h.eK _ qb)
  .exact a8 b R qb
 .rintro u b (rfl|R) hu
  .exact Nat.lt_irrefl _ (h.et _ _ hu)
  .exact bK u b R hu
 .rintro b (rfl|R)
  .exact .inr h.size
  .exact aV b R
def ka (C:bW) (T:TypeId):Option I:=if(C.T T).ok=true then(match(C.T T).k,(C.T T).zero with
    | .gr e,.agg [.dr,.bf]=>some (.dK (.hL T e []))
    | .gr _,_=>none
    |_,z=>(match flat z with|some _=>some (.a1 z)|none=>none))else none
theorem Qx (bk:C.eF) (h:bx w0 F0 X F S s ay w) {T:TypeId} (he:ka C T=some av):Good C w0 F0 X ay w (Instr.alloc T true (.tuple #[])) av s:=by
 unfold ka at he;split at he
 .rename_i aq;split at he
  .rename_i afN afO Qy;simp only[some.injEq]at he;subst he;obtain⟨i,d,z,aP,aT,aR,b4,cz,bV,bF⟩:=bk.info aq;have bR:=cz [.pointer none,.slice none 0 0] (by rw[Qy];rfl);have hold:∀b,b<w.heap.size->(w.alloc (.cells #[.pointer none,.slice none 0 0] T)).heap[b]? =w.heap[b]? :=by
    intro b R;show(w.heap.push _)[b]? =_;rw[Array.getElem?_push,if_neg (by omega)]
   refine⟨.pointer (some ⟨w.heap.size,0,none⟩),w.alloc (.cells #[.pointer none,.slice none 0 0] T),F,S,?_,h.grow hold (by simp) rfl rfl ⟨rfl,λ_=>Nat.le_refl _⟩,.inr ⟨rfl,rfl,λb=>b=w.heap.size,?_,?_,?_,?_,?_⟩⟩
   .simp[Instr.alloc,so aP b4,newVar,newRow,newObj,Sem.run,bR]
   .rw[au];refine⟨w.heap.size,.pointer none,.slice none 0 0,rfl,rfl,?_,.inl rfl,.inl ⟨rfl,rfl⟩⟩;show(w.heap.push _)[_]? =_;simp
   .rintro b rfl;simp
   .rintro b rfl qb;exact Nat.lt_irrefl _ (h.eK _ qb)
   .rintro u b rfl hu;exact Nat.lt_irrefl _ (h.et _ _ hu)
   .rintro b rfl;exact .inr h.size
  .cases he
  split at he
  .rename_i cs hj;simp only[some.injEq]at he;subst he;obtain⟨i,d,z,aP,aT,aR,b4,cz,bV,bF⟩:=bk.info aq;have bR:=cz cs hj;obtain⟨dm,a7⟩:=h.alloc (d:=(C.T T).zero) T ((au.flat _).1 _ cs (λ_=>False) (Nat.le_refl _) hj) (λ_ h=>h.elim) (λ_ h=>h.elim) (λ_ _ h=>h.elim) (λ_ h=>h.elim);refine⟨_,_,F,S,?_,dm,a7⟩;simp[Instr.alloc,so aP b4,newVar,newRow,newObj,Sem.run,bR]
  .cases he
 .cases he
def ht (s:aw) (x:I):Option (I×aw):=match cH s x with
 |some (.tuple _,_)=>none
 |some (d,s1)=>some (.a1 d,s1)
 |none=>none
def jF (s:aw) (x:I):Option (I×aw):=match x with
 | .h y q=>match q,s y with
   |[],.agg ds=>if I.dU ds then none else some (.R y 0,s)
   |_,_=>none
 | .fn f caps=>if caps.all (λd=>d.single&&(d.tree&&d.plain))=true then some (.ref (.fn f caps),s)else none
 |_=>none
theorem aZ.Jh {w:World} {F bE:Nat->Prop} {s:aw} {ay:Nat->Value} (a8:∀b,F b->bE b):∀(ds:ahB) (vs:ahz),(∀d∈ds,d.single=true/\d.tree=true/\d.plain=true)->dP w F s ay ds vs->aZ w bE ds vs (λ_=>False)
 |[],vs,_,h=>by rw[dP]at h;rw[aZ];exact h
 |d::ds,vs,U,h=>by
  rw[dP]at h;obtain⟨v,jB,rfl,ab,ad⟩:=h;obtain⟨d1,d2,d3⟩:=U d (by simp);have aC:=(aF.cr d2).1 ab;have b1:Value.fY v=true:=by
   have:=aC.1;cases d<;>first|exact this|cases d1
  have aW:=aC.2;rw[gz b1]at aW;rw[aZ];exact⟨[v],jB,λ_=>False,λ_=>False,rfl,au.mono a8 _ _ _ _ (λ_ h=>h) aW,aZ.Jh a8 ds jB (λx ar=>U x (by simp[ar])) ad,λ_ h=>h,λ_ h=>h,λ_ h=>h.elim⟩
theorem Qz {T:TypeId} {v:Value} (h:bx w0 F0 X F S s ay w):bx w0 F0 X (λb=>F b\/b=w.heap.size) S s ay (w.alloc (.cells (b8 v).toArray T)):=by
 have hold:∀b,b<w.heap.size->(w.alloc (.cells (b8 v).toArray T)).heap[b]? =w.heap[b]? :=by
  intro b R;show(w.heap.push _)[b]? =_;rw[Array.getElem?_push,if_neg (by omega)]
 have ab:=h.grow hold (by simp) rfl rfl ⟨rfl,λ_=>Nat.le_refl _⟩;exact {
  gq:=λb R=>.inl (ab.gq b R)
  gK:=λb R=>by
   rcases R with R|rfl
   .exact ab.gK b R
   .exact .inr (.inr h.size)
  eK:=λb R=>by
   rcases R with R|rfl
   .exact ab.eK b R
   .simp
  et:=ab.et
  fg:=λt b R bd=>by
   rcases bd with bd|rfl
   .exact ab.fg t b R bd
   .exact absurd (h.et t _ R) (Nat.lt_irrefl _)
  eT:=ab.eT
  dy:=ab.dy
  cW:=λt=>aF.frame (λ_ _=>rfl) (λb R=>.inl R) (λ_ _ _=>rfl) ab.cW _ _ _ (λ_ _=>rfl) (ab.cW t)
  old:=ab.old
  size:=ab.size
  os:=ab.os
  tape:=ab.tape
  output:=ab.output
  fW:=h.fW}
theorem QA (h:bx w0 F0 X F S s ay w) {T:TypeId} {x:I} {v:Value} (aI:aF w F s ay x v (λ_=>False)) (he:jF s x=some (av,s1)):
  Good C w0 F0 X ay w (Instr.box T v) av s1:=by
 unfold jF at he;split at he
 .rename_i y q;split at he
  .rename_i ds mQ;split at he
   .cases he
   .rename_i wA;simp only[some.injEq,Prod.mk.injEq]at he;obtain⟨rfl,rfl⟩:=he;rw[aF]at aI;obtain⟨cD,a,g1,g2,g3⟩:=aI (s y) (by simp only[I.sub]) (by rw[mQ];simp only[I.plain];simpa using wA);simp only[dc,some.injEq,Prod.mk.injEq,true_and]at g1;rw[mQ]at g3;have od:=wB g3 (λaz e=>by cases e);have hold:∀b,b<w.heap.size->(w.alloc (.cells (b8 v).toArray T)).heap[b]? =w.heap[b]? :=by
     intro b R;show(w.heap.push _)[b]? =_;rw[Array.getElem?_push,if_neg (by omega)]
    refine⟨.pointer (some ⟨w.heap.size,0,none⟩),w.alloc (.cells (b8 v).toArray T),λb=>F b\/b=w.heap.size,S,by simp[Instr.box,newVar,newRow,newObj,Sem.run,od],?_,.inl ⟨rfl,?_⟩⟩
    .have ab:=h.grow hold (by simp) rfl rfl ⟨rfl,λ_=>Nat.le_refl _⟩;exact {
      gq:=λb R=>.inl (ab.gq b R)
      gK:=λb R=>by
       rcases R with R|rfl
       .exact ab.gK b R
       .exact .inr (.inr h.size)
      eK:=λb R=>by
       rcases R with R|rfl
       .exact ab.eK b R
       .simp
      et:=ab.et
      fg:=λt b R bd=>by
       rcases bd with bd|rfl
       .exact ab.fg t b R bd
       .exact absurd (h.et t _ R) (Nat.lt_irrefl _)
      eT:=ab.eT
      dy:=ab.dy
      cW:=λt=>aF.frame (λ_ _=>rfl) (λb R=>.inl R) (λ_ _ _=>rfl) ab.cW _ _ _ (λ_ _=>rfl) (ab.cW t)
      old:=ab.old
      size:=ab.size
      os:=ab.os
      tape:=ab.tape
      output:=ab.output
      fW:=h.fW}
    .rw[aF];intro _;refine⟨w.heap.size,(b8 v).toArray,T,(0,0),rfl,.inr rfl,?_,?_⟩
     .show(w.heap.push _)[_]? =_;simp
     .rw[g1.1,<-g2]
  .cases he
 .rename_i f caps;split at he
  .rename_i ai;simp only[some.injEq,Prod.mk.injEq]at he;obtain⟨rfl,rfl⟩:=he;have hj:∀d∈caps,d.single=true/\d.tree=true/\d.plain=true:=λd ae=>by
    have:=List.all_eq_true.1 ai d ae;simpa only[Bool.and_eq_true]using this
   rw[aF]at aI;obtain⟨arr,rfl,aI⟩:=aI;have od:=wB (d:=.fn f caps) (v:=.func (.func f) #[] arr) rfl (λaz e=>by cases e);have hg:=Qz (T:=T) (v:=.func (.func f) #[] arr) h;refine⟨.pointer (some ⟨w.heap.size,0,none⟩),w.alloc (.cells (b8 (.func (.func f) #[] arr)).toArray T),λb=>F b\/b=w.heap.size,S,by simp[Instr.box,newVar,newRow,newObj,Sem.run,od],hg,.inl ⟨rfl,?_⟩⟩;refine(aF.cr rfl).2 ⟨rfl,?_⟩;rw[au];refine⟨w.heap.size,0,[.func (.func f) #[] arr],rfl,.inr rfl,?_,?_⟩
   .have gy:(w.alloc (.cells (b8 (.func (.func f) #[] arr)).toArray T)).heap[w.heap.size]? =some (.cells (b8 (.func (.func f) #[] arr)).toArray T (0,0)):=by
     show(w.heap.push _)[_]? =_;simp
    intro j c bQ;cases j with
    |zero=>
     simp only[getElem?_cons_zero,some.injEq]at bQ;subst bQ;have e:b8 (.func (.func f) #[] arr)=[.func (.func f) #[] arr]:=gz rfl;unfold World.cell?;show(match(w.alloc (.cells (b8 (.func (.func f) #[] arr)).toArray T)).heap[w.heap.size]? with
      |some (.cells c _ _)=>c[0+0]?
      |_=>none)=_
     rw[gy,e];rfl
    |succ j=>simp at bQ
   .rw[au];refine⟨arr,rfl,λd ae=>(hj d ae).1,?_⟩;have bu:=aZ.Jh (bE:=F) (λb R=>R) caps arr.toList hj aI;refine aZ.mono (F:=F) (λb R=>.inl R) caps _ _ _ (λ_ h=>h) (aZ.frame (λb R=>?_) caps _ _ (λ_ h=>h.elim) bu);have ei:=h.eK b R;show(w.heap.push _)[b]? =_;rw[Array.getElem?_push,if_neg (by omega)]
  .cases he
 .cases he
theorem QB (h:bx w0 F0 X F S s ay w) {T:TypeId} {x:I} {v:Value} (ar:x.plain=true) (aI:aF w F s ay x v (λ_=>False)) (he:ht s x=some (av,s1)):
  Good C w0 F0 X ay w (Instr.box T v) av s1:=by
 unfold ht at he;split at he
 .cases he
 .rename_i d s2 qa aY;simp only[some.injEq,Prod.mk.injEq]at he;obtain⟨rfl,rfl⟩:=he;obtain⟨b3,g0,g1,g2,Sn,g3,g4,g5,g6,g7,g8⟩:=o5 h ar aI aY;obtain⟨dm,a7⟩:=g0.alloc T g3 g4 g5 g6 g7;refine⟨_,_,F,b3,?_,dm,a7⟩;have od:=wB g2 (λaz e=>qa az e);simp[Instr.box,newVar,newRow,newObj,Sem.run,od]
 .cases he
end
end Go.c_
