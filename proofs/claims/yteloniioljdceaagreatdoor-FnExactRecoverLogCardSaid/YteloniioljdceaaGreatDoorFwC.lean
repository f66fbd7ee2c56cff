/- Part of a proof that a law returns true for every input. No condition. -/
import Derived.Test.YteloniioljdceaaGreatDoorFwB
import Derived.Laws.Entries
namespace Go.ca
open List Option Go.IntKind Nat Or
inductive jI where
 |int (k:IntKind)
 |bool
 |str
 |ptr (e:TypeId)
 |slice (e:TypeId)
 |struct (al:List (TypeId×Nat))
 |fn
 |ey (e:TypeId)
 |map (k e:TypeId)
 |other
structure ea where
 k:jI
 sz:Nat
 bytes:Nat
 zero:I
mutual
def flat:I->Option RJ
 | .bool b=>some [.bool b]
 | .int k n=>some [.int k n]
 | .str s=>some [.string ⟨⟨s⟩⟩]
 | .cu=>some [.pointer none]
 | .bz=>some [.slice none 0 0]
 | .agg al=>mq al
 | .cf .nu=>some [.map none]
 |_=>none
def mq:RL->Option RJ
 |[]=>some []
 |d::ds=>match flat d,mq ds with
  |some a,some b=>some (a++b)
  |_,_=>none
end
theorem ah.flat {w:World} {F:Nat->Prop}:∀n,(∀(d:I) (cs:RJ) (S:Nat->Prop),SizeOf.sizeOf d<=n->flat d=some cs->ah w F d cs S)/\
  (∀(ds:RL) (cs:RJ) (S:Nat->Prop),SizeOf.sizeOf ds<=n->mq ds=some cs->aH w F ds cs S):=by
 intro n;induction n with
 |zero=>exact⟨λd _ _ bt=>by cases d<;>simp at bt<;>omega,λds _ _ bt=>by cases ds<;>simp at bt<;>omega⟩
 |succ n ih=>
  refine⟨λd cs S bt h=>?_,λds cs S bt h=>?_⟩
  .cases d with
   |agg al=>rw[ah];exact ih.2 al cs S (by simp at bt;omega) (by simpa [ca.flat]using h)
   |bool b=>simp[ca.flat]at h;subst h;rw[ah]
   |int k n=>simp[ca.flat]at h;subst h;rw[ah]
   |str s=>simp[ca.flat]at h;subst h;rw[ah]
   |cu=>simp[ca.flat]at h;subst h;rw[ah]
   |bz=>simp[ca.flat]at h;subst h;rw[ah]
   |cf o=>cases o<;>simp[ca.flat]at h;subst h;rw[ah];rfl
   |_=>simp[ca.flat]at h
  .cases ds with
   |nil=>simp[mq]at h;subst h;rw[aH]
   |cons d ds=>
    simp only[mq]at h;split at h
    .rename_i a b a1 J;simp at h;subst h;simp at bt;rw[aH];exact⟨a,b,λ_=>False,λ_=>False,rfl,ih.1 d a _ (by omega) a1,ih.2 ds b _ (by omega) J,λ_ h=>h.elim,λ_ h=>h.elim,λ_ h=>h.elim⟩
    .cases h
def hW:jI->TypeDesc->Prop
 | .int k,.int b5=>k=b5
 | .bool,.bool=>True
 | .str,.string=>True
 | .ptr e,.pointer ej=>e=ej
 | .slice e,.slice ej=>e=ej
 | .struct al,.struct gs=>gs.toList.map (λg=>(g.type,g.offset))=al
 | .fn,.func _ _ _=>True
 | .ey _,.struct _=>True
 | .map k e,.map b5 ej=>k=b5/\e=ej
 |_,_=>False
def Ah (P:Program) (t:TypeId) (x:ea):Prop:=
 (∃e n b z,x=⟨.other,e,n,b⟩/\z=0)\/
 ∃i d z,P.info? t=some i/\i.size=x.sz/\i.bytes=x.bytes/\i.zero=some z/\(∀cs,flat x.zero=some cs->z.cells=cs.toArray)/\P.underlying t=some d/\hW x.k d
structure bl where
 P:Program
 T:TypeId->ea
 M:FuncId->List Bool
structure bl.cS (C:bl):Prop where
 ty:∀t,Ah C.P t (C.T t)
 mixed:C.P.follows .mixedOrders=true
inductive aR where
 |t (n:Nat)
 |c (av:I)
 |f (g:FuncId)
def tB:Value->Option I
 | .bool b=>some (.bool b)
 | .int k n=>some (.int k n)
 | .string s=>some (.str s.data.toList)
 | .pointer none=>some .cu
 | .slice none 0 0=>some .bz
 |_=>none
def ch:Operand->Option aR
 | .tmp n=>some (.t n)
 | .const v=>(tB v).map .c
 | .func g=>some (.f g)
 | .global _=>none
def mr (x:Nat) (d:I):I:=if d.plain then d else .h x []
def aP (s:aj):aR->I
 | .t n=>mr n (s n)
 | .c av=>av
 | .f g=>.fn g []
theorem ar.nothing {w:World} {F:Nat->Prop} {s:aj} {ao:Nat->Value} {d:I} {v:Value} {S aB:Nat->Prop} (af:d.plain=true) (h:ar w F s ao d v S):ar w F s ao d v aB:=by
 cases d<;>first
  |(rw[ar];trivial)
  |(rw[ar]at h⊢;exact h)
  |(have aN:=(ar.bx rfl).1 h;exact(ar.bx rfl).2 ⟨aN.1,ah.plain _ _ _ _ af aN.2⟩)
section
variable {w0 w:World} {F0 X F:Nat->Prop} {S:Nat->Nat->Prop} {s:aj} {ao:Nat->Value} {a:Act}
theorem Ai (s:aj) (x:aR) (ae:∀av,x= .c av->av.plain=true):(aP s x).plain=true:=by
 cases x with
 |t n=>simp only[aP,mr];split<;>first|assumption|rfl
 |c av=>exact ae _ rfl
 |f g=>rfl
theorem wA {v:Value} {av:I} (h:tB v=some av):av.plain=true:=by
 unfold tB at h;split at h<;>simp at h<;>subst h<;>rfl
theorem dC (h:aZ w0 F0 X F S s ao w) (cC:∀t,ao t=a.tmps.getD t undef) {o:Operand} {x:aR} (ba:ch o=some x):
  (aP s x).plain=true/\ar w F s ao (aP s x) (a.eval o) (λ_=>False):=by
 cases o with
 |tmp n=>
  simp[ch]at ba;subst ba;simp only[aP,mr,Act.eval,<-cC];split
  .rename_i af;exact⟨af,ar.nothing af (h.b9 n)⟩
  .rename_i af;refine⟨rfl,?_⟩;rw[ar];intro d ad Gp;simp only[I.sub,some.injEq]at ad;subst ad;have aI:=eX (q:=[]) rfl (.inl Gp);exact⟨_,none,rfl,rfl,((ar.bx aI).1 (h.b9 n)).1⟩
 |const v=>
  simp only[ch,map_eq_some_iff]at ba;obtain⟨av,kU,rfl⟩:=ba;refine⟨wA kU,?_⟩;simp only[aP,Act.eval];unfold tB at kU;split at kU<;>simp at kU<;>subst kU<;>rw[ar,ah]<;>exact⟨rfl,rfl⟩
 |func g=>
  simp[ch]at ba;subst ba;refine⟨rfl,?_⟩;simp only[aP,Act.eval];rw[ar];exact⟨#[],rfl,by rw[cE]⟩
 |global g=>simp[ch]at ba
def hz (w0:World) (X F:Nat->Prop) (S:Nat->Nat->Prop) (s:aj) (ao:Nat->Value) (w:World) (av:I) (v:Value):Prop:=
 (av.plain=true/\ar w F s ao av v (λ_=>False))\/
 (av.tree=true/\b7 av v/\∃Sn,ah w F av (bn v) Sn/\(∀b,Sn b->b<w.heap.size)/\(∀b,Sn b->¬F b)/\(∀u b,Sn b->¬S u b)/\(∀b,Sn b->X b\/w0.heap.size<=b))
def fin (s:aj) (dst:Option Nat) (av:I):aj:=match dst with
 |none=>s
 |some t=>if av.plain then cd s t av else cd (im t s) t av
def mu (ao:Nat->Value) (dst:Option Nat) (v:Value):Nat->Value:=match dst with
 |none=>ao
 |some t=>cd ao t v
theorem aZ.fin (h:aZ w0 F0 X F S s ao w) {av:I} {v:Value} (az:hz w0 X F S s ao w av v) (dst:Option Nat):
  ∃aB,aZ w0 F0 X F aB (ca.fin s dst av) (mu ao dst v) w:=by
 cases dst with
 |none=>exact⟨S,h⟩
 |some t=>
  simp only[ca.fin,mu];rcases az with⟨af,ad⟩|⟨aI,R,Sn,U,ab,ay,aQ,bc⟩
  .rw[if_pos af];exact⟨_,h.tz af ad⟩
  .split
   .rename_i af;exact⟨_,h.tz af ((ar.bx aI).2 ⟨R,ah.plain _ _ _ _ af U⟩)⟩
   .exact⟨_,h.Ac aI R U ab ay (λu b _ J=>aQ u b J) bc⟩
def bK (s:aj):I->Option (I×aj)
 | .h x q=>match I.sub q (s x)with
   |some d=>if d.plain then none else some (d,cd (fa x s) x (I.put q d.bU (s x)))
   |none=>none
 | .af _ _=>none
 | .J _ _=>none
 | .fn _ _=>none
 | .hole=>none
 |d=>some (d,s)
def I.owner:I->Option Nat
 | .h x _=>some x
 |_=>none
def hA:Option Nat->I->I
 |some x,d=>bm x d
 |none,d=>d
theorem lE (h:aZ w0 F0 X F S s ao w) {av d:I} {s1:aj} {v:Value} (kU:av.plain=true) (az:ar w F s ao av v (λ_=>False)) (aI:bK s av=some (d,s1)):
  ∃bg,aZ w0 F0 X F bg s1 ao w/\d.tree=true/\b7 d v/\∃Sn,ah w F d (bn v) Sn/\(∀b,Sn b->b<w.heap.size)/\(∀b,Sn b->¬F b)/\(∀u b,Sn b->¬bg u b)/\(∀b,Sn b->X b\/w0.heap.size<=b)/\
   (∀u b,bg u b->S u b)/\(∀b,Sn b->∃u,S u b)/\(∀(aV:I) (dO:Value) (aB:Nat->Prop),ar w F s ao aV dO aB->ar w F s1 ao (hA av.owner aV) dO aB):=by
 have tree:∀d:I,d.tree=true->d.plain=true->ar w F s ao d v (λ_=>False)->
   ∃bg,aZ w0 F0 X F bg s ao w/\d.tree=true/\b7 d v/\∃Sn,ah w F d (bn v) Sn/\(∀b,Sn b->b<w.heap.size)/\(∀b,Sn b->¬F b)/\(∀u b,Sn b->¬bg u b)/\(∀b,Sn b->X b\/w0.heap.size<=b)/\
    (∀u b,bg u b->S u b)/\(∀b,Sn b->∃u,S u b):=by
  intro d ad _ aN;have aN:=(ar.bx ad).1 aN;exact⟨S,h,ad,aN.1,_,aN.2,λ_ h=>h.elim,λ_ h=>h.elim,λ_ _ h=>h.elim,λ_ h=>h.elim,λ_ _ h=>h,λ_ h=>h.elim⟩
 cases av with
 |h x q=>
  simp only[bK]at aI;split at aI
  .rename_i e he;split at aI
   .cases aI
   .rename_i af;simp only[some.injEq,Prod.mk.injEq]at aI;obtain⟨rfl,rfl⟩:=aI;have af:e.plain=false:=by simpa using af
    obtain⟨Sn,df,bF,bI,ei,b8,ga,dy,eZ,iq,kV⟩:=h.take he af;rw[ar]at az;obtain⟨QF,a2,g1,g2,g3⟩:=az e he af;rw[b8]at g1;simp only[some.injEq,Prod.mk.injEq,true_and]at g1;obtain⟨rfl,rfl⟩:=g1;have rj:e.tree=true:=by cases e<;>first|rfl|(simp[I.plain]at af)
    refine⟨_,ei,rj,g3,df,by rw[g2];exact ga,λb J=>h.c1 x b (dy b J),λb J=>h.dN x b (dy b J),?_,λb J=>h.ck x b (dy b J),?_,λb J=>⟨x,dy b J⟩,kV⟩
    .intro u b J hu;simp only[ew]at hu;split at hu
     .exact iq b J hu
     .rename_i Gq;exact h.du u x b Gq hu (dy b J)
    .intro u b hu;simp only[ew]at hu;split at hu
     .rename_i e;subst e;exact eZ b hu
     .exact hu
  .cases aI
 |af x q=>simp[bK]at aI
 |J x q=>simp[bK]at aI
 |fn f c=>simp[bK]at aI
 |hole=>simp[bK]at aI
 |aE sz xs=>simp[I.plain]at kU
 |bC d=>simp[I.plain]at kU
 |_=>
  simp only[bK,some.injEq,Prod.mk.injEq]at aI;obtain⟨rfl,rfl⟩:=aI;obtain⟨bg,t1,t2,t3,Sn,t4,t5,t6,t7,t8,t9,t10⟩:=tree _ rfl kU az;exact⟨bg,t1,t2,t3,Sn,t4,t5,t6,t7,t8,t9,t10,λ_ _ _ h=>h⟩
def loc (s:aj):I->Option (Nat×RG)
 | .h x q=>match I.sub q (s x)with
   |some (.bC _)=>some (x,q++[0])
   |_=>none
 | .af x q=>if I.dt q (s x)then some (x,q)else none
 |_=>none
theorem rk:∀(q:RG) (av d:I) (r:RG),I.sub q av=some d->I.sub (q++r) av=I.sub r d:=by
 intro q;induction q with
 |nil=>intro av d r h;simp[I.sub]at h;subst h;rfl
 |cons k q ih=>
  intro av d r h;cases av with
  |agg al=>
   simp only[I.sub,cons_append]at h⊢;split at h
   .rename_i x ak;exact ih _ _ _ h
   .cases h
  |tuple al=>
   simp only[I.sub,cons_append]at h⊢;split at h
   .rename_i x ak;exact ih _ _ _ h
   .cases h
  |aE sz al=>
   simp only[I.sub,cons_append]at h⊢;split at h
   .rename_i x ak;exact ih _ _ _ h
   .cases h
  |bC x=>
   cases k with
   |zero=>simp only[I.sub,cons_append]at h⊢;exact ih _ _ _ h
   |succ k=>simp[I.sub]at h
  |_=>simp[I.sub]at h
theorem Gr:∀(q:RG) (av d:I) (r:RG),I.sub q av=some d->I.dt (q++r) av=(I.dt q av||I.dt r d):=by
 intro q;induction q with
 |nil=>intro av d r h;simp[I.sub]at h;subst h;simp[I.dt]
 |cons k q ih=>
  intro av d r h;cases av with
  |agg al=>
   simp only[I.sub]at h;split at h
   .rename_i x ak;simp only[I.dt,cons_append,ak];exact ih _ _ r h
   .cases h
  |tuple al=>
   simp only[I.sub]at h;split at h
   .rename_i x ak;simp only[I.dt,cons_append,ak];exact ih _ _ r h
   .cases h
  |aE sz al=>simp[I.dt]
  |bC x=>simp[I.dt]
  |_=>simp[I.sub]at h
theorem rl (w:World):∀(q:RG) (av d:I) (cs bF:RJ) (a bI:Option (Nat×Nat)) (r:RG),b6 w q av cs a=some (d,bF,bI)->b6 w (q++r) av cs a=b6 w r d bF bI:=by
 intro q;induction q with
 |nil=>intro av d cs bF a bI r h;simp[b6]at h;obtain⟨rfl,rfl,rfl⟩:=h;rfl
 |cons k q ih=>
  intro av d cs bF a bI r h;cases av with
  |agg al=>
   rw[cons_append];rw[b6]at h⊢;split at h
   .rename_i x ak;exact ih _ _ _ _ _ _ _ h
   .cases h
  |tuple al=>
   rw[cons_append];rw[b6]at h⊢;split at h
   .rename_i x ak;exact ih _ _ _ _ _ _ _ h
   .cases h
  |aE sz al=>
   rw[cons_append];rw[b6.eq_def]at h⊢;simp only at h⊢;split at h
   .exact ih _ _ _ _ _ _ _ h
   .cases h
  |bC x=>
   cases k with
   |zero=>
    rw[cons_append];rw[b6.eq_def]at h⊢;simp only at h⊢;split at h
    .exact ih _ _ _ _ _ _ _ h
    .cases h
   |succ k=>rw[show b6 w ((k+1)::q) (.bC x) cs a=none from rfl]at h;cases h
  |_=>simp[b6]at h
end
def ea.ok (x:ea):Bool:=match x.k with
 | .other=>false
 |_=>true
theorem bl.cS.info {C:bl} (aS:C.cS) {t:TypeId} (h:(C.T t).ok=true):
  ∃i d z,C.P.info? t=some i/\i.size=(C.T t).sz/\i.bytes=(C.T t).bytes/\i.zero=some z/\(∀cs,flat (C.T t).zero=some cs->z.cells=cs.toArray)/\C.P.underlying t=some d/\hW (C.T t).k d:=by
 rcases aS.ty t with⟨e,n,b,z,ak,_⟩|aN
 .rw[ak]at h;simp[ea.ok]at h
 .exact aN
theorem dV {x:ea} {k:jI} (h:x.k=k) (ag:k≠.other):x.ok=true:=by
 unfold ea.ok;rw[h];cases k<;>first|rfl|exact(ag rfl).elim
theorem rm {d:TypeDesc} {al:List (TypeId×Nat)} (h:hW (.struct al) d):∃gs,d= .struct gs/\gs.toList.map (λg=>(g.type,g.offset))=al:=by
 cases d<;>simp[hW]at h;exact⟨_,rfl,h⟩
theorem ir {d:TypeDesc} {e:TypeId} (h:hW (.slice e) d):d= .slice e:=by
 cases d<;>simp[hW]at h;rw[h]
theorem tC {d:TypeDesc} {k:IntKind} (h:hW (.int k) d):d= .int k:=by
 cases d<;>simp[hW]at h;rw[h]
theorem lF {d:TypeDesc} (h:hW .str d):d= .string:=by
 cases d<;>simp[hW]at h;rfl
theorem wB {d:TypeDesc} (h:hW .bool d):d= .bool:=by
 cases d<;>simp[hW]at h;rfl
theorem Aj {d:TypeDesc} {e:TypeId} (h:hW (.ptr e) d):d= .pointer e:=by
 cases d<;>simp[hW]at h;rw[h]
theorem eb {v:Value} (h:Value.eh v=true):bn v=[v]:=by
 cases v<;>first|rfl|(simp[Value.eh]at h)
theorem rn {P:Program} {t:TypeId} {i:TypeInfo} (h:P.info? t=some i) (w:World):(typeInfo t).run P w= .ok i w:=by simp[typeInfo,h]
theorem hB {P:Program} {t:TypeId} {i:TypeInfo} (h:P.info? t=some i) (w:World):(Go.sizeOf t).run P w= .ok i.size w:=by simp[Go.sizeOf,rn h]
theorem pL {P:Program} {t:TypeId} {i:TypeInfo} {z:Value} (h:P.info? t=some i) (bt:i.zero=some z) (w:World):(zeroValue t).run P w= .ok z w:=by simp[zeroValue,rn h,bt]
section
variable {C:bl} {w0 w:World} {F0 X F:Nat->Prop} {S:Nat->Nat->Prop} {s s1:aj} {ao:Nat->Value} {av:I}
def Good (C:bl) (w0:World) (F0 X:Nat->Prop) (ao:Nat->Value) (w:World) (m:Sem Value) (av:I) (s1:aj):Prop:=
 ∃v an a8 aB,m.run C.P w= .ok v an/\aZ w0 F0 X a8 aB s1 ao an/\hz w0 X a8 aB s1 ao an av v
theorem Good.same (h:aZ w0 F0 X F S s ao w) {m:Sem Value} {v:Value} (ax:m.run C.P w= .ok v w) (af:av.plain=true) (az:ar w F s ao av v (λ_=>False)):Good C w0 F0 X ao w m av s:=
 ⟨v,w,F,S,ax,h,.inl ⟨af,az⟩⟩
theorem wC (_h:aZ w0 F0 X F S s ao w) {x:I} {v:Value} (az:ar w F s ao x v (λ_=>False)) {y:Nat} {q:RG} (hl:loc s x=some (y,q)) {d:I} (ad:I.sub q (s y)=some d):
  I.dt q (s y)=true/\∃bF b o,v= .pointer (some ⟨b,o,none⟩)/\b6 w q (s y) (bn (ao y)) none=some (d,bF,some (b,o)):=by
 cases x with
 |h z cv=>
  simp only[loc]at hl;split at hl
  .rename_i e he;simp only[some.injEq,Prod.mk.injEq]at hl;obtain⟨rfl,rfl⟩:=hl;rw[ar]at az;obtain⟨bF,a,g1,g2,g3⟩:=az _ he rfl;have eP:e=d:=by
    rw[rk _ _ _ _ he]at ad;simpa [I.sub]using ad
   subst eP;refine⟨by rw[Gr _ _ _ _ he];simp[I.dt],?_⟩;have U:Value.eh v=true:=g3;rw[eb U]at g2;subst g2;have ha:=rl w cv (s z) _ _ _ none a [0] g1;have ak:=_h.b9 z;rw[ar.bx (eX he (.inl rfl))]at ak;obtain⟨dG,bI,cr,df,k0,bA,bN,bO,bL,cz⟩:=ctx cv (s z) (bn (ao z)) (S z) none _ ak.2 he;rw[k0]at g1;simp only[some.injEq,Prod.mk.injEq,true_and]at g1;obtain⟨rfl,rfl⟩:=g1;rw[ah]at bL;obtain⟨b,cur,aG,fr,b0,aJ,_⟩:=bL;simp only[cons.injEq,and_true]at aJ;subst aJ;exact⟨_,b,0,rfl,by rw[ha];rfl⟩
  .cases hl
 |af z cv=>
  simp only[loc]at hl;split at hl
  .rename_i ae;simp only[some.injEq,Prod.mk.injEq]at hl;obtain⟨rfl,rfl⟩:=hl;rw[ar]at az;obtain⟨bF,b,o,g1,g2⟩:=az _ ad ae;exact⟨ae,bF,b,o,g2,g1⟩
  .cases hl
 |_=>simp[loc]at hl
def hC (C:bl) (s:aj) (T:TypeId) (x:I) (k:Nat):Option I:=
 match(C.T T).k with
 | .struct al=>match al[k]? with
   |some (gn,off)=>if(C.T gn).ok=true/\(C.T gn).sz≠0 then
     match x with
     | .ref (.agg ds)=>match ds[k]? with
       |some d=>if I.cp (ds.take k)=off then some (.ref d)else none
       |none=>none
     | .J y o=>if(s y).plain then none else some (.J y (o+off))
     |x=>match loc s x with
      |some (y,q)=>match I.sub q (s y)with
       |some (.agg ds)=>if k<ds.length/\I.cp (ds.take k)=off then some (.af y (q++[k]))else none
       |_=>none
      |none=>none
    else none
   |none=>none
 |_=>none
theorem e_.wD {w:World} {b o:Nat} {bb dF c2:RJ} (h:e_ w b o (bb++(dF++c2))):e_ w b (o+bb.length) dF:=by
 intro j c bE;have cq:j<dF.length:=(List.getElem?_eq_some_iff.1 bE).1;have:=h (bb.length+j) c (by rw[getElem?_append_right (by omega),getElem?_append_left (by omega),<-bE];congr 1;omega);rw[Nat.add_assoc];exact this
theorem wE (aS:C.cS) {T gn:TypeId} {al:List (TypeId×Nat)} {k off:Nat} (ag:(C.T T).k= .struct al) (bq:al[k]? =some (gn,off)) (U:(C.T gn).ok=true) (ab:(C.T gn).sz≠0) (b o:Nat) (w:World):
  (Instr.fieldAt T (.pointer (some ⟨b,o,none⟩)) k).run C.P w= .ok (.pointer (some ⟨b,o+off,none⟩)) w:=by
 obtain⟨i,d,z,aD,aG,aJ,bp,bJ,bk,a7⟩:=aS.info (dV ag (by simp));rw[ag]at a7;obtain⟨gs,rfl,eH⟩:=rm a7;obtain⟨mv,aV,iu,f1,f2,f3,f4,f5,f6,f7⟩:=aS.info U;have hg:∃g,gs[k]? =some g/\g.type=gn/\g.offset=off:=by
  rw[<-eH,getElem?_map]at bq;simp only[map_eq_some_iff,Prod.mk.injEq]at bq;obtain⟨g,U,ab,ay⟩:=bq;exact⟨g,by simpa using U,ab,ay⟩
 obtain⟨g,g1,rfl,rfl⟩:=hg;simp[Instr.fieldAt,run_underlying bk,g1,Instr.sureAddr,fieldPlace,hB f1,f2,ab,Addr.add_lit]
theorem Gs (aS:C.cS) (h:aZ w0 F0 X F S s ao w) {T:TypeId} {x:I} {v:Value} {k:Nat} (ak:x.plain=true) (az:ar w F s ao x v (λ_=>False)) (he:hC C s T x k=some av):
  Good C w0 F0 X ao w (Instr.fieldAt T v k) av s:=by
 unfold hC at he;split at he
 .rename_i al ag;split at he
  .rename_i gn off bq;split at he
   .rename_i pM;split at he
    .rename_i ds;split at he
     .rename_i d ad;split at he
      .rename_i lG;simp only[some.injEq]at he;subst he;have hX:=(ar.bx rfl).1 az;rw[ah]at hX;obtain⟨R,b,o,cV,U,ab,ay,aQ⟩:=hX;rw[eb R]at U;simp only[cons.injEq,and_true]at U;subst U;rw[ah]at aQ;obtain⟨bb,dF,c2,bg,eW,rfl,eR,eo,eF,fj,dM,iN⟩:=aH.pick ds _ _ k d aQ ad;refine Good.same h (wE aS ag bq pM.1 pM.2 b o w) rfl ((ar.bx rfl).2 ⟨rfl,?_⟩);rw[ah];refine⟨b,o+off,dF,rfl,ab,?_,ah.mono (λ_ h=>h) _ _ _ _ (λb J=>eF b J) dM⟩;rw[<-lG,<-eR];exact ay.wD
      .cases he
     .cases he
    .rename_i y o;split at he
     .cases he
     .rename_i af;simp only[some.injEq]at he;subst he;rw[ar]at az;obtain⟨b,cur,e,fr,rfl,ab,ay,aQ⟩:=az (by simpa using af);refine Good.same h (wE aS ag bq pM.1 pM.2 b o w) rfl ?_;rw[ar];exact λ_=>⟨b,cur,e,fr,rfl,ab,ay,aQ⟩
    .rename_i x _ _;split at he
     .rename_i y q hl;split at he
      .rename_i ds ad;split at he
       .rename_i lG;simp only[some.injEq]at he;subst he;obtain⟨ae,bF,b,o,rfl,ha⟩:=wC h az hl ad;refine Good.same h (wE aS ag bq pM.1 pM.2 b o w) rfl ?_;rw[ar];intro d2 eT mw;rw[rl w q _ _ _ _ _ _ [k] ha];rw[rk _ _ _ _ ad]at eT;have kW:∃d3,ds[k]? =some d3:=⟨_,getElem?_eq_getElem lG.1⟩
        obtain⟨d3,j_⟩:=kW;simp only[I.sub,j_,some.injEq]at eT;subst eT;simp only[b6,j_];refine⟨(bF.drop off).take d3.wd,b,o+off,?_,rfl⟩;rw[lG.2];rfl
       .cases he
      .cases he
     .cases he
   .cases he
  .cases he
 .cases he
def fE (C:bl) (s:aj) (T:TypeId) (x i:I):Option I:=
 match(C.T T).k,i with
 | .slice e,.int _ n=>if 0<=n/\(C.T e).ok=true then
   match x with
   | .slice xs=>match xs[n.toNat]? with
     |some d=>if d.wd=(C.T e).sz then some (.ref d)else none
     |none=>none
   | .h y q=>match I.sub q (s y)with
     |some (.aE sz xs)=>if n.toNat<xs.length/\sz=(C.T e).sz then some (.af y (q++[n.toNat]))else none
     |_=>none
   |_=>none
   else none
 |_,_=>none
theorem Ak (aS:C.cS) {T e:TypeId} (ag:(C.T T).k= .slice e) (he:(C.T e).ok=true) (b o len cap:Nat) (k:IntKind) (n:Nat) (aT:n<len) (w:World):
  (Instr.indexAt T (.slice (some ⟨b,o,none⟩) len cap) (.int k n)).run C.P w= .ok (.pointer (some ⟨b,o+n*(C.T e).sz,none⟩)) w:=by
 obtain⟨i,d,z,aD,aG,aJ,bp,bJ,bk,a7⟩:=aS.info (dV ag (by simp));rw[ag]at a7;have:=ir a7;subst this;obtain⟨mv,aV,iu,f1,f2,f3,f4,f5,f6,f7⟩:=aS.info he;simp[Instr.indexAt,run_underlying bk,asIntOf,aT,hB f1,f2,Addr.add_lit]
theorem Gt (aS:C.cS) (h:aZ w0 F0 X F S s ao w) {T:TypeId} {x i:I} {v ka:Value} (az:ar w F s ao x v (λ_=>False)) (Gu:ar w F s ao i ka (λ_=>False))
  (he:fE C s T x i=some av):Good C w0 F0 X ao w (Instr.indexAt T v ka) av s:=by
 unfold fE at he;split at he
 .rename_i e k n ag;have wF:=(ar.bx rfl).1 Gu;rw[ah,eb wF.1]at wF;have:ka= .int k n:=by simpa using wF.2
  subst this;split at he
  .rename_i aT;obtain⟨n,rfl⟩:=Int.eq_ofNat_of_zero_le aT.1;simp only[Int.toNat_natCast]at he;split at he
   .rename_i xs;split at he
    .rename_i d ad;split at he
     .rename_i hw;simp only[some.injEq]at he;subst he;have hX:=(ar.bx rfl).1 az;rw[ah,eb hX.1]at hX;obtain⟨R,⟨rfl,_⟩|⟨b,o,cap,cV,sz,U,ab,ay,aQ,bc,bW,b4⟩⟩:=hX
      .simp at ad
      .simp only[cons.injEq,and_true]at U;subst U;have cq:n<xs.length:=(List.getElem?_eq_some_iff.1 ad).1;obtain⟨bb,dF,c2,bg,eW,rfl,eR,eo,eF,fj,dM,iN⟩:=aH.pick xs _ _ n d b4 ad;refine Good.same h (Ak aS ag aT.2 b o _ _ k n cq w) rfl ((ar.bx rfl).2 ⟨rfl,?_⟩);rw[ah];refine⟨b,_,dF,rfl,ab,?_,ah.mono (λ_ h=>h) _ _ _ _ (λb J=>eF b J) dM⟩;have Gv:=bc d (mem_of_getElem? ad);have:n*(C.T e).sz=bb.length:=by
        rw[eR,oq _ (λd ad=>bc d (mem_of_mem_take ad)),length_take,Nat.min_eq_left (by omega),<-hw,Gv]
       rw[this];exact bW.wD
     .cases he
    .cases he
   .rename_i y q;split at he
    .rename_i sz xs ad;split at he
     .rename_i hw;simp only[some.injEq]at he;subst he;rw[ar]at az;obtain⟨bF,a,g1,g2,g3⟩:=az _ ad rfl;have R:Value.eh v=true:=g3;rw[eb R]at g2;subst g2;have ak:=h.b9 y;rw[ar.bx (eX ad (.inl rfl))]at ak;obtain⟨dG,bI,cr,df,k0,bA,bN,bO,bL,cz⟩:=ctx q (s y) (bn (ao y)) (S y) none _ ak.2 ad;rw[k0]at g1;simp only[some.injEq,Prod.mk.injEq,true_and]at g1;obtain⟨rfl,rfl⟩:=g1;rw[ah]at bL;rcases bL with⟨rfl,_⟩|⟨b,cap,cur,aG,fr,b0,aJ,_⟩
      .simp at hw
      .simp only[cons.injEq,and_true]at aJ;subst aJ;refine Good.same h (Ak aS ag aT.2 b 0 _ _ k n hw.1 w) rfl ?_;rw[ar];intro d2 eT _;rw[rl w q _ _ _ _ _ _ [n] k0];rw[rk _ _ _ _ ad]at eT;obtain⟨d3,j_⟩:∃d3,xs[n]? =some d3:=⟨_,getElem?_eq_getElem hw.1⟩
       simp only[I.sub,j_,some.injEq]at eT;subst eT;simp only[b6,j_];exact⟨_,b,n*sz,rfl,by simp[hw.2]⟩
     .cases he
    .cases he
   .cases he
  .cases he
 .cases he
end
section
variable {C:bl} {w0 w:World} {F0 X F:Nat->Prop} {S:Nat->Nat->Prop} {s s1:aj} {ao:Nat->Value} {av:I}
theorem Al (aS:C.cS) {T:TypeId} {al:List (TypeId×Nat)} (ag:(C.T T).k= .struct al) (w:World):(isAgg T).run C.P w= .ok true w:=by
 obtain⟨i,d,z,aD,aG,aJ,bp,bJ,bk,a7⟩:=aS.info (dV ag (by simp));rw[ag]at a7;obtain⟨gs,rfl,_⟩:=rm a7;simp[isAgg,run_underlying bk]
def ea.flat (x:ea):Bool:=match x.k with
 | .other=>false
 | .ey _=>false
 | .struct _=>false
 |_=>true
theorem Am {x:ea} (h:x.flat=true):x.ok=true:=by
 unfold ea.flat at h;unfold ea.ok;revert h;cases x.k<;>simp
theorem wG (aS:C.cS) {T:TypeId} (ag:(C.T T).flat=true) (w:World):(isAgg T).run C.P w= .ok false w:=by
 obtain⟨i,d,z,aD,aG,aJ,bp,bJ,bk,a7⟩:=aS.info (Am ag);have bT:(∀al,d≠.struct al)/\(∀n e,d≠.array n e):=by
  clear bk;unfold ea.flat at ag;generalize (C.T T).k=hb at*;cases hb<;>cases d<;>simp[hW]at a7 ag⊢
 cases d<;>first|exact(bT.1 _ rfl).elim|exact(bT.2 _ _ rfl).elim|simp[isAgg,run_underlying bk]
theorem e_.one {w:World} {b o:Nat} {v:Value} (h:e_ w b o [v]):w.cell? ⟨b,o,none⟩=some v:=by simpa using h 0 v rfl
theorem An {P:Program} {b o:Nat}:∀(cs:RJ) (i:Nat) (acc:Array Value),e_ w b (o+i) cs->(loadCellsFrom ⟨b,o,none⟩ i cs.length acc).run P w= .ok (acc++cs.toArray) w
 |[],i,acc,_=>by simp[loadCellsFrom]
 |c::cs,i,acc,h=>by
  have bj:w.cell? ⟨b,o+i,none⟩=some c:=by simpa using h 0 c rfl
  have U:e_ w b (o+(i+1)) cs:=by
   intro j x bE;have:=h (j+1) x (by simpa using bE);rw[<-this];congr 2;omega
  have ih:=An (P:=P) cs (i+1) (acc.push c) U;simp only[length_cons,loadCellsFrom,Sem.run_bind,Go.load,Sem.run,Addr.add_lit,bj,Result.andThen];rw[ih];simp
theorem Gw (aS:C.cS) {T:TypeId} {al:List (TypeId×Nat)} (ag:(C.T T).k= .struct al) {b o:Nat} {cs:RJ} (h:e_ w b o cs) (hl:cs.length=(C.T T).sz):
  (loadVar T ⟨b,o,none⟩).run C.P w= .ok (.agg cs.toArray) w:=by
 obtain⟨i,d,z,aD,aG,aJ,bp,bJ,bk,a7⟩:=aS.info (dV ag (by simp));have:=An (P:=C.P) (b:=b) (o:=o) cs 0 #[] (by simpa using h);simp only[loadVar,Sem.run_bind,Al aS ag,Result.andThen,if_true,hB aD,aG,<-hl,loadCells,this];simp
theorem Ao (aS:C.cS) {T:TypeId} (ag:(C.T T).flat=true) {b o:Nat} {v:Value} (h:e_ w b o [v]):
  (loadVar T ⟨b,o,none⟩).run C.P w= .ok v w:=by
 simp[loadVar,wG aS ag,Go.load,Sem.run,h.one]
def fits (C:bl) (T:TypeId) (d:I):Bool:=match(C.T T).k,d with
    | .struct _,.agg ds=>I.cp ds==(C.T T).sz
    | .struct _,_=>false
    |_,.agg _=>false
    |_,.tuple _=>false
    |_,_=>(C.T T).flat
def Ap:RL->Nat->Nat->Option Nat
 |[],_,_=>none
 |d::ds,i,k=>if k=0 then some i else if d.wd<=k then Ap ds (i+1) (k-d.wd)else none
def eL (C:bl) (s:aj) (T:TypeId) (x:I):Option I:=
 match x with
 | .ref d=>if fits C T d=true then some d else none
 | .J y k=>match s y with
   | .agg ds=>if I.ee ds then none else match Ap ds 0 k with
     |some i=>match ds[i]? with
      |some d=>if I.cp (ds.take i)=k/\fits C T d=true then some (if d.plain then d else .h y [i])else none
      |none=>none
     |none=>none
   |_=>none
 |x=>match loc s x with
  |some (y,q)=>match I.sub q (s y)with
   |some d=>if fits C T d=true then some (if d.plain then d else .h y q)else none
   |none=>none
  |none=>none
theorem ah.one {F:Nat->Prop} {d:I} {cs:RJ} {S:Nat->Prop} (h:ah w F d cs S) (U:∀al,d≠.agg al) (ab:∀al,d≠.tuple al):∃v,cs=[v]/\Value.eh v=true:=by
 cases d with
 |hole=>rw[ah]at h;obtain⟨v,h,rfl⟩:=h;exact⟨v,rfl,h⟩
 |dB=>rw[ah]at h;obtain⟨v,rfl⟩:=h;exact⟨_,rfl,rfl⟩
 |slice xs=>rw[ah]at h;rcases h with⟨_,a,c,rfl,_⟩|⟨b,o,cap,cV,sz,rfl,_⟩<;>exact⟨_,rfl,rfl⟩
 |aE sz xs=>rw[ah]at h;rcases h with⟨_,_,rfl⟩|⟨b,cap,cur,e,fr,ck,rfl,_⟩<;>exact⟨_,rfl,rfl⟩
 |ref d=>rw[ah]at h;obtain⟨b,o,cV,rfl,_⟩:=h;exact⟨_,rfl,rfl⟩
 |bC d=>rw[ah]at h;obtain⟨b,cur,e,fr,ck,rfl,_⟩:=h;exact⟨_,rfl,rfl⟩
 |agg al=>exact(U _ rfl).elim
 |tuple al=>exact(ab _ rfl).elim
 |fn _ _=>rw[ah]at h;obtain⟨arr,rfl,_⟩:=h;exact⟨_,rfl,rfl⟩
 |h _ _=>rw[ah]at h;exact h.elim
 |af _ _=>rw[ah]at h;exact h.elim
 |J _ _=>rw[ah]at h;exact h.elim
 |cf _=>rw[ah]at h;obtain⟨v,fD,rfl⟩:=ik.one h;exact⟨v,rfl,fD⟩
 |dE _ _=>rw[ah]at h;obtain⟨arr,rfl,_⟩:=h;exact⟨_,rfl,rfl⟩
 |_=>rw[ah]at h;subst h;exact⟨_,rfl,rfl⟩
theorem I.tD {d:I} (h:d.single=true):(∀al,d≠.agg al)/\∀al,d≠.tuple al:=
 ⟨λal e=>(by subst e;cases h),λal e=>(by subst e;cases h)⟩
theorem ar.kb {F:Nat->Prop} {s:aj} {ao:Nat->Value} {d:I} {v:Value} (aI:d.tree=true) (R:d.single=true) (h:ah w F d [v] (λ_=>False)):ar w F s ao d v (λ_=>False):=by
 obtain⟨dO,e,U⟩:=ah.one h (I.tD R).1 (I.tD R).2;have:v=dO:=by simpa using e
 subst this;refine(ar.bx aI).2 ⟨?_,by rw[eb U];exact h⟩;cases d<;>first|exact U|cases R
mutual
theorem ar.lH {F:Nat->Prop} {s:aj} {ao:Nat->Value}:∀(d:I) (v:Value),d.single=true->ah w F d [v] (λ_=>False)->ar w F s ao d v (λ_=>False)
 | .fn f caps,v,_,h=>by
   rw[ah]at h;obtain⟨arr,U,ab,ay⟩:=h;rw[ar];exact⟨arr,by simpa using U,cE.lH caps _ ab ay⟩
 | .bool b,v,R,h=>ar.kb rfl R h
 | .dB,v,R,h=>ar.kb rfl R h
 | .int k n,v,R,h=>ar.kb rfl R h
 | .str x,v,R,h=>ar.kb rfl R h
 | .cu,v,R,h=>ar.kb rfl R h
 | .bz,v,R,h=>ar.kb rfl R h
 | .slice xs,v,R,h=>ar.kb rfl R h
 | .aE sz xs,v,R,h=>ar.kb rfl R h
 | .ref d,v,R,h=>ar.kb rfl R h
 | .bC d,v,R,h=>ar.kb rfl R h
 | .h _ _,v,_,h=>by rw[ah]at h;exact h.elim
 | .af _ _,v,_,h=>by rw[ah]at h;exact h.elim
 | .J _ _,v,_,h=>by rw[ah]at h;exact h.elim
 | .cf _,v,R,h=>ar.kb rfl R h
 | .dE _ _,v,R,h=>ar.kb rfl R h
theorem cE.lH {F:Nat->Prop} {s:aj} {ao:Nat->Value}:∀(ds:RL) (vs:RJ),(∀d∈ds,d.single=true)->aH w F ds vs (λ_=>False)->cE w F s ao ds vs
 |[],vs,_,h=>by rw[aH]at h;rw[cE];exact h
 |d::ds,vs,R,h=>by
  rw[aH]at h;obtain⟨bb,c2,bg,b0,rfl,ab,ay,aQ,bc,_⟩:=h;have ad:=R d (by simp);obtain⟨v,rfl,_⟩:=ah.one ab (I.tD ad).1 (I.tD ad).2;rw[cE];exact⟨v,c2,rfl,ar.lH d v ad (ah.mono (λ_ h=>h) _ _ _ _ (λb J=>aQ b J) ab),cE.lH ds c2 (λx ak=>R x (by simp[ak])) (aH.mono (λ_ h=>h) _ _ _ _ (λb J=>bc b J) ay)⟩
end
theorem tE (aS:C.cS) {T:TypeId} {d:I} {b o:Nat} {cs:RJ} {S:Nat->Prop} (h:e_ w b o cs) (ad:ah w F d cs S)
  (fp:fits C T d=true):
  ∃v,(loadVar T ⟨b,o,none⟩).run C.P w= .ok v w/\bn v=cs/\b7 d v:=by
 unfold fits at fp;by_cases R:∃al,(C.T T).k= .struct al
 .obtain⟨al,ag⟩:=R;rw[ag]at fp;cases d with
  |agg ds=>
   simp only[beq_iff_eq]at fp;refine⟨_,Gw aS ag h ((ah.length _ _ _ ad).trans fp),rfl,⟨_,rfl⟩⟩
  |_=>simp at fp
 .have gR:(C.T T).flat=true/\(∀al,d≠.agg al)/\(∀al,d≠.tuple al):=by
   revert fp R;cases ag:(C.T T).k<;>cases d<;>simp
  obtain⟨v,rfl,U⟩:=ah.one ad gR.2.1 gR.2.2;refine⟨v,Ao aS gR.1 h,eb U,?_⟩;cases d<;>first|exact U|exact(gR.2.1 _ rfl).elim|exact(gR.2.2 _ rfl).elim
theorem Gx (aS:C.cS) {T:TypeId} {d:I} {off:Nat} {arr:Array Value} {bb cs c2:RJ} {S:Nat->Prop} (he:arr.toList=bb++(cs++c2)) (ba:bb.length=off) (ad:ah w F d cs S)
  (fp:fits C T d=true):
  ∃v,(part T arr off).run C.P w= .ok v w/\bn v=cs/\b7 d v:=by
 unfold fits at fp;by_cases R:∃al,(C.T T).k= .struct al
 .obtain⟨al,ag⟩:=R;rw[ag]at fp;cases d with
  |agg ds=>
   simp only[beq_iff_eq]at fp;obtain⟨i,d,z,aD,aG,aJ,bp,bJ,bk,a7⟩:=aS.info (dV ag (by simp));have hl:cs.length=(C.T T).sz:=(ah.length _ _ _ ad).trans fp;have ak:(arr.extract off (off+(C.T T).sz)).toList=cs:=by
    rw[Array.toList_extract,he,extract_eq_take_drop,<-hl,<-ba,Nat.add_sub_cancel_left,drop_left,take_left]
   refine⟨.agg (arr.extract off (off+(C.T T).sz)),?_,by simpa [bn,eG]using ak,⟨_,rfl⟩⟩;simp[part,Al aS ag,hB aD,aG]
  |_=>simp at fp
 .have gR:(C.T T).flat=true/\(∀al,d≠.agg al)/\(∀al,d≠.tuple al):=by
   revert fp R;cases ag:(C.T T).k<;>cases d<;>simp
  obtain⟨v,rfl,U⟩:=ah.one ad gR.2.1 gR.2.2;have hg:arr[off]? =some v:=by
   rw[<-Array.getElem?_toList,he,<-ba,getElem?_append_right (Nat.le_refl _)];simp
  refine⟨v,?_,eb U,?_⟩
  .simp[part,wG aS gR.1,hg]
  .cases d<;>first|exact U|exact(gR.2.1 _ rfl).elim|exact(gR.2.2 _ rfl).elim
theorem Gy (aS:C.cS) (h:aZ w0 F0 X F S s ao w) {T:TypeId} {x:I} {v:Value} (az:ar w F s ao x v (λ_=>False)) (he:eL C s T x=some av):
  Good C w0 F0 X ao w (Instr.loadAt T v) av s:=by
 unfold eL at he;split at he
 .rename_i d;split at he
  .rename_i fp;simp only[some.injEq]at he;subst he;have hX:=(ar.bx rfl).1 az;rw[ah,eb hX.1]at hX;obtain⟨R,b,o,cV,U,ab,ay,aQ⟩:=hX;simp only[cons.injEq,and_true]at U;subst U;obtain⟨dO,ax,ae,jg⟩:=tE aS ay aQ fp;have cI:(Instr.loadAt T (.pointer (some ⟨b,o,none⟩))).run C.P w= .ok dO w:=by simp[Instr.loadAt,Instr.sureAddr,ax]
   refine⟨dO,w,F,S,cI,h,?_⟩;by_cases aI:d.tree=true
   .exact .inr ⟨aI,jg,λ_=>False,by rw[ae];exact aQ,λ_ h=>h.elim,λ_ h=>h.elim,λ_ _ h=>h.elim,λ_ h=>h.elim⟩
   .cases d<;>first|exact(aI rfl).elim|(rw[ah]at aQ;exact aQ.elim)|exact .inl ⟨rfl,by rw[ar];trivial⟩|(have bc:=aQ;rw[ah]at bc;obtain⟨arr,e,_⟩:=bc;rw[<-ae]at e aQ;rw[eb (by exact jg)]at aQ;exact .inl ⟨rfl,ar.lH _ _ rfl aQ⟩)
  .cases he
 .rename_i y k;split at he
  .rename_i ds nx;split at he
   .cases he
   .rename_i Gz;split at he
    .rename_i i aC;split at he
     .rename_i d ad;split at he
      .rename_i fp;simp only[some.injEq]at he;have dZ:(s y).plain=false:=by rw[nx];simp only[I.plain];simpa using Gz
       rw[ar]at az;obtain⟨b,cur,e,fr,rfl,ab,ay,aQ⟩:=az dZ;have hy:=h.b9 y;rw[nx]at hy;have Aq:=((ar.bx rfl).1 hy).2;rw[ah]at Aq;obtain⟨bb,dF,c2,bg,eW,iQ,eR,eo,eF,fj,dM,iN⟩:=aH.pick ds _ _ i d Aq ad;have gx:e_ w b k dF:=by
        intro j c bE;have cq:j<dF.length:=(List.getElem?_eq_some_iff.1 bE).1;have:cur.toList[k+j]? =some c:=by
         rw[aQ,iQ,getElem?_append_right (by omega),getElem?_append_left (by omega),<-bE];congr 1;omega
        simp[World.cell?,ay];simpa using this
       obtain⟨dO,ax,ae,jg⟩:=tE aS gx dM fp.2;have cI:(Instr.loadAt T (.pointer (some ⟨b,k,none⟩))).run C.P w= .ok dO w:=by simp[Instr.loadAt,Instr.sureAddr,ax]
       refine⟨dO,w,F,S,cI,h,?_⟩;split at he
       .rename_i af;subst he;by_cases aI:d.tree=true
        .exact .inl ⟨af,(ar.bx aI).2 ⟨jg,by rw[ae];exact ah.plain _ _ _ _ af dM⟩⟩
        .cases d<;>first|exact(aI rfl).elim|(rw[ah]at dM;exact dM.elim)|exact .inl ⟨rfl,by rw[ar];trivial⟩|(have bc:=ah.plain _ _ _ (λ_=>False) af dM;rw[<-ae]at bc;rw[eb (by exact jg)]at bc;exact .inl ⟨rfl,ar.lH _ _ rfl bc⟩)
       .subst he;refine .inl ⟨rfl,?_⟩;rw[ar];intro d2 eT _;rw[nx]at eT⊢;simp only[I.sub,ad,some.injEq]at eT;subst eT;refine⟨dF,none,?_,ae,jg⟩;simp only[b6,ad];rw[iQ,om bb dF c2 _ _ eR (ah.length _ _ _ dM)];rfl
      .cases he
     .cases he
    .cases he
  .cases he
 .rename_i x _ _;split at he
  .rename_i y q hl;split at he
   .rename_i d ad;split at he
    .rename_i fp;simp only[some.injEq]at he;obtain⟨kX,bF,b,o,rfl,ha⟩:=wC h az hl ad;have hy:=h.b9 y;rw[ar.bx (eX ad (.inr kX))]at hy;obtain⟨dG,bI,cr,df,k0,bA,bN,bO,bL,cz⟩:=ctx q (s y) (bn (ao y)) (S y) none _ hy.2 ad;rw[k0]at ha;simp only[some.injEq,Prod.mk.injEq,true_and]at ha;obtain⟨rfl,rfl⟩:=ha;have gx:e_ w b o dG:=by
      rcases cz with⟨l,r,aD,aG,_⟩|⟨dw,cur,e,fr,l,r,aD,aG,aJ,bp,bJ,_⟩
      .simp at aG
      .simp only[some.injEq,Prod.mk.injEq]at aD;obtain⟨rfl,rfl⟩:=aD;intro j c bE;have cq:j<dG.length:=(List.getElem?_eq_some_iff.1 bE).1;have:cur.toList[l.length+j]? =some c:=by
        rw[bJ,getElem?_append_right (by omega),getElem?_append_left (by omega),<-bE];congr 1;omega
       simp[World.cell?,aJ];simpa using this
     obtain⟨dO,ax,ae,jg⟩:=tE aS gx bL fp;have cI:(Instr.loadAt T (.pointer (some ⟨b,o,none⟩))).run C.P w= .ok dO w:=by simp[Instr.loadAt,Instr.sureAddr,ax]
     refine⟨dO,w,F,S,cI,h,?_⟩;split at he
     .rename_i af;subst he;by_cases aI:d.tree=true
      .exact .inl ⟨af,(ar.bx aI).2 ⟨jg,by rw[ae];exact ah.plain _ _ _ _ af bL⟩⟩
      .cases d<;>first|exact(aI rfl).elim|(rw[ah]at bL;exact bL.elim)|exact .inl ⟨rfl,by rw[ar];trivial⟩|(have bc:=ah.plain _ _ _ (λ_=>False) af bL;rw[<-ae]at bc;rw[eb (by exact jg)]at bc;exact .inl ⟨rfl,ar.lH _ _ rfl bc⟩)
     .subst he;refine .inl ⟨rfl,?_⟩;rw[ar];intro d2 eT _;rw[ad]at eT;simp only[some.injEq]at eT;subst eT;exact⟨_,_,k0,ae,jg⟩
    .cases he
   .cases he
  .cases he
mutual
theorem ah.ox {F:Nat->Prop}:∀(d:I) (cs:RJ) (S:Nat->Prop),ah w F d cs S->∀c∈cs,Value.eh c=true
 | .hole,cs,S,h=>by rw[ah]at h;obtain⟨v,h,rfl⟩:=h;simpa using h
 | .bool _,cs,S,h=>by rw[ah]at h;subst h;simp[Value.eh]
 | .dB,cs,S,h=>by rw[ah]at h;obtain⟨b,rfl⟩:=h;simp[Value.eh]
 | .int _ _,cs,S,h=>by rw[ah]at h;subst h;simp[Value.eh]
 | .str _,cs,S,h=>by rw[ah]at h;subst h;simp[Value.eh]
 | .cu,cs,S,h=>by rw[ah]at h;subst h;simp[Value.eh]
 | .bz,cs,S,h=>by rw[ah]at h;subst h;simp[Value.eh]
 | .slice xs,cs,S,h=>by
   rw[ah]at h;rcases h with⟨_,a,c,rfl,_⟩|⟨b,o,cap,cV,sz,rfl,_⟩<;>simp[Value.eh]
 | .aE sz xs,cs,S,h=>by
   rw[ah]at h;rcases h with⟨_,_,rfl⟩|⟨b,cap,cur,e,fr,aB,rfl,_⟩<;>simp[Value.eh]
 | .ref d,cs,S,h=>by rw[ah]at h;obtain⟨b,o,cV,rfl,_⟩:=h;simp[Value.eh]
 | .bC d,cs,S,h=>by rw[ah]at h;obtain⟨b,o,cV,_,_,rfl,_⟩:=h;simp[Value.eh]
 | .agg al,cs,S,h=>by rw[ah]at h;exact aH.ox al _ _ h
 | .tuple al,cs,S,h=>by rw[ah]at h;exact aH.ox al _ _ h
 | .fn _ _,cs,S,h=>by rw[ah]at h;obtain⟨arr,rfl,_⟩:=h;simp[Value.eh]
 | .h _ _,cs,S,h=>by rw[ah]at h;exact h.elim
 | .af _ _,cs,S,h=>by rw[ah]at h;exact h.elim
 | .J _ _,cs,S,h=>by rw[ah]at h;exact h.elim
 | .cf _,cs,S,h=>by rw[ah]at h;obtain⟨v,fD,rfl⟩:=ik.one h;simpa using fD
 | .dE _ _,cs,S,h=>by rw[ah]at h;obtain⟨arr,rfl,_⟩:=h;simp[Value.eh]
theorem aH.ox {F:Nat->Prop}:∀(ds:RL) (cs:RJ) (S:Nat->Prop),aH w F ds cs S->∀c∈cs,Value.eh c=true
 |[],cs,S,h=>by rw[aH]at h;subst h;simp
 |d::ds,cs,S,h=>by
  rw[aH]at h;obtain⟨bb,c2,bg,b0,rfl,ab,ay,_⟩:=h;intro c ae;rcases mem_append.1 ae with ae|ae
  .exact ah.ox d _ _ ab c ae
  .exact aH.ox ds _ _ ay c ae
end
theorem wH {P:Program} {b o:Nat} {e:TypeId} {fr:Nat×Nat}:∀(vs:RJ) (i:Nat) (cur:Array Value) (w:World) (l m r:RJ),w.heap[b]? =some (.cells cur e fr)->jd fr cur.size->
  cur.toList=l++(m++r)->l.length=o+i->m.length=vs.length->(∀v∈vs,Value.eh v=true)->
  ∃an,(storeCells ⟨b,o,none⟩ vs i).run P w= .ok () an/\an.heap[b]? =some (.cells (l++(vs++r)).toArray e fr)/\(∀c,c≠b->an.heap[c]? =w.heap[c]?)/\an.heap.size=w.heap.size/\an.os=w.os/\an.tape=w.tape/\Out an w
 |[],i,cur,w,l,m,r,J,bq,ae,hl,hm,_=>by
  refine⟨w,rfl,?_,λ_ _=>rfl,rfl,rfl,rfl,Out.refl _⟩;have:m=[]:=by simpa using hm
  subst this;rw[J];have:cur=(l++([]++r)).toArray:=by rw[<-ae]
  rw[<-this]
 |v::vs,i,cur,w,l,m,r,J,bq,ae,hl,hm,tF=>by
  obtain⟨x,m,rfl⟩:∃x gA,m=x::gA:=by cases m with
   |nil=>simp at hm
   |cons x m=>exact⟨x,m,rfl⟩
  have hlen:cur.size=(l++(x::m++r)).length:=by rw[<-ae];simp
  have cq:o+i<cur.size:=by rw[hlen];simp;omega
  have oy:w.cell? ⟨b,o+i,none⟩=some cur[o+i]:=by simp[World.cell?,J,cq]
  have GA:w.frozen? ⟨b,o+i,none⟩=false:=by
   have:=bq (o+i) cq;simp only[World.frozen?,J];simp only[Bool.and_eq_false_iff,decide_eq_false_iff_not];by_cases U:fr.1<=o+i
   .right;exact λab=>this ⟨U,ab⟩
   .left;exact U
  have kc:(w.setCell ⟨b,o+i,none⟩ v).heap[b]? =some (.cells ((l++[v])++(m++r)).toArray e fr):=by
   simp only[World.setCell,Array.getElem?_modify,if_true,J,map_some,isSome_none,Bool.false_eq_true,if_false];congr 2;apply Array.ext';rw[Array.toList_setIfInBounds,ae,<-hl,set_append_right _ _ (Nat.le_refl _)];simp
  have oz:(store ((⟨b,o,none⟩:Addr).add i) v).run P w= .ok () (w.setCell ⟨b,o+i,none⟩ v):=by
   have U:=tF v (by simp);rw[Addr.add_lit];cases v<;>first|(simp[Value.eh]at U;done)|simp[Go.store,Sem.run,oy,GA]
  obtain⟨an,g1,g2,g3,g4,g5,g6,g7⟩:=wH (P:=P) (b:=b) (o:=o) vs (i+1) _ (w.setCell ⟨b,o+i,none⟩ v) (l++[v]) m r kc (by
   have:(l++[v]++(m++r)).toArray.size=cur.size:=by rw[hlen];simp
   rw[this];exact bq) (by simp) (by simp;omega) (by simpa using hm) (λu hu=>tF u (by simp[hu]))
  refine⟨an,?_,by simpa using g2,λc ae=>?_,?_,g5,g6,g7⟩
  .simp only[storeCells,Sem.run_bind,oz,Result.andThen];exact g1
  .rw[g3 c ae];simp only[World.setCell,Array.getElem?_modify];rw[if_neg (λe=>ae e.symm)]
  .rw[g4];simp[World.setCell]
theorem wI {d:I} {v:Value} (h:b7 d v) (ad:∀al,d≠.tuple al):v.cells=(bn v).toArray:=by
 cases d with
 |tuple al=>exact(ad _ rfl).elim
 |agg al=>obtain⟨arr,rfl⟩:=h;simp[Value.cells,bn,eG]
 |_=>
  have U:Value.eh v=true:=h;rw[eb U];cases v<;>first|rfl|(simp[Value.eh]at U)
def gS (C:bl) (s:aj) (T:TypeId) (x y:I):Option aj:=
 match bK s y,loc s x with
 |some (d,s1),some (z,q)=>match d with
  | .tuple _=>none
  |d=>match I.sub q (s z)with
   |some d0=>if d.wd=d0.wd/\d.wd=(C.T T).sz/\(C.T T).ok=true/\y.owner≠some z then some (cd (fa z s1) z (I.put q d (s z)))else none
   |none=>none
 |_,_=>none
theorem GB {s s1:aj} {y d:I} {z:Nat} (h:bK s y=some (d,s1)) (bt:(s z).tree=true) (hy:y.owner≠some z):s1 z=s z:=by
 cases y with
 |h x q=>
  simp only[bK]at h;split at h
  .split at h
   .cases h
   .simp only[some.injEq,Prod.mk.injEq]at h;obtain⟨_,rfl⟩:=h;rw[gy _ _ (λe=>hy (by rw[I.owner,e]))];exact wo bt
  .cases h
 |af x q=>simp[bK]at h
 |J x q=>simp[bK]at h
 |fn f c=>simp[bK]at h
 |hole=>simp[bK]at h
 |_=>simp only[bK,some.injEq,Prod.mk.injEq]at h;rw[h.2]
theorem GC (aS:C.cS) (h:aZ w0 F0 X F S s ao w) {T:TypeId} {x y:I} {fq gb:Value} (wJ:ar w F s ao x fq (λ_=>False)) (hy:y.plain=true) (GD:ar w F s ao y gb (λ_=>False))
  {s2:aj} (he:gS C s T x y=some s2):
  ∃an aB,(Instr.storeAt T fq gb).run C.P w= .ok () an/\aZ w0 F0 X F aB s2 ao an:=by
 unfold gS at he;split at he
 .rename_i d s1 z q aI hl;have key:∀d:I,(∀al,d≠.tuple al)->bK s y=some (d,s1)->(match I.sub q (s z)with
   |some d0=>if d.wd=d0.wd/\d.wd=(C.T T).sz/\(C.T T).ok=true/\y.owner≠some z then some (cd (fa z s1) z (I.put q d (s z)))else none
   |none=>none)=some s2->∃an aB,(Instr.storeAt T fq gb).run C.P w= .ok () an/\aZ w0 F0 X F aB s2 ao an:=by
   intro d mx aI he;split at he
   .rename_i d0 jh;split at he
    .rename_i rp;obtain⟨U,ab,ay,aQ⟩:=rp;simp only[some.injEq]at he;subst he;obtain⟨kX,bF,b,o,rfl,ha⟩:=wC h wJ hl jh;obtain⟨bg,g0,g1,g2,Sn,g3,g4,g5,g6,g7,g8⟩:=lE h hy GD aI;have dm:s1 z=s z:=GB aI (eX jh (.inr kX)) aQ;rw[<-dm]at jh kX ha⊢;obtain⟨dG,dw,l,r,cur,e,fr,k0,bA,bN,bO,bL⟩:=g0.store jh kX g3 U g4 g5 g6 g7;rw[ha]at k0;simp only[some.injEq,Prod.mk.injEq,true_and]at k0;obtain⟨rfl,rfl,rfl⟩:=k0;obtain⟨i,d,iu,aD,aG,aJ,bp,bJ,bk,a7⟩:=aS.info ay;have hlen:=ah.length _ _ _ g3;have hm:bF.length=(bn gb).length:=by
      have tG:=g0.b9 z;rw[ar.bx (eX jh (.inr kX))]at tG;obtain⟨_,_,_,_,c0,_,_,_,c4,_⟩:=ctx q (s1 z) (bn (ao z)) (bg z) none _ tG.2 jh;rw[ha]at c0;simp only[some.injEq,Prod.mk.injEq,true_and]at c0;rw[c0.1,ah.length _ _ _ c4,hlen,U]
     obtain⟨an,m1,m2,m3,m4,m5,m6,m7⟩:=wH (P:=C.P) (b:=b) (o:=l.length) (e:=e) (fr:=fr) (bn gb) 0 cur w l bF r bA bO bN rfl hm (ah.ox _ _ _ g3);obtain⟨aB,cz⟩:=bL an m2 m3 m4 m5 m6 m7;refine⟨an,aB,?_,cz⟩;have oA:=wI g2 mx;simp[Instr.storeAt,Instr.sureAddr,storeVar,hB aD,aG,oA,hlen,ab,m1]
    .cases he
   .cases he
  split at he
  .cases he
  .rename_i mx;exact key _ (λal e=>mx al e) aI he
 .cases he
theorem aZ.alloc (h:aZ w0 F0 X F S s ao w) {d:I} {cs:RJ} {Sn:Nat->Prop} (e:TypeId) (az:ah w F d cs Sn)
  (cq:∀b,Sn b->b<w.heap.size) (aL:∀b,Sn b->¬F b) (a_:∀u b,Sn b->¬S u b) (bj:∀b,Sn b->X b\/w0.heap.size<=b):
  aZ w0 F0 X F S s ao (w.alloc (.cells cs.toArray e))/\
   hz w0 X F S s ao (w.alloc (.cells cs.toArray e)) (.bC d) (.pointer (some ⟨w.heap.size,0,none⟩)):=by
 have hold:∀b,b<w.heap.size->(w.alloc (.cells cs.toArray e)).heap[b]? =w.heap[b]? :=by
  intro b J;show(w.heap.push _)[b]? =_;rw[Array.getElem?_push,if_neg (by omega)]
 refine⟨h.grow hold (by simp) rfl rfl ⟨rfl,λ_=>Nat.le_refl _⟩,.inr ⟨rfl,rfl,λb=>b=w.heap.size\/Sn b,?_,?_,?_,?_,?_⟩⟩
 .rw[ah];refine⟨w.heap.size,cs.toArray,e,(0,0),Sn,rfl,.inl rfl,?_,?_,?_,λc ae=>.inr ae,λae=>Nat.lt_irrefl _ (cq _ ae)⟩
  .show(w.heap.push _)[_]? =_;simp
  .intro o _ ⟨_,ab⟩;exact absurd ab (not_lt_zero _)
  .exact ah.frame (λb J=>hold b (h.dk b J)) _ _ _ (λb J=>hold b (cq b J)) az
 .rintro b (rfl|J)
  .simp
  .have:=cq b J;simp;omega
 .rintro b (rfl|J) my
  .exact Nat.lt_irrefl _ (h.dk _ my)
  .exact aL b J my
 .rintro u b (rfl|J) hu
  .exact Nat.lt_irrefl _ (h.c1 _ _ hu)
  .exact a_ u b J hu
 .rintro b (rfl|J)
  .exact .inr h.size
  .exact bj b J
def iR (C:bl) (T:TypeId):Option I:=if(C.T T).ok=true then(match(C.T T).k,(C.T T).zero with
    | .ey e,.agg [.cu,.bz]=>some (.cf (.e9 T e []))
    | .ey _,_=>none
    |_,z=>(match flat z with|some _=>some (.bC z)|none=>none))else none
theorem GF (aS:C.cS) (h:aZ w0 F0 X F S s ao w) {T:TypeId} (he:iR C T=some av):Good C w0 F0 X ao w (Instr.alloc T true (.tuple #[])) av s:=by
 unfold iR at he;split at he
 .rename_i ag;split at he
  .rename_i QG QH GG;simp only[some.injEq]at he;subst he;obtain⟨i,d,z,aD,aG,aJ,bp,bJ,bk,a7⟩:=aS.info ag;have bt:=bJ [.pointer none,.slice none 0 0] (by rw[GG];rfl);have hold:∀b,b<w.heap.size->(w.alloc (.cells #[.pointer none,.slice none 0 0] T)).heap[b]? =w.heap[b]? :=by
    intro b J;show(w.heap.push _)[b]? =_;rw[Array.getElem?_push,if_neg (by omega)]
   refine⟨.pointer (some ⟨w.heap.size,0,none⟩),w.alloc (.cells #[.pointer none,.slice none 0 0] T),F,S,?_,h.grow hold (by simp) rfl rfl ⟨rfl,λ_=>Nat.le_refl _⟩,.inr ⟨rfl,rfl,λb=>b=w.heap.size,?_,?_,?_,?_,?_⟩⟩
   .simp[Instr.alloc,pL aD bp,newVar,newRow,newObj,Sem.run,bt]
   .rw[ah];refine⟨w.heap.size,.pointer none,.slice none 0 0,rfl,rfl,?_,.inl rfl,.inl ⟨rfl,rfl⟩⟩;show(w.heap.push _)[_]? =_;simp
   .rintro b rfl;simp
   .rintro b rfl my;exact Nat.lt_irrefl _ (h.dk _ my)
   .rintro u b rfl hu;exact Nat.lt_irrefl _ (h.c1 _ _ hu)
   .rintro b rfl;exact .inr h.size
  .cases he
  split at he
  .rename_i cs iQ;simp only[some.injEq]at he;subst he;obtain⟨i,d,z,aD,aG,aJ,bp,bJ,bk,a7⟩:=aS.info ag;have bt:=bJ cs iQ;obtain⟨ei,b8⟩:=h.alloc (d:=(C.T T).zero) T ((ah.flat _).1 _ cs (λ_=>False) (Nat.le_refl _) iQ) (λ_ h=>h.elim) (λ_ h=>h.elim) (λ_ _ h=>h.elim) (λ_ h=>h.elim);refine⟨_,_,F,S,?_,ei,b8⟩;simp[Instr.alloc,pL aD bp,newVar,newRow,newObj,Sem.run,bt]
  .cases he
 .cases he
def fF (s:aj) (x:I):Option (I×aj):=match bK s x with
 |some (.tuple _,_)=>none
 |some (d,s1)=>some (.bC d,s1)
 |none=>none
theorem GH (h:aZ w0 F0 X F S s ao w) {T:TypeId} {x:I} {v:Value} (ak:x.plain=true) (az:ar w F s ao x v (λ_=>False)) (he:fF s x=some (av,s1)):
  Good C w0 F0 X ao w (Instr.box T v) av s1:=by
 unfold fF at he;split at he
 .cases he
 .rename_i d s2 mx aI;simp only[some.injEq,Prod.mk.injEq]at he;obtain⟨rfl,rfl⟩:=he;obtain⟨bg,g0,g1,g2,Sn,g3,g4,g5,g6,g7,g8⟩:=lE h ak az aI;obtain⟨ei,b8⟩:=g0.alloc T g3 g4 g5 g6 g7;refine⟨_,_,F,bg,?_,ei,b8⟩;have oA:=wI g2 (λal e=>mx al e);simp[Instr.box,newVar,newRow,newObj,Sem.run,oA]
 .cases he
end
end Go.ca
