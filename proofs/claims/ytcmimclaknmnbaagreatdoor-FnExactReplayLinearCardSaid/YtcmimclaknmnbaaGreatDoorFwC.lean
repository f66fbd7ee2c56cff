/- Part of a proof that a law returns true for every input. No condition. -/
import Derived.Test.YtcmimclaknmnbaaGreatDoorFwB
import Derived.Laws.Entries
namespace Go.cC
open List Option Go.IntKind Nat Or
inductive oh where
 |int (k:IntKind)
 |bool
 |str
 |ptr (e:TypeId)
 |slice (e:TypeId)
 |struct (aC:List (TypeId×Nat))
 |fn
 |ij (e:TypeId)
 |map (k e:TypeId)
 |other
structure gr where
 k:oh
 sz:Nat
 bytes:Nat
 zero:I
mutual
def flat:I->Option anX
 | .bool b=>some [.bool b]
 | .int k n=>some [.int k n]
 | .str s=>some [.string ⟨⟨s⟩⟩]
 | .dq=>some [.pointer none]
 | .bd=>some [.slice none 0 0]
 | .agg aC=>sq aC
 | .cc .re=>some [.map none]
 |_=>none
def sq:anZ->Option anX
 |[]=>some []
 |d::ds=>match flat d,sq ds with
  |some a,some b=>some (a++b)
  |_,_=>none
end
theorem ar.flat {w:World} {F:Nat->Prop}:∀n,(∀(d:I) (cs:anX) (S:Nat->Prop),SizeOf.sizeOf d<=n->flat d=some cs->ar w F d cs S)/\
  (∀(ds:anZ) (cs:anX) (S:Nat->Prop),SizeOf.sizeOf ds<=n->sq ds=some cs->aW w F ds cs S):=by
 intro n;induction n with
 |zero=>exact⟨λd _ _ bC=>by cases d<;>simp at bC<;>omega,λds _ _ bC=>by cases ds<;>simp at bC<;>omega⟩
 |succ n ih=>
  refine⟨λd cs S bC h=>?_,λds cs S bC h=>?_⟩
  .cases d with
   |agg aC=>rw[ar];exact ih.2 aC cs S (by simp at bC;omega) (by simpa [cC.flat]using h)
   |bool b=>simp[cC.flat]at h;subst h;rw[ar]
   |int k n=>simp[cC.flat]at h;subst h;rw[ar]
   |str s=>simp[cC.flat]at h;subst h;rw[ar]
   |dq=>simp[cC.flat]at h;subst h;rw[ar]
   |bd=>simp[cC.flat]at h;subst h;rw[ar]
   |cc o=>cases o<;>simp[cC.flat]at h;subst h;rw[ar];rfl
   |_=>simp[cC.flat]at h
  .cases ds with
   |nil=>simp[sq]at h;subst h;rw[aW]
   |cons d ds=>
    simp only[sq]at h;split at h
    .rename_i a b bg R;simp at h;subst h;simp at bC;rw[aW];exact⟨a,b,λ_=>False,λ_=>False,rfl,ih.1 d a _ (by omega) bg,ih.2 ds b _ (by omega) R,λ_ h=>h.elim,λ_ h=>h.elim,λ_ h=>h.elim⟩
    .cases h
def mh:oh->TypeDesc->Prop
 | .int k,.int da=>k=da
 | .bool,.bool=>True
 | .str,.string=>True
 | .ptr e,.pointer gC=>e=gC
 | .slice e,.slice gC=>e=gC
 | .struct aC,.struct gs=>gs.toList.map (λg=>(g.type,g.offset))=aC
 | .fn,.func _ _ _=>True
 | .ij _,.struct _=>True
 | .map k e,.map da gC=>k=da/\e=gC
 |_,_=>False
def MU (P:Program) (t:TypeId) (x:gr):Prop:=
 (∃e n b z,x=⟨.other,e,n,b⟩/\z=0)\/
 ∃i d z,P.info? t=some i/\i.size=x.sz/\i.bytes=x.bytes/\i.zero=some z/\(∀cs,flat x.zero=some cs->z.cells=cs.toArray)/\P.underlying t=some d/\mh x.k d
structure bx where
 P:Program
 T:TypeId->gr
 M:FuncId->List Bool
structure bx.Ok (C:bx):Prop where
 ty:∀t,MU C.P t (C.T t)
 mixed:C.P.follows .mixedOrders=true
inductive aX where
 |t (n:Nat)
 |c (av:I)
 |f (g:FuncId)
def C2:Value->Option I
 | .bool b=>some (.bool b)
 | .int k n=>some (.int k n)
 | .string s=>some (.str s.data.toList)
 | .pointer none=>some .dq
 | .slice none 0 0=>some .bd
 |_=>none
def dz:Operand->Option aX
 | .tmp n=>some (.t n)
 | .const v=>(C2 v).map .c
 | .func g=>some (.f g)
 | .global _=>none
def mi (x:Nat) (d:I):I:=if d.plain then d else .h x []
def a6 (s:an):aX->I
 | .t n=>mi n (s n)
 | .c av=>av
 | .f g=>.fn g []
theorem aF.nothing {w:World} {F:Nat->Prop} {s:an} {au:Nat->Value} {d:I} {v:Value} {S aJ:Nat->Prop} (al:d.plain=true) (h:aF w F s au d v S):aF w F s au d v aJ:=by
 cases d<;>first
  |(rw[aF];trivial)
  |(rw[aF]at h⊢;exact h)
  |(have bn:=(aF.b_ rfl).1 h;exact(aF.b_ rfl).2 ⟨bn.1,ar.plain _ _ _ _ al bn.2⟩)
section
variable {w0 w:World} {F0 X F:Nat->Prop} {S:Nat->Nat->Prop} {s:an} {au:Nat->Value} {a:Act}
theorem MV (s:an) (x:aX) (ai:∀av,x= .c av->av.plain=true):(a6 s x).plain=true:=by
 cases x with
 |t n=>simp only[a6,mi];split<;>first|assumption|rfl
 |c av=>exact ai _ rfl
 |f g=>rfl
theorem GI {v:Value} {av:I} (h:C2 v=some av):av.plain=true:=by
 unfold C2 at h;split at h<;>simp at h<;>subst h<;>rfl
theorem e9 (h:bq w0 F0 X F S s au w) (dW:∀t,au t=a.tmps.getD t undef) {o:Operand} {x:aX} (a1:dz o=some x):
  (a6 s x).plain=true/\aF w F s au (a6 s x) (a.eval o) (λ_=>False):=by
 cases o with
 |tmp n=>
  simp[dz]at a1;subst a1;simp only[a6,mi,Act.eval,<-dW];split
  .rename_i al;exact⟨al,aF.nothing al (h.cD n)⟩
  .rename_i al;refine⟨rfl,?_⟩;rw[aF];intro d ae C3;simp only[I.sub,some.injEq]at ae;subst ae;have aL:=hL (q:=[]) rfl (.inl C3);exact⟨_,none,rfl,rfl,((aF.b_ aL).1 (h.cD n)).1⟩
 |const v=>
  simp only[dz,map_eq_some_iff]at a1;obtain⟨av,qh,rfl⟩:=a1;refine⟨GI qh,?_⟩;simp only[a6,Act.eval];unfold C2 at qh;split at qh<;>simp at qh<;>subst qh<;>rw[aF,ar]<;>exact⟨rfl,rfl⟩
 |func g=>
  simp[dz]at a1;subst a1;refine⟨rfl,?_⟩;simp only[a6,Act.eval];rw[aF];exact⟨#[],rfl,by rw[cV]⟩
 |global g=>simp[dz]at a1
def j5 (w0:World) (X F:Nat->Prop) (S:Nat->Nat->Prop) (s:an) (au:Nat->Value) (w:World) (av:I) (v:Value):Prop:=
 (av.plain=true/\aF w F s au av v (λ_=>False))\/
 (av.tree=true/\c7 av v/\∃Sn,ar w F av (bZ v) Sn/\(∀b,Sn b->b<w.heap.size)/\(∀b,Sn b->¬F b)/\(∀u b,Sn b->¬S u b)/\(∀b,Sn b->X b\/w0.heap.size<=b))
def fin (s:an) (dst:Option Nat) (av:I):an:=match dst with
 |none=>s
 |some t=>if av.plain then cK s t av else cK (k8 t s) t av
def oi (au:Nat->Value) (dst:Option Nat) (v:Value):Nat->Value:=match dst with
 |none=>au
 |some t=>cK au t v
theorem bq.fin (h:bq w0 F0 X F S s au w) {av:I} {v:Value} (aD:j5 w0 X F S s au w av v) (dst:Option Nat):
  ∃aJ,bq w0 F0 X F aJ (cC.fin s dst av) (oi au dst v) w:=by
 cases dst with
 |none=>exact⟨S,h⟩
 |some t=>
  simp only[cC.fin,oi];rcases aD with⟨al,ae⟩|⟨aL,U,Sn,h1,ab,ay,aT,bp⟩
  .rw[if_pos al];exact⟨_,h.tB al ae⟩
  .split
   .rename_i al;exact⟨_,h.tB al ((aF.b_ aL).2 ⟨U,ar.plain _ _ _ _ al h1⟩)⟩
   .exact⟨_,h.C0 aL U h1 ab ay (λu b _ R=>aT u b R) bp⟩
def cy (s:an):I->Option (I×an)
 | .h x q=>match I.sub q (s x)with
   |some d=>if d.plain then none else some (d,cK (hM x s) x (I.put q d.cJ (s x)))
   |none=>none
 | .al _ _=>none
 | .R _ _=>none
 | .fn _ _=>none
 | .hole=>none
 |d=>some (d,s)
def I.owner:I->Option Nat
 | .h x _=>some x
 |_=>none
def k9:Option Nat->I->I
 |some x,d=>b4 x d
 |none,d=>d
theorem rj (h:bq w0 F0 X F S s au w) {av d:I} {s1:an} {v:Value} (qh:av.plain=true) (aD:aF w F s au av v (λ_=>False)) (aL:cy s av=some (d,s1)):
  ∃bR,bq w0 F0 X F bR s1 au w/\d.tree=true/\c7 d v/\∃Sn,ar w F d (bZ v) Sn/\(∀b,Sn b->b<w.heap.size)/\(∀b,Sn b->¬F b)/\(∀u b,Sn b->¬bR u b)/\(∀b,Sn b->X b\/w0.heap.size<=b)/\
   (∀u b,bR u b->S u b)/\(∀b,Sn b->∃u,S u b)/\(∀(bf:I) (ek:Value) (aJ:Nat->Prop),aF w F s au bf ek aJ->aF w F s1 au (k9 av.owner bf) ek aJ):=by
 have tree:∀d:I,d.tree=true->d.plain=true->aF w F s au d v (λ_=>False)->
   ∃bR,bq w0 F0 X F bR s au w/\d.tree=true/\c7 d v/\∃Sn,ar w F d (bZ v) Sn/\(∀b,Sn b->b<w.heap.size)/\(∀b,Sn b->¬F b)/\(∀u b,Sn b->¬bR u b)/\(∀b,Sn b->X b\/w0.heap.size<=b)/\
    (∀u b,bR u b->S u b)/\(∀b,Sn b->∃u,S u b):=by
  intro d ae _ bn;have bn:=(aF.b_ ae).1 bn;exact⟨S,h,ae,bn.1,_,bn.2,λ_ h=>h.elim,λ_ h=>h.elim,λ_ _ h=>h.elim,λ_ h=>h.elim,λ_ _ h=>h,λ_ h=>h.elim⟩
 cases av with
 |h x q=>
  simp only[cy]at aL;split at aL
  .rename_i e he;split at aL
   .cases aL
   .rename_i al;simp only[some.injEq,Prod.mk.injEq]at aL;obtain⟨rfl,rfl⟩:=aL;have al:e.plain=false:=by simpa using al
    obtain⟨Sn,fg,cx,bN,cY,bl,cz,b0,cL,dT,fz⟩:=h.take he al;rw[aF]at aD;obtain⟨amd,a2,g1,g2,g3⟩:=aD e he al;rw[bl]at g1;simp only[some.injEq,Prod.mk.injEq,true_and]at g1;obtain⟨rfl,rfl⟩:=g1;have GJ:e.tree=true:=by cases e<;>first|rfl|(simp[I.plain]at al)
    refine⟨_,cY,GJ,g3,fg,by rw[g2];exact cz,λb R=>h.dh x b (b0 b R),λb R=>h.ep x b (b0 b R),?_,λb R=>h.cR x b (b0 b R),?_,λb R=>⟨x,b0 b R⟩,fz⟩
    .intro u b R hu;simp only[fY]at hu;split at hu
     .exact dT b R hu
     .rename_i V6;exact h.ev u x b V6 hu (b0 b R)
    .intro u b hu;simp only[fY]at hu;split at hu
     .rename_i e;subst e;exact cL b hu
     .exact hu
  .cases aL
 |al x q=>simp[cy]at aL
 |R x q=>simp[cy]at aL
 |fn f c=>simp[cy]at aL
 |hole=>simp[cy]at aL
 |ah sz xs=>simp[I.plain]at qh
 |aV d=>simp[I.plain]at qh
 |_=>
  simp only[cy,some.injEq,Prod.mk.injEq]at aL;obtain⟨rfl,rfl⟩:=aL;obtain⟨bR,t1,t2,t3,Sn,t4,t5,t6,t7,t8,t9,t10⟩:=tree _ rfl qh aD;exact⟨bR,t1,t2,t3,Sn,t4,t5,t6,t7,t8,t9,t10,λ_ _ _ h=>h⟩
def loc (s:an):I->Option (Nat×anU)
 | .h x q=>match I.sub q (s x)with
   |some (.aV _)=>some (x,q++[0])
   |_=>none
 | .al x q=>if I.fy q (s x)then some (x,q)else none
 |_=>none
theorem zR:∀(q:anU) (av d:I) (r:anU),I.sub q av=some d->I.sub (q++r) av=I.sub r d:=by
 intro q;induction q with
 |nil=>intro av d r h;simp[I.sub]at h;subst h;rfl
 |cons k q ih=>
  intro av d r h;cases av with
  |agg aC=>
   simp only[I.sub,cons_append]at h⊢;split at h
   .rename_i x ag;exact ih _ _ _ h
   .cases h
  |tuple aC=>
   simp only[I.sub,cons_append]at h⊢;split at h
   .rename_i x ag;exact ih _ _ _ h
   .cases h
  |ah sz aC=>
   simp only[I.sub,cons_append]at h⊢;split at h
   .rename_i x ag;exact ih _ _ _ h
   .cases h
  |aV x=>
   cases k with
   |zero=>simp only[I.sub,cons_append]at h⊢;exact ih _ _ _ h
   |succ k=>simp[I.sub]at h
  |_=>simp[I.sub]at h
theorem V7:∀(q:anU) (av d:I) (r:anU),I.sub q av=some d->I.fy (q++r) av=(I.fy q av||I.fy r d):=by
 intro q;induction q with
 |nil=>intro av d r h;simp[I.sub]at h;subst h;simp[I.fy]
 |cons k q ih=>
  intro av d r h;cases av with
  |agg aC=>
   simp only[I.sub]at h;split at h
   .rename_i x ag;simp only[I.fy,cons_append,ag];exact ih _ _ r h
   .cases h
  |tuple aC=>
   simp only[I.sub]at h;split at h
   .rename_i x ag;simp only[I.fy,cons_append,ag];exact ih _ _ r h
   .cases h
  |ah sz aC=>simp[I.fy]
  |aV x=>simp[I.fy]
  |_=>simp[I.sub]at h
theorem zS (w:World):∀(q:anU) (av d:I) (cs cx:anX) (a bN:Option (Nat×Nat)) (r:anU),c6 w q av cs a=some (d,cx,bN)->c6 w (q++r) av cs a=c6 w r d cx bN:=by
 intro q;induction q with
 |nil=>intro av d cs cx a bN r h;simp[c6]at h;obtain⟨rfl,rfl,rfl⟩:=h;rfl
 |cons k q ih=>
  intro av d cs cx a bN r h;cases av with
  |agg aC=>
   rw[cons_append];rw[c6]at h⊢;split at h
   .rename_i x ag;exact ih _ _ _ _ _ _ _ h
   .cases h
  |tuple aC=>
   rw[cons_append];rw[c6]at h⊢;split at h
   .rename_i x ag;exact ih _ _ _ _ _ _ _ h
   .cases h
  |ah sz aC=>
   rw[cons_append];rw[c6.eq_def]at h⊢;simp only at h⊢;split at h
   .exact ih _ _ _ _ _ _ _ h
   .cases h
  |aV x=>
   cases k with
   |zero=>
    rw[cons_append];rw[c6.eq_def]at h⊢;simp only at h⊢;split at h
    .exact ih _ _ _ _ _ _ _ h
    .cases h
   |succ k=>rw[show c6 w ((k+1)::q) (.aV x) cs a=none from rfl]at h;cases h
  |_=>simp[c6]at h
end
def gr.ok (x:gr):Bool:=match x.k with
 | .other=>false
 |_=>true
theorem bx.Ok.info {C:bx} (bb:C.Ok) {t:TypeId} (h:(C.T t).ok=true):
  ∃i d z,C.P.info? t=some i/\i.size=(C.T t).sz/\i.bytes=(C.T t).bytes/\i.zero=some z/\(∀cs,flat (C.T t).zero=some cs->z.cells=cs.toArray)/\C.P.underlying t=some d/\mh (C.T t).k d:=by
 rcases bb.ty t with⟨e,n,b,z,ag,_⟩|bn
 .rw[ag]at h;simp[gr.ok]at h
 .exact bn
theorem fQ {x:gr} {k:oh} (h:x.k=k) (hk:k≠.other):x.ok=true:=by
 unfold gr.ok;rw[h];cases k<;>first|rfl|exact(hk rfl).elim
theorem zT {d:TypeDesc} {aC:List (TypeId×Nat)} (h:mh (.struct aC) d):∃gs,d= .struct gs/\gs.toList.map (λg=>(g.type,g.offset))=aC:=by
 cases d<;>simp[mh]at h;exact⟨_,rfl,h⟩
theorem mj {d:TypeDesc} {e:TypeId} (h:mh (.slice e) d):d= .slice e:=by
 cases d<;>simp[mh]at h;rw[h]
theorem zU {d:TypeDesc} {k:IntKind} (h:mh (.int k) d):d= .int k:=by
 cases d<;>simp[mh]at h;rw[h]
theorem rk {d:TypeDesc} (h:mh .str d):d= .string:=by
 cases d<;>simp[mh]at h;rfl
theorem GK {d:TypeDesc} (h:mh .bool d):d= .bool:=by
 cases d<;>simp[mh]at h;rfl
theorem MW {d:TypeDesc} {e:TypeId} (h:mh (.ptr e) d):d= .pointer e:=by
 cases d<;>simp[mh]at h;rw[h]
theorem e_ {v:Value} (h:Value.eJ v=true):bZ v=[v]:=by
 cases v<;>first|rfl|(simp[Value.eJ]at h)
theorem ve {P:Program} {t:TypeId} {i:TypeInfo} (h:P.info? t=some i) (w:World):(typeInfo t).run P w= .ok i w:=by simp[typeInfo,h]
theorem kG {P:Program} {t:TypeId} {i:TypeInfo} (h:P.info? t=some i) (w:World):(Go.sizeOf t).run P w= .ok i.size w:=by simp[Go.sizeOf,ve h]
theorem vf {P:Program} {t:TypeId} {i:TypeInfo} {z:Value} (h:P.info? t=some i) (bC:i.zero=some z) (w:World):(zeroValue t).run P w= .ok z w:=by simp[zeroValue,ve h,bC]
section
variable {C:bx} {w0 w:World} {F0 X F:Nat->Prop} {S:Nat->Nat->Prop} {s s1:an} {au:Nat->Value} {av:I}
def Good (C:bx) (w0:World) (F0 X:Nat->Prop) (au:Nat->Value) (w:World) (m:Sem Value) (av:I) (s1:an):Prop:=
 ∃v aq br aJ,m.run C.P w= .ok v aq/\bq w0 F0 X br aJ s1 au aq/\j5 w0 X br aJ s1 au aq av v
theorem Good.same (h:bq w0 F0 X F S s au w) {m:Sem Value} {v:Value} (ax:m.run C.P w= .ok v w) (al:av.plain=true) (aD:aF w F s au av v (λ_=>False)):Good C w0 F0 X au w m av s:=
 ⟨v,w,F,S,ax,h,.inl ⟨al,aD⟩⟩
theorem GL (_h:bq w0 F0 X F S s au w) {x:I} {v:Value} (aD:aF w F s au x v (λ_=>False)) {y:Nat} {q:anU} (hl:loc s x=some (y,q)) {d:I} (ae:I.sub q (s y)=some d):
  I.fy q (s y)=true/\∃cx b o,v= .pointer (some ⟨b,o,none⟩)/\c6 w q (s y) (bZ (au y)) none=some (d,cx,some (b,o)):=by
 cases x with
 |h z eG=>
  simp only[loc]at hl;split at hl
  .rename_i e he;simp only[some.injEq,Prod.mk.injEq]at hl;obtain⟨rfl,rfl⟩:=hl;rw[aF]at aD;obtain⟨cx,a,g1,g2,g3⟩:=aD _ he rfl;have gq:e=d:=by
    rw[zR _ _ _ _ he]at ae;simpa [I.sub]using ae
   subst gq;refine⟨by rw[V7 _ _ _ _ he];simp[I.fy],?_⟩;have h1:Value.eJ v=true:=g3;rw[e_ h1]at g2;subst g2;have k7:=zS w eG (s z) _ _ _ none a [0] g1;have ag:=_h.cD z;rw[aF.b_ (hL he (.inl rfl))]at ag;obtain⟨fI,bN,dI,fg,k0,bT,b2,dm,de,e5⟩:=ctx eG (s z) (bZ (au z)) (S z) none _ ag.2 he;rw[k0]at g1;simp only[some.injEq,Prod.mk.injEq,true_and]at g1;obtain⟨rfl,rfl⟩:=g1;rw[ar]at de;obtain⟨b,cur,aM,fr,cH,aP,_⟩:=de;simp only[cons.injEq,and_true]at aP;subst aP;exact⟨_,b,0,rfl,by rw[k7];rfl⟩
  .cases hl
 |al z eG=>
  simp only[loc]at hl;split at hl
  .rename_i ai;simp only[some.injEq,Prod.mk.injEq]at hl;obtain⟨rfl,rfl⟩:=hl;rw[aF]at aD;obtain⟨cx,b,o,g1,g2⟩:=aD _ ae ai;exact⟨ai,cx,b,o,g2,g1⟩
  .cases hl
 |_=>simp[loc]at hl
def hq (C:bx) (s:an) (T:TypeId) (x:I) (k:Nat):Option I:=
 match(C.T T).k with
 | .struct aC=>match aC[k]? with
   |some (j6,off)=>if(C.T j6).ok=true/\(C.T j6).sz≠0 then
     match x with
     | .ref (.agg ds)=>match ds[k]? with
       |some d=>if I.dR (ds.take k)=off then some (.ref d)else none
       |none=>none
     | .R y o=>if(s y).plain then none else some (.R y (o+off))
     |x=>match loc s x with
      |some (y,q)=>match I.sub q (s y)with
       |some (.agg ds)=>if k<ds.length/\I.dR (ds.take k)=off then some (.al y (q++[k]))else none
       |_=>none
      |none=>none
    else none
   |none=>none
 |_=>none
theorem Rd.GM {w:World} {b o:Nat} {c1 fB c2:anX} (h:Rd w b o (c1++(fB++c2))):Rd w b (o+c1.length) fB:=by
 intro j c bo;have cp:j<fB.length:=(List.getElem?_eq_some_iff.1 bo).1;have:=h (c1.length+j) c (by rw[getElem?_append_right (by omega),getElem?_append_left (by omega),<-bo];congr 1;omega);rw[Nat.add_assoc];exact this
theorem GN (bb:C.Ok) {T j6:TypeId} {aC:List (TypeId×Nat)} {k off:Nat} (hk:(C.T T).k= .struct aC) (bc:aC[k]? =some (j6,off)) (h1:(C.T j6).ok=true) (ab:(C.T j6).sz≠0) (b o:Nat) (w:World):
  (Instr.fieldAt T (.pointer (some ⟨b,o,none⟩)) k).run C.P w= .ok (.pointer (some ⟨b,o+off,none⟩)) w:=by
 obtain⟨i,d,z,aI,aM,aP,bK,cg,bP,bL⟩:=bb.info (fQ hk (by simp));rw[hk]at bL;obtain⟨gs,rfl,hr⟩:=zT bL;obtain⟨rl,bf,rm,f1,f2,f3,f4,f5,f6,f7⟩:=bb.info h1;have hg:∃g,gs[k]? =some g/\g.type=j6/\g.offset=off:=by
  rw[<-hr,getElem?_map]at bc;simp only[map_eq_some_iff,Prod.mk.injEq]at bc;obtain⟨g,h1,ab,ay⟩:=bc;exact⟨g,by simpa using h1,ab,ay⟩
 obtain⟨g,g1,rfl,rfl⟩:=hg;simp[Instr.fieldAt,run_underlying bP,g1,Instr.sureAddr,fieldPlace,kG f1,f2,ab,Addr.add_lit]
theorem V8 (bb:C.Ok) (h:bq w0 F0 X F S s au w) {T:TypeId} {x:I} {v:Value} {k:Nat} (ag:x.plain=true) (aD:aF w F s au x v (λ_=>False)) (he:hq C s T x k=some av):
  Good C w0 F0 X au w (Instr.fieldAt T v k) av s:=by
 unfold hq at he;split at he
 .rename_i aC hk;split at he
  .rename_i j6 off bc;split at he
   .rename_i xn;split at he
    .rename_i ds;split at he
     .rename_i d ae;split at he
      .rename_i rn;simp only[some.injEq]at he;subst he;have ml:=(aF.b_ rfl).1 aD;rw[ar]at ml;obtain⟨U,b,o,eh,h1,ab,ay,aT⟩:=ml;rw[e_ U]at h1;simp only[cons.injEq,and_true]at h1;subst h1;rw[ar]at aT;obtain⟨c1,fB,c2,bR,hS,rfl,hJ,eF,fk,hp,fX,nu⟩:=aW.pick ds _ _ k d aT ae;refine Good.same h (GN bb hk bc xn.1 xn.2 b o w) rfl ((aF.b_ rfl).2 ⟨rfl,?_⟩);rw[ar];refine⟨b,o+off,fB,rfl,ab,?_,ar.mono (λ_ h=>h) _ _ _ _ (λb R=>fk b R) fX⟩;rw[<-rn,<-hJ];exact ay.GM
      .cases he
     .cases he
    .rename_i y o;split at he
     .cases he
     .rename_i al;simp only[some.injEq]at he;subst he;rw[aF]at aD;obtain⟨b,cur,e,fr,rfl,ab,ay,aT⟩:=aD (by simpa using al);refine Good.same h (GN bb hk bc xn.1 xn.2 b o w) rfl ?_;rw[aF];exact λ_=>⟨b,cur,e,fr,rfl,ab,ay,aT⟩
    .rename_i x _ _;split at he
     .rename_i y q hl;split at he
      .rename_i ds ae;split at he
       .rename_i rn;simp only[some.injEq]at he;subst he;obtain⟨ai,cx,b,o,rfl,k7⟩:=GL h aD hl ae;refine Good.same h (GN bb hk bc xn.1 xn.2 b o w) rfl ?_;rw[aF];intro d2 fP oV;rw[zS w q _ _ _ _ _ _ [k] k7];rw[zR _ _ _ _ ae]at fP;have oW:∃d3,ds[k]? =some d3:=⟨_,getElem?_eq_getElem rn.1⟩
        obtain⟨d3,sr⟩:=oW;simp only[I.sub,sr,some.injEq]at fP;subst fP;simp only[c6,sr];refine⟨(cx.drop off).take d3.wd,b,o+off,?_,rfl⟩;rw[rn.2];rfl
       .cases he
      .cases he
     .cases he
   .cases he
  .cases he
 .cases he
def jb (C:bx) (s:an) (T:TypeId) (x i:I):Option I:=
 match(C.T T).k,i with
 | .slice e,.int _ n=>if 0<=n/\(C.T e).ok=true then
   match x with
   | .slice xs=>match xs[n.toNat]? with
     |some d=>if d.wd=(C.T e).sz then some (.ref d)else none
     |none=>none
   | .h y q=>match I.sub q (s y)with
     |some (.ah sz xs)=>if n.toNat<xs.length/\sz=(C.T e).sz then some (.al y (q++[n.toNat]))else none
     |_=>none
   |_=>none
   else none
 |_,_=>none
theorem MX (bb:C.Ok) {T e:TypeId} (hk:(C.T T).k= .slice e) (he:(C.T e).ok=true) (b o len cap:Nat) (k:IntKind) (n:Nat) (aN:n<len) (w:World):
  (Instr.indexAt T (.slice (some ⟨b,o,none⟩) len cap) (.int k n)).run C.P w= .ok (.pointer (some ⟨b,o+n*(C.T e).sz,none⟩)) w:=by
 obtain⟨i,d,z,aI,aM,aP,bK,cg,bP,bL⟩:=bb.info (fQ hk (by simp));rw[hk]at bL;have:=mj bL;subst this;obtain⟨rl,bf,rm,f1,f2,f3,f4,f5,f6,f7⟩:=bb.info he;simp[Instr.indexAt,run_underlying bP,asIntOf,aN,kG f1,f2,Addr.add_lit]
theorem V9 (bb:C.Ok) (h:bq w0 F0 X F S s au w) {T:TypeId} {x i:I} {v pE:Value} (aD:aF w F s au x v (λ_=>False)) (V_:aF w F s au i pE (λ_=>False))
  (he:jb C s T x i=some av):Good C w0 F0 X au w (Instr.indexAt T v pE) av s:=by
 unfold jb at he;split at he
 .rename_i e k n hk;have GO:=(aF.b_ rfl).1 V_;rw[ar,e_ GO.1]at GO;have:pE= .int k n:=by simpa using GO.2
  subst this;split at he
  .rename_i aN;obtain⟨n,rfl⟩:=Int.eq_ofNat_of_zero_le aN.1;simp only[Int.toNat_natCast]at he;split at he
   .rename_i xs;split at he
    .rename_i d ae;split at he
     .rename_i hw;simp only[some.injEq]at he;subst he;have ml:=(aF.b_ rfl).1 aD;rw[ar,e_ ml.1]at ml;obtain⟨U,⟨rfl,_⟩|⟨b,o,cap,eh,sz,h1,ab,ay,aT,bp,bX,bM⟩⟩:=ml
      .simp at ae
      .simp only[cons.injEq,and_true]at h1;subst h1;have cp:n<xs.length:=(List.getElem?_eq_some_iff.1 ae).1;obtain⟨c1,fB,c2,bR,hS,rfl,hJ,eF,fk,hp,fX,nu⟩:=aW.pick xs _ _ n d bM ae;refine Good.same h (MX bb hk aN.2 b o _ _ k n cp w) rfl ((aF.b_ rfl).2 ⟨rfl,?_⟩);rw[ar];refine⟨b,_,fB,rfl,ab,?_,ar.mono (λ_ h=>h) _ _ _ _ (λb R=>fk b R) fX⟩;have Wa:=bp d (mem_of_getElem? ae);have:n*(C.T e).sz=c1.length:=by
        rw[hJ,u_ _ (λd ae=>bp d (mem_of_mem_take ae)),length_take,Nat.min_eq_left (by omega),<-hw,Wa]
       rw[this];exact bX.GM
     .cases he
    .cases he
   .rename_i y q;split at he
    .rename_i sz xs ae;split at he
     .rename_i hw;simp only[some.injEq]at he;subst he;rw[aF]at aD;obtain⟨cx,a,g1,g2,g3⟩:=aD _ ae rfl;have U:Value.eJ v=true:=g3;rw[e_ U]at g2;subst g2;have ag:=h.cD y;rw[aF.b_ (hL ae (.inl rfl))]at ag;obtain⟨fI,bN,dI,fg,k0,bT,b2,dm,de,e5⟩:=ctx q (s y) (bZ (au y)) (S y) none _ ag.2 ae;rw[k0]at g1;simp only[some.injEq,Prod.mk.injEq,true_and]at g1;obtain⟨rfl,rfl⟩:=g1;rw[ar]at de;rcases de with⟨rfl,_⟩|⟨b,cap,cur,aM,fr,cH,aP,_⟩
      .simp at hw
      .simp only[cons.injEq,and_true]at aP;subst aP;refine Good.same h (MX bb hk aN.2 b 0 _ _ k n hw.1 w) rfl ?_;rw[aF];intro d2 fP _;rw[zS w q _ _ _ _ _ _ [n] k0];rw[zR _ _ _ _ ae]at fP;obtain⟨d3,sr⟩:∃d3,xs[n]? =some d3:=⟨_,getElem?_eq_getElem hw.1⟩
       simp only[I.sub,sr,some.injEq]at fP;subst fP;simp only[c6,sr];exact⟨_,b,n*sz,rfl,by simp[hw.2]⟩
     .cases he
    .cases he
   .cases he
  .cases he
 .cases he
end
section
variable {C:bx} {w0 w:World} {F0 X F:Nat->Prop} {S:Nat->Nat->Prop} {s s1:an} {au:Nat->Value} {av:I}
theorem MY (bb:C.Ok) {T:TypeId} {aC:List (TypeId×Nat)} (hk:(C.T T).k= .struct aC) (w:World):(isAgg T).run C.P w= .ok true w:=by
 obtain⟨i,d,z,aI,aM,aP,bK,cg,bP,bL⟩:=bb.info (fQ hk (by simp));rw[hk]at bL;obtain⟨gs,rfl,_⟩:=zT bL;simp[isAgg,run_underlying bP]
def gr.flat (x:gr):Bool:=match x.k with
 | .other=>false
 | .ij _=>false
 | .struct _=>false
 |_=>true
theorem MZ {x:gr} (h:x.flat=true):x.ok=true:=by
 unfold gr.flat at h;unfold gr.ok;revert h;cases x.k<;>simp
theorem GP (bb:C.Ok) {T:TypeId} (hk:(C.T T).flat=true) (w:World):(isAgg T).run C.P w= .ok false w:=by
 obtain⟨i,d,z,aI,aM,aP,bK,cg,bP,bL⟩:=bb.info (MZ hk);have cI:(∀aC,d≠.struct aC)/\(∀n e,d≠.array n e):=by
  clear bP;unfold gr.flat at hk;generalize (C.T T).k=dC at*;cases dC<;>cases d<;>simp[mh]at bL hk⊢
 cases d<;>first|exact(cI.1 _ rfl).elim|exact(cI.2 _ _ rfl).elim|simp[isAgg,run_underlying bP]
theorem Rd.one {w:World} {b o:Nat} {v:Value} (h:Rd w b o [v]):w.cell? ⟨b,o,none⟩=some v:=by simpa using h 0 v rfl
theorem M0 {P:Program} {b o:Nat}:∀(cs:anX) (i:Nat) (acc:Array Value),Rd w b (o+i) cs->(loadCellsFrom ⟨b,o,none⟩ i cs.length acc).run P w= .ok (acc++cs.toArray) w
 |[],i,acc,_=>by simp[loadCellsFrom]
 |c::cs,i,acc,h=>by
  have ba:w.cell? ⟨b,o+i,none⟩=some c:=by simpa using h 0 c rfl
  have h1:Rd w b (o+(i+1)) cs:=by
   intro j x bo;have:=h (j+1) x (by simpa using bo);rw[<-this];congr 2;omega
  have ih:=M0 (P:=P) cs (i+1) (acc.push c) h1;simp only[length_cons,loadCellsFrom,Sem.run_bind,Go.load,Sem.run,Addr.add_lit,ba,Result.andThen];rw[ih];simp
theorem Wb (bb:C.Ok) {T:TypeId} {aC:List (TypeId×Nat)} (hk:(C.T T).k= .struct aC) {b o:Nat} {cs:anX} (h:Rd w b o cs) (hl:cs.length=(C.T T).sz):
  (loadVar T ⟨b,o,none⟩).run C.P w= .ok (.agg cs.toArray) w:=by
 obtain⟨i,d,z,aI,aM,aP,bK,cg,bP,bL⟩:=bb.info (fQ hk (by simp));have:=M0 (P:=C.P) (b:=b) (o:=o) cs 0 #[] (by simpa using h);simp only[loadVar,Sem.run_bind,MY bb hk,Result.andThen,if_true,kG aI,aM,<-hl,loadCells,this];simp
theorem GQ (bb:C.Ok) {T:TypeId} (hk:(C.T T).flat=true) {b o:Nat} {v:Value} (h:Rd w b o [v]):
  (loadVar T ⟨b,o,none⟩).run C.P w= .ok v w:=by
 simp[loadVar,GP bb hk,Go.load,Sem.run,h.one]
def fits (C:bx) (T:TypeId) (d:I):Bool:=match(C.T T).k,d with
    | .struct _,.agg ds=>I.dR ds==(C.T T).sz
    | .struct _,_=>false
    |_,.agg _=>false
    |_,.tuple _=>false
    |_,_=>(C.T T).flat
def C4:anZ->Nat->Nat->Option Nat
 |[],_,_=>none
 |d::ds,i,k=>if k=0 then some i else if d.wd<=k then C4 ds (i+1) (k-d.wd)else none
def ld (C:bx) (s:an) (T:TypeId) (x:I):Option I:=
 match x with
 | .ref d=>if fits C T d=true then some d else none
 | .R y k=>match s y with
   | .agg ds=>if I.dS ds then none else match C4 ds 0 k with
     |some i=>match ds[i]? with
      |some d=>if I.dR (ds.take i)=k/\fits C T d=true then some (if d.plain then d else .h y [i])else none
      |none=>none
     |none=>none
   |_=>none
 |x=>match loc s x with
  |some (y,q)=>match I.sub q (s y)with
   |some d=>if fits C T d=true then some (if d.plain then d else .h y q)else none
   |none=>none
  |none=>none
theorem ar.one {F:Nat->Prop} {d:I} {cs:anX} {S:Nat->Prop} (h:ar w F d cs S) (h1:∀aC,d≠.agg aC) (ab:∀aC,d≠.tuple aC):∃v,cs=[v]/\Value.eJ v=true:=by
 cases d with
 |hole=>rw[ar]at h;obtain⟨v,h,rfl⟩:=h;exact⟨v,rfl,h⟩
 |fj=>rw[ar]at h;obtain⟨v,rfl⟩:=h;exact⟨_,rfl,rfl⟩
 |slice xs=>rw[ar]at h;rcases h with⟨_,a,c,rfl,_⟩|⟨b,o,cap,eh,sz,rfl,_⟩<;>exact⟨_,rfl,rfl⟩
 |ah sz xs=>rw[ar]at h;rcases h with⟨_,_,rfl⟩|⟨b,cap,cur,e,fr,cR,rfl,_⟩<;>exact⟨_,rfl,rfl⟩
 |ref d=>rw[ar]at h;obtain⟨b,o,eh,rfl,_⟩:=h;exact⟨_,rfl,rfl⟩
 |aV d=>rw[ar]at h;obtain⟨b,cur,e,fr,cR,rfl,_⟩:=h;exact⟨_,rfl,rfl⟩
 |agg aC=>exact(h1 _ rfl).elim
 |tuple aC=>exact(ab _ rfl).elim
 |fn _ _=>rw[ar]at h;obtain⟨arr,rfl,_⟩:=h;exact⟨_,rfl,rfl⟩
 |h _ _=>rw[ar]at h;exact h.elim
 |al _ _=>rw[ar]at h;exact h.elim
 |R _ _=>rw[ar]at h;exact h.elim
 |cc _=>rw[ar]at h;obtain⟨v,hG,rfl⟩:=mN.one h;exact⟨v,rfl,hG⟩
 |bm _ _=>rw[ar]at h;obtain⟨arr,rfl,_⟩:=h;exact⟨_,rfl,rfl⟩
 |cX _=>rw[ar]at h;obtain⟨b,v,e,fr,rfl,_⟩:=h;exact⟨_,rfl,rfl⟩
 |_=>rw[ar]at h;subst h;exact⟨_,rfl,rfl⟩
theorem I.C5 {d:I} (h:d.single=true):(∀aC,d≠.agg aC)/\∀aC,d≠.tuple aC:=
 ⟨λaC e=>(by subst e;cases h),λaC e=>(by subst e;cases h)⟩
theorem aF.oX {F:Nat->Prop} {s:an} {au:Nat->Value} {d:I} {v:Value} (aL:d.tree=true) (U:d.single=true) (h:ar w F d [v] (λ_=>False)):aF w F s au d v (λ_=>False):=by
 obtain⟨ek,e,h1⟩:=ar.one h (I.C5 U).1 (I.C5 U).2;have:v=ek:=by simpa using e
 subst this;refine(aF.b_ aL).2 ⟨?_,by rw[e_ h1];exact h⟩;cases d<;>first|exact h1|cases U
mutual
theorem aF.rp {F:Nat->Prop} {s:an} {au:Nat->Value}:∀(d:I) (v:Value),d.single=true->ar w F d [v] (λ_=>False)->aF w F s au d v (λ_=>False)
 | .fn f caps,v,_,h=>by
   rw[ar]at h;obtain⟨arr,h1,ab,ay⟩:=h;rw[aF];exact⟨arr,by simpa using h1,cV.rp caps _ ab ay⟩
 | .bool b,v,U,h=>aF.oX rfl U h
 | .fj,v,U,h=>aF.oX rfl U h
 | .int k n,v,U,h=>aF.oX rfl U h
 | .str x,v,U,h=>aF.oX rfl U h
 | .dq,v,U,h=>aF.oX rfl U h
 | .bd,v,U,h=>aF.oX rfl U h
 | .slice xs,v,U,h=>aF.oX rfl U h
 | .ah sz xs,v,U,h=>aF.oX rfl U h
 | .ref d,v,U,h=>aF.oX rfl U h
 | .aV d,v,U,h=>aF.oX rfl U h
 | .h _ _,v,_,h=>by rw[ar]at h;exact h.elim
 | .al _ _,v,_,h=>by rw[ar]at h;exact h.elim
 | .R _ _,v,_,h=>by rw[ar]at h;exact h.elim
 | .cc _,v,U,h=>aF.oX rfl U h
 | .bm _ _,v,U,h=>aF.oX rfl U h
 | .cX _,v,U,h=>aF.oX rfl U h
theorem cV.rp {F:Nat->Prop} {s:an} {au:Nat->Value}:∀(ds:anZ) (vs:anX),(∀d∈ds,d.single=true)->aW w F ds vs (λ_=>False)->cV w F s au ds vs
 |[],vs,_,h=>by rw[aW]at h;rw[cV];exact h
 |d::ds,vs,U,h=>by
  rw[aW]at h;obtain⟨c1,c2,bR,cH,rfl,ab,ay,aT,bp,_⟩:=h;have ae:=U d (by simp);obtain⟨v,rfl,_⟩:=ar.one ab (I.C5 ae).1 (I.C5 ae).2;rw[cV];exact⟨v,c2,rfl,aF.rp d v ae (ar.mono (λ_ h=>h) _ _ _ _ (λb R=>aT b R) ab),cV.rp ds c2 (λx ag=>U x (by simp[ag])) (aW.mono (λ_ h=>h) _ _ _ _ (λb R=>bp b R) ay)⟩
end
theorem C6 (bb:C.Ok) {T:TypeId} {d:I} {b o:Nat} {cs:anX} {S:Nat->Prop} (h:Rd w b o cs) (ae:ar w F d cs S)
  (h0:fits C T d=true):
  ∃v,(loadVar T ⟨b,o,none⟩).run C.P w= .ok v w/\bZ v=cs/\c7 d v:=by
 unfold fits at h0;by_cases U:∃aC,(C.T T).k= .struct aC
 .obtain⟨aC,hk⟩:=U;rw[hk]at h0;cases d with
  |agg ds=>
   simp only[beq_iff_eq]at h0;refine⟨_,Wb bb hk h ((ar.length _ _ _ ae).trans h0),rfl,⟨_,rfl⟩⟩
  |_=>simp at h0
 .have jv:(C.T T).flat=true/\(∀aC,d≠.agg aC)/\(∀aC,d≠.tuple aC):=by
   revert h0 U;cases hk:(C.T T).k<;>cases d<;>simp
  obtain⟨v,rfl,h1⟩:=ar.one ae jv.2.1 jv.2.2;refine⟨v,GQ bb jv.1 h,e_ h1,?_⟩;cases d<;>first|exact h1|exact(jv.2.1 _ rfl).elim|exact(jv.2.2 _ rfl).elim
theorem Wc (bb:C.Ok) {T:TypeId} {d:I} {off:Nat} {arr:Array Value} {c1 cs c2:anX} {S:Nat->Prop} (he:arr.toList=c1++(cs++c2)) (a1:c1.length=off) (ae:ar w F d cs S)
  (h0:fits C T d=true):
  ∃v,(part T arr off).run C.P w= .ok v w/\bZ v=cs/\c7 d v:=by
 unfold fits at h0;by_cases U:∃aC,(C.T T).k= .struct aC
 .obtain⟨aC,hk⟩:=U;rw[hk]at h0;cases d with
  |agg ds=>
   simp only[beq_iff_eq]at h0;obtain⟨i,d,z,aI,aM,aP,bK,cg,bP,bL⟩:=bb.info (fQ hk (by simp));have hl:cs.length=(C.T T).sz:=(ar.length _ _ _ ae).trans h0;have ag:(arr.extract off (off+(C.T T).sz)).toList=cs:=by
    rw[Array.toList_extract,he,extract_eq_take_drop,<-hl,<-a1,Nat.add_sub_cancel_left,drop_left,take_left]
   refine⟨.agg (arr.extract off (off+(C.T T).sz)),?_,by simpa [bZ,gX]using ag,⟨_,rfl⟩⟩;simp[part,MY bb hk,kG aI,aM]
  |_=>simp at h0
 .have jv:(C.T T).flat=true/\(∀aC,d≠.agg aC)/\(∀aC,d≠.tuple aC):=by
   revert h0 U;cases hk:(C.T T).k<;>cases d<;>simp
  obtain⟨v,rfl,h1⟩:=ar.one ae jv.2.1 jv.2.2;have hg:arr[off]? =some v:=by
   rw[<-Array.getElem?_toList,he,<-a1,getElem?_append_right (Nat.le_refl _)];simp
  refine⟨v,?_,e_ h1,?_⟩
  .simp[part,GP bb jv.1,hg]
  .cases d<;>first|exact h1|exact(jv.2.1 _ rfl).elim|exact(jv.2.2 _ rfl).elim
theorem Wd (bb:C.Ok) (h:bq w0 F0 X F S s au w) {T:TypeId} {x:I} {v:Value} (aD:aF w F s au x v (λ_=>False)) (he:ld C s T x=some av):
  Good C w0 F0 X au w (Instr.loadAt T v) av s:=by
 unfold ld at he;split at he
 .rename_i d;split at he
  .rename_i h0;simp only[some.injEq]at he;subst he;have ml:=(aF.b_ rfl).1 aD;rw[ar,e_ ml.1]at ml;obtain⟨U,b,o,eh,h1,ab,ay,aT⟩:=ml;simp only[cons.injEq,and_true]at h1;subst h1;obtain⟨ek,ax,ai,k_⟩:=C6 bb ay aT h0;have dA:(Instr.loadAt T (.pointer (some ⟨b,o,none⟩))).run C.P w= .ok ek w:=by simp[Instr.loadAt,Instr.sureAddr,ax]
   refine⟨ek,w,F,S,dA,h,?_⟩;by_cases aL:d.tree=true
   .exact .inr ⟨aL,k_,λ_=>False,by rw[ai];exact aT,λ_ h=>h.elim,λ_ h=>h.elim,λ_ _ h=>h.elim,λ_ h=>h.elim⟩
   .cases d<;>first|exact(aL rfl).elim|(rw[ar]at aT;exact aT.elim)|exact .inl ⟨rfl,by rw[aF];trivial⟩|(have bp:=aT;rw[ar]at bp;obtain⟨arr,e,_⟩:=bp;rw[<-ai]at e aT;rw[e_ (by exact k_)]at aT;exact .inl ⟨rfl,aF.rp _ _ rfl aT⟩)
  .cases he
 .rename_i y k;split at he
  .rename_i ds tE;split at he
   .cases he
   .rename_i We;split at he
    .rename_i i ak;split at he
     .rename_i d ae;split at he
      .rename_i h0;simp only[some.injEq]at he;have eA:(s y).plain=false:=by rw[tE];simp only[I.plain];simpa using We
       rw[aF]at aD;obtain⟨b,cur,e,fr,rfl,ab,ay,aT⟩:=aD eA;have hy:=h.cD y;rw[tE]at hy;have M1:=((aF.b_ rfl).1 hy).2;rw[ar]at M1;obtain⟨c1,fB,c2,bR,hS,fZ,hJ,eF,fk,hp,fX,nu⟩:=aW.pick ds _ _ i d M1 ae;have jQ:Rd w b k fB:=by
        intro j c bo;have cp:j<fB.length:=(List.getElem?_eq_some_iff.1 bo).1;have:cur.toList[k+j]? =some c:=by
         rw[aT,fZ,getElem?_append_right (by omega),getElem?_append_left (by omega),<-bo];congr 1;omega
        simp[World.cell?,ay];simpa using this
       obtain⟨ek,ax,ai,k_⟩:=C6 bb jQ fX h0.2;have dA:(Instr.loadAt T (.pointer (some ⟨b,k,none⟩))).run C.P w= .ok ek w:=by simp[Instr.loadAt,Instr.sureAddr,ax]
       refine⟨ek,w,F,S,dA,h,?_⟩;split at he
       .rename_i al;subst he;by_cases aL:d.tree=true
        .exact .inl ⟨al,(aF.b_ aL).2 ⟨k_,by rw[ai];exact ar.plain _ _ _ _ al fX⟩⟩
        .cases d<;>first|exact(aL rfl).elim|(rw[ar]at fX;exact fX.elim)|exact .inl ⟨rfl,by rw[aF];trivial⟩|(have bp:=ar.plain _ _ _ (λ_=>False) al fX;rw[<-ai]at bp;rw[e_ (by exact k_)]at bp;exact .inl ⟨rfl,aF.rp _ _ rfl bp⟩)
       .subst he;refine .inl ⟨rfl,?_⟩;rw[aF];intro d2 fP _;rw[tE]at fP⊢;simp only[I.sub,ae,some.injEq]at fP;subst fP;refine⟨fB,none,?_,ai,k_⟩;simp only[c6,ae];rw[fZ,u7 c1 fB c2 _ _ hJ (ar.length _ _ _ fX)];rfl
      .cases he
     .cases he
    .cases he
  .cases he
 .rename_i x _ _;split at he
  .rename_i y q hl;split at he
   .rename_i d ae;split at he
    .rename_i h0;simp only[some.injEq]at he;obtain⟨qi,cx,b,o,rfl,k7⟩:=GL h aD hl ae;have hy:=h.cD y;rw[aF.b_ (hL ae (.inr qi))]at hy;obtain⟨fI,bN,dI,fg,k0,bT,b2,dm,de,e5⟩:=ctx q (s y) (bZ (au y)) (S y) none _ hy.2 ae;rw[k0]at k7;simp only[some.injEq,Prod.mk.injEq,true_and]at k7;obtain⟨rfl,rfl⟩:=k7;have jQ:Rd w b o fI:=by
      rcases e5 with⟨l,r,aI,aM,_⟩|⟨e8,cur,e,fr,l,r,aI,aM,aP,bK,cg,_⟩
      .simp at aM
      .simp only[some.injEq,Prod.mk.injEq]at aI;obtain⟨rfl,rfl⟩:=aI;intro j c bo;have cp:j<fI.length:=(List.getElem?_eq_some_iff.1 bo).1;have:cur.toList[l.length+j]? =some c:=by
        rw[cg,getElem?_append_right (by omega),getElem?_append_left (by omega),<-bo];congr 1;omega
       simp[World.cell?,aP];simpa using this
     obtain⟨ek,ax,ai,k_⟩:=C6 bb jQ de h0;have dA:(Instr.loadAt T (.pointer (some ⟨b,o,none⟩))).run C.P w= .ok ek w:=by simp[Instr.loadAt,Instr.sureAddr,ax]
     refine⟨ek,w,F,S,dA,h,?_⟩;split at he
     .rename_i al;subst he;by_cases aL:d.tree=true
      .exact .inl ⟨al,(aF.b_ aL).2 ⟨k_,by rw[ai];exact ar.plain _ _ _ _ al de⟩⟩
      .cases d<;>first|exact(aL rfl).elim|(rw[ar]at de;exact de.elim)|exact .inl ⟨rfl,by rw[aF];trivial⟩|(have bp:=ar.plain _ _ _ (λ_=>False) al de;rw[<-ai]at bp;rw[e_ (by exact k_)]at bp;exact .inl ⟨rfl,aF.rp _ _ rfl bp⟩)
     .subst he;refine .inl ⟨rfl,?_⟩;rw[aF];intro d2 fP _;rw[ae]at fP;simp only[some.injEq]at fP;subst fP;exact⟨_,_,k0,ai,k_⟩
    .cases he
   .cases he
  .cases he
mutual
theorem ar.mP {F:Nat->Prop}:∀(d:I) (cs:anX) (S:Nat->Prop),ar w F d cs S->∀c∈cs,Value.eJ c=true
 | .hole,cs,S,h=>by rw[ar]at h;obtain⟨v,h,rfl⟩:=h;simpa using h
 | .bool _,cs,S,h=>by rw[ar]at h;subst h;simp[Value.eJ]
 | .fj,cs,S,h=>by rw[ar]at h;obtain⟨b,rfl⟩:=h;simp[Value.eJ]
 | .int _ _,cs,S,h=>by rw[ar]at h;subst h;simp[Value.eJ]
 | .str _,cs,S,h=>by rw[ar]at h;subst h;simp[Value.eJ]
 | .dq,cs,S,h=>by rw[ar]at h;subst h;simp[Value.eJ]
 | .bd,cs,S,h=>by rw[ar]at h;subst h;simp[Value.eJ]
 | .slice xs,cs,S,h=>by
   rw[ar]at h;rcases h with⟨_,a,c,rfl,_⟩|⟨b,o,cap,eh,sz,rfl,_⟩<;>simp[Value.eJ]
 | .ah sz xs,cs,S,h=>by
   rw[ar]at h;rcases h with⟨_,_,rfl⟩|⟨b,cap,cur,e,fr,aJ,rfl,_⟩<;>simp[Value.eJ]
 | .ref d,cs,S,h=>by rw[ar]at h;obtain⟨b,o,eh,rfl,_⟩:=h;simp[Value.eJ]
 | .aV d,cs,S,h=>by rw[ar]at h;obtain⟨b,o,eh,_,_,rfl,_⟩:=h;simp[Value.eJ]
 | .agg aC,cs,S,h=>by rw[ar]at h;exact aW.mP aC _ _ h
 | .tuple aC,cs,S,h=>by rw[ar]at h;exact aW.mP aC _ _ h
 | .fn _ _,cs,S,h=>by rw[ar]at h;obtain⟨arr,rfl,_⟩:=h;simp[Value.eJ]
 | .h _ _,cs,S,h=>by rw[ar]at h;exact h.elim
 | .al _ _,cs,S,h=>by rw[ar]at h;exact h.elim
 | .R _ _,cs,S,h=>by rw[ar]at h;exact h.elim
 | .cc _,cs,S,h=>by rw[ar]at h;obtain⟨v,hG,rfl⟩:=mN.one h;simpa using hG
 | .bm _ _,cs,S,h=>by rw[ar]at h;obtain⟨arr,rfl,_⟩:=h;simp[Value.eJ]
 | .cX _,cs,S,h=>by rw[ar]at h;obtain⟨b,v,e,fr,rfl,_⟩:=h;simp[Value.eJ]
theorem aW.mP {F:Nat->Prop}:∀(ds:anZ) (cs:anX) (S:Nat->Prop),aW w F ds cs S->∀c∈cs,Value.eJ c=true
 |[],cs,S,h=>by rw[aW]at h;subst h;simp
 |d::ds,cs,S,h=>by
  rw[aW]at h;obtain⟨c1,c2,bR,cH,rfl,ab,ay,_⟩:=h;intro c ai;rcases mem_append.1 ai with ai|ai
  .exact ar.mP d _ _ ab c ai
  .exact aW.mP ds _ _ ay c ai
end
theorem GR {P:Program} {b o:Nat} {e:TypeId} {fr:Nat×Nat}:∀(vs:anX) (i:Nat) (cur:Array Value) (w:World) (l m r:anX),w.heap[b]? =some (.cells cur e fr)->lH fr cur.size->
  cur.toList=l++(m++r)->l.length=o+i->m.length=vs.length->(∀v∈vs,Value.eJ v=true)->
  ∃aq,(storeCells ⟨b,o,none⟩ vs i).run P w= .ok () aq/\aq.heap[b]? =some (.cells (l++(vs++r)).toArray e fr)/\(∀c,c≠b->aq.heap[c]? =w.heap[c]?)/\aq.heap.size=w.heap.size/\aq.os=w.os/\aq.tape=w.tape/\Out aq w
 |[],i,cur,w,l,m,r,R,bc,ai,hl,hm,_=>by
  refine⟨w,rfl,?_,λ_ _=>rfl,rfl,rfl,rfl,Out.refl _⟩;have:m=[]:=by simpa using hm
  subst this;rw[R];have:cur=(l++([]++r)).toArray:=by rw[<-ai]
  rw[<-this]
 |v::vs,i,cur,w,l,m,r,R,bc,ai,hl,hm,jw=>by
  obtain⟨x,m,rfl⟩:∃x kh,m=x::kh:=by cases m with
   |nil=>simp at hm
   |cons x m=>exact⟨x,m,rfl⟩
  have hlen:cur.size=(l++(x::m++r)).length:=by rw[<-ai];simp
  have cp:o+i<cur.size:=by rw[hlen];simp;omega
  have oj:w.cell? ⟨b,o+i,none⟩=some cur[o+i]:=by simp[World.cell?,R,cp]
  have Wf:w.frozen? ⟨b,o+i,none⟩=false:=by
   have:=bc (o+i) cp;simp only[World.frozen?,R];simp only[Bool.and_eq_false_iff,decide_eq_false_iff_not];by_cases h1:fr.1<=o+i
   .right;exact λab=>this ⟨h1,ab⟩
   .left;exact h1
  have qj:(w.setCell ⟨b,o+i,none⟩ v).heap[b]? =some (.cells ((l++[v])++(m++r)).toArray e fr):=by
   simp only[World.setCell,Array.getElem?_modify,if_true,R,map_some,isSome_none,Bool.false_eq_true,if_false];congr 2;apply Array.ext';rw[Array.toList_setIfInBounds,ai,<-hl,set_append_right _ _ (Nat.le_refl _)];simp
  have vg:(store ((⟨b,o,none⟩:Addr).add i) v).run P w= .ok () (w.setCell ⟨b,o+i,none⟩ v):=by
   have h1:=jw v (by simp);rw[Addr.add_lit];cases v<;>first|(simp[Value.eJ]at h1;done)|simp[Go.store,Sem.run,oj,Wf]
  obtain⟨aq,g1,g2,g3,g4,g5,g6,g7⟩:=GR (P:=P) (b:=b) (o:=o) vs (i+1) _ (w.setCell ⟨b,o+i,none⟩ v) (l++[v]) m r qj (by
   have:(l++[v]++(m++r)).toArray.size=cur.size:=by rw[hlen];simp
   rw[this];exact bc) (by simp) (by simp;omega) (by simpa using hm) (λu hu=>jw u (by simp[hu]))
  refine⟨aq,?_,by simpa using g2,λc ai=>?_,?_,g5,g6,g7⟩
  .simp only[storeCells,Sem.run_bind,vg,Result.andThen];exact g1
  .rw[g3 c ai];simp only[World.setCell,Array.getElem?_modify];rw[if_neg (λe=>ai e.symm)]
  .rw[g4];simp[World.setCell]
theorem zV {d:I} {v:Value} (h:c7 d v) (ae:∀aC,d≠.tuple aC):v.cells=(bZ v).toArray:=by
 cases d with
 |tuple aC=>exact(ae _ rfl).elim
 |agg aC=>obtain⟨arr,rfl⟩:=h;simp[Value.cells,bZ,gX]
 |_=>
  have h1:Value.eJ v=true:=h;rw[e_ h1];cases v<;>first|rfl|(simp[Value.eJ]at h1)
def ki (C:bx) (s:an) (T:TypeId) (x y:I):Option an:=
 match cy s y,loc s x with
 |some (d,s1),some (z,q)=>match d with
  | .tuple _=>none
  |d=>match I.sub q (s z)with
   |some d0=>if d.wd=d0.wd/\d.wd=(C.T T).sz/\(C.T T).ok=true/\y.owner≠some z then some (cK (hM z s1) z (I.put q d (s z)))else none
   |none=>none
 |_,_=>none
theorem Wg {s s1:an} {y d:I} {z:Nat} (h:cy s y=some (d,s1)) (bC:(s z).tree=true) (hy:y.owner≠some z):s1 z=s z:=by
 cases y with
 |h x q=>
  simp only[cy]at h;split at h
  .split at h
   .cases h
   .simp only[some.injEq,Prod.mk.injEq]at h;obtain⟨_,rfl⟩:=h;rw[ju _ _ (λe=>hy (by rw[I.owner,e]))];exact Gz bC
  .cases h
 |al x q=>simp[cy]at h
 |R x q=>simp[cy]at h
 |fn f c=>simp[cy]at h
 |hole=>simp[cy]at h
 |_=>simp only[cy,some.injEq,Prod.mk.injEq]at h;rw[h.2]
theorem Wh (bb:C.Ok) (h:bq w0 F0 X F S s au w) {T:TypeId} {x y:I} {el hs:Value} (GS:aF w F s au x el (λ_=>False)) (hy:y.plain=true) (Wi:aF w F s au y hs (λ_=>False))
  {s2:an} (he:ki C s T x y=some s2):
  ∃aq aJ,(Instr.storeAt T el hs).run C.P w= .ok () aq/\bq w0 F0 X F aJ s2 au aq:=by
 unfold ki at he;split at he
 .rename_i d s1 z q aL hl;have key:∀d:I,(∀aC,d≠.tuple aC)->cy s y=some (d,s1)->(match I.sub q (s z)with
   |some d0=>if d.wd=d0.wd/\d.wd=(C.T T).sz/\(C.T T).ok=true/\y.owner≠some z then some (cK (hM z s1) z (I.put q d (s z)))else none
   |none=>none)=some s2->∃aq aJ,(Instr.storeAt T el hs).run C.P w= .ok () aq/\bq w0 F0 X F aJ s2 au aq:=by
   intro d ss aL he;split at he
   .rename_i d0 om;split at he
    .rename_i vh;obtain⟨h1,ab,ay,aT⟩:=vh;simp only[some.injEq]at he;subst he;obtain⟨qi,cx,b,o,rfl,k7⟩:=GL h GS hl om;obtain⟨bR,g0,g1,g2,Sn,g3,g4,g5,g6,g7,g8⟩:=rj h hy Wi aL;have dr:s1 z=s z:=Wg aL (hL om (.inr qi)) aT;rw[<-dr]at om qi k7⊢;obtain⟨fI,e8,l,r,cur,e,fr,k0,bT,b2,dm,de⟩:=g0.store om qi g3 h1 g4 g5 g6 g7;rw[k7]at k0;simp only[some.injEq,Prod.mk.injEq,true_and]at k0;obtain⟨rfl,rfl,rfl⟩:=k0;obtain⟨i,d,rm,aI,aM,aP,bK,cg,bP,bL⟩:=bb.info ay;have hlen:=ar.length _ _ _ g3;have hm:cx.length=(bZ hs).length:=by
      have M3:=g0.cD z;rw[aF.b_ (hL om (.inr qi))]at M3;obtain⟨_,_,_,_,c0,_,_,_,c4,_⟩:=ctx q (s1 z) (bZ (au z)) (bR z) none _ M3.2 om;rw[k7]at c0;simp only[some.injEq,Prod.mk.injEq,true_and]at c0;rw[c0.1,ar.length _ _ _ c4,hlen,h1]
     obtain⟨aq,m1,m2,m3,m4,m5,m6,m7⟩:=GR (P:=C.P) (b:=b) (o:=l.length) (e:=e) (fr:=fr) (bZ hs) 0 cur w l cx r bT dm b2 rfl hm (ar.mP _ _ _ g3);obtain⟨aJ,e5⟩:=de aq m2 m3 m4 m5 m6 m7;refine⟨aq,aJ,?_,e5⟩;have qk:=zV g2 ss;simp[Instr.storeAt,Instr.sureAddr,storeVar,kG aI,aM,qk,hlen,ab,m1]
    .cases he
   .cases he
  split at he
  .cases he
  .rename_i ss;exact key _ (λaC e=>ss aC e) aL he
 .cases he
theorem bq.alloc (h:bq w0 F0 X F S s au w) {d:I} {cs:anX} {Sn:Nat->Prop} (e:TypeId) (aD:ar w F d cs Sn)
  (cp:∀b,Sn b->b<w.heap.size) (a8:∀b,Sn b->¬F b) (bE:∀u b,Sn b->¬S u b) (ba:∀b,Sn b->X b\/w0.heap.size<=b):
  bq w0 F0 X F S s au (w.alloc (.cells cs.toArray e))/\
   j5 w0 X F S s au (w.alloc (.cells cs.toArray e)) (.aV d) (.pointer (some ⟨w.heap.size,0,none⟩)):=by
 have hold:∀b,b<w.heap.size->(w.alloc (.cells cs.toArray e)).heap[b]? =w.heap[b]? :=by
  intro b R;show(w.heap.push _)[b]? =_;rw[Array.getElem?_push,if_neg (by omega)]
 refine⟨h.grow hold (by simp) rfl rfl ⟨rfl,λ_=>Nat.le_refl _⟩,.inr ⟨rfl,rfl,λb=>b=w.heap.size\/Sn b,?_,?_,?_,?_,?_⟩⟩
 .rw[ar];refine⟨w.heap.size,cs.toArray,e,(0,0),Sn,rfl,.inl rfl,?_,?_,?_,λc ai=>.inr ai,λai=>Nat.lt_irrefl _ (cp _ ai)⟩
  .show(w.heap.push _)[_]? =_;simp
  .intro o _ ⟨_,ab⟩;exact absurd ab (not_lt_zero _)
  .exact ar.frame (λb R=>hold b (h.dV b R)) _ _ _ (λb R=>hold b (cp b R)) aD
 .rintro b (rfl|R)
  .simp
  .have:=cp b R;simp;omega
 .rintro b (rfl|R) su
  .exact Nat.lt_irrefl _ (h.dV _ su)
  .exact a8 b R su
 .rintro u b (rfl|R) hu
  .exact Nat.lt_irrefl _ (h.dh _ _ hu)
  .exact bE u b R hu
 .rintro b (rfl|R)
  .exact .inr h.size
  .exact ba b R
def nw (C:bx) (T:TypeId):Option I:=if(C.T T).ok=true then(match(C.T T).k,(C.T T).zero with
    | .ij e,.agg [.dq,.bd]=>some (.cc (.hZ T e []))
    | .ij _,_=>none
    |_,z=>(match flat z with|some _=>some (.aV z)|none=>none))else none
theorem Wj (bb:C.Ok) (h:bq w0 F0 X F S s au w) {T:TypeId} (he:nw C T=some av):Good C w0 F0 X au w (Instr.alloc T true (.tuple #[])) av s:=by
 unfold nw at he;split at he
 .rename_i hk;split at he
  .rename_i ame oo Wk;simp only[some.injEq]at he;subst he;obtain⟨i,d,z,aI,aM,aP,bK,cg,bP,bL⟩:=bb.info hk;have bC:=cg [.pointer none,.slice none 0 0] (by rw[Wk];rfl);have hold:∀b,b<w.heap.size->(w.alloc (.cells #[.pointer none,.slice none 0 0] T)).heap[b]? =w.heap[b]? :=by
    intro b R;show(w.heap.push _)[b]? =_;rw[Array.getElem?_push,if_neg (by omega)]
   refine⟨.pointer (some ⟨w.heap.size,0,none⟩),w.alloc (.cells #[.pointer none,.slice none 0 0] T),F,S,?_,h.grow hold (by simp) rfl rfl ⟨rfl,λ_=>Nat.le_refl _⟩,.inr ⟨rfl,rfl,λb=>b=w.heap.size,?_,?_,?_,?_,?_⟩⟩
   .simp[Instr.alloc,vf aI bK,newVar,newRow,newObj,Sem.run,bC]
   .rw[ar];refine⟨w.heap.size,.pointer none,.slice none 0 0,rfl,rfl,?_,.inl rfl,.inl ⟨rfl,rfl⟩⟩;show(w.heap.push _)[_]? =_;simp
   .rintro b rfl;simp
   .rintro b rfl su;exact Nat.lt_irrefl _ (h.dV _ su)
   .rintro u b rfl hu;exact Nat.lt_irrefl _ (h.dh _ _ hu)
   .rintro b rfl;exact .inr h.size
  .cases he
  split at he
  .rename_i cs fZ;simp only[some.injEq]at he;subst he;obtain⟨i,d,z,aI,aM,aP,bK,cg,bP,bL⟩:=bb.info hk;have bC:=cg cs fZ;obtain⟨cY,bl⟩:=h.alloc (d:=(C.T T).zero) T ((ar.flat _).1 _ cs (λ_=>False) (Nat.le_refl _) fZ) (λ_ h=>h.elim) (λ_ h=>h.elim) (λ_ _ h=>h.elim) (λ_ h=>h.elim);refine⟨_,_,F,S,?_,cY,bl⟩;simp[Instr.alloc,vf aI bK,newVar,newRow,newObj,Sem.run,bC]
  .cases he
 .cases he
def h2 (s:an) (x:I):Option (I×an):=match cy s x with
 |some (.tuple _,_)=>none
 |some (d,s1)=>some (.aV d,s1)
 |none=>none
def C7:I->Bool
 | .agg ds=> !I.dS ds
 | .bm _ _=>true
 |_=>false
theorem M4 {d:I} (h:C7 d=true):d.plain=false/\∀aC,d≠.tuple aC:=by
 cases d with
 |agg ds=>simp only[C7,Bool.not_eq_true']at h;exact⟨by simp only[I.plain];exact h,λ_ e=>by cases e⟩
 |bm f c=>exact⟨rfl,λ_ e=>by cases e⟩
 |_=>cases h
def jR (s:an) (x:I):Option (I×an):=match x with
 | .h y q=>if q=[]/\C7 (s y)=true then some (.R y 0,s)else none
 | .fn f caps=>if caps.all (λd=>d.single&&(d.tree&&d.plain))=true then some (.ref (.fn f caps),s)else none
 |_=>none
theorem aW.M5 {w:World} {F br:Nat->Prop} {s:an} {au:Nat->Value} (a8:∀b,F b->br b):∀(ds:anZ) (vs:anX),(∀d∈ds,d.single=true/\d.tree=true/\d.plain=true)->cV w F s au ds vs->aW w br ds vs (λ_=>False)
 |[],vs,_,h=>by rw[cV]at h;rw[aW];exact h
 |d::ds,vs,U,h=>by
  rw[cV]at h;obtain⟨v,eW,rfl,h1,ab⟩:=h;obtain⟨d1,d2,d3⟩:=U d (by simp);have ay:=(aF.b_ d2).1 h1;have a1:Value.eJ v=true:=by
   have:=ay.1;cases d<;>first|exact this|cases d1
  have aT:=ay.2;rw[e_ a1]at aT;rw[aW];exact⟨[v],eW,λ_=>False,λ_=>False,rfl,ar.mono a8 _ _ _ _ (λ_ h=>h) aT,aW.M5 a8 ds eW (λx ag=>U x (by simp[ag])) ab,λ_ h=>h,λ_ h=>h,λ_ h=>h.elim⟩
theorem Wl {T:TypeId} {v:Value} (h:bq w0 F0 X F S s au w):bq w0 F0 X (λb=>F b\/b=w.heap.size) S s au (w.alloc (.cells (bZ v).toArray T)):=by
 have hold:∀b,b<w.heap.size->(w.alloc (.cells (bZ v).toArray T)).heap[b]? =w.heap[b]? :=by
  intro b R;show(w.heap.push _)[b]? =_;rw[Array.getElem?_push,if_neg (by omega)]
 have h1:=h.grow hold (by simp) rfl rfl ⟨rfl,λ_=>Nat.le_refl _⟩;exact {
  fl:=λb R=>.inl (h1.fl b R)
  fL:=λb R=>by
   rcases R with R|rfl
   .exact h1.fL b R
   .exact .inr (.inr h.size)
  dV:=λb R=>by
   rcases R with R|rfl
   .exact h1.dV b R
   .simp
  dh:=h1.dh
  ep:=λt b R bc=>by
   rcases bc with bc|rfl
   .exact h1.ep t b R bc
   .exact absurd (h.dh t _ R) (Nat.lt_irrefl _)
  ev:=h1.ev
  cR:=h1.cR
  cD:=λt=>aF.frame (λ_ _=>rfl) (λb R=>.inl R) (λ_ _ _=>rfl) h1.cD _ _ _ (λ_ _=>rfl) (h1.cD t)
  old:=h1.old
  size:=h1.size
  os:=h1.os
  tape:=h1.tape
  output:=h1.output
  e4:=h.e4}
theorem Wm (h:bq w0 F0 X F S s au w) {T:TypeId} {x:I} {v:Value} (aD:aF w F s au x v (λ_=>False)) (he:jR s x=some (av,s1)):
  Good C w0 F0 X au w (Instr.box T v) av s1:=by
 unfold jR at he;split at he
 .rename_i y q;split at he
  .rename_i rq;obtain⟨rfl,M6⟩:=rq
   .simp only[some.injEq,Prod.mk.injEq]at he;obtain⟨rfl,rfl⟩:=he;rw[aF]at aD;obtain⟨cx,a,g1,g2,g3⟩:=aD (s y) (by simp only[I.sub]) (M4 M6).1;simp only[c6,some.injEq,Prod.mk.injEq,true_and]at g1;have qk:=zV g3 (M4 M6).2;have hold:∀b,b<w.heap.size->(w.alloc (.cells (bZ v).toArray T)).heap[b]? =w.heap[b]? :=by
     intro b R;show(w.heap.push _)[b]? =_;rw[Array.getElem?_push,if_neg (by omega)]
    refine⟨.pointer (some ⟨w.heap.size,0,none⟩),w.alloc (.cells (bZ v).toArray T),λb=>F b\/b=w.heap.size,S,by simp[Instr.box,newVar,newRow,newObj,Sem.run,qk],?_,.inl ⟨rfl,?_⟩⟩
    .have h1:=h.grow hold (by simp) rfl rfl ⟨rfl,λ_=>Nat.le_refl _⟩;exact {
      fl:=λb R=>.inl (h1.fl b R)
      fL:=λb R=>by
       rcases R with R|rfl
       .exact h1.fL b R
       .exact .inr (.inr h.size)
      dV:=λb R=>by
       rcases R with R|rfl
       .exact h1.dV b R
       .simp
      dh:=h1.dh
      ep:=λt b R bc=>by
       rcases bc with bc|rfl
       .exact h1.ep t b R bc
       .exact absurd (h.dh t _ R) (Nat.lt_irrefl _)
      ev:=h1.ev
      cR:=h1.cR
      cD:=λt=>aF.frame (λ_ _=>rfl) (λb R=>.inl R) (λ_ _ _=>rfl) h1.cD _ _ _ (λ_ _=>rfl) (h1.cD t)
      old:=h1.old
      size:=h1.size
      os:=h1.os
      tape:=h1.tape
      output:=h1.output
      e4:=h.e4}
    .rw[aF];intro _;refine⟨w.heap.size,(bZ v).toArray,T,(0,0),rfl,.inr rfl,?_,?_⟩
     .show(w.heap.push _)[_]? =_;simp
     .rw[g1.1,<-g2]
  .cases he
 .rename_i f caps;split at he
  .rename_i ai;simp only[some.injEq,Prod.mk.injEq]at he;obtain⟨rfl,rfl⟩:=he;have fZ:∀d∈caps,d.single=true/\d.tree=true/\d.plain=true:=λd ae=>by
    have:=List.all_eq_true.1 ai d ae;simpa only[Bool.and_eq_true]using this
   rw[aF]at aD;obtain⟨arr,rfl,aD⟩:=aD;have qk:=zV (d:=.fn f caps) (v:=.func (.func f) #[] arr) rfl (λaC e=>by cases e);have hg:=Wl (T:=T) (v:=.func (.func f) #[] arr) h;refine⟨.pointer (some ⟨w.heap.size,0,none⟩),w.alloc (.cells (bZ (.func (.func f) #[] arr)).toArray T),λb=>F b\/b=w.heap.size,S,by simp[Instr.box,newVar,newRow,newObj,Sem.run,qk],hg,.inl ⟨rfl,?_⟩⟩;refine(aF.b_ rfl).2 ⟨rfl,?_⟩;rw[ar];refine⟨w.heap.size,0,[.func (.func f) #[] arr],rfl,.inr rfl,?_,?_⟩
   .have hN:(w.alloc (.cells (bZ (.func (.func f) #[] arr)).toArray T)).heap[w.heap.size]? =some (.cells (bZ (.func (.func f) #[] arr)).toArray T (0,0)):=by
     show(w.heap.push _)[_]? =_;simp
    intro j c bo;cases j with
    |zero=>
     simp only[getElem?_cons_zero,some.injEq]at bo;subst bo;have e:bZ (.func (.func f) #[] arr)=[.func (.func f) #[] arr]:=e_ rfl;unfold World.cell?;show(match(w.alloc (.cells (bZ (.func (.func f) #[] arr)).toArray T)).heap[w.heap.size]? with
      |some (.cells c _ _)=>c[0+0]?
      |_=>none)=_
     rw[hN,e];rfl
    |succ j=>simp at bo
   .rw[ar];refine⟨arr,rfl,λd ae=>(fZ d ae).1,?_⟩;have bp:=aW.M5 (br:=F) (λb R=>R) caps arr.toList fZ aD;refine aW.mono (F:=F) (λb R=>.inl R) caps _ _ _ (λ_ h=>h) (aW.frame (λb R=>?_) caps _ _ (λ_ h=>h.elim) bp);have cp:=h.dV b R;show(w.heap.push _)[b]? =_;rw[Array.getElem?_push,if_neg (by omega)]
  .cases he
 .cases he
theorem Wn (h:bq w0 F0 X F S s au w) {T:TypeId} {x:I} {v:Value} (ag:x.plain=true) (aD:aF w F s au x v (λ_=>False)) (he:h2 s x=some (av,s1)):
  Good C w0 F0 X au w (Instr.box T v) av s1:=by
 unfold h2 at he;split at he
 .cases he
 .rename_i d s2 ss aL;simp only[some.injEq,Prod.mk.injEq]at he;obtain⟨rfl,rfl⟩:=he;obtain⟨bR,g0,g1,g2,Sn,g3,g4,g5,g6,g7,g8⟩:=rj h ag aD aL;obtain⟨cY,bl⟩:=g0.alloc T g3 g4 g5 g6 g7;refine⟨_,_,F,bR,?_,cY,bl⟩;have qk:=zV g2 (λaC e=>ss aC e);simp[Instr.box,newVar,newRow,newObj,Sem.run,qk]
 .cases he
end
end Go.cC
