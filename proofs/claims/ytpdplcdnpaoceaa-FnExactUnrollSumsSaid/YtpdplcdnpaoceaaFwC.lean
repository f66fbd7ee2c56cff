/- Part of a proof that a law returns true for every input. No condition. -/
import Derived.Test.YtpdplcdnpaoceaaFwB
import Derived.Laws.Entries
namespace Go.cV
open List Option Go.IntKind Nat Or
inductive kr where
 |int (k:IntKind)
 |bool
 |str
 |ptr (e:TypeId)
 |slice (e:TypeId)
 |struct (al:List (TypeId×Nat))
 |fn
 |fb (e:TypeId)
 |map (k e:TypeId)
 |other
structure e4 where
 k:kr
 sz:Nat
 bytes:Nat
 zero:j
mutual
def flat:j->Option Vp
 | .bool b=>some [.bool b]
 | .int k n=>some [.int k n]
 | .str s=>some [.string ⟨⟨s⟩⟩]
 | .cW=>some [.pointer none]
 | .aK=>some [.slice none 0 0]
 | .agg al=>nN al
 | .cY .sZ=>some [.map none]
 |_=>none
def nN:Vr->Option Vp
 |[]=>some []
 |d::ds=>match flat d,nN ds with
  |some a,some b=>some (a++b)
  |_,_=>none
end
theorem aj.flat {w:World} {F:Nat->Prop}:∀n,(∀(d:j) (cs:Vp) (S:Nat->Prop),SizeOf.sizeOf d<=n->flat d=some cs->aj w F d cs S)/\
  (∀(ds:Vr) (cs:Vp) (S:Nat->Prop),SizeOf.sizeOf ds<=n->nN ds=some cs->aQ w F ds cs S):=by
 intro n;induction n with
 |zero=>exact⟨λd _ _ bC=>by cases d<;>simp at bC<;>omega,λds _ _ bC=>by cases ds<;>simp at bC<;>omega⟩
 |succ n ih=>
  refine⟨λd cs S bC h=>?_,λds cs S bC h=>?_⟩
  .cases d with
   |agg al=>rw[aj];exact ih.2 al cs S (by simp at bC;omega) (by simpa [cV.flat]using h)
   |bool b=>simp[cV.flat]at h;subst h;rw[aj]
   |int k n=>simp[cV.flat]at h;subst h;rw[aj]
   |str s=>simp[cV.flat]at h;subst h;rw[aj]
   |cW=>simp[cV.flat]at h;subst h;rw[aj]
   |aK=>simp[cV.flat]at h;subst h;rw[aj]
   |cY o=>cases o<;>simp[cV.flat]at h;subst h;rw[aj];rfl
   |_=>simp[cV.flat]at h
  .cases ds with
   |nil=>simp[nN]at h;subst h;rw[aQ]
   |cons d ds=>
    simp only[nN]at h;split at h
    .rename_i a b b4 J;simp at h;subst h;simp at bC;rw[aQ];exact⟨a,b,λ_=>False,λ_=>False,rfl,ih.1 d a _ (by omega) b4,ih.2 ds b _ (by omega) J,λ_ h=>h.elim,λ_ h=>h.elim,λ_ h=>h.elim⟩
    .cases h
def jj:kr->TypeDesc->Prop
 | .int k,.int cN=>k=cN
 | .bool,.bool=>True
 | .str,.string=>True
 | .ptr e,.pointer fk=>e=fk
 | .slice e,.slice fk=>e=fk
 | .struct al,.struct gs=>gs.toList.map (λg=>(g.type,g.offset))=al
 | .fn,.func _ _ _=>True
 | .fb _,.struct _=>True
 | .map k e,.map cN fk=>k=cN/\e=fk
 |_,_=>False
def CG (P:Program) (t:TypeId) (x:e4):Prop:=
 (∃e n b z,x=⟨.other,e,n,b⟩/\z=0)\/
 ∃i d z,P.info? t=some i/\i.size=x.sz/\i.bytes=x.bytes/\i.zero=some z/\(∀cs,flat x.zero=some cs->z.cells=cs.toArray)/\P.underlying t=some d/\jj x.k d
structure bI where
 P:Program
 T:TypeId->e4
 M:FuncId->List Bool
structure bI.dx (C:bI):Prop where
 ty:∀t,CG C.P t (C.T t)
 mixed:C.P.follows .mixedOrders=true
inductive aT where
 |t (n:Nat)
 |c (av:j)
 |f (g:FuncId)
def vC:Value->Option j
 | .bool b=>some (.bool b)
 | .int k n=>some (.int k n)
 | .string s=>some (.str s.data.toList)
 | .pointer none=>some .cW
 | .slice none 0 0=>some .aK
 |_=>none
def cQ:Operand->Option aT
 | .tmp n=>some (.t n)
 | .const v=>(vC v).map .c
 | .func g=>some (.f g)
 | .global _=>none
def mh (x:Nat) (d:j):j:=if d.plain then d else .h x []
def a6 (s:af):aT->j
 | .t n=>mh n (s n)
 | .c av=>av
 | .f g=>.fn g []
theorem az.nothing {w:World} {F:Nat->Prop} {s:af} {an:Nat->Value} {d:j} {v:Value} {S aB:Nat->Prop} (ag:d.plain=true) (h:az w F s an d v S):az w F s an d v aB:=by
 cases d<;>first
  |(rw[az];trivial)
  |(rw[az]at h⊢;exact h)
  |(have bl:=(az.b7 rfl).1 h;exact(az.b7 rfl).2 ⟨bl.1,aj.plain _ _ _ _ ag bl.2⟩)
section
variable {w0 w:World} {F0 X F:Nat->Prop} {S:Nat->Nat->Prop} {s:af} {an:Nat->Value} {a:Act}
theorem CH (s:af) (x:aT) (ai:∀av,x= .c av->av.plain=true):(a6 s x).plain=true:=by
 cases x with
 |t n=>simp only[a6,mh];split<;>first|assumption|rfl
 |c av=>exact ai _ rfl
 |f g=>rfl
theorem yq {v:Value} {av:j} (h:vC v=some av):av.plain=true:=by
 unfold vC at h;split at h<;>simp at h<;>subst h<;>rfl
theorem dZ (h:bg w0 F0 X F S s an w) (c8:∀t,an t=a.tmps.getD t undef) {o:Operand} {x:aT} (bk:cQ o=some x):
  (a6 s x).plain=true/\az w F s an (a6 s x) (a.eval o) (λ_=>False):=by
 cases o with
 |tmp n=>
  simp[cQ]at bk;subst bk;simp only[a6,mh,Act.eval,<-c8];split
  .rename_i ag;exact⟨ag,az.nothing ag (h.cG n)⟩
  .rename_i ag;refine⟨rfl,?_⟩;rw[az];intro d ad IZ;simp only[j.sub,some.injEq]at ad;subst ad;have aO:=fZ (q:=[]) rfl (.inl IZ);exact⟨_,none,rfl,rfl,((az.b7 aO).1 (h.cG n)).1⟩
 |const v=>
  simp only[cQ,map_eq_some_iff]at bk;obtain⟨av,mi,rfl⟩:=bk;refine⟨yq mi,?_⟩;simp only[a6,Act.eval];unfold vC at mi;split at mi<;>simp at mi<;>subst mi<;>rw[az,aj]<;>exact⟨rfl,rfl⟩
 |func g=>
  simp[cQ]at bk;subst bk;refine⟨rfl,?_⟩;simp only[a6,Act.eval];rw[az];exact⟨#[],rfl,by rw[cK]⟩
 |global g=>simp[cQ]at bk
def ia (w0:World) (X F:Nat->Prop) (S:Nat->Nat->Prop) (s:af) (an:Nat->Value) (w:World) (av:j) (v:Value):Prop:=
 (av.plain=true/\az w F s an av v (λ_=>False))\/
 (av.tree=true/\cM av v/\∃Sn,aj w F av (bW v) Sn/\(∀b,Sn b->b<w.heap.size)/\(∀b,Sn b->¬F b)/\(∀u b,Sn b->¬S u b)/\(∀b,Sn b->X b\/w0.heap.size<=b))
def fin (s:af) (dst:Option Nat) (av:j):af:=match dst with
 |none=>s
 |some t=>if av.plain then cA s t av else cA (ji t s) t av
def nO (an:Nat->Value) (dst:Option Nat) (v:Value):Nat->Value:=match dst with
 |none=>an
 |some t=>cA an t v
theorem bg.fin (h:bg w0 F0 X F S s an w) {av:j} {v:Value} (aE:ia w0 X F S s an w av v) (dst:Option Nat):
  ∃aB,bg w0 F0 X F aB (cV.fin s dst av) (nO an dst v) w:=by
 cases dst with
 |none=>exact⟨S,h⟩
 |some t=>
  simp only[cV.fin,nO];rcases aE with⟨ag,ad⟩|⟨aO,R,Sn,U,aa,ax,aP,a9⟩
  .rw[if_pos ag];exact⟨_,h.s8 ag ad⟩
  .split
   .rename_i ag;exact⟨_,h.s8 ag ((az.b7 aO).2 ⟨R,aj.plain _ _ _ _ ag U⟩)⟩
   .exact⟨_,h.CB aO R U aa ax (λu b _ J=>aP u b J) a9⟩
def cc (s:af):j->Option (j×af)
 | .h x q=>match j.sub q (s x)with
   |some d=>if d.plain then none else some (d,cA (gz x s) x (j.put q d.cj (s x)))
   |none=>none
 | .ag _ _=>none
 | .J _ _=>none
 | .fn _ _=>none
 | .hole=>none
 |d=>some (d,s)
def j.owner:j->Option Nat
 | .h x _=>some x
 |_=>none
def iS:Option Nat->j->j
 |some x,d=>bQ x d
 |none,d=>d
theorem na (h:bg w0 F0 X F S s an w) {av d:j} {s1:af} {v:Value} (mi:av.plain=true) (aE:az w F s an av v (λ_=>False)) (aO:cc s av=some (d,s1)):
  ∃bP,bg w0 F0 X F bP s1 an w/\d.tree=true/\cM d v/\∃Sn,aj w F d (bW v) Sn/\(∀b,Sn b->b<w.heap.size)/\(∀b,Sn b->¬F b)/\(∀u b,Sn b->¬bP u b)/\(∀b,Sn b->X b\/w0.heap.size<=b)/\
   (∀u b,bP u b->S u b)/\(∀b,Sn b->∃u,S u b)/\(∀(a8:j) (dM:Value) (aB:Nat->Prop),az w F s an a8 dM aB->az w F s1 an (iS av.owner a8) dM aB):=by
 have tree:∀d:j,d.tree=true->d.plain=true->az w F s an d v (λ_=>False)->
   ∃bP,bg w0 F0 X F bP s an w/\d.tree=true/\cM d v/\∃Sn,aj w F d (bW v) Sn/\(∀b,Sn b->b<w.heap.size)/\(∀b,Sn b->¬F b)/\(∀u b,Sn b->¬bP u b)/\(∀b,Sn b->X b\/w0.heap.size<=b)/\
    (∀u b,bP u b->S u b)/\(∀b,Sn b->∃u,S u b):=by
  intro d ad _ bl;have bl:=(az.b7 ad).1 bl;exact⟨S,h,ad,bl.1,_,bl.2,λ_ h=>h.elim,λ_ h=>h.elim,λ_ _ h=>h.elim,λ_ h=>h.elim,λ_ _ h=>h,λ_ h=>h.elim⟩
 cases av with
 |h x q=>
  simp only[cc]at aO;split at aO
  .rename_i e he;split at aO
   .cases aO
   .rename_i ag;simp only[some.injEq,Prod.mk.injEq]at aO;obtain⟨rfl,rfl⟩:=aO;have ag:e.plain=false:=by simpa using ag
    obtain⟨Sn,dW,b_,bZ,c5,bz,dC,ct,dk,eW,f_⟩:=h.take he ag;rw[az]at aE;obtain⟨TZ,bw,aL,a0,bK⟩:=aE e he ag;rw[bz]at aL;simp only[some.injEq,Prod.mk.injEq,true_and]at aL;obtain⟨rfl,rfl⟩:=aL;have yr:e.tree=true:=by cases e<;>first|rfl|(simp[j.plain]at ag)
    refine⟨_,c5,yr,bK,dW,by rw[a0];exact dC,λb J=>h.dw x b (ct b J),λb J=>h.ew x b (ct b J),?_,λb J=>h.cU x b (ct b J),?_,λb J=>⟨x,ct b J⟩,f_⟩
    .intro u b J hu;simp only[fm]at hu;split at hu
     .exact eW b J hu
     .rename_i I0;exact h.dS u x b I0 hu (ct b J)
    .intro u b hu;simp only[fm]at hu;split at hu
     .rename_i e;subst e;exact dk b hu
     .exact hu
  .cases aO
 |ag x q=>simp[cc]at aO
 |J x q=>simp[cc]at aO
 |fn f c=>simp[cc]at aO
 |hole=>simp[cc]at aO
 |aq sz xs=>simp[j.plain]at mi
 |aS d=>simp[j.plain]at mi
 |_=>
  simp only[cc,some.injEq,Prod.mk.injEq]at aO;obtain⟨rfl,rfl⟩:=aO;obtain⟨bP,t1,t2,t3,Sn,t4,t5,t6,t7,t8,t9,t10⟩:=tree _ rfl mi aE;exact⟨bP,t1,t2,t3,Sn,t4,t5,t6,t7,t8,t9,t10,λ_ _ _ h=>h⟩
def loc (s:af):j->Option (Nat×Vm)
 | .h x q=>match j.sub q (s x)with
   |some (.aS _)=>some (x,q++[0])
   |_=>none
 | .ag x q=>if j.eu q (s x)then some (x,q)else none
 |_=>none
theorem tc:∀(q:Vm) (av d:j) (r:Vm),j.sub q av=some d->j.sub (q++r) av=j.sub r d:=by
 intro q;induction q with
 |nil=>intro av d r h;simp[j.sub]at h;subst h;rfl
 |cons k q ih=>
  intro av d r h;cases av with
  |agg al=>
   simp only[j.sub,cons_append]at h⊢;split at h
   .rename_i x ae;exact ih _ _ _ h
   .cases h
  |tuple al=>
   simp only[j.sub,cons_append]at h⊢;split at h
   .rename_i x ae;exact ih _ _ _ h
   .cases h
  |aq sz al=>
   simp only[j.sub,cons_append]at h⊢;split at h
   .rename_i x ae;exact ih _ _ _ h
   .cases h
  |aS x=>
   cases k with
   |zero=>simp only[j.sub,cons_append]at h⊢;exact ih _ _ _ h
   |succ k=>simp[j.sub]at h
  |_=>simp[j.sub]at h
theorem I1:∀(q:Vm) (av d:j) (r:Vm),j.sub q av=some d->j.eu (q++r) av=(j.eu q av||j.eu r d):=by
 intro q;induction q with
 |nil=>intro av d r h;simp[j.sub]at h;subst h;simp[j.eu]
 |cons k q ih=>
  intro av d r h;cases av with
  |agg al=>
   simp only[j.sub]at h;split at h
   .rename_i x ae;simp only[j.eu,cons_append,ae];exact ih _ _ r h
   .cases h
  |tuple al=>
   simp only[j.sub]at h;split at h
   .rename_i x ae;simp only[j.eu,cons_append,ae];exact ih _ _ r h
   .cases h
  |aq sz al=>simp[j.eu]
  |aS x=>simp[j.eu]
  |_=>simp[j.sub]at h
theorem td (w:World):∀(q:Vm) (av d:j) (cs b_:Vp) (a bZ:Option (Nat×Nat)) (r:Vm),cy w q av cs a=some (d,b_,bZ)->cy w (q++r) av cs a=cy w r d b_ bZ:=by
 intro q;induction q with
 |nil=>intro av d cs b_ a bZ r h;simp[cy]at h;obtain⟨rfl,rfl,rfl⟩:=h;rfl
 |cons k q ih=>
  intro av d cs b_ a bZ r h;cases av with
  |agg al=>
   rw[cons_append];rw[cy]at h⊢;split at h
   .rename_i x ae;exact ih _ _ _ _ _ _ _ h
   .cases h
  |tuple al=>
   rw[cons_append];rw[cy]at h⊢;split at h
   .rename_i x ae;exact ih _ _ _ _ _ _ _ h
   .cases h
  |aq sz al=>
   rw[cons_append];rw[cy.eq_def]at h⊢;simp only at h⊢;split at h
   .exact ih _ _ _ _ _ _ _ h
   .cases h
  |aS x=>
   cases k with
   |zero=>
    rw[cons_append];rw[cy.eq_def]at h⊢;simp only at h⊢;split at h
    .exact ih _ _ _ _ _ _ _ h
    .cases h
   |succ k=>rw[show cy w ((k+1)::q) (.aS x) cs a=none from rfl]at h;cases h
  |_=>simp[cy]at h
end
def e4.ok (x:e4):Bool:=match x.k with
 | .other=>false
 |_=>true
theorem bI.dx.info {C:bI} (a4:C.dx) {t:TypeId} (h:(C.T t).ok=true):
  ∃i d z,C.P.info? t=some i/\i.size=(C.T t).sz/\i.bytes=(C.T t).bytes/\i.zero=some z/\(∀cs,flat (C.T t).zero=some cs->z.cells=cs.toArray)/\C.P.underlying t=some d/\jj (C.T t).k d:=by
 rcases a4.ty t with⟨e,n,b,z,ae,_⟩|bl
 .rw[ae]at h;simp[e4.ok]at h
 .exact bl
theorem eQ {x:e4} {k:kr} (h:x.k=k) (ak:k≠.other):x.ok=true:=by
 unfold e4.ok;rw[h];cases k<;>first|rfl|exact(ak rfl).elim
theorem te {d:TypeDesc} {al:List (TypeId×Nat)} (h:jj (.struct al) d):∃gs,d= .struct gs/\gs.toList.map (λg=>(g.type,g.offset))=al:=by
 cases d<;>simp[jj]at h;exact⟨_,rfl,h⟩
theorem jk {d:TypeDesc} {e:TypeId} (h:jj (.slice e) d):d= .slice e:=by
 cases d<;>simp[jj]at h;rw[h]
theorem tf {d:TypeDesc} {k:IntKind} (h:jj (.int k) d):d= .int k:=by
 cases d<;>simp[jj]at h;rw[h]
theorem nb {d:TypeDesc} (h:jj .str d):d= .string:=by
 cases d<;>simp[jj]at h;rfl
theorem yt {d:TypeDesc} (h:jj .bool d):d= .bool:=by
 cases d<;>simp[jj]at h;rfl
theorem CI {d:TypeDesc} {e:TypeId} (h:jj (.ptr e) d):d= .pointer e:=by
 cases d<;>simp[jj]at h;rw[h]
theorem e5 {v:Value} (h:Value.et v=true):bW v=[v]:=by
 cases v<;>first|rfl|(simp[Value.et]at h)
theorem p5 {P:Program} {t:TypeId} {i:TypeInfo} (h:P.info? t=some i) (w:World):(typeInfo t).run P w= .ok i w:=by simp[typeInfo,h]
theorem iC {P:Program} {t:TypeId} {i:TypeInfo} (h:P.info? t=some i) (w:World):(Go.sizeOf t).run P w= .ok i.size w:=by simp[Go.sizeOf,p5 h]
theorem p6 {P:Program} {t:TypeId} {i:TypeInfo} {z:Value} (h:P.info? t=some i) (bC:i.zero=some z) (w:World):(zeroValue t).run P w= .ok z w:=by simp[zeroValue,p5 h,bC]
section
variable {C:bI} {w0 w:World} {F0 X F:Nat->Prop} {S:Nat->Nat->Prop} {s s1:af} {an:Nat->Value} {av:j}
def Good (C:bI) (w0:World) (F0 X:Nat->Prop) (an:Nat->Value) (w:World) (m:Sem Value) (av:j) (s1:af):Prop:=
 ∃v aw ba aB,m.run C.P w= .ok v aw/\bg w0 F0 X ba aB s1 an aw/\ia w0 X ba aB s1 an aw av v
theorem Good.same (h:bg w0 F0 X F S s an w) {m:Sem Value} {v:Value} (aG:m.run C.P w= .ok v w) (ag:av.plain=true) (aE:az w F s an av v (λ_=>False)):Good C w0 F0 X an w m av s:=
 ⟨v,w,F,S,aG,h,.inl ⟨ag,aE⟩⟩
theorem yu (_h:bg w0 F0 X F S s an w) {x:j} {v:Value} (aE:az w F s an x v (λ_=>False)) {y:Nat} {q:Vm} (hl:loc s x=some (y,q)) {d:j} (ad:j.sub q (s y)=some d):
  j.eu q (s y)=true/\∃b_ b o,v= .pointer (some ⟨b,o,none⟩)/\cy w q (s y) (bW (an y)) none=some (d,b_,some (b,o)):=by
 cases x with
 |h z vD=>
  simp only[loc]at hl;split at hl
  .rename_i e he;simp only[some.injEq,Prod.mk.injEq]at hl;obtain⟨rfl,rfl⟩:=hl;rw[az]at aE;obtain⟨b_,a,aL,a0,bK⟩:=aE _ he rfl;have fF:e=d:=by
    rw[tc _ _ _ _ he]at ad;simpa [j.sub]using ad
   subst fF;refine⟨by rw[I1 _ _ _ _ he];simp[j.eu],?_⟩;have U:Value.et v=true:=bK;rw[e5 U]at a0;subst a0;have iR:=td w vD (s z) _ _ _ none a [0] aL;have ae:=_h.cG z;rw[az.b7 (fZ he (.inl rfl))]at ae;obtain⟨eJ,bZ,c1,dW,k0,bX,b6,cR,cI,d_⟩:=ctx vD (s z) (bW (an z)) (S z) none _ ae.2 he;rw[k0]at aL;simp only[some.injEq,Prod.mk.injEq,true_and]at aL;obtain⟨rfl,rfl⟩:=aL;rw[aj]at cI;obtain⟨b,cur,aR,fr,cx,aX,_⟩:=cI;simp only[cons.injEq,and_true]at aX;subst aX;exact⟨_,b,0,rfl,by rw[iR];rfl⟩
  .cases hl
 |ag z vD=>
  simp only[loc]at hl;split at hl
  .rename_i ai;simp only[some.injEq,Prod.mk.injEq]at hl;obtain⟨rfl,rfl⟩:=hl;rw[az]at aE;obtain⟨b_,b,o,aL,a0⟩:=aE _ ad ai;exact⟨ai,b_,b,o,a0,aL⟩
  .cases hl
 |_=>simp[loc]at hl
def gQ (C:bI) (s:af) (T:TypeId) (x:j) (k:Nat):Option j:=
 match(C.T T).k with
 | .struct al=>match al[k]? with
   |some (hZ,off)=>if(C.T hZ).ok=true/\(C.T hZ).sz≠0 then
     match x with
     | .ref (.agg ds)=>match ds[k]? with
       |some d=>if j.c0 (ds.take k)=off then some (.ref d)else none
       |none=>none
     | .J y o=>if(s y).plain then none else some (.J y (o+off))
     |x=>match loc s x with
      |some (y,q)=>match j.sub q (s y)with
       |some (.agg ds)=>if k<ds.length/\j.c0 (ds.take k)=off then some (.ag y (q++[k]))else none
       |_=>none
      |none=>none
    else none
   |none=>none
 |_=>none
theorem gh.yv {w:World} {b o:Nat} {bu eN bN:Vp} (h:gh w b o (bu++(eN++bN))):gh w b (o+bu.length) eN:=by
 intro aD c cn;have da:aD<eN.length:=(List.getElem?_eq_some_iff.1 cn).1;have:=h (bu.length+aD) c (by rw[getElem?_append_right (by omega),getElem?_append_left (by omega),<-cn];congr 1;omega);rw[Nat.add_assoc];exact this
theorem yw (a4:C.dx) {T hZ:TypeId} {al:List (TypeId×Nat)} {k off:Nat} (ak:(C.T T).k= .struct al) (bd:al[k]? =some (hZ,off)) (U:(C.T hZ).ok=true) (aa:(C.T hZ).sz≠0) (b o:Nat) (w:World):
  (Instr.fieldAt T (.pointer (some ⟨b,o,none⟩)) k).run C.P w= .ok (.pointer (some ⟨b,o+off,none⟩)) w:=by
 obtain⟨i,d,z,aI,aR,aX,bT,cb,bH,bx⟩:=a4.info (eQ ak (by simp));rw[ak]at bx;obtain⟨gs,rfl,gR⟩:=te bx;obtain⟨nP,a8,nQ,f1,f2,f3,f4,f5,f6,f7⟩:=a4.info U;have bm:∃g,gs[k]? =some g/\g.type=hZ/\g.offset=off:=by
  rw[<-gR,getElem?_map]at bd;simp only[map_eq_some_iff,Prod.mk.injEq]at bd;obtain⟨g,U,aa,ax⟩:=bd;exact⟨g,by simpa using U,aa,ax⟩
 obtain⟨g,aL,rfl,rfl⟩:=bm;simp[Instr.fieldAt,run_underlying bH,aL,Instr.sureAddr,fieldPlace,iC f1,f2,aa,Addr.add_lit]
theorem I2 (a4:C.dx) (h:bg w0 F0 X F S s an w) {T:TypeId} {x:j} {v:Value} {k:Nat} (ae:x.plain=true) (aE:az w F s an x v (λ_=>False)) (he:gQ C s T x k=some av):
  Good C w0 F0 X an w (Instr.fieldAt T v k) av s:=by
 unfold gQ at he;split at he
 .rename_i al ak;split at he
  .rename_i hZ off bd;split at he
   .rename_i rK;split at he
    .rename_i ds;split at he
     .rename_i d ad;split at he
      .rename_i nc;simp only[some.injEq]at he;subst he;have jZ:=(az.b7 rfl).1 aE;rw[aj]at jZ;obtain⟨R,b,o,de,U,aa,ax,aP⟩:=jZ;rw[e5 R]at U;simp only[cons.injEq,and_true]at U;subst U;rw[aj]at aP;obtain⟨bu,eN,bN,bP,gj,rfl,fY,eO,el,fP,dG,jX⟩:=aQ.pick ds _ _ k d aP ad;refine Good.same h (yw a4 ak bd rK.1 rK.2 b o w) rfl ((az.b7 rfl).2 ⟨rfl,?_⟩);rw[aj];refine⟨b,o+off,eN,rfl,aa,?_,aj.mono (λ_ h=>h) _ _ _ _ (λb J=>el b J) dG⟩;rw[<-nc,<-fY];exact ax.yv
      .cases he
     .cases he
    .rename_i y o;split at he
     .cases he
     .rename_i ag;simp only[some.injEq]at he;subst he;rw[az]at aE;obtain⟨b,cur,e,fr,rfl,aa,ax,aP⟩:=aE (by simpa using ag);refine Good.same h (yw a4 ak bd rK.1 rK.2 b o w) rfl ?_;rw[az];exact λ_=>⟨b,cur,e,fr,rfl,aa,ax,aP⟩
    .rename_i x _ _;split at he
     .rename_i y q hl;split at he
      .rename_i ds ad;split at he
       .rename_i nc;simp only[some.injEq]at he;subst he;obtain⟨ai,b_,b,o,rfl,iR⟩:=yu h aE hl ad;refine Good.same h (yw a4 ak bd rK.1 rK.2 b o w) rfl ?_;rw[az];intro d2 gB p7;rw[td w q _ _ _ _ _ _ [k] iR];rw[tc _ _ _ _ ad]at gB;have nR:∃d3,ds[k]? =some d3:=⟨_,getElem?_eq_getElem nc.1⟩
        obtain⟨d3,tg⟩:=nR;simp only[j.sub,tg,some.injEq]at gB;subst gB;simp only[cy,tg];refine⟨(b_.drop off).take d3.wd,b,o+off,?_,rfl⟩;rw[nc.2];rfl
       .cases he
      .cases he
     .cases he
   .cases he
  .cases he
 .cases he
def hJ (C:bI) (s:af) (T:TypeId) (x i:j):Option j:=
 match(C.T T).k,i with
 | .slice e,.int _ n=>if 0<=n/\(C.T e).ok=true then
   match x with
   | .slice xs=>match xs[n.toNat]? with
     |some d=>if d.wd=(C.T e).sz then some (.ref d)else none
     |none=>none
   | .h y q=>match j.sub q (s y)with
     |some (.aq sz xs)=>if n.toNat<xs.length/\sz=(C.T e).sz then some (.ag y (q++[n.toNat]))else none
     |_=>none
   |_=>none
   else none
 |_,_=>none
theorem CJ (a4:C.dx) {T e:TypeId} (ak:(C.T T).k= .slice e) (he:(C.T e).ok=true) (b o len cap:Nat) (k:IntKind) (n:Nat) (a2:n<len) (w:World):
  (Instr.indexAt T (.slice (some ⟨b,o,none⟩) len cap) (.int k n)).run C.P w= .ok (.pointer (some ⟨b,o+n*(C.T e).sz,none⟩)) w:=by
 obtain⟨i,d,z,aI,aR,aX,bT,cb,bH,bx⟩:=a4.info (eQ ak (by simp));rw[ak]at bx;have:=jk bx;subst this;obtain⟨nP,a8,nQ,f1,f2,f3,f4,f5,f6,f7⟩:=a4.info he;simp[Instr.indexAt,run_underlying bH,asIntOf,a2,iC f1,f2,Addr.add_lit]
theorem I3 (a4:C.dx) (h:bg w0 F0 X F S s an w) {T:TypeId} {x i:j} {v lC:Value} (aE:az w F s an x v (λ_=>False)) (I4:az w F s an i lC (λ_=>False))
  (he:hJ C s T x i=some av):Good C w0 F0 X an w (Instr.indexAt T v lC) av s:=by
 unfold hJ at he;split at he
 .rename_i e k n ak;have yx:=(az.b7 rfl).1 I4;rw[aj,e5 yx.1]at yx;have:lC= .int k n:=by simpa using yx.2
  subst this;split at he
  .rename_i a2;obtain⟨n,rfl⟩:=Int.eq_ofNat_of_zero_le a2.1;simp only[Int.toNat_natCast]at he;split at he
   .rename_i xs;split at he
    .rename_i d ad;split at he
     .rename_i hw;simp only[some.injEq]at he;subst he;have jZ:=(az.b7 rfl).1 aE;rw[aj,e5 jZ.1]at jZ;obtain⟨R,⟨rfl,_⟩|⟨b,o,cap,de,sz,U,aa,ax,aP,a9,bU,bO⟩⟩:=jZ
      .simp at ad
      .simp only[cons.injEq,and_true]at U;subst U;have da:n<xs.length:=(List.getElem?_eq_some_iff.1 ad).1;obtain⟨bu,eN,bN,bP,gj,rfl,fY,eO,el,fP,dG,jX⟩:=aQ.pick xs _ _ n d bO ad;refine Good.same h (CJ a4 ak a2.2 b o _ _ k n da w) rfl ((az.b7 rfl).2 ⟨rfl,?_⟩);rw[aj];refine⟨b,_,eN,rfl,aa,?_,aj.mono (λ_ h=>h) _ _ _ _ (λb J=>el b J) dG⟩;have I5:=a9 d (mem_of_getElem? ad);have:n*(C.T e).sz=bu.length:=by
        rw[fY,p0 _ (λd ad=>a9 d (mem_of_mem_take ad)),length_take,Nat.min_eq_left (by omega),<-hw,I5]
       rw[this];exact bU.yv
     .cases he
    .cases he
   .rename_i y q;split at he
    .rename_i sz xs ad;split at he
     .rename_i hw;simp only[some.injEq]at he;subst he;rw[az]at aE;obtain⟨b_,a,aL,a0,bK⟩:=aE _ ad rfl;have R:Value.et v=true:=bK;rw[e5 R]at a0;subst a0;have ae:=h.cG y;rw[az.b7 (fZ ad (.inl rfl))]at ae;obtain⟨eJ,bZ,c1,dW,k0,bX,b6,cR,cI,d_⟩:=ctx q (s y) (bW (an y)) (S y) none _ ae.2 ad;rw[k0]at aL;simp only[some.injEq,Prod.mk.injEq,true_and]at aL;obtain⟨rfl,rfl⟩:=aL;rw[aj]at cI;rcases cI with⟨rfl,_⟩|⟨b,cap,cur,aR,fr,cx,aX,_⟩
      .simp at hw
      .simp only[cons.injEq,and_true]at aX;subst aX;refine Good.same h (CJ a4 ak a2.2 b 0 _ _ k n hw.1 w) rfl ?_;rw[az];intro d2 gB _;rw[td w q _ _ _ _ _ _ [n] k0];rw[tc _ _ _ _ ad]at gB;obtain⟨d3,tg⟩:∃d3,xs[n]? =some d3:=⟨_,getElem?_eq_getElem hw.1⟩
       simp only[j.sub,tg,some.injEq]at gB;subst gB;simp only[cy,tg];exact⟨_,b,n*sz,rfl,by simp[hw.2]⟩
     .cases he
    .cases he
   .cases he
  .cases he
 .cases he
end
section
variable {C:bI} {w0 w:World} {F0 X F:Nat->Prop} {S:Nat->Nat->Prop} {s s1:af} {an:Nat->Value} {av:j}
theorem CK (a4:C.dx) {T:TypeId} {al:List (TypeId×Nat)} (ak:(C.T T).k= .struct al) (w:World):(isAgg T).run C.P w= .ok true w:=by
 obtain⟨i,d,z,aI,aR,aX,bT,cb,bH,bx⟩:=a4.info (eQ ak (by simp));rw[ak]at bx;obtain⟨gs,rfl,_⟩:=te bx;simp[isAgg,run_underlying bH]
def e4.flat (x:e4):Bool:=match x.k with
 | .other=>false
 | .fb _=>false
 | .struct _=>false
 |_=>true
theorem CL {x:e4} (h:x.flat=true):x.ok=true:=by
 unfold e4.flat at h;unfold e4.ok;revert h;cases x.k<;>simp
theorem yy (a4:C.dx) {T:TypeId} (ak:(C.T T).flat=true) (w:World):(isAgg T).run C.P w= .ok false w:=by
 obtain⟨i,d,z,aI,aR,aX,bT,cb,bH,bx⟩:=a4.info (CL ak);have cJ:(∀al,d≠.struct al)/\(∀n e,d≠.array n e):=by
  clear bH;unfold e4.flat at ak;generalize (C.T T).k=ib at*;cases ib<;>cases d<;>simp[jj]at bx ak⊢
 cases d<;>first|exact(cJ.1 _ rfl).elim|exact(cJ.2 _ _ rfl).elim|simp[isAgg,run_underlying bH]
theorem gh.one {w:World} {b o:Nat} {v:Value} (h:gh w b o [v]):w.cell? ⟨b,o,none⟩=some v:=by simpa using h 0 v rfl
theorem CM {P:Program} {b o:Nat}:∀(cs:Vp) (i:Nat) (acc:Array Value),gh w b (o+i) cs->(loadCellsFrom ⟨b,o,none⟩ i cs.length acc).run P w= .ok (acc++cs.toArray) w
 |[],i,acc,_=>by simp[loadCellsFrom]
 |c::cs,i,acc,h=>by
  have bt:w.cell? ⟨b,o+i,none⟩=some c:=by simpa using h 0 c rfl
  have U:gh w b (o+(i+1)) cs:=by
   intro aD x cn;have:=h (aD+1) x (by simpa using cn);rw[<-this];congr 2;omega
  have ih:=CM (P:=P) cs (i+1) (acc.push c) U;simp only[length_cons,loadCellsFrom,Sem.run_bind,Go.load,Sem.run,Addr.add_lit,bt,Result.andThen];rw[ih];simp
theorem I6 (a4:C.dx) {T:TypeId} {al:List (TypeId×Nat)} (ak:(C.T T).k= .struct al) {b o:Nat} {cs:Vp} (h:gh w b o cs) (hl:cs.length=(C.T T).sz):
  (loadVar T ⟨b,o,none⟩).run C.P w= .ok (.agg cs.toArray) w:=by
 obtain⟨i,d,z,aI,aR,aX,bT,cb,bH,bx⟩:=a4.info (eQ ak (by simp));have:=CM (P:=C.P) (b:=b) (o:=o) cs 0 #[] (by simpa using h);simp only[loadVar,Sem.run_bind,CK a4 ak,Result.andThen,if_true,iC aI,aR,<-hl,loadCells,this];simp
theorem CN (a4:C.dx) {T:TypeId} (ak:(C.T T).flat=true) {b o:Nat} {v:Value} (h:gh w b o [v]):
  (loadVar T ⟨b,o,none⟩).run C.P w= .ok v w:=by
 simp[loadVar,yy a4 ak,Go.load,Sem.run,h.one]
def fits (C:bI) (T:TypeId) (d:j):Bool:=match(C.T T).k,d with
    | .struct _,.agg ds=>j.c0 ds==(C.T T).sz
    | .struct _,_=>false
    |_,.agg _=>false
    |_,.tuple _=>false
    |_,_=>(C.T T).flat
def vE:Vr->Nat->Nat->Option Nat
 |[],_,_=>none
 |d::ds,i,k=>if k=0 then some i else if d.wd<=k then vE ds (i+1) (k-d.wd)else none
def ey (C:bI) (s:af) (T:TypeId) (x:j):Option j:=
 match x with
 | .ref d=>if fits C T d=true then some d else none
 | .J y k=>match s y with
   | .agg ds=>if j.db ds then none else match vE ds 0 k with
     |some i=>match ds[i]? with
      |some d=>if j.c0 (ds.take i)=k/\fits C T d=true then some (if d.plain then d else .h y [i])else none
      |none=>none
     |none=>none
   |_=>none
 |x=>match loc s x with
  |some (y,q)=>match j.sub q (s y)with
   |some d=>if fits C T d=true then some (if d.plain then d else .h y q)else none
   |none=>none
  |none=>none
theorem aj.one {F:Nat->Prop} {d:j} {cs:Vp} {S:Nat->Prop} (h:aj w F d cs S) (U:∀al,d≠.agg al) (aa:∀al,d≠.tuple al):∃v,cs=[v]/\Value.et v=true:=by
 cases d with
 |hole=>rw[aj]at h;obtain⟨v,h,rfl⟩:=h;exact⟨v,rfl,h⟩
 |dV=>rw[aj]at h;obtain⟨v,rfl⟩:=h;exact⟨_,rfl,rfl⟩
 |slice xs=>rw[aj]at h;rcases h with⟨_,a,c,rfl,_⟩|⟨b,o,cap,de,sz,rfl,_⟩<;>exact⟨_,rfl,rfl⟩
 |aq sz xs=>rw[aj]at h;rcases h with⟨_,_,rfl⟩|⟨b,cap,cur,e,fr,cU,rfl,_⟩<;>exact⟨_,rfl,rfl⟩
 |ref d=>rw[aj]at h;obtain⟨b,o,de,rfl,_⟩:=h;exact⟨_,rfl,rfl⟩
 |aS d=>rw[aj]at h;obtain⟨b,cur,e,fr,cU,rfl,_⟩:=h;exact⟨_,rfl,rfl⟩
 |agg al=>exact(U _ rfl).elim
 |tuple al=>exact(aa _ rfl).elim
 |fn _ _=>rw[aj]at h;obtain⟨arr,rfl,_⟩:=h;exact⟨_,rfl,rfl⟩
 |h _ _=>rw[aj]at h;exact h.elim
 |ag _ _=>rw[aj]at h;exact h.elim
 |J _ _=>rw[aj]at h;exact h.elim
 |cY _=>rw[aj]at h;obtain⟨v,hG,rfl⟩:=jz.one h;exact⟨v,rfl,hG⟩
 |br _ _=>rw[aj]at h;obtain⟨arr,rfl,_⟩:=h;exact⟨_,rfl,rfl⟩
 |_=>rw[aj]at h;subst h;exact⟨_,rfl,rfl⟩
theorem j.vF {d:j} (h:d.single=true):(∀al,d≠.agg al)/\∀al,d≠.tuple al:=
 ⟨λal e=>(by subst e;cases h),λal e=>(by subst e;cases h)⟩
theorem az.lD {F:Nat->Prop} {s:af} {an:Nat->Value} {d:j} {v:Value} (aO:d.tree=true) (R:d.single=true) (h:aj w F d [v] (λ_=>False)):az w F s an d v (λ_=>False):=by
 obtain⟨dM,e,U⟩:=aj.one h (j.vF R).1 (j.vF R).2;have:v=dM:=by simpa using e
 subst this;refine(az.b7 aO).2 ⟨?_,by rw[e5 U];exact h⟩;cases d<;>first|exact U|cases R
mutual
theorem az.nd {F:Nat->Prop} {s:af} {an:Nat->Value}:∀(d:j) (v:Value),d.single=true->aj w F d [v] (λ_=>False)->az w F s an d v (λ_=>False)
 | .fn f caps,v,_,h=>by
   rw[aj]at h;obtain⟨arr,U,aa,ax⟩:=h;rw[az];exact⟨arr,by simpa using U,cK.nd caps _ aa ax⟩
 | .bool b,v,R,h=>az.lD rfl R h
 | .dV,v,R,h=>az.lD rfl R h
 | .int k n,v,R,h=>az.lD rfl R h
 | .str x,v,R,h=>az.lD rfl R h
 | .cW,v,R,h=>az.lD rfl R h
 | .aK,v,R,h=>az.lD rfl R h
 | .slice xs,v,R,h=>az.lD rfl R h
 | .aq sz xs,v,R,h=>az.lD rfl R h
 | .ref d,v,R,h=>az.lD rfl R h
 | .aS d,v,R,h=>az.lD rfl R h
 | .h _ _,v,_,h=>by rw[aj]at h;exact h.elim
 | .ag _ _,v,_,h=>by rw[aj]at h;exact h.elim
 | .J _ _,v,_,h=>by rw[aj]at h;exact h.elim
 | .cY _,v,R,h=>az.lD rfl R h
 | .br _ _,v,R,h=>az.lD rfl R h
theorem cK.nd {F:Nat->Prop} {s:af} {an:Nat->Value}:∀(ds:Vr) (vs:Vp),(∀d∈ds,d.single=true)->aQ w F ds vs (λ_=>False)->cK w F s an ds vs
 |[],vs,_,h=>by rw[aQ]at h;rw[cK];exact h
 |d::ds,vs,R,h=>by
  rw[aQ]at h;obtain⟨bu,bN,bP,cx,rfl,aa,ax,aP,a9,_⟩:=h;have ad:=R d (by simp);obtain⟨v,rfl,_⟩:=aj.one aa (j.vF ad).1 (j.vF ad).2;rw[cK];exact⟨v,bN,rfl,az.nd d v ad (aj.mono (λ_ h=>h) _ _ _ _ (λb J=>aP b J) aa),cK.nd ds bN (λx ae=>R x (by simp[ae])) (aQ.mono (λ_ h=>h) _ _ _ _ (λb J=>a9 b J) ax)⟩
end
theorem vG (a4:C.dx) {T:TypeId} {d:j} {b o:Nat} {cs:Vp} {S:Nat->Prop} (h:gh w b o cs) (ad:aj w F d cs S)
  (gC:fits C T d=true):
  ∃v,(loadVar T ⟨b,o,none⟩).run C.P w= .ok v w/\bW v=cs/\cM d v:=by
 unfold fits at gC;by_cases R:∃al,(C.T T).k= .struct al
 .obtain⟨al,ak⟩:=R;rw[ak]at gC;cases d with
  |agg ds=>
   simp only[beq_iff_eq]at gC;refine⟨_,I6 a4 ak h ((aj.length _ _ _ ad).trans gC),rfl,⟨_,rfl⟩⟩
  |_=>simp at gC
 .have hr:(C.T T).flat=true/\(∀al,d≠.agg al)/\(∀al,d≠.tuple al):=by
   revert gC R;cases ak:(C.T T).k<;>cases d<;>simp
  obtain⟨v,rfl,U⟩:=aj.one ad hr.2.1 hr.2.2;refine⟨v,CN a4 hr.1 h,e5 U,?_⟩;cases d<;>first|exact U|exact(hr.2.1 _ rfl).elim|exact(hr.2.2 _ rfl).elim
theorem I7 (a4:C.dx) {T:TypeId} {d:j} {off:Nat} {arr:Array Value} {bu cs bN:Vp} {S:Nat->Prop} (he:arr.toList=bu++(cs++bN)) (bk:bu.length=off) (ad:aj w F d cs S)
  (gC:fits C T d=true):
  ∃v,(part T arr off).run C.P w= .ok v w/\bW v=cs/\cM d v:=by
 unfold fits at gC;by_cases R:∃al,(C.T T).k= .struct al
 .obtain⟨al,ak⟩:=R;rw[ak]at gC;cases d with
  |agg ds=>
   simp only[beq_iff_eq]at gC;obtain⟨i,d,z,aI,aR,aX,bT,cb,bH,bx⟩:=a4.info (eQ ak (by simp));have hl:cs.length=(C.T T).sz:=(aj.length _ _ _ ad).trans gC;have ae:(arr.extract off (off+(C.T T).sz)).toList=cs:=by
    rw[Array.toList_extract,he,extract_eq_take_drop,<-hl,<-bk,Nat.add_sub_cancel_left,drop_left,take_left]
   refine⟨.agg (arr.extract off (off+(C.T T).sz)),?_,by simpa [bW,gy]using ae,⟨_,rfl⟩⟩;simp[part,CK a4 ak,iC aI,aR]
  |_=>simp at gC
 .have hr:(C.T T).flat=true/\(∀al,d≠.agg al)/\(∀al,d≠.tuple al):=by
   revert gC R;cases ak:(C.T T).k<;>cases d<;>simp
  obtain⟨v,rfl,U⟩:=aj.one ad hr.2.1 hr.2.2;have bm:arr[off]? =some v:=by
   rw[<-Array.getElem?_toList,he,<-bk,getElem?_append_right (Nat.le_refl _)];simp
  refine⟨v,?_,e5 U,?_⟩
  .simp[part,yy a4 hr.1,bm]
  .cases d<;>first|exact U|exact(hr.2.1 _ rfl).elim|exact(hr.2.2 _ rfl).elim
theorem I8 (a4:C.dx) (h:bg w0 F0 X F S s an w) {T:TypeId} {x:j} {v:Value} (aE:az w F s an x v (λ_=>False)) (he:ey C s T x=some av):
  Good C w0 F0 X an w (Instr.loadAt T v) av s:=by
 unfold ey at he;split at he
 .rename_i d;split at he
  .rename_i gC;simp only[some.injEq]at he;subst he;have jZ:=(az.b7 rfl).1 aE;rw[aj,e5 jZ.1]at jZ;obtain⟨R,b,o,de,U,aa,ax,aP⟩:=jZ;simp only[cons.injEq,and_true]at U;subst U;obtain⟨dM,aG,ai,ks⟩:=vG a4 ax aP gC;have c9:(Instr.loadAt T (.pointer (some ⟨b,o,none⟩))).run C.P w= .ok dM w:=by simp[Instr.loadAt,Instr.sureAddr,aG]
   refine⟨dM,w,F,S,c9,h,?_⟩;by_cases aO:d.tree=true
   .exact .inr ⟨aO,ks,λ_=>False,by rw[ai];exact aP,λ_ h=>h.elim,λ_ h=>h.elim,λ_ _ h=>h.elim,λ_ h=>h.elim⟩
   .cases d<;>first|exact(aO rfl).elim|(rw[aj]at aP;exact aP.elim)|exact .inl ⟨rfl,by rw[az];trivial⟩|(have a9:=aP;rw[aj]at a9;obtain⟨arr,e,_⟩:=a9;rw[<-ai]at e aP;rw[e5 (by exact ks)]at aP;exact .inl ⟨rfl,az.nd _ _ rfl aP⟩)
  .cases he
 .rename_i y k;split at he
  .rename_i ds kV;split at he
   .cases he
   .rename_i th;split at he
    .rename_i i ay;split at he
     .rename_i d ad;split at he
      .rename_i gC;simp only[some.injEq]at he;have eP:(s y).plain=false:=by rw[kV];simp only[j.plain];simpa using th
       rw[az]at aE;obtain⟨b,cur,e,fr,rfl,aa,ax,aP⟩:=aE eP;have a_:=h.cG y;rw[kV]at a_;have CO:=((az.b7 rfl).1 a_).2;rw[aj]at CO;obtain⟨bu,eN,bN,bP,gj,gD,fY,eO,el,fP,dG,jX⟩:=aQ.pick ds _ _ i d CO ad;have h9:gh w b k eN:=by
        intro aD c cn;have da:aD<eN.length:=(List.getElem?_eq_some_iff.1 cn).1;have:cur.toList[k+aD]? =some c:=by
         rw[aP,gD,getElem?_append_right (by omega),getElem?_append_left (by omega),<-cn];congr 1;omega
        simp[World.cell?,ax];simpa using this
       obtain⟨dM,aG,ai,ks⟩:=vG a4 h9 dG gC.2;have c9:(Instr.loadAt T (.pointer (some ⟨b,k,none⟩))).run C.P w= .ok dM w:=by simp[Instr.loadAt,Instr.sureAddr,aG]
       refine⟨dM,w,F,S,c9,h,?_⟩;split at he
       .rename_i ag;subst he;by_cases aO:d.tree=true
        .exact .inl ⟨ag,(az.b7 aO).2 ⟨ks,by rw[ai];exact aj.plain _ _ _ _ ag dG⟩⟩
        .cases d<;>first|exact(aO rfl).elim|(rw[aj]at dG;exact dG.elim)|exact .inl ⟨rfl,by rw[az];trivial⟩|(have a9:=aj.plain _ _ _ (λ_=>False) ag dG;rw[<-ai]at a9;rw[e5 (by exact ks)]at a9;exact .inl ⟨rfl,az.nd _ _ rfl a9⟩)
       .subst he;refine .inl ⟨rfl,?_⟩;rw[az];intro d2 gB _;rw[kV]at gB⊢;simp only[j.sub,ad,some.injEq]at gB;subst gB;refine⟨eN,none,?_,ai,ks⟩;simp only[cy,ad];rw[gD,pY bu eN bN _ _ fY (aj.length _ _ _ dG)];rfl
      .cases he
     .cases he
    .cases he
  .cases he
 .rename_i x _ _;split at he
  .rename_i y q hl;split at he
   .rename_i d ad;split at he
    .rename_i gC;simp only[some.injEq]at he;obtain⟨mj,b_,b,o,rfl,iR⟩:=yu h aE hl ad;have a_:=h.cG y;rw[az.b7 (fZ ad (.inr mj))]at a_;obtain⟨eJ,bZ,c1,dW,k0,bX,b6,cR,cI,d_⟩:=ctx q (s y) (bW (an y)) (S y) none _ a_.2 ad;rw[k0]at iR;simp only[some.injEq,Prod.mk.injEq,true_and]at iR;obtain⟨rfl,rfl⟩:=iR;have h9:gh w b o eJ:=by
      rcases d_ with⟨l,r,aI,aR,_⟩|⟨eE,cur,e,fr,l,r,aI,aR,aX,bT,cb,_⟩
      .simp at aR
      .simp only[some.injEq,Prod.mk.injEq]at aI;obtain⟨rfl,rfl⟩:=aI;intro aD c cn;have da:aD<eJ.length:=(List.getElem?_eq_some_iff.1 cn).1;have:cur.toList[l.length+aD]? =some c:=by
        rw[cb,getElem?_append_right (by omega),getElem?_append_left (by omega),<-cn];congr 1;omega
       simp[World.cell?,aX];simpa using this
     obtain⟨dM,aG,ai,ks⟩:=vG a4 h9 cI gC;have c9:(Instr.loadAt T (.pointer (some ⟨b,o,none⟩))).run C.P w= .ok dM w:=by simp[Instr.loadAt,Instr.sureAddr,aG]
     refine⟨dM,w,F,S,c9,h,?_⟩;split at he
     .rename_i ag;subst he;by_cases aO:d.tree=true
      .exact .inl ⟨ag,(az.b7 aO).2 ⟨ks,by rw[ai];exact aj.plain _ _ _ _ ag cI⟩⟩
      .cases d<;>first|exact(aO rfl).elim|(rw[aj]at cI;exact cI.elim)|exact .inl ⟨rfl,by rw[az];trivial⟩|(have a9:=aj.plain _ _ _ (λ_=>False) ag cI;rw[<-ai]at a9;rw[e5 (by exact ks)]at a9;exact .inl ⟨rfl,az.nd _ _ rfl a9⟩)
     .subst he;refine .inl ⟨rfl,?_⟩;rw[az];intro d2 gB _;rw[ad]at gB;simp only[some.injEq]at gB;subst gB;exact⟨_,_,k0,ai,ks⟩
    .cases he
   .cases he
  .cases he
mutual
theorem aj.lE {F:Nat->Prop}:∀(d:j) (cs:Vp) (S:Nat->Prop),aj w F d cs S->∀c∈cs,Value.et c=true
 | .hole,cs,S,h=>by rw[aj]at h;obtain⟨v,h,rfl⟩:=h;simpa using h
 | .bool _,cs,S,h=>by rw[aj]at h;subst h;simp[Value.et]
 | .dV,cs,S,h=>by rw[aj]at h;obtain⟨b,rfl⟩:=h;simp[Value.et]
 | .int _ _,cs,S,h=>by rw[aj]at h;subst h;simp[Value.et]
 | .str _,cs,S,h=>by rw[aj]at h;subst h;simp[Value.et]
 | .cW,cs,S,h=>by rw[aj]at h;subst h;simp[Value.et]
 | .aK,cs,S,h=>by rw[aj]at h;subst h;simp[Value.et]
 | .slice xs,cs,S,h=>by
   rw[aj]at h;rcases h with⟨_,a,c,rfl,_⟩|⟨b,o,cap,de,sz,rfl,_⟩<;>simp[Value.et]
 | .aq sz xs,cs,S,h=>by
   rw[aj]at h;rcases h with⟨_,_,rfl⟩|⟨b,cap,cur,e,fr,aB,rfl,_⟩<;>simp[Value.et]
 | .ref d,cs,S,h=>by rw[aj]at h;obtain⟨b,o,de,rfl,_⟩:=h;simp[Value.et]
 | .aS d,cs,S,h=>by rw[aj]at h;obtain⟨b,o,de,_,_,rfl,_⟩:=h;simp[Value.et]
 | .agg al,cs,S,h=>by rw[aj]at h;exact aQ.lE al _ _ h
 | .tuple al,cs,S,h=>by rw[aj]at h;exact aQ.lE al _ _ h
 | .fn _ _,cs,S,h=>by rw[aj]at h;obtain⟨arr,rfl,_⟩:=h;simp[Value.et]
 | .h _ _,cs,S,h=>by rw[aj]at h;exact h.elim
 | .ag _ _,cs,S,h=>by rw[aj]at h;exact h.elim
 | .J _ _,cs,S,h=>by rw[aj]at h;exact h.elim
 | .cY _,cs,S,h=>by rw[aj]at h;obtain⟨v,hG,rfl⟩:=jz.one h;simpa using hG
 | .br _ _,cs,S,h=>by rw[aj]at h;obtain⟨arr,rfl,_⟩:=h;simp[Value.et]
theorem aQ.lE {F:Nat->Prop}:∀(ds:Vr) (cs:Vp) (S:Nat->Prop),aQ w F ds cs S->∀c∈cs,Value.et c=true
 |[],cs,S,h=>by rw[aQ]at h;subst h;simp
 |d::ds,cs,S,h=>by
  rw[aQ]at h;obtain⟨bu,bN,bP,cx,rfl,aa,ax,_⟩:=h;intro c ai;rcases mem_append.1 ai with ai|ai
  .exact aj.lE d _ _ aa c ai
  .exact aQ.lE ds _ _ ax c ai
end
theorem yz {P:Program} {b o:Nat} {e:TypeId} {fr:Nat×Nat}:∀(vs:Vp) (i:Nat) (cur:Array Value) (w:World) (l m r:Vp),w.heap[b]? =some (.cells cur e fr)->kn fr cur.size->
  cur.toList=l++(m++r)->l.length=o+i->m.length=vs.length->(∀v∈vs,Value.et v=true)->
  ∃aw,(storeCells ⟨b,o,none⟩ vs i).run P w= .ok () aw/\aw.heap[b]? =some (.cells (l++(vs++r)).toArray e fr)/\(∀c,c≠b->aw.heap[c]? =w.heap[c]?)/\aw.heap.size=w.heap.size/\aw.os=w.os/\aw.tape=w.tape/\Out aw w
 |[],i,cur,w,l,m,r,J,bd,ai,hl,hm,_=>by
  refine⟨w,rfl,?_,λ_ _=>rfl,rfl,rfl,rfl,Out.refl _⟩;have:m=[]:=by simpa using hm
  subst this;rw[J];have:cur=(l++([]++r)).toArray:=by rw[<-ai]
  rw[<-this]
 |v::vs,i,cur,w,l,m,r,J,bd,ai,hl,hm,oV=>by
  obtain⟨x,m,rfl⟩:∃x ic,m=x::ic:=by cases m with
   |nil=>simp at hm
   |cons x m=>exact⟨x,m,rfl⟩
  have hlen:cur.size=(l++(x::m++r)).length:=by rw[<-ai];simp
  have da:o+i<cur.size:=by rw[hlen];simp;omega
  have vH:w.cell? ⟨b,o+i,none⟩=some cur[o+i]:=by simp[World.cell?,J,da]
  have I9:w.frozen? ⟨b,o+i,none⟩=false:=by
   have:=bd (o+i) da;simp only[World.frozen?,J];simp only[Bool.and_eq_false_iff,decide_eq_false_iff_not];by_cases U:fr.1<=o+i
   .right;exact λaa=>this ⟨U,aa⟩
   .left;exact U
  have oW:(w.setCell ⟨b,o+i,none⟩ v).heap[b]? =some (.cells ((l++[v])++(m++r)).toArray e fr):=by
   simp only[World.setCell,Array.getElem?_modify,if_true,J,map_some,isSome_none,Bool.false_eq_true,if_false];congr 2;apply Array.ext';rw[Array.toList_setIfInBounds,ai,<-hl,set_append_right _ _ (Nat.le_refl _)];simp
  have p8:(store ((⟨b,o,none⟩:Addr).add i) v).run P w= .ok () (w.setCell ⟨b,o+i,none⟩ v):=by
   have U:=oV v (by simp);rw[Addr.add_lit];cases v<;>first|(simp[Value.et]at U;done)|simp[Go.store,Sem.run,vH,I9]
  obtain⟨aw,aL,a0,bK,cF,dq,gk,hd⟩:=yz (P:=P) (b:=b) (o:=o) vs (i+1) _ (w.setCell ⟨b,o+i,none⟩ v) (l++[v]) m r oW (by
   have:(l++[v]++(m++r)).toArray.size=cur.size:=by rw[hlen];simp
   rw[this];exact bd) (by simp) (by simp;omega) (by simpa using hm) (λu hu=>oV u (by simp[hu]))
  refine⟨aw,?_,by simpa using a0,λc ai=>?_,?_,dq,gk,hd⟩
  .simp only[storeCells,Sem.run_bind,p8,Result.andThen];exact aL
  .rw[bK c ai];simp only[World.setCell,Array.getElem?_modify];rw[if_neg (λe=>ai e.symm)]
  .rw[cF];simp[World.setCell]
theorem ti {d:j} {v:Value} (h:cM d v) (ad:∀al,d≠.tuple al):v.cells=(bW v).toArray:=by
 cases d with
 |tuple al=>exact(ad _ rfl).elim
 |agg al=>obtain⟨arr,rfl⟩:=h;simp[Value.cells,bW,gy]
 |_=>
  have U:Value.et v=true:=h;rw[e5 U];cases v<;>first|rfl|(simp[Value.et]at U)
def ie (C:bI) (s:af) (T:TypeId) (x y:j):Option af:=
 match cc s y,loc s x with
 |some (d,s1),some (z,q)=>match d with
  | .tuple _=>none
  |d=>match j.sub q (s z)with
   |some d0=>if d.wd=d0.wd/\d.wd=(C.T T).sz/\(C.T T).ok=true/\y.owner≠some z then some (cA (gz z s1) z (j.put q d (s z)))else none
   |none=>none
 |_,_=>none
theorem I_ {s s1:af} {y d:j} {z:Nat} (h:cc s y=some (d,s1)) (bC:(s z).tree=true) (a_:y.owner≠some z):s1 z=s z:=by
 cases y with
 |h x q=>
  simp only[cc]at h;split at h
  .split at h
   .cases h
   .simp only[some.injEq,Prod.mk.injEq]at h;obtain⟨_,rfl⟩:=h;rw[hW _ _ (λe=>a_ (by rw[j.owner,e]))];exact yl bC
  .cases h
 |ag x q=>simp[cc]at h
 |J x q=>simp[cc]at h
 |fn f c=>simp[cc]at h
 |hole=>simp[cc]at h
 |_=>simp only[cc,some.injEq,Prod.mk.injEq]at h;rw[h.2]
theorem Ja (a4:C.dx) (h:bg w0 F0 X F S s an w) {T:TypeId} {x y:j} {dg g8:Value} (yA:az w F s an x dg (λ_=>False)) (a_:y.plain=true) (Jb:az w F s an y g8 (λ_=>False))
  {s2:af} (he:ie C s T x y=some s2):
  ∃aw aB,(Instr.storeAt T dg g8).run C.P w= .ok () aw/\bg w0 F0 X F aB s2 an aw:=by
 unfold ie at he;split at he
 .rename_i d s1 z q aO hl;have key:∀d:j,(∀al,d≠.tuple al)->cc s y=some (d,s1)->(match j.sub q (s z)with
   |some d0=>if d.wd=d0.wd/\d.wd=(C.T T).sz/\(C.T T).ok=true/\y.owner≠some z then some (cA (gz z s1) z (j.put q d (s z)))else none
   |none=>none)=some s2->∃aw aB,(Instr.storeAt T dg g8).run C.P w= .ok () aw/\bg w0 F0 X F aB s2 an aw:=by
   intro d nS aO he;split at he
   .rename_i d0 kt;split at he
    .rename_i p9;obtain⟨U,aa,ax,aP⟩:=p9;simp only[some.injEq]at he;subst he;obtain⟨mj,b_,b,o,rfl,iR⟩:=yu h yA hl kt;obtain⟨bP,fg,aL,a0,Sn,bK,cF,dq,gk,hd,jB⟩:=na h a_ Jb aO;have df:s1 z=s z:=I_ aO (fZ kt (.inr mj)) aP;rw[<-df]at kt mj iR⊢;obtain⟨eJ,eE,l,r,cur,e,fr,k0,bX,b6,cR,cI⟩:=fg.store kt mj bK U cF dq gk hd;rw[iR]at k0;simp only[some.injEq,Prod.mk.injEq,true_and]at k0;obtain⟨rfl,rfl,rfl⟩:=k0;obtain⟨i,d,nQ,aI,aR,aX,bT,cb,bH,bx⟩:=a4.info ax;have hlen:=aj.length _ _ _ bK;have hm:b_.length=(bW g8).length:=by
      have CP:=fg.cG z;rw[az.b7 (fZ kt (.inr mj))]at CP;obtain⟨_,_,_,_,mf,_,_,_,iD,_⟩:=ctx q (s1 z) (bW (an z)) (bP z) none _ CP.2 kt;rw[iR]at mf;simp only[some.injEq,Prod.mk.injEq,true_and]at mf;rw[mf.1,aj.length _ _ _ iD,hlen,U]
     obtain⟨aw,ea,fh,gE,j0,lF,nT,nU⟩:=yz (P:=C.P) (b:=b) (o:=l.length) (e:=e) (fr:=fr) (bW g8) 0 cur w l b_ r bX cR b6 rfl hm (aj.lE _ _ _ bK);obtain⟨aB,d_⟩:=cI aw fh gE j0 lF nT nU;refine⟨aw,aB,?_,d_⟩;have ml:=ti a0 nS;simp[Instr.storeAt,Instr.sureAddr,storeVar,iC aI,aR,ml,hlen,aa,ea]
    .cases he
   .cases he
  split at he
  .cases he
  .rename_i nS;exact key _ (λal e=>nS al e) aO he
 .cases he
theorem bg.alloc (h:bg w0 F0 X F S s an w) {d:j} {cs:Vp} {Sn:Nat->Prop} (e:TypeId) (aE:aj w F d cs Sn)
  (da:∀b,Sn b->b<w.heap.size) (a3:∀b,Sn b->¬F b) (bB:∀u b,Sn b->¬S u b) (bt:∀b,Sn b->X b\/w0.heap.size<=b):
  bg w0 F0 X F S s an (w.alloc (.cells cs.toArray e))/\
   ia w0 X F S s an (w.alloc (.cells cs.toArray e)) (.aS d) (.pointer (some ⟨w.heap.size,0,none⟩)):=by
 have hold:∀b,b<w.heap.size->(w.alloc (.cells cs.toArray e)).heap[b]? =w.heap[b]? :=by
  intro b J;show(w.heap.push _)[b]? =_;rw[Array.getElem?_push,if_neg (by omega)]
 refine⟨h.grow hold (by simp) rfl rfl ⟨rfl,λ_=>Nat.le_refl _⟩,.inr ⟨rfl,rfl,λb=>b=w.heap.size\/Sn b,?_,?_,?_,?_,?_⟩⟩
 .rw[aj];refine⟨w.heap.size,cs.toArray,e,(0,0),Sn,rfl,.inl rfl,?_,?_,?_,λc ai=>.inr ai,λai=>Nat.lt_irrefl _ (da _ ai)⟩
  .show(w.heap.push _)[_]? =_;simp
  .intro o _ ⟨_,aa⟩;exact absurd aa (not_lt_zero _)
  .exact aj.frame (λb J=>hold b (h.eg b J)) _ _ _ (λb J=>hold b (da b J)) aE
 .rintro b (rfl|J)
  .simp
  .have:=da b J;simp;omega
 .rintro b (rfl|J) nV
  .exact Nat.lt_irrefl _ (h.eg _ nV)
  .exact a3 b J nV
 .rintro u b (rfl|J) hu
  .exact Nat.lt_irrefl _ (h.dw _ _ hu)
  .exact bB u b J hu
 .rintro b (rfl|J)
  .exact .inr h.size
  .exact bt b J
def j1 (C:bI) (T:TypeId):Option j:=if(C.T T).ok=true then(match(C.T T).k,(C.T T).zero with
    | .fb e,.agg [.cW,.aK]=>some (.cY (.gx T e []))
    | .fb _,_=>none
    |_,z=>(match flat z with|some _=>some (.aS z)|none=>none))else none
theorem Jc (a4:C.dx) (h:bg w0 F0 X F S s an w) {T:TypeId} (he:j1 C T=some av):Good C w0 F0 X an w (Instr.alloc T true (.tuple #[])) av s:=by
 unfold j1 at he;split at he
 .rename_i ak;split at he
  .rename_i T0 ku Jd;simp only[some.injEq]at he;subst he;obtain⟨i,d,z,aI,aR,aX,bT,cb,bH,bx⟩:=a4.info ak;have bC:=cb [.pointer none,.slice none 0 0] (by rw[Jd];rfl);have hold:∀b,b<w.heap.size->(w.alloc (.cells #[.pointer none,.slice none 0 0] T)).heap[b]? =w.heap[b]? :=by
    intro b J;show(w.heap.push _)[b]? =_;rw[Array.getElem?_push,if_neg (by omega)]
   refine⟨.pointer (some ⟨w.heap.size,0,none⟩),w.alloc (.cells #[.pointer none,.slice none 0 0] T),F,S,?_,h.grow hold (by simp) rfl rfl ⟨rfl,λ_=>Nat.le_refl _⟩,.inr ⟨rfl,rfl,λb=>b=w.heap.size,?_,?_,?_,?_,?_⟩⟩
   .simp[Instr.alloc,p6 aI bT,newVar,newRow,newObj,Sem.run,bC]
   .rw[aj];refine⟨w.heap.size,.pointer none,.slice none 0 0,rfl,rfl,?_,.inl rfl,.inl ⟨rfl,rfl⟩⟩;show(w.heap.push _)[_]? =_;simp
   .rintro b rfl;simp
   .rintro b rfl nV;exact Nat.lt_irrefl _ (h.eg _ nV)
   .rintro u b rfl hu;exact Nat.lt_irrefl _ (h.dw _ _ hu)
   .rintro b rfl;exact .inr h.size
  .cases he
  split at he
  .rename_i cs gD;simp only[some.injEq]at he;subst he;obtain⟨i,d,z,aI,aR,aX,bT,cb,bH,bx⟩:=a4.info ak;have bC:=cb cs gD;obtain⟨c5,bz⟩:=h.alloc (d:=(C.T T).zero) T ((aj.flat _).1 _ cs (λ_=>False) (Nat.le_refl _) gD) (λ_ h=>h.elim) (λ_ h=>h.elim) (λ_ _ h=>h.elim) (λ_ h=>h.elim);refine⟨_,_,F,S,?_,c5,bz⟩;simp[Instr.alloc,p6 aI bT,newVar,newRow,newObj,Sem.run,bC]
  .cases he
 .cases he
def g4 (s:af) (x:j):Option (j×af):=match cc s x with
 |some (.tuple _,_)=>none
 |some (d,s1)=>some (.aS d,s1)
 |none=>none
def hs (s:af) (x:j):Option (j×af):=match x with
 | .h y q=>match q,s y with
   |[],.agg ds=>if j.db ds then none else some (.J y 0,s)
   |_,_=>none
 | .fn f caps=>if caps.all (λd=>d.single&&(d.tree&&d.plain))=true then some (.ref (.fn f caps),s)else none
 |_=>none
theorem aQ.CQ {w:World} {F ba:Nat->Prop} {s:af} {an:Nat->Value} (a3:∀b,F b->ba b):∀(ds:Vr) (vs:Vp),(∀d∈ds,d.single=true/\d.tree=true/\d.plain=true)->cK w F s an ds vs->aQ w ba ds vs (λ_=>False)
 |[],vs,_,h=>by rw[cK]at h;rw[aQ];exact h
 |d::ds,vs,R,h=>by
  rw[cK]at h;obtain⟨v,ev,rfl,U,aa⟩:=h;obtain⟨d1,d2,d3⟩:=R d (by simp);have ax:=(az.b7 d2).1 U;have bk:Value.et v=true:=by
   have:=ax.1;cases d<;>first|exact this|cases d1
  have aP:=ax.2;rw[e5 bk]at aP;rw[aQ];exact⟨[v],ev,λ_=>False,λ_=>False,rfl,aj.mono a3 _ _ _ _ (λ_ h=>h) aP,aQ.CQ a3 ds ev (λx ae=>R x (by simp[ae])) aa,λ_ h=>h,λ_ h=>h,λ_ h=>h.elim⟩
theorem Je {T:TypeId} {v:Value} (h:bg w0 F0 X F S s an w):bg w0 F0 X (λb=>F b\/b=w.heap.size) S s an (w.alloc (.cells (bW v).toArray T)):=by
 have hold:∀b,b<w.heap.size->(w.alloc (.cells (bW v).toArray T)).heap[b]? =w.heap[b]? :=by
  intro b J;show(w.heap.push _)[b]? =_;rw[Array.getElem?_push,if_neg (by omega)]
 have U:=h.grow hold (by simp) rfl rfl ⟨rfl,λ_=>Nat.le_refl _⟩;exact {
  fl:=λb J=>.inl (U.fl b J)
  fA:=λb J=>by
   rcases J with J|rfl
   .exact U.fA b J
   .exact .inr (.inr h.size)
  eg:=λb J=>by
   rcases J with J|rfl
   .exact U.eg b J
   .simp
  dw:=U.dw
  ew:=λt b J bd=>by
   rcases bd with bd|rfl
   .exact U.ew t b J bd
   .exact absurd (h.dw t _ J) (Nat.lt_irrefl _)
  dS:=U.dS
  cU:=U.cU
  cG:=λt=>az.frame (λ_ _=>rfl) (λb J=>.inl J) (λ_ _ _=>rfl) U.cG _ _ _ (λ_ _=>rfl) (U.cG t)
  old:=U.old
  size:=U.size
  os:=U.os
  tape:=U.tape
  output:=U.output
  fB:=h.fB}
theorem Jf (h:bg w0 F0 X F S s an w) {T:TypeId} {x:j} {v:Value} (aE:az w F s an x v (λ_=>False)) (he:hs s x=some (av,s1)):
  Good C w0 F0 X an w (Instr.box T v) av s1:=by
 unfold hs at he;split at he
 .rename_i y q;split at he
  .rename_i ds kV;split at he
   .cases he
   .rename_i th;simp only[some.injEq,Prod.mk.injEq]at he;obtain⟨rfl,rfl⟩:=he;rw[az]at aE;obtain⟨b_,a,aL,a0,bK⟩:=aE (s y) (by simp only[j.sub]) (by rw[kV];simp only[j.plain];simpa using th);simp only[cy,some.injEq,Prod.mk.injEq,true_and]at aL;rw[kV]at bK;have ml:=ti bK (λal e=>by cases e);have hold:∀b,b<w.heap.size->(w.alloc (.cells (bW v).toArray T)).heap[b]? =w.heap[b]? :=by
     intro b J;show(w.heap.push _)[b]? =_;rw[Array.getElem?_push,if_neg (by omega)]
    refine⟨.pointer (some ⟨w.heap.size,0,none⟩),w.alloc (.cells (bW v).toArray T),λb=>F b\/b=w.heap.size,S,by simp[Instr.box,newVar,newRow,newObj,Sem.run,ml],?_,.inl ⟨rfl,?_⟩⟩
    .have U:=h.grow hold (by simp) rfl rfl ⟨rfl,λ_=>Nat.le_refl _⟩;exact {
      fl:=λb J=>.inl (U.fl b J)
      fA:=λb J=>by
       rcases J with J|rfl
       .exact U.fA b J
       .exact .inr (.inr h.size)
      eg:=λb J=>by
       rcases J with J|rfl
       .exact U.eg b J
       .simp
      dw:=U.dw
      ew:=λt b J bd=>by
       rcases bd with bd|rfl
       .exact U.ew t b J bd
       .exact absurd (h.dw t _ J) (Nat.lt_irrefl _)
      dS:=U.dS
      cU:=U.cU
      cG:=λt=>az.frame (λ_ _=>rfl) (λb J=>.inl J) (λ_ _ _=>rfl) U.cG _ _ _ (λ_ _=>rfl) (U.cG t)
      old:=U.old
      size:=U.size
      os:=U.os
      tape:=U.tape
      output:=U.output
      fB:=h.fB}
    .rw[az];intro _;refine⟨w.heap.size,(bW v).toArray,T,(0,0),rfl,.inr rfl,?_,?_⟩
     .show(w.heap.push _)[_]? =_;simp
     .rw[aL.1,<-a0]
  .cases he
 .rename_i f caps;split at he
  .rename_i ai;simp only[some.injEq,Prod.mk.injEq]at he;obtain⟨rfl,rfl⟩:=he;have gD:∀d∈caps,d.single=true/\d.tree=true/\d.plain=true:=λd ad=>by
    have:=List.all_eq_true.1 ai d ad;simpa only[Bool.and_eq_true]using this
   rw[az]at aE;obtain⟨arr,rfl,aE⟩:=aE;have ml:=ti (d:=.fn f caps) (v:=.func (.func f) #[] arr) rfl (λal e=>by cases e);have bm:=Je (T:=T) (v:=.func (.func f) #[] arr) h;refine⟨.pointer (some ⟨w.heap.size,0,none⟩),w.alloc (.cells (bW (.func (.func f) #[] arr)).toArray T),λb=>F b\/b=w.heap.size,S,by simp[Instr.box,newVar,newRow,newObj,Sem.run,ml],bm,.inl ⟨rfl,?_⟩⟩;refine(az.b7 rfl).2 ⟨rfl,?_⟩;rw[aj];refine⟨w.heap.size,0,[.func (.func f) #[] arr],rfl,.inr rfl,?_,?_⟩
   .have kq:(w.alloc (.cells (bW (.func (.func f) #[] arr)).toArray T)).heap[w.heap.size]? =some (.cells (bW (.func (.func f) #[] arr)).toArray T (0,0)):=by
     show(w.heap.push _)[_]? =_;simp
    intro aD c cn;cases aD with
    |zero=>
     simp only[getElem?_cons_zero,some.injEq]at cn;subst cn;have e:bW (.func (.func f) #[] arr)=[.func (.func f) #[] arr]:=e5 rfl;unfold World.cell?;show(match(w.alloc (.cells (bW (.func (.func f) #[] arr)).toArray T)).heap[w.heap.size]? with
      |some (.cells c _ _)=>c[0+0]?
      |_=>none)=_
     rw[kq,e];rfl
    |succ aD=>simp at cn
   .rw[aj];refine⟨arr,rfl,λd ad=>(gD d ad).1,?_⟩;have a9:=aQ.CQ (ba:=F) (λb J=>J) caps arr.toList gD aE;refine aQ.mono (F:=F) (λb J=>.inl J) caps _ _ _ (λ_ h=>h) (aQ.frame (λb J=>?_) caps _ _ (λ_ h=>h.elim) a9);have da:=h.eg b J;show(w.heap.push _)[b]? =_;rw[Array.getElem?_push,if_neg (by omega)]
  .cases he
 .cases he
theorem Jg (h:bg w0 F0 X F S s an w) {T:TypeId} {x:j} {v:Value} (ae:x.plain=true) (aE:az w F s an x v (λ_=>False)) (he:g4 s x=some (av,s1)):
  Good C w0 F0 X an w (Instr.box T v) av s1:=by
 unfold g4 at he;split at he
 .cases he
 .rename_i d s2 nS aO;simp only[some.injEq,Prod.mk.injEq]at he;obtain⟨rfl,rfl⟩:=he;obtain⟨bP,fg,aL,a0,Sn,bK,cF,dq,gk,hd,jB⟩:=na h ae aE aO;obtain⟨c5,bz⟩:=fg.alloc T bK cF dq gk hd;refine⟨_,_,F,bP,?_,c5,bz⟩;have ml:=ti a0 (λal e=>nS al e);simp[Instr.box,newVar,newRow,newObj,Sem.run,ml]
 .cases he
end
end Go.cV
