/- Part of a proof that a law returns true for every input. No condition. -/
import Derived.Test.YtcmimclaknmnbaaGreatDoorFwL
namespace Go.cC
open List Go.IntKind Nat Or
section
variable {C:bx} {w0 w aq:World} {F0 X F br:Nat->Prop} {S aJ:Nat->Nat->Prop} {n:Fr} {ρ:Nat->Value} {s aA:an} {au fJ:Nat->Value} {a:Act} {av:I} {Q:Exit->Act->World->Prop}
def dF (w:World) (F:Nat->Prop):anZ->anX->(Nat->Prop)->Prop
 |[],vs,_=>vs=[]
 |d::ds,vs,T=>∃v eW e0 fb,vs=v::eW/\(d.tree=true->c7 d v/\ar w F d (bZ v) e0)/\dF w F ds eW fb/\(∀b,e0 b->T b)/\(∀b,fb b->T b)/\∀b,e0 b->¬fb b
def I.gv (d:I):Bool:=d.tree||(match d with
 | .hole=>true
 |_=>false)
theorem aaB {d:I} {v:Value} {T:Nat->Prop} (h:d.gv=true) (aL:d.tree=true->c7 d v/\ar w F d (bZ v) T):aF w F s au d v T:=by
 cases ae:d.tree with
 |true=>exact(aF.b_ ae).2 (aL ae)
 |false=>
  cases d<;>first|(simp[I.tree]at ae;done)|(simp[I.gv,I.tree]at h;done)|(rw[aF];trivial)
theorem dF.mono {T xJ:Nat->Prop} (fK:∀b,T b->xJ b):∀{ds:anZ} {vs:anX},dF w F ds vs T->dF w F ds vs xJ
 |[],_,h=>h
 |d::ds,vs,⟨v,eW,e0,fb,h1,ab,ay,aT,bp,bX⟩=>⟨v,eW,e0,fb,h1,ab,ay,λb R=>fK b (aT b R),λb R=>fK b (bp b R),bX⟩
theorem dF.len {T:Nat->Prop}:∀{ds:anZ} {vs:anX},dF w F ds vs T->vs.length=ds.length
 |[],_,h=>by rw[dF]at h;subst h;rfl
 |d::ds,vs,⟨v,eW,e0,fb,h1,ab,ay,_⟩=>by subst h1;simp[ay.len]
theorem dF.append {T:Nat->Prop}:∀{ds es:anZ} {vs us:anX},vs.length=ds.length->dF w F (ds++es) (vs++us) T->∃e0 fb,dF w F ds vs e0/\dF w F es us fb/\(∀b,e0 b->T b)/\(∀b,fb b->T b)/\∀b,e0 b->¬fb b
 |[],es,vs,us,hl,h=>by
  have:vs=[]:=by simpa using hl
  subst this;exact⟨λ_=>False,T,rfl,h,λ_ h=>h.elim,λ_ h=>h,λ_ h=>h.elim⟩
 |d::ds,es,[],us,hl,h=>by simp at hl
 |d::ds,es,v::vs,us,hl,h=>by
  obtain⟨ek,eW,e0,fb,h1,ab,ay,aT,bp,bX⟩:=h;simp only[cons_append,cons.injEq]at h1;obtain⟨rfl,rfl⟩:=h1;obtain⟨D4,Iy,g1,g2,g3,g4,g5⟩:=dF.append (by simpa using hl) ay;refine⟨λb=>e0 b\/D4 b,Iy,⟨v,vs,e0,D4,rfl,ab,g1,λb R=>.inl R,λb R=>.inr R,λb R hu=>bX b R (g3 b hu)⟩,g2,?_,λb R=>bp b (g4 b R),?_⟩
  .rintro b (R|R)
   .exact aT b R
   .exact bp b (g3 b R)
  .rintro b (R|R) hu
   .exact bX b R (g4 b hu)
   .exact g5 b R hu
theorem dF.join {T e0 fb:Nat->Prop} (h1:∀b,e0 b->T b) (ab:∀b,fb b->T b) (ae:∀b,e0 b->¬fb b):∀{ds es:anZ} {vs us:anX},dF w F ds vs e0->dF w F es us fb->dF w F (ds++es) (vs++us) T
 |[],es,vs,us,h,hu=>by rw[dF]at h;subst h;exact hu.mono ab
 |d::ds,es,vs,us,⟨v,eW,D4,Iy,aI,aM,aP,bK,cg,bP⟩,hu=>by
  subst aI;refine⟨v,eW++us,D4,λb=>Iy b\/fb b,rfl,aM,dF.join (λb R=>.inl R) (λb R=>.inr R) (λb R=>ae b (cg b R)) aP hu,λb R=>h1 b (bK b R),?_,?_⟩
  .rintro b (R|R)
   .exact h1 b (cg b R)
   .exact ab b R
  .rintro b R (ai|ai)
   .exact bP b R ai
   .exact ae b (bK b R) ai
theorem bq.vX (h:bq w0 F0 X F S s au w):∀(ds:anZ) (vs:anX) (k:Nat),vs.length=ds.length->(∀i d v,ds[i]? =some d->vs[i]? =some v->s (k+i)=d/\au (k+i)=v)->dF w F ds vs (λb=>∃t,k<=t/\S t b)
 |[],vs,k,hl,_=>by simpa [dF]using hl
 |d::ds,[],k,hl,_=>by simp at hl
 |d::ds,v::vs,k,hl,U=>by
  obtain⟨aI,aM⟩:=U 0 d v rfl rfl;have ih:=h.vX ds vs (k+1) (by simpa using hl) λi bf ek ae aD=>by
   have:=U (i+1) bf ek (by simpa using ae) (by simpa using aD)
   rwa [show k+(i+1)=k+1+i by omega]at this
  refine⟨v,vs,S k,_,rfl,λaL=>?_,ih,λb R=>⟨k,Nat.le_refl _,R⟩,λb ⟨t,aL,R⟩=>⟨t,by omega,R⟩,λb R ⟨t,aL,ai⟩=>h.ev k t b (by omega) R ai⟩;have:=h.cD k;rw[Nat.add_zero]at aI aM;rw[aI,aM]at this;exact(aF.b_ aL).1 this
theorem dF.QM {T:Nat->Prop}:∀{ds:anZ} {vs:anX},dF w F ds vs T->∃aJ:Nat->Nat->Prop,(∀t b,aJ t b->T b)/\(∀t u b,t≠u->aJ t b->¬aJ u b)/\∀t,(eb ds t).tree=true->c7 (eb ds t) (fs vs t)/\ar w F (eb ds t) (bZ (fs vs t)) (aJ t)
 |[],_,h=>⟨λ_ _=>False,λ_ _ h=>h.elim,λ_ _ _ _ h=>h.elim,λt aL=>by simp[eb,I.tree]at aL⟩
 |d::ds,vs,⟨v,eW,e0,fb,aI,aM,aP,bK,cg,bP⟩=>by
  subst aI;obtain⟨aJ,g1,g2,g3⟩:=dF.QM aP;refine⟨λt=>match t with|0=>e0|t+1=>aJ t,λt b R=>?_,λt u b cI aL hu=>?_,λt aL=>?_⟩
  .cases t with
   |zero=>exact bK b R
   |succ t=>exact cg b (g1 t b R)
  .cases t with
   |zero=>
    cases u with
    |zero=>exact cI rfl
    |succ u=>exact bP b aL (g1 u b hu)
   |succ t=>
    cases u with
    |zero=>exact bP b hu (g1 t b aL)
    |succ u=>exact g2 t u b (by omega) aL hu
  .cases t with
   |zero=>exact aM aL
   |succ t=>exact g3 t aL
theorem bq.x5 (h:bq w0 F0 X F S s au w) {T:Nat->Prop} {ds:anZ} {vs:anX} (ax:dF w F ds vs T) (fK:∀b,T b->∃t,S t b) (A6:ds.all I.gv=true):∃aJ,bq w0 F0 X F aJ (eb ds) (fs vs) w:=by
 obtain⟨aJ,g1,g2,g3⟩:=ax.QM;refine⟨aJ,{
  fl:=h.fl
  fL:=h.fL
  dV:=h.dV
  dh:=λt b R=>by obtain⟨u,hu⟩:=fK b (g1 t b R);exact h.dh u b hu
  ep:=λt b R=>by obtain⟨u,hu⟩:=fK b (g1 t b R);exact h.ep u b hu
  ev:=g2
  cR:=λt b R=>by obtain⟨u,hu⟩:=fK b (g1 t b R);exact h.cR u b hu
  cD:=λt=>aaB (by
   unfold eb;rw[getD_eq_getElem?_getD];cases ae:ds[t]? with
   |none=>rfl
   |some d=>exact List.all_eq_true.1 A6 d (mem_of_getElem? ae)) (g3 t)
  old:=h.old
  size:=h.size
  os:=h.os
  tape:=h.tape
  output:=h.output
  e4:=h.e4}⟩
def dN:anZ->List (Option (FuncId×Nat))
 |[]=>[]
 | .bm g cs::r=>some (g,cs.length)::dN r
 |_::r=>none::dN r
def fF:anZ->anZ
 |[]=>[]
 | .bm _ cs::r=>cs++fF r
 |d::r=>d::fF r
def jj:anZ->Bool
 |[]=>true
 | .bm _ cs::r=>cs.all I.one&&jj r
 |_::r=>jj r
def pW:anZ->Bool
 |[]=>true
 | .bm _ cs::r=>cs.all I.tree&&pW r
 |_::r=>pW r
def mY:List (Option (FuncId×Nat))->anZ->Option anZ
 |[],[]=>some []
 |some (g,n)::sh,.fn jG cs::r=>if g=jG/\cs.length=n then(mY sh r).map (cs++·)else none
 |none::sh,a::r=>(mY sh r).map (a::·)
 |_,_=>none
inductive oB:List (Option (FuncId×Nat))->anX->anX->Prop
 |nil:oB [] [] []
 |one {sh:List (Option (FuncId×Nat))} {v:Value} {vs el:anX}:oB sh vs el->oB (none::sh) (v::vs) (v::el)
 |fn {sh:List (Option (FuncId×Nat))} {g:FuncId} {m:Nat} {arr:Array Value} {vs el:anX}:arr.size=m->oB sh vs el->oB (some (g,m)::sh) (.func (.func g) #[] arr::vs) (arr.toList++el)
def x6:List (Option (FuncId×Nat))->anX->Prop
 |[],_=>True
 |_::_,[]=>True
 |some _::sh,v::vs=>(∀g arr,v= .func (.func g) #[] arr->∀x∈arr.toList,Value.eJ x=true)/\x6 sh vs
 |none::sh,_::vs=>x6 sh vs
theorem QN {T:Nat->Prop}:∀(cs:anZ) (vs:anX),(∀c∈cs,c.one=true)->aW w F cs vs T->dF w F cs vs T/\∀x∈vs,Value.eJ x=true
 |[],vs,_,h=>by rw[aW]at h;subst h;exact⟨rfl,λx ag=>by cases ag⟩
 |c::cs,vs,h1,h=>by
  have QO:=aW.mP _ _ _ h;rw[aW]at h;obtain⟨c1,c2,bR,cH,rfl,J,a2,a3,a4,a5⟩:=h;have hl:=ar.length _ _ _ J;rw[Dr (h1 c (by simp))]at hl;obtain⟨v,rfl⟩:∃v,c1=[v]:=by
   match c1,hl with
   |[v],_=>exact⟨v,rfl⟩
  have aD:Value.eJ v=true:=QO v (by simp);refine⟨⟨v,c2,bR,cH,rfl,λ_=>⟨?_,by rw[e_ aD];exact J⟩,(QN cs c2 (λd ae=>h1 d (by simp[ae])) a2).1,a3,a4,a5⟩,QO⟩;have:=h1 c (by simp);cases c<;>first|exact aD|(simp[I.one]at this)
theorem QP {T:Nat->Prop}:∀(cs:anZ) (vs:anX),(∀c∈cs,c.one=true)->(∀c∈cs,c.gv=true)->(∀x∈vs,Value.eJ x=true)->dF w F cs vs T->aW w F cs vs T
 |[],vs,_,_,_,h=>by rw[dF]at h;subst h;rw[aW]
 |c::cs,vs,h1,ab,ay,⟨v,eW,e0,fb,aI,aM,aP,bK,cg,bP⟩=>by
  subst aI;rw[aW];have aD:Value.eJ v=true:=ay v (by simp);refine⟨[v],eW,e0,fb,rfl,?_,QP cs eW (λd ae=>h1 d (by simp[ae])) (λd ae=>ab d (by simp[ae])) (λx ag=>ay x (by simp[ag])) aP,bK,cg,bP⟩;cases aL:c.tree with
  |true=>rw[<-e_ aD];exact(aM aL).2
  |false=>
   have:=ab c (by simp);cases c<;>first|(simp[I.tree]at aL;done)|(simp[I.gv,I.tree]at this;done)|(rw[ar];exact⟨v,aD,rfl⟩)
theorem dF.A7:∀{sh:List (Option (FuncId×Nat))} {vs el:anX},oB sh vs el->∀{as:anZ} {T:Nat->Prop},dN as=sh->dF w F as vs T->dF w F (fF as) el T/\x6 sh vs
 |_,_,_,.nil,[],T,_,h=>⟨h,trivial⟩
 |_,_,_,.nil,a::as,T,he,h=>by cases a<;>simp[dN]at he
 |_,_,_,.one bc,[],T,he,h=>by simp[dN]at he
 |_,_,_,.one (sh:=x7) bc,a::as,T,he,h=>by
  obtain⟨ek,eW,e0,fb,aI,aM,aP,bK,cg,bP⟩:=h;simp only[cons.injEq]at aI;obtain⟨rfl,rfl⟩:=aI;have aN:(∀g cs,a≠.bm g cs)/\dN as=x7:=by
   cases a<;>simp[dN]at he<;>exact⟨(λ_ _ h=>by cases h),he⟩
  obtain⟨g1,g2⟩:=dF.A7 bc aN.2 aP;have ag:fF (a::as)=a::fF as:=by cases a<;>first|rfl|exact(aN.1 _ _ rfl).elim
  rw[ag];exact⟨⟨_,_,e0,fb,rfl,aM,g1,bK,cg,bP⟩,g2⟩
 |_,_,_,.fn hm bc,[],T,he,h=>by simp[dN]at he
 |_,_,_,.fn (g:=g) (arr:=arr) hm bc,a::as,T,he,h=>by
  obtain⟨ek,eW,e0,fb,aI,aM,aP,bK,cg,bP⟩:=h;simp only[cons.injEq]at aI;obtain⟨rfl,rfl⟩:=aI;cases a with
  |bm jG cs=>
   simp only[dN,cons.injEq,Option.some.injEq,Prod.mk.injEq]at he;obtain⟨⟨rfl,fZ⟩,he⟩:=he;obtain⟨g1,g2⟩:=dF.A7 bc he aP;obtain⟨_,eC⟩:=aM rfl;rw[ar]at eC;obtain⟨Of,bT,b2,dm⟩:=eC;have:Of=arr:=by simpa [bZ,gX]using bT.symm
   subst this;obtain⟨m1,m2⟩:=QN cs _ b2 dm;exact⟨dF.join bK cg bP m1 g1,λg3 aaC ay=>by cases ay;exact m2,g2⟩
  |_=>simp[dN]at he
theorem dF.A8:∀{sh:List (Option (FuncId×Nat))} {vs el:anX},oB sh vs el->∀{as:anZ} {T:Nat->Prop},dN as=sh->jj as=true->(fF as).all I.gv=true->x6 sh vs->dF w F (fF as) el T->dF w F as vs T
 |_,_,_,.nil,[],T,_,_,_,_,h=>h
 |_,_,_,.nil,a::as,T,he,_,_,_,h=>by cases a<;>simp[dN]at he
 |_,_,_,.one bc,[],T,he,_,_,_,h=>by simp[dN]at he
 |_,_,_,.one (sh:=x7) bc,a::as,T,he,h1,ab,ay,h=>by
  have aN:(∀g cs,a≠.bm g cs)/\dN as=x7:=by
   cases a<;>simp[dN]at he<;>exact⟨(λ_ _ h=>by cases h),he⟩
  have ag:fF (a::as)=a::fF as:=by cases a<;>first|rfl|exact(aN.1 _ _ rfl).elim
  have a1:jj (a::as)=jj as:=by cases a<;>first|rfl|exact(aN.1 _ _ rfl).elim
  rw[ag]at h ab;rw[a1]at h1;obtain⟨ek,eW,e0,fb,aI,aM,aP,bK,cg,bP⟩:=h;simp only[cons.injEq]at aI;obtain⟨rfl,rfl⟩:=aI;simp only[all_cons,Bool.and_eq_true]at ab;exact⟨_,_,e0,fb,rfl,aM,dF.A8 bc aN.2 h1 ab.2 ay aP,bK,cg,bP⟩
 |_,_,_,.fn hm bc,[],T,he,_,_,_,h=>by simp[dN]at he
 |_,_,_,.fn (g:=g) (arr:=arr) hm bc,a::as,T,he,h1,ab,ay,h=>by
  cases a with
  |bm jG cs=>
   simp only[dN,cons.injEq,Option.some.injEq,Prod.mk.injEq]at he;obtain⟨⟨rfl,fZ⟩,he⟩:=he;simp only[jj,Bool.and_eq_true,List.all_eq_true]at h1;simp only[fF,all_append,Bool.and_eq_true]at ab;obtain⟨e0,fb,g1,g2,g3,g4,g5⟩:=dF.append (by simp[fZ,hm]) h;have ax:=QP cs _ h1.1 (List.all_eq_true.1 ab.1) (ay.1 _ _ rfl) g1;refine⟨_,_,e0,fb,rfl,λ_=>⟨rfl,?_⟩,dF.A8 bc he h1.2 ab.2 ay.2 g2,g3,g4,g5⟩;rw[ar];exact⟨arr,by simp[bZ,gX],h1.1,ax⟩
  |_=>simp[dN]at he
theorem dF.mP:∀{sh:List (Option (FuncId×Nat))} {vs el:anX},oB sh vs el->∀{as:anZ} {T:Nat->Prop},dN as=sh->jj as=true->pW as=true->dF w F (fF as) el T->x6 sh vs
 |_,_,_,.nil,_,T,_,_,_,h=>trivial
 |_,_,_,.one bc,[],T,he,_,_,h=>by simp[dN]at he
 |_,_,_,.one (sh:=x7) bc,a::as,T,he,h1,ab,h=>by
  have aN:(∀g cs,a≠.bm g cs)/\dN as=x7:=by
   cases a<;>simp[dN]at he<;>exact⟨(λ_ _ h=>by cases h),he⟩
  have ag:fF (a::as)=a::fF as:=by cases a<;>first|rfl|exact(aN.1 _ _ rfl).elim
  have a1:jj (a::as)=jj as:=by cases a<;>first|rfl|exact(aN.1 _ _ rfl).elim
  have aL:pW (a::as)=pW as:=by cases a<;>first|rfl|exact(aN.1 _ _ rfl).elim
  rw[ag]at h;rw[a1]at h1;rw[aL]at ab;obtain⟨ek,eW,e0,fb,aI,aM,aP,bK,cg,bP⟩:=h;simp only[cons.injEq]at aI;obtain⟨rfl,rfl⟩:=aI;exact(dF.mP bc aN.2 h1 ab aP:x6 x7 _)
 |_,_,_,.fn hm bc,[],T,he,_,_,h=>by simp[dN]at he
 |_,_,_,.fn (g:=g) (arr:=arr) hm bc,a::as,T,he,h1,ab,h=>by
  cases a with
  |bm jG cs=>
   simp only[dN,cons.injEq,Option.some.injEq,Prod.mk.injEq]at he;obtain⟨⟨rfl,fZ⟩,he⟩:=he;simp only[jj,Bool.and_eq_true,List.all_eq_true]at h1;simp only[pW,Bool.and_eq_true,List.all_eq_true]at ab;obtain⟨e0,fb,g1,g2,g3,g4,g5⟩:=dF.append (by simp[fZ,hm]) h;refine⟨λg3 aaC ay=>?_,dF.mP bc he h1.2 ab.2 g2⟩;cases ay;have key:∀(cs:anZ) (vs:anX) (T:Nat->Prop),(∀c∈cs,c.one=true)->(∀c∈cs,c.tree=true)->dF w F cs vs T->∀x∈vs,Value.eJ x=true:=by
    intro cs;induction cs with
    |nil=>intro vs T _ _ h x ag;rw[dF]at h;subst h;cases ag
    |cons c cs ih=>
     intro vs T bT b2 h x ag;obtain⟨ek,eW,e0,fb,aI,aM,aP,bK,cg,bP⟩:=h;subst aI;rcases mem_cons.1 ag with rfl|ag
     .have U:=(aM (b2 c (by simp))).1;have a1:=bT c (by simp);cases c<;>first|exact U|(simp[I.one]at a1)
     .exact ih eW fb (λd ae=>bT d (by simp[ae])) (λd ae=>b2 d (by simp[ae])) aP x ag
   exact key cs _ e0 h1.1 ab.1 g1
  |_=>simp[dN]at he
theorem D5 {F:Nat->Prop}:∀{sh:List (Option (FuncId×Nat))} {ms aC:anZ} {vs:anX},mY sh ms=some aC->cV w F s au ms vs->∃el,oB sh vs el/\cV w F s au aC el
 |[],[],aC,vs,ag,h=>by
  simp only[mY,Option.some.injEq]at ag;subst ag;rw[cV]at h;subst h;exact⟨[],.nil,by rw[cV]⟩
 |[],m::ms,aC,vs,ag,h=>by simp[mY]at ag
 |none::sh,[],aC,vs,ag,h=>by simp[mY]at ag
 |some (g,k)::sh,[],aC,vs,ag,h=>by simp[mY]at ag
 |none::sh,m::ms,aC,vs,ag,h=>by
  simp only[mY,Option.map_eq_some_iff]at ag;obtain⟨aaD,ag,rfl⟩:=ag;rw[cV]at h;obtain⟨v,eW,rfl,h1,ab⟩:=h;obtain⟨el,g1,g2⟩:=D5 ag ab;exact⟨v::el,.one g1,by rw[cV];exact⟨v,el,rfl,h1,g2⟩⟩
 |some (g,k)::sh,m::ms,aC,vs,ag,h=>by
  cases m with
  |fn jG cs=>
   simp only[mY]at ag;split at ag
   .rename_i ai;obtain⟨rfl,rfl⟩:=ai;simp only[Option.map_eq_some_iff]at ag;obtain⟨aaD,ag,rfl⟩:=ag;rw[cV]at h;obtain⟨v,eW,rfl,h1,ab⟩:=h;rw[aF]at h1;obtain⟨arr,rfl,ay⟩:=h1;obtain⟨el,g1,g2⟩:=D5 ag ab;have hl:=(xI ay).1;exact⟨arr.toList++el,.fn (by simpa using hl.symm) g1,Ao ay g2⟩
   .cases ag
  |_=>simp[mY]at ag
def aaE (C:bx) (s:an) (f:aX) (args:List aX) (K:I->an->Prop):Prop:=
 ∃(g:FuncId) (caps as os:anZ) (ps:List b6) (r:I),a6 s f= .fn g caps/\I.dS (ps.map (·.a))=true/\mY (dN as) (args.map (a6 s)++caps)=some (ps.map (·.a))/\(∀p∈ps,p.ok s)/\gE ps=true/\
  aY C g as r os/\fF as=ps.map (·.d)/\dN os=dN as/\fF os=ps.map (·.o)/\(jj as&&pW as&&as.all I.gv&&(fF as).all I.gv&&(fF os).all I.gv)=true/\
  r.res=true/\(hx ps=true->r.ch=true/\∀p∈ps,p.g=true->p.o.ch=true)/\K r (fE (ea s ps) ps)
def aaF (C:bx) (s:an) (f:aX) (args:List aX) (K:I->an->Prop):Prop:=
 ∃(x:Nat) (q:anU) (g:FuncId) (caps cos:anZ) (ps:List b6) (r:I),a6 s f= .h x q/\I.sub q (s x)=some (.bm g caps)/\ps.map (·.a)=args.map (a6 s)/\
  (∀p∈ps++[⟨.h x q,true,.bm g caps,kL (.bm g caps) (.bm g cos)⟩],p.ok s)/\gE (ps++[⟨.h x q,true,.bm g caps,kL (.bm g caps) (.bm g cos)⟩])=true/\
  aY C g (ps.map (·.d)++caps) r (ps.map (·.o)++cos)/\cos.length=caps.length/\(cos.all I.one&&caps.all I.gv&&cos.all I.gv&&(ps.all λp=>p.d.gv&&p.o.gv&&(dN [p.d]==[none])&&(dN [p.o]==[none])))=true/\
  r.res=true/\(hx ps=true->r.ch=true/\(∀p∈ps,p.g=true->p.o.ch=true)/\I.gM cos=true)/\
  K r (fE (ea s (ps++[⟨.h x q,true,.bm g caps,kL (.bm g caps) (.bm g cos)⟩])) (ps++[⟨.h x q,true,.bm g caps,kL (.bm g caps) (.bm g cos)⟩]))
theorem D6:∀{ds:anZ},I.dS ds=true->∀d∈ds,d.plain=true
 |[],_,d,ae=>by cases ae
 |x::ds,h,d,ae=>by
  simp only[I.dS,Bool.and_eq_true]at h;rcases mem_cons.1 ae with rfl|ae
  .exact h.1
  .exact D6 h.2 d ae
theorem Iz {r:I} (h:r.res=true):r.gv=true:=by
 cases r<;>first|rfl|(simp[I.res]at h)
theorem x8 {T:Nat->Prop} {S:Nat->Nat->Prop} (h:∀b,T b->∃t,0<=t/\S t b):∀b,T b->∃t,S t b:=λb R=>by obtain⟨t,_,h⟩:=h b R;exact⟨t,h⟩
theorem x9 {ds:anZ} {vs:anX}:∀(i:Nat) (d:I) (v:Value),ds[i]? =some d->vs[i]? =some v->eb ds (0+i)=d/\fs vs (0+i)=v:=by
 intro i d v ae aD;rw[Nat.zero_add];simp[eb,fs,getD_eq_getElem?_getD,ae,aD]
theorem aaG (ax:bq w0 F0 X F S s au w) {g:FuncId} {ms as os:anZ} {ps:List b6} {r:I} {vm:anX} (hm:cV w F s au ms vm)
  (eA:I.dS (ps.map (·.a))=true) (ag:mY (dN as) ms=some (ps.map (·.a))) (ay:∀p∈ps,p.ok s) (aT:gE ps=true)
  (bp:aY C g as r os) (aI:fF as=ps.map (·.d)) (aM:dN os=dN as) (aP:fF os=ps.map (·.o)) (ai:(jj as&&pW as&&as.all I.gv&&(fF as).all I.gv&&(fF os).all I.gv)=true)
  (bX:r.res=true) (bM:hx ps=true->r.ch=true/\∀p∈ps,p.g=true->p.o.ch=true):
  kn C.P g vm.toArray w λv aq=>∃br aJ,bq w0 F0 X br aJ (fE (ea s ps) ps) au aq/\j5 w0 X br aJ (fE (ea s ps) ps) au aq r v/\∀b,F b->br b/\aq.heap[b]? =w.heap[b]? :=by
 simp only[Bool.and_eq_true]at ai;obtain⟨⟨⟨⟨c1,c2⟩,c3⟩,c4⟩,c5⟩:=ai;obtain⟨el,bc,U⟩:=D5 ag hm;obtain⟨en,l2⟩:=xI U;refine Ds (vm:=vm) (vs:=el) (os:=ps.map (·.o)) ax (by simpa using en) (λi p al=>⟨p.o,by simp[al],.inl rfl⟩)
  (λi p v al aD=>⟨D6 eA p.a (mem_map.2 ⟨p,mem_of_getElem? al,rfl⟩),l2 i p.a v (by simp[al]) aD⟩) ay aT ?_ bX
  (λhle=>⟨(bM hle).1,λi p o al a1 hg=>by
   rw[getElem?_map,al]at a1;have:=Option.some.inj a1;subst this;exact(bM hle).2 p (mem_of_getElem? al) hg⟩)
 intro Fc jg dI a8 iQ al;have hl:el.length=(ps.map (·.d)).length:=by simpa using en.symm
 have cY:=al.vX (ps.map (·.d)) el 0 hl x9;rw[<-aI]at cY;have jw:=dF.mP bc rfl c1 c2 cY;have bl:=dF.A8 bc rfl c1 c4 jw cY;obtain⟨cH,cz⟩:=al.x5 bl (x8 λb R=>R) c3;have hlen:vm.length=as.length:=bl.len;refine kn.mono (bp w Fc jg cH vm hlen ?_) ?_
 .exact {
   fl:=cz.fl
   fL:=cz.fL
   dV:=cz.dV
   dh:=cz.dh
   ep:=cz.ep
   ev:=cz.ev
   cR:=cz.cR
   cD:=cz.cD
   old:=cz.old
   size:=cz.size
   os:=cz.os
   tape:=cz.tape
   output:=cz.output
   e4:=cz.e4}
 .rintro v aq ⟨br,aJ,h⟩;have lb:(v::vm).length=(r::os).length:=by
   have:os.length=as.length:=by
    have U:∀(xs:anZ),(dN xs).length=xs.length:=by
     intro xs;induction xs with
     |nil=>rfl
     |cons x xs ih=>cases x<;>simp[dN,ih]
    rw[<-U os,aM,U as]
   simp[hlen,this]
  have eH:=h.vX (r::os) (v::vm) 0 lb x9;obtain⟨ek,eW,e0,fb,oA,z2,z3,z4,z5,A9⟩:=eH;simp only[cons.injEq]at oA;obtain⟨rfl,rfl⟩:=oA;obtain⟨eB,_⟩:=dF.A7 bc aM z3;rw[aP]at eB;have gD:dF aq br (r::ps.map (·.o)) (v::el) (λb=>∃t,0<=t/\aJ t b):=⟨v,el,e0,fb,rfl,z2,eB,z4,z5,A9⟩
  obtain⟨kH,gK⟩:=h.x5 gD (x8 λb R=>R) (by simp only[all_cons,Iz bX,Bool.true_and];rw[<-aP];exact c5);exact⟨br,kH,gK⟩
theorem IA:∀{ds:anZ},(∀d∈ds,dN [d]=[none])->dN ds=replicate ds.length none/\fF ds=ds/\jj ds=true
 |[],_=>⟨rfl,rfl,rfl⟩
 |d::ds,h=>by
  obtain⟨h1,ab,ay⟩:=IA (ds:=ds) λx ag=>h x (by simp[ag]);have:=h d (by simp);cases d<;>simp[dN]at this<;>simp[dN,fF,jj,h1,ab,ay,replicate_succ]
theorem x_:∀(ds es:anZ),dN (ds++es)=dN ds++dN es/\fF (ds++es)=fF ds++fF es/\jj (ds++es)=(jj ds&&jj es)
 |[],es=>⟨rfl,rfl,by simp[jj]⟩
 |d::ds,es=>by
  obtain⟨h1,ab,ay⟩:=x_ ds es;cases d<;>simp[dN,fF,jj,h1,ab,ay,Bool.and_assoc]
theorem QQ:∀{k:Nat} {vs:anX},vs.length=k->∀{sh:List (Option (FuncId×Nat))} {us QR:anX},oB sh us QR->oB (replicate k none++sh) (vs++us) (vs++QR)
 |0,[],_,_,_,_,h=>h
 |k+1,v::vs,hl,_,_,_,h=>by
  rw[replicate_succ];exact .one (QQ (by simpa using hl) h)
 |0,_::_,hl,_,_,_,_=>by simp at hl
 |_+1,[],hl,_,_,_,_=>by simp at hl
theorem aaH (ax:bq w0 F0 X F S s au w) {x:Nat} {q:anU} {g:FuncId} {caps cos:anZ} {ps:List b6} {r:I} {vs:anX} {ue:Value} (hm:cV w F s au (ps.map (·.a)) vs) (aaI:I.dS (ps.map (·.a))=true)
  (aD:aF w F s au (.h x q) ue (λ_=>False)) (ca:I.sub q (s x)=some (.bm g caps))
  (ay:∀p∈ps++[⟨.h x q,true,.bm g caps,kL (.bm g caps) (.bm g cos)⟩],p.ok s) (aT:gE (ps++[⟨.h x q,true,.bm g caps,kL (.bm g caps) (.bm g cos)⟩])=true)
  (bp:aY C g (ps.map (·.d)++caps) r (ps.map (·.o)++cos)) (nM:cos.length=caps.length)
  (ai:(cos.all I.one&&caps.all I.gv&&cos.all I.gv&&(ps.all λp=>p.d.gv&&p.o.gv&&(dN [p.d]==[none])&&(dN [p.o]==[none])))=true)
  (bX:r.res=true) (bM:hx ps=true->r.ch=true/\(∀p∈ps,p.g=true->p.o.ch=true)/\I.gM cos=true):
  ∃arr:Array Value,ue= .func (.func g) #[] arr/\kn C.P g (vs++arr.toList).toArray w λv aq=>∃br aJ,
   bq w0 F0 X br aJ (fE (ea s (ps++[⟨.h x q,true,.bm g caps,kL (.bm g caps) (.bm g cos)⟩])) (ps++[⟨.h x q,true,.bm g caps,kL (.bm g caps) (.bm g cos)⟩])) au aq/\
   j5 w0 X br aJ (fE (ea s (ps++[⟨.h x q,true,.bm g caps,kL (.bm g caps) (.bm g cos)⟩])) (ps++[⟨.h x q,true,.bm g caps,kL (.bm g caps) (.bm g cos)⟩])) au aq r v/\∀b,F b->br b/\aq.heap[b]? =w.heap[b]? :=by
 simp only[Bool.and_eq_true,List.all_eq_true,beq_iff_eq]at ai;obtain⟨⟨⟨c1,c2⟩,c3⟩,c4⟩:=ai;have kI:=aD;rw[aF]at kI;obtain⟨cx,bN,f1,f2,f3⟩:=kI _ ca rfl;have aL:=hL ca (.inl rfl);obtain⟨fI,a2,dI,fg,k0,bT,b2,dm,de,e5⟩:=ctx q (s x) (bZ (au x)) (S x) none _ ((aF.b_ aL).1 (ax.cD x)).2 ca;rw[f1]at k0;simp only[Option.some.injEq,Prod.mk.injEq,true_and]at k0;obtain⟨rfl,rfl⟩:=k0;rw[ar]at de;obtain⟨arr,g1,g2,g3⟩:=de;have aaJ:Value.eJ ue=true:=f3;have QS:ue= .func (.func g) #[] arr:=by
  rw[g1,e_ aaJ]at f2;simpa using f2
 refine⟨arr,QS,?_⟩;obtain⟨en,l2⟩:=xI hm;have tS:∀d∈ps.map (·.d),dN [d]=[none]:=λd ae=>by obtain⟨p,al,rfl⟩:=mem_map.1 ae;exact(c4 p al).1.2
 have iR:∀d∈ps.map (·.o),dN [d]=[none]:=λd ae=>by obtain⟨p,al,rfl⟩:=mem_map.1 ae;exact(c4 p al).2
 obtain⟨jW,bY,fS⟩:=IA tS;obtain⟨m1,m2,m3⟩:=IA iR;have jT:vs.length=ps.length:=by simpa using en.symm
 have qA:arr.toList.length=caps.length:=by
  have h1:=aW.length _ _ _ g3;have:∀(cs:anZ),(∀c∈cs,c.one=true)->I.dR cs=cs.length:=by
   intro cs;induction cs with
   |nil=>intro _;rfl
   |cons c cs ih=>intro h;simp only[I.dR,length_cons];rw[Dr (h c (by simp)),ih λd ae=>h d (by simp[ae])];omega
  rw[h1,this caps g2]
 have QT:∀k,k=ps.length->oB (replicate k none++[some (g,caps.length)]) (vs++[ue]) (vs++arr.toList):=by
  rintro k rfl;refine QQ jT ?_;rw[QS];have:=oB.fn (g:=g) (arr:=arr) (m:=caps.length) (by simpa using qA) oB.nil;simpa using this
 refine Ds (vm:=vs++arr.toList) (vs:=vs++[ue]) (os:=ps.map (·.o)++[.bm g cos]) ax (by simp[jT]) ?_ ?_ ay aT ?_ bX ?_
 .intro i p al;rcases Nat.lt_or_ge i ps.length with ak|ak
  .rw[getElem?_append_left ak]at al;exact⟨p.o,by rw[getElem?_append_left (by simpa using ak)];simp[al],.inl rfl⟩
  .rw[getElem?_append_right ak]at al;have bC:i-ps.length=0:=by
    have:=(List.getElem?_eq_some_iff.1 al).1;simp at this;omega
   rw[bC]at al;simp only[getElem?_cons_zero,Option.some.injEq]at al;subst al;exact⟨.bm g cos,by rw[getElem?_append_right (by simpa using ak)];simp[bC],.inr rfl⟩
 .intro i p v al uf;rcases Nat.lt_or_ge i ps.length with ak|ak
  .rw[getElem?_append_left ak]at al;rw[getElem?_append_left (by omega)]at uf;exact⟨D6 aaI p.a (mem_map.2 ⟨p,mem_of_getElem? al,rfl⟩),l2 i p.a v (by simp[al]) uf⟩
  .rw[getElem?_append_right ak]at al;rw[getElem?_append_right (by omega),jT]at uf;have bC:i-ps.length=0:=by
    have:=(List.getElem?_eq_some_iff.1 al).1;simp at this;omega
   rw[bC]at al uf;simp only[getElem?_cons_zero,Option.some.injEq]at al uf;subst al;subst uf;exact⟨rfl,aD⟩
 .intro Fc jg dI a8 iQ al;have aI:(ps++[(⟨.h x q,true,.bm g caps,kL (.bm g caps) (.bm g cos)⟩:b6)]).map (·.d)=ps.map (·.d)++[.bm g caps]:=by simp
  rw[aI]at al;have cY:=al.vX (ps.map (·.d)++[.bm g caps]) (vs++[ue]) 0 (by simp[jT]) x9;have k_:dN (ps.map (·.d)++[.bm g caps])=replicate ps.length none++[some (g,caps.length)]:=by rw[(x_ _ _).1,jW];simp[dN]
  have aaK:fF (ps.map (·.d)++[.bm g caps])=ps.map (·.d)++caps:=by rw[(x_ _ _).2.1,bY];simp[fF]
  obtain⟨bl,jw⟩:=dF.A7 (QT _ rfl) k_ cY;rw[aaK]at bl;obtain⟨cH,cz⟩:=al.x5 bl (x8 λb R=>R) (by
   simp only[all_append,Bool.and_eq_true,List.all_eq_true];exact⟨λd ae=>by obtain⟨p,al,rfl⟩:=mem_map.1 ae;exact(c4 p al).1.1.1,c2⟩)
  refine kn.mono (bp w Fc jg cH (vs++arr.toList) bl.len cz) ?_;rintro v aq ⟨br,aJ,h⟩;have eH:=h.vX (r::(ps.map (·.o)++cos)) (v::(vs++arr.toList)) 0 (by simp[jT,qA,nM]) x9;obtain⟨ek,eW,e0,fb,oA,z2,z3,z4,z5,A9⟩:=eH;simp only[cons.injEq]at oA;obtain⟨rfl,rfl⟩:=oA;have bH:dN (ps.map (·.o)++[.bm g cos])=replicate ps.length none++[some (g,caps.length)]:=by rw[(x_ _ _).1,m1];simp[dN,nM]
  have QU:fF (ps.map (·.o)++[.bm g cos])=ps.map (·.o)++cos:=by rw[(x_ _ _).2.1,m2];simp[fF]
  have aaL:jj (ps.map (·.o)++[.bm g cos])=true:=by
   rw[(x_ _ _).2.2,m3];simp only[Bool.true_and,jj,Bool.and_true,List.all_eq_true];exact c1
  have A6:(ps.map (·.o)).all I.gv=true/\cos.all I.gv=true:=by
   simp only[List.all_eq_true];exact⟨λd ae=>by obtain⟨p,al,rfl⟩:=mem_map.1 ae;exact(c4 p al).1.1.2,c3⟩
  have eB:=dF.A8 (QT _ rfl) bH aaL (by rw[QU,all_append,A6.1,A6.2];rfl) jw (by rw[QU];exact z3);have gD:dF aq br (r::(ps.map (·.o)++[.bm g cos])) (v::(vs++[ue])) (λb=>∃t,0<=t/\aJ t b):=⟨v,_,e0,fb,rfl,z2,eB,z4,z5,A9⟩
  obtain⟨kH,gK⟩:=h.x5 gD (x8 λb R=>R) (by simp only[all_cons,all_append,Iz bX,A6.1,Bool.true_and,all_nil,Bool.and_true];rfl);exact⟨br,kH,gK⟩
 .intro hle;have aaM:hx ps=true:=by
   simp only[hx,List.any_eq_true]at hle⊢;obtain⟨p,al,h⟩:=hle;rcases mem_append.1 al with al|al
   .exact⟨p,al,h⟩
   .simp only[mem_cons,not_mem_nil,or_false]at al;subst al;simp at h
  obtain⟨f_,iW,ya⟩:=bM aaM;refine⟨f_,λi p o al a1 hg=>?_⟩;rcases Nat.lt_or_ge i ps.length with ak|ak
  .rw[getElem?_append_left ak]at al;rw[getElem?_append_left (by simpa using ak),getElem?_map,al]at a1;have:=Option.some.inj a1;subst this;exact iW p (mem_of_getElem? al) hg
  .rw[getElem?_append_right (by simpa using ak)]at a1;have bC:i-(ps.map (·.o)).length=0:=by
    have:=(List.getElem?_eq_some_iff.1 a1).1;simp at this⊢;omega
   rw[bC]at a1;have:=Option.some.inj a1;subst this;simpa [I.ch]using ya
def IB:I->Bool
 | .bm _ _=>true
 |_=>false
def rW:List Bool->anZ->anZ
 |true::bs,.h x _::as=>.R x 0::rW bs as
 |_::bs,a::as=>a::rW bs as
 |_,as=>as
def oC:List Bool->anZ->anZ
 |true::bs,d::ds=>.cX d::oC bs ds
 |false::bs,d::ds=>d::oC bs ds
 |_,ds=>ds
def qG:List Bool->List b6->Bool
 |true::bs,p::ps=>(p.g&&(match p.a with| .h _ []=>true|_=>false)&&IB p.d&&IB p.o)&&qG bs ps
 |false::bs,_::ps=>qG bs ps
 |_,_=>true
inductive oD (w:World) (F:Nat->Prop):List Bool->anX->anX->Prop
 |nil {vs:anX}:oD w F [] vs vs
 |out {bs:List Bool}:oD w F bs [] []
 |no {bs:List Bool} {v:Value} {vs us:anX}:oD w F bs vs us->oD w F (false::bs) (v::vs) (v::us)
 |yes {bs:List Bool} {b:Nat} {v:Value} {e:TypeId} {fr:Nat×Nat} {vs us:anX}:F b->w.heap[b]? =some (.cells #[v] e fr)->Value.eJ v=true->oD w F bs vs us->
   oD w F (true::bs) (v::vs) (.pointer (some ⟨b,0,none⟩)::us)
theorem IC {d:I} (h:IB d=true):∃g c,d= .bm g c:=by
 cases d with
 |bm g c=>exact⟨g,c,rfl⟩
 |_=>cases h
theorem oD.mono {w aq:World} {F br:Nat->Prop} (a8:∀b,F b->br b/\aq.heap[b]? =w.heap[b]?):∀{bs:List Bool} {vs us:anX},oD w F bs vs us->oD aq br bs vs us
 |_,_,_,.nil=>.nil
 |_,_,_,.out=>.out
 |_,_,_,.no h=>.no (oD.mono a8 h)
 |_,_,_,.yes h1 ab ay h=>.yes (a8 _ h1).1 ((a8 _ h1).2.trans ab) ay (oD.mono a8 h)
theorem QV:∀bs:List Bool,oC bs []=[]
 |[]=>rfl
 |true::_=>rfl
 |false::_=>rfl
theorem aaN:∀(bs:List Bool) (d:I) (ds:anZ),∃e es,oC bs (d::ds)=e::es
 |[],d,ds=>⟨d,ds,rfl⟩
 |true::bs,d,ds=>⟨_,_,rfl⟩
 |false::bs,d,ds=>⟨_,_,rfl⟩
theorem dF.box:∀{bs:List Bool} {vs us:anX},oD w F bs vs us->∀{ps:List b6} {T:Nat->Prop},qG bs ps=true->dF w F (ps.map (·.d)) vs T->dF w F (oC bs (ps.map (·.d))) us T
 |_,_,_,.nil,ps,T,_,h=>by simpa [oC]using h
 |_,_,_,.out (bs:=bs),[],T,_,h=>by rw[map_nil,QV];exact h
 |_,_,_,.out,p::ps,T,_,h=>by
  obtain⟨ek,eW,e0,fb,aI,_⟩:=h;exact absurd aI (by simp)
 |_,_,_,.no R,[],T,_,h=>by cases(show _=([]:anX)from h)
 |_,_,_,.no R,p::ps,T,hk,h=>by
  obtain⟨ek,eW,e0,fb,aI,aM,aP,bK,cg,bP⟩:=h;simp only[cons.injEq]at aI;obtain⟨rfl,rfl⟩:=aI;exact⟨_,_,e0,fb,rfl,aM,dF.box R hk aP,bK,cg,bP⟩
 |_,_,_,.yes h1 ab ay R,[],T,_,h=>by cases(show _=([]:anX)from h)
 |_,_,_,.yes (b:=b) (e:=e) (fr:=fr) h1 ab ay R,p::ps,T,hk,h=>by
  obtain⟨ek,eW,e0,fb,aI,aM,aP,bK,cg,bP⟩:=h;simp only[cons.injEq]at aI;obtain⟨rfl,rfl⟩:=aI;simp only[qG,Bool.and_eq_true]at hk;obtain⟨g,c,ae⟩:=IC hk.1.1.2;have Dk:=aM (by simp only[ae];rfl);rw[e_ ay]at Dk;refine⟨_,_,e0,fb,rfl,λ_=>⟨rfl,?_⟩,dF.box R hk.2 aP,bK,cg,bP⟩;rw[e_ rfl,ar];exact⟨b,_,e,fr,rfl,h1,ab,Dk.2⟩
theorem dF.unbox:∀{bs:List Bool} {vs us:anX},oD w F bs vs us->∀{ps:List b6} {T:Nat->Prop},qG bs ps=true->dF w F (oC bs (ps.map (·.o))) us T->dF w F (ps.map (·.o)) vs T
 |_,_,_,.nil,ps,T,_,h=>by simpa [oC]using h
 |_,_,_,.out (bs:=bs),[],T,_,h=>by rw[map_nil,QV]at h;exact h
 |_,_,_,.out (bs:=bs),p::ps,T,_,h=>by
  obtain⟨d,ds,ae⟩:=aaN bs p.o (ps.map (·.o));rw[map_cons,ae]at h;obtain⟨ek,eW,e0,fb,aI,_⟩:=h;exact absurd aI (by simp)
 |_,_,_,.no R,[],T,_,h=>by cases(show _=([]:anX)from h)
 |_,_,_,.no R,p::ps,T,hk,h=>by
  obtain⟨ek,eW,e0,fb,aI,aM,aP,bK,cg,bP⟩:=h;simp only[cons.injEq]at aI;obtain⟨rfl,rfl⟩:=aI;exact⟨_,_,e0,fb,rfl,aM,dF.unbox R hk aP,bK,cg,bP⟩
 |_,_,_,.yes h1 ab ay R,[],T,_,h=>by cases(show _=([]:anX)from h)
 |_,_,_,.yes (b:=b) (v:=v0) (e:=e) (fr:=fr) h1 ab ay R,p::ps,T,hk,h=>by
  obtain⟨ek,eW,e0,fb,aI,aM,aP,bK,cg,bP⟩:=h;simp only[cons.injEq]at aI;obtain⟨rfl,rfl⟩:=aI;simp only[qG,Bool.and_eq_true]at hk;obtain⟨g,c,ae⟩:=IC hk.1.2;obtain⟨_,q⟩:=aM rfl;rw[e_ rfl,ar]at q;obtain⟨e8,ek,gC,CU,eH,eB,gD,gK⟩:=q;simp only[cons.injEq,Value.pointer.injEq,Option.some.injEq,and_true]at eH;injection eH with eH _ _;subst eH;rw[ab]at gD;simp only[Option.some.injEq,Obj.cells.injEq]at gD;have aD:ek=v0:=by
   have:=gD.1;simpa using this.symm
  subst aD;exact⟨_,_,e0,fb,rfl,λ_=>⟨by show c7 p.o _;rw[ae];exact ay,by rw[e_ ay];exact gK⟩,dF.unbox R hk.2 aP,bK,cg,bP⟩
theorem ID (ax:bq w0 F0 X F S s au w):∀{bs:List Bool} {ps:List b6} {us:anX},qG bs ps=true->(∀p∈ps,p.ok s)->cV w F s au (rW bs (ps.map (·.a))) us->
  ∃vs,oD w F bs vs us/\cV w F s au (ps.map (·.a)) vs
 |[],ps,us,_,_,h=>⟨us,.nil,by cases ps<;>simpa [rW]using h⟩
 |b::bs,[],us,_,_,h=>by
  have:us=[]:=by cases b<;>simpa [rW,cV]using h
  subst this;exact⟨[],.out,by rw[map_nil,cV]⟩
 |false::bs,p::ps,us,hk,a1,h=>by
  simp only[map_cons,rW]at h;rw[cV]at h;obtain⟨v,aaO,rfl,h1,ab⟩:=h;obtain⟨vs,g1,g2⟩:=ID ax (bs:=bs) (ps:=ps) hk (λq ca=>a1 q (by simp[ca])) ab;exact⟨v::vs,.no g1,by rw[map_cons,cV];exact⟨v,vs,rfl,h1,g2⟩⟩
 |true::bs,p::ps,us,hk,a1,h=>by
  simp only[qG,Bool.and_eq_true]at hk;obtain⟨⟨⟨⟨bT,b2⟩,dm⟩,de⟩,e5⟩:=hk;obtain⟨a,amC,d,o⟩:=p;simp only at bT b2 dm de;subst bT;have aaP:∃x,a= .h x []:=by
   cases a with
   |h x q=>cases q with
    |nil=>exact⟨x,rfl⟩
    |cons _ _=>cases b2
   |_=>cases b2
  obtain⟨x,rfl⟩:=aaP;have al:=a1 _ (mem_cons_self ..);simp only[b6.ok,if_true,I.sub,Option.some.injEq]at al;obtain⟨g,c,rfl⟩:=IC dm;have tO:s x= .bm g c:=al.1;simp only[map_cons,rW]at h;rw[cV]at h;obtain⟨v,aaO,rfl,h1,ab⟩:=h;obtain⟨vs,g1,g2⟩:=ID ax (bs:=bs) (ps:=ps) e5 (λq ca=>a1 q (by simp[ca])) ab;rw[aF]at h1;obtain⟨b,cur,e,fr,rfl,oA,z2,z3⟩:=h1 (by rw[tO];rfl);have ag:=(aF.b_ (by rw[tO];rfl)).1 (ax.cD x);rw[tO]at ag;have jw:Value.eJ (au x)=true:=ag.1;rw[e_ jw]at z3;have k5:cur= #[au x]:=by apply Array.ext';simpa using z3
  subst k5;refine⟨au x::vs,.yes oA z2 jw g1,?_⟩;rw[map_cons,cV];refine⟨au x,vs,rfl,?_,g2⟩;rw[aF];intro bf gq _;simp only[I.sub,Option.some.injEq]at gq;subst gq;exact⟨_,none,rfl,rfl,by rw[tO];exact ag.1⟩
theorem aaQ (ax:bq w0 F0 X F S s au w) {g:FuncId} {ms as os:anZ} {ps:List b6} {bs:List Bool} {r:I} {vm:anX} (hm:cV w F s au ms vm)
  (eA:I.dS (ps.map (·.a))=true) (ag:mY (dN as) ms=some (rW bs (ps.map (·.a)))) (hk:qG bs ps=true) (ay:∀p∈ps,p.ok s) (aT:gE ps=true)
  (bp:aY C g as r os) (aI:fF as=oC bs (ps.map (·.d))) (aM:dN os=dN as) (aP:fF os=oC bs (ps.map (·.o))) (ai:(jj as&&pW as&&as.all I.gv&&(fF as).all I.gv&&(ps.map (·.o)).all I.gv)=true)
  (bX:r.res=true) (bM:hx ps=true->r.ch=true/\∀p∈ps,p.g=true->p.o.ch=true):
  kn C.P g vm.toArray w λv aq=>∃br aJ,bq w0 F0 X br aJ (fE (ea s ps) ps) au aq/\j5 w0 X br aJ (fE (ea s ps) ps) au aq r v/\∀b,F b->br b/\aq.heap[b]? =w.heap[b]? :=by
 simp only[Bool.and_eq_true]at ai;obtain⟨⟨⟨⟨c1,c2⟩,c3⟩,c4⟩,c5⟩:=ai;obtain⟨el,bc,ir⟩:=D5 ag hm;obtain⟨hs,rA,U⟩:=ID ax hk ay ir;obtain⟨en,l2⟩:=xI U;refine Ds (vm:=vm) (vs:=hs) (os:=ps.map (·.o)) ax (by simpa using en) (λi p al=>⟨p.o,by simp[al],.inl rfl⟩)
  (λi p v al aD=>⟨D6 eA p.a (mem_map.2 ⟨p,mem_of_getElem? al,rfl⟩),l2 i p.a v (by simp[al]) aD⟩) ay aT ?_ bX
  (λhle=>⟨(bM hle).1,λi p o al a1 hg=>by
   rw[getElem?_map,al]at a1;have:=Option.some.inj a1;subst this;exact(bM hle).2 p (mem_of_getElem? al) hg⟩)
 intro Fc jg dI a8 iQ al;have hl:hs.length=(ps.map (·.d)).length:=by simpa using en.symm
 have cY:=dF.box (rA.mono (aq:=w) λb R=>⟨a8 b R,rfl⟩) hk (al.vX (ps.map (·.d)) hs 0 hl x9);rw[<-aI]at cY;have jw:=dF.mP bc rfl c1 c2 cY;have bl:=dF.A8 bc rfl c1 c4 jw cY;obtain⟨cH,cz⟩:=al.x5 bl (x8 λb R=>R) c3;have hlen:vm.length=as.length:=bl.len;refine kn.mono (bp w Fc jg cH vm hlen ?_) ?_
 .exact {
   fl:=cz.fl
   fL:=cz.fL
   dV:=cz.dV
   dh:=cz.dh
   ep:=cz.ep
   ev:=cz.ev
   cR:=cz.cR
   cD:=cz.cD
   old:=cz.old
   size:=cz.size
   os:=cz.os
   tape:=cz.tape
   output:=cz.output
   e4:=cz.e4}
 .rintro v aq ⟨br,aJ,h⟩;have lb:(v::vm).length=(r::os).length:=by
   have:os.length=as.length:=by
    have U:∀(xs:anZ),(dN xs).length=xs.length:=by
     intro xs;induction xs with
     |nil=>rfl
     |cons x xs ih=>cases x<;>simp[dN,ih]
    rw[<-U os,aM,U as]
   simp[hlen,this]
  have eH:=h.vX (r::os) (v::vm) 0 lb x9;obtain⟨ek,eW,e0,fb,oA,z2,z3,z4,z5,A9⟩:=eH;simp only[cons.injEq]at oA;obtain⟨rfl,rfl⟩:=oA;obtain⟨eB,_⟩:=dF.A7 bc aM z3;rw[aP]at eB;have eB:=dF.unbox (rA.mono (aq:=aq) λb R=>⟨h.fl b (a8 b R),h.old b (ax.dV b R) λag=>by obtain⟨u,hu⟩:=iQ b ag;exact ax.ep u b hu R⟩) hk eB;have gD:dF aq br (r::ps.map (·.o)) (v::hs) (λb=>∃t,0<=t/\aJ t b):=⟨v,hs,e0,fb,rfl,z2,eB,z4,z5,A9⟩
  obtain⟨kH,gK⟩:=h.x5 gD (x8 λb R=>R) (by simp only[all_cons,Iz bX,Bool.true_and];exact c5);exact⟨br,kH,gK⟩
def aaR (C:bx) (s:an) (f:aX) (args:List aX) (K:I->an->Prop):Prop:=
 ∃(g:FuncId) (caps as os:anZ) (ps:List b6) (bs:List Bool) (r:I),a6 s f= .fn g caps/\I.dS (ps.map (·.a))=true/\mY (dN as) (args.map (a6 s)++caps)=some (rW bs (ps.map (·.a)))/\qG bs ps=true/\(∀p∈ps,p.ok s)/\gE ps=true/\
  aY C g as r os/\fF as=oC bs (ps.map (·.d))/\dN os=dN as/\fF os=oC bs (ps.map (·.o))/\(jj as&&pW as&&as.all I.gv&&(fF as).all I.gv&&(ps.map (·.o)).all I.gv)=true/\
  r.res=true/\(hx ps=true->r.ch=true/\∀p∈ps,p.g=true->p.o.ch=true)/\K r (fE (ea s ps) ps)
def ln (C:bx) (s:an) (f:aX) (args:List aX) (K:I->an->Prop):Prop:=aaE C s f args K\/aaF C s f args K\/aaR C s f args K
theorem QW (bb:C.Ok) (h:Rel w0 F0 X n ρ s a w) {o:Oper} {f:aX} {args:List aX} (bH:cP o.op=some (.call f args)) (ae:kM n o.dst=true) {K:I->an->Prop} {next:Act->World->Prop}
  (hw:ln C s f args K) (aN:∀av s1 bN aq,K av s1->Rel w0 F0 X n ρ (fin s1 o.dst av) bN aq->next bN aq):o.wp C.P a w next Q:=by
 obtain⟨iX,dr,hz,F,S,ax⟩:=h;obtain⟨dst,op,ty,pos,after,guard⟩:=o;simp only at bH ae aN;cases op with
 |call c=>
  obtain⟨callee,mT,argTypes⟩:=c;simp only[cP]at bH;split at bH
  .split at bH
   .rename_i sH _ _ Oq xs bc km;simp only[Option.some.injEq,dK.call.injEq]at bH;obtain⟨rfl,rfl⟩:=bH;obtain⟨f1,f2⟩:=e9 ax (λ_=>rfl) bc;have lf:=Ab ax (λ_=>rfl) _ _ (sE km);have main:∀(g:FuncId) (arr:Array Value) (r:I) (s2:an),a.eval sH= .func (.func g) #[] arr->
      (kn C.P g (mT.toList.map a.eval++arr.toList).toArray w λv aq=>∃br aJ,bq w0 F0 X br aJ s2 (λt=>a.tmps.getD t undef) aq/\j5 w0 X br aJ s2 (λt=>a.tmps.getD t undef) aq r v/\∀b,F b->br b/\aq.heap[b]? =w.heap[b]?)->
      K r s2->({dst,op:=.call {callee:=.value sH,args:=mT,argTypes},type:=ty,pos,after,guard}:Oper).wp C.P a w next Q:=by
     intro g arr r s2 vl hg hk;have qx:execOp a.eval {dst,op:=.call {callee:=.value sH,args:=mT,argTypes},type:=ty,pos,after,guard}=callFunc g ((mT.toList.map a.eval++arr.toList).toArray):=by
      simp only[execOp,resolve,vl,Deferred.ofValue,pure_bind,invoke];congr 1;apply Array.ext';simp
     unfold Oper.wp;rw[qx];rcases hg with⟨cY,bl⟩|⟨v,aq,cY,br,aJ,bl,cz,b0⟩
     .rw[cY,Oper.upon_enter];refine Calls.mono bl ?_;rintro e aq ⟨v,rfl,br,aJ,bT,b2,dm⟩;exact aN _ _ _ _ hk (Rel.put iX dr hz bT b2 ae)
     .rw[cY,Oper.upon_value];exact aN _ _ _ _ hk (Rel.put iX dr hz bl cz ae)
    rcases hw with⟨g,caps,as,os,ps,r,h1,eA,ag,ay,aT,bp,aI,aM,aP,ai,bX,bM,dy⟩|⟨x,q,g,caps,cos,ps,r,h1,ca,ab,ay,aT,bp,nM,ai,bX,bM,dy⟩|⟨g,caps,as,os,ps,bs,r,h1,eA,ag,hk,ay,aT,bp,aI,aM,aP,ai,bX,bM,dy⟩
    .rw[h1,aF]at f2;obtain⟨arr,f3,f4⟩:=f2;exact main g arr r _ f3 (aaG ax (Ao lf f4) eA ag ay aT bp aI aM aP ai bX bM) dy
    .rw[h1]at f2;rw[<-ab]at lf;have eA:I.dS (ps.map (·.a))=true:=by
      have key:∀(xs:List aX) (os:List Operand),os.map dz=xs.map some->I.dS (xs.map (a6 s))=true:=by
       intro xs;induction xs with
       |nil=>intro _ _;rfl
       |cons x xs ih=>
        intro os a1;cases os with
        |nil=>simp at a1
        |cons o os=>
         simp only[map_cons,cons.injEq]at a1;simp only[map_cons,I.dS,Bool.and_eq_true];exact⟨(e9 ax (λ_=>rfl) a1.1).1,ih os a1.2⟩
      rw[ab];exact key _ _ (sE km)
     obtain⟨arr,g1,g2⟩:=aaH ax lf eA f2 ca ay aT bp nM ai bX bM;exact main g arr r _ g1 g2 dy
    .rw[h1,aF]at f2;obtain⟨arr,f3,f4⟩:=f2;exact main g arr r _ f3 (aaQ ax (Ao lf f4) eA ag hk ay aT bp aI aM aP ai bX bM) dy
   .cases bH
  .split at bH
   .simp only[Option.map_eq_some_iff]at bH;obtain⟨_,_,bH⟩:=bH;cases bH
   .cases bH
  .split at bH
   .simp only[Option.map_eq_some_iff]at bH;obtain⟨_,_,bH⟩:=bH;cases bH
   .cases bH
  iterate 3
   .split at bH
    .split at bH<;>cases bH
    .cases bH
  .cases bH
 |makeFunc fn first cs=>
  cases fn<;>simp only[cP]at bH<;>first|(cases bH;done)|(split at bH<;>simp at bH)
 |slice T x eK ak eI=>
  cases eI<;>simp only[cP]at bH<;>first|(cases bH;done)|(split at bH<;>simp at bH)
 |makeMap T r=>cases r<;>simp only[cP]at bH<;>simp at bH
 |lookup T x i c=>cases c<;>simp only[cP]at bH<;>first|(cases bH;done)|(split at bH<;>simp at bH)
 |_=>simp only[cP]at bH<;>first|(cases bH;done)|(simp at bH;done)|(split at bH<;>simp at bH)
theorem aaS (bb:C.Ok) {id:Nat} {ops:Array Oper} {m rest:List bt} {f:aX} {args:List aX} {d1:Option Nat} {K:an->Prop}
  (j9:kN n ops ops.toList=some ((m++⟨d1,.call f args,none⟩::rest:List bt).map bt.un)) (ax:Rel w0 F0 X n ρ s a w)
  (h:iq C s m λs1=>ln C s1 f args λr s2=>iq C (fin s2 d1 r) rest K)
  (aN:∀aA bN aq,K aA->Rel w0 F0 X n ρ aA bN aq->Q .normal bN aq):(Code.region id ops false).wp C.P Q a w:=by
 obtain⟨hl,jD⟩:=xL j9;have AX:∀(i:Nat) (r:bt),(m++⟨d1,.call f args,none⟩::rest:List bt)[i]? =some r->∃o,ops[i]? =some o/\lh n ops o=some r.un:=by
  intro i r ak;have cp:i<ops.toList.length:=by
   rw[hl,length_map];exact(List.getElem?_eq_some_iff.1 ak).1
  obtain⟨gj,h1,ab⟩:=jD i _ (getElem?_eq_getElem cp);rw[getElem?_map,ak]at h1;simp only[Option.map_some,Option.some.injEq]at h1;exact⟨_,by rw[<-Array.getElem?_toList];exact getElem?_eq_getElem cp,by rw[h1];exact ab⟩
 have x3:ops.size=m.length+rest.length+1:=by
  have:ops.toList.length=ops.size:=by simp
  rw[<-this,hl];simp;omega
 have AY:range ops.size=(range m.length).map (·+0)++(m.length::(range rest.length).map (·+(m.length+1))):=by
  rw[x3,show m.length+rest.length+1=m.length+(rest.length+1) by omega,range_add,range_succ_eq_map];simp only[List.map_map,map_cons,Nat.add_zero,List.map_id'];congr 1;congr 1;apply map_congr_left;intro x _;simp;omega
 refine wp_region ?_;rw[AY];have hw:=x1 C _ m [] (⟨d1,.call f args,none⟩::rest) _ h;have vv:∀aA bN aq,iq C aA rest K->Rel w0 F0 X n ρ aA bN aq->wpOps C.P ops Q ((range rest.length).map (·+(m.length+1))) bN aq:=by
  intro gz a3 mA ay vR;have rM:=x1 C K rest (m++[⟨d1,.call f args,none⟩]) [] gz ay;have:=vB (Q:=Q) bb (ops:=ops) (ros:=(m++[⟨d1,.call f args,none⟩])++(rest++[])) (l2:=[]) (K:=K) (λaA bN aq j8 dA=>aN aA bN aq j8 dA) ((range rest.length).map (·+(m.length+1))) (λi ak=>by
   have sK:(m++[⟨d1,.call f args,none⟩])++(rest++[])=(m++⟨d1,.call f args,none⟩::rest:List bt):=by simp
   rw[sK];refine⟨λiR=>?_,λo a1=>?_⟩
   .rw[List.getElem?_eq_none_iff];have:=Array.getElem?_eq_none_iff.1 iR;simp;omega
   .obtain⟨az,gW,ab⟩:=jD i o (by simpa using a1);obtain⟨r,h1,rfl⟩:∃r,(m++⟨d1,.call f args,none⟩::rest:List bt)[i]? =some r/\r.un=az:=by
     rw[getElem?_map,Option.map_eq_some_iff]at gW;exact gW
    exact⟨r,h1,ab⟩) gz a3 mA (by
   have e:(m++[⟨d1,.call f args,none⟩]:List bt).length=m.length+1:=by simp
   rw[e]at rM;exact rM) vR
  simpa using this
 have mid:∀aA bN aq,(ln C aA f args λr s2=>iq C (fin s2 d1 r) rest K)->Rel w0 F0 X n ρ aA bN aq->wpOps C.P ops Q (m.length::(range rest.length).map (·+(m.length+1))) bN aq:=by
  intro s2 a2 mz ag AH;obtain⟨nI,vQ,og⟩:=AX m.length ⟨d1,.call f args,none⟩ (by simp);obtain⟨eF,fk,hp,xo⟩:=x2 rfl og;change qw nI.op= .call f args at hp;have A2:cP nI.op=some (.call f args):=by
   rcases rJ hp with h|h
   .cases h
   .exact h
  have A3:nI.dst=d1:=eF.symm;exact Qv vQ fk (QW bb AH A2 xo ag λav s1 bN aq hk dA=>vv _ _ _ hk (by rw[<-A3];exact dA))
 have:=vB (Q:=Q) bb (ops:=ops) (ros:=[]++(m++⟨d1,.call f args,none⟩::rest)) (l2:=m.length::(range rest.length).map (·+(m.length+1))) mid
  ((range m.length).map (·+0)) (λi ak=>by
    obtain⟨j,bo,rfl⟩:=mem_map.1 ak;have x4:j<m.length:=mem_range.1 bo;refine⟨λiR=>?_,λo a1=>?_⟩
    .have:=Array.getElem?_eq_none_iff.1 iR;omega
    .obtain⟨az,gW,ab⟩:=jD (j+0) o (by simpa using a1);obtain⟨r,h1,rfl⟩:∃r,(m++⟨d1,.call f args,none⟩::rest:List bt)[j+0]? =some r/\r.un=az:=by
      rw[getElem?_map,Option.map_eq_some_iff]at gW;exact gW
     exact⟨r,by simpa using h1,ab⟩) s a w hw ax
 exact this
def ug (C:bx) (m:List bt) (f:aX) (args:List aX) (d1:Option Nat) (rest:List bt) (keep:anU):(Exit->an->Prop)->an->Prop:=
 λQ s=>cq C s m none λ_ s1=>ln C s1 f args λr s2=>cq C (fin s2 d1 r) rest none λ_ gz=>di (Q .normal) (aj (fo keep gz))
def D7 (m:List bt) (f:aX) (args:List aX) (d1:Option Nat) (rest:List bt):aH:=.ew (m++⟨d1,.call f args,none⟩::rest) none
def yb (C:bx) (T:(Exit->an->Prop)->an->Prop) (b:aH):Prop:=
 ∃(m:List bt) (f:aX) (args:List aX) (d1:Option Nat) (rest:List bt) (keep:anU),T=ug C m f args d1 rest keep/\b=D7 m f args d1 rest
end
section
variable {C:bx} {w0 w:World} {F0 X:Nat->Prop} {n:Fr} {ρ:Nat->Value} {s:an} {a:Act}
theorem QX {f:aX} {args:List aX} {K c8:I->an->Prop} (hk:∀r s,K r s->c8 r s) (h:ln C s f args K):ln C s f args c8:=by
 rcases h with⟨g,caps,as,os,ps,r,h1,eA,ag,ay,aT,bp,aI,aM,aP,ai,bX,bM,dy⟩|⟨x,q,g,caps,cos,ps,r,h1,ca,ab,ay,aT,bp,nM,ai,bX,bM,dy⟩|⟨g,caps,as,os,ps,bs,r,h1,eA,ag,j8,ay,aT,bp,aI,aM,aP,ai,bX,bM,dy⟩
 .exact .inl ⟨g,caps,as,os,ps,r,h1,eA,ag,ay,aT,bp,aI,aM,aP,ai,bX,bM,hk _ _ dy⟩
 .exact .inr (.inl ⟨x,q,g,caps,cos,ps,r,h1,ca,ab,ay,aT,bp,nM,ai,bX,bM,hk _ _ dy⟩)
 .exact .inr (.inr ⟨g,caps,as,os,ps,bs,r,h1,eA,ag,j8,ay,aT,bp,aI,aM,aP,ai,bX,bM,hk _ _ dy⟩)
theorem aaT (bb:C.Ok) {c:Code} {T:(Exit->an->Prop)->an->Prop} {b:aH} {Q:Exit->an->Prop} (eZ:yb C T b) (U:fh n c=some b.strip) (h:T Q s) (ax:Rel w0 F0 X n ρ s a w):
  c.wp C.P (o3 w0 F0 X n ρ Q) a w:=by
 obtain⟨m,f,args,d1,rest,keep,rfl,rfl⟩:=eZ;obtain⟨id,ops,rfl,j9⟩:=D0 U;refine aaS (Q:=o3 w0 F0 X n ρ Q) (K:=di (di (Q .normal))) bb j9 ax (rO (λ_ s1 ag=>QX (λr s2 h=>rO (λ_ s h=>.inr ⟨_,DZ _ _,h⟩) h) ag) h) λaA bN aq hk dA=>?_;obtain⟨s2,ab,bl⟩:=dA.di hk;exact bl.di ab
theorem aY.IE (bb:C.Ok) {f:FuncId} {fn:Func} {c:Code} {dM:aH} {fx:anU} {as outs:anZ} {r:I} (dY:List ResultVar) (l:anY) (bc:C.P.funcs[f]? =some fn) (R:fn.body=some c)
  (jV:(fn.name== "runtime.NumGoroutine")=false) (U:fh ⟨fn.ntmps,fx⟩ c=some dM.strip) (aN:as.length<=fn.ntmps) (hk:dM.lN (yb C)) (eC:fn.results.toList=dY) (hl:num 0 as=l)
  (h:∀Q:Exit->an->Prop,(∀s,di (Ends C fx dY r outs) s->Q .ret s)->(∀s,di (Ends C fx dY r outs) s->Q .normal s)->bh C dM Q (aj l)):aY C f as r outs:=by
 subst eC hl;intro w F X S vs hl ax;refine AG (fx:=fx) bb bc R jV aN hl ax λa hrel dW=>?_;refine AE bb (H:=yb C) (λc T b Q s a w fK kT aL ax=>aaT bb fK kT aL ax) c (by rw[aH.AA];exact U) (aH.AB dM hk) (AD dM ?_) hrel;rw[xO];exact h _ (λs h=>⟨.inr rfl,h⟩) (λs h=>⟨.inl rfl,h⟩)
end
theorem rX:(∀t f c,mi t (.bm f c)= .h t [])/\(∀(l:anY) t f c,fin (aj l) (some t) (.bm f c)=aj ((t,.bm f c)::qC t l))/\(∀f c,I.plain (.bm f c)=false)/\(∀t f c,cu t (.bm f c)= .bm f c)/\(∀t f c,b4 t (.bm f c)= .bm f c)/\
  (∀f c,I.cJ (.bm f c)= .hole)/\(∀f c,I.wd (.bm f c)=1)/\(∀f c,I.ga (.bm f c)=true)/\(∀f c g e,rH (.bm f c) (.bm g e)=true)/\(∀s x q d f c,b6.im s ⟨.h x q,true,d,.bm f c⟩=cK (k8 x s) x (I.put q (.bm f c) (s x)))/\(∀f c,I.U (.bm f c)=[])/\(∀f c,I.tree (.bm f c)=true)/\(∀f c,I.owner (.bm f c)=none)/\
  (∀f ds g us,kL (.bm f ds) (.bm g us)= .bm g (jA ds us))/\(∀us,jA [] us=us)/\(∀d ds us,jA (d::ds) (.hole::us)=(if d.plain=true then d else .hole)::jA ds us)/\(∀d ds x us,jA (d::ds) (.aV x::us)= .aV x::jA ds us)/\(∀d ds x us,jA (d::ds) (.ref x::us)= .ref x::jA ds us)/\
  (∀d ds n x us,jA (d::ds) (.ah n x::us)= .ah n x::jA ds us)/\(∀d,I.plain (.ref d)=true)/\(∀f c,I.ch (.bm f c)=I.gM c):=
 ⟨λ_ _ _=>rfl,λl t f c=>by simp only[fin,I.plain,Bool.false_eq_true,if_false,vF,rL],λ_ _=>rfl,λ_ _ _=>by unfold cu;rfl,λ_ _ _=>by unfold b4;rfl,λ_ _=>by simp only[I.cJ],λ_ _=>by simp only[I.wd],λ_ _=>rfl,λ_ _ _ _=>rfl,λ_ _ _ _ _ _=>by simp[b6.im],λ_ _=>by simp only[I.U],λ_ _=>rfl,λ_ _=>rfl,
  λ_ _ _ _=>rfl,λus=>by cases us<;>rfl,λ_ _ _=>rfl,λ_ _ _ _=>rfl,λ_ _ _ _=>rfl,λ_ _ _ _ _=>rfl,λ_=>rfl,λ_ _=>rfl⟩
def uh:List b6->Bool
 |[]=>true
 |p::ps=>(!p.g||p.o.ch)&&uh ps
theorem D8:∀{ps:List b6},uh ps=true->∀p∈ps,p.g=true->p.o.ch=true
 |[],_,p,al,_=>by cases al
 |q::ps,h,p,al,hg=>by
  simp only[uh,Bool.and_eq_true,Bool.or_eq_true,Bool.not_eq_true']at h;rcases mem_cons.1 al with rfl|al
  .rcases h.1 with h|h
   .rw[h]at hg;cases hg
   .exact h
  .exact D8 h.2 p al hg
theorem QY {C:bx} {Q:Exit->an->Prop} {l:anY} {m:List bt} {f:aX} {args:List aX} {d1:Option Nat} {rest:List bt} {keep:anU} {b:aH} (bV:anY)
  (h:∀P:anY->Prop,P bV->cq C (aj l) m none λ_ s1=>ln C s1 f args λr s2=>cq C (fin s2 d1 r) rest none λ_ gz=>P (fo keep gz)) (hk:di (Q .normal) (aj bV)):bh C (.gF (ug C m f args d1 rest keep) b) Q (aj l):=
 λee A_=>h (λl=>di (ee .normal) (aj l)) (sJ (λ_ h=>A_ _ _ h) _ hk)
theorem QZ {C:bx} {Q:Exit->an->Prop} {l:anY} {m:List bt} {f:aX} {args:List aX} {d1:Option Nat} {rest:List bt} {keep:anU} {b:aH} (bV:anY)
  (h:∀P:anY->Prop,P bV->cq C (aj l) m none λ_ s1=>ln C s1 f args λr s2=>cq C (fin s2 d1 r) rest none λ_ gz=>P (fo keep gz)) (hk:Q .normal (aj bV)):bh C (.gF (ug C m f args d1 rest keep) b) Q (aj l):=
 QY (b:=b) bV h (.inl hk)
theorem aaU {C:bx} {Q:Exit->an->Prop} {l:anY} {m:List bt} {f:aX} {args:List aX} {d1:Option Nat} {rest:List bt} {keep:anU} {b e:aH} (bV:anY)
  (h:∀P:anY->Prop,P bV->cq C (aj l) m none λ_ s1=>ln C s1 f args λr s2=>cq C (fin s2 d1 r) rest none λ_ gz=>P (fo keep gz)) (hk:di (bh C e Q) (aj bV)):bh C (.seq (.gF (ug C m f args d1 rest keep) b) e) Q (aj l):=
 QY (b:=b) bV h (.inl hk)
theorem aaV {C:bx} {Q:Exit->an->Prop} {l:anY} {m:List bt} {f:aX} {args:List aX} {d1:Option Nat} {rest:List bt} {keep:anU} {b e:aH} (bV:anY)
  (h:∀P:anY->Prop,P bV->cq C (aj l) m none λ_ s1=>ln C s1 f args λr s2=>cq C (fin s2 d1 r) rest none λ_ gz=>P (fo keep gz)) (hk:bh C e Q (aj bV)):bh C (.seq (.gF (ug C m f args d1 rest keep) b) e) Q (aj l):=
 aaU (b:=b) bV h (.inl hk)
theorem aaW {C:bx} {l:anY} {f:aX} {args:List aX} {g:FuncId} {caps as os:anZ} {r:I} {K:I->an->Prop} (ps:List b6) (bp:aY C g as r os) (h1:a6 (aj l) f= .fn g caps) (eA:I.dS (ps.map (·.a))=true)
  (ag:mY (dN as) (ji (aj l) args++caps)=some (ps.map (·.a))) (ay:pS (aj l) ps) (aT:gE ps=true) (aI:fF as=ps.map (·.d)) (aM:dN os=dN as) (aP:fF os=ps.map (·.o))
  (ai:(jj as&&pW as&&as.all I.gv&&(fF as).all I.gv&&(fF os).all I.gv)=true) (bX:r.res=true) (bM:hx ps=false\/(r.ch&&uh ps)=true) (hK:K r (fE (ea (aj l) ps) ps)):ln C (aj l) f args K:=by
 refine .inl ⟨g,caps,as,os,ps,r,h1,eA,by rw[tW];exact ag,xV ay,aT,bp,aI,aM,aP,ai,bX,?_,hK⟩;intro hl;rcases bM with bM|bM
 .rw[bM]at hl;cases hl
 .rw[Bool.and_eq_true]at bM;exact⟨bM.1,D8 bM.2⟩
theorem Q0 {C:bx} {l:anY} {f:aX} {args:List aX} {x:Nat} {q:anU} {g:FuncId} {caps:anZ} {r:I} {K:I->an->Prop} (ps:List b6) (cos:anZ) (bp:aY C g (ps.map (·.d)++caps) r (ps.map (·.o)++cos)) (h1:a6 (aj l) f= .h x q)
  (ca:I.sub q (aj l x)=some (.bm g caps)) (ab:ps.map (·.a)=ji (aj l) args) (ay:pS (aj l) (ps++[⟨.h x q,true,.bm g caps,kL (.bm g caps) (.bm g cos)⟩])) (aT:gE (ps++[⟨.h x q,true,.bm g caps,kL (.bm g caps) (.bm g cos)⟩])=true)
  (nM:cos.length=caps.length) (ai:(cos.all I.one&&caps.all I.gv&&cos.all I.gv&&(ps.all λp=>p.d.gv&&p.o.gv&&(dN [p.d]==[none])&&(dN [p.o]==[none])))=true) (bX:r.res=true) (bM:hx ps=false\/(r.ch&&uh ps&&I.gM cos)=true)
  (hK:K r (fE (ea (aj l) (ps++[⟨.h x q,true,.bm g caps,kL (.bm g caps) (.bm g cos)⟩])) (ps++[⟨.h x q,true,.bm g caps,kL (.bm g caps) (.bm g cos)⟩]))):ln C (aj l) f args K:=by
 refine .inr (.inl ⟨x,q,g,caps,cos,ps,r,h1,ca,by rw[ab,tW],xV ay,aT,bp,nM,ai,bX,?_,hK⟩);intro hl;rcases bM with bM|bM
 .rw[bM]at hl;cases hl
 .rw[Bool.and_eq_true,Bool.and_eq_true]at bM;exact⟨bM.1.1,D8 bM.1.2,bM.2⟩
theorem aaX {C:bx} {l:anY} {f:aX} {args:List aX} {g:FuncId} {caps as os:anZ} {r:I} {K:I->an->Prop} (bs:List Bool) (ps:List b6) (bp:aY C g as r os) (h1:a6 (aj l) f= .fn g caps) (eA:I.dS (ps.map (·.a))=true)
  (ag:mY (dN as) (ji (aj l) args++caps)=some (rW bs (ps.map (·.a)))) (hk:qG bs ps=true) (ay:pS (aj l) ps) (aT:gE ps=true) (aI:fF as=oC bs (ps.map (·.d))) (aM:dN os=dN as) (aP:fF os=oC bs (ps.map (·.o)))
  (ai:(jj as&&pW as&&as.all I.gv&&(fF as).all I.gv&&(ps.map (·.o)).all I.gv)=true) (bX:r.res=true) (bM:hx ps=false\/(r.ch&&uh ps)=true) (hK:K r (fE (ea (aj l) ps) ps)):ln C (aj l) f args K:=by
 refine .inr (.inr ⟨g,caps,as,os,ps,bs,r,h1,eA,by rw[tW];exact ag,hk,xV ay,aT,bp,aI,aM,aP,ai,bX,?_,hK⟩);intro hl;rcases bM with bM|bM
 .rw[bM]at hl;cases hl
 .rw[Bool.and_eq_true]at bM;exact⟨bM.1,D8 bM.2⟩
end Go.cC
