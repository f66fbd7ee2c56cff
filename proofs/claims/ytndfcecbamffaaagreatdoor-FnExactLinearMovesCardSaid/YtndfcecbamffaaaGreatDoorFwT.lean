/- Part of a proof that a law returns true for every input. No condition. -/
import Derived.Test.YtndfcecbamffaaaGreatDoorFwL
namespace Go.cG
open List Go.IntKind Nat Or
section
variable {C:bz} {w0 w au:World} {F0 X F bh:Nat->Prop} {S aG:Nat->Nat->Prop} {n:Fr} {ρ:Nat->Value} {s aq:ag} {an gP:Nat->Value} {a:Act} {av:j} {Q:Exit->Act->World->Prop}
def c_ (w:World) (F:Nat->Prop):acj->ach->(Nat->Prop)->Prop
 |[],vs,_=>vs=[]
 |d::ds,vs,T=>∃v eg en eE,vs=v::eg/\(d.tree=true->cU d v/\al w F d (bZ v) en)/\c_ w F ds eg eE/\(∀b,en b->T b)/\(∀b,eE b->T b)/\∀b,en b->¬eE b
def j.fz (d:j):Bool:=d.tree||(match d with
 | .hole=>true
 |_=>false)
theorem SC {d:j} {v:Value} {T:Nat->Prop} (h:d.fz=true) (aK:d.tree=true->cU d v/\al w F d (bZ v) T):az w F s an d v T:=by
 cases ad:d.tree with
 |true=>exact(az.b8 ad).2 (aK ad)
 |false=>
  cases d<;>first|(simp[j.tree]at ad;done)|(simp[j.fz,j.tree]at h;done)|(rw[az];trivial)
theorem c_.mono {T uj:Nat->Prop} (e1:∀b,T b->uj b):∀{ds:acj} {vs:ach},c_ w F ds vs T->c_ w F ds vs uj
 |[],_,h=>h
 |d::ds,vs,⟨v,eg,en,eE,R,U,aw,aQ,bk,bS⟩=>⟨v,eg,en,eE,R,U,aw,λb I=>e1 b (aQ b I),λb I=>e1 b (bk b I),bS⟩
theorem c_.len {T:Nat->Prop}:∀{ds:acj} {vs:ach},c_ w F ds vs T->vs.length=ds.length
 |[],_,h=>by rw[c_]at h;subst h;rfl
 |d::ds,vs,⟨v,eg,en,eE,R,U,aw,_⟩=>by subst R;simp[aw.len]
theorem c_.append {T:Nat->Prop}:∀{ds es:acj} {vs us:ach},vs.length=ds.length->c_ w F (ds++es) (vs++us) T->∃en eE,c_ w F ds vs en/\c_ w F es us eE/\(∀b,en b->T b)/\(∀b,eE b->T b)/\∀b,en b->¬eE b
 |[],es,vs,us,hl,h=>by
  have:vs=[]:=by simpa using hl
  subst this;exact⟨λ_=>False,T,rfl,h,λ_ h=>h.elim,λ_ h=>h,λ_ h=>h.elim⟩
 |d::ds,es,[],us,hl,h=>by simp at hl
 |d::ds,es,v::vs,us,hl,h=>by
  obtain⟨dD,eg,en,eE,R,U,aw,aQ,bk,bS⟩:=h;simp only[cons_append,cons.injEq]at R;obtain⟨rfl,rfl⟩:=R;obtain⟨zB,Dx,g1,g2,g3,g4,g5⟩:=c_.append (by simpa using hl) aw;refine⟨λb=>en b\/zB b,Dx,⟨v,vs,en,zB,rfl,U,g1,λb I=>.inl I,λb I=>.inr I,λb I hu=>bS b I (g3 b hu)⟩,g2,?_,λb I=>bk b (g4 b I),?_⟩
  .rintro b (I|I)
   .exact aQ b I
   .exact bk b (g3 b I)
  .rintro b (I|I) hu
   .exact bS b I (g4 b hu)
   .exact g5 b I hu
theorem c_.join {T en eE:Nat->Prop} (R:∀b,en b->T b) (U:∀b,eE b->T b) (ad:∀b,en b->¬eE b):∀{ds es:acj} {vs us:ach},c_ w F ds vs en->c_ w F es us eE->c_ w F (ds++es) (vs++us) T
 |[],es,vs,us,h,hu=>by rw[c_]at h;subst h;exact hu.mono U
 |d::ds,es,vs,us,⟨v,eg,zB,Dx,aH,aN,aP,bQ,b_,bM⟩,hu=>by
  subst aH;refine⟨v,eg++us,zB,λb=>Dx b\/eE b,rfl,aN,c_.join (λb I=>.inl I) (λb I=>.inr I) (λb I=>ad b (b_ b I)) aP hu,λb I=>R b (bQ b I),?_,?_⟩
  .rintro b (I|I)
   .exact R b (b_ b I)
   .exact U b I
  .rintro b I (aj|aj)
   .exact bM b I aj
   .exact ad b (bQ b I) aj
theorem bm.sZ (h:bm w0 F0 X F S s an w):∀(ds:acj) (vs:ach) (k:Nat),vs.length=ds.length->(∀i d v,ds[i]? =some d->vs[i]? =some v->s (k+i)=d/\an (k+i)=v)->c_ w F ds vs (λb=>∃t,k<=t/\S t b)
 |[],vs,k,hl,_=>by simpa [c_]using hl
 |d::ds,[],k,hl,_=>by simp at hl
 |d::ds,v::vs,k,hl,J=>by
  obtain⟨aH,aN⟩:=J 0 d v rfl rfl;have ih:=h.sZ ds vs (k+1) (by simpa using hl) λi bd dD ad aE=>by
   have:=J (i+1) bd dD (by simpa using ad) (by simpa using aE)
   rwa [show k+(i+1)=k+1+i by omega]at this
  refine⟨v,vs,S k,_,rfl,λaK=>?_,ih,λb I=>⟨k,Nat.le_refl _,I⟩,λb ⟨t,aK,I⟩=>⟨t,by omega,I⟩,λb I ⟨t,aK,aj⟩=>h.dW k t b (by omega) I aj⟩;have:=h.cz k;rw[Nat.add_zero]at aH aN;rw[aH,aN]at this;exact(az.b8 aK).1 this
theorem c_.KH {T:Nat->Prop}:∀{ds:acj} {vs:ach},c_ w F ds vs T->∃aG:Nat->Nat->Prop,(∀t b,aG t b->T b)/\(∀t u b,t≠u->aG t b->¬aG u b)/\∀t,(eo ds t).tree=true->cU (eo ds t) (fi vs t)/\al w F (eo ds t) (bZ (fi vs t)) (aG t)
 |[],_,h=>⟨λ_ _=>False,λ_ _ h=>h.elim,λ_ _ _ _ h=>h.elim,λt aK=>by simp[eo,j.tree]at aK⟩
 |d::ds,vs,⟨v,eg,en,eE,aH,aN,aP,bQ,b_,bM⟩=>by
  subst aH;obtain⟨aG,g1,g2,g3⟩:=c_.KH aP;refine⟨λt=>match t with|0=>en|t+1=>aG t,λt b I=>?_,λt u b c9 aK hu=>?_,λt aK=>?_⟩
  .cases t with
   |zero=>exact bQ b I
   |succ t=>exact b_ b (g1 t b I)
  .cases t with
   |zero=>
    cases u with
    |zero=>exact c9 rfl
    |succ u=>exact bM b aK (g1 u b hu)
   |succ t=>
    cases u with
    |zero=>exact bM b hu (g1 t b aK)
    |succ u=>exact g2 t u b (by omega) aK hu
  .cases t with
   |zero=>exact aN aK
   |succ t=>exact g3 t aK
theorem bm.uM (h:bm w0 F0 X F S s an w) {T:Nat->Prop} {ds:acj} {vs:ach} (aD:c_ w F ds vs T) (e1:∀b,T b->∃t,S t b) (xi:ds.all j.fz=true):∃aG,bm w0 F0 X F aG (eo ds) (fi vs) w:=by
 obtain⟨aG,g1,g2,g3⟩:=aD.KH;refine⟨aG,{
  ff:=h.ff
  fI:=h.fI
  dP:=h.dP
  dt:=λt b I=>by obtain⟨u,hu⟩:=e1 b (g1 t b I);exact h.dt u b hu
  eh:=λt b I=>by obtain⟨u,hu⟩:=e1 b (g1 t b I);exact h.eh u b hu
  dW:=g2
  cS:=λt b I=>by obtain⟨u,hu⟩:=e1 b (g1 t b I);exact h.cS u b hu
  cz:=λt=>SC (by
   unfold eo;rw[getD_eq_getElem?_getD];cases ad:ds[t]? with
   |none=>rfl
   |some d=>exact List.all_eq_true.1 xi d (mem_of_getElem? ad)) (g3 t)
  old:=h.old
  size:=h.size
  os:=h.os
  tape:=h.tape
  output:=h.output
  fu:=h.fu}⟩
def dh:acj->List (Option (FuncId×Nat))
 |[]=>[]
 | .a8 g cs::r=>some (g,cs.length)::dh r
 |_::r=>none::dh r
def eX:acj->acj
 |[]=>[]
 | .a8 _ cs::r=>cs++eX r
 |d::r=>d::eX r
def h1:acj->Bool
 |[]=>true
 | .a8 _ cs::r=>cs.all j.one&&h1 r
 |_::r=>h1 r
def nV:acj->Bool
 |[]=>true
 | .a8 _ cs::r=>cs.all j.tree&&nV r
 |_::r=>nV r
def lh:List (Option (FuncId×Nat))->acj->Option acj
 |[],[]=>some []
 |some (g,n)::sh,.fn iE cs::r=>if g=iE/\cs.length=n then(lh sh r).map (cs++·)else none
 |none::sh,a::r=>(lh sh r).map (a::·)
 |_,_=>none
inductive my:List (Option (FuncId×Nat))->ach->ach->Prop
 |nil:my [] [] []
 |one {sh:List (Option (FuncId×Nat))} {v:Value} {vs dE:ach}:my sh vs dE->my (none::sh) (v::vs) (v::dE)
 |fn {sh:List (Option (FuncId×Nat))} {g:FuncId} {m:Nat} {arr:Array Value} {vs dE:ach}:arr.size=m->my sh vs dE->my (some (g,m)::sh) (.func (.func g) #[] arr::vs) (arr.toList++dE)
def uN:List (Option (FuncId×Nat))->ach->Prop
 |[],_=>True
 |_::_,[]=>True
 |some _::sh,v::vs=>(∀g arr,v= .func (.func g) #[] arr->∀x∈arr.toList,Value.ej x=true)/\uN sh vs
 |none::sh,_::vs=>uN sh vs
theorem KI {T:Nat->Prop}:∀(cs:acj) (vs:ach),(∀c∈cs,c.one=true)->aT w F cs vs T->c_ w F cs vs T/\∀x∈vs,Value.ej x=true
 |[],vs,_,h=>by rw[aT]at h;subst h;exact⟨rfl,λx ae=>by cases ae⟩
 |c::cs,vs,R,h=>by
  have KJ:=aT.me _ _ _ h;rw[aT]at h;obtain⟨bK,bJ,bT,cI,rfl,aa,a2,a3,a4,a5⟩:=h;have hl:=al.length _ _ _ aa;rw[y7 (R c (by simp))]at hl;obtain⟨v,rfl⟩:∃v,bK=[v]:=by
   match bK,hl with
   |[v],_=>exact⟨v,rfl⟩
  have aE:Value.ej v=true:=KJ v (by simp);refine⟨⟨v,bJ,bT,cI,rfl,λ_=>⟨?_,by rw[eH aE];exact aa⟩,(KI cs bJ (λd ad=>R d (by simp[ad])) a2).1,a3,a4,a5⟩,KJ⟩;have:=R c (by simp);cases c<;>first|exact aE|(simp[j.one]at this)
theorem KK {T:Nat->Prop}:∀(cs:acj) (vs:ach),(∀c∈cs,c.one=true)->(∀c∈cs,c.fz=true)->(∀x∈vs,Value.ej x=true)->c_ w F cs vs T->aT w F cs vs T
 |[],vs,_,_,_,h=>by rw[c_]at h;subst h;rw[aT]
 |c::cs,vs,R,U,aw,⟨v,eg,en,eE,aH,aN,aP,bQ,b_,bM⟩=>by
  subst aH;rw[aT];have aE:Value.ej v=true:=aw v (by simp);refine⟨[v],eg,en,eE,rfl,?_,KK cs eg (λd ad=>R d (by simp[ad])) (λd ad=>U d (by simp[ad])) (λx ae=>aw x (by simp[ae])) aP,bQ,b_,bM⟩;cases aK:c.tree with
  |true=>rw[<-eH aE];exact(aN aK).2
  |false=>
   have:=U c (by simp);cases c<;>first|(simp[j.tree]at aK;done)|(simp[j.fz,j.tree]at this;done)|(rw[al];exact⟨v,aE,rfl⟩)
theorem c_.xj:∀{sh:List (Option (FuncId×Nat))} {vs dE:ach},my sh vs dE->∀{as:acj} {T:Nat->Prop},dh as=sh->c_ w F as vs T->c_ w F (eX as) dE T/\uN sh vs
 |_,_,_,.nil,[],T,_,h=>⟨h,trivial⟩
 |_,_,_,.nil,a::as,T,he,h=>by cases a<;>simp[dh]at he
 |_,_,_,.one bf,[],T,he,h=>by simp[dh]at he
 |_,_,_,.one (sh:=uO) bf,a::as,T,he,h=>by
  obtain⟨dD,eg,en,eE,aH,aN,aP,bQ,b_,bM⟩:=h;simp only[cons.injEq]at aH;obtain⟨rfl,rfl⟩:=aH;have aO:(∀g cs,a≠.a8 g cs)/\dh as=uO:=by
   cases a<;>simp[dh]at he<;>exact⟨(λ_ _ h=>by cases h),he⟩
  obtain⟨g1,g2⟩:=c_.xj bf aO.2 aP;have ae:eX (a::as)=a::eX as:=by cases a<;>first|rfl|exact(aO.1 _ _ rfl).elim
  rw[ae];exact⟨⟨_,_,en,eE,rfl,aN,g1,bQ,b_,bM⟩,g2⟩
 |_,_,_,.fn hm bf,[],T,he,h=>by simp[dh]at he
 |_,_,_,.fn (g:=g) (arr:=arr) hm bf,a::as,T,he,h=>by
  obtain⟨dD,eg,en,eE,aH,aN,aP,bQ,b_,bM⟩:=h;simp only[cons.injEq]at aH;obtain⟨rfl,rfl⟩:=aH;cases a with
  |a8 iE cs=>
   simp only[dh,cons.injEq,Option.some.injEq,Prod.mk.injEq]at he;obtain⟨⟨rfl,gY⟩,he⟩:=he;obtain⟨g1,g2⟩:=c_.xj bf he aP;obtain⟨_,eO⟩:=aN rfl;rw[al]at eO;obtain⟨H7,bO,b1,cX⟩:=eO;have:H7=arr:=by simpa [bZ,gM]using bO.symm
   subst this;obtain⟨m1,m2⟩:=KI cs _ b1 cX;exact⟨c_.join bQ b_ bM m1 g1,λg3 SD aw=>by cases aw;exact m2,g2⟩
  |_=>simp[dh]at he
theorem c_.xk:∀{sh:List (Option (FuncId×Nat))} {vs dE:ach},my sh vs dE->∀{as:acj} {T:Nat->Prop},dh as=sh->h1 as=true->(eX as).all j.fz=true->uN sh vs->c_ w F (eX as) dE T->c_ w F as vs T
 |_,_,_,.nil,[],T,_,_,_,_,h=>h
 |_,_,_,.nil,a::as,T,he,_,_,_,h=>by cases a<;>simp[dh]at he
 |_,_,_,.one bf,[],T,he,_,_,_,h=>by simp[dh]at he
 |_,_,_,.one (sh:=uO) bf,a::as,T,he,R,U,aw,h=>by
  have aO:(∀g cs,a≠.a8 g cs)/\dh as=uO:=by
   cases a<;>simp[dh]at he<;>exact⟨(λ_ _ h=>by cases h),he⟩
  have ae:eX (a::as)=a::eX as:=by cases a<;>first|rfl|exact(aO.1 _ _ rfl).elim
  have a_:h1 (a::as)=h1 as:=by cases a<;>first|rfl|exact(aO.1 _ _ rfl).elim
  rw[ae]at h U;rw[a_]at R;obtain⟨dD,eg,en,eE,aH,aN,aP,bQ,b_,bM⟩:=h;simp only[cons.injEq]at aH;obtain⟨rfl,rfl⟩:=aH;simp only[all_cons,Bool.and_eq_true]at U;exact⟨_,_,en,eE,rfl,aN,c_.xk bf aO.2 R U.2 aw aP,bQ,b_,bM⟩
 |_,_,_,.fn hm bf,[],T,he,_,_,_,h=>by simp[dh]at he
 |_,_,_,.fn (g:=g) (arr:=arr) hm bf,a::as,T,he,R,U,aw,h=>by
  cases a with
  |a8 iE cs=>
   simp only[dh,cons.injEq,Option.some.injEq,Prod.mk.injEq]at he;obtain⟨⟨rfl,gY⟩,he⟩:=he;simp only[h1,Bool.and_eq_true,List.all_eq_true]at R;simp only[eX,all_append,Bool.and_eq_true]at U;obtain⟨en,eE,g1,g2,g3,g4,g5⟩:=c_.append (by simp[gY,hm]) h;have aD:=KK cs _ R.1 (List.all_eq_true.1 U.1) (aw.1 _ _ rfl) g1;refine⟨_,_,en,eE,rfl,λ_=>⟨rfl,?_⟩,c_.xk bf he R.2 U.2 aw.2 g2,g3,g4,g5⟩;rw[al];exact⟨arr,by simp[bZ,gM],R.1,aD⟩
  |_=>simp[dh]at he
theorem c_.me:∀{sh:List (Option (FuncId×Nat))} {vs dE:ach},my sh vs dE->∀{as:acj} {T:Nat->Prop},dh as=sh->h1 as=true->nV as=true->c_ w F (eX as) dE T->uN sh vs
 |_,_,_,.nil,_,T,_,_,_,h=>trivial
 |_,_,_,.one bf,[],T,he,_,_,h=>by simp[dh]at he
 |_,_,_,.one (sh:=uO) bf,a::as,T,he,R,U,h=>by
  have aO:(∀g cs,a≠.a8 g cs)/\dh as=uO:=by
   cases a<;>simp[dh]at he<;>exact⟨(λ_ _ h=>by cases h),he⟩
  have ae:eX (a::as)=a::eX as:=by cases a<;>first|rfl|exact(aO.1 _ _ rfl).elim
  have a_:h1 (a::as)=h1 as:=by cases a<;>first|rfl|exact(aO.1 _ _ rfl).elim
  have aK:nV (a::as)=nV as:=by cases a<;>first|rfl|exact(aO.1 _ _ rfl).elim
  rw[ae]at h;rw[a_]at R;rw[aK]at U;obtain⟨dD,eg,en,eE,aH,aN,aP,bQ,b_,bM⟩:=h;simp only[cons.injEq]at aH;obtain⟨rfl,rfl⟩:=aH;exact(c_.me bf aO.2 R U aP:uN uO _)
 |_,_,_,.fn hm bf,[],T,he,_,_,h=>by simp[dh]at he
 |_,_,_,.fn (g:=g) (arr:=arr) hm bf,a::as,T,he,R,U,h=>by
  cases a with
  |a8 iE cs=>
   simp only[dh,cons.injEq,Option.some.injEq,Prod.mk.injEq]at he;obtain⟨⟨rfl,gY⟩,he⟩:=he;simp only[h1,Bool.and_eq_true,List.all_eq_true]at R;simp only[nV,Bool.and_eq_true,List.all_eq_true]at U;obtain⟨en,eE,g1,g2,g3,g4,g5⟩:=c_.append (by simp[gY,hm]) h;refine⟨λg3 SD aw=>?_,c_.me bf he R.2 U.2 g2⟩;cases aw;have key:∀(cs:acj) (vs:ach) (T:Nat->Prop),(∀c∈cs,c.one=true)->(∀c∈cs,c.tree=true)->c_ w F cs vs T->∀x∈vs,Value.ej x=true:=by
    intro cs;induction cs with
    |nil=>intro vs T _ _ h x ae;rw[c_]at h;subst h;cases ae
    |cons c cs ih=>
     intro vs T bO b1 h x ae;obtain⟨dD,eg,en,eE,aH,aN,aP,bQ,b_,bM⟩:=h;subst aH;rcases mem_cons.1 ae with rfl|ae
     .have J:=(aN (b1 c (by simp))).1;have a_:=bO c (by simp);cases c<;>first|exact J|(simp[j.one]at a_)
     .exact ih eg eE (λd ad=>bO d (by simp[ad])) (λd ad=>b1 d (by simp[ad])) aP x ae
   exact key cs _ en R.1 U.1 g1
  |_=>simp[dh]at he
theorem zC {F:Nat->Prop}:∀{sh:List (Option (FuncId×Nat))} {ms ar:acj} {vs:ach},lh sh ms=some ar->cJ w F s an ms vs->∃dE,my sh vs dE/\cJ w F s an ar dE
 |[],[],ar,vs,ae,h=>by
  simp only[lh,Option.some.injEq]at ae;subst ae;rw[cJ]at h;subst h;exact⟨[],.nil,by rw[cJ]⟩
 |[],m::ms,ar,vs,ae,h=>by simp[lh]at ae
 |none::sh,[],ar,vs,ae,h=>by simp[lh]at ae
 |some (g,k)::sh,[],ar,vs,ae,h=>by simp[lh]at ae
 |none::sh,m::ms,ar,vs,ae,h=>by
  simp only[lh,Option.map_eq_some_iff]at ae;obtain⟨SE,ae,rfl⟩:=ae;rw[cJ]at h;obtain⟨v,eg,rfl,R,U⟩:=h;obtain⟨dE,g1,g2⟩:=zC ae U;exact⟨v::dE,.one g1,by rw[cJ];exact⟨v,dE,rfl,R,g2⟩⟩
 |some (g,k)::sh,m::ms,ar,vs,ae,h=>by
  cases m with
  |fn iE cs=>
   simp only[lh]at ae;split at ae
   .rename_i aj;obtain⟨rfl,rfl⟩:=aj;simp only[Option.map_eq_some_iff]at ae;obtain⟨SE,ae,rfl⟩:=ae;rw[cJ]at h;obtain⟨v,eg,rfl,R,U⟩:=h;rw[az]at R;obtain⟨arr,rfl,aw⟩:=R;obtain⟨dE,g1,g2⟩:=zC ae U;have hl:=(ui aw).1;exact⟨arr.toList++dE,.fn (by simpa using hl.symm) g1,wE aw g2⟩
   .cases ae
  |_=>simp[lh]at ae
def SF (C:bz) (s:ag) (f:aR) (args:List aR) (K:j->ag->Prop):Prop:=
 ∃(g:FuncId) (caps as os:acj) (ps:List bX) (r:j),a7 s f= .fn g caps/\j.dj (ps.map (·.a))=true/\lh (dh as) (args.map (a7 s)++caps)=some (ps.map (·.a))/\(∀p∈ps,p.ok s)/\fL ps=true/\
  bb C g as r os/\eX as=ps.map (·.d)/\dh os=dh as/\eX os=ps.map (·.o)/\(h1 as&&nV as&&as.all j.fz&&(eX as).all j.fz&&(eX os).all j.fz)=true/\
  r.res=true/\(gE ps=true->r.b5=true/\∀p∈ps,p.g=true->p.o.b5=true)/\K r (eV (dx s ps) ps)
def SG (C:bz) (s:ag) (f:aR) (args:List aR) (K:j->ag->Prop):Prop:=
 ∃(x:Nat) (q:ace) (g:FuncId) (caps cos:acj) (ps:List bX) (r:j),a7 s f= .h x q/\j.sub q (s x)=some (.a8 g caps)/\ps.map (·.a)=args.map (a7 s)/\
  (∀p∈ps++[⟨.h x q,true,.a8 g caps,jz (.a8 g caps) (.a8 g cos)⟩],p.ok s)/\fL (ps++[⟨.h x q,true,.a8 g caps,jz (.a8 g caps) (.a8 g cos)⟩])=true/\
  bb C g (ps.map (·.d)++caps) r (ps.map (·.o)++cos)/\cos.length=caps.length/\(cos.all j.one&&caps.all j.fz&&cos.all j.fz&&(ps.all λp=>p.d.fz&&p.o.fz&&(dh [p.d]==[none])&&(dh [p.o]==[none])))=true/\
  r.res=true/\(gE ps=true->r.b5=true/\(∀p∈ps,p.g=true->p.o.b5=true)/\j.fU cos=true)/\
  K r (eV (dx s (ps++[⟨.h x q,true,.a8 g caps,jz (.a8 g caps) (.a8 g cos)⟩])) (ps++[⟨.h x q,true,.a8 g caps,jz (.a8 g caps) (.a8 g cos)⟩]))
theorem zD:∀{ds:acj},j.dj ds=true->∀d∈ds,d.plain=true
 |[],_,d,ad=>by cases ad
 |x::ds,h,d,ad=>by
  simp only[j.dj,Bool.and_eq_true]at h;rcases mem_cons.1 ad with rfl|ad
  .exact h.1
  .exact zD h.2 d ad
theorem Dy {r:j} (h:r.res=true):r.fz=true:=by
 cases r<;>first|rfl|(simp[j.res]at h)
theorem uP {T:Nat->Prop} {S:Nat->Nat->Prop} (h:∀b,T b->∃t,0<=t/\S t b):∀b,T b->∃t,S t b:=λb I=>by obtain⟨t,_,h⟩:=h b I;exact⟨t,h⟩
theorem uQ {ds:acj} {vs:ach}:∀(i:Nat) (d:j) (v:Value),ds[i]? =some d->vs[i]? =some v->eo ds (0+i)=d/\fi vs (0+i)=v:=by
 intro i d v ad aE;rw[Nat.zero_add];simp[eo,fi,getD_eq_getElem?_getD,ad,aE]
theorem SH (aD:bm w0 F0 X F S s an w) {g:FuncId} {ms as os:acj} {ps:List bX} {r:j} {vm:ach} (hm:cJ w F s an ms vm)
  (dQ:j.dj (ps.map (·.a))=true) (ae:lh (dh as) ms=some (ps.map (·.a))) (aw:∀p∈ps,p.ok s) (aQ:fL ps=true)
  (bk:bb C g as r os) (aH:eX as=ps.map (·.d)) (aN:dh os=dh as) (aP:eX os=ps.map (·.o)) (aj:(h1 as&&nV as&&as.all j.fz&&(eX as).all j.fz&&(eX os).all j.fz)=true)
  (bS:r.res=true) (bL:gE ps=true->r.b5=true/\∀p∈ps,p.g=true->p.o.b5=true):
  jA C.P g vm.toArray w λv au=>∃bh aG,bm w0 F0 X bh aG (eV (dx s ps) ps) an au/\iK w0 X bh aG (eV (dx s ps) ps) an au r v/\∀b,F b->bh b/\au.heap[b]? =w.heap[b]? :=by
 simp only[Bool.and_eq_true]at aj;obtain⟨⟨⟨⟨bK,bJ⟩,kI⟩,hz⟩,ka⟩:=aj;obtain⟨dE,bf,J⟩:=zC ae hm;obtain⟨eQ,l2⟩:=ui J;refine y8 (vm:=vm) (vs:=dE) (os:=ps.map (·.o)) aD (by simpa using eQ) (λi p ai=>⟨p.o,by simp[ai],.inl rfl⟩)
  (λi p v ai aE=>⟨zD dQ p.a (mem_map.2 ⟨p,mem_of_getElem? ai,rfl⟩),l2 i p.a v (by simp[ai]) aE⟩) aw aQ ?_ bS
  (λhle=>⟨(bL hle).1,λi p o ai a_ bo=>by
   rw[getElem?_map,ai]at a_;have:=Option.some.inj a_;subst this;exact(bL hle).2 p (mem_of_getElem? ai) bo⟩)
 intro Fc hX dd aZ ib ai;have hl:dE.length=(ps.map (·.d)).length:=by simpa using eQ.symm
 have cQ:=ai.sZ (ps.map (·.d)) dE 0 hl uQ;rw[<-aH]at cQ;have j7:=c_.me bf rfl bK bJ cQ;have bl:=c_.xk bf rfl bK hz j7 cQ;obtain⟨cI,cA⟩:=ai.uM bl (uP λb I=>I) kI;have hlen:vm.length=as.length:=bl.len;refine jA.mono (bk w Fc hX cI vm hlen ?_) ?_
 .exact {
   ff:=cA.ff
   fI:=cA.fI
   dP:=cA.dP
   dt:=cA.dt
   eh:=cA.eh
   dW:=cA.dW
   cS:=cA.cS
   cz:=cA.cz
   old:=cA.old
   size:=cA.size
   os:=cA.os
   tape:=cA.tape
   output:=cA.output
   fu:=cA.fu}
 .rintro v au ⟨bh,aG,h⟩;have k7:(v::vm).length=(r::os).length:=by
   have:os.length=as.length:=by
    have J:∀(xs:acj),(dh xs).length=xs.length:=by
     intro xs;induction xs with
     |nil=>rfl
     |cons x xs ih=>cases x<;>simp[dh,ih]
    rw[<-J os,aN,J as]
   simp[hlen,this]
  have eR:=h.sZ (r::os) (v::vm) 0 k7 uQ;obtain⟨dD,eg,en,eE,mv,z2,z3,z4,z5,xl⟩:=eR;simp only[cons.injEq]at mv;obtain⟨rfl,rfl⟩:=mv;obtain⟨eu,_⟩:=c_.xj bf aN z3;rw[aP]at eu;have ga:c_ au bh (r::ps.map (·.o)) (v::dE) (λb=>∃t,0<=t/\aG t b):=⟨v,dE,en,eE,rfl,z2,eu,z4,z5,xl⟩
  obtain⟨p6,fS⟩:=h.uM ga (uP λb I=>I) (by simp only[all_cons,Dy bS,Bool.true_and];rw[<-aP];exact ka);exact⟨bh,p6,fS⟩
theorem Dz:∀{ds:acj},(∀d∈ds,dh [d]=[none])->dh ds=replicate ds.length none/\eX ds=ds/\h1 ds=true
 |[],_=>⟨rfl,rfl,rfl⟩
 |d::ds,h=>by
  obtain⟨R,U,aw⟩:=Dz (ds:=ds) λx ae=>h x (by simp[ae]);have:=h d (by simp);cases d<;>simp[dh]at this<;>simp[dh,eX,h1,R,U,aw,replicate_succ]
theorem uR:∀(ds es:acj),dh (ds++es)=dh ds++dh es/\eX (ds++es)=eX ds++eX es/\h1 (ds++es)=(h1 ds&&h1 es)
 |[],es=>⟨rfl,rfl,by simp[h1]⟩
 |d::ds,es=>by
  obtain⟨R,U,aw⟩:=uR ds es;cases d<;>simp[dh,eX,h1,R,U,aw,Bool.and_assoc]
theorem KL:∀{k:Nat} {vs:ach},vs.length=k->∀{sh:List (Option (FuncId×Nat))} {us KM:ach},my sh us KM->my (replicate k none++sh) (vs++us) (vs++KM)
 |0,[],_,_,_,_,h=>h
 |k+1,v::vs,hl,_,_,_,h=>by
  rw[replicate_succ];exact .one (KL (by simpa using hl) h)
 |0,_::_,hl,_,_,_,_=>by simp at hl
 |_+1,[],hl,_,_,_,_=>by simp at hl
theorem SI (aD:bm w0 F0 X F S s an w) {x:Nat} {q:ace} {g:FuncId} {caps cos:acj} {ps:List bX} {r:j} {vs:ach} {rj:Value} (hm:cJ w F s an (ps.map (·.a)) vs) (SJ:j.dj (ps.map (·.a))=true)
  (aE:az w F s an (.h x q) rj (λ_=>False)) (cb:j.sub q (s x)=some (.a8 g caps))
  (aw:∀p∈ps++[⟨.h x q,true,.a8 g caps,jz (.a8 g caps) (.a8 g cos)⟩],p.ok s) (aQ:fL (ps++[⟨.h x q,true,.a8 g caps,jz (.a8 g caps) (.a8 g cos)⟩])=true)
  (bk:bb C g (ps.map (·.d)++caps) r (ps.map (·.o)++cos)) (rk:cos.length=caps.length)
  (aj:(cos.all j.one&&caps.all j.fz&&cos.all j.fz&&(ps.all λp=>p.d.fz&&p.o.fz&&(dh [p.d]==[none])&&(dh [p.o]==[none])))=true)
  (bS:r.res=true) (bL:gE ps=true->r.b5=true/\(∀p∈ps,p.g=true->p.o.b5=true)/\j.fU cos=true):
  ∃arr:Array Value,rj= .func (.func g) #[] arr/\jA C.P g (vs++arr.toList).toArray w λv au=>∃bh aG,
   bm w0 F0 X bh aG (eV (dx s (ps++[⟨.h x q,true,.a8 g caps,jz (.a8 g caps) (.a8 g cos)⟩])) (ps++[⟨.h x q,true,.a8 g caps,jz (.a8 g caps) (.a8 g cos)⟩])) an au/\
   iK w0 X bh aG (eV (dx s (ps++[⟨.h x q,true,.a8 g caps,jz (.a8 g caps) (.a8 g cos)⟩])) (ps++[⟨.h x q,true,.a8 g caps,jz (.a8 g caps) (.a8 g cos)⟩])) an au r v/\∀b,F b->bh b/\au.heap[b]? =w.heap[b]? :=by
 simp only[Bool.and_eq_true,List.all_eq_true,beq_iff_eq]at aj;obtain⟨⟨⟨bK,bJ⟩,kI⟩,hz⟩:=aj;have jv:=aE;rw[az]at jv;obtain⟨cn,bG,f1,f2,f3⟩:=jv _ cb rfl;have aK:=gN cb (.inl rfl);obtain⟨eZ,a2,dd,eG,k0,bO,b1,cX,cT,ev⟩:=ctx q (s x) (bZ (an x)) (S x) none _ ((az.b8 aK).1 (aD.cz x)).2 cb;rw[f1]at k0;simp only[Option.some.injEq,Prod.mk.injEq,true_and]at k0;obtain⟨rfl,rfl⟩:=k0;rw[al]at cT;obtain⟨arr,g1,g2,g3⟩:=cT;have SK:Value.ej rj=true:=f3;have KN:rj= .func (.func g) #[] arr:=by
  rw[g1,eH SK]at f2;simpa using f2
 refine⟨arr,KN,?_⟩;obtain⟨eQ,l2⟩:=ui hm;have q_:∀d∈ps.map (·.d),dh [d]=[none]:=λd ad=>by obtain⟨p,ai,rfl⟩:=mem_map.1 ad;exact(hz p ai).1.2
 have ic:∀d∈ps.map (·.o),dh [d]=[none]:=λd ad=>by obtain⟨p,ai,rfl⟩:=mem_map.1 ad;exact(hz p ai).2
 obtain⟨i_,b6,gG⟩:=Dz q_;obtain⟨m1,m2,m3⟩:=Dz ic;have nF:vs.length=ps.length:=by simpa using eQ.symm
 have ot:arr.toList.length=caps.length:=by
  have R:=aT.length _ _ _ g3;have:∀(cs:acj),(∀c∈cs,c.one=true)->j.di cs=cs.length:=by
   intro cs;induction cs with
   |nil=>intro _;rfl
   |cons c cs ih=>intro h;simp only[j.di,length_cons];rw[y7 (h c (by simp)),ih λd ad=>h d (by simp[ad])];omega
  rw[R,this caps g2]
 have KO:∀k,k=ps.length->my (replicate k none++[some (g,caps.length)]) (vs++[rj]) (vs++arr.toList):=by
  rintro k rfl;refine KL nF ?_;rw[KN];have:=my.fn (g:=g) (arr:=arr) (m:=caps.length) (by simpa using ot) my.nil;simpa using this
 refine y8 (vm:=vs++arr.toList) (vs:=vs++[rj]) (os:=ps.map (·.o)++[.a8 g cos]) aD (by simp[nF]) ?_ ?_ aw aQ ?_ bS ?_
 .intro i p ai;rcases Nat.lt_or_ge i ps.length with ax|ax
  .rw[getElem?_append_left ax]at ai;exact⟨p.o,by rw[getElem?_append_left (by simpa using ax)];simp[ai],.inl rfl⟩
  .rw[getElem?_append_right ax]at ai;have bD:i-ps.length=0:=by
    have:=(List.getElem?_eq_some_iff.1 ai).1;simp at this;omega
   rw[bD]at ai;simp only[getElem?_cons_zero,Option.some.injEq]at ai;subst ai;exact⟨.a8 g cos,by rw[getElem?_append_right (by simpa using ax)];simp[bD],.inr rfl⟩
 .intro i p v ai rl;rcases Nat.lt_or_ge i ps.length with ax|ax
  .rw[getElem?_append_left ax]at ai;rw[getElem?_append_left (by omega)]at rl;exact⟨zD SJ p.a (mem_map.2 ⟨p,mem_of_getElem? ai,rfl⟩),l2 i p.a v (by simp[ai]) rl⟩
  .rw[getElem?_append_right ax]at ai;rw[getElem?_append_right (by omega),nF]at rl;have bD:i-ps.length=0:=by
    have:=(List.getElem?_eq_some_iff.1 ai).1;simp at this;omega
   rw[bD]at ai rl;simp only[getElem?_cons_zero,Option.some.injEq]at ai rl;subst ai;subst rl;exact⟨rfl,aE⟩
 .intro Fc hX dd aZ ib ai;have aH:(ps++[(⟨.h x q,true,.a8 g caps,jz (.a8 g caps) (.a8 g cos)⟩:bX)]).map (·.d)=ps.map (·.d)++[.a8 g caps]:=by simp
  rw[aH]at ai;have cQ:=ai.sZ (ps.map (·.d)++[.a8 g caps]) (vs++[rj]) 0 (by simp[nF]) uQ;have k6:dh (ps.map (·.d)++[.a8 g caps])=replicate ps.length none++[some (g,caps.length)]:=by rw[(uR _ _).1,i_];simp[dh]
  have SL:eX (ps.map (·.d)++[.a8 g caps])=ps.map (·.d)++caps:=by rw[(uR _ _).2.1,b6];simp[eX]
  obtain⟨bl,j7⟩:=c_.xj (KO _ rfl) k6 cQ;rw[SL]at bl;obtain⟨cI,cA⟩:=ai.uM bl (uP λb I=>I) (by
   simp only[all_append,Bool.and_eq_true,List.all_eq_true];exact⟨λd ad=>by obtain⟨p,ai,rfl⟩:=mem_map.1 ad;exact(hz p ai).1.1.1,bJ⟩)
  refine jA.mono (bk w Fc hX cI (vs++arr.toList) bl.len cA) ?_;rintro v au ⟨bh,aG,h⟩;have eR:=h.sZ (r::(ps.map (·.o)++cos)) (v::(vs++arr.toList)) 0 (by simp[nF,ot,rk]) uQ;obtain⟨dD,eg,en,eE,mv,z2,z3,z4,z5,xl⟩:=eR;simp only[cons.injEq]at mv;obtain⟨rfl,rfl⟩:=mv;have bB:dh (ps.map (·.o)++[.a8 g cos])=replicate ps.length none++[some (g,caps.length)]:=by rw[(uR _ _).1,m1];simp[dh,rk]
  have KP:eX (ps.map (·.o)++[.a8 g cos])=ps.map (·.o)++cos:=by rw[(uR _ _).2.1,m2];simp[eX]
  have SM:h1 (ps.map (·.o)++[.a8 g cos])=true:=by
   rw[(uR _ _).2.2,m3];simp only[Bool.true_and,h1,Bool.and_true,List.all_eq_true];exact bK
  have xi:(ps.map (·.o)).all j.fz=true/\cos.all j.fz=true:=by
   simp only[List.all_eq_true];exact⟨λd ad=>by obtain⟨p,ai,rfl⟩:=mem_map.1 ad;exact(hz p ai).1.1.2,kI⟩
  have eu:=c_.xk (KO _ rfl) bB SM (by rw[KP,all_append,xi.1,xi.2];rfl) j7 (by rw[KP];exact z3);have ga:c_ au bh (r::(ps.map (·.o)++[.a8 g cos])) (v::(vs++[rj])) (λb=>∃t,0<=t/\aG t b):=⟨v,_,en,eE,rfl,z2,eu,z4,z5,xl⟩
  obtain⟨p6,fS⟩:=h.uM ga (uP λb I=>I) (by simp only[all_cons,all_append,Dy bS,xi.1,Bool.true_and,all_nil,Bool.and_true];rfl);exact⟨bh,p6,fS⟩
 .intro hle;have SN:gE ps=true:=by
   simp only[gE,List.any_eq_true]at hle⊢;obtain⟨p,ai,h⟩:=hle;rcases mem_append.1 ai with ai|ai
   .exact⟨p,ai,h⟩
   .simp only[mem_cons,not_mem_nil,or_false]at ai;subst ai;simp at h
  obtain⟨fy,hn,uS⟩:=bL SN;refine⟨fy,λi p o ai a_ bo=>?_⟩;rcases Nat.lt_or_ge i ps.length with ax|ax
  .rw[getElem?_append_left ax]at ai;rw[getElem?_append_left (by simpa using ax),getElem?_map,ai]at a_;have:=Option.some.inj a_;subst this;exact hn p (mem_of_getElem? ai) bo
  .rw[getElem?_append_right (by simpa using ax)]at a_;have bD:i-(ps.map (·.o)).length=0:=by
    have:=(List.getElem?_eq_some_iff.1 a_).1;simp at this⊢;omega
   rw[bD]at a_;have:=Option.some.inj a_;subst this;simpa [j.b5]using uS
def DA:j->Bool
 | .a8 _ _=>true
 |_=>false
def pE:List Bool->acj->acj
 |true::bs,.h x _::as=>.I x 0::pE bs as
 |_::bs,a::as=>a::pE bs as
 |_,as=>as
def mz:List Bool->acj->acj
 |true::bs,d::ds=>.cH d::mz bs ds
 |false::bs,d::ds=>d::mz bs ds
 |_,ds=>ds
def oE:List Bool->List bX->Bool
 |true::bs,p::ps=>(p.g&&(match p.a with| .h _ []=>true|_=>false)&&DA p.d&&DA p.o)&&oE bs ps
 |false::bs,_::ps=>oE bs ps
 |_,_=>true
inductive mA (w:World) (F:Nat->Prop):List Bool->ach->ach->Prop
 |nil {vs:ach}:mA w F [] vs vs
 |out {bs:List Bool}:mA w F bs [] []
 |no {bs:List Bool} {v:Value} {vs us:ach}:mA w F bs vs us->mA w F (false::bs) (v::vs) (v::us)
 |yes {bs:List Bool} {b:Nat} {v:Value} {e:TypeId} {fr:Nat×Nat} {vs us:ach}:F b->w.heap[b]? =some (.cells #[v] e fr)->Value.ej v=true->mA w F bs vs us->
   mA w F (true::bs) (v::vs) (.pointer (some ⟨b,0,none⟩)::us)
theorem DB {d:j} (h:DA d=true):∃g c,d= .a8 g c:=by
 cases d with
 |a8 g c=>exact⟨g,c,rfl⟩
 |_=>cases h
theorem mA.mono {w au:World} {F bh:Nat->Prop} (aZ:∀b,F b->bh b/\au.heap[b]? =w.heap[b]?):∀{bs:List Bool} {vs us:ach},mA w F bs vs us->mA au bh bs vs us
 |_,_,_,.nil=>.nil
 |_,_,_,.out=>.out
 |_,_,_,.no h=>.no (mA.mono aZ h)
 |_,_,_,.yes R U aw h=>.yes (aZ _ R).1 ((aZ _ R).2.trans U) aw (mA.mono aZ h)
theorem KQ:∀bs:List Bool,mz bs []=[]
 |[]=>rfl
 |true::_=>rfl
 |false::_=>rfl
theorem SO:∀(bs:List Bool) (d:j) (ds:acj),∃e es,mz bs (d::ds)=e::es
 |[],d,ds=>⟨d,ds,rfl⟩
 |true::bs,d,ds=>⟨_,_,rfl⟩
 |false::bs,d,ds=>⟨_,_,rfl⟩
theorem c_.box:∀{bs:List Bool} {vs us:ach},mA w F bs vs us->∀{ps:List bX} {T:Nat->Prop},oE bs ps=true->c_ w F (ps.map (·.d)) vs T->c_ w F (mz bs (ps.map (·.d))) us T
 |_,_,_,.nil,ps,T,_,h=>by simpa [mz]using h
 |_,_,_,.out (bs:=bs),[],T,_,h=>by rw[map_nil,KQ];exact h
 |_,_,_,.out,p::ps,T,_,h=>by
  obtain⟨dD,eg,en,eE,aH,_⟩:=h;exact absurd aH (by simp)
 |_,_,_,.no I,[],T,_,h=>by cases(show _=([]:ach)from h)
 |_,_,_,.no I,p::ps,T,ak,h=>by
  obtain⟨dD,eg,en,eE,aH,aN,aP,bQ,b_,bM⟩:=h;simp only[cons.injEq]at aH;obtain⟨rfl,rfl⟩:=aH;exact⟨_,_,en,eE,rfl,aN,c_.box I ak aP,bQ,b_,bM⟩
 |_,_,_,.yes R U aw I,[],T,_,h=>by cases(show _=([]:ach)from h)
 |_,_,_,.yes (b:=b) (e:=e) (fr:=fr) R U aw I,p::ps,T,ak,h=>by
  obtain⟨dD,eg,en,eE,aH,aN,aP,bQ,b_,bM⟩:=h;simp only[cons.injEq]at aH;obtain⟨rfl,rfl⟩:=aH;simp only[oE,Bool.and_eq_true]at ak;obtain⟨g,c,ad⟩:=DB ak.1.1.2;have y2:=aN (by simp only[ad];rfl);rw[eH aw]at y2;refine⟨_,_,en,eE,rfl,λ_=>⟨rfl,?_⟩,c_.box I ak.2 aP,bQ,b_,bM⟩;rw[eH rfl,al];exact⟨b,_,e,fr,rfl,R,U,y2.2⟩
theorem c_.unbox:∀{bs:List Bool} {vs us:ach},mA w F bs vs us->∀{ps:List bX} {T:Nat->Prop},oE bs ps=true->c_ w F (mz bs (ps.map (·.o))) us T->c_ w F (ps.map (·.o)) vs T
 |_,_,_,.nil,ps,T,_,h=>by simpa [mz]using h
 |_,_,_,.out (bs:=bs),[],T,_,h=>by rw[map_nil,KQ]at h;exact h
 |_,_,_,.out (bs:=bs),p::ps,T,_,h=>by
  obtain⟨d,ds,ad⟩:=SO bs p.o (ps.map (·.o));rw[map_cons,ad]at h;obtain⟨dD,eg,en,eE,aH,_⟩:=h;exact absurd aH (by simp)
 |_,_,_,.no I,[],T,_,h=>by cases(show _=([]:ach)from h)
 |_,_,_,.no I,p::ps,T,ak,h=>by
  obtain⟨dD,eg,en,eE,aH,aN,aP,bQ,b_,bM⟩:=h;simp only[cons.injEq]at aH;obtain⟨rfl,rfl⟩:=aH;exact⟨_,_,en,eE,rfl,aN,c_.unbox I ak aP,bQ,b_,bM⟩
 |_,_,_,.yes R U aw I,[],T,_,h=>by cases(show _=([]:ach)from h)
 |_,_,_,.yes (b:=b) (v:=v0) (e:=e) (fr:=fr) R U aw I,p::ps,T,ak,h=>by
  obtain⟨dD,eg,en,eE,aH,aN,aP,bQ,b_,bM⟩:=h;simp only[cons.injEq]at aH;obtain⟨rfl,rfl⟩:=aH;simp only[oE,Bool.and_eq_true]at ak;obtain⟨g,c,ad⟩:=DB ak.1.2;obtain⟨_,q⟩:=aN rfl;rw[eH rfl,al]at q;obtain⟨eA,dD,fH,yA,eR,eu,ga,fS⟩:=q;simp only[cons.injEq,Value.pointer.injEq,Option.some.injEq,and_true]at eR;injection eR with eR _ _;subst eR;rw[U]at ga;simp only[Option.some.injEq,Obj.cells.injEq]at ga;have aE:dD=v0:=by
   have:=ga.1;simpa using this.symm
  subst aE;exact⟨_,_,en,eE,rfl,λ_=>⟨by show cU p.o _;rw[ad];exact aw,by rw[eH aw];exact fS⟩,c_.unbox I ak.2 aP,bQ,b_,bM⟩
theorem DC (aD:bm w0 F0 X F S s an w):∀{bs:List Bool} {ps:List bX} {us:ach},oE bs ps=true->(∀p∈ps,p.ok s)->cJ w F s an (pE bs (ps.map (·.a))) us->
  ∃vs,mA w F bs vs us/\cJ w F s an (ps.map (·.a)) vs
 |[],ps,us,_,_,h=>⟨us,.nil,by cases ps<;>simpa [pE]using h⟩
 |b::bs,[],us,_,_,h=>by
  have:us=[]:=by cases b<;>simpa [pE,cJ]using h
  subst this;exact⟨[],.out,by rw[map_nil,cJ]⟩
 |false::bs,p::ps,us,ak,a_,h=>by
  simp only[map_cons,pE]at h;rw[cJ]at h;obtain⟨v,SP,rfl,R,U⟩:=h;obtain⟨vs,g1,g2⟩:=DC aD (bs:=bs) (ps:=ps) ak (λq cb=>a_ q (by simp[cb])) U;exact⟨v::vs,.no g1,by rw[map_cons,cJ];exact⟨v,vs,rfl,R,g2⟩⟩
 |true::bs,p::ps,us,ak,a_,h=>by
  simp only[oE,Bool.and_eq_true]at ak;obtain⟨⟨⟨⟨bO,b1⟩,cX⟩,cT⟩,ev⟩:=ak;obtain⟨a,aba,d,o⟩:=p;simp only at bO b1 cX cT;subst bO;have SQ:∃x,a= .h x []:=by
   cases a with
   |h x q=>cases q with
    |nil=>exact⟨x,rfl⟩
    |cons _ _=>cases b1
   |_=>cases b1
  obtain⟨x,rfl⟩:=SQ;have ai:=a_ _ (mem_cons_self ..);simp only[bX.ok,if_true,j.sub,Option.some.injEq]at ai;obtain⟨g,c,rfl⟩:=DB cX;have q6:s x= .a8 g c:=ai.1;simp only[map_cons,pE]at h;rw[cJ]at h;obtain⟨v,SP,rfl,R,U⟩:=h;obtain⟨vs,g1,g2⟩:=DC aD (bs:=bs) (ps:=ps) ev (λq cb=>a_ q (by simp[cb])) U;rw[az]at R;obtain⟨b,cur,e,fr,rfl,mv,z2,z3⟩:=R (by rw[q6];rfl);have ae:=(az.b8 (by rw[q6];rfl)).1 (aD.cz x);rw[q6]at ae;have j7:Value.ej (an x)=true:=ae.1;rw[eH j7]at z3;have jM:cur= #[an x]:=by apply Array.ext';simpa using z3
  subst jM;refine⟨an x::vs,.yes mv z2 j7 g1,?_⟩;rw[map_cons,cJ];refine⟨an x,vs,rfl,?_,g2⟩;rw[az];intro bd fQ _;simp only[j.sub,Option.some.injEq]at fQ;subst fQ;exact⟨_,none,rfl,rfl,by rw[q6];exact ae.1⟩
theorem SR (aD:bm w0 F0 X F S s an w) {g:FuncId} {ms as os:acj} {ps:List bX} {bs:List Bool} {r:j} {vm:ach} (hm:cJ w F s an ms vm)
  (dQ:j.dj (ps.map (·.a))=true) (ae:lh (dh as) ms=some (pE bs (ps.map (·.a)))) (ak:oE bs ps=true) (aw:∀p∈ps,p.ok s) (aQ:fL ps=true)
  (bk:bb C g as r os) (aH:eX as=mz bs (ps.map (·.d))) (aN:dh os=dh as) (aP:eX os=mz bs (ps.map (·.o))) (aj:(h1 as&&nV as&&as.all j.fz&&(eX as).all j.fz&&(ps.map (·.o)).all j.fz)=true)
  (bS:r.res=true) (bL:gE ps=true->r.b5=true/\∀p∈ps,p.g=true->p.o.b5=true):
  jA C.P g vm.toArray w λv au=>∃bh aG,bm w0 F0 X bh aG (eV (dx s ps) ps) an au/\iK w0 X bh aG (eV (dx s ps) ps) an au r v/\∀b,F b->bh b/\au.heap[b]? =w.heap[b]? :=by
 simp only[Bool.and_eq_true]at aj;obtain⟨⟨⟨⟨bK,bJ⟩,kI⟩,hz⟩,ka⟩:=aj;obtain⟨dE,bf,hY⟩:=zC ae hm;obtain⟨gC,pb,J⟩:=DC aD ak aw hY;obtain⟨eQ,l2⟩:=ui J;refine y8 (vm:=vm) (vs:=gC) (os:=ps.map (·.o)) aD (by simpa using eQ) (λi p ai=>⟨p.o,by simp[ai],.inl rfl⟩)
  (λi p v ai aE=>⟨zD dQ p.a (mem_map.2 ⟨p,mem_of_getElem? ai,rfl⟩),l2 i p.a v (by simp[ai]) aE⟩) aw aQ ?_ bS
  (λhle=>⟨(bL hle).1,λi p o ai a_ bo=>by
   rw[getElem?_map,ai]at a_;have:=Option.some.inj a_;subst this;exact(bL hle).2 p (mem_of_getElem? ai) bo⟩)
 intro Fc hX dd aZ ib ai;have hl:gC.length=(ps.map (·.d)).length:=by simpa using eQ.symm
 have cQ:=c_.box (pb.mono (au:=w) λb I=>⟨aZ b I,rfl⟩) ak (ai.sZ (ps.map (·.d)) gC 0 hl uQ);rw[<-aH]at cQ;have j7:=c_.me bf rfl bK bJ cQ;have bl:=c_.xk bf rfl bK hz j7 cQ;obtain⟨cI,cA⟩:=ai.uM bl (uP λb I=>I) kI;have hlen:vm.length=as.length:=bl.len;refine jA.mono (bk w Fc hX cI vm hlen ?_) ?_
 .exact {
   ff:=cA.ff
   fI:=cA.fI
   dP:=cA.dP
   dt:=cA.dt
   eh:=cA.eh
   dW:=cA.dW
   cS:=cA.cS
   cz:=cA.cz
   old:=cA.old
   size:=cA.size
   os:=cA.os
   tape:=cA.tape
   output:=cA.output
   fu:=cA.fu}
 .rintro v au ⟨bh,aG,h⟩;have k7:(v::vm).length=(r::os).length:=by
   have:os.length=as.length:=by
    have J:∀(xs:acj),(dh xs).length=xs.length:=by
     intro xs;induction xs with
     |nil=>rfl
     |cons x xs ih=>cases x<;>simp[dh,ih]
    rw[<-J os,aN,J as]
   simp[hlen,this]
  have eR:=h.sZ (r::os) (v::vm) 0 k7 uQ;obtain⟨dD,eg,en,eE,mv,z2,z3,z4,z5,xl⟩:=eR;simp only[cons.injEq]at mv;obtain⟨rfl,rfl⟩:=mv;obtain⟨eu,_⟩:=c_.xj bf aN z3;rw[aP]at eu;have eu:=c_.unbox (pb.mono (au:=au) λb I=>⟨h.ff b (aZ b I),h.old b (aD.dP b I) λae=>by obtain⟨u,hu⟩:=ib b ae;exact aD.eh u b hu I⟩) ak eu;have ga:c_ au bh (r::ps.map (·.o)) (v::gC) (λb=>∃t,0<=t/\aG t b):=⟨v,gC,en,eE,rfl,z2,eu,z4,z5,xl⟩
  obtain⟨p6,fS⟩:=h.uM ga (uP λb I=>I) (by simp only[all_cons,Dy bS,Bool.true_and];exact ka);exact⟨bh,p6,fS⟩
def SS (C:bz) (s:ag) (f:aR) (args:List aR) (K:j->ag->Prop):Prop:=
 ∃(g:FuncId) (caps as os:acj) (ps:List bX) (bs:List Bool) (r:j),a7 s f= .fn g caps/\j.dj (ps.map (·.a))=true/\lh (dh as) (args.map (a7 s)++caps)=some (pE bs (ps.map (·.a)))/\oE bs ps=true/\(∀p∈ps,p.ok s)/\fL ps=true/\
  bb C g as r os/\eX as=mz bs (ps.map (·.d))/\dh os=dh as/\eX os=mz bs (ps.map (·.o))/\(h1 as&&nV as&&as.all j.fz&&(eX as).all j.fz&&(ps.map (·.o)).all j.fz)=true/\
  r.res=true/\(gE ps=true->r.b5=true/\∀p∈ps,p.g=true->p.o.b5=true)/\K r (eV (dx s ps) ps)
def jW (C:bz) (s:ag) (f:aR) (args:List aR) (K:j->ag->Prop):Prop:=SF C s f args K\/SG C s f args K\/SS C s f args K
theorem KR (a1:C.du) (h:Rel w0 F0 X n ρ s a w) {o:Oper} {f:aR} {args:List aR} (bB:cB o.op=some (.call f args)) (ad:jB n o.dst=true) {K:j->ag->Prop} {next:Act->World->Prop}
  (hw:jW C s f args K) (aO:∀av s1 bG au,K av s1->Rel w0 F0 X n ρ (fin s1 o.dst av) bG au->next bG au):o.wp C.P a w next Q:=by
 obtain⟨hJ,dm,gF,F,S,aD⟩:=h;obtain⟨dst,op,ty,pos,after,guard⟩:=o;simp only at bB ad aO;cases op with
 |call c=>
  obtain⟨callee,la,argTypes⟩:=c;simp only[cB]at bB;split at bB
  .split at bB
   .rename_i qd _ _ Ii xs bf mP;simp only[Option.some.injEq,de.call.injEq]at bB;obtain⟨rfl,rfl⟩:=bB;obtain⟨f1,f2⟩:=eB aD (λ_=>rfl) bf;have jR:=wm aD (λ_=>rfl) _ _ (qa mP);have main:∀(g:FuncId) (arr:Array Value) (r:j) (s2:ag),a.eval qd= .func (.func g) #[] arr->
      (jA C.P g (la.toList.map a.eval++arr.toList).toArray w λv au=>∃bh aG,bm w0 F0 X bh aG s2 (λt=>a.tmps.getD t undef) au/\iK w0 X bh aG s2 (λt=>a.tmps.getD t undef) au r v/\∀b,F b->bh b/\au.heap[b]? =w.heap[b]?)->
      K r s2->({dst,op:=.call {callee:=.value qd,args:=la,argTypes},type:=ty,pos,after,guard}:Oper).wp C.P a w next Q:=by
     intro g arr r s2 sg bo ak;have om:execOp a.eval {dst,op:=.call {callee:=.value qd,args:=la,argTypes},type:=ty,pos,after,guard}=callFunc g ((la.toList.map a.eval++arr.toList).toArray):=by
      simp only[execOp,resolve,sg,Deferred.ofValue,pure_bind,invoke];congr 1;apply Array.ext';simp
     unfold Oper.wp;rw[om];rcases bo with⟨cQ,bl⟩|⟨v,au,cQ,bh,aG,bl,cA,cc⟩
     .rw[cQ,Oper.upon_enter];refine Calls.mono bl ?_;rintro e au ⟨v,rfl,bh,aG,bO,b1,cX⟩;exact aO _ _ _ _ ak (Rel.put hJ dm gF bO b1 ad)
     .rw[cQ,Oper.upon_value];exact aO _ _ _ _ ak (Rel.put hJ dm gF bl cA ad)
    rcases hw with⟨g,caps,as,os,ps,r,R,dQ,ae,aw,aQ,bk,aH,aN,aP,aj,bS,bL,da⟩|⟨x,q,g,caps,cos,ps,r,R,cb,U,aw,aQ,bk,rk,aj,bS,bL,da⟩|⟨g,caps,as,os,ps,bs,r,R,dQ,ae,ak,aw,aQ,bk,aH,aN,aP,aj,bS,bL,da⟩
    .rw[R,az]at f2;obtain⟨arr,f3,f4⟩:=f2;exact main g arr r _ f3 (SH aD (wE jR f4) dQ ae aw aQ bk aH aN aP aj bS bL) da
    .rw[R]at f2;rw[<-U]at jR;have dQ:j.dj (ps.map (·.a))=true:=by
      have key:∀(xs:List aR) (os:List Operand),os.map c2=xs.map some->j.dj (xs.map (a7 s))=true:=by
       intro xs;induction xs with
       |nil=>intro _ _;rfl
       |cons x xs ih=>
        intro os a_;cases os with
        |nil=>simp at a_
        |cons o os=>
         simp only[map_cons,cons.injEq]at a_;simp only[map_cons,j.dj,Bool.and_eq_true];exact⟨(eB aD (λ_=>rfl) a_.1).1,ih os a_.2⟩
      rw[U];exact key _ _ (qa mP)
     obtain⟨arr,g1,g2⟩:=SI aD jR dQ f2 cb aw aQ bk rk aj bS bL;exact main g arr r _ g1 g2 da
    .rw[R,az]at f2;obtain⟨arr,f3,f4⟩:=f2;exact main g arr r _ f3 (SR aD (wE jR f4) dQ ae ak aw aQ bk aH aN aP aj bS bL) da
   .cases bB
  .split at bB
   .simp only[Option.map_eq_some_iff]at bB;obtain⟨_,_,bB⟩:=bB;cases bB
   .cases bB
  .split at bB
   .simp only[Option.map_eq_some_iff]at bB;obtain⟨_,_,bB⟩:=bB;cases bB
   .cases bB
  iterate 3
   .split at bB
    .split at bB<;>cases bB
    .cases bB
  .cases bB
 |makeFunc fn first cs=>
  cases fn<;>simp only[cB]at bB<;>first|(cases bB;done)|(split at bB<;>simp at bB)
 |slice T x dY ax gz=>
  cases gz<;>simp only[cB]at bB<;>first|(cases bB;done)|(split at bB<;>simp at bB)
 |makeMap T r=>cases r<;>simp only[cB]at bB<;>simp at bB
 |lookup T x i c=>cases c<;>simp only[cB]at bB<;>first|(cases bB;done)|(split at bB<;>simp at bB)
 |_=>simp only[cB]at bB<;>first|(cases bB;done)|(simp at bB;done)|(split at bB<;>simp at bB)
theorem SU (a1:C.du) {id:Nat} {ops:Array Oper} {m rest:List bn} {f:aR} {args:List aR} {d1:Option Nat} {K:ag->Prop}
  (iO:jC n ops ops.toList=some ((m++⟨d1,.call f args,none⟩::rest:List bn).map bn.un)) (aD:Rel w0 F0 X n ρ s a w)
  (h:hp C s m λs1=>jW C s1 f args λr s2=>hp C (fin s2 d1 r) rest K)
  (aO:∀aq bG au,K aq->Rel w0 F0 X n ρ aq bG au->Q .normal bG au):(Code.region id ops false).wp C.P Q a w:=by
 obtain⟨hl,kb⟩:=uk iO;have w9:∀(i:Nat) (r:bn),(m++⟨d1,.call f args,none⟩::rest:List bn)[i]? =some r->∃o,ops[i]? =some o/\jT n ops o=some r.un:=by
  intro i r ax;have cW:i<ops.toList.length:=by
   rw[hl,length_map];exact(List.getElem?_eq_some_iff.1 ax).1
  obtain⟨gl,R,U⟩:=kb i _ (getElem?_eq_getElem cW);rw[getElem?_map,ax]at R;simp only[Option.map_some,Option.some.injEq]at R;exact⟨_,by rw[<-Array.getElem?_toList];exact getElem?_eq_getElem cW,by rw[R];exact U⟩
 have uJ:ops.size=m.length+rest.length+1:=by
  have:ops.toList.length=ops.size:=by simp
  rw[<-this,hl];simp;omega
 have w_:range ops.size=(range m.length).map (·+0)++(m.length::(range rest.length).map (·+(m.length+1))):=by
  rw[uJ,show m.length+rest.length+1=m.length+(rest.length+1) by omega,range_add,range_succ_eq_map];simp only[List.map_map,map_cons,Nat.add_zero,List.map_id'];congr 1;congr 1;apply map_congr_left;intro x _;simp;omega
 refine wp_region ?_;rw[w_];have hw:=uH C _ m [] (⟨d1,.call f args,none⟩::rest) _ h;have ss:∀aq bG au,hp C aq rest K->Rel w0 F0 X n ρ aq bG au->wpOps C.P ops Q ((range rest.length).map (·+(m.length+1))) bG au:=by
  intro fD a3 mu aw sS;have pq:=uH C K rest (m++[⟨d1,.call f args,none⟩]) [] fD aw;have:=sB (Q:=Q) a1 (ops:=ops) (ros:=(m++[⟨d1,.call f args,none⟩])++(rest++[])) (l2:=[]) (K:=K) (λaq bG au iM c3=>aO aq bG au iM c3) ((range rest.length).map (·+(m.length+1))) (λi ax=>by
   have qg:(m++[⟨d1,.call f args,none⟩])++(rest++[])=(m++⟨d1,.call f args,none⟩::rest:List bn):=by simp
   rw[qg];refine⟨λic=>?_,λo a_=>?_⟩
   .rw[List.getElem?_eq_none_iff];have:=Array.getElem?_eq_none_iff.1 ic;simp;omega
   .obtain⟨aF,gu,U⟩:=kb i o (by simpa using a_);obtain⟨r,R,rfl⟩:∃r,(m++⟨d1,.call f args,none⟩::rest:List bn)[i]? =some r/\r.un=aF:=by
     rw[getElem?_map,Option.map_eq_some_iff]at gu;exact gu
    exact⟨r,R,U⟩) fD a3 mu (by
   have e:(m++[⟨d1,.call f args,none⟩]:List bn).length=m.length+1:=by simp
   rw[e]at pq;exact pq) sS
  simpa using this
 have mid:∀aq bG au,(jW C aq f args λr s2=>hp C (fin s2 d1 r) rest K)->Rel w0 F0 X n ρ aq bG au->wpOps C.P ops Q (m.length::(range rest.length).map (·+(m.length+1))) bG au:=by
  intro s2 a2 lP ae wU;obtain⟨lQ,sR,ma⟩:=w9 m.length ⟨d1,.call f args,none⟩ (by simp);obtain⟨e0,f_,gA,tT⟩:=uI rfl ma;change oj lQ.op= .call f args at gA;have xb:cB lQ.op=some (.call f args):=by
   rcases pj gA with h|h
   .cases h
   .exact h
  have xc:lQ.dst=d1:=e0.symm;exact Ku sR f_ (KR a1 wU xb tT ae λav s1 bG au ak c3=>ss _ _ _ ak (by rw[<-xc];exact c3))
 have:=sB (Q:=Q) a1 (ops:=ops) (ros:=[]++(m++⟨d1,.call f args,none⟩::rest)) (l2:=m.length::(range rest.length).map (·+(m.length+1))) mid
  ((range m.length).map (·+0)) (λi ax=>by
    obtain⟨aB,cp,rfl⟩:=mem_map.1 ax;have uK:aB<m.length:=mem_range.1 cp;refine⟨λic=>?_,λo a_=>?_⟩
    .have:=Array.getElem?_eq_none_iff.1 ic;omega
    .obtain⟨aF,gu,U⟩:=kb (aB+0) o (by simpa using a_);obtain⟨r,R,rfl⟩:∃r,(m++⟨d1,.call f args,none⟩::rest:List bn)[aB+0]? =some r/\r.un=aF:=by
      rw[getElem?_map,Option.map_eq_some_iff]at gu;exact gu
     exact⟨r,by simpa using R,U⟩) s a w hw aD
 exact this
def rm (C:bz) (m:List bn) (f:aR) (args:List aR) (d1:Option Nat) (rest:List bn) (keep:ace):(Exit->ag->Prop)->ag->Prop:=
 λQ s=>ch C s m none λ_ s1=>jW C s1 f args λr s2=>ch C (fin s2 d1 r) rest none λ_ fD=>c1 (Q .normal) (ah (eM keep fD))
def zE (m:List bn) (f:aR) (args:List aR) (d1:Option Nat) (rest:List bn):aI:=.dJ (m++⟨d1,.call f args,none⟩::rest) none
def uT (C:bz) (T:(Exit->ag->Prop)->ag->Prop) (b:aI):Prop:=
 ∃(m:List bn) (f:aR) (args:List aR) (d1:Option Nat) (rest:List bn) (keep:ace),T=rm C m f args d1 rest keep/\b=zE m f args d1 rest
end
section
variable {C:bz} {w0 w:World} {F0 X:Nat->Prop} {n:Fr} {ρ:Nat->Value} {s:ag} {a:Act}
theorem KS {f:aR} {args:List aR} {K cN:j->ag->Prop} (ak:∀r s,K r s->cN r s) (h:jW C s f args K):jW C s f args cN:=by
 rcases h with⟨g,caps,as,os,ps,r,R,dQ,ae,aw,aQ,bk,aH,aN,aP,aj,bS,bL,da⟩|⟨x,q,g,caps,cos,ps,r,R,cb,U,aw,aQ,bk,rk,aj,bS,bL,da⟩|⟨g,caps,as,os,ps,bs,r,R,dQ,ae,iM,aw,aQ,bk,aH,aN,aP,aj,bS,bL,da⟩
 .exact .inl ⟨g,caps,as,os,ps,r,R,dQ,ae,aw,aQ,bk,aH,aN,aP,aj,bS,bL,ak _ _ da⟩
 .exact .inr (.inl ⟨x,q,g,caps,cos,ps,r,R,cb,U,aw,aQ,bk,rk,aj,bS,bL,ak _ _ da⟩)
 .exact .inr (.inr ⟨g,caps,as,os,ps,bs,r,R,dQ,ae,iM,aw,aQ,bk,aH,aN,aP,aj,bS,bL,ak _ _ da⟩)
theorem SV (a1:C.du) {c:Code} {T:(Exit->ag->Prop)->ag->Prop} {b:aI} {Q:Exit->ag->Prop} (el:uT C T b) (J:eI n c=some b.strip) (h:T Q s) (aD:Rel w0 F0 X n ρ s a w):
  c.wp C.P (mQ w0 F0 X n ρ Q) a w:=by
 obtain⟨m,f,args,d1,rest,keep,rfl,rfl⟩:=el;obtain⟨id,ops,rfl,iO⟩:=zx J;refine SU (Q:=mQ w0 F0 X n ρ Q) (K:=c1 (c1 (Q .normal))) a1 iO aD (pt (λ_ s1 ae=>KS (λr s2 h=>pt (λ_ s h=>.inr ⟨_,zw _ _,h⟩) h) ae) h) λaq bG au ak c3=>?_;obtain⟨s2,U,bl⟩:=c3.c1 ak;exact bl.c1 U
theorem bb.DD (a1:C.du) {f:FuncId} {fn:Func} {c:Code} {df:aI} {fx:ace} {as outs:acj} {r:j} (dw:List ResultVar) (l:aci) (bf:C.P.funcs[f]? =some fn) (I:fn.body=some c)
  (i7:(fn.name== "runtime.NumGoroutine")=false) (J:eI ⟨fn.ntmps,fx⟩ c=some df.strip) (aO:as.length<=fn.ntmps) (ak:df.kc (uT C)) (eO:fn.results.toList=dw) (hl:num 0 as=l)
  (h:∀Q:Exit->ag->Prop,(∀s,c1 (Ends C fx dw r outs) s->Q .ret s)->(∀s,c1 (Ends C fx dw r outs) s->Q .normal s)->bw C df Q (ah l)):bb C f as r outs:=by
 subst eO hl;intro w F X S vs hl aD;refine wT (fx:=fx) a1 bf I i7 aO hl aD λa hrel dv=>?_;refine wR a1 (H:=uT C) (λc T b Q s a w e1 nT aK aD=>SV a1 e1 nT aK aD) c (by rw[aI.wN];exact J) (aI.wO df ak) (wQ df ?_) hrel;rw[wV];exact h _ (λs h=>⟨.inr rfl,h⟩) (λs h=>⟨.inl rfl,h⟩)
end
theorem pF:(∀t f c,kC t (.a8 f c)= .h t [])/\(∀(l:aci) t f c,fin (ah l) (some t) (.a8 f c)=ah ((t,.a8 f c)::ov t l))/\(∀f c,j.plain (.a8 f c)=false)/\(∀t f c,cj t (.a8 f c)= .a8 f c)/\(∀t f c,bU t (.a8 f c)= .a8 f c)/\
  (∀f c,j.cv (.a8 f c)= .hole)/\(∀f c,j.wd (.a8 f c)=1)/\(∀f c,j.fh (.a8 f c)=true)/\(∀f c g e,pg (.a8 f c) (.a8 g e)=true)/\(∀s x q d f c,bX.ho s ⟨.h x q,true,d,.a8 f c⟩=cw (jP x s) x (j.put q (.a8 f c) (s x)))/\(∀f c,j.J (.a8 f c)=[])/\(∀f c,j.tree (.a8 f c)=true)/\(∀f c,j.owner (.a8 f c)=none)/\
  (∀f ds g us,jz (.a8 f ds) (.a8 g us)= .a8 g (im ds us))/\(∀us,im [] us=us)/\(∀d ds us,im (d::ds) (.hole::us)=(if d.plain=true then d else .hole)::im ds us)/\(∀d ds x us,im (d::ds) (.aV x::us)= .aV x::im ds us)/\(∀d ds x us,im (d::ds) (.ref x::us)= .ref x::im ds us)/\
  (∀d ds n x us,im (d::ds) (.ao n x::us)= .ao n x::im ds us)/\(∀d,j.plain (.ref d)=true)/\(∀f c,j.b5 (.a8 f c)=j.fU c):=
 ⟨λ_ _ _=>rfl,λl t f c=>by simp only[fin,j.plain,Bool.false_eq_true,if_false,sE,po],λ_ _=>rfl,λ_ _ _=>by unfold cj;rfl,λ_ _ _=>by unfold bU;rfl,λ_ _=>by simp only[j.cv],λ_ _=>by simp only[j.wd],λ_ _=>rfl,λ_ _ _ _=>rfl,λ_ _ _ _ _ _=>by simp[bX.ho],λ_ _=>by simp only[j.J],λ_ _=>rfl,λ_ _=>rfl,
  λ_ _ _ _=>rfl,λus=>by cases us<;>rfl,λ_ _ _=>rfl,λ_ _ _ _=>rfl,λ_ _ _ _=>rfl,λ_ _ _ _ _=>rfl,λ_=>rfl,λ_ _=>rfl⟩
def rn:List bX->Bool
 |[]=>true
 |p::ps=>(!p.g||p.o.b5)&&rn ps
theorem zF:∀{ps:List bX},rn ps=true->∀p∈ps,p.g=true->p.o.b5=true
 |[],_,p,ai,_=>by cases ai
 |q::ps,h,p,ai,bo=>by
  simp only[rn,Bool.and_eq_true,Bool.or_eq_true,Bool.not_eq_true']at h;rcases mem_cons.1 ai with rfl|ai
  .rcases h.1 with h|h
   .rw[h]at bo;cases bo
   .exact h
  .exact zF h.2 p ai bo
theorem KT {C:bz} {Q:Exit->ag->Prop} {l:aci} {m:List bn} {f:aR} {args:List aR} {d1:Option Nat} {rest:List bn} {keep:ace} {b:aI} (bR:aci)
  (h:∀P:aci->Prop,P bR->ch C (ah l) m none λ_ s1=>jW C s1 f args λr s2=>ch C (fin s2 d1 r) rest none λ_ fD=>P (eM keep fD)) (ak:c1 (Q .normal) (ah bR)):bw C (.fM (rm C m f args d1 rest keep) b) Q (ah l):=
 λdy xm=>h (λl=>c1 (dy .normal) (ah l)) (qf (λ_ h=>xm _ _ h) _ ak)
theorem KU {C:bz} {Q:Exit->ag->Prop} {l:aci} {m:List bn} {f:aR} {args:List aR} {d1:Option Nat} {rest:List bn} {keep:ace} {b:aI} (bR:aci)
  (h:∀P:aci->Prop,P bR->ch C (ah l) m none λ_ s1=>jW C s1 f args λr s2=>ch C (fin s2 d1 r) rest none λ_ fD=>P (eM keep fD)) (ak:Q .normal (ah bR)):bw C (.fM (rm C m f args d1 rest keep) b) Q (ah l):=
 KT (b:=b) bR h (.inl ak)
theorem SW {C:bz} {Q:Exit->ag->Prop} {l:aci} {m:List bn} {f:aR} {args:List aR} {d1:Option Nat} {rest:List bn} {keep:ace} {b e:aI} (bR:aci)
  (h:∀P:aci->Prop,P bR->ch C (ah l) m none λ_ s1=>jW C s1 f args λr s2=>ch C (fin s2 d1 r) rest none λ_ fD=>P (eM keep fD)) (ak:c1 (bw C e Q) (ah bR)):bw C (.seq (.fM (rm C m f args d1 rest keep) b) e) Q (ah l):=
 KT (b:=b) bR h (.inl ak)
theorem SX {C:bz} {Q:Exit->ag->Prop} {l:aci} {m:List bn} {f:aR} {args:List aR} {d1:Option Nat} {rest:List bn} {keep:ace} {b e:aI} (bR:aci)
  (h:∀P:aci->Prop,P bR->ch C (ah l) m none λ_ s1=>jW C s1 f args λr s2=>ch C (fin s2 d1 r) rest none λ_ fD=>P (eM keep fD)) (ak:bw C e Q (ah bR)):bw C (.seq (.fM (rm C m f args d1 rest keep) b) e) Q (ah l):=
 SW (b:=b) bR h (.inl ak)
theorem SY {C:bz} {l:aci} {f:aR} {args:List aR} {g:FuncId} {caps as os:acj} {r:j} {K:j->ag->Prop} (ps:List bX) (bk:bb C g as r os) (R:a7 (ah l) f= .fn g caps) (dQ:j.dj (ps.map (·.a))=true)
  (ae:lh (dh as) (h0 (ah l) args++caps)=some (ps.map (·.a))) (aw:nS (ah l) ps) (aQ:fL ps=true) (aH:eX as=ps.map (·.d)) (aN:dh os=dh as) (aP:eX os=ps.map (·.o))
  (aj:(h1 as&&nV as&&as.all j.fz&&(eX as).all j.fz&&(eX os).all j.fz)=true) (bS:r.res=true) (bL:gE ps=false\/(r.b5&&rn ps)=true) (hK:K r (eV (dx (ah l) ps) ps)):jW C (ah l) f args K:=by
 refine .inl ⟨g,caps,as,os,ps,r,R,dQ,by rw[re];exact ae,uA aw,aQ,bk,aH,aN,aP,aj,bS,?_,hK⟩;intro hl;rcases bL with bL|bL
 .rw[bL]at hl;cases hl
 .rw[Bool.and_eq_true]at bL;exact⟨bL.1,zF bL.2⟩
theorem KV {C:bz} {l:aci} {f:aR} {args:List aR} {x:Nat} {q:ace} {g:FuncId} {caps:acj} {r:j} {K:j->ag->Prop} (ps:List bX) (cos:acj) (bk:bb C g (ps.map (·.d)++caps) r (ps.map (·.o)++cos)) (R:a7 (ah l) f= .h x q)
  (cb:j.sub q (ah l x)=some (.a8 g caps)) (U:ps.map (·.a)=h0 (ah l) args) (aw:nS (ah l) (ps++[⟨.h x q,true,.a8 g caps,jz (.a8 g caps) (.a8 g cos)⟩])) (aQ:fL (ps++[⟨.h x q,true,.a8 g caps,jz (.a8 g caps) (.a8 g cos)⟩])=true)
  (rk:cos.length=caps.length) (aj:(cos.all j.one&&caps.all j.fz&&cos.all j.fz&&(ps.all λp=>p.d.fz&&p.o.fz&&(dh [p.d]==[none])&&(dh [p.o]==[none])))=true) (bS:r.res=true) (bL:gE ps=false\/(r.b5&&rn ps&&j.fU cos)=true)
  (hK:K r (eV (dx (ah l) (ps++[⟨.h x q,true,.a8 g caps,jz (.a8 g caps) (.a8 g cos)⟩])) (ps++[⟨.h x q,true,.a8 g caps,jz (.a8 g caps) (.a8 g cos)⟩]))):jW C (ah l) f args K:=by
 refine .inr (.inl ⟨x,q,g,caps,cos,ps,r,R,cb,by rw[U,re],uA aw,aQ,bk,rk,aj,bS,?_,hK⟩);intro hl;rcases bL with bL|bL
 .rw[bL]at hl;cases hl
 .rw[Bool.and_eq_true,Bool.and_eq_true]at bL;exact⟨bL.1.1,zF bL.1.2,bL.2⟩
theorem SZ {C:bz} {l:aci} {f:aR} {args:List aR} {g:FuncId} {caps as os:acj} {r:j} {K:j->ag->Prop} (bs:List Bool) (ps:List bX) (bk:bb C g as r os) (R:a7 (ah l) f= .fn g caps) (dQ:j.dj (ps.map (·.a))=true)
  (ae:lh (dh as) (h0 (ah l) args++caps)=some (pE bs (ps.map (·.a)))) (ak:oE bs ps=true) (aw:nS (ah l) ps) (aQ:fL ps=true) (aH:eX as=mz bs (ps.map (·.d))) (aN:dh os=dh as) (aP:eX os=mz bs (ps.map (·.o)))
  (aj:(h1 as&&nV as&&as.all j.fz&&(eX as).all j.fz&&(ps.map (·.o)).all j.fz)=true) (bS:r.res=true) (bL:gE ps=false\/(r.b5&&rn ps)=true) (hK:K r (eV (dx (ah l) ps) ps)):jW C (ah l) f args K:=by
 refine .inr (.inr ⟨g,caps,as,os,ps,bs,r,R,dQ,by rw[re];exact ae,ak,uA aw,aQ,bk,aH,aN,aP,aj,bS,?_,hK⟩);intro hl;rcases bL with bL|bL
 .rw[bL]at hl;cases hl
 .rw[Bool.and_eq_true]at bL;exact⟨bL.1,zF bL.2⟩
end Go.cG
