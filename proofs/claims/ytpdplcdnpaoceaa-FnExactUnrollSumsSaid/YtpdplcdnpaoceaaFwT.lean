/- Part of a proof that a law returns true for every input. No condition. -/
import Derived.Test.YtpdplcdnpaoceaaFwL
namespace Go.cV
open List Go.IntKind Nat Or
section
variable {C:bI} {w0 w aw:World} {F0 X F ba:Nat->Prop} {S aB:Nat->Nat->Prop} {n:Fr} {ρ:Nat->Value} {s au:af} {an h_:Nat->Value} {a:Act} {av:j} {Q:Exit->Act->World->Prop}
def dH (w:World) (F:Nat->Prop):Vr->Vp->(Nat->Prop)->Prop
 |[],vs,_=>vs=[]
 |d::ds,vs,T=>∃v ev e7 fi,vs=v::ev/\(d.tree=true->cM d v/\aj w F d (bW v) e7)/\dH w F ds ev fi/\(∀b,e7 b->T b)/\(∀b,fi b->T b)/\∀b,e7 b->¬fi b
def j.gm (d:j):Bool:=d.tree||(match d with
 | .hole=>true
 |_=>false)
theorem NT {d:j} {v:Value} {T:Nat->Prop} (h:d.gm=true) (aO:d.tree=true->cM d v/\aj w F d (bW v) T):az w F s an d v T:=by
 cases ad:d.tree with
 |true=>exact(az.b7 ad).2 (aO ad)
 |false=>
  cases d<;>first|(simp[j.tree]at ad;done)|(simp[j.gm,j.tree]at h;done)|(rw[az];trivial)
theorem dH.mono {T rY:Nat->Prop} (gA:∀b,T b->rY b):∀{ds:Vr} {vs:Vp},dH w F ds vs T->dH w F ds vs rY
 |[],_,h=>h
 |d::ds,vs,⟨v,ev,e7,fi,U,aa,ax,aP,a9,bU⟩=>⟨v,ev,e7,fi,U,aa,ax,λb J=>gA b (aP b J),λb J=>gA b (a9 b J),bU⟩
theorem dH.len {T:Nat->Prop}:∀{ds:Vr} {vs:Vp},dH w F ds vs T->vs.length=ds.length
 |[],_,h=>by rw[dH]at h;subst h;rfl
 |d::ds,vs,⟨v,ev,e7,fi,U,aa,ax,_⟩=>by subst U;simp[ax.len]
theorem dH.append {T:Nat->Prop}:∀{ds es:Vr} {vs us:Vp},vs.length=ds.length->dH w F (ds++es) (vs++us) T->∃e7 fi,dH w F ds vs e7/\dH w F es us fi/\(∀b,e7 b->T b)/\(∀b,fi b->T b)/\∀b,e7 b->¬fi b
 |[],es,vs,us,hl,h=>by
  have:vs=[]:=by simpa using hl
  subst this;exact⟨λ_=>False,T,rfl,h,λ_ h=>h.elim,λ_ h=>h,λ_ h=>h.elim⟩
 |d::ds,es,[],us,hl,h=>by simp at hl
 |d::ds,es,v::vs,us,hl,h=>by
  obtain⟨dM,ev,e7,fi,U,aa,ax,aP,a9,bU⟩:=h;simp only[cons_append,cons.injEq]at U;obtain⟨rfl,rfl⟩:=U;obtain⟨wK,At,aL,a0,bK,cF,dq⟩:=dH.append (by simpa using hl) ax;refine⟨λb=>e7 b\/wK b,At,⟨v,vs,e7,wK,rfl,aa,aL,λb J=>.inl J,λb J=>.inr J,λb J hu=>bU b J (bK b hu)⟩,a0,?_,λb J=>a9 b (cF b J),?_⟩
  .rintro b (J|J)
   .exact aP b J
   .exact a9 b (bK b J)
  .rintro b (J|J) hu
   .exact bU b J (cF b hu)
   .exact dq b J hu
theorem dH.join {T e7 fi:Nat->Prop} (U:∀b,e7 b->T b) (aa:∀b,fi b->T b) (ad:∀b,e7 b->¬fi b):∀{ds es:Vr} {vs us:Vp},dH w F ds vs e7->dH w F es us fi->dH w F (ds++es) (vs++us) T
 |[],es,vs,us,h,hu=>by rw[dH]at h;subst h;exact hu.mono aa
 |d::ds,es,vs,us,⟨v,ev,wK,At,aI,aR,aX,bT,cb,bH⟩,hu=>by
  subst aI;refine⟨v,ev++us,wK,λb=>At b\/fi b,rfl,aR,dH.join (λb J=>.inl J) (λb J=>.inr J) (λb J=>ad b (cb b J)) aX hu,λb J=>U b (bT b J),?_,?_⟩
  .rintro b (J|J)
   .exact U b (cb b J)
   .exact aa b J
  .rintro b J (ai|ai)
   .exact bH b J ai
   .exact ad b (bT b J) ai
theorem bg.uy (h:bg w0 F0 X F S s an w):∀(ds:Vr) (vs:Vp) (k:Nat),vs.length=ds.length->(∀i d v,ds[i]? =some d->vs[i]? =some v->s (k+i)=d/\an (k+i)=v)->dH w F ds vs (λb=>∃t,k<=t/\S t b)
 |[],vs,k,hl,_=>by simpa [dH]using hl
 |d::ds,[],k,hl,_=>by simp at hl
 |d::ds,v::vs,k,hl,R=>by
  obtain⟨aI,aR⟩:=R 0 d v rfl rfl;have ih:=h.uy ds vs (k+1) (by simpa using hl) λi a8 dM ad aE=>by
   have:=R (i+1) a8 dM (by simpa using ad) (by simpa using aE)
   rwa [show k+(i+1)=k+1+i by omega]at this
  refine⟨v,vs,S k,_,rfl,λaO=>?_,ih,λb J=>⟨k,Nat.le_refl _,J⟩,λb ⟨t,aO,J⟩=>⟨t,by omega,J⟩,λb J ⟨t,aO,ai⟩=>h.dS k t b (by omega) J ai⟩;have:=h.cG k;rw[Nat.add_zero]at aI aR;rw[aI,aR]at this;exact(az.b7 aO).1 this
theorem dH.Gm {T:Nat->Prop}:∀{ds:Vr} {vs:Vp},dH w F ds vs T->∃aB:Nat->Nat->Prop,(∀t b,aB t b->T b)/\(∀t u b,t≠u->aB t b->¬aB u b)/\∀t,(dI ds t).tree=true->cM (dI ds t) (e8 vs t)/\aj w F (dI ds t) (bW (e8 vs t)) (aB t)
 |[],_,h=>⟨λ_ _=>False,λ_ _ h=>h.elim,λ_ _ _ _ h=>h.elim,λt aO=>by simp[dI,j.tree]at aO⟩
 |d::ds,vs,⟨v,ev,e7,fi,aI,aR,aX,bT,cb,bH⟩=>by
  subst aI;obtain⟨aB,aL,a0,bK⟩:=dH.Gm aX;refine⟨λt=>match t with|0=>e7|t+1=>aB t,λt b J=>?_,λt u b cJ aO hu=>?_,λt aO=>?_⟩
  .cases t with
   |zero=>exact bT b J
   |succ t=>exact cb b (aL t b J)
  .cases t with
   |zero=>
    cases u with
    |zero=>exact cJ rfl
    |succ u=>exact bH b aO (aL u b hu)
   |succ t=>
    cases u with
    |zero=>exact bH b hu (aL t b aO)
    |succ u=>exact a0 t u b (by omega) aO hu
  .cases t with
   |zero=>exact aR aO
   |succ t=>exact bK t aO
theorem bg.wL (h:bg w0 F0 X F S s an w) {T:Nat->Prop} {ds:Vr} {vs:Vp} (aG:dH w F ds vs T) (gA:∀b,T b->∃t,S t b) (uz:ds.all j.gm=true):∃aB,bg w0 F0 X F aB (dI ds) (e8 vs) w:=by
 obtain⟨aB,aL,a0,bK⟩:=aG.Gm;refine⟨aB,{
  fl:=h.fl
  fA:=h.fA
  eg:=h.eg
  dw:=λt b J=>by obtain⟨u,hu⟩:=gA b (aL t b J);exact h.dw u b hu
  ew:=λt b J=>by obtain⟨u,hu⟩:=gA b (aL t b J);exact h.ew u b hu
  dS:=a0
  cU:=λt b J=>by obtain⟨u,hu⟩:=gA b (aL t b J);exact h.cU u b hu
  cG:=λt=>NT (by
   unfold dI;rw[getD_eq_getElem?_getD];cases ad:ds[t]? with
   |none=>rfl
   |some d=>exact List.all_eq_true.1 uz d (mem_of_getElem? ad)) (bK t)
  old:=h.old
  size:=h.size
  os:=h.os
  tape:=h.tape
  output:=h.output
  fB:=h.fB}⟩
def dB:Vr->List (Option (FuncId×Nat))
 |[]=>[]
 | .br g cs::r=>some (g,cs.length)::dB r
 |_::r=>none::dB r
def fw:Vr->Vr
 |[]=>[]
 | .br _ cs::r=>cs++fw r
 |d::r=>d::fw r
def h4:Vr->Bool
 |[]=>true
 | .br _ cs::r=>cs.all j.one&&h4 r
 |_::r=>h4 r
def oo:Vr->Bool
 |[]=>true
 | .br _ cs::r=>cs.all j.tree&&oo r
 |_::r=>oo r
def la:List (Option (FuncId×Nat))->Vr->Option Vr
 |[],[]=>some []
 |some (g,n)::sh,.fn qS cs::r=>if g=qS/\cs.length=n then(la sh r).map (cs++·)else none
 |none::sh,a::r=>(la sh r).map (a::·)
 |_,_=>none
inductive kI:List (Option (FuncId×Nat))->Vp->Vp->Prop
 |nil:kI [] [] []
 |one {sh:List (Option (FuncId×Nat))} {v:Value} {vs dg:Vp}:kI sh vs dg->kI (none::sh) (v::vs) (v::dg)
 |fn {sh:List (Option (FuncId×Nat))} {g:FuncId} {m:Nat} {arr:Array Value} {vs dg:Vp}:arr.size=m->kI sh vs dg->kI (some (g,m)::sh) (.func (.func g) #[] arr::vs) (arr.toList++dg)
def sb:List (Option (FuncId×Nat))->Vp->Prop
 |[],_=>True
 |_::_,[]=>True
 |some _::sh,v::vs=>(∀g arr,v= .func (.func g) #[] arr->∀x∈arr.toList,Value.et x=true)/\sb sh vs
 |none::sh,_::vs=>sb sh vs
theorem Gn {T:Nat->Prop}:∀(cs:Vr) (vs:Vp),(∀c∈cs,c.one=true)->aQ w F cs vs T->dH w F cs vs T/\∀x∈vs,Value.et x=true
 |[],vs,_,h=>by rw[aQ]at h;subst h;exact⟨rfl,λx ae=>by cases ae⟩
 |c::cs,vs,U,h=>by
  have Gp:=aQ.lE _ _ _ h;rw[aQ]at h;obtain⟨bu,bN,bP,cx,rfl,ar,bw,fG,ng,oZ⟩:=h;have hl:=aj.length _ _ _ ar;rw[v8 (U c (by simp))]at hl;obtain⟨v,rfl⟩:∃v,bu=[v]:=by
   match bu,hl with
   |[v],_=>exact⟨v,rfl⟩
  have aE:Value.et v=true:=Gp v (by simp);refine⟨⟨v,bN,bP,cx,rfl,λ_=>⟨?_,by rw[e5 aE];exact ar⟩,(Gn cs bN (λd ad=>U d (by simp[ad])) bw).1,fG,ng,oZ⟩,Gp⟩;have:=U c (by simp);cases c<;>first|exact aE|(simp[j.one]at this)
theorem Gq {T:Nat->Prop}:∀(cs:Vr) (vs:Vp),(∀c∈cs,c.one=true)->(∀c∈cs,c.gm=true)->(∀x∈vs,Value.et x=true)->dH w F cs vs T->aQ w F cs vs T
 |[],vs,_,_,_,h=>by rw[dH]at h;subst h;rw[aQ]
 |c::cs,vs,U,aa,ax,⟨v,ev,e7,fi,aI,aR,aX,bT,cb,bH⟩=>by
  subst aI;rw[aQ];have aE:Value.et v=true:=ax v (by simp);refine⟨[v],ev,e7,fi,rfl,?_,Gq cs ev (λd ad=>U d (by simp[ad])) (λd ad=>aa d (by simp[ad])) (λx ae=>ax x (by simp[ae])) aX,bT,cb,bH⟩;cases aO:c.tree with
  |true=>rw[<-e5 aE];exact(aR aO).2
  |false=>
   have:=aa c (by simp);cases c<;>first|(simp[j.tree]at aO;done)|(simp[j.gm,j.tree]at this;done)|(rw[aj];exact⟨v,aE,rfl⟩)
theorem dH.wM:∀{sh:List (Option (FuncId×Nat))} {vs dg:Vp},kI sh vs dg->∀{as:Vr} {T:Nat->Prop},dB as=sh->dH w F as vs T->dH w F (fw as) dg T/\sb sh vs
 |_,_,_,.nil,[],T,_,h=>⟨h,trivial⟩
 |_,_,_,.nil,a::as,T,he,h=>by cases a<;>simp[dB]at he
 |_,_,_,.one bd,[],T,he,h=>by simp[dB]at he
 |_,_,_,.one (sh:=sc) bd,a::as,T,he,h=>by
  obtain⟨dM,ev,e7,fi,aI,aR,aX,bT,cb,bH⟩:=h;simp only[cons.injEq]at aI;obtain⟨rfl,rfl⟩:=aI;have a2:(∀g cs,a≠.br g cs)/\dB as=sc:=by
   cases a<;>simp[dB]at he<;>exact⟨(λ_ _ h=>by cases h),he⟩
  obtain⟨aL,a0⟩:=dH.wM bd a2.2 aX;have ae:fw (a::as)=a::fw as:=by cases a<;>first|rfl|exact(a2.1 _ _ rfl).elim
  rw[ae];exact⟨⟨_,_,e7,fi,rfl,aR,aL,bT,cb,bH⟩,a0⟩
 |_,_,_,.fn hm bd,[],T,he,h=>by simp[dB]at he
 |_,_,_,.fn (g:=g) (arr:=arr) hm bd,a::as,T,he,h=>by
  obtain⟨dM,ev,e7,fi,aI,aR,aX,bT,cb,bH⟩:=h;simp only[cons.injEq]at aI;obtain⟨rfl,rfl⟩:=aI;cases a with
  |br qS cs=>
   simp only[dB,cons.injEq,Option.some.injEq,Prod.mk.injEq]at he;obtain⟨⟨rfl,gD⟩,he⟩:=he;obtain⟨aL,a0⟩:=dH.wM bd he aX;obtain⟨_,eX⟩:=aR rfl;rw[aj]at eX;obtain⟨DX,bX,b6,cR⟩:=eX;have:DX=arr:=by simpa [bW,gy]using bX.symm
   subst this;obtain⟨ea,fh⟩:=Gn cs _ b6 cR;exact⟨dH.join bT cb bH ea aL,λbK NU ax=>by cases ax;exact fh,a0⟩
  |_=>simp[dB]at he
theorem dH.wN:∀{sh:List (Option (FuncId×Nat))} {vs dg:Vp},kI sh vs dg->∀{as:Vr} {T:Nat->Prop},dB as=sh->h4 as=true->(fw as).all j.gm=true->sb sh vs->dH w F (fw as) dg T->dH w F as vs T
 |_,_,_,.nil,[],T,_,_,_,_,h=>h
 |_,_,_,.nil,a::as,T,he,_,_,_,h=>by cases a<;>simp[dB]at he
 |_,_,_,.one bd,[],T,he,_,_,_,h=>by simp[dB]at he
 |_,_,_,.one (sh:=sc) bd,a::as,T,he,U,aa,ax,h=>by
  have a2:(∀g cs,a≠.br g cs)/\dB as=sc:=by
   cases a<;>simp[dB]at he<;>exact⟨(λ_ _ h=>by cases h),he⟩
  have ae:fw (a::as)=a::fw as:=by cases a<;>first|rfl|exact(a2.1 _ _ rfl).elim
  have bk:h4 (a::as)=h4 as:=by cases a<;>first|rfl|exact(a2.1 _ _ rfl).elim
  rw[ae]at h aa;rw[bk]at U;obtain⟨dM,ev,e7,fi,aI,aR,aX,bT,cb,bH⟩:=h;simp only[cons.injEq]at aI;obtain⟨rfl,rfl⟩:=aI;simp only[all_cons,Bool.and_eq_true]at aa;exact⟨_,_,e7,fi,rfl,aR,dH.wN bd a2.2 U aa.2 ax aX,bT,cb,bH⟩
 |_,_,_,.fn hm bd,[],T,he,_,_,_,h=>by simp[dB]at he
 |_,_,_,.fn (g:=g) (arr:=arr) hm bd,a::as,T,he,U,aa,ax,h=>by
  cases a with
  |br qS cs=>
   simp only[dB,cons.injEq,Option.some.injEq,Prod.mk.injEq]at he;obtain⟨⟨rfl,gD⟩,he⟩:=he;simp only[h4,Bool.and_eq_true,List.all_eq_true]at U;simp only[fw,all_append,Bool.and_eq_true]at aa;obtain⟨e7,fi,aL,a0,bK,cF,dq⟩:=dH.append (by simp[gD,hm]) h;have aG:=Gq cs _ U.1 (List.all_eq_true.1 aa.1) (ax.1 _ _ rfl) aL;refine⟨_,_,e7,fi,rfl,λ_=>⟨rfl,?_⟩,dH.wN bd he U.2 aa.2 ax.2 a0,bK,cF,dq⟩;rw[aj];exact⟨arr,by simp[bW,gy],U.1,aG⟩
  |_=>simp[dB]at he
theorem dH.lE:∀{sh:List (Option (FuncId×Nat))} {vs dg:Vp},kI sh vs dg->∀{as:Vr} {T:Nat->Prop},dB as=sh->h4 as=true->oo as=true->dH w F (fw as) dg T->sb sh vs
 |_,_,_,.nil,_,T,_,_,_,h=>trivial
 |_,_,_,.one bd,[],T,he,_,_,h=>by simp[dB]at he
 |_,_,_,.one (sh:=sc) bd,a::as,T,he,U,aa,h=>by
  have a2:(∀g cs,a≠.br g cs)/\dB as=sc:=by
   cases a<;>simp[dB]at he<;>exact⟨(λ_ _ h=>by cases h),he⟩
  have ae:fw (a::as)=a::fw as:=by cases a<;>first|rfl|exact(a2.1 _ _ rfl).elim
  have bk:h4 (a::as)=h4 as:=by cases a<;>first|rfl|exact(a2.1 _ _ rfl).elim
  have aO:oo (a::as)=oo as:=by cases a<;>first|rfl|exact(a2.1 _ _ rfl).elim
  rw[ae]at h;rw[bk]at U;rw[aO]at aa;obtain⟨dM,ev,e7,fi,aI,aR,aX,bT,cb,bH⟩:=h;simp only[cons.injEq]at aI;obtain⟨rfl,rfl⟩:=aI;exact(dH.lE bd a2.2 U aa aX:sb sc _)
 |_,_,_,.fn hm bd,[],T,he,_,_,h=>by simp[dB]at he
 |_,_,_,.fn (g:=g) (arr:=arr) hm bd,a::as,T,he,U,aa,h=>by
  cases a with
  |br qS cs=>
   simp only[dB,cons.injEq,Option.some.injEq,Prod.mk.injEq]at he;obtain⟨⟨rfl,gD⟩,he⟩:=he;simp only[h4,Bool.and_eq_true,List.all_eq_true]at U;simp only[oo,Bool.and_eq_true,List.all_eq_true]at aa;obtain⟨e7,fi,aL,a0,bK,cF,dq⟩:=dH.append (by simp[gD,hm]) h;refine⟨λbK NU ax=>?_,dH.lE bd he U.2 aa.2 a0⟩;cases ax;have key:∀(cs:Vr) (vs:Vp) (T:Nat->Prop),(∀c∈cs,c.one=true)->(∀c∈cs,c.tree=true)->dH w F cs vs T->∀x∈vs,Value.et x=true:=by
    intro cs;induction cs with
    |nil=>intro vs T _ _ h x ae;rw[dH]at h;subst h;cases ae
    |cons c cs ih=>
     intro vs T bX b6 h x ae;obtain⟨dM,ev,e7,fi,aI,aR,aX,bT,cb,bH⟩:=h;subst aI;rcases mem_cons.1 ae with rfl|ae
     .have R:=(aR (b6 c (by simp))).1;have bk:=bX c (by simp);cases c<;>first|exact R|(simp[j.one]at bk)
     .exact ih ev fi (λd ad=>bX d (by simp[ad])) (λd ad=>b6 d (by simp[ad])) aX x ae
   exact key cs _ e7 U.1 aa.1 aL
  |_=>simp[dB]at he
theorem Au {F:Nat->Prop}:∀{sh:List (Option (FuncId×Nat))} {ms al:Vr} {vs:Vp},la sh ms=some al->cK w F s an ms vs->∃dg,kI sh vs dg/\cK w F s an al dg
 |[],[],al,vs,ae,h=>by
  simp only[la,Option.some.injEq]at ae;subst ae;rw[cK]at h;subst h;exact⟨[],.nil,by rw[cK]⟩
 |[],m::ms,al,vs,ae,h=>by simp[la]at ae
 |none::sh,[],al,vs,ae,h=>by simp[la]at ae
 |some (g,k)::sh,[],al,vs,ae,h=>by simp[la]at ae
 |none::sh,m::ms,al,vs,ae,h=>by
  simp only[la,Option.map_eq_some_iff]at ae;obtain⟨NV,ae,rfl⟩:=ae;rw[cK]at h;obtain⟨v,ev,rfl,U,aa⟩:=h;obtain⟨dg,aL,a0⟩:=Au ae aa;exact⟨v::dg,.one aL,by rw[cK];exact⟨v,dg,rfl,U,a0⟩⟩
 |some (g,k)::sh,m::ms,al,vs,ae,h=>by
  cases m with
  |fn qS cs=>
   simp only[la]at ae;split at ae
   .rename_i ai;obtain⟨rfl,rfl⟩:=ai;simp only[Option.map_eq_some_iff]at ae;obtain⟨NV,ae,rfl⟩:=ae;rw[cK]at h;obtain⟨v,ev,rfl,U,aa⟩:=h;rw[az]at U;obtain⟨arr,rfl,ax⟩:=U;obtain⟨dg,aL,a0⟩:=Au ae aa;have hl:=(tM ax).1;exact⟨arr.toList++dg,.fn (by simpa using hl.symm) aL,wa ax a0⟩
   .cases ae
  |_=>simp[la]at ae
def NW (C:bI) (s:af) (f:aT) (args:List aT) (K:j->af->Prop):Prop:=
 ∃(g:FuncId) (caps as os:Vr) (ps:List bY) (r:j),a6 s f= .fn g caps/\j.db (ps.map (·.a))=true/\la (dB as) (args.map (a6 s)++caps)=some (ps.map (·.a))/\(∀p∈ps,p.ok s)/\fD ps=true/\
  bq C g as r os/\fw as=ps.map (·.d)/\dB os=dB as/\fw os=ps.map (·.o)/\(h4 as&&oo as&&as.all j.gm&&(fw as).all j.gm&&(fw os).all j.gm)=true/\
  r.res=true/\(gG ps=true->r.ch=true/\∀p∈ps,p.g=true->p.o.ch=true)/\K r (e0 (di s ps) ps)
def NX (C:bI) (s:af) (f:aT) (args:List aT) (K:j->af->Prop):Prop:=
 ∃(x:Nat) (q:Vm) (g:FuncId) (caps cos:Vr) (ps:List bY) (r:j),a6 s f= .h x q/\j.sub q (s x)=some (.br g caps)/\ps.map (·.a)=args.map (a6 s)/\
  (∀p∈ps++[⟨.h x q,true,.br g caps,iL (.br g caps) (.br g cos)⟩],p.ok s)/\fD (ps++[⟨.h x q,true,.br g caps,iL (.br g caps) (.br g cos)⟩])=true/\
  bq C g (ps.map (·.d)++caps) r (ps.map (·.o)++cos)/\cos.length=caps.length/\(cos.all j.one&&caps.all j.gm&&cos.all j.gm&&(ps.all λp=>p.d.gm&&p.o.gm&&(dB [p.d]==[none])&&(dB [p.o]==[none])))=true/\
  r.res=true/\(gG ps=true->r.ch=true/\(∀p∈ps,p.g=true->p.o.ch=true)/\j.gU cos=true)/\
  K r (e0 (di s (ps++[⟨.h x q,true,.br g caps,iL (.br g caps) (.br g cos)⟩])) (ps++[⟨.h x q,true,.br g caps,iL (.br g caps) (.br g cos)⟩]))
theorem Av:∀{ds:Vr},j.db ds=true->∀d∈ds,d.plain=true
 |[],_,d,ad=>by cases ad
 |x::ds,h,d,ad=>by
  simp only[j.db,Bool.and_eq_true]at h;rcases mem_cons.1 ad with rfl|ad
  .exact h.1
  .exact Av h.2 d ad
theorem Gr {r:j} (h:r.res=true):r.gm=true:=by
 cases r<;>first|rfl|(simp[j.res]at h)
theorem wO {T:Nat->Prop} {S:Nat->Nat->Prop} (h:∀b,T b->∃t,0<=t/\S t b):∀b,T b->∃t,S t b:=λb J=>by obtain⟨t,_,h⟩:=h b J;exact⟨t,h⟩
theorem wP {ds:Vr} {vs:Vp}:∀(i:Nat) (d:j) (v:Value),ds[i]? =some d->vs[i]? =some v->dI ds (0+i)=d/\e8 vs (0+i)=v:=by
 intro i d v ad aE;rw[Nat.zero_add];simp[dI,e8,getD_eq_getElem?_getD,ad,aE]
theorem NY (aG:bg w0 F0 X F S s an w) {g:FuncId} {ms as os:Vr} {ps:List bY} {r:j} {vm:Vp} (hm:cK w F s an ms vm)
  (eP:j.db (ps.map (·.a))=true) (ae:la (dB as) ms=some (ps.map (·.a))) (ax:∀p∈ps,p.ok s) (aP:fD ps=true)
  (a9:bq C g as r os) (aI:fw as=ps.map (·.d)) (aR:dB os=dB as) (aX:fw os=ps.map (·.o)) (ai:(h4 as&&oo as&&as.all j.gm&&(fw as).all j.gm&&(fw os).all j.gm)=true)
  (bU:r.res=true) (bO:gG ps=true->r.ch=true/\∀p∈ps,p.g=true->p.o.ch=true):
  i7 C.P g vm.toArray w λv aw=>∃ba aB,bg w0 F0 X ba aB (e0 (di s ps) ps) an aw/\ia w0 X ba aB (e0 (di s ps) ps) an aw r v/\∀b,F b->ba b/\aw.heap[b]? =w.heap[b]? :=by
 simp only[Bool.and_eq_true]at ai;obtain⟨⟨⟨⟨bu,bN⟩,o9⟩,iD⟩,lS⟩:=ai;obtain⟨dg,bd,R⟩:=Au ae hm;obtain⟨eR,l2⟩:=tM R;refine zk (vm:=vm) (vs:=dg) (os:=ps.map (·.o)) aG (by simpa using eR) (λi p ag=>⟨p.o,by simp[ag],.inl rfl⟩)
  (λi p v ag aE=>⟨Av eP p.a (mem_map.2 ⟨p,mem_of_getElem? ag,rfl⟩),l2 i p.a v (by simp[ag]) aE⟩) ax aP ?_ bU
  (λhle=>⟨(bO hle).1,λi p o ag bk bm=>by
   rw[getElem?_map,ag]at bk;have:=Option.some.inj bk;subst this;exact(bO hle).2 p (mem_of_getElem? ag) bm⟩)
 intro Fc hN c1 a3 hX ag;have hl:dg.length=(ps.map (·.d)).length:=by simpa using eR.symm
 have c5:=ag.uy (ps.map (·.d)) dg 0 hl wP;rw[<-aI]at c5;have oV:=dH.lE bd rfl bu bN c5;have bz:=dH.wN bd rfl bu iD oV c5;obtain⟨cx,dC⟩:=ag.wL bz (wO λb J=>J) o9;have hlen:vm.length=as.length:=bz.len;refine i7.mono (a9 w Fc hN cx vm hlen ?_) ?_
 .exact {
   fl:=dC.fl
   fA:=dC.fA
   eg:=dC.eg
   dw:=dC.dw
   ew:=dC.ew
   dS:=dC.dS
   cU:=dC.cU
   cG:=dC.cG
   old:=dC.old
   size:=dC.size
   os:=dC.os
   tape:=dC.tape
   output:=dC.output
   fB:=dC.fB}
 .rintro v aw ⟨ba,aB,h⟩;have kv:(v::vm).length=(r::os).length:=by
   have:os.length=as.length:=by
    have R:∀(xs:Vr),(dB xs).length=xs.length:=by
     intro xs;induction xs with
     |nil=>rfl
     |cons x xs ih=>cases x<;>simp[dB,ih]
    rw[<-R os,aR,R as]
   simp[hlen,this]
  have eS:=h.uy (r::os) (v::vm) 0 kv wP;obtain⟨dM,ev,e7,fi,qT,uo,uq,ur,Aw,Ax⟩:=eS;simp only[cons.injEq]at qT;obtain⟨rfl,rfl⟩:=qT;obtain⟨dY,_⟩:=dH.wM bd aR uq;rw[aX]at dY;have gS:dH aw ba (r::ps.map (·.o)) (v::dg) (λb=>∃t,0<=t/\aB t b):=⟨v,dg,e7,fi,rfl,uo,dY,ur,Aw,Ax⟩
  obtain⟨vK,fQ⟩:=h.wL gS (wO λb J=>J) (by simp only[all_cons,Gr bU,Bool.true_and];rw[<-aX];exact lS);exact⟨ba,vK,fQ⟩
theorem Ay:∀{ds:Vr},(∀d∈ds,dB [d]=[none])->dB ds=replicate ds.length none/\fw ds=ds/\h4 ds=true
 |[],_=>⟨rfl,rfl,rfl⟩
 |d::ds,h=>by
  obtain⟨U,aa,ax⟩:=Ay (ds:=ds) λx ae=>h x (by simp[ae]);have:=h d (by simp);cases d<;>simp[dB]at this<;>simp[dB,fw,h4,U,aa,ax,replicate_succ]
theorem sd:∀(ds es:Vr),dB (ds++es)=dB ds++dB es/\fw (ds++es)=fw ds++fw es/\h4 (ds++es)=(h4 ds&&h4 es)
 |[],es=>⟨rfl,rfl,by simp[h4]⟩
 |d::ds,es=>by
  obtain⟨U,aa,ax⟩:=sd ds es;cases d<;>simp[dB,fw,h4,U,aa,ax,Bool.and_assoc]
theorem Gs:∀{k:Nat} {vs:Vp},vs.length=k->∀{sh:List (Option (FuncId×Nat))} {us Gt:Vp},kI sh us Gt->kI (replicate k none++sh) (vs++us) (vs++Gt)
 |0,[],_,_,_,_,h=>h
 |k+1,v::vs,hl,_,_,_,h=>by
  rw[replicate_succ];exact .one (Gs (by simpa using hl) h)
 |0,_::_,hl,_,_,_,_=>by simp at hl
 |_+1,[],hl,_,_,_,_=>by simp at hl
theorem NZ (aG:bg w0 F0 X F S s an w) {x:Nat} {q:Vm} {g:FuncId} {caps cos:Vr} {ps:List bY} {r:j} {vs:Vp} {pt:Value} (hm:cK w F s an (ps.map (·.a)) vs) (N0:j.db (ps.map (·.a))=true)
  (aE:az w F s an (.h x q) pt (λ_=>False)) (b2:j.sub q (s x)=some (.br g caps))
  (ax:∀p∈ps++[⟨.h x q,true,.br g caps,iL (.br g caps) (.br g cos)⟩],p.ok s) (aP:fD (ps++[⟨.h x q,true,.br g caps,iL (.br g caps) (.br g cos)⟩])=true)
  (a9:bq C g (ps.map (·.d)++caps) r (ps.map (·.o)++cos)) (pv:cos.length=caps.length)
  (ai:(cos.all j.one&&caps.all j.gm&&cos.all j.gm&&(ps.all λp=>p.d.gm&&p.o.gm&&(dB [p.d]==[none])&&(dB [p.o]==[none])))=true)
  (bU:r.res=true) (bO:gG ps=true->r.ch=true/\(∀p∈ps,p.g=true->p.o.ch=true)/\j.gU cos=true):
  ∃arr:Array Value,pt= .func (.func g) #[] arr/\i7 C.P g (vs++arr.toList).toArray w λv aw=>∃ba aB,
   bg w0 F0 X ba aB (e0 (di s (ps++[⟨.h x q,true,.br g caps,iL (.br g caps) (.br g cos)⟩])) (ps++[⟨.h x q,true,.br g caps,iL (.br g caps) (.br g cos)⟩])) an aw/\
   ia w0 X ba aB (e0 (di s (ps++[⟨.h x q,true,.br g caps,iL (.br g caps) (.br g cos)⟩])) (ps++[⟨.h x q,true,.br g caps,iL (.br g caps) (.br g cos)⟩])) an aw r v/\∀b,F b->ba b/\aw.heap[b]? =w.heap[b]? :=by
 simp only[Bool.and_eq_true,List.all_eq_true,beq_iff_eq]at ai;obtain⟨⟨⟨bu,bN⟩,o9⟩,iD⟩:=ai;have iG:=aE;rw[az]at iG;obtain⟨b_,bZ,f1,f2,f3⟩:=iG _ b2 rfl;have aO:=fZ b2 (.inl rfl);obtain⟨eJ,bw,c1,dW,k0,bX,b6,cR,cI,d_⟩:=ctx q (s x) (bW (an x)) (S x) none _ ((az.b7 aO).1 (aG.cG x)).2 b2;rw[f1]at k0;simp only[Option.some.injEq,Prod.mk.injEq,true_and]at k0;obtain⟨rfl,rfl⟩:=k0;rw[aj]at cI;obtain⟨arr,aL,a0,bK⟩:=cI;have N1:Value.et pt=true:=f3;have Gu:pt= .func (.func g) #[] arr:=by
  rw[aL,e5 N1]at f2;simpa using f2
 refine⟨arr,Gu,?_⟩;obtain⟨eR,l2⟩:=tM hm;have pc:∀d∈ps.map (·.d),dB [d]=[none]:=λd ad=>by obtain⟨p,ag,rfl⟩:=mem_map.1 ad;exact(iD p ag).1.2
 have hY:∀d∈ps.map (·.o),dB [d]=[none]:=λd ad=>by obtain⟨p,ag,rfl⟩:=mem_map.1 ad;exact(iD p ag).2
 obtain⟨iN,cf,iv⟩:=Ay pc;obtain⟨ea,fh,gE⟩:=Ay hY;have o5:vs.length=ps.length:=by simpa using eR.symm
 have mF:arr.toList.length=caps.length:=by
  have U:=aQ.length _ _ _ bK;have:∀(cs:Vr),(∀c∈cs,c.one=true)->j.c0 cs=cs.length:=by
   intro cs;induction cs with
   |nil=>intro _;rfl
   |cons c cs ih=>intro h;simp only[j.c0,length_cons];rw[v8 (h c (by simp)),ih λd ad=>h d (by simp[ad])];omega
  rw[U,this caps a0]
 have Gv:∀k,k=ps.length->kI (replicate k none++[some (g,caps.length)]) (vs++[pt]) (vs++arr.toList):=by
  rintro k rfl;refine Gs o5 ?_;rw[Gu];have:=kI.fn (g:=g) (arr:=arr) (m:=caps.length) (by simpa using mF) kI.nil;simpa using this
 refine zk (vm:=vs++arr.toList) (vs:=vs++[pt]) (os:=ps.map (·.o)++[.br g cos]) aG (by simp[o5]) ?_ ?_ ax aP ?_ bU ?_
 .intro i p ag;rcases Nat.lt_or_ge i ps.length with ay|ay
  .rw[getElem?_append_left ay]at ag;exact⟨p.o,by rw[getElem?_append_left (by simpa using ay)];simp[ag],.inl rfl⟩
  .rw[getElem?_append_right ay]at ag;have bC:i-ps.length=0:=by
    have:=(List.getElem?_eq_some_iff.1 ag).1;simp at this;omega
   rw[bC]at ag;simp only[getElem?_cons_zero,Option.some.injEq]at ag;subst ag;exact⟨.br g cos,by rw[getElem?_append_right (by simpa using ay)];simp[bC],.inr rfl⟩
 .intro i p v ag se;rcases Nat.lt_or_ge i ps.length with ay|ay
  .rw[getElem?_append_left ay]at ag;rw[getElem?_append_left (by omega)]at se;exact⟨Av N0 p.a (mem_map.2 ⟨p,mem_of_getElem? ag,rfl⟩),l2 i p.a v (by simp[ag]) se⟩
  .rw[getElem?_append_right ay]at ag;rw[getElem?_append_right (by omega),o5]at se;have bC:i-ps.length=0:=by
    have:=(List.getElem?_eq_some_iff.1 ag).1;simp at this;omega
   rw[bC]at ag se;simp only[getElem?_cons_zero,Option.some.injEq]at ag se;subst ag;subst se;exact⟨rfl,aE⟩
 .intro Fc hN c1 a3 hX ag;have aI:(ps++[(⟨.h x q,true,.br g caps,iL (.br g caps) (.br g cos)⟩:bY)]).map (·.d)=ps.map (·.d)++[.br g caps]:=by simp
  rw[aI]at ag;have c5:=ag.uy (ps.map (·.d)++[.br g caps]) (vs++[pt]) 0 (by simp[o5]) wP;have ks:dB (ps.map (·.d)++[.br g caps])=replicate ps.length none++[some (g,caps.length)]:=by rw[(sd _ _).1,iN];simp[dB]
  have N2:fw (ps.map (·.d)++[.br g caps])=ps.map (·.d)++caps:=by rw[(sd _ _).2.1,cf];simp[fw]
  obtain⟨bz,oV⟩:=dH.wM (Gv _ rfl) ks c5;rw[N2]at bz;obtain⟨cx,dC⟩:=ag.wL bz (wO λb J=>J) (by
   simp only[all_append,Bool.and_eq_true,List.all_eq_true];exact⟨λd ad=>by obtain⟨p,ag,rfl⟩:=mem_map.1 ad;exact(iD p ag).1.1.1,bN⟩)
  refine i7.mono (a9 w Fc hN cx (vs++arr.toList) bz.len dC) ?_;rintro v aw ⟨ba,aB,h⟩;have eS:=h.uy (r::(ps.map (·.o)++cos)) (v::(vs++arr.toList)) 0 (by simp[o5,mF,pv]) wP;obtain⟨dM,ev,e7,fi,qT,uo,uq,ur,Aw,Ax⟩:=eS;simp only[cons.injEq]at qT;obtain⟨rfl,rfl⟩:=qT;have bj:dB (ps.map (·.o)++[.br g cos])=replicate ps.length none++[some (g,caps.length)]:=by rw[(sd _ _).1,ea];simp[dB,pv]
  have Gw:fw (ps.map (·.o)++[.br g cos])=ps.map (·.o)++cos:=by rw[(sd _ _).2.1,fh];simp[fw]
  have N3:h4 (ps.map (·.o)++[.br g cos])=true:=by
   rw[(sd _ _).2.2,gE];simp only[Bool.true_and,h4,Bool.and_true,List.all_eq_true];exact bu
  have uz:(ps.map (·.o)).all j.gm=true/\cos.all j.gm=true:=by
   simp only[List.all_eq_true];exact⟨λd ad=>by obtain⟨p,ag,rfl⟩:=mem_map.1 ad;exact(iD p ag).1.1.2,o9⟩
  have dY:=dH.wN (Gv _ rfl) bj N3 (by rw[Gw,all_append,uz.1,uz.2];rfl) oV (by rw[Gw];exact uq);have gS:dH aw ba (r::(ps.map (·.o)++[.br g cos])) (v::(vs++[pt])) (λb=>∃t,0<=t/\aB t b):=⟨v,_,e7,fi,rfl,uo,dY,ur,Aw,Ax⟩
  obtain⟨vK,fQ⟩:=h.wL gS (wO λb J=>J) (by simp only[all_cons,all_append,Gr bU,uz.1,Bool.true_and,all_nil,Bool.and_true];rfl);exact⟨ba,vK,fQ⟩
 .intro hle;have N4:gG ps=true:=by
   simp only[gG,List.any_eq_true]at hle⊢;obtain⟨p,ag,h⟩:=hle;rcases mem_append.1 ag with ag|ag
   .exact⟨p,ag,h⟩
   .simp only[mem_cons,not_mem_nil,or_false]at ag;subst ag;simp at h
  obtain⟨fR,hi,sf⟩:=bO N4;refine⟨fR,λi p o ag bk bm=>?_⟩;rcases Nat.lt_or_ge i ps.length with ay|ay
  .rw[getElem?_append_left ay]at ag;rw[getElem?_append_left (by simpa using ay),getElem?_map,ag]at bk;have:=Option.some.inj bk;subst this;exact hi p (mem_of_getElem? ag) bm
  .rw[getElem?_append_right (by simpa using ay)]at bk;have bC:i-(ps.map (·.o)).length=0:=by
    have:=(List.getElem?_eq_some_iff.1 bk).1;simp at this⊢;omega
   rw[bC]at bk;have:=Option.some.inj bk;subst this;simpa [j.ch]using sf
def l3 (C:bI) (s:af) (f:aT) (args:List aT) (K:j->af->Prop):Prop:=NW C s f args K\/NX C s f args K
theorem N5 (a4:C.dx) (h:Rel w0 F0 X n ρ s a w) {o:Oper} {f:aT} {args:List aT} (bj:cr o.op=some (.call f args)) (ad:jE n o.dst=true) {K:j->af->Prop} {next:Act->World->Prop}
  (hw:l3 C s f args K) (a2:∀av s1 bZ aw,K av s1->Rel w0 F0 X n ρ (fin s1 o.dst av) bZ aw->next bZ aw):o.wp C.P a w next Q:=by
 obtain⟨h3,df,gV,F,S,aG⟩:=h;obtain⟨dst,op,ty,pos,after,guard⟩:=o;simp only at bj ad a2;cases op with
 |call c=>
  obtain⟨callee,jG,argTypes⟩:=c;simp only[cr]at bj;split at bj
  .split at bj
   .rename_i n8 _ _ D8 xs bd kZ;simp only[Option.some.injEq,cZ.call.injEq]at bj;obtain⟨rfl,rfl⟩:=bj;obtain⟨f1,f2⟩:=dZ aG (λ_=>rfl) bd;have i5:=tz aG (λ_=>rfl) _ _ (n3 kZ);have main:∀(g:FuncId) (arr:Array Value) (r:j) (s2:af),a.eval n8= .func (.func g) #[] arr->
      (i7 C.P g (jG.toList.map a.eval++arr.toList).toArray w λv aw=>∃ba aB,bg w0 F0 X ba aB s2 (λt=>a.tmps.getD t undef) aw/\ia w0 X ba aB s2 (λt=>a.tmps.getD t undef) aw r v/\∀b,F b->ba b/\aw.heap[b]? =w.heap[b]?)->
      K r s2->({dst,op:=.call {callee:=.value n8,args:=jG,argTypes},type:=ty,pos,after,guard}:Oper).wp C.P a w next Q:=by
     intro g arr r s2 qc bm ak;have n9:execOp a.eval {dst,op:=.call {callee:=.value n8,args:=jG,argTypes},type:=ty,pos,after,guard}=callFunc g ((jG.toList.map a.eval++arr.toList).toArray):=by
      simp only[execOp,resolve,qc,Deferred.ofValue,pure_bind,invoke];congr 1;apply Array.ext';simp
     unfold Oper.wp;rw[n9];rcases bm with⟨c5,bz⟩|⟨v,aw,c5,ba,aB,bz,dC,ct⟩
     .rw[c5,Oper.upon_enter];refine Calls.mono bz ?_;rintro e aw ⟨v,rfl,ba,aB,bX,b6,cR⟩;exact a2 _ _ _ _ ak (Rel.put h3 df gV bX b6 ad)
     .rw[c5,Oper.upon_value];exact a2 _ _ _ _ ak (Rel.put h3 df gV bz dC ad)
    rcases hw with⟨g,caps,as,os,ps,r,U,eP,ae,ax,aP,a9,aI,aR,aX,ai,bU,bO,dv⟩|⟨x,q,g,caps,cos,ps,r,U,b2,aa,ax,aP,a9,pv,ai,bU,bO,dv⟩
    .rw[U,az]at f2;obtain⟨arr,f3,f4⟩:=f2;exact main g arr r _ f3 (NY aG (wa i5 f4) eP ae ax aP a9 aI aR aX ai bU bO) dv
    .rw[U]at f2;rw[<-aa]at i5;have eP:j.db (ps.map (·.a))=true:=by
      have key:∀(xs:List aT) (os:List Operand),os.map cQ=xs.map some->j.db (xs.map (a6 s))=true:=by
       intro xs;induction xs with
       |nil=>intro _ _;rfl
       |cons x xs ih=>
        intro os bk;cases os with
        |nil=>simp at bk
        |cons o os=>
         simp only[map_cons,cons.injEq]at bk;simp only[map_cons,j.db,Bool.and_eq_true];exact⟨(dZ aG (λ_=>rfl) bk.1).1,ih os bk.2⟩
      rw[aa];exact key _ _ (n3 kZ)
     obtain⟨arr,aL,a0⟩:=NZ aG i5 eP f2 b2 ax aP a9 pv ai bU bO;exact main g arr r _ aL a0 dv
   .cases bj
  .split at bj
   .simp only[Option.map_eq_some_iff]at bj;obtain⟨_,_,bj⟩:=bj;cases bj
   .cases bj
  .split at bj
   .simp only[Option.map_eq_some_iff]at bj;obtain⟨_,_,bj⟩:=bj;cases bj
   .cases bj
  iterate 3
   .split at bj
    .split at bj<;>cases bj
    .cases bj
  .cases bj
 |makeFunc fn first cs=>
  cases fn<;>simp only[cr]at bj<;>first|(cases bj;done)|(split at bj<;>simp at bj)
 |slice T x dE ay fO=>
  cases fO<;>simp only[cr]at bj<;>first|(cases bj;done)|(split at bj<;>simp at bj)
 |makeMap T r=>cases r<;>simp only[cr]at bj<;>simp at bj
 |lookup T x i c=>cases c<;>simp only[cr]at bj<;>first|(cases bj;done)|(split at bj<;>simp at bj)
 |_=>simp only[cr]at bj<;>first|(cases bj;done)|(simp at bj;done)|(split at bj<;>simp at bj)
theorem N6 (a4:C.dx) {id:Nat} {ops:Array Oper} {m rest:List bE} {f:aT} {args:List aT} {d1:Option Nat} {K:af->Prop}
  (lW:mB n ops ops.toList=some ((m++⟨d1,.call f args,none⟩::rest:List bE).map bE.un)) (aG:Rel w0 F0 X n ρ s a w)
  (h:ik C s m λs1=>l3 C s1 f args λr s2=>ik C (fin s2 d1 r) rest K)
  (a2:∀au bZ aw,K au->Rel w0 F0 X n ρ au bZ aw->Q .normal bZ aw):(Code.region id ops false).wp C.P Q a w:=by
 obtain⟨hl,lV⟩:=we lW;have uk:∀(i:Nat) (r:bE),(m++⟨d1,.call f args,none⟩::rest:List bE)[i]? =some r->∃o,ops[i]? =some o/\mA n ops o=some r.un:=by
  intro i r ay;have da:i<ops.toList.length:=by
   rw[hl,length_map];exact(List.getElem?_eq_some_iff.1 ay).1
  obtain⟨gF,U,aa⟩:=lV i _ (getElem?_eq_getElem da);rw[getElem?_map,ay]at U;simp only[Option.map_some,Option.some.injEq]at U;exact⟨_,by rw[<-Array.getElem?_toList];exact getElem?_eq_getElem da,by rw[U];exact aa⟩
 have Ac:ops.size=m.length+rest.length+1:=by
  have:ops.toList.length=ops.size:=by simp
  rw[<-this,hl];simp;omega
 have Ad:range ops.size=(range m.length).map (·+0)++(m.length::(range rest.length).map (·+(m.length+1))):=by
  rw[Ac,show m.length+rest.length+1=m.length+(rest.length+1) by omega,range_add,range_succ_eq_map];simp only[List.map_map,map_cons,Nat.add_zero,List.map_id'];congr 1;congr 1;apply map_congr_left;intro x _;simp;omega
 refine wp_region ?_;rw[Ad];have hw:=wF C _ m [] (⟨d1,.call f args,none⟩::rest) _ h;have tx:∀au bZ aw,ik C au rest K->Rel w0 F0 X n ρ au bZ aw->wpOps C.P ops Q ((range rest.length).map (·+(m.length+1))) bZ aw:=by
  intro iK fG nz ax Ah;have qC:=wF C K rest (m++[⟨d1,.call f args,none⟩]) [] iK ax;have:=tP (Q:=Q) a4 (ops:=ops) (ros:=(m++[⟨d1,.call f args,none⟩])++(rest++[])) (l2:=[]) (K:=K) (λau bZ aw iH c9=>a2 au bZ aw iH c9) ((range rest.length).map (·+(m.length+1))) (λi ay=>by
   have qz:(m++[⟨d1,.call f args,none⟩])++(rest++[])=(m++⟨d1,.call f args,none⟩::rest:List bE):=by simp
   rw[qz];refine⟨λhY=>?_,λo bk=>?_⟩
   .rw[List.getElem?_eq_none_iff];have:=Array.getElem?_eq_none_iff.1 hY;simp;omega
   .obtain⟨aF,gi,aa⟩:=lV i o (by simpa using bk);obtain⟨r,U,rfl⟩:∃r,(m++⟨d1,.call f args,none⟩::rest:List bE)[i]? =some r/\r.un=aF:=by
     rw[getElem?_map,Option.map_eq_some_iff]at gi;exact gi
    exact⟨r,U,aa⟩) iK fG nz (by
   have e:(m++[⟨d1,.call f args,none⟩]:List bE).length=m.length+1:=by simp
   rw[e]at qC;exact qC) Ah
  simpa using this
 have mid:∀au bZ aw,(l3 C au f args λr s2=>ik C (fin s2 d1 r) rest K)->Rel w0 F0 X n ρ au bZ aw->wpOps C.P ops Q (m.length::(range rest.length).map (·+(m.length+1))) bZ aw:=by
  intro s2 bw ke ae zH;obtain⟨ny,Af,lA⟩:=uk m.length ⟨d1,.call f args,none⟩ (by simp);obtain⟨eO,el,fP,qa⟩:=wG rfl lA;change n7 ny.op= .call f args at fP;have Ag:cr ny.op=some (.call f args):=by
   rcases o_ fP with h|h
   .cases h
   .exact h
  have Ai:ny.dst=d1:=eO.symm;exact NN Af el (N5 a4 zH Ag qa ae λav s1 bZ aw ak c9=>tx _ _ _ ak (by rw[<-Ai];exact c9))
 have:=tP (Q:=Q) a4 (ops:=ops) (ros:=[]++(m++⟨d1,.call f args,none⟩::rest)) (l2:=m.length::(range rest.length).map (·+(m.length+1))) mid
  ((range m.length).map (·+0)) (λi ay=>by
    obtain⟨aD,cn,rfl⟩:=mem_map.1 ay;have r9:aD<m.length:=mem_range.1 cn;refine⟨λhY=>?_,λo bk=>?_⟩
    .have:=Array.getElem?_eq_none_iff.1 hY;omega
    .obtain⟨aF,gi,aa⟩:=lV (aD+0) o (by simpa using bk);obtain⟨r,U,rfl⟩:∃r,(m++⟨d1,.call f args,none⟩::rest:List bE)[aD+0]? =some r/\r.un=aF:=by
      rw[getElem?_map,Option.map_eq_some_iff]at gi;exact gi
     exact⟨r,by simpa using U,aa⟩) s a w hw aG
 exact this
def qW (C:bI) (m:List bE) (f:aT) (args:List aT) (d1:Option Nat) (rest:List bE) (dF:Vm):(Exit->af->Prop)->af->Prop:=
 λQ s=>cl C s m none λ_ s1=>l3 C s1 f args λr s2=>cl C (fin s2 d1 r) rest none λ_ iK=>dr (Q .normal) (ao (e1 dF iK))
def Az (m:List bE) (f:aT) (args:List aT) (d1:Option Nat) (rest:List bE):aM:=.eT (m++⟨d1,.call f args,none⟩::rest) none
def uA (C:bI) (T:(Exit->af->Prop)->af->Prop) (b:aM):Prop:=
 ∃(m:List bE) (f:aT) (args:List aT) (d1:Option Nat) (rest:List bE) (dF:Vm),T=qW C m f args d1 rest dF/\b=Az m f args d1 rest
end
section
variable {C:bI} {w0 w:World} {F0 X:Nat->Prop} {n:Fr} {ρ:Nat->Value} {s:af} {a:Act}
theorem N7 {f:aT} {args:List aT} {K cz:j->af->Prop} (ak:∀r s,K r s->cz r s) (h:l3 C s f args K):l3 C s f args cz:=by
 rcases h with⟨g,caps,as,os,ps,r,U,eP,ae,ax,aP,a9,aI,aR,aX,ai,bU,bO,dv⟩|⟨x,q,g,caps,cos,ps,r,U,b2,aa,ax,aP,a9,pv,ai,bU,bO,dv⟩
 .exact .inl ⟨g,caps,as,os,ps,r,U,eP,ae,ax,aP,a9,aI,aR,aX,ai,bU,bO,ak _ _ dv⟩
 .exact .inr ⟨x,q,g,caps,cos,ps,r,U,b2,aa,ax,aP,a9,pv,ai,bU,bO,ak _ _ dv⟩
theorem N8 (a4:C.dx) {c:Code} {T:(Exit->af->Prop)->af->Prop} {b:aM} {Q:Exit->af->Prop} (eh:uA C T b) (R:e_ n c=some b.strip) (h:T Q s) (aG:Rel w0 F0 X n ρ s a w):
  c.wp C.P (pa w0 F0 X n ρ Q) a w:=by
 obtain⟨m,f,args,d1,rest,dF,rfl,rfl⟩:=eh;obtain⟨id,ops,rfl,lW⟩:=F7 R;refine N6 (Q:=pa w0 F0 X n ρ Q) (K:=dr (dr (Q .normal))) a4 lW aG (qE (λ_ s1 ae=>N7 (λr s2 h=>qE (λ_ s h=>.inr ⟨_,F6 _ _,h⟩) h) ae) h) λau bZ aw ak c9=>?_;obtain⟨s2,aa,bz⟩:=c9.dr ak;exact bz.dr aa
theorem bq.Gx (a4:C.dx) {f:FuncId} {fn:Func} {c:Code} {dP:aM} {fx:Vm} {as outs:Vr} {r:j} (dA:List ResultVar) (l:Vq) (bd:C.P.funcs[f]? =some fn) (J:fn.body=some c)
  (iM:(fn.name== "runtime.NumGoroutine")=false) (R:e_ ⟨fn.ntmps,fx⟩ c=some dP.strip) (a2:as.length<=fn.ntmps) (ak:dP.k1 (uA C)) (eX:fn.results.toList=dA) (hl:num 0 as=l)
  (h:∀Q:Exit->af->Prop,(∀s,dr (Ends C fx dA r outs) s->Q .ret s)->(∀s,dr (Ends C fx dA r outs) s->Q .normal s)->bh C dP Q (ao l)):bq C f as r outs:=by
 subst eX hl;intro w F X S vs hl aG;refine zE (fx:=fx) a4 bd J iM a2 hl aG λa mC c8=>?_;refine zC a4 (H:=uA C) (λc T b Q s a w gA um aO aG=>N8 a4 gA um aO aG) c (by rw[aM.zx];exact R) (aM.zy dP ak) (zB dP ?_) mC;rw[wo];exact h _ (λs h=>⟨.inr rfl,h⟩) (λs h=>⟨.inl rfl,h⟩)
end
theorem qX:(∀t f c,mh t (.br f c)= .h t [])/\(∀(l:Vq) t f c,fin (ao l) (some t) (.br f c)=ao ((t,.br f c)::nr t l))/\(∀f c,j.plain (.br f c)=false)/\(∀t f c,b9 t (.br f c)= .br f c)/\(∀t f c,bQ t (.br f c)= .br f c)/\
  (∀f c,j.cj (.br f c)= .hole)/\(∀f c,j.wd (.br f c)=1)/\(∀f c,j.eZ (.br f c)=true)/\(∀f c g e,n5 (.br f c) (.br g e)=true)/\(∀s x q d f c,bY.gT s ⟨.h x q,true,d,.br f c⟩=cA (ji x s) x (j.put q (.br f c) (s x)))/\(∀f c,j.R (.br f c)=[])/\(∀f c,j.tree (.br f c)=true)/\(∀f c,j.owner (.br f c)=none)/\
  (∀f ds g us,iL (.br f ds) (.br g us)= .br g (h2 ds us))/\(∀us,h2 [] us=us)/\(∀d ds us,h2 (d::ds) (.hole::us)=(if d.plain=true then d else .hole)::h2 ds us)/\(∀d ds x us,h2 (d::ds) (.aS x::us)= .aS x::h2 ds us)/\(∀d ds x us,h2 (d::ds) (.ref x::us)= .ref x::h2 ds us)/\
  (∀d ds n x us,h2 (d::ds) (.aq n x::us)= .aq n x::h2 ds us)/\(∀d,j.plain (.ref d)=true)/\(∀f c,j.ch (.br f c)=j.gU c):=
 ⟨λ_ _ _=>rfl,λl t f c=>by simp only[fin,j.plain,Bool.false_eq_true,if_false,wq,r2],λ_ _=>rfl,λ_ _ _=>by unfold b9;rfl,λ_ _ _=>by unfold bQ;rfl,λ_ _=>by simp only[j.cj],λ_ _=>by simp only[j.wd],λ_ _=>rfl,λ_ _ _ _=>rfl,λ_ _ _ _ _ _=>by simp[bY.gT],λ_ _=>by simp only[j.R],λ_ _=>rfl,λ_ _=>rfl,
  λ_ _ _ _=>rfl,λus=>by cases us<;>rfl,λ_ _ _=>rfl,λ_ _ _ _=>rfl,λ_ _ _ _=>rfl,λ_ _ _ _ _=>rfl,λ_=>rfl,λ_ _=>rfl⟩
theorem Gy {α:Type} (u:α->j):∀l:List α,hz (l.map u) (l.map u)
 |[]=>.nil
 |_::l=>.cons (.refl _) (Gy u l)
theorem Gz {α:Type} {u:α->j} {x:j} {y:α} (h:dQ x (u y)):∀(l:List α) (i:Nat),hz ((l.map u).set i x) ((l.set i y).map u)
 |[],i=>.nil
 |_::l,0=>.cons h (Gy u l)
 |_::l,i+1=>.cons (.refl _) (Gz h l i)
def qY:List bY->Bool
 |[]=>true
 |p::ps=>(!p.g||p.o.ch)&&qY ps
theorem AA:∀{ps:List bY},qY ps=true->∀p∈ps,p.g=true->p.o.ch=true
 |[],_,p,ag,_=>by cases ag
 |q::ps,h,p,ag,bm=>by
  simp only[qY,Bool.and_eq_true,Bool.or_eq_true,Bool.not_eq_true']at h;rcases mem_cons.1 ag with rfl|ag
  .rcases h.1 with h|h
   .rw[h]at bm;cases bm
   .exact h
  .exact AA h.2 p ag bm
theorem GA {C:bI} {Q:Exit->af->Prop} {l:Vq} {m:List bE} {f:aT} {args:List aT} {d1:Option Nat} {rest:List bE} {dF:Vm} {b:aM} (b0:Vq)
  (h:∀P:Vq->Prop,P b0->cl C (ao l) m none λ_ s1=>l3 C s1 f args λr s2=>cl C (fin s2 d1 r) rest none λ_ iK=>P (e1 dF iK)) (ak:dr (Q .normal) (ao b0)):bh C (.gX (qW C m f args d1 rest dF) b) Q (ao l):=
 λdj N9=>h (λl=>dr (dj .normal) (ao l)) (qy (λ_ h=>N9 _ _ h) _ ak)
theorem N_ {C:bI} {Q:Exit->af->Prop} {l:Vq} {m:List bE} {f:aT} {args:List aT} {d1:Option Nat} {rest:List bE} {dF:Vm} {b:aM} (b0:Vq)
  (h:∀P:Vq->Prop,P b0->cl C (ao l) m none λ_ s1=>l3 C s1 f args λr s2=>cl C (fin s2 d1 r) rest none λ_ iK=>P (e1 dF iK)) (ak:Q .normal (ao b0)):bh C (.gX (qW C m f args d1 rest dF) b) Q (ao l):=
 GA (b:=b) b0 h (.inl ak)
theorem Oa {C:bI} {Q:Exit->af->Prop} {l:Vq} {m:List bE} {f:aT} {args:List aT} {d1:Option Nat} {rest:List bE} {dF:Vm} {b e:aM} (b0:Vq)
  (h:∀P:Vq->Prop,P b0->cl C (ao l) m none λ_ s1=>l3 C s1 f args λr s2=>cl C (fin s2 d1 r) rest none λ_ iK=>P (e1 dF iK)) (ak:dr (bh C e Q) (ao b0)):bh C (.seq (.gX (qW C m f args d1 rest dF) b) e) Q (ao l):=
 GA (b:=b) b0 h (.inl ak)
theorem Ob {C:bI} {Q:Exit->af->Prop} {l:Vq} {m:List bE} {f:aT} {args:List aT} {d1:Option Nat} {rest:List bE} {dF:Vm} {b e:aM} (b0:Vq)
  (h:∀P:Vq->Prop,P b0->cl C (ao l) m none λ_ s1=>l3 C s1 f args λr s2=>cl C (fin s2 d1 r) rest none λ_ iK=>P (e1 dF iK)) (ak:bh C e Q (ao b0)):bh C (.seq (.gX (qW C m f args d1 rest dF) b) e) Q (ao l):=
 Oa (b:=b) b0 h (.inl ak)
theorem Oc {C:bI} {l:Vq} {f:aT} {args:List aT} {g:FuncId} {caps as os:Vr} {r:j} {K:j->af->Prop} (ps:List bY) (a9:bq C g as r os) (U:a6 (ao l) f= .fn g caps) (eP:j.db (ps.map (·.a))=true)
  (ae:la (dB as) (hB (ao l) args++caps)=some (ps.map (·.a))) (ax:mI (ao l) ps) (aP:fD ps=true) (aI:fw as=ps.map (·.d)) (aR:dB os=dB as) (aX:fw os=ps.map (·.o))
  (ai:(h4 as&&oo as&&as.all j.gm&&(fw as).all j.gm&&(fw os).all j.gm)=true) (bU:r.res=true) (bO:gG ps=false\/(r.ch&&qY ps)=true) (hK:K r (e0 (di (ao l) ps) ps)):l3 C (ao l) f args K:=by
 refine .inl ⟨g,caps,as,os,ps,r,U,eP,by rw[qI];exact ae,uh ax,aP,a9,aI,aR,aX,ai,bU,?_,hK⟩;intro hl;rcases bO with bO|bO
 .rw[bO]at hl;cases hl
 .rw[Bool.and_eq_true]at bO;exact⟨bO.1,AA bO.2⟩
theorem Od {C:bI} {l:Vq} {f:aT} {args:List aT} {x:Nat} {q:Vm} {g:FuncId} {caps:Vr} {r:j} {K:j->af->Prop} (ps:List bY) (cos:Vr) (a9:bq C g (ps.map (·.d)++caps) r (ps.map (·.o)++cos)) (U:a6 (ao l) f= .h x q)
  (b2:j.sub q (ao l x)=some (.br g caps)) (aa:ps.map (·.a)=hB (ao l) args) (ax:mI (ao l) (ps++[⟨.h x q,true,.br g caps,iL (.br g caps) (.br g cos)⟩])) (aP:fD (ps++[⟨.h x q,true,.br g caps,iL (.br g caps) (.br g cos)⟩])=true)
  (pv:cos.length=caps.length) (ai:(cos.all j.one&&caps.all j.gm&&cos.all j.gm&&(ps.all λp=>p.d.gm&&p.o.gm&&(dB [p.d]==[none])&&(dB [p.o]==[none])))=true) (bU:r.res=true) (bO:gG ps=false\/(r.ch&&qY ps&&j.gU cos)=true)
  (hK:K r (e0 (di (ao l) (ps++[⟨.h x q,true,.br g caps,iL (.br g caps) (.br g cos)⟩])) (ps++[⟨.h x q,true,.br g caps,iL (.br g caps) (.br g cos)⟩]))):l3 C (ao l) f args K:=by
 refine .inr ⟨x,q,g,caps,cos,ps,r,U,b2,by rw[aa,qI],uh ax,aP,a9,pv,ai,bU,?_,hK⟩;intro hl;rcases bO with bO|bO
 .rw[bO]at hl;cases hl
 .rw[Bool.and_eq_true,Bool.and_eq_true]at bO;exact⟨bO.1.1,AA bO.1.2,bO.2⟩
end Go.cV
