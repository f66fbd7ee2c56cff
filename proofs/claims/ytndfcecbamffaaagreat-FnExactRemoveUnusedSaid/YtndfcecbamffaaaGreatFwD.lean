/- Part of a proof that a law returns true for every input. No condition. -/
import Derived.Test.YtndfcecbamffaaaGreatFwC
import Derived.Test.YtndfcecbamffaaaGreatFwA
import Derived.Laws.IdiomStrings
import Derived.Laws.Strings
import Derived.LaidEql
import Derived.WideLaws
import Derived.Laws.StructEq
namespace Go.cW
open List Option Nat Or
section
variable {C:bI} {w0 w:World} {F0 X F:Nat->Prop} {S:Nat->Nat->Prop} {s s1:ah} {ao:Nat->Value} {av:j}
theorem nM {k:IntKind} {n:Int} {v:Value} {aF:Nat->Prop} (h:aB w F s ao (.int k n) v aF):v= .int k n:=by
 have bz:=(aB.b4 rfl).1 h;rw[ai,fM bz.1]at bz;simpa using bz.2
theorem qG {b:Bool} {v:Value} {aF:Nat->Prop} (h:aB w F s ao (.bool b) v aF):v= .bool b:=by
 have bz:=(aB.b4 rfl).1 h;rw[ai,fM bz.1]at bz;simpa using bz.2
theorem mX {b:nq} {v:Value} {aF:Nat->Prop} (h:aB w F s ao (.str b) v aF):v= .string ⟨⟨b⟩⟩:=by
 have bz:=(aB.b4 rfl).1 h;rw[ai,fM bz.1]at bz;simpa using bz.2
theorem Hd {v:Value} {aF:Nat->Prop} (h:aB w F s ao .c8 v aF):v= .pointer none:=by
 have bz:=(aB.b4 rfl).1 h;rw[ai,fM bz.1]at bz;simpa using bz.2
theorem pV {v:Value} {aF:Nat->Prop} (h:aB w F s ao .aJ v aF):v= .slice none 0 0:=by
 have bz:=(aB.b4 rfl).1 h;rw[ai,fM bz.1]at bz;simpa using bz.2
theorem He {v:Value} {aF:Nat->Prop} (h:aB w F s ao .eF v aF):∃b,v= .bool b:=by
 have bz:=(aB.b4 rfl).1 h;rw[ai,fM bz.1]at bz;simpa using bz.2
theorem of_int (k:IntKind) (n:Int):aB w F s ao (.int k n) (.int k n) (λ_=>False):=(aB.b4 rfl).2 ⟨rfl,by rw[ai];rfl⟩
theorem of_bool (b:Bool):aB w F s ao (.bool b) (.bool b) (λ_=>False):=(aB.b4 rfl).2 ⟨rfl,by rw[ai];rfl⟩
theorem nN (b:nq):aB w F s ao (.str b) (.string ⟨⟨b⟩⟩) (λ_=>False):=(aB.b4 rfl).2 ⟨rfl,by rw[ai];rfl⟩
theorem BH (b:Bool):aB w F s ao .eF (.bool b) (λ_=>False):=(aB.b4 rfl).2 ⟨rfl,by rw[ai];exact⟨b,rfl⟩⟩
def hH (op:BinOp) (k:IntKind) (a:Int) (cY:IntKind) (b:Int):Option j:=
 match op with
 | .shl=>if b<0 then none else some (.int k (k.wrap (a*2^(min b.toNat k.bits))))
 | .shr=>if b<0 then none else some (.int k (a.fdiv (2^(min b.toNat k.bits))))
 | .add=>if k=cY then some (.int k (k.wrap (a+b)))else none
 | .sub=>if k=cY then some (.int k (k.wrap (a-b)))else none
 | .mul=>if k=cY then some (.int k (k.wrap (a*b)))else none
 | .quo=>if k=cY/\b≠0 then some (.int k (k.wrap (a.tdiv b)))else none
 | .rem=>if k=cY/\b≠0 then some (.int k (a.tmod b))else none
 | .eql=>if k=cY then some (.bool (a==b))else none
 | .neq=>if k=cY then some (.bool (a !=b))else none
 | .lss=>if k=cY then some (.bool (decide (a<b)))else none
 | .leq=>if k=cY then some (.bool (decide (a<=b)))else none
 | .gtr=>if k=cY then some (.bool (decide (b<a)))else none
 | .geq=>if k=cY then some (.bool (decide (b<=a)))else none
 | .and=>if k=cY then some (.int k (bitsOf .and k a b))else none
 | .or=>if k=cY then some (.int k (bitsOf .or k a b))else none
 | .xor=>if k=cY then some (.int k (bitsOf .xor k a b))else none
 | .andNot=>if k=cY then some (.int k (bitsOf .andNot k a b))else none
def mc (op:BinOp) (a b:nq):Option j:=
 match op with
 | .add=>if a.length+b.length<=9223372036854775807 then some (.str (a++b))else none
 | .eql=>some (.bool (a==b))
 | .neq=>some (.bool !(a==b))
 | .lss=>some (.bool (Op.bytesLess a b))
 | .leq=>some (.bool (Op.bytesLess a b||a==b))
 | .gtr=>some (.bool !(Op.bytesLess a b||a==b))
 | .geq=>some (.bool !(Op.bytesLess a b))
 |_=>none
def iB (s:ah):j->Option abJ
 | .aJ=>some (some true)
 | .slice xs=>some (if xs=[]then none else some false)
 | .h x q=>match j.sub q (s x)with
   |some (.ad _ xs)=>some (if xs=[]then none else some false)
   |_=>none
 |_=>none
def j_ (s:ah):j->abJ
 | .c8=>some true
 | .ref _=>some false
 | .h x q=>match j.sub q (s x)with
   |some (.aD _)=>some false
   |_=>none
 |_=>none
def nO (neg:Bool):abJ->j
 |some b=>.bool (b !=neg)
 |none=>.eF
def structEq (P:Program) (T:TypeId):Bool:= !P.stoodInHeld T&& !P.eqGuardType P.depth T&&(P.fieldsOf T).toList.all λf=>decide (f.name≠ "_")
def mY (C:bI):List (TypeId×Nat)->Nat->abN->abN->abJ
 |[],_,[],[]=>some true
 |(iA,off)::ar,n,d::ds,e::es=>if off=n then(match(C.T iA).k,d,e with
  | .int k,.int bU a,.int cc b=>if bU=k/\cc=k then(mY C ar (n+1) ds es).map λr=>a==b&&r else none
  | .bool,.bool a,.bool b=>(mY C ar (n+1) ds es).map λr=>a==b&&r
  | .str,.str a,.str b=>(mY C ar (n+1) ds es).map λr=>a==b&&r
  |_,_,_=>none)else none
 |_,_,_,_=>none
def el (C:bI) (s:ah) (op:BinOp) (T:TypeId) (x y:j):Option j:=
 match x,y with
 | .int k a,.int cY b=>hH op k a cY b
 | .str a,.str b=>mc op a b
 | .bool a,.bool b=>match op,(C.T T).k with
   | .eql,.bool=>some (.bool (a==b))
   | .neq,.bool=>some (.bool !(a==b))
   |_,_=>none
 | .agg ds,.agg es=>match op,(C.T T).k with
   | .eql,.struct ar=>if structEq C.P T=true then(mY C ar 0 ds es).map λb=>.bool b else none
   | .neq,.struct ar=>if structEq C.P T=true then(mY C ar 0 ds es).map λb=>.bool !b else none
   |_,_=>none
 |x,.aJ=>match op,(C.T T).k with
  | .eql,.slice _=>(iB s x).map (nO false)
  | .neq,.slice _=>(iB s x).map (nO true)
  |_,_=>none
 |x,.c8=>match op,(C.T T).k with
  | .eql,.ptr _=>(j_ s x).map λb=>.bool b
  | .neq,.ptr _=>(j_ s x).map λb=>.bool !b
  |_,_=>none
 |_,_=>none
theorem N_ {P:Program} {op:BinOp} {T:TypeId} {k cY:IntKind} {a b:Int} (he:hH op k a cY b=some av) (w:World):
  ∃v,(binOp op T (.int k a) (.int cY b)).run P w= .ok v w/\aB w F s ao av v (λ_=>False):=by
 unfold hH at he;cases op<;>simp only at he<;>split at he<;>first|(cases he;done)|skip
 all_goals
  rename_i aj;simp only[some.injEq]at he;subst he
 all_goals first
  |(subst aj;simp only[binOp_add,binOp_sub,binOp_mul,binOp_eql,binOp_neq,binOp_lss,binOp_leq,binOp_gtr,binOp_geq,binOp_and,binOp_or,binOp_xor,binOp_andNot,Op.intArith,Op.intBits,Sem.run_pure,Result.ok.injEq,and_true,exists_eq_left']
    first|exact of_int _ _|exact of_bool _)
  |(obtain⟨rfl,bq⟩:=aj
    simp only[binOp_quo,binOp_rem,Op.intDiv,bq,if_false,Sem.run_pure,Result.ok.injEq,and_true,exists_eq_left'];exact of_int _ _)
  |(simp only[binOp_shl,binOp_shr,Op.shift,aj,if_false,Sem.run_pure,Result.ok.injEq,and_true,exists_eq_left']
    exact of_int _ _)
theorem wg (a:nq):(⟨⟨a⟩⟩:ByteArray).toList=a:=ByteArray.toList_eq _
theorem Oa (a b:nq):(⟨⟨a⟩⟩:ByteArray)++(⟨⟨b⟩⟩:ByteArray)=⟨⟨a++b⟩⟩:=by
 apply ByteArray.ext;simp[ByteArray.data_append]
theorem Ob {P:Program} {op:BinOp} {T:TypeId} {a b:nq} (he:mc op a b=some av) (w:World):
  ∃v,(binOp op T (.string ⟨⟨a⟩⟩) (.string ⟨⟨b⟩⟩)).run P w= .ok v w/\aB w F s ao av v (λ_=>False):=by
 have J:∀op,binOp op T (.string ⟨⟨a⟩⟩) (.string ⟨⟨b⟩⟩)=Op.stringOp op ⟨⟨a⟩⟩ ⟨⟨b⟩⟩:=by intro op;cases op<;>rfl
 rw[J];unfold mc at he;cases op<;>simp only[some.injEq]at he<;>first|(cases he;done)|skip
 case add=>
  split at he
  .rename_i hl;simp only[some.injEq]at he;subst he;have I:((ByteArray.size ⟨⟨a⟩⟩+ByteArray.size ⟨⟨b⟩⟩:Nat):Int)<=9223372036854775807:=by
    show((a.length+b.length:Nat):Int)<=_;omega
   refine⟨.string ⟨⟨a++b⟩⟩,?_,nN _⟩;simp only[Op.stringOp,IntKind.max_i64];rw[if_neg (by omega),Oa];rfl
  .cases he
 all_goals
  subst he;simp only[Op.stringOp,wg,Sem.run_pure,Result.ok.injEq,and_true,exists_eq_left'];exact of_bool _
theorem BI (h:bu w0 F0 X F S s ao w) {v:Value} {y:Nat} {q:abI} (ay:aB w F s ao (.h y q) v (λ_=>False)) {sz:Nat} {xs:abN} (ae:j.sub q (s y)=some (.ad sz xs)):
  (xs=[]/\∃a,v= .slice a 0 0)\/∃b cap cur e fr,v= .slice (some ⟨b,0,none⟩) xs.length cap/\w.heap[b]? =some (.cells cur e fr)/\j6 fr cur.size/\xs.length<=cap/\cap<=maxLen/\cur.size=cap*sz/\(∀d∈xs,d.wd=sz)/\
   ∃aF,aS w F xs (cur.toList.take (xs.length*sz)) aF/\(∀c,aF c->S y c)/\S y b:=by
 rw[aB]at ay;obtain⟨b0,a,aQ,a2,bQ⟩:=ay _ ae rfl;have I:Value.ft v=true:=bQ;rw[fM I]at a2;subst a2;have ag:=h.cK y;rw[aB.b4 (fQ ae (.inl rfl))]at ag;obtain⟨e4,b3,dj,ej,k0,bU,cc,de,cQ,dT⟩:=ctx q (s y) (bR (ao y)) (S y) none _ ag.2 ae;rw[k0]at aQ;simp only[some.injEq,Prod.mk.injEq,true_and]at aQ;obtain⟨rfl,rfl⟩:=aQ;rw[ai]at cQ;rcases cQ with⟨rfl,bF,U⟩|⟨b,cap,cur,aV,fr,cS,a1,b6,cH,bT,bK,hY,iC,ka,pW,ew,fk⟩
 .simp at U;exact .inl ⟨rfl,_,U⟩
 .simp at a1;exact .inr ⟨b,cap,cur,aV,fr,a1,cH,bT.low,bK,hY,iC,ka,cS,pW,λc aj=>cc _ (ew c aj),cc _ b6⟩
theorem Hf (h:bu w0 F0 X F S s ao w) {v:Value} {y:Nat} {q:abI} (ay:aB w F s ao (.h y q) v (λ_=>False)) {d:j} (ae:j.sub q (s y)=some (.aD d)):
  ∃b cur e fr,v= .pointer (some ⟨b,0,none⟩)/\w.heap[b]? =some (.cells cur e fr):=by
 rw[aB]at ay;obtain⟨b0,a,aQ,a2,bQ⟩:=ay _ ae rfl;have I:Value.ft v=true:=bQ;rw[fM I]at a2;subst a2;have ag:=h.cK y;rw[aB.b4 (fQ ae (.inl rfl))]at ag;obtain⟨e4,b3,dj,ej,k0,bU,cc,de,cQ,dT⟩:=ctx q (s y) (bR (ao y)) (S y) none _ ag.2 ae;rw[k0]at aQ;simp only[some.injEq,Prod.mk.injEq,true_and]at aQ;obtain⟨rfl,rfl⟩:=aQ;rw[ai]at cQ;obtain⟨b,cur,aV,fr,cS,a1,b6,cH,_⟩:=cQ;simp at a1;exact⟨b,cur,aV,fr,a1,cH⟩
theorem Hg {P:Program} {T e:TypeId} (aL:P.underlying T=some (.slice e)) (w:World):∀d,(Op.equalIn (d+1) T (.slice none 0 0) (.slice none 0 0)).run P w= .ok true w/\
  ∀a n c,(Op.equalIn (d+1) T (.slice (some a) n c) (.slice none 0 0)).run P w= .ok false w:=by
 intro d;refine⟨by simp[Op.equalIn,run_underlying aL],λa n c=>by simp[Op.equalIn,run_underlying aL]⟩
theorem Hh {P:Program} {T e:TypeId} (aL:P.underlying T=some (.pointer e)) (w:World):∀d,(Op.equalIn (d+1) T (.pointer none) (.pointer none)).run P w= .ok true w/\
  ∀a,(Op.equalIn (d+1) T (.pointer (some a)) (.pointer none)).run P w= .ok false w:=by
 intro d;refine⟨by simp[Op.equalIn,run_underlying aL],λa=>by simp[Op.equalIn,run_underlying aL]⟩
theorem Hi {P:Program} {T:TypeId} (aL:P.underlying T=some .bool) (w:World):∀d a b,(Op.equalIn (d+1) T (.bool a) (.bool b)).run P w= .ok (a==b) w:=by
 intro d a b;simp[Op.equalIn,run_underlying aL]
theorem Hj (h:bu w0 F0 X F S s ao w) {x:j} {v:Value} (ay:aB w F s ao x v (λ_=>False)) {T e:TypeId} {r:abJ} (aN:iB s x=some r) (aL:C.P.underlying T=some (.slice e)):
  ∃b,(Op.equal T v (.slice none 0 0)).run C.P w= .ok b w/\(∀eI,r=some eI->eI=b)/\Value.ft v=true/\∃a n c,v= .slice a n c:=by
 have aK:=λa n c=>(Hg aL w 9999).2 a n c;have fi:=(Hg aL w 9999).1;cases x with
 |aJ=>
  have:=pV ay;subst this;simp[iB]at aN;subst aN;exact⟨true,fi,by simp,rfl,_,_,_,rfl⟩
 |slice xs=>
  have bz:=(aB.b4 rfl).1 ay;rw[ai,fM bz.1]at bz;simp only[iB,some.injEq]at aN;obtain⟨_,⟨rfl,a,c,U,_,rT⟩|⟨b,o,cap,cX,sz,U,aA⟩⟩:=bz
  .simp at U aN;subst U;subst aN;cases a with
   |none=>
    have:=rT rfl;subst this;exact⟨true,fi,by simp,rfl,_,_,_,rfl⟩
   |some a=>exact⟨false,aK _ _ _,by simp,rfl,_,_,_,rfl⟩
  .simp at U;subst U;refine⟨false,aK _ _ _,?_,rfl,_,_,_,rfl⟩;subst aN;split<;>simp
 |h y q=>
  simp only[iB]at aN;split at aN
  .rename_i sz xs ae;simp only[some.injEq]at aN;rcases BI h ay ae with⟨rfl,a,rfl⟩|⟨b,cap,cur,aV,fr,rfl,_⟩
   .simp at aN;subst aN;cases a with
    |none=>exact⟨true,fi,by simp,rfl,_,_,_,rfl⟩
    |some a=>exact⟨false,aK _ _ _,by simp,rfl,_,_,_,rfl⟩
   .refine⟨false,aK _ _ _,?_,rfl,_,_,_,rfl⟩;subst aN;split<;>simp
  .cases aN
 |_=>simp[iB]at aN
theorem Hk (h:bu w0 F0 X F S s ao w) {x:j} {v:Value} (ay:aB w F s ao x v (λ_=>False)) {T e:TypeId} {r:Bool} (aN:j_ s x=some r) (aL:C.P.underlying T=some (.pointer e)):
  (Op.equal T v (.pointer none)).run C.P w= .ok r w/\∃a,v= .pointer a:=by
 have aK:=λa=>(Hh aL w 9999).2 a;have fi:=(Hh aL w 9999).1;cases x with
 |c8=>
  have:=Hd ay;subst this;simp[j_]at aN;subst aN;exact⟨fi,_,rfl⟩
 |ref d=>
  have bz:=(aB.b4 rfl).1 ay;rw[ai,fM bz.1]at bz;simp[j_]at aN;subst aN;obtain⟨_,b,o,cX,U,_⟩:=bz;simp at U;subst U;exact⟨aK _,_,rfl⟩
 |h y q=>
  simp only[j_]at aN;split at aN
  .rename_i d ae;simp only[some.injEq]at aN;subst aN;obtain⟨b,cur,e,fr,rfl,_⟩:=Hf h ay ae;exact⟨aK _,_,rfl⟩
  .cases aN
 |_=>simp[j_]at aN
theorem Oc (a_:C.Ok):∀(ar:List (TypeId×Nat)) (gs:List Field) (n:Nat) (ds es:abN) (r:Bool) (en l2 bD bH:abL) (xs bO:Array Value) (bJ cS:Nat->Prop),
  gs.map (λg=>(g.type,g.offset))=ar->(gs.all λf=>decide (f.name≠ "_"))=true->mY C ar n ds es=some r->aS w F ds bD bJ->aS w F es bH cS->xs.toList=en++bD->en.length=n->bO.toList=l2++bH->l2.length=n->
  ∀m,(Op.eqFields (m+1) xs bO gs).run C.P w= .ok r w:=by
 intro ar;induction ar with
 |nil=>
  intro gs n ds es r en l2 bD bH xs bO bJ cS bm a7 he R U ag hl bh BJ m;have:gs=[]:=by simpa using bm
  subst this;cases ds<;>cases es<;>simp[mY]at he;subst he;simp[Op.eqFields]
 |cons p ar ih=>
  obtain⟨iA,off⟩:=p;intro gs n ds es r en l2 bD bH xs bO bJ cS bm a7 he R U ag hl bh BJ m;cases gs with
  |nil=>simp at bm
  |cons g gs=>
   simp only[map_cons,cons.injEq,Prod.mk.injEq]at bm;obtain⟨⟨rfl,rfl⟩,bm⟩:=bm;simp only[all_cons,Bool.and_eq_true,decide_eq_true_eq]at a7;cases ds with
   |nil=>simp[mY]at he
   |cons d ds=>
   cases es with
   |nil=>simp[mY]at he
   |cons e es=>
   simp only[mY]at he;split at he
   .rename_i oQ;rw[aS]at R U;obtain⟨ab,bF,yL,Od,rfl,dX,eG,fY,Hl,dw⟩:=R;obtain⟨i7,gz,aai,Oe,rfl,gb,fC,iR,hI,qH⟩:=U;have step:∀(x y:Value) (z:Bool),(C.T g.type).flat=true->ab=[x]->i7=[y]->(∀m,(Op.equalIn (m+1) g.type x y).run C.P w= .ok z w)->∀gX,mY C ar (n+1) ds es=some gX->
      (Op.eqFields (m+1) xs bO (g::gs)).run C.P w= .ok (z&&gX) w:=by
     intro x y z hZ BK BL heq gX dA;subst BK;subst BL;have Of:xs[g.offset]? =some x:=by
      rw[<-Array.getElem?_toList,ag,oQ,<-hl,getElem?_append_right (Nat.le_refl _)];simp
     have Og:bO[g.offset]? =some y:=by
      rw[<-Array.getElem?_toList,bh,oQ,<-BJ,getElem?_append_right (Nat.le_refl _)];simp
     have aw:=ih gs (n+1) ds es gX (en++[x]) (l2++[y]) bF gz xs bO Od Oe bm a7.2 dA eG fC (by rw[ag];simp) (by simp[hl]) (by rw[bh];simp) (by simp[BJ]) m;unfold Op.eqFields;rw[if_pos a7.1];simp only[part,Sem.run_bind,BF a_ hZ,Result.andThen_ok,Bool.false_eq_true,if_false,Of,Og,Sem.run_pure,heq];cases z
     .simp
     .simpa using aw
    split at he
    .rename_i k bU a cc b ak;split at he
     .rename_i Oh;obtain⟨rfl,rfl⟩:=Oh;rw[ai]at dX gb;simp only[map_eq_some_iff]at he;obtain⟨gX,dA,rfl⟩:=he;obtain⟨i,rU,Hm,aK,aV,a1,b6,cH,bT,bK⟩:=a_.info (fa ak (by simp));rw[ak]at bK;have rV:=v_ bK;subst rV;exact step _ _ _ (by simp[fu.flat,ak]) dX gb (λm=>run_equalIn_int w m g.type _ _ a b bT) gX dA
     .cases he
    .rename_i a b ak;rw[ai]at dX gb;simp only[map_eq_some_iff]at he;obtain⟨gX,dA,rfl⟩:=he;obtain⟨i,rU,Hm,aK,aV,a1,b6,cH,bT,bK⟩:=a_.info (fa ak (by simp));rw[ak]at bK;have rV:=BB bK;subst rV;exact step _ _ _ (by simp[fu.flat,ak]) dX gb (λm=>run_equalIn_bool' w m g.type a b bT) gX dA
    .rename_i a b ak;rw[ai]at dX gb;simp only[map_eq_some_iff]at he;obtain⟨gX,dA,rfl⟩:=he;obtain⟨i,rU,Hm,aK,aV,a1,b6,cH,bT,bK⟩:=a_.info (fa ak (by simp));rw[ak]at bK;have rV:=oP bK;subst rV;refine step _ _ (a==b) (by simp[fu.flat,ak]) dX gb (λm=>?_) gX dA;rw[run_equalIn_string w m g.type _ _ bT,wg,wg]
    .cases he
   .cases he
theorem Hn (a_:C.Ok) {T:TypeId} {ar:List (TypeId×Nat)} (ak:(C.T T).k= .struct ar) {ds es:abN} {fD fE:Value} {bJ cS:Nat->Prop} {r:Bool} (ag:aB w F s ao (.agg ds) fD bJ) (bh:aB w F s ao (.agg es) fE cS)
  (cp:structEq C.P T=true) (he:mY C ar 0 ds es=some r) (op:BinOp) (wh wi:Operand):
  (eqGuard op T wh wi fD fE).run C.P w= .ok () w/\(Op.equal T fD fE).run C.P w= .ok r w:=by
 obtain⟨i,d,z,aK,aV,a1,b6,cH,bT,bK⟩:=a_.info (fa ak (by simp));rw[ak]at bK;obtain⟨gs,rfl,hY⟩:=v8 bK;have pX:C.P.fieldsOf T=gs:=by simp[Program.fieldsOf,bT]
 simp only[structEq,Bool.and_eq_true,Bool.not_eq_true',pX]at cp;obtain⟨⟨gb,fC⟩,iR⟩:=cp;obtain⟨⟨xs,rfl⟩,mZ⟩:=(aB.b4 rfl).1 ag;obtain⟨⟨bO,rfl⟩,pQ⟩:=(aB.b4 rfl).1 bh;rw[ai]at mZ pQ;constructor
 .cases op<;>simp[eqGuard,fC]
 .show(Op.equalIn (9999+1) T _ _).run C.P w=_;rw[run_equalIn_struct w 9999 T xs bO (by rw[pX];exact bT) gb,pX];exact Oc a_ ar gs.toList 0 ds es r [] [] _ _ xs bO bJ cS hY iR he mZ pQ rfl rfl rfl rfl 9998
theorem Oi (a_:C.Ok) (h:bu w0 F0 X F S s ao w) {op:BinOp} {T:TypeId} {x y:j} {fD fE:Value} (wh wi:Operand) (ag:aB w F s ao x fD (λ_=>False)) (bh:aB w F s ao y fE (λ_=>False))
  (he:el C s op T x y=some av):Good C w0 F0 X ao w (do eqGuard op T wh wi fD fE;binOp op T fD fE) av s:=by
 unfold el at he;split at he
 .have:=nM ag;subst this;have:=nM bh;subst this;obtain⟨v,R,U⟩:=N_ (P:=C.P) (T:=T) he w;refine Good.same h (v:=v) ?_ ?_ U
  .rw[eqGuard_at_int];exact R
  .revert he;unfold hH;cases op<;>simp only<;>split<;>simp<;>(rintro rfl;rfl)
 .have:=mX ag;subst this;have:=mX bh;subst this;obtain⟨v,R,U⟩:=Ob (P:=C.P) (T:=T) he w;refine Good.same h (v:=v) ?_ ?_ U
  .rw[eqGuard_at_string];exact R
  .revert he;unfold mc;cases op<;>simp only<;>(try split)<;>simp<;>(try (rintro rfl;rfl))
 .have:=qG ag;subst this;have:=qG bh;subst this;split at he
  .rename_i ak;simp only[some.injEq]at he;subst he;obtain⟨i,d,z,aK,aV,a1,b6,cH,bT,bK⟩:=a_.info (fa ak (by simp));rw[ak]at bK;have:=BB bK;subst this;refine Good.same h ?_ rfl (of_bool _);rw[eqGuard_at_bool];simp[binOp,Op.equal,Op.maxDepth,Hi bT w 9999]
  .rename_i ak;simp only[some.injEq]at he;subst he;obtain⟨i,d,z,aK,aV,a1,b6,cH,bT,bK⟩:=a_.info (fa ak (by simp));rw[ak]at bK;have:=BB bK;subst this;refine Good.same h ?_ rfl (of_bool _);rw[eqGuard_at_bool];simp[binOp,Op.equal,Op.maxDepth,Hi bT w 9999]
  .cases he
 .split at he
  .rename_i ar ak;split at he
   .rename_i cp;simp only[map_eq_some_iff]at he;obtain⟨r,aN,rfl⟩:=he;obtain⟨aQ,a2⟩:=Hn a_ ak ag bh cp aN .eql wh wi;obtain⟨⟨xs,rfl⟩,_⟩:=(aB.b4 rfl).1 ag;obtain⟨⟨bO,rfl⟩,_⟩:=(aB.b4 rfl).1 bh;exact Good.same h (by simp[aQ,binOp,a2]) rfl (of_bool _)
   .cases he
  .rename_i ar ak;split at he
   .rename_i cp;simp only[map_eq_some_iff]at he;obtain⟨r,aN,rfl⟩:=he;obtain⟨aQ,a2⟩:=Hn a_ ak ag bh cp aN .neq wh wi;obtain⟨⟨xs,rfl⟩,_⟩:=(aB.b4 rfl).1 ag;obtain⟨⟨bO,rfl⟩,_⟩:=(aB.b4 rfl).1 bh;exact Good.same h (by simp[aQ,binOp,a2]) rfl (of_bool _)
   .cases he
  .cases he
 .have:=pV bh;subst this;split at he
  .rename_i e ak;simp only[map_eq_some_iff]at he;obtain⟨r,aN,rfl⟩:=he;obtain⟨i,d,z,aK,aV,a1,b6,cH,bT,bK⟩:=a_.info (fa ak (by simp));rw[ak]at bK;have:=j8 bK;subst this;obtain⟨b,R,U,aA,a0,cl,h7,rfl⟩:=Hj h ag aN bT;refine Good.same h (v:=.bool b) ?_ ?_ ?_
   .rw[eqGuard_at_slice];simp[binOp,R]
   .cases r<;>rfl
   .cases r with
    |none=>exact BH b
    |some eI=>have:=U eI rfl;subst this;simp only[nO,Bool.bne_false];exact of_bool _
  .rename_i e ak;simp only[map_eq_some_iff]at he;obtain⟨r,aN,rfl⟩:=he;obtain⟨i,d,z,aK,aV,a1,b6,cH,bT,bK⟩:=a_.info (fa ak (by simp));rw[ak]at bK;have:=j8 bK;subst this;obtain⟨b,R,U,aA,a0,cl,h7,rfl⟩:=Hj h ag aN bT;refine Good.same h (v:=.bool !b) ?_ ?_ ?_
   .rw[eqGuard_at_slice];simp[binOp,R]
   .cases r<;>rfl
   .cases r with
    |none=>exact BH _
    |some eI=>have:=U eI rfl;subst this;simp only[nO,Bool.bne_true];exact of_bool _
  .cases he
 .have:=Hd bh;subst this;split at he
  .rename_i e ak;simp only[map_eq_some_iff]at he;obtain⟨r,aN,rfl⟩:=he;obtain⟨i,d,z,aK,aV,a1,b6,cH,bT,bK⟩:=a_.info (fa ak (by simp));rw[ak]at bK;have:=G3 bK;subst this;obtain⟨R,a0,rfl⟩:=Hk h ag aN bT;refine Good.same h (v:=.bool r) ?_ rfl (of_bool _);rw[eqGuard_at_pointer];simp[binOp,R]
  .rename_i e ak;simp only[map_eq_some_iff]at he;obtain⟨r,aN,rfl⟩:=he;obtain⟨i,d,z,aK,aV,a1,b6,cH,bT,bK⟩:=a_.info (fa ak (by simp));rw[ak]at bK;have:=G3 bK;subst this;obtain⟨R,a0,rfl⟩:=Hk h ag aN bT;refine Good.same h (v:=.bool !r) ?_ rfl (of_bool _);rw[eqGuard_at_pointer];simp[binOp,R]
  .cases he
 .cases he
end
section
variable {C:bI} {w0 w:World} {F0 X F:Nat->Prop} {S:Nat->Nat->Prop} {s s1:ah} {ao:Nat->Value} {av:j}
def un (op:UnOp) (x:j):Option j:=
 match op,x with
 | .not,.bool b=>some (.bool !b)
 | .not,.eF=>some .eF
 | .neg,.int k n=>some (.int k (k.wrap (0-n)))
 |_,_=>none
theorem Oj (h:bu w0 F0 X F S s ao w) {op:UnOp} {x:j} {v:Value} (ay:aB w F s ao x v (λ_=>False)) (he:un op x=some av):Good C w0 F0 X ao w (Op.unary op v) av s:=by
 unfold un at he;split at he<;>first|(cases he;done)|(simp only[some.injEq]at he;subst he)
 .have:=qG ay;subst this;exact Good.same h rfl rfl (of_bool _)
 .obtain⟨b,rfl⟩:=He ay;exact Good.same h rfl rfl (BH _)
 .have:=nM ay;subst this;exact Good.same h rfl rfl (of_int _ _)
def h1 (s:ah) (x:j):Option j:=
 match x with
 | .ref d=>some (.ref d)
 | .fn f c=>some (.fn f c)
 | .h y q=>match j.sub q (s y)with
   |some (.aD _)=>some (.h y q)
   |_=>none
 |_=>none
theorem Ol {d:j} {v:Value} {aF:Nat->Prop} (h:aB w F s ao (.ref d) v aF):∃b o cX,v= .pointer (some ⟨b,o,none⟩)/\F b/\Rd w b o cX/\ai w F d cX (λ_=>False):=by
 have bz:=(aB.b4 rfl).1 h;rw[ai,fM bz.1]at bz;obtain⟨_,b,o,cX,R,U,aA,aU⟩:=bz;simp at R;subst R;exact⟨b,o,cX,rfl,U,aA,aU⟩
theorem Om (h:bu w0 F0 X F S s ao w) {x:j} {v:Value} (ay:aB w F s ao x v (λ_=>False)) (he:h1 s x=some av):
  av=x/\x.plain=true/\((∃a,v= .pointer (some a))\/∃f c,v= .func (.func f) #[] c):=by
 unfold h1 at he;split at he
 .simp only[some.injEq]at he;subst he;obtain⟨b,o,cX,rfl,_⟩:=Ol ay;exact⟨rfl,rfl,.inl ⟨_,rfl⟩⟩
 .simp only[some.injEq]at he;subst he;rw[aB]at ay;obtain⟨arr,rfl,_⟩:=ay;exact⟨rfl,rfl,.inr ⟨_,_,rfl⟩⟩
 .split at he
  .rename_i d ae;simp only[some.injEq]at he;subst he;obtain⟨b,cur,e,fr,rfl,_⟩:=Hf h ay ae;exact⟨rfl,rfl,.inl ⟨_,rfl⟩⟩
  .cases he
 .cases he
def ex (s:ah) (x:j) (k:Nat):Option j:=
 match x with
 | .tuple ds=>match ds[k]? with
   |some d=>if d.plain=true then some d else none
   |none=>none
 | .h y q=>match j.sub q (s y)with
   |some (.tuple ds)=>match ds[k]? with
    |some d=>if j.dF ds=true then none else some (if d.plain then d else .h y (q++[k]))
    |none=>none
   |_=>none
 |_=>none
theorem Ho:∀(vs:abL) (k:Nat) (x:Value) (ds:abN),vs[k]? =some x->vs.length=ds.length->(∀(au:Nat) (d:j) (y:Value),ds[au]? =some d->vs[au]? =some y->(gS y).length=d.wd)->
  ∃l r,vs.flatMap gS=l++(gS x++r)/\l.length=j.c6 (ds.take k)
 |[],k,x,ds,h,_,_=>by simp at h
 |v::vs,0,x,ds,h,hl,hw=>by
  simp at h;subst h;exact⟨[],vs.flatMap gS,by simp,by simp[j.c6]⟩
 |v::vs,k+1,x,d::ds,h,hl,hw=>by
  obtain⟨l,r,aK,aV⟩:=Ho vs k x ds (by simpa using h) (by simpa using hl) (λau d y R U=>hw (au+1) d y (by simpa using R) (by simpa using U));refine⟨gS v++l,r,by simp[aK],?_⟩;have:=hw 0 d v (by simp) (by simp);simp[j.c6,aV,this]
 |v::vs,k+1,x,[],h,hl,hw=>by simp at hl
theorem On {d:j} {v:Value} (h:g_ d v) (_hd:∀vs,d≠.tuple vs):bR v=gS v:=by
 cases d with
 |agg ar=>obtain⟨arr,rfl⟩:=h;rfl
 |_=>
  have R:Value.ft v=true:=h;cases v<;>first|rfl|(simp[Value.ft]at R)
theorem Oo {d:j} {v:Value} (h:g_ d v) (ae:∀vs,d≠.tuple vs):c0 d v:=by
 cases d with
 |tuple vs=>exact(ae _ rfl).elim
 |_=>exact h
theorem Hp (h:bu w0 F0 X F S s ao w) {x:j} {v:Value} {k:Nat} (ay:aB w F s ao x v (λ_=>False)) (he:ex s x k=some av):Good C w0 F0 X ao w (Instr.extract v k) av s:=by
 have pick:∀(ds:abN) (d:j) (arr:Array Value),ds[k]? =some d->(arr.size=ds.length/\∀(k:Nat) (d:j) (x:Value),ds[k]? =some d->arr[k]? =some x->g_ d x/\(∀vs,d≠.tuple vs)/\(gS x).length=d.wd)->
   ∃x,arr[k]? =some x/\c0 d x/\((bR (.tuple arr)).drop (j.c6 (ds.take k))).take d.wd=bR x:=by
  intro ds d arr ae ⟨bA,mS⟩;have cB:k<arr.size:=by rw[bA];exact(List.getElem?_eq_some_iff.1 ae).1
  have ag:arr[k]? =some arr[k]:=Array.getElem?_eq_getElem cB;obtain⟨aQ,a2,bQ⟩:=mS k d _ ae ag;obtain⟨l,r,aK,aV⟩:=Ho arr.toList k arr[k] ds (by simp[cB]) (by simpa using bA) (λau d y R U=>(mS au d y R (by simpa using U)).2.2);refine⟨_,ag,Oo aQ a2,?_⟩;rw[On aQ a2];simp only[bR];rw[aK];exact mQ l _ r _ _ aV bQ
 unfold ex at he;split at he
 .rename_i ds;split at he
  .rename_i d ae;split at he
   .rename_i al;simp only[some.injEq]at he;subst he;have bz:=(aB.b4 rfl).1 ay;obtain⟨⟨arr,rfl,bA⟩,eJ⟩:=bz;obtain⟨x,ag,I,aj⟩:=pick ds d arr ae bA;have aN:(Instr.extract (.tuple arr) k).run C.P w= .ok x w:=by simp[Instr.extract,ag]
    rw[ai]at eJ;obtain⟨bD,dz,bH,bJ,fJ,e,eN,dX,eG,fY,dw,h8⟩:=aS.pick ds _ _ k d eJ ae;rw[e,mQ bD dz bH _ _ eN (ai.length _ _ _ dw)]at aj;by_cases aL:d.tree=true
    .exact Good.same h aN al ((aB.b4 aL).2 ⟨I,by rw[<-aj];exact ai.plain _ _ _ _ al dw⟩)
    .cases d<;>first|exact(aL rfl).elim|(rw[ai]at dw;exact dw.elim)|exact Good.same h aN rfl (by rw[aB];trivial)|(have bt:=ai.plain _ _ _ (λ_=>False) al dw;rw[aj,fM (by exact I)]at bt;exact Good.same h aN rfl (aB.oR _ _ rfl bt))
   .cases he
  .cases he
 .rename_i y q;split at he
  .rename_i ds ae;split at he
   .rename_i d ak;split at he
    .cases he
    .rename_i f_;simp only[some.injEq]at he;have f_:(j.tuple ds).plain=false:=by simpa [j.plain]using f_
     rw[aB]at ay;obtain⟨b0,a,aQ,a2,bQ⟩:=ay _ ae f_;obtain⟨arr,rfl,bA⟩:=bQ;obtain⟨x,ag,I,aj⟩:=pick ds d arr ak bA;have aN:(Instr.extract (.tuple arr) k).run C.P w= .ok x w:=by simp[Instr.extract,ag]
     have bh:=h.cK y;rw[aB.b4 (fQ ae (.inl f_))]at bh;obtain⟨e4,b3,dj,ej,k0,bU,cc,de,cQ,dT⟩:=ctx q (s y) (bR (ao y)) (S y) none _ bh.2 ae;rw[k0]at aQ;simp only[some.injEq,Prod.mk.injEq,true_and]at aQ;obtain⟨rfl,rfl⟩:=aQ;rw[a2]at aj;split at he
     .rename_i al;subst he;rw[ai]at cQ;obtain⟨bD,dz,bH,bJ,fJ,e,eN,dX,eG,fY,dw,h8⟩:=aS.pick ds _ _ k d cQ ak;rw[e,mQ bD dz bH _ _ eN (ai.length _ _ _ dw)]at aj;by_cases aL:d.tree=true
      .exact Good.same h aN al ((aB.b4 aL).2 ⟨I,by rw[<-aj];exact ai.plain _ _ _ _ al dw⟩)
      .cases d<;>first|exact(aL rfl).elim|(rw[ai]at dw;exact dw.elim)|exact Good.same h aN rfl (by rw[aB];trivial)|(have bt:=ai.plain _ _ _ (λ_=>False) al dw;rw[aj,fM (by exact I)]at bt;exact Good.same h aN rfl (aB.oR _ _ rfl bt))
     .subst he;refine Good.same h aN rfl ?_;rw[aB];intro d2 gU vZ;rw[rM w q _ _ _ _ _ _ [k] k0];rw[tI _ _ _ _ ae]at gU;simp only[j.sub,ak,some.injEq]at gU;subst gU;simp only[cb,ak];exact⟨_,_,rfl,aj.symm,I⟩
   .cases he
  .cases he
 .cases he
def kX (C:bI) (s:ah) (T:TypeId) (x:j) (k:Nat):Option j:=
 match(C.T T).k with
 | .struct ar=>match ar[k]? with
   |some (iA,off)=>match x with
    | .agg ds=>match ds[k]? with
      |some d=>if j.c6 (ds.take k)=off/\fits C iA d=true/\d.plain=true/\d.tree=true then some d else none
      |none=>none
    | .h y q=>match j.sub q (s y)with
      |some (.agg ds)=>match ds[k]? with
       |some d=>if j.c6 (ds.take k)=off/\fits C iA d=true/\j.dF ds=false/\d.tree=true then some (if d.plain then d else .h y (q++[k]))else none
       |none=>none
      |_=>none
    |_=>none
   |none=>none
 |_=>none
theorem Oq (a_:C.Ok) (h:bu w0 F0 X F S s ao w) {T:TypeId} {x:j} {v:Value} {k:Nat} (ay:aB w F s ao x v (λ_=>False)) (he:kX C s T x k=some av):Good C w0 F0 X ao w (Instr.field T v k) av s:=by
 have key:∀(ar:List (TypeId×Nat)) (iA:TypeId) (off:Nat),(C.T T).k= .struct ar->ar[k]? =some (iA,off)->∀(ds:abN) (d:j) (arr:Array Value) (aF:Nat->Prop),ds[k]? =some d->j.c6 (ds.take k)=off->fits C iA d=true->aS w F ds arr.toList aF->
   ∃x fJ,(Instr.field T (.agg arr) k).run C.P w= .ok x w/\c0 d x/\ai w F d (bR x) fJ/\(arr.toList.drop off).take d.wd=bR x:=by
  intro ar iA off ak a6 ds d arr aF ae oQ gV eJ;obtain⟨i,rU,z,aK,aV,a1,b6,cH,bT,bK⟩:=a_.info (fa ak (by simp));rw[ak]at bK;obtain⟨gs,rfl,hY⟩:=v8 bK;obtain⟨g,aQ,rfl,rfl⟩:∃g,gs[k]? =some g/\g.type=iA/\g.offset=off:=by
   rw[<-hY,getElem?_map]at a6;simp only[map_eq_some_iff,Prod.mk.injEq]at a6;obtain⟨g,R,U,aA⟩:=a6;exact⟨g,by simpa using R,U,aA⟩
  obtain⟨bD,dz,bH,bJ,fJ,e,eN,dX,eG,fY,dw,h8⟩:=aS.pick ds _ _ k d eJ ae;obtain⟨x,aN,Hq,lG⟩:=N0 (w:=w) a_ e (eN.trans oQ) dw gV;refine⟨x,fJ,?_,lG,by rw[Hq];exact dw,?_⟩
  .simp[Instr.field,run_underlying bT,aQ,asAgg,aN]
  .rw[e,Hq,<-oQ];exact mQ bD dz bH _ _ eN (ai.length _ _ _ dw)
 have Hr:∀(d:j) (x:Value) (fJ:Nat->Prop),d.plain=true->c0 d x->ai w F d (bR x) fJ->aB w F s ao d x (λ_=>False):=by
  intro d x fJ al I eJ;by_cases aL:d.tree=true
  .exact(aB.b4 aL).2 ⟨I,ai.plain _ _ _ _ al eJ⟩
  .cases d<;>first|exact(aL rfl).elim|(rw[ai]at eJ;exact eJ.elim)|(rw[aB];trivial)|(have bt:=ai.plain _ _ _ (λ_=>False) al eJ;rw[fM (by exact I)]at bt;exact aB.oR _ _ rfl bt)
 unfold kX at he;split at he
 .rename_i ar ak;split at he
  .rename_i iA off a6;split at he
   .rename_i ds;split at he
    .rename_i d ae;split at he
     .rename_i aj;simp only[some.injEq]at he;subst he;obtain⟨⟨arr,rfl⟩,eJ⟩:=(aB.b4 rfl).1 ay;rw[ai]at eJ;obtain⟨x,fJ,aN,I,BM,_⟩:=key ar iA off ak a6 ds d arr _ ae aj.1 aj.2.1 eJ;exact Good.same h aN aj.2.2.1 (Hr d x fJ aj.2.2.1 I BM)
     .cases he
    .cases he
   .rename_i y q;split at he
    .rename_i ds ae;split at he
     .rename_i d nJ;split at he
      .rename_i aj;simp only[some.injEq]at he;have f_:(j.agg ds).plain=false:=by simpa [j.plain]using aj.2.2.1
       rw[aB]at ay;obtain⟨b0,a,aQ,a2,bQ⟩:=ay _ ae f_;obtain⟨arr,rfl⟩:=bQ;have bh:=h.cK y;rw[aB.b4 (fQ ae (.inl f_))]at bh;obtain⟨e4,b3,dj,ej,k0,bU,cc,de,cQ,dT⟩:=ctx q (s y) (bR (ao y)) (S y) none _ bh.2 ae;rw[k0]at aQ;simp only[some.injEq,Prod.mk.injEq,true_and]at aQ;obtain⟨rfl,rfl⟩:=aQ;rw[ai,<-a2]at cQ;obtain⟨x,fJ,aN,I,BM,ga⟩:=key ar iA off ak a6 ds d arr _ nJ aj.1 aj.2.1 cQ;by_cases al:d.plain=true
       .rw[if_pos al]at he;subst he;exact Good.same h aN al (Hr d x fJ al I BM)
       .rw[if_neg al]at he;subst he;refine Good.same h aN rfl ?_;rw[aB];intro d2 gU vZ;rw[rM w q _ _ _ _ _ _ [k] k0];rw[tI _ _ _ _ ae]at gU;simp only[j.sub,nJ,some.injEq]at gU;subst gU;simp only[cb,nJ];refine⟨_,_,rfl,?_,I⟩;rw[aj.1,<-a2];exact ga.symm
      .cases he
     .cases he
    .cases he
   .cases he
  .cases he
 .cases he
end
section
variable {C:bI} {w0 w:World} {F0 X F:Nat->Prop} {S:Nat->Nat->Prop} {s s1:ah} {ao:Nat->Value} {av:j}
def idx (C:bI) (T:TypeId) (x i:j):Option j:=
 match(C.T T).k,x,i with
 | .str,.str l,.int _ n=>if 0<=n then(match l[n.toNat]? with|some b=>some (.int .u8 b.toNat)|none=>none)else none
 |_,_,_=>none
theorem Ot (l:nq) (n:Nat):(⟨⟨l⟩⟩:ByteArray)[n]? =l[n]? :=by
 by_cases h:n<l.length
 .have bz:n<(⟨⟨l⟩⟩:ByteArray).size:=h;rw[getElem?_eq_getElem h,getElem?_pos (⟨⟨l⟩⟩:ByteArray) n bz];rfl
 .have bz:¬n<(⟨⟨l⟩⟩:ByteArray).size:=h;rw[getElem?_eq_none (by omega),getElem?_neg (⟨⟨l⟩⟩:ByteArray) n bz]
theorem Ou (a_:C.Ok) (h:bu w0 F0 X F S s ao w) {T:TypeId} {x i:j} {v mW:Value} (ay:aB w F s ao x v (λ_=>False)) (aw:aB w F s ao i mW (λ_=>False)) (he:idx C T x i=some av):
  Good C w0 F0 X ao w (Instr.index T v mW) av s:=by
 unfold idx at he;split at he
 .rename_i l k n ak;have:=mX ay;subst this;have:=nM aw;subst this;obtain⟨i,d,z,aK,aV,a1,b6,cH,bT,bK⟩:=a_.info (fa ak (by simp));rw[ak]at bK;have:=oP bK;subst this;split at he
  .rename_i a7;split at he
   .rename_i b J;simp only[some.injEq]at he;subst he;refine Good.same h ?_ rfl (of_int _ _);simp[Instr.index,asIntOf,run_underlying bT,a7,Ot,J]
   .cases he
  .cases he
 .cases he
def lenOf (s:ah):j->Option Nat
 | .str l=>some l.length
 | .aJ=>some 0
 | .slice xs=>some xs.length
 | .h y q=>match j.sub q (s y)with
   |some (.ad _ xs)=>some xs.length
   |_=>none
 |_=>none
def pY (C:bI) (s:ah) (T:TypeId) (x:j):Option j:=
 match(C.T T).k,x with
 | .str,.str l=>some (.int .i64 l.length)
 | .slice _,.aJ=>some (.int .i64 0)
 | .slice _,.slice xs=>some (.int .i64 xs.length)
 | .slice _,.h y q=>match j.sub q (s y)with
   |some (.ad _ xs)=>some (.int .i64 xs.length)
   |_=>none
 |_,_=>none
theorem yM {xs:abN} {v:Value} {aF:Nat->Prop} (h:aB w F s ao (.slice xs) v aF):(xs=[]/\∃a c,v= .slice a 0 c/\c<=maxLen/\(a=none->c=0))\/
  ∃b o cap cX sz,v= .slice (some ⟨b,o,none⟩) xs.length cap/\F b/\xs.length<=cap/\cap<=maxLen/\(∀d∈xs,d.wd=sz)/\Rd w b o cX/\aS w F xs cX (λ_=>False):=by
 have bz:=(aB.b4 rfl).1 h;rw[ai,fM bz.1]at bz;obtain⟨_,⟨rfl,a,c,U,aA⟩|⟨b,o,cap,cX,sz,U,aA⟩⟩:=bz
 .simp at U;exact .inl ⟨rfl,a,c,U,aA⟩
 .simp at U;exact .inr ⟨b,o,cap,cX,sz,U,aA⟩
theorem Ov (a_:C.Ok) (h:bu w0 F0 X F S s ao w) {T ty:TypeId} {x:j} {v:Value} (ay:aB w F s ao x v (λ_=>False)) (he:pY C s T x=some av):
  Good C w0 F0 X ao w (Builtin.len_ #[T] ty #[v]) av s:=by
 unfold pY at he;split at he
 .rename_i l ak;have:=mX ay;subst this;obtain⟨i,d,z,aK,aV,a1,b6,cH,bT,bK⟩:=a_.info (fa ak (by simp));rw[ak]at bK;have:=oP bK;subst this;simp only[some.injEq]at he;subst he;refine Good.same h ?_ rfl (of_int _ _);simp[Builtin.len_,run_underlying bT,goInt];rfl
 .rename_i e ak;have:=pV ay;subst this;obtain⟨i,d,z,aK,aV,a1,b6,cH,bT,bK⟩:=a_.info (fa ak (by simp));rw[ak]at bK;have:=j8 bK;subst this;simp only[some.injEq]at he;subst he;refine Good.same h ?_ rfl (of_int _ _);simp[Builtin.len_,run_underlying bT,goInt]
 .rename_i e xs ak;obtain⟨i,d,z,aK,aV,a1,b6,cH,bT,bK⟩:=a_.info (fa ak (by simp));rw[ak]at bK;have:=j8 bK;subst this;simp only[some.injEq]at he;subst he;refine Good.same h ?_ rfl (of_int _ _);rcases yM ay with⟨rfl,a,c,rfl,_⟩|⟨b,o,cap,cX,sz,rfl,_⟩<;>simp[Builtin.len_,run_underlying bT,goInt]
 .rename_i e y q ak;split at he
  .rename_i sz xs ae;obtain⟨i,d,z,aK,aV,a1,b6,cH,bT,bK⟩:=a_.info (fa ak (by simp));rw[ak]at bK;have:=j8 bK;subst this;simp only[some.injEq]at he;subst he;refine Good.same h ?_ rfl (of_int _ _);rcases BI h ay ae with⟨rfl,_,rfl⟩|⟨b,cap,cur,aV,fr,rfl,_⟩<;>simp[Builtin.len_,run_underlying bT,goInt]
  .cases he
 .cases he
def bytesOf:abN->Option nq
 |[]=>some []
 | .int .u8 n::r=>if 0<=n/\n<256 then(bytesOf r).map (UInt8.ofNat n.toNat::·)else none
 |_=>none
def jR (b:UInt8):j:=.int .u8 b.toNat
theorem Ow (l:nq):bytesOf (l.map jR)=some l:=by
 induction l with
 |nil=>rfl
 |cons b l ih=>
  have J:b.toNat<256:=b.toNat_lt;simp only[map_cons,jR,bytesOf,Int.toNat_natCast];rw[if_pos (by omega),ih];simp
theorem BN:∀(xs:abN) (l:nq) (cs:abL) (aF:Nat->Prop),bytesOf xs=some l->aS w F xs cs aF->cs=l.map (λb=>.int .u8 (b.toNat:Int))/\xs.length=l.length
 |[],l,cs,aF,h,aN=>by simp[bytesOf]at h;subst h;rw[aS]at aN;subst aN;exact⟨rfl,rfl⟩
 |x::xs,l,cs,aF,h,aN=>by
  unfold bytesOf at h;split at h
  .rename_i e;cases e
  .rename_i n r e;simp only[cons.injEq]at e;obtain⟨rfl,rfl⟩:=e;split at h
   .rename_i a7;simp only[map_eq_some_iff]at h;obtain⟨bW,R,rfl⟩:=h;rw[aS]at aN;obtain⟨bD,bH,bJ,cS,rfl,U,aA,_⟩:=aN;obtain⟨rfl,aU⟩:=BN xs bW bH cS R aA;rw[ai]at U;subst U;refine⟨?_,by simp[aU]⟩;simp only[map_cons,cons_append,nil_append,cons.injEq,and_true,Value.int.injEq,true_and];simp only[UInt8.toNat_ofNat'];omega
   .cases h
  .cases h
theorem bu.wj (h:bu w0 F0 X F S s ao w) {ax:World} {sz cap:Nat} {xs:abN} {cur:Array Value} {e:TypeId} {fr:Nat×Nat} {Sn:Nat->Prop}
  (hw:ax.heap=w.heap.push (.cells cur e fr)) (R:ax.os=w.os) (U:ax.tape=w.tape) (aA:Out ax w)
  (a6:j6 fr (cur.size+(sz-1))) (hle:xs.length<=cap) (hm:cap<=maxLen) (cT:cur.size=cap*sz) (jk:∀d∈xs,d.wd=sz) (ay:aS w F xs (cur.toList.take (xs.length*sz)) Sn)
  (cB:∀b,Sn b->b<w.heap.size) (aY:∀b,Sn b->¬F b) (bg:∀u b,Sn b->¬S u b) (bq:∀b,Sn b->X b\/w0.heap.size<=b):
  bu w0 F0 X F S s ao ax/\jN w0 X F S s ao ax (.ad sz xs) (.slice (some ⟨w.heap.size,0,none⟩) xs.length cap):=by
 have hold:∀b,b<w.heap.size->ax.heap[b]? =w.heap[b]? :=by
  intro b J;rw[hw,Array.getElem?_push,if_neg (by omega)]
 have aaj:ax.heap.size=w.heap.size+1:=by rw[hw];simp
 refine⟨h.grow hold (by omega) R U aA,.inr ⟨rfl,rfl,λb=>b=w.heap.size\/Sn b,?_,?_,?_,?_,?_⟩⟩
 .simp only[bR,gS];rw[ai];refine .inr ⟨w.heap.size,cap,cur,e,fr,Sn,rfl,.inl rfl,?_,a6,hle,hm,cT,jk,?_,λc aj=>.inr aj,λaj=>Nat.lt_irrefl _ (cB _ aj)⟩
  .rw[hw];simp
  .exact aS.frame (λb J=>hold b (h.eu b J)) _ _ _ (λb J=>hold b (cB b J)) ay
 .rintro b (rfl|J)
  .omega
  .have:=cB b J;omega
 .rintro b (rfl|J) pU
  .exact Nat.lt_irrefl _ (h.eu _ pU)
  .exact aY b J pU
 .rintro u b (rfl|J) hu
  .exact Nat.lt_irrefl _ (h.dD _ _ hu)
  .exact bg u b J hu
 .rintro b (rfl|J)
  .exact .inr h.size
  .exact bq b J
def hJ (C:bI) (s:ah) (A B:TypeId) (x:j):Option j:=
 if(C.T A).ok=true then
 match(C.T B).k,x with
 | .int k,.int _ n=>some (.int k (k.wrap n))
 | .str,.str l=>match(C.T A).k with
   | .str=>some (.str l)
   |_=>none
 | .str,x=>match(C.T A).k with
   | .slice e=>match(C.T e).k with
     | .int .u8=>match x with
       | .aJ=>some (.str [])
       | .slice xs=>(bytesOf xs).map .str
       | .h y q=>match j.sub q (s y)with
         |some (.ad 1 xs)=>(bytesOf xs).map .str
         |_=>none
       |_=>none
     |_=>none
   |_=>none
 | .slice e,.str l=>match(C.T A).k,(C.T e).k with
   | .str,.int .u8=>if l.length<=9223372036854775807 then some (.ad 1 (l.map jR))else none
   |_,_=>none
 |_,_=>none
 else none
theorem Hs (l:nq) (aF:Nat->Prop):aS w F (l.map jR) (l.map λb=>.int .u8 (b.toNat:Int)) aF:=by
 induction l generalizing aF with
 |nil=>simp only[map_nil];rw[aS]
 |cons b l ih=>
  simp only[map_cons];rw[aS];exact⟨[.int .u8 (b.toNat:Int)],_,λ_=>False,λ_=>False,rfl,by rw[jR,ai],ih _,λ_ h=>h.elim,λ_ h=>h.elim,λ_ h=>h.elim⟩
theorem Ox (a_:C.Ok) (h:bu w0 F0 X F S s ao w) {A B:TypeId} {x:j} {v:Value} (ay:aB w F s ao x v (λ_=>False)) (he:hJ C s A B x=some av):
  Good C w0 F0 X ao w (convert A B v) av s:=by
 unfold hJ at he;split at he
 .rename_i e5;obtain⟨iP,aak,aal,ab,bF,a3,a4,a5,oS,oT⟩:=a_.info e5;split at he
  .rename_i k cY n ak;have:=nM ay;subst this;obtain⟨i,d,z,aK,aV,a1,b6,cH,bT,bK⟩:=a_.info (fa ak (by simp));rw[ak]at bK;have:=v_ bK;subst this;simp only[some.injEq]at he;subst he;refine Good.same h ?_ rfl (of_int _ _);simp[convert,run_underlying oS,run_underlying bT,Conv.intToInt]
  .rename_i l ak;have:=mX ay;subst this;obtain⟨i,d,z,aK,aV,a1,b6,cH,bT,bK⟩:=a_.info (fa ak (by simp));rw[ak]at bK;have:=oP bK;subst this;split at he
   .rename_i wk;rw[wk]at oT;have:=oP oT;subst this;simp only[some.injEq]at he;subst he;refine Good.same h ?_ rfl (nN _);simp[convert,run_underlying oS,run_underlying bT]
   .cases he
  .rename_i x ak _;obtain⟨i,d,z,aK,aV,a1,b6,cH,bT,bK⟩:=a_.info (fa ak (by simp));rw[ak]at bK;have:=oP bK;subst this;split at he
   .rename_i e wk;rw[wk]at oT;have:=j8 oT;subst this;split at he
    .rename_i wm;obtain⟨l9,bb,mV,f1,f2,f3,f4,f5,f6,f7⟩:=a_.info (fa wm (by simp));rw[wm]at f7;have:=v_ f7;subst this;have fin:∀(l:nq) (b o cap:Nat),Rd w b o (l.map λb=>.int .u8 (b.toNat:Int))->(convert A B (.slice (some ⟨b,o,none⟩) l.length cap)).run C.P w= .ok (.string ⟨⟨l⟩⟩) w:=by
      intro l b o cap gR;refine run_convert_bytes_back w A B e ⟨b,o,none⟩ cap l oS f6 bT (λau bN=>?_);rw[Addr.add_lit];exact gR au _ (by simp[bN])
     have nil:(convert A B (.slice none 0 0)).run C.P w= .ok (.string ⟨⟨[]⟩⟩) w:=by
      simp[convert,run_underlying oS,run_underlying bT,run_underlying f6,Conv.bytesToString];rfl
     split at he
     .have:=pV ay;subst this;simp only[some.injEq]at he;subst he;exact Good.same h nil rfl (nN _)
     .rename_i xs _;simp only[map_eq_some_iff]at he;obtain⟨l,hl,rfl⟩:=he;rcases yM ay with⟨rfl,a,c,rfl,_,rT⟩|⟨b,o,cap,cX,sz,rfl,R,U,aA,aU,bt,b5⟩
      .simp[bytesOf]at hl;subst hl;cases a with
       |none=>
        have:=rT rfl;subst this;exact Good.same h nil rfl (nN _)
       |some a=>
        refine Good.same h ?_ rfl (nN _);exact run_convert_bytes_back w A B e a c [] oS f6 bT (λau bN=>by simp at bN)
      .obtain⟨rfl,cd⟩:=BN xs l cX _ hl b5;rw[cd];exact Good.same h (fin l b o cap bt) rfl (nN _)
     .rename_i y q;split at he
      .rename_i xs ae;simp only[map_eq_some_iff]at he;obtain⟨l,hl,rfl⟩:=he;rcases BI h ay ae with⟨rfl,a,rfl⟩|⟨b,cap,cur,aV,fr,rfl,R,U,aA,aU,bt,b5,aF,cd,_⟩
       .simp[bytesOf]at hl;subst hl;cases a with
        |none=>exact Good.same h nil rfl (nN _)
        |some a=>
         refine Good.same h ?_ rfl (nN _);exact run_convert_bytes_back w A B e a 0 [] oS f6 bT (λau bN=>by simp at bN)
       .obtain⟨dQ,gQ⟩:=BN xs l _ _ hl cd;rw[gQ];refine Good.same h (fin l b 0 cap ?_) rfl (nN _);rw[<-dQ];exact tE R _
      .cases he
     .cases he
    .cases he
   .cases he
  .rename_i e l ak;have:=mX ay;subst this;obtain⟨i,d,z,aK,aV,a1,b6,cH,bT,bK⟩:=a_.info (fa ak (by simp));rw[ak]at bK;have:=j8 bK;subst this;split at he
   .rename_i wk wm;rw[wk]at oT;have:=oP oT;subst this;obtain⟨l9,bb,mV,f1,f2,f3,f4,f5,f6,f7⟩:=a_.info (fa wm (by simp));rw[wm]at f7;have:=v_ f7;subst this;split at he
    .rename_i hl;simp only[some.injEq]at he;subst he;have I:(⟨⟨l⟩⟩:ByteArray).size=l.length:=rfl;have tK:=grownCap_ge w l.length 0 e;have Oy:=grownCap_le_maxLen w l.length 0 e (by unfold maxLen;omega);have Ht:(bytesRow ⟨⟨l⟩⟩ (grownCap w l.length 0 e)).toList=l.map (λb=>Value.int .u8 (b.toNat:Int))++replicate (grownCap w l.length 0 e-l.length) (.int .u8 0):=by
      simp[bytesRow,I]
     have cT:(bytesRow ⟨⟨l⟩⟩ (grownCap w l.length 0 e)).size=grownCap w l.length 0 e*1:=by
      have:(bytesRow ⟨⟨l⟩⟩ (grownCap w l.length 0 e)).size=(bytesRow ⟨⟨l⟩⟩ (grownCap w l.length 0 e)).toList.length:=by simp
      rw[this,Ht];simp;omega
     have rQ:=run_bytes_of_string w A B e ⟨⟨l⟩⟩ oS bT f6;rw[I]at rQ;have jS:=h.wj (ax:=w.drew.alloc (.cells (bytesRow ⟨⟨l⟩⟩ (grownCap w l.length 0 e)) e ((bytesRow ⟨⟨l⟩⟩ (grownCap w l.length 0 e)).size,(bytesRow ⟨⟨l⟩⟩ (grownCap w l.length 0 e)).size+1)))
      (sz:=1) (cap:=grownCap w l.length 0 e) (xs:=l.map jR) (cur:=bytesRow ⟨⟨l⟩⟩ (grownCap w l.length 0 e)) (e:=e) (Sn:=λ_=>False) rfl rfl rfl ⟨rfl,λ_=>le_succ _⟩
      (λo br ⟨R,_⟩=>by simp only at R;omega) (by simpa using tK) Oy cT (by intro d ae;obtain⟨b,_,rfl⟩:=mem_map.1 ae;rfl)
      (by rw[Ht,take_left' (by simp)];exact Hs l _) (λ_ h=>h.elim) (λ_ h=>h.elim) (λ_ _ h=>h.elim) (λ_ h=>h.elim)
     simp only[length_map]at jS;exact⟨_,_,F,S,rQ,jS.1,jS.2⟩
    .cases he
   .cases he
  .cases he
 .cases he
end
section
variable {C:bI} {w0 w:World} {F0 X F:Nat->Prop} {S:Nat->Nat->Prop} {s s1:ah} {ao:Nat->Value} {av:j}
def gP (d:Nat):Option j->Option Nat
 |none=>some d
 |some (.int _ n)=>if 0<=n then some n.toNat else none
 |some _=>none
def fl (C:bI) (s:ah) (T:TypeId) (x:j) (dU aw:Option j):Option (j×ah):=
 match(C.T T).k,x with
 | .str,.str l=>match gP 0 dU,gP l.length aw with
   |some a,some b=>if a<=b/\b<=l.length then some (.str ((l.take b).drop a),s)else none
   |_,_=>none
 | .slice e,.aJ=>match gP 0 dU,gP 0 aw with
   |some 0,some 0=>if(C.T e).ok=true then some (.aJ,s)else none
   |_,_=>none
 | .slice e,.slice xs=>match gP 0 dU,gP xs.length aw with
   |some a,some b=>if a<=b/\b<=xs.length/\(C.T e).ok=true/\(∀d∈xs,d.wd=(C.T e).sz)then some (.slice ((xs.take b).drop a),s)else none
   |_,_=>none
 | .slice e,.h y q=>match j.sub q (s y)with
   |some (.ad sz xs)=>match gP 0 dU,gP xs.length aw with
    |some 0,some b=>if b<=xs.length/\(C.T e).ok=true then(match cg s (.h y q)with|some (_,s1)=>some (.ad sz (xs.take b),s1)|none=>none)else none
    |_,_=>none
   |_=>none
 |_,_=>none
def pZ (w:World) (F:Nat->Prop) (s:ah) (ao:Nat->Value):Option j->Option Value->Prop
 |none,none=>True
 |some d,some v=>aB w F s ao d v (λ_=>False)
 |_,_=>False
theorem Hu {d:Nat} {o:Option j} {v:Option Value} (br:pZ w F s ao o v) {a:Nat} (h:gP d o=some a):(o=none/\v=none/\a=d)\/∃k,v=some (.int k a):=by
 cases o with
 |none=>
  cases v with
  |none=>simp[gP]at h;exact .inl ⟨rfl,rfl,h.symm⟩
  |some v=>simp[pZ]at br
 |some x=>
  cases v with
  |none=>simp[pZ]at br
  |some v=>
   simp only[pZ]at br;cases x with
   |int k n=>
    have:=nM br;subst this;simp only[gP]at h;split at h
    .rename_i a7;simp only[some.injEq]at h;subst h;obtain⟨m,rfl⟩:=Int.eq_ofNat_of_zero_le a7;exact .inr ⟨k,rfl⟩
    .cases h
   |_=>simp[gP]at h
theorem tL {P:Program} {isS:Bool} {len cap a b:Nat} {dU aw:Option j} {rW rX:Option Value} (m0:pZ w F s ao dU rW) (m1:pZ w F s ao aw rX) (b8:gP 0 dU=some a) (J:gP len aw=some b) (jM:a<=b) (Oz:b<=cap) (_hlc:len<=cap):
  (Instr.sliceBounds isS len cap rW rX none).run P w= .ok (a,b,cap) w:=by
 rcases Hu m0 b8 with⟨_,rfl,rfl⟩|⟨k,rfl⟩<;>rcases Hu m1 J with⟨_,rfl,rfl⟩|⟨cY,rfl⟩<;>
  simp[Instr.sliceBounds,Instr.sliceBound,asIntOf,jM,Oz]
theorem tM (a_:C.Ok) {T:TypeId} (ak:(C.T T).flat=true) (v:Value) (dU aw gJ:Option Value) (w:World):(Instr.sliceAt T v dU aw gJ).run C.P w=(Instr.slice T v dU aw gJ).run C.P w:=by
 obtain⟨i,d,z,aK,aV,a1,b6,cH,bT,bK⟩:=a_.info (G6 ak);have cO:∀n e,d≠.array n e:=by
  clear bT;unfold fu.flat at ak;generalize (C.T T).k=iQ at*;cases iQ<;>cases d<;>simp[j7]at bK ak⊢
 cases d<;>first|exact(cO _ _ rfl).elim|simp[Instr.sliceAt,run_underlying bT]
theorem tN {x:fu} {k:lF} (h:x.k=k) (ak:k≠.other) (I:∀ar,k≠.struct ar) (J:∀e,k≠.gm e:=by simp):x.flat=true:=by
 unfold fu.flat;rw[h];cases k<;>first|rfl|exact(ak rfl).elim|exact(J _ rfl).elim|exact(I _ rfl).elim
theorem aS.split:∀(n:Nat) (xs:abN) (cs:abL) (aF:Nat->Prop),aS w F xs cs aF->∃bD bH bJ cS,cs=bD++bH/\aS w F (xs.take n) bD bJ/\aS w F (xs.drop n) bH cS/\(∀b,bJ b->aF b)/\(∀b,cS b->aF b)/\(∀b,bJ b->¬cS b)
 |0,xs,cs,aF,h=>⟨[],cs,λ_=>False,aF,rfl,by rw[take_zero,aS],h,λ_ h=>h.elim,λ_ h=>h,λ_ h=>h.elim⟩
 |n+1,[],cs,aF,h=>by rw[aS]at h;subst h;exact⟨[],[],λ_=>False,λ_=>False,rfl,by rw[take_nil,aS],by rw[drop_nil,aS],λ_ h=>h.elim,λ_ h=>h.elim,λ_ h=>h.elim⟩
 |n+1,x::xs,cs,aF,h=>by
  rw[aS]at h;obtain⟨bD,bH,gC,fK,rfl,R,U,aA,aU,bt⟩:=h;obtain⟨d1,d2,bJ,cS,rfl,aQ,a2,bQ,c4,dR⟩:=aS.split n xs bH fK U;refine⟨bD++d1,d2,λb=>gC b\/bJ b,cS,by simp,?_,a2,?_,λb J=>aU _ (c4 _ J),?_⟩
  .rw[take_succ_cons,aS];exact⟨bD,d1,gC,bJ,rfl,R,aQ,λ_ h=>.inl h,λ_ h=>.inr h,λb J aj=>bt b J (bQ b aj)⟩
  .rintro b (J|J)
   .exact aA b J
   .exact aU b (bQ b J)
  .rintro b (J|J) aj
   .exact bt b J (c4 b aj)
   .exact dR b J aj
theorem OA (a_:C.Ok) (h:bu w0 F0 X F S s ao w) {T:TypeId} {x:j} {v:Value} {dU aw:Option j} {rW rX:Option Value} (ag:x.plain=true) (ay:aB w F s ao x v (λ_=>False)) (m0:pZ w F s ao dU rW) (m1:pZ w F s ao aw rX)
  (he:fl C s T x dU aw=some (av,s1)):Good C w0 F0 X ao w (Instr.sliceAt T v rW rX none) av s1:=by
 unfold fl at he;split at he
 .rename_i l ak;have:=mX ay;subst this;obtain⟨i,d,z,aK,aV,a1,b6,cH,bT,bK⟩:=a_.info (fa ak (by simp));rw[ak]at bK;have:=oP bK;subst this;split at he
  .rename_i a b b8 J;split at he
   .rename_i jM;simp only[some.injEq,Prod.mk.injEq]at he;obtain⟨rfl,rfl⟩:=he;refine Good.same h ?_ rfl (nN _);rw[tM a_ (tN ak (by simp) (by simp))];have cT:(⟨⟨l⟩⟩:ByteArray).size=l.length:=rfl;have m2:=tL (P:=C.P) (isS:=false) (len:=l.length) (cap:=l.length) m0 m1 b8 J jM.1 jM.2 (Nat.le_refl _);have OB:(⟨⟨l⟩⟩:ByteArray).extract a b=⟨⟨(l.take b).drop a⟩⟩:=by
     apply ByteArray.ext;simp[ByteArray.data_extract,drop_take]
    simp[Instr.slice,run_underlying bT,cT,m2,OB]
   .cases he
  .cases he
 .rename_i e ak;have:=pV ay;subst this;obtain⟨i,d,z,aK,aV,a1,b6,cH,bT,bK⟩:=a_.info (fa ak (by simp));rw[ak]at bK;have:=j8 bK;subst this;split at he
  .rename_i b8 J;split at he
   .rename_i nP;obtain⟨l9,bb,mV,f1,f2,f3,f4,f5,f6,f7⟩:=a_.info nP;simp only[some.injEq,Prod.mk.injEq]at he;obtain⟨rfl,rfl⟩:=he;have m2:=tL (P:=C.P) (isS:=true) (len:=0) (cap:=0) m0 m1 b8 J (Nat.le_refl _) (Nat.le_refl _) (Nat.le_refl _);refine Good.same h (v:=.slice none 0 0) ?_ rfl ay;rw[tM a_ (tN ak (by simp) (by simp))];simp[Instr.slice,run_underlying bT,m2,iz f1,f2]
   .cases he
  .cases he
 .rename_i e xs ak;obtain⟨i,d,z,aK,aV,a1,b6,cH,bT,bK⟩:=a_.info (fa ak (by simp));rw[ak]at bK;have:=j8 bK;subst this;split at he
  .rename_i a b b8 J;split at he
   .rename_i jM;obtain⟨OC,Hv,nP,jk⟩:=jM;obtain⟨l9,bb,mV,f1,f2,f3,f4,f5,f6,f7⟩:=a_.info nP;simp only[some.injEq,Prod.mk.injEq]at he;obtain⟨rfl,rfl⟩:=he;rcases yM ay with⟨rfl,me,c,rfl,wo,rT⟩|⟨fS,o,cap,cX,sz,rfl,R,U,aA,aU,bt,b5⟩
    .have gD:b=0:=by simpa using Hv
     subst gD;have OD:a=0:=by omega
     subst OD;have m2:=tL (P:=C.P) (isS:=true) (len:=0) (cap:=c) m0 m1 b8 J (Nat.le_refl _) (zero_le _) (zero_le _);refine Good.same h (v:=.slice me 0 c) ?_ rfl ((aB.b4 rfl).2 ⟨rfl,by rw[ai];exact .inl ⟨rfl,me,c,rfl,wo,rT⟩⟩);rw[tM a_ (tN ak (by simp) (by simp))];cases me with
     |none=>
      have:=rT rfl;subst this;simp[Instr.slice,run_underlying bT,m2,iz f1,f2]
     |some me=>simp[Instr.slice,run_underlying bT,m2,iz f1,f2,Addr.add]
    .have m2:=tL (P:=C.P) (isS:=true) (len:=xs.length) (cap:=cap) m0 m1 b8 J OC (Nat.le_trans Hv U) U;obtain⟨bD,bH,bJ,cS,rfl,aQ,a2,bQ,c4,dR⟩:=aS.split b xs cX _ b5;obtain⟨d1,d2,aam,Hw,rfl,bU,cc,de,cQ,dT⟩:=aS.split a (xs.take b) bD _ aQ;have BO:d1.length=a*(C.T e).sz:=by
      rw[aS.length _ _ _ bU,pP _ (λd ae=>jk d (mem_of_mem_take (mem_of_mem_take ae))),length_take,length_take];congr 1;omega
     have hlen:((xs.take b).drop a).length=b-a:=by simp;omega
     have gR:Rd w fS (o+a*(C.T e).sz) d2:=by
      rw[<-BO];have:Rd w fS o (d1++(d2++bH)):=by simpa using bt
      exact this.BC
     have yN:aS w F ((xs.take b).drop a) d2 (λ_=>False):=aS.mono (λ_ h=>h) _ _ _ _ (λb J=>(bQ _ (cQ _ J)).elim) cc;have mem:∀d∈(xs.take b).drop a,d.wd=sz:=λd ae=>aU d (mem_of_mem_take (mem_of_mem_drop ae));have run:(Instr.sliceAt T (.slice (some ⟨fS,o,none⟩) xs.length cap) rW rX none).run C.P w= .ok (.slice (if cap=a then some ⟨fS,o,none⟩else some ⟨fS,o+a*(C.T e).sz,none⟩) (b-a) (cap-a)) w:=by
      rw[tM a_ (tN ak (by simp) (by simp))];simp[Instr.slice,run_underlying bT,m2,iz f1,f2,Addr.add_lit]
     refine⟨_,w,F,S,run,h,.inl ⟨rfl,(aB.b4 rfl).2 ⟨rfl,?_⟩⟩⟩;simp only[bR,gS];rw[ai];by_cases Hx:cap=a
     .have OE:b=a:=by omega
      subst OE;have wq:(xs.take b).drop b=[]:=by simp
      rw[if_pos Hx];rw[wq]at yN⊢;rw[aS]at yN;subst yN;exact .inr ⟨fS,o,cap-b,[],sz,by simp,R,zero_le _,by omega,by simp,λau c bN=>by simp at bN,by rw[aS]⟩
     .rw[if_neg Hx];exact .inr ⟨fS,_,cap-a,d2,sz,by rw[hlen],R,by rw[hlen];omega,by omega,mem,gR,yN⟩
   .cases he
  .cases he
 .rename_i e y q ak;split at he
  .rename_i sz xs ae;split at he
   .rename_i b b8 J;split at he
    .rename_i yO;split at he
     .rename_i rU s2 aL;simp only[some.injEq,Prod.mk.injEq]at he;obtain⟨rfl,rfl⟩:=he;obtain⟨i,d,z,aK,aV,a1,b6,cH,bT,bK⟩:=a_.info (fa ak (by simp));rw[ak]at bK;have:=j8 bK;subst this;obtain⟨l9,bb,mV,f1,f2,f3,f4,f5,f6,f7⟩:=a_.info yO.2;have rV:rU= .ad sz xs:=by
       simp only[cg,ae,j.plain]at aL;simp at aL;exact aL.1.symm
      subst rV;obtain⟨bJ,e9,aQ,a2,Sn,bQ,c4,dR,gn,gW,j9⟩:=mU h rfl ay aL;rw[fM a2,ai]at bQ;rcases bQ with⟨rfl,a0,iS⟩|⟨fS,cap,cur,fi,fr,aF,iS,bU,cc,de,cQ,dT,dH,hx,cE,kY,kb⟩
      .simp at iS;subst iS;have gD:b=0:=by simpa using yO.1
       subst gD;have m2:=tL (P:=C.P) (isS:=true) (len:=0) (cap:=0) m0 m1 b8 J (Nat.le_refl _) (Nat.le_refl _) (Nat.le_refl _);refine⟨.slice a0 0 0,w,F,bJ,?_,e9,.inr ⟨rfl,rfl,λ_=>False,by simp only[bR,gS];rw[ai];exact .inl ⟨rfl,_,rfl⟩,λ_ h=>h.elim,λ_ h=>h.elim,λ_ _ h=>h.elim,λ_ h=>h.elim⟩⟩;rw[tM a_ (tN ak (by simp) (by simp))];cases a0<;>simp[Instr.slice,run_underlying bT,m2,iz f1,f2]
      .simp at iS;subst iS;have m2:=tL (P:=C.P) (isS:=true) (len:=xs.length) (cap:=cap) m0 m1 b8 J (zero_le _) (Nat.le_trans yO.1 cQ) cQ;have hlen:(xs.take b).length=b:=by simp;omega
       have run:(Instr.sliceAt T (.slice (some ⟨fS,0,none⟩) xs.length cap) rW rX none).run C.P w= .ok (.slice (some ⟨fS,0,none⟩) b cap) w:=by
        rw[tM a_ (tN ak (by simp) (by simp))];simp[Instr.slice,run_underlying bT,m2,iz f1,f2,Addr.add_lit]
       refine⟨_,w,F,bJ,run,e9,.inr ⟨rfl,rfl,Sn,?_,c4,dR,gn,gW⟩⟩;simp only[bR,gS];rw[ai];obtain⟨bD,bH,gC,fK,aj,ee,fb,gy,jm,jP⟩:=aS.split b xs _ _ cE;refine .inr ⟨fS,cap,cur,fi,fr,aF,by rw[hlen],bU,cc,de,by omega,dT,dH,λd ae=>hx d (mem_of_mem_take ae),?_,kY,kb⟩;have BO:bD.length=b*sz:=by
        rw[aS.length _ _ _ ee,pP _ (λd ae=>hx d (mem_of_mem_take ae)),hlen]
       have:cur.toList.take ((xs.take b).length*sz)=bD:=by
        rw[hlen];have U:b*sz<=xs.length*sz:=mul_le_mul_right _ yO.1;have:(cur.toList.take (xs.length*sz)).take (b*sz)=bD:=by rw[aj,take_left' BO]
        rwa [take_take,Nat.min_eq_left U]at this
       rw[this];exact aS.mono (λ_ h=>h) _ _ _ _ gy ee
     .cases he
    .cases he
   .cases he
  .cases he
 .cases he
end
section
variable {C:bI} {w0 w:World} {F0 X F:Nat->Prop} {S:Nat->Nat->Prop} {s s1:ah} {ao:Nat->Value} {av:j}
def Src (P:Program) (w:World) (size:Nat) (x:Value) (m:Nat) (news:abL):Prop:=
 ∀ax:World,ax.heap=w.heap->(Builtin.lenOf x).run P ax= .ok m ax/\(Builtin.firstCells size m x).run P ax= .ok news.toArray ax
def BP (d:TypeDesc):Prop:=(∃e,d= .slice e)\/d= .string
theorem OG {P:Program} {T bM ty e:TypeId} {p0:TypeDesc} {i:TypeInfo} (aL:P.underlying T=some (.slice e)) (hu:P.underlying bM=some p0) (rY:BP p0) (aw:P.info? e=some i)
  {x:Value} {m:Nat} {news:abL} (yP:Src P w i.size x m news) {b n cap:Nat} {cur:Array Value} {fi:TypeId} {fr:Nat×Nat} {l mid r:abL} (J:w.heap[b]? =some (.cells cur fi fr)) (a6:j6 fr cur.size)
  (aj:cur.toList=l++(mid++r)) (hl:l.length=n*i.size) (hm:mid.length=news.length) (yI:∀v∈news,Value.ft v=true) (oU:n+m<=cap):
  ∃ax,(Builtin.append_ #[T,bM] ty #[.slice (some ⟨b,0,none⟩) n cap,x]).run P w= .ok (.slice (some ⟨b,0,none⟩) (n+m) cap) ax/\ax.heap[b]? =some (.cells (l++(news++r)).toArray fi fr)/\
   (∀c,c≠b->ax.heap[c]? =w.heap[c]?)/\ax.heap.size=w.heap.size/\ax.os=w.os/\ax.tape=w.tape/\Out ax w:=by
 obtain⟨ax,ee,fb⟩:=wc (P:=P) (b:=b) (o:=n*i.size) (e:=fi) (fr:=fr) news 0 cur w l mid r J a6 aj (by omega) hm yI;refine⟨ax,?_,fb⟩;obtain⟨R,U⟩:=yP w rfl;rcases rY with⟨dY,rfl⟩|rfl<;>simp[Builtin.append_,run_underlying aL,run_underlying hu,iz aw,R,U,oU,Addr.add_lit,ee]
theorem OH {P:Program} {T bM ty e:TypeId} {p0:TypeDesc} {i:TypeInfo} {z:Value} (aL:P.underlying T=some (.slice e)) (hu:P.underlying bM=some p0) (rY:BP p0) (aw:P.info? e=some i) (bA:i.zero=some z)
  {x:Value} {m:Nat} {news:abL} (yP:Src P w i.size x m news) {base:Option Addr} {n cap:Nat} {nQ:abL} (hold:Src P w i.size (.slice base n cap) n nQ) (oU:¬n+m<=cap)
  (a7:n+m<=9223372036854775807) (BQ:(n+m)*i.bytes<=140737488355328):
  (Builtin.append_ #[T,bM] ty #[.slice base n cap,x]).run P w= .ok (.slice (some ⟨w.heap.size,0,none⟩) (n+m) (grownCap w (n+m) cap e))
   (w.drew.alloc (.cells (nQ.toArray++news.toArray++Builtin.zeroCells z.cells (grownCap w (n+m) cap e-(n+m))) e)):=by
 have R:=(yP w rfl).1;have U:=(yP w.drew rfl).2;have aA:=(hold w.drew rfl).2;have Hy:=growslice_fits (need:=n+m) (old:=cap) (by omega) BQ;have gV:¬(281474976710656<Builtin.nextslicecap (n+m) cap*i.bytes):=by omega
 have tO:∀k (w:World),(askRoom k).run P w= .ok () w:=by
  intro k w;unfold askRoom;split<;>rfl
 have BR:¬(9223372036854775807<(n:Int)+(m:Int)/\i.bytes=0):=by omega
 rcases rY with⟨dY,rfl⟩|rfl<;>
  .simp[Builtin.append_,run_underlying aL,run_underlying hu,iz aw,rN aw,R,oU,gV,Question.forced,tO];rw[if_neg BR,aA];simp[U,rO aw bA,newRow,grownCap];have aK:(nQ++news).toArray=nQ.toArray++news.toArray:=by simp
   rw[aK,Array.append_assoc]
def yQ (C:bI) (e bM:TypeId):Bool:=match(C.T bM).k,(C.T e).k with
 | .slice dY,_=>dY==e
 | .str,.int .u8=>true
 |_,_=>false
def p1 (C:bI) (s:ah) (T bM:TypeId) (x y:j):Option (j×ah):=
 match(C.T T).k with
 | .slice e=>if(C.T e).ok=true/\(C.T e).zero.wd=(C.T e).sz/\(flat (C.T e).zero).isSome=true/\yQ C e bM=true then
   match(match x with| .aJ=>some (j.ad (C.T e).sz [],s)| .h a q=>cg s (.h a q)|_=>none)with
   |some (.ad sz xs,s1)=>if sz=(C.T e).sz then
     match(match jl x.owner y with
      | .aJ=>some ([],s1)
      | .slice bO=>some (bO,s1)
      | .str l=>some (l.map jR,s1)
      | .h a q=>match cg s1 (.h a q)with
        |some (.ad _ bO,s2)=>some (bO,s2)
        |_=>none
      |_=>none)with
     |some (bO,s2)=>if(∀d∈bO,d.wd=(C.T e).sz)/\(xs.length+bO.length)*(C.T e).bytes<=140737488355328/\xs.length+bO.length<=9223372036854775807 then some (.ad sz (xs++bO),s2)else none
     |none=>none
    else none
   |_=>none
   else none
 |_=>none
theorem aS.append {xs bO:abN} {bD bH:abL} {bJ cS aF:Nat->Prop} (R:aS w F xs bD bJ) (U:aS w F bO bH cS) (aK:∀b,bJ b->aF b) (aV:∀b,cS b->aF b) (a1:∀b,bJ b->¬cS b):aS w F (xs++bO) (bD++bH) aF:=by
 induction xs generalizing bD bJ aF with
 |nil=>rw[aS]at R;subst R;exact aS.mono (λ_ h=>h) _ _ _ _ aV U
 |cons x xs ih=>
  rw[aS]at R;obtain⟨OI,OJ,gC,fK,rfl,aQ,a2,bQ,c4,dR⟩:=R;rw[cons_append,aS];refine⟨OI,OJ++bH,gC,λb=>fK b\/cS b,by simp,aQ,ih a2 (λb h=>.inl h) (λb h=>.inr h) (λb h=>a1 b (c4 b h)),λb h=>aK b (bQ b h),?_,?_⟩
  .rintro b (h|h)
   .exact aK b (c4 b h)
   .exact aV b h
  .rintro b h (bz|bz)
   .exact dR b h bz
   .exact a1 b (bQ b h) bz
theorem BS {P:Program} {size m cap:Nat} {b o:Nat} {news:abL} (gR:Rd w b o news) (hl:news.length=m*size):Src P w size (.slice (some ⟨b,o,none⟩) m cap) m news:=by
 intro ax hw;refine⟨rfl,?_⟩;refine run_firstCells_some ax size m ⟨b,o,none⟩ m cap news hl (λau v bN=>?_);rw[Addr.add_lit];have:=gR au v bN;simpa [World.cell?,hw]using this
theorem Hz {P:Program} {size cap:Nat}:Src P w size (.slice none 0 cap) 0 []:=by
 intro ax _;exact⟨rfl,by simp[Builtin.firstCells]⟩
theorem BT {P:Program} {size cap:Nat} (a:Option Addr):Src P w size (.slice a 0 cap) 0 []:=by
 cases a with
 |none=>exact Hz
 |some a=>
  intro ax _;exact⟨rfl,run_firstCells_some ax size 0 a 0 cap [] (by simp) (λau v bN=>by simp at bN)⟩
theorem OK {P:Program} (l:nq):Src P w 1 (.string ⟨⟨l⟩⟩) l.length (l.map λb=>.int .u8 (b.toNat:Int)):=by
 intro ax _;refine⟨rfl,?_⟩;have:(⟨⟨l⟩⟩:ByteArray).extract 0 l.length=⟨⟨l⟩⟩:=by
  apply ByteArray.ext;simp[ByteArray.data_extract]
 simp[Builtin.firstCells,this]
theorem aS.rZ {sz:Nat} {xs:abN} {cs:abL} {aF:Nat->Prop} (h:aS w F xs cs aF) (hw:∀d∈xs,d.wd=sz):cs.length=xs.length*sz:=by
 rw[aS.length _ _ _ h,pP _ hw]
theorem bu.turn (h:bu w0 F0 X F S s ao w) {ax:World} {b:Nat} (J:∀c,c≠b->ax.heap[c]? =w.heap[c]?) (I:ax.heap.size=w.heap.size) (R:ax.os=w.os) (U:ax.tape=w.tape) (aA:Out ax w)
  (aY:¬F b) (bg:∀u,¬S u b) (bq:X b\/w0.heap.size<=b):bu w0 F0 X F S s ao ax where
 fR:=h.fR
 gl:=h.gl
 eu:=λc aj=>by rw[I];exact h.eu c aj
 dD:=λt c aj=>by rw[I];exact h.dD t c aj
 eW:=h.eW
 ev:=h.ev
 cN:=h.cN
 cK:=λt=>aB.frame (Sx:=S) (λc aj=>J c (by rintro rfl;exact aY aj)) (λ_ h=>h) (λx c aj=>J c (by rintro rfl;exact bg x aj)) h.cK _ _ _ (λc aj=>J c (by rintro rfl;exact bg t aj)) (h.cK t)
 old:=λc cB ix=>by
  rw[J c ?_]
  .exact h.old c cB ix
  .rintro rfl;rcases bq with bq|bq
   .exact ix bq
   .omega
 size:=by rw[I];exact h.size
 os:=R.trans h.os
 tape:=U.trans h.tape
 output:=aA.trans h.output
 fL:=h.fL
theorem OL (a_:C.Ok) (h:bu w0 F0 X F S s ao w) {T bM ty:TypeId} {x y:j} {fD fE:Value} (ag:aB w F s ao x fD (λ_=>False)) (bh:aB w F s ao y fE (λ_=>False))
  (he:p1 C s T bM x y=some (av,s1)):Good C w0 F0 X ao w (Builtin.append_ #[T,bM] ty #[fD,fE]) av s1:=by
 unfold p1 at he;split at he
 .rename_i e ak;obtain⟨BU,d,BV,aK,aV,a1,b6,cH,bT,bK⟩:=a_.info (fa ak (by simp));rw[ak]at bK;have:=j8 bK;subst this;split at he
  .rename_i nK;obtain⟨nP,oV,p2,oW⟩:=nK;obtain⟨i,BW,z,f1,f2,f3,f4,f5,f6,f7⟩:=a_.info nP;obtain⟨ey,lH⟩:=isSome_iff_exists.1 p2;have p3:=f5 ey lH;have nR:ey.length=(C.T e).sz:=by
    have:=ai.length _ _ _ ((ai.flat (w:=w) (F:=F) _).1 (C.T e).zero ey (λ_=>False) (Nat.le_refl _) lH);rw[this,oV]
   obtain⟨p0,hu,rY⟩:∃p0,C.P.underlying bM=some p0/\BP p0:=by
    unfold yQ at oW;split at oW
    .rename_i dY hd;obtain⟨_,bb,_,_,_,_,_,_,gn,gW⟩:=a_.info (fa hd (by simp));rw[hd]at gW;exact⟨bb,gn,.inl ⟨_,j8 gW⟩⟩
    .rename_i hd _;obtain⟨_,bb,_,_,_,_,_,_,gn,gW⟩:=a_.info (fa hd (by simp));rw[hd]at gW;exact⟨bb,gn,.inr (oP gW)⟩
    .cases oW
   split at he
   .rename_i sz xs HA r0;split at he
    .rename_i cT;subst cT;split at he
     .rename_i bO yR m3;split at he
      .rename_i OM;obtain⟨tP,BQ,BX⟩:=OM;simp only[some.injEq,Prod.mk.injEq]at he;obtain⟨rfl,rfl⟩:=he;obtain⟨gC,a0,Sn,a3,a4,a5,oS,oT,aan,a9,qI⟩:∃gC,bu w0 F0 X F gC HA ao w/\∃Sn,ai w F (.ad (C.T e).sz xs) [fD] Sn/\(∀b,Sn b->b<w.heap.size)/\(∀b,Sn b->¬F b)/\(∀u b,Sn b->¬gC u b)/\
         (∀b,Sn b->X b\/w0.heap.size<=b)/\(∀u b,gC u b->S u b)/\(∀b,Sn b->∃u,S u b)/\aB w F HA ao (jl x.owner y) fE (λ_=>False):=by
        split at r0
        .simp only[some.injEq,Prod.mk.injEq,j.ad.injEq,true_and]at r0;obtain⟨rfl,rfl⟩:=r0;have:=pV ag;subst this;exact⟨S,h,λ_=>False,by rw[ai];exact .inl ⟨rfl,_,rfl⟩,λ_ h=>h.elim,λ_ h=>h.elim,λ_ _ h=>h.elim,λ_ h=>h.elim,λ_ _ h=>h,λ_ h=>h.elim,bh⟩
        .obtain⟨bJ,e9,aQ,a2,Sn,bQ,c4,dR,gn,gW,j9,wt,yS⟩:=mU h rfl ag r0;rw[fM a2]at bQ;exact⟨bJ,e9,Sn,bQ,c4,dR,gn,gW,j9,wt,yS _ _ _ bh⟩
        .cases r0
       obtain⟨fK,fS,mf,news,i7,gz,i9,c1,df,e6,r1,dL⟩:∃fK,bu w0 F0 X F fK yR ao w/\∃mf news,aS w F bO news mf/\Src C.P w i.size fE bO.length news/\(∀b,mf b->b<w.heap.size)/\(∀b,mf b->¬F b)/\(∀u b,mf b->¬fK u b)/\
         (∀b,mf b->X b\/w0.heap.size<=b)/\(∀u b,fK u b->gC u b)/\(∀b,mf b->∃u,gC u b):=by
        split at m3
        .rename_i r2;simp only[some.injEq,Prod.mk.injEq]at m3;obtain⟨rfl,rfl⟩:=m3;rw[r2]at qI;have:=pV qI;subst this;exact⟨gC,a0,λ_=>False,[],by rw[aS],Hz,λ_ h=>h.elim,λ_ h=>h.elim,λ_ _ h=>h.elim,λ_ h=>h.elim,λ_ _ h=>h,λ_ h=>h.elim⟩
        .rename_i zs r2;simp only[some.injEq,Prod.mk.injEq]at m3;obtain⟨rfl,rfl⟩:=m3;rw[r2]at qI;rcases yM qI with⟨rfl,me,aao,rfl,_,rT⟩|⟨b,o,cap,cX,ON,rfl,bU,cc,de,cQ,dT,dH⟩
         .exact⟨gC,a0,λ_=>False,[],by rw[aS],BT me,λ_ h=>h.elim,λ_ h=>h.elim,λ_ _ h=>h.elim,λ_ h=>h.elim,λ_ _ h=>h,λ_ h=>h.elim⟩
         .exact⟨gC,a0,λ_=>False,cX,dH,BS dT (by rw[f2];exact aS.rZ dH tP),λ_ h=>h.elim,λ_ h=>h.elim,λ_ _ h=>h.elim,λ_ h=>h.elim,λ_ _ h=>h,λ_ h=>h.elim⟩
        .rename_i l r2;simp only[some.injEq,Prod.mk.injEq]at m3;obtain⟨rfl,rfl⟩:=m3;rw[r2]at qI;have:=mX qI;subst this;have OO:l≠[]->i.size=1:=by
          intro hl;cases l with
          |nil=>exact(hl rfl).elim
          |cons b l=>rw[f2,<-tP (jR b) (by simp)];rfl
         by_cases hl:l=[]
         .subst hl;refine⟨gC,a0,λ_=>False,[],by simp only[map_nil];rw[aS],?_,λ_ h=>h.elim,λ_ h=>h.elim,λ_ _ h=>h.elim,λ_ h=>h.elim,λ_ _ h=>h,λ_ h=>h.elim⟩;intro ax _;exact⟨rfl,by simp[Builtin.firstCells,ByteArray.extract];rfl⟩
         .refine⟨gC,a0,λ_=>False,_,Hs l _,?_,λ_ h=>h.elim,λ_ h=>h.elim,λ_ _ h=>h.elim,λ_ h=>h.elim,λ_ _ h=>h,λ_ h=>h.elim⟩;rw[OO hl,length_map];exact OK l
        .rename_i a q r2;split at m3
         .rename_i aap zs s2 aL;simp only[some.injEq,Prod.mk.injEq]at m3;obtain⟨rfl,rfl⟩:=m3;rw[r2]at qI;obtain⟨cS,e9,aQ,a2,mf,bQ,c4,dR,gn,gW,j9,wt,yS⟩:=mU a0 rfl qI aL;rw[fM a2,ai]at bQ;rcases bQ with⟨rfl,OP,iS⟩|⟨b,cap,cur,fi,fr,aF,iS,bU,cc,de,cQ,dT,dH,hx,cE,kY,kb⟩
          .simp at iS;subst iS;exact⟨cS,e9,λ_=>False,[],by rw[aS],(BT OP),λ_ h=>h.elim,λ_ h=>h.elim,λ_ _ h=>h.elim,λ_ h=>h.elim,j9,λ_ h=>h.elim⟩
          .simp at iS;subst iS;refine⟨cS,e9,aF,_,cE,BS (tE cc _) ?_,λc aj=>c4 c (kY c aj),λc aj=>dR c (kY c aj),λu c aj=>gn u c (kY c aj),λc aj=>gW c (kY c aj),j9,λc aj=>wt c (kY c aj)⟩;rw[f2];exact aS.rZ cE tP
         .cases m3
        .cases m3
       have qJ:news.length=bO.length*(C.T e).sz:=aS.rZ i7 tP;have m4:∀c,Sn c->¬mf c:=λc R U=>by obtain⟨u,hu⟩:=dL c U;exact oS u c R hu
       have jM:∀u c,Sn c->¬fK u c:=λu c R U=>oS u c R (r1 u c U);have grow:∀(base:Option Addr) (cap:Nat) (nQ:abL) (Sx:Nat->Prop),fD= .slice base xs.length cap->Src C.P w i.size (.slice base xs.length cap) xs.length nQ->aS w F xs nQ Sx->(∀d∈xs,d.wd=(C.T e).sz)->(∀c,Sx c->Sn c)->¬xs.length+bO.length<=cap->
         Good C w0 F0 X ao w (Builtin.append_ #[T,bM] ty #[fD,fE]) (.ad (C.T e).sz (xs++bO)) yR:=by
        intro base cap nQ Sx rS hold HB HC eH oU;subst rS;have aN:=OH (ty:=ty) bT hu rY f1 f4 gz hold oU BX (by rw[f3];exact BQ);have tK:=grownCap_ge w (xs.length+bO.length) cap e;have wo:=grownCap_le_maxLen w (xs.length+bO.length) cap e (by unfold maxLen;omega);have wu:=aS.rZ HB HC;have OQ:aS w F (xs++bO) (nQ++news) (λc=>Sx c\/mf c):=aS.append HB i7 (λ_ h=>.inl h) (λ_ h=>.inr h) (λc R U=>m4 c (eH c R) U);have OR:(nQ++news).length=(xs++bO).length*(C.T e).sz:=by simp[wu,qJ,Nat.add_mul]
        have jS:=fS.wj (ax:=w.drew.alloc (.cells (nQ.toArray++news.toArray++Builtin.zeroCells z.cells (grownCap w (xs.length+bO.length) cap e-(xs.length+bO.length))) e))
         (sz:=(C.T e).sz) (cap:=grownCap w (xs.length+bO.length) cap e) (xs:=xs++bO) (e:=e) (fr:=(0,0)) (Sn:=λc=>Sx c\/mf c) rfl rfl rfl ⟨rfl,λ_=>le_succ _⟩
         (λo _ ⟨_,U⟩=>absurd U (not_lt_zero _)) (by simpa using tK) wo
         (by
          simp only[Array.size_append,List.size_toArray,size_zeroCells,p3,wu,qJ,nR,<-Nat.add_mul];congr 1;omega)
         (by
          intro d ae;rcases mem_append.1 ae with ae|ae
          .exact HC d ae
          .exact tP d ae)
         (by
          simp only[Array.toList_append];rw[take_left' OR];exact OQ)
         (by rintro c (aj|aj);exact a4 c (eH c aj);exact i9 c aj) (by rintro c (aj|aj);exact a5 c (eH c aj);exact c1 c aj) (by rintro u c (aj|aj);exact jM u c (eH c aj);exact df u c aj) (by rintro c (aj|aj);exact oT c (eH c aj);exact e6 c aj)
        refine⟨_,_,F,fK,aN,jS.1,?_⟩;have:=jS.2;simpa using this
       rw[ai]at a3;rcases a3 with⟨rfl,yT,iS⟩|⟨b,cap,cur,fi,fr,aF,iS,bU,cc,de,cQ,dT,dH,hx,cE,kY,kb⟩
       .simp at iS;subst iS;by_cases HD:bO=[]
        .subst HD;have wv:news=[]:=by simpa using qJ
         subst wv;refine⟨.slice yT 0 0,w,F,fK,?_,fS,.inr ⟨rfl,rfl,λ_=>False,by simp only[bR,gS];rw[ai];exact .inl ⟨rfl,_,rfl⟩,λ_ h=>h.elim,λ_ h=>h.elim,λ_ _ h=>h.elim,λ_ h=>h.elim⟩⟩;obtain⟨R,U⟩:=gz w rfl;cases yT<;>rcases rY with⟨dY,rfl⟩|rfl<;>simp at R U<;>simp[Builtin.append_,run_underlying bT,run_underlying hu,iz f1,R,U,storeCells]
        .exact grow yT 0 [] (λ_=>False) rfl (BT yT) (by rw[aS]) (by simp) (λ_ h=>h.elim) (by
          cases bO with
          |nil=>exact(HD rfl).elim
          |cons y bO=>simp)
       .simp at iS;subst iS;by_cases oU:xs.length+bO.length<=cap
        ·
         have wu:=aS.rZ cE hx;have hlen:cur.toList.length=cap*(C.T e).sz:=by simp[dH]
         have hle:(xs.length+bO.length)*(C.T e).sz<=cap*(C.T e).sz:=mul_le_mul_right _ oU;rw[Nat.add_mul]at hle;have iv:cur.toList=cur.toList.take (xs.length*(C.T e).sz)++((cur.toList.drop (xs.length*(C.T e).sz)).take news.length++(cur.toList.drop (xs.length*(C.T e).sz)).drop news.length):=by
          rw[take_append_drop,take_append_drop]
         obtain⟨ax,ee,fb,gy,jm,jP,kU,mb⟩:=OG (ty:=ty) (n:=xs.length) (m:=bO.length) (cap:=cap) bT hu rY f1 gz cc de.low iv (by rw[f2];exact wu) (by simp[hlen,qJ];omega) (aS.pT _ _ _ i7) oU;have OS:=fS.turn gy jm jP kU mb (a5 b bU) (λu hu=>jM u b bU hu) (oT b bU);have oO:∀c,F c->ax.heap[c]? =w.heap[c]? :=λc aj=>gy c (by rintro rfl;exact a5 _ bU aj);refine⟨_,ax,F,fK,ee,OS,.inr ⟨rfl,rfl,λc=>Sn c\/mf c,?_,?_,?_,?_,?_⟩⟩
         .simp only[bR,gS];rw[ai];have HE:(cur.toList.take (xs.length*(C.T e).sz)++(news++(cur.toList.drop (xs.length*(C.T e).sz)).drop news.length)).toArray.size=cur.size:=by
           have:cur.size=cur.toList.length:=by simp
           rw[this];conv=>rhs;rw[iv]
           simp[hlen,qJ];omega
          refine .inr ⟨b,cap,_,fi,fr,λc=>aF c\/mf c,by simp,.inl bU,fb,by rw[HE];exact de,by simpa using oU,dT,by rw[HE];exact dH,?_,?_,?_,?_⟩
          .intro d ae;rcases mem_append.1 ae with ae|ae
           .exact hx d ae
           .exact tP d ae
          .have mZ:=aS.frame oO _ _ _ (λc aj=>gy c (by rintro rfl;exact kb aj)) cE;have pQ:=aS.frame oO _ _ _ (λc aj=>gy c (by rintro rfl;exact m4 _ bU aj)) i7;have:((cur.toList.take (xs.length*(C.T e).sz)++(news++(cur.toList.drop (xs.length*(C.T e).sz)).drop news.length)).toArray.toList.take ((xs++bO).length*(C.T e).sz))=cur.toList.take (xs.length*(C.T e).sz)++news:=by
            simp only[];rw[<-append_assoc];exact take_left' (by rw[length_append,wu,qJ,length_append,Nat.add_mul])
           rw[this];exact aS.append mZ pQ (λ_ h=>.inl h) (λ_ h=>.inr h) (λc R U=>m4 c (kY c R) U)
          .rintro c (aj|aj)
           .exact .inl (kY c aj)
           .exact .inr aj
          .rintro(aj|aj)
           .exact kb aj
           .exact m4 b bU aj
         .rw[jm];rintro c (aj|aj);exact a4 c aj;exact i9 c aj
         .rintro c (aj|aj);exact a5 c aj;exact c1 c aj
         .rintro u c (aj|aj);exact jM u c aj;exact df u c aj
         .rintro c (aj|aj);exact oT c aj;exact e6 c aj
        .exact grow (some ⟨b,0,none⟩) cap _ aF rfl (BS (tE cc _) (by rw[f2];exact aS.rZ cE hx)) cE hx kY oU
      .cases he
     .cases he
    .cases he
   .cases he
  .cases he
 .cases he
end
section
variable {C:bI} {w0 w ax:World} {F0 X F:Nat->Prop} {S:Nat->Nat->Prop} {s s1:ah} {ao:Nat->Value} {av:j}
theorem bu.OT (h:bu w0 F0 X F S s ao w) {x:Nat} {q:abI} {d bb:j} {b:Nat} (ae:j.sub q (s x)=some d) (al:d.plain=false) (OU:bb.tree=true) (R:∀v,g_ d v->g_ bb v) (I:∀v,c0 d v->c0 bb v)
  (U:∀vs,bb≠.tuple vs) (jk:bb.wd=d.wd) (J:∀b0 a ej,cb w q (s x) (bR (ao x)) none=some (d,b0,a)->ai w F d b0 ej->ej b/\ai ax F bb b0 ej) (lE:∀c,c≠b->ax.heap[c]? =w.heap[c]?) (cT:ax.heap.size=w.heap.size) (Bv:ax.os=w.os)
  (Bw:ax.tape=w.tape) (rK:Out ax w):∃aF,bu w0 F0 X F aF (ck (e_ x s) x (j.put q bb (s x))) ao ax:=by
 have aL:=fQ ae (.inl al);have ag:=h.cK x;rw[aB.b4 aL]at ag;obtain⟨b0,a,dj,ej,e9,aQ,a2,bQ,c4,dR⟩:=ctx q (s x) (bR (ao x)) (S x) none d ag.2 ae;obtain⟨rL,ay⟩:=J b0 a ej e9 c4;have r3:S x b:=a2 b rL;have oO:∀c,F c->ax.heap[c]? =w.heap[c]? :=λc aj=>lE c (by rintro rfl;exact h.eW x _ r3 aj);have qD:∀c,dj c->c≠b:=λc aj e=>bQ c aj (e▸rL);have hV:ai ax F (j.put q bb (s x)) (bR (ao x)) (λc=>dj c\/ej c):=by
  rcases dR with⟨l,r,aK,aV,a1⟩|⟨fS,cur,e,fr,l,r,aK,aV,a1,b6,cH,bT⟩
  .rw[aK];exact a1 ax bb b0 ej oO (λc aj=>lE c (qD c aj)) jk ay (λc aj iO=>bQ c iO aj)
  .refine bT ax bb b0 ej oO (λc aj _=>lE c (qD c aj)) ?_ jk ay (λc aj iO=>bQ c iO aj);rw[lE fS (qD fS aV),a1,<-cH]
 have vY:c0 (j.put q bb (s x)) (ao x)/\(j.put q bb (s x)).tree=true:=by
  cases q with
  |nil=>
   simp only[j.sub,some.injEq]at ae;simp only[j.put];exact⟨I _ (ae▸ag.1),OU⟩
  |cons k q=>
   refine⟨vW ag.1 ae R (λ_=>U) jk,?_⟩;rcases qC k q bb (s x)with⟨ar,gs,aK,e⟩|⟨ar,gs,aK,e⟩|⟨sz,xs,bO,aK,e⟩|⟨y,z,aK,e⟩|e<;>rw[e]<;>first|rfl|exact aL
 let aq:=ck (e_ x s) x (j.put q bb (s x))
 have fZ:∀y,y≠x->(aq y).tree=true->aq y=s y/\ao y=ao y:=λy bh aL=>by
  have e:aq y=cW.bV x (s y):=hX _ _ bh;rw[e]at aL⊢;exact⟨(yA aL).2,rfl⟩
 have eV:(aq x).plain=false->(s x).plain=false/\∀v,c0 (s x) v->c0 (aq x) v:=by
  intro _;refine⟨?_,λv ay=>?_⟩
  .cases cx:(s x).plain with
   |false=>rfl
   |true=>rw[j.Br _ _ _ cx ae]at al;cases al
  .simp only[aq,ks];cases q with
   |nil=>
    simp only[j.sub,some.injEq]at ae;simp only[j.put];exact I _ (ae▸ay)
   |cons k q=>exact vW ay ae R (λ_=>U) jk
 have both:∀c,(dj c\/ej c)->S x c:=λc aj=>aj.elim (aQ c) (a2 c);refine⟨fy S x (λc=>dj c\/ej c),?_⟩;constructor;case fR=>exact h.fR
 case gl=>exact h.gl
 case eu=>exact λb J=>by rw[cT];exact h.eu b J
 case dD=>
  intro u c J;rw[cT];simp only[fy]at J;split at J
  .exact h.dD x c (both c J)
  .exact h.dD u c J
 case eW=>
  intro u c J;simp only[fy]at J;split at J
  .exact h.eW x c (both c J)
  .exact h.eW u c J
 case ev=>
  intro u y c cO J bh;simp only[fy]at J bh;split at J
  .rename_i hu;rw[if_neg (λe=>cO (hu.trans e.symm))]at bh;exact h.ev x y c (λe=>cO (hu.trans e)) (both c J) bh
  .rename_i hu;split at bh
   .exact h.ev u x c hu J (both c bh)
   .exact h.ev u y c cO J bh
 case cN=>
  intro u c J;simp only[fy]at J;split at J
  .exact h.cN x c (both c J)
  .exact h.cN u c J
 case cK=>
  intro u;by_cases hu:u=x
  .subst hu;rw[ks,vU];exact(aB.b4 vY.2).2 ⟨vY.1,hV⟩
  .rw[hX _ _ hu,vV _ _ hu];have cO:∀y c,y≠x->S y c->ax.heap[c]? =w.heap[c]? :=λy c bh aj=>lE c (by rintro rfl;exact h.ev y x c bh aj r3);refine(aB.bV fZ rfl eV (λy fC d2 bh gU vZ=>?_) oO _).1 _ _ _ (Nat.le_refl _) (λc aj=>cO u c hu aj) (h.cK u);have v7:=h.cK y;rw[aB.b4 (fQ gU vZ)]at v7;exact yz fC _ _ _ none d2 v7.2 gU (λc aj=>cO y c bh aj)
 case old=>
  intro c cB ix;rw[lE c ?_]
  .exact h.old c cB ix
  .rintro rfl;rcases h.cN x c r3 with bq|bq
   .exact ix bq
   .omega
 case size=>rw[cT];exact h.size
 case os=>exact Bv.trans h.os
 case tape=>exact Bw.trans h.tape
 case output=>exact rK.trans h.output
 case fL=>exact h.fL
def HF (P:Program) (t:TypeId):Bool:=match P.info? t with
 |some i=>match i.zero with
  |some (.bool false)=>true
  |_=>false
 |none=>false
def yU (C:bI) (T:TypeId):Bool:=match(C.T T).k with
 | .map nS i_=>match(C.T nS).k with
   | .str=>HF C.P i_
   |_=>false
 |_=>false
def m5 (C:bI) (s:ah) (T:TypeId) (x i:j):Option j:=match x,i with
 | .h y q,.str k=>match j.sub q (s y)with
   |some (.dc (.mp m))=>if yU C T=true then some (.bool (qA k m))else none
   |_=>none
 |_,_=>none
def lI (C:bI) (s:ah) (T:TypeId) (x i v:j):Option ah:=match x,i,v with
 | .h y q,.str k,.bool b=>match j.sub q (s y)with
   |some (.dc (.mp m))=>if yU C T=true then some (ck (e_ y s) y (j.put q (.dc (.mp (oL k b m))) (s y)))else none
   |_=>none
 |_,_,_=>none
theorem HG (a_:C.Ok) {T:TypeId} (h:yU C T=true):∃nS i_,C.P.underlying T=some (.map nS i_)/\C.P.underlying nS=some .string/\∀w,(zeroValue i_).run C.P w= .ok (.bool false) w:=by
 unfold yU at h;split at h
 .rename_i nS i_ ak;split at h
  .rename_i R;obtain⟨i,d,z,aK,aV,a1,b6,cH,bT,bK⟩:=a_.info (fa ak (by simp));obtain⟨l9,bb,mV,f1,f2,f3,f4,f5,f6,f7⟩:=a_.info (fa R (by simp));rw[ak]at bK;rw[R]at f7;have:=oP f7;subst this;refine⟨nS,i_,?_,f6,λw=>?_⟩
   .rw[bT];cases d<;>simp[j7]at bK;rw[bK.1,bK.2]
   .unfold HF at h;split at h
    .rename_i hT aQ;split at h
     .rename_i a2;exact rO aQ a2 w
     .cases h
    .cases h
  .cases h
 .cases h
theorem BZ (a b:ByteArray):(a==b)=true↔a=b:=by
 constructor
 .intro h;exact ByteArray.ext (eq_of_beq (show(a.data==b.data)=true from h))
 .rintro rfl;show(a.data==a.data)=true;simp
theorem B0 (k:nq) (b:Bool):∀(es:List MapEntry) (m:gk) (i:Nat),es.map (λe=>(e.key,e.val))=m.map (λe=>(.string ⟨⟨e.1⟩⟩,.bool e.2))->
  (Instr.findNow .string (.string ⟨⟨k⟩⟩) es i=some none/\qA k m=false/\oL k b m=m++[(k,b)])\/
  ∃au e,es[au]? =some e/\e.key= .string ⟨⟨k⟩⟩/\Instr.findNow .string (.string ⟨⟨k⟩⟩) es i=some (some (i+au,.bool (qA k m)))/\oL k b m=m.set au (k,b)
 |[],m,i,h=>by
  have:m=[]:=by simpa using h.symm
  subst this;exact .inl ⟨rfl,rfl,rfl⟩
 |e::es,[],i,h=>by simp at h
 |e::es,(cY,eI)::m,i,h=>by
  simp only[map_cons,cons.injEq,Prod.mk.injEq]at h;obtain⟨⟨R,U⟩,aA⟩:=h;by_cases ak:cY=k
  .subst ak;refine .inr ⟨0,e,rfl,R,?_,by simp[oL]⟩;have:(((⟨⟨cY⟩⟩:ByteArray)==⟨⟨cY⟩⟩))=true:=(BZ _ _).2 rfl;simp only[Instr.findNow,R,U,Instr.sameNow,qA,this,if_true,Nat.add_zero]
  .have a7:((⟨⟨k⟩⟩:ByteArray)==⟨⟨cY⟩⟩)=false:=by
    refine Bool.eq_false_iff.2 λe=>ak ?_;have:=(BZ _ _).1 e;simp only[ByteArray.mk.injEq,Array.mk.injEq]at this;exact this.symm
   rcases B0 k b es m (i+1) aA with⟨aQ,a2,bQ⟩|⟨au,dY,aQ,a2,bQ,c4⟩
   .refine .inl ⟨?_,?_,?_⟩
    .simp only[Instr.findNow,R,Instr.sameNow,a7];exact aQ
    .simp[qA,ak,a2]
    .simp[oL,ak,bQ]
   .refine .inr ⟨au+1,dY,aQ,a2,?_,?_⟩
    .simp only[Instr.findNow,R,Instr.sameNow,a7];rw[bQ];simp[qA,ak,Nat.add_assoc,Nat.add_comm 1 au]
    .simp[oL,ak,c4]
theorem yV {P:Program} {nS:TypeId} (ak:P.underlying nS=some .string) (e:Bool) (k:ByteArray) (w:World):(Instr.checkKey e 10000 nS (.string k)).run P w= .ok () w:=by
 unfold Instr.checkKey;simp[run_underlying ak]
theorem HH (h:bu w0 F0 X F S s ao w) {y:Nat} {q:abI} {m:gk} {v:Value} (ay:aB w F s ao (.h y q) v (λ_=>False)) (ae:j.sub q (s y)=some (.dc (.mp m))):
  ∃r ms lC,v= .map (some r)/\w.heap[r]? =some (.map ms lC)/\ms.toList.map (λe=>(e.key,e.val))=m.map (λe=>(.string ⟨⟨e.1⟩⟩,.bool e.2))/\
   ∃a,cb w q (s y) (bR (ao y)) none=some (.dc (.mp m),[.map (some r)],a):=by
 rw[aB]at ay;obtain⟨b0,a,aQ,a2,bQ⟩:=ay _ ae rfl;have R:Value.ft v=true:=bQ;rw[fM R]at a2;have ag:=h.cK y;rw[aB.b4 (fQ ae (.inl rfl))]at ag;obtain⟨e4,b3,dj,ej,k0,bU,cc,de,cQ,dT⟩:=ctx q (s y) (bR (ao y)) (S y) none _ ag.2 ae;rw[k0]at aQ;simp only[some.injEq,Prod.mk.injEq,true_and]at aQ;obtain⟨rfl,rfl⟩:=aQ;rw[ai]at cQ;obtain⟨r,ms,lC,aK,aV,a1,b6⟩:=cQ;rw[aK]at a2 k0;exact⟨r,ms,lC,by simpa using a2,a1,b6,b3,k0⟩
theorem OV (a_:C.Ok) (h:bu w0 F0 X F S s ao w) {T:TypeId} {x i:j} {fD mW:Value} (ag:aB w F s ao x fD (λ_=>False)) (aw:aB w F s ao i mW (λ_=>False)) (he:m5 C s T x i=some av):
  Good C w0 F0 X ao w (Instr.lookup T fD mW false) av s:=by
 unfold m5 at he;split at he
 .rename_i y q k;split at he
  .rename_i m ae;split at he
   .rename_i fg;simp only[some.injEq]at he;subst he;obtain⟨nS,i_,t1,t2,t3⟩:=HG a_ fg;obtain⟨r,ms,lC,rfl,aV,a1,_⟩:=HH h ag ae;have:=mX aw;subst this;refine Good.same h (v:=.bool (qA k m)) ?_ rfl (of_bool _);rcases B0 k true ms.toList m 0 a1 with⟨aQ,a2,_⟩|⟨au,e,_,_,aQ,_⟩
    .simp[Instr.lookup,run_underlying t1,getObj,Sem.run,aV,yV t2,Instr.findKey,run_underlying t2,aQ,t3,a2]
    .simp[Instr.lookup,run_underlying t1,getObj,Sem.run,aV,yV t2,Instr.findKey,run_underlying t2,aQ]
   .cases he
  .cases he
 .cases he
theorem OW (a_:C.Ok) (h:bu w0 F0 X F S s ao w) {T:TypeId} {x i v:j} {fD mW HI:Value} (ag:aB w F s ao x fD (λ_=>False)) (aw:aB w F s ao i mW (λ_=>False)) (ay:aB w F s ao v HI (λ_=>False)) {s2:ah}
  (he:lI C s T x i v=some s2):∃ax aF,(Instr.mapUpdate T fD mW HI).run C.P w= .ok () ax/\bu w0 F0 X F aF s2 ao ax:=by
 unfold lI at he;split at he
 .rename_i y q k b;split at he
  .rename_i m ae;split at he
   .rename_i fg;simp only[some.injEq]at he;subst he;obtain⟨nS,i_,t1,t2,t3⟩:=HG a_ fg;obtain⟨r,ms,lC,rfl,aV,a1,a0,ha⟩:=HH h ag ae;have:=mX aw;subst this;have:=qG ay;subst this;have key:∀(yW:Array MapEntry) (B1:Nat),yW.toList.map (λe=>(e.key,e.val))=(oL k b m).map (λe=>(.string ⟨⟨e.1⟩⟩,.bool e.2))->
      ∃aF,bu w0 F0 X F aF (ck (e_ y s) y (j.put q (.dc (.mp (oL k b m))) (s y))) ao {w with heap:=w.heap.setIfInBounds r (.map yW B1)}:=by
     intro yW B1 hm;have aN:r<w.heap.size:=(Array.getElem?_eq_some_iff.1 aV).1;refine bu.OT (b:=r) h ae rfl rfl (λv ay=>ay) (λv ay=>ay) (λvs e=>by cases e) rfl ?_ (λc aj=>?_) (by simp) rfl rfl ⟨rfl,λ_=>Nat.le_refl _⟩
     .intro b0 a ej a6 eJ;rw[ha]at a6;simp only[some.injEq,Prod.mk.injEq,true_and]at a6;obtain⟨rfl,_⟩:=a6;rw[ai]at eJ⊢;obtain⟨gX,qK,aaq,f1,f2,f3,f4⟩:=eJ;simp only[cons.injEq,Value.map.injEq,some.injEq,and_true]at f1;subst f1;exact⟨f2,r,yW,B1,rfl,f2,by simp[aN],hm⟩
     .simp[Ne.symm aj]
    rcases B0 k b ms.toList m 0 a1 with⟨aQ,_,a2⟩|⟨au,e,e9,ge,aQ,a2⟩
    .obtain⟨aF,bU⟩:=key (ms.push {key:=.string ⟨⟨k⟩⟩,val:=.bool b,born:=lC}) (lC+1) (by rw[a2];simp[a1]);exact⟨_,aF,by simp[Instr.mapUpdate,run_underlying t1,getObj,setObj,Sem.run,aV,yV t2,Instr.findKey,run_underlying t2,aQ],bU⟩
    .rw[Nat.zero_add]at aQ;obtain⟨aF,bU⟩:=key (ms.modify au λe=>{e with key:=.string ⟨⟨k⟩⟩,val:=.bool b}) lC (by
      rw[a2,map_set,<-a1];apply ext_getElem?;intro n;by_cases a7:n=au
      .subst a7;have:n<ms.toList.length:=(List.getElem?_eq_some_iff.1 e9).1;rw[getElem?_set_self (by simpa using this)];simp[e9]
      .simp[getElem?_set_ne (Ne.symm a7),Ne.symm a7])
     have OX:ms[au]? =some e:=by simpa using e9
     exact⟨_,aF,by simp[Instr.mapUpdate,run_underlying t1,getObj,setObj,Sem.run,aV,yV t2,Instr.findKey,run_underlying t2,aQ,OX,ge,Instr.keyThatStays,Instr.sameBits,(BZ ⟨⟨k⟩⟩ ⟨⟨k⟩⟩).2 rfl],bU⟩
   .cases he
  .cases he
 .cases he
theorem OY (h:bu w0 F0 X F S s ao w) (t:TypeId):Good C w0 F0 X ao w (Instr.makeMap t none) (.dc (.mp [])) s:=by
 have hold:∀b,b<w.heap.size->(w.alloc (.map #[] 0)).heap[b]? =w.heap[b]? :=by
  intro b J;show(w.heap.push _)[b]? =_;rw[Array.getElem?_push,if_neg (by omega)]
 refine⟨.map (some w.heap.size),w.alloc (.map #[] 0),F,S,?_,h.grow hold (by simp) rfl rfl ⟨rfl,λ_=>Nat.le_refl _⟩,.inr ⟨rfl,rfl,λb=>b=w.heap.size,?_,?_,?_,?_,?_⟩⟩
 .simp[Instr.makeMap,newObj,Sem.run]
 .rw[ai];refine⟨w.heap.size,#[],0,rfl,rfl,?_,rfl⟩;show(w.heap.push _)[_]? =_;simp
 .rintro b rfl;simp
 .rintro b rfl pU;exact Nat.lt_irrefl _ (h.eu _ pU)
 .rintro u b rfl hu;exact Nat.lt_irrefl _ (h.dD _ _ hu)
 .rintro b rfl;exact .inr h.size
end
end Go.cW
