/- Part of a proof that a law returns true for every input. No condition. -/
import Derived.Test.YtmaepbgkcmjcjajGreatDoorFwC
import Derived.Test.YtmaepbgkcmjcjajGreatDoorFwA
import Derived.Laws.IdiomStrings
import Derived.Laws.Strings
import Derived.LaidEql
import Derived.WideLaws
import Derived.Laws.StructEq
namespace Go.ep
open List Option Nat Or
section
variable {C:cx} {w0 w:World} {F0 X F:Nat->Prop} {S:Nat->Nat->Prop} {s s1:al} {aI:Nat->Value} {av:I}
theorem qy {k:IntKind} {n:Int} {v:Value} {a7:Nat->Prop} (h:aQ w F s aI (.int k n) v a7):v= .int k n:=by
 have bI:=(aQ.du rfl).1 h;rw[aB,ir bI.1]at bI;simpa using bI.2
theorem xD {b:Bool} {v:Value} {a7:Nat->Prop} (h:aQ w F s aI (.bool b) v a7):v= .bool b:=by
 have bI:=(aQ.du rfl).1 h;rw[aB,ir bI.1]at bI;simpa using bI.2
theorem pk {b:azq} {v:Value} {a7:Nat->Prop} (h:aQ w F s aI (.str b) v a7):v= .string ⟨⟨b⟩⟩:=by
 have bI:=(aQ.du rfl).1 h;rw[aB,ir bI.1]at bI;simpa using bI.2
theorem Ut {v:Value} {a7:Nat->Prop} (h:aQ w F s aI .eA v a7):v= .pointer none:=by
 have bI:=(aQ.du rfl).1 h;rw[aB,ir bI.1]at bI;simpa using bI.2
theorem xE {v:Value} {a7:Nat->Prop} (h:aQ w F s aI .bf v a7):v= .slice none 0 0:=by
 have bI:=(aQ.du rfl).1 h;rw[aB,ir bI.1]at bI;simpa using bI.2
theorem Uu {v:Value} {a7:Nat->Prop} (h:aQ w F s aI .gx v a7):∃b,v= .bool b:=by
 have bI:=(aQ.du rfl).1 h;rw[aB,ir bI.1]at bI;simpa using bI.2
theorem of_int (k:IntKind) (n:Int):aQ w F s aI (.int k n) (.int k n) (λ_=>False):=(aQ.du rfl).2 ⟨rfl,by rw[aB];rfl⟩
theorem of_bool (b:Bool):aQ w F s aI (.bool b) (.bool b) (λ_=>False):=(aQ.du rfl).2 ⟨rfl,by rw[aB];rfl⟩
theorem sJ (b:azq):aQ w F s aI (.str b) (.string ⟨⟨b⟩⟩) (λ_=>False):=(aQ.du rfl).2 ⟨rfl,by rw[aB];rfl⟩
theorem M6 (b:Bool):aQ w F s aI .gx (.bool b) (λ_=>False):=(aQ.du rfl).2 ⟨rfl,by rw[aB];exact⟨b,rfl⟩⟩
def k6 (op:BinOp) (k:IntKind) (a:Int) (dv:IntKind) (b:Int):Option I:=
 match op with
 | .shl=>if b<0 then none else some (.int k (k.wrap (a*2^(min b.toNat k.bits))))
 | .shr=>if b<0 then none else some (.int k (a.fdiv (2^(min b.toNat k.bits))))
 | .add=>if k=dv then some (.int k (k.wrap (a+b)))else none
 | .sub=>if k=dv then some (.int k (k.wrap (a-b)))else none
 | .mul=>if k=dv then some (.int k (k.wrap (a*b)))else none
 | .quo=>if k=dv/\b≠0 then some (.int k (k.wrap (a.tdiv b)))else none
 | .rem=>if k=dv/\b≠0 then some (.int k (a.tmod b))else none
 | .eql=>if k=dv then some (.bool (a==b))else none
 | .neq=>if k=dv then some (.bool (a !=b))else none
 | .lss=>if k=dv then some (.bool (decide (a<b)))else none
 | .leq=>if k=dv then some (.bool (decide (a<=b)))else none
 | .gtr=>if k=dv then some (.bool (decide (b<a)))else none
 | .geq=>if k=dv then some (.bool (decide (b<=a)))else none
 | .and=>if k=dv then some (.int k (bitsOf .and k a b))else none
 | .or=>if k=dv then some (.int k (bitsOf .or k a b))else none
 | .xor=>if k=dv then some (.int k (bitsOf .xor k a b))else none
 | .andNot=>if k=dv then some (.int k (bitsOf .andNot k a b))else none
def qz (op:BinOp) (a b:azq):Option I:=
 match op with
 | .add=>if a.length+b.length<=9223372036854775807 then some (.str (a++b))else none
 | .eql=>some (.bool (a==b))
 | .neq=>some (.bool !(a==b))
 | .lss=>some (.bool (Op.bytesLess a b))
 | .leq=>some (.bool (Op.bytesLess a b||a==b))
 | .gtr=>some (.bool !(Op.bytesLess a b||a==b))
 | .geq=>some (.bool !(Op.bytesLess a b))
 |_=>none
def mg (s:al):I->Option azu
 | .bf=>some (some true)
 | .slice xs=>some (if xs=[]then none else some false)
 | .h x q=>match I.sub q (s x)with
   |some (.ag _ xs)=>some (if xs=[]then none else some false)
   |_=>none
 |_=>none
def oi (s:al):I->azu
 | .eA=>some true
 | .ref _=>some false
 | .h x q=>match I.sub q (s x)with
   |some (.aM _)=>some false
   |_=>none
 |_=>none
def sK (neg:Bool):azu->I
 |some b=>.bool (b !=neg)
 |none=>.gx
def structEq (P:Program) (T:TypeId):Bool:= !P.stoodInHeld T&& !P.eqGuardType P.depth T&&(P.fieldsOf T).toList.all λf=>decide (f.name≠ "_")
def q_ (C:cx):List (TypeId×Nat)->Nat->azy->azy->azu
 |[],_,[],[]=>some true
 |(me,off)::aF,n,d::ds,e::es=>if off=n then(match(C.T me).k,d,e with
  | .int k,.int bZ a,.int cu b=>if bZ=k/\cu=k then(q_ C aF (n+1) ds es).map λr=>a==b&&r else none
  | .bool,.bool a,.bool b=>(q_ C aF (n+1) ds es).map λr=>a==b&&r
  | .str,.str a,.str b=>(q_ C aF (n+1) ds es).map λr=>a==b&&r
  |_,_,_=>none)else none
 |_,_,_,_=>none
def eS (C:cx) (s:al) (op:BinOp) (T:TypeId) (x y:I):Option I:=
 match x,y with
 | .int k a,.int dv b=>k6 op k a dv b
 | .str a,.str b=>qz op a b
 | .bool a,.bool b=>match op,(C.T T).k with
   | .eql,.bool=>some (.bool (a==b))
   | .neq,.bool=>some (.bool !(a==b))
   |_,_=>none
 | .agg ds,.agg es=>match op,(C.T T).k with
   | .eql,.struct aF=>if structEq C.P T=true then(q_ C aF 0 ds es).map λb=>.bool b else none
   | .neq,.struct aF=>if structEq C.P T=true then(q_ C aF 0 ds es).map λb=>.bool !b else none
   |_,_=>none
 |x,.bf=>match op,(C.T T).k with
  | .eql,.slice _=>(mg s x).map (sK false)
  | .neq,.slice _=>(mg s x).map (sK true)
  |_,_=>none
 |x,.eA=>match op,(C.T T).k with
  | .eql,.ptr _=>(oi s x).map λb=>.bool b
  | .neq,.ptr _=>(oi s x).map λb=>.bool !b
  |_,_=>none
 |_,_=>none
theorem adn {P:Program} {op:BinOp} {T:TypeId} {k dv:IntKind} {a b:Int} (he:k6 op k a dv b=some av) (w:World):
  ∃v,(binOp op T (.int k a) (.int dv b)).run P w= .ok v w/\aQ w F s aI av v (λ_=>False):=by
 unfold k6 at he;cases op<;>simp only at he<;>split at he<;>first|(cases he;done)|skip
 all_goals
  rename_i au;simp only[some.injEq]at he;subst he
 all_goals first
  |(subst au;simp only[binOp_add,binOp_sub,binOp_mul,binOp_eql,binOp_neq,binOp_lss,binOp_leq,binOp_gtr,binOp_geq,binOp_and,binOp_or,binOp_xor,binOp_andNot,Op.intArith,Op.intBits,Sem.run_pure,Result.ok.injEq,and_true,exists_eq_left']
    first|exact of_int _ _|exact of_bool _)
  |(obtain⟨rfl,a_⟩:=au
    simp only[binOp_quo,binOp_rem,Op.intDiv,a_,if_false,Sem.run_pure,Result.ok.injEq,and_true,exists_eq_left'];exact of_int _ _)
  |(simp only[binOp_shl,binOp_shr,Op.shift,au,if_false,Sem.run_pure,Result.ok.injEq,and_true,exists_eq_left']
    exact of_int _ _)
theorem ED (a:azq):(⟨⟨a⟩⟩:ByteArray).toList=a:=ByteArray.toList_eq _
theorem ado (a b:azq):(⟨⟨a⟩⟩:ByteArray)++(⟨⟨b⟩⟩:ByteArray)=⟨⟨a++b⟩⟩:=by
 apply ByteArray.ext;simp[ByteArray.data_append]
theorem adp {P:Program} {op:BinOp} {T:TypeId} {a b:azq} (he:qz op a b=some av) (w:World):
  ∃v,(binOp op T (.string ⟨⟨a⟩⟩) (.string ⟨⟨b⟩⟩)).run P w= .ok v w/\aQ w F s aI av v (λ_=>False):=by
 have ab:∀op,binOp op T (.string ⟨⟨a⟩⟩) (.string ⟨⟨b⟩⟩)=Op.stringOp op ⟨⟨a⟩⟩ ⟨⟨b⟩⟩:=by intro op;cases op<;>rfl
 rw[ab];unfold qz at he;cases op<;>simp only[some.injEq]at he<;>first|(cases he;done)|skip
 case add=>
  split at he
  .rename_i hl;simp only[some.injEq]at he;subst he;have aa:((ByteArray.size ⟨⟨a⟩⟩+ByteArray.size ⟨⟨b⟩⟩:Nat):Int)<=9223372036854775807:=by
    show((a.length+b.length:Nat):Int)<=_;omega
   refine⟨.string ⟨⟨a++b⟩⟩,?_,sJ _⟩;simp only[Op.stringOp,IntKind.max_i64];rw[if_neg (by omega),ado];rfl
  .cases he
 all_goals
  subst he;simp only[Op.stringOp,ED,Sem.run_pure,Result.ok.injEq,and_true,exists_eq_left'];exact of_bool _
theorem M7 (h:ch w0 F0 X F S s aI w) {v:Value} {y:Nat} {q:azt} (aJ:aQ w F s aI (.h y q) v (λ_=>False)) {sz:Nat} {xs:azy} (aq:I.sub q (s y)=some (.ag sz xs)):
  (xs=[]/\∃a,v= .slice a 0 0)\/∃b cap cur e fr,v= .slice (some ⟨b,0,none⟩) xs.length cap/\w.heap[b]? =some (.cells cur e fr)/\pV fr cur.size/\xs.length<=cap/\cap<=maxLen/\cur.size=cap*sz/\(∀d∈xs,d.wd=sz)/\
   ∃a7,bz w F xs (cur.toList.take (xs.length*sz)) a7/\(∀c,a7 c->S y c)/\S y b:=by
 rw[aQ]at aJ;obtain⟨dH,a,g1,g2,g3⟩:=aJ _ aq rfl;have aa:Value.hV v=true:=g3;rw[ir aa]at g2;subst g2;have ao:=h.eB y;rw[aQ.du (jP aq (.inl rfl))]at ao;obtain⟨hq,dF,fm,gy,k0,bZ,cu,dY,eb,eJ⟩:=ctx q (s y) (dd (aI y)) (S y) none _ ao.2 aq;rw[k0]at g1;simp only[some.injEq,Prod.mk.injEq,true_and]at g1;obtain⟨rfl,rfl⟩:=g1;rw[aB]at eb;rcases eb with⟨rfl,a2,af⟩|⟨b,cap,cur,aW,fr,eM,aS,cf,cF,cw,cg,gk,h_,iU,lz,dm,ed⟩
 .simp at af;exact .inl ⟨rfl,_,af⟩
 .simp at aS;exact .inr ⟨b,cap,cur,aW,fr,aS,cF,cw.low,cg,gk,h_,iU,eM,lz,λc au=>cu _ (dm c au),cu _ cf⟩
theorem Uv (h:ch w0 F0 X F S s aI w) {v:Value} {y:Nat} {q:azt} (aJ:aQ w F s aI (.h y q) v (λ_=>False)) {d:I} (aq:I.sub q (s y)=some (.aM d)):
  ∃b cur e fr,v= .pointer (some ⟨b,0,none⟩)/\w.heap[b]? =some (.cells cur e fr):=by
 rw[aQ]at aJ;obtain⟨dH,a,g1,g2,g3⟩:=aJ _ aq rfl;have aa:Value.hV v=true:=g3;rw[ir aa]at g2;subst g2;have ao:=h.eB y;rw[aQ.du (jP aq (.inl rfl))]at ao;obtain⟨hq,dF,fm,gy,k0,bZ,cu,dY,eb,eJ⟩:=ctx q (s y) (dd (aI y)) (S y) none _ ao.2 aq;rw[k0]at g1;simp only[some.injEq,Prod.mk.injEq,true_and]at g1;obtain⟨rfl,rfl⟩:=g1;rw[aB]at eb;obtain⟨b,cur,aW,fr,eM,aS,cf,cF,_⟩:=eb;simp at aS;exact⟨b,cur,aW,fr,aS,cF⟩
theorem Uw {P:Program} {T e:TypeId} (a8:P.underlying T=some (.slice e)) (w:World):∀d,(Op.equalIn (d+1) T (.slice none 0 0) (.slice none 0 0)).run P w= .ok true w/\
  ∀a n c,(Op.equalIn (d+1) T (.slice (some a) n c) (.slice none 0 0)).run P w= .ok false w:=by
 intro d;refine⟨by simp[Op.equalIn,run_underlying a8],λa n c=>by simp[Op.equalIn,run_underlying a8]⟩
theorem Ux {P:Program} {T e:TypeId} (a8:P.underlying T=some (.pointer e)) (w:World):∀d,(Op.equalIn (d+1) T (.pointer none) (.pointer none)).run P w= .ok true w/\
  ∀a,(Op.equalIn (d+1) T (.pointer (some a)) (.pointer none)).run P w= .ok false w:=by
 intro d;refine⟨by simp[Op.equalIn,run_underlying a8],λa=>by simp[Op.equalIn,run_underlying a8]⟩
theorem Uy {P:Program} {T:TypeId} (a8:P.underlying T=some .bool) (w:World):∀d a b,(Op.equalIn (d+1) T (.bool a) (.bool b)).run P w= .ok (a==b) w:=by
 intro d a b;simp[Op.equalIn,run_underlying a8]
theorem Uz (h:ch w0 F0 X F S s aI w) {x:I} {v:Value} (aJ:aQ w F s aI x v (λ_=>False)) {T e:TypeId} {r:azu} (aR:mg s x=some r) (a8:C.P.underlying T=some (.slice e)):
  ∃b,(Op.equal T v (.slice none 0 0)).run C.P w= .ok b w/\(∀gW,r=some gW->gW=b)/\Value.hV v=true/\∃a n c,v= .slice a n c:=by
 have aP:=λa n c=>(Uw a8 w 9999).2 a n c;have fY:=(Uw a8 w 9999).1;cases x with
 |bf=>
  have:=xE aJ;subst this;simp[mg]at aR;subst aR;exact⟨true,fY,by simp,rfl,_,_,_,rfl⟩
 |slice xs=>
  have bI:=(aQ.du rfl).1 aJ;rw[aB,ir bI.1]at bI;simp only[mg,some.injEq]at aR;obtain⟨_,⟨rfl,a,c,af,_,zb⟩|⟨b,o,cap,fv,sz,af,aG⟩⟩:=bI
  .simp at af aR;subst af;subst aR;cases a with
   |none=>
    have:=zb rfl;subst this;exact⟨true,fY,by simp,rfl,_,_,_,rfl⟩
   |some a=>exact⟨false,aP _ _ _,by simp,rfl,_,_,_,rfl⟩
  .simp at af;subst af;refine⟨false,aP _ _ _,?_,rfl,_,_,_,rfl⟩;subst aR;split<;>simp
 |h y q=>
  simp only[mg]at aR;split at aR
  .rename_i sz xs aq;simp only[some.injEq]at aR;rcases M7 h aJ aq with⟨rfl,a,rfl⟩|⟨b,cap,cur,aW,fr,rfl,_⟩
   .simp at aR;subst aR;cases a with
    |none=>exact⟨true,fY,by simp,rfl,_,_,_,rfl⟩
    |some a=>exact⟨false,aP _ _ _,by simp,rfl,_,_,_,rfl⟩
   .refine⟨false,aP _ _ _,?_,rfl,_,_,_,rfl⟩;subst aR;split<;>simp
  .cases aR
 |_=>simp[mg]at aR
theorem UA (h:ch w0 F0 X F S s aI w) {x:I} {v:Value} (aJ:aQ w F s aI x v (λ_=>False)) {T e:TypeId} {r:Bool} (aR:oi s x=some r) (a8:C.P.underlying T=some (.pointer e)):
  (Op.equal T v (.pointer none)).run C.P w= .ok r w/\∃a,v= .pointer a:=by
 have aP:=λa=>(Ux a8 w 9999).2 a;have fY:=(Ux a8 w 9999).1;cases x with
 |eA=>
  have:=Ut aJ;subst this;simp[oi]at aR;subst aR;exact⟨fY,_,rfl⟩
 |ref d=>
  have bI:=(aQ.du rfl).1 aJ;rw[aB,ir bI.1]at bI;simp[oi]at aR;subst aR;obtain⟨_,b,o,fv,af,_⟩:=bI;simp at af;subst af;exact⟨aP _,_,rfl⟩
 |h y q=>
  simp only[oi]at aR;split at aR
  .rename_i d aq;simp only[some.injEq]at aR;subst aR;obtain⟨b,cur,e,fr,rfl,_⟩:=Uv h aJ aq;exact⟨aP _,_,rfl⟩
  .cases aR
 |_=>simp[oi]at aR
theorem adq (bW:C.fN):∀(aF:List (TypeId×Nat)) (gs:List Field) (n:Nat) (ds es:azy) (r:Bool) (h2 l2 ct c2:azw) (xs c8:Array Value) (cT eM:Nat->Prop),
  gs.map (λg=>(g.type,g.offset))=aF->(gs.all λf=>decide (f.name≠ "_"))=true->q_ C aF n ds es=some r->bz w F ds ct cT->bz w F es c2 eM->xs.toList=h2++ct->h2.length=n->c8.toList=l2++c2->l2.length=n->
  ∀m,(Op.eqFields (m+1) xs c8 gs).run C.P w= .ok r w:=by
 intro aF;induction aF with
 |nil=>
  intro gs n ds es r h2 l2 ct c2 xs c8 cT eM hg aX he ad af ao hl hy zc m;have:gs=[]:=by simpa using hg
  subst this;cases ds<;>cases es<;>simp[q_]at he;subst he;simp[Op.eqFields]
 |cons p aF ih=>
  obtain⟨me,off⟩:=p;intro gs n ds es r h2 l2 ct c2 xs c8 cT eM hg aX he ad af ao hl hy zc m;cases gs with
  |nil=>simp at hg
  |cons g gs=>
   simp only[map_cons,cons.injEq,Prod.mk.injEq]at hg;obtain⟨⟨rfl,rfl⟩,hg⟩:=hg;simp only[all_cons,Bool.and_eq_true,decide_eq_true_eq]at aX;cases ds with
   |nil=>simp[q_]at he
   |cons d ds=>
   cases es with
   |nil=>simp[q_]at he
   |cons e es=>
   simp only[q_]at he;split at he
   .rename_i uf;rw[bz]at ad af;obtain⟨J,a2,pn,Bt,rfl,hc,i7,ki,UB,hD⟩:=ad;obtain⟨h3,fZ,axj,adr,rfl,ia,gX,jm,jR,uh⟩:=af;have step:∀(x y:Value) (z:Bool),(C.T g.type).flat=true->J=[x]->h3=[y]->(∀m,(Op.equalIn (m+1) g.type x y).run C.P w= .ok z w)->∀h4,q_ C aF (n+1) ds es=some h4->
      (Op.eqFields (m+1) xs c8 (g::gs)).run C.P w= .ok (z&&h4) w:=by
     intro x y z jl ads adt heq h4 fF;subst ads;subst adt;have nB:xs[g.offset]? =some x:=by
      rw[<-Array.getElem?_toList,ao,uf,<-hl,getElem?_append_right (Nat.le_refl _)];simp
     have ui:c8[g.offset]? =some y:=by
      rw[<-Array.getElem?_toList,hy,uf,<-zc,getElem?_append_right (Nat.le_refl _)];simp
     have ai:=ih gs (n+1) ds es h4 (h2++[x]) (l2++[y]) a2 fZ xs c8 Bt adr hg aX.2 fF i7 gX (by rw[ao];simp) (by simp[hl]) (by rw[hy];simp) (by simp[zc]) m;unfold Op.eqFields;rw[if_pos aX.1];simp only[part,Sem.run_bind,M4 bW jl,Result.andThen_ok,Bool.false_eq_true,if_false,nB,ui,Sem.run_pure,heq];cases z
     .simp
     .simpa using ai
    split at he
    .rename_i k bZ a cu b aw;split at he
     .rename_i adu;obtain⟨rfl,rfl⟩:=adu;rw[aB]at hc ia;simp only[map_eq_some_iff]at he;obtain⟨h4,fF,rfl⟩:=he;obtain⟨i,EE,UC,aP,aW,aS,cf,cF,cw,cg⟩:=bW.info (hQ aw (by simp));rw[aw]at cg;have zd:=Is cg;subst zd;exact step _ _ _ (by simp[hW.flat,aw]) hc ia (λm=>run_equalIn_int w m g.type _ _ a b cw) h4 fF
     .cases he
    .rename_i a b aw;rw[aB]at hc ia;simp only[map_eq_some_iff]at he;obtain⟨h4,fF,rfl⟩:=he;obtain⟨i,EE,UC,aP,aW,aS,cf,cF,cw,cg⟩:=bW.info (hQ aw (by simp));rw[aw]at cg;have zd:=MY cg;subst zd;exact step _ _ _ (by simp[hW.flat,aw]) hc ia (λm=>run_equalIn_bool' w m g.type a b cw) h4 fF
    .rename_i a b aw;rw[aB]at hc ia;simp only[map_eq_some_iff]at he;obtain⟨h4,fF,rfl⟩:=he;obtain⟨i,EE,UC,aP,aW,aS,cf,cF,cw,cg⟩:=bW.info (hQ aw (by simp));rw[aw]at cg;have zd:=ud cg;subst zd;refine step _ _ (a==b) (by simp[hW.flat,aw]) hc ia (λm=>?_) h4 fF;rw[run_equalIn_string w m g.type _ _ cw,ED,ED]
    .cases he
   .cases he
theorem UD (bW:C.fN) {T:TypeId} {aF:List (TypeId×Nat)} (aw:(C.T T).k= .struct aF) {ds es:azy} {kz lT:Value} {cT eM:Nat->Prop} {r:Bool} (ao:aQ w F s aI (.agg ds) kz cT) (hy:aQ w F s aI (.agg es) lT eM)
  (c6:structEq C.P T=true) (he:q_ C aF 0 ds es=some r) (op:BinOp) (EF EG:Operand):
  (eqGuard op T EF EG kz lT).run C.P w= .ok () w/\(Op.equal T kz lT).run C.P w= .ok r w:=by
 obtain⟨i,d,z,aP,aW,aS,cf,cF,cw,cg⟩:=bW.info (hQ aw (by simp));rw[aw]at cg;obtain⟨gs,rfl,gk⟩:=Ex cg;have EH:C.P.fieldsOf T=gs:=by simp[Program.fieldsOf,cw]
 simp only[structEq,Bool.and_eq_true,Bool.not_eq_true',EH]at c6;obtain⟨⟨ia,gX⟩,jm⟩:=c6;obtain⟨⟨xs,rfl⟩,Bu⟩:=(aQ.du rfl).1 ao;obtain⟨⟨c8,rfl⟩,y7⟩:=(aQ.du rfl).1 hy;rw[aB]at Bu y7;constructor
 .cases op<;>simp[eqGuard,gX]
 .show(Op.equalIn (9999+1) T _ _).run C.P w=_;rw[run_equalIn_struct w 9999 T xs c8 (by rw[EH];exact cw) ia,EH];exact adq bW aF gs.toList 0 ds es r [] [] _ _ xs c8 cT eM gk jm he Bu y7 rfl rfl rfl rfl 9998
theorem adv (bW:C.fN) (h:ch w0 F0 X F S s aI w) {op:BinOp} {T:TypeId} {x y:I} {kz lT:Value} (EF EG:Operand) (ao:aQ w F s aI x kz (λ_=>False)) (hy:aQ w F s aI y lT (λ_=>False))
  (he:eS C s op T x y=some av):Good C w0 F0 X aI w (do eqGuard op T EF EG kz lT;binOp op T kz lT) av s:=by
 unfold eS at he;split at he
 .have:=qy ao;subst this;have:=qy hy;subst this;obtain⟨v,ad,af⟩:=adn (P:=C.P) (T:=T) he w;refine Good.same h (v:=v) ?_ ?_ af
  .rw[eqGuard_at_int];exact ad
  .revert he;unfold k6;cases op<;>simp only<;>split<;>simp<;>(rintro rfl;rfl)
 .have:=pk ao;subst this;have:=pk hy;subst this;obtain⟨v,ad,af⟩:=adp (P:=C.P) (T:=T) he w;refine Good.same h (v:=v) ?_ ?_ af
  .rw[eqGuard_at_string];exact ad
  .revert he;unfold qz;cases op<;>simp only<;>(try split)<;>simp<;>(try (rintro rfl;rfl))
 .have:=xD ao;subst this;have:=xD hy;subst this;split at he
  .rename_i aw;simp only[some.injEq]at he;subst he;obtain⟨i,d,z,aP,aW,aS,cf,cF,cw,cg⟩:=bW.info (hQ aw (by simp));rw[aw]at cg;have:=MY cg;subst this;refine Good.same h ?_ rfl (of_bool _);rw[eqGuard_at_bool];simp[binOp,Op.equal,Op.maxDepth,Uy cw w 9999]
  .rename_i aw;simp only[some.injEq]at he;subst he;obtain⟨i,d,z,aP,aW,aS,cf,cF,cw,cg⟩:=bW.info (hQ aw (by simp));rw[aw]at cg;have:=MY cg;subst this;refine Good.same h ?_ rfl (of_bool _);rw[eqGuard_at_bool];simp[binOp,Op.equal,Op.maxDepth,Uy cw w 9999]
  .cases he
 .split at he
  .rename_i aF aw;split at he
   .rename_i c6;simp only[map_eq_some_iff]at he;obtain⟨r,aR,rfl⟩:=he;obtain⟨g1,g2⟩:=UD bW aw ao hy c6 aR .eql EF EG;obtain⟨⟨xs,rfl⟩,_⟩:=(aQ.du rfl).1 ao;obtain⟨⟨c8,rfl⟩,_⟩:=(aQ.du rfl).1 hy;exact Good.same h (by simp[g1,binOp,g2]) rfl (of_bool _)
   .cases he
  .rename_i aF aw;split at he
   .rename_i c6;simp only[map_eq_some_iff]at he;obtain⟨r,aR,rfl⟩:=he;obtain⟨g1,g2⟩:=UD bW aw ao hy c6 aR .neq EF EG;obtain⟨⟨xs,rfl⟩,_⟩:=(aQ.du rfl).1 ao;obtain⟨⟨c8,rfl⟩,_⟩:=(aQ.du rfl).1 hy;exact Good.same h (by simp[g1,binOp,g2]) rfl (of_bool _)
   .cases he
  .cases he
 .have:=xE hy;subst this;split at he
  .rename_i e aw;simp only[map_eq_some_iff]at he;obtain⟨r,aR,rfl⟩:=he;obtain⟨i,d,z,aP,aW,aS,cf,cF,cw,cg⟩:=bW.info (hQ aw (by simp));rw[aw]at cg;have:=oU cg;subst this;obtain⟨b,ad,af,aG,a0,bs,c0,rfl⟩:=Uz h ao aR cw;refine Good.same h (v:=.bool b) ?_ ?_ ?_
   .rw[eqGuard_at_slice];simp[binOp,ad]
   .cases r<;>rfl
   .cases r with
    |none=>exact M6 b
    |some gW=>have:=af gW rfl;subst this;simp only[sK,Bool.bne_false];exact of_bool _
  .rename_i e aw;simp only[map_eq_some_iff]at he;obtain⟨r,aR,rfl⟩:=he;obtain⟨i,d,z,aP,aW,aS,cf,cF,cw,cg⟩:=bW.info (hQ aw (by simp));rw[aw]at cg;have:=oU cg;subst this;obtain⟨b,ad,af,aG,a0,bs,c0,rfl⟩:=Uz h ao aR cw;refine Good.same h (v:=.bool !b) ?_ ?_ ?_
   .rw[eqGuard_at_slice];simp[binOp,ad]
   .cases r<;>rfl
   .cases r with
    |none=>exact M6 _
    |some gW=>have:=af gW rfl;subst this;simp only[sK,Bool.bne_true];exact of_bool _
  .cases he
 .have:=Ut hy;subst this;split at he
  .rename_i e aw;simp only[map_eq_some_iff]at he;obtain⟨r,aR,rfl⟩:=he;obtain⟨i,d,z,aP,aW,aS,cf,cF,cw,cg⟩:=bW.info (hQ aw (by simp));rw[aw]at cg;have:=Uk cg;subst this;obtain⟨ad,a0,rfl⟩:=UA h ao aR cw;refine Good.same h (v:=.bool r) ?_ rfl (of_bool _);rw[eqGuard_at_pointer];simp[binOp,ad]
  .rename_i e aw;simp only[map_eq_some_iff]at he;obtain⟨r,aR,rfl⟩:=he;obtain⟨i,d,z,aP,aW,aS,cf,cF,cw,cg⟩:=bW.info (hQ aw (by simp));rw[aw]at cg;have:=Uk cg;subst this;obtain⟨ad,a0,rfl⟩:=UA h ao aR cw;refine Good.same h (v:=.bool !r) ?_ rfl (of_bool _);rw[eqGuard_at_pointer];simp[binOp,ad]
  .cases he
 .cases he
end
section
variable {C:cx} {w0 w:World} {F0 X F:Nat->Prop} {S:Nat->Nat->Prop} {s s1:al} {aI:Nat->Value} {av:I}
def un (op:UnOp) (x:I):Option I:=
 match op,x with
 | .not,.bool b=>some (.bool !b)
 | .not,.gx=>some .gx
 | .neg,.int k n=>some (.int k (k.wrap (0-n)))
 |_,_=>none
theorem adw (h:ch w0 F0 X F S s aI w) {op:UnOp} {x:I} {v:Value} (aJ:aQ w F s aI x v (λ_=>False)) (he:un op x=some av):Good C w0 F0 X aI w (Op.unary op v) av s:=by
 unfold un at he;split at he<;>first|(cases he;done)|(simp only[some.injEq]at he;subst he)
 .have:=xD aJ;subst this;exact Good.same h rfl rfl (of_bool _)
 .obtain⟨b,rfl⟩:=Uu aJ;exact Good.same h rfl rfl (M6 _)
 .have:=qy aJ;subst this;exact Good.same h rfl rfl (of_int _ _)
def mD (s:al) (x:I):Option I:=
 match x with
 | .ref d=>some (.ref d)
 | .fn f c=>some (.fn f c)
 | .h y q=>match I.sub q (s y)with
   |some (.aM _)=>some (.h y q)
   |_=>none
 |_=>none
theorem adx {d:I} {v:Value} {a7:Nat->Prop} (h:aQ w F s aI (.ref d) v a7):∃b o fv,v= .pointer (some ⟨b,o,none⟩)/\F b/\jM w b o fv/\aB w F d fv (λ_=>False):=by
 have bI:=(aQ.du rfl).1 h;rw[aB,ir bI.1]at bI;obtain⟨_,b,o,fv,ad,af,aG,bh⟩:=bI;simp at ad;subst ad;exact⟨b,o,fv,rfl,af,aG,bh⟩
theorem ady (h:ch w0 F0 X F S s aI w) {x:I} {v:Value} (aJ:aQ w F s aI x v (λ_=>False)) (he:mD s x=some av):
  av=x/\x.plain=true/\((∃a,v= .pointer (some a))\/∃f c,v= .func (.func f) #[] c):=by
 unfold mD at he;split at he
 .simp only[some.injEq]at he;subst he;obtain⟨b,o,fv,rfl,_⟩:=adx aJ;exact⟨rfl,rfl,.inl ⟨_,rfl⟩⟩
 .simp only[some.injEq]at he;subst he;rw[aQ]at aJ;obtain⟨arr,rfl,_⟩:=aJ;exact⟨rfl,rfl,.inr ⟨_,_,rfl⟩⟩
 .split at he
  .rename_i d aq;simp only[some.injEq]at he;subst he;obtain⟨b,cur,e,fr,rfl,_⟩:=Uv h aJ aq;exact⟨rfl,rfl,.inl ⟨_,rfl⟩⟩
  .cases he
 .cases he
def ex (s:al) (x:I) (k:Nat):Option I:=
 match x with
 | .tuple ds=>match ds[k]? with
   |some d=>if d.plain=true then some d else none
   |none=>none
 | .h y q=>match I.sub q (s y)with
   |some (.tuple ds)=>match ds[k]? with
    |some d=>if I.e_ ds=true then none else some (if d.plain then d else .h y (q++[k]))
    |none=>none
   |_=>none
 |_=>none
theorem UE:∀(vs:azw) (k:Nat) (x:Value) (ds:azy),vs[k]? =some x->vs.length=ds.length->(∀(j:Nat) (d:I) (y:Value),ds[j]? =some d->vs[j]? =some y->(jO y).length=d.wd)->
  ∃l r,vs.flatMap jO=l++(jO x++r)/\l.length=I.fc (ds.take k)
 |[],k,x,ds,h,_,_=>by simp at h
 |v::vs,0,x,ds,h,hl,hw=>by
  simp at h;subst h;exact⟨[],vs.flatMap jO,by simp,by simp[I.fc]⟩
 |v::vs,k+1,x,d::ds,h,hl,hw=>by
  obtain⟨l,r,aP,aW⟩:=UE vs k x ds (by simpa using h) (by simpa using hl) (λj d y ad af=>hw (j+1) d y (by simpa using ad) (by simpa using af));refine⟨jO v++l,r,by simp[aP],?_⟩;have:=hw 0 d v (by simp) (by simp);simp[I.fc,aW,this]
 |v::vs,k+1,x,[],h,hl,hw=>by simp at hl
theorem adz {d:I} {v:Value} (h:kj d v) (_hd:∀vs,d≠.tuple vs):dd v=jO v:=by
 cases d with
 |agg aF=>obtain⟨arr,rfl⟩:=h;rfl
 |_=>
  have ad:Value.hV v=true:=h;cases v<;>first|rfl|(simp[Value.hV]at ad)
theorem adA {d:I} {v:Value} (h:kj d v) (aq:∀vs,d≠.tuple vs):e2 d v:=by
 cases d with
 |tuple vs=>exact(aq _ rfl).elim
 |_=>exact h
theorem adB (h:ch w0 F0 X F S s aI w) {x:I} {v:Value} {k:Nat} (aJ:aQ w F s aI x v (λ_=>False)) (he:ex s x k=some av):Good C w0 F0 X aI w (Instr.extract v k) av s:=by
 have pick:∀(ds:azy) (d:I) (arr:Array Value),ds[k]? =some d->(arr.size=ds.length/\∀(k:Nat) (d:I) (x:Value),ds[k]? =some d->arr[k]? =some x->kj d x/\(∀vs,d≠.tuple vs)/\(jO x).length=d.wd)->
   ∃x,arr[k]? =some x/\e2 d x/\((dd (.tuple arr)).drop (I.fc (ds.take k))).take d.wd=dd x:=by
  intro ds d arr aq ⟨cd,mC⟩;have eQ:k<arr.size:=by rw[cd];exact(List.getElem?_eq_some_iff.1 aq).1
  have ao:arr[k]? =some arr[k]:=Array.getElem?_eq_getElem eQ;obtain⟨g1,g2,g3⟩:=mC k d _ aq ao;obtain⟨l,r,aP,aW⟩:=UE arr.toList k arr[k] ds (by simp[eQ]) (by simpa using cd) (λj d y ad af=>(mC j d y ad (by simpa using af)).2.2);refine⟨_,ao,adA g1 g2,?_⟩;rw[adz g1 g2];simp only[dd];rw[aP];exact y1 l _ r _ _ aW g3
 unfold ex at he;split at he
 .rename_i ds;split at he
  .rename_i d aq;split at he
   .rename_i ay;simp only[some.injEq]at he;subst he;have bI:=(aQ.du rfl).1 aJ;obtain⟨⟨arr,rfl,cd⟩,iu⟩:=bI;obtain⟨x,ao,aa,au⟩:=pick ds d arr aq cd;have aR:(Instr.extract (.tuple arr) k).run C.P w= .ok x w:=by simp[Instr.extract,ao]
    rw[aB]at iu;obtain⟨ct,hp,c2,cT,jN,e,jA,hc,i7,ki,hD,pf⟩:=bz.pick ds _ _ k d iu aq;rw[e,y1 ct hp c2 _ _ jA (aB.length _ _ _ hD)]at au;by_cases a8:d.tree=true
    .exact Good.same h aR ay ((aQ.du a8).2 ⟨aa,by rw[<-au];exact aB.plain _ _ _ _ ay hD⟩)
    .cases d<;>first|exact(a8 rfl).elim|(rw[aB]at hD;exact hD.elim)|exact Good.same h aR rfl (by rw[aQ];trivial)|(have b6:=aB.plain _ _ _ (λ_=>False) ay hD;rw[au,ir (by exact aa)]at b6;exact Good.same h aR rfl (aQ.ug _ _ rfl b6))
   .cases he
  .cases he
 .rename_i y q;split at he
  .rename_i ds aq;split at he
   .rename_i d aw;split at he
    .cases he
    .rename_i fO;simp only[some.injEq]at he;have fO:(I.tuple ds).plain=false:=by simpa [I.plain]using fO
     rw[aQ]at aJ;obtain⟨dH,a,g1,g2,g3⟩:=aJ _ aq fO;obtain⟨arr,rfl,cd⟩:=g3;obtain⟨x,ao,aa,au⟩:=pick ds d arr aw cd;have aR:(Instr.extract (.tuple arr) k).run C.P w= .ok x w:=by simp[Instr.extract,ao]
     have hy:=h.eB y;rw[aQ.du (jP aq (.inl fO))]at hy;obtain⟨hq,dF,fm,gy,k0,bZ,cu,dY,eb,eJ⟩:=ctx q (s y) (dd (aI y)) (S y) none _ hy.2 aq;rw[k0]at g1;simp only[some.injEq,Prod.mk.injEq,true_and]at g1;obtain⟨rfl,rfl⟩:=g1;rw[g2]at au;split at he
     .rename_i ay;subst he;rw[aB]at eb;obtain⟨ct,hp,c2,cT,jN,e,jA,hc,i7,ki,hD,pf⟩:=bz.pick ds _ _ k d eb aw;rw[e,y1 ct hp c2 _ _ jA (aB.length _ _ _ hD)]at au;by_cases a8:d.tree=true
      .exact Good.same h aR ay ((aQ.du a8).2 ⟨aa,by rw[<-au];exact aB.plain _ _ _ _ ay hD⟩)
      .cases d<;>first|exact(a8 rfl).elim|(rw[aB]at hD;exact hD.elim)|exact Good.same h aR rfl (by rw[aQ];trivial)|(have b6:=aB.plain _ _ _ (λ_=>False) ay hD;rw[au,ir (by exact aa)]at b6;exact Good.same h aR rfl (aQ.ug _ _ rfl b6))
     .subst he;refine Good.same h aR rfl ?_;rw[aQ];intro d2 hP Es;rw[Ew w q _ _ _ _ _ _ [k] k0];rw[Ev _ _ _ _ aq]at hP;simp only[I.sub,aw,some.injEq]at hP;subst hP;simp only[eF,aw];exact⟨_,_,rfl,au.symm,aa⟩
   .cases he
  .cases he
 .cases he
def po (C:cx) (s:al) (T:TypeId) (x:I) (k:Nat):Option I:=
 match(C.T T).k with
 | .struct aF=>match aF[k]? with
   |some (me,off)=>match x with
    | .agg ds=>match ds[k]? with
      |some d=>if I.fc (ds.take k)=off/\fits C me d=true/\d.plain=true/\d.tree=true then some d else none
      |none=>none
    | .h y q=>match I.sub q (s y)with
      |some (.agg ds)=>match ds[k]? with
       |some d=>if I.fc (ds.take k)=off/\fits C me d=true/\I.e_ ds=false/\d.tree=true then some (if d.plain then d else .h y (q++[k]))else none
       |none=>none
      |_=>none
    |_=>none
   |none=>none
 |_=>none
theorem adC (bW:C.fN) (h:ch w0 F0 X F S s aI w) {T:TypeId} {x:I} {v:Value} {k:Nat} (aJ:aQ w F s aI x v (λ_=>False)) (he:po C s T x k=some av):Good C w0 F0 X aI w (Instr.field T v k) av s:=by
 have key:∀(aF:List (TypeId×Nat)) (me:TypeId) (off:Nat),(C.T T).k= .struct aF->aF[k]? =some (me,off)->∀(ds:azy) (d:I) (arr:Array Value) (a7:Nat->Prop),ds[k]? =some d->I.fc (ds.take k)=off->fits C me d=true->bz w F ds arr.toList a7->
   ∃x jN,(Instr.field T (.agg arr) k).run C.P w= .ok x w/\e2 d x/\aB w F d (dd x) jN/\(arr.toList.drop off).take d.wd=dd x:=by
  intro aF me off aw bK ds d arr a7 aq uf ky iu;obtain⟨i,EE,z,aP,aW,aS,cf,cF,cw,cg⟩:=bW.info (hQ aw (by simp));rw[aw]at cg;obtain⟨gs,rfl,gk⟩:=Ex cg;obtain⟨g,g1,rfl,rfl⟩:∃g,gs[k]? =some g/\g.type=me/\g.offset=off:=by
   rw[<-gk,getElem?_map]at bK;simp only[map_eq_some_iff,Prod.mk.injEq]at bK;obtain⟨g,ad,af,aG⟩:=bK;exact⟨g,by simpa using ad,af,aG⟩
  obtain⟨ct,hp,c2,cT,jN,e,jA,hc,i7,ki,hD,pf⟩:=bz.pick ds _ _ k d iu aq;obtain⟨x,aR,UF,na⟩:=adb (w:=w) bW e (jA.trans uf) hD ky;refine⟨x,jN,?_,na,by rw[UF];exact hD,?_⟩
  .simp[Instr.field,run_underlying cw,g1,asAgg,aR]
  .rw[e,UF,<-uf];exact y1 ct hp c2 _ _ jA (aB.length _ _ _ hD)
 have UG:∀(d:I) (x:Value) (jN:Nat->Prop),d.plain=true->e2 d x->aB w F d (dd x) jN->aQ w F s aI d x (λ_=>False):=by
  intro d x jN ay aa iu;by_cases a8:d.tree=true
  .exact(aQ.du a8).2 ⟨aa,aB.plain _ _ _ _ ay iu⟩
  .cases d<;>first|exact(a8 rfl).elim|(rw[aB]at iu;exact iu.elim)|(rw[aQ];trivial)|(have b6:=aB.plain _ _ _ (λ_=>False) ay iu;rw[ir (by exact aa)]at b6;exact aQ.ug _ _ rfl b6)
 unfold po at he;split at he
 .rename_i aF aw;split at he
  .rename_i me off bK;split at he
   .rename_i ds;split at he
    .rename_i d aq;split at he
     .rename_i au;simp only[some.injEq]at he;subst he;obtain⟨⟨arr,rfl⟩,iu⟩:=(aQ.du rfl).1 aJ;rw[aB]at iu;obtain⟨x,jN,aR,aa,xF,_⟩:=key aF me off aw bK ds d arr _ aq au.1 au.2.1 iu;exact Good.same h aR au.2.2.1 (UG d x jN au.2.2.1 aa xF)
     .cases he
    .cases he
   .rename_i y q;split at he
    .rename_i ds aq;split at he
     .rename_i d pj;split at he
      .rename_i au;simp only[some.injEq]at he;have fO:(I.agg ds).plain=false:=by simpa [I.plain]using au.2.2.1
       rw[aQ]at aJ;obtain⟨dH,a,g1,g2,g3⟩:=aJ _ aq fO;obtain⟨arr,rfl⟩:=g3;have hy:=h.eB y;rw[aQ.du (jP aq (.inl fO))]at hy;obtain⟨hq,dF,fm,gy,k0,bZ,cu,dY,eb,eJ⟩:=ctx q (s y) (dd (aI y)) (S y) none _ hy.2 aq;rw[k0]at g1;simp only[some.injEq,Prod.mk.injEq,true_and]at g1;obtain⟨rfl,rfl⟩:=g1;rw[aB,<-g2]at eb;obtain⟨x,jN,aR,aa,xF,iT⟩:=key aF me off aw bK ds d arr _ pj au.1 au.2.1 eb;by_cases ay:d.plain=true
       .rw[if_pos ay]at he;subst he;exact Good.same h aR ay (UG d x jN ay aa xF)
       .rw[if_neg ay]at he;subst he;refine Good.same h aR rfl ?_;rw[aQ];intro d2 hP Es;rw[Ew w q _ _ _ _ _ _ [k] k0];rw[Ev _ _ _ _ aq]at hP;simp only[I.sub,pj,some.injEq]at hP;subst hP;simp only[eF,pj];refine⟨_,_,rfl,?_,aa⟩;rw[au.1,<-g2];exact iT.symm
      .cases he
     .cases he
    .cases he
   .cases he
  .cases he
 .cases he
end
section
variable {C:cx} {w0 w:World} {F0 X F:Nat->Prop} {S:Nat->Nat->Prop} {s s1:al} {aI:Nat->Value} {av:I}
def idx (C:cx) (T:TypeId) (x i:I):Option I:=
 match(C.T T).k,x,i with
 | .str,.str l,.int _ n=>if 0<=n then(match l[n.toNat]? with|some b=>some (.int .u8 b.toNat)|none=>none)else none
 |_,_,_=>none
theorem adD (l:azq) (n:Nat):(⟨⟨l⟩⟩:ByteArray)[n]? =l[n]? :=by
 by_cases h:n<l.length
 .have bI:n<(⟨⟨l⟩⟩:ByteArray).size:=h;rw[getElem?_eq_getElem h,getElem?_pos (⟨⟨l⟩⟩:ByteArray) n bI];rfl
 .have bI:¬n<(⟨⟨l⟩⟩:ByteArray).size:=h;rw[getElem?_eq_none (by omega),getElem?_neg (⟨⟨l⟩⟩:ByteArray) n bI]
theorem adE (bW:C.fN) (h:ch w0 F0 X F S s aI w) {T:TypeId} {x i:I} {v q9:Value} (aJ:aQ w F s aI x v (λ_=>False)) (ai:aQ w F s aI i q9 (λ_=>False)) (he:idx C T x i=some av):
  Good C w0 F0 X aI w (Instr.index T v q9) av s:=by
 unfold idx at he;split at he
 .rename_i l k n aw;have:=pk aJ;subst this;have:=qy ai;subst this;obtain⟨i,d,z,aP,aW,aS,cf,cF,cw,cg⟩:=bW.info (hQ aw (by simp));rw[aw]at cg;have:=ud cg;subst this;split at he
  .rename_i aX;split at he
   .rename_i b ab;simp only[some.injEq]at he;subst he;refine Good.same h ?_ rfl (of_int _ _);simp[Instr.index,asIntOf,run_underlying cw,aX,adD,ab]
   .cases he
  .cases he
 .cases he
def lenOf (s:al):I->Option Nat
 | .str l=>some l.length
 | .bf=>some 0
 | .slice xs=>some xs.length
 | .h y q=>match I.sub q (s y)with
   |some (.ag _ xs)=>some xs.length
   |_=>none
 |_=>none
def vK (C:cx) (s:al) (T:TypeId) (x:I):Option I:=
 match(C.T T).k,x with
 | .str,.str l=>some (.int .i64 l.length)
 | .slice _,.bf=>some (.int .i64 0)
 | .slice _,.slice xs=>some (.int .i64 xs.length)
 | .slice _,.h y q=>match I.sub q (s y)with
   |some (.ag _ xs)=>some (.int .i64 xs.length)
   |_=>none
 |_,_=>none
theorem Iz {xs:azy} {v:Value} {a7:Nat->Prop} (h:aQ w F s aI (.slice xs) v a7):(xs=[]/\∃a c,v= .slice a 0 c/\c<=maxLen/\(a=none->c=0))\/
  ∃b o cap fv sz,v= .slice (some ⟨b,o,none⟩) xs.length cap/\F b/\xs.length<=cap/\cap<=maxLen/\(∀d∈xs,d.wd=sz)/\jM w b o fv/\bz w F xs fv (λ_=>False):=by
 have bI:=(aQ.du rfl).1 h;rw[aB,ir bI.1]at bI;obtain⟨_,⟨rfl,a,c,af,aG⟩|⟨b,o,cap,fv,sz,af,aG⟩⟩:=bI
 .simp at af;exact .inl ⟨rfl,a,c,af,aG⟩
 .simp at af;exact .inr ⟨b,o,cap,fv,sz,af,aG⟩
theorem adF (bW:C.fN) (h:ch w0 F0 X F S s aI w) {T ty:TypeId} {x:I} {v:Value} (aJ:aQ w F s aI x v (λ_=>False)) (he:vK C s T x=some av):
  Good C w0 F0 X aI w (Builtin.len_ #[T] ty #[v]) av s:=by
 unfold vK at he;split at he
 .rename_i l aw;have:=pk aJ;subst this;obtain⟨i,d,z,aP,aW,aS,cf,cF,cw,cg⟩:=bW.info (hQ aw (by simp));rw[aw]at cg;have:=ud cg;subst this;simp only[some.injEq]at he;subst he;refine Good.same h ?_ rfl (of_int _ _);simp[Builtin.len_,run_underlying cw,goInt];rfl
 .rename_i e aw;have:=xE aJ;subst this;obtain⟨i,d,z,aP,aW,aS,cf,cF,cw,cg⟩:=bW.info (hQ aw (by simp));rw[aw]at cg;have:=oU cg;subst this;simp only[some.injEq]at he;subst he;refine Good.same h ?_ rfl (of_int _ _);simp[Builtin.len_,run_underlying cw,goInt]
 .rename_i e xs aw;obtain⟨i,d,z,aP,aW,aS,cf,cF,cw,cg⟩:=bW.info (hQ aw (by simp));rw[aw]at cg;have:=oU cg;subst this;simp only[some.injEq]at he;subst he;refine Good.same h ?_ rfl (of_int _ _);rcases Iz aJ with⟨rfl,a,c,rfl,_⟩|⟨b,o,cap,fv,sz,rfl,_⟩<;>simp[Builtin.len_,run_underlying cw,goInt]
 .rename_i e y q aw;split at he
  .rename_i sz xs aq;obtain⟨i,d,z,aP,aW,aS,cf,cF,cw,cg⟩:=bW.info (hQ aw (by simp));rw[aw]at cg;have:=oU cg;subst this;simp only[some.injEq]at he;subst he;refine Good.same h ?_ rfl (of_int _ _);rcases M7 h aJ aq with⟨rfl,_,rfl⟩|⟨b,cap,cur,aW,fr,rfl,_⟩<;>simp[Builtin.len_,run_underlying cw,goInt]
  .cases he
 .cases he
def bytesOf:azy->Option azq
 |[]=>some []
 | .int .u8 n::r=>if 0<=n/\n<256 then(bytesOf r).map (UInt8.ofNat n.toNat::·)else none
 |_=>none
def jn (b:UInt8):I:=.int .u8 b.toNat
theorem adG (l:azq):bytesOf (l.map jn)=some l:=by
 induction l with
 |nil=>rfl
 |cons b l ih=>
  have ab:b.toNat<256:=b.toNat_lt;simp only[map_cons,jn,bytesOf,Int.toNat_natCast];rw[if_pos (by omega),ih];simp
theorem M8:∀(xs:azy) (l:azq) (cs:azw) (a7:Nat->Prop),bytesOf xs=some l->bz w F xs cs a7->cs=l.map (λb=>.int .u8 (b.toNat:Int))/\xs.length=l.length
 |[],l,cs,a7,h,aR=>by simp[bytesOf]at h;subst h;rw[bz]at aR;subst aR;exact⟨rfl,rfl⟩
 |x::xs,l,cs,a7,h,aR=>by
  unfold bytesOf at h;split at h
  .rename_i e;cases e
  .rename_i n r e;simp only[cons.injEq]at e;obtain⟨rfl,rfl⟩:=e;split at h
   .rename_i aX;simp only[map_eq_some_iff]at h;obtain⟨cO,ad,rfl⟩:=h;rw[bz]at aR;obtain⟨ct,c2,cT,eM,rfl,af,aG,_⟩:=aR;obtain⟨rfl,bh⟩:=M8 xs cO c2 eM ad aG;rw[aB]at af;subst af;refine⟨?_,by simp[bh]⟩;simp only[map_cons,cons_append,nil_append,cons.injEq,and_true,Value.int.injEq,true_and];simp only[UInt8.toNat_ofNat'];omega
   .cases h
  .cases h
theorem ch.IA (h:ch w0 F0 X F S s aI w) {aO:World} {sz cap:Nat} {xs:azy} {cur:Array Value} {e:TypeId} {fr:Nat×Nat} {Sn:Nat->Prop}
  (hw:aO.heap=w.heap.push (.cells cur e fr)) (ad:aO.os=w.os) (af:aO.tape=w.tape) (aG:Out aO w)
  (bK:pV fr (cur.size+(sz-1))) (hle:xs.length<=cap) (hm:cap<=maxLen) (fo:cur.size=cap*sz) (nw:∀d∈xs,d.wd=sz) (aJ:bz w F xs (cur.toList.take (xs.length*sz)) Sn)
  (eQ:∀b,Sn b->b<w.heap.size) (bM:∀b,Sn b->¬F b) (cn:∀u b,Sn b->¬S u b) (a_:∀b,Sn b->X b\/w0.heap.size<=b):
  ch w0 F0 X F S s aI aO/\og w0 X F S s aI aO (.ag sz xs) (.slice (some ⟨w.heap.size,0,none⟩) xs.length cap):=by
 have hold:∀b,b<w.heap.size->aO.heap[b]? =w.heap[b]? :=by
  intro b ab;rw[hw,Array.getElem?_push,if_neg (by omega)]
 have axk:aO.heap.size=w.heap.size+1:=by rw[hw];simp
 refine⟨h.grow hold (by omega) ad af aG,.inr ⟨rfl,rfl,λb=>b=w.heap.size\/Sn b,?_,?_,?_,?_,?_⟩⟩
 .simp only[dd,jO];rw[aB];refine .inr ⟨w.heap.size,cap,cur,e,fr,Sn,rfl,.inl rfl,?_,bK,hle,hm,fo,nw,?_,λc au=>.inr au,λau=>Nat.lt_irrefl _ (eQ _ au)⟩
  .rw[hw];simp
  .exact bz.frame (λb ab=>hold b (h.gi b ab)) _ _ _ (λb ab=>hold b (eQ b ab)) aJ
 .rintro b (rfl|ab)
  .omega
  .have:=eQ b ab;omega
 .rintro b (rfl|ab) vJ
  .exact Nat.lt_irrefl _ (h.gi _ vJ)
  .exact bM b ab vJ
 .rintro u b (rfl|ab) hu
  .exact Nat.lt_irrefl _ (h.fG _ _ hu)
  .exact cn u b ab hu
 .rintro b (rfl|ab)
  .exact .inr h.size
  .exact a_ b ab
def k7 (C:cx) (s:al) (A B:TypeId) (x:I):Option I:=
 if(C.T A).ok=true then
 match(C.T B).k,x with
 | .int k,.int _ n=>some (.int k (k.wrap n))
 | .str,.str l=>match(C.T A).k with
   | .str=>some (.str l)
   |_=>none
 | .str,x=>match(C.T A).k with
   | .slice e=>match(C.T e).k with
     | .int .u8=>match x with
       | .bf=>some (.str [])
       | .slice xs=>(bytesOf xs).map .str
       | .h y q=>match I.sub q (s y)with
         |some (.ag 1 xs)=>(bytesOf xs).map .str
         |_=>none
       |_=>none
     |_=>none
   |_=>none
 | .slice e,.str l=>match(C.T A).k,(C.T e).k with
   | .str,.int .u8=>if l.length<=9223372036854775807 then some (.ag 1 (l.map jn))else none
   |_,_=>none
 |_,_=>none
 else none
theorem UH (l:azq) (a7:Nat->Prop):bz w F (l.map jn) (l.map λb=>.int .u8 (b.toNat:Int)) a7:=by
 induction l generalizing a7 with
 |nil=>simp only[map_nil];rw[bz]
 |cons b l ih=>
  simp only[map_cons];rw[bz];exact⟨[.int .u8 (b.toNat:Int)],_,λ_=>False,λ_=>False,rfl,by rw[jn,aB],ih _,λ_ h=>h.elim,λ_ h=>h.elim,λ_ h=>h.elim⟩
theorem adH (bW:C.fN) (h:ch w0 F0 X F S s aI w) {A B:TypeId} {x:I} {v:Value} (aJ:aQ w F s aI x v (λ_=>False)) (he:k7 C s A B x=some av):
  Good C w0 F0 X aI w (convert A B v) av s:=by
 unfold k7 at he;split at he
 .rename_i jo;obtain⟨kS,axl,axm,J,a2,a3,a4,a5,pY,pq⟩:=bW.info jo;split at he
  .rename_i k dv n aw;have:=qy aJ;subst this;obtain⟨i,d,z,aP,aW,aS,cf,cF,cw,cg⟩:=bW.info (hQ aw (by simp));rw[aw]at cg;have:=Is cg;subst this;simp only[some.injEq]at he;subst he;refine Good.same h ?_ rfl (of_int _ _);simp[convert,run_underlying pY,run_underlying cw,Conv.intToInt]
  .rename_i l aw;have:=pk aJ;subst this;obtain⟨i,d,z,aP,aW,aS,cf,cF,cw,cg⟩:=bW.info (hQ aw (by simp));rw[aw]at cg;have:=ud cg;subst this;split at he
   .rename_i EI;rw[EI]at pq;have:=ud pq;subst this;simp only[some.injEq]at he;subst he;refine Good.same h ?_ rfl (sJ _);simp[convert,run_underlying pY,run_underlying cw]
   .cases he
  .rename_i x aw _;obtain⟨i,d,z,aP,aW,aS,cf,cF,cw,cg⟩:=bW.info (hQ aw (by simp));rw[aw]at cg;have:=ud cg;subst this;split at he
   .rename_i e EI;rw[EI]at pq;have:=oU pq;subst this;split at he
    .rename_i EJ;obtain⟨ue,bT,vH,f1,f2,f3,f4,f5,f6,f7⟩:=bW.info (hQ EJ (by simp));rw[EJ]at f7;have:=Is f7;subst this;have fin:∀(l:azq) (b o cap:Nat),jM w b o (l.map λb=>.int .u8 (b.toNat:Int))->(convert A B (.slice (some ⟨b,o,none⟩) l.length cap)).run C.P w= .ok (.string ⟨⟨l⟩⟩) w:=by
      intro l b o cap mB;refine run_convert_bytes_back w A B e ⟨b,o,none⟩ cap l pY f6 cw (λj bQ=>?_);rw[Addr.add_lit];exact mB j _ (by simp[bQ])
     have nil:(convert A B (.slice none 0 0)).run C.P w= .ok (.string ⟨⟨[]⟩⟩) w:=by
      simp[convert,run_underlying pY,run_underlying cw,run_underlying f6,Conv.bytesToString];rfl
     split at he
     .have:=xE aJ;subst this;simp only[some.injEq]at he;subst he;exact Good.same h nil rfl (sJ _)
     .rename_i xs _;simp only[map_eq_some_iff]at he;obtain⟨l,hl,rfl⟩:=he;rcases Iz aJ with⟨rfl,a,c,rfl,_,zb⟩|⟨b,o,cap,fv,sz,rfl,ad,af,aG,bh,b6,dt⟩
      .simp[bytesOf]at hl;subst hl;cases a with
       |none=>
        have:=zb rfl;subst this;exact Good.same h nil rfl (sJ _)
       |some a=>
        refine Good.same h ?_ rfl (sJ _);exact run_convert_bytes_back w A B e a c [] pY f6 cw (λj bQ=>by simp at bQ)
      .obtain⟨rfl,dj⟩:=M8 xs l fv _ hl dt;rw[dj];exact Good.same h (fin l b o cap b6) rfl (sJ _)
     .rename_i y q;split at he
      .rename_i xs aq;simp only[map_eq_some_iff]at he;obtain⟨l,hl,rfl⟩:=he;rcases M7 h aJ aq with⟨rfl,a,rfl⟩|⟨b,cap,cur,aW,fr,rfl,ad,af,aG,bh,b6,dt,a7,dj,_⟩
       .simp[bytesOf]at hl;subst hl;cases a with
        |none=>exact Good.same h nil rfl (sJ _)
        |some a=>
         refine Good.same h ?_ rfl (sJ _);exact run_convert_bytes_back w A B e a 0 [] pY f6 cw (λj bQ=>by simp at bQ)
       .obtain⟨ho,i6⟩:=M8 xs l _ _ hl dj;rw[i6];refine Good.same h (fin l b 0 cap ?_) rfl (sJ _);rw[<-ho];exact Bm ad _
      .cases he
     .cases he
    .cases he
   .cases he
  .rename_i e l aw;have:=pk aJ;subst this;obtain⟨i,d,z,aP,aW,aS,cf,cF,cw,cg⟩:=bW.info (hQ aw (by simp));rw[aw]at cg;have:=oU cg;subst this;split at he
   .rename_i EI EJ;rw[EI]at pq;have:=ud pq;subst this;obtain⟨ue,bT,vH,f1,f2,f3,f4,f5,f6,f7⟩:=bW.info (hQ EJ (by simp));rw[EJ]at f7;have:=Is f7;subst this;split at he
    .rename_i hl;simp only[some.injEq]at he;subst he;have aa:(⟨⟨l⟩⟩:ByteArray).size=l.length:=rfl;have M9:=grownCap_ge w l.length 0 e;have adI:=grownCap_le_maxLen w l.length 0 e (by unfold maxLen;omega);have UI:(bytesRow ⟨⟨l⟩⟩ (grownCap w l.length 0 e)).toList=l.map (λb=>Value.int .u8 (b.toNat:Int))++replicate (grownCap w l.length 0 e-l.length) (.int .u8 0):=by
      simp[bytesRow,aa]
     have fo:(bytesRow ⟨⟨l⟩⟩ (grownCap w l.length 0 e)).size=grownCap w l.length 0 e*1:=by
      have:(bytesRow ⟨⟨l⟩⟩ (grownCap w l.length 0 e)).size=(bytesRow ⟨⟨l⟩⟩ (grownCap w l.length 0 e)).toList.length:=by simp
      rw[this,UI];simp;omega
     have y_:=run_bytes_of_string w A B e ⟨⟨l⟩⟩ pY cw f6;rw[aa]at y_;have oV:=h.IA (aO:=w.drew.alloc (.cells (bytesRow ⟨⟨l⟩⟩ (grownCap w l.length 0 e)) e ((bytesRow ⟨⟨l⟩⟩ (grownCap w l.length 0 e)).size,(bytesRow ⟨⟨l⟩⟩ (grownCap w l.length 0 e)).size+1)))
      (sz:=1) (cap:=grownCap w l.length 0 e) (xs:=l.map jn) (cur:=bytesRow ⟨⟨l⟩⟩ (grownCap w l.length 0 e)) (e:=e) (Sn:=λ_=>False) rfl rfl rfl ⟨rfl,λ_=>le_succ _⟩
      (λo bS ⟨ad,_⟩=>by simp only at ad;omega) (by simpa using M9) adI fo (by intro d aq;obtain⟨b,_,rfl⟩:=mem_map.1 aq;rfl)
      (by rw[UI,take_left' (by simp)];exact UH l _) (λ_ h=>h.elim) (λ_ h=>h.elim) (λ_ _ h=>h.elim) (λ_ h=>h.elim)
     simp only[length_map]at oV;exact⟨_,_,F,S,y_,oV.1,oV.2⟩
    .cases he
   .cases he
  .cases he
 .cases he
end
section
variable {C:cx} {w0 w:World} {F0 X F:Nat->Prop} {S:Nat->Nat->Prop} {s s1:al} {aI:Nat->Value} {av:I}
def jX (d:Nat):Option I->Option Nat
 |none=>some d
 |some (.int _ n)=>if 0<=n then some n.toNat else none
 |some _=>none
def i_ (C:cx) (s:al) (T:TypeId) (x:I) (fS ai:Option I):Option (I×al):=
 match(C.T T).k,x with
 | .str,.str l=>match jX 0 fS,jX l.length ai with
   |some a,some b=>if a<=b/\b<=l.length then some (.str ((l.take b).drop a),s)else none
   |_,_=>none
 | .slice e,.bf=>match jX 0 fS,jX 0 ai with
   |some 0,some 0=>if(C.T e).ok=true then some (.bf,s)else none
   |_,_=>none
 | .slice e,.slice xs=>match jX 0 fS,jX xs.length ai with
   |some a,some b=>if a<=b/\b<=xs.length/\(C.T e).ok=true/\(∀d∈xs,d.wd=(C.T e).sz)then some (.slice ((xs.take b).drop a),s)else none
   |_,_=>none
 | .slice e,.h y q=>match I.sub q (s y)with
   |some (.ag sz xs)=>match jX 0 fS,jX xs.length ai with
    |some 0,some b=>if b<=xs.length/\(C.T e).ok=true then(match dL s (.h y q)with|some (_,s1)=>some (.ag sz (xs.take b),s1)|none=>none)else none
    |_,_=>none
   |_=>none
 |_,_=>none
def vL (w:World) (F:Nat->Prop) (s:al) (aI:Nat->Value):Option I->Option Value->Prop
 |none,none=>True
 |some d,some v=>aQ w F s aI d v (λ_=>False)
 |_,_=>False
theorem UJ {d:Nat} {o:Option I} {v:Option Value} (bS:vL w F s aI o v) {a:Nat} (h:jX d o=some a):(o=none/\v=none/\a=d)\/∃k,v=some (.int k a):=by
 cases o with
 |none=>
  cases v with
  |none=>simp[jX]at h;exact .inl ⟨rfl,rfl,h.symm⟩
  |some v=>simp[vL]at bS
 |some x=>
  cases v with
  |none=>simp[vL]at bS
  |some v=>
   simp only[vL]at bS;cases x with
   |int k n=>
    have:=qy bS;subst this;simp only[jX]at h;split at h
    .rename_i aX;simp only[some.injEq]at h;subst h;obtain⟨m,rfl⟩:=Int.eq_ofNat_of_zero_le aX;exact .inr ⟨k,rfl⟩
    .cases h
   |_=>simp[jX]at h
theorem Bv {P:Program} {isS:Bool} {len cap a b:Nat} {fS ai:Option I} {ze zf:Option Value} (ra:vL w F s aI fS ze) (rb:vL w F s aI ai zf) (bq:jX 0 fS=some a) (ab:jX len ai=some b) (kP:a<=b) (adJ:b<=cap) (_hlc:len<=cap):
  (Instr.sliceBounds isS len cap ze zf none).run P w= .ok (a,b,cap) w:=by
 rcases UJ ra bq with⟨_,rfl,rfl⟩|⟨k,rfl⟩<;>rcases UJ rb ab with⟨_,rfl,rfl⟩|⟨dv,rfl⟩<;>
  simp[Instr.sliceBounds,Instr.sliceBound,asIntOf,kP,adJ]
theorem Bw (bW:C.fN) {T:TypeId} (aw:(C.T T).flat=true) (v:Value) (fS ai fz:Option Value) (w:World):(Instr.sliceAt T v fS ai fz).run C.P w=(Instr.slice T v fS ai fz).run C.P w:=by
 obtain⟨i,d,z,aP,aW,aS,cf,cF,cw,cg⟩:=bW.info (Un aw);have eo:∀n e,d≠.array n e:=by
  clear cw;unfold hW.flat at aw;generalize (C.T T).k=nA at*;cases nA<;>cases d<;>simp[oe]at cg aw⊢
 cases d<;>first|exact(eo _ _ rfl).elim|simp[Instr.sliceAt,run_underlying cw]
theorem Bx {x:hW} {k:qv} (h:x.k=k) (aw:k≠.other) (aa:∀aF,k≠.struct aF) (ab:∀e,k≠.gH e:=by simp):x.flat=true:=by
 unfold hW.flat;rw[h];cases k<;>first|rfl|exact(aw rfl).elim|exact(ab _ rfl).elim|exact(aa _ rfl).elim
theorem bz.split:∀(n:Nat) (xs:azy) (cs:azw) (a7:Nat->Prop),bz w F xs cs a7->∃ct c2 cT eM,cs=ct++c2/\bz w F (xs.take n) ct cT/\bz w F (xs.drop n) c2 eM/\(∀b,cT b->a7 b)/\(∀b,eM b->a7 b)/\(∀b,cT b->¬eM b)
 |0,xs,cs,a7,h=>⟨[],cs,λ_=>False,a7,rfl,by rw[take_zero,bz],h,λ_ h=>h.elim,λ_ h=>h,λ_ h=>h.elim⟩
 |n+1,[],cs,a7,h=>by rw[bz]at h;subst h;exact⟨[],[],λ_=>False,λ_=>False,rfl,by rw[take_nil,bz],by rw[drop_nil,bz],λ_ h=>h.elim,λ_ h=>h.elim,λ_ h=>h.elim⟩
 |n+1,x::xs,cs,a7,h=>by
  rw[bz]at h;obtain⟨ct,c2,jz,im,rfl,ad,af,aG,bh,b6⟩:=h;obtain⟨d1,d2,cT,eM,rfl,g1,g2,g3,g4,g5⟩:=bz.split n xs c2 im af;refine⟨ct++d1,d2,λb=>jz b\/cT b,eM,by simp,?_,g2,?_,λb ab=>bh _ (g4 _ ab),?_⟩
  .rw[take_succ_cons,bz];exact⟨ct,d1,jz,cT,rfl,ad,g1,λ_ h=>.inl h,λ_ h=>.inr h,λb ab au=>b6 b ab (g3 b au)⟩
  .rintro b (ab|ab)
   .exact aG b ab
   .exact bh b (g3 b ab)
  .rintro b (ab|ab) au
   .exact b6 b ab (g4 b au)
   .exact g5 b ab au
theorem adK (bW:C.fN) (h:ch w0 F0 X F S s aI w) {T:TypeId} {x:I} {v:Value} {fS ai:Option I} {ze zf:Option Value} (ao:x.plain=true) (aJ:aQ w F s aI x v (λ_=>False)) (ra:vL w F s aI fS ze) (rb:vL w F s aI ai zf)
  (he:i_ C s T x fS ai=some (av,s1)):Good C w0 F0 X aI w (Instr.sliceAt T v ze zf none) av s1:=by
 unfold i_ at he;split at he
 .rename_i l aw;have:=pk aJ;subst this;obtain⟨i,d,z,aP,aW,aS,cf,cF,cw,cg⟩:=bW.info (hQ aw (by simp));rw[aw]at cg;have:=ud cg;subst this;split at he
  .rename_i a b bq ab;split at he
   .rename_i kP;simp only[some.injEq,Prod.mk.injEq]at he;obtain⟨rfl,rfl⟩:=he;refine Good.same h ?_ rfl (sJ _);rw[Bw bW (Bx aw (by simp) (by simp))];have fo:(⟨⟨l⟩⟩:ByteArray).size=l.length:=rfl;have re:=Bv (P:=C.P) (isS:=false) (len:=l.length) (cap:=l.length) ra rb bq ab kP.1 kP.2 (Nat.le_refl _);have adL:(⟨⟨l⟩⟩:ByteArray).extract a b=⟨⟨(l.take b).drop a⟩⟩:=by
     apply ByteArray.ext;simp[ByteArray.data_extract,drop_take]
    simp[Instr.slice,run_underlying cw,fo,re,adL]
   .cases he
  .cases he
 .rename_i e aw;have:=xE aJ;subst this;obtain⟨i,d,z,aP,aW,aS,cf,cF,cw,cg⟩:=bW.info (hQ aw (by simp));rw[aw]at cg;have:=oU cg;subst this;split at he
  .rename_i bq ab;split at he
   .rename_i vM;obtain⟨ue,bT,vH,f1,f2,f3,f4,f5,f6,f7⟩:=bW.info vM;simp only[some.injEq,Prod.mk.injEq]at he;obtain⟨rfl,rfl⟩:=he;have re:=Bv (P:=C.P) (isS:=true) (len:=0) (cap:=0) ra rb bq ab (Nat.le_refl _) (Nat.le_refl _) (Nat.le_refl _);refine Good.same h (v:=.slice none 0 0) ?_ rfl aJ;rw[Bw bW (Bx aw (by simp) (by simp))];simp[Instr.slice,run_underlying cw,re,nz f1,f2]
   .cases he
  .cases he
 .rename_i e xs aw;obtain⟨i,d,z,aP,aW,aS,cf,cF,cw,cg⟩:=bW.info (hQ aw (by simp));rw[aw]at cg;have:=oU cg;subst this;split at he
  .rename_i a b bq ab;split at he
   .rename_i kP;obtain⟨adM,UK,vM,nw⟩:=kP;obtain⟨ue,bT,vH,f1,f2,f3,f4,f5,f6,f7⟩:=bW.info vM;simp only[some.injEq,Prod.mk.injEq]at he;obtain⟨rfl,rfl⟩:=he;rcases Iz aJ with⟨rfl,Bz,c,rfl,EK,zb⟩|⟨lU,o,cap,fv,sz,rfl,ad,af,aG,bh,b6,dt⟩
    .have ib:b=0:=by simpa using UK
     subst ib;have adN:a=0:=by omega
     subst adN;have re:=Bv (P:=C.P) (isS:=true) (len:=0) (cap:=c) ra rb bq ab (Nat.le_refl _) (zero_le _) (zero_le _);refine Good.same h (v:=.slice Bz 0 c) ?_ rfl ((aQ.du rfl).2 ⟨rfl,by rw[aB];exact .inl ⟨rfl,Bz,c,rfl,EK,zb⟩⟩);rw[Bw bW (Bx aw (by simp) (by simp))];cases Bz with
     |none=>
      have:=zb rfl;subst this;simp[Instr.slice,run_underlying cw,re,nz f1,f2]
     |some Bz=>simp[Instr.slice,run_underlying cw,re,nz f1,f2,Addr.add]
    .have re:=Bv (P:=C.P) (isS:=true) (len:=xs.length) (cap:=cap) ra rb bq ab adM (Nat.le_trans UK af) af;obtain⟨ct,c2,cT,eM,rfl,g1,g2,g3,g4,g5⟩:=bz.split b xs fv _ dt;obtain⟨d1,d2,axn,UL,rfl,bZ,cu,dY,eb,eJ⟩:=bz.split a (xs.take b) ct _ g1;have BA:d1.length=a*(C.T e).sz:=by
      rw[bz.length _ _ _ bZ,y3 _ (λd aq=>nw d (mem_of_mem_take (mem_of_mem_take aq))),length_take,length_take];congr 1;omega
     have hlen:((xs.take b).drop a).length=b-a:=by simp;omega
     have mB:jM w lU (o+a*(C.T e).sz) d2:=by
      rw[<-BA];have:jM w lU o (d1++(d2++c2)):=by simpa using b6
      exact this.M0
     have IB:bz w F ((xs.take b).drop a) d2 (λ_=>False):=bz.mono (λ_ h=>h) _ _ _ _ (λb ab=>(g3 _ (eb _ ab)).elim) cu;have mem:∀d∈(xs.take b).drop a,d.wd=sz:=λd aq=>bh d (mem_of_mem_take (mem_of_mem_drop aq));have run:(Instr.sliceAt T (.slice (some ⟨lU,o,none⟩) xs.length cap) ze zf none).run C.P w= .ok (.slice (if cap=a then some ⟨lU,o,none⟩else some ⟨lU,o+a*(C.T e).sz,none⟩) (b-a) (cap-a)) w:=by
      rw[Bw bW (Bx aw (by simp) (by simp))];simp[Instr.slice,run_underlying cw,re,nz f1,f2,Addr.add_lit]
     refine⟨_,w,F,S,run,h,.inl ⟨rfl,(aQ.du rfl).2 ⟨rfl,?_⟩⟩⟩;simp only[dd,jO];rw[aB];by_cases UM:cap=a
     .have adO:b=a:=by omega
      subst adO;have EL:(xs.take b).drop b=[]:=by simp
      rw[if_pos UM];rw[EL]at IB⊢;rw[bz]at IB;subst IB;exact .inr ⟨lU,o,cap-b,[],sz,by simp,ad,zero_le _,by omega,by simp,λj c bQ=>by simp at bQ,by rw[bz]⟩
     .rw[if_neg UM];exact .inr ⟨lU,_,cap-a,d2,sz,by rw[hlen],ad,by rw[hlen];omega,by omega,mem,mB,IB⟩
   .cases he
  .cases he
 .rename_i e y q aw;split at he
  .rename_i sz xs aq;split at he
   .rename_i b bq ab;split at he
    .rename_i xG;split at he
     .rename_i EE s2 a8;simp only[some.injEq,Prod.mk.injEq]at he;obtain⟨rfl,rfl⟩:=he;obtain⟨i,d,z,aP,aW,aS,cf,cF,cw,cg⟩:=bW.info (hQ aw (by simp));rw[aw]at cg;have:=oU cg;subst this;obtain⟨ue,bT,vH,f1,f2,f3,f4,f5,f6,f7⟩:=bW.info xG.2;have zd:EE= .ag sz xs:=by
       simp only[dL,aq,I.plain]at a8;simp at a8;exact a8.1.symm
      subst zd;obtain⟨cT,g0,g1,g2,Sn,g3,g4,g5,g6,g7,g8⟩:=sF h rfl aJ a8;rw[ir g2,aB]at g3;rcases g3 with⟨rfl,a0,nS⟩|⟨lU,cap,cur,fY,fr,a7,nS,bZ,cu,dY,eb,eJ,dx,kT,fp,pr,kA⟩
      .simp at nS;subst nS;have ib:b=0:=by simpa using xG.1
       subst ib;have re:=Bv (P:=C.P) (isS:=true) (len:=0) (cap:=0) ra rb bq ab (Nat.le_refl _) (Nat.le_refl _) (Nat.le_refl _);refine⟨.slice a0 0 0,w,F,cT,?_,g0,.inr ⟨rfl,rfl,λ_=>False,by simp only[dd,jO];rw[aB];exact .inl ⟨rfl,_,rfl⟩,λ_ h=>h.elim,λ_ h=>h.elim,λ_ _ h=>h.elim,λ_ h=>h.elim⟩⟩;rw[Bw bW (Bx aw (by simp) (by simp))];cases a0<;>simp[Instr.slice,run_underlying cw,re,nz f1,f2]
      .simp at nS;subst nS;have re:=Bv (P:=C.P) (isS:=true) (len:=xs.length) (cap:=cap) ra rb bq ab (zero_le _) (Nat.le_trans xG.1 eb) eb;have hlen:(xs.take b).length=b:=by simp;omega
       have run:(Instr.sliceAt T (.slice (some ⟨lU,0,none⟩) xs.length cap) ze zf none).run C.P w= .ok (.slice (some ⟨lU,0,none⟩) b cap) w:=by
        rw[Bw bW (Bx aw (by simp) (by simp))];simp[Instr.slice,run_underlying cw,re,nz f1,f2,Addr.add_lit]
       refine⟨_,w,F,cT,run,g0,.inr ⟨rfl,rfl,Sn,?_,g4,g5,g6,g7⟩⟩;simp only[dd,jO];rw[aB];obtain⟨ct,c2,jz,im,au,m1,m2,m3,m4,m5⟩:=bz.split b xs _ _ fp;refine .inr ⟨lU,cap,cur,fY,fr,a7,by rw[hlen],bZ,cu,dY,by omega,eJ,dx,λd aq=>kT d (mem_of_mem_take aq),?_,pr,kA⟩;have BA:ct.length=b*sz:=by
        rw[bz.length _ _ _ m1,y3 _ (λd aq=>kT d (mem_of_mem_take aq)),hlen]
       have:cur.toList.take ((xs.take b).length*sz)=ct:=by
        rw[hlen];have af:b*sz<=xs.length*sz:=mul_le_mul_right _ xG.1;have:(cur.toList.take (xs.length*sz)).take (b*sz)=ct:=by rw[au,take_left' BA]
        rwa [take_take,Nat.min_eq_left af]at this
       rw[this];exact bz.mono (λ_ h=>h) _ _ _ _ m3 m1
     .cases he
    .cases he
   .cases he
  .cases he
 .cases he
end
section
variable {C:cx} {w0 w:World} {F0 X F:Nat->Prop} {S:Nat->Nat->Prop} {s s1:al} {aI:Nat->Value} {av:I}
def Src (P:Program) (w:World) (size:Nat) (x:Value) (m:Nat) (news:azw):Prop:=
 ∀aO:World,aO.heap=w.heap->(Builtin.lenOf x).run P aO= .ok m aO/\(Builtin.firstCells size m x).run P aO= .ok news.toArray aO
def M_ (d:TypeDesc):Prop:=(∃e,d= .slice e)\/d= .string
theorem adP {P:Program} {T ee ty e:TypeId} {vN:TypeDesc} {i:TypeInfo} (a8:P.underlying T=some (.slice e)) (hu:P.underlying ee=some vN) (zg:M_ vN) (ai:P.info? e=some i)
  {x:Value} {m:Nat} {news:azw} (IC:Src P w i.size x m news) {b n cap:Nat} {cur:Array Value} {fY:TypeId} {fr:Nat×Nat} {l mid r:azw} (ab:w.heap[b]? =some (.cells cur fY fr)) (bK:pV fr cur.size)
  (au:cur.toList=l++(mid++r)) (hl:l.length=n*i.size) (hm:mid.length=news.length) (Ix:∀v∈news,Value.hV v=true) (uj:n+m<=cap):
  ∃aO,(Builtin.append_ #[T,ee] ty #[.slice (some ⟨b,0,none⟩) n cap,x]).run P w= .ok (.slice (some ⟨b,0,none⟩) (n+m) cap) aO/\aO.heap[b]? =some (.cells (l++(news++r)).toArray fY fr)/\
   (∀c,c≠b->aO.heap[c]? =w.heap[c]?)/\aO.heap.size=w.heap.size/\aO.os=w.os/\aO.tape=w.tape/\Out aO w:=by
 obtain⟨aO,m1,m2⟩:=Iw (P:=P) (b:=b) (o:=n*i.size) (e:=fY) (fr:=fr) news 0 cur w l mid r ab bK au (by omega) hm Ix;refine⟨aO,?_,m2⟩;obtain⟨ad,af⟩:=IC w rfl;rcases zg with⟨hE,rfl⟩|rfl<;>simp[Builtin.append_,run_underlying a8,run_underlying hu,nz ai,ad,af,uj,Addr.add_lit,m1]
theorem adQ {P:Program} {T ee ty e:TypeId} {vN:TypeDesc} {i:TypeInfo} {z:Value} (a8:P.underlying T=some (.slice e)) (hu:P.underlying ee=some vN) (zg:M_ vN) (ai:P.info? e=some i) (cd:i.zero=some z)
  {x:Value} {m:Nat} {news:azw} (IC:Src P w i.size x m news) {base:Option Addr} {n cap:Nat} {sL:azw} (hold:Src P w i.size (.slice base n cap) n sL) (uj:¬n+m<=cap)
  (aX:n+m<=9223372036854775807) (Na:(n+m)*i.bytes<=140737488355328):
  (Builtin.append_ #[T,ee] ty #[.slice base n cap,x]).run P w= .ok (.slice (some ⟨w.heap.size,0,none⟩) (n+m) (grownCap w (n+m) cap e))
   (w.drew.alloc (.cells (sL.toArray++news.toArray++Builtin.zeroCells z.cells (grownCap w (n+m) cap e-(n+m))) e)):=by
 have ad:=(IC w rfl).1;have af:=(IC w.drew rfl).2;have aG:=(hold w.drew rfl).2;have axo:=growslice_fits (need:=n+m) (old:=cap) (by omega) Na;have ky:¬(281474976710656<Builtin.nextslicecap (n+m) cap*i.bytes):=by omega
 have ID:∀k (w:World),(askRoom k).run P w= .ok () w:=by
  intro k w;unfold askRoom;split<;>rfl
 have adR:¬(9223372036854775807<(n:Int)+(m:Int)/\i.bytes=0):=by omega
 rcases zg with⟨hE,rfl⟩|rfl<;>
  .simp[Builtin.append_,run_underlying a8,run_underlying hu,nz ai,Ey ai,ad,uj,ky,Question.forced,ID];rw[if_neg adR,aG];simp[af,y8 ai cd,newRow,grownCap];have aP:(sL++news).toArray=sL.toArray++news.toArray:=by simp
   rw[aP,Array.append_assoc]
def IE (C:cx) (e ee:TypeId):Bool:=match(C.T ee).k,(C.T e).k with
 | .slice hE,_=>hE==e
 | .str,.int .u8=>true
 |_,_=>false
def vO (C:cx) (s:al) (T ee:TypeId) (x y:I):Option (I×al):=
 match(C.T T).k with
 | .slice e=>if(C.T e).ok=true/\(C.T e).zero.wd=(C.T e).sz/\(flat (C.T e).zero).isSome=true/\IE C e ee=true then
   match(match x with| .bf=>some (I.ag (C.T e).sz [],s)| .h a q=>dL s (.h a q)|_=>none)with
   |some (.ag sz xs,s1)=>if sz=(C.T e).sz then
     match(match ny x.owner y with
      | .bf=>some ([],s1)
      | .slice c8=>some (c8,s1)
      | .str l=>some (l.map jn,s1)
      | .h a q=>match dL s1 (.h a q)with
        |some (.ag _ c8,s2)=>some (c8,s2)
        |_=>none
      |_=>none)with
     |some (c8,s2)=>if(∀d∈c8,d.wd=(C.T e).sz)/\(xs.length+c8.length)*(C.T e).bytes<=140737488355328/\xs.length+c8.length<=9223372036854775807 then some (.ag sz (xs++c8),s2)else none
     |none=>none
    else none
   |_=>none
   else none
 |_=>none
theorem bz.append {xs c8:azy} {ct c2:azw} {cT eM a7:Nat->Prop} (ad:bz w F xs ct cT) (af:bz w F c8 c2 eM) (aP:∀b,cT b->a7 b) (aW:∀b,eM b->a7 b) (aS:∀b,cT b->¬eM b):bz w F (xs++c8) (ct++c2) a7:=by
 induction xs generalizing ct cT a7 with
 |nil=>rw[bz]at ad;subst ad;exact bz.mono (λ_ h=>h) _ _ _ _ aW af
 |cons x xs ih=>
  rw[bz]at ad;obtain⟨adS,adT,jz,im,rfl,g1,g2,g3,g4,g5⟩:=ad;rw[cons_append,bz];refine⟨adS,adT++c2,jz,λb=>im b\/eM b,by simp,g1,ih g2 (λb h=>.inl h) (λb h=>.inr h) (λb h=>aS b (g4 b h)),λb h=>aP b (g3 b h),?_,?_⟩
  .rintro b (h|h)
   .exact aP b (g4 b h)
   .exact aW b h
  .rintro b h (bI|bI)
   .exact g5 b h bI
   .exact aS b (g3 b h) bI
theorem Nb {P:Program} {size m cap:Nat} {b o:Nat} {news:azw} (mB:jM w b o news) (hl:news.length=m*size):Src P w size (.slice (some ⟨b,o,none⟩) m cap) m news:=by
 intro aO hw;refine⟨rfl,?_⟩;refine run_firstCells_some aO size m ⟨b,o,none⟩ m cap news hl (λj v bQ=>?_);rw[Addr.add_lit];have:=mB j v bQ;simpa [World.cell?,hw]using this
theorem UN {P:Program} {size cap:Nat}:Src P w size (.slice none 0 cap) 0 []:=by
 intro aO _;exact⟨rfl,by simp[Builtin.firstCells]⟩
theorem Nc {P:Program} {size cap:Nat} (a:Option Addr):Src P w size (.slice a 0 cap) 0 []:=by
 cases a with
 |none=>exact UN
 |some a=>
  intro aO _;exact⟨rfl,run_firstCells_some aO size 0 a 0 cap [] (by simp) (λj v bQ=>by simp at bQ)⟩
theorem adU {P:Program} (l:azq):Src P w 1 (.string ⟨⟨l⟩⟩) l.length (l.map λb=>.int .u8 (b.toNat:Int)):=by
 intro aO _;refine⟨rfl,?_⟩;have:(⟨⟨l⟩⟩:ByteArray).extract 0 l.length=⟨⟨l⟩⟩:=by
  apply ByteArray.ext;simp[ByteArray.data_extract]
 simp[Builtin.firstCells,this]
theorem bz.zh {sz:Nat} {xs:azy} {cs:azw} {a7:Nat->Prop} (h:bz w F xs cs a7) (hw:∀d∈xs,d.wd=sz):cs.length=xs.length*sz:=by
 rw[bz.length _ _ _ h,y3 _ hw]
theorem ch.turn (h:ch w0 F0 X F S s aI w) {aO:World} {b:Nat} (ab:∀c,c≠b->aO.heap[c]? =w.heap[c]?) (aa:aO.heap.size=w.heap.size) (ad:aO.os=w.os) (af:aO.tape=w.tape) (aG:Out aO w)
  (bM:¬F b) (cn:∀u,¬S u b) (a_:X b\/w0.heap.size<=b):ch w0 F0 X F S s aI aO where
 iq:=h.iq
 iS:=h.iS
 gi:=λc au=>by rw[aa];exact h.gi c au
 fG:=λt c au=>by rw[aa];exact h.fG t c au
 gL:=h.gL
 gj:=h.gj
 e1:=h.e1
 eB:=λt=>aQ.frame (Sx:=S) (λc au=>ab c (by rintro rfl;exact bM au)) (λ_ h=>h) (λx c au=>ab c (by rintro rfl;exact cn x au)) h.eB _ _ _ (λc au=>ab c (by rintro rfl;exact cn t au)) (h.eB t)
 old:=λc eQ mZ=>by
  rw[ab c ?_]
  .exact h.old c eQ mZ
  .rintro rfl;rcases a_ with a_|a_
   .exact mZ a_
   .omega
 size:=by rw[aa];exact h.size
 os:=ad.trans h.os
 tape:=af.trans h.tape
 output:=aG.trans h.output
 gz:=h.gz
theorem adV (bW:C.fN) (h:ch w0 F0 X F S s aI w) {T ee ty:TypeId} {x y:I} {kz lT:Value} (ao:aQ w F s aI x kz (λ_=>False)) (hy:aQ w F s aI y lT (λ_=>False))
  (he:vO C s T ee x y=some (av,s1)):Good C w0 F0 X aI w (Builtin.append_ #[T,ee] ty #[kz,lT]) av s1:=by
 unfold vO at he;split at he
 .rename_i e aw;obtain⟨UO,d,UP,aP,aW,aS,cf,cF,cw,cg⟩:=bW.info (hQ aw (by simp));rw[aw]at cg;have:=oU cg;subst this;split at he
  .rename_i EC;obtain⟨vM,zi,zj,uk⟩:=EC;obtain⟨i,UQ,z,f1,f2,f3,f4,f5,f6,f7⟩:=bW.info vM;obtain⟨iv,qA⟩:=isSome_iff_exists.1 zj;have zk:=f5 iv qA;have xH:iv.length=(C.T e).sz:=by
    have:=aB.length _ _ _ ((aB.flat (w:=w) (F:=F) _).1 (C.T e).zero iv (λ_=>False) (Nat.le_refl _) qA);rw[this,zi]
   obtain⟨vN,hu,zg⟩:∃vN,C.P.underlying ee=some vN/\M_ vN:=by
    unfold IE at uk;split at uk
    .rename_i hE nT;obtain⟨_,bT,_,_,_,_,_,_,g6,g7⟩:=bW.info (hQ nT (by simp));rw[nT]at g7;exact⟨bT,g6,.inl ⟨_,oU g7⟩⟩
    .rename_i nT _;obtain⟨_,bT,_,_,_,_,_,_,g6,g7⟩:=bW.info (hQ nT (by simp));rw[nT]at g7;exact⟨bT,g6,.inr (ud g7)⟩
    .cases uk
   split at he
   .rename_i sz xs Nd um;split at he
    .rename_i fo;subst fo;split at he
     .rename_i c8 EM rf;split at he
      .rename_i adW;obtain⟨BB,Na,zl⟩:=adW;simp only[some.injEq,Prod.mk.injEq]at he;obtain⟨rfl,rfl⟩:=he;obtain⟨jz,a0,Sn,a3,a4,a5,pY,pq,Nf,a9,xI⟩:∃jz,ch w0 F0 X F jz Nd aI w/\∃Sn,aB w F (.ag (C.T e).sz xs) [kz] Sn/\(∀b,Sn b->b<w.heap.size)/\(∀b,Sn b->¬F b)/\(∀u b,Sn b->¬jz u b)/\
         (∀b,Sn b->X b\/w0.heap.size<=b)/\(∀u b,jz u b->S u b)/\(∀b,Sn b->∃u,S u b)/\aQ w F Nd aI (ny x.owner y) lT (λ_=>False):=by
        split at um
        .simp only[some.injEq,Prod.mk.injEq,I.ag.injEq,true_and]at um;obtain⟨rfl,rfl⟩:=um;have:=xE ao;subst this;exact⟨S,h,λ_=>False,by rw[aB];exact .inl ⟨rfl,_,rfl⟩,λ_ h=>h.elim,λ_ h=>h.elim,λ_ _ h=>h.elim,λ_ h=>h.elim,λ_ _ h=>h,λ_ h=>h.elim,hy⟩
        .obtain⟨cT,g0,g1,g2,Sn,g3,g4,g5,g6,g7,g8,g9,g10⟩:=sF h rfl ao um;rw[ir g2]at g3;exact⟨cT,g0,Sn,g3,g4,g5,g6,g7,g8,g9,g10 _ _ _ hy⟩
        .cases um
       obtain⟨im,lU,qB,news,h3,fZ,f_,bw,dR,cP,qC,b1⟩:∃im,ch w0 F0 X F im EM aI w/\∃qB news,bz w F c8 news qB/\Src C.P w i.size lT c8.length news/\(∀b,qB b->b<w.heap.size)/\(∀b,qB b->¬F b)/\(∀u b,qB b->¬im u b)/\
         (∀b,qB b->X b\/w0.heap.size<=b)/\(∀u b,im u b->jz u b)/\(∀b,qB b->∃u,jz u b):=by
        split at rf
        .rename_i zm;simp only[some.injEq,Prod.mk.injEq]at rf;obtain⟨rfl,rfl⟩:=rf;rw[zm]at xI;have:=xE xI;subst this;exact⟨jz,a0,λ_=>False,[],by rw[bz],UN,λ_ h=>h.elim,λ_ h=>h.elim,λ_ _ h=>h.elim,λ_ h=>h.elim,λ_ _ h=>h,λ_ h=>h.elim⟩
        .rename_i fB zm;simp only[some.injEq,Prod.mk.injEq]at rf;obtain⟨rfl,rfl⟩:=rf;rw[zm]at xI;rcases Iz xI with⟨rfl,Bz,axp,rfl,_,zb⟩|⟨b,o,cap,fv,adX,rfl,bZ,cu,dY,eb,eJ,dx⟩
         .exact⟨jz,a0,λ_=>False,[],by rw[bz],Nc Bz,λ_ h=>h.elim,λ_ h=>h.elim,λ_ _ h=>h.elim,λ_ h=>h.elim,λ_ _ h=>h,λ_ h=>h.elim⟩
         .exact⟨jz,a0,λ_=>False,fv,dx,Nb eJ (by rw[f2];exact bz.zh dx BB),λ_ h=>h.elim,λ_ h=>h.elim,λ_ _ h=>h.elim,λ_ h=>h.elim,λ_ _ h=>h,λ_ h=>h.elim⟩
        .rename_i l zm;simp only[some.injEq,Prod.mk.injEq]at rf;obtain⟨rfl,rfl⟩:=rf;rw[zm]at xI;have:=pk xI;subst this;have IF:l≠[]->i.size=1:=by
          intro hl;cases l with
          |nil=>exact(hl rfl).elim
          |cons b l=>rw[f2,<-BB (jn b) (by simp)];rfl
         by_cases hl:l=[]
         .subst hl;refine⟨jz,a0,λ_=>False,[],by simp only[map_nil];rw[bz],?_,λ_ h=>h.elim,λ_ h=>h.elim,λ_ _ h=>h.elim,λ_ h=>h.elim,λ_ _ h=>h,λ_ h=>h.elim⟩;intro aO _;exact⟨rfl,by simp[Builtin.firstCells,ByteArray.extract];rfl⟩
         .refine⟨jz,a0,λ_=>False,_,UH l _,?_,λ_ h=>h.elim,λ_ h=>h.elim,λ_ _ h=>h.elim,λ_ h=>h.elim,λ_ _ h=>h,λ_ h=>h.elim⟩;rw[IF hl,length_map];exact adU l
        .rename_i a q zm;split at rf
         .rename_i axq fB s2 a8;simp only[some.injEq,Prod.mk.injEq]at rf;obtain⟨rfl,rfl⟩:=rf;rw[zm]at xI;obtain⟨eM,g0,g1,g2,qB,g3,g4,g5,g6,g7,g8,g9,g10⟩:=sF a0 rfl xI a8;rw[ir g2,aB]at g3;rcases g3 with⟨rfl,adY,nS⟩|⟨b,cap,cur,fY,fr,a7,nS,bZ,cu,dY,eb,eJ,dx,kT,fp,pr,kA⟩
          .simp at nS;subst nS;exact⟨eM,g0,λ_=>False,[],by rw[bz],(Nc adY),λ_ h=>h.elim,λ_ h=>h.elim,λ_ _ h=>h.elim,λ_ h=>h.elim,g8,λ_ h=>h.elim⟩
          .simp at nS;subst nS;refine⟨eM,g0,a7,_,fp,Nb (Bm cu _) ?_,λc au=>g4 c (pr c au),λc au=>g5 c (pr c au),λu c au=>g6 u c (pr c au),λc au=>g7 c (pr c au),g8,λc au=>g9 c (pr c au)⟩;rw[f2];exact bz.zh fp BB
         .cases rf
        .cases rf
       have xJ:news.length=c8.length*(C.T e).sz:=bz.zh h3 BB;have rh:∀c,Sn c->¬qB c:=λc ad af=>by obtain⟨u,hu⟩:=b1 c af;exact pY u c ad hu
       have kP:∀u c,Sn c->¬im u c:=λu c ad af=>pY u c ad (qC u c af);have grow:∀(base:Option Addr) (cap:Nat) (sL:azw) (Sx:Nat->Prop),kz= .slice base xs.length cap->Src C.P w i.size (.slice base xs.length cap) xs.length sL->bz w F xs sL Sx->(∀d∈xs,d.wd=(C.T e).sz)->(∀c,Sx c->Sn c)->¬xs.length+c8.length<=cap->
         Good C w0 F0 X aI w (Builtin.append_ #[T,ee] ty #[kz,lT]) (.ag (C.T e).sz (xs++c8)) EM:=by
        intro base cap sL Sx M5 hold UR US gf uj;subst M5;have aR:=adQ (ty:=ty) cw hu zg f1 f4 fZ hold uj zl (by rw[f3];exact Na);have M9:=grownCap_ge w (xs.length+c8.length) cap e;have EK:=grownCap_le_maxLen w (xs.length+c8.length) cap e (by unfold maxLen;omega);have EN:=bz.zh UR US;have adZ:bz w F (xs++c8) (sL++news) (λc=>Sx c\/qB c):=bz.append UR h3 (λ_ h=>.inl h) (λ_ h=>.inr h) (λc ad af=>rh c (gf c ad) af);have ad0:(sL++news).length=(xs++c8).length*(C.T e).sz:=by simp[EN,xJ,Nat.add_mul]
        have oV:=lU.IA (aO:=w.drew.alloc (.cells (sL.toArray++news.toArray++Builtin.zeroCells z.cells (grownCap w (xs.length+c8.length) cap e-(xs.length+c8.length))) e))
         (sz:=(C.T e).sz) (cap:=grownCap w (xs.length+c8.length) cap e) (xs:=xs++c8) (e:=e) (fr:=(0,0)) (Sn:=λc=>Sx c\/qB c) rfl rfl rfl ⟨rfl,λ_=>le_succ _⟩
         (λo _ ⟨_,af⟩=>absurd af (not_lt_zero _)) (by simpa using M9) EK
         (by
          simp only[Array.size_append,List.size_toArray,size_zeroCells,zk,EN,xJ,xH,<-Nat.add_mul];congr 1;omega)
         (by
          intro d aq;rcases mem_append.1 aq with aq|aq
          .exact US d aq
          .exact BB d aq)
         (by
          simp only[Array.toList_append];rw[take_left' ad0];exact adZ)
         (by rintro c (au|au);exact a4 c (gf c au);exact f_ c au) (by rintro c (au|au);exact a5 c (gf c au);exact bw c au) (by rintro u c (au|au);exact kP u c (gf c au);exact dR u c au) (by rintro c (au|au);exact pq c (gf c au);exact cP c au)
        refine⟨_,_,F,im,aR,oV.1,?_⟩;have:=oV.2;simpa using this
       rw[aB]at a3;rcases a3 with⟨rfl,IG,nS⟩|⟨b,cap,cur,fY,fr,a7,nS,bZ,cu,dY,eb,eJ,dx,kT,fp,pr,kA⟩
       .simp at nS;subst nS;by_cases UT:c8=[]
        .subst UT;have Ng:news=[]:=by simpa using xJ
         subst Ng;refine⟨.slice IG 0 0,w,F,im,?_,lU,.inr ⟨rfl,rfl,λ_=>False,by simp only[dd,jO];rw[aB];exact .inl ⟨rfl,_,rfl⟩,λ_ h=>h.elim,λ_ h=>h.elim,λ_ _ h=>h.elim,λ_ h=>h.elim⟩⟩;obtain⟨ad,af⟩:=fZ w rfl;cases IG<;>rcases zg with⟨hE,rfl⟩|rfl<;>simp at ad af<;>simp[Builtin.append_,run_underlying cw,run_underlying hu,nz f1,ad,af,storeCells]
        .exact grow IG 0 [] (λ_=>False) rfl (Nc IG) (by rw[bz]) (by simp) (λ_ h=>h.elim) (by
          cases c8 with
          |nil=>exact(UT rfl).elim
          |cons y c8=>simp)
       .simp at nS;subst nS;by_cases uj:xs.length+c8.length<=cap
        ·
         have EN:=bz.zh fp kT;have hlen:cur.toList.length=cap*(C.T e).sz:=by simp[dx]
         have hle:(xs.length+c8.length)*(C.T e).sz<=cap*(C.T e).sz:=mul_le_mul_right _ uj;rw[Nat.add_mul]at hle;have pX:cur.toList=cur.toList.take (xs.length*(C.T e).sz)++((cur.toList.drop (xs.length*(C.T e).sz)).take news.length++(cur.toList.drop (xs.length*(C.T e).sz)).drop news.length):=by
          rw[take_append_drop,take_append_drop]
         obtain⟨aO,m1,m2,m3,m4,m5,m6,m7⟩:=adP (ty:=ty) (n:=xs.length) (m:=c8.length) (cap:=cap) cw hu zg f1 fZ cu dY.low pX (by rw[f2];exact EN) (by simp[hlen,xJ];omega) (bz.y9 _ _ _ h3) uj;have ad1:=lU.turn m3 m4 m5 m6 m7 (a5 b bZ) (λu hu=>kP u b bZ hu) (pq b bZ);have ub:∀c,F c->aO.heap[c]? =w.heap[c]? :=λc au=>m3 c (by rintro rfl;exact a5 _ bZ au);refine⟨_,aO,F,im,m1,ad1,.inr ⟨rfl,rfl,λc=>Sn c\/qB c,?_,?_,?_,?_,?_⟩⟩
         .simp only[dd,jO];rw[aB];have UU:(cur.toList.take (xs.length*(C.T e).sz)++(news++(cur.toList.drop (xs.length*(C.T e).sz)).drop news.length)).toArray.size=cur.size:=by
           have:cur.size=cur.toList.length:=by simp
           rw[this];conv=>rhs;rw[pX]
           simp[hlen,xJ];omega
          refine .inr ⟨b,cap,_,fY,fr,λc=>a7 c\/qB c,by simp,.inl bZ,m2,by rw[UU];exact dY,by simpa using uj,eJ,by rw[UU];exact dx,?_,?_,?_,?_⟩
          .intro d aq;rcases mem_append.1 aq with aq|aq
           .exact kT d aq
           .exact BB d aq
          .have Bu:=bz.frame ub _ _ _ (λc au=>m3 c (by rintro rfl;exact kA au)) fp;have y7:=bz.frame ub _ _ _ (λc au=>m3 c (by rintro rfl;exact rh _ bZ au)) h3;have:((cur.toList.take (xs.length*(C.T e).sz)++(news++(cur.toList.drop (xs.length*(C.T e).sz)).drop news.length)).toArray.toList.take ((xs++c8).length*(C.T e).sz))=cur.toList.take (xs.length*(C.T e).sz)++news:=by
            simp only[];rw[<-append_assoc];exact take_left' (by rw[length_append,EN,xJ,length_append,Nat.add_mul])
           rw[this];exact bz.append Bu y7 (λ_ h=>.inl h) (λ_ h=>.inr h) (λc ad af=>rh c (pr c ad) af)
          .rintro c (au|au)
           .exact .inl (pr c au)
           .exact .inr au
          .rintro(au|au)
           .exact kA au
           .exact rh b bZ au
         .rw[m4];rintro c (au|au);exact a4 c au;exact f_ c au
         .rintro c (au|au);exact a5 c au;exact bw c au
         .rintro u c (au|au);exact kP u c au;exact dR u c au
         .rintro c (au|au);exact pq c au;exact cP c au
        .exact grow (some ⟨b,0,none⟩) cap _ a7 rfl (Nb (Bm cu _) (by rw[f2];exact bz.zh fp kT)) fp kT pr uj
      .cases he
     .cases he
    .cases he
   .cases he
  .cases he
 .cases he
end
section
variable {C:cx} {w0 w aO:World} {F0 X F:Nat->Prop} {S:Nat->Nat->Prop} {s s1:al} {aI:Nat->Value} {av:I}
theorem ch.ad2 (h:ch w0 F0 X F S s aI w) {x:Nat} {q:azt} {d bT:I} {b:Nat} (aq:I.sub q (s x)=some d) (ay:d.plain=false) (Nh:bT.tree=true) (ad:∀v,kj d v->kj bT v) (aa:∀v,e2 d v->e2 bT v)
  (af:∀vs,bT≠.tuple vs) (nw:bT.wd=d.wd) (ab:∀dH a gy,eF w q (s x) (dd (aI x)) none=some (d,dH,a)->aB w F d dH gy->gy b/\aB aO F bT dH gy) (q8:∀c,c≠b->aO.heap[c]? =w.heap[c]?) (fo:aO.heap.size=w.heap.size) (MU:aO.os=w.os)
  (MV:aO.tape=w.tape) (y5:Out aO w):∃a7,ch w0 F0 X F a7 (eu (jB x s) x (I.put q bT (s x))) aI aO:=by
 have a8:=jP aq (.inl ay);have ao:=h.eB x;rw[aQ.du a8]at ao;obtain⟨dH,a,fm,gy,g0,g1,g2,g3,g4,g5⟩:=ctx q (s x) (dd (aI x)) (S x) none d ao.2 aq;obtain⟨y6,aJ⟩:=ab dH a gy g0 g4;have zn:S x b:=g2 b y6;have ub:∀c,F c->aO.heap[c]? =w.heap[c]? :=λc au=>q8 c (by rintro rfl;exact h.gL x _ zn au);have Br:∀c,fm c->c≠b:=λc au e=>g3 c au (e▸y6);have mb:aB aO F (I.put q bT (s x)) (dd (aI x)) (λc=>fm c\/gy c):=by
  rcases g5 with⟨l,r,aP,aW,aS⟩|⟨lU,cur,e,fr,l,r,aP,aW,aS,cf,cF,cw⟩
  .rw[aP];exact aS aO bT dH gy ub (λc au=>q8 c (Br c au)) nw aJ (λc au kx=>g3 c kx au)
  .refine cw aO bT dH gy ub (λc au _=>q8 c (Br c au)) ?_ nw aJ (λc au kx=>g3 c kx au);rw[q8 lU (Br lU aW),aS,<-cF]
 have Er:e2 (I.put q bT (s x)) (aI x)/\(I.put q bT (s x)).tree=true:=by
  cases q with
  |nil=>
   simp only[I.sub,some.injEq]at aq;simp only[I.put];exact⟨aa _ (aq▸ao.1),Nh⟩
  |cons k q=>
   refine⟨Ep ao.1 aq ad (λ_=>af) nw,?_⟩;rcases xB k q bT (s x)with⟨aF,gs,aP,e⟩|⟨aF,gs,aP,e⟩|⟨sz,xs,c8,aP,e⟩|⟨y,z,aP,e⟩|e<;>rw[e]<;>first|rfl|exact a8
 let aH:=eu (jB x s) x (I.put q bT (s x))
 have iR:∀y,y≠x->(aH y).tree=true->aH y=s y/\aI y=aI y:=λy hy a8=>by
  have e:aH y=ep.c1 x (s y):=lv _ _ hy;rw[e]at a8⊢;exact⟨(Io a8).2,rfl⟩
 have ph:(aH x).plain=false->(s x).plain=false/\∀v,e2 (s x) v->e2 (aH x) v:=by
  intro _;refine⟨?_,λv aJ=>?_⟩
  .cases bU:(s x).plain with
   |false=>rfl
   |true=>rw[I.MK _ _ _ bU aq]at ay;cases ay
  .simp only[aH,oS];cases q with
   |nil=>
    simp only[I.sub,some.injEq]at aq;simp only[I.put];exact aa _ (aq▸aJ)
   |cons k q=>exact Ep aJ aq ad (λ_=>af) nw
 have both:∀c,(fm c\/gy c)->S x c:=λc au=>au.elim (g1 c) (g2 c);refine⟨hr S x (λc=>fm c\/gy c),?_⟩;constructor;case iq=>exact h.iq
 case iS=>exact h.iS
 case gi=>exact λb ab=>by rw[fo];exact h.gi b ab
 case fG=>
  intro u c ab;rw[fo];simp only[hr]at ab;split at ab
  .exact h.fG x c (both c ab)
  .exact h.fG u c ab
 case gL=>
  intro u c ab;simp only[hr]at ab;split at ab
  .exact h.gL x c (both c ab)
  .exact h.gL u c ab
 case gj=>
  intro u y c eo ab hy;simp only[hr]at ab hy;split at ab
  .rename_i hu;rw[if_neg (λe=>eo (hu.trans e.symm))]at hy;exact h.gj x y c (λe=>eo (hu.trans e)) (both c ab) hy
  .rename_i hu;split at hy
   .exact h.gj u x c hu ab (both c hy)
   .exact h.gj u y c eo ab hy
 case e1=>
  intro u c ab;simp only[hr]at ab;split at ab
  .exact h.e1 x c (both c ab)
  .exact h.e1 u c ab
 case eB=>
  intro u;by_cases hu:u=x
  .subst hu;rw[oS,En];exact(aQ.du Er.2).2 ⟨Er.1,mb⟩
  .rw[lv _ _ hu,Eo _ _ hu];have eo:∀y c,y≠x->S y c->aO.heap[c]? =w.heap[c]? :=λy c hy au=>q8 c (by rintro rfl;exact h.gj y x c hy au zn);refine(aQ.c1 iR rfl ph (λy gX d2 hy hP Es=>?_) ub _).1 _ _ _ (Nat.le_refl _) (λc au=>eo u c hu au) (h.eB u);have Et:=h.eB y;rw[aQ.du (jP hP Es)]at Et;exact Im gX _ _ _ none d2 Et.2 hP (λc au=>eo y c hy au)
 case old=>
  intro c eQ mZ;rw[q8 c ?_]
  .exact h.old c eQ mZ
  .rintro rfl;rcases h.e1 x c zn with a_|a_
   .exact mZ a_
   .omega
 case size=>rw[fo];exact h.size
 case os=>exact MU.trans h.os
 case tape=>exact MV.trans h.tape
 case output=>exact y5.trans h.output
 case gz=>exact h.gz
def UW (P:Program) (t:TypeId):Bool:=match P.info? t with
 |some i=>match i.zero with
  |some (.bool false)=>true
  |_=>false
 |none=>false
def ri (C:cx) (T:TypeId):Bool:=match(C.T T).k with
 | .map sM xK=>match(C.T sM).k with
   | .str=>UW C.P xK
   |_=>false
 |_=>false
def jZ (C:cx) (s:al) (T:TypeId) (x i:I):Option I:=match x,i with
 | .h y q,.str k=>match I.sub q (s y)with
   |some (.cj (.mp m))=>if ri C T=true then some (.bool (kh k m))else none
   |_=>none
 |_,_=>none
def k8 (C:cx) (s:al) (T:TypeId) (x i v:I):Option al:=match x,i,v with
 | .h y q,.str k,.bool b=>match I.sub q (s y)with
   |some (.cj (.mp m))=>if ri C T=true then some (eu (jB y s) y (I.put q (.cj (.mp (ku k b m))) (s y)))else none
   |_=>none
 |_,_,_=>none
theorem UX (bW:C.fN) {T:TypeId} (h:ri C T=true):∃sM xK,C.P.underlying T=some (.map sM xK)/\C.P.underlying sM=some .string/\∀w,(zeroValue xK).run C.P w= .ok (.bool false) w:=by
 unfold ri at h;split at h
 .rename_i sM xK aw;split at h
  .rename_i ad;obtain⟨i,d,z,aP,aW,aS,cf,cF,cw,cg⟩:=bW.info (hQ aw (by simp));obtain⟨ue,bT,vH,f1,f2,f3,f4,f5,f6,f7⟩:=bW.info (hQ ad (by simp));rw[aw]at cg;rw[ad]at f7;have:=ud f7;subst this;refine⟨sM,xK,?_,f6,λw=>?_⟩
   .rw[cw];cases d<;>simp[oe]at cg;rw[cg.1,cg.2]
   .unfold UW at h;split at h
    .rename_i i2 g1;split at h
     .rename_i g2;exact y8 g1 g2 w
     .cases h
    .cases h
  .cases h
 .cases h
theorem Ni (a b:ByteArray):(a==b)=true↔a=b:=by
 constructor
 .intro h;exact ByteArray.ext (eq_of_beq (show(a.data==b.data)=true from h))
 .rintro rfl;show(a.data==a.data)=true;simp
theorem Nj (k:azq) (b:Bool):∀(es:List MapEntry) (m:azo) (i:Nat),es.map (λe=>(e.key,e.val))=m.map (λe=>(.string ⟨⟨e.1⟩⟩,.bool e.2))->
  (Instr.findNow .string (.string ⟨⟨k⟩⟩) es i=some none/\kh k m=false/\ku k b m=m++[(k,b)])\/
  ∃j e,es[j]? =some e/\e.key= .string ⟨⟨k⟩⟩/\Instr.findNow .string (.string ⟨⟨k⟩⟩) es i=some (some (i+j,.bool (kh k m)))/\ku k b m=m.set j (k,b)
 |[],m,i,h=>by
  have:m=[]:=by simpa using h.symm
  subst this;exact .inl ⟨rfl,rfl,rfl⟩
 |e::es,[],i,h=>by simp at h
 |e::es,(dv,gW)::m,i,h=>by
  simp only[map_cons,cons.injEq,Prod.mk.injEq]at h;obtain⟨⟨ad,af⟩,aG⟩:=h;by_cases aw:dv=k
  .subst aw;refine .inr ⟨0,e,rfl,ad,?_,by simp[ku]⟩;have:(((⟨⟨dv⟩⟩:ByteArray)==⟨⟨dv⟩⟩))=true:=(Ni _ _).2 rfl;simp only[Instr.findNow,ad,af,Instr.sameNow,kh,this,if_true,Nat.add_zero]
  .have aX:((⟨⟨k⟩⟩:ByteArray)==⟨⟨dv⟩⟩)=false:=by
    refine Bool.eq_false_iff.2 λe=>aw ?_;have:=(Ni _ _).1 e;simp only[ByteArray.mk.injEq,Array.mk.injEq]at this;exact this.symm
   rcases Nj k b es m (i+1) aG with⟨g1,g2,g3⟩|⟨j,hE,g1,g2,g3,g4⟩
   .refine .inl ⟨?_,?_,?_⟩
    .simp only[Instr.findNow,ad,Instr.sameNow,aX];exact g1
    .simp[kh,aw,g2]
    .simp[ku,aw,g3]
   .refine .inr ⟨j+1,hE,g1,g2,?_,?_⟩
    .simp only[Instr.findNow,ad,Instr.sameNow,aX];rw[g3];simp[kh,aw,Nat.add_assoc,Nat.add_comm 1 j]
    .simp[ku,aw,g4]
theorem IH {P:Program} {sM:TypeId} (aw:P.underlying sM=some .string) (e:Bool) (k:ByteArray) (w:World):(Instr.checkKey e 10000 sM (.string k)).run P w= .ok () w:=by
 unfold Instr.checkKey;simp[run_underlying aw]
theorem UY (h:ch w0 F0 X F S s aI w) {y:Nat} {q:azt} {m:azo} {v:Value} (aJ:aQ w F s aI (.h y q) v (λ_=>False)) (aq:I.sub q (s y)=some (.cj (.mp m))):
  ∃r ms pW,v= .map (some r)/\w.heap[r]? =some (.map ms pW)/\ms.toList.map (λe=>(e.key,e.val))=m.map (λe=>(.string ⟨⟨e.1⟩⟩,.bool e.2))/\
   ∃a,eF w q (s y) (dd (aI y)) none=some (.cj (.mp m),[.map (some r)],a):=by
 rw[aQ]at aJ;obtain⟨dH,a,g1,g2,g3⟩:=aJ _ aq rfl;have ad:Value.hV v=true:=g3;rw[ir ad]at g2;have ao:=h.eB y;rw[aQ.du (jP aq (.inl rfl))]at ao;obtain⟨hq,dF,fm,gy,k0,bZ,cu,dY,eb,eJ⟩:=ctx q (s y) (dd (aI y)) (S y) none _ ao.2 aq;rw[k0]at g1;simp only[some.injEq,Prod.mk.injEq,true_and]at g1;obtain⟨rfl,rfl⟩:=g1;rw[aB]at eb;obtain⟨r,ms,pW,aP,aW,aS,cf⟩:=eb;rw[aP]at g2 k0;exact⟨r,ms,pW,by simpa using g2,aS,cf,dF,k0⟩
theorem ad3 (bW:C.fN) (h:ch w0 F0 X F S s aI w) {T:TypeId} {x i:I} {kz q9:Value} (ao:aQ w F s aI x kz (λ_=>False)) (ai:aQ w F s aI i q9 (λ_=>False)) (he:jZ C s T x i=some av):
  Good C w0 F0 X aI w (Instr.lookup T kz q9 false) av s:=by
 unfold jZ at he;split at he
 .rename_i y q k;split at he
  .rename_i m aq;split at he
   .rename_i lx;simp only[some.injEq]at he;subst he;obtain⟨sM,xK,t1,t2,t3⟩:=UX bW lx;obtain⟨r,ms,pW,rfl,aW,aS,_⟩:=UY h ao aq;have:=pk ai;subst this;refine Good.same h (v:=.bool (kh k m)) ?_ rfl (of_bool _);rcases Nj k true ms.toList m 0 aS with⟨g1,g2,_⟩|⟨j,e,_,_,g1,_⟩
    .simp[Instr.lookup,run_underlying t1,getObj,Sem.run,aW,IH t2,Instr.findKey,run_underlying t2,g1,t3,g2]
    .simp[Instr.lookup,run_underlying t1,getObj,Sem.run,aW,IH t2,Instr.findKey,run_underlying t2,g1]
   .cases he
  .cases he
 .cases he
theorem ad4 (bW:C.fN) (h:ch w0 F0 X F S s aI w) {T:TypeId} {x i v:I} {kz q9 UZ:Value} (ao:aQ w F s aI x kz (λ_=>False)) (ai:aQ w F s aI i q9 (λ_=>False)) (aJ:aQ w F s aI v UZ (λ_=>False)) {s2:al}
  (he:k8 C s T x i v=some s2):∃aO a7,(Instr.mapUpdate T kz q9 UZ).run C.P w= .ok () aO/\ch w0 F0 X F a7 s2 aI aO:=by
 unfold k8 at he;split at he
 .rename_i y q k b;split at he
  .rename_i m aq;split at he
   .rename_i lx;simp only[some.injEq]at he;subst he;obtain⟨sM,xK,t1,t2,t3⟩:=UX bW lx;obtain⟨r,ms,pW,rfl,aW,aS,a0,nx⟩:=UY h ao aq;have:=pk ai;subst this;have:=xD aJ;subst this;have key:∀(II:Array MapEntry) (Nk:Nat),II.toList.map (λe=>(e.key,e.val))=(ku k b m).map (λe=>(.string ⟨⟨e.1⟩⟩,.bool e.2))->
      ∃a7,ch w0 F0 X F a7 (eu (jB y s) y (I.put q (.cj (.mp (ku k b m))) (s y))) aI {w with heap:=w.heap.setIfInBounds r (.map II Nk)}:=by
     intro II Nk hm;have aR:r<w.heap.size:=(Array.getElem?_eq_some_iff.1 aW).1;refine ch.ad2 (b:=r) h aq rfl rfl (λv aJ=>aJ) (λv aJ=>aJ) (λvs e=>by cases e) rfl ?_ (λc au=>?_) (by simp) rfl rfl ⟨rfl,λ_=>Nat.le_refl _⟩
     .intro dH a gy bK iu;rw[nx]at bK;simp only[some.injEq,Prod.mk.injEq,true_and]at bK;obtain⟨rfl,_⟩:=bK;rw[aB]at iu⊢;obtain⟨h4,xL,axr,f1,f2,f3,f4⟩:=iu;simp only[cons.injEq,Value.map.injEq,some.injEq,and_true]at f1;subst f1;exact⟨f2,r,II,Nk,rfl,f2,by simp[aR],hm⟩
     .simp[Ne.symm au]
    rcases Nj k b ms.toList m 0 aS with⟨g1,_,g2⟩|⟨j,e,g0,ge,g1,g2⟩
    .obtain⟨a7,bZ⟩:=key (ms.push {key:=.string ⟨⟨k⟩⟩,val:=.bool b,born:=pW}) (pW+1) (by rw[g2];simp[aS]);exact⟨_,a7,by simp[Instr.mapUpdate,run_underlying t1,getObj,setObj,Sem.run,aW,IH t2,Instr.findKey,run_underlying t2,g1],bZ⟩
    .rw[Nat.zero_add]at g1;obtain⟨a7,bZ⟩:=key (ms.modify j λe=>{e with key:=.string ⟨⟨k⟩⟩,val:=.bool b}) pW (by
      rw[g2,map_set,<-aS];apply ext_getElem?;intro n;by_cases aX:n=j
      .subst aX;have:n<ms.toList.length:=(List.getElem?_eq_some_iff.1 g0).1;rw[getElem?_set_self (by simpa using this)];simp[g0]
      .simp[getElem?_set_ne (Ne.symm aX),Ne.symm aX])
     have ad5:ms[j]? =some e:=by simpa using g0
     exact⟨_,a7,by simp[Instr.mapUpdate,run_underlying t1,getObj,setObj,Sem.run,aW,IH t2,Instr.findKey,run_underlying t2,g1,ad5,ge,Instr.keyThatStays,Instr.sameBits,(Ni ⟨⟨k⟩⟩ ⟨⟨k⟩⟩).2 rfl],bZ⟩
   .cases he
  .cases he
 .cases he
theorem ad6 (h:ch w0 F0 X F S s aI w) (t:TypeId):Good C w0 F0 X aI w (Instr.makeMap t none) (.cj (.mp [])) s:=by
 have hold:∀b,b<w.heap.size->(w.alloc (.map #[] 0)).heap[b]? =w.heap[b]? :=by
  intro b ab;show(w.heap.push _)[b]? =_;rw[Array.getElem?_push,if_neg (by omega)]
 refine⟨.map (some w.heap.size),w.alloc (.map #[] 0),F,S,?_,h.grow hold (by simp) rfl rfl ⟨rfl,λ_=>Nat.le_refl _⟩,.inr ⟨rfl,rfl,λb=>b=w.heap.size,?_,?_,?_,?_,?_⟩⟩
 .simp[Instr.makeMap,newObj,Sem.run]
 .rw[aB];refine⟨w.heap.size,#[],0,rfl,rfl,?_,rfl⟩;show(w.heap.push _)[_]? =_;simp
 .rintro b rfl;simp
 .rintro b rfl vJ;exact Nat.lt_irrefl _ (h.gi _ vJ)
 .rintro u b rfl hu;exact Nat.lt_irrefl _ (h.fG _ _ hu)
 .rintro b rfl;exact .inr h.size
end
end Go.ep
