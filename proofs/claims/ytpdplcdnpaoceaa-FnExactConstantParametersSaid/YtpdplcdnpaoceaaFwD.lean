/- Part of a proof that a law returns true for every input. No condition. -/
import Derived.Test.YtpdplcdnpaoceaaFwC
import Derived.Test.YtpdplcdnpaoceaaFwA
import Derived.Laws.IdiomStrings
import Derived.Laws.Strings
import Derived.LaidEql
import Derived.WideLaws
import Derived.Laws.StructEq
namespace Go.cM
open List Option Nat Or
section
variable {C:bA} {w0 w:World} {F0 X F:Nat->Prop} {S:Nat->Nat->Prop} {s s1:ah} {aq:Nat->Value} {av:I}
theorem lP {k:IntKind} {n:Int} {v:Value} {aF:Nat->Prop} (h:aA w F s aq (.int k n) v aF):v= .int k n:=by
 have bj:=(aA.bY rfl).1 h;rw[al,eV bj.1]at bj;simpa using bj.2
theorem o_ {b:Bool} {v:Value} {aF:Nat->Prop} (h:aA w F s aq (.bool b) v aF):v= .bool b:=by
 have bj:=(aA.bY rfl).1 h;rw[al,eV bj.1]at bj;simpa using bj.2
theorem lQ {b:Xq} {v:Value} {aF:Nat->Prop} (h:aA w F s aq (.str b) v aF):v= .string ⟨⟨b⟩⟩:=by
 have bj:=(aA.bY rfl).1 h;rw[al,eV bj.1]at bj;simpa using bj.2
theorem DF {v:Value} {aF:Nat->Prop} (h:aA w F s aq .cJ v aF):v= .pointer none:=by
 have bj:=(aA.bY rfl).1 h;rw[al,eV bj.1]at bj;simpa using bj.2
theorem ob {v:Value} {aF:Nat->Prop} (h:aA w F s aq .a5 v aF):v= .slice none 0 0:=by
 have bj:=(aA.bY rfl).1 h;rw[al,eV bj.1]at bj;simpa using bj.2
theorem DG {v:Value} {aF:Nat->Prop} (h:aA w F s aq .dR v aF):∃b,v= .bool b:=by
 have bj:=(aA.bY rfl).1 h;rw[al,eV bj.1]at bj;simpa using bj.2
theorem of_int (k:IntKind) (n:Int):aA w F s aq (.int k n) (.int k n) (λ_=>False):=(aA.bY rfl).2 ⟨rfl,by rw[al];rfl⟩
theorem of_bool (b:Bool):aA w F s aq (.bool b) (.bool b) (λ_=>False):=(aA.bY rfl).2 ⟨rfl,by rw[al];rfl⟩
theorem mA (b:Xq):aA w F s aq (.str b) (.string ⟨⟨b⟩⟩) (λ_=>False):=(aA.bY rfl).2 ⟨rfl,by rw[al];rfl⟩
theorem zb (b:Bool):aA w F s aq .dR (.bool b) (λ_=>False):=(aA.bY rfl).2 ⟨rfl,by rw[al];exact⟨b,rfl⟩⟩
def hh (op:BinOp) (k:IntKind) (a:Int) (cH:IntKind) (b:Int):Option I:=
 match op with
 | .shl=>if b<0 then none else some (.int k (k.wrap (a*2^(min b.toNat k.bits))))
 | .shr=>if b<0 then none else some (.int k (a.fdiv (2^(min b.toNat k.bits))))
 | .add=>if k=cH then some (.int k (k.wrap (a+b)))else none
 | .sub=>if k=cH then some (.int k (k.wrap (a-b)))else none
 | .mul=>if k=cH then some (.int k (k.wrap (a*b)))else none
 | .quo=>if k=cH/\b≠0 then some (.int k (k.wrap (a.tdiv b)))else none
 | .rem=>if k=cH/\b≠0 then some (.int k (a.tmod b))else none
 | .eql=>if k=cH then some (.bool (a==b))else none
 | .neq=>if k=cH then some (.bool (a !=b))else none
 | .lss=>if k=cH then some (.bool (decide (a<b)))else none
 | .leq=>if k=cH then some (.bool (decide (a<=b)))else none
 | .gtr=>if k=cH then some (.bool (decide (b<a)))else none
 | .geq=>if k=cH then some (.bool (decide (b<=a)))else none
 | .and=>if k=cH then some (.int k (bitsOf .and k a b))else none
 | .or=>if k=cH then some (.int k (bitsOf .or k a b))else none
 | .xor=>if k=cH then some (.int k (bitsOf .xor k a b))else none
 | .andNot=>if k=cH then some (.int k (bitsOf .andNot k a b))else none
def lb (op:BinOp) (a b:Xq):Option I:=
 match op with
 | .add=>if a.length+b.length<=9223372036854775807 then some (.str (a++b))else none
 | .eql=>some (.bool (a==b))
 | .neq=>some (.bool !(a==b))
 | .lss=>some (.bool (Op.bytesLess a b))
 | .leq=>some (.bool (Op.bytesLess a b||a==b))
 | .gtr=>some (.bool !(Op.bytesLess a b||a==b))
 | .geq=>some (.bool !(Op.bytesLess a b))
 |_=>none
def h1 (s:ah):I->Option Xu
 | .a5=>some (some true)
 | .slice xs=>some (if xs=[]then none else some false)
 | .h x q=>match I.sub q (s x)with
   |some (.aw _ xs)=>some (if xs=[]then none else some false)
   |_=>none
 |_=>none
def jv (s:ah):I->Xu
 | .cJ=>some true
 | .ref _=>some false
 | .h x q=>match I.sub q (s x)with
   |some (.bh _)=>some false
   |_=>none
 |_=>none
def mB (neg:Bool):Xu->I
 |some b=>.bool (b !=neg)
 |none=>.dR
def structEq (P:Program) (T:TypeId):Bool:= !P.stoodInHeld T&& !P.eqGuardType P.depth T&&(P.fieldsOf T).toList.all λf=>decide (f.name≠ "_")
def kM (C:bA):List (TypeId×Nat)->Nat->Xy->Xy->Xu
 |[],_,[],[]=>some true
 |(hZ,off)::ar,n,d::ds,e::es=>if off=n then(match(C.T hZ).k,d,e with
  | .int k,.int bM a,.int b1 b=>if bM=k/\b1=k then(kM C ar (n+1) ds es).map λr=>a==b&&r else none
  | .bool,.bool a,.bool b=>(kM C ar (n+1) ds es).map λr=>a==b&&r
  | .str,.str a,.str b=>(kM C ar (n+1) ds es).map λr=>a==b&&r
  |_,_,_=>none)else none
 |_,_,_,_=>none
def dE (C:bA) (s:ah) (op:BinOp) (T:TypeId) (x y:I):Option I:=
 match x,y with
 | .int k a,.int cH b=>hh op k a cH b
 | .str a,.str b=>lb op a b
 | .bool a,.bool b=>match op,(C.T T).k with
   | .eql,.bool=>some (.bool (a==b))
   | .neq,.bool=>some (.bool !(a==b))
   |_,_=>none
 | .agg ds,.agg es=>match op,(C.T T).k with
   | .eql,.struct ar=>if structEq C.P T=true then(kM C ar 0 ds es).map λb=>.bool b else none
   | .neq,.struct ar=>if structEq C.P T=true then(kM C ar 0 ds es).map λb=>.bool !b else none
   |_,_=>none
 |x,.a5=>match op,(C.T T).k with
  | .eql,.slice _=>(h1 s x).map (mB false)
  | .neq,.slice _=>(h1 s x).map (mB true)
  |_,_=>none
 |x,.cJ=>match op,(C.T T).k with
  | .eql,.ptr _=>(jv s x).map λb=>.bool b
  | .neq,.ptr _=>(jv s x).map λb=>.bool !b
  |_,_=>none
 |_,_=>none
theorem J2 {P:Program} {op:BinOp} {T:TypeId} {k cH:IntKind} {a b:Int} (he:hh op k a cH b=some av) (w:World):
  ∃v,(binOp op T (.int k a) (.int cH b)).run P w= .ok v w/\aA w F s aq av v (λ_=>False):=by
 unfold hh at he;cases op<;>simp only at he<;>split at he<;>first|(cases he;done)|skip
 all_goals
  rename_i aj;simp only[some.injEq]at he;subst he
 all_goals first
  |(subst aj;simp only[binOp_add,binOp_sub,binOp_mul,binOp_eql,binOp_neq,binOp_lss,binOp_leq,binOp_gtr,binOp_geq,binOp_and,binOp_or,binOp_xor,binOp_andNot,Op.intArith,Op.intBits,Sem.run_pure,Result.ok.injEq,and_true,exists_eq_left']
    first|exact of_int _ _|exact of_bool _)
  |(obtain⟨rfl,ba⟩:=aj
    simp only[binOp_quo,binOp_rem,Op.intDiv,ba,if_false,Sem.run_pure,Result.ok.injEq,and_true,exists_eq_left'];exact of_int _ _)
  |(simp only[binOp_shl,binOp_shr,Op.shift,aj,if_false,Sem.run_pure,Result.ok.injEq,and_true,exists_eq_left']
    exact of_int _ _)
theorem tw (a:Xq):(⟨⟨a⟩⟩:ByteArray).toList=a:=ByteArray.toList_eq _
theorem J3 (a b:Xq):(⟨⟨a⟩⟩:ByteArray)++(⟨⟨b⟩⟩:ByteArray)=⟨⟨a++b⟩⟩:=by
 apply ByteArray.ext;simp[ByteArray.data_append]
theorem J4 {P:Program} {op:BinOp} {T:TypeId} {a b:Xq} (he:lb op a b=some av) (w:World):
  ∃v,(binOp op T (.string ⟨⟨a⟩⟩) (.string ⟨⟨b⟩⟩)).run P w= .ok v w/\aA w F s aq av v (λ_=>False):=by
 have U:∀op,binOp op T (.string ⟨⟨a⟩⟩) (.string ⟨⟨b⟩⟩)=Op.stringOp op ⟨⟨a⟩⟩ ⟨⟨b⟩⟩:=by intro op;cases op<;>rfl
 rw[U];unfold lb at he;cases op<;>simp only[some.injEq]at he<;>first|(cases he;done)|skip
 case add=>
  split at he
  .rename_i hl;simp only[some.injEq]at he;subst he;have aa:((ByteArray.size ⟨⟨a⟩⟩+ByteArray.size ⟨⟨b⟩⟩:Nat):Int)<=9223372036854775807:=by
    show((a.length+b.length:Nat):Int)<=_;omega
   refine⟨.string ⟨⟨a++b⟩⟩,?_,mA _⟩;simp only[Op.stringOp,IntKind.max_i64];rw[if_neg (by omega),J3];rfl
  .cases he
 all_goals
  subst he;simp only[Op.stringOp,tw,Sem.run_pure,Result.ok.injEq,and_true,exists_eq_left'];exact of_bool _
theorem zc (h:bg w0 F0 X F S s aq w) {v:Value} {y:Nat} {q:Xt} (aD:aA w F s aq (.h y q) v (λ_=>False)) {sz:Nat} {xs:Xy} (af:I.sub q (s y)=some (.aw sz xs)):
  (xs=[]/\∃a,v= .slice a 0 0)\/∃b cap cur e fr,v= .slice (some ⟨b,0,none⟩) xs.length cap/\w.heap[b]? =some (.cells cur e fr)/\kD fr cur.size/\xs.length<=cap/\cap<=maxLen/\cur.size=cap*sz/\(∀d∈xs,d.wd=sz)/\
   ∃aF,aQ w F xs (cur.toList.take (xs.length*sz)) aF/\(∀c,aF c->S y c)/\S y b:=by
 rw[aA]at aD;obtain⟨b4,a,aO,a3,bJ⟩:=aD _ af rfl;have aa:Value.eZ v=true:=bJ;rw[eV aa]at a3;subst a3;have an:=h.cE y;rw[aA.bY (gl af (.inl rfl))]at an;obtain⟨eC,b7,c6,dY,k0,bM,b1,cZ,cF,dL⟩:=ctx q (s y) (bL (aq y)) (S y) none _ an.2 af;rw[k0]at aO;simp only[some.injEq,Prod.mk.injEq,true_and]at aO;obtain⟨rfl,rfl⟩:=aO;rw[al]at cF;rcases cF with⟨rfl,a4,ad⟩|⟨b,cap,cur,aS,fr,S2,aV,bK,cn,bB,bt,fy,h2,jw,oc,dF,eJ⟩
 .simp at ad;exact .inl ⟨rfl,_,ad⟩
 .simp at aV;exact .inr ⟨b,cap,cur,aS,fr,aV,cn,bB.low,bt,fy,h2,jw,S2,oc,λc aj=>b1 _ (dF c aj),b1 _ bK⟩
theorem DH (h:bg w0 F0 X F S s aq w) {v:Value} {y:Nat} {q:Xt} (aD:aA w F s aq (.h y q) v (λ_=>False)) {d:I} (af:I.sub q (s y)=some (.bh d)):
  ∃b cur e fr,v= .pointer (some ⟨b,0,none⟩)/\w.heap[b]? =some (.cells cur e fr):=by
 rw[aA]at aD;obtain⟨b4,a,aO,a3,bJ⟩:=aD _ af rfl;have aa:Value.eZ v=true:=bJ;rw[eV aa]at a3;subst a3;have an:=h.cE y;rw[aA.bY (gl af (.inl rfl))]at an;obtain⟨eC,b7,c6,dY,k0,bM,b1,cZ,cF,dL⟩:=ctx q (s y) (bL (aq y)) (S y) none _ an.2 af;rw[k0]at aO;simp only[some.injEq,Prod.mk.injEq,true_and]at aO;obtain⟨rfl,rfl⟩:=aO;rw[al]at cF;obtain⟨b,cur,aS,fr,S2,aV,bK,cn,_⟩:=cF;simp at aV;exact⟨b,cur,aS,fr,aV,cn⟩
theorem DI {P:Program} {T e:TypeId} (aN:P.underlying T=some (.slice e)) (w:World):∀d,(Op.equalIn (d+1) T (.slice none 0 0) (.slice none 0 0)).run P w= .ok true w/\
  ∀a n c,(Op.equalIn (d+1) T (.slice (some a) n c) (.slice none 0 0)).run P w= .ok false w:=by
 intro d;refine⟨by simp[Op.equalIn,run_underlying aN],λa n c=>by simp[Op.equalIn,run_underlying aN]⟩
theorem DJ {P:Program} {T e:TypeId} (aN:P.underlying T=some (.pointer e)) (w:World):∀d,(Op.equalIn (d+1) T (.pointer none) (.pointer none)).run P w= .ok true w/\
  ∀a,(Op.equalIn (d+1) T (.pointer (some a)) (.pointer none)).run P w= .ok false w:=by
 intro d;refine⟨by simp[Op.equalIn,run_underlying aN],λa=>by simp[Op.equalIn,run_underlying aN]⟩
theorem DK {P:Program} {T:TypeId} (aN:P.underlying T=some .bool) (w:World):∀d a b,(Op.equalIn (d+1) T (.bool a) (.bool b)).run P w= .ok (a==b) w:=by
 intro d a b;simp[Op.equalIn,run_underlying aN]
theorem DL (h:bg w0 F0 X F S s aq w) {x:I} {v:Value} (aD:aA w F s aq x v (λ_=>False)) {T e:TypeId} {r:Xu} (aI:h1 s x=some r) (aN:C.P.underlying T=some (.slice e)):
  ∃b,(Op.equal T v (.slice none 0 0)).run C.P w= .ok b w/\(∀eh,r=some eh->eh=b)/\Value.eZ v=true/\∃a n c,v= .slice a n c:=by
 have aM:=λa n c=>(DI aN w 9999).2 a n c;have fb:=(DI aN w 9999).1;cases x with
 |a5=>
  have:=ob aD;subst this;simp[h1]at aI;subst aI;exact⟨true,fb,by simp,rfl,_,_,_,rfl⟩
 |slice xs=>
  have bj:=(aA.bY rfl).1 aD;rw[al,eV bj.1]at bj;simp only[h1,some.injEq]at aI;obtain⟨_,⟨rfl,a,c,ad,_,qc⟩|⟨b,o,cap,dc,sz,ad,aB⟩⟩:=bj
  .simp at ad aI;subst ad;subst aI;cases a with
   |none=>
    have:=qc rfl;subst this;exact⟨true,fb,by simp,rfl,_,_,_,rfl⟩
   |some a=>exact⟨false,aM _ _ _,by simp,rfl,_,_,_,rfl⟩
  .simp at ad;subst ad;refine⟨false,aM _ _ _,?_,rfl,_,_,_,rfl⟩;subst aI;split<;>simp
 |h y q=>
  simp only[h1]at aI;split at aI
  .rename_i sz xs af;simp only[some.injEq]at aI;rcases zc h aD af with⟨rfl,a,rfl⟩|⟨b,cap,cur,aS,fr,rfl,_⟩
   .simp at aI;subst aI;cases a with
    |none=>exact⟨true,fb,by simp,rfl,_,_,_,rfl⟩
    |some a=>exact⟨false,aM _ _ _,by simp,rfl,_,_,_,rfl⟩
   .refine⟨false,aM _ _ _,?_,rfl,_,_,_,rfl⟩;subst aI;split<;>simp
  .cases aI
 |_=>simp[h1]at aI
theorem DM (h:bg w0 F0 X F S s aq w) {x:I} {v:Value} (aD:aA w F s aq x v (λ_=>False)) {T e:TypeId} {r:Bool} (aI:jv s x=some r) (aN:C.P.underlying T=some (.pointer e)):
  (Op.equal T v (.pointer none)).run C.P w= .ok r w/\∃a,v= .pointer a:=by
 have aM:=λa=>(DJ aN w 9999).2 a;have fb:=(DJ aN w 9999).1;cases x with
 |cJ=>
  have:=DF aD;subst this;simp[jv]at aI;subst aI;exact⟨fb,_,rfl⟩
 |ref d=>
  have bj:=(aA.bY rfl).1 aD;rw[al,eV bj.1]at bj;simp[jv]at aI;subst aI;obtain⟨_,b,o,dc,ad,_⟩:=bj;simp at ad;subst ad;exact⟨aM _,_,rfl⟩
 |h y q=>
  simp only[jv]at aI;split at aI
  .rename_i d af;simp only[some.injEq]at aI;subst aI;obtain⟨b,cur,e,fr,rfl,_⟩:=DH h aD af;exact⟨aM _,_,rfl⟩
  .cases aI
 |_=>simp[jv]at aI
theorem J5 (a0:C.dm):∀(ar:List (TypeId×Nat)) (gs:List Field) (n:Nat) (ds es:Xy) (r:Bool) (e6 l2 bx bE:Xw) (xs bT:Array Value) (S1 S2:Nat->Prop),
  gs.map (λg=>(g.type,g.offset))=ar->(gs.all λf=>decide (f.name≠ "_"))=true->kM C ar n ds es=some r->aQ w F ds bx S1->aQ w F es bE S2->xs.toList=e6++bx->e6.length=n->bT.toList=l2++bE->l2.length=n->
  ∀m,(Op.eqFields (m+1) xs bT gs).run C.P w= .ok r w:=by
 intro ar;induction ar with
 |nil=>
  intro gs n ds es r e6 l2 bx bE xs bT S1 S2 bf aU he ab ad an hl a2 rF m;have:gs=[]:=by simpa using bf
  subst this;cases ds<;>cases es<;>simp[kM]at he;subst he;simp[Op.eqFields]
 |cons p ar ih=>
  obtain⟨hZ,off⟩:=p;intro gs n ds es r e6 l2 bx bE xs bT S1 S2 bf aU he ab ad an hl a2 rF m;cases gs with
  |nil=>simp at bf
  |cons g gs=>
   simp only[map_cons,cons.injEq,Prod.mk.injEq]at bf;obtain⟨⟨rfl,rfl⟩,bf⟩:=bf;simp only[all_cons,Bool.and_eq_true,decide_eq_true_eq]at aU;cases ds with
   |nil=>simp[kM]at he
   |cons d ds=>
   cases es with
   |nil=>simp[kM]at he
   |cons e es=>
   simp only[kM]at he;split at he
   .rename_i ng;rw[aQ]at ab ad;obtain⟨ag,a4,vQ,J6,rfl,dS,e9,fX,ni,et⟩:=ab;obtain⟨g7,gq,VV,J7,rfl,gX,fv,fZ,gA,jU⟩:=ad;have step:∀(x y:Value) (z:Bool),(C.T g.type).flat=true->ag=[x]->g7=[y]->(∀m,(Op.equalIn (m+1) g.type x y).run C.P w= .ok z w)->∀e0,kM C ar (n+1) ds es=some e0->
      (Op.eqFields (m+1) xs bT (g::gs)).run C.P w= .ok (z&&e0) w:=by
     intro x y z gP J8 zd heq e0 dn;subst J8;subst zd;have J9:xs[g.offset]? =some x:=by
      rw[<-Array.getElem?_toList,an,ng,<-hl,getElem?_append_right (Nat.le_refl _)];simp
     have J_:bT[g.offset]? =some y:=by
      rw[<-Array.getElem?_toList,a2,ng,<-rF,getElem?_append_right (Nat.le_refl _)];simp
     have aE:=ih gs (n+1) ds es e0 (e6++[x]) (l2++[y]) a4 gq xs bT J6 J7 bf aU.2 dn e9 fv (by rw[an];simp) (by simp[hl]) (by rw[a2];simp) (by simp[rF]) m;unfold Op.eqFields;rw[if_pos aU.1];simp only[part,Sem.run_bind,y_ a0 gP,Result.andThen_ok,Bool.false_eq_true,if_false,J9,J_,Sem.run_pure,heq];cases z
     .simp
     .simpa using aE
    split at he
    .rename_i k bM a b1 b ai;split at he
     .rename_i Ka;obtain⟨rfl,rfl⟩:=Ka;rw[al]at dS gX;simp only[map_eq_some_iff]at he;obtain⟨e0,dn,rfl⟩:=he;obtain⟨i,tx,DN,aM,aS,aV,bK,cn,bB,bt⟩:=a0.info (ev ai (by simp));rw[ai]at bt;have nj:=ts bt;subst nj;exact step _ _ _ (by simp[eU.flat,ai]) dS gX (λm=>run_equalIn_int w m g.type _ _ a b bB) e0 dn
     .cases he
    .rename_i a b ai;rw[al]at dS gX;simp only[map_eq_some_iff]at he;obtain⟨e0,dn,rfl⟩:=he;obtain⟨i,tx,DN,aM,aS,aV,bK,cn,bB,bt⟩:=a0.info (ev ai (by simp));rw[ai]at bt;have nj:=y5 bt;subst nj;exact step _ _ _ (by simp[eU.flat,ai]) dS gX (λm=>run_equalIn_bool' w m g.type a b bB) e0 dn
    .rename_i a b ai;rw[al]at dS gX;simp only[map_eq_some_iff]at he;obtain⟨e0,dn,rfl⟩:=he;obtain⟨i,tx,DN,aM,aS,aV,bK,cn,bB,bt⟩:=a0.info (ev ai (by simp));rw[ai]at bt;have nj:=nc bt;subst nj;refine step _ _ (a==b) (by simp[eU.flat,ai]) dS gX (λm=>?_) e0 dn;rw[run_equalIn_string w m g.type _ _ bB,tw,tw]
    .cases he
   .cases he
theorem DO (a0:C.dm) {T:TypeId} {ar:List (TypeId×Nat)} (ai:(C.T T).k= .struct ar) {ds es:Xy} {fi g5:Value} {S1 S2:Nat->Prop} {r:Bool} (an:aA w F s aq (.agg ds) fi S1) (a2:aA w F s aq (.agg es) g5 S2)
  (cx:structEq C.P T=true) (he:kM C ar 0 ds es=some r) (op:BinOp) (tz tA:Operand):
  (eqGuard op T tz tA fi g5).run C.P w= .ok () w/\(Op.equal T fi g5).run C.P w= .ok r w:=by
 obtain⟨i,d,z,aM,aS,aV,bK,cn,bB,bt⟩:=a0.info (ev ai (by simp));rw[ai]at bt;obtain⟨gs,rfl,fy⟩:=tr bt;have tB:C.P.fieldsOf T=gs:=by simp[Program.fieldsOf,bB]
 simp only[structEq,Bool.and_eq_true,Bool.not_eq_true',tB]at cx;obtain⟨⟨gX,fv⟩,fZ⟩:=cx;obtain⟨⟨xs,rfl⟩,lR⟩:=(aA.bY rfl).1 an;obtain⟨⟨bT,rfl⟩,p8⟩:=(aA.bY rfl).1 a2;rw[al]at lR p8;constructor
 .cases op<;>simp[eqGuard,fv]
 .show(Op.equalIn (9999+1) T _ _).run C.P w=_;rw[run_equalIn_struct w 9999 T xs bT (by rw[tB];exact bB) gX,tB];exact J5 a0 ar gs.toList 0 ds es r [] [] _ _ xs bT S1 S2 fy fZ he lR p8 rfl rfl rfl rfl 9998
theorem Kb (a0:C.dm) (h:bg w0 F0 X F S s aq w) {op:BinOp} {T:TypeId} {x y:I} {fi g5:Value} (tz tA:Operand) (an:aA w F s aq x fi (λ_=>False)) (a2:aA w F s aq y g5 (λ_=>False))
  (he:dE C s op T x y=some av):Good C w0 F0 X aq w (do eqGuard op T tz tA fi g5;binOp op T fi g5) av s:=by
 unfold dE at he;split at he
 .have:=lP an;subst this;have:=lP a2;subst this;obtain⟨v,ab,ad⟩:=J2 (P:=C.P) (T:=T) he w;refine Good.same h (v:=v) ?_ ?_ ad
  .rw[eqGuard_at_int];exact ab
  .revert he;unfold hh;cases op<;>simp only<;>split<;>simp<;>(rintro rfl;rfl)
 .have:=lQ an;subst this;have:=lQ a2;subst this;obtain⟨v,ab,ad⟩:=J4 (P:=C.P) (T:=T) he w;refine Good.same h (v:=v) ?_ ?_ ad
  .rw[eqGuard_at_string];exact ab
  .revert he;unfold lb;cases op<;>simp only<;>(try split)<;>simp<;>(try (rintro rfl;rfl))
 .have:=o_ an;subst this;have:=o_ a2;subst this;split at he
  .rename_i ai;simp only[some.injEq]at he;subst he;obtain⟨i,d,z,aM,aS,aV,bK,cn,bB,bt⟩:=a0.info (ev ai (by simp));rw[ai]at bt;have:=y5 bt;subst this;refine Good.same h ?_ rfl (of_bool _);rw[eqGuard_at_bool];simp[binOp,Op.equal,Op.maxDepth,DK bB w 9999]
  .rename_i ai;simp only[some.injEq]at he;subst he;obtain⟨i,d,z,aM,aS,aV,bK,cn,bB,bt⟩:=a0.info (ev ai (by simp));rw[ai]at bt;have:=y5 bt;subst this;refine Good.same h ?_ rfl (of_bool _);rw[eqGuard_at_bool];simp[binOp,Op.equal,Op.maxDepth,DK bB w 9999]
  .cases he
 .split at he
  .rename_i ar ai;split at he
   .rename_i cx;simp only[map_eq_some_iff]at he;obtain⟨r,aI,rfl⟩:=he;obtain⟨aO,a3⟩:=DO a0 ai an a2 cx aI .eql tz tA;obtain⟨⟨xs,rfl⟩,_⟩:=(aA.bY rfl).1 an;obtain⟨⟨bT,rfl⟩,_⟩:=(aA.bY rfl).1 a2;exact Good.same h (by simp[aO,binOp,a3]) rfl (of_bool _)
   .cases he
  .rename_i ar ai;split at he
   .rename_i cx;simp only[map_eq_some_iff]at he;obtain⟨r,aI,rfl⟩:=he;obtain⟨aO,a3⟩:=DO a0 ai an a2 cx aI .neq tz tA;obtain⟨⟨xs,rfl⟩,_⟩:=(aA.bY rfl).1 an;obtain⟨⟨bT,rfl⟩,_⟩:=(aA.bY rfl).1 a2;exact Good.same h (by simp[aO,binOp,a3]) rfl (of_bool _)
   .cases he
  .cases he
 .have:=ob a2;subst this;split at he
  .rename_i e ai;simp only[map_eq_some_iff]at he;obtain⟨r,aI,rfl⟩:=he;obtain⟨i,d,z,aM,aS,aV,bK,cn,bB,bt⟩:=a0.info (ev ai (by simp));rw[ai]at bt;have:=je bt;subst this;obtain⟨b,ab,ad,aB,J,b2,mr,rfl⟩:=DL h an aI bB;refine Good.same h (v:=.bool b) ?_ ?_ ?_
   .rw[eqGuard_at_slice];simp[binOp,ab]
   .cases r<;>rfl
   .cases r with
    |none=>exact zb b
    |some eh=>have:=ad eh rfl;subst this;simp only[mB,Bool.bne_false];exact of_bool _
  .rename_i e ai;simp only[map_eq_some_iff]at he;obtain⟨r,aI,rfl⟩:=he;obtain⟨i,d,z,aM,aS,aV,bK,cn,bB,bt⟩:=a0.info (ev ai (by simp));rw[ai]at bt;have:=je bt;subst this;obtain⟨b,ab,ad,aB,J,b2,mr,rfl⟩:=DL h an aI bB;refine Good.same h (v:=.bool !b) ?_ ?_ ?_
   .rw[eqGuard_at_slice];simp[binOp,ab]
   .cases r<;>rfl
   .cases r with
    |none=>exact zb _
    |some eh=>have:=ad eh rfl;subst this;simp only[mB,Bool.bne_true];exact of_bool _
  .cases he
 .have:=DF a2;subst this;split at he
  .rename_i e ai;simp only[map_eq_some_iff]at he;obtain⟨r,aI,rfl⟩:=he;obtain⟨i,d,z,aM,aS,aV,bK,cn,bB,bt⟩:=a0.info (ev ai (by simp));rw[ai]at bt;have:=Dy bt;subst this;obtain⟨ab,J,rfl⟩:=DM h an aI bB;refine Good.same h (v:=.bool r) ?_ rfl (of_bool _);rw[eqGuard_at_pointer];simp[binOp,ab]
  .rename_i e ai;simp only[map_eq_some_iff]at he;obtain⟨r,aI,rfl⟩:=he;obtain⟨i,d,z,aM,aS,aV,bK,cn,bB,bt⟩:=a0.info (ev ai (by simp));rw[ai]at bt;have:=Dy bt;subst this;obtain⟨ab,J,rfl⟩:=DM h an aI bB;refine Good.same h (v:=.bool !r) ?_ rfl (of_bool _);rw[eqGuard_at_pointer];simp[binOp,ab]
  .cases he
 .cases he
end
section
variable {C:bA} {w0 w:World} {F0 X F:Nat->Prop} {S:Nat->Nat->Prop} {s s1:ah} {aq:Nat->Value} {av:I}
def un (op:UnOp) (x:I):Option I:=
 match op,x with
 | .not,.bool b=>some (.bool !b)
 | .not,.dR=>some .dR
 | .neg,.int k n=>some (.int k (k.wrap (0-n)))
 |_,_=>none
theorem Kc (h:bg w0 F0 X F S s aq w) {op:UnOp} {x:I} {v:Value} (aD:aA w F s aq x v (λ_=>False)) (he:un op x=some av):Good C w0 F0 X aq w (Op.unary op v) av s:=by
 unfold un at he;split at he<;>first|(cases he;done)|(simp only[some.injEq]at he;subst he)
 .have:=o_ aD;subst this;exact Good.same h rfl rfl (of_bool _)
 .obtain⟨b,rfl⟩:=DG aD;exact Good.same h rfl rfl (zb _)
 .have:=lP aD;subst this;exact Good.same h rfl rfl (of_int _ _)
def hC (s:ah) (x:I):Option I:=
 match x with
 | .ref d=>some (.ref d)
 | .fn f c=>some (.fn f c)
 | .h y q=>match I.sub q (s y)with
   |some (.bh _)=>some (.h y q)
   |_=>none
 |_=>none
theorem Kd {d:I} {v:Value} {aF:Nat->Prop} (h:aA w F s aq (.ref d) v aF):∃b o dc,v= .pointer (some ⟨b,o,none⟩)/\F b/\gi w b o dc/\al w F d dc (λ_=>False):=by
 have bj:=(aA.bY rfl).1 h;rw[al,eV bj.1]at bj;obtain⟨_,b,o,dc,ab,ad,aB,aY⟩:=bj;simp at ab;subst ab;exact⟨b,o,dc,rfl,ad,aB,aY⟩
theorem Ke (h:bg w0 F0 X F S s aq w) {x:I} {v:Value} (aD:aA w F s aq x v (λ_=>False)) (he:hC s x=some av):
  av=x/\x.plain=true/\((∃a,v= .pointer (some a))\/∃f c,v= .func (.func f) #[] c):=by
 unfold hC at he;split at he
 .simp only[some.injEq]at he;subst he;obtain⟨b,o,dc,rfl,_⟩:=Kd aD;exact⟨rfl,rfl,.inl ⟨_,rfl⟩⟩
 .simp only[some.injEq]at he;subst he;rw[aA]at aD;obtain⟨arr,rfl,_⟩:=aD;exact⟨rfl,rfl,.inr ⟨_,_,rfl⟩⟩
 .split at he
  .rename_i d af;simp only[some.injEq]at he;subst he;obtain⟨b,cur,e,fr,rfl,_⟩:=DH h aD af;exact⟨rfl,rfl,.inl ⟨_,rfl⟩⟩
  .cases he
 .cases he
def ex (s:ah) (x:I) (k:Nat):Option I:=
 match x with
 | .tuple ds=>match ds[k]? with
   |some d=>if d.plain=true then some d else none
   |none=>none
 | .h y q=>match I.sub q (s y)with
   |some (.tuple ds)=>match ds[k]? with
    |some d=>if I.dz ds=true then none else some (if d.plain then d else .h y (q++[k]))
    |none=>none
   |_=>none
 |_=>none
theorem DP:∀(vs:Xw) (k:Nat) (x:Value) (ds:Xy),vs[k]? =some x->vs.length=ds.length->(∀(j:Nat) (d:I) (y:Value),ds[j]? =some d->vs[j]? =some y->(gk y).length=d.wd)->
  ∃l r,vs.flatMap gk=l++(gk x++r)/\l.length=I.c3 (ds.take k)
 |[],k,x,ds,h,_,_=>by simp at h
 |v::vs,0,x,ds,h,hl,hw=>by
  simp at h;subst h;exact⟨[],vs.flatMap gk,by simp,by simp[I.c3]⟩
 |v::vs,k+1,x,d::ds,h,hl,hw=>by
  obtain⟨l,r,aM,aS⟩:=DP vs k x ds (by simpa using h) (by simpa using hl) (λj d y ab ad=>hw (j+1) d y (by simpa using ab) (by simpa using ad));refine⟨gk v++l,r,by simp[aM],?_⟩;have:=hw 0 d v (by simp) (by simp);simp[I.c3,aS,this]
 |v::vs,k+1,x,[],h,hl,hw=>by simp at hl
theorem Kf {d:I} {v:Value} (h:gN d v) (_hd:∀vs,d≠.tuple vs):bL v=gk v:=by
 cases d with
 |agg ar=>obtain⟨arr,rfl⟩:=h;rfl
 |_=>
  have ab:Value.eZ v=true:=h;cases v<;>first|rfl|(simp[Value.eZ]at ab)
theorem Kg {d:I} {v:Value} (h:gN d v) (af:∀vs,d≠.tuple vs):cO d v:=by
 cases d with
 |tuple vs=>exact(af _ rfl).elim
 |_=>exact h
theorem Kh (h:bg w0 F0 X F S s aq w) {x:I} {v:Value} {k:Nat} (aD:aA w F s aq x v (λ_=>False)) (he:ex s x k=some av):Good C w0 F0 X aq w (Instr.extract v k) av s:=by
 have pick:∀(ds:Xy) (d:I) (arr:Array Value),ds[k]? =some d->(arr.size=ds.length/\∀(k:Nat) (d:I) (x:Value),ds[k]? =some d->arr[k]? =some x->gN d x/\(∀vs,d≠.tuple vs)/\(gk x).length=d.wd)->
   ∃x,arr[k]? =some x/\cO d x/\((bL (.tuple arr)).drop (I.c3 (ds.take k))).take d.wd=bL x:=by
  intro ds d arr af ⟨bz,iN⟩;have c8:k<arr.size:=by rw[bz];exact(List.getElem?_eq_some_iff.1 af).1
  have an:arr[k]? =some arr[k]:=Array.getElem?_eq_getElem c8;obtain⟨aO,a3,bJ⟩:=iN k d _ af an;obtain⟨l,r,aM,aS⟩:=DP arr.toList k arr[k] ds (by simp[c8]) (by simpa using bz) (λj d y ab ad=>(iN j d y ab (by simpa using ad)).2.2);refine⟨_,an,Kg aO a3,?_⟩;rw[Kf aO a3];simp only[bL];rw[aM];exact p3 l _ r _ _ aS bJ
 unfold ex at he;split at he
 .rename_i ds;split at he
  .rename_i d af;split at he
   .rename_i ao;simp only[some.injEq]at he;subst he;have bj:=(aA.bY rfl).1 aD;obtain⟨⟨arr,rfl,bz⟩,e7⟩:=bj;obtain⟨x,an,aa,aj⟩:=pick ds d arr af bz;have aI:(Instr.extract (.tuple arr) k).run C.P w= .ok x w:=by simp[Instr.extract,an]
    rw[al]at e7;obtain⟨bx,eB,bE,S1,gj,e,fW,dS,e9,fX,et,i_⟩:=aQ.pick ds _ _ k d e7 af;rw[e,p3 bx eB bE _ _ fW (al.length _ _ _ et)]at aj;by_cases aN:d.tree=true
    .exact Good.same h aI ao ((aA.bY aN).2 ⟨aa,by rw[<-aj];exact al.plain _ _ _ _ ao et⟩)
    .cases d<;>first|exact(aN rfl).elim|(rw[al]at et;exact et.elim)|exact Good.same h aI rfl (by rw[aA];trivial)|(have bn:=al.plain _ _ _ (λ_=>False) ao et;rw[aj,eV (by exact aa)]at bn;exact Good.same h aI rfl (aA.nh _ _ rfl bn))
   .cases he
  .cases he
 .rename_i y q;split at he
  .rename_i ds af;split at he
   .rename_i d ai;split at he
    .cases he
    .rename_i fO;simp only[some.injEq]at he;have fO:(I.tuple ds).plain=false:=by simpa [I.plain]using fO
     rw[aA]at aD;obtain⟨b4,a,aO,a3,bJ⟩:=aD _ af fO;obtain⟨arr,rfl,bz⟩:=bJ;obtain⟨x,an,aa,aj⟩:=pick ds d arr ai bz;have aI:(Instr.extract (.tuple arr) k).run C.P w= .ok x w:=by simp[Instr.extract,an]
     have a2:=h.cE y;rw[aA.bY (gl af (.inl fO))]at a2;obtain⟨eC,b7,c6,dY,k0,bM,b1,cZ,cF,dL⟩:=ctx q (s y) (bL (aq y)) (S y) none _ a2.2 af;rw[k0]at aO;simp only[some.injEq,Prod.mk.injEq,true_and]at aO;obtain⟨rfl,rfl⟩:=aO;rw[a3]at aj;split at he
     .rename_i ao;subst he;rw[al]at cF;obtain⟨bx,eB,bE,S1,gj,e,fW,dS,e9,fX,et,i_⟩:=aQ.pick ds _ _ k d cF ai;rw[e,p3 bx eB bE _ _ fW (al.length _ _ _ et)]at aj;by_cases aN:d.tree=true
      .exact Good.same h aI ao ((aA.bY aN).2 ⟨aa,by rw[<-aj];exact al.plain _ _ _ _ ao et⟩)
      .cases d<;>first|exact(aN rfl).elim|(rw[al]at et;exact et.elim)|exact Good.same h aI rfl (by rw[aA];trivial)|(have bn:=al.plain _ _ _ (λ_=>False) ao et;rw[aj,eV (by exact aa)]at bn;exact Good.same h aI rfl (aA.nh _ _ rfl bn))
     .subst he;refine Good.same h aI rfl ?_;rw[aA];intro d2 gy tm;rw[tq w q _ _ _ _ _ _ [k] k0];rw[tp _ _ _ _ af]at gy;simp only[I.sub,ai,some.injEq]at gy;subst gy;simp only[cu,ai];exact⟨_,_,rfl,aj.symm,aa⟩
   .cases he
  .cases he
 .cases he
def km (C:bA) (s:ah) (T:TypeId) (x:I) (k:Nat):Option I:=
 match(C.T T).k with
 | .struct ar=>match ar[k]? with
   |some (hZ,off)=>match x with
    | .agg ds=>match ds[k]? with
      |some d=>if I.c3 (ds.take k)=off/\fits C hZ d=true/\d.plain=true/\d.tree=true then some d else none
      |none=>none
    | .h y q=>match I.sub q (s y)with
      |some (.agg ds)=>match ds[k]? with
       |some d=>if I.c3 (ds.take k)=off/\fits C hZ d=true/\I.dz ds=false/\d.tree=true then some (if d.plain then d else .h y (q++[k]))else none
       |none=>none
      |_=>none
    |_=>none
   |none=>none
 |_=>none
theorem Ki (a0:C.dm) (h:bg w0 F0 X F S s aq w) {T:TypeId} {x:I} {v:Value} {k:Nat} (aD:aA w F s aq x v (λ_=>False)) (he:km C s T x k=some av):Good C w0 F0 X aq w (Instr.field T v k) av s:=by
 have key:∀(ar:List (TypeId×Nat)) (hZ:TypeId) (off:Nat),(C.T T).k= .struct ar->ar[k]? =some (hZ,off)->∀(ds:Xy) (d:I) (arr:Array Value) (aF:Nat->Prop),ds[k]? =some d->I.c3 (ds.take k)=off->fits C hZ d=true->aQ w F ds arr.toList aF->
   ∃x gj,(Instr.field T (.agg arr) k).run C.P w= .ok x w/\cO d x/\al w F d (bL x) gj/\(arr.toList.drop off).take d.wd=bL x:=by
  intro ar hZ off ai bk ds d arr aF af ng gz e7;obtain⟨i,tx,z,aM,aS,aV,bK,cn,bB,bt⟩:=a0.info (ev ai (by simp));rw[ai]at bt;obtain⟨gs,rfl,fy⟩:=tr bt;obtain⟨g,aO,rfl,rfl⟩:∃g,gs[k]? =some g/\g.type=hZ/\g.offset=off:=by
   rw[<-fy,getElem?_map]at bk;simp only[map_eq_some_iff,Prod.mk.injEq]at bk;obtain⟨g,ab,ad,aB⟩:=bk;exact⟨g,by simpa using ab,ad,aB⟩
  obtain⟨bx,eB,bE,S1,gj,e,fW,dS,e9,fX,et,i_⟩:=aQ.pick ds _ _ k d e7 af;obtain⟨x,aI,rG,lO⟩:=JR (w:=w) a0 e (fW.trans ng) et gz;refine⟨x,gj,?_,lO,by rw[rG];exact et,?_⟩
  .simp[Instr.field,run_underlying bB,aO,asAgg,aI]
  .rw[e,rG,<-ng];exact p3 bx eB bE _ _ fW (al.length _ _ _ et)
 have DQ:∀(d:I) (x:Value) (gj:Nat->Prop),d.plain=true->cO d x->al w F d (bL x) gj->aA w F s aq d x (λ_=>False):=by
  intro d x gj ao aa e7;by_cases aN:d.tree=true
  .exact(aA.bY aN).2 ⟨aa,al.plain _ _ _ _ ao e7⟩
  .cases d<;>first|exact(aN rfl).elim|(rw[al]at e7;exact e7.elim)|(rw[aA];trivial)|(have bn:=al.plain _ _ _ (λ_=>False) ao e7;rw[eV (by exact aa)]at bn;exact aA.nh _ _ rfl bn)
 unfold km at he;split at he
 .rename_i ar ai;split at he
  .rename_i hZ off bk;split at he
   .rename_i ds;split at he
    .rename_i d af;split at he
     .rename_i aj;simp only[some.injEq]at he;subst he;obtain⟨⟨arr,rfl⟩,e7⟩:=(aA.bY rfl).1 aD;rw[al]at e7;obtain⟨x,gj,aI,aa,ze,_⟩:=key ar hZ off ai bk ds d arr _ af aj.1 aj.2.1 e7;exact Good.same h aI aj.2.2.1 (DQ d x gj aj.2.2.1 aa ze)
     .cases he
    .cases he
   .rename_i y q;split at he
    .rename_i ds af;split at he
     .rename_i d n7;split at he
      .rename_i aj;simp only[some.injEq]at he;have fO:(I.agg ds).plain=false:=by simpa [I.plain]using aj.2.2.1
       rw[aA]at aD;obtain⟨b4,a,aO,a3,bJ⟩:=aD _ af fO;obtain⟨arr,rfl⟩:=bJ;have a2:=h.cE y;rw[aA.bY (gl af (.inl fO))]at a2;obtain⟨eC,b7,c6,dY,k0,bM,b1,cZ,cF,dL⟩:=ctx q (s y) (bL (aq y)) (S y) none _ a2.2 af;rw[k0]at aO;simp only[some.injEq,Prod.mk.injEq,true_and]at aO;obtain⟨rfl,rfl⟩:=aO;rw[al,<-a3]at cF;obtain⟨x,gj,aI,aa,ze,hB⟩:=key ar hZ off ai bk ds d arr _ n7 aj.1 aj.2.1 cF;by_cases ao:d.plain=true
       .rw[if_pos ao]at he;subst he;exact Good.same h aI ao (DQ d x gj ao aa ze)
       .rw[if_neg ao]at he;subst he;refine Good.same h aI rfl ?_;rw[aA];intro d2 gy tm;rw[tq w q _ _ _ _ _ _ [k] k0];rw[tp _ _ _ _ af]at gy;simp only[I.sub,n7,some.injEq]at gy;subst gy;simp only[cu,n7];refine⟨_,_,rfl,?_,aa⟩;rw[aj.1,<-a3];exact hB.symm
      .cases he
     .cases he
    .cases he
   .cases he
  .cases he
 .cases he
end
section
variable {C:bA} {w0 w:World} {F0 X F:Nat->Prop} {S:Nat->Nat->Prop} {s s1:ah} {aq:Nat->Value} {av:I}
def idx (C:bA) (T:TypeId) (x i:I):Option I:=
 match(C.T T).k,x,i with
 | .str,.str l,.int _ n=>if 0<=n then(match l[n.toNat]? with|some b=>some (.int .u8 b.toNat)|none=>none)else none
 |_,_,_=>none
theorem Kj (l:Xq) (n:Nat):(⟨⟨l⟩⟩:ByteArray)[n]? =l[n]? :=by
 by_cases h:n<l.length
 .have bj:n<(⟨⟨l⟩⟩:ByteArray).size:=h;rw[getElem?_eq_getElem h,getElem?_pos (⟨⟨l⟩⟩:ByteArray) n bj];rfl
 .have bj:¬n<(⟨⟨l⟩⟩:ByteArray).size:=h;rw[getElem?_eq_none (by omega),getElem?_neg (⟨⟨l⟩⟩:ByteArray) n bj]
theorem Kk (a0:C.dm) (h:bg w0 F0 X F S s aq w) {T:TypeId} {x i:I} {v lM:Value} (aD:aA w F s aq x v (λ_=>False)) (aE:aA w F s aq i lM (λ_=>False)) (he:idx C T x i=some av):
  Good C w0 F0 X aq w (Instr.index T v lM) av s:=by
 unfold idx at he;split at he
 .rename_i l k n ai;have:=lQ aD;subst this;have:=lP aE;subst this;obtain⟨i,d,z,aM,aS,aV,bK,cn,bB,bt⟩:=a0.info (ev ai (by simp));rw[ai]at bt;have:=nc bt;subst this;split at he
  .rename_i aU;split at he
   .rename_i b U;simp only[some.injEq]at he;subst he;refine Good.same h ?_ rfl (of_int _ _);simp[Instr.index,asIntOf,run_underlying bB,aU,Kj,U]
   .cases he
  .cases he
 .cases he
def lenOf (s:ah):I->Option Nat
 | .str l=>some l.length
 | .a5=>some 0
 | .slice xs=>some xs.length
 | .h y q=>match I.sub q (s y)with
   |some (.aw _ xs)=>some xs.length
   |_=>none
 |_=>none
def od (C:bA) (s:ah) (T:TypeId) (x:I):Option I:=
 match(C.T T).k,x with
 | .str,.str l=>some (.int .i64 l.length)
 | .slice _,.a5=>some (.int .i64 0)
 | .slice _,.slice xs=>some (.int .i64 xs.length)
 | .slice _,.h y q=>match I.sub q (s y)with
   |some (.aw _ xs)=>some (.int .i64 xs.length)
   |_=>none
 |_,_=>none
theorem vR {xs:Xy} {v:Value} {aF:Nat->Prop} (h:aA w F s aq (.slice xs) v aF):(xs=[]/\∃a c,v= .slice a 0 c/\c<=maxLen/\(a=none->c=0))\/
  ∃b o cap dc sz,v= .slice (some ⟨b,o,none⟩) xs.length cap/\F b/\xs.length<=cap/\cap<=maxLen/\(∀d∈xs,d.wd=sz)/\gi w b o dc/\aQ w F xs dc (λ_=>False):=by
 have bj:=(aA.bY rfl).1 h;rw[al,eV bj.1]at bj;obtain⟨_,⟨rfl,a,c,ad,aB⟩|⟨b,o,cap,dc,sz,ad,aB⟩⟩:=bj
 .simp at ad;exact .inl ⟨rfl,a,c,ad,aB⟩
 .simp at ad;exact .inr ⟨b,o,cap,dc,sz,ad,aB⟩
theorem Kl (a0:C.dm) (h:bg w0 F0 X F S s aq w) {T ty:TypeId} {x:I} {v:Value} (aD:aA w F s aq x v (λ_=>False)) (he:od C s T x=some av):
  Good C w0 F0 X aq w (Builtin.len_ #[T] ty #[v]) av s:=by
 unfold od at he;split at he
 .rename_i l ai;have:=lQ aD;subst this;obtain⟨i,d,z,aM,aS,aV,bK,cn,bB,bt⟩:=a0.info (ev ai (by simp));rw[ai]at bt;have:=nc bt;subst this;simp only[some.injEq]at he;subst he;refine Good.same h ?_ rfl (of_int _ _);simp[Builtin.len_,run_underlying bB,goInt];rfl
 .rename_i e ai;have:=ob aD;subst this;obtain⟨i,d,z,aM,aS,aV,bK,cn,bB,bt⟩:=a0.info (ev ai (by simp));rw[ai]at bt;have:=je bt;subst this;simp only[some.injEq]at he;subst he;refine Good.same h ?_ rfl (of_int _ _);simp[Builtin.len_,run_underlying bB,goInt]
 .rename_i e xs ai;obtain⟨i,d,z,aM,aS,aV,bK,cn,bB,bt⟩:=a0.info (ev ai (by simp));rw[ai]at bt;have:=je bt;subst this;simp only[some.injEq]at he;subst he;refine Good.same h ?_ rfl (of_int _ _);rcases vR aD with⟨rfl,a,c,rfl,_⟩|⟨b,o,cap,dc,sz,rfl,_⟩<;>simp[Builtin.len_,run_underlying bB,goInt]
 .rename_i e y q ai;split at he
  .rename_i sz xs af;obtain⟨i,d,z,aM,aS,aV,bK,cn,bB,bt⟩:=a0.info (ev ai (by simp));rw[ai]at bt;have:=je bt;subst this;simp only[some.injEq]at he;subst he;refine Good.same h ?_ rfl (of_int _ _);rcases zc h aD af with⟨rfl,_,rfl⟩|⟨b,cap,cur,aS,fr,rfl,_⟩<;>simp[Builtin.len_,run_underlying bB,goInt]
  .cases he
 .cases he
def bytesOf:Xy->Option Xq
 |[]=>some []
 | .int .u8 n::r=>if 0<=n/\n<256 then(bytesOf r).map (UInt8.ofNat n.toNat::·)else none
 |_=>none
def jf (b:UInt8):I:=.int .u8 b.toNat
theorem Km (l:Xq):bytesOf (l.map jf)=some l:=by
 induction l with
 |nil=>rfl
 |cons b l ih=>
  have U:b.toNat<256:=b.toNat_lt;simp only[map_cons,jf,bytesOf,Int.toNat_natCast];rw[if_pos (by omega),ih];simp
theorem zf:∀(xs:Xy) (l:Xq) (cs:Xw) (aF:Nat->Prop),bytesOf xs=some l->aQ w F xs cs aF->cs=l.map (λb=>.int .u8 (b.toNat:Int))/\xs.length=l.length
 |[],l,cs,aF,h,aI=>by simp[bytesOf]at h;subst h;rw[aQ]at aI;subst aI;exact⟨rfl,rfl⟩
 |x::xs,l,cs,aF,h,aI=>by
  unfold bytesOf at h;split at h
  .rename_i e;cases e
  .rename_i n r e;simp only[cons.injEq]at e;obtain⟨rfl,rfl⟩:=e;split at h
   .rename_i aU;simp only[map_eq_some_iff]at h;obtain⟨bU,ab,rfl⟩:=h;rw[aQ]at aI;obtain⟨bx,bE,S1,S2,rfl,ad,aB,_⟩:=aI;obtain⟨rfl,aY⟩:=zf xs bU bE S2 ab aB;rw[al]at ad;subst ad;refine⟨?_,by simp[aY]⟩;simp only[map_cons,cons_append,nil_append,cons.injEq,and_true,Value.int.injEq,true_and];simp only[UInt8.toNat_ofNat'];omega
   .cases h
  .cases h
theorem bg.tC (h:bg w0 F0 X F S s aq w) {az:World} {sz cap:Nat} {xs:Xy} {cur:Array Value} {e:TypeId} {fr:Nat×Nat} {Sn:Nat->Prop}
  (hw:az.heap=w.heap.push (.cells cur e fr)) (ab:az.os=w.os) (ad:az.tape=w.tape) (aB:Out az w)
  (bk:kD fr (cur.size+(sz-1))) (hle:xs.length<=cap) (hm:cap<=maxLen) (cK:cur.size=cap*sz) (iM:∀d∈xs,d.wd=sz) (aD:aQ w F xs (cur.toList.take (xs.length*sz)) Sn)
  (c8:∀b,Sn b->b<w.heap.size) (a1:∀b,Sn b->¬F b) (bm:∀u b,Sn b->¬S u b) (ba:∀b,Sn b->X b\/w0.heap.size<=b):
  bg w0 F0 X F S s aq az/\jc w0 X F S s aq az (.aw sz xs) (.slice (some ⟨w.heap.size,0,none⟩) xs.length cap):=by
 have hold:∀b,b<w.heap.size->az.heap[b]? =w.heap[b]? :=by
  intro b U;rw[hw,Array.getElem?_push,if_neg (by omega)]
 have VW:az.heap.size=w.heap.size+1:=by rw[hw];simp
 refine⟨h.grow hold (by omega) ab ad aB,.inr ⟨rfl,rfl,λb=>b=w.heap.size\/Sn b,?_,?_,?_,?_,?_⟩⟩
 .simp only[bL,gk];rw[al];refine .inr ⟨w.heap.size,cap,cur,e,fr,Sn,rfl,.inl rfl,?_,bk,hle,hm,cK,iM,?_,λc aj=>.inr aj,λaj=>Nat.lt_irrefl _ (c8 _ aj)⟩
  .rw[hw];simp
  .exact aQ.frame (λb U=>hold b (h.eu b U)) _ _ _ (λb U=>hold b (c8 b U)) aD
 .rintro b (rfl|U)
  .omega
  .have:=c8 b U;omega
 .rintro b (rfl|U) mz
  .exact Nat.lt_irrefl _ (h.eu _ mz)
  .exact a1 b U mz
 .rintro u b (rfl|U) hu
  .exact Nat.lt_irrefl _ (h.dA _ _ hu)
  .exact bm u b U hu
 .rintro b (rfl|U)
  .exact .inr h.size
  .exact ba b U
def hi (C:bA) (s:ah) (A B:TypeId) (x:I):Option I:=
 if(C.T A).ok=true then
 match(C.T B).k,x with
 | .int k,.int _ n=>some (.int k (k.wrap n))
 | .str,.str l=>match(C.T A).k with
   | .str=>some (.str l)
   |_=>none
 | .str,x=>match(C.T A).k with
   | .slice e=>match(C.T e).k with
     | .int .u8=>match x with
       | .a5=>some (.str [])
       | .slice xs=>(bytesOf xs).map .str
       | .h y q=>match I.sub q (s y)with
         |some (.aw 1 xs)=>(bytesOf xs).map .str
         |_=>none
       |_=>none
     |_=>none
   |_=>none
 | .slice e,.str l=>match(C.T A).k,(C.T e).k with
   | .str,.int .u8=>if l.length<=9223372036854775807 then some (.aw 1 (l.map jf))else none
   |_,_=>none
 |_,_=>none
 else none
theorem DR (l:Xq) (aF:Nat->Prop):aQ w F (l.map jf) (l.map λb=>.int .u8 (b.toNat:Int)) aF:=by
 induction l generalizing aF with
 |nil=>simp only[map_nil];rw[aQ]
 |cons b l ih=>
  simp only[map_cons];rw[aQ];exact⟨[.int .u8 (b.toNat:Int)],_,λ_=>False,λ_=>False,rfl,by rw[jf,al],ih _,λ_ h=>h.elim,λ_ h=>h.elim,λ_ h=>h.elim⟩
theorem Kn (a0:C.dm) (h:bg w0 F0 X F S s aq w) {A B:TypeId} {x:I} {v:Value} (aD:aA w F s aq x v (λ_=>False)) (he:hi C s A B x=some av):
  Good C w0 F0 X aq w (convert A B v) av s:=by
 unfold hi at he;split at he
 .rename_i hj;obtain⟨h_,VX,VY,ag,a4,gB,pa,rH,nk,nm⟩:=a0.info hj;split at he
  .rename_i k cH n ai;have:=lP aD;subst this;obtain⟨i,d,z,aM,aS,aV,bK,cn,bB,bt⟩:=a0.info (ev ai (by simp));rw[ai]at bt;have:=ts bt;subst this;simp only[some.injEq]at he;subst he;refine Good.same h ?_ rfl (of_int _ _);simp[convert,run_underlying nk,run_underlying bB,Conv.intToInt]
  .rename_i l ai;have:=lQ aD;subst this;obtain⟨i,d,z,aM,aS,aV,bK,cn,bB,bt⟩:=a0.info (ev ai (by simp));rw[ai]at bt;have:=nc bt;subst this;split at he
   .rename_i tD;rw[tD]at nm;have:=nc nm;subst this;simp only[some.injEq]at he;subst he;refine Good.same h ?_ rfl (mA _);simp[convert,run_underlying nk,run_underlying bB]
   .cases he
  .rename_i x ai _;obtain⟨i,d,z,aM,aS,aV,bK,cn,bB,bt⟩:=a0.info (ev ai (by simp));rw[ai]at bt;have:=nc bt;subst this;split at he
   .rename_i e tD;rw[tD]at nm;have:=je nm;subst this;split at he
    .rename_i tE;obtain⟨nd,a7,nf,f1,f2,f3,f4,f5,f6,f7⟩:=a0.info (ev tE (by simp));rw[tE]at f7;have:=ts f7;subst this;have fin:∀(l:Xq) (b o cap:Nat),gi w b o (l.map λb=>.int .u8 (b.toNat:Int))->(convert A B (.slice (some ⟨b,o,none⟩) l.length cap)).run C.P w= .ok (.string ⟨⟨l⟩⟩) w:=by
      intro l b o cap h9;refine run_convert_bytes_back w A B e ⟨b,o,none⟩ cap l nk f6 bB (λj b6=>?_);rw[Addr.add_lit];exact h9 j _ (by simp[b6])
     have nil:(convert A B (.slice none 0 0)).run C.P w= .ok (.string ⟨⟨[]⟩⟩) w:=by
      simp[convert,run_underlying nk,run_underlying bB,run_underlying f6,Conv.bytesToString];rfl
     split at he
     .have:=ob aD;subst this;simp only[some.injEq]at he;subst he;exact Good.same h nil rfl (mA _)
     .rename_i xs _;simp only[map_eq_some_iff]at he;obtain⟨l,hl,rfl⟩:=he;rcases vR aD with⟨rfl,a,c,rfl,_,qc⟩|⟨b,o,cap,dc,sz,rfl,ab,ad,aB,aY,bn,cb⟩
      .simp[bytesOf]at hl;subst hl;cases a with
       |none=>
        have:=qc rfl;subst this;exact Good.same h nil rfl (mA _)
       |some a=>
        refine Good.same h ?_ rfl (mA _);exact run_convert_bytes_back w A B e a c [] nk f6 bB (λj b6=>by simp at b6)
      .obtain⟨rfl,cc⟩:=zf xs l dc _ hl cb;rw[cc];exact Good.same h (fin l b o cap bn) rfl (mA _)
     .rename_i y q;split at he
      .rename_i xs af;simp only[map_eq_some_iff]at he;obtain⟨l,hl,rfl⟩:=he;rcases zc h aD af with⟨rfl,a,rfl⟩|⟨b,cap,cur,aS,fr,rfl,ab,ad,aB,aY,bn,cb,aF,cc,_⟩
       .simp[bytesOf]at hl;subst hl;cases a with
        |none=>exact Good.same h nil rfl (mA _)
        |some a=>
         refine Good.same h ?_ rfl (mA _);exact run_convert_bytes_back w A B e a 0 [] nk f6 bB (λj b6=>by simp at b6)
       .obtain⟨ea,hH⟩:=zf xs l _ _ hl cc;rw[hH];refine Good.same h (fin l b 0 cap ?_) rfl (mA _);rw[<-ea];exact rv ab _
      .cases he
     .cases he
    .cases he
   .cases he
  .rename_i e l ai;have:=lQ aD;subst this;obtain⟨i,d,z,aM,aS,aV,bK,cn,bB,bt⟩:=a0.info (ev ai (by simp));rw[ai]at bt;have:=je bt;subst this;split at he
   .rename_i tD tE;rw[tD]at nm;have:=nc nm;subst this;obtain⟨nd,a7,nf,f1,f2,f3,f4,f5,f6,f7⟩:=a0.info (ev tE (by simp));rw[tE]at f7;have:=ts f7;subst this;split at he
    .rename_i hl;simp only[some.injEq]at he;subst he;have aa:(⟨⟨l⟩⟩:ByteArray).size=l.length:=rfl;have rI:=grownCap_ge w l.length 0 e;have Ko:=grownCap_le_maxLen w l.length 0 e (by unfold maxLen;omega);have DS:(bytesRow ⟨⟨l⟩⟩ (grownCap w l.length 0 e)).toList=l.map (λb=>Value.int .u8 (b.toNat:Int))++replicate (grownCap w l.length 0 e-l.length) (.int .u8 0):=by
      simp[bytesRow,aa]
     have cK:(bytesRow ⟨⟨l⟩⟩ (grownCap w l.length 0 e)).size=grownCap w l.length 0 e*1:=by
      have:(bytesRow ⟨⟨l⟩⟩ (grownCap w l.length 0 e)).size=(bytesRow ⟨⟨l⟩⟩ (grownCap w l.length 0 e)).toList.length:=by simp
      rw[this,DS];simp;omega
     have n8:=run_bytes_of_string w A B e ⟨⟨l⟩⟩ nk bB f6;rw[aa]at n8;have jg:=h.tC (az:=w.drew.alloc (.cells (bytesRow ⟨⟨l⟩⟩ (grownCap w l.length 0 e)) e ((bytesRow ⟨⟨l⟩⟩ (grownCap w l.length 0 e)).size,(bytesRow ⟨⟨l⟩⟩ (grownCap w l.length 0 e)).size+1)))
      (sz:=1) (cap:=grownCap w l.length 0 e) (xs:=l.map jf) (cur:=bytesRow ⟨⟨l⟩⟩ (grownCap w l.length 0 e)) (e:=e) (Sn:=λ_=>False) rfl rfl rfl ⟨rfl,λ_=>le_succ _⟩
      (λo bG ⟨ab,_⟩=>by simp only at ab;omega) (by simpa using rI) Ko cK (by intro d af;obtain⟨b,_,rfl⟩:=mem_map.1 af;rfl)
      (by rw[DS,take_left' (by simp)];exact DR l _) (λ_ h=>h.elim) (λ_ h=>h.elim) (λ_ _ h=>h.elim) (λ_ h=>h.elim)
     simp only[length_map]at jg;exact⟨_,_,F,S,n8,jg.1,jg.2⟩
    .cases he
   .cases he
  .cases he
 .cases he
end
section
variable {C:bA} {w0 w:World} {F0 X F:Nat->Prop} {S:Nat->Nat->Prop} {s s1:ah} {aq:Nat->Value} {av:I}
def gv (d:Nat):Option I->Option Nat
 |none=>some d
 |some (.int _ n)=>if 0<=n then some n.toNat else none
 |some _=>none
def eb (C:bA) (s:ah) (T:TypeId) (x:I) (c9 aE:Option I):Option (I×ah):=
 match(C.T T).k,x with
 | .str,.str l=>match gv 0 c9,gv l.length aE with
   |some a,some b=>if a<=b/\b<=l.length then some (.str ((l.take b).drop a),s)else none
   |_,_=>none
 | .slice e,.a5=>match gv 0 c9,gv 0 aE with
   |some 0,some 0=>if(C.T e).ok=true then some (.a5,s)else none
   |_,_=>none
 | .slice e,.slice xs=>match gv 0 c9,gv xs.length aE with
   |some a,some b=>if a<=b/\b<=xs.length/\(C.T e).ok=true/\(∀d∈xs,d.wd=(C.T e).sz)then some (.slice ((xs.take b).drop a),s)else none
   |_,_=>none
 | .slice e,.h y q=>match I.sub q (s y)with
   |some (.aw sz xs)=>match gv 0 c9,gv xs.length aE with
    |some 0,some b=>if b<=xs.length/\(C.T e).ok=true then(match b9 s (.h y q)with|some (_,s1)=>some (.aw sz (xs.take b),s1)|none=>none)else none
    |_,_=>none
   |_=>none
 |_,_=>none
def oe (w:World) (F:Nat->Prop) (s:ah) (aq:Nat->Value):Option I->Option Value->Prop
 |none,none=>True
 |some d,some v=>aA w F s aq d v (λ_=>False)
 |_,_=>False
theorem DT {d:Nat} {o:Option I} {v:Option Value} (bG:oe w F s aq o v) {a:Nat} (h:gv d o=some a):(o=none/\v=none/\a=d)\/∃k,v=some (.int k a):=by
 cases o with
 |none=>
  cases v with
  |none=>simp[gv]at h;exact .inl ⟨rfl,rfl,h.symm⟩
  |some v=>simp[oe]at bG
 |some x=>
  cases v with
  |none=>simp[oe]at bG
  |some v=>
   simp only[oe]at bG;cases x with
   |int k n=>
    have:=lP bG;subst this;simp only[gv]at h;split at h
    .rename_i aU;simp only[some.injEq]at h;subst h;obtain⟨m,rfl⟩:=Int.eq_ofNat_of_zero_le aU;exact .inr ⟨k,rfl⟩
    .cases h
   |_=>simp[gv]at h
theorem rJ {P:Program} {isS:Bool} {len cap a b:Nat} {c9 aE:Option I} {qd qe:Option Value} (jV:oe w F s aq c9 qd) (kN:oe w F s aq aE qe) (bQ:gv 0 c9=some a) (U:gv len aE=some b) (kj:a<=b) (Kp:b<=cap) (_hlc:len<=cap):
  (Instr.sliceBounds isS len cap qd qe none).run P w= .ok (a,b,cap) w:=by
 rcases DT jV bQ with⟨_,rfl,rfl⟩|⟨k,rfl⟩<;>rcases DT kN U with⟨_,rfl,rfl⟩|⟨cH,rfl⟩<;>
  simp[Instr.sliceBounds,Instr.sliceBound,asIntOf,kj,Kp]
theorem pb (a0:C.dm) {T:TypeId} (ai:(C.T T).flat=true) (v:Value) (c9 aE fL:Option Value) (w:World):(Instr.sliceAt T v c9 aE fL).run C.P w=(Instr.slice T v c9 aE fL).run C.P w:=by
 obtain⟨i,d,z,aM,aS,aV,bK,cn,bB,bt⟩:=a0.info (DB ai);have c4:∀n e,d≠.array n e:=by
  clear bB;unfold eU.flat at ai;generalize (C.T T).k=ia at*;cases ia<;>cases d<;>simp[ju]at bt ai⊢
 cases d<;>first|exact(c4 _ _ rfl).elim|simp[Instr.sliceAt,run_underlying bB]
theorem qf {x:eU} {k:kI} (h:x.k=k) (ai:k≠.other) (aa:∀ar,k≠.struct ar) (U:∀e,k≠.fw e:=by simp):x.flat=true:=by
 unfold eU.flat;rw[h];cases k<;>first|rfl|exact(ai rfl).elim|exact(U _ rfl).elim|exact(aa _ rfl).elim
theorem aQ.split:∀(n:Nat) (xs:Xy) (cs:Xw) (aF:Nat->Prop),aQ w F xs cs aF->∃bx bE S1 S2,cs=bx++bE/\aQ w F (xs.take n) bx S1/\aQ w F (xs.drop n) bE S2/\(∀b,S1 b->aF b)/\(∀b,S2 b->aF b)/\(∀b,S1 b->¬S2 b)
 |0,xs,cs,aF,h=>⟨[],cs,λ_=>False,aF,rfl,by rw[take_zero,aQ],h,λ_ h=>h.elim,λ_ h=>h,λ_ h=>h.elim⟩
 |n+1,[],cs,aF,h=>by rw[aQ]at h;subst h;exact⟨[],[],λ_=>False,λ_=>False,rfl,by rw[take_nil,aQ],by rw[drop_nil,aQ],λ_ h=>h.elim,λ_ h=>h.elim,λ_ h=>h.elim⟩
 |n+1,x::xs,cs,aF,h=>by
  rw[aQ]at h;obtain⟨bx,bE,fM,e3,rfl,ab,ad,aB,aY,bn⟩:=h;obtain⟨d1,d2,S1,S2,rfl,aO,a3,bJ,cN,dD⟩:=aQ.split n xs bE e3 ad;refine⟨bx++d1,d2,λb=>fM b\/S1 b,S2,by simp,?_,a3,?_,λb U=>aY _ (cN _ U),?_⟩
  .rw[take_succ_cons,aQ];exact⟨bx,d1,fM,S1,rfl,ab,aO,λ_ h=>.inl h,λ_ h=>.inr h,λb U aj=>bn b U (bJ b aj)⟩
  .rintro b (U|U)
   .exact aB b U
   .exact aY b (bJ b U)
  .rintro b (U|U) aj
   .exact bn b U (cN b aj)
   .exact dD b U aj
theorem Kq (a0:C.dm) (h:bg w0 F0 X F S s aq w) {T:TypeId} {x:I} {v:Value} {c9 aE:Option I} {qd qe:Option Value} (an:x.plain=true) (aD:aA w F s aq x v (λ_=>False)) (jV:oe w F s aq c9 qd) (kN:oe w F s aq aE qe)
  (he:eb C s T x c9 aE=some (av,s1)):Good C w0 F0 X aq w (Instr.sliceAt T v qd qe none) av s1:=by
 unfold eb at he;split at he
 .rename_i l ai;have:=lQ aD;subst this;obtain⟨i,d,z,aM,aS,aV,bK,cn,bB,bt⟩:=a0.info (ev ai (by simp));rw[ai]at bt;have:=nc bt;subst this;split at he
  .rename_i a b bQ U;split at he
   .rename_i kj;simp only[some.injEq,Prod.mk.injEq]at he;obtain⟨rfl,rfl⟩:=he;refine Good.same h ?_ rfl (mA _);rw[pb a0 (qf ai (by simp) (by simp))];have cK:(⟨⟨l⟩⟩:ByteArray).size=l.length:=rfl;have lS:=rJ (P:=C.P) (isS:=false) (len:=l.length) (cap:=l.length) jV kN bQ U kj.1 kj.2 (Nat.le_refl _);have Kr:(⟨⟨l⟩⟩:ByteArray).extract a b=⟨⟨(l.take b).drop a⟩⟩:=by
     apply ByteArray.ext;simp[ByteArray.data_extract,drop_take]
    simp[Instr.slice,run_underlying bB,cK,lS,Kr]
   .cases he
  .cases he
 .rename_i e ai;have:=ob aD;subst this;obtain⟨i,d,z,aM,aS,aV,bK,cn,bB,bt⟩:=a0.info (ev ai (by simp));rw[ai]at bt;have:=je bt;subst this;split at he
  .rename_i bQ U;split at he
   .rename_i jx;obtain⟨nd,a7,nf,f1,f2,f3,f4,f5,f6,f7⟩:=a0.info jx;simp only[some.injEq,Prod.mk.injEq]at he;obtain⟨rfl,rfl⟩:=he;have lS:=rJ (P:=C.P) (isS:=true) (len:=0) (cap:=0) jV kN bQ U (Nat.le_refl _) (Nat.le_refl _) (Nat.le_refl _);refine Good.same h (v:=.slice none 0 0) ?_ rfl aD;rw[pb a0 (qf ai (by simp) (by simp))];simp[Instr.slice,run_underlying bB,lS,hY f1,f2]
   .cases he
  .cases he
 .rename_i e xs ai;obtain⟨i,d,z,aM,aS,aV,bK,cn,bB,bt⟩:=a0.info (ev ai (by simp));rw[ai]at bt;have:=je bt;subst this;split at he
  .rename_i a b bQ U;split at he
   .rename_i kj;obtain⟨Ks,DU,jx,iM⟩:=kj;obtain⟨nd,a7,nf,f1,f2,f3,f4,f5,f6,f7⟩:=a0.info jx;simp only[some.injEq,Prod.mk.injEq]at he;obtain⟨rfl,rfl⟩:=he;rcases vR aD with⟨rfl,rK,c,rfl,tF,qc⟩|⟨gY,o,cap,dc,sz,rfl,ab,ad,aB,aY,bn,cb⟩
    .have f_:b=0:=by simpa using DU
     subst f_;have Kt:a=0:=by omega
     subst Kt;have lS:=rJ (P:=C.P) (isS:=true) (len:=0) (cap:=c) jV kN bQ U (Nat.le_refl _) (zero_le _) (zero_le _);refine Good.same h (v:=.slice rK 0 c) ?_ rfl ((aA.bY rfl).2 ⟨rfl,by rw[al];exact .inl ⟨rfl,rK,c,rfl,tF,qc⟩⟩);rw[pb a0 (qf ai (by simp) (by simp))];cases rK with
     |none=>
      have:=qc rfl;subst this;simp[Instr.slice,run_underlying bB,lS,hY f1,f2]
     |some rK=>simp[Instr.slice,run_underlying bB,lS,hY f1,f2,Addr.add]
    .have lS:=rJ (P:=C.P) (isS:=true) (len:=xs.length) (cap:=cap) jV kN bQ U Ks (Nat.le_trans DU ad) ad;obtain⟨bx,bE,S1,S2,rfl,aO,a3,bJ,cN,dD⟩:=aQ.split b xs dc _ cb;obtain⟨d1,d2,vS,DV,rfl,bM,b1,cZ,cF,dL⟩:=aQ.split a (xs.take b) bx _ aO;have tG:d1.length=a*(C.T e).sz:=by
      rw[aQ.length _ _ _ bM,n4 _ (λd af=>iM d (mem_of_mem_take (mem_of_mem_take af))),length_take,length_take];congr 1;omega
     have hlen:((xs.take b).drop a).length=b-a:=by simp;omega
     have h9:gi w gY (o+a*(C.T e).sz) d2:=by
      rw[<-tG];have:gi w gY o (d1++(d2++bE)):=by simpa using bn
      exact this.y7
     have vT:aQ w F ((xs.take b).drop a) d2 (λ_=>False):=aQ.mono (λ_ h=>h) _ _ _ _ (λb U=>(bJ _ (cF _ U)).elim) b1;have mem:∀d∈(xs.take b).drop a,d.wd=sz:=λd af=>aY d (mem_of_mem_take (mem_of_mem_drop af));have run:(Instr.sliceAt T (.slice (some ⟨gY,o,none⟩) xs.length cap) qd qe none).run C.P w= .ok (.slice (if cap=a then some ⟨gY,o,none⟩else some ⟨gY,o+a*(C.T e).sz,none⟩) (b-a) (cap-a)) w:=by
      rw[pb a0 (qf ai (by simp) (by simp))];simp[Instr.slice,run_underlying bB,lS,hY f1,f2,Addr.add_lit]
     refine⟨_,w,F,S,run,h,.inl ⟨rfl,(aA.bY rfl).2 ⟨rfl,?_⟩⟩⟩;simp only[bL,gk];rw[al];by_cases DW:cap=a
     .have Ku:b=a:=by omega
      subst Ku;have tH:(xs.take b).drop b=[]:=by simp
      rw[if_pos DW];rw[tH]at vT⊢;rw[aQ]at vT;subst vT;exact .inr ⟨gY,o,cap-b,[],sz,by simp,ab,zero_le _,by omega,by simp,λj c b6=>by simp at b6,by rw[aQ]⟩
     .rw[if_neg DW];exact .inr ⟨gY,_,cap-a,d2,sz,by rw[hlen],ab,by rw[hlen];omega,by omega,mem,h9,vT⟩
   .cases he
  .cases he
 .rename_i e y q ai;split at he
  .rename_i sz xs af;split at he
   .rename_i b bQ U;split at he
    .rename_i vU;split at he
     .rename_i tx s2 aN;simp only[some.injEq,Prod.mk.injEq]at he;obtain⟨rfl,rfl⟩:=he;obtain⟨i,d,z,aM,aS,aV,bK,cn,bB,bt⟩:=a0.info (ev ai (by simp));rw[ai]at bt;have:=je bt;subst this;obtain⟨nd,a7,nf,f1,f2,f3,f4,f5,f6,f7⟩:=a0.info vU.2;have nj:tx= .aw sz xs:=by
       simp only[b9,af,I.plain]at aN;simp at aN;exact aN.1.symm
      subst nj;obtain⟨S1,e4,aO,a3,Sn,bJ,cN,dD,gp,gW,jS⟩:=mw h rfl aD aN;rw[eV a3,al]at bJ;rcases bJ with⟨rfl,J,gZ⟩|⟨gY,cap,cur,fb,fr,aF,gZ,bM,b1,cZ,cF,dL,dj,hk,dp,jW,mC⟩
      .simp at gZ;subst gZ;have f_:b=0:=by simpa using vU.1
       subst f_;have lS:=rJ (P:=C.P) (isS:=true) (len:=0) (cap:=0) jV kN bQ U (Nat.le_refl _) (Nat.le_refl _) (Nat.le_refl _);refine⟨.slice J 0 0,w,F,S1,?_,e4,.inr ⟨rfl,rfl,λ_=>False,by simp only[bL,gk];rw[al];exact .inl ⟨rfl,_,rfl⟩,λ_ h=>h.elim,λ_ h=>h.elim,λ_ _ h=>h.elim,λ_ h=>h.elim⟩⟩;rw[pb a0 (qf ai (by simp) (by simp))];cases J<;>simp[Instr.slice,run_underlying bB,lS,hY f1,f2]
      .simp at gZ;subst gZ;have lS:=rJ (P:=C.P) (isS:=true) (len:=xs.length) (cap:=cap) jV kN bQ U (zero_le _) (Nat.le_trans vU.1 cF) cF;have hlen:(xs.take b).length=b:=by simp;omega
       have run:(Instr.sliceAt T (.slice (some ⟨gY,0,none⟩) xs.length cap) qd qe none).run C.P w= .ok (.slice (some ⟨gY,0,none⟩) b cap) w:=by
        rw[pb a0 (qf ai (by simp) (by simp))];simp[Instr.slice,run_underlying bB,lS,hY f1,f2,Addr.add_lit]
       refine⟨_,w,F,S1,run,e4,.inr ⟨rfl,rfl,Sn,?_,cN,dD,gp,gW⟩⟩;simp only[bL,gk];rw[al];obtain⟨bx,bE,fM,e3,aj,dZ,fj,gQ,jT,la⟩:=aQ.split b xs _ _ dp;refine .inr ⟨gY,cap,cur,fb,fr,aF,by rw[hlen],bM,b1,cZ,by omega,dL,dj,λd af=>hk d (mem_of_mem_take af),?_,jW,mC⟩;have tG:bx.length=b*sz:=by
        rw[aQ.length _ _ _ dZ,n4 _ (λd af=>hk d (mem_of_mem_take af)),hlen]
       have:cur.toList.take ((xs.take b).length*sz)=bx:=by
        rw[hlen];have ad:b*sz<=xs.length*sz:=mul_le_mul_right _ vU.1;have:(cur.toList.take (xs.length*sz)).take (b*sz)=bx:=by rw[aj,take_left' tG]
        rwa [take_take,Nat.min_eq_left ad]at this
       rw[this];exact aQ.mono (λ_ h=>h) _ _ _ _ gQ dZ
     .cases he
    .cases he
   .cases he
  .cases he
 .cases he
end
section
variable {C:bA} {w0 w:World} {F0 X F:Nat->Prop} {S:Nat->Nat->Prop} {s s1:ah} {aq:Nat->Value} {av:I}
def Src (P:Program) (w:World) (size:Nat) (x:Value) (m:Nat) (news:Xw):Prop:=
 ∀az:World,az.heap=w.heap->(Builtin.lenOf x).run P az= .ok m az/\(Builtin.firstCells size m x).run P az= .ok news.toArray az
def zg (d:TypeDesc):Prop:=(∃e,d= .slice e)\/d= .string
theorem Kv {P:Program} {T bC ty e:TypeId} {og:TypeDesc} {i:TypeInfo} (aN:P.underlying T=some (.slice e)) (hu:P.underlying bC=some og) (qg:zg og) (aE:P.info? e=some i)
  {x:Value} {m:Nat} {news:Xw} (vV:Src P w i.size x m news) {b n cap:Nat} {cur:Array Value} {fb:TypeId} {fr:Nat×Nat} {l mid r:Xw} (U:w.heap[b]? =some (.cells cur fb fr)) (bk:kD fr cur.size)
  (aj:cur.toList=l++(mid++r)) (hl:l.length=n*i.size) (hm:mid.length=news.length) (vO:∀v∈news,Value.eZ v=true) (nn:n+m<=cap):
  ∃az,(Builtin.append_ #[T,bC] ty #[.slice (some ⟨b,0,none⟩) n cap,x]).run P w= .ok (.slice (some ⟨b,0,none⟩) (n+m) cap) az/\az.heap[b]? =some (.cells (l++(news++r)).toArray fb fr)/\
   (∀c,c≠b->az.heap[c]? =w.heap[c]?)/\az.heap.size=w.heap.size/\az.os=w.os/\az.tape=w.tape/\Out az w:=by
 obtain⟨az,dZ,fj⟩:=vN (P:=P) (b:=b) (o:=n*i.size) (e:=fb) (fr:=fr) news 0 cur w l mid r U bk aj (by omega) hm vO;refine⟨az,?_,fj⟩;obtain⟨ab,ad⟩:=vV w rfl;rcases qg with⟨e_,rfl⟩|rfl<;>simp[Builtin.append_,run_underlying aN,run_underlying hu,hY aE,ab,ad,nn,Addr.add_lit,dZ]
theorem Kw {P:Program} {T bC ty e:TypeId} {og:TypeDesc} {i:TypeInfo} {z:Value} (aN:P.underlying T=some (.slice e)) (hu:P.underlying bC=some og) (qg:zg og) (aE:P.info? e=some i) (bz:i.zero=some z)
  {x:Value} {m:Nat} {news:Xw} (vV:Src P w i.size x m news) {base:Option Addr} {n cap:Nat} {mD:Xw} (hold:Src P w i.size (.slice base n cap) n mD) (nn:¬n+m<=cap)
  (aU:n+m<=9223372036854775807) (zh:(n+m)*i.bytes<=140737488355328):
  (Builtin.append_ #[T,bC] ty #[.slice base n cap,x]).run P w= .ok (.slice (some ⟨w.heap.size,0,none⟩) (n+m) (grownCap w (n+m) cap e))
   (w.drew.alloc (.cells (mD.toArray++news.toArray++Builtin.zeroCells z.cells (grownCap w (n+m) cap e-(n+m))) e)):=by
 have ab:=(vV w rfl).1;have ad:=(vV w.drew rfl).2;have aB:=(hold w.drew rfl).2;have VZ:=growslice_fits (need:=n+m) (old:=cap) (by omega) zh;have gz:¬(281474976710656<Builtin.nextslicecap (n+m) cap*i.bytes):=by omega
 have rL:∀k (w:World),(askRoom k).run P w= .ok () w:=by
  intro k w;unfold askRoom;split<;>rfl
 have zi:¬(9223372036854775807<(n:Int)+(m:Int)/\i.bytes=0):=by omega
 rcases qg with⟨e_,rfl⟩|rfl<;>
  .simp[Builtin.append_,run_underlying aN,run_underlying hu,hY aE,p9 aE,ab,nn,gz,Question.forced,rL];rw[if_neg zi,aB];simp[ad,o8 aE bz,newRow,grownCap];have aM:(mD++news).toArray=mD.toArray++news.toArray:=by simp
   rw[aM,Array.append_assoc]
def vW (C:bA) (e bC:TypeId):Bool:=match(C.T bC).k,(C.T e).k with
 | .slice e_,_=>e_==e
 | .str,.int .u8=>true
 |_,_=>false
def oh (C:bA) (s:ah) (T bC:TypeId) (x y:I):Option (I×ah):=
 match(C.T T).k with
 | .slice e=>if(C.T e).ok=true/\(C.T e).zero.wd=(C.T e).sz/\(flat (C.T e).zero).isSome=true/\vW C e bC=true then
   match(match x with| .a5=>some (I.aw (C.T e).sz [],s)| .h a q=>b9 s (.h a q)|_=>none)with
   |some (.aw sz xs,s1)=>if sz=(C.T e).sz then
     match(match iP x.owner y with
      | .a5=>some ([],s1)
      | .slice bT=>some (bT,s1)
      | .str l=>some (l.map jf,s1)
      | .h a q=>match b9 s1 (.h a q)with
        |some (.aw _ bT,s2)=>some (bT,s2)
        |_=>none
      |_=>none)with
     |some (bT,s2)=>if(∀d∈bT,d.wd=(C.T e).sz)/\(xs.length+bT.length)*(C.T e).bytes<=140737488355328/\xs.length+bT.length<=9223372036854775807 then some (.aw sz (xs++bT),s2)else none
     |none=>none
    else none
   |_=>none
   else none
 |_=>none
theorem aQ.append {xs bT:Xy} {bx bE:Xw} {S1 S2 aF:Nat->Prop} (ab:aQ w F xs bx S1) (ad:aQ w F bT bE S2) (aM:∀b,S1 b->aF b) (aS:∀b,S2 b->aF b) (aV:∀b,S1 b->¬S2 b):aQ w F (xs++bT) (bx++bE) aF:=by
 induction xs generalizing bx S1 aF with
 |nil=>rw[aQ]at ab;subst ab;exact aQ.mono (λ_ h=>h) _ _ _ _ aS ad
 |cons x xs ih=>
  rw[aQ]at ab;obtain⟨Kx,Ky,fM,e3,rfl,aO,a3,bJ,cN,dD⟩:=ab;rw[cons_append,aQ];refine⟨Kx,Ky++bE,fM,λb=>e3 b\/S2 b,by simp,aO,ih a3 (λb h=>.inl h) (λb h=>.inr h) (λb h=>aV b (cN b h)),λb h=>aM b (bJ b h),?_,?_⟩
  .rintro b (h|h)
   .exact aM b (cN b h)
   .exact aS b h
  .rintro b h (bj|bj)
   .exact dD b h bj
   .exact aV b (bJ b h) bj
theorem zj {P:Program} {size m cap:Nat} {b o:Nat} {news:Xw} (h9:gi w b o news) (hl:news.length=m*size):Src P w size (.slice (some ⟨b,o,none⟩) m cap) m news:=by
 intro az hw;refine⟨rfl,?_⟩;refine run_firstCells_some az size m ⟨b,o,none⟩ m cap news hl (λj v b6=>?_);rw[Addr.add_lit];have:=h9 j v b6;simpa [World.cell?,hw]using this
theorem DX {P:Program} {size cap:Nat}:Src P w size (.slice none 0 cap) 0 []:=by
 intro az _;exact⟨rfl,by simp[Builtin.firstCells]⟩
theorem zk {P:Program} {size cap:Nat} (a:Option Addr):Src P w size (.slice a 0 cap) 0 []:=by
 cases a with
 |none=>exact DX
 |some a=>
  intro az _;exact⟨rfl,run_firstCells_some az size 0 a 0 cap [] (by simp) (λj v b6=>by simp at b6)⟩
theorem Kz {P:Program} (l:Xq):Src P w 1 (.string ⟨⟨l⟩⟩) l.length (l.map λb=>.int .u8 (b.toNat:Int)):=by
 intro az _;refine⟨rfl,?_⟩;have:(⟨⟨l⟩⟩:ByteArray).extract 0 l.length=⟨⟨l⟩⟩:=by
  apply ByteArray.ext;simp[ByteArray.data_extract]
 simp[Builtin.firstCells,this]
theorem aQ.qh {sz:Nat} {xs:Xy} {cs:Xw} {aF:Nat->Prop} (h:aQ w F xs cs aF) (hw:∀d∈xs,d.wd=sz):cs.length=xs.length*sz:=by
 rw[aQ.length _ _ _ h,n4 _ hw]
theorem bg.turn (h:bg w0 F0 X F S s aq w) {az:World} {b:Nat} (U:∀c,c≠b->az.heap[c]? =w.heap[c]?) (aa:az.heap.size=w.heap.size) (ab:az.os=w.os) (ad:az.tape=w.tape) (aB:Out az w)
  (a1:¬F b) (bm:∀u,¬S u b) (ba:X b\/w0.heap.size<=b):bg w0 F0 X F S s aq az where
 fN:=h.fN
 gm:=h.gm
 eu:=λc aj=>by rw[aa];exact h.eu c aj
 dA:=λt c aj=>by rw[aa];exact h.dA t c aj
 eH:=h.eH
 ej:=h.ej
 cW:=h.cW
 cE:=λt=>aA.frame (Sx:=S) (λc aj=>U c (by rintro rfl;exact a1 aj)) (λ_ h=>h) (λx c aj=>U c (by rintro rfl;exact bm x aj)) h.cE _ _ _ (λc aj=>U c (by rintro rfl;exact bm t aj)) (h.cE t)
 old:=λc c8 iB=>by
  rw[U c ?_]
  .exact h.old c c8 iB
  .rintro rfl;rcases ba with ba|ba
   .exact iB ba
   .omega
 size:=by rw[aa];exact h.size
 os:=ab.trans h.os
 tape:=ad.trans h.tape
 output:=aB.trans h.output
 gn:=h.gn
theorem KA (a0:C.dm) (h:bg w0 F0 X F S s aq w) {T bC ty:TypeId} {x y:I} {fi g5:Value} (an:aA w F s aq x fi (λ_=>False)) (a2:aA w F s aq y g5 (λ_=>False))
  (he:oh C s T bC x y=some (av,s1)):Good C w0 F0 X aq w (Builtin.append_ #[T,bC] ty #[fi,g5]) av s1:=by
 unfold oh at he;split at he
 .rename_i e ai;obtain⟨zl,d,zm,aM,aS,aV,bK,cn,bB,bt⟩:=a0.info (ev ai (by simp));rw[ai]at bt;have:=je bt;subst this;split at he
  .rename_i qb;obtain⟨jx,np,oi,nq⟩:=qb;obtain⟨i,zn,z,f1,f2,f3,f4,f5,f6,f7⟩:=a0.info jx;obtain⟨dO,jh⟩:=isSome_iff_exists.1 oi;have oj:=f5 dO jh;have mE:dO.length=(C.T e).sz:=by
    have:=al.length _ _ _ ((al.flat (w:=w) (F:=F) _).1 (C.T e).zero dO (λ_=>False) (Nat.le_refl _) jh);rw[this,np]
   obtain⟨og,hu,qg⟩:∃og,C.P.underlying bC=some og/\zg og:=by
    unfold vW at nq;split at nq
    .rename_i e_ jX;obtain⟨_,a7,_,_,_,_,_,_,gp,gW⟩:=a0.info (ev jX (by simp));rw[jX]at gW;exact⟨a7,gp,.inl ⟨_,je gW⟩⟩
    .rename_i jX _;obtain⟨_,a7,_,_,_,_,_,_,gp,gW⟩:=a0.info (ev jX (by simp));rw[jX]at gW;exact⟨a7,gp,.inr (nc gW)⟩
    .cases nq
   split at he
   .rename_i sz xs DY qi;split at he
    .rename_i cK;subst cK;split at he
     .rename_i bT vX lT;split at he
      .rename_i KB;obtain⟨rM,zh,zo⟩:=KB;simp only[some.injEq,Prod.mk.injEq]at he;obtain⟨rfl,rfl⟩:=he;obtain⟨fM,J,Sn,gB,pa,rH,nk,nm,V0,V1,pc⟩:∃fM,bg w0 F0 X F fM DY aq w/\∃Sn,al w F (.aw (C.T e).sz xs) [fi] Sn/\(∀b,Sn b->b<w.heap.size)/\(∀b,Sn b->¬F b)/\(∀u b,Sn b->¬fM u b)/\
         (∀b,Sn b->X b\/w0.heap.size<=b)/\(∀u b,fM u b->S u b)/\(∀b,Sn b->∃u,S u b)/\aA w F DY aq (iP x.owner y) g5 (λ_=>False):=by
        split at qi
        .simp only[some.injEq,Prod.mk.injEq,I.aw.injEq,true_and]at qi;obtain⟨rfl,rfl⟩:=qi;have:=ob an;subst this;exact⟨S,h,λ_=>False,by rw[al];exact .inl ⟨rfl,_,rfl⟩,λ_ h=>h.elim,λ_ h=>h.elim,λ_ _ h=>h.elim,λ_ h=>h.elim,λ_ _ h=>h,λ_ h=>h.elim,a2⟩
        .obtain⟨S1,e4,aO,a3,Sn,bJ,cN,dD,gp,gW,jS,tI,vY⟩:=mw h rfl an qi;rw[eV a3]at bJ;exact⟨S1,e4,Sn,bJ,cN,dD,gp,gW,jS,tI,vY _ _ _ a2⟩
        .cases qi
       obtain⟨e3,gY,ld,news,g7,gq,iD,cy,c0,eD,tJ,dq⟩:∃e3,bg w0 F0 X F e3 vX aq w/\∃ld news,aQ w F bT news ld/\Src C.P w i.size g5 bT.length news/\(∀b,ld b->b<w.heap.size)/\(∀b,ld b->¬F b)/\(∀u b,ld b->¬e3 u b)/\
         (∀b,ld b->X b\/w0.heap.size<=b)/\(∀u b,e3 u b->fM u b)/\(∀b,ld b->∃u,fM u b):=by
        split at lT
        .rename_i qj;simp only[some.injEq,Prod.mk.injEq]at lT;obtain⟨rfl,rfl⟩:=lT;rw[qj]at pc;have:=ob pc;subst this;exact⟨fM,J,λ_=>False,[],by rw[aQ],DX,λ_ h=>h.elim,λ_ h=>h.elim,λ_ _ h=>h.elim,λ_ h=>h.elim,λ_ _ h=>h,λ_ h=>h.elim⟩
        .rename_i dG qj;simp only[some.injEq,Prod.mk.injEq]at lT;obtain⟨rfl,rfl⟩:=lT;rw[qj]at pc;rcases vR pc with⟨rfl,rK,V2,rfl,_,qc⟩|⟨b,o,cap,dc,KC,rfl,bM,b1,cZ,cF,dL,dj⟩
         .exact⟨fM,J,λ_=>False,[],by rw[aQ],zk rK,λ_ h=>h.elim,λ_ h=>h.elim,λ_ _ h=>h.elim,λ_ h=>h.elim,λ_ _ h=>h,λ_ h=>h.elim⟩
         .exact⟨fM,J,λ_=>False,dc,dj,zj dL (by rw[f2];exact aQ.qh dj rM),λ_ h=>h.elim,λ_ h=>h.elim,λ_ _ h=>h.elim,λ_ h=>h.elim,λ_ _ h=>h,λ_ h=>h.elim⟩
        .rename_i l qj;simp only[some.injEq,Prod.mk.injEq]at lT;obtain⟨rfl,rfl⟩:=lT;rw[qj]at pc;have:=lQ pc;subst this;have KD:l≠[]->i.size=1:=by
          intro hl;cases l with
          |nil=>exact(hl rfl).elim
          |cons b l=>rw[f2,<-rM (jf b) (by simp)];rfl
         by_cases hl:l=[]
         .subst hl;refine⟨fM,J,λ_=>False,[],by simp only[map_nil];rw[aQ],?_,λ_ h=>h.elim,λ_ h=>h.elim,λ_ _ h=>h.elim,λ_ h=>h.elim,λ_ _ h=>h,λ_ h=>h.elim⟩;intro az _;exact⟨rfl,by simp[Builtin.firstCells,ByteArray.extract];rfl⟩
         .refine⟨fM,J,λ_=>False,_,DR l _,?_,λ_ h=>h.elim,λ_ h=>h.elim,λ_ _ h=>h.elim,λ_ h=>h.elim,λ_ _ h=>h,λ_ h=>h.elim⟩;rw[KD hl,length_map];exact Kz l
        .rename_i a q qj;split at lT
         .rename_i V3 dG s2 aN;simp only[some.injEq,Prod.mk.injEq]at lT;obtain⟨rfl,rfl⟩:=lT;rw[qj]at pc;obtain⟨S2,e4,aO,a3,ld,bJ,cN,dD,gp,gW,jS,tI,vY⟩:=mw J rfl pc aN;rw[eV a3,al]at bJ;rcases bJ with⟨rfl,KE,gZ⟩|⟨b,cap,cur,fb,fr,aF,gZ,bM,b1,cZ,cF,dL,dj,hk,dp,jW,mC⟩
          .simp at gZ;subst gZ;exact⟨S2,e4,λ_=>False,[],by rw[aQ],(zk KE),λ_ h=>h.elim,λ_ h=>h.elim,λ_ _ h=>h.elim,λ_ h=>h.elim,jS,λ_ h=>h.elim⟩
          .simp at gZ;subst gZ;refine⟨S2,e4,aF,_,dp,zj (rv b1 _) ?_,λc aj=>cN c (jW c aj),λc aj=>dD c (jW c aj),λu c aj=>gp u c (jW c aj),λc aj=>gW c (jW c aj),jS,λc aj=>tI c (jW c aj)⟩;rw[f2];exact aQ.qh dp rM
         .cases lT
        .cases lT
       have pd:news.length=bT.length*(C.T e).sz:=aQ.qh g7 rM;have lU:∀c,Sn c->¬ld c:=λc ab ad=>by obtain⟨u,hu⟩:=dq c ad;exact nk u c ab hu
       have kj:∀u c,Sn c->¬e3 u c:=λu c ab ad=>nk u c ab (tJ u c ad);have grow:∀(base:Option Addr) (cap:Nat) (mD:Xw) (Sx:Nat->Prop),fi= .slice base xs.length cap->Src C.P w i.size (.slice base xs.length cap) xs.length mD->aQ w F xs mD Sx->(∀d∈xs,d.wd=(C.T e).sz)->(∀c,Sx c->Sn c)->¬xs.length+bT.length<=cap->
         Good C w0 F0 X aq w (Builtin.append_ #[T,bC] ty #[fi,g5]) (.aw (C.T e).sz (xs++bT)) vX:=by
        intro base cap mD Sx za hold DZ D0 dK nn;subst za;have aI:=Kw (ty:=ty) bB hu qg f1 f4 gq hold nn zo (by rw[f3];exact zh);have rI:=grownCap_ge w (xs.length+bT.length) cap e;have tF:=grownCap_le_maxLen w (xs.length+bT.length) cap e (by unfold maxLen;omega);have tK:=aQ.qh DZ D0;have KF:aQ w F (xs++bT) (mD++news) (λc=>Sx c\/ld c):=aQ.append DZ g7 (λ_ h=>.inl h) (λ_ h=>.inr h) (λc ab ad=>lU c (dK c ab) ad);have KG:(mD++news).length=(xs++bT).length*(C.T e).sz:=by simp[tK,pd,Nat.add_mul]
        have jg:=gY.tC (az:=w.drew.alloc (.cells (mD.toArray++news.toArray++Builtin.zeroCells z.cells (grownCap w (xs.length+bT.length) cap e-(xs.length+bT.length))) e))
         (sz:=(C.T e).sz) (cap:=grownCap w (xs.length+bT.length) cap e) (xs:=xs++bT) (e:=e) (fr:=(0,0)) (Sn:=λc=>Sx c\/ld c) rfl rfl rfl ⟨rfl,λ_=>le_succ _⟩
         (λo _ ⟨_,ad⟩=>absurd ad (not_lt_zero _)) (by simpa using rI) tF
         (by
          simp only[Array.size_append,List.size_toArray,size_zeroCells,oj,tK,pd,mE,<-Nat.add_mul];congr 1;omega)
         (by
          intro d af;rcases mem_append.1 af with af|af
          .exact D0 d af
          .exact rM d af)
         (by
          simp only[Array.toList_append];rw[take_left' KG];exact KF)
         (by rintro c (aj|aj);exact pa c (dK c aj);exact iD c aj) (by rintro c (aj|aj);exact rH c (dK c aj);exact cy c aj) (by rintro u c (aj|aj);exact kj u c (dK c aj);exact c0 u c aj) (by rintro c (aj|aj);exact nm c (dK c aj);exact eD c aj)
        refine⟨_,_,F,e3,aI,jg.1,?_⟩;have:=jg.2;simpa using this
       rw[al]at gB;rcases gB with⟨rfl,vZ,gZ⟩|⟨b,cap,cur,fb,fr,aF,gZ,bM,b1,cZ,cF,dL,dj,hk,dp,jW,mC⟩
       .simp at gZ;subst gZ;by_cases D1:bT=[]
        .subst D1;have zp:news=[]:=by simpa using pd
         subst zp;refine⟨.slice vZ 0 0,w,F,e3,?_,gY,.inr ⟨rfl,rfl,λ_=>False,by simp only[bL,gk];rw[al];exact .inl ⟨rfl,_,rfl⟩,λ_ h=>h.elim,λ_ h=>h.elim,λ_ _ h=>h.elim,λ_ h=>h.elim⟩⟩;obtain⟨ab,ad⟩:=gq w rfl;cases vZ<;>rcases qg with⟨e_,rfl⟩|rfl<;>simp at ab ad<;>simp[Builtin.append_,run_underlying bB,run_underlying hu,hY f1,ab,ad,storeCells]
        .exact grow vZ 0 [] (λ_=>False) rfl (zk vZ) (by rw[aQ]) (by simp) (λ_ h=>h.elim) (by
          cases bT with
          |nil=>exact(D1 rfl).elim
          |cons y bT=>simp)
       .simp at gZ;subst gZ;by_cases nn:xs.length+bT.length<=cap
        ·
         have tK:=aQ.qh dp hk;have hlen:cur.toList.length=cap*(C.T e).sz:=by simp[dj]
         have hle:(xs.length+bT.length)*(C.T e).sz<=cap*(C.T e).sz:=mul_le_mul_right _ nn;rw[Nat.add_mul]at hle;have iz:cur.toList=cur.toList.take (xs.length*(C.T e).sz)++((cur.toList.drop (xs.length*(C.T e).sz)).take news.length++(cur.toList.drop (xs.length*(C.T e).sz)).drop news.length):=by
          rw[take_append_drop,take_append_drop]
         obtain⟨az,dZ,fj,gQ,jT,la,n_,oa⟩:=Kv (ty:=ty) (n:=xs.length) (m:=bT.length) (cap:=cap) bB hu qg f1 gq b1 cZ.low iz (by rw[f2];exact tK) (by simp[hlen,pd];omega) (aQ.qa _ _ _ g7) nn;have KH:=gY.turn gQ jT la n_ oa (rH b bM) (λu hu=>kj u b bM hu) (nm b bM);have na:∀c,F c->az.heap[c]? =w.heap[c]? :=λc aj=>gQ c (by rintro rfl;exact rH _ bM aj);refine⟨_,az,F,e3,dZ,KH,.inr ⟨rfl,rfl,λc=>Sn c\/ld c,?_,?_,?_,?_,?_⟩⟩
         .simp only[bL,gk];rw[al];have D2:(cur.toList.take (xs.length*(C.T e).sz)++(news++(cur.toList.drop (xs.length*(C.T e).sz)).drop news.length)).toArray.size=cur.size:=by
           have:cur.size=cur.toList.length:=by simp
           rw[this];conv=>rhs;rw[iz]
           simp[hlen,pd];omega
          refine .inr ⟨b,cap,_,fb,fr,λc=>aF c\/ld c,by simp,.inl bM,fj,by rw[D2];exact cZ,by simpa using nn,dL,by rw[D2];exact dj,?_,?_,?_,?_⟩
          .intro d af;rcases mem_append.1 af with af|af
           .exact hk d af
           .exact rM d af
          .have lR:=aQ.frame na _ _ _ (λc aj=>gQ c (by rintro rfl;exact mC aj)) dp;have p8:=aQ.frame na _ _ _ (λc aj=>gQ c (by rintro rfl;exact lU _ bM aj)) g7;have:((cur.toList.take (xs.length*(C.T e).sz)++(news++(cur.toList.drop (xs.length*(C.T e).sz)).drop news.length)).toArray.toList.take ((xs++bT).length*(C.T e).sz))=cur.toList.take (xs.length*(C.T e).sz)++news:=by
            simp only[];rw[<-append_assoc];exact take_left' (by rw[length_append,tK,pd,length_append,Nat.add_mul])
           rw[this];exact aQ.append lR p8 (λ_ h=>.inl h) (λ_ h=>.inr h) (λc ab ad=>lU c (jW c ab) ad)
          .rintro c (aj|aj)
           .exact .inl (jW c aj)
           .exact .inr aj
          .rintro(aj|aj)
           .exact mC aj
           .exact lU b bM aj
         .rw[jT];rintro c (aj|aj);exact pa c aj;exact iD c aj
         .rintro c (aj|aj);exact rH c aj;exact cy c aj
         .rintro u c (aj|aj);exact kj u c aj;exact c0 u c aj
         .rintro c (aj|aj);exact nm c aj;exact eD c aj
        .exact grow (some ⟨b,0,none⟩) cap _ aF rfl (zj (rv b1 _) (by rw[f2];exact aQ.qh dp hk)) dp hk jW nn
      .cases he
     .cases he
    .cases he
   .cases he
  .cases he
 .cases he
end
section
variable {C:bA} {w0 w az:World} {F0 X F:Nat->Prop} {S:Nat->Nat->Prop} {s s1:ah} {aq:Nat->Value} {av:I}
theorem bg.KI (h:bg w0 F0 X F S s aq w) {x:Nat} {q:Xt} {d a7:I} {b:Nat} (af:I.sub q (s x)=some d) (ao:d.plain=false) (KJ:a7.tree=true) (ab:∀v,gN d v->gN a7 v) (aa:∀v,cO d v->cO a7 v)
  (ad:∀vs,a7≠.tuple vs) (iM:a7.wd=d.wd) (U:∀b4 a dY,cu w q (s x) (bL (aq x)) none=some (d,b4,a)->al w F d b4 dY->dY b/\al az F a7 b4 dY) (lK:∀c,c≠b->az.heap[c]? =w.heap[c]?) (cK:az.heap.size=w.heap.size) (y1:az.os=w.os)
  (y2:az.tape=w.tape) (p6:Out az w):∃aF,bg w0 F0 X F aF (cl (ft x s) x (I.put q a7 (s x))) aq az:=by
 have aN:=gl af (.inl ao);have an:=h.cE x;rw[aA.bY aN]at an;obtain⟨b4,a,c6,dY,e4,aO,a3,bJ,cN,dD⟩:=ctx q (s x) (bL (aq x)) (S x) none d an.2 af;obtain⟨p7,aD⟩:=U b4 a dY e4 cN;have qk:S x b:=a3 b p7;have na:∀c,F c->az.heap[c]? =w.heap[c]? :=λc aj=>lK c (by rintro rfl;exact h.eH x _ qk aj);have rC:∀c,c6 c->c≠b:=λc aj e=>bJ c aj (e▸p7);have hW:al az F (I.put q a7 (s x)) (bL (aq x)) (λc=>c6 c\/dY c):=by
  rcases dD with⟨l,r,aM,aS,aV⟩|⟨gY,cur,e,fr,l,r,aM,aS,aV,bK,cn,bB⟩
  .rw[aM];exact aV az a7 b4 dY na (λc aj=>lK c (rC c aj)) iM aD (λc aj m9=>bJ c m9 aj)
  .refine bB az a7 b4 dY na (λc aj _=>lK c (rC c aj)) ?_ iM aD (λc aj m9=>bJ c m9 aj);rw[lK gY (rC gY aS),aV,<-cn]
 have tl:cO (I.put q a7 (s x)) (aq x)/\(I.put q a7 (s x)).tree=true:=by
  cases q with
  |nil=>
   simp only[I.sub,some.injEq]at af;simp only[I.put];exact⟨aa _ (af▸an.1),KJ⟩
  |cons k q=>
   refine⟨tk an.1 af ab (λ_=>ad) iM,?_⟩;rcases o7 k q a7 (s x)with⟨ar,gs,aM,e⟩|⟨ar,gs,aM,e⟩|⟨sz,xs,bT,aM,e⟩|⟨y,z,aM,e⟩|e<;>rw[e]<;>first|rfl|exact aN
 let ax:=cl (ft x s) x (I.put q a7 (s x))
 have fu:∀y,y≠x->(ax y).tree=true->ax y=s y/\aq y=aq y:=λy a2 aN=>by
  have e:ax y=cM.bH x (s y):=hg _ _ a2;rw[e]at aN⊢;exact⟨(vG aN).2,rfl⟩
 have dT:(ax x).plain=false->(s x).plain=false/\∀v,cO (s x) v->cO (ax x) v:=by
  intro _;refine⟨?_,λv aD=>?_⟩
  .cases cv:(s x).plain with
   |false=>rfl
   |true=>rw[I.yV _ _ _ cv af]at ao;cases ao
  .simp only[ax,kG];cases q with
   |nil=>
    simp only[I.sub,some.injEq]at af;simp only[I.put];exact aa _ (af▸aD)
   |cons k q=>exact tk aD af ab (λ_=>ad) iM
 have both:∀c,(c6 c\/dY c)->S x c:=λc aj=>aj.elim (aO c) (a3 c);refine⟨fa S x (λc=>c6 c\/dY c),?_⟩;constructor;case fN=>exact h.fN
 case gm=>exact h.gm
 case eu=>exact λb U=>by rw[cK];exact h.eu b U
 case dA=>
  intro u c U;rw[cK];simp only[fa]at U;split at U
  .exact h.dA x c (both c U)
  .exact h.dA u c U
 case eH=>
  intro u c U;simp only[fa]at U;split at U
  .exact h.eH x c (both c U)
  .exact h.eH u c U
 case ej=>
  intro u y c c4 U a2;simp only[fa]at U a2;split at U
  .rename_i hu;rw[if_neg (λe=>c4 (hu.trans e.symm))]at a2;exact h.ej x y c (λe=>c4 (hu.trans e)) (both c U) a2
  .rename_i hu;split at a2
   .exact h.ej u x c hu U (both c a2)
   .exact h.ej u y c c4 U a2
 case cW=>
  intro u c U;simp only[fa]at U;split at U
  .exact h.cW x c (both c U)
  .exact h.cW u c U
 case cE=>
  intro u;by_cases hu:u=x
  .subst hu;rw[kG,th];exact(aA.bY tl.2).2 ⟨tl.1,hW⟩
  .rw[hg _ _ hu,ti _ _ hu];have c4:∀y c,y≠x->S y c->az.heap[c]? =w.heap[c]? :=λy c a2 aj=>lK c (by rintro rfl;exact h.ej y x c a2 aj qk);refine(aA.bH fu rfl dT (λy fv d2 a2 gy tm=>?_) na _).1 _ _ _ (Nat.le_refl _) (λc aj=>c4 u c hu aj) (h.cE u);have tn:=h.cE y;rw[aA.bY (gl gy tm)]at tn;exact vF fv _ _ _ none d2 tn.2 gy (λc aj=>c4 y c a2 aj)
 case old=>
  intro c c8 iB;rw[lK c ?_]
  .exact h.old c c8 iB
  .rintro rfl;rcases h.cW x c qk with ba|ba
   .exact iB ba
   .omega
 case size=>rw[cK];exact h.size
 case os=>exact y1.trans h.os
 case tape=>exact y2.trans h.tape
 case output=>exact p6.trans h.output
 case gn=>exact h.gn
def D3 (P:Program) (t:TypeId):Bool:=match P.info? t with
 |some i=>match i.zero with
  |some (.bool false)=>true
  |_=>false
 |none=>false
def v3 (C:bA) (T:TypeId):Bool:=match(C.T T).k with
 | .map mF pe=>match(C.T mF).k with
   | .str=>D3 C.P pe
   |_=>false
 |_=>false
def lV (C:bA) (s:ah) (T:TypeId) (x i:I):Option I:=match x,i with
 | .h y q,.str k=>match I.sub q (s y)with
   |some (.cS (.mp m))=>if v3 C T=true then some (.bool (o3 k m))else none
   |_=>none
 |_,_=>none
def kO (C:bA) (s:ah) (T:TypeId) (x i v:I):Option ah:=match x,i,v with
 | .h y q,.str k,.bool b=>match I.sub q (s y)with
   |some (.cS (.mp m))=>if v3 C T=true then some (cl (ft y s) y (I.put q (.cS (.mp (m8 k b m))) (s y)))else none
   |_=>none
 |_,_,_=>none
theorem D4 (a0:C.dm) {T:TypeId} (h:v3 C T=true):∃mF pe,C.P.underlying T=some (.map mF pe)/\C.P.underlying mF=some .string/\∀w,(zeroValue pe).run C.P w= .ok (.bool false) w:=by
 unfold v3 at h;split at h
 .rename_i mF pe ai;split at h
  .rename_i ab;obtain⟨i,d,z,aM,aS,aV,bK,cn,bB,bt⟩:=a0.info (ev ai (by simp));obtain⟨nd,a7,nf,f1,f2,f3,f4,f5,f6,f7⟩:=a0.info (ev ab (by simp));rw[ai]at bt;rw[ab]at f7;have:=nc f7;subst this;refine⟨mF,pe,?_,f6,λw=>?_⟩
   .rw[bB];cases d<;>simp[ju]at bt;rw[bt.1,bt.2]
   .unfold D3 at h;split at h
    .rename_i mq aO;split at h
     .rename_i a3;exact o8 aO a3 w
     .cases h
    .cases h
  .cases h
 .cases h
theorem zq (a b:ByteArray):(a==b)=true↔a=b:=by
 constructor
 .intro h;exact ByteArray.ext (eq_of_beq (show(a.data==b.data)=true from h))
 .rintro rfl;show(a.data==a.data)=true;simp
theorem zr (k:Xq) (b:Bool):∀(es:List MapEntry) (m:Xp) (i:Nat),es.map (λe=>(e.key,e.val))=m.map (λe=>(.string ⟨⟨e.1⟩⟩,.bool e.2))->
  (Instr.findNow .string (.string ⟨⟨k⟩⟩) es i=some none/\o3 k m=false/\m8 k b m=m++[(k,b)])\/
  ∃j e,es[j]? =some e/\e.key= .string ⟨⟨k⟩⟩/\Instr.findNow .string (.string ⟨⟨k⟩⟩) es i=some (some (i+j,.bool (o3 k m)))/\m8 k b m=m.set j (k,b)
 |[],m,i,h=>by
  have:m=[]:=by simpa using h.symm
  subst this;exact .inl ⟨rfl,rfl,rfl⟩
 |e::es,[],i,h=>by simp at h
 |e::es,(cH,eh)::m,i,h=>by
  simp only[map_cons,cons.injEq,Prod.mk.injEq]at h;obtain⟨⟨ab,ad⟩,aB⟩:=h;by_cases ai:cH=k
  .subst ai;refine .inr ⟨0,e,rfl,ab,?_,by simp[m8]⟩;have:(((⟨⟨cH⟩⟩:ByteArray)==⟨⟨cH⟩⟩))=true:=(zq _ _).2 rfl;simp only[Instr.findNow,ab,ad,Instr.sameNow,o3,this,if_true,Nat.add_zero]
  .have aU:((⟨⟨k⟩⟩:ByteArray)==⟨⟨cH⟩⟩)=false:=by
    refine Bool.eq_false_iff.2 λe=>ai ?_;have:=(zq _ _).1 e;simp only[ByteArray.mk.injEq,Array.mk.injEq]at this;exact this.symm
   rcases zr k b es m (i+1) aB with⟨aO,a3,bJ⟩|⟨j,e_,aO,a3,bJ,cN⟩
   .refine .inl ⟨?_,?_,?_⟩
    .simp only[Instr.findNow,ab,Instr.sameNow,aU];exact aO
    .simp[o3,ai,a3]
    .simp[m8,ai,bJ]
   .refine .inr ⟨j+1,e_,aO,a3,?_,?_⟩
    .simp only[Instr.findNow,ab,Instr.sameNow,aU];rw[bJ];simp[o3,ai,Nat.add_assoc,Nat.add_comm 1 j]
    .simp[m8,ai,cN]
theorem v5 {P:Program} {mF:TypeId} (ai:P.underlying mF=some .string) (e:Bool) (k:ByteArray) (w:World):(Instr.checkKey e 10000 mF (.string k)).run P w= .ok () w:=by
 unfold Instr.checkKey;simp[run_underlying ai]
theorem D5 (h:bg w0 F0 X F S s aq w) {y:Nat} {q:Xt} {m:Xp} {v:Value} (aD:aA w F s aq (.h y q) v (λ_=>False)) (af:I.sub q (s y)=some (.cS (.mp m))):
  ∃r ms kE,v= .map (some r)/\w.heap[r]? =some (.map ms kE)/\ms.toList.map (λe=>(e.key,e.val))=m.map (λe=>(.string ⟨⟨e.1⟩⟩,.bool e.2))/\
   ∃a,cu w q (s y) (bL (aq y)) none=some (.cS (.mp m),[.map (some r)],a):=by
 rw[aA]at aD;obtain⟨b4,a,aO,a3,bJ⟩:=aD _ af rfl;have ab:Value.eZ v=true:=bJ;rw[eV ab]at a3;have an:=h.cE y;rw[aA.bY (gl af (.inl rfl))]at an;obtain⟨eC,b7,c6,dY,k0,bM,b1,cZ,cF,dL⟩:=ctx q (s y) (bL (aq y)) (S y) none _ an.2 af;rw[k0]at aO;simp only[some.injEq,Prod.mk.injEq,true_and]at aO;obtain⟨rfl,rfl⟩:=aO;rw[al]at cF;obtain⟨r,ms,kE,aM,aS,aV,bK⟩:=cF;rw[aM]at a3 k0;exact⟨r,ms,kE,by simpa using a3,aV,bK,b7,k0⟩
theorem KK (a0:C.dm) (h:bg w0 F0 X F S s aq w) {T:TypeId} {x i:I} {fi lM:Value} (an:aA w F s aq x fi (λ_=>False)) (aE:aA w F s aq i lM (λ_=>False)) (he:lV C s T x i=some av):
  Good C w0 F0 X aq w (Instr.lookup T fi lM false) av s:=by
 unfold lV at he;split at he
 .rename_i y q k;split at he
  .rename_i m af;split at he
   .rename_i gx;simp only[some.injEq]at he;subst he;obtain⟨mF,pe,t1,t2,t3⟩:=D4 a0 gx;obtain⟨r,ms,kE,rfl,aS,aV,_⟩:=D5 h an af;have:=lQ aE;subst this;refine Good.same h (v:=.bool (o3 k m)) ?_ rfl (of_bool _);rcases zr k true ms.toList m 0 aV with⟨aO,a3,_⟩|⟨j,e,_,_,aO,_⟩
    .simp[Instr.lookup,run_underlying t1,getObj,Sem.run,aS,v5 t2,Instr.findKey,run_underlying t2,aO,t3,a3]
    .simp[Instr.lookup,run_underlying t1,getObj,Sem.run,aS,v5 t2,Instr.findKey,run_underlying t2,aO]
   .cases he
  .cases he
 .cases he
theorem KL (a0:C.dm) (h:bg w0 F0 X F S s aq w) {T:TypeId} {x i v:I} {fi lM D6:Value} (an:aA w F s aq x fi (λ_=>False)) (aE:aA w F s aq i lM (λ_=>False)) (aD:aA w F s aq v D6 (λ_=>False)) {s2:ah}
  (he:kO C s T x i v=some s2):∃az aF,(Instr.mapUpdate T fi lM D6).run C.P w= .ok () az/\bg w0 F0 X F aF s2 aq az:=by
 unfold kO at he;split at he
 .rename_i y q k b;split at he
  .rename_i m af;split at he
   .rename_i gx;simp only[some.injEq]at he;subst he;obtain⟨mF,pe,t1,t2,t3⟩:=D4 a0 gx;obtain⟨r,ms,kE,rfl,aS,aV,J,iO⟩:=D5 h an af;have:=lQ aE;subst this;have:=o_ aD;subst this;have key:∀(v7:Array MapEntry) (zs:Nat),v7.toList.map (λe=>(e.key,e.val))=(m8 k b m).map (λe=>(.string ⟨⟨e.1⟩⟩,.bool e.2))->
      ∃aF,bg w0 F0 X F aF (cl (ft y s) y (I.put q (.cS (.mp (m8 k b m))) (s y))) aq {w with heap:=w.heap.setIfInBounds r (.map v7 zs)}:=by
     intro v7 zs hm;have aI:r<w.heap.size:=(Array.getElem?_eq_some_iff.1 aS).1;refine bg.KI (b:=r) h af rfl rfl (λv aD=>aD) (λv aD=>aD) (λvs e=>by cases e) rfl ?_ (λc aj=>?_) (by simp) rfl rfl ⟨rfl,λ_=>Nat.le_refl _⟩
     .intro b4 a dY bk e7;rw[iO]at bk;simp only[some.injEq,Prod.mk.injEq,true_and]at bk;obtain⟨rfl,_⟩:=bk;rw[al]at e7⊢;obtain⟨e0,pf,V4,f1,f2,f3,f4⟩:=e7;simp only[cons.injEq,Value.map.injEq,some.injEq,and_true]at f1;subst f1;exact⟨f2,r,v7,zs,rfl,f2,by simp[aI],hm⟩
     .simp[Ne.symm aj]
    rcases zr k b ms.toList m 0 aV with⟨aO,_,a3⟩|⟨j,e,e4,ge,aO,a3⟩
    .obtain⟨aF,bM⟩:=key (ms.push {key:=.string ⟨⟨k⟩⟩,val:=.bool b,born:=kE}) (kE+1) (by rw[a3];simp[aV]);exact⟨_,aF,by simp[Instr.mapUpdate,run_underlying t1,getObj,setObj,Sem.run,aS,v5 t2,Instr.findKey,run_underlying t2,aO],bM⟩
    .rw[Nat.zero_add]at aO;obtain⟨aF,bM⟩:=key (ms.modify j λe=>{e with key:=.string ⟨⟨k⟩⟩,val:=.bool b}) kE (by
      rw[a3,map_set,<-aV];apply ext_getElem?;intro n;by_cases aU:n=j
      .subst aU;have:n<ms.toList.length:=(List.getElem?_eq_some_iff.1 e4).1;rw[getElem?_set_self (by simpa using this)];simp[e4]
      .simp[getElem?_set_ne (Ne.symm aU),Ne.symm aU])
     have KM:ms[j]? =some e:=by simpa using e4
     exact⟨_,aF,by simp[Instr.mapUpdate,run_underlying t1,getObj,setObj,Sem.run,aS,v5 t2,Instr.findKey,run_underlying t2,aO,KM,ge,Instr.keyThatStays,Instr.sameBits,(zq ⟨⟨k⟩⟩ ⟨⟨k⟩⟩).2 rfl],bM⟩
   .cases he
  .cases he
 .cases he
theorem KN (h:bg w0 F0 X F S s aq w) (t:TypeId):Good C w0 F0 X aq w (Instr.makeMap t none) (.cS (.mp [])) s:=by
 have hold:∀b,b<w.heap.size->(w.alloc (.map #[] 0)).heap[b]? =w.heap[b]? :=by
  intro b U;show(w.heap.push _)[b]? =_;rw[Array.getElem?_push,if_neg (by omega)]
 refine⟨.map (some w.heap.size),w.alloc (.map #[] 0),F,S,?_,h.grow hold (by simp) rfl rfl ⟨rfl,λ_=>Nat.le_refl _⟩,.inr ⟨rfl,rfl,λb=>b=w.heap.size,?_,?_,?_,?_,?_⟩⟩
 .simp[Instr.makeMap,newObj,Sem.run]
 .rw[al];refine⟨w.heap.size,#[],0,rfl,rfl,?_,rfl⟩;show(w.heap.push _)[_]? =_;simp
 .rintro b rfl;simp
 .rintro b rfl mz;exact Nat.lt_irrefl _ (h.eu _ mz)
 .rintro u b rfl hu;exact Nat.lt_irrefl _ (h.dA _ _ hu)
 .rintro b rfl;exact .inr h.size
end
end Go.cM
