/- Part of a proof that a law returns true for every input. No condition. -/
import Derived.Test.YtklcmlnabkfneaaGreatFwC
import Derived.Test.YtklcmlnabkfneaaGreatFwA
import Derived.Laws.IdiomStrings
import Derived.Laws.Strings
import Derived.LaidEql
import Derived.WideLaws
import Derived.Laws.StructEq
namespace Go.de
open List Option Nat Or
section
variable {C:ca} {w0 w:World} {F0 X F:Nat->Prop} {S:Nat->Nat->Prop} {s s1:aw} {aC:Nat->Value} {av:I}
theorem pO {k:IntKind} {n:Int} {v:Value} {aN:Nat->Prop} (h:aH w F s aC (.int k n) v aN):v= .int k n:=by
 have bC:=(aH.cv rfl).1 h;rw[ar,gq bC.1]at bC;simpa using bC.2
theorem rV {b:Bool} {v:Value} {aN:Nat->Prop} (h:aH w F s aC (.bool b) v aN):v= .bool b:=by
 have bC:=(aH.cv rfl).1 h;rw[ar,gq bC.1]at bC;simpa using bC.2
theorem nV {b:alO} {v:Value} {aN:Nat->Prop} (h:aH w F s aC (.str b) v aN):v= .string ⟨⟨b⟩⟩:=by
 have bC:=(aH.cv rfl).1 h;rw[ar,gq bC.1]at bC;simpa using bC.2
theorem KH {v:Value} {aN:Nat->Prop} (h:aH w F s aC .dC v aN):v= .pointer none:=by
 have bC:=(aH.cv rfl).1 h;rw[ar,gq bC.1]at bC;simpa using bC.2
theorem rW {v:Value} {aN:Nat->Prop} (h:aH w F s aC .bd v aN):v= .slice none 0 0:=by
 have bC:=(aH.cv rfl).1 h;rw[ar,gq bC.1]at bC;simpa using bC.2
theorem KI {v:Value} {aN:Nat->Prop} (h:aH w F s aC .fm v aN):∃b,v= .bool b:=by
 have bC:=(aH.cv rfl).1 h;rw[ar,gq bC.1]at bC;simpa using bC.2
theorem of_int (k:IntKind) (n:Int):aH w F s aC (.int k n) (.int k n) (λ_=>False):=(aH.cv rfl).2 ⟨rfl,by rw[ar];rfl⟩
theorem of_bool (b:Bool):aH w F s aC (.bool b) (.bool b) (λ_=>False):=(aH.cv rfl).2 ⟨rfl,by rw[ar];rfl⟩
theorem oF (b:alO):aH w F s aC (.str b) (.string ⟨⟨b⟩⟩) (λ_=>False):=(aH.cv rfl).2 ⟨rfl,by rw[ar];rfl⟩
theorem ED (b:Bool):aH w F s aC .fm (.bool b) (λ_=>False):=(aH.cv rfl).2 ⟨rfl,by rw[ar];exact⟨b,rfl⟩⟩
def iW (op:BinOp) (k:IntKind) (a:Int) (cF:IntKind) (b:Int):Option I:=
 match op with
 | .shl=>if b<0 then none else some (.int k (k.wrap (a*2^(min b.toNat k.bits))))
 | .shr=>if b<0 then none else some (.int k (a.fdiv (2^(min b.toNat k.bits))))
 | .add=>if k=cF then some (.int k (k.wrap (a+b)))else none
 | .sub=>if k=cF then some (.int k (k.wrap (a-b)))else none
 | .mul=>if k=cF then some (.int k (k.wrap (a*b)))else none
 | .quo=>if k=cF/\b≠0 then some (.int k (k.wrap (a.tdiv b)))else none
 | .rem=>if k=cF/\b≠0 then some (.int k (a.tmod b))else none
 | .eql=>if k=cF then some (.bool (a==b))else none
 | .neq=>if k=cF then some (.bool (a !=b))else none
 | .lss=>if k=cF then some (.bool (decide (a<b)))else none
 | .leq=>if k=cF then some (.bool (decide (a<=b)))else none
 | .gtr=>if k=cF then some (.bool (decide (b<a)))else none
 | .geq=>if k=cF then some (.bool (decide (b<=a)))else none
 | .and=>if k=cF then some (.int k (bitsOf .and k a b))else none
 | .or=>if k=cF then some (.int k (bitsOf .or k a b))else none
 | .xor=>if k=cF then some (.int k (bitsOf .xor k a b))else none
 | .andNot=>if k=cF then some (.int k (bitsOf .andNot k a b))else none
def nm (op:BinOp) (a b:alO):Option I:=
 match op with
 | .add=>if a.length+b.length<=9223372036854775807 then some (.str (a++b))else none
 | .eql=>some (.bool (a==b))
 | .neq=>some (.bool !(a==b))
 | .lss=>some (.bool (Op.bytesLess a b))
 | .leq=>some (.bool (Op.bytesLess a b||a==b))
 | .gtr=>some (.bool !(Op.bytesLess a b||a==b))
 | .geq=>some (.bool !(Op.bytesLess a b))
 |_=>none
def jN (s:aw):I->Option alS
 | .bd=>some (some true)
 | .slice xs=>some (if xs=[]then none else some false)
 | .h x q=>match I.sub q (s x)with
   |some (.ag _ xs)=>some (if xs=[]then none else some false)
   |_=>none
 |_=>none
def lr (s:aw):I->alS
 | .dC=>some true
 | .ref _=>some false
 | .h x q=>match I.sub q (s x)with
   |some (.bf _)=>some false
   |_=>none
 |_=>none
def oG (neg:Bool):alS->I
 |some b=>.bool (b !=neg)
 |none=>.fm
def structEq (P:Program) (T:TypeId):Bool:= !P.stoodInHeld T&& !P.eqGuardType P.depth T&&(P.fieldsOf T).toList.all λf=>decide (f.name≠ "_")
def nW (C:ca):List (TypeId×Nat)->Nat->alW->alW->alS
 |[],_,[],[]=>some true
 |(jK,off)::aE,n,d::ds,e::es=>if off=n then(match(C.T jK).k,d,e with
  | .int k,.int b3 a,.int cc b=>if b3=k/\cc=k then(nW C aE (n+1) ds es).map λr=>a==b&&r else none
  | .bool,.bool a,.bool b=>(nW C aE (n+1) ds es).map λr=>a==b&&r
  | .str,.str a,.str b=>(nW C aE (n+1) ds es).map λr=>a==b&&r
  |_,_,_=>none)else none
 |_,_,_,_=>none
def eU (C:ca) (s:aw) (op:BinOp) (T:TypeId) (x y:I):Option I:=
 match x,y with
 | .int k a,.int cF b=>iW op k a cF b
 | .str a,.str b=>nm op a b
 | .bool a,.bool b=>match op,(C.T T).k with
   | .eql,.bool=>some (.bool (a==b))
   | .neq,.bool=>some (.bool !(a==b))
   |_,_=>none
 | .agg ds,.agg es=>match op,(C.T T).k with
   | .eql,.struct aE=>if structEq C.P T=true then(nW C aE 0 ds es).map λb=>.bool b else none
   | .neq,.struct aE=>if structEq C.P T=true then(nW C aE 0 ds es).map λb=>.bool !b else none
   |_,_=>none
 |x,.bd=>match op,(C.T T).k with
  | .eql,.slice _=>(jN s x).map (oG false)
  | .neq,.slice _=>(jN s x).map (oG true)
  |_,_=>none
 |x,.dC=>match op,(C.T T).k with
  | .eql,.ptr _=>(lr s x).map λb=>.bool b
  | .neq,.ptr _=>(lr s x).map λb=>.bool !b
  |_,_=>none
 |_,_=>none
theorem R7 {P:Program} {op:BinOp} {T:TypeId} {k cF:IntKind} {a b:Int} (he:iW op k a cF b=some av) (w:World):
  ∃v,(binOp op T (.int k a) (.int cF b)).run P w= .ok v w/\aH w F s aC av v (λ_=>False):=by
 unfold iW at he;cases op<;>simp only at he<;>split at he<;>first|(cases he;done)|skip
 all_goals
  rename_i an;simp only[some.injEq]at he;subst he
 all_goals first
  |(subst an;simp only[binOp_add,binOp_sub,binOp_mul,binOp_eql,binOp_neq,binOp_lss,binOp_leq,binOp_gtr,binOp_geq,binOp_and,binOp_or,binOp_xor,binOp_andNot,Op.intArith,Op.intBits,Sem.run_pure,Result.ok.injEq,and_true,exists_eq_left']
    first|exact of_int _ _|exact of_bool _)
  |(obtain⟨rfl,aX⟩:=an
    simp only[binOp_quo,binOp_rem,Op.intDiv,aX,if_false,Sem.run_pure,Result.ok.injEq,and_true,exists_eq_left'];exact of_int _ _)
  |(simp only[binOp_shl,binOp_shr,Op.shift,an,if_false,Sem.run_pure,Result.ok.injEq,and_true,exists_eq_left']
    exact of_int _ _)
theorem xp (a:alO):(⟨⟨a⟩⟩:ByteArray).toList=a:=ByteArray.toList_eq _
theorem R8 (a b:alO):(⟨⟨a⟩⟩:ByteArray)++(⟨⟨b⟩⟩:ByteArray)=⟨⟨a++b⟩⟩:=by
 apply ByteArray.ext;simp[ByteArray.data_append]
theorem R9 {P:Program} {op:BinOp} {T:TypeId} {a b:alO} (he:nm op a b=some av) (w:World):
  ∃v,(binOp op T (.string ⟨⟨a⟩⟩) (.string ⟨⟨b⟩⟩)).run P w= .ok v w/\aH w F s aC av v (λ_=>False):=by
 have R:∀op,binOp op T (.string ⟨⟨a⟩⟩) (.string ⟨⟨b⟩⟩)=Op.stringOp op ⟨⟨a⟩⟩ ⟨⟨b⟩⟩:=by intro op;cases op<;>rfl
 rw[R];unfold nm at he;cases op<;>simp only[some.injEq]at he<;>first|(cases he;done)|skip
 case add=>
  split at he
  .rename_i hl;simp only[some.injEq]at he;subst he;have ad:((ByteArray.size ⟨⟨a⟩⟩+ByteArray.size ⟨⟨b⟩⟩:Nat):Int)<=9223372036854775807:=by
    show((a.length+b.length:Nat):Int)<=_;omega
   refine⟨.string ⟨⟨a++b⟩⟩,?_,oF _⟩;simp only[Op.stringOp,IntKind.max_i64];rw[if_neg (by omega),R8];rfl
  .cases he
 all_goals
  subst he;simp only[Op.stringOp,xp,Sem.run_pure,Result.ok.injEq,and_true,exists_eq_left'];exact of_bool _
theorem EE (h:bD w0 F0 X F S s aC w) {v:Value} {y:Nat} {q:alR} (aJ:aH w F s aC (.h y q) v (λ_=>False)) {sz:Nat} {xs:alW} (ai:I.sub q (s y)=some (.ag sz xs)):
  (xs=[]/\∃a,v= .slice a 0 0)\/∃b cap cur e fr,v= .slice (some ⟨b,0,none⟩) xs.length cap/\w.heap[b]? =some (.cells cur e fr)/\k2 fr cur.size/\xs.length<=cap/\cap<=maxLen/\cur.size=cap*sz/\(∀d∈xs,d.wd=sz)/\
   ∃aN,a1 w F xs (cur.toList.take (xs.length*sz)) aN/\(∀c,aN c->S y c)/\S y b:=by
 rw[aH]at aJ;obtain⟨cQ,a,g1,g2,g3⟩:=aJ _ ai rfl;have ad:Value.fK v=true:=g3;rw[gq ad]at g2;subst g2;have au:=h.dp y;rw[aH.cv (h0 ai (.inl rfl))]at au;obtain⟨fT,cL,eh,fo,k0,b3,cc,eT,dL,fp⟩:=ctx q (s y) (cj (aC y)) (S y) none _ au.2 ai;rw[k0]at g1;simp only[some.injEq,Prod.mk.injEq,true_and]at g1;obtain⟨rfl,rfl⟩:=g1;rw[ar]at dL;rcases dL with⟨rfl,a2,ae⟩|⟨b,cap,cur,aV,fr,dg,aW,cm,cC,b7,bW,hy,jx,lu,lW,df,dw⟩
 .simp at ae;exact .inl ⟨rfl,_,ae⟩
 .simp at aW;exact .inr ⟨b,cap,cur,aV,fr,aW,cC,b7.low,bW,hy,jx,lu,dg,lW,λc an=>cc _ (df c an),cc _ cm⟩
theorem KJ (h:bD w0 F0 X F S s aC w) {v:Value} {y:Nat} {q:alR} (aJ:aH w F s aC (.h y q) v (λ_=>False)) {d:I} (ai:I.sub q (s y)=some (.bf d)):
  ∃b cur e fr,v= .pointer (some ⟨b,0,none⟩)/\w.heap[b]? =some (.cells cur e fr):=by
 rw[aH]at aJ;obtain⟨cQ,a,g1,g2,g3⟩:=aJ _ ai rfl;have ad:Value.fK v=true:=g3;rw[gq ad]at g2;subst g2;have au:=h.dp y;rw[aH.cv (h0 ai (.inl rfl))]at au;obtain⟨fT,cL,eh,fo,k0,b3,cc,eT,dL,fp⟩:=ctx q (s y) (cj (aC y)) (S y) none _ au.2 ai;rw[k0]at g1;simp only[some.injEq,Prod.mk.injEq,true_and]at g1;obtain⟨rfl,rfl⟩:=g1;rw[ar]at dL;obtain⟨b,cur,aV,fr,dg,aW,cm,cC,_⟩:=dL;simp at aW;exact⟨b,cur,aV,fr,aW,cC⟩
theorem KK {P:Program} {T e:TypeId} (a8:P.underlying T=some (.slice e)) (w:World):∀d,(Op.equalIn (d+1) T (.slice none 0 0) (.slice none 0 0)).run P w= .ok true w/\
  ∀a n c,(Op.equalIn (d+1) T (.slice (some a) n c) (.slice none 0 0)).run P w= .ok false w:=by
 intro d;refine⟨by simp[Op.equalIn,run_underlying a8],λa n c=>by simp[Op.equalIn,run_underlying a8]⟩
theorem KL {P:Program} {T e:TypeId} (a8:P.underlying T=some (.pointer e)) (w:World):∀d,(Op.equalIn (d+1) T (.pointer none) (.pointer none)).run P w= .ok true w/\
  ∀a,(Op.equalIn (d+1) T (.pointer (some a)) (.pointer none)).run P w= .ok false w:=by
 intro d;refine⟨by simp[Op.equalIn,run_underlying a8],λa=>by simp[Op.equalIn,run_underlying a8]⟩
theorem KM {P:Program} {T:TypeId} (a8:P.underlying T=some .bool) (w:World):∀d a b,(Op.equalIn (d+1) T (.bool a) (.bool b)).run P w= .ok (a==b) w:=by
 intro d a b;simp[Op.equalIn,run_underlying a8]
theorem KN (h:bD w0 F0 X F S s aC w) {x:I} {v:Value} (aJ:aH w F s aC x v (λ_=>False)) {T e:TypeId} {r:alS} (aM:jN s x=some r) (a8:C.P.underlying T=some (.slice e)):
  ∃b,(Op.equal T v (.slice none 0 0)).run C.P w= .ok b w/\(∀fH,r=some fH->fH=b)/\Value.fK v=true/\∃a n c,v= .slice a n c:=by
 have aR:=λa n c=>(KK a8 w 9999).2 a n c;have gr:=(KK a8 w 9999).1;cases x with
 |bd=>
  have:=rW aJ;subst this;simp[jN]at aM;subst aM;exact⟨true,gr,by simp,rfl,_,_,_,rfl⟩
 |slice xs=>
  have bC:=(aH.cv rfl).1 aJ;rw[ar,gq bC.1]at bC;simp only[jN,some.injEq]at aM;obtain⟨_,⟨rfl,a,c,ae,_,s7⟩|⟨b,o,cap,eA,sz,ae,az⟩⟩:=bC
  .simp at ae aM;subst ae;subst aM;cases a with
   |none=>
    have:=s7 rfl;subst this;exact⟨true,gr,by simp,rfl,_,_,_,rfl⟩
   |some a=>exact⟨false,aR _ _ _,by simp,rfl,_,_,_,rfl⟩
  .simp at ae;subst ae;refine⟨false,aR _ _ _,?_,rfl,_,_,_,rfl⟩;subst aM;split<;>simp
 |h y q=>
  simp only[jN]at aM;split at aM
  .rename_i sz xs ai;simp only[some.injEq]at aM;rcases EE h aJ ai with⟨rfl,a,rfl⟩|⟨b,cap,cur,aV,fr,rfl,_⟩
   .simp at aM;subst aM;cases a with
    |none=>exact⟨true,gr,by simp,rfl,_,_,_,rfl⟩
    |some a=>exact⟨false,aR _ _ _,by simp,rfl,_,_,_,rfl⟩
   .refine⟨false,aR _ _ _,?_,rfl,_,_,_,rfl⟩;subst aM;split<;>simp
  .cases aM
 |_=>simp[jN]at aM
theorem KO (h:bD w0 F0 X F S s aC w) {x:I} {v:Value} (aJ:aH w F s aC x v (λ_=>False)) {T e:TypeId} {r:Bool} (aM:lr s x=some r) (a8:C.P.underlying T=some (.pointer e)):
  (Op.equal T v (.pointer none)).run C.P w= .ok r w/\∃a,v= .pointer a:=by
 have aR:=λa=>(KL a8 w 9999).2 a;have gr:=(KL a8 w 9999).1;cases x with
 |dC=>
  have:=KH aJ;subst this;simp[lr]at aM;subst aM;exact⟨gr,_,rfl⟩
 |ref d=>
  have bC:=(aH.cv rfl).1 aJ;rw[ar,gq bC.1]at bC;simp[lr]at aM;subst aM;obtain⟨_,b,o,eA,ae,_⟩:=bC;simp at ae;subst ae;exact⟨aR _,_,rfl⟩
 |h y q=>
  simp only[lr]at aM;split at aM
  .rename_i d ai;simp only[some.injEq]at aM;subst aM;obtain⟨b,cur,e,fr,rfl,_⟩:=KJ h aJ ai;exact⟨aR _,_,rfl⟩
  .cases aM
 |_=>simp[lr]at aM
theorem R_ (bn:C.Ok):∀(aE:List (TypeId×Nat)) (gs:List Field) (n:Nat) (ds es:alW) (r:Bool) (eV l2 c1 c2:alU) (xs ys:Array Value) (b5 dg:Nat->Prop),
  gs.map (λg=>(g.type,g.offset))=aE->(gs.all λf=>decide (f.name≠ "_"))=true->nW C aE n ds es=some r->a1 w F ds c1 b5->a1 w F es c2 dg->xs.toList=eV++c1->eV.length=n->ys.toList=l2++c2->l2.length=n->
  ∀m,(Op.eqFields (m+1) xs ys gs).run C.P w= .ok r w:=by
 intro aE;induction aE with
 |nil=>
  intro gs n ds es r eV l2 c1 c2 xs ys b5 dg bR aS he ab ae au hl bb EF m;have:gs=[]:=by simpa using bR
  subst this;cases ds<;>cases es<;>simp[nW]at he;subst he;simp[Op.eqFields]
 |cons p aE ih=>
  obtain⟨jK,off⟩:=p;intro gs n ds es r eV l2 c1 c2 xs ys b5 dg bR aS he ab ae au hl bb EF m;cases gs with
  |nil=>simp at bR
  |cons g gs=>
   simp only[map_cons,cons.injEq,Prod.mk.injEq]at bR;obtain⟨⟨rfl,rfl⟩,bR⟩:=bR;simp only[all_cons,Bool.and_eq_true,decide_eq_true_eq]at aS;cases ds with
   |nil=>simp[nW]at he
   |cons d ds=>
   cases es with
   |nil=>simp[nW]at he
   |cons e es=>
   simp only[nW]at he;split at he
   .rename_i pL;rw[a1]at ab ae;obtain⟨J,a2,AZ,EG,rfl,fL,hn,h6,KP,fZ⟩:=ab;obtain⟨jO,hz,ajO,Sa,rfl,gE,gD,iH,iI,pP⟩:=ae;have step:∀(x y:Value) (z:Bool),(C.T g.type).flat=true->J=[x]->jO=[y]->(∀m,(Op.equalIn (m+1) g.type x y).run C.P w= .ok z w)->∀gA,nW C aE (n+1) ds es=some gA->
      (Op.eqFields (m+1) xs ys (g::gs)).run C.P w= .ok (z&&gA) w:=by
     intro x y z kp Sb EH heq gA eG;subst Sb;subst EH;have Sc:xs[g.offset]? =some x:=by
      rw[<-Array.getElem?_toList,au,pL,<-hl,getElem?_append_right (Nat.le_refl _)];simp
     have Sd:ys[g.offset]? =some y:=by
      rw[<-Array.getElem?_toList,bb,pL,<-EF,getElem?_append_right (Nat.le_refl _)];simp
     have ao:=ih gs (n+1) ds es gA (eV++[x]) (l2++[y]) a2 hz xs ys EG Sa bR aS.2 eG hn gD (by rw[au];simp) (by simp[hl]) (by rw[bb];simp) (by simp[EF]) m;unfold Op.eqFields;rw[if_pos aS.1];simp only[part,Sem.run_bind,EB bn kp,Result.andThen_ok,Bool.false_eq_true,if_false,Sc,Sd,Sem.run_pure,heq];cases z
     .simp
     .simpa using ao
    split at he
    .rename_i k b3 a cc b ax;split at he
     .rename_i s8;obtain⟨rfl,rfl⟩:=s8;rw[ar]at fL gE;simp only[map_eq_some_iff]at he;obtain⟨gA,eG,rfl⟩:=he;obtain⟨i,xq,KQ,aR,aV,aW,cm,cC,b7,bW⟩:=bn.info (gg ax (by simp));rw[ax]at bW;have s9:=AS bW;subst s9;exact step _ _ _ (by simp[gp.flat,ax]) fL gE (λm=>run_equalIn_int w m g.type _ _ a b b7) gA eG
     .cases he
    .rename_i a b ax;rw[ar]at fL gE;simp only[map_eq_some_iff]at he;obtain⟨gA,eG,rfl⟩:=he;obtain⟨i,xq,KQ,aR,aV,aW,cm,cC,b7,bW⟩:=bn.info (gg ax (by simp));rw[ax]at bW;have s9:=Ew bW;subst s9;exact step _ _ _ (by simp[gp.flat,ax]) fL gE (λm=>run_equalIn_bool' w m g.type a b b7) gA eG
    .rename_i a b ax;rw[ar]at fL gE;simp only[map_eq_some_iff]at he;obtain⟨gA,eG,rfl⟩:=he;obtain⟨i,xq,KQ,aR,aV,aW,cm,cC,b7,bW⟩:=bn.info (gg ax (by simp));rw[ax]at bW;have s9:=pK bW;subst s9;refine step _ _ (a==b) (by simp[gp.flat,ax]) fL gE (λm=>?_) gA eG;rw[run_equalIn_string w m g.type _ _ b7,xp,xp]
    .cases he
   .cases he
theorem KR (bn:C.Ok) {T:TypeId} {aE:List (TypeId×Nat)} (ax:(C.T T).k= .struct aE) {ds es:alW} {iG jw:Value} {b5 dg:Nat->Prop} {r:Bool} (au:aH w F s aC (.agg ds) iG b5) (bb:aH w F s aC (.agg es) jw dg)
  (b1:structEq C.P T=true) (he:nW C aE 0 ds es=some r) (op:BinOp) (xr xt:Operand):
  (eqGuard op T xr xt iG jw).run C.P w= .ok () w/\(Op.equal T iG jw).run C.P w= .ok r w:=by
 obtain⟨i,d,z,aR,aV,aW,cm,cC,b7,bW⟩:=bn.info (gg ax (by simp));rw[ax]at bW;obtain⟨gs,rfl,hy⟩:=xj bW;have xu:C.P.fieldsOf T=gs:=by simp[Program.fieldsOf,b7]
 simp only[structEq,Bool.and_eq_true,Bool.not_eq_true',xu]at b1;obtain⟨⟨gE,gD⟩,iH⟩:=b1;obtain⟨⟨xs,rfl⟩,rX⟩:=(aH.cv rfl).1 au;obtain⟨⟨ys,rfl⟩,s4⟩:=(aH.cv rfl).1 bb;rw[ar]at rX s4;constructor
 .cases op<;>simp[eqGuard,gD]
 .show(Op.equalIn (9999+1) T _ _).run C.P w=_;rw[run_equalIn_struct w 9999 T xs ys (by rw[xu];exact b7) gE,xu];exact R_ bn aE gs.toList 0 ds es r [] [] _ _ xs ys b5 dg hy iH he rX s4 rfl rfl rfl rfl 9998
theorem Se (bn:C.Ok) (h:bD w0 F0 X F S s aC w) {op:BinOp} {T:TypeId} {x y:I} {iG jw:Value} (xr xt:Operand) (au:aH w F s aC x iG (λ_=>False)) (bb:aH w F s aC y jw (λ_=>False))
  (he:eU C s op T x y=some av):Good C w0 F0 X aC w (do eqGuard op T xr xt iG jw;binOp op T iG jw) av s:=by
 unfold eU at he;split at he
 .have:=pO au;subst this;have:=pO bb;subst this;obtain⟨v,ab,ae⟩:=R7 (P:=C.P) (T:=T) he w;refine Good.same h (v:=v) ?_ ?_ ae
  .rw[eqGuard_at_int];exact ab
  .revert he;unfold iW;cases op<;>simp only<;>split<;>simp<;>(rintro rfl;rfl)
 .have:=nV au;subst this;have:=nV bb;subst this;obtain⟨v,ab,ae⟩:=R9 (P:=C.P) (T:=T) he w;refine Good.same h (v:=v) ?_ ?_ ae
  .rw[eqGuard_at_string];exact ab
  .revert he;unfold nm;cases op<;>simp only<;>(try split)<;>simp<;>(try (rintro rfl;rfl))
 .have:=rV au;subst this;have:=rV bb;subst this;split at he
  .rename_i ax;simp only[some.injEq]at he;subst he;obtain⟨i,d,z,aR,aV,aW,cm,cC,b7,bW⟩:=bn.info (gg ax (by simp));rw[ax]at bW;have:=Ew bW;subst this;refine Good.same h ?_ rfl (of_bool _);rw[eqGuard_at_bool];simp[binOp,Op.equal,Op.maxDepth,KM b7 w 9999]
  .rename_i ax;simp only[some.injEq]at he;subst he;obtain⟨i,d,z,aR,aV,aW,cm,cC,b7,bW⟩:=bn.info (gg ax (by simp));rw[ax]at bW;have:=Ew bW;subst this;refine Good.same h ?_ rfl (of_bool _);rw[eqGuard_at_bool];simp[binOp,Op.equal,Op.maxDepth,KM b7 w 9999]
  .cases he
 .split at he
  .rename_i aE ax;split at he
   .rename_i b1;simp only[map_eq_some_iff]at he;obtain⟨r,aM,rfl⟩:=he;obtain⟨g1,g2⟩:=KR bn ax au bb b1 aM .eql xr xt;obtain⟨⟨xs,rfl⟩,_⟩:=(aH.cv rfl).1 au;obtain⟨⟨ys,rfl⟩,_⟩:=(aH.cv rfl).1 bb;exact Good.same h (by simp[g1,binOp,g2]) rfl (of_bool _)
   .cases he
  .rename_i aE ax;split at he
   .rename_i b1;simp only[map_eq_some_iff]at he;obtain⟨r,aM,rfl⟩:=he;obtain⟨g1,g2⟩:=KR bn ax au bb b1 aM .neq xr xt;obtain⟨⟨xs,rfl⟩,_⟩:=(aH.cv rfl).1 au;obtain⟨⟨ys,rfl⟩,_⟩:=(aH.cv rfl).1 bb;exact Good.same h (by simp[g1,binOp,g2]) rfl (of_bool _)
   .cases he
  .cases he
 .have:=rW bb;subst this;split at he
  .rename_i e ax;simp only[map_eq_some_iff]at he;obtain⟨r,aM,rfl⟩:=he;obtain⟨i,d,z,aR,aV,aW,cm,cC,b7,bW⟩:=bn.info (gg ax (by simp));rw[ax]at bW;have:=lV bW;subst this;obtain⟨b,ab,ae,az,a0,bw,ni,rfl⟩:=KN h au aM b7;refine Good.same h (v:=.bool b) ?_ ?_ ?_
   .rw[eqGuard_at_slice];simp[binOp,ab]
   .cases r<;>rfl
   .cases r with
    |none=>exact ED b
    |some fH=>have:=ae fH rfl;subst this;simp only[oG,Bool.bne_false];exact of_bool _
  .rename_i e ax;simp only[map_eq_some_iff]at he;obtain⟨r,aM,rfl⟩:=he;obtain⟨i,d,z,aR,aV,aW,cm,cC,b7,bW⟩:=bn.info (gg ax (by simp));rw[ax]at bW;have:=lV bW;subst this;obtain⟨b,ab,ae,az,a0,bw,ni,rfl⟩:=KN h au aM b7;refine Good.same h (v:=.bool !b) ?_ ?_ ?_
   .rw[eqGuard_at_slice];simp[binOp,ab]
   .cases r<;>rfl
   .cases r with
    |none=>exact ED _
    |some fH=>have:=ae fH rfl;subst this;simp only[oG,Bool.bne_true];exact of_bool _
  .cases he
 .have:=KH bb;subst this;split at he
  .rename_i e ax;simp only[map_eq_some_iff]at he;obtain⟨r,aM,rfl⟩:=he;obtain⟨i,d,z,aR,aV,aW,cm,cC,b7,bW⟩:=bn.info (gg ax (by simp));rw[ax]at bW;have:=Ky bW;subst this;obtain⟨ab,a0,rfl⟩:=KO h au aM b7;refine Good.same h (v:=.bool r) ?_ rfl (of_bool _);rw[eqGuard_at_pointer];simp[binOp,ab]
  .rename_i e ax;simp only[map_eq_some_iff]at he;obtain⟨r,aM,rfl⟩:=he;obtain⟨i,d,z,aR,aV,aW,cm,cC,b7,bW⟩:=bn.info (gg ax (by simp));rw[ax]at bW;have:=Ky bW;subst this;obtain⟨ab,a0,rfl⟩:=KO h au aM b7;refine Good.same h (v:=.bool !r) ?_ rfl (of_bool _);rw[eqGuard_at_pointer];simp[binOp,ab]
  .cases he
 .cases he
end
section
variable {C:ca} {w0 w:World} {F0 X F:Nat->Prop} {S:Nat->Nat->Prop} {s s1:aw} {aC:Nat->Value} {av:I}
def un (op:UnOp) (x:I):Option I:=
 match op,x with
 | .not,.bool b=>some (.bool !b)
 | .not,.fm=>some .fm
 | .neg,.int k n=>some (.int k (k.wrap (0-n)))
 |_,_=>none
theorem Sf (h:bD w0 F0 X F S s aC w) {op:UnOp} {x:I} {v:Value} (aJ:aH w F s aC x v (λ_=>False)) (he:un op x=some av):Good C w0 F0 X aC w (Op.unary op v) av s:=by
 unfold un at he;split at he<;>first|(cases he;done)|(simp only[some.injEq]at he;subst he)
 .have:=rV aJ;subst this;exact Good.same h rfl rfl (of_bool _)
 .obtain⟨b,rfl⟩:=KI aJ;exact Good.same h rfl rfl (ED _)
 .have:=pO aJ;subst this;exact Good.same h rfl rfl (of_int _ _)
def kK (s:aw) (x:I):Option I:=
 match x with
 | .ref d=>some (.ref d)
 | .fn f c=>some (.fn f c)
 | .h y q=>match I.sub q (s y)with
   |some (.bf _)=>some (.h y q)
   |_=>none
 |_=>none
theorem Sg {d:I} {v:Value} {aN:Nat->Prop} (h:aH w F s aC (.ref d) v aN):∃b o eA,v= .pointer (some ⟨b,o,none⟩)/\F b/\Rd w b o eA/\ar w F d eA (λ_=>False):=by
 have bC:=(aH.cv rfl).1 h;rw[ar,gq bC.1]at bC;obtain⟨_,b,o,eA,ab,ae,az,a6⟩:=bC;simp at ab;subst ab;exact⟨b,o,eA,rfl,ae,az,a6⟩
theorem Sh (h:bD w0 F0 X F S s aC w) {x:I} {v:Value} (aJ:aH w F s aC x v (λ_=>False)) (he:kK s x=some av):
  av=x/\x.plain=true/\((∃a,v= .pointer (some a))\/∃f c,v= .func (.func f) #[] c):=by
 unfold kK at he;split at he
 .simp only[some.injEq]at he;subst he;obtain⟨b,o,eA,rfl,_⟩:=Sg aJ;exact⟨rfl,rfl,.inl ⟨_,rfl⟩⟩
 .simp only[some.injEq]at he;subst he;rw[aH]at aJ;obtain⟨arr,rfl,_⟩:=aJ;exact⟨rfl,rfl,.inr ⟨_,_,rfl⟩⟩
 .split at he
  .rename_i d ai;simp only[some.injEq]at he;subst he;obtain⟨b,cur,e,fr,rfl,_⟩:=KJ h aJ ai;exact⟨rfl,rfl,.inl ⟨_,rfl⟩⟩
  .cases he
 .cases he
def ex (s:aw) (x:I) (k:Nat):Option I:=
 match x with
 | .tuple ds=>match ds[k]? with
   |some d=>if d.plain=true then some d else none
   |none=>none
 | .h y q=>match I.sub q (s y)with
   |some (.tuple ds)=>match ds[k]? with
    |some d=>if I.eg ds=true then none else some (if d.plain then d else .h y (q++[k]))
    |none=>none
   |_=>none
 |_=>none
theorem KS:∀(vs:alU) (k:Nat) (x:Value) (ds:alW),vs[k]? =some x->vs.length=ds.length->(∀(j:Nat) (d:I) (y:Value),ds[j]? =some d->vs[j]? =some y->(iu y).length=d.wd)->
  ∃l r,vs.flatMap iu=l++(iu x++r)/\l.length=I.ef (ds.take k)
 |[],k,x,ds,h,_,_=>by simp at h
 |v::vs,0,x,ds,h,hl,hw=>by
  simp at h;subst h;exact⟨[],vs.flatMap iu,by simp,by simp[I.ef]⟩
 |v::vs,k+1,x,d::ds,h,hl,hw=>by
  obtain⟨l,r,aR,aV⟩:=KS vs k x ds (by simpa using h) (by simpa using hl) (λj d y ab ae=>hw (j+1) d y (by simpa using ab) (by simpa using ae));refine⟨iu v++l,r,by simp[aR],?_⟩;have:=hw 0 d v (by simp) (by simp);simp[I.ef,aV,this]
 |v::vs,k+1,x,[],h,hl,hw=>by simp at hl
theorem Si {d:I} {v:Value} (h:iv d v) (_hd:∀vs,d≠.tuple vs):cj v=iu v:=by
 cases d with
 |agg aE=>obtain⟨arr,rfl⟩:=h;rfl
 |_=>
  have ab:Value.fK v=true:=h;cases v<;>first|rfl|(simp[Value.fK]at ab)
theorem Sj {d:I} {v:Value} (h:iv d v) (ai:∀vs,d≠.tuple vs):dD d v:=by
 cases d with
 |tuple vs=>exact(ai _ rfl).elim
 |_=>exact h
theorem Sk (h:bD w0 F0 X F S s aC w) {x:I} {v:Value} {k:Nat} (aJ:aH w F s aC x v (λ_=>False)) (he:ex s x k=some av):Good C w0 F0 X aC w (Instr.extract v k) av s:=by
 have pick:∀(ds:alW) (d:I) (arr:Array Value),ds[k]? =some d->(arr.size=ds.length/\∀(k:Nat) (d:I) (x:Value),ds[k]? =some d->arr[k]? =some x->iv d x/\(∀vs,d≠.tuple vs)/\(iu x).length=d.wd)->
   ∃x,arr[k]? =some x/\dD d x/\((cj (.tuple arr)).drop (I.ef (ds.take k))).take d.wd=cj x:=by
  intro ds d arr ai ⟨bZ,jv⟩;have dv:k<arr.size:=by rw[bZ];exact(List.getElem?_eq_some_iff.1 ai).1
  have au:arr[k]? =some arr[k]:=Array.getElem?_eq_getElem dv;obtain⟨g1,g2,g3⟩:=jv k d _ ai au;obtain⟨l,r,aR,aV⟩:=KS arr.toList k arr[k] ds (by simp[dv]) (by simpa using bZ) (λj d y ab ae=>(jv j d y ab (by simpa using ae)).2.2);refine⟨_,au,Sj g1 g2,?_⟩;rw[Si g1 g2];simp only[cj];rw[aR];exact sW l _ r _ _ aV g3
 unfold ex at he;split at he
 .rename_i ds;split at he
  .rename_i d ai;split at he
   .rename_i aq;simp only[some.injEq]at he;subst he;have bC:=(aH.cv rfl).1 aJ;obtain⟨⟨arr,rfl,bZ⟩,fw⟩:=bC;obtain⟨x,au,ad,an⟩:=pick ds d arr ai bZ;have aM:(Instr.extract (.tuple arr) k).run C.P w= .ok x w:=by simp[Instr.extract,au]
    rw[ar]at fw;obtain⟨c1,fG,c2,b5,hZ,e,hF,fL,hn,h6,fZ,mb⟩:=a1.pick ds _ _ k d fw ai;rw[e,sW c1 fG c2 _ _ hF (ar.length _ _ _ fZ)]at an;by_cases a8:d.tree=true
    .exact Good.same h aM aq ((aH.cv a8).2 ⟨ad,by rw[<-an];exact ar.plain _ _ _ _ aq fZ⟩)
    .cases d<;>first|exact(a8 rfl).elim|(rw[ar]at fZ;exact fZ.elim)|exact Good.same h aM rfl (by rw[aH];trivial)|(have bF:=ar.plain _ _ _ (λ_=>False) aq fZ;rw[an,gq (by exact ad)]at bF;exact Good.same h aM rfl (aH.pM _ _ rfl bF))
   .cases he
  .cases he
 .rename_i y q;split at he
  .rename_i ds ai;split at he
   .rename_i d ax;split at he
    .cases he
    .rename_i fI;simp only[some.injEq]at he;have fI:(I.tuple ds).plain=false:=by simpa [I.plain]using fI
     rw[aH]at aJ;obtain⟨cQ,a,g1,g2,g3⟩:=aJ _ ai fI;obtain⟨arr,rfl,bZ⟩:=g3;obtain⟨x,au,ad,an⟩:=pick ds d arr ax bZ;have aM:(Instr.extract (.tuple arr) k).run C.P w= .ok x w:=by simp[Instr.extract,au]
     have bb:=h.dp y;rw[aH.cv (h0 ai (.inl fI))]at bb;obtain⟨fT,cL,eh,fo,k0,b3,cc,eT,dL,fp⟩:=ctx q (s y) (cj (aC y)) (S y) none _ bb.2 ai;rw[k0]at g1;simp only[some.injEq,Prod.mk.injEq,true_and]at g1;obtain⟨rfl,rfl⟩:=g1;rw[g2]at an;split at he
     .rename_i aq;subst he;rw[ar]at dL;obtain⟨c1,fG,c2,b5,hZ,e,hF,fL,hn,h6,fZ,mb⟩:=a1.pick ds _ _ k d dL ax;rw[e,sW c1 fG c2 _ _ hF (ar.length _ _ _ fZ)]at an;by_cases a8:d.tree=true
      .exact Good.same h aM aq ((aH.cv a8).2 ⟨ad,by rw[<-an];exact ar.plain _ _ _ _ aq fZ⟩)
      .cases d<;>first|exact(a8 rfl).elim|(rw[ar]at fZ;exact fZ.elim)|exact Good.same h aM rfl (by rw[aH];trivial)|(have bF:=ar.plain _ _ _ (λ_=>False) aq fZ;rw[an,gq (by exact ad)]at bF;exact Good.same h aM rfl (aH.pM _ _ rfl bF))
     .subst he;refine Good.same h aM rfl ?_;rw[aH];intro d2 hx uK;rw[xi w q _ _ _ _ _ _ [k] k0];rw[xh _ _ _ _ ai]at hx;simp only[I.sub,ax,some.injEq]at hx;subst hx;simp only[du,ax];exact⟨_,_,rfl,an.symm,ad⟩
   .cases he
  .cases he
 .cases he
def me (C:ca) (s:aw) (T:TypeId) (x:I) (k:Nat):Option I:=
 match(C.T T).k with
 | .struct aE=>match aE[k]? with
   |some (jK,off)=>match x with
    | .agg ds=>match ds[k]? with
      |some d=>if I.ef (ds.take k)=off/\fits C jK d=true/\d.plain=true/\d.tree=true then some d else none
      |none=>none
    | .h y q=>match I.sub q (s y)with
      |some (.agg ds)=>match ds[k]? with
       |some d=>if I.ef (ds.take k)=off/\fits C jK d=true/\I.eg ds=false/\d.tree=true then some (if d.plain then d else .h y (q++[k]))else none
       |none=>none
      |_=>none
    |_=>none
   |none=>none
 |_=>none
theorem Sl (bn:C.Ok) (h:bD w0 F0 X F S s aC w) {T:TypeId} {x:I} {v:Value} {k:Nat} (aJ:aH w F s aC x v (λ_=>False)) (he:me C s T x k=some av):Good C w0 F0 X aC w (Instr.field T v k) av s:=by
 have key:∀(aE:List (TypeId×Nat)) (jK:TypeId) (off:Nat),(C.T T).k= .struct aE->aE[k]? =some (jK,off)->∀(ds:alW) (d:I) (arr:Array Value) (aN:Nat->Prop),ds[k]? =some d->I.ef (ds.take k)=off->fits C jK d=true->a1 w F ds arr.toList aN->
   ∃x hZ,(Instr.field T (.agg arr) k).run C.P w= .ok x w/\dD d x/\ar w F d (cj x) hZ/\(arr.toList.drop off).take d.wd=cj x:=by
  intro aE jK off ax bo ds d arr aN ai pL iF fw;obtain⟨i,xq,z,aR,aV,aW,cm,cC,b7,bW⟩:=bn.info (gg ax (by simp));rw[ax]at bW;obtain⟨gs,rfl,hy⟩:=xj bW;obtain⟨g,g1,rfl,rfl⟩:∃g,gs[k]? =some g/\g.type=jK/\g.offset=off:=by
   rw[<-hy,getElem?_map]at bo;simp only[map_eq_some_iff,Prod.mk.injEq]at bo;obtain⟨g,ab,ae,az⟩:=bo;exact⟨g,by simpa using ab,ae,az⟩
  obtain⟨c1,fG,c2,b5,hZ,e,hF,fL,hn,h6,fZ,mb⟩:=a1.pick ds _ _ k d fw ai;obtain⟨x,aM,KT,lq⟩:=RW (w:=w) bn e (hF.trans pL) fZ iF;refine⟨x,hZ,?_,lq,by rw[KT];exact fZ,?_⟩
  .simp[Instr.field,run_underlying b7,g1,asAgg,aM]
  .rw[e,KT,<-pL];exact sW c1 fG c2 _ _ hF (ar.length _ _ _ fZ)
 have KU:∀(d:I) (x:Value) (hZ:Nat->Prop),d.plain=true->dD d x->ar w F d (cj x) hZ->aH w F s aC d x (λ_=>False):=by
  intro d x hZ aq ad fw;by_cases a8:d.tree=true
  .exact(aH.cv a8).2 ⟨ad,ar.plain _ _ _ _ aq fw⟩
  .cases d<;>first|exact(a8 rfl).elim|(rw[ar]at fw;exact fw.elim)|(rw[aH];trivial)|(have bF:=ar.plain _ _ _ (λ_=>False) aq fw;rw[gq (by exact ad)]at bF;exact aH.pM _ _ rfl bF)
 unfold me at he;split at he
 .rename_i aE ax;split at he
  .rename_i jK off bo;split at he
   .rename_i ds;split at he
    .rename_i d ai;split at he
     .rename_i an;simp only[some.injEq]at he;subst he;obtain⟨⟨arr,rfl⟩,fw⟩:=(aH.cv rfl).1 aJ;rw[ar]at fw;obtain⟨x,hZ,aM,ad,rY,_⟩:=key aE jK off ax bo ds d arr _ ai an.1 an.2.1 fw;exact Good.same h aM an.2.2.1 (KU d x hZ an.2.2.1 ad rY)
     .cases he
    .cases he
   .rename_i y q;split at he
    .rename_i ds ai;split at he
     .rename_i d oB;split at he
      .rename_i an;simp only[some.injEq]at he;have fI:(I.agg ds).plain=false:=by simpa [I.plain]using an.2.2.1
       rw[aH]at aJ;obtain⟨cQ,a,g1,g2,g3⟩:=aJ _ ai fI;obtain⟨arr,rfl⟩:=g3;have bb:=h.dp y;rw[aH.cv (h0 ai (.inl fI))]at bb;obtain⟨fT,cL,eh,fo,k0,b3,cc,eT,dL,fp⟩:=ctx q (s y) (cj (aC y)) (S y) none _ bb.2 ai;rw[k0]at g1;simp only[some.injEq,Prod.mk.injEq,true_and]at g1;obtain⟨rfl,rfl⟩:=g1;rw[ar,<-g2]at dL;obtain⟨x,hZ,aM,ad,rY,gh⟩:=key aE jK off ax bo ds d arr _ oB an.1 an.2.1 dL;by_cases aq:d.plain=true
       .rw[if_pos aq]at he;subst he;exact Good.same h aM aq (KU d x hZ aq ad rY)
       .rw[if_neg aq]at he;subst he;refine Good.same h aM rfl ?_;rw[aH];intro d2 hx uK;rw[xi w q _ _ _ _ _ _ [k] k0];rw[xh _ _ _ _ ai]at hx;simp only[I.sub,oB,some.injEq]at hx;subst hx;simp only[du,oB];refine⟨_,_,rfl,?_,ad⟩;rw[an.1,<-g2];exact gh.symm
      .cases he
     .cases he
    .cases he
   .cases he
  .cases he
 .cases he
end
section
variable {C:ca} {w0 w:World} {F0 X F:Nat->Prop} {S:Nat->Nat->Prop} {s s1:aw} {aC:Nat->Value} {av:I}
def idx (C:ca) (T:TypeId) (x i:I):Option I:=
 match(C.T T).k,x,i with
 | .str,.str l,.int _ n=>if 0<=n then(match l[n.toNat]? with|some b=>some (.int .u8 b.toNat)|none=>none)else none
 |_,_,_=>none
theorem Sm (l:alO) (n:Nat):(⟨⟨l⟩⟩:ByteArray)[n]? =l[n]? :=by
 by_cases h:n<l.length
 .have bC:n<(⟨⟨l⟩⟩:ByteArray).size:=h;rw[getElem?_eq_getElem h,getElem?_pos (⟨⟨l⟩⟩:ByteArray) n bC];rfl
 .have bC:¬n<(⟨⟨l⟩⟩:ByteArray).size:=h;rw[getElem?_eq_none (by omega),getElem?_neg (⟨⟨l⟩⟩:ByteArray) n bC]
theorem Sp (bn:C.Ok) (h:bD w0 F0 X F S s aC w) {T:TypeId} {x i:I} {v nT:Value} (aJ:aH w F s aC x v (λ_=>False)) (ao:aH w F s aC i nT (λ_=>False)) (he:idx C T x i=some av):
  Good C w0 F0 X aC w (Instr.index T v nT) av s:=by
 unfold idx at he;split at he
 .rename_i l k n ax;have:=nV aJ;subst this;have:=pO ao;subst this;obtain⟨i,d,z,aR,aV,aW,cm,cC,b7,bW⟩:=bn.info (gg ax (by simp));rw[ax]at bW;have:=pK bW;subst this;split at he
  .rename_i aS;split at he
   .rename_i b R;simp only[some.injEq]at he;subst he;refine Good.same h ?_ rfl (of_int _ _);simp[Instr.index,asIntOf,run_underlying b7,aS,Sm,R]
   .cases he
  .cases he
 .cases he
def lenOf (s:aw):I->Option Nat
 | .str l=>some l.length
 | .bd=>some 0
 | .slice xs=>some xs.length
 | .h y q=>match I.sub q (s y)with
   |some (.ag _ xs)=>some xs.length
   |_=>none
 |_=>none
def qR (C:ca) (s:aw) (T:TypeId) (x:I):Option I:=
 match(C.T T).k,x with
 | .str,.str l=>some (.int .i64 l.length)
 | .slice _,.bd=>some (.int .i64 0)
 | .slice _,.slice xs=>some (.int .i64 xs.length)
 | .slice _,.h y q=>match I.sub q (s y)with
   |some (.ag _ xs)=>some (.int .i64 xs.length)
   |_=>none
 |_,_=>none
theorem A0 {xs:alW} {v:Value} {aN:Nat->Prop} (h:aH w F s aC (.slice xs) v aN):(xs=[]/\∃a c,v= .slice a 0 c/\c<=maxLen/\(a=none->c=0))\/
  ∃b o cap eA sz,v= .slice (some ⟨b,o,none⟩) xs.length cap/\F b/\xs.length<=cap/\cap<=maxLen/\(∀d∈xs,d.wd=sz)/\Rd w b o eA/\a1 w F xs eA (λ_=>False):=by
 have bC:=(aH.cv rfl).1 h;rw[ar,gq bC.1]at bC;obtain⟨_,⟨rfl,a,c,ae,az⟩|⟨b,o,cap,eA,sz,ae,az⟩⟩:=bC
 .simp at ae;exact .inl ⟨rfl,a,c,ae,az⟩
 .simp at ae;exact .inr ⟨b,o,cap,eA,sz,ae,az⟩
theorem Sq (bn:C.Ok) (h:bD w0 F0 X F S s aC w) {T ty:TypeId} {x:I} {v:Value} (aJ:aH w F s aC x v (λ_=>False)) (he:qR C s T x=some av):
  Good C w0 F0 X aC w (Builtin.len_ #[T] ty #[v]) av s:=by
 unfold qR at he;split at he
 .rename_i l ax;have:=nV aJ;subst this;obtain⟨i,d,z,aR,aV,aW,cm,cC,b7,bW⟩:=bn.info (gg ax (by simp));rw[ax]at bW;have:=pK bW;subst this;simp only[some.injEq]at he;subst he;refine Good.same h ?_ rfl (of_int _ _);simp[Builtin.len_,run_underlying b7,goInt];rfl
 .rename_i e ax;have:=rW aJ;subst this;obtain⟨i,d,z,aR,aV,aW,cm,cC,b7,bW⟩:=bn.info (gg ax (by simp));rw[ax]at bW;have:=lV bW;subst this;simp only[some.injEq]at he;subst he;refine Good.same h ?_ rfl (of_int _ _);simp[Builtin.len_,run_underlying b7,goInt]
 .rename_i e xs ax;obtain⟨i,d,z,aR,aV,aW,cm,cC,b7,bW⟩:=bn.info (gg ax (by simp));rw[ax]at bW;have:=lV bW;subst this;simp only[some.injEq]at he;subst he;refine Good.same h ?_ rfl (of_int _ _);rcases A0 aJ with⟨rfl,a,c,rfl,_⟩|⟨b,o,cap,eA,sz,rfl,_⟩<;>simp[Builtin.len_,run_underlying b7,goInt]
 .rename_i e y q ax;split at he
  .rename_i sz xs ai;obtain⟨i,d,z,aR,aV,aW,cm,cC,b7,bW⟩:=bn.info (gg ax (by simp));rw[ax]at bW;have:=lV bW;subst this;simp only[some.injEq]at he;subst he;refine Good.same h ?_ rfl (of_int _ _);rcases EE h aJ ai with⟨rfl,_,rfl⟩|⟨b,cap,cur,aV,fr,rfl,_⟩<;>simp[Builtin.len_,run_underlying b7,goInt]
  .cases he
 .cases he
def bytesOf:alW->Option alO
 |[]=>some []
 | .int .u8 n::r=>if 0<=n/\n<256 then(bytesOf r).map (UInt8.ofNat n.toNat::·)else none
 |_=>none
def k6 (b:UInt8):I:=.int .u8 b.toNat
theorem Sr (l:alO):bytesOf (l.map k6)=some l:=by
 induction l with
 |nil=>rfl
 |cons b l ih=>
  have R:b.toNat<256:=b.toNat_lt;simp only[map_cons,k6,bytesOf,Int.toNat_natCast];rw[if_pos (by omega),ih];simp
theorem EI:∀(xs:alW) (l:alO) (cs:alU) (aN:Nat->Prop),bytesOf xs=some l->a1 w F xs cs aN->cs=l.map (λb=>.int .u8 (b.toNat:Int))/\xs.length=l.length
 |[],l,cs,aN,h,aM=>by simp[bytesOf]at h;subst h;rw[a1]at aM;subst aM;exact⟨rfl,rfl⟩
 |x::xs,l,cs,aN,h,aM=>by
  unfold bytesOf at h;split at h
  .rename_i e;cases e
  .rename_i n r e;simp only[cons.injEq]at e;obtain⟨rfl,rfl⟩:=e;split at h
   .rename_i aS;simp only[map_eq_some_iff]at h;obtain⟨cn,ab,rfl⟩:=h;rw[a1]at aM;obtain⟨c1,c2,b5,dg,rfl,ae,az,_⟩:=aM;obtain⟨rfl,a6⟩:=EI xs cn c2 dg ab az;rw[ar]at ae;subst ae;refine⟨?_,by simp[a6]⟩;simp only[map_cons,cons_append,nil_append,cons.injEq,and_true,Value.int.injEq,true_and];simp only[UInt8.toNat_ofNat'];omega
   .cases h
  .cases h
theorem bD.A1 (h:bD w0 F0 X F S s aC w) {aF:World} {sz cap:Nat} {xs:alW} {cur:Array Value} {e:TypeId} {fr:Nat×Nat} {Sn:Nat->Prop}
  (hw:aF.heap=w.heap.push (.cells cur e fr)) (ab:aF.os=w.os) (ae:aF.tape=w.tape) (az:Out aF w)
  (bo:k2 fr (cur.size+(sz-1))) (hle:xs.length<=cap) (hm:cap<=maxLen) (ea:cur.size=cap*sz) (kG:∀d∈xs,d.wd=sz) (aJ:a1 w F xs (cur.toList.take (xs.length*sz)) Sn)
  (dv:∀b,Sn b->b<w.heap.size) (bh:∀b,Sn b->¬F b) (bK:∀u b,Sn b->¬S u b) (aX:∀b,Sn b->X b\/w0.heap.size<=b):
  bD w0 F0 X F S s aC aF/\k4 w0 X F S s aC aF (.ag sz xs) (.slice (some ⟨w.heap.size,0,none⟩) xs.length cap):=by
 have hold:∀b,b<w.heap.size->aF.heap[b]? =w.heap[b]? :=by
  intro b R;rw[hw,Array.getElem?_push,if_neg (by omega)]
 have ajP:aF.heap.size=w.heap.size+1:=by rw[hw];simp
 refine⟨h.grow hold (by omega) ab ae az,.inr ⟨rfl,rfl,λb=>b=w.heap.size\/Sn b,?_,?_,?_,?_,?_⟩⟩
 .simp only[cj,iu];rw[ar];refine .inr ⟨w.heap.size,cap,cur,e,fr,Sn,rfl,.inl rfl,?_,bo,hle,hm,ea,kG,?_,λc an=>.inr an,λan=>Nat.lt_irrefl _ (dv _ an)⟩
  .rw[hw];simp
  .exact a1.frame (λb R=>hold b (h.eQ b R)) _ _ _ (λb R=>hold b (dv b R)) aJ
 .rintro b (rfl|R)
  .omega
  .have:=dv b R;omega
 .rintro b (rfl|R) qQ
  .exact Nat.lt_irrefl _ (h.eQ _ qQ)
  .exact bh b R qQ
 .rintro u b (rfl|R) hu
  .exact Nat.lt_irrefl _ (h.dW _ _ hu)
  .exact bK u b R hu
 .rintro b (rfl|R)
  .exact .inr h.size
  .exact aX b R
def iX (C:ca) (s:aw) (A B:TypeId) (x:I):Option I:=
 if(C.T A).ok=true then
 match(C.T B).k,x with
 | .int k,.int _ n=>some (.int k (k.wrap n))
 | .str,.str l=>match(C.T A).k with
   | .str=>some (.str l)
   |_=>none
 | .str,x=>match(C.T A).k with
   | .slice e=>match(C.T e).k with
     | .int .u8=>match x with
       | .bd=>some (.str [])
       | .slice xs=>(bytesOf xs).map .str
       | .h y q=>match I.sub q (s y)with
         |some (.ag 1 xs)=>(bytesOf xs).map .str
         |_=>none
       |_=>none
     |_=>none
   |_=>none
 | .slice e,.str l=>match(C.T A).k,(C.T e).k with
   | .str,.int .u8=>if l.length<=9223372036854775807 then some (.ag 1 (l.map k6))else none
   |_,_=>none
 |_,_=>none
 else none
theorem KV (l:alO) (aN:Nat->Prop):a1 w F (l.map k6) (l.map λb=>.int .u8 (b.toNat:Int)) aN:=by
 induction l generalizing aN with
 |nil=>simp only[map_nil];rw[a1]
 |cons b l ih=>
  simp only[map_cons];rw[a1];exact⟨[.int .u8 (b.toNat:Int)],_,λ_=>False,λ_=>False,rfl,by rw[k6,ar],ih _,λ_ h=>h.elim,λ_ h=>h.elim,λ_ h=>h.elim⟩
theorem Ss (bn:C.Ok) (h:bD w0 F0 X F S s aC w) {A B:TypeId} {x:I} {v:Value} (aJ:aH w F s aC x v (λ_=>False)) (he:iX C s A B x=some av):
  Good C w0 F0 X aC w (convert A B v) av s:=by
 unfold iX at he;split at he
 .rename_i hA;obtain⟨jL,ajQ,ajR,J,a2,a3,a4,a5,pQ,pR⟩:=bn.info hA;split at he
  .rename_i k cF n ax;have:=pO aJ;subst this;obtain⟨i,d,z,aR,aV,aW,cm,cC,b7,bW⟩:=bn.info (gg ax (by simp));rw[ax]at bW;have:=AS bW;subst this;simp only[some.injEq]at he;subst he;refine Good.same h ?_ rfl (of_int _ _);simp[convert,run_underlying pQ,run_underlying b7,Conv.intToInt]
  .rename_i l ax;have:=nV aJ;subst this;obtain⟨i,d,z,aR,aV,aW,cm,cC,b7,bW⟩:=bn.info (gg ax (by simp));rw[ax]at bW;have:=pK bW;subst this;split at he
   .rename_i xv;rw[xv]at pR;have:=pK pR;subst this;simp only[some.injEq]at he;subst he;refine Good.same h ?_ rfl (oF _);simp[convert,run_underlying pQ,run_underlying b7]
   .cases he
  .rename_i x ax _;obtain⟨i,d,z,aR,aV,aW,cm,cC,b7,bW⟩:=bn.info (gg ax (by simp));rw[ax]at bW;have:=pK bW;subst this;split at he
   .rename_i e xv;rw[xv]at pR;have:=lV pR;subst this;split at he
    .rename_i xw;obtain⟨qM,bg,qN,f1,f2,f3,f4,f5,f6,f7⟩:=bn.info (gg xw (by simp));rw[xw]at f7;have:=AS f7;subst this;have fin:∀(l:alO) (b o cap:Nat),Rd w b o (l.map λb=>.int .u8 (b.toNat:Int))->(convert A B (.slice (some ⟨b,o,none⟩) l.length cap)).run C.P w= .ok (.string ⟨⟨l⟩⟩) w:=by
      intro l b o cap j2;refine run_convert_bytes_back w A B e ⟨b,o,none⟩ cap l pQ f6 b7 (λj bm=>?_);rw[Addr.add_lit];exact j2 j _ (by simp[bm])
     have nil:(convert A B (.slice none 0 0)).run C.P w= .ok (.string ⟨⟨[]⟩⟩) w:=by
      simp[convert,run_underlying pQ,run_underlying b7,run_underlying f6,Conv.bytesToString];rfl
     split at he
     .have:=rW aJ;subst this;simp only[some.injEq]at he;subst he;exact Good.same h nil rfl (oF _)
     .rename_i xs _;simp only[map_eq_some_iff]at he;obtain⟨l,hl,rfl⟩:=he;rcases A0 aJ with⟨rfl,a,c,rfl,_,s7⟩|⟨b,o,cap,eA,sz,rfl,ab,ae,az,a6,bF,cP⟩
      .simp[bytesOf]at hl;subst hl;cases a with
       |none=>
        have:=s7 rfl;subst this;exact Good.same h nil rfl (oF _)
       |some a=>
        refine Good.same h ?_ rfl (oF _);exact run_convert_bytes_back w A B e a c [] pQ f6 b7 (λj bm=>by simp at bm)
      .obtain⟨rfl,cB⟩:=EI xs l eA _ hl cP;rw[cB];exact Good.same h (fin l b o cap bF) rfl (oF _)
     .rename_i y q;split at he
      .rename_i xs ai;simp only[map_eq_some_iff]at he;obtain⟨l,hl,rfl⟩:=he;rcases EE h aJ ai with⟨rfl,a,rfl⟩|⟨b,cap,cur,aV,fr,rfl,ab,ae,az,a6,bF,cP,aN,cB,_⟩
       .simp[bytesOf]at hl;subst hl;cases a with
        |none=>exact Good.same h nil rfl (oF _)
        |some a=>
         refine Good.same h ?_ rfl (oF _);exact run_convert_bytes_back w A B e a 0 [] pQ f6 b7 (λj bm=>by simp at bm)
       .obtain⟨fS,iE⟩:=EI xs l _ _ hl cB;rw[iE];refine Good.same h (fin l b 0 cap ?_) rfl (oF _);rw[<-fS];exact uF ab _
      .cases he
     .cases he
    .cases he
   .cases he
  .rename_i e l ax;have:=nV aJ;subst this;obtain⟨i,d,z,aR,aV,aW,cm,cC,b7,bW⟩:=bn.info (gg ax (by simp));rw[ax]at bW;have:=lV bW;subst this;split at he
   .rename_i xv xw;rw[xv]at pR;have:=pK pR;subst this;obtain⟨qM,bg,qN,f1,f2,f3,f4,f5,f6,f7⟩:=bn.info (gg xw (by simp));rw[xw]at f7;have:=AS f7;subst this;split at he
    .rename_i hl;simp only[some.injEq]at he;subst he;have ad:(⟨⟨l⟩⟩:ByteArray).size=l.length:=rfl;have EJ:=grownCap_ge w l.length 0 e;have St:=grownCap_le_maxLen w l.length 0 e (by unfold maxLen;omega);have KW:(bytesRow ⟨⟨l⟩⟩ (grownCap w l.length 0 e)).toList=l.map (λb=>Value.int .u8 (b.toNat:Int))++replicate (grownCap w l.length 0 e-l.length) (.int .u8 0):=by
      simp[bytesRow,ad]
     have ea:(bytesRow ⟨⟨l⟩⟩ (grownCap w l.length 0 e)).size=grownCap w l.length 0 e*1:=by
      have:(bytesRow ⟨⟨l⟩⟩ (grownCap w l.length 0 e)).size=(bytesRow ⟨⟨l⟩⟩ (grownCap w l.length 0 e)).toList.length:=by simp
      rw[this,KW];simp;omega
     have s6:=run_bytes_of_string w A B e ⟨⟨l⟩⟩ pQ b7 f6;rw[ad]at s6;have lX:=h.A1 (aF:=w.drew.alloc (.cells (bytesRow ⟨⟨l⟩⟩ (grownCap w l.length 0 e)) e ((bytesRow ⟨⟨l⟩⟩ (grownCap w l.length 0 e)).size,(bytesRow ⟨⟨l⟩⟩ (grownCap w l.length 0 e)).size+1)))
      (sz:=1) (cap:=grownCap w l.length 0 e) (xs:=l.map k6) (cur:=bytesRow ⟨⟨l⟩⟩ (grownCap w l.length 0 e)) (e:=e) (Sn:=λ_=>False) rfl rfl rfl ⟨rfl,λ_=>le_succ _⟩
      (λo bE ⟨ab,_⟩=>by simp only at ab;omega) (by simpa using EJ) St ea (by intro d ai;obtain⟨b,_,rfl⟩:=mem_map.1 ai;rfl)
      (by rw[KW,take_left' (by simp)];exact KV l _) (λ_ h=>h.elim) (λ_ h=>h.elim) (λ_ _ h=>h.elim) (λ_ h=>h.elim)
     simp only[length_map]at lX;exact⟨_,_,F,S,s6,lX.1,lX.2⟩
    .cases he
   .cases he
  .cases he
 .cases he
end
section
variable {C:ca} {w0 w:World} {F0 X F:Nat->Prop} {S:Nat->Nat->Prop} {s s1:aw} {aC:Nat->Value} {av:I}
def iM (d:Nat):Option I->Option Nat
 |none=>some d
 |some (.int _ n)=>if 0<=n then some n.toNat else none
 |some _=>none
def h9 (C:ca) (s:aw) (T:TypeId) (x:I) (fl ao:Option I):Option (I×aw):=
 match(C.T T).k,x with
 | .str,.str l=>match iM 0 fl,iM l.length ao with
   |some a,some b=>if a<=b/\b<=l.length then some (.str ((l.take b).drop a),s)else none
   |_,_=>none
 | .slice e,.bd=>match iM 0 fl,iM 0 ao with
   |some 0,some 0=>if(C.T e).ok=true then some (.bd,s)else none
   |_,_=>none
 | .slice e,.slice xs=>match iM 0 fl,iM xs.length ao with
   |some a,some b=>if a<=b/\b<=xs.length/\(C.T e).ok=true/\(∀d∈xs,d.wd=(C.T e).sz)then some (.slice ((xs.take b).drop a),s)else none
   |_,_=>none
 | .slice e,.h y q=>match I.sub q (s y)with
   |some (.ag sz xs)=>match iM 0 fl,iM xs.length ao with
    |some 0,some b=>if b<=xs.length/\(C.T e).ok=true then(match cV s (.h y q)with|some (_,s1)=>some (.ag sz (xs.take b),s1)|none=>none)else none
    |_,_=>none
   |_=>none
 |_,_=>none
def qS (w:World) (F:Nat->Prop) (s:aw) (aC:Nat->Value):Option I->Option Value->Prop
 |none,none=>True
 |some d,some v=>aH w F s aC d v (λ_=>False)
 |_,_=>False
theorem KX {d:Nat} {o:Option I} {v:Option Value} (bE:qS w F s aC o v) {a:Nat} (h:iM d o=some a):(o=none/\v=none/\a=d)\/∃k,v=some (.int k a):=by
 cases o with
 |none=>
  cases v with
  |none=>simp[iM]at h;exact .inl ⟨rfl,rfl,h.symm⟩
  |some v=>simp[qS]at bE
 |some x=>
  cases v with
  |none=>simp[qS]at bE
  |some v=>
   simp only[qS]at bE;cases x with
   |int k n=>
    have:=pO bE;subst this;simp only[iM]at h;split at h
    .rename_i aS;simp only[some.injEq]at h;subst h;obtain⟨m,rfl⟩:=Int.eq_ofNat_of_zero_le aS;exact .inr ⟨k,rfl⟩
    .cases h
   |_=>simp[iM]at h
theorem uM {P:Program} {isS:Bool} {len cap a b:Nat} {fl ao:Option I} {s_ ta:Option Value} (nX:qS w F s aC fl s_) (nY:qS w F s aC ao ta) (cg:iM 0 fl=some a) (R:iM len ao=some b) (ma:a<=b) (Su:b<=cap) (_hlc:len<=cap):
  (Instr.sliceBounds isS len cap s_ ta none).run P w= .ok (a,b,cap) w:=by
 rcases KX nX cg with⟨_,rfl,rfl⟩|⟨k,rfl⟩<;>rcases KX nY R with⟨_,rfl,rfl⟩|⟨cF,rfl⟩<;>
  simp[Instr.sliceBounds,Instr.sliceBound,asIntOf,ma,Su]
theorem uN (bn:C.Ok) {T:TypeId} (ax:(C.T T).flat=true) (v:Value) (fl ao ha:Option Value) (w:World):(Instr.sliceAt T v fl ao ha).run C.P w=(Instr.slice T v fl ao ha).run C.P w:=by
 obtain⟨i,d,z,aR,aV,aW,cm,cC,b7,bW⟩:=bn.info (KB ax);have cY:∀n e,d≠.array n e:=by
  clear b7;unfold gp.flat at ax;generalize (C.T T).k=dX at*;cases dX<;>cases d<;>simp[lp]at bW ax⊢
 cases d<;>first|exact(cY _ _ rfl).elim|simp[Instr.sliceAt,run_underlying b7]
theorem uO {x:gp} {k:nS} (h:x.k=k) (ax:k≠.other) (ad:∀aE,k≠.struct aE) (R:∀e,k≠.hd e:=by simp):x.flat=true:=by
 unfold gp.flat;rw[h];cases k<;>first|rfl|exact(ax rfl).elim|exact(R _ rfl).elim|exact(ad _ rfl).elim
theorem a1.split:∀(n:Nat) (xs:alW) (cs:alU) (aN:Nat->Prop),a1 w F xs cs aN->∃c1 c2 b5 dg,cs=c1++c2/\a1 w F (xs.take n) c1 b5/\a1 w F (xs.drop n) c2 dg/\(∀b,b5 b->aN b)/\(∀b,dg b->aN b)/\(∀b,b5 b->¬dg b)
 |0,xs,cs,aN,h=>⟨[],cs,λ_=>False,aN,rfl,by rw[take_zero,a1],h,λ_ h=>h.elim,λ_ h=>h,λ_ h=>h.elim⟩
 |n+1,[],cs,aN,h=>by rw[a1]at h;subst h;exact⟨[],[],λ_=>False,λ_=>False,rfl,by rw[take_nil,a1],by rw[drop_nil,a1],λ_ h=>h.elim,λ_ h=>h.elim,λ_ h=>h.elim⟩
 |n+1,x::xs,cs,aN,h=>by
  rw[a1]at h;obtain⟨c1,c2,hE,gL,rfl,ab,ae,az,a6,bF⟩:=h;obtain⟨d1,d2,b5,dg,rfl,g1,g2,g3,g4,g5⟩:=a1.split n xs c2 gL ae;refine⟨c1++d1,d2,λb=>hE b\/b5 b,dg,by simp,?_,g2,?_,λb R=>a6 _ (g4 _ R),?_⟩
  .rw[take_succ_cons,a1];exact⟨c1,d1,hE,b5,rfl,ab,g1,λ_ h=>.inl h,λ_ h=>.inr h,λb R an=>bF b R (g3 b an)⟩
  .rintro b (R|R)
   .exact az b R
   .exact a6 b (g3 b R)
  .rintro b (R|R) an
   .exact bF b R (g4 b an)
   .exact g5 b R an
theorem Sv (bn:C.Ok) (h:bD w0 F0 X F S s aC w) {T:TypeId} {x:I} {v:Value} {fl ao:Option I} {s_ ta:Option Value} (au:x.plain=true) (aJ:aH w F s aC x v (λ_=>False)) (nX:qS w F s aC fl s_) (nY:qS w F s aC ao ta)
  (he:h9 C s T x fl ao=some (av,s1)):Good C w0 F0 X aC w (Instr.sliceAt T v s_ ta none) av s1:=by
 unfold h9 at he;split at he
 .rename_i l ax;have:=nV aJ;subst this;obtain⟨i,d,z,aR,aV,aW,cm,cC,b7,bW⟩:=bn.info (gg ax (by simp));rw[ax]at bW;have:=pK bW;subst this;split at he
  .rename_i a b cg R;split at he
   .rename_i ma;simp only[some.injEq,Prod.mk.injEq]at he;obtain⟨rfl,rfl⟩:=he;refine Good.same h ?_ rfl (oF _);rw[uN bn (uO ax (by simp) (by simp))];have ea:(⟨⟨l⟩⟩:ByteArray).size=l.length:=rfl;have nZ:=uM (P:=C.P) (isS:=false) (len:=l.length) (cap:=l.length) nX nY cg R ma.1 ma.2 (Nat.le_refl _);have Sw:(⟨⟨l⟩⟩:ByteArray).extract a b=⟨⟨(l.take b).drop a⟩⟩:=by
     apply ByteArray.ext;simp[ByteArray.data_extract,drop_take]
    simp[Instr.slice,run_underlying b7,ea,nZ,Sw]
   .cases he
  .cases he
 .rename_i e ax;have:=rW aJ;subst this;obtain⟨i,d,z,aR,aV,aW,cm,cC,b7,bW⟩:=bn.info (gg ax (by simp));rw[ax]at bW;have:=lV bW;subst this;split at he
  .rename_i cg R;split at he
   .rename_i qT;obtain⟨qM,bg,qN,f1,f2,f3,f4,f5,f6,f7⟩:=bn.info qT;simp only[some.injEq,Prod.mk.injEq]at he;obtain⟨rfl,rfl⟩:=he;have nZ:=uM (P:=C.P) (isS:=true) (len:=0) (cap:=0) nX nY cg R (Nat.le_refl _) (Nat.le_refl _) (Nat.le_refl _);refine Good.same h (v:=.slice none 0 0) ?_ rfl aJ;rw[uN bn (uO ax (by simp) (by simp))];simp[Instr.slice,run_underlying b7,nZ,kJ f1,f2]
   .cases he
  .cases he
 .rename_i e xs ax;obtain⟨i,d,z,aR,aV,aW,cm,cC,b7,bW⟩:=bn.info (gg ax (by simp));rw[ax]at bW;have:=lV bW;subst this;split at he
  .rename_i a b cg R;split at he
   .rename_i ma;obtain⟨Sy,KY,qT,kG⟩:=ma;obtain⟨qM,bg,qN,f1,f2,f3,f4,f5,f6,f7⟩:=bn.info qT;simp only[some.injEq,Prod.mk.injEq]at he;obtain⟨rfl,rfl⟩:=he;rcases A0 aJ with⟨rfl,uP,c,rfl,EK,s7⟩|⟨jy,o,cap,eA,sz,rfl,ab,ae,az,a6,bF,cP⟩
    .have hI:b=0:=by simpa using KY
     subst hI;have Sz:a=0:=by omega
     subst Sz;have nZ:=uM (P:=C.P) (isS:=true) (len:=0) (cap:=c) nX nY cg R (Nat.le_refl _) (zero_le _) (zero_le _);refine Good.same h (v:=.slice uP 0 c) ?_ rfl ((aH.cv rfl).2 ⟨rfl,by rw[ar];exact .inl ⟨rfl,uP,c,rfl,EK,s7⟩⟩);rw[uN bn (uO ax (by simp) (by simp))];cases uP with
     |none=>
      have:=s7 rfl;subst this;simp[Instr.slice,run_underlying b7,nZ,kJ f1,f2]
     |some uP=>simp[Instr.slice,run_underlying b7,nZ,kJ f1,f2,Addr.add]
    .have nZ:=uM (P:=C.P) (isS:=true) (len:=xs.length) (cap:=cap) nX nY cg R Sy (Nat.le_trans KY ae) ae;obtain⟨c1,c2,b5,dg,rfl,g1,g2,g3,g4,g5⟩:=a1.split b xs eA _ cP;obtain⟨d1,d2,oH,n0,rfl,b3,cc,eT,dL,fp⟩:=a1.split a (xs.take b) c1 _ g1;have EL:d1.length=a*(C.T e).sz:=by
      rw[a1.length _ _ _ b3,sY _ (λd ai=>kG d (mem_of_mem_take (mem_of_mem_take ai))),length_take,length_take];congr 1;omega
     have hlen:((xs.take b).drop a).length=b-a:=by simp;omega
     have j2:Rd w jy (o+a*(C.T e).sz) d2:=by
      rw[<-EL];have:Rd w jy o (d1++(d2++c2)):=by simpa using bF
      exact this.Ey
     have A2:a1 w F ((xs.take b).drop a) d2 (λ_=>False):=a1.mono (λ_ h=>h) _ _ _ _ (λb R=>(g3 _ (dL _ R)).elim) cc;have mem:∀d∈(xs.take b).drop a,d.wd=sz:=λd ai=>a6 d (mem_of_mem_take (mem_of_mem_drop ai));have run:(Instr.sliceAt T (.slice (some ⟨jy,o,none⟩) xs.length cap) s_ ta none).run C.P w= .ok (.slice (if cap=a then some ⟨jy,o,none⟩else some ⟨jy,o+a*(C.T e).sz,none⟩) (b-a) (cap-a)) w:=by
      rw[uN bn (uO ax (by simp) (by simp))];simp[Instr.slice,run_underlying b7,nZ,kJ f1,f2,Addr.add_lit]
     refine⟨_,w,F,S,run,h,.inl ⟨rfl,(aH.cv rfl).2 ⟨rfl,?_⟩⟩⟩;simp only[cj,iu];rw[ar];by_cases KZ:cap=a
     .have SA:b=a:=by omega
      subst SA;have xx:(xs.take b).drop b=[]:=by simp
      rw[if_pos KZ];rw[xx]at A2⊢;rw[a1]at A2;subst A2;exact .inr ⟨jy,o,cap-b,[],sz,by simp,ab,zero_le _,by omega,by simp,λj c bm=>by simp at bm,by rw[a1]⟩
     .rw[if_neg KZ];exact .inr ⟨jy,_,cap-a,d2,sz,by rw[hlen],ab,by rw[hlen];omega,by omega,mem,j2,A2⟩
   .cases he
  .cases he
 .rename_i e y q ax;split at he
  .rename_i sz xs ai;split at he
   .rename_i b cg R;split at he
    .rename_i xy;split at he
     .rename_i xq s2 a8;simp only[some.injEq,Prod.mk.injEq]at he;obtain⟨rfl,rfl⟩:=he;obtain⟨i,d,z,aR,aV,aW,cm,cC,b7,bW⟩:=bn.info (gg ax (by simp));rw[ax]at bW;have:=lV bW;subst this;obtain⟨qM,bg,qN,f1,f2,f3,f4,f5,f6,f7⟩:=bn.info xy.2;have s9:xq= .ag sz xs:=by
       simp only[cV,ai,I.plain]at a8;simp at a8;exact a8.1.symm
      subst s9;obtain⟨b5,g0,g1,g2,Sn,g3,g4,g5,g6,g7,g8⟩:=pJ h rfl aJ a8;rw[gq g2,ar]at g3;rcases g3 with⟨rfl,a0,lv⟩|⟨jy,cap,cur,gr,fr,aN,lv,b3,cc,eT,dL,fp,cW,k7,dM,mf,rZ⟩
      .simp at lv;subst lv;have hI:b=0:=by simpa using xy.1
       subst hI;have nZ:=uM (P:=C.P) (isS:=true) (len:=0) (cap:=0) nX nY cg R (Nat.le_refl _) (Nat.le_refl _) (Nat.le_refl _);refine⟨.slice a0 0 0,w,F,b5,?_,g0,.inr ⟨rfl,rfl,λ_=>False,by simp only[cj,iu];rw[ar];exact .inl ⟨rfl,_,rfl⟩,λ_ h=>h.elim,λ_ h=>h.elim,λ_ _ h=>h.elim,λ_ h=>h.elim⟩⟩;rw[uN bn (uO ax (by simp) (by simp))];cases a0<;>simp[Instr.slice,run_underlying b7,nZ,kJ f1,f2]
      .simp at lv;subst lv;have nZ:=uM (P:=C.P) (isS:=true) (len:=xs.length) (cap:=cap) nX nY cg R (zero_le _) (Nat.le_trans xy.1 dL) dL;have hlen:(xs.take b).length=b:=by simp;omega
       have run:(Instr.sliceAt T (.slice (some ⟨jy,0,none⟩) xs.length cap) s_ ta none).run C.P w= .ok (.slice (some ⟨jy,0,none⟩) b cap) w:=by
        rw[uN bn (uO ax (by simp) (by simp))];simp[Instr.slice,run_underlying b7,nZ,kJ f1,f2,Addr.add_lit]
       refine⟨_,w,F,b5,run,g0,.inr ⟨rfl,rfl,Sn,?_,g4,g5,g6,g7⟩⟩;simp only[cj,iu];rw[ar];obtain⟨c1,c2,hE,gL,an,m1,m2,m3,m4,m5⟩:=a1.split b xs _ _ dM;refine .inr ⟨jy,cap,cur,gr,fr,aN,by rw[hlen],b3,cc,eT,by omega,fp,cW,λd ai=>k7 d (mem_of_mem_take ai),?_,mf,rZ⟩;have EL:c1.length=b*sz:=by
        rw[a1.length _ _ _ m1,sY _ (λd ai=>k7 d (mem_of_mem_take ai)),hlen]
       have:cur.toList.take ((xs.take b).length*sz)=c1:=by
        rw[hlen];have ae:b*sz<=xs.length*sz:=mul_le_mul_right _ xy.1;have:(cur.toList.take (xs.length*sz)).take (b*sz)=c1:=by rw[an,take_left' EL]
        rwa [take_take,Nat.min_eq_left ae]at this
       rw[this];exact a1.mono (λ_ h=>h) _ _ _ _ m3 m1
     .cases he
    .cases he
   .cases he
  .cases he
 .cases he
end
section
variable {C:ca} {w0 w:World} {F0 X F:Nat->Prop} {S:Nat->Nat->Prop} {s s1:aw} {aC:Nat->Value} {av:I}
def Src (P:Program) (w:World) (size:Nat) (x:Value) (m:Nat) (news:alU):Prop:=
 ∀aF:World,aF.heap=w.heap->(Builtin.lenOf x).run P aF= .ok m aF/\(Builtin.firstCells size m x).run P aF= .ok news.toArray aF
def EM (d:TypeDesc):Prop:=(∃e,d= .slice e)\/d= .string
theorem SB {P:Program} {T c8 ty e:TypeId} {qU:TypeDesc} {i:TypeInfo} (a8:P.underlying T=some (.slice e)) (hu:P.underlying c8=some qU) (tb:EM qU) (ao:P.info? e=some i)
  {x:Value} {m:Nat} {news:alU} (A3:Src P w i.size x m news) {b n cap:Nat} {cur:Array Value} {gr:TypeId} {fr:Nat×Nat} {l mid r:alU} (R:w.heap[b]? =some (.cells cur gr fr)) (bo:k2 fr cur.size)
  (an:cur.toList=l++(mid++r)) (hl:l.length=n*i.size) (hm:mid.length=news.length) (pN:∀v∈news,Value.fK v=true) (pS:n+m<=cap):
  ∃aF,(Builtin.append_ #[T,c8] ty #[.slice (some ⟨b,0,none⟩) n cap,x]).run P w= .ok (.slice (some ⟨b,0,none⟩) (n+m) cap) aF/\aF.heap[b]? =some (.cells (l++(news++r)).toArray gr fr)/\
   (∀c,c≠b->aF.heap[c]? =w.heap[c]?)/\aF.heap.size=w.heap.size/\aF.os=w.os/\aF.tape=w.tape/\Out aF w:=by
 obtain⟨aF,m1,m2⟩:=AY (P:=P) (b:=b) (o:=n*i.size) (e:=gr) (fr:=fr) news 0 cur w l mid r R bo an (by omega) hm pN;refine⟨aF,?_,m2⟩;obtain⟨ab,ae⟩:=A3 w rfl;rcases tb with⟨f_,rfl⟩|rfl<;>simp[Builtin.append_,run_underlying a8,run_underlying hu,kJ ao,ab,ae,pS,Addr.add_lit,m1]
theorem SC {P:Program} {T c8 ty e:TypeId} {qU:TypeDesc} {i:TypeInfo} {z:Value} (a8:P.underlying T=some (.slice e)) (hu:P.underlying c8=some qU) (tb:EM qU) (ao:P.info? e=some i) (bZ:i.zero=some z)
  {x:Value} {m:Nat} {news:alU} (A3:Src P w i.size x m news) {base:Option Addr} {n cap:Nat} {oI:alU} (hold:Src P w i.size (.slice base n cap) n oI) (pS:¬n+m<=cap)
  (aS:n+m<=9223372036854775807) (EN:(n+m)*i.bytes<=140737488355328):
  (Builtin.append_ #[T,c8] ty #[.slice base n cap,x]).run P w= .ok (.slice (some ⟨w.heap.size,0,none⟩) (n+m) (grownCap w (n+m) cap e))
   (w.drew.alloc (.cells (oI.toArray++news.toArray++Builtin.zeroCells z.cells (grownCap w (n+m) cap e-(n+m))) e)):=by
 have ab:=(A3 w rfl).1;have ae:=(A3 w.drew rfl).2;have az:=(hold w.drew rfl).2;have uQ:=growslice_fits (need:=n+m) (old:=cap) (by omega) EN;have iF:¬(281474976710656<Builtin.nextslicecap (n+m) cap*i.bytes):=by omega
 have A4:∀k (w:World),(askRoom k).run P w= .ok () w:=by
  intro k w;unfold askRoom;split<;>rfl
 have SD:¬(9223372036854775807<(n:Int)+(m:Int)/\i.bytes=0):=by omega
 rcases tb with⟨f_,rfl⟩|rfl<;>
  .simp[Builtin.append_,run_underlying a8,run_underlying hu,kJ ao,xk ao,ab,pS,iF,Question.forced,A4];rw[if_neg SD,az];simp[ae,s5 ao bZ,newRow,grownCap];have aR:(oI++news).toArray=oI.toArray++news.toArray:=by simp
   rw[aR,Array.append_assoc]
def A5 (C:ca) (e c8:TypeId):Bool:=match(C.T c8).k,(C.T e).k with
 | .slice f_,_=>f_==e
 | .str,.int .u8=>true
 |_,_=>false
def qV (C:ca) (s:aw) (T c8:TypeId) (x y:I):Option (I×aw):=
 match(C.T T).k with
 | .slice e=>if(C.T e).ok=true/\(C.T e).zero.wd=(C.T e).sz/\(flat (C.T e).zero).isSome=true/\A5 C e c8=true then
   match(match x with| .bd=>some (I.ag (C.T e).sz [],s)| .h a q=>cV s (.h a q)|_=>none)with
   |some (.ag sz xs,s1)=>if sz=(C.T e).sz then
     match(match kI x.owner y with
      | .bd=>some ([],s1)
      | .slice ys=>some (ys,s1)
      | .str l=>some (l.map k6,s1)
      | .h a q=>match cV s1 (.h a q)with
        |some (.ag _ ys,s2)=>some (ys,s2)
        |_=>none
      |_=>none)with
     |some (ys,s2)=>if(∀d∈ys,d.wd=(C.T e).sz)/\(xs.length+ys.length)*(C.T e).bytes<=140737488355328/\xs.length+ys.length<=9223372036854775807 then some (.ag sz (xs++ys),s2)else none
     |none=>none
    else none
   |_=>none
   else none
 |_=>none
theorem a1.append {xs ys:alW} {c1 c2:alU} {b5 dg aN:Nat->Prop} (ab:a1 w F xs c1 b5) (ae:a1 w F ys c2 dg) (aR:∀b,b5 b->aN b) (aV:∀b,dg b->aN b) (aW:∀b,b5 b->¬dg b):a1 w F (xs++ys) (c1++c2) aN:=by
 induction xs generalizing c1 b5 aN with
 |nil=>rw[a1]at ab;subst ab;exact a1.mono (λ_ h=>h) _ _ _ _ aV ae
 |cons x xs ih=>
  rw[a1]at ab;obtain⟨SE,SF,hE,gL,rfl,g1,g2,g3,g4,g5⟩:=ab;rw[cons_append,a1];refine⟨SE,SF++c2,hE,λb=>gL b\/dg b,by simp,g1,ih g2 (λb h=>.inl h) (λb h=>.inr h) (λb h=>aW b (g4 b h)),λb h=>aR b (g3 b h),?_,?_⟩
  .rintro b (h|h)
   .exact aR b (g4 b h)
   .exact aV b h
  .rintro b h (bC|bC)
   .exact g5 b h bC
   .exact aW b (g3 b h) bC
theorem EO {P:Program} {size m cap:Nat} {b o:Nat} {news:alU} (j2:Rd w b o news) (hl:news.length=m*size):Src P w size (.slice (some ⟨b,o,none⟩) m cap) m news:=by
 intro aF hw;refine⟨rfl,?_⟩;refine run_firstCells_some aF size m ⟨b,o,none⟩ m cap news hl (λj v bm=>?_);rw[Addr.add_lit];have:=j2 j v bm;simpa [World.cell?,hw]using this
theorem K0 {P:Program} {size cap:Nat}:Src P w size (.slice none 0 cap) 0 []:=by
 intro aF _;exact⟨rfl,by simp[Builtin.firstCells]⟩
theorem EP {P:Program} {size cap:Nat} (a:Option Addr):Src P w size (.slice a 0 cap) 0 []:=by
 cases a with
 |none=>exact K0
 |some a=>
  intro aF _;exact⟨rfl,run_firstCells_some aF size 0 a 0 cap [] (by simp) (λj v bm=>by simp at bm)⟩
theorem SG {P:Program} (l:alO):Src P w 1 (.string ⟨⟨l⟩⟩) l.length (l.map λb=>.int .u8 (b.toNat:Int)):=by
 intro aF _;refine⟨rfl,?_⟩;have:(⟨⟨l⟩⟩:ByteArray).extract 0 l.length=⟨⟨l⟩⟩:=by
  apply ByteArray.ext;simp[ByteArray.data_extract]
 simp[Builtin.firstCells,this]
theorem a1.tc {sz:Nat} {xs:alW} {cs:alU} {aN:Nat->Prop} (h:a1 w F xs cs aN) (hw:∀d∈xs,d.wd=sz):cs.length=xs.length*sz:=by
 rw[a1.length _ _ _ h,sY _ hw]
theorem bD.turn (h:bD w0 F0 X F S s aC w) {aF:World} {b:Nat} (R:∀c,c≠b->aF.heap[c]? =w.heap[c]?) (ad:aF.heap.size=w.heap.size) (ab:aF.os=w.os) (ae:aF.tape=w.tape) (az:Out aF w)
  (bh:¬F b) (bK:∀u,¬S u b) (aX:X b\/w0.heap.size<=b):bD w0 F0 X F S s aC aF where
 gm:=h.gm
 gC:=h.gC
 eQ:=λc an=>by rw[ad];exact h.eQ c an
 dW:=λt c an=>by rw[ad];exact h.dW t c an
 fb:=h.fb
 e_:=h.e_
 dx:=h.dx
 dp:=λt=>aH.frame (Sx:=S) (λc an=>R c (by rintro rfl;exact bh an)) (λ_ h=>h) (λx c an=>R c (by rintro rfl;exact bK x an)) h.dp _ _ _ (λc an=>R c (by rintro rfl;exact bK t an)) (h.dp t)
 old:=λc dv jJ=>by
  rw[R c ?_]
  .exact h.old c dv jJ
  .rintro rfl;rcases aX with aX|aX
   .exact jJ aX
   .omega
 size:=by rw[ad];exact h.size
 os:=ab.trans h.os
 tape:=ae.trans h.tape
 output:=az.trans h.output
 gn:=h.gn
theorem SH (bn:C.Ok) (h:bD w0 F0 X F S s aC w) {T c8 ty:TypeId} {x y:I} {iG jw:Value} (au:aH w F s aC x iG (λ_=>False)) (bb:aH w F s aC y jw (λ_=>False))
  (he:qV C s T c8 x y=some (av,s1)):Good C w0 F0 X aC w (Builtin.append_ #[T,c8] ty #[iG,jw]) av s1:=by
 unfold qV at he;split at he
 .rename_i e ax;obtain⟨K1,d,K2,aR,aV,aW,cm,cC,b7,bW⟩:=bn.info (gg ax (by simp));rw[ax]at bW;have:=lV bW;subst this;split at he
  .rename_i xo;obtain⟨qT,td,te,pT⟩:=xo;obtain⟨i,K3,z,f1,f2,f3,f4,f5,f6,f7⟩:=bn.info qT;obtain⟨gM,nn⟩:=isSome_iff_exists.1 te;have tf:=f5 gM nn;have r0:gM.length=(C.T e).sz:=by
    have:=ar.length _ _ _ ((ar.flat (w:=w) (F:=F) _).1 (C.T e).zero gM (λ_=>False) (Nat.le_refl _) nn);rw[this,td]
   obtain⟨qU,hu,tb⟩:∃qU,C.P.underlying c8=some qU/\EM qU:=by
    unfold A5 at pT;split at pT
    .rename_i f_ jP;obtain⟨_,bg,_,_,_,_,_,_,g6,g7⟩:=bn.info (gg jP (by simp));rw[jP]at g7;exact⟨bg,g6,.inl ⟨_,lV g7⟩⟩
    .rename_i jP _;obtain⟨_,bg,_,_,_,_,_,_,g6,g7⟩:=bn.info (gg jP (by simp));rw[jP]at g7;exact⟨bg,g6,.inr (pK g7)⟩
    .cases pT
   split at he
   .rename_i sz xs ER pU;split at he
    .rename_i ea;subst ea;split at he
     .rename_i ys xz n1;split at he
      .rename_i SI;obtain⟨uR,EN,K4⟩:=SI;simp only[some.injEq,Prod.mk.injEq]at he;obtain⟨rfl,rfl⟩:=he;obtain⟨hE,a0,Sn,a3,a4,a5,pQ,pR,ajS,a9,r1⟩:∃hE,bD w0 F0 X F hE ER aC w/\∃Sn,ar w F (.ag (C.T e).sz xs) [iG] Sn/\(∀b,Sn b->b<w.heap.size)/\(∀b,Sn b->¬F b)/\(∀u b,Sn b->¬hE u b)/\
         (∀b,Sn b->X b\/w0.heap.size<=b)/\(∀u b,hE u b->S u b)/\(∀b,Sn b->∃u,S u b)/\aH w F ER aC (kI x.owner y) jw (λ_=>False):=by
        split at pU
        .simp only[some.injEq,Prod.mk.injEq,I.ag.injEq,true_and]at pU;obtain⟨rfl,rfl⟩:=pU;have:=rW au;subst this;exact⟨S,h,λ_=>False,by rw[ar];exact .inl ⟨rfl,_,rfl⟩,λ_ h=>h.elim,λ_ h=>h.elim,λ_ _ h=>h.elim,λ_ h=>h.elim,λ_ _ h=>h,λ_ h=>h.elim,bb⟩
        .obtain⟨b5,g0,g1,g2,Sn,g3,g4,g5,g6,g7,g8,g9,g10⟩:=pJ h rfl au pU;rw[gq g2]at g3;exact⟨b5,g0,Sn,g3,g4,g5,g6,g7,g8,g9,g10 _ _ _ bb⟩
        .cases pU
       obtain⟨gL,jy,np,news,jO,hz,jQ,bG,cI,eb,qW,bY⟩:∃gL,bD w0 F0 X F gL xz aC w/\∃np news,a1 w F ys news np/\Src C.P w i.size jw ys.length news/\(∀b,np b->b<w.heap.size)/\(∀b,np b->¬F b)/\(∀u b,np b->¬gL u b)/\
         (∀b,np b->X b\/w0.heap.size<=b)/\(∀u b,gL u b->hE u b)/\(∀b,np b->∃u,hE u b):=by
        split at n1
        .rename_i tg;simp only[some.injEq,Prod.mk.injEq]at n1;obtain⟨rfl,rfl⟩:=n1;rw[tg]at r1;have:=rW r1;subst this;exact⟨hE,a0,λ_=>False,[],by rw[a1],K0,λ_ h=>h.elim,λ_ h=>h.elim,λ_ _ h=>h.elim,λ_ h=>h.elim,λ_ _ h=>h,λ_ h=>h.elim⟩
        .rename_i en tg;simp only[some.injEq,Prod.mk.injEq]at n1;obtain⟨rfl,rfl⟩:=n1;rw[tg]at r1;rcases A0 r1 with⟨rfl,uP,ajT,rfl,_,s7⟩|⟨b,o,cap,eA,SJ,rfl,b3,cc,eT,dL,fp,cW⟩
         .exact⟨hE,a0,λ_=>False,[],by rw[a1],EP uP,λ_ h=>h.elim,λ_ h=>h.elim,λ_ _ h=>h.elim,λ_ h=>h.elim,λ_ _ h=>h,λ_ h=>h.elim⟩
         .exact⟨hE,a0,λ_=>False,eA,cW,EO fp (by rw[f2];exact a1.tc cW uR),λ_ h=>h.elim,λ_ h=>h.elim,λ_ _ h=>h.elim,λ_ h=>h.elim,λ_ _ h=>h,λ_ h=>h.elim⟩
        .rename_i l tg;simp only[some.injEq,Prod.mk.injEq]at n1;obtain⟨rfl,rfl⟩:=n1;rw[tg]at r1;have:=nV r1;subst this;have A6:l≠[]->i.size=1:=by
          intro hl;cases l with
          |nil=>exact(hl rfl).elim
          |cons b l=>rw[f2,<-uR (k6 b) (by simp)];rfl
         by_cases hl:l=[]
         .subst hl;refine⟨hE,a0,λ_=>False,[],by simp only[map_nil];rw[a1],?_,λ_ h=>h.elim,λ_ h=>h.elim,λ_ _ h=>h.elim,λ_ h=>h.elim,λ_ _ h=>h,λ_ h=>h.elim⟩;intro aF _;exact⟨rfl,by simp[Builtin.firstCells,ByteArray.extract];rfl⟩
         .refine⟨hE,a0,λ_=>False,_,KV l _,?_,λ_ h=>h.elim,λ_ h=>h.elim,λ_ _ h=>h.elim,λ_ h=>h.elim,λ_ _ h=>h,λ_ h=>h.elim⟩;rw[A6 hl,length_map];exact SG l
        .rename_i a q tg;split at n1
         .rename_i ajU en s2 a8;simp only[some.injEq,Prod.mk.injEq]at n1;obtain⟨rfl,rfl⟩:=n1;rw[tg]at r1;obtain⟨dg,g0,g1,g2,np,g3,g4,g5,g6,g7,g8,g9,g10⟩:=pJ a0 rfl r1 a8;rw[gq g2,ar]at g3;rcases g3 with⟨rfl,SK,lv⟩|⟨b,cap,cur,gr,fr,aN,lv,b3,cc,eT,dL,fp,cW,k7,dM,mf,rZ⟩
          .simp at lv;subst lv;exact⟨dg,g0,λ_=>False,[],by rw[a1],(EP SK),λ_ h=>h.elim,λ_ h=>h.elim,λ_ _ h=>h.elim,λ_ h=>h.elim,g8,λ_ h=>h.elim⟩
          .simp at lv;subst lv;refine⟨dg,g0,aN,_,dM,EO (uF cc _) ?_,λc an=>g4 c (mf c an),λc an=>g5 c (mf c an),λu c an=>g6 u c (mf c an),λc an=>g7 c (mf c an),g8,λc an=>g9 c (mf c an)⟩;rw[f2];exact a1.tc dM uR
         .cases n1
        .cases n1
       have r2:news.length=ys.length*(C.T e).sz:=a1.tc jO uR;have n2:∀c,Sn c->¬np c:=λc ab ae=>by obtain⟨u,hu⟩:=bY c ae;exact pQ u c ab hu
       have ma:∀u c,Sn c->¬gL u c:=λu c ab ae=>pQ u c ab (qW u c ae);have grow:∀(base:Option Addr) (cap:Nat) (oI:alU) (Sx:Nat->Prop),iG= .slice base xs.length cap->Src C.P w i.size (.slice base xs.length cap) xs.length oI->a1 w F xs oI Sx->(∀d∈xs,d.wd=(C.T e).sz)->(∀c,Sx c->Sn c)->¬xs.length+ys.length<=cap->
         Good C w0 F0 X aC w (Builtin.append_ #[T,c8] ty #[iG,jw]) (.ag (C.T e).sz (xs++ys)) xz:=by
        intro base cap oI Sx EC hold K5 K6 fj pS;subst EC;have aM:=SC (ty:=ty) b7 hu tb f1 f4 hz hold pS K4 (by rw[f3];exact EN);have EJ:=grownCap_ge w (xs.length+ys.length) cap e;have EK:=grownCap_le_maxLen w (xs.length+ys.length) cap e (by unfold maxLen;omega);have xA:=a1.tc K5 K6;have SL:a1 w F (xs++ys) (oI++news) (λc=>Sx c\/np c):=a1.append K5 jO (λ_ h=>.inl h) (λ_ h=>.inr h) (λc ab ae=>n2 c (fj c ab) ae);have SM:(oI++news).length=(xs++ys).length*(C.T e).sz:=by simp[xA,r2,Nat.add_mul]
        have lX:=jy.A1 (aF:=w.drew.alloc (.cells (oI.toArray++news.toArray++Builtin.zeroCells z.cells (grownCap w (xs.length+ys.length) cap e-(xs.length+ys.length))) e))
         (sz:=(C.T e).sz) (cap:=grownCap w (xs.length+ys.length) cap e) (xs:=xs++ys) (e:=e) (fr:=(0,0)) (Sn:=λc=>Sx c\/np c) rfl rfl rfl ⟨rfl,λ_=>le_succ _⟩
         (λo _ ⟨_,ae⟩=>absurd ae (not_lt_zero _)) (by simpa using EJ) EK
         (by
          simp only[Array.size_append,List.size_toArray,size_zeroCells,tf,xA,r2,r0,<-Nat.add_mul];congr 1;omega)
         (by
          intro d ai;rcases mem_append.1 ai with ai|ai
          .exact K6 d ai
          .exact uR d ai)
         (by
          simp only[Array.toList_append];rw[take_left' SM];exact SL)
         (by rintro c (an|an);exact a4 c (fj c an);exact jQ c an) (by rintro c (an|an);exact a5 c (fj c an);exact bG c an) (by rintro u c (an|an);exact ma u c (fj c an);exact cI u c an) (by rintro c (an|an);exact pR c (fj c an);exact eb c an)
        refine⟨_,_,F,gL,aM,lX.1,?_⟩;have:=lX.2;simpa using this
       rw[ar]at a3;rcases a3 with⟨rfl,A7,lv⟩|⟨b,cap,cur,gr,fr,aN,lv,b3,cc,eT,dL,fp,cW,k7,dM,mf,rZ⟩
       .simp at lv;subst lv;by_cases K7:ys=[]
        .subst K7;have ES:news=[]:=by simpa using r2
         subst ES;refine⟨.slice A7 0 0,w,F,gL,?_,jy,.inr ⟨rfl,rfl,λ_=>False,by simp only[cj,iu];rw[ar];exact .inl ⟨rfl,_,rfl⟩,λ_ h=>h.elim,λ_ h=>h.elim,λ_ _ h=>h.elim,λ_ h=>h.elim⟩⟩;obtain⟨ab,ae⟩:=hz w rfl;cases A7<;>rcases tb with⟨f_,rfl⟩|rfl<;>simp at ab ae<;>simp[Builtin.append_,run_underlying b7,run_underlying hu,kJ f1,ab,ae,storeCells]
        .exact grow A7 0 [] (λ_=>False) rfl (EP A7) (by rw[a1]) (by simp) (λ_ h=>h.elim) (by
          cases ys with
          |nil=>exact(K7 rfl).elim
          |cons y ys=>simp)
       .simp at lv;subst lv;by_cases pS:xs.length+ys.length<=cap
        ·
         have xA:=a1.tc dM k7;have hlen:cur.toList.length=cap*(C.T e).sz:=by simp[cW]
         have hle:(xs.length+ys.length)*(C.T e).sz<=cap*(C.T e).sz:=mul_le_mul_right _ pS;rw[Nat.add_mul]at hle;have mH:cur.toList=cur.toList.take (xs.length*(C.T e).sz)++((cur.toList.drop (xs.length*(C.T e).sz)).take news.length++(cur.toList.drop (xs.length*(C.T e).sz)).drop news.length):=by
          rw[take_append_drop,take_append_drop]
         obtain⟨aF,m1,m2,m3,m4,m5,m6,m7⟩:=SB (ty:=ty) (n:=xs.length) (m:=ys.length) (cap:=cap) b7 hu tb f1 hz cc eT.low mH (by rw[f2];exact xA) (by simp[hlen,r2];omega) (a1.qO _ _ _ jO) pS;have SN:=jy.turn m3 m4 m5 m6 m7 (a5 b b3) (λu hu=>ma u b b3 hu) (pR b b3);have pH:∀c,F c->aF.heap[c]? =w.heap[c]? :=λc an=>m3 c (by rintro rfl;exact a5 _ b3 an);refine⟨_,aF,F,gL,m1,SN,.inr ⟨rfl,rfl,λc=>Sn c\/np c,?_,?_,?_,?_,?_⟩⟩
         .simp only[cj,iu];rw[ar];have K8:(cur.toList.take (xs.length*(C.T e).sz)++(news++(cur.toList.drop (xs.length*(C.T e).sz)).drop news.length)).toArray.size=cur.size:=by
           have:cur.size=cur.toList.length:=by simp
           rw[this];conv=>rhs;rw[mH]
           simp[hlen,r2];omega
          refine .inr ⟨b,cap,_,gr,fr,λc=>aN c\/np c,by simp,.inl b3,m2,by rw[K8];exact eT,by simpa using pS,fp,by rw[K8];exact cW,?_,?_,?_,?_⟩
          .intro d ai;rcases mem_append.1 ai with ai|ai
           .exact k7 d ai
           .exact uR d ai
          .have rX:=a1.frame pH _ _ _ (λc an=>m3 c (by rintro rfl;exact rZ an)) dM;have s4:=a1.frame pH _ _ _ (λc an=>m3 c (by rintro rfl;exact n2 _ b3 an)) jO;have:((cur.toList.take (xs.length*(C.T e).sz)++(news++(cur.toList.drop (xs.length*(C.T e).sz)).drop news.length)).toArray.toList.take ((xs++ys).length*(C.T e).sz))=cur.toList.take (xs.length*(C.T e).sz)++news:=by
            simp only[];rw[<-append_assoc];exact take_left' (by rw[length_append,xA,r2,length_append,Nat.add_mul])
           rw[this];exact a1.append rX s4 (λ_ h=>.inl h) (λ_ h=>.inr h) (λc ab ae=>n2 c (mf c ab) ae)
          .rintro c (an|an)
           .exact .inl (mf c an)
           .exact .inr an
          .rintro(an|an)
           .exact rZ an
           .exact n2 b b3 an
         .rw[m4];rintro c (an|an);exact a4 c an;exact jQ c an
         .rintro c (an|an);exact a5 c an;exact bG c an
         .rintro u c (an|an);exact ma u c an;exact cI u c an
         .rintro c (an|an);exact pR c an;exact eb c an
        .exact grow (some ⟨b,0,none⟩) cap _ aN rfl (EO (uF cc _) (by rw[f2];exact a1.tc dM k7)) dM k7 mf pS
      .cases he
     .cases he
    .cases he
   .cases he
  .cases he
 .cases he
end
section
variable {C:ca} {w0 w aF:World} {F0 X F:Nat->Prop} {S:Nat->Nat->Prop} {s s1:aw} {aC:Nat->Value} {av:I}
theorem bD.SO (h:bD w0 F0 X F S s aC w) {x:Nat} {q:alR} {d bg:I} {b:Nat} (ai:I.sub q (s x)=some d) (aq:d.plain=false) (SP:bg.tree=true) (ab:∀v,iv d v->iv bg v) (ad:∀v,dD d v->dD bg v)
  (ae:∀vs,bg≠.tuple vs) (kG:bg.wd=d.wd) (R:∀cQ a fo,du w q (s x) (cj (aC x)) none=some (d,cQ,a)->ar w F d cQ fo->fo b/\ar aF F bg cQ fo) (lT:∀c,c≠b->aF.heap[c]? =w.heap[c]?) (ea:aF.heap.size=w.heap.size) (Er:aF.os=w.os)
  (Es:aF.tape=w.tape) (s0:Out aF w):∃aN,bD w0 F0 X F aN (dq (h7 x s) x (I.put q bg (s x))) aC aF:=by
 have a8:=h0 ai (.inl aq);have au:=h.dp x;rw[aH.cv a8]at au;obtain⟨cQ,a,eh,fo,g0,g1,g2,g3,g4,g5⟩:=ctx q (s x) (cj (aC x)) (S x) none d au.2 ai;obtain⟨s3,aJ⟩:=R cQ a fo g0 g4;have th:S x b:=g2 b s3;have pH:∀c,F c->aF.heap[c]? =w.heap[c]? :=λc an=>lT c (by rintro rfl;exact h.fb x _ th an);have rT:∀c,eh c->c≠b:=λc an e=>g3 c an (e▸s3);have jH:ar aF F (I.put q bg (s x)) (cj (aC x)) (λc=>eh c\/fo c):=by
  rcases g5 with⟨l,r,aR,aV,aW⟩|⟨jy,cur,e,fr,l,r,aR,aV,aW,cm,cC,b7⟩
  .rw[aR];exact aW aF bg cQ fo pH (λc an=>lT c (rT c an)) kG aJ (λc an nR=>g3 c nR an)
  .refine b7 aF bg cQ fo pH (λc an _=>lT c (rT c an)) ?_ kG aJ (λc an nR=>g3 c nR an);rw[lT jy (rT jy aV),aW,<-cC]
 have xf:dD (I.put q bg (s x)) (aC x)/\(I.put q bg (s x)).tree=true:=by
  cases q with
  |nil=>
   simp only[I.sub,some.injEq]at ai;simp only[I.put];exact⟨ad _ (ai▸au.1),SP⟩
  |cons k q=>
   refine⟨xe au.1 ai ab (λ_=>ae) kG,?_⟩;rcases rS k q bg (s x)with⟨aE,gs,aR,e⟩|⟨aE,gs,aR,e⟩|⟨sz,xs,ys,aR,e⟩|⟨y,z,aR,e⟩|e<;>rw[e]<;>first|rfl|exact a8
 let aB:=dq (h7 x s) x (I.put q bg (s x))
 have hc:∀y,y≠x->(aB y).tree=true->aB y=s y/\aC y=aC y:=λy bb a8=>by
  have e:aB y=de.cb x (s y):=je _ _ bb;rw[e]at a8⊢;exact⟨(AP a8).2,rfl⟩
 have fU:(aB x).plain=false->(s x).plain=false/\∀v,dD (s x) v->dD (aB x) v:=by
  intro _;refine⟨?_,λv aJ=>?_⟩
  .cases bJ:(s x).plain with
   |false=>rfl
   |true=>rw[I.Ej _ _ _ bJ ai]at aq;cases aq
  .simp only[aB,lR];cases q with
   |nil=>
    simp only[I.sub,some.injEq]at ai;simp only[I.put];exact ad _ (ai▸aJ)
   |cons k q=>exact xe aJ ai ab (λ_=>ae) kG
 have both:∀c,(eh c\/fo c)->S x c:=λc an=>an.elim (g1 c) (g2 c);refine⟨fV S x (λc=>eh c\/fo c),?_⟩;constructor;case gm=>exact h.gm
 case gC=>exact h.gC
 case eQ=>exact λb R=>by rw[ea];exact h.eQ b R
 case dW=>
  intro u c R;rw[ea];simp only[fV]at R;split at R
  .exact h.dW x c (both c R)
  .exact h.dW u c R
 case fb=>
  intro u c R;simp only[fV]at R;split at R
  .exact h.fb x c (both c R)
  .exact h.fb u c R
 case e_=>
  intro u y c cY R bb;simp only[fV]at R bb;split at R
  .rename_i hu;rw[if_neg (λe=>cY (hu.trans e.symm))]at bb;exact h.e_ x y c (λe=>cY (hu.trans e)) (both c R) bb
  .rename_i hu;split at bb
   .exact h.e_ u x c hu R (both c bb)
   .exact h.e_ u y c cY R bb
 case dx=>
  intro u c R;simp only[fV]at R;split at R
  .exact h.dx x c (both c R)
  .exact h.dx u c R
 case dp=>
  intro u;by_cases hu:u=x
  .subst hu;rw[lR,xc];exact(aH.cv xf.2).2 ⟨xf.1,jH⟩
  .rw[je _ _ hu,xd _ _ hu];have cY:∀y c,y≠x->S y c->aF.heap[c]? =w.heap[c]? :=λy c bb an=>lT c (by rintro rfl;exact h.e_ y x c bb an th);refine(aH.cb hc rfl fU (λy gD d2 bb hx uK=>?_) pH _).1 _ _ _ (Nat.le_refl _) (λc an=>cY u c hu an) (h.dp u);have xg:=h.dp y;rw[aH.cv (h0 hx uK)]at xg;exact AO gD _ _ _ none d2 xg.2 hx (λc an=>cY y c bb an)
 case old=>
  intro c dv jJ;rw[lT c ?_]
  .exact h.old c dv jJ
  .rintro rfl;rcases h.dx x c th with aX|aX
   .exact jJ aX
   .omega
 case size=>rw[ea];exact h.size
 case os=>exact Er.trans h.os
 case tape=>exact Es.trans h.tape
 case output=>exact s0.trans h.output
 case gn=>exact h.gn
def K9 (P:Program) (t:TypeId):Bool:=match P.info? t with
 |some i=>match i.zero with
  |some (.bool false)=>true
  |_=>false
 |none=>false
def A8 (C:ca) (T:TypeId):Bool:=match(C.T T).k with
 | .map oJ h_=>match(C.T oJ).k with
   | .str=>K9 C.P h_
   |_=>false
 |_=>false
def n3 (C:ca) (s:aw) (T:TypeId) (x i:I):Option I:=match x,i with
 | .h y q,.str k=>match I.sub q (s y)with
   |some (.dS (.mp m))=>if A8 C T=true then some (.bool (rP k m))else none
   |_=>none
 |_,_=>none
def mK (C:ca) (s:aw) (T:TypeId) (x i v:I):Option aw:=match x,i,v with
 | .h y q,.str k,.bool b=>match I.sub q (s y)with
   |some (.dS (.mp m))=>if A8 C T=true then some (dq (h7 y s) y (I.put q (.dS (.mp (pG k b m))) (s y)))else none
   |_=>none
 |_,_,_=>none
theorem K_ (bn:C.Ok) {T:TypeId} (h:A8 C T=true):∃oJ h_,C.P.underlying T=some (.map oJ h_)/\C.P.underlying oJ=some .string/\∀w,(zeroValue h_).run C.P w= .ok (.bool false) w:=by
 unfold A8 at h;split at h
 .rename_i oJ h_ ax;split at h
  .rename_i ab;obtain⟨i,d,z,aR,aV,aW,cm,cC,b7,bW⟩:=bn.info (gg ax (by simp));obtain⟨qM,bg,qN,f1,f2,f3,f4,f5,f6,f7⟩:=bn.info (gg ab (by simp));rw[ax]at bW;rw[ab]at f7;have:=pK f7;subst this;refine⟨oJ,h_,?_,f6,λw=>?_⟩
   .rw[b7];cases d<;>simp[lp]at bW;rw[bW.1,bW.2]
   .unfold K9 at h;split at h
    .rename_i i2 g1;split at h
     .rename_i g2;exact s5 g1 g2 w
     .cases h
    .cases h
  .cases h
 .cases h
theorem ET (a b:ByteArray):(a==b)=true↔a=b:=by
 constructor
 .intro h;exact ByteArray.ext (eq_of_beq (show(a.data==b.data)=true from h))
 .rintro rfl;show(a.data==a.data)=true;simp
theorem EU (k:alO) (b:Bool):∀(es:List MapEntry) (m:alM) (i:Nat),es.map (λe=>(e.key,e.val))=m.map (λe=>(.string ⟨⟨e.1⟩⟩,.bool e.2))->
  (Instr.findNow .string (.string ⟨⟨k⟩⟩) es i=some none/\rP k m=false/\pG k b m=m++[(k,b)])\/
  ∃j e,es[j]? =some e/\e.key= .string ⟨⟨k⟩⟩/\Instr.findNow .string (.string ⟨⟨k⟩⟩) es i=some (some (i+j,.bool (rP k m)))/\pG k b m=m.set j (k,b)
 |[],m,i,h=>by
  have:m=[]:=by simpa using h.symm
  subst this;exact .inl ⟨rfl,rfl,rfl⟩
 |e::es,[],i,h=>by simp at h
 |e::es,(cF,fH)::m,i,h=>by
  simp only[map_cons,cons.injEq,Prod.mk.injEq]at h;obtain⟨⟨ab,ae⟩,az⟩:=h;by_cases ax:cF=k
  .subst ax;refine .inr ⟨0,e,rfl,ab,?_,by simp[pG]⟩;have:(((⟨⟨cF⟩⟩:ByteArray)==⟨⟨cF⟩⟩))=true:=(ET _ _).2 rfl;simp only[Instr.findNow,ab,ae,Instr.sameNow,rP,this,if_true,Nat.add_zero]
  .have aS:((⟨⟨k⟩⟩:ByteArray)==⟨⟨cF⟩⟩)=false:=by
    refine Bool.eq_false_iff.2 λe=>ax ?_;have:=(ET _ _).1 e;simp only[ByteArray.mk.injEq,Array.mk.injEq]at this;exact this.symm
   rcases EU k b es m (i+1) az with⟨g1,g2,g3⟩|⟨j,f_,g1,g2,g3,g4⟩
   .refine .inl ⟨?_,?_,?_⟩
    .simp only[Instr.findNow,ab,Instr.sameNow,aS];exact g1
    .simp[rP,ax,g2]
    .simp[pG,ax,g3]
   .refine .inr ⟨j+1,f_,g1,g2,?_,?_⟩
    .simp only[Instr.findNow,ab,Instr.sameNow,aS];rw[g3];simp[rP,ax,Nat.add_assoc,Nat.add_comm 1 j]
    .simp[pG,ax,g4]
theorem A9 {P:Program} {oJ:TypeId} (ax:P.underlying oJ=some .string) (e:Bool) (k:ByteArray) (w:World):(Instr.checkKey e 10000 oJ (.string k)).run P w= .ok () w:=by
 unfold Instr.checkKey;simp[run_underlying ax]
theorem La (h:bD w0 F0 X F S s aC w) {y:Nat} {q:alR} {m:alM} {v:Value} (aJ:aH w F s aC (.h y q) v (λ_=>False)) (ai:I.sub q (s y)=some (.dS (.mp m))):
  ∃r ms mG,v= .map (some r)/\w.heap[r]? =some (.map ms mG)/\ms.toList.map (λe=>(e.key,e.val))=m.map (λe=>(.string ⟨⟨e.1⟩⟩,.bool e.2))/\
   ∃a,du w q (s y) (cj (aC y)) none=some (.dS (.mp m),[.map (some r)],a):=by
 rw[aH]at aJ;obtain⟨cQ,a,g1,g2,g3⟩:=aJ _ ai rfl;have ab:Value.fK v=true:=g3;rw[gq ab]at g2;have au:=h.dp y;rw[aH.cv (h0 ai (.inl rfl))]at au;obtain⟨fT,cL,eh,fo,k0,b3,cc,eT,dL,fp⟩:=ctx q (s y) (cj (aC y)) (S y) none _ au.2 ai;rw[k0]at g1;simp only[some.injEq,Prod.mk.injEq,true_and]at g1;obtain⟨rfl,rfl⟩:=g1;rw[ar]at dL;obtain⟨r,ms,mG,aR,aV,aW,cm⟩:=dL;rw[aR]at g2 k0;exact⟨r,ms,mG,by simpa using g2,aW,cm,cL,k0⟩
theorem SQ (bn:C.Ok) (h:bD w0 F0 X F S s aC w) {T:TypeId} {x i:I} {iG nT:Value} (au:aH w F s aC x iG (λ_=>False)) (ao:aH w F s aC i nT (λ_=>False)) (he:n3 C s T x i=some av):
  Good C w0 F0 X aC w (Instr.lookup T iG nT false) av s:=by
 unfold n3 at he;split at he
 .rename_i y q k;split at he
  .rename_i m ai;split at he
   .rename_i iO;simp only[some.injEq]at he;subst he;obtain⟨oJ,h_,t1,t2,t3⟩:=K_ bn iO;obtain⟨r,ms,mG,rfl,aV,aW,_⟩:=La h au ai;have:=nV ao;subst this;refine Good.same h (v:=.bool (rP k m)) ?_ rfl (of_bool _);rcases EU k true ms.toList m 0 aW with⟨g1,g2,_⟩|⟨j,e,_,_,g1,_⟩
    .simp[Instr.lookup,run_underlying t1,getObj,Sem.run,aV,A9 t2,Instr.findKey,run_underlying t2,g1,t3,g2]
    .simp[Instr.lookup,run_underlying t1,getObj,Sem.run,aV,A9 t2,Instr.findKey,run_underlying t2,g1]
   .cases he
  .cases he
 .cases he
theorem SR (bn:C.Ok) (h:bD w0 F0 X F S s aC w) {T:TypeId} {x i v:I} {iG nT Lb:Value} (au:aH w F s aC x iG (λ_=>False)) (ao:aH w F s aC i nT (λ_=>False)) (aJ:aH w F s aC v Lb (λ_=>False)) {s2:aw}
  (he:mK C s T x i v=some s2):∃aF aN,(Instr.mapUpdate T iG nT Lb).run C.P w= .ok () aF/\bD w0 F0 X F aN s2 aC aF:=by
 unfold mK at he;split at he
 .rename_i y q k b;split at he
  .rename_i m ai;split at he
   .rename_i iO;simp only[some.injEq]at he;subst he;obtain⟨oJ,h_,t1,t2,t3⟩:=K_ bn iO;obtain⟨r,ms,mG,rfl,aV,aW,a0,kH⟩:=La h au ai;have:=nV ao;subst this;have:=rV aJ;subst this;have key:∀(A_:Array MapEntry) (EV:Nat),A_.toList.map (λe=>(e.key,e.val))=(pG k b m).map (λe=>(.string ⟨⟨e.1⟩⟩,.bool e.2))->
      ∃aN,bD w0 F0 X F aN (dq (h7 y s) y (I.put q (.dS (.mp (pG k b m))) (s y))) aC {w with heap:=w.heap.setIfInBounds r (.map A_ EV)}:=by
     intro A_ EV hm;have aM:r<w.heap.size:=(Array.getElem?_eq_some_iff.1 aV).1;refine bD.SO (b:=r) h ai rfl rfl (λv aJ=>aJ) (λv aJ=>aJ) (λvs e=>by cases e) rfl ?_ (λc an=>?_) (by simp) rfl rfl ⟨rfl,λ_=>Nat.le_refl _⟩
     .intro cQ a fo bo fw;rw[kH]at bo;simp only[some.injEq,Prod.mk.injEq,true_and]at bo;obtain⟨rfl,_⟩:=bo;rw[ar]at fw⊢;obtain⟨gA,r3,ajV,f1,f2,f3,f4⟩:=fw;simp only[cons.injEq,Value.map.injEq,some.injEq,and_true]at f1;subst f1;exact⟨f2,r,A_,EV,rfl,f2,by simp[aM],hm⟩
     .simp[Ne.symm an]
    rcases EU k b ms.toList m 0 aW with⟨g1,_,g2⟩|⟨j,e,g0,ge,g1,g2⟩
    .obtain⟨aN,b3⟩:=key (ms.push {key:=.string ⟨⟨k⟩⟩,val:=.bool b,born:=mG}) (mG+1) (by rw[g2];simp[aW]);exact⟨_,aN,by simp[Instr.mapUpdate,run_underlying t1,getObj,setObj,Sem.run,aV,A9 t2,Instr.findKey,run_underlying t2,g1],b3⟩
    .rw[Nat.zero_add]at g1;obtain⟨aN,b3⟩:=key (ms.modify j λe=>{e with key:=.string ⟨⟨k⟩⟩,val:=.bool b}) mG (by
      rw[g2,map_set,<-aW];apply ext_getElem?;intro n;by_cases aS:n=j
      .subst aS;have:n<ms.toList.length:=(List.getElem?_eq_some_iff.1 g0).1;rw[getElem?_set_self (by simpa using this)];simp[g0]
      .simp[getElem?_set_ne (Ne.symm aS),Ne.symm aS])
     have SS:ms[j]? =some e:=by simpa using g0
     exact⟨_,aN,by simp[Instr.mapUpdate,run_underlying t1,getObj,setObj,Sem.run,aV,A9 t2,Instr.findKey,run_underlying t2,g1,SS,ge,Instr.keyThatStays,Instr.sameBits,(ET ⟨⟨k⟩⟩ ⟨⟨k⟩⟩).2 rfl],b3⟩
   .cases he
  .cases he
 .cases he
theorem SU (h:bD w0 F0 X F S s aC w) (t:TypeId):Good C w0 F0 X aC w (Instr.makeMap t none) (.dS (.mp [])) s:=by
 have hold:∀b,b<w.heap.size->(w.alloc (.map #[] 0)).heap[b]? =w.heap[b]? :=by
  intro b R;show(w.heap.push _)[b]? =_;rw[Array.getElem?_push,if_neg (by omega)]
 refine⟨.map (some w.heap.size),w.alloc (.map #[] 0),F,S,?_,h.grow hold (by simp) rfl rfl ⟨rfl,λ_=>Nat.le_refl _⟩,.inr ⟨rfl,rfl,λb=>b=w.heap.size,?_,?_,?_,?_,?_⟩⟩
 .simp[Instr.makeMap,newObj,Sem.run]
 .rw[ar];refine⟨w.heap.size,#[],0,rfl,rfl,?_,rfl⟩;show(w.heap.push _)[_]? =_;simp
 .rintro b rfl;simp
 .rintro b rfl qQ;exact Nat.lt_irrefl _ (h.eQ _ qQ)
 .rintro u b rfl hu;exact Nat.lt_irrefl _ (h.dW _ _ hu)
 .rintro b rfl;exact .inr h.size
end
end Go.de
