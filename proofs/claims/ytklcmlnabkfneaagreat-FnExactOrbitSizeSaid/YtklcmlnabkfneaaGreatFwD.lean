/- Part of a proof that a law returns true for every input. No condition. -/
import Derived.Test.YtklcmlnabkfneaaGreatFwC
import Derived.Test.YtklcmlnabkfneaaGreatFwA
import Derived.Laws.IdiomStrings
import Derived.Laws.Strings
import Derived.LaidEql
import Derived.WideLaws
import Derived.Laws.StructEq
namespace Go.cU
open List Option Nat Or
section
variable {C:bY} {w0 w:World} {F0 X F:Nat->Prop} {S:Nat->Nat->Prop} {s s1:ax} {aC:Nat->Value} {av:I}
theorem oU {k:IntKind} {n:Int} {v:Value} {aL:Nat->Prop} (h:aG w F s aC (.int k n) v aL):v= .int k n:=by
 have bq:=(aG.ca rfl).1 h;rw[aq,ga bq.1]at bq;simpa using bq.2
theorem qS {b:Bool} {v:Value} {aL:Nat->Prop} (h:aG w F s aC (.bool b) v aL):v= .bool b:=by
 have bq:=(aG.ca rfl).1 h;rw[aq,ga bq.1]at bq;simpa using bq.2
theorem mW {b:aix} {v:Value} {aL:Nat->Prop} (h:aG w F s aC (.str b) v aL):v= .string ⟨⟨b⟩⟩:=by
 have bq:=(aG.ca rfl).1 h;rw[aq,ga bq.1]at bq;simpa using bq.2
theorem IG {v:Value} {aL:Nat->Prop} (h:aG w F s aC .di v aL):v= .pointer none:=by
 have bq:=(aG.ca rfl).1 h;rw[aq,ga bq.1]at bq;simpa using bq.2
theorem qT {v:Value} {aL:Nat->Prop} (h:aG w F s aC .a_ v aL):v= .slice none 0 0:=by
 have bq:=(aG.ca rfl).1 h;rw[aq,ga bq.1]at bq;simpa using bq.2
theorem IH {v:Value} {aL:Nat->Prop} (h:aG w F s aC .e7 v aL):∃b,v= .bool b:=by
 have bq:=(aG.ca rfl).1 h;rw[aq,ga bq.1]at bq;simpa using bq.2
theorem of_int (k:IntKind) (n:Int):aG w F s aC (.int k n) (.int k n) (λ_=>False):=(aG.ca rfl).2 ⟨rfl,by rw[aq];rfl⟩
theorem of_bool (b:Bool):aG w F s aC (.bool b) (.bool b) (λ_=>False):=(aG.ca rfl).2 ⟨rfl,by rw[aq];rfl⟩
theorem nN (b:aix):aG w F s aC (.str b) (.string ⟨⟨b⟩⟩) (λ_=>False):=(aG.ca rfl).2 ⟨rfl,by rw[aq];rfl⟩
theorem C0 (b:Bool):aG w F s aC .e7 (.bool b) (λ_=>False):=(aG.ca rfl).2 ⟨rfl,by rw[aq];exact⟨b,rfl⟩⟩
def j_ (op:BinOp) (k:IntKind) (a:Int) (ct:IntKind) (b:Int):Option I:=
 match op with
 | .shl=>if b<0 then none else some (.int k (k.wrap (a*2^(min b.toNat k.bits))))
 | .shr=>if b<0 then none else some (.int k (a.fdiv (2^(min b.toNat k.bits))))
 | .add=>if k=ct then some (.int k (k.wrap (a+b)))else none
 | .sub=>if k=ct then some (.int k (k.wrap (a-b)))else none
 | .mul=>if k=ct then some (.int k (k.wrap (a*b)))else none
 | .quo=>if k=ct/\b≠0 then some (.int k (k.wrap (a.tdiv b)))else none
 | .rem=>if k=ct/\b≠0 then some (.int k (a.tmod b))else none
 | .eql=>if k=ct then some (.bool (a==b))else none
 | .neq=>if k=ct then some (.bool (a !=b))else none
 | .lss=>if k=ct then some (.bool (decide (a<b)))else none
 | .leq=>if k=ct then some (.bool (decide (a<=b)))else none
 | .gtr=>if k=ct then some (.bool (decide (b<a)))else none
 | .geq=>if k=ct then some (.bool (decide (b<=a)))else none
 | .and=>if k=ct then some (.int k (bitsOf .and k a b))else none
 | .or=>if k=ct then some (.int k (bitsOf .or k a b))else none
 | .xor=>if k=ct then some (.int k (bitsOf .xor k a b))else none
 | .andNot=>if k=ct then some (.int k (bitsOf .andNot k a b))else none
def nO (op:BinOp) (a b:aix):Option I:=
 match op with
 | .add=>if a.length+b.length<=9223372036854775807 then some (.str (a++b))else none
 | .eql=>some (.bool (a==b))
 | .neq=>some (.bool !(a==b))
 | .lss=>some (.bool (Op.bytesLess a b))
 | .leq=>some (.bool (Op.bytesLess a b||a==b))
 | .gtr=>some (.bool !(Op.bytesLess a b||a==b))
 | .geq=>some (.bool !(Op.bytesLess a b))
 |_=>none
def jl (s:ax):I->Option aiB
 | .a_=>some (some true)
 | .slice xs=>some (if xs=[]then none else some false)
 | .h x q=>match I.sub q (s x)with
   |some (.al _ xs)=>some (if xs=[]then none else some false)
   |_=>none
 |_=>none
def kP (s:ax):I->aiB
 | .di=>some true
 | .ref _=>some false
 | .h x q=>match I.sub q (s x)with
   |some (.bb _)=>some false
   |_=>none
 |_=>none
def nP (neg:Bool):aiB->I
 |some b=>.bool (b !=neg)
 |none=>.e7
def structEq (P:Program) (T:TypeId):Bool:= !P.stoodInHeld T&& !P.eqGuardType P.depth T&&(P.fieldsOf T).toList.all λf=>decide (f.name≠ "_")
def mX (C:bY):List (TypeId×Nat)->Nat->aiF->aiF->aiB
 |[],_,[],[]=>some true
 |(jj,off)::ay,n,d::ds,e::es=>if off=n then(match(C.T jj).k,d,e with
  | .int k,.int b1 a,.int cb b=>if b1=k/\cb=k then(mX C ay (n+1) ds es).map λr=>a==b&&r else none
  | .bool,.bool a,.bool b=>(mX C ay (n+1) ds es).map λr=>a==b&&r
  | .str,.str a,.str b=>(mX C ay (n+1) ds es).map λr=>a==b&&r
  |_,_,_=>none)else none
 |_,_,_,_=>none
def eL (C:bY) (s:ax) (op:BinOp) (T:TypeId) (x y:I):Option I:=
 match x,y with
 | .int k a,.int ct b=>j_ op k a ct b
 | .str a,.str b=>nO op a b
 | .bool a,.bool b=>match op,(C.T T).k with
   | .eql,.bool=>some (.bool (a==b))
   | .neq,.bool=>some (.bool !(a==b))
   |_,_=>none
 | .agg ds,.agg es=>match op,(C.T T).k with
   | .eql,.struct ay=>if structEq C.P T=true then(mX C ay 0 ds es).map λb=>.bool b else none
   | .neq,.struct ay=>if structEq C.P T=true then(mX C ay 0 ds es).map λb=>.bool !b else none
   |_,_=>none
 |x,.a_=>match op,(C.T T).k with
  | .eql,.slice _=>(jl s x).map (nP false)
  | .neq,.slice _=>(jl s x).map (nP true)
  |_,_=>none
 |x,.di=>match op,(C.T T).k with
  | .eql,.ptr _=>(kP s x).map λb=>.bool b
  | .neq,.ptr _=>(kP s x).map λb=>.bool !b
  |_,_=>none
 |_,_=>none
theorem PK {P:Program} {op:BinOp} {T:TypeId} {k ct:IntKind} {a b:Int} (he:j_ op k a ct b=some av) (w:World):
  ∃v,(binOp op T (.int k a) (.int ct b)).run P w= .ok v w/\aG w F s aC av v (λ_=>False):=by
 unfold j_ at he;cases op<;>simp only at he<;>split at he<;>first|(cases he;done)|skip
 all_goals
  rename_i aj;simp only[some.injEq]at he;subst he
 all_goals first
  |(subst aj;simp only[binOp_add,binOp_sub,binOp_mul,binOp_eql,binOp_neq,binOp_lss,binOp_leq,binOp_gtr,binOp_geq,binOp_and,binOp_or,binOp_xor,binOp_andNot,Op.intArith,Op.intBits,Sem.run_pure,Result.ok.injEq,and_true,exists_eq_left']
    first|exact of_int _ _|exact of_bool _)
  |(obtain⟨rfl,a7⟩:=aj
    simp only[binOp_quo,binOp_rem,Op.intDiv,a7,if_false,Sem.run_pure,Result.ok.injEq,and_true,exists_eq_left'];exact of_int _ _)
  |(simp only[binOp_shl,binOp_shr,Op.shift,aj,if_false,Sem.run_pure,Result.ok.injEq,and_true,exists_eq_left']
    exact of_int _ _)
theorem vK (a:aix):(⟨⟨a⟩⟩:ByteArray).toList=a:=ByteArray.toList_eq _
theorem PL (a b:aix):(⟨⟨a⟩⟩:ByteArray)++(⟨⟨b⟩⟩:ByteArray)=⟨⟨a++b⟩⟩:=by
 apply ByteArray.ext;simp[ByteArray.data_append]
theorem PM {P:Program} {op:BinOp} {T:TypeId} {a b:aix} (he:nO op a b=some av) (w:World):
  ∃v,(binOp op T (.string ⟨⟨a⟩⟩) (.string ⟨⟨b⟩⟩)).run P w= .ok v w/\aG w F s aC av v (λ_=>False):=by
 have R:∀op,binOp op T (.string ⟨⟨a⟩⟩) (.string ⟨⟨b⟩⟩)=Op.stringOp op ⟨⟨a⟩⟩ ⟨⟨b⟩⟩:=by intro op;cases op<;>rfl
 rw[R];unfold nO at he;cases op<;>simp only[some.injEq]at he<;>first|(cases he;done)|skip
 case add=>
  split at he
  .rename_i aO;simp only[some.injEq]at he;subst he;have U:((ByteArray.size ⟨⟨a⟩⟩+ByteArray.size ⟨⟨b⟩⟩:Nat):Int)<=9223372036854775807:=by
    show((a.length+b.length:Nat):Int)<=_;omega
   refine⟨.string ⟨⟨a++b⟩⟩,?_,nN _⟩;simp only[Op.stringOp,IntKind.max_i64];rw[if_neg (by omega),PL];rfl
  .cases he
 all_goals
  subst he;simp only[Op.stringOp,vK,Sem.run_pure,Result.ok.injEq,and_true,exists_eq_left'];exact of_bool _
theorem C1 (h:bs w0 F0 X F S s aC w) {v:Value} {y:Nat} {q:aiA} (aH:aG w F s aC (.h y q) v (λ_=>False)) {sz:Nat} {xs:aiF} (ag:I.sub q (s y)=some (.al sz xs)):
  (xs=[]/\∃a,v= .slice a 0 0)\/∃b cap cur e fr,v= .slice (some ⟨b,0,none⟩) xs.length cap/\w.heap[b]? =some (.cells cur e fr)/\kt fr cur.size/\xs.length<=cap/\cap<=maxLen/\cur.size=cap*sz/\(∀d∈xs,d.wd=sz)/\
   ∃aL,aV w F xs (cur.toList.take (xs.length*sz)) aL/\(∀c,aL c->S y c)/\S y b:=by
 rw[aG]at aH;obtain⟨cq,a,g1,g2,g3⟩:=aH _ ag rfl;have U:Value.fw v=true:=g3;rw[ga U]at g2;subst g2;have ar:=h.df y;rw[aG.ca (hs ag (.inl rfl))]at ar;obtain⟨fy,cA,dL,eY,k0,b1,cb,eu,dp,e0⟩:=ctx q (s y) (b9 (aC y)) (S y) none _ ar.2 ag;rw[k0]at g1;simp only[some.injEq,Prod.mk.injEq,true_and]at g1;obtain⟨rfl,rfl⟩:=g1;rw[aq]at dp;rcases dp with⟨rfl,a2,ad⟩|⟨b,cap,cur,aR,fr,c3,aS,b0,cd,bQ,bH,gS,jx,kQ,l0,hc,e9⟩
 .simp at ad;exact .inl ⟨rfl,_,ad⟩
 .simp at aS;exact .inr ⟨b,cap,cur,aR,fr,aS,cd,bQ.low,bH,gS,jx,kQ,c3,l0,λc aj=>cb _ (hc c aj),cb _ b0⟩
theorem II (h:bs w0 F0 X F S s aC w) {v:Value} {y:Nat} {q:aiA} (aH:aG w F s aC (.h y q) v (λ_=>False)) {d:I} (ag:I.sub q (s y)=some (.bb d)):
  ∃b cur e fr,v= .pointer (some ⟨b,0,none⟩)/\w.heap[b]? =some (.cells cur e fr):=by
 rw[aG]at aH;obtain⟨cq,a,g1,g2,g3⟩:=aH _ ag rfl;have U:Value.fw v=true:=g3;rw[ga U]at g2;subst g2;have ar:=h.df y;rw[aG.ca (hs ag (.inl rfl))]at ar;obtain⟨fy,cA,dL,eY,k0,b1,cb,eu,dp,e0⟩:=ctx q (s y) (b9 (aC y)) (S y) none _ ar.2 ag;rw[k0]at g1;simp only[some.injEq,Prod.mk.injEq,true_and]at g1;obtain⟨rfl,rfl⟩:=g1;rw[aq]at dp;obtain⟨b,cur,aR,fr,c3,aS,b0,cd,_⟩:=dp;simp at aS;exact⟨b,cur,aR,fr,aS,cd⟩
theorem IJ {P:Program} {T e:TypeId} (aY:P.underlying T=some (.slice e)) (w:World):∀d,(Op.equalIn (d+1) T (.slice none 0 0) (.slice none 0 0)).run P w= .ok true w/\
  ∀a n c,(Op.equalIn (d+1) T (.slice (some a) n c) (.slice none 0 0)).run P w= .ok false w:=by
 intro d;refine⟨by simp[Op.equalIn,run_underlying aY],λa n c=>by simp[Op.equalIn,run_underlying aY]⟩
theorem IK {P:Program} {T e:TypeId} (aY:P.underlying T=some (.pointer e)) (w:World):∀d,(Op.equalIn (d+1) T (.pointer none) (.pointer none)).run P w= .ok true w/\
  ∀a,(Op.equalIn (d+1) T (.pointer (some a)) (.pointer none)).run P w= .ok false w:=by
 intro d;refine⟨by simp[Op.equalIn,run_underlying aY],λa=>by simp[Op.equalIn,run_underlying aY]⟩
theorem IL {P:Program} {T:TypeId} (aY:P.underlying T=some .bool) (w:World):∀d a b,(Op.equalIn (d+1) T (.bool a) (.bool b)).run P w= .ok (a==b) w:=by
 intro d a b;simp[Op.equalIn,run_underlying aY]
theorem IM (h:bs w0 F0 X F S s aC w) {x:I} {v:Value} (aH:aG w F s aC x v (λ_=>False)) {T e:TypeId} {r:aiB} (aK:jl s x=some r) (aY:C.P.underlying T=some (.slice e)):
  ∃b,(Op.equal T v (.slice none 0 0)).run C.P w= .ok b w/\(∀fk,r=some fk->fk=b)/\Value.fw v=true/\∃a n c,v= .slice a n c:=by
 have aN:=λa n c=>(IJ aY w 9999).2 a n c;have fR:=(IJ aY w 9999).1;cases x with
 |a_=>
  have:=qT aH;subst this;simp[jl]at aK;subst aK;exact⟨true,fR,by simp,rfl,_,_,_,rfl⟩
 |slice xs=>
  have bq:=(aG.ca rfl).1 aH;rw[aq,ga bq.1]at bq;simp only[jl,some.injEq]at aK;obtain⟨_,⟨rfl,a,c,ad,_,r5⟩|⟨b,o,cap,d_,sz,ad,aA⟩⟩:=bq
  .simp at ad aK;subst ad;subst aK;cases a with
   |none=>
    have:=r5 rfl;subst this;exact⟨true,fR,by simp,rfl,_,_,_,rfl⟩
   |some a=>exact⟨false,aN _ _ _,by simp,rfl,_,_,_,rfl⟩
  .simp at ad;subst ad;refine⟨false,aN _ _ _,?_,rfl,_,_,_,rfl⟩;subst aK;split<;>simp
 |h y q=>
  simp only[jl]at aK;split at aK
  .rename_i sz xs ag;simp only[some.injEq]at aK;rcases C1 h aH ag with⟨rfl,a,rfl⟩|⟨b,cap,cur,aR,fr,rfl,_⟩
   .simp at aK;subst aK;cases a with
    |none=>exact⟨true,fR,by simp,rfl,_,_,_,rfl⟩
    |some a=>exact⟨false,aN _ _ _,by simp,rfl,_,_,_,rfl⟩
   .refine⟨false,aN _ _ _,?_,rfl,_,_,_,rfl⟩;subst aK;split<;>simp
  .cases aK
 |_=>simp[jl]at aK
theorem IP (h:bs w0 F0 X F S s aC w) {x:I} {v:Value} (aH:aG w F s aC x v (λ_=>False)) {T e:TypeId} {r:Bool} (aK:kP s x=some r) (aY:C.P.underlying T=some (.pointer e)):
  (Op.equal T v (.pointer none)).run C.P w= .ok r w/\∃a,v= .pointer a:=by
 have aN:=λa=>(IK aY w 9999).2 a;have fR:=(IK aY w 9999).1;cases x with
 |di=>
  have:=IG aH;subst this;simp[kP]at aK;subst aK;exact⟨fR,_,rfl⟩
 |ref d=>
  have bq:=(aG.ca rfl).1 aH;rw[aq,ga bq.1]at bq;simp[kP]at aK;subst aK;obtain⟨_,b,o,d_,ad,_⟩:=bq;simp at ad;subst ad;exact⟨aN _,_,rfl⟩
 |h y q=>
  simp only[kP]at aK;split at aK
  .rename_i d ag;simp only[some.injEq]at aK;subst aK;obtain⟨b,cur,e,fr,rfl,_⟩:=II h aH ag;exact⟨aN _,_,rfl⟩
  .cases aK
 |_=>simp[kP]at aK
theorem PN (bh:C.Ok):∀(ay:List (TypeId×Nat)) (gs:List Field) (n:Nat) (ds es:aiF) (r:Bool) (ev l2 c1 c2:aiD) (xs ys:Array Value) (bM c3:Nat->Prop),
  gs.map (λg=>(g.type,g.offset))=ay->(gs.all λf=>decide (f.name≠ "_"))=true->mX C ay n ds es=some r->aV w F ds c1 bM->aV w F es c2 c3->xs.toList=ev++c1->ev.length=n->ys.toList=l2++c2->l2.length=n->
  ∀m,(Op.eqFields (m+1) xs ys gs).run C.P w= .ok r w:=by
 intro ay;induction ay with
 |nil=>
  intro gs n ds es r ev l2 c1 c2 xs ys bM c3 bB aP he ab ad ar aO a8 C2 m;have:gs=[]:=by simpa using bB
  subst this;cases ds<;>cases es<;>simp[mX]at he;subst he;simp[Op.eqFields]
 |cons p ay ih=>
  obtain⟨jj,off⟩:=p;intro gs n ds es r ev l2 c1 c2 xs ys bM c3 bB aP he ab ad ar aO a8 C2 m;cases gs with
  |nil=>simp at bB
  |cons g gs=>
   simp only[map_cons,cons.injEq,Prod.mk.injEq]at bB;obtain⟨⟨rfl,rfl⟩,bB⟩:=bB;simp only[all_cons,Bool.and_eq_true,decide_eq_true_eq]at aP;cases ds with
   |nil=>simp[mX]at he
   |cons d ds=>
   cases es with
   |nil=>simp[mX]at he
   |cons e es=>
   simp only[mX]at he;split at he
   .rename_i oR;rw[aV]at ab ad;obtain⟨J,a2,zj,C3,rfl,fO,ha,h8,IQ,fE⟩:=ab;obtain⟨ka,ht,agu,PO,rfl,hd,gz,il,im,qU⟩:=ad;have step:∀(x y:Value) (z:Bool),(C.T g.type).flat=true->J=[x]->ka=[y]->(∀m,(Op.equalIn (m+1) g.type x y).run C.P w= .ok z w)->∀jy,mX C ay (n+1) ds es=some jy->
      (Op.eqFields (m+1) xs ys (g::gs)).run C.P w= .ok (z&&jy) w:=by
     intro x y z jR PQ C4 heq jy ef;subst PQ;subst C4;have PR:xs[g.offset]? =some x:=by
      rw[<-Array.getElem?_toList,ar,oR,<-aO,getElem?_append_right (Nat.le_refl _)];simp
     have PS:ys[g.offset]? =some y:=by
      rw[<-Array.getElem?_toList,a8,oR,<-C2,getElem?_append_right (Nat.le_refl _)];simp
     have ak:=ih gs (n+1) ds es jy (ev++[x]) (l2++[y]) a2 ht xs ys C3 PO bB aP.2 ef ha gz (by rw[ar];simp) (by simp[aO]) (by rw[a8];simp) (by simp[C2]) m;unfold Op.eqFields;rw[if_pos aP.1];simp only[part,Sem.run_bind,CX bh jR,Result.andThen_ok,Bool.false_eq_true,if_false,PR,PS,Sem.run_pure,heq];cases z
     .simp
     .simpa using ak
    split at he
    .rename_i k b1 a cb b aw;split at he
     .rename_i r6;obtain⟨rfl,rfl⟩:=r6;rw[aq]at fO hd;simp only[map_eq_some_iff]at he;obtain⟨jy,ef,rfl⟩:=he;obtain⟨i,vL,IU,aN,aR,aS,b0,cd,bQ,bH⟩:=bh.info (fP aw (by simp));rw[aw]at bH;have r7:=ze bH;subst r7;exact step _ _ _ (by simp[fZ.flat,aw]) fO hd (λm=>run_equalIn_int w m g.type _ _ a b bQ) jy ef
     .cases he
    .rename_i a b aw;rw[aq]at fO hd;simp only[map_eq_some_iff]at he;obtain⟨jy,ef,rfl⟩:=he;obtain⟨i,vL,IU,aN,aR,aS,b0,cd,bQ,bH⟩:=bh.info (fP aw (by simp));rw[aw]at bH;have r7:=CS bH;subst r7;exact step _ _ _ (by simp[fZ.flat,aw]) fO hd (λm=>run_equalIn_bool' w m g.type a b bQ) jy ef
    .rename_i a b aw;rw[aq]at fO hd;simp only[map_eq_some_iff]at he;obtain⟨jy,ef,rfl⟩:=he;obtain⟨i,vL,IU,aN,aR,aS,b0,cd,bQ,bH⟩:=bh.info (fP aw (by simp));rw[aw]at bH;have r7:=oQ bH;subst r7;refine step _ _ (a==b) (by simp[fZ.flat,aw]) fO hd (λm=>?_) jy ef;rw[run_equalIn_string w m g.type _ _ bQ,vK,vK]
    .cases he
   .cases he
theorem IV (bh:C.Ok) {T:TypeId} {ay:List (TypeId×Nat)} (aw:(C.T T).k= .struct ay) {ds es:aiF} {h1 i1:Value} {bM c3:Nat->Prop} {r:Bool} (ar:aG w F s aC (.agg ds) h1 bM) (a8:aG w F s aC (.agg es) i1 c3)
  (bX:structEq C.P T=true) (he:mX C ay 0 ds es=some r) (op:BinOp) (vM vN:Operand):
  (eqGuard op T vM vN h1 i1).run C.P w= .ok () w/\(Op.equal T h1 i1).run C.P w= .ok r w:=by
 obtain⟨i,d,z,aN,aR,aS,b0,cd,bQ,bH⟩:=bh.info (fP aw (by simp));rw[aw]at bH;obtain⟨gs,rfl,gS⟩:=vF bH;have vO:C.P.fieldsOf T=gs:=by simp[Program.fieldsOf,bQ]
 simp only[structEq,Bool.and_eq_true,Bool.not_eq_true',vO]at bX;obtain⟨⟨hd,gz⟩,il⟩:=bX;obtain⟨⟨xs,rfl⟩,qV⟩:=(aG.ca rfl).1 ar;obtain⟨⟨ys,rfl⟩,r1⟩:=(aG.ca rfl).1 a8;rw[aq]at qV r1;constructor
 .cases op<;>simp[eqGuard,gz]
 .show(Op.equalIn (9999+1) T _ _).run C.P w=_;rw[run_equalIn_struct w 9999 T xs ys (by rw[vO];exact bQ) hd,vO];exact PN bh ay gs.toList 0 ds es r [] [] _ _ xs ys bM c3 gS il he qV r1 rfl rfl rfl rfl 9998
theorem PT (bh:C.Ok) (h:bs w0 F0 X F S s aC w) {op:BinOp} {T:TypeId} {x y:I} {h1 i1:Value} (vM vN:Operand) (ar:aG w F s aC x h1 (λ_=>False)) (a8:aG w F s aC y i1 (λ_=>False))
  (he:eL C s op T x y=some av):Good C w0 F0 X aC w (do eqGuard op T vM vN h1 i1;binOp op T h1 i1) av s:=by
 unfold eL at he;split at he
 .have:=oU ar;subst this;have:=oU a8;subst this;obtain⟨v,ab,ad⟩:=PK (P:=C.P) (T:=T) he w;refine Good.same h (v:=v) ?_ ?_ ad
  .rw[eqGuard_at_int];exact ab
  .revert he;unfold j_;cases op<;>simp only<;>split<;>simp<;>(rintro rfl;rfl)
 .have:=mW ar;subst this;have:=mW a8;subst this;obtain⟨v,ab,ad⟩:=PM (P:=C.P) (T:=T) he w;refine Good.same h (v:=v) ?_ ?_ ad
  .rw[eqGuard_at_string];exact ab
  .revert he;unfold nO;cases op<;>simp only<;>(try split)<;>simp<;>(try (rintro rfl;rfl))
 .have:=qS ar;subst this;have:=qS a8;subst this;split at he
  .rename_i aw;simp only[some.injEq]at he;subst he;obtain⟨i,d,z,aN,aR,aS,b0,cd,bQ,bH⟩:=bh.info (fP aw (by simp));rw[aw]at bH;have:=CS bH;subst this;refine Good.same h ?_ rfl (of_bool _);rw[eqGuard_at_bool];simp[binOp,Op.equal,Op.maxDepth,IL bQ w 9999]
  .rename_i aw;simp only[some.injEq]at he;subst he;obtain⟨i,d,z,aN,aR,aS,b0,cd,bQ,bH⟩:=bh.info (fP aw (by simp));rw[aw]at bH;have:=CS bH;subst this;refine Good.same h ?_ rfl (of_bool _);rw[eqGuard_at_bool];simp[binOp,Op.equal,Op.maxDepth,IL bQ w 9999]
  .cases he
 .split at he
  .rename_i ay aw;split at he
   .rename_i bX;simp only[map_eq_some_iff]at he;obtain⟨r,aK,rfl⟩:=he;obtain⟨g1,g2⟩:=IV bh aw ar a8 bX aK .eql vM vN;obtain⟨⟨xs,rfl⟩,_⟩:=(aG.ca rfl).1 ar;obtain⟨⟨ys,rfl⟩,_⟩:=(aG.ca rfl).1 a8;exact Good.same h (by simp[g1,binOp,g2]) rfl (of_bool _)
   .cases he
  .rename_i ay aw;split at he
   .rename_i bX;simp only[map_eq_some_iff]at he;obtain⟨r,aK,rfl⟩:=he;obtain⟨g1,g2⟩:=IV bh aw ar a8 bX aK .neq vM vN;obtain⟨⟨xs,rfl⟩,_⟩:=(aG.ca rfl).1 ar;obtain⟨⟨ys,rfl⟩,_⟩:=(aG.ca rfl).1 a8;exact Good.same h (by simp[g1,binOp,g2]) rfl (of_bool _)
   .cases he
  .cases he
 .have:=qT a8;subst this;split at he
  .rename_i e aw;simp only[map_eq_some_iff]at he;obtain⟨r,aK,rfl⟩:=he;obtain⟨i,d,z,aN,aR,aS,b0,cd,bQ,bH⟩:=bh.info (fP aw (by simp));rw[aw]at bH;have:=k_ bH;subst this;obtain⟨b,ab,ad,aA,a0,bt,mm,rfl⟩:=IM h ar aK bQ;refine Good.same h (v:=.bool b) ?_ ?_ ?_
   .rw[eqGuard_at_slice];simp[binOp,ab]
   .cases r<;>rfl
   .cases r with
    |none=>exact C0 b
    |some fk=>have:=ad fk rfl;subst this;simp only[nP,Bool.bne_false];exact of_bool _
  .rename_i e aw;simp only[map_eq_some_iff]at he;obtain⟨r,aK,rfl⟩:=he;obtain⟨i,d,z,aN,aR,aS,b0,cd,bQ,bH⟩:=bh.info (fP aw (by simp));rw[aw]at bH;have:=k_ bH;subst this;obtain⟨b,ab,ad,aA,a0,bt,mm,rfl⟩:=IM h ar aK bQ;refine Good.same h (v:=.bool !b) ?_ ?_ ?_
   .rw[eqGuard_at_slice];simp[binOp,ab]
   .cases r<;>rfl
   .cases r with
    |none=>exact C0 _
    |some fk=>have:=ad fk rfl;subst this;simp only[nP,Bool.bne_true];exact of_bool _
  .cases he
 .have:=IG a8;subst this;split at he
  .rename_i e aw;simp only[map_eq_some_iff]at he;obtain⟨r,aK,rfl⟩:=he;obtain⟨i,d,z,aN,aR,aS,b0,cd,bQ,bH⟩:=bh.info (fP aw (by simp));rw[aw]at bH;have:=Ix bH;subst this;obtain⟨ab,a0,rfl⟩:=IP h ar aK bQ;refine Good.same h (v:=.bool r) ?_ rfl (of_bool _);rw[eqGuard_at_pointer];simp[binOp,ab]
  .rename_i e aw;simp only[map_eq_some_iff]at he;obtain⟨r,aK,rfl⟩:=he;obtain⟨i,d,z,aN,aR,aS,b0,cd,bQ,bH⟩:=bh.info (fP aw (by simp));rw[aw]at bH;have:=Ix bH;subst this;obtain⟨ab,a0,rfl⟩:=IP h ar aK bQ;refine Good.same h (v:=.bool !r) ?_ rfl (of_bool _);rw[eqGuard_at_pointer];simp[binOp,ab]
  .cases he
 .cases he
end
section
variable {C:bY} {w0 w:World} {F0 X F:Nat->Prop} {S:Nat->Nat->Prop} {s s1:ax} {aC:Nat->Value} {av:I}
def un (op:UnOp) (x:I):Option I:=
 match op,x with
 | .not,.bool b=>some (.bool !b)
 | .not,.e7=>some .e7
 | .neg,.int k n=>some (.int k (k.wrap (0-n)))
 |_,_=>none
theorem PU (h:bs w0 F0 X F S s aC w) {op:UnOp} {x:I} {v:Value} (aH:aG w F s aC x v (λ_=>False)) (he:un op x=some av):Good C w0 F0 X aC w (Op.unary op v) av s:=by
 unfold un at he;split at he<;>first|(cases he;done)|(simp only[some.injEq]at he;subst he)
 .have:=qS aH;subst this;exact Good.same h rfl rfl (of_bool _)
 .obtain⟨b,rfl⟩:=IH aH;exact Good.same h rfl rfl (C0 _)
 .have:=oU aH;subst this;exact Good.same h rfl rfl (of_int _ _)
def kb (s:ax) (x:I):Option I:=
 match x with
 | .ref d=>some (.ref d)
 | .fn f c=>some (.fn f c)
 | .h y q=>match I.sub q (s y)with
   |some (.bb _)=>some (.h y q)
   |_=>none
 |_=>none
theorem PV {d:I} {v:Value} {aL:Nat->Prop} (h:aG w F s aC (.ref d) v aL):∃b o d_,v= .pointer (some ⟨b,o,none⟩)/\F b/\Rd w b o d_/\aq w F d d_ (λ_=>False):=by
 have bq:=(aG.ca rfl).1 h;rw[aq,ga bq.1]at bq;obtain⟨_,b,o,d_,ab,ad,aA,aZ⟩:=bq;simp at ab;subst ab;exact⟨b,o,d_,rfl,ad,aA,aZ⟩
theorem PW (h:bs w0 F0 X F S s aC w) {x:I} {v:Value} (aH:aG w F s aC x v (λ_=>False)) (he:kb s x=some av):
  av=x/\x.plain=true/\((∃a,v= .pointer (some a))\/∃f c,v= .func (.func f) #[] c):=by
 unfold kb at he;split at he
 .simp only[some.injEq]at he;subst he;obtain⟨b,o,d_,rfl,_⟩:=PV aH;exact⟨rfl,rfl,.inl ⟨_,rfl⟩⟩
 .simp only[some.injEq]at he;subst he;rw[aG]at aH;obtain⟨arr,rfl,_⟩:=aH;exact⟨rfl,rfl,.inr ⟨_,_,rfl⟩⟩
 .split at he
  .rename_i d ag;simp only[some.injEq]at he;subst he;obtain⟨b,cur,e,fr,rfl,_⟩:=II h aH ag;exact⟨rfl,rfl,.inl ⟨_,rfl⟩⟩
  .cases he
 .cases he
def ex (s:ax) (x:I) (k:Nat):Option I:=
 match x with
 | .tuple ds=>match ds[k]? with
   |some d=>if d.plain=true then some d else none
   |none=>none
 | .h y q=>match I.sub q (s y)with
   |some (.tuple ds)=>match ds[k]? with
    |some d=>if I.fY ds=true then none else some (if d.plain then d else .h y (q++[k]))
    |none=>none
   |_=>none
 |_=>none
theorem IW:∀(vs:aiD) (k:Nat) (x:Value) (ds:aiF),vs[k]? =some x->vs.length=ds.length->(∀(j:Nat) (d:I) (y:Value),ds[j]? =some d->vs[j]? =some y->(hU y).length=d.wd)->
  ∃l r,vs.flatMap hU=l++(hU x++r)/\l.length=I.dH (ds.take k)
 |[],k,x,ds,h,_,_=>by simp at h
 |v::vs,0,x,ds,h,aO,hw=>by
  simp at h;subst h;exact⟨[],vs.flatMap hU,by simp,by simp[I.dH]⟩
 |v::vs,k+1,x,d::ds,h,aO,hw=>by
  obtain⟨l,r,aN,aR⟩:=IW vs k x ds (by simpa using h) (by simpa using aO) (λj d y ab ad=>hw (j+1) d y (by simpa using ab) (by simpa using ad));refine⟨hU v++l,r,by simp[aN],?_⟩;have:=hw 0 d v (by simp) (by simp);simp[I.dH,aR,this]
 |v::vs,k+1,x,[],h,aO,hw=>by simp at aO
theorem PX {d:I} {v:Value} (h:hV d v) (_hd:∀vs,d≠.tuple vs):b9 v=hU v:=by
 cases d with
 |agg ay=>obtain⟨arr,rfl⟩:=h;rfl
 |_=>
  have ab:Value.fw v=true:=h;cases v<;>first|rfl|(simp[Value.fw]at ab)
theorem PY {d:I} {v:Value} (h:hV d v) (ag:∀vs,d≠.tuple vs):dd d v:=by
 cases d with
 |tuple vs=>exact(ag _ rfl).elim
 |_=>exact h
theorem PZ (h:bs w0 F0 X F S s aC w) {x:I} {v:Value} {k:Nat} (aH:aG w F s aC x v (λ_=>False)) (he:ex s x k=some av):Good C w0 F0 X aC w (Instr.extract v k) av s:=by
 have pick:∀(ds:aiF) (d:I) (arr:Array Value),ds[k]? =some d->(arr.size=ds.length/\∀(k:Nat) (d:I) (x:Value),ds[k]? =some d->arr[k]? =some x->hV d x/\(∀vs,d≠.tuple vs)/\(hU x).length=d.wd)->
   ∃x,arr[k]? =some x/\dd d x/\((b9 (.tuple arr)).drop (I.dH (ds.take k))).take d.wd=b9 x:=by
  intro ds d arr ag ⟨bO,iY⟩;have c9:k<arr.size:=by rw[bO];exact(List.getElem?_eq_some_iff.1 ag).1
  have ar:arr[k]? =some arr[k]:=Array.getElem?_eq_getElem c9;obtain⟨g1,g2,g3⟩:=iY k d _ ag ar;obtain⟨l,r,aN,aR⟩:=IW arr.toList k arr[k] ds (by simp[c9]) (by simpa using bO) (λj d y ab ad=>(iY j d y ab (by simpa using ad)).2.2);refine⟨_,ar,PY g1 g2,?_⟩;rw[PX g1 g2];simp only[b9];rw[aN];exact rV l _ r _ _ aR g3
 unfold ex at he;split at he
 .rename_i ds;split at he
  .rename_i d ag;split at he
   .rename_i au;simp only[some.injEq]at he;subst he;have bq:=(aG.ca rfl).1 aH;obtain⟨⟨arr,rfl,bO⟩,e_⟩:=bq;obtain⟨x,ar,U,aj⟩:=pick ds d arr ag bO;have aK:(Instr.extract (.tuple arr) k).run C.P w= .ok x w:=by simp[Instr.extract,ar]
    rw[aq]at e_;obtain⟨c1,fj,c2,bM,hr,e,g_,fO,ha,h8,fE,lx⟩:=aV.pick ds _ _ k d e_ ag;rw[e,rV c1 fj c2 _ _ g_ (aq.length _ _ _ fE)]at aj;by_cases aY:d.tree=true
    .exact Good.same h aK au ((aG.ca aY).2 ⟨U,by rw[<-aj];exact aq.plain _ _ _ _ au fE⟩)
    .cases d<;>first|exact(aY rfl).elim|(rw[aq]at fE;exact fE.elim)|exact Good.same h aK rfl (by rw[aG];trivial)|(have bA:=aq.plain _ _ _ (λ_=>False) au fE;rw[aj,ga (by exact U)]at bA;exact Good.same h aK rfl (aG.oS _ _ rfl bA))
   .cases he
  .cases he
 .rename_i y q;split at he
  .rename_i ds ag;split at he
   .rename_i d aw;split at he
    .cases he
    .rename_i fl;simp only[some.injEq]at he;have fl:(I.tuple ds).plain=false:=by simpa [I.plain]using fl
     rw[aG]at aH;obtain⟨cq,a,g1,g2,g3⟩:=aH _ ag fl;obtain⟨arr,rfl,bO⟩:=g3;obtain⟨x,ar,U,aj⟩:=pick ds d arr aw bO;have aK:(Instr.extract (.tuple arr) k).run C.P w= .ok x w:=by simp[Instr.extract,ar]
     have a8:=h.df y;rw[aG.ca (hs ag (.inl fl))]at a8;obtain⟨fy,cA,dL,eY,k0,b1,cb,eu,dp,e0⟩:=ctx q (s y) (b9 (aC y)) (S y) none _ a8.2 ag;rw[k0]at g1;simp only[some.injEq,Prod.mk.injEq,true_and]at g1;obtain⟨rfl,rfl⟩:=g1;rw[g2]at aj;split at he
     .rename_i au;subst he;rw[aq]at dp;obtain⟨c1,fj,c2,bM,hr,e,g_,fO,ha,h8,fE,lx⟩:=aV.pick ds _ _ k d dp aw;rw[e,rV c1 fj c2 _ _ g_ (aq.length _ _ _ fE)]at aj;by_cases aY:d.tree=true
      .exact Good.same h aK au ((aG.ca aY).2 ⟨U,by rw[<-aj];exact aq.plain _ _ _ _ au fE⟩)
      .cases d<;>first|exact(aY rfl).elim|(rw[aq]at fE;exact fE.elim)|exact Good.same h aK rfl (by rw[aG];trivial)|(have bA:=aq.plain _ _ _ (λ_=>False) au fE;rw[aj,ga (by exact U)]at bA;exact Good.same h aK rfl (aG.oS _ _ rfl bA))
     .subst he;refine Good.same h aK rfl ?_;rw[aG];intro d2 gR tt;rw[vE w q _ _ _ _ _ _ [k] k0];rw[vD _ _ _ _ ag]at gR;simp only[I.sub,aw,some.injEq]at gR;subst gR;simp only[c7,aw];exact⟨_,_,rfl,aj.symm,U⟩
   .cases he
  .cases he
 .cases he
def lA (C:bY) (s:ax) (T:TypeId) (x:I) (k:Nat):Option I:=
 match(C.T T).k with
 | .struct ay=>match ay[k]? with
   |some (jj,off)=>match x with
    | .agg ds=>match ds[k]? with
      |some d=>if I.dH (ds.take k)=off/\fits C jj d=true/\d.plain=true/\d.tree=true then some d else none
      |none=>none
    | .h y q=>match I.sub q (s y)with
      |some (.agg ds)=>match ds[k]? with
       |some d=>if I.dH (ds.take k)=off/\fits C jj d=true/\I.fY ds=false/\d.tree=true then some (if d.plain then d else .h y (q++[k]))else none
       |none=>none
      |_=>none
    |_=>none
   |none=>none
 |_=>none
theorem P0 (bh:C.Ok) (h:bs w0 F0 X F S s aC w) {T:TypeId} {x:I} {v:Value} {k:Nat} (aH:aG w F s aC x v (λ_=>False)) (he:lA C s T x k=some av):Good C w0 F0 X aC w (Instr.field T v k) av s:=by
 have key:∀(ay:List (TypeId×Nat)) (jj:TypeId) (off:Nat),(C.T T).k= .struct ay->ay[k]? =some (jj,off)->∀(ds:aiF) (d:I) (arr:Array Value) (aL:Nat->Prop),ds[k]? =some d->I.dH (ds.take k)=off->fits C jj d=true->aV w F ds arr.toList aL->
   ∃x hr,(Instr.field T (.agg arr) k).run C.P w= .ok x w/\dd d x/\aq w F d (b9 x) hr/\(arr.toList.drop off).take d.wd=b9 x:=by
  intro ay jj off aw bn ds d arr aL ag oR h0 e_;obtain⟨i,vL,z,aN,aR,aS,b0,cd,bQ,bH⟩:=bh.info (fP aw (by simp));rw[aw]at bH;obtain⟨gs,rfl,gS⟩:=vF bH;obtain⟨g,g1,rfl,rfl⟩:∃g,gs[k]? =some g/\g.type=jj/\g.offset=off:=by
   rw[<-gS,getElem?_map]at bn;simp only[map_eq_some_iff,Prod.mk.injEq]at bn;obtain⟨g,ab,ad,aA⟩:=bn;exact⟨g,by simpa using ab,ad,aA⟩
  obtain⟨c1,fj,c2,bM,hr,e,g_,fO,ha,h8,fE,lx⟩:=aV.pick ds _ _ k d e_ ag;obtain⟨x,aK,IX,kO⟩:=PA (w:=w) bh e (g_.trans oR) fE h0;refine⟨x,hr,?_,kO,by rw[IX];exact fE,?_⟩
  .simp[Instr.field,run_underlying bQ,g1,asAgg,aK]
  .rw[e,IX,<-oR];exact rV c1 fj c2 _ _ g_ (aq.length _ _ _ fE)
 have IY:∀(d:I) (x:Value) (hr:Nat->Prop),d.plain=true->dd d x->aq w F d (b9 x) hr->aG w F s aC d x (λ_=>False):=by
  intro d x hr au U e_;by_cases aY:d.tree=true
  .exact(aG.ca aY).2 ⟨U,aq.plain _ _ _ _ au e_⟩
  .cases d<;>first|exact(aY rfl).elim|(rw[aq]at e_;exact e_.elim)|(rw[aG];trivial)|(have bA:=aq.plain _ _ _ (λ_=>False) au e_;rw[ga (by exact U)]at bA;exact aG.oS _ _ rfl bA)
 unfold lA at he;split at he
 .rename_i ay aw;split at he
  .rename_i jj off bn;split at he
   .rename_i ds;split at he
    .rename_i d ag;split at he
     .rename_i aj;simp only[some.injEq]at he;subst he;obtain⟨⟨arr,rfl⟩,e_⟩:=(aG.ca rfl).1 aH;rw[aq]at e_;obtain⟨x,hr,aK,U,qW,_⟩:=key ay jj off aw bn ds d arr _ ag aj.1 aj.2.1 e_;exact Good.same h aK aj.2.2.1 (IY d x hr aj.2.2.1 U qW)
     .cases he
    .cases he
   .rename_i y q;split at he
    .rename_i ds ag;split at he
     .rename_i d nK;split at he
      .rename_i aj;simp only[some.injEq]at he;have fl:(I.agg ds).plain=false:=by simpa [I.plain]using aj.2.2.1
       rw[aG]at aH;obtain⟨cq,a,g1,g2,g3⟩:=aH _ ag fl;obtain⟨arr,rfl⟩:=g3;have a8:=h.df y;rw[aG.ca (hs ag (.inl fl))]at a8;obtain⟨fy,cA,dL,eY,k0,b1,cb,eu,dp,e0⟩:=ctx q (s y) (b9 (aC y)) (S y) none _ a8.2 ag;rw[k0]at g1;simp only[some.injEq,Prod.mk.injEq,true_and]at g1;obtain⟨rfl,rfl⟩:=g1;rw[aq,<-g2]at dp;obtain⟨x,hr,aK,U,qW,gb⟩:=key ay jj off aw bn ds d arr _ nK aj.1 aj.2.1 dp;by_cases au:d.plain=true
       .rw[if_pos au]at he;subst he;exact Good.same h aK au (IY d x hr au U qW)
       .rw[if_neg au]at he;subst he;refine Good.same h aK rfl ?_;rw[aG];intro d2 gR tt;rw[vE w q _ _ _ _ _ _ [k] k0];rw[vD _ _ _ _ ag]at gR;simp only[I.sub,nK,some.injEq]at gR;subst gR;simp only[c7,nK];refine⟨_,_,rfl,?_,U⟩;rw[aj.1,<-g2];exact gb.symm
      .cases he
     .cases he
    .cases he
   .cases he
  .cases he
 .cases he
end
section
variable {C:bY} {w0 w:World} {F0 X F:Nat->Prop} {S:Nat->Nat->Prop} {s s1:ax} {aC:Nat->Value} {av:I}
def idx (C:bY) (T:TypeId) (x i:I):Option I:=
 match(C.T T).k,x,i with
 | .str,.str l,.int _ n=>if 0<=n then(match l[n.toNat]? with|some b=>some (.int .u8 b.toNat)|none=>none)else none
 |_,_,_=>none
theorem P1 (l:aix) (n:Nat):(⟨⟨l⟩⟩:ByteArray)[n]? =l[n]? :=by
 by_cases h:n<l.length
 .have bq:n<(⟨⟨l⟩⟩:ByteArray).size:=h;rw[getElem?_eq_getElem h,getElem?_pos (⟨⟨l⟩⟩:ByteArray) n bq];rfl
 .have bq:¬n<(⟨⟨l⟩⟩:ByteArray).size:=h;rw[getElem?_eq_none (by omega),getElem?_neg (⟨⟨l⟩⟩:ByteArray) n bq]
theorem P2 (bh:C.Ok) (h:bs w0 F0 X F S s aC w) {T:TypeId} {x i:I} {v mU:Value} (aH:aG w F s aC x v (λ_=>False)) (ak:aG w F s aC i mU (λ_=>False)) (he:idx C T x i=some av):
  Good C w0 F0 X aC w (Instr.index T v mU) av s:=by
 unfold idx at he;split at he
 .rename_i l k n aw;have:=mW aH;subst this;have:=oU ak;subst this;obtain⟨i,d,z,aN,aR,aS,b0,cd,bQ,bH⟩:=bh.info (fP aw (by simp));rw[aw]at bH;have:=oQ bH;subst this;split at he
  .rename_i aP;split at he
   .rename_i b R;simp only[some.injEq]at he;subst he;refine Good.same h ?_ rfl (of_int _ _);simp[Instr.index,asIntOf,run_underlying bQ,aP,P1,R]
   .cases he
  .cases he
 .cases he
def lenOf (s:ax):I->Option Nat
 | .str l=>some l.length
 | .a_=>some 0
 | .slice xs=>some xs.length
 | .h y q=>match I.sub q (s y)with
   |some (.al _ xs)=>some xs.length
   |_=>none
 |_=>none
def pX (C:bY) (s:ax) (T:TypeId) (x:I):Option I:=
 match(C.T T).k,x with
 | .str,.str l=>some (.int .i64 l.length)
 | .slice _,.a_=>some (.int .i64 0)
 | .slice _,.slice xs=>some (.int .i64 xs.length)
 | .slice _,.h y q=>match I.sub q (s y)with
   |some (.al _ xs)=>some (.int .i64 xs.length)
   |_=>none
 |_,_=>none
theorem zk {xs:aiF} {v:Value} {aL:Nat->Prop} (h:aG w F s aC (.slice xs) v aL):(xs=[]/\∃a c,v= .slice a 0 c/\c<=maxLen/\(a=none->c=0))\/
  ∃b o cap d_ sz,v= .slice (some ⟨b,o,none⟩) xs.length cap/\F b/\xs.length<=cap/\cap<=maxLen/\(∀d∈xs,d.wd=sz)/\Rd w b o d_/\aV w F xs d_ (λ_=>False):=by
 have bq:=(aG.ca rfl).1 h;rw[aq,ga bq.1]at bq;obtain⟨_,⟨rfl,a,c,ad,aA⟩|⟨b,o,cap,d_,sz,ad,aA⟩⟩:=bq
 .simp at ad;exact .inl ⟨rfl,a,c,ad,aA⟩
 .simp at ad;exact .inr ⟨b,o,cap,d_,sz,ad,aA⟩
theorem P3 (bh:C.Ok) (h:bs w0 F0 X F S s aC w) {T ty:TypeId} {x:I} {v:Value} (aH:aG w F s aC x v (λ_=>False)) (he:pX C s T x=some av):
  Good C w0 F0 X aC w (Builtin.len_ #[T] ty #[v]) av s:=by
 unfold pX at he;split at he
 .rename_i l aw;have:=mW aH;subst this;obtain⟨i,d,z,aN,aR,aS,b0,cd,bQ,bH⟩:=bh.info (fP aw (by simp));rw[aw]at bH;have:=oQ bH;subst this;simp only[some.injEq]at he;subst he;refine Good.same h ?_ rfl (of_int _ _);simp[Builtin.len_,run_underlying bQ,goInt];rfl
 .rename_i e aw;have:=qT aH;subst this;obtain⟨i,d,z,aN,aR,aS,b0,cd,bQ,bH⟩:=bh.info (fP aw (by simp));rw[aw]at bH;have:=k_ bH;subst this;simp only[some.injEq]at he;subst he;refine Good.same h ?_ rfl (of_int _ _);simp[Builtin.len_,run_underlying bQ,goInt]
 .rename_i e xs aw;obtain⟨i,d,z,aN,aR,aS,b0,cd,bQ,bH⟩:=bh.info (fP aw (by simp));rw[aw]at bH;have:=k_ bH;subst this;simp only[some.injEq]at he;subst he;refine Good.same h ?_ rfl (of_int _ _);rcases zk aH with⟨rfl,a,c,rfl,_⟩|⟨b,o,cap,d_,sz,rfl,_⟩<;>simp[Builtin.len_,run_underlying bQ,goInt]
 .rename_i e y q aw;split at he
  .rename_i sz xs ag;obtain⟨i,d,z,aN,aR,aS,b0,cd,bQ,bH⟩:=bh.info (fP aw (by simp));rw[aw]at bH;have:=k_ bH;subst this;simp only[some.injEq]at he;subst he;refine Good.same h ?_ rfl (of_int _ _);rcases C1 h aH ag with⟨rfl,_,rfl⟩|⟨b,cap,cur,aR,fr,rfl,_⟩<;>simp[Builtin.len_,run_underlying bQ,goInt]
  .cases he
 .cases he
def bytesOf:aiF->Option aix
 |[]=>some []
 | .int .u8 n::r=>if 0<=n/\n<256 then(bytesOf r).map (UInt8.ofNat n.toNat::·)else none
 |_=>none
def mY (b:UInt8):I:=.int .u8 b.toNat
theorem C5:∀(xs:aiF) (l:aix) (cs:aiD) (aL:Nat->Prop),bytesOf xs=some l->aV w F xs cs aL->cs=l.map (λb=>.int .u8 (b.toNat:Int))/\xs.length=l.length
 |[],l,cs,aL,h,aK=>by simp[bytesOf]at h;subst h;rw[aV]at aK;subst aK;exact⟨rfl,rfl⟩
 |x::xs,l,cs,aL,h,aK=>by
  unfold bytesOf at h;split at h
  .rename_i e;cases e
  .rename_i n r e;simp only[cons.injEq]at e;obtain⟨rfl,rfl⟩:=e;split at h
   .rename_i aP;simp only[map_eq_some_iff]at h;obtain⟨b3,ab,rfl⟩:=h;rw[aV]at aK;obtain⟨c1,c2,bM,c3,rfl,ad,aA,_⟩:=aK;obtain⟨rfl,aZ⟩:=C5 xs b3 c2 c3 ab aA;rw[aq]at ad;subst ad;refine⟨?_,by simp[aZ]⟩;simp only[map_cons,cons_append,nil_append,cons.injEq,and_true,Value.int.injEq,true_and];simp only[UInt8.toNat_ofNat'];omega
   .cases h
  .cases h
theorem bs.zl (h:bs w0 F0 X F S s aC w) {aB:World} {sz cap:Nat} {xs:aiF} {cur:Array Value} {e:TypeId} {fr:Nat×Nat} {Sn:Nat->Prop}
  (hw:aB.heap=w.heap.push (.cells cur e fr)) (ab:aB.os=w.os) (ad:aB.tape=w.tape) (aA:Out aB w)
  (bn:kt fr (cur.size+(sz-1))) (hle:xs.length<=cap) (hm:cap<=maxLen) (dP:cur.size=cap*sz) (j6:∀d∈xs,d.wd=sz) (aH:aV w F xs (cur.toList.take (xs.length*sz)) Sn)
  (c9:∀b,Sn b->b<w.heap.size) (bc:∀b,Sn b->¬F b) (br:∀u b,Sn b->¬S u b) (a7:∀b,Sn b->X b\/w0.heap.size<=b):
  bs w0 F0 X F S s aC aB/\kv w0 X F S s aC aB (.al sz xs) (.slice (some ⟨w.heap.size,0,none⟩) xs.length cap):=by
 have hold:∀b,b<w.heap.size->aB.heap[b]? =w.heap[b]? :=by
  intro b R;rw[hw,Array.getElem?_push,if_neg (by omega)]
 have agv:aB.heap.size=w.heap.size+1:=by rw[hw];simp
 refine⟨h.grow hold (by omega) ab ad aA,.inr ⟨rfl,rfl,λb=>b=w.heap.size\/Sn b,?_,?_,?_,?_,?_⟩⟩
 .simp only[b9,hU];rw[aq];refine .inr ⟨w.heap.size,cap,cur,e,fr,Sn,rfl,.inl rfl,?_,bn,hle,hm,dP,j6,?_,λc aj=>.inr aj,λaj=>Nat.lt_irrefl _ (c9 _ aj)⟩
  .rw[hw];simp
  .exact aV.frame (λb R=>hold b (h.eH b R)) _ _ _ (λb R=>hold b (c9 b R)) aH
 .rintro b (rfl|R)
  .omega
  .have:=c9 b R;omega
 .rintro b (rfl|R) pW
  .exact Nat.lt_irrefl _ (h.eH _ pW)
  .exact bc b R pW
 .rintro u b (rfl|R) hu
  .exact Nat.lt_irrefl _ (h.dW _ _ hu)
  .exact br u b R hu
 .rintro b (rfl|R)
  .exact .inr h.size
  .exact a7 b R
def lB (C:bY) (s:ax) (A B:TypeId) (x:I):Option I:=
 if(C.T A).ok=true then
 match(C.T B).k,x with
 | .int k,.int _ n=>some (.int k (k.wrap n))
 | .str,.str l=>match(C.T A).k with
   | .str=>some (.str l)
   |_=>none
 | .str,x=>match(C.T A).k with
   | .slice e=>match(C.T e).k with
     | .int .u8=>match x with
       | .a_=>some (.str [])
       | .slice xs=>(bytesOf xs).map .str
       | .h y q=>match I.sub q (s y)with
         |some (.al 1 xs)=>(bytesOf xs).map .str
         |_=>none
       |_=>none
     |_=>none
   |_=>none
 | .slice e,.str l=>match(C.T A).k,(C.T e).k with
   | .str,.int .u8=>if l.length<=9223372036854775807 then some (.al 1 (l.map mY))else none
   |_,_=>none
 |_,_=>none
 else none
theorem IZ (l:aix) (aL:Nat->Prop):aV w F (l.map mY) (l.map λb=>.int .u8 (b.toNat:Int)) aL:=by
 induction l generalizing aL with
 |nil=>simp only[map_nil];rw[aV]
 |cons b l ih=>
  simp only[map_cons];rw[aV];exact⟨[.int .u8 (b.toNat:Int)],_,λ_=>False,λ_=>False,rfl,by rw[mY,aq],ih _,λ_ h=>h.elim,λ_ h=>h.elim,λ_ h=>h.elim⟩
theorem P4 (bh:C.Ok) (h:bs w0 F0 X F S s aC w) {A B:TypeId} {x:I} {v:Value} (aH:aG w F s aC x v (λ_=>False)) (he:lB C s A B x=some av):
  Good C w0 F0 X aC w (convert A B v) av s:=by
 unfold lB at he;split at he
 .rename_i i6;obtain⟨jk,agw,agx,J,a2,a3,a4,a5,oV,oW⟩:=bh.info i6;split at he
  .rename_i k ct n aw;have:=oU aH;subst this;obtain⟨i,d,z,aN,aR,aS,b0,cd,bQ,bH⟩:=bh.info (fP aw (by simp));rw[aw]at bH;have:=ze bH;subst this;simp only[some.injEq]at he;subst he;refine Good.same h ?_ rfl (of_int _ _);simp[convert,run_underlying oV,run_underlying bQ,Conv.intToInt]
  .rename_i l aw;have:=mW aH;subst this;obtain⟨i,d,z,aN,aR,aS,b0,cd,bQ,bH⟩:=bh.info (fP aw (by simp));rw[aw]at bH;have:=oQ bH;subst this;split at he
   .rename_i vP;rw[vP]at oW;have:=oQ oW;subst this;simp only[some.injEq]at he;subst he;refine Good.same h ?_ rfl (nN _);simp[convert,run_underlying oV,run_underlying bQ]
   .cases he
  .rename_i x aw _;obtain⟨i,d,z,aN,aR,aS,b0,cd,bQ,bH⟩:=bh.info (fP aw (by simp));rw[aw]at bH;have:=oQ bH;subst this;split at he
   .rename_i e vP;rw[vP]at oW;have:=k_ oW;subst this;split at he
    .rename_i vQ;obtain⟨pS,a6,pT,f1,f2,f3,f4,f5,f6,f7⟩:=bh.info (fP vQ (by simp));rw[vQ]at f7;have:=ze f7;subst this;have fin:∀(l:aix) (b o cap:Nat),Rd w b o (l.map λb=>.int .u8 (b.toNat:Int))->(convert A B (.slice (some ⟨b,o,none⟩) l.length cap)).run C.P w= .ok (.string ⟨⟨l⟩⟩) w:=by
      intro l b o cap jw;refine run_convert_bytes_back w A B e ⟨b,o,none⟩ cap l oV f6 bQ (λj bd=>?_);rw[Addr.add_lit];exact jw j _ (by simp[bd])
     have nil:(convert A B (.slice none 0 0)).run C.P w= .ok (.string ⟨⟨[]⟩⟩) w:=by
      simp[convert,run_underlying oV,run_underlying bQ,run_underlying f6,Conv.bytesToString];rfl
     split at he
     .have:=qT aH;subst this;simp only[some.injEq]at he;subst he;exact Good.same h nil rfl (nN _)
     .rename_i xs _;simp only[map_eq_some_iff]at he;obtain⟨l,aO,rfl⟩:=he;rcases zk aH with⟨rfl,a,c,rfl,_,r5⟩|⟨b,o,cap,d_,sz,rfl,ab,ad,aA,aZ,bA,cH⟩
      .simp[bytesOf]at aO;subst aO;cases a with
       |none=>
        have:=r5 rfl;subst this;exact Good.same h nil rfl (nN _)
       |some a=>
        refine Good.same h ?_ rfl (nN _);exact run_convert_bytes_back w A B e a c [] oV f6 bQ (λj bd=>by simp at bd)
      .obtain⟨rfl,cI⟩:=C5 xs l d_ _ aO cH;rw[cI];exact Good.same h (fin l b o cap bA) rfl (nN _)
     .rename_i y q;split at he
      .rename_i xs ag;simp only[map_eq_some_iff]at he;obtain⟨l,aO,rfl⟩:=he;rcases C1 h aH ag with⟨rfl,a,rfl⟩|⟨b,cap,cur,aR,fr,rfl,ab,ad,aA,aZ,bA,cH,aL,cI,_⟩
       .simp[bytesOf]at aO;subst aO;cases a with
        |none=>exact Good.same h nil rfl (nN _)
        |some a=>
         refine Good.same h ?_ rfl (nN _);exact run_convert_bytes_back w A B e a 0 [] oV f6 bQ (λj bd=>by simp at bd)
       .obtain⟨gn,jv⟩:=C5 xs l _ _ aO cI;rw[jv];refine Good.same h (fin l b 0 cap ?_) rfl (nN _);rw[<-gn];exact tp ab _
      .cases he
     .cases he
    .cases he
   .cases he
  .rename_i e l aw;have:=mW aH;subst this;obtain⟨i,d,z,aN,aR,aS,b0,cd,bQ,bH⟩:=bh.info (fP aw (by simp));rw[aw]at bH;have:=k_ bH;subst this;split at he
   .rename_i vP vQ;rw[vP]at oW;have:=oQ oW;subst this;obtain⟨pS,a6,pT,f1,f2,f3,f4,f5,f6,f7⟩:=bh.info (fP vQ (by simp));rw[vQ]at f7;have:=ze f7;subst this;split at he
    .rename_i aO;simp only[some.injEq]at he;subst he;have U:(⟨⟨l⟩⟩:ByteArray).size=l.length:=rfl;have C6:=grownCap_ge w l.length 0 e;have P5:=grownCap_le_maxLen w l.length 0 e (by unfold maxLen;omega);have I0:(bytesRow ⟨⟨l⟩⟩ (grownCap w l.length 0 e)).toList=l.map (λb=>Value.int .u8 (b.toNat:Int))++replicate (grownCap w l.length 0 e-l.length) (.int .u8 0):=by
      simp[bytesRow,U]
     have dP:(bytesRow ⟨⟨l⟩⟩ (grownCap w l.length 0 e)).size=grownCap w l.length 0 e*1:=by
      have:(bytesRow ⟨⟨l⟩⟩ (grownCap w l.length 0 e)).size=(bytesRow ⟨⟨l⟩⟩ (grownCap w l.length 0 e)).toList.length:=by simp
      rw[this,I0];simp;omega
     have r3:=run_bytes_of_string w A B e ⟨⟨l⟩⟩ oV bQ f6;rw[U]at r3;have la:=h.zl (aB:=w.drew.alloc (.cells (bytesRow ⟨⟨l⟩⟩ (grownCap w l.length 0 e)) e ((bytesRow ⟨⟨l⟩⟩ (grownCap w l.length 0 e)).size,(bytesRow ⟨⟨l⟩⟩ (grownCap w l.length 0 e)).size+1)))
      (sz:=1) (cap:=grownCap w l.length 0 e) (xs:=l.map mY) (cur:=bytesRow ⟨⟨l⟩⟩ (grownCap w l.length 0 e)) (e:=e) (Sn:=λ_=>False) rfl rfl rfl ⟨rfl,λ_=>le_succ _⟩
      (λo bx ⟨ab,_⟩=>by simp only at ab;omega) (by simpa using C6) P5 dP (by intro d ag;obtain⟨b,_,rfl⟩:=mem_map.1 ag;rfl)
      (by rw[I0,take_left' (by simp)];exact IZ l _) (λ_ h=>h.elim) (λ_ h=>h.elim) (λ_ _ h=>h.elim) (λ_ h=>h.elim)
     simp only[length_map]at la;exact⟨_,_,F,S,r3,la.1,la.2⟩
    .cases he
   .cases he
  .cases he
 .cases he
end
section
variable {C:bY} {w0 w:World} {F0 X F:Nat->Prop} {S:Nat->Nat->Prop} {s s1:ax} {aC:Nat->Value} {av:I}
def h7 (d:Nat):Option I->Option Nat
 |none=>some d
 |some (.int _ n)=>if 0<=n then some n.toNat else none
 |some _=>none
def hC (C:bY) (s:ax) (T:TypeId) (x:I) (eS ak:Option I):Option (I×ax):=
 match(C.T T).k,x with
 | .str,.str l=>match h7 0 eS,h7 l.length ak with
   |some a,some b=>if a<=b/\b<=l.length then some (.str ((l.take b).drop a),s)else none
   |_,_=>none
 | .slice e,.a_=>match h7 0 eS,h7 0 ak with
   |some 0,some 0=>if(C.T e).ok=true then some (.a_,s)else none
   |_,_=>none
 | .slice e,.slice xs=>match h7 0 eS,h7 xs.length ak with
   |some a,some b=>if a<=b/\b<=xs.length/\(C.T e).ok=true/\(∀d∈xs,d.wd=(C.T e).sz)then some (.slice ((xs.take b).drop a),s)else none
   |_,_=>none
 | .slice e,.h y q=>match I.sub q (s y)with
   |some (.al sz xs)=>match h7 0 eS,h7 xs.length ak with
    |some 0,some b=>if b<=xs.length/\(C.T e).ok=true then(match cB s (.h y q)with|some (_,s1)=>some (.al sz (xs.take b),s1)|none=>none)else none
    |_,_=>none
   |_=>none
 |_,_=>none
def pY (w:World) (F:Nat->Prop) (s:ax) (aC:Nat->Value):Option I->Option Value->Prop
 |none,none=>True
 |some d,some v=>aG w F s aC d v (λ_=>False)
 |_,_=>False
theorem I1 {d:Nat} {o:Option I} {v:Option Value} (bx:pY w F s aC o v) {a:Nat} (h:h7 d o=some a):(o=none/\v=none/\a=d)\/∃k,v=some (.int k a):=by
 cases o with
 |none=>
  cases v with
  |none=>simp[h7]at h;exact .inl ⟨rfl,rfl,h.symm⟩
  |some v=>simp[pY]at bx
 |some x=>
  cases v with
  |none=>simp[pY]at bx
  |some v=>
   simp only[pY]at bx;cases x with
   |int k n=>
    have:=oU bx;subst this;simp only[h7]at h;split at h
    .rename_i aP;simp only[some.injEq]at h;subst h;obtain⟨m,rfl⟩:=Int.eq_ofNat_of_zero_le aP;exact .inr ⟨k,rfl⟩
    .cases h
   |_=>simp[h7]at h
theorem tv {P:Program} {isS:Bool} {len cap a b:Nat} {eS ak:Option I} {r8 r9:Option Value} (mZ:pY w F s aC eS r8) (na:pY w F s aC ak r9) (bU:h7 0 eS=some a) (R:h7 len ak=some b) (lv:a<=b) (P6:b<=cap) (_hlc:len<=cap):
  (Instr.sliceBounds isS len cap r8 r9 none).run P w= .ok (a,b,cap) w:=by
 rcases I1 mZ bU with⟨_,rfl,rfl⟩|⟨k,rfl⟩<;>rcases I1 na R with⟨_,rfl,rfl⟩|⟨ct,rfl⟩<;>
  simp[Instr.sliceBounds,Instr.sliceBound,asIntOf,lv,P6]
theorem tw (bh:C.Ok) {T:TypeId} (aw:(C.T T).flat=true) (v:Value) (eS ak gF:Option Value) (w:World):(Instr.sliceAt T v eS ak gF).run C.P w=(Instr.slice T v eS ak gF).run C.P w:=by
 obtain⟨i,d,z,aN,aR,aS,b0,cd,bQ,bH⟩:=bh.info (IA aw);have cw:∀n e,d≠.array n e:=by
  clear bQ;unfold fZ.flat at aw;generalize (C.T T).k=dA at*;cases dA<;>cases d<;>simp[kN]at bH aw⊢
 cases d<;>first|exact(cw _ _ rfl).elim|simp[Instr.sliceAt,run_underlying bQ]
theorem tx {x:fZ} {k:mT} (h:x.k=k) (aw:k≠.other) (U:∀ay,k≠.struct ay) (R:∀e,k≠.gH e:=by simp):x.flat=true:=by
 unfold fZ.flat;rw[h];cases k<;>first|rfl|exact(aw rfl).elim|exact(R _ rfl).elim|exact(U _ rfl).elim
theorem aV.split:∀(n:Nat) (xs:aiF) (cs:aiD) (aL:Nat->Prop),aV w F xs cs aL->∃c1 c2 bM c3,cs=c1++c2/\aV w F (xs.take n) c1 bM/\aV w F (xs.drop n) c2 c3/\(∀b,bM b->aL b)/\(∀b,c3 b->aL b)/\(∀b,bM b->¬c3 b)
 |0,xs,cs,aL,h=>⟨[],cs,λ_=>False,aL,rfl,by rw[take_zero,aV],h,λ_ h=>h.elim,λ_ h=>h,λ_ h=>h.elim⟩
 |n+1,[],cs,aL,h=>by rw[aV]at h;subst h;exact⟨[],[],λ_=>False,λ_=>False,rfl,by rw[take_nil,aV],by rw[drop_nil,aV],λ_ h=>h.elim,λ_ h=>h.elim,λ_ h=>h.elim⟩
 |n+1,x::xs,cs,aL,h=>by
  rw[aV]at h;obtain⟨c1,c2,gZ,gp,rfl,ab,ad,aA,aZ,bA⟩:=h;obtain⟨d1,d2,bM,c3,rfl,g1,g2,g3,g4,g5⟩:=aV.split n xs c2 gp ad;refine⟨c1++d1,d2,λb=>gZ b\/bM b,c3,by simp,?_,g2,?_,λb R=>aZ _ (g4 _ R),?_⟩
  .rw[take_succ_cons,aV];exact⟨c1,d1,gZ,bM,rfl,ab,g1,λ_ h=>.inl h,λ_ h=>.inr h,λb R aj=>bA b R (g3 b aj)⟩
  .rintro b (R|R)
   .exact aA b R
   .exact aZ b (g3 b R)
  .rintro b (R|R) aj
   .exact bA b R (g4 b aj)
   .exact g5 b R aj
theorem P7 (bh:C.Ok) (h:bs w0 F0 X F S s aC w) {T:TypeId} {x:I} {v:Value} {eS ak:Option I} {r8 r9:Option Value} (ar:x.plain=true) (aH:aG w F s aC x v (λ_=>False)) (mZ:pY w F s aC eS r8) (na:pY w F s aC ak r9)
  (he:hC C s T x eS ak=some (av,s1)):Good C w0 F0 X aC w (Instr.sliceAt T v r8 r9 none) av s1:=by
 unfold hC at he;split at he
 .rename_i l aw;have:=mW aH;subst this;obtain⟨i,d,z,aN,aR,aS,b0,cd,bQ,bH⟩:=bh.info (fP aw (by simp));rw[aw]at bH;have:=oQ bH;subst this;split at he
  .rename_i a b bU R;split at he
   .rename_i lv;simp only[some.injEq,Prod.mk.injEq]at he;obtain⟨rfl,rfl⟩:=he;refine Good.same h ?_ rfl (nN _);rw[tw bh (tx aw (by simp) (by simp))];have dP:(⟨⟨l⟩⟩:ByteArray).size=l.length:=rfl;have nb:=tv (P:=C.P) (isS:=false) (len:=l.length) (cap:=l.length) mZ na bU R lv.1 lv.2 (Nat.le_refl _);have P8:(⟨⟨l⟩⟩:ByteArray).extract a b=⟨⟨(l.take b).drop a⟩⟩:=by
     apply ByteArray.ext;simp[ByteArray.data_extract,drop_take]
    simp[Instr.slice,run_underlying bQ,dP,nb,P8]
   .cases he
  .cases he
 .rename_i e aw;have:=qT aH;subst this;obtain⟨i,d,z,aN,aR,aS,b0,cd,bQ,bH⟩:=bh.info (fP aw (by simp));rw[aw]at bH;have:=k_ bH;subst this;split at he
  .rename_i bU R;split at he
   .rename_i pZ;obtain⟨pS,a6,pT,f1,f2,f3,f4,f5,f6,f7⟩:=bh.info pZ;simp only[some.injEq,Prod.mk.injEq]at he;obtain⟨rfl,rfl⟩:=he;have nb:=tv (P:=C.P) (isS:=true) (len:=0) (cap:=0) mZ na bU R (Nat.le_refl _) (Nat.le_refl _) (Nat.le_refl _);refine Good.same h (v:=.slice none 0 0) ?_ rfl aH;rw[tw bh (tx aw (by simp) (by simp))];simp[Instr.slice,run_underlying bQ,nb,j9 f1,f2]
   .cases he
  .cases he
 .rename_i e xs aw;obtain⟨i,d,z,aN,aR,aS,b0,cd,bQ,bH⟩:=bh.info (fP aw (by simp));rw[aw]at bH;have:=k_ bH;subst this;split at he
  .rename_i a b bU R;split at he
   .rename_i lv;obtain⟨P9,I2,pZ,j6⟩:=lv;obtain⟨pS,a6,pT,f1,f2,f3,f4,f5,f6,f7⟩:=bh.info pZ;simp only[some.injEq,Prod.mk.injEq]at he;obtain⟨rfl,rfl⟩:=he;rcases zk aH with⟨rfl,tz,c,rfl,C7,r5⟩|⟨i7,o,cap,d_,sz,rfl,ab,ad,aA,aZ,bA,cH⟩
    .have hf:b=0:=by simpa using I2
     subst hf;have P_:a=0:=by omega
     subst P_;have nb:=tv (P:=C.P) (isS:=true) (len:=0) (cap:=c) mZ na bU R (Nat.le_refl _) (zero_le _) (zero_le _);refine Good.same h (v:=.slice tz 0 c) ?_ rfl ((aG.ca rfl).2 ⟨rfl,by rw[aq];exact .inl ⟨rfl,tz,c,rfl,C7,r5⟩⟩);rw[tw bh (tx aw (by simp) (by simp))];cases tz with
     |none=>
      have:=r5 rfl;subst this;simp[Instr.slice,run_underlying bQ,nb,j9 f1,f2]
     |some tz=>simp[Instr.slice,run_underlying bQ,nb,j9 f1,f2,Addr.add]
    .have nb:=tv (P:=C.P) (isS:=true) (len:=xs.length) (cap:=cap) mZ na bU R P9 (Nat.le_trans I2 ad) ad;obtain⟨c1,c2,bM,c3,rfl,g1,g2,g3,g4,g5⟩:=aV.split b xs d_ _ cH;obtain⟨d1,d2,nQ,nc,rfl,b1,cb,eu,dp,e0⟩:=aV.split a (xs.take b) c1 _ g1;have C8:d1.length=a*(C.T e).sz:=by
      rw[aV.length _ _ _ b1,rX _ (λd ag=>j6 d (mem_of_mem_take (mem_of_mem_take ag))),length_take,length_take];congr 1;omega
     have hlen:((xs.take b).drop a).length=b-a:=by simp;omega
     have jw:Rd w i7 (o+a*(C.T e).sz) d2:=by
      rw[<-C8];have:Rd w i7 o (d1++(d2++c2)):=by simpa using bA
      exact this.CU
     have zm:aV w F ((xs.take b).drop a) d2 (λ_=>False):=aV.mono (λ_ h=>h) _ _ _ _ (λb R=>(g3 _ (dp _ R)).elim) cb;have mem:∀d∈(xs.take b).drop a,d.wd=sz:=λd ag=>aZ d (mem_of_mem_take (mem_of_mem_drop ag));have run:(Instr.sliceAt T (.slice (some ⟨i7,o,none⟩) xs.length cap) r8 r9 none).run C.P w= .ok (.slice (if cap=a then some ⟨i7,o,none⟩else some ⟨i7,o+a*(C.T e).sz,none⟩) (b-a) (cap-a)) w:=by
      rw[tw bh (tx aw (by simp) (by simp))];simp[Instr.slice,run_underlying bQ,nb,j9 f1,f2,Addr.add_lit]
     refine⟨_,w,F,S,run,h,.inl ⟨rfl,(aG.ca rfl).2 ⟨rfl,?_⟩⟩⟩;simp only[b9,hU];rw[aq];by_cases I3:cap=a
     .have Qa:b=a:=by omega
      subst Qa;have vR:(xs.take b).drop b=[]:=by simp
      rw[if_pos I3];rw[vR]at zm⊢;rw[aV]at zm;subst zm;exact .inr ⟨i7,o,cap-b,[],sz,by simp,ab,zero_le _,by omega,by simp,λj c bd=>by simp at bd,by rw[aV]⟩
     .rw[if_neg I3];exact .inr ⟨i7,_,cap-a,d2,sz,by rw[hlen],ab,by rw[hlen];omega,by omega,mem,jw,zm⟩
   .cases he
  .cases he
 .rename_i e y q aw;split at he
  .rename_i sz xs ag;split at he
   .rename_i b bU R;split at he
    .rename_i zn;split at he
     .rename_i vL s2 aY;simp only[some.injEq,Prod.mk.injEq]at he;obtain⟨rfl,rfl⟩:=he;obtain⟨i,d,z,aN,aR,aS,b0,cd,bQ,bH⟩:=bh.info (fP aw (by simp));rw[aw]at bH;have:=k_ bH;subst this;obtain⟨pS,a6,pT,f1,f2,f3,f4,f5,f6,f7⟩:=bh.info zn.2;have r7:vL= .al sz xs:=by
       simp only[cB,ag,I.plain]at aY;simp at aY;exact aY.1.symm
      subst r7;obtain⟨bM,g0,g1,g2,Sn,g3,g4,g5,g6,g7,g8⟩:=oP h rfl aH aY;rw[ga g2,aq]at g3;rcases g3 with⟨rfl,a0,kR⟩|⟨i7,cap,cur,fR,fr,aL,kR,b1,cb,eu,dp,e0,dv,k7,dq,lC,qX⟩
      .simp at kR;subst kR;have hf:b=0:=by simpa using zn.1
       subst hf;have nb:=tv (P:=C.P) (isS:=true) (len:=0) (cap:=0) mZ na bU R (Nat.le_refl _) (Nat.le_refl _) (Nat.le_refl _);refine⟨.slice a0 0 0,w,F,bM,?_,g0,.inr ⟨rfl,rfl,λ_=>False,by simp only[b9,hU];rw[aq];exact .inl ⟨rfl,_,rfl⟩,λ_ h=>h.elim,λ_ h=>h.elim,λ_ _ h=>h.elim,λ_ h=>h.elim⟩⟩;rw[tw bh (tx aw (by simp) (by simp))];cases a0<;>simp[Instr.slice,run_underlying bQ,nb,j9 f1,f2]
      .simp at kR;subst kR;have nb:=tv (P:=C.P) (isS:=true) (len:=xs.length) (cap:=cap) mZ na bU R (zero_le _) (Nat.le_trans zn.1 dp) dp;have hlen:(xs.take b).length=b:=by simp;omega
       have run:(Instr.sliceAt T (.slice (some ⟨i7,0,none⟩) xs.length cap) r8 r9 none).run C.P w= .ok (.slice (some ⟨i7,0,none⟩) b cap) w:=by
        rw[tw bh (tx aw (by simp) (by simp))];simp[Instr.slice,run_underlying bQ,nb,j9 f1,f2,Addr.add_lit]
       refine⟨_,w,F,bM,run,g0,.inr ⟨rfl,rfl,Sn,?_,g4,g5,g6,g7⟩⟩;simp only[b9,hU];rw[aq];obtain⟨c1,c2,gZ,gp,aj,m1,m2,m3,m4,m5⟩:=aV.split b xs _ _ dq;refine .inr ⟨i7,cap,cur,fR,fr,aL,by rw[hlen],b1,cb,eu,by omega,e0,dv,λd ag=>k7 d (mem_of_mem_take ag),?_,lC,qX⟩;have C8:c1.length=b*sz:=by
        rw[aV.length _ _ _ m1,rX _ (λd ag=>k7 d (mem_of_mem_take ag)),hlen]
       have:cur.toList.take ((xs.take b).length*sz)=c1:=by
        rw[hlen];have ad:b*sz<=xs.length*sz:=mul_le_mul_right _ zn.1;have:(cur.toList.take (xs.length*sz)).take (b*sz)=c1:=by rw[aj,take_left' C8]
        rwa [take_take,Nat.min_eq_left ad]at this
       rw[this];exact aV.mono (λ_ h=>h) _ _ _ _ m3 m1
     .cases he
    .cases he
   .cases he
  .cases he
 .cases he
end
section
variable {C:bY} {w0 w:World} {F0 X F:Nat->Prop} {S:Nat->Nat->Prop} {s s1:ax} {aC:Nat->Value} {av:I}
def Src (P:Program) (w:World) (size:Nat) (x:Value) (m:Nat) (news:aiD):Prop:=
 ∀aB:World,aB.heap=w.heap->(Builtin.lenOf x).run P aB= .ok m aB/\(Builtin.firstCells size m x).run P aB= .ok news.toArray aB
def C9 (d:TypeDesc):Prop:=(∃e,d= .slice e)\/d= .string
theorem Qb {P:Program} {T cL ty e:TypeId} {p0:TypeDesc} {i:TypeInfo} (aY:P.underlying T=some (.slice e)) (hu:P.underlying cL=some p0) (r_:C9 p0) (ak:P.info? e=some i)
  {x:Value} {m:Nat} {news:aiD} (zo:Src P w i.size x m news) {b n cap:Nat} {cur:Array Value} {fR:TypeId} {fr:Nat×Nat} {l mid r:aiD} (R:w.heap[b]? =some (.cells cur fR fr)) (bn:kt fr cur.size)
  (aj:cur.toList=l++(mid++r)) (aO:l.length=n*i.size) (hm:mid.length=news.length) (oT:∀v∈news,Value.fw v=true) (oX:n+m<=cap):
  ∃aB,(Builtin.append_ #[T,cL] ty #[.slice (some ⟨b,0,none⟩) n cap,x]).run P w= .ok (.slice (some ⟨b,0,none⟩) (n+m) cap) aB/\aB.heap[b]? =some (.cells (l++(news++r)).toArray fR fr)/\
   (∀c,c≠b->aB.heap[c]? =w.heap[c]?)/\aB.heap.size=w.heap.size/\aB.os=w.os/\aB.tape=w.tape/\Out aB w:=by
 obtain⟨aB,m1,m2⟩:=zi (P:=P) (b:=b) (o:=n*i.size) (e:=fR) (fr:=fr) news 0 cur w l mid r R bn aj (by omega) hm oT;refine⟨aB,?_,m2⟩;obtain⟨ab,ad⟩:=zo w rfl;rcases r_ with⟨fF,rfl⟩|rfl<;>simp[Builtin.append_,run_underlying aY,run_underlying hu,j9 ak,ab,ad,oX,Addr.add_lit,m1]
theorem Qc {P:Program} {T cL ty e:TypeId} {p0:TypeDesc} {i:TypeInfo} {z:Value} (aY:P.underlying T=some (.slice e)) (hu:P.underlying cL=some p0) (r_:C9 p0) (ak:P.info? e=some i) (bO:i.zero=some z)
  {x:Value} {m:Nat} {news:aiD} (zo:Src P w i.size x m news) {base:Option Addr} {n cap:Nat} {nR:aiD} (hold:Src P w i.size (.slice base n cap) n nR) (oX:¬n+m<=cap)
  (aP:n+m<=9223372036854775807) (C_:(n+m)*i.bytes<=140737488355328):
  (Builtin.append_ #[T,cL] ty #[.slice base n cap,x]).run P w= .ok (.slice (some ⟨w.heap.size,0,none⟩) (n+m) (grownCap w (n+m) cap e))
   (w.drew.alloc (.cells (nR.toArray++news.toArray++Builtin.zeroCells z.cells (grownCap w (n+m) cap e-(n+m))) e)):=by
 have ab:=(zo w rfl).1;have ad:=(zo w.drew rfl).2;have aA:=(hold w.drew rfl).2;have tA:=growslice_fits (need:=n+m) (old:=cap) (by omega) C_;have h0:¬(281474976710656<Builtin.nextslicecap (n+m) cap*i.bytes):=by omega
 have zp:∀k (w:World),(askRoom k).run P w= .ok () w:=by
  intro k w;unfold askRoom;split<;>rfl
 have Qd:¬(9223372036854775807<(n:Int)+(m:Int)/\i.bytes=0):=by omega
 rcases r_ with⟨fF,rfl⟩|rfl<;>
  .simp[Builtin.append_,run_underlying aY,run_underlying hu,j9 ak,vG ak,ab,oX,h0,Question.forced,zp];rw[if_neg Qd,aA];simp[ad,r2 ak bO,newRow,grownCap];have aN:(nR++news).toArray=nR.toArray++news.toArray:=by simp
   rw[aN,Array.append_assoc]
def zq (C:bY) (e cL:TypeId):Bool:=match(C.T cL).k,(C.T e).k with
 | .slice fF,_=>fF==e
 | .str,.int .u8=>true
 |_,_=>false
def p1 (C:bY) (s:ax) (T cL:TypeId) (x y:I):Option (I×ax):=
 match(C.T T).k with
 | .slice e=>if(C.T e).ok=true/\(C.T e).zero.wd=(C.T e).sz/\(flat (C.T e).zero).isSome=true/\zq C e cL=true then
   match(match x with| .a_=>some (I.al (C.T e).sz [],s)| .h a q=>cB s (.h a q)|_=>none)with
   |some (.al sz xs,s1)=>if sz=(C.T e).sz then
     match(match j8 x.owner y with
      | .a_=>some ([],s1)
      | .slice ys=>some (ys,s1)
      | .str l=>some (l.map mY,s1)
      | .h a q=>match cB s1 (.h a q)with
        |some (.al _ ys,s2)=>some (ys,s2)
        |_=>none
      |_=>none)with
     |some (ys,s2)=>if(∀d∈ys,d.wd=(C.T e).sz)/\(xs.length+ys.length)*(C.T e).bytes<=140737488355328/\xs.length+ys.length<=9223372036854775807 then some (.al sz (xs++ys),s2)else none
     |none=>none
    else none
   |_=>none
   else none
 |_=>none
theorem aV.append {xs ys:aiF} {c1 c2:aiD} {bM c3 aL:Nat->Prop} (ab:aV w F xs c1 bM) (ad:aV w F ys c2 c3) (aN:∀b,bM b->aL b) (aR:∀b,c3 b->aL b) (aS:∀b,bM b->¬c3 b):aV w F (xs++ys) (c1++c2) aL:=by
 induction xs generalizing c1 bM aL with
 |nil=>rw[aV]at ab;subst ab;exact aV.mono (λ_ h=>h) _ _ _ _ aR ad
 |cons x xs ih=>
  rw[aV]at ab;obtain⟨Qe,Qf,gZ,gp,rfl,g1,g2,g3,g4,g5⟩:=ab;rw[cons_append,aV];refine⟨Qe,Qf++c2,gZ,λb=>gp b\/c3 b,by simp,g1,ih g2 (λb h=>.inl h) (λb h=>.inr h) (λb h=>aS b (g4 b h)),λb h=>aN b (g3 b h),?_,?_⟩
  .rintro b (h|h)
   .exact aN b (g4 b h)
   .exact aR b h
  .rintro b h (bq|bq)
   .exact g5 b h bq
   .exact aS b (g3 b h) bq
theorem Da {P:Program} {size m cap:Nat} {b o:Nat} {news:aiD} (jw:Rd w b o news) (aO:news.length=m*size):Src P w size (.slice (some ⟨b,o,none⟩) m cap) m news:=by
 intro aB hw;refine⟨rfl,?_⟩;refine run_firstCells_some aB size m ⟨b,o,none⟩ m cap news aO (λj v bd=>?_);rw[Addr.add_lit];have:=jw j v bd;simpa [World.cell?,hw]using this
theorem I4 {P:Program} {size cap:Nat}:Src P w size (.slice none 0 cap) 0 []:=by
 intro aB _;exact⟨rfl,by simp[Builtin.firstCells]⟩
theorem Db {P:Program} {size cap:Nat} (a:Option Addr):Src P w size (.slice a 0 cap) 0 []:=by
 cases a with
 |none=>exact I4
 |some a=>
  intro aB _;exact⟨rfl,run_firstCells_some aB size 0 a 0 cap [] (by simp) (λj v bd=>by simp at bd)⟩
theorem Qg {P:Program} (l:aix):Src P w 1 (.string ⟨⟨l⟩⟩) l.length (l.map λb=>.int .u8 (b.toNat:Int)):=by
 intro aB _;refine⟨rfl,?_⟩;have:(⟨⟨l⟩⟩:ByteArray).extract 0 l.length=⟨⟨l⟩⟩:=by
  apply ByteArray.ext;simp[ByteArray.data_extract]
 simp[Builtin.firstCells,this]
theorem aV.sa {sz:Nat} {xs:aiF} {cs:aiD} {aL:Nat->Prop} (h:aV w F xs cs aL) (hw:∀d∈xs,d.wd=sz):cs.length=xs.length*sz:=by
 rw[aV.length _ _ _ h,rX _ hw]
theorem bs.turn (h:bs w0 F0 X F S s aC w) {aB:World} {b:Nat} (R:∀c,c≠b->aB.heap[c]? =w.heap[c]?) (U:aB.heap.size=w.heap.size) (ab:aB.os=w.os) (ad:aB.tape=w.tape) (aA:Out aB w)
  (bc:¬F b) (br:∀u,¬S u b) (a7:X b\/w0.heap.size<=b):bs w0 F0 X F S s aC aB where
 gx:=h.gx
 gJ:=h.gJ
 eH:=λc aj=>by rw[U];exact h.eH c aj
 dW:=λt c aj=>by rw[U];exact h.dW t c aj
 e8:=h.e8
 eZ:=h.eZ
 dh:=h.dh
 df:=λt=>aG.frame (Sx:=S) (λc aj=>R c (by rintro rfl;exact bc aj)) (λ_ h=>h) (λx c aj=>R c (by rintro rfl;exact br x aj)) h.df _ _ _ (λc aj=>R c (by rintro rfl;exact br t aj)) (h.df t)
 old:=λc c9 ji=>by
  rw[R c ?_]
  .exact h.old c c9 ji
  .rintro rfl;rcases a7 with a7|a7
   .exact ji a7
   .omega
 size:=by rw[U];exact h.size
 os:=ab.trans h.os
 tape:=ad.trans h.tape
 output:=aA.trans h.output
 gy:=h.gy
theorem Qh (bh:C.Ok) (h:bs w0 F0 X F S s aC w) {T cL ty:TypeId} {x y:I} {h1 i1:Value} (ar:aG w F s aC x h1 (λ_=>False)) (a8:aG w F s aC y i1 (λ_=>False))
  (he:p1 C s T cL x y=some (av,s1)):Good C w0 F0 X aC w (Builtin.append_ #[T,cL] ty #[h1,i1]) av s1:=by
 unfold p1 at he;split at he
 .rename_i e aw;obtain⟨I5,d,I6,aN,aR,aS,b0,cd,bQ,bH⟩:=bh.info (fP aw (by simp));rw[aw]at bH;have:=k_ bH;subst this;split at he
  .rename_i vI;obtain⟨pZ,sb,sc,oY⟩:=vI;obtain⟨i,I7,z,f1,f2,f3,f4,f5,f6,f7⟩:=bh.info pZ;obtain⟨gq,mo⟩:=isSome_iff_exists.1 sc;have sd:=f5 gq mo;have qY:gq.length=(C.T e).sz:=by
    have:=aq.length _ _ _ ((aq.flat (w:=w) (F:=F) _).1 (C.T e).zero gq (λ_=>False) (Nat.le_refl _) mo);rw[this,sb]
   obtain⟨p0,hu,r_⟩:∃p0,C.P.underlying cL=some p0/\C9 p0:=by
    unfold zq at oY;split at oY
    .rename_i fF jm;obtain⟨_,a6,_,_,_,_,_,_,g6,g7⟩:=bh.info (fP jm (by simp));rw[jm]at g7;exact⟨a6,g6,.inl ⟨_,k_ g7⟩⟩
    .rename_i jm _;obtain⟨_,a6,_,_,_,_,_,_,g6,g7⟩:=bh.info (fP jm (by simp));rw[jm]at g7;exact⟨a6,g6,.inr (oQ g7)⟩
    .cases oY
   split at he
   .rename_i sz xs Dc oZ;split at he
    .rename_i dP;subst dP;split at he
     .rename_i ys vS nd;split at he
      .rename_i Qi;obtain⟨tB,C_,I8⟩:=Qi;simp only[some.injEq,Prod.mk.injEq]at he;obtain⟨rfl,rfl⟩:=he;obtain⟨gZ,a0,Sn,a3,a4,a5,oV,oW,agy,a9,qZ⟩:∃gZ,bs w0 F0 X F gZ Dc aC w/\∃Sn,aq w F (.al (C.T e).sz xs) [h1] Sn/\(∀b,Sn b->b<w.heap.size)/\(∀b,Sn b->¬F b)/\(∀u b,Sn b->¬gZ u b)/\
         (∀b,Sn b->X b\/w0.heap.size<=b)/\(∀u b,gZ u b->S u b)/\(∀b,Sn b->∃u,S u b)/\aG w F Dc aC (j8 x.owner y) i1 (λ_=>False):=by
        split at oZ
        .simp only[some.injEq,Prod.mk.injEq,I.al.injEq,true_and]at oZ;obtain⟨rfl,rfl⟩:=oZ;have:=qT ar;subst this;exact⟨S,h,λ_=>False,by rw[aq];exact .inl ⟨rfl,_,rfl⟩,λ_ h=>h.elim,λ_ h=>h.elim,λ_ _ h=>h.elim,λ_ h=>h.elim,λ_ _ h=>h,λ_ h=>h.elim,a8⟩
        .obtain⟨bM,g0,g1,g2,Sn,g3,g4,g5,g6,g7,g8,g9,g10⟩:=oP h rfl ar oZ;rw[ga g2]at g3;exact⟨bM,g0,Sn,g3,g4,g5,g6,g7,g8,g9,g10 _ _ _ a8⟩
        .cases oZ
       obtain⟨gp,i7,mq,news,ka,ht,kS,bR,cm,dE,p2,b5⟩:∃gp,bs w0 F0 X F gp vS aC w/\∃mq news,aV w F ys news mq/\Src C.P w i.size i1 ys.length news/\(∀b,mq b->b<w.heap.size)/\(∀b,mq b->¬F b)/\(∀u b,mq b->¬gp u b)/\
         (∀b,mq b->X b\/w0.heap.size<=b)/\(∀u b,gp u b->gZ u b)/\(∀b,mq b->∃u,gZ u b):=by
        split at nd
        .rename_i se;simp only[some.injEq,Prod.mk.injEq]at nd;obtain⟨rfl,rfl⟩:=nd;rw[se]at qZ;have:=qT qZ;subst this;exact⟨gZ,a0,λ_=>False,[],by rw[aV],I4,λ_ h=>h.elim,λ_ h=>h.elim,λ_ _ h=>h.elim,λ_ h=>h.elim,λ_ _ h=>h,λ_ h=>h.elim⟩
        .rename_i dS se;simp only[some.injEq,Prod.mk.injEq]at nd;obtain⟨rfl,rfl⟩:=nd;rw[se]at qZ;rcases zk qZ with⟨rfl,tz,agz,rfl,_,r5⟩|⟨b,o,cap,d_,Qj,rfl,b1,cb,eu,dp,e0,dv⟩
         .exact⟨gZ,a0,λ_=>False,[],by rw[aV],Db tz,λ_ h=>h.elim,λ_ h=>h.elim,λ_ _ h=>h.elim,λ_ h=>h.elim,λ_ _ h=>h,λ_ h=>h.elim⟩
         .exact⟨gZ,a0,λ_=>False,d_,dv,Da e0 (by rw[f2];exact aV.sa dv tB),λ_ h=>h.elim,λ_ h=>h.elim,λ_ _ h=>h.elim,λ_ h=>h.elim,λ_ _ h=>h,λ_ h=>h.elim⟩
        .rename_i l se;simp only[some.injEq,Prod.mk.injEq]at nd;obtain⟨rfl,rfl⟩:=nd;rw[se]at qZ;have:=mW qZ;subst this;have zr:l≠[]->i.size=1:=by
          intro aO;cases l with
          |nil=>exact(aO rfl).elim
          |cons b l=>rw[f2,<-tB (mY b) (by simp)];rfl
         by_cases aO:l=[]
         .subst aO;refine⟨gZ,a0,λ_=>False,[],by simp only[map_nil];rw[aV],?_,λ_ h=>h.elim,λ_ h=>h.elim,λ_ _ h=>h.elim,λ_ h=>h.elim,λ_ _ h=>h,λ_ h=>h.elim⟩;intro aB _;exact⟨rfl,by simp[Builtin.firstCells,ByteArray.extract];rfl⟩
         .refine⟨gZ,a0,λ_=>False,_,IZ l _,?_,λ_ h=>h.elim,λ_ h=>h.elim,λ_ _ h=>h.elim,λ_ h=>h.elim,λ_ _ h=>h,λ_ h=>h.elim⟩;rw[zr aO,length_map];exact Qg l
        .rename_i a q se;split at nd
         .rename_i agA dS s2 aY;simp only[some.injEq,Prod.mk.injEq]at nd;obtain⟨rfl,rfl⟩:=nd;rw[se]at qZ;obtain⟨c3,g0,g1,g2,mq,g3,g4,g5,g6,g7,g8,g9,g10⟩:=oP a0 rfl qZ aY;rw[ga g2,aq]at g3;rcases g3 with⟨rfl,Qk,kR⟩|⟨b,cap,cur,fR,fr,aL,kR,b1,cb,eu,dp,e0,dv,k7,dq,lC,qX⟩
          .simp at kR;subst kR;exact⟨c3,g0,λ_=>False,[],by rw[aV],(Db Qk),λ_ h=>h.elim,λ_ h=>h.elim,λ_ _ h=>h.elim,λ_ h=>h.elim,g8,λ_ h=>h.elim⟩
          .simp at kR;subst kR;refine⟨c3,g0,aL,_,dq,Da (tp cb _) ?_,λc aj=>g4 c (lC c aj),λc aj=>g5 c (lC c aj),λu c aj=>g6 u c (lC c aj),λc aj=>g7 c (lC c aj),g8,λc aj=>g9 c (lC c aj)⟩;rw[f2];exact aV.sa dq tB
         .cases nd
        .cases nd
       have q0:news.length=ys.length*(C.T e).sz:=aV.sa ka tB;have nf:∀c,Sn c->¬mq c:=λc ab ad=>by obtain⟨u,hu⟩:=b5 c ad;exact oV u c ab hu
       have lv:∀u c,Sn c->¬gp u c:=λu c ab ad=>oV u c ab (p2 u c ad);have grow:∀(base:Option Addr) (cap:Nat) (nR:aiD) (Sx:Nat->Prop),h1= .slice base xs.length cap->Src C.P w i.size (.slice base xs.length cap) xs.length nR->aV w F xs nR Sx->(∀d∈xs,d.wd=(C.T e).sz)->(∀c,Sx c->Sn c)->¬xs.length+ys.length<=cap->
         Good C w0 F0 X aC w (Builtin.append_ #[T,cL] ty #[h1,i1]) (.al (C.T e).sz (xs++ys)) vS:=by
        intro base cap nR Sx CZ hold I9 I_ eQ oX;subst CZ;have aK:=Qc (ty:=ty) bQ hu r_ f1 f4 ht hold oX I8 (by rw[f3];exact C_);have C6:=grownCap_ge w (xs.length+ys.length) cap e;have C7:=grownCap_le_maxLen w (xs.length+ys.length) cap e (by unfold maxLen;omega);have vT:=aV.sa I9 I_;have Ql:aV w F (xs++ys) (nR++news) (λc=>Sx c\/mq c):=aV.append I9 ka (λ_ h=>.inl h) (λ_ h=>.inr h) (λc ab ad=>nf c (eQ c ab) ad);have Qm:(nR++news).length=(xs++ys).length*(C.T e).sz:=by simp[vT,q0,Nat.add_mul]
        have la:=i7.zl (aB:=w.drew.alloc (.cells (nR.toArray++news.toArray++Builtin.zeroCells z.cells (grownCap w (xs.length+ys.length) cap e-(xs.length+ys.length))) e))
         (sz:=(C.T e).sz) (cap:=grownCap w (xs.length+ys.length) cap e) (xs:=xs++ys) (e:=e) (fr:=(0,0)) (Sn:=λc=>Sx c\/mq c) rfl rfl rfl ⟨rfl,λ_=>le_succ _⟩
         (λo _ ⟨_,ad⟩=>absurd ad (not_lt_zero _)) (by simpa using C6) C7
         (by
          simp only[Array.size_append,List.size_toArray,size_zeroCells,sd,vT,q0,qY,<-Nat.add_mul];congr 1;omega)
         (by
          intro d ag;rcases mem_append.1 ag with ag|ag
          .exact I_ d ag
          .exact tB d ag)
         (by
          simp only[Array.toList_append];rw[take_left' Qm];exact Ql)
         (by rintro c (aj|aj);exact a4 c (eQ c aj);exact kS c aj) (by rintro c (aj|aj);exact a5 c (eQ c aj);exact bR c aj) (by rintro u c (aj|aj);exact lv u c (eQ c aj);exact cm u c aj) (by rintro c (aj|aj);exact oW c (eQ c aj);exact dE c aj)
        refine⟨_,_,F,gp,aK,la.1,?_⟩;have:=la.2;simpa using this
       rw[aq]at a3;rcases a3 with⟨rfl,zs,kR⟩|⟨b,cap,cur,fR,fr,aL,kR,b1,cb,eu,dp,e0,dv,k7,dq,lC,qX⟩
       .simp at kR;subst kR;by_cases Ja:ys=[]
        .subst Ja;have Dd:news=[]:=by simpa using q0
         subst Dd;refine⟨.slice zs 0 0,w,F,gp,?_,i7,.inr ⟨rfl,rfl,λ_=>False,by simp only[b9,hU];rw[aq];exact .inl ⟨rfl,_,rfl⟩,λ_ h=>h.elim,λ_ h=>h.elim,λ_ _ h=>h.elim,λ_ h=>h.elim⟩⟩;obtain⟨ab,ad⟩:=ht w rfl;cases zs<;>rcases r_ with⟨fF,rfl⟩|rfl<;>simp at ab ad<;>simp[Builtin.append_,run_underlying bQ,run_underlying hu,j9 f1,ab,ad,storeCells]
        .exact grow zs 0 [] (λ_=>False) rfl (Db zs) (by rw[aV]) (by simp) (λ_ h=>h.elim) (by
          cases ys with
          |nil=>exact(Ja rfl).elim
          |cons y ys=>simp)
       .simp at kR;subst kR;by_cases oX:xs.length+ys.length<=cap
        ·
         have vT:=aV.sa dq k7;have hlen:cur.toList.length=cap*(C.T e).sz:=by simp[dv]
         have hle:(xs.length+ys.length)*(C.T e).sz<=cap*(C.T e).sz:=mul_le_mul_right _ oX;rw[Nat.add_mul]at hle;have lY:cur.toList=cur.toList.take (xs.length*(C.T e).sz)++((cur.toList.drop (xs.length*(C.T e).sz)).take news.length++(cur.toList.drop (xs.length*(C.T e).sz)).drop news.length):=by
          rw[take_append_drop,take_append_drop]
         obtain⟨aB,m1,m2,m3,m4,m5,m6,m7⟩:=Qb (ty:=ty) (n:=xs.length) (m:=ys.length) (cap:=cap) bQ hu r_ f1 ht cb eu.low lY (by rw[f2];exact vT) (by simp[hlen,q0];omega) (aV.pU _ _ _ ka) oX;have Qn:=i7.turn m3 m4 m5 m6 m7 (a5 b b1) (λu hu=>lv u b b1 hu) (oW b b1);have oO:∀c,F c->aB.heap[c]? =w.heap[c]? :=λc aj=>m3 c (by rintro rfl;exact a5 _ b1 aj);refine⟨_,aB,F,gp,m1,Qn,.inr ⟨rfl,rfl,λc=>Sn c\/mq c,?_,?_,?_,?_,?_⟩⟩
         .simp only[b9,hU];rw[aq];have Jb:(cur.toList.take (xs.length*(C.T e).sz)++(news++(cur.toList.drop (xs.length*(C.T e).sz)).drop news.length)).toArray.size=cur.size:=by
           have:cur.size=cur.toList.length:=by simp
           rw[this];conv=>rhs;rw[lY]
           simp[hlen,q0];omega
          refine .inr ⟨b,cap,_,fR,fr,λc=>aL c\/mq c,by simp,.inl b1,m2,by rw[Jb];exact eu,by simpa using oX,e0,by rw[Jb];exact dv,?_,?_,?_,?_⟩
          .intro d ag;rcases mem_append.1 ag with ag|ag
           .exact k7 d ag
           .exact tB d ag
          .have qV:=aV.frame oO _ _ _ (λc aj=>m3 c (by rintro rfl;exact qX aj)) dq;have r1:=aV.frame oO _ _ _ (λc aj=>m3 c (by rintro rfl;exact nf _ b1 aj)) ka;have:((cur.toList.take (xs.length*(C.T e).sz)++(news++(cur.toList.drop (xs.length*(C.T e).sz)).drop news.length)).toArray.toList.take ((xs++ys).length*(C.T e).sz))=cur.toList.take (xs.length*(C.T e).sz)++news:=by
            simp only[];rw[<-append_assoc];exact take_left' (by rw[length_append,vT,q0,length_append,Nat.add_mul])
           rw[this];exact aV.append qV r1 (λ_ h=>.inl h) (λ_ h=>.inr h) (λc ab ad=>nf c (lC c ab) ad)
          .rintro c (aj|aj)
           .exact .inl (lC c aj)
           .exact .inr aj
          .rintro(aj|aj)
           .exact qX aj
           .exact nf b b1 aj
         .rw[m4];rintro c (aj|aj);exact a4 c aj;exact kS c aj
         .rintro c (aj|aj);exact a5 c aj;exact bR c aj
         .rintro u c (aj|aj);exact lv u c aj;exact cm u c aj
         .rintro c (aj|aj);exact oW c aj;exact dE c aj
        .exact grow (some ⟨b,0,none⟩) cap _ aL rfl (Da (tp cb _) (by rw[f2];exact aV.sa dq k7)) dq k7 lC oX
      .cases he
     .cases he
    .cases he
   .cases he
  .cases he
 .cases he
end
section
variable {C:bY} {w0 w aB:World} {F0 X F:Nat->Prop} {S:Nat->Nat->Prop} {s s1:ax} {aC:Nat->Value} {av:I}
theorem bs.Qo (h:bs w0 F0 X F S s aC w) {x:Nat} {q:aiA} {d a6:I} {b:Nat} (ag:I.sub q (s x)=some d) (au:d.plain=false) (Qp:a6.tree=true) (ab:∀v,hV d v->hV a6 v) (U:∀v,dd d v->dd a6 v)
  (ad:∀vs,a6≠.tuple vs) (j6:a6.wd=d.wd) (R:∀cq a eY,c7 w q (s x) (b9 (aC x)) none=some (d,cq,a)->aq w F d cq eY->eY b/\aq aB F a6 cq eY) (k8:∀c,c≠b->aB.heap[c]? =w.heap[c]?) (dP:aB.heap.size=w.heap.size) (CN:aB.os=w.os)
  (CO:aB.tape=w.tape) (rZ:Out aB w):∃aL,bs w0 F0 X F aL (de (hA x s) x (I.put q a6 (s x))) aC aB:=by
 have aY:=hs ag (.inl au);have ar:=h.df x;rw[aG.ca aY]at ar;obtain⟨cq,a,dL,eY,g0,g1,g2,g3,g4,g5⟩:=ctx q (s x) (b9 (aC x)) (S x) none d ar.2 ag;obtain⟨r0,aH⟩:=R cq a eY g0 g4;have sf:S x b:=g2 b r0;have oO:∀c,F c->aB.heap[c]? =w.heap[c]? :=λc aj=>k8 c (by rintro rfl;exact h.e8 x _ sf aj);have qP:∀c,dL c->c≠b:=λc aj e=>g3 c aj (e▸r0);have jh:aq aB F (I.put q a6 (s x)) (b9 (aC x)) (λc=>dL c\/eY c):=by
  rcases g5 with⟨l,r,aN,aR,aS⟩|⟨i7,cur,e,fr,l,r,aN,aR,aS,b0,cd,bQ⟩
  .rw[aN];exact aS aB a6 cq eY oO (λc aj=>k8 c (qP c aj)) j6 aH (λc aj mS=>g3 c mS aj)
  .refine bQ aB a6 cq eY oO (λc aj _=>k8 c (qP c aj)) ?_ j6 aH (λc aj mS=>g3 c mS aj);rw[k8 i7 (qP i7 aR),aS,<-cd]
 have vB:dd (I.put q a6 (s x)) (aC x)/\(I.put q a6 (s x)).tree=true:=by
  cases q with
  |nil=>
   simp only[I.sub,some.injEq]at ag;simp only[I.put];exact⟨U _ (ag▸ar.1),Qp⟩
  |cons k q=>
   refine⟨vA ar.1 ag ab (λ_=>ad) j6,?_⟩;rcases qO k q a6 (s x)with⟨ay,gs,aN,e⟩|⟨ay,gs,aN,e⟩|⟨sz,xs,ys,aN,e⟩|⟨y,z,aN,e⟩|e<;>rw[e]<;>first|rfl|exact aY
 let aD:=de (hA x s) x (I.put q a6 (s x))
 have iI:∀y,y≠x->(aD y).tree=true->aD y=s y/\aC y=aC y:=λy a8 aY=>by
  have e:aD y=cU.bT x (s y):=iZ _ _ a8;rw[e]at aY⊢;exact⟨(zb aY).2,rfl⟩
 have fz:(aD x).plain=false->(s x).plain=false/\∀v,dd (s x) v->dd (aD x) v:=by
  intro _;refine⟨?_,λv aH=>?_⟩
  .cases b2:(s x).plain with
   |false=>rfl
   |true=>rw[I.CG _ _ _ b2 ag]at au;cases au
  .simp only[aD,ly];cases q with
   |nil=>
    simp only[I.sub,some.injEq]at ag;simp only[I.put];exact U _ (ag▸aH)
   |cons k q=>exact vA aH ag ab (λ_=>ad) j6
 have both:∀c,(dL c\/eY c)->S x c:=λc aj=>aj.elim (g1 c) (g2 c);refine⟨fG S x (λc=>dL c\/eY c),?_⟩;constructor;case gx=>exact h.gx
 case gJ=>exact h.gJ
 case eH=>exact λb R=>by rw[dP];exact h.eH b R
 case dW=>
  intro u c R;rw[dP];simp only[fG]at R;split at R
  .exact h.dW x c (both c R)
  .exact h.dW u c R
 case e8=>
  intro u c R;simp only[fG]at R;split at R
  .exact h.e8 x c (both c R)
  .exact h.e8 u c R
 case eZ=>
  intro u y c cw R a8;simp only[fG]at R a8;split at R
  .rename_i hu;rw[if_neg (λe=>cw (hu.trans e.symm))]at a8;exact h.eZ x y c (λe=>cw (hu.trans e)) (both c R) a8
  .rename_i hu;split at a8
   .exact h.eZ u x c hu R (both c a8)
   .exact h.eZ u y c cw R a8
 case dh=>
  intro u c R;simp only[fG]at R;split at R
  .exact h.dh x c (both c R)
  .exact h.dh u c R
 case df=>
  intro u;by_cases hu:u=x
  .subst hu;rw[ly,vx];exact(aG.ca vB.2).2 ⟨vB.1,jh⟩
  .rw[iZ _ _ hu,vy _ _ hu];have cw:∀y c,y≠x->S y c->aB.heap[c]? =w.heap[c]? :=λy c a8 aj=>k8 c (by rintro rfl;exact h.eZ y x c a8 aj sf);refine(aG.bT iI rfl fz (λy gz d2 a8 gR tt=>?_) oO _).1 _ _ _ (Nat.le_refl _) (λc aj=>cw u c hu aj) (h.df u);have vC:=h.df y;rw[aG.ca (hs gR tt)]at vC;exact za gz _ _ _ none d2 vC.2 gR (λc aj=>cw y c a8 aj)
 case old=>
  intro c c9 ji;rw[k8 c ?_]
  .exact h.old c c9 ji
  .rintro rfl;rcases h.dh x c sf with a7|a7
   .exact ji a7
   .omega
 case size=>rw[dP];exact h.size
 case os=>exact CN.trans h.os
 case tape=>exact CO.trans h.tape
 case output=>exact rZ.trans h.output
 case gy=>exact h.gy
def Jc (P:Program) (t:TypeId):Bool:=match P.info? t with
 |some i=>match i.zero with
  |some (.bool false)=>true
  |_=>false
 |none=>false
def zt (C:bY) (T:TypeId):Bool:=match(C.T T).k with
 | .map nS hD=>match(C.T nS).k with
   | .str=>Jc C.P hD
   |_=>false
 |_=>false
def ng (C:bY) (s:ax) (T:TypeId) (x i:I):Option I:=match x,i with
 | .h y q,.str k=>match I.sub q (s y)with
   |some (.dz (.mp m))=>if zt C T=true then some (.bool (qL k m))else none
   |_=>none
 |_,_=>none
def l1 (C:bY) (s:ax) (T:TypeId) (x i v:I):Option ax:=match x,i,v with
 | .h y q,.str k,.bool b=>match I.sub q (s y)with
   |some (.dz (.mp m))=>if zt C T=true then some (de (hA y s) y (I.put q (.dz (.mp (oN k b m))) (s y)))else none
   |_=>none
 |_,_,_=>none
theorem Jd (bh:C.Ok) {T:TypeId} (h:zt C T=true):∃nS hD,C.P.underlying T=some (.map nS hD)/\C.P.underlying nS=some .string/\∀w,(zeroValue hD).run C.P w= .ok (.bool false) w:=by
 unfold zt at h;split at h
 .rename_i nS hD aw;split at h
  .rename_i ab;obtain⟨i,d,z,aN,aR,aS,b0,cd,bQ,bH⟩:=bh.info (fP aw (by simp));obtain⟨pS,a6,pT,f1,f2,f3,f4,f5,f6,f7⟩:=bh.info (fP ab (by simp));rw[aw]at bH;rw[ab]at f7;have:=oQ f7;subst this;refine⟨nS,hD,?_,f6,λw=>?_⟩
   .rw[bQ];cases d<;>simp[kN]at bH;rw[bH.1,bH.2]
   .unfold Jc at h;split at h
    .rename_i i2 g1;split at h
     .rename_i g2;exact r2 g1 g2 w
     .cases h
    .cases h
  .cases h
 .cases h
theorem De (a b:ByteArray):(a==b)=true↔a=b:=by
 constructor
 .intro h;exact ByteArray.ext (eq_of_beq (show(a.data==b.data)=true from h))
 .rintro rfl;show(a.data==a.data)=true;simp
theorem Df (k:aix) (b:Bool):∀(es:List MapEntry) (m:aiv) (i:Nat),es.map (λe=>(e.key,e.val))=m.map (λe=>(.string ⟨⟨e.1⟩⟩,.bool e.2))->
  (Instr.findNow .string (.string ⟨⟨k⟩⟩) es i=some none/\qL k m=false/\oN k b m=m++[(k,b)])\/
  ∃j e,es[j]? =some e/\e.key= .string ⟨⟨k⟩⟩/\Instr.findNow .string (.string ⟨⟨k⟩⟩) es i=some (some (i+j,.bool (qL k m)))/\oN k b m=m.set j (k,b)
 |[],m,i,h=>by
  have:m=[]:=by simpa using h.symm
  subst this;exact .inl ⟨rfl,rfl,rfl⟩
 |e::es,[],i,h=>by simp at h
 |e::es,(ct,fk)::m,i,h=>by
  simp only[map_cons,cons.injEq,Prod.mk.injEq]at h;obtain⟨⟨ab,ad⟩,aA⟩:=h;by_cases aw:ct=k
  .subst aw;refine .inr ⟨0,e,rfl,ab,?_,by simp[oN]⟩;have:(((⟨⟨ct⟩⟩:ByteArray)==⟨⟨ct⟩⟩))=true:=(De _ _).2 rfl;simp only[Instr.findNow,ab,ad,Instr.sameNow,qL,this,if_true,Nat.add_zero]
  .have aP:((⟨⟨k⟩⟩:ByteArray)==⟨⟨ct⟩⟩)=false:=by
    refine Bool.eq_false_iff.2 λe=>aw ?_;have:=(De _ _).1 e;simp only[ByteArray.mk.injEq,Array.mk.injEq]at this;exact this.symm
   rcases Df k b es m (i+1) aA with⟨g1,g2,g3⟩|⟨j,fF,g1,g2,g3,g4⟩
   .refine .inl ⟨?_,?_,?_⟩
    .simp only[Instr.findNow,ab,Instr.sameNow,aP];exact g1
    .simp[qL,aw,g2]
    .simp[oN,aw,g3]
   .refine .inr ⟨j+1,fF,g1,g2,?_,?_⟩
    .simp only[Instr.findNow,ab,Instr.sameNow,aP];rw[g3];simp[qL,aw,Nat.add_assoc,Nat.add_comm 1 j]
    .simp[oN,aw,g4]
theorem zu {P:Program} {nS:TypeId} (aw:P.underlying nS=some .string) (e:Bool) (k:ByteArray) (w:World):(Instr.checkKey e 10000 nS (.string k)).run P w= .ok () w:=by
 unfold Instr.checkKey;simp[run_underlying aw]
theorem Je (h:bs w0 F0 X F S s aC w) {y:Nat} {q:aiA} {m:aiv} {v:Value} (aH:aG w F s aC (.h y q) v (λ_=>False)) (ag:I.sub q (s y)=some (.dz (.mp m))):
  ∃r ms lX,v= .map (some r)/\w.heap[r]? =some (.map ms lX)/\ms.toList.map (λe=>(e.key,e.val))=m.map (λe=>(.string ⟨⟨e.1⟩⟩,.bool e.2))/\
   ∃a,c7 w q (s y) (b9 (aC y)) none=some (.dz (.mp m),[.map (some r)],a):=by
 rw[aG]at aH;obtain⟨cq,a,g1,g2,g3⟩:=aH _ ag rfl;have ab:Value.fw v=true:=g3;rw[ga ab]at g2;have ar:=h.df y;rw[aG.ca (hs ag (.inl rfl))]at ar;obtain⟨fy,cA,dL,eY,k0,b1,cb,eu,dp,e0⟩:=ctx q (s y) (b9 (aC y)) (S y) none _ ar.2 ag;rw[k0]at g1;simp only[some.injEq,Prod.mk.injEq,true_and]at g1;obtain⟨rfl,rfl⟩:=g1;rw[aq]at dp;obtain⟨r,ms,lX,aN,aR,aS,b0⟩:=dp;rw[aN]at g2 k0;exact⟨r,ms,lX,by simpa using g2,aS,b0,cA,k0⟩
theorem Qq (bh:C.Ok) (h:bs w0 F0 X F S s aC w) {T:TypeId} {x i:I} {h1 mU:Value} (ar:aG w F s aC x h1 (λ_=>False)) (ak:aG w F s aC i mU (λ_=>False)) (he:ng C s T x i=some av):
  Good C w0 F0 X aC w (Instr.lookup T h1 mU false) av s:=by
 unfold ng at he;split at he
 .rename_i y q k;split at he
  .rename_i m ag;split at he
   .rename_i h_;simp only[some.injEq]at he;subst he;obtain⟨nS,hD,t1,t2,t3⟩:=Jd bh h_;obtain⟨r,ms,lX,rfl,aR,aS,_⟩:=Je h ar ag;have:=mW ak;subst this;refine Good.same h (v:=.bool (qL k m)) ?_ rfl (of_bool _);rcases Df k true ms.toList m 0 aS with⟨g1,g2,_⟩|⟨j,e,_,_,g1,_⟩
    .simp[Instr.lookup,run_underlying t1,getObj,Sem.run,aR,zu t2,Instr.findKey,run_underlying t2,g1,t3,g2]
    .simp[Instr.lookup,run_underlying t1,getObj,Sem.run,aR,zu t2,Instr.findKey,run_underlying t2,g1]
   .cases he
  .cases he
 .cases he
theorem Qr (bh:C.Ok) (h:bs w0 F0 X F S s aC w) {T:TypeId} {x i v:I} {h1 mU Jf:Value} (ar:aG w F s aC x h1 (λ_=>False)) (ak:aG w F s aC i mU (λ_=>False)) (aH:aG w F s aC v Jf (λ_=>False)) {s2:ax}
  (he:l1 C s T x i v=some s2):∃aB aL,(Instr.mapUpdate T h1 mU Jf).run C.P w= .ok () aB/\bs w0 F0 X F aL s2 aC aB:=by
 unfold l1 at he;split at he
 .rename_i y q k b;split at he
  .rename_i m ag;split at he
   .rename_i h_;simp only[some.injEq]at he;subst he;obtain⟨nS,hD,t1,t2,t3⟩:=Jd bh h_;obtain⟨r,ms,lX,rfl,aR,aS,a0,j7⟩:=Je h ar ag;have:=mW ak;subst this;have:=qS aH;subst this;have key:∀(zv:Array MapEntry) (Dg:Nat),zv.toList.map (λe=>(e.key,e.val))=(oN k b m).map (λe=>(.string ⟨⟨e.1⟩⟩,.bool e.2))->
      ∃aL,bs w0 F0 X F aL (de (hA y s) y (I.put q (.dz (.mp (oN k b m))) (s y))) aC {w with heap:=w.heap.setIfInBounds r (.map zv Dg)}:=by
     intro zv Dg hm;have aK:r<w.heap.size:=(Array.getElem?_eq_some_iff.1 aR).1;refine bs.Qo (b:=r) h ag rfl rfl (λv aH=>aH) (λv aH=>aH) (λvs e=>by cases e) rfl ?_ (λc aj=>?_) (by simp) rfl rfl ⟨rfl,λ_=>Nat.le_refl _⟩
     .intro cq a eY bn e_;rw[j7]at bn;simp only[some.injEq,Prod.mk.injEq,true_and]at bn;obtain⟨rfl,_⟩:=bn;rw[aq]at e_⊢;obtain⟨jy,q1,agB,f1,f2,f3,f4⟩:=e_;simp only[cons.injEq,Value.map.injEq,some.injEq,and_true]at f1;subst f1;exact⟨f2,r,zv,Dg,rfl,f2,by simp[aK],hm⟩
     .simp[Ne.symm aj]
    rcases Df k b ms.toList m 0 aS with⟨g1,_,g2⟩|⟨j,e,g0,ge,g1,g2⟩
    .obtain⟨aL,b1⟩:=key (ms.push {key:=.string ⟨⟨k⟩⟩,val:=.bool b,born:=lX}) (lX+1) (by rw[g2];simp[aS]);exact⟨_,aL,by simp[Instr.mapUpdate,run_underlying t1,getObj,setObj,Sem.run,aR,zu t2,Instr.findKey,run_underlying t2,g1],b1⟩
    .rw[Nat.zero_add]at g1;obtain⟨aL,b1⟩:=key (ms.modify j λe=>{e with key:=.string ⟨⟨k⟩⟩,val:=.bool b}) lX (by
      rw[g2,map_set,<-aS];apply ext_getElem?;intro n;by_cases aP:n=j
      .subst aP;have:n<ms.toList.length:=(List.getElem?_eq_some_iff.1 g0).1;rw[getElem?_set_self (by simpa using this)];simp[g0]
      .simp[getElem?_set_ne (Ne.symm aP),Ne.symm aP])
     have Qs:ms[j]? =some e:=by simpa using g0
     exact⟨_,aL,by simp[Instr.mapUpdate,run_underlying t1,getObj,setObj,Sem.run,aR,zu t2,Instr.findKey,run_underlying t2,g1,Qs,ge,Instr.keyThatStays,Instr.sameBits,(De ⟨⟨k⟩⟩ ⟨⟨k⟩⟩).2 rfl],b1⟩
   .cases he
  .cases he
 .cases he
theorem Qt (h:bs w0 F0 X F S s aC w) (t:TypeId):Good C w0 F0 X aC w (Instr.makeMap t none) (.dz (.mp [])) s:=by
 have hold:∀b,b<w.heap.size->(w.alloc (.map #[] 0)).heap[b]? =w.heap[b]? :=by
  intro b R;show(w.heap.push _)[b]? =_;rw[Array.getElem?_push,if_neg (by omega)]
 refine⟨.map (some w.heap.size),w.alloc (.map #[] 0),F,S,?_,h.grow hold (by simp) rfl rfl ⟨rfl,λ_=>Nat.le_refl _⟩,.inr ⟨rfl,rfl,λb=>b=w.heap.size,?_,?_,?_,?_,?_⟩⟩
 .simp[Instr.makeMap,newObj,Sem.run]
 .rw[aq];refine⟨w.heap.size,#[],0,rfl,rfl,?_,rfl⟩;show(w.heap.push _)[_]? =_;simp
 .rintro b rfl;simp
 .rintro b rfl pW;exact Nat.lt_irrefl _ (h.eH _ pW)
 .rintro u b rfl hu;exact Nat.lt_irrefl _ (h.dW _ _ hu)
 .rintro b rfl;exact .inr h.size
end
end Go.cU
