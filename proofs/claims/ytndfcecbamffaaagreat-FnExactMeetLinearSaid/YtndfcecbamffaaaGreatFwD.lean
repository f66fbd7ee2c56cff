/- Part of a proof that a law returns true for every input. No condition. -/
import Derived.Test.YtndfcecbamffaaaGreatFwC
import Derived.Test.YtndfcecbamffaaaGreatFwA
import Derived.Laws.IdiomStrings
import Derived.Laws.Strings
import Derived.LaidEql
import Derived.WideLaws
import Derived.Laws.StructEq
namespace Go.dD
open List Option Nat Or
section
variable {C:bV} {w0 w:World} {F0 X F:Nat->Prop} {S:Nat->Nat->Prop} {s s1:ao} {aF:Nat->Value} {av:I}
theorem pD {k:IntKind} {n:Int} {v:Value} {aS:Nat->Prop} (h:aO w F s aF (.int k n) v aS):v= .int k n:=by
 have bO:=(aO.cI rfl).1 h;rw[ay,gj bO.1]at bO;simpa using bO.2
theorem sE {b:Bool} {v:Value} {aS:Nat->Prop} (h:aO w F s aF (.bool b) v aS):v= .bool b:=by
 have bO:=(aO.cI rfl).1 h;rw[ay,gj bO.1]at bO;simpa using bO.2
theorem oI {b:ahz} {v:Value} {aS:Nat->Prop} (h:aO w F s aF (.str b) v aS):v= .string ⟨⟨b⟩⟩:=by
 have bO:=(aO.cI rfl).1 h;rw[ay,gj bO.1]at bO;simpa using bO.2
theorem J7 {v:Value} {aS:Nat->Prop} (h:aO w F s aF .dM v aS):v= .pointer none:=by
 have bO:=(aO.cI rfl).1 h;rw[ay,gj bO.1]at bO;simpa using bO.2
theorem rB {v:Value} {aS:Nat->Prop} (h:aO w F s aF .ah v aS):v= .slice none 0 0:=by
 have bO:=(aO.cI rfl).1 h;rw[ay,gj bO.1]at bO;simpa using bO.2
theorem J8 {v:Value} {aS:Nat->Prop} (h:aO w F s aF .fo v aS):∃b,v= .bool b:=by
 have bO:=(aO.cI rfl).1 h;rw[ay,gj bO.1]at bO;simpa using bO.2
theorem of_int (k:IntKind) (n:Int):aO w F s aF (.int k n) (.int k n) (λ_=>False):=(aO.cI rfl).2 ⟨rfl,by rw[ay];rfl⟩
theorem of_bool (b:Bool):aO w F s aF (.bool b) (.bool b) (λ_=>False):=(aO.cI rfl).2 ⟨rfl,by rw[ay];rfl⟩
theorem pE (b:ahz):aO w F s aF (.str b) (.string ⟨⟨b⟩⟩) (λ_=>False):=(aO.cI rfl).2 ⟨rfl,by rw[ay];rfl⟩
theorem Ek (b:Bool):aO w F s aF .fo (.bool b) (λ_=>False):=(aO.cI rfl).2 ⟨rfl,by rw[ay];exact⟨b,rfl⟩⟩
def ju (op:BinOp) (k:IntKind) (a:Int) (c7:IntKind) (b:Int):Option I:=
 match op with
 | .shl=>if b<0 then none else some (.int k (k.wrap (a*2^(min b.toNat k.bits))))
 | .shr=>if b<0 then none else some (.int k (a.fdiv (2^(min b.toNat k.bits))))
 | .add=>if k=c7 then some (.int k (k.wrap (a+b)))else none
 | .sub=>if k=c7 then some (.int k (k.wrap (a-b)))else none
 | .mul=>if k=c7 then some (.int k (k.wrap (a*b)))else none
 | .quo=>if k=c7/\b≠0 then some (.int k (k.wrap (a.tdiv b)))else none
 | .rem=>if k=c7/\b≠0 then some (.int k (a.tmod b))else none
 | .eql=>if k=c7 then some (.bool (a==b))else none
 | .neq=>if k=c7 then some (.bool (a !=b))else none
 | .lss=>if k=c7 then some (.bool (decide (a<b)))else none
 | .leq=>if k=c7 then some (.bool (decide (a<=b)))else none
 | .gtr=>if k=c7 then some (.bool (decide (b<a)))else none
 | .geq=>if k=c7 then some (.bool (decide (b<=a)))else none
 | .and=>if k=c7 then some (.int k (bitsOf .and k a b))else none
 | .or=>if k=c7 then some (.int k (bitsOf .or k a b))else none
 | .xor=>if k=c7 then some (.int k (bitsOf .xor k a b))else none
 | .andNot=>if k=c7 then some (.int k (bitsOf .andNot k a b))else none
def n0 (op:BinOp) (a b:ahz):Option I:=
 match op with
 | .add=>if a.length+b.length<=9223372036854775807 then some (.str (a++b))else none
 | .eql=>some (.bool (a==b))
 | .neq=>some (.bool !(a==b))
 | .lss=>some (.bool (Op.bytesLess a b))
 | .leq=>some (.bool (Op.bytesLess a b||a==b))
 | .gtr=>some (.bool !(Op.bytesLess a b||a==b))
 | .geq=>some (.bool !(Op.bytesLess a b))
 |_=>none
def kj (s:ao):I->Option ahD
 | .ah=>some (some true)
 | .slice xs=>some (if xs=[]then none else some false)
 | .h x q=>match I.sub q (s x)with
   |some (.ad _ xs)=>some (if xs=[]then none else some false)
   |_=>none
 |_=>none
def lU (s:ao):I->ahD
 | .dM=>some true
 | .ref _=>some false
 | .h x q=>match I.sub q (s x)with
   |some (.ai _)=>some false
   |_=>none
 |_=>none
def pF (neg:Bool):ahD->I
 |some b=>.bool (b !=neg)
 |none=>.fo
def structEq (P:Program) (T:TypeId):Bool:= !P.stoodInHeld T&& !P.eqGuardType P.depth T&&(P.fieldsOf T).toList.all λf=>decide (f.name≠ "_")
def oJ (C:bV):List (TypeId×Nat)->Nat->ahI->ahI->ahD
 |[],_,[],[]=>some true
 |(jJ,off)::aG,n,d::ds,e::es=>if off=n then(match(C.T jJ).k,d,e with
  | .int k,.int cv a,.int cK b=>if cv=k/\cK=k then(oJ C aG (n+1) ds es).map λr=>a==b&&r else none
  | .bool,.bool a,.bool b=>(oJ C aG (n+1) ds es).map λr=>a==b&&r
  | .str,.str a,.str b=>(oJ C aG (n+1) ds es).map λr=>a==b&&r
  |_,_,_=>none)else none
 |_,_,_,_=>none
def fa (C:bV) (s:ao) (op:BinOp) (T:TypeId) (x y:I):Option I:=
 match x,y with
 | .int k a,.int c7 b=>ju op k a c7 b
 | .str a,.str b=>n0 op a b
 | .bool a,.bool b=>match op,(C.T T).k with
   | .eql,.bool=>some (.bool (a==b))
   | .neq,.bool=>some (.bool !(a==b))
   |_,_=>none
 | .agg ds,.agg es=>match op,(C.T T).k with
   | .eql,.struct aG=>if structEq C.P T=true then(oJ C aG 0 ds es).map λb=>.bool b else none
   | .neq,.struct aG=>if structEq C.P T=true then(oJ C aG 0 ds es).map λb=>.bool !b else none
   |_,_=>none
 |x,.ah=>match op,(C.T T).k with
  | .eql,.slice _=>(kj s x).map (pF false)
  | .neq,.slice _=>(kj s x).map (pF true)
  |_,_=>none
 |x,.dM=>match op,(C.T T).k with
  | .eql,.ptr _=>(lU s x).map λb=>.bool b
  | .neq,.ptr _=>(lU s x).map λb=>.bool !b
  |_,_=>none
 |_,_=>none
theorem RO {P:Program} {op:BinOp} {T:TypeId} {k c7:IntKind} {a b:Int} (he:ju op k a c7 b=some av) (w:World):
  ∃v,(binOp op T (.int k a) (.int c7 b)).run P w= .ok v w/\aO w F s aF av v (λ_=>False):=by
 unfold ju at he;cases op<;>simp only at he<;>split at he<;>first|(cases he;done)|skip
 all_goals
  rename_i aC;simp only[some.injEq]at he;subst he
 all_goals first
  |(subst aC;simp only[binOp_add,binOp_sub,binOp_mul,binOp_eql,binOp_neq,binOp_lss,binOp_leq,binOp_gtr,binOp_geq,binOp_and,binOp_or,binOp_xor,binOp_andNot,Op.intArith,Op.intBits,Sem.run_pure,Result.ok.injEq,and_true,exists_eq_left']
    first|exact of_int _ _|exact of_bool _)
  |(obtain⟨rfl,bA⟩:=aC
    simp only[binOp_quo,binOp_rem,Op.intDiv,bA,if_false,Sem.run_pure,Result.ok.injEq,and_true,exists_eq_left'];exact of_int _ _)
  |(simp only[binOp_shl,binOp_shr,Op.shift,aC,if_false,Sem.run_pure,Result.ok.injEq,and_true,exists_eq_left']
    exact of_int _ _)
theorem yg (a:ahz):(⟨⟨a⟩⟩:ByteArray).toList=a:=ByteArray.toList_eq _
theorem RP (a b:ahz):(⟨⟨a⟩⟩:ByteArray)++(⟨⟨b⟩⟩:ByteArray)=⟨⟨a++b⟩⟩:=by
 apply ByteArray.ext;simp[ByteArray.data_append]
theorem RQ {P:Program} {op:BinOp} {T:TypeId} {a b:ahz} (he:n0 op a b=some av) (w:World):
  ∃v,(binOp op T (.string ⟨⟨a⟩⟩) (.string ⟨⟨b⟩⟩)).run P w= .ok v w/\aO w F s aF av v (λ_=>False):=by
 have U:∀op,binOp op T (.string ⟨⟨a⟩⟩) (.string ⟨⟨b⟩⟩)=Op.stringOp op ⟨⟨a⟩⟩ ⟨⟨b⟩⟩:=by intro op;cases op<;>rfl
 rw[U];unfold n0 at he;cases op<;>simp only[some.injEq]at he<;>first|(cases he;done)|skip
 case add=>
  split at he
  .rename_i hl;simp only[some.injEq]at he;subst he;have ae:((ByteArray.size ⟨⟨a⟩⟩+ByteArray.size ⟨⟨b⟩⟩:Nat):Int)<=9223372036854775807:=by
    show((a.length+b.length:Nat):Int)<=_;omega
   refine⟨.string ⟨⟨a++b⟩⟩,?_,pE _⟩;simp only[Op.stringOp,IntKind.max_i64];rw[if_neg (by omega),RP];rfl
  .cases he
 all_goals
  subst he;simp only[Op.stringOp,yg,Sem.run_pure,Result.ok.injEq,and_true,exists_eq_left'];exact of_bool _
theorem El (h:bK w0 F0 X F S s aF w) {v:Value} {y:Nat} {q:ahC} (aP:aO w F s aF (.h y q) v (λ_=>False)) {sz:Nat} {xs:ahI} (al:I.sub q (s y)=some (.ad sz xs)):
  (xs=[]/\∃a,v= .slice a 0 0)\/∃b cap cur e fr,v= .slice (some ⟨b,0,none⟩) xs.length cap/\w.heap[b]? =some (.cells cur e fr)/\nm fr cur.size/\xs.length<=cap/\cap<=maxLen/\cur.size=cap*sz/\(∀d∈xs,d.wd=sz)/\
   ∃aS,bh w F xs (cur.toList.take (xs.length*sz)) aS/\(∀c,aS c->S y c)/\S y b:=by
 rw[aO]at aP;obtain⟨cO,a,aX,bk,ca⟩:=aP _ al rfl;have ae:Value.fN v=true:=ca;rw[gj ae]at bk;subst bk;have aA:=h.dz y;rw[aO.cI (h7 al (.inl rfl))]at aA;obtain⟨gh,cj,ei,fy,k0,cv,cK,eJ,cU,fq⟩:=ctx q (s y) (ct (aF y)) (S y) none _ aA.2 al;rw[k0]at aX;simp only[some.injEq,Prod.mk.injEq,true_and]at aX;obtain⟨rfl,rfl⟩:=aX;rw[ay]at cU;rcases cU with⟨rfl,aB,ag⟩|⟨b,cap,cur,bc,fr,dq,bb,cl,cR,b0,b7,hW,gQ,kk,yh,eo,eB⟩
 .simp at ag;exact .inl ⟨rfl,_,ag⟩
 .simp at bb;exact .inr ⟨b,cap,cur,bc,fr,bb,cR,b0.low,b7,hW,gQ,kk,dq,yh,λc aC=>cK _ (eo c aC),cK _ cl⟩
theorem J9 (h:bK w0 F0 X F S s aF w) {v:Value} {y:Nat} {q:ahC} (aP:aO w F s aF (.h y q) v (λ_=>False)) {d:I} (al:I.sub q (s y)=some (.ai d)):
  ∃b cur e fr,v= .pointer (some ⟨b,0,none⟩)/\w.heap[b]? =some (.cells cur e fr):=by
 rw[aO]at aP;obtain⟨cO,a,aX,bk,ca⟩:=aP _ al rfl;have ae:Value.fN v=true:=ca;rw[gj ae]at bk;subst bk;have aA:=h.dz y;rw[aO.cI (h7 al (.inl rfl))]at aA;obtain⟨gh,cj,ei,fy,k0,cv,cK,eJ,cU,fq⟩:=ctx q (s y) (ct (aF y)) (S y) none _ aA.2 al;rw[k0]at aX;simp only[some.injEq,Prod.mk.injEq,true_and]at aX;obtain⟨rfl,rfl⟩:=aX;rw[ay]at cU;obtain⟨b,cur,bc,fr,dq,bb,cl,cR,_⟩:=cU;simp at bb;exact⟨b,cur,bc,fr,bb,cR⟩
theorem J_ {P:Program} {T e:TypeId} (aZ:P.underlying T=some (.slice e)) (w:World):∀d,(Op.equalIn (d+1) T (.slice none 0 0) (.slice none 0 0)).run P w= .ok true w/\
  ∀a n c,(Op.equalIn (d+1) T (.slice (some a) n c) (.slice none 0 0)).run P w= .ok false w:=by
 intro d;refine⟨by simp[Op.equalIn,run_underlying aZ],λa n c=>by simp[Op.equalIn,run_underlying aZ]⟩
theorem Ka {P:Program} {T e:TypeId} (aZ:P.underlying T=some (.pointer e)) (w:World):∀d,(Op.equalIn (d+1) T (.pointer none) (.pointer none)).run P w= .ok true w/\
  ∀a,(Op.equalIn (d+1) T (.pointer (some a)) (.pointer none)).run P w= .ok false w:=by
 intro d;refine⟨by simp[Op.equalIn,run_underlying aZ],λa=>by simp[Op.equalIn,run_underlying aZ]⟩
theorem Kb {P:Program} {T:TypeId} (aZ:P.underlying T=some .bool) (w:World):∀d a b,(Op.equalIn (d+1) T (.bool a) (.bool b)).run P w= .ok (a==b) w:=by
 intro d a b;simp[Op.equalIn,run_underlying aZ]
theorem Kc (h:bK w0 F0 X F S s aF w) {x:I} {v:Value} (aP:aO w F s aF x v (λ_=>False)) {T e:TypeId} {r:ahD} (aV:kj s x=some r) (aZ:C.P.underlying T=some (.slice e)):
  ∃b,(Op.equal T v (.slice none 0 0)).run C.P w= .ok b w/\(∀ee,r=some ee->ee=b)/\Value.fN v=true/\∃a n c,v= .slice a n c:=by
 have a1:=λa n c=>(J_ aZ w 9999).2 a n c;have fV:=(J_ aZ w 9999).1;cases x with
 |ah=>
  have:=rB aP;subst this;simp[kj]at aV;subst aV;exact⟨true,fV,by simp,rfl,_,_,_,rfl⟩
 |slice xs=>
  have bO:=(aO.cI rfl).1 aP;rw[ay,gj bO.1]at bO;simp only[kj,some.injEq]at aV;obtain⟨_,⟨rfl,a,c,ag,_,ud⟩|⟨b,o,cap,eA,sz,ag,aJ⟩⟩:=bO
  .simp at ag aV;subst ag;subst aV;cases a with
   |none=>
    have:=ud rfl;subst this;exact⟨true,fV,by simp,rfl,_,_,_,rfl⟩
   |some a=>exact⟨false,a1 _ _ _,by simp,rfl,_,_,_,rfl⟩
  .simp at ag;subst ag;refine⟨false,a1 _ _ _,?_,rfl,_,_,_,rfl⟩;subst aV;split<;>simp
 |h y q=>
  simp only[kj]at aV;split at aV
  .rename_i sz xs al;simp only[some.injEq]at aV;rcases El h aP al with⟨rfl,a,rfl⟩|⟨b,cap,cur,bc,fr,rfl,_⟩
   .simp at aV;subst aV;cases a with
    |none=>exact⟨true,fV,by simp,rfl,_,_,_,rfl⟩
    |some a=>exact⟨false,a1 _ _ _,by simp,rfl,_,_,_,rfl⟩
   .refine⟨false,a1 _ _ _,?_,rfl,_,_,_,rfl⟩;subst aV;split<;>simp
  .cases aV
 |_=>simp[kj]at aV
theorem Kd (h:bK w0 F0 X F S s aF w) {x:I} {v:Value} (aP:aO w F s aF x v (λ_=>False)) {T e:TypeId} {r:Bool} (aV:lU s x=some r) (aZ:C.P.underlying T=some (.pointer e)):
  (Op.equal T v (.pointer none)).run C.P w= .ok r w/\∃a,v= .pointer a:=by
 have a1:=λa=>(Ka aZ w 9999).2 a;have fV:=(Ka aZ w 9999).1;cases x with
 |dM=>
  have:=J7 aP;subst this;simp[lU]at aV;subst aV;exact⟨fV,_,rfl⟩
 |ref d=>
  have bO:=(aO.cI rfl).1 aP;rw[ay,gj bO.1]at bO;simp[lU]at aV;subst aV;obtain⟨_,b,o,eA,ag,_⟩:=bO;simp at ag;subst ag;exact⟨a1 _,_,rfl⟩
 |h y q=>
  simp only[lU]at aV;split at aV
  .rename_i d al;simp only[some.injEq]at aV;subst aV;obtain⟨b,cur,e,fr,rfl,_⟩:=J9 h aP al;exact⟨a1 _,_,rfl⟩
  .cases aV
 |_=>simp[lU]at aV
theorem RR (bx:C.eN):∀(aG:List (TypeId×Nat)) (gs:List Field) (n:Nat) (ds es:ahI) (r:Bool) (di l2 b1 cd:ahF) (xs cr:Array Value) (ck dq:Nat->Prop),
  gs.map (λg=>(g.type,g.offset))=aG->(gs.all λf=>decide (f.name≠ "_"))=true->oJ C aG n ds es=some r->bh w F ds b1 ck->bh w F es cd dq->xs.toList=di++b1->di.length=n->cr.toList=l2++cd->l2.length=n->
  ∀m,(Op.eqFields (m+1) xs cr gs).run C.P w= .ok r w:=by
 intro aG;induction aG with
 |nil=>
  intro gs n ds es r di l2 b1 cd xs cr ck dq bP ba he af ag aA hl bu Em m;have:gs=[]:=by simpa using bP
  subst this;cases ds<;>cases es<;>simp[oJ]at he;subst he;simp[Op.eqFields]
 |cons p aG ih=>
  obtain⟨jJ,off⟩:=p;intro gs n ds es r di l2 b1 cd xs cr ck dq bP ba he af ag aA hl bu Em m;cases gs with
  |nil=>simp at bP
  |cons g gs=>
   simp only[map_cons,cons.injEq,Prod.mk.injEq]at bP;obtain⟨⟨rfl,rfl⟩,bP⟩:=bP;simp only[all_cons,Bool.and_eq_true,decide_eq_true_eq]at ba;cases ds with
   |nil=>simp[oJ]at he
   |cons d ds=>
   cases es with
   |nil=>simp[oJ]at he
   |cons e es=>
   simp only[oJ]at he;split at he
   .rename_i oG;rw[bh]at af ag;obtain⟨J,aB,A2,RS,rfl,fp,fP,ha,qD,e9⟩:=af;obtain⟨gr,dL,afZ,RT,rfl,gu,fF,jb,iC,mx⟩:=ag;have step:∀(x y:Value) (z:Bool),(C.T g.type).flat=true->J=[x]->gr=[y]->(∀m,(Op.equalIn (m+1) g.type x y).run C.P w= .ok z w)->∀gv,oJ C aG (n+1) ds es=some gv->
      (Op.eqFields (m+1) xs cr (g::gs)).run C.P w= .ok (z&&gv) w:=by
     intro x y z jK RU En heq gv ek;subst RU;subst En;have RV:xs[g.offset]? =some x:=by
      rw[<-Array.getElem?_toList,aA,oG,<-hl,getElem?_append_right (Nat.le_refl _)];simp
     have RW:cr[g.offset]? =some y:=by
      rw[<-Array.getElem?_toList,bu,oG,<-Em,getElem?_append_right (Nat.le_refl _)];simp
     have aq:=ih gs (n+1) ds es gv (di++[x]) (l2++[y]) aB dL xs cr RS RT bP ba.2 ek fP fF (by rw[aA];simp) (by simp[hl]) (by rw[bu];simp) (by simp[Em]) m;unfold Op.eqFields;rw[if_pos ba.1];simp only[part,Sem.run_bind,Ef bx jK,Result.andThen_ok,Bool.false_eq_true,if_false,RV,RW,Sem.run_pure,heq];cases z
     .simp
     .simpa using aq
    split at he
    .rename_i k cv a cK b au;split at he
     .rename_i A3;obtain⟨rfl,rfl⟩:=A3;rw[ay]at fp gu;simp only[map_eq_some_iff]at he;obtain⟨gv,ek,rfl⟩:=he;obtain⟨i,yi,Ke,a1,bc,bb,cl,cR,b0,b7⟩:=bx.info (gi au (by simp));rw[au]at b7;have ue:=yd b7;subst ue;exact step _ _ _ (by simp[gD.flat,au]) fp gu (λm=>run_equalIn_int w m g.type _ _ a b b0) gv ek
     .cases he
    .rename_i a b au;rw[ay]at fp gu;simp only[map_eq_some_iff]at he;obtain⟨gv,ek,rfl⟩:=he;obtain⟨i,yi,Ke,a1,bc,bb,cl,cR,b0,b7⟩:=bx.info (gi au (by simp));rw[au]at b7;have ue:=Ec b7;subst ue;exact step _ _ _ (by simp[gD.flat,au]) fp gu (λm=>run_equalIn_bool' w m g.type a b b0) gv ek
    .rename_i a b au;rw[ay]at fp gu;simp only[map_eq_some_iff]at he;obtain⟨gv,ek,rfl⟩:=he;obtain⟨i,yi,Ke,a1,bc,bb,cl,cR,b0,b7⟩:=bx.info (gi au (by simp));rw[au]at b7;have ue:=qA b7;subst ue;refine step _ _ (a==b) (by simp[gD.flat,au]) fp gu (λm=>?_) gv ek;rw[run_equalIn_string w m g.type _ _ b0,yg,yg]
    .cases he
   .cases he
theorem Kf (bx:C.eN) {T:TypeId} {aG:List (TypeId×Nat)} (au:(C.T T).k= .struct aG) {ds es:ahI} {ff gP:Value} {ck dq:Nat->Prop} {r:Bool} (aA:aO w F s aF (.agg ds) ff ck) (bu:aO w F s aF (.agg es) gP dq)
  (cM:structEq C.P T=true) (he:oJ C aG 0 ds es=some r) (op:BinOp) (pG rC:Operand):
  (eqGuard op T pG rC ff gP).run C.P w= .ok () w/\(Op.equal T ff gP).run C.P w= .ok r w:=by
 obtain⟨i,d,z,a1,bc,bb,cl,cR,b0,b7⟩:=bx.info (gi au (by simp));rw[au]at b7;obtain⟨gs,rfl,hW⟩:=yc b7;have yj:C.P.fieldsOf T=gs:=by simp[Program.fieldsOf,b0]
 simp only[structEq,Bool.and_eq_true,Bool.not_eq_true',yj]at cM;obtain⟨⟨gu,fF⟩,jb⟩:=cM;obtain⟨⟨xs,rfl⟩,sF⟩:=(aO.cI rfl).1 aA;obtain⟨⟨cr,rfl⟩,tZ⟩:=(aO.cI rfl).1 bu;rw[ay]at sF tZ;constructor
 .cases op<;>simp[eqGuard,fF]
 .show(Op.equalIn (9999+1) T _ _).run C.P w=_;rw[run_equalIn_struct w 9999 T xs cr (by rw[yj];exact b0) gu,yj];exact RR bx aG gs.toList 0 ds es r [] [] _ _ xs cr ck dq hW jb he sF tZ rfl rfl rfl rfl 9998
theorem RX (bx:C.eN) (h:bK w0 F0 X F S s aF w) {op:BinOp} {T:TypeId} {x y:I} {ff gP:Value} (pG rC:Operand) (aA:aO w F s aF x ff (λ_=>False)) (bu:aO w F s aF y gP (λ_=>False))
  (he:fa C s op T x y=some av):Good C w0 F0 X aF w (do eqGuard op T pG rC ff gP;binOp op T ff gP) av s:=by
 unfold fa at he;split at he
 .have:=pD aA;subst this;have:=pD bu;subst this;obtain⟨v,af,ag⟩:=RO (P:=C.P) (T:=T) he w;refine Good.same h (v:=v) ?_ ?_ ag
  .rw[eqGuard_at_int];exact af
  .revert he;unfold ju;cases op<;>simp only<;>split<;>simp<;>(rintro rfl;rfl)
 .have:=oI aA;subst this;have:=oI bu;subst this;obtain⟨v,af,ag⟩:=RQ (P:=C.P) (T:=T) he w;refine Good.same h (v:=v) ?_ ?_ ag
  .rw[eqGuard_at_string];exact af
  .revert he;unfold n0;cases op<;>simp only<;>(try split)<;>simp<;>(try (rintro rfl;rfl))
 .have:=sE aA;subst this;have:=sE bu;subst this;split at he
  .rename_i au;simp only[some.injEq]at he;subst he;obtain⟨i,d,z,a1,bc,bb,cl,cR,b0,b7⟩:=bx.info (gi au (by simp));rw[au]at b7;have:=Ec b7;subst this;refine Good.same h ?_ rfl (of_bool _);rw[eqGuard_at_bool];simp[binOp,Op.equal,Op.maxDepth,Kb b0 w 9999]
  .rename_i au;simp only[some.injEq]at he;subst he;obtain⟨i,d,z,a1,bc,bb,cl,cR,b0,b7⟩:=bx.info (gi au (by simp));rw[au]at b7;have:=Ec b7;subst this;refine Good.same h ?_ rfl (of_bool _);rw[eqGuard_at_bool];simp[binOp,Op.equal,Op.maxDepth,Kb b0 w 9999]
  .cases he
 .split at he
  .rename_i aG au;split at he
   .rename_i cM;simp only[map_eq_some_iff]at he;obtain⟨r,aV,rfl⟩:=he;obtain⟨aX,bk⟩:=Kf bx au aA bu cM aV .eql pG rC;obtain⟨⟨xs,rfl⟩,_⟩:=(aO.cI rfl).1 aA;obtain⟨⟨cr,rfl⟩,_⟩:=(aO.cI rfl).1 bu;exact Good.same h (by simp[aX,binOp,bk]) rfl (of_bool _)
   .cases he
  .rename_i aG au;split at he
   .rename_i cM;simp only[map_eq_some_iff]at he;obtain⟨r,aV,rfl⟩:=he;obtain⟨aX,bk⟩:=Kf bx au aA bu cM aV .neq pG rC;obtain⟨⟨xs,rfl⟩,_⟩:=(aO.cI rfl).1 aA;obtain⟨⟨cr,rfl⟩,_⟩:=(aO.cI rfl).1 bu;exact Good.same h (by simp[aX,binOp,bk]) rfl (of_bool _)
   .cases he
  .cases he
 .have:=rB bu;subst this;split at he
  .rename_i e au;simp only[map_eq_some_iff]at he;obtain⟨r,aV,rfl⟩:=he;obtain⟨i,d,z,a1,bc,bb,cl,cR,b0,b7⟩:=bx.info (gi au (by simp));rw[au]at b7;have:=lS b7;subst this;obtain⟨b,af,ag,aJ,j,b8,mr,rfl⟩:=Kc h aA aV b0;refine Good.same h (v:=.bool b) ?_ ?_ ?_
   .rw[eqGuard_at_slice];simp[binOp,af]
   .cases r<;>rfl
   .cases r with
    |none=>exact Ek b
    |some ee=>have:=ag ee rfl;subst this;simp only[pF,Bool.bne_false];exact of_bool _
  .rename_i e au;simp only[map_eq_some_iff]at he;obtain⟨r,aV,rfl⟩:=he;obtain⟨i,d,z,a1,bc,bb,cl,cR,b0,b7⟩:=bx.info (gi au (by simp));rw[au]at b7;have:=lS b7;subst this;obtain⟨b,af,ag,aJ,j,b8,mr,rfl⟩:=Kc h aA aV b0;refine Good.same h (v:=.bool !b) ?_ ?_ ?_
   .rw[eqGuard_at_slice];simp[binOp,af]
   .cases r<;>rfl
   .cases r with
    |none=>exact Ek _
    |some ee=>have:=ag ee rfl;subst this;simp only[pF,Bool.bne_true];exact of_bool _
  .cases he
 .have:=J7 bu;subst this;split at he
  .rename_i e au;simp only[map_eq_some_iff]at he;obtain⟨r,aV,rfl⟩:=he;obtain⟨i,d,z,a1,bc,bb,cl,cR,b0,b7⟩:=bx.info (gi au (by simp));rw[au]at b7;have:=JX b7;subst this;obtain⟨af,j,rfl⟩:=Kd h aA aV b0;refine Good.same h (v:=.bool r) ?_ rfl (of_bool _);rw[eqGuard_at_pointer];simp[binOp,af]
  .rename_i e au;simp only[map_eq_some_iff]at he;obtain⟨r,aV,rfl⟩:=he;obtain⟨i,d,z,a1,bc,bb,cl,cR,b0,b7⟩:=bx.info (gi au (by simp));rw[au]at b7;have:=JX b7;subst this;obtain⟨af,j,rfl⟩:=Kd h aA aV b0;refine Good.same h (v:=.bool !r) ?_ rfl (of_bool _);rw[eqGuard_at_pointer];simp[binOp,af]
  .cases he
 .cases he
end
section
variable {C:bV} {w0 w:World} {F0 X F:Nat->Prop} {S:Nat->Nat->Prop} {s s1:ao} {aF:Nat->Value} {av:I}
def un (op:UnOp) (x:I):Option I:=
 match op,x with
 | .not,.bool b=>some (.bool !b)
 | .not,.fo=>some .fo
 | .neg,.int k n=>some (.int k (k.wrap (0-n)))
 |_,_=>none
theorem RY (h:bK w0 F0 X F S s aF w) {op:UnOp} {x:I} {v:Value} (aP:aO w F s aF x v (λ_=>False)) (he:un op x=some av):Good C w0 F0 X aF w (Op.unary op v) av s:=by
 unfold un at he;split at he<;>first|(cases he;done)|(simp only[some.injEq]at he;subst he)
 .have:=sE aP;subst this;exact Good.same h rfl rfl (of_bool _)
 .obtain⟨b,rfl⟩:=J8 aP;exact Good.same h rfl rfl (Ek _)
 .have:=pD aP;subst this;exact Good.same h rfl rfl (of_int _ _)
def jL (s:ao) (x:I):Option I:=
 match x with
 | .ref d=>some (.ref d)
 | .fn f c=>some (.fn f c)
 | .h y q=>match I.sub q (s y)with
   |some (.ai _)=>some (.h y q)
   |_=>none
 |_=>none
theorem RZ {d:I} {v:Value} {aS:Nat->Prop} (h:aO w F s aF (.ref d) v aS):∃b o eA,v= .pointer (some ⟨b,o,none⟩)/\F b/\hk w b o eA/\ay w F d eA (λ_=>False):=by
 have bO:=(aO.cI rfl).1 h;rw[ay,gj bO.1]at bO;obtain⟨_,b,o,eA,af,ag,aJ,a_⟩:=bO;simp at af;subst af;exact⟨b,o,eA,rfl,ag,aJ,a_⟩
theorem R0 (h:bK w0 F0 X F S s aF w) {x:I} {v:Value} (aP:aO w F s aF x v (λ_=>False)) (he:jL s x=some av):
  av=x/\x.plain=true/\((∃a,v= .pointer (some a))\/∃f c,v= .func (.func f) #[] c):=by
 unfold jL at he;split at he
 .simp only[some.injEq]at he;subst he;obtain⟨b,o,eA,rfl,_⟩:=RZ aP;exact⟨rfl,rfl,.inl ⟨_,rfl⟩⟩
 .simp only[some.injEq]at he;subst he;rw[aO]at aP;obtain⟨arr,rfl,_⟩:=aP;exact⟨rfl,rfl,.inr ⟨_,_,rfl⟩⟩
 .split at he
  .rename_i d al;simp only[some.injEq]at he;subst he;obtain⟨b,cur,e,fr,rfl,_⟩:=J9 h aP al;exact⟨rfl,rfl,.inl ⟨_,rfl⟩⟩
  .cases he
 .cases he
def ex (s:ao) (x:I) (k:Nat):Option I:=
 match x with
 | .tuple ds=>match ds[k]? with
   |some d=>if d.plain=true then some d else none
   |none=>none
 | .h y q=>match I.sub q (s y)with
   |some (.tuple ds)=>match ds[k]? with
    |some d=>if I.eY ds=true then none else some (if d.plain then d else .h y (q++[k]))
    |none=>none
   |_=>none
 |_=>none
theorem Kg:∀(vs:ahF) (k:Nat) (x:Value) (ds:ahI),vs[k]? =some x->vs.length=ds.length->(∀(az:Nat) (d:I) (y:Value),ds[az]? =some d->vs[az]? =some y->(iy y).length=d.wd)->
  ∃l r,vs.flatMap iy=l++(iy x++r)/\l.length=I.dO (ds.take k)
 |[],k,x,ds,h,_,_=>by simp at h
 |v::vs,0,x,ds,h,hl,hw=>by
  simp at h;subst h;exact⟨[],vs.flatMap iy,by simp,by simp[I.dO]⟩
 |v::vs,k+1,x,d::ds,h,hl,hw=>by
  obtain⟨l,r,a1,bc⟩:=Kg vs k x ds (by simpa using h) (by simpa using hl) (λaz d y af ag=>hw (az+1) d y (by simpa using af) (by simpa using ag));refine⟨iy v++l,r,by simp[a1],?_⟩;have:=hw 0 d v (by simp) (by simp);simp[I.dO,bc,this]
 |v::vs,k+1,x,[],h,hl,hw=>by simp at hl
theorem R1 {d:I} {v:Value} (h:iN d v) (_hd:∀vs,d≠.tuple vs):ct v=iy v:=by
 cases d with
 |agg aG=>obtain⟨arr,rfl⟩:=h;rfl
 |_=>
  have af:Value.fN v=true:=h;cases v<;>first|rfl|(simp[Value.fN]at af)
theorem R2 {d:I} {v:Value} (h:iN d v) (al:∀vs,d≠.tuple vs):dy d v:=by
 cases d with
 |tuple vs=>exact(al _ rfl).elim
 |_=>exact h
theorem R3 (h:bK w0 F0 X F S s aF w) {x:I} {v:Value} {k:Nat} (aP:aO w F s aF x v (λ_=>False)) (he:ex s x k=some av):Good C w0 F0 X aF w (Instr.extract v k) av s:=by
 have pick:∀(ds:ahI) (d:I) (arr:Array Value),ds[k]? =some d->(arr.size=ds.length/\∀(k:Nat) (d:I) (x:Value),ds[k]? =some d->arr[k]? =some x->iN d x/\(∀vs,d≠.tuple vs)/\(iy x).length=d.wd)->
   ∃x,arr[k]? =some x/\dy d x/\((ct (.tuple arr)).drop (I.dO (ds.take k))).take d.wd=ct x:=by
  intro ds d arr al ⟨b3,nr⟩;have en:k<arr.size:=by rw[b3];exact(List.getElem?_eq_some_iff.1 al).1
  have aA:arr[k]? =some arr[k]:=Array.getElem?_eq_getElem en;obtain⟨aX,bk,ca⟩:=nr k d _ al aA;obtain⟨l,r,a1,bc⟩:=Kg arr.toList k arr[k] ds (by simp[en]) (by simpa using b3) (λaz d y af ag=>(nr az d y af (by simpa using ag)).2.2);refine⟨_,aA,R2 aX bk,?_⟩;rw[R1 aX bk];simp only[ct];rw[a1];exact tT l _ r _ _ bc ca
 unfold ex at he;split at he
 .rename_i ds;split at he
  .rename_i d al;split at he
   .rename_i aw;simp only[some.injEq]at he;subst he;have bO:=(aO.cI rfl).1 aP;obtain⟨⟨arr,rfl,b3⟩,gR⟩:=bO;obtain⟨x,aA,ae,aC⟩:=pick ds d arr al b3;have aV:(Instr.extract (.tuple arr) k).run C.P w= .ok x w:=by simp[Instr.extract,aA]
    rw[ay]at gR;obtain⟨b1,fO,cd,ck,hU,e,g_,fp,fP,ha,e9,mu⟩:=bh.pick ds _ _ k d gR al;rw[e,tT b1 fO cd _ _ g_ (ay.length _ _ _ e9)]at aC;by_cases aZ:d.tree=true
    .exact Good.same h aV aw ((aO.cI aZ).2 ⟨ae,by rw[<-aC];exact ay.plain _ _ _ _ aw e9⟩)
    .cases d<;>first|exact(aZ rfl).elim|(rw[ay]at e9;exact e9.elim)|exact Good.same h aV rfl (by rw[aO];trivial)|(have bC:=ay.plain _ _ _ (λ_=>False) aw e9;rw[aC,gj (by exact ae)]at bC;exact Good.same h aV rfl (aO.qB _ _ rfl bC))
   .cases he
  .cases he
 .rename_i y q;split at he
  .rename_i ds al;split at he
   .rename_i d au;split at he
    .cases he
    .rename_i hc;simp only[some.injEq]at he;have hc:(I.tuple ds).plain=false:=by simpa [I.plain]using hc
     rw[aO]at aP;obtain⟨cO,a,aX,bk,ca⟩:=aP _ al hc;obtain⟨arr,rfl,b3⟩:=ca;obtain⟨x,aA,ae,aC⟩:=pick ds d arr au b3;have aV:(Instr.extract (.tuple arr) k).run C.P w= .ok x w:=by simp[Instr.extract,aA]
     have bu:=h.dz y;rw[aO.cI (h7 al (.inl hc))]at bu;obtain⟨gh,cj,ei,fy,k0,cv,cK,eJ,cU,fq⟩:=ctx q (s y) (ct (aF y)) (S y) none _ bu.2 al;rw[k0]at aX;simp only[some.injEq,Prod.mk.injEq,true_and]at aX;obtain⟨rfl,rfl⟩:=aX;rw[bk]at aC;split at he
     .rename_i aw;subst he;rw[ay]at cU;obtain⟨b1,fO,cd,ck,hU,e,g_,fp,fP,ha,e9,mu⟩:=bh.pick ds _ _ k d cU au;rw[e,tT b1 fO cd _ _ g_ (ay.length _ _ _ e9)]at aC;by_cases aZ:d.tree=true
      .exact Good.same h aV aw ((aO.cI aZ).2 ⟨ae,by rw[<-aC];exact ay.plain _ _ _ _ aw e9⟩)
      .cases d<;>first|exact(aZ rfl).elim|(rw[ay]at e9;exact e9.elim)|exact Good.same h aV rfl (by rw[aO];trivial)|(have bC:=ay.plain _ _ _ (λ_=>False) aw e9;rw[aC,gj (by exact ae)]at bC;exact Good.same h aV rfl (aO.qB _ _ rfl bC))
     .subst he;refine Good.same h aV rfl ?_;rw[aO];intro d2 iA x9;rw[yb w q _ _ _ _ _ _ [k] k0];rw[ya _ _ _ _ al]at iA;simp only[I.sub,au,some.injEq]at iA;subst iA;simp only[dh,au];exact⟨_,_,rfl,aC.symm,ae⟩
   .cases he
  .cases he
 .cases he
def hf (C:bV) (s:ao) (T:TypeId) (x:I) (k:Nat):Option I:=
 match(C.T T).k with
 | .struct aG=>match aG[k]? with
   |some (jJ,off)=>match x with
    | .agg ds=>match ds[k]? with
      |some d=>if I.dO (ds.take k)=off/\fits C jJ d=true/\d.plain=true/\d.tree=true then some d else none
      |none=>none
    | .h y q=>match I.sub q (s y)with
      |some (.agg ds)=>match ds[k]? with
       |some d=>if I.dO (ds.take k)=off/\fits C jJ d=true/\I.eY ds=false/\d.tree=true then some (if d.plain then d else .h y (q++[k]))else none
       |none=>none
      |_=>none
    |_=>none
   |none=>none
 |_=>none
theorem R4 (bx:C.eN) (h:bK w0 F0 X F S s aF w) {T:TypeId} {x:I} {v:Value} {k:Nat} (aP:aO w F s aF x v (λ_=>False)) (he:hf C s T x k=some av):Good C w0 F0 X aF w (Instr.field T v k) av s:=by
 have key:∀(aG:List (TypeId×Nat)) (jJ:TypeId) (off:Nat),(C.T T).k= .struct aG->aG[k]? =some (jJ,off)->∀(ds:ahI) (d:I) (arr:Array Value) (aS:Nat->Prop),ds[k]? =some d->I.dO (ds.take k)=off->fits C jJ d=true->bh w F ds arr.toList aS->
   ∃x hU,(Instr.field T (.agg arr) k).run C.P w= .ok x w/\dy d x/\ay w F d (ct x) hU/\(arr.toList.drop off).take d.wd=ct x:=by
  intro aG jJ off au bS ds d arr aS al oG iB gR;obtain⟨i,yi,z,a1,bc,bb,cl,cR,b0,b7⟩:=bx.info (gi au (by simp));rw[au]at b7;obtain⟨gs,rfl,hW⟩:=yc b7;obtain⟨g,aX,rfl,rfl⟩:∃g,gs[k]? =some g/\g.type=jJ/\g.offset=off:=by
   rw[<-hW,getElem?_map]at bS;simp only[map_eq_some_iff,Prod.mk.injEq]at bS;obtain⟨g,af,ag,aJ⟩:=bS;exact⟨g,by simpa using af,ag,aJ⟩
  obtain⟨b1,fO,cd,ck,hU,e,g_,fp,fP,ha,e9,mu⟩:=bh.pick ds _ _ k d gR al;obtain⟨x,aV,Kh,mQ⟩:=RC (w:=w) bx e (g_.trans oG) e9 iB;refine⟨x,hU,?_,mQ,by rw[Kh];exact e9,?_⟩
  .simp[Instr.field,run_underlying b0,aX,asAgg,aV]
  .rw[e,Kh,<-oG];exact tT b1 fO cd _ _ g_ (ay.length _ _ _ e9)
 have Ki:∀(d:I) (x:Value) (hU:Nat->Prop),d.plain=true->dy d x->ay w F d (ct x) hU->aO w F s aF d x (λ_=>False):=by
  intro d x hU aw ae gR;by_cases aZ:d.tree=true
  .exact(aO.cI aZ).2 ⟨ae,ay.plain _ _ _ _ aw gR⟩
  .cases d<;>first|exact(aZ rfl).elim|(rw[ay]at gR;exact gR.elim)|(rw[aO];trivial)|(have bC:=ay.plain _ _ _ (λ_=>False) aw gR;rw[gj (by exact ae)]at bC;exact aO.qB _ _ rfl bC)
 unfold hf at he;split at he
 .rename_i aG au;split at he
  .rename_i jJ off bS;split at he
   .rename_i ds;split at he
    .rename_i d al;split at he
     .rename_i aC;simp only[some.injEq]at he;subst he;obtain⟨⟨arr,rfl⟩,gR⟩:=(aO.cI rfl).1 aP;rw[ay]at gR;obtain⟨x,hU,aV,ae,Eo,_⟩:=key aG jJ off au bS ds d arr _ al aC.1 aC.2.1 gR;exact Good.same h aV aC.2.2.1 (Ki d x hU aC.2.2.1 ae Eo)
     .cases he
    .cases he
   .rename_i y q;split at he
    .rename_i ds al;split at he
     .rename_i d pz;split at he
      .rename_i aC;simp only[some.injEq]at he;have hc:(I.agg ds).plain=false:=by simpa [I.plain]using aC.2.2.1
       rw[aO]at aP;obtain⟨cO,a,aX,bk,ca⟩:=aP _ al hc;obtain⟨arr,rfl⟩:=ca;have bu:=h.dz y;rw[aO.cI (h7 al (.inl hc))]at bu;obtain⟨gh,cj,ei,fy,k0,cv,cK,eJ,cU,fq⟩:=ctx q (s y) (ct (aF y)) (S y) none _ bu.2 al;rw[k0]at aX;simp only[some.injEq,Prod.mk.injEq,true_and]at aX;obtain⟨rfl,rfl⟩:=aX;rw[ay,<-bk]at cU;obtain⟨x,hU,aV,ae,Eo,iP⟩:=key aG jJ off au bS ds d arr _ pz aC.1 aC.2.1 cU;by_cases aw:d.plain=true
       .rw[if_pos aw]at he;subst he;exact Good.same h aV aw (Ki d x hU aw ae Eo)
       .rw[if_neg aw]at he;subst he;refine Good.same h aV rfl ?_;rw[aO];intro d2 iA x9;rw[yb w q _ _ _ _ _ _ [k] k0];rw[ya _ _ _ _ al]at iA;simp only[I.sub,pz,some.injEq]at iA;subst iA;simp only[dh,pz];refine⟨_,_,rfl,?_,ae⟩;rw[aC.1,<-bk];exact iP.symm
      .cases he
     .cases he
    .cases he
   .cases he
  .cases he
 .cases he
end
section
variable {C:bV} {w0 w:World} {F0 X F:Nat->Prop} {S:Nat->Nat->Prop} {s s1:ao} {aF:Nat->Value} {av:I}
def idx (C:bV) (T:TypeId) (x i:I):Option I:=
 match(C.T T).k,x,i with
 | .str,.str l,.int _ n=>if 0<=n then(match l[n.toNat]? with|some b=>some (.int .u8 b.toNat)|none=>none)else none
 |_,_,_=>none
theorem R5 (l:ahz) (n:Nat):(⟨⟨l⟩⟩:ByteArray)[n]? =l[n]? :=by
 by_cases h:n<l.length
 .have bO:n<(⟨⟨l⟩⟩:ByteArray).size:=h;rw[getElem?_eq_getElem h,getElem?_pos (⟨⟨l⟩⟩:ByteArray) n bO];rfl
 .have bO:¬n<(⟨⟨l⟩⟩:ByteArray).size:=h;rw[getElem?_eq_none (by omega),getElem?_neg (⟨⟨l⟩⟩:ByteArray) n bO]
theorem R6 (bx:C.eN) (h:bK w0 F0 X F S s aF w) {T:TypeId} {x i:I} {v oH:Value} (aP:aO w F s aF x v (λ_=>False)) (aq:aO w F s aF i oH (λ_=>False)) (he:idx C T x i=some av):
  Good C w0 F0 X aF w (Instr.index T v oH) av s:=by
 unfold idx at he;split at he
 .rename_i l k n au;have:=oI aP;subst this;have:=pD aq;subst this;obtain⟨i,d,z,a1,bc,bb,cl,cR,b0,b7⟩:=bx.info (gi au (by simp));rw[au]at b7;have:=qA b7;subst this;split at he
  .rename_i ba;split at he
   .rename_i b U;simp only[some.injEq]at he;subst he;refine Good.same h ?_ rfl (of_int _ _);simp[Instr.index,asIntOf,run_underlying b0,ba,R5,U]
   .cases he
  .cases he
 .cases he
def lenOf (s:ao):I->Option Nat
 | .str l=>some l.length
 | .ah=>some 0
 | .slice xs=>some xs.length
 | .h y q=>match I.sub q (s y)with
   |some (.ad _ xs)=>some xs.length
   |_=>none
 |_=>none
def rD (C:bV) (s:ao) (T:TypeId) (x:I):Option I:=
 match(C.T T).k,x with
 | .str,.str l=>some (.int .i64 l.length)
 | .slice _,.ah=>some (.int .i64 0)
 | .slice _,.slice xs=>some (.int .i64 xs.length)
 | .slice _,.h y q=>match I.sub q (s y)with
   |some (.ad _ xs)=>some (.int .i64 xs.length)
   |_=>none
 |_,_=>none
theorem A4 {xs:ahI} {v:Value} {aS:Nat->Prop} (h:aO w F s aF (.slice xs) v aS):(xs=[]/\∃a c,v= .slice a 0 c/\c<=maxLen/\(a=none->c=0))\/
  ∃b o cap eA sz,v= .slice (some ⟨b,o,none⟩) xs.length cap/\F b/\xs.length<=cap/\cap<=maxLen/\(∀d∈xs,d.wd=sz)/\hk w b o eA/\bh w F xs eA (λ_=>False):=by
 have bO:=(aO.cI rfl).1 h;rw[ay,gj bO.1]at bO;obtain⟨_,⟨rfl,a,c,ag,aJ⟩|⟨b,o,cap,eA,sz,ag,aJ⟩⟩:=bO
 .simp at ag;exact .inl ⟨rfl,a,c,ag,aJ⟩
 .simp at ag;exact .inr ⟨b,o,cap,eA,sz,ag,aJ⟩
theorem R7 (bx:C.eN) (h:bK w0 F0 X F S s aF w) {T ty:TypeId} {x:I} {v:Value} (aP:aO w F s aF x v (λ_=>False)) (he:rD C s T x=some av):
  Good C w0 F0 X aF w (Builtin.len_ #[T] ty #[v]) av s:=by
 unfold rD at he;split at he
 .rename_i l au;have:=oI aP;subst this;obtain⟨i,d,z,a1,bc,bb,cl,cR,b0,b7⟩:=bx.info (gi au (by simp));rw[au]at b7;have:=qA b7;subst this;simp only[some.injEq]at he;subst he;refine Good.same h ?_ rfl (of_int _ _);simp[Builtin.len_,run_underlying b0,goInt];rfl
 .rename_i e au;have:=rB aP;subst this;obtain⟨i,d,z,a1,bc,bb,cl,cR,b0,b7⟩:=bx.info (gi au (by simp));rw[au]at b7;have:=lS b7;subst this;simp only[some.injEq]at he;subst he;refine Good.same h ?_ rfl (of_int _ _);simp[Builtin.len_,run_underlying b0,goInt]
 .rename_i e xs au;obtain⟨i,d,z,a1,bc,bb,cl,cR,b0,b7⟩:=bx.info (gi au (by simp));rw[au]at b7;have:=lS b7;subst this;simp only[some.injEq]at he;subst he;refine Good.same h ?_ rfl (of_int _ _);rcases A4 aP with⟨rfl,a,c,rfl,_⟩|⟨b,o,cap,eA,sz,rfl,_⟩<;>simp[Builtin.len_,run_underlying b0,goInt]
 .rename_i e y q au;split at he
  .rename_i sz xs al;obtain⟨i,d,z,a1,bc,bb,cl,cR,b0,b7⟩:=bx.info (gi au (by simp));rw[au]at b7;have:=lS b7;subst this;simp only[some.injEq]at he;subst he;refine Good.same h ?_ rfl (of_int _ _);rcases El h aP al with⟨rfl,_,rfl⟩|⟨b,cap,cur,bc,fr,rfl,_⟩<;>simp[Builtin.len_,run_underlying b0,goInt]
  .cases he
 .cases he
def bytesOf:ahI->Option ahz
 |[]=>some []
 | .int .u8 n::r=>if 0<=n/\n<256 then(bytesOf r).map (UInt8.ofNat n.toNat::·)else none
 |_=>none
def lA (b:UInt8):I:=.int .u8 b.toNat
theorem R8 (l:ahz):bytesOf (l.map lA)=some l:=by
 induction l with
 |nil=>rfl
 |cons b l ih=>
  have U:b.toNat<256:=b.toNat_lt;simp only[map_cons,lA,bytesOf,Int.toNat_natCast];rw[if_pos (by omega),ih];simp
theorem Ep:∀(xs:ahI) (l:ahz) (cs:ahF) (aS:Nat->Prop),bytesOf xs=some l->bh w F xs cs aS->cs=l.map (λb=>.int .u8 (b.toNat:Int))/\xs.length=l.length
 |[],l,cs,aS,h,aV=>by simp[bytesOf]at h;subst h;rw[bh]at aV;subst aV;exact⟨rfl,rfl⟩
 |x::xs,l,cs,aS,h,aV=>by
  unfold bytesOf at h;split at h
  .rename_i e;cases e
  .rename_i n r e;simp only[cons.injEq]at e;obtain⟨rfl,rfl⟩:=e;split at h
   .rename_i ba;simp only[map_eq_some_iff]at h;obtain⟨bR,af,rfl⟩:=h;rw[bh]at aV;obtain⟨b1,cd,ck,dq,rfl,ag,aJ,_⟩:=aV;obtain⟨rfl,a_⟩:=Ep xs bR cd dq af aJ;rw[ay]at ag;subst ag;refine⟨?_,by simp[a_]⟩;simp only[map_cons,cons_append,nil_append,cons.injEq,and_true,Value.int.injEq,true_and];simp only[UInt8.toNat_ofNat'];omega
   .cases h
  .cases h
theorem bK.yk (h:bK w0 F0 X F S s aF w) {aK:World} {sz cap:Nat} {xs:ahI} {cur:Array Value} {e:TypeId} {fr:Nat×Nat} {Sn:Nat->Prop}
  (hw:aK.heap=w.heap.push (.cells cur e fr)) (af:aK.os=w.os) (ag:aK.tape=w.tape) (aJ:Out aK w)
  (bS:nm fr (cur.size+(sz-1))) (hle:xs.length<=cap) (hm:cap<=maxLen) (dR:cur.size=cap*sz) (kQ:∀d∈xs,d.wd=sz) (aP:bh w F xs (cur.toList.take (xs.length*sz)) Sn)
  (en:∀b,Sn b->b<w.heap.size) (bm:∀b,Sn b->¬F b) (bN:∀u b,Sn b->¬S u b) (bA:∀b,Sn b->X b\/w0.heap.size<=b):
  bK w0 F0 X F S s aF aK/\lz w0 X F S s aF aK (.ad sz xs) (.slice (some ⟨w.heap.size,0,none⟩) xs.length cap):=by
 have hold:∀b,b<w.heap.size->aK.heap[b]? =w.heap[b]? :=by
  intro b U;rw[hw,Array.getElem?_push,if_neg (by omega)]
 have af0:aK.heap.size=w.heap.size+1:=by rw[hw];simp
 refine⟨h.grow hold (by omega) af ag aJ,.inr ⟨rfl,rfl,λb=>b=w.heap.size\/Sn b,?_,?_,?_,?_,?_⟩⟩
 .simp only[ct,iy];rw[ay];refine .inr ⟨w.heap.size,cap,cur,e,fr,Sn,rfl,.inl rfl,?_,bS,hle,hm,dR,kQ,?_,λc aC=>.inr aC,λaC=>Nat.lt_irrefl _ (en _ aC)⟩
  .rw[hw];simp
  .exact bh.frame (λb U=>hold b (h.fR b U)) _ _ _ (λb U=>hold b (en b U)) aP
 .rintro b (rfl|U)
  .omega
  .have:=en b U;omega
 .rintro b (rfl|U) rA
  .exact Nat.lt_irrefl _ (h.fR _ rA)
  .exact bm b U rA
 .rintro u b (rfl|U) hu
  .exact Nat.lt_irrefl _ (h.et _ _ hu)
  .exact bN u b U hu
 .rintro b (rfl|U)
  .exact .inr h.size
  .exact bA b U
def jv (C:bV) (s:ao) (A B:TypeId) (x:I):Option I:=
 if(C.T A).ok=true then
 match(C.T B).k,x with
 | .int k,.int _ n=>some (.int k (k.wrap n))
 | .str,.str l=>match(C.T A).k with
   | .str=>some (.str l)
   |_=>none
 | .str,x=>match(C.T A).k with
   | .slice e=>match(C.T e).k with
     | .int .u8=>match x with
       | .ah=>some (.str [])
       | .slice xs=>(bytesOf xs).map .str
       | .h y q=>match I.sub q (s y)with
         |some (.ad 1 xs)=>(bytesOf xs).map .str
         |_=>none
       |_=>none
     |_=>none
   |_=>none
 | .slice e,.str l=>match(C.T A).k,(C.T e).k with
   | .str,.int .u8=>if l.length<=9223372036854775807 then some (.ad 1 (l.map lA))else none
   |_,_=>none
 |_,_=>none
 else none
theorem Kj (l:ahz) (aS:Nat->Prop):bh w F (l.map lA) (l.map λb=>.int .u8 (b.toNat:Int)) aS:=by
 induction l generalizing aS with
 |nil=>simp only[map_nil];rw[bh]
 |cons b l ih=>
  simp only[map_cons];rw[bh];exact⟨[.int .u8 (b.toNat:Int)],_,λ_=>False,λ_=>False,rfl,by rw[lA,ay],ih _,λ_ h=>h.elim,λ_ h=>h.elim,λ_ h=>h.elim⟩
theorem R9 (bx:C.eN) (h:bK w0 F0 X F S s aF w) {A B:TypeId} {x:I} {v:Value} (aP:aO w F s aF x v (λ_=>False)) (he:jv C s A B x=some av):
  Good C w0 F0 X aF w (convert A B v) av s:=by
 unfold jv at he;split at he
 .rename_i hX;obtain⟨jr,af1,af2,J,aB,eb,ed,vL,qE,qF⟩:=bx.info hX;split at he
  .rename_i k c7 n au;have:=pD aP;subst this;obtain⟨i,d,z,a1,bc,bb,cl,cR,b0,b7⟩:=bx.info (gi au (by simp));rw[au]at b7;have:=yd b7;subst this;simp only[some.injEq]at he;subst he;refine Good.same h ?_ rfl (of_int _ _);simp[convert,run_underlying qE,run_underlying b0,Conv.intToInt]
  .rename_i l au;have:=oI aP;subst this;obtain⟨i,d,z,a1,bc,bb,cl,cR,b0,b7⟩:=bx.info (gi au (by simp));rw[au]at b7;have:=qA b7;subst this;split at he
   .rename_i uf;rw[uf]at qF;have:=qA qF;subst this;simp only[some.injEq]at he;subst he;refine Good.same h ?_ rfl (pE _);simp[convert,run_underlying qE,run_underlying b0]
   .cases he
  .rename_i x au _;obtain⟨i,d,z,a1,bc,bb,cl,cR,b0,b7⟩:=bx.info (gi au (by simp));rw[au]at b7;have:=qA b7;subst this;split at he
   .rename_i e uf;rw[uf]at qF;have:=lS qF;subst this;split at he
    .rename_i yl;obtain⟨rq,bz,rr,f1,f2,f3,f4,f5,f6,f7⟩:=bx.info (gi yl (by simp));rw[yl]at f7;have:=yd f7;subst this;have fin:∀(l:ahz) (b o cap:Nat),hk w b o (l.map λb=>.int .u8 (b.toNat:Int))->(convert A B (.slice (some ⟨b,o,none⟩) l.length cap)).run C.P w= .ok (.string ⟨⟨l⟩⟩) w:=by
      intro l b o cap j0;refine run_convert_bytes_back w A B e ⟨b,o,none⟩ cap l qE f6 b0 (λaz ch=>?_);rw[Addr.add_lit];exact j0 az _ (by simp[ch])
     have nil:(convert A B (.slice none 0 0)).run C.P w= .ok (.string ⟨⟨[]⟩⟩) w:=by
      simp[convert,run_underlying qE,run_underlying b0,run_underlying f6,Conv.bytesToString];rfl
     split at he
     .have:=rB aP;subst this;simp only[some.injEq]at he;subst he;exact Good.same h nil rfl (pE _)
     .rename_i xs _;simp only[map_eq_some_iff]at he;obtain⟨l,hl,rfl⟩:=he;rcases A4 aP with⟨rfl,a,c,rfl,_,ud⟩|⟨b,o,cap,eA,sz,rfl,af,ag,aJ,a_,bC,cw⟩
      .simp[bytesOf]at hl;subst hl;cases a with
       |none=>
        have:=ud rfl;subst this;exact Good.same h nil rfl (pE _)
       |some a=>
        refine Good.same h ?_ rfl (pE _);exact run_convert_bytes_back w A B e a c [] qE f6 b0 (λaz ch=>by simp at ch)
      .obtain⟨rfl,cQ⟩:=Ep xs l eA _ hl cw;rw[cQ];exact Good.same h (fin l b o cap bC) rfl (pE _)
     .rename_i y q;split at he
      .rename_i xs al;simp only[map_eq_some_iff]at he;obtain⟨l,hl,rfl⟩:=he;rcases El h aP al with⟨rfl,a,rfl⟩|⟨b,cap,cur,bc,fr,rfl,af,ag,aJ,a_,bC,cw,aS,cQ,_⟩
       .simp[bytesOf]at hl;subst hl;cases a with
        |none=>exact Good.same h nil rfl (pE _)
        |some a=>
         refine Good.same h ?_ rfl (pE _);exact run_convert_bytes_back w A B e a 0 [] qE f6 b0 (λaz ch=>by simp at ch)
       .obtain⟨e3,jq⟩:=Ep xs l _ _ hl cQ;rw[jq];refine Good.same h (fin l b 0 cap ?_) rfl (pE _);rw[<-e3];exact vF af _
      .cases he
     .cases he
    .cases he
   .cases he
  .rename_i e l au;have:=oI aP;subst this;obtain⟨i,d,z,a1,bc,bb,cl,cR,b0,b7⟩:=bx.info (gi au (by simp));rw[au]at b7;have:=lS b7;subst this;split at he
   .rename_i uf yl;rw[uf]at qF;have:=qA qF;subst this;obtain⟨rq,bz,rr,f1,f2,f3,f4,f5,f6,f7⟩:=bx.info (gi yl (by simp));rw[yl]at f7;have:=yd f7;subst this;split at he
    .rename_i hl;simp only[some.injEq]at he;subst he;have ae:(⟨⟨l⟩⟩:ByteArray).size=l.length:=rfl;have vM:=grownCap_ge w l.length 0 e;have R_:=grownCap_le_maxLen w l.length 0 e (by unfold maxLen;omega);have Kk:(bytesRow ⟨⟨l⟩⟩ (grownCap w l.length 0 e)).toList=l.map (λb=>Value.int .u8 (b.toNat:Int))++replicate (grownCap w l.length 0 e-l.length) (.int .u8 0):=by
      simp[bytesRow,ae]
     have dR:(bytesRow ⟨⟨l⟩⟩ (grownCap w l.length 0 e)).size=grownCap w l.length 0 e*1:=by
      have:(bytesRow ⟨⟨l⟩⟩ (grownCap w l.length 0 e)).size=(bytesRow ⟨⟨l⟩⟩ (grownCap w l.length 0 e)).toList.length:=by simp
      rw[this,Kk];simp;omega
     have ub:=run_bytes_of_string w A B e ⟨⟨l⟩⟩ qE b0 f6;rw[ae]at ub;have lB:=h.yk (aK:=w.drew.alloc (.cells (bytesRow ⟨⟨l⟩⟩ (grownCap w l.length 0 e)) e ((bytesRow ⟨⟨l⟩⟩ (grownCap w l.length 0 e)).size,(bytesRow ⟨⟨l⟩⟩ (grownCap w l.length 0 e)).size+1)))
      (sz:=1) (cap:=grownCap w l.length 0 e) (xs:=l.map lA) (cur:=bytesRow ⟨⟨l⟩⟩ (grownCap w l.length 0 e)) (e:=e) (Sn:=λ_=>False) rfl rfl rfl ⟨rfl,λ_=>le_succ _⟩
      (λo b_ ⟨af,_⟩=>by simp only at af;omega) (by simpa using vM) R_ dR (by intro d al;obtain⟨b,_,rfl⟩:=mem_map.1 al;rfl)
      (by rw[Kk,take_left' (by simp)];exact Kj l _) (λ_ h=>h.elim) (λ_ h=>h.elim) (λ_ _ h=>h.elim) (λ_ h=>h.elim)
     simp only[length_map]at lB;exact⟨_,_,F,S,ub,lB.1,lB.2⟩
    .cases he
   .cases he
  .cases he
 .cases he
end
section
variable {C:bV} {w0 w:World} {F0 X F:Nat->Prop} {S:Nat->Nat->Prop} {s s1:ao} {aF:Nat->Value} {av:I}
def ix (d:Nat):Option I->Option Nat
 |none=>some d
 |some (.int _ n)=>if 0<=n then some n.toNat else none
 |some _=>none
def fW (C:bV) (s:ao) (T:TypeId) (x:I) (e5 aq:Option I):Option (I×ao):=
 match(C.T T).k,x with
 | .str,.str l=>match ix 0 e5,ix l.length aq with
   |some a,some b=>if a<=b/\b<=l.length then some (.str ((l.take b).drop a),s)else none
   |_,_=>none
 | .slice e,.ah=>match ix 0 e5,ix 0 aq with
   |some 0,some 0=>if(C.T e).ok=true then some (.ah,s)else none
   |_,_=>none
 | .slice e,.slice xs=>match ix 0 e5,ix xs.length aq with
   |some a,some b=>if a<=b/\b<=xs.length/\(C.T e).ok=true/\(∀d∈xs,d.wd=(C.T e).sz)then some (.slice ((xs.take b).drop a),s)else none
   |_,_=>none
 | .slice e,.h y q=>match I.sub q (s y)with
   |some (.ad sz xs)=>match ix 0 e5,ix xs.length aq with
    |some 0,some b=>if b<=xs.length/\(C.T e).ok=true then(match cV s (.h y q)with|some (_,s1)=>some (.ad sz (xs.take b),s1)|none=>none)else none
    |_,_=>none
   |_=>none
 |_,_=>none
def rE (w:World) (F:Nat->Prop) (s:ao) (aF:Nat->Value):Option I->Option Value->Prop
 |none,none=>True
 |some d,some v=>aO w F s aF d v (λ_=>False)
 |_,_=>False
theorem Kl {d:Nat} {o:Option I} {v:Option Value} (b_:rE w F s aF o v) {a:Nat} (h:ix d o=some a):(o=none/\v=none/\a=d)\/∃k,v=some (.int k a):=by
 cases o with
 |none=>
  cases v with
  |none=>simp[ix]at h;exact .inl ⟨rfl,rfl,h.symm⟩
  |some v=>simp[rE]at b_
 |some x=>
  cases v with
  |none=>simp[rE]at b_
  |some v=>
   simp only[rE]at b_;cases x with
   |int k n=>
    have:=pD b_;subst this;simp only[ix]at h;split at h
    .rename_i ba;simp only[some.injEq]at h;subst h;obtain⟨m,rfl⟩:=Int.eq_ofNat_of_zero_le ba;exact .inr ⟨k,rfl⟩
    .cases h
   |_=>simp[ix]at h
theorem vN {P:Program} {isS:Bool} {len cap a b:Nat} {e5 aq:Option I} {ug uh:Option Value} (oK:rE w F s aF e5 ug) (oL:rE w F s aF aq uh) (bY:ix 0 e5=some a) (U:ix len aq=some b) (iY:a<=b) (Sa:b<=cap) (_hlc:len<=cap):
  (Instr.sliceBounds isS len cap ug uh none).run P w= .ok (a,b,cap) w:=by
 rcases Kl oK bY with⟨_,rfl,rfl⟩|⟨k,rfl⟩<;>rcases Kl oL U with⟨_,rfl,rfl⟩|⟨c7,rfl⟩<;>
  simp[Instr.sliceBounds,Instr.sliceBound,asIntOf,iY,Sa]
theorem vO (bx:C.eN) {T:TypeId} (au:(C.T T).flat=true) (v:Value) (e5 aq e2:Option Value) (w:World):(Instr.sliceAt T v e5 aq e2).run C.P w=(Instr.slice T v e5 aq e2).run C.P w:=by
 obtain⟨i,d,z,a1,bc,bb,cl,cR,b0,b7⟩:=bx.info (J0 au);have dG:∀n e,d≠.array n e:=by
  clear b0;unfold gD.flat at au;generalize (C.T T).k=i_ at*;cases i_<;>cases d<;>simp[lR]at b7 au⊢
 cases d<;>first|exact(dG _ _ rfl).elim|simp[Instr.sliceAt,run_underlying b0]
theorem vP {x:gD} {k:mO} (h:x.k=k) (au:k≠.other) (ae:∀aG,k≠.struct aG) (U:∀e,k≠.d_ e:=by simp):x.flat=true:=by
 unfold gD.flat;rw[h];cases k<;>first|rfl|exact(au rfl).elim|exact(U _ rfl).elim|exact(ae _ rfl).elim
theorem bh.split:∀(n:Nat) (xs:ahI) (cs:ahF) (aS:Nat->Prop),bh w F xs cs aS->∃b1 cd ck dq,cs=b1++cd/\bh w F (xs.take n) b1 ck/\bh w F (xs.drop n) cd dq/\(∀b,ck b->aS b)/\(∀b,dq b->aS b)/\(∀b,ck b->¬dq b)
 |0,xs,cs,aS,h=>⟨[],cs,λ_=>False,aS,rfl,by rw[take_zero,bh],h,λ_ h=>h.elim,λ_ h=>h,λ_ h=>h.elim⟩
 |n+1,[],cs,aS,h=>by rw[bh]at h;subst h;exact⟨[],[],λ_=>False,λ_=>False,rfl,by rw[take_nil,bh],by rw[drop_nil,bh],λ_ h=>h.elim,λ_ h=>h.elim,λ_ h=>h.elim⟩
 |n+1,x::xs,cs,aS,h=>by
  rw[bh]at h;obtain⟨b1,cd,hF,gX,rfl,af,ag,aJ,a_,bC⟩:=h;obtain⟨d1,d2,ck,dq,rfl,aX,bk,ca,dr,er⟩:=bh.split n xs cd gX ag;refine⟨b1++d1,d2,λb=>hF b\/ck b,dq,by simp,?_,bk,?_,λb U=>a_ _ (dr _ U),?_⟩
  .rw[take_succ_cons,bh];exact⟨b1,d1,hF,ck,rfl,af,aX,λ_ h=>.inl h,λ_ h=>.inr h,λb U aC=>bC b U (ca b aC)⟩
  .rintro b (U|U)
   .exact aJ b U
   .exact a_ b (ca b U)
  .rintro b (U|U) aC
   .exact bC b U (dr b aC)
   .exact er b U aC
theorem Sb (bx:C.eN) (h:bK w0 F0 X F S s aF w) {T:TypeId} {x:I} {v:Value} {e5 aq:Option I} {ug uh:Option Value} (aA:x.plain=true) (aP:aO w F s aF x v (λ_=>False)) (oK:rE w F s aF e5 ug) (oL:rE w F s aF aq uh)
  (he:fW C s T x e5 aq=some (av,s1)):Good C w0 F0 X aF w (Instr.sliceAt T v ug uh none) av s1:=by
 unfold fW at he;split at he
 .rename_i l au;have:=oI aP;subst this;obtain⟨i,d,z,a1,bc,bb,cl,cR,b0,b7⟩:=bx.info (gi au (by simp));rw[au]at b7;have:=qA b7;subst this;split at he
  .rename_i a b bY U;split at he
   .rename_i iY;simp only[some.injEq,Prod.mk.injEq]at he;obtain⟨rfl,rfl⟩:=he;refine Good.same h ?_ rfl (pE _);rw[vO bx (vP au (by simp) (by simp))];have dR:(⟨⟨l⟩⟩:ByteArray).size=l.length:=rfl;have oM:=vN (P:=C.P) (isS:=false) (len:=l.length) (cap:=l.length) oK oL bY U iY.1 iY.2 (Nat.le_refl _);have Sc:(⟨⟨l⟩⟩:ByteArray).extract a b=⟨⟨(l.take b).drop a⟩⟩:=by
     apply ByteArray.ext;simp[ByteArray.data_extract,drop_take]
    simp[Instr.slice,run_underlying b0,dR,oM,Sc]
   .cases he
  .cases he
 .rename_i e au;have:=rB aP;subst this;obtain⟨i,d,z,a1,bc,bb,cl,cR,b0,b7⟩:=bx.info (gi au (by simp));rw[au]at b7;have:=lS b7;subst this;split at he
  .rename_i bY U;split at he
   .rename_i pH;obtain⟨rq,bz,rr,f1,f2,f3,f4,f5,f6,f7⟩:=bx.info pH;simp only[some.injEq,Prod.mk.injEq]at he;obtain⟨rfl,rfl⟩:=he;have oM:=vN (P:=C.P) (isS:=true) (len:=0) (cap:=0) oK oL bY U (Nat.le_refl _) (Nat.le_refl _) (Nat.le_refl _);refine Good.same h (v:=.slice none 0 0) ?_ rfl aP;rw[vO bx (vP au (by simp) (by simp))];simp[Instr.slice,run_underlying b0,oM,kS f1,f2]
   .cases he
  .cases he
 .rename_i e xs au;obtain⟨i,d,z,a1,bc,bb,cl,cR,b0,b7⟩:=bx.info (gi au (by simp));rw[au]at b7;have:=lS b7;subst this;split at he
  .rename_i a b bY U;split at he
   .rename_i iY;obtain⟨Sd,Km,pH,kQ⟩:=iY;obtain⟨rq,bz,rr,f1,f2,f3,f4,f5,f6,f7⟩:=bx.info pH;simp only[some.injEq,Prod.mk.injEq]at he;obtain⟨rfl,rfl⟩:=he;rcases A4 aP with⟨rfl,ui,c,rfl,ym,ud⟩|⟨j3,o,cap,eA,sz,rfl,af,ag,aJ,a_,bC,cw⟩
    .have hp:b=0:=by simpa using Km
     subst hp;have Er:a=0:=by omega
     subst Er;have oM:=vN (P:=C.P) (isS:=true) (len:=0) (cap:=c) oK oL bY U (Nat.le_refl _) (zero_le _) (zero_le _);refine Good.same h (v:=.slice ui 0 c) ?_ rfl ((aO.cI rfl).2 ⟨rfl,by rw[ay];exact .inl ⟨rfl,ui,c,rfl,ym,ud⟩⟩);rw[vO bx (vP au (by simp) (by simp))];cases ui with
     |none=>
      have:=ud rfl;subst this;simp[Instr.slice,run_underlying b0,oM,kS f1,f2]
     |some ui=>simp[Instr.slice,run_underlying b0,oM,kS f1,f2,Addr.add]
    .have oM:=vN (P:=C.P) (isS:=true) (len:=xs.length) (cap:=cap) oK oL bY U Sd (Nat.le_trans Km ag) ag;obtain⟨b1,cd,ck,dq,rfl,aX,bk,ca,dr,er⟩:=bh.split b xs eA _ cw;obtain⟨d1,d2,A5,Kn,rfl,cv,cK,eJ,cU,fq⟩:=bh.split a (xs.take b) b1 _ aX;have Es:d1.length=a*(C.T e).sz:=by
      rw[bh.length _ _ _ cv,tV _ (λd al=>kQ d (mem_of_mem_take (mem_of_mem_take al))),length_take,length_take];congr 1;omega
     have hlen:((xs.take b).drop a).length=b-a:=by simp;omega
     have j0:hk w j3 (o+a*(C.T e).sz) d2:=by
      rw[<-Es];have:hk w j3 o (d1++(d2++cd)):=by simpa using bC
      exact this.AV
     have A6:bh w F ((xs.take b).drop a) d2 (λ_=>False):=bh.mono (λ_ h=>h) _ _ _ _ (λb U=>(ca _ (cU _ U)).elim) cK;have mem:∀d∈(xs.take b).drop a,d.wd=sz:=λd al=>a_ d (mem_of_mem_take (mem_of_mem_drop al));have run:(Instr.sliceAt T (.slice (some ⟨j3,o,none⟩) xs.length cap) ug uh none).run C.P w= .ok (.slice (if cap=a then some ⟨j3,o,none⟩else some ⟨j3,o+a*(C.T e).sz,none⟩) (b-a) (cap-a)) w:=by
      rw[vO bx (vP au (by simp) (by simp))];simp[Instr.slice,run_underlying b0,oM,kS f1,f2,Addr.add_lit]
     refine⟨_,w,F,S,run,h,.inl ⟨rfl,(aO.cI rfl).2 ⟨rfl,?_⟩⟩⟩;simp only[ct,iy];rw[ay];by_cases Ko:cap=a
     .have Se:b=a:=by omega
      subst Se;have yn:(xs.take b).drop b=[]:=by simp
      rw[if_pos Ko];rw[yn]at A6⊢;rw[bh]at A6;subst A6;exact .inr ⟨j3,o,cap-b,[],sz,by simp,af,zero_le _,by omega,by simp,λaz c ch=>by simp at ch,by rw[bh]⟩
     .rw[if_neg Ko];exact .inr ⟨j3,_,cap-a,d2,sz,by rw[hlen],af,by rw[hlen];omega,by omega,mem,j0,A6⟩
   .cases he
  .cases he
 .rename_i e y q au;split at he
  .rename_i sz xs al;split at he
   .rename_i b bY U;split at he
    .rename_i sG;split at he
     .rename_i yi s2 aZ;simp only[some.injEq,Prod.mk.injEq]at he;obtain⟨rfl,rfl⟩:=he;obtain⟨i,d,z,a1,bc,bb,cl,cR,b0,b7⟩:=bx.info (gi au (by simp));rw[au]at b7;have:=lS b7;subst this;obtain⟨rq,bz,rr,f1,f2,f3,f4,f5,f6,f7⟩:=bx.info sG.2;have ue:yi= .ad sz xs:=by
       simp only[cV,al,I.plain]at aZ;simp at aZ;exact aZ.1.symm
      subst ue;obtain⟨ck,gO,aX,bk,Sn,ca,dr,er,hd,ja,mw⟩:=py h rfl aP aZ;rw[gj bk,ay]at ca;rcases ca with⟨rfl,j,lV⟩|⟨j3,cap,cur,fV,fr,aS,lV,cv,cK,eJ,cU,fq,dW,jc,c0,mU,iD⟩
      .simp at lV;subst lV;have hp:b=0:=by simpa using sG.1
       subst hp;have oM:=vN (P:=C.P) (isS:=true) (len:=0) (cap:=0) oK oL bY U (Nat.le_refl _) (Nat.le_refl _) (Nat.le_refl _);refine⟨.slice j 0 0,w,F,ck,?_,gO,.inr ⟨rfl,rfl,λ_=>False,by simp only[ct,iy];rw[ay];exact .inl ⟨rfl,_,rfl⟩,λ_ h=>h.elim,λ_ h=>h.elim,λ_ _ h=>h.elim,λ_ h=>h.elim⟩⟩;rw[vO bx (vP au (by simp) (by simp))];cases j<;>simp[Instr.slice,run_underlying b0,oM,kS f1,f2]
      .simp at lV;subst lV;have oM:=vN (P:=C.P) (isS:=true) (len:=xs.length) (cap:=cap) oK oL bY U (zero_le _) (Nat.le_trans sG.1 cU) cU;have hlen:(xs.take b).length=b:=by simp;omega
       have run:(Instr.sliceAt T (.slice (some ⟨j3,0,none⟩) xs.length cap) ug uh none).run C.P w= .ok (.slice (some ⟨j3,0,none⟩) b cap) w:=by
        rw[vO bx (vP au (by simp) (by simp))];simp[Instr.slice,run_underlying b0,oM,kS f1,f2,Addr.add_lit]
       refine⟨_,w,F,ck,run,gO,.inr ⟨rfl,rfl,Sn,?_,dr,er,hd,ja⟩⟩;simp only[ct,iy];rw[ay];obtain⟨b1,cd,hF,gX,aC,fY,g6,jt,mS,nt⟩:=bh.split b xs _ _ c0;refine .inr ⟨j3,cap,cur,fV,fr,aS,by rw[hlen],cv,cK,eJ,by omega,fq,dW,λd al=>jc d (mem_of_mem_take al),?_,mU,iD⟩;have Es:b1.length=b*sz:=by
        rw[bh.length _ _ _ fY,tV _ (λd al=>jc d (mem_of_mem_take al)),hlen]
       have:cur.toList.take ((xs.take b).length*sz)=b1:=by
        rw[hlen];have ag:b*sz<=xs.length*sz:=mul_le_mul_right _ sG.1;have:(cur.toList.take (xs.length*sz)).take (b*sz)=b1:=by rw[aC,take_left' Es]
        rwa [take_take,Nat.min_eq_left ag]at this
       rw[this];exact bh.mono (λ_ h=>h) _ _ _ _ jt fY
     .cases he
    .cases he
   .cases he
  .cases he
 .cases he
end
section
variable {C:bV} {w0 w:World} {F0 X F:Nat->Prop} {S:Nat->Nat->Prop} {s s1:ao} {aF:Nat->Value} {av:I}
def Src (P:Program) (w:World) (size:Nat) (x:Value) (m:Nat) (news:ahF):Prop:=
 ∀aK:World,aK.heap=w.heap->(Builtin.lenOf x).run P aK= .ok m aK/\(Builtin.firstCells size m x).run P aK= .ok news.toArray aK
def Et (d:TypeDesc):Prop:=(∃e,d= .slice e)\/d= .string
theorem Sf {P:Program} {T cb ty e:TypeId} {rF:TypeDesc} {i:TypeInfo} (aZ:P.underlying T=some (.slice e)) (hu:P.underlying cb=some rF) (uj:Et rF) (aq:P.info? e=some i)
  {x:Value} {m:Nat} {news:ahF} (A7:Src P w i.size x m news) {b n cap:Nat} {cur:Array Value} {fV:TypeId} {fr:Nat×Nat} {l mid r:ahF} (U:w.heap[b]? =some (.cells cur fV fr)) (bS:nm fr cur.size)
  (aC:cur.toList=l++(mid++r)) (hl:l.length=n*i.size) (hm:mid.length=news.length) (ru:∀v∈news,Value.fN v=true) (qG:n+m<=cap):
  ∃aK,(Builtin.append_ #[T,cb] ty #[.slice (some ⟨b,0,none⟩) n cap,x]).run P w= .ok (.slice (some ⟨b,0,none⟩) (n+m) cap) aK/\aK.heap[b]? =some (.cells (l++(news++r)).toArray fV fr)/\
   (∀c,c≠b->aK.heap[c]? =w.heap[c]?)/\aK.heap.size=w.heap.size/\aK.os=w.os/\aK.tape=w.tape/\Out aK w:=by
 obtain⟨aK,fY,g6⟩:=Eh (P:=P) (b:=b) (o:=n*i.size) (e:=fV) (fr:=fr) news 0 cur w l mid r U bS aC (by omega) hm ru;refine⟨aK,?_,g6⟩;obtain⟨af,ag⟩:=A7 w rfl;rcases uj with⟨dJ,rfl⟩|rfl<;>simp[Builtin.append_,run_underlying aZ,run_underlying hu,kS aq,af,ag,qG,Addr.add_lit,fY]
theorem Sg {P:Program} {T cb ty e:TypeId} {rF:TypeDesc} {i:TypeInfo} {z:Value} (aZ:P.underlying T=some (.slice e)) (hu:P.underlying cb=some rF) (uj:Et rF) (aq:P.info? e=some i) (b3:i.zero=some z)
  {x:Value} {m:Nat} {news:ahF} (A7:Src P w i.size x m news) {base:Option Addr} {n cap:Nat} {pI:ahF} (hold:Src P w i.size (.slice base n cap) n pI) (qG:¬n+m<=cap)
  (ba:n+m<=9223372036854775807) (Eu:(n+m)*i.bytes<=140737488355328):
  (Builtin.append_ #[T,cb] ty #[.slice base n cap,x]).run P w= .ok (.slice (some ⟨w.heap.size,0,none⟩) (n+m) (grownCap w (n+m) cap e))
   (w.drew.alloc (.cells (pI.toArray++news.toArray++Builtin.zeroCells z.cells (grownCap w (n+m) cap e-(n+m))) e)):=by
 have af:=(A7 w rfl).1;have ag:=(A7 w.drew rfl).2;have aJ:=(hold w.drew rfl).2;have af3:=growslice_fits (need:=n+m) (old:=cap) (by omega) Eu;have iB:¬(281474976710656<Builtin.nextslicecap (n+m) cap*i.bytes):=by omega
 have vQ:∀k (w:World),(askRoom k).run P w= .ok () w:=by
  intro k w;unfold askRoom;split<;>rfl
 have Ev:¬(9223372036854775807<(n:Int)+(m:Int)/\i.bytes=0):=by omega
 rcases uj with⟨dJ,rfl⟩|rfl<;>
  .simp[Builtin.append_,run_underlying aZ,run_underlying hu,kS aq,t_ aq,af,qG,iB,Question.forced,vQ];rw[if_neg Ev,aJ];simp[ag,ua aq b3,newRow,grownCap];have a1:(pI++news).toArray=pI.toArray++news.toArray:=by simp
   rw[a1,Array.append_assoc]
def A8 (C:bV) (e cb:TypeId):Bool:=match(C.T cb).k,(C.T e).k with
 | .slice dJ,_=>dJ==e
 | .str,.int .u8=>true
 |_,_=>false
def rG (C:bV) (s:ao) (T cb:TypeId) (x y:I):Option (I×ao):=
 match(C.T T).k with
 | .slice e=>if(C.T e).ok=true/\(C.T e).zero.wd=(C.T e).sz/\(flat (C.T e).zero).isSome=true/\A8 C e cb=true then
   match(match x with| .ah=>some (I.ad (C.T e).sz [],s)| .h a q=>cV s (.h a q)|_=>none)with
   |some (.ad sz xs,s1)=>if sz=(C.T e).sz then
     match(match k9 x.owner y with
      | .ah=>some ([],s1)
      | .slice cr=>some (cr,s1)
      | .str l=>some (l.map lA,s1)
      | .h a q=>match cV s1 (.h a q)with
        |some (.ad _ cr,s2)=>some (cr,s2)
        |_=>none
      |_=>none)with
     |some (cr,s2)=>if(∀d∈cr,d.wd=(C.T e).sz)/\(xs.length+cr.length)*(C.T e).bytes<=140737488355328/\xs.length+cr.length<=9223372036854775807 then some (.ad sz (xs++cr),s2)else none
     |none=>none
    else none
   |_=>none
   else none
 |_=>none
theorem bh.append {xs cr:ahI} {b1 cd:ahF} {ck dq aS:Nat->Prop} (af:bh w F xs b1 ck) (ag:bh w F cr cd dq) (a1:∀b,ck b->aS b) (bc:∀b,dq b->aS b) (bb:∀b,ck b->¬dq b):bh w F (xs++cr) (b1++cd) aS:=by
 induction xs generalizing b1 ck aS with
 |nil=>rw[bh]at af;subst af;exact bh.mono (λ_ h=>h) _ _ _ _ bc ag
 |cons x xs ih=>
  rw[bh]at af;obtain⟨Sh,Si,hF,gX,rfl,aX,bk,ca,dr,er⟩:=af;rw[cons_append,bh];refine⟨Sh,Si++cd,hF,λb=>gX b\/dq b,by simp,aX,ih bk (λb h=>.inl h) (λb h=>.inr h) (λb h=>bb b (dr b h)),λb h=>a1 b (ca b h),?_,?_⟩
  .rintro b (h|h)
   .exact a1 b (dr b h)
   .exact bc b h
  .rintro b h (bO|bO)
   .exact er b h bO
   .exact bb b (ca b h) bO
theorem Ew {P:Program} {size m cap:Nat} {b o:Nat} {news:ahF} (j0:hk w b o news) (hl:news.length=m*size):Src P w size (.slice (some ⟨b,o,none⟩) m cap) m news:=by
 intro aK hw;refine⟨rfl,?_⟩;refine run_firstCells_some aK size m ⟨b,o,none⟩ m cap news hl (λaz v ch=>?_);rw[Addr.add_lit];have:=j0 az v ch;simpa [World.cell?,hw]using this
theorem Kp {P:Program} {size cap:Nat}:Src P w size (.slice none 0 cap) 0 []:=by
 intro aK _;exact⟨rfl,by simp[Builtin.firstCells]⟩
theorem Ex {P:Program} {size cap:Nat} (a:Option Addr):Src P w size (.slice a 0 cap) 0 []:=by
 cases a with
 |none=>exact Kp
 |some a=>
  intro aK _;exact⟨rfl,run_firstCells_some aK size 0 a 0 cap [] (by simp) (λaz v ch=>by simp at ch)⟩
theorem Sj {P:Program} (l:ahz):Src P w 1 (.string ⟨⟨l⟩⟩) l.length (l.map λb=>.int .u8 (b.toNat:Int)):=by
 intro aK _;refine⟨rfl,?_⟩;have:(⟨⟨l⟩⟩:ByteArray).extract 0 l.length=⟨⟨l⟩⟩:=by
  apply ByteArray.ext;simp[ByteArray.data_extract]
 simp[Builtin.firstCells,this]
theorem bh.uk {sz:Nat} {xs:ahI} {cs:ahF} {aS:Nat->Prop} (h:bh w F xs cs aS) (hw:∀d∈xs,d.wd=sz):cs.length=xs.length*sz:=by
 rw[bh.length _ _ _ h,tV _ hw]
theorem bK.turn (h:bK w0 F0 X F S s aF w) {aK:World} {b:Nat} (U:∀c,c≠b->aK.heap[c]? =w.heap[c]?) (ae:aK.heap.size=w.heap.size) (af:aK.os=w.os) (ag:aK.tape=w.tape) (aJ:Out aK w)
  (bm:¬F b) (bN:∀u,¬S u b) (bA:X b\/w0.heap.size<=b):bK w0 F0 X F S s aF aK where
 g5:=h.g5
 ho:=h.ho
 fR:=λc aC=>by rw[ae];exact h.fR c aC
 et:=λt c aC=>by rw[ae];exact h.et t c aC
 fS:=h.fS
 fe:=h.fe
 dI:=h.dI
 dz:=λt=>aO.frame (Sx:=S) (λc aC=>U c (by rintro rfl;exact bm aC)) (λ_ h=>h) (λx c aC=>U c (by rintro rfl;exact bN x aC)) h.dz _ _ _ (λc aC=>U c (by rintro rfl;exact bN t aC)) (h.dz t)
 old:=λc en j1=>by
  rw[U c ?_]
  .exact h.old c en j1
  .rintro rfl;rcases bA with bA|bA
   .exact j1 bA
   .omega
 size:=by rw[ae];exact h.size
 os:=af.trans h.os
 tape:=ag.trans h.tape
 output:=aJ.trans h.output
 hG:=h.hG
theorem Sk (bx:C.eN) (h:bK w0 F0 X F S s aF w) {T cb ty:TypeId} {x y:I} {ff gP:Value} (aA:aO w F s aF x ff (λ_=>False)) (bu:aO w F s aF y gP (λ_=>False))
  (he:rG C s T cb x y=some (av,s1)):Good C w0 F0 X aF w (Builtin.append_ #[T,cb] ty #[ff,gP]) av s1:=by
 unfold rG at he;split at he
 .rename_i e au;obtain⟨Ey,d,Ez,a1,bc,bb,cl,cR,b0,b7⟩:=bx.info (gi au (by simp));rw[au]at b7;have:=lS b7;subst this;split at he
  .rename_i uc;obtain⟨pH,qH,rH,qI⟩:=uc;obtain⟨i,EA,z,f1,f2,f3,f4,f5,f6,f7⟩:=bx.info pH;obtain⟨fs,nu⟩:=isSome_iff_exists.1 rH;have rI:=f5 fs nu;have pJ:fs.length=(C.T e).sz:=by
    have:=ay.length _ _ _ ((ay.flat (w:=w) (F:=F) _).1 (C.T e).zero fs (λ_=>False) (Nat.le_refl _) nu);rw[this,qH]
   obtain⟨rF,hu,uj⟩:∃rF,C.P.underlying cb=some rF/\Et rF:=by
    unfold A8 at qI;split at qI
    .rename_i dJ g8;obtain⟨_,bz,_,_,_,_,_,_,hd,ja⟩:=bx.info (gi g8 (by simp));rw[g8]at ja;exact⟨bz,hd,.inl ⟨_,lS ja⟩⟩
    .rename_i g8 _;obtain⟨_,bz,_,_,_,_,_,_,hd,ja⟩:=bx.info (gi g8 (by simp));rw[g8]at ja;exact⟨bz,hd,.inr (qA ja)⟩
    .cases qI
   split at he
   .rename_i sz xs Kq rJ;split at he
    .rename_i dR;subst dR;split at he
     .rename_i cr A9 oN;split at he
      .rename_i Sl;obtain⟨vR,Eu,yo⟩:=Sl;simp only[some.injEq,Prod.mk.injEq]at he;obtain⟨rfl,rfl⟩:=he;obtain⟨hF,j,Sn,eb,ed,vL,qE,qF,af4,af5,sH⟩:∃hF,bK w0 F0 X F hF Kq aF w/\∃Sn,ay w F (.ad (C.T e).sz xs) [ff] Sn/\(∀b,Sn b->b<w.heap.size)/\(∀b,Sn b->¬F b)/\(∀u b,Sn b->¬hF u b)/\
         (∀b,Sn b->X b\/w0.heap.size<=b)/\(∀u b,hF u b->S u b)/\(∀b,Sn b->∃u,S u b)/\aO w F Kq aF (k9 x.owner y) gP (λ_=>False):=by
        split at rJ
        .simp only[some.injEq,Prod.mk.injEq,I.ad.injEq,true_and]at rJ;obtain⟨rfl,rfl⟩:=rJ;have:=rB aA;subst this;exact⟨S,h,λ_=>False,by rw[ay];exact .inl ⟨rfl,_,rfl⟩,λ_ h=>h.elim,λ_ h=>h.elim,λ_ _ h=>h.elim,λ_ h=>h.elim,λ_ _ h=>h,λ_ h=>h.elim,bu⟩
        .obtain⟨ck,gO,aX,bk,Sn,ca,dr,er,hd,ja,mw,yp,A_⟩:=py h rfl aA rJ;rw[gj bk]at ca;exact⟨ck,gO,Sn,ca,dr,er,hd,ja,mw,yp,A_ _ _ _ bu⟩
        .cases rJ
       obtain⟨gX,j3,n1,news,gr,dL,jd,cX,c9,eZ,n2,dx⟩:∃gX,bK w0 F0 X F gX A9 aF w/\∃n1 news,bh w F cr news n1/\Src C.P w i.size gP cr.length news/\(∀b,n1 b->b<w.heap.size)/\(∀b,n1 b->¬F b)/\(∀u b,n1 b->¬gX u b)/\
         (∀b,n1 b->X b\/w0.heap.size<=b)/\(∀u b,gX u b->hF u b)/\(∀b,n1 b->∃u,hF u b):=by
        split at oN
        .rename_i um;simp only[some.injEq,Prod.mk.injEq]at oN;obtain⟨rfl,rfl⟩:=oN;rw[um]at sH;have:=rB sH;subst this;exact⟨hF,j,λ_=>False,[],by rw[bh],Kp,λ_ h=>h.elim,λ_ h=>h.elim,λ_ _ h=>h.elim,λ_ h=>h.elim,λ_ _ h=>h,λ_ h=>h.elim⟩
        .rename_i eS um;simp only[some.injEq,Prod.mk.injEq]at oN;obtain⟨rfl,rfl⟩:=oN;rw[um]at sH;rcases A4 sH with⟨rfl,ui,af6,rfl,_,ud⟩|⟨b,o,cap,eA,Sm,rfl,cv,cK,eJ,cU,fq,dW⟩
         .exact⟨hF,j,λ_=>False,[],by rw[bh],Ex ui,λ_ h=>h.elim,λ_ h=>h.elim,λ_ _ h=>h.elim,λ_ h=>h.elim,λ_ _ h=>h,λ_ h=>h.elim⟩
         .exact⟨hF,j,λ_=>False,eA,dW,Ew fq (by rw[f2];exact bh.uk dW vR),λ_ h=>h.elim,λ_ h=>h.elim,λ_ _ h=>h.elim,λ_ h=>h.elim,λ_ _ h=>h,λ_ h=>h.elim⟩
        .rename_i l um;simp only[some.injEq,Prod.mk.injEq]at oN;obtain⟨rfl,rfl⟩:=oN;rw[um]at sH;have:=oI sH;subst this;have EB:l≠[]->i.size=1:=by
          intro hl;cases l with
          |nil=>exact(hl rfl).elim
          |cons b l=>rw[f2,<-vR (lA b) (by simp)];rfl
         by_cases hl:l=[]
         .subst hl;refine⟨hF,j,λ_=>False,[],by simp only[map_nil];rw[bh],?_,λ_ h=>h.elim,λ_ h=>h.elim,λ_ _ h=>h.elim,λ_ h=>h.elim,λ_ _ h=>h,λ_ h=>h.elim⟩;intro aK _;exact⟨rfl,by simp[Builtin.firstCells,ByteArray.extract];rfl⟩
         .refine⟨hF,j,λ_=>False,_,Kj l _,?_,λ_ h=>h.elim,λ_ h=>h.elim,λ_ _ h=>h.elim,λ_ h=>h.elim,λ_ _ h=>h,λ_ h=>h.elim⟩;rw[EB hl,length_map];exact Sj l
        .rename_i a q um;split at oN
         .rename_i af7 eS s2 aZ;simp only[some.injEq,Prod.mk.injEq]at oN;obtain⟨rfl,rfl⟩:=oN;rw[um]at sH;obtain⟨dq,gO,aX,bk,n1,ca,dr,er,hd,ja,mw,yp,A_⟩:=py j rfl sH aZ;rw[gj bk,ay]at ca;rcases ca with⟨rfl,So,lV⟩|⟨b,cap,cur,fV,fr,aS,lV,cv,cK,eJ,cU,fq,dW,jc,c0,mU,iD⟩
          .simp at lV;subst lV;exact⟨dq,gO,λ_=>False,[],by rw[bh],(Ex So),λ_ h=>h.elim,λ_ h=>h.elim,λ_ _ h=>h.elim,λ_ h=>h.elim,mw,λ_ h=>h.elim⟩
          .simp at lV;subst lV;refine⟨dq,gO,aS,_,c0,Ew (vF cK _) ?_,λc aC=>dr c (mU c aC),λc aC=>er c (mU c aC),λu c aC=>hd u c (mU c aC),λc aC=>ja c (mU c aC),mw,λc aC=>yp c (mU c aC)⟩;rw[f2];exact bh.uk c0 vR
         .cases oN
        .cases oN
       have sI:news.length=cr.length*(C.T e).sz:=bh.uk gr vR;have oO:∀c,Sn c->¬n1 c:=λc af ag=>by obtain⟨u,hu⟩:=dx c ag;exact qE u c af hu
       have iY:∀u c,Sn c->¬gX u c:=λu c af ag=>qE u c af (n2 u c ag);have grow:∀(base:Option Addr) (cap:Nat) (pI:ahF) (Sx:Nat->Prop),ff= .slice base xs.length cap->Src C.P w i.size (.slice base xs.length cap) xs.length pI->bh w F xs pI Sx->(∀d∈xs,d.wd=(C.T e).sz)->(∀c,Sx c->Sn c)->¬xs.length+cr.length<=cap->
         Good C w0 F0 X aF w (Builtin.append_ #[T,cb] ty #[ff,gP]) (.ad (C.T e).sz (xs++cr)) A9:=by
        intro base cap pI Sx Ei hold Kr Ks fz qG;subst Ei;have aV:=Sg (ty:=ty) b0 hu uj f1 f4 dL hold qG yo (by rw[f3];exact Eu);have vM:=grownCap_ge w (xs.length+cr.length) cap e;have ym:=grownCap_le_maxLen w (xs.length+cr.length) cap e (by unfold maxLen;omega);have yq:=bh.uk Kr Ks;have Sp:bh w F (xs++cr) (pI++news) (λc=>Sx c\/n1 c):=bh.append Kr gr (λ_ h=>.inl h) (λ_ h=>.inr h) (λc af ag=>oO c (fz c af) ag);have Sq:(pI++news).length=(xs++cr).length*(C.T e).sz:=by simp[yq,sI,Nat.add_mul]
        have lB:=j3.yk (aK:=w.drew.alloc (.cells (pI.toArray++news.toArray++Builtin.zeroCells z.cells (grownCap w (xs.length+cr.length) cap e-(xs.length+cr.length))) e))
         (sz:=(C.T e).sz) (cap:=grownCap w (xs.length+cr.length) cap e) (xs:=xs++cr) (e:=e) (fr:=(0,0)) (Sn:=λc=>Sx c\/n1 c) rfl rfl rfl ⟨rfl,λ_=>le_succ _⟩
         (λo _ ⟨_,ag⟩=>absurd ag (not_lt_zero _)) (by simpa using vM) ym
         (by
          simp only[Array.size_append,List.size_toArray,size_zeroCells,rI,yq,sI,pJ,<-Nat.add_mul];congr 1;omega)
         (by
          intro d al;rcases mem_append.1 al with al|al
          .exact Ks d al
          .exact vR d al)
         (by
          simp only[Array.toList_append];rw[take_left' Sq];exact Sp)
         (by rintro c (aC|aC);exact ed c (fz c aC);exact jd c aC) (by rintro c (aC|aC);exact vL c (fz c aC);exact cX c aC) (by rintro u c (aC|aC);exact iY u c (fz c aC);exact c9 u c aC) (by rintro c (aC|aC);exact qF c (fz c aC);exact eZ c aC)
        refine⟨_,_,F,gX,aV,lB.1,?_⟩;have:=lB.2;simpa using this
       rw[ay]at eb;rcases eb with⟨rfl,Ba,lV⟩|⟨b,cap,cur,fV,fr,aS,lV,cv,cK,eJ,cU,fq,dW,jc,c0,mU,iD⟩
       .simp at lV;subst lV;by_cases Kt:cr=[]
        .subst Kt;have EC:news=[]:=by simpa using sI
         subst EC;refine⟨.slice Ba 0 0,w,F,gX,?_,j3,.inr ⟨rfl,rfl,λ_=>False,by simp only[ct,iy];rw[ay];exact .inl ⟨rfl,_,rfl⟩,λ_ h=>h.elim,λ_ h=>h.elim,λ_ _ h=>h.elim,λ_ h=>h.elim⟩⟩;obtain⟨af,ag⟩:=dL w rfl;cases Ba<;>rcases uj with⟨dJ,rfl⟩|rfl<;>simp at af ag<;>simp[Builtin.append_,run_underlying b0,run_underlying hu,kS f1,af,ag,storeCells]
        .exact grow Ba 0 [] (λ_=>False) rfl (Ex Ba) (by rw[bh]) (by simp) (λ_ h=>h.elim) (by
          cases cr with
          |nil=>exact(Kt rfl).elim
          |cons y cr=>simp)
       .simp at lV;subst lV;by_cases qG:xs.length+cr.length<=cap
        ·
         have yq:=bh.uk c0 jc;have hlen:cur.toList.length=cap*(C.T e).sz:=by simp[dW]
         have hle:(xs.length+cr.length)*(C.T e).sz<=cap*(C.T e).sz:=mul_le_mul_right _ qG;rw[Nat.add_mul]at hle;have kP:cur.toList=cur.toList.take (xs.length*(C.T e).sz)++((cur.toList.drop (xs.length*(C.T e).sz)).take news.length++(cur.toList.drop (xs.length*(C.T e).sz)).drop news.length):=by
          rw[take_append_drop,take_append_drop]
         obtain⟨aK,fY,g6,jt,mS,nt,ry,rz⟩:=Sf (ty:=ty) (n:=xs.length) (m:=cr.length) (cap:=cap) b0 hu uj f1 dL cK eJ.low kP (by rw[f2];exact yq) (by simp[hlen,sI];omega) (bh.pB _ _ _ gr) qG;have Sr:=j3.turn jt mS nt ry rz (vL b cv) (λu hu=>iY u b cv hu) (qF b cv);have qy:∀c,F c->aK.heap[c]? =w.heap[c]? :=λc aC=>jt c (by rintro rfl;exact vL _ cv aC);refine⟨_,aK,F,gX,fY,Sr,.inr ⟨rfl,rfl,λc=>Sn c\/n1 c,?_,?_,?_,?_,?_⟩⟩
         .simp only[ct,iy];rw[ay];have Ku:(cur.toList.take (xs.length*(C.T e).sz)++(news++(cur.toList.drop (xs.length*(C.T e).sz)).drop news.length)).toArray.size=cur.size:=by
           have:cur.size=cur.toList.length:=by simp
           rw[this];conv=>rhs;rw[kP]
           simp[hlen,sI];omega
          refine .inr ⟨b,cap,_,fV,fr,λc=>aS c\/n1 c,by simp,.inl cv,g6,by rw[Ku];exact eJ,by simpa using qG,fq,by rw[Ku];exact dW,?_,?_,?_,?_⟩
          .intro d al;rcases mem_append.1 al with al|al
           .exact jc d al
           .exact vR d al
          .have sF:=bh.frame qy _ _ _ (λc aC=>jt c (by rintro rfl;exact iD aC)) c0;have tZ:=bh.frame qy _ _ _ (λc aC=>jt c (by rintro rfl;exact oO _ cv aC)) gr;have:((cur.toList.take (xs.length*(C.T e).sz)++(news++(cur.toList.drop (xs.length*(C.T e).sz)).drop news.length)).toArray.toList.take ((xs++cr).length*(C.T e).sz))=cur.toList.take (xs.length*(C.T e).sz)++news:=by
            simp only[];rw[<-append_assoc];exact take_left' (by rw[length_append,yq,sI,length_append,Nat.add_mul])
           rw[this];exact bh.append sF tZ (λ_ h=>.inl h) (λ_ h=>.inr h) (λc af ag=>oO c (mU c af) ag)
          .rintro c (aC|aC)
           .exact .inl (mU c aC)
           .exact .inr aC
          .rintro(aC|aC)
           .exact iD aC
           .exact oO b cv aC
         .rw[mS];rintro c (aC|aC);exact ed c aC;exact jd c aC
         .rintro c (aC|aC);exact vL c aC;exact cX c aC
         .rintro u c (aC|aC);exact iY u c aC;exact c9 u c aC
         .rintro c (aC|aC);exact qF c aC;exact eZ c aC
        .exact grow (some ⟨b,0,none⟩) cap _ aS rfl (Ew (vF cK _) (by rw[f2];exact bh.uk c0 jc)) c0 jc mU qG
      .cases he
     .cases he
    .cases he
   .cases he
  .cases he
 .cases he
end
section
variable {C:bV} {w0 w aK:World} {F0 X F:Nat->Prop} {S:Nat->Nat->Prop} {s s1:ao} {aF:Nat->Value} {av:I}
theorem bK.Ss (h:bK w0 F0 X F S s aF w) {x:Nat} {q:ahC} {d bz:I} {b:Nat} (al:I.sub q (s x)=some d) (aw:d.plain=false) (St:bz.tree=true) (af:∀v,iN d v->iN bz v) (ae:∀v,dy d v->dy bz v)
  (ag:∀vs,bz≠.tuple vs) (kQ:bz.wd=d.wd) (U:∀cO a fy,dh w q (s x) (ct (aF x)) none=some (d,cO,a)->ay w F d cO fy->fy b/\ay aK F bz cO fy) (oF:∀c,c≠b->aK.heap[c]? =w.heap[c]?) (dR:aK.heap.size=w.heap.size) (D9:aK.os=w.os)
  (D_:aK.tape=w.tape) (tX:Out aK w):∃aS,bK w0 F0 X F aS (cY (hV x s) x (I.put q bz (s x))) aF aK:=by
 have aZ:=h7 al (.inl aw);have aA:=h.dz x;rw[aO.cI aZ]at aA;obtain⟨cO,a,ei,fy,gO,aX,bk,ca,dr,er⟩:=ctx q (s x) (ct (aF x)) (S x) none d aA.2 al;obtain⟨tY,aP⟩:=U cO a fy gO dr;have pK:S x b:=bk b tY;have qy:∀c,F c->aK.heap[c]? =w.heap[c]? :=λc aC=>oF c (by rintro rfl;exact h.fS x _ pK aC);have vJ:∀c,ei c->c≠b:=λc aC e=>ca c aC (e▸tY);have kO:ay aK F (I.put q bz (s x)) (ct (aF x)) (λc=>ei c\/fy c):=by
  rcases er with⟨l,r,a1,bc,bb⟩|⟨j3,cur,e,fr,l,r,a1,bc,bb,cl,cR,b0⟩
  .rw[a1];exact bb aK bz cO fy qy (λc aC=>oF c (vJ c aC)) kQ aP (λc aC nY=>ca c nY aC)
  .refine b0 aK bz cO fy qy (λc aC _=>oF c (vJ c aC)) ?_ kQ aP (λc aC nY=>ca c nY aC);rw[oF j3 (vJ j3 bc),bb,<-cR]
 have x8:dy (I.put q bz (s x)) (aF x)/\(I.put q bz (s x)).tree=true:=by
  cases q with
  |nil=>
   simp only[I.sub,some.injEq]at al;simp only[I.put];exact⟨ae _ (al▸aA.1),St⟩
  |cons k q=>
   refine⟨x7 aA.1 al af (λ_=>ag) kQ,?_⟩;rcases sB k q bz (s x)with⟨aG,gs,a1,e⟩|⟨aG,gs,a1,e⟩|⟨sz,xs,cr,a1,e⟩|⟨y,z,a1,e⟩|e<;>rw[e]<;>first|rfl|exact aZ
 let aH:=cY (hV x s) x (I.put q bz (s x))
 have hb:∀y,y≠x->(aH y).tree=true->aH y=s y/\aF y=aF y:=λy bu aZ=>by
  have e:aH y=dD.cp x (s y):=iz _ _ bu;rw[e]at aZ⊢;exact⟨(AQ aZ).2,rfl⟩
 have fQ:(aH x).plain=false->(s x).plain=false/\∀v,dy (s x) v->dy (aH x) v:=by
  intro _;refine⟨?_,λv aP=>?_⟩
  .cases cq:(s x).plain with
   |false=>rfl
   |true=>rw[I.D3 _ _ _ cq al]at aw;cases aw
  .simp only[aH,mv];cases q with
   |nil=>
    simp only[I.sub,some.injEq]at al;simp only[I.put];exact ae _ (al▸aP)
   |cons k q=>exact x7 aP al af (λ_=>ag) kQ
 have both:∀c,(ei c\/fy c)->S x c:=λc aC=>aC.elim (aX c) (bk c);refine⟨gm S x (λc=>ei c\/fy c),?_⟩;constructor;case g5=>exact h.g5
 case ho=>exact h.ho
 case fR=>exact λb U=>by rw[dR];exact h.fR b U
 case et=>
  intro u c U;rw[dR];simp only[gm]at U;split at U
  .exact h.et x c (both c U)
  .exact h.et u c U
 case fS=>
  intro u c U;simp only[gm]at U;split at U
  .exact h.fS x c (both c U)
  .exact h.fS u c U
 case fe=>
  intro u y c dG U bu;simp only[gm]at U bu;split at U
  .rename_i hu;rw[if_neg (λe=>dG (hu.trans e.symm))]at bu;exact h.fe x y c (λe=>dG (hu.trans e)) (both c U) bu
  .rename_i hu;split at bu
   .exact h.fe u x c hu U (both c bu)
   .exact h.fe u y c dG U bu
 case dI=>
  intro u c U;simp only[gm]at U;split at U
  .exact h.dI x c (both c U)
  .exact h.dI u c U
 case dz=>
  intro u;by_cases hu:u=x
  .subst hu;rw[mv,x5];exact(aO.cI x8.2).2 ⟨x8.1,kO⟩
  .rw[iz _ _ hu,x6 _ _ hu];have dG:∀y c,y≠x->S y c->aK.heap[c]? =w.heap[c]? :=λy c bu aC=>oF c (by rintro rfl;exact h.fe y x c bu aC pK);refine(aO.cp hb rfl fQ (λy fF d2 bu iA x9=>?_) qy _).1 _ _ _ (Nat.le_refl _) (λc aC=>dG u c hu aC) (h.dz u);have x_:=h.dz y;rw[aO.cI (h7 iA x9)]at x_;exact AP fF _ _ _ none d2 x_.2 iA (λc aC=>dG y c bu aC)
 case old=>
  intro c en j1;rw[oF c ?_]
  .exact h.old c en j1
  .rintro rfl;rcases h.dI x c pK with bA|bA
   .exact j1 bA
   .omega
 case size=>rw[dR];exact h.size
 case os=>exact D9.trans h.os
 case tape=>exact D_.trans h.tape
 case output=>exact tX.trans h.output
 case hG=>exact h.hG
def Kv (P:Program) (t:TypeId):Bool:=match P.info? t with
 |some i=>match i.zero with
  |some (.bool false)=>true
  |_=>false
 |none=>false
def Bb (C:bV) (T:TypeId):Bool:=match(C.T T).k with
 | .map pL sJ=>match(C.T pL).k with
   | .str=>Kv C.P sJ
   |_=>false
 |_=>false
def oP (C:bV) (s:ao) (T:TypeId) (x i:I):Option I:=match x,i with
 | .h y q,.str k=>match I.sub q (s y)with
   |some (.dN (.mp m))=>if Bb C T=true then some (.bool (sw k m))else none
   |_=>none
 |_,_=>none
def nv (C:bV) (s:ao) (T:TypeId) (x i v:I):Option ao:=match x,i,v with
 | .h y q,.str k,.bool b=>match I.sub q (s y)with
   |some (.dN (.mp m))=>if Bb C T=true then some (cY (hV y s) y (I.put q (.dN (.mp (qx k b m))) (s y)))else none
   |_=>none
 |_,_,_=>none
theorem Kw (bx:C.eN) {T:TypeId} (h:Bb C T=true):∃pL sJ,C.P.underlying T=some (.map pL sJ)/\C.P.underlying pL=some .string/\∀w,(zeroValue sJ).run C.P w= .ok (.bool false) w:=by
 unfold Bb at h;split at h
 .rename_i pL sJ au;split at h
  .rename_i af;obtain⟨i,d,z,a1,bc,bb,cl,cR,b0,b7⟩:=bx.info (gi au (by simp));obtain⟨rq,bz,rr,f1,f2,f3,f4,f5,f6,f7⟩:=bx.info (gi af (by simp));rw[au]at b7;rw[af]at f7;have:=qA f7;subst this;refine⟨pL,sJ,?_,f6,λw=>?_⟩
   .rw[b0];cases d<;>simp[lR]at b7;rw[b7.1,b7.2]
   .unfold Kv at h;split at h
    .rename_i pt aX;split at h
     .rename_i bk;exact ua aX bk w
     .cases h
    .cases h
  .cases h
 .cases h
theorem ED (a b:ByteArray):(a==b)=true↔a=b:=by
 constructor
 .intro h;exact ByteArray.ext (eq_of_beq (show(a.data==b.data)=true from h))
 .rintro rfl;show(a.data==a.data)=true;simp
theorem EE (k:ahz) (b:Bool):∀(es:List MapEntry) (m:gk) (i:Nat),es.map (λe=>(e.key,e.val))=m.map (λe=>(.string ⟨⟨e.1⟩⟩,.bool e.2))->
  (Instr.findNow .string (.string ⟨⟨k⟩⟩) es i=some none/\sw k m=false/\qx k b m=m++[(k,b)])\/
  ∃az e,es[az]? =some e/\e.key= .string ⟨⟨k⟩⟩/\Instr.findNow .string (.string ⟨⟨k⟩⟩) es i=some (some (i+az,.bool (sw k m)))/\qx k b m=m.set az (k,b)
 |[],m,i,h=>by
  have:m=[]:=by simpa using h.symm
  subst this;exact .inl ⟨rfl,rfl,rfl⟩
 |e::es,[],i,h=>by simp at h
 |e::es,(c7,ee)::m,i,h=>by
  simp only[map_cons,cons.injEq,Prod.mk.injEq]at h;obtain⟨⟨af,ag⟩,aJ⟩:=h;by_cases au:c7=k
  .subst au;refine .inr ⟨0,e,rfl,af,?_,by simp[qx]⟩;have:(((⟨⟨c7⟩⟩:ByteArray)==⟨⟨c7⟩⟩))=true:=(ED _ _).2 rfl;simp only[Instr.findNow,af,ag,Instr.sameNow,sw,this,if_true,Nat.add_zero]
  .have ba:((⟨⟨k⟩⟩:ByteArray)==⟨⟨c7⟩⟩)=false:=by
    refine Bool.eq_false_iff.2 λe=>au ?_;have:=(ED _ _).1 e;simp only[ByteArray.mk.injEq,Array.mk.injEq]at this;exact this.symm
   rcases EE k b es m (i+1) aJ with⟨aX,bk,ca⟩|⟨az,dJ,aX,bk,ca,dr⟩
   .refine .inl ⟨?_,?_,?_⟩
    .simp only[Instr.findNow,af,Instr.sameNow,ba];exact aX
    .simp[sw,au,bk]
    .simp[qx,au,ca]
   .refine .inr ⟨az+1,dJ,aX,bk,?_,?_⟩
    .simp only[Instr.findNow,af,Instr.sameNow,ba];rw[ca];simp[sw,au,Nat.add_assoc,Nat.add_comm 1 az]
    .simp[qx,au,dr]
theorem Bc {P:Program} {pL:TypeId} (au:P.underlying pL=some .string) (e:Bool) (k:ByteArray) (w:World):(Instr.checkKey e 10000 pL (.string k)).run P w= .ok () w:=by
 unfold Instr.checkKey;simp[run_underlying au]
theorem Kx (h:bK w0 F0 X F S s aF w) {y:Nat} {q:ahC} {m:gk} {v:Value} (aP:aO w F s aF (.h y q) v (λ_=>False)) (al:I.sub q (s y)=some (.dN (.mp m))):
  ∃r ms nn,v= .map (some r)/\w.heap[r]? =some (.map ms nn)/\ms.toList.map (λe=>(e.key,e.val))=m.map (λe=>(.string ⟨⟨e.1⟩⟩,.bool e.2))/\
   ∃a,dh w q (s y) (ct (aF y)) none=some (.dN (.mp m),[.map (some r)],a):=by
 rw[aO]at aP;obtain⟨cO,a,aX,bk,ca⟩:=aP _ al rfl;have af:Value.fN v=true:=ca;rw[gj af]at bk;have aA:=h.dz y;rw[aO.cI (h7 al (.inl rfl))]at aA;obtain⟨gh,cj,ei,fy,k0,cv,cK,eJ,cU,fq⟩:=ctx q (s y) (ct (aF y)) (S y) none _ aA.2 al;rw[k0]at aX;simp only[some.injEq,Prod.mk.injEq,true_and]at aX;obtain⟨rfl,rfl⟩:=aX;rw[ay]at cU;obtain⟨r,ms,nn,a1,bc,bb,cl⟩:=cU;rw[a1]at bk k0;exact⟨r,ms,nn,by simpa using bk,bb,cl,cj,k0⟩
theorem Su (bx:C.eN) (h:bK w0 F0 X F S s aF w) {T:TypeId} {x i:I} {ff oH:Value} (aA:aO w F s aF x ff (λ_=>False)) (aq:aO w F s aF i oH (λ_=>False)) (he:oP C s T x i=some av):
  Good C w0 F0 X aF w (Instr.lookup T ff oH false) av s:=by
 unfold oP at he;split at he
 .rename_i y q k;split at he
  .rename_i m al;split at he
   .rename_i iZ;simp only[some.injEq]at he;subst he;obtain⟨pL,sJ,t1,t2,t3⟩:=Kw bx iZ;obtain⟨r,ms,nn,rfl,bc,bb,_⟩:=Kx h aA al;have:=oI aq;subst this;refine Good.same h (v:=.bool (sw k m)) ?_ rfl (of_bool _);rcases EE k true ms.toList m 0 bb with⟨aX,bk,_⟩|⟨az,e,_,_,aX,_⟩
    .simp[Instr.lookup,run_underlying t1,getObj,Sem.run,bc,Bc t2,Instr.findKey,run_underlying t2,aX,t3,bk]
    .simp[Instr.lookup,run_underlying t1,getObj,Sem.run,bc,Bc t2,Instr.findKey,run_underlying t2,aX]
   .cases he
  .cases he
 .cases he
theorem Sv (bx:C.eN) (h:bK w0 F0 X F S s aF w) {T:TypeId} {x i v:I} {ff oH Ky:Value} (aA:aO w F s aF x ff (λ_=>False)) (aq:aO w F s aF i oH (λ_=>False)) (aP:aO w F s aF v Ky (λ_=>False)) {s2:ao}
  (he:nv C s T x i v=some s2):∃aK aS,(Instr.mapUpdate T ff oH Ky).run C.P w= .ok () aK/\bK w0 F0 X F aS s2 aF aK:=by
 unfold nv at he;split at he
 .rename_i y q k b;split at he
  .rename_i m al;split at he
   .rename_i iZ;simp only[some.injEq]at he;subst he;obtain⟨pL,sJ,t1,t2,t3⟩:=Kw bx iZ;obtain⟨r,ms,nn,rfl,bc,bb,j,kx⟩:=Kx h aA al;have:=oI aq;subst this;have:=sE aP;subst this;have key:∀(Bd:Array MapEntry) (EF:Nat),Bd.toList.map (λe=>(e.key,e.val))=(qx k b m).map (λe=>(.string ⟨⟨e.1⟩⟩,.bool e.2))->
      ∃aS,bK w0 F0 X F aS (cY (hV y s) y (I.put q (.dN (.mp (qx k b m))) (s y))) aF {w with heap:=w.heap.setIfInBounds r (.map Bd EF)}:=by
     intro Bd EF hm;have aV:r<w.heap.size:=(Array.getElem?_eq_some_iff.1 bc).1;refine bK.Ss (b:=r) h al rfl rfl (λv aP=>aP) (λv aP=>aP) (λvs e=>by cases e) rfl ?_ (λc aC=>?_) (by simp) rfl rfl ⟨rfl,λ_=>Nat.le_refl _⟩
     .intro cO a fy bS gR;rw[kx]at bS;simp only[some.injEq,Prod.mk.injEq,true_and]at bS;obtain⟨rfl,_⟩:=bS;rw[ay]at gR⊢;obtain⟨gv,sK,af8,f1,f2,f3,f4⟩:=gR;simp only[cons.injEq,Value.map.injEq,some.injEq,and_true]at f1;subst f1;exact⟨f2,r,Bd,EF,rfl,f2,by simp[aV],hm⟩
     .simp[Ne.symm aC]
    rcases EE k b ms.toList m 0 bb with⟨aX,_,bk⟩|⟨az,e,gO,ge,aX,bk⟩
    .obtain⟨aS,cv⟩:=key (ms.push {key:=.string ⟨⟨k⟩⟩,val:=.bool b,born:=nn}) (nn+1) (by rw[bk];simp[bb]);exact⟨_,aS,by simp[Instr.mapUpdate,run_underlying t1,getObj,setObj,Sem.run,bc,Bc t2,Instr.findKey,run_underlying t2,aX],cv⟩
    .rw[Nat.zero_add]at aX;obtain⟨aS,cv⟩:=key (ms.modify az λe=>{e with key:=.string ⟨⟨k⟩⟩,val:=.bool b}) nn (by
      rw[bk,map_set,<-bb];apply ext_getElem?;intro n;by_cases ba:n=az
      .subst ba;have:n<ms.toList.length:=(List.getElem?_eq_some_iff.1 gO).1;rw[getElem?_set_self (by simpa using this)];simp[gO]
      .simp[getElem?_set_ne (Ne.symm ba),Ne.symm ba])
     have Sw:ms[az]? =some e:=by simpa using gO
     exact⟨_,aS,by simp[Instr.mapUpdate,run_underlying t1,getObj,setObj,Sem.run,bc,Bc t2,Instr.findKey,run_underlying t2,aX,Sw,ge,Instr.keyThatStays,Instr.sameBits,(ED ⟨⟨k⟩⟩ ⟨⟨k⟩⟩).2 rfl],cv⟩
   .cases he
  .cases he
 .cases he
theorem Sy (h:bK w0 F0 X F S s aF w) (t:TypeId):Good C w0 F0 X aF w (Instr.makeMap t none) (.dN (.mp [])) s:=by
 have hold:∀b,b<w.heap.size->(w.alloc (.map #[] 0)).heap[b]? =w.heap[b]? :=by
  intro b U;show(w.heap.push _)[b]? =_;rw[Array.getElem?_push,if_neg (by omega)]
 refine⟨.map (some w.heap.size),w.alloc (.map #[] 0),F,S,?_,h.grow hold (by simp) rfl rfl ⟨rfl,λ_=>Nat.le_refl _⟩,.inr ⟨rfl,rfl,λb=>b=w.heap.size,?_,?_,?_,?_,?_⟩⟩
 .simp[Instr.makeMap,newObj,Sem.run]
 .rw[ay];refine⟨w.heap.size,#[],0,rfl,rfl,?_,rfl⟩;show(w.heap.push _)[_]? =_;simp
 .rintro b rfl;simp
 .rintro b rfl rA;exact Nat.lt_irrefl _ (h.fR _ rA)
 .rintro u b rfl hu;exact Nat.lt_irrefl _ (h.et _ _ hu)
 .rintro b rfl;exact .inr h.size
end
end Go.dD
