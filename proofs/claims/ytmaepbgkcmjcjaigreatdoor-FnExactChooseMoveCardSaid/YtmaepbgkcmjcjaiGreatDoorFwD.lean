/- Part of a proof that a law returns true for every input. No condition. -/
import Derived.Test.YtmaepbgkcmjcjaiGreatDoorFwC
import Derived.Test.YtmaepbgkcmjcjaiGreatDoorFwA
import Derived.Laws.IdiomStrings
import Derived.Laws.Strings
import Derived.LaidEql
import Derived.WideLaws
import Derived.Laws.StructEq
namespace Go.eg
open List Option Nat
section
variable {C:cl} {w0 w:World} {F0 X F:Nat->Prop} {S:Nat->Nat->Prop} {s s1:al} {aG:Nat->Value} {av:I}
theorem qg {k:IntKind} {n:Int} {v:Value} {aZ:Nat->Prop} (h:aS w F s aG (.int k n) v aZ):v= .int k n:=by
 have bD:=(aS.dr rfl).1 h;rw[aA,ix bD.1]at bD;simpa using bD.2
theorem xp {b:Bool} {v:Value} {aZ:Nat->Prop} (h:aS w F s aG (.bool b) v aZ):v= .bool b:=by
 have bD:=(aS.dr rfl).1 h;rw[aA,ix bD.1]at bD;simpa using bD.2
theorem o5 {b:azc} {v:Value} {aZ:Nat->Prop} (h:aS w F s aG (.str b) v aZ):v= .string ⟨⟨b⟩⟩:=by
 have bD:=(aS.dr rfl).1 h;rw[aA,ix bD.1]at bD;simpa using bD.2
theorem T2 {v:Value} {aZ:Nat->Prop} (h:aS w F s aG .eh v aZ):v= .pointer none:=by
 have bD:=(aS.dr rfl).1 h;rw[aA,ix bD.1]at bD;simpa using bD.2
theorem xq {v:Value} {aZ:Nat->Prop} (h:aS w F s aG .a8 v aZ):v= .slice none 0 0:=by
 have bD:=(aS.dr rfl).1 h;rw[aA,ix bD.1]at bD;simpa using bD.2
theorem T3 {v:Value} {aZ:Nat->Prop} (h:aS w F s aG .gA v aZ):∃b,v= .bool b:=by
 have bD:=(aS.dr rfl).1 h;rw[aA,ix bD.1]at bD;simpa using bD.2
theorem of_int (k:IntKind) (n:Int):aS w F s aG (.int k n) (.int k n) (λ_=>False):=(aS.dr rfl).2 ⟨rfl,by rw[aA];rfl⟩
theorem of_bool (b:Bool):aS w F s aG (.bool b) (.bool b) (λ_=>False):=(aS.dr rfl).2 ⟨rfl,by rw[aA];rfl⟩
theorem sq (b:azc):aS w F s aG (.str b) (.string ⟨⟨b⟩⟩) (λ_=>False):=(aS.dr rfl).2 ⟨rfl,by rw[aA];rfl⟩
theorem ME (b:Bool):aS w F s aG .gA (.bool b) (λ_=>False):=(aS.dr rfl).2 ⟨rfl,by rw[aA];exact⟨b,rfl⟩⟩
def j3 (op:BinOp) (k:IntKind) (a:Int) (da:IntKind) (b:Int):Option I:=
 match op with
 | .shl=>if b<0 then none else some (.int k (k.wrap (a*2^(min b.toNat k.bits))))
 | .shr=>if b<0 then none else some (.int k (a.fdiv (2^(min b.toNat k.bits))))
 | .add=>if k=da then some (.int k (k.wrap (a+b)))else none
 | .sub=>if k=da then some (.int k (k.wrap (a-b)))else none
 | .mul=>if k=da then some (.int k (k.wrap (a*b)))else none
 | .quo=>if k=da/\b≠0 then some (.int k (k.wrap (a.tdiv b)))else none
 | .rem=>if k=da/\b≠0 then some (.int k (a.tmod b))else none
 | .eql=>if k=da then some (.bool (a==b))else none
 | .neq=>if k=da then some (.bool (a !=b))else none
 | .lss=>if k=da then some (.bool (decide (a<b)))else none
 | .leq=>if k=da then some (.bool (decide (a<=b)))else none
 | .gtr=>if k=da then some (.bool (decide (b<a)))else none
 | .geq=>if k=da then some (.bool (decide (b<=a)))else none
 | .and=>if k=da then some (.int k (bitsOf .and k a b))else none
 | .or=>if k=da then some (.int k (bitsOf .or k a b))else none
 | .xor=>if k=da then some (.int k (bitsOf .xor k a b))else none
 | .andNot=>if k=da then some (.int k (bitsOf .andNot k a b))else none
def qh (op:BinOp) (a b:azc):Option I:=
 match op with
 | .add=>if a.length+b.length<=9223372036854775807 then some (.str (a++b))else none
 | .eql=>some (.bool (a==b))
 | .neq=>some (.bool !(a==b))
 | .lss=>some (.bool (Op.bytesLess a b))
 | .leq=>some (.bool (Op.bytesLess a b||a==b))
 | .gtr=>some (.bool !(Op.bytesLess a b||a==b))
 | .geq=>some (.bool !(Op.bytesLess a b))
 |_=>none
def l5 (s:al):I->Option azg
 | .a8=>some (some true)
 | .slice xs=>some (if xs=[]then none else some false)
 | .h x q=>match I.sub q (s x)with
   |some (.ak _ xs)=>some (if xs=[]then none else some false)
   |_=>none
 |_=>none
def nY (s:al):I->azg
 | .eh=>some true
 | .ref _=>some false
 | .h x q=>match I.sub q (s x)with
   |some (.aQ _)=>some false
   |_=>none
 |_=>none
def sr (neg:Bool):azg->I
 |some b=>.bool (b !=neg)
 |none=>.gA
def structEq (P:Program) (T:TypeId):Bool:= !P.stoodInHeld T&& !P.eqGuardType P.depth T&&(P.fieldsOf T).toList.all λf=>decide (f.name≠ "_")
def qU (C:cl):List (TypeId×Nat)->Nat->azk->azk->azg
 |[],_,[],[]=>some true
 |(l4,off)::aE,n,d::ds,e::es=>if off=n then(match(C.T l4).k,d,e with
  | .int k,.int b1 a,.int cK b=>if b1=k/\cK=k then(qU C aE (n+1) ds es).map λr=>a==b&&r else none
  | .bool,.bool a,.bool b=>(qU C aE (n+1) ds es).map λr=>a==b&&r
  | .str,.str a,.str b=>(qU C aE (n+1) ds es).map λr=>a==b&&r
  |_,_,_=>none)else none
 |_,_,_,_=>none
def eG (C:cl) (s:al) (op:BinOp) (T:TypeId) (x y:I):Option I:=
 match x,y with
 | .int k a,.int da b=>j3 op k a da b
 | .str a,.str b=>qh op a b
 | .bool a,.bool b=>match op,(C.T T).k with
   | .eql,.bool=>some (.bool (a==b))
   | .neq,.bool=>some (.bool !(a==b))
   |_,_=>none
 | .agg ds,.agg es=>match op,(C.T T).k with
   | .eql,.struct aE=>if structEq C.P T=true then(qU C aE 0 ds es).map λb=>.bool b else none
   | .neq,.struct aE=>if structEq C.P T=true then(qU C aE 0 ds es).map λb=>.bool !b else none
   |_,_=>none
 |x,.a8=>match op,(C.T T).k with
  | .eql,.slice _=>(l5 s x).map (sr false)
  | .neq,.slice _=>(l5 s x).map (sr true)
  |_,_=>none
 |x,.eh=>match op,(C.T T).k with
  | .eql,.ptr _=>(nY s x).map λb=>.bool b
  | .neq,.ptr _=>(nY s x).map λb=>.bool !b
  |_,_=>none
 |_,_=>none
theorem ac2 {P:Program} {op:BinOp} {T:TypeId} {k da:IntKind} {a b:Int} (he:j3 op k a da b=some av) (w:World):
  ∃v,(binOp op T (.int k a) (.int da b)).run P w= .ok v w/\aS w F s aG av v (λ_=>False):=by
 unfold j3 at he;cases op<;>simp only at he<;>split at he<;>first|(cases he;done)|skip
 all_goals
  rename_i ar;simp only[some.injEq]at he;subst he
 all_goals first
  |(subst ar;simp only[binOp_add,binOp_sub,binOp_mul,binOp_eql,binOp_neq,binOp_lss,binOp_leq,binOp_gtr,binOp_geq,binOp_and,binOp_or,binOp_xor,binOp_andNot,Op.intArith,Op.intBits,Sem.run_pure,Result.ok.injEq,and_true,exists_eq_left']
    first|exact of_int _ _|exact of_bool _)
  |(obtain⟨rfl,a7⟩:=ar
    simp only[binOp_quo,binOp_rem,Op.intDiv,a7,if_false,Sem.run_pure,Result.ok.injEq,and_true,exists_eq_left'];exact of_int _ _)
  |(simp only[binOp_shl,binOp_shr,Op.shift,ar,if_false,Sem.run_pure,Result.ok.injEq,and_true,exists_eq_left']
    exact of_int _ _)
theorem Ei (a:azc):(⟨⟨a⟩⟩:ByteArray).toList=a:=ByteArray.toList_eq _
theorem ac3 (a b:azc):(⟨⟨a⟩⟩:ByteArray)++(⟨⟨b⟩⟩:ByteArray)=⟨⟨a++b⟩⟩:=by
 apply ByteArray.ext;simp[ByteArray.data_append]
theorem ac4 {P:Program} {op:BinOp} {T:TypeId} {a b:azc} (he:qh op a b=some av) (w:World):
  ∃v,(binOp op T (.string ⟨⟨a⟩⟩) (.string ⟨⟨b⟩⟩)).run P w= .ok v w/\aS w F s aG av v (λ_=>False):=by
 have ab:∀op,binOp op T (.string ⟨⟨a⟩⟩) (.string ⟨⟨b⟩⟩)=Op.stringOp op ⟨⟨a⟩⟩ ⟨⟨b⟩⟩:=by intro op;cases op<;>rfl
 rw[ab];unfold qh at he;cases op<;>simp only[some.injEq]at he<;>first|(cases he;done)|skip
 case add=>
  split at he
  .rename_i aC;simp only[some.injEq]at he;subst he;have aa:((ByteArray.size ⟨⟨a⟩⟩+ByteArray.size ⟨⟨b⟩⟩:Nat):Int)<=9223372036854775807:=by
    show((a.length+b.length:Nat):Int)<=_;omega
   refine⟨.string ⟨⟨a++b⟩⟩,?_,sq _⟩;simp only[Op.stringOp,IntKind.max_i64];rw[if_neg (by omega),ac3];rfl
  .cases he
 all_goals
  subst he;simp only[Op.stringOp,Ei,Sem.run_pure,Result.ok.injEq,and_true,exists_eq_left'];exact of_bool _
theorem MF (h:cd w0 F0 X F S s aG w) {v:Value} {y:Nat} {q:azf} (aF:aS w F s aG (.h y q) v (λ_=>False)) {sz:Nat} {xs:azk} (ao:I.sub q (s y)=some (.ak sz xs)):
  (xs=[]/\∃a,v= .slice a 0 0)\/∃b cap cur e fr,v= .slice (some ⟨b,0,none⟩) xs.length cap/\w.heap[b]? =some (.cells cur e fr)/\pH fr cur.size/\xs.length<=cap/\cap<=maxLen/\cur.size=cap*sz/\(∀d∈xs,d.wd=sz)/\
   ∃aZ,bA w F xs (cur.toList.take (xs.length*sz)) aZ/\(∀c,aZ c->S y c)/\S y b:=by
 rw[aS]at aF;obtain⟨dv,a,g1,g2,g3⟩:=aF _ ao rfl;have aa:Value.hH v=true:=g3;rw[ix aa]at g2;subst g2;have an:=h.ey y;rw[aS.dr (ju ao (.inl rfl))]at an;obtain⟨hd,dH,e3,gl,k0,b1,cK,dM,dX,eF⟩:=ctx q (s y) (dd (aG y)) (S y) none _ an.2 ao;rw[k0]at g1;simp only[some.injEq,Prod.mk.injEq,true_and]at g1;obtain⟨rfl,rfl⟩:=g1;rw[aA]at dX;rcases dX with⟨rfl,a2,ae⟩|⟨b,cap,cur,aU,fr,eH,aM,bT,cv,ck,bY,fh,iH,gG,kg,eJ,e0⟩
 .simp at ae;exact .inl ⟨rfl,_,ae⟩
 .simp at aM;exact .inr ⟨b,cap,cur,aU,fr,aM,cv,ck.low,bY,fh,iH,gG,eH,kg,λc ar=>cK _ (eJ c ar),cK _ bT⟩
theorem T4 (h:cd w0 F0 X F S s aG w) {v:Value} {y:Nat} {q:azf} (aF:aS w F s aG (.h y q) v (λ_=>False)) {d:I} (ao:I.sub q (s y)=some (.aQ d)):
  ∃b cur e fr,v= .pointer (some ⟨b,0,none⟩)/\w.heap[b]? =some (.cells cur e fr):=by
 rw[aS]at aF;obtain⟨dv,a,g1,g2,g3⟩:=aF _ ao rfl;have aa:Value.hH v=true:=g3;rw[ix aa]at g2;subst g2;have an:=h.ey y;rw[aS.dr (ju ao (.inl rfl))]at an;obtain⟨hd,dH,e3,gl,k0,b1,cK,dM,dX,eF⟩:=ctx q (s y) (dd (aG y)) (S y) none _ an.2 ao;rw[k0]at g1;simp only[some.injEq,Prod.mk.injEq,true_and]at g1;obtain⟨rfl,rfl⟩:=g1;rw[aA]at dX;obtain⟨b,cur,aU,fr,eH,aM,bT,cv,_⟩:=dX;simp at aM;exact⟨b,cur,aU,fr,aM,cv⟩
theorem T5 {P:Program} {T e:TypeId} (aY:P.underlying T=some (.slice e)) (w:World):∀d,(Op.equalIn (d+1) T (.slice none 0 0) (.slice none 0 0)).run P w= .ok true w/\
  ∀a n c,(Op.equalIn (d+1) T (.slice (some a) n c) (.slice none 0 0)).run P w= .ok false w:=by
 intro d;refine⟨by simp[Op.equalIn,run_underlying aY],λa n c=>by simp[Op.equalIn,run_underlying aY]⟩
theorem T6 {P:Program} {T e:TypeId} (aY:P.underlying T=some (.pointer e)) (w:World):∀d,(Op.equalIn (d+1) T (.pointer none) (.pointer none)).run P w= .ok true w/\
  ∀a,(Op.equalIn (d+1) T (.pointer (some a)) (.pointer none)).run P w= .ok false w:=by
 intro d;refine⟨by simp[Op.equalIn,run_underlying aY],λa=>by simp[Op.equalIn,run_underlying aY]⟩
theorem T7 {P:Program} {T:TypeId} (aY:P.underlying T=some .bool) (w:World):∀d a b,(Op.equalIn (d+1) T (.bool a) (.bool b)).run P w= .ok (a==b) w:=by
 intro d a b;simp[Op.equalIn,run_underlying aY]
theorem T8 (h:cd w0 F0 X F S s aG w) {x:I} {v:Value} (aF:aS w F s aG x v (λ_=>False)) {T e:TypeId} {r:azg} (aT:l5 s x=some r) (aY:C.P.underlying T=some (.slice e)):
  ∃b,(Op.equal T v (.slice none 0 0)).run C.P w= .ok b w/\(∀gO,r=some gO->gO=b)/\Value.hH v=true/\∃a n c,v= .slice a n c:=by
 have aO:=λa n c=>(T5 aY w 9999).2 a n c;have fT:=(T5 aY w 9999).1;cases x with
 |a8=>
  have:=xq aF;subst this;simp[l5]at aT;subst aT;exact⟨true,fT,by simp,rfl,_,_,_,rfl⟩
 |slice xs=>
  have bD:=(aS.dr rfl).1 aF;rw[aA,ix bD.1]at bD;simp only[l5,some.injEq]at aT;obtain⟨_,⟨rfl,a,c,ae,_,yW⟩|⟨b,o,cap,e9,sz,ae,aJ⟩⟩:=bD
  .simp at ae aT;subst ae;subst aT;cases a with
   |none=>
    have:=yW rfl;subst this;exact⟨true,fT,by simp,rfl,_,_,_,rfl⟩
   |some a=>exact⟨false,aO _ _ _,by simp,rfl,_,_,_,rfl⟩
  .simp at ae;subst ae;refine⟨false,aO _ _ _,?_,rfl,_,_,_,rfl⟩;subst aT;split<;>simp
 |h y q=>
  simp only[l5]at aT;split at aT
  .rename_i sz xs ao;simp only[some.injEq]at aT;rcases MF h aF ao with⟨rfl,a,rfl⟩|⟨b,cap,cur,aU,fr,rfl,_⟩
   .simp at aT;subst aT;cases a with
    |none=>exact⟨true,fT,by simp,rfl,_,_,_,rfl⟩
    |some a=>exact⟨false,aO _ _ _,by simp,rfl,_,_,_,rfl⟩
   .refine⟨false,aO _ _ _,?_,rfl,_,_,_,rfl⟩;subst aT;split<;>simp
  .cases aT
 |_=>simp[l5]at aT
theorem T9 (h:cd w0 F0 X F S s aG w) {x:I} {v:Value} (aF:aS w F s aG x v (λ_=>False)) {T e:TypeId} {r:Bool} (aT:nY s x=some r) (aY:C.P.underlying T=some (.pointer e)):
  (Op.equal T v (.pointer none)).run C.P w= .ok r w/\∃a,v= .pointer a:=by
 have aO:=λa=>(T6 aY w 9999).2 a;have fT:=(T6 aY w 9999).1;cases x with
 |eh=>
  have:=T2 aF;subst this;simp[nY]at aT;subst aT;exact⟨fT,_,rfl⟩
 |ref d=>
  have bD:=(aS.dr rfl).1 aF;rw[aA,ix bD.1]at bD;simp[nY]at aT;subst aT;obtain⟨_,b,o,e9,ae,_⟩:=bD;simp at ae;subst ae;exact⟨aO _,_,rfl⟩
 |h y q=>
  simp only[nY]at aT;split at aT
  .rename_i d ao;simp only[some.injEq]at aT;subst aT;obtain⟨b,cur,e,fr,rfl,_⟩:=T4 h aF ao;exact⟨aO _,_,rfl⟩
  .cases aT
 |_=>simp[nY]at aT
theorem ac5 (bO:C.fH):∀(aE:List (TypeId×Nat)) (gs:List Field) (n:Nat) (ds es:azk) (r:Bool) (hJ l2 cA c2:azi) (xs cH:Array Value) (cD eH:Nat->Prop),
  gs.map (λg=>(g.type,g.offset))=aE->(gs.all λf=>decide (f.name≠ "_"))=true->qU C aE n ds es=some r->bA w F ds cA cD->bA w F es c2 eH->xs.toList=hJ++cA->hJ.length=n->cH.toList=l2++c2->l2.length=n->
  ∀m,(Op.eqFields (m+1) xs cH gs).run C.P w= .ok r w:=by
 intro aE;induction aE with
 |nil=>
  intro gs n ds es r hJ l2 cA c2 xs cH cD eH hg aR he ad ae an aC hy yX m;have:gs=[]:=by simpa using hg
  subst this;cases ds<;>cases es<;>simp[qU]at he;subst he;simp[Op.eqFields]
 |cons p aE ih=>
  obtain⟨l4,off⟩:=p;intro gs n ds es r hJ l2 cA c2 xs cH cD eH hg aR he ad ae an aC hy yX m;cases gs with
  |nil=>simp at hg
  |cons g gs=>
   simp only[map_cons,cons.injEq,Prod.mk.injEq]at hg;obtain⟨⟨rfl,rfl⟩,hg⟩:=hg;simp only[all_cons,Bool.and_eq_true,decide_eq_true_eq]at aR;cases ds with
   |nil=>simp[qU]at he
   |cons d ds=>
   cases es with
   |nil=>simp[qU]at he
   |cons e es=>
   simp only[qU]at he;split at he
   .rename_i tN;rw[bA]at ad ae;obtain⟨J,a2,o6,A9,rfl,hs,iE,j1,H3,hh⟩:=ad;obtain⟨hC,gd,awR,ac6,rfl,hn,gE,iI,jH,tP⟩:=ae;have step:∀(x y:Value) (z:Bool),(C.T g.type).flat=true->J=[x]->hC=[y]->(∀m,(Op.equalIn (m+1) g.type x y).run C.P w= .ok z w)->∀mj,qU C aE (n+1) ds es=some mj->
      (Op.eqFields (m+1) xs cH (g::gs)).run C.P w= .ok (z&&mj) w:=by
     intro x y z ke ac7 ac8 heq mj fi;subst ac7;subst ac8;have ng:xs[g.offset]? =some x:=by
      rw[<-Array.getElem?_toList,an,tN,<-aC,getElem?_append_right (Nat.le_refl _)];simp
     have tQ:cH[g.offset]? =some y:=by
      rw[<-Array.getElem?_toList,hy,tN,<-yX,getElem?_append_right (Nat.le_refl _)];simp
     have ai:=ih gs (n+1) ds es mj (hJ++[x]) (l2++[y]) a2 gd xs cH A9 ac6 hg aR.2 fi iE gE (by rw[an];simp) (by simp[aC]) (by rw[hy];simp) (by simp[yX]) m;unfold Op.eqFields;rw[if_pos aR.1];simp only[part,Sem.run_bind,MB bO ke,Result.andThen_ok,Bool.false_eq_true,if_false,ng,tQ,Sem.run_pure,heq];cases z
     .simp
     .simpa using ai
    split at he
    .rename_i k b1 a cK b ax;split at he
     .rename_i ac9;obtain⟨rfl,rfl⟩:=ac9;rw[aA]at hs hn;simp only[map_eq_some_iff]at he;obtain⟨mj,fi,rfl⟩:=he;obtain⟨i,Ej,T_,aO,aU,aM,bT,cv,ck,bY⟩:=bO.info (hv ax (by simp));rw[ax]at bY;have yY:=HW bY;subst yY;exact step _ _ _ (by simp[hB.flat,ax]) hs hn (λm=>run_equalIn_int w m g.type _ _ a b ck) mj fi
     .cases he
    .rename_i a b ax;rw[aA]at hs hn;simp only[map_eq_some_iff]at he;obtain⟨mj,fi,rfl⟩:=he;obtain⟨i,Ej,T_,aO,aU,aM,bT,cv,ck,bY⟩:=bO.info (hv ax (by simp));rw[ax]at bY;have yY:=Mw bY;subst yY;exact step _ _ _ (by simp[hB.flat,ax]) hs hn (λm=>run_equalIn_bool' w m g.type a b ck) mj fi
    .rename_i a b ax;rw[aA]at hs hn;simp only[map_eq_some_iff]at he;obtain⟨mj,fi,rfl⟩:=he;obtain⟨i,Ej,T_,aO,aU,aM,bT,cv,ck,bY⟩:=bO.info (hv ax (by simp));rw[ax]at bY;have yY:=tL bY;subst yY;refine step _ _ (a==b) (by simp[hB.flat,ax]) hs hn (λm=>?_) mj fi;rw[run_equalIn_string w m g.type _ _ ck,Ei,Ei]
    .cases he
   .cases he
theorem Ua (bO:C.fH) {T:TypeId} {aE:List (TypeId×Nat)} (ax:(C.T T).k= .struct aE) {ds es:azk} {kf lF:Value} {cD eH:Nat->Prop} {r:Bool} (an:aS w F s aG (.agg ds) kf cD) (hy:aS w F s aG (.agg es) lF eH)
  (cz:structEq C.P T=true) (he:qU C aE 0 ds es=some r) (op:BinOp) (Ek El:Operand):
  (eqGuard op T Ek El kf lF).run C.P w= .ok () w/\(Op.equal T kf lF).run C.P w= .ok r w:=by
 obtain⟨i,d,z,aO,aU,aM,bT,cv,ck,bY⟩:=bO.info (hv ax (by simp));rw[ax]at bY;obtain⟨gs,rfl,fh⟩:=Ee bY;have Em:C.P.fieldsOf T=gs:=by simp[Program.fieldsOf,ck]
 simp only[structEq,Bool.and_eq_true,Bool.not_eq_true',Em]at cz;obtain⟨⟨hn,gE⟩,iI⟩:=cz;obtain⟨⟨xs,rfl⟩,A_⟩:=(aS.dr rfl).1 an;obtain⟨⟨cH,rfl⟩,yQ⟩:=(aS.dr rfl).1 hy;rw[aA]at A_ yQ;constructor
 .cases op<;>simp[eqGuard,gE]
 .show(Op.equalIn (9999+1) T _ _).run C.P w=_;rw[run_equalIn_struct w 9999 T xs cH (by rw[Em];exact ck) hn,Em];exact ac5 bO aE gs.toList 0 ds es r [] [] _ _ xs cH cD eH fh iI he A_ yQ rfl rfl rfl rfl 9998
theorem ac_ (bO:C.fH) (h:cd w0 F0 X F S s aG w) {op:BinOp} {T:TypeId} {x y:I} {kf lF:Value} (Ek El:Operand) (an:aS w F s aG x kf (λ_=>False)) (hy:aS w F s aG y lF (λ_=>False))
  (he:eG C s op T x y=some av):Good C w0 F0 X aG w (do eqGuard op T Ek El kf lF;binOp op T kf lF) av s:=by
 unfold eG at he;split at he
 .have:=qg an;subst this;have:=qg hy;subst this;obtain⟨v,ad,ae⟩:=ac2 (P:=C.P) (T:=T) he w;refine Good.same h (v:=v) ?_ ?_ ae
  .rw[eqGuard_at_int];exact ad
  .revert he;unfold j3;cases op<;>simp only<;>split<;>simp<;>(rintro rfl;rfl)
 .have:=o5 an;subst this;have:=o5 hy;subst this;obtain⟨v,ad,ae⟩:=ac4 (P:=C.P) (T:=T) he w;refine Good.same h (v:=v) ?_ ?_ ae
  .rw[eqGuard_at_string];exact ad
  .revert he;unfold qh;cases op<;>simp only<;>(try split)<;>simp<;>(try (rintro rfl;rfl))
 .have:=xp an;subst this;have:=xp hy;subst this;split at he
  .rename_i ax;simp only[some.injEq]at he;subst he;obtain⟨i,d,z,aO,aU,aM,bT,cv,ck,bY⟩:=bO.info (hv ax (by simp));rw[ax]at bY;have:=Mw bY;subst this;refine Good.same h ?_ rfl (of_bool _);rw[eqGuard_at_bool];simp[binOp,Op.equal,Op.maxDepth,T7 ck w 9999]
  .rename_i ax;simp only[some.injEq]at he;subst he;obtain⟨i,d,z,aO,aU,aM,bT,cv,ck,bY⟩:=bO.info (hv ax (by simp));rw[ax]at bY;have:=Mw bY;subst this;refine Good.same h ?_ rfl (of_bool _);rw[eqGuard_at_bool];simp[binOp,Op.equal,Op.maxDepth,T7 ck w 9999]
  .cases he
 .split at he
  .rename_i aE ax;split at he
   .rename_i cz;simp only[map_eq_some_iff]at he;obtain⟨r,aT,rfl⟩:=he;obtain⟨g1,g2⟩:=Ua bO ax an hy cz aT .eql Ek El;obtain⟨⟨xs,rfl⟩,_⟩:=(aS.dr rfl).1 an;obtain⟨⟨cH,rfl⟩,_⟩:=(aS.dr rfl).1 hy;exact Good.same h (by simp[g1,binOp,g2]) rfl (of_bool _)
   .cases he
  .rename_i aE ax;split at he
   .rename_i cz;simp only[map_eq_some_iff]at he;obtain⟨r,aT,rfl⟩:=he;obtain⟨g1,g2⟩:=Ua bO ax an hy cz aT .neq Ek El;obtain⟨⟨xs,rfl⟩,_⟩:=(aS.dr rfl).1 an;obtain⟨⟨cH,rfl⟩,_⟩:=(aS.dr rfl).1 hy;exact Good.same h (by simp[g1,binOp,g2]) rfl (of_bool _)
   .cases he
  .cases he
 .have:=xq hy;subst this;split at he
  .rename_i e ax;simp only[map_eq_some_iff]at he;obtain⟨r,aT,rfl⟩:=he;obtain⟨i,d,z,aO,aU,aM,bT,cv,ck,bY⟩:=bO.info (hv ax (by simp));rw[ax]at bY;have:=oC bY;subst this;obtain⟨b,ad,ae,aJ,a0,bm,c0,rfl⟩:=T8 h an aT ck;refine Good.same h (v:=.bool b) ?_ ?_ ?_
   .rw[eqGuard_at_slice];simp[binOp,ad]
   .cases r<;>rfl
   .cases r with
    |none=>exact ME b
    |some gO=>have:=ae gO rfl;subst this;simp only[sr,Bool.bne_false];exact of_bool _
  .rename_i e ax;simp only[map_eq_some_iff]at he;obtain⟨r,aT,rfl⟩:=he;obtain⟨i,d,z,aO,aU,aM,bT,cv,ck,bY⟩:=bO.info (hv ax (by simp));rw[ax]at bY;have:=oC bY;subst this;obtain⟨b,ad,ae,aJ,a0,bm,c0,rfl⟩:=T8 h an aT ck;refine Good.same h (v:=.bool !b) ?_ ?_ ?_
   .rw[eqGuard_at_slice];simp[binOp,ad]
   .cases r<;>rfl
   .cases r with
    |none=>exact ME _
    |some gO=>have:=ae gO rfl;subst this;simp only[sr,Bool.bne_true];exact of_bool _
  .cases he
 .have:=T2 hy;subst this;split at he
  .rename_i e ax;simp only[map_eq_some_iff]at he;obtain⟨r,aT,rfl⟩:=he;obtain⟨i,d,z,aO,aU,aM,bT,cv,ck,bY⟩:=bO.info (hv ax (by simp));rw[ax]at bY;have:=TT bY;subst this;obtain⟨ad,a0,rfl⟩:=T9 h an aT ck;refine Good.same h (v:=.bool r) ?_ rfl (of_bool _);rw[eqGuard_at_pointer];simp[binOp,ad]
  .rename_i e ax;simp only[map_eq_some_iff]at he;obtain⟨r,aT,rfl⟩:=he;obtain⟨i,d,z,aO,aU,aM,bT,cv,ck,bY⟩:=bO.info (hv ax (by simp));rw[ax]at bY;have:=TT bY;subst this;obtain⟨ad,a0,rfl⟩:=T9 h an aT ck;refine Good.same h (v:=.bool !r) ?_ rfl (of_bool _);rw[eqGuard_at_pointer];simp[binOp,ad]
  .cases he
 .cases he
end
section
variable {C:cl} {w0 w:World} {F0 X F:Nat->Prop} {S:Nat->Nat->Prop} {s s1:al} {aG:Nat->Value} {av:I}
def un (op:UnOp) (x:I):Option I:=
 match op,x with
 | .not,.bool b=>some (.bool !b)
 | .not,.gA=>some .gA
 | .neg,.int k n=>some (.int k (k.wrap (0-n)))
 |_,_=>none
theorem ada (h:cd w0 F0 X F S s aG w) {op:UnOp} {x:I} {v:Value} (aF:aS w F s aG x v (λ_=>False)) (he:un op x=some av):Good C w0 F0 X aG w (Op.unary op v) av s:=by
 unfold un at he;split at he<;>first|(cases he;done)|(simp only[some.injEq]at he;subst he)
 .have:=xp aF;subst this;exact Good.same h rfl rfl (of_bool _)
 .obtain⟨b,rfl⟩:=T3 aF;exact Good.same h rfl rfl (ME _)
 .have:=qg aF;subst this;exact Good.same h rfl rfl (of_int _ _)
def ml (s:al) (x:I):Option I:=
 match x with
 | .ref d=>some (.ref d)
 | .fn f c=>some (.fn f c)
 | .h y q=>match I.sub q (s y)with
   |some (.aQ _)=>some (.h y q)
   |_=>none
 |_=>none
theorem adb {d:I} {v:Value} {aZ:Nat->Prop} (h:aS w F s aG (.ref d) v aZ):∃b o e9,v= .pointer (some ⟨b,o,none⟩)/\F b/\js w b o e9/\aA w F d e9 (λ_=>False):=by
 have bD:=(aS.dr rfl).1 h;rw[aA,ix bD.1]at bD;obtain⟨_,b,o,e9,ad,ae,aJ,bh⟩:=bD;simp at ad;subst ad;exact⟨b,o,e9,rfl,ae,aJ,bh⟩
theorem ade (h:cd w0 F0 X F S s aG w) {x:I} {v:Value} (aF:aS w F s aG x v (λ_=>False)) (he:ml s x=some av):
  av=x/\x.plain=true/\((∃a,v= .pointer (some a))\/∃f c,v= .func (.func f) #[] c):=by
 unfold ml at he;split at he
 .simp only[some.injEq]at he;subst he;obtain⟨b,o,e9,rfl,_⟩:=adb aF;exact⟨rfl,rfl,.inl ⟨_,rfl⟩⟩
 .simp only[some.injEq]at he;subst he;rw[aS]at aF;obtain⟨arr,rfl,_⟩:=aF;exact⟨rfl,rfl,.inr ⟨_,_,rfl⟩⟩
 .split at he
  .rename_i d ao;simp only[some.injEq]at he;subst he;obtain⟨b,cur,e,fr,rfl,_⟩:=T4 h aF ao;exact⟨rfl,rfl,.inl ⟨_,rfl⟩⟩
  .cases he
 .cases he
def ex (s:al) (x:I) (k:Nat):Option I:=
 match x with
 | .tuple ds=>match ds[k]? with
   |some d=>if d.plain=true then some d else none
   |none=>none
 | .h y q=>match I.sub q (s y)with
   |some (.tuple ds)=>match ds[k]? with
    |some d=>if I.hA ds=true then none else some (if d.plain then d else .h y (q++[k]))
    |none=>none
   |_=>none
 |_=>none
theorem Ub:∀(vs:azi) (k:Nat) (x:Value) (ds:azk),vs[k]? =some x->vs.length=ds.length->(∀(j:Nat) (d:I) (y:Value),ds[j]? =some d->vs[j]? =some y->(jb y).length=d.wd)->
  ∃l r,vs.flatMap jb=l++(jb x++r)/\l.length=I.eZ (ds.take k)
 |[],k,x,ds,h,_,_=>by simp at h
 |v::vs,0,x,ds,h,aC,hw=>by
  simp at h;subst h;exact⟨[],vs.flatMap jb,by simp,by simp[I.eZ]⟩
 |v::vs,k+1,x,d::ds,h,aC,hw=>by
  obtain⟨l,r,aO,aU⟩:=Ub vs k x ds (by simpa using h) (by simpa using aC) (λj d y ad ae=>hw (j+1) d y (by simpa using ad) (by simpa using ae));refine⟨jb v++l,r,by simp[aO],?_⟩;have:=hw 0 d v (by simp) (by simp);simp[I.eZ,aU,this]
 |v::vs,k+1,x,[],h,aC,hw=>by simp at aC
theorem adf {d:I} {v:Value} (h:j2 d v) (_hd:∀vs,d≠.tuple vs):dd v=jb v:=by
 cases d with
 |agg aE=>obtain⟨arr,rfl⟩:=h;rfl
 |_=>
  have ad:Value.hH v=true:=h;cases v<;>first|rfl|(simp[Value.hH]at ad)
theorem adg {d:I} {v:Value} (h:j2 d v) (ao:∀vs,d≠.tuple vs):eK d v:=by
 cases d with
 |tuple vs=>exact(ao _ rfl).elim
 |_=>exact h
theorem adh (h:cd w0 F0 X F S s aG w) {x:I} {v:Value} {k:Nat} (aF:aS w F s aG x v (λ_=>False)) (he:ex s x k=some av):Good C w0 F0 X aG w (Instr.extract v k) av s:=by
 have pick:∀(ds:azk) (d:I) (arr:Array Value),ds[k]? =some d->(arr.size=ds.length/\∀(k:Nat) (d:I) (x:Value),ds[k]? =some d->arr[k]? =some x->j2 d x/\(∀vs,d≠.tuple vs)/\(jb x).length=d.wd)->
   ∃x,arr[k]? =some x/\eK d x/\((dd (.tuple arr)).drop (I.eZ (ds.take k))).take d.wd=dd x:=by
  intro ds d arr ao ⟨cf,mi⟩;have er:k<arr.size:=by rw[cf];exact(List.getElem?_eq_some_iff.1 ao).1
  have an:arr[k]? =some arr[k]:=Array.getElem?_eq_getElem er;obtain⟨g1,g2,g3⟩:=mi k d _ ao an;obtain⟨l,r,aO,aU⟩:=Ub arr.toList k arr[k] ds (by simp[er]) (by simpa using cf) (λj d y ad ae=>(mi j d y ad (by simpa using ae)).2.2);refine⟨_,an,adg g1 g2,?_⟩;rw[adf g1 g2];simp only[dd];rw[aO];exact yK l _ r _ _ aU g3
 unfold ex at he;split at he
 .rename_i ds;split at he
  .rename_i d ao;split at he
   .rename_i ay;simp only[some.injEq]at he;subst he;have bD:=(aS.dr rfl).1 aF;obtain⟨⟨arr,rfl,cf⟩,hT⟩:=bD;obtain⟨x,an,aa,ar⟩:=pick ds d arr ao cf;have aT:(Instr.extract (.tuple arr) k).run C.P w= .ok x w:=by simp[Instr.extract,an]
    rw[aA]at hT;obtain⟨cA,hc,c2,cD,jt,e,ja,hs,iE,j1,hh,o1⟩:=bA.pick ds _ _ k d hT ao;rw[e,yK cA hc c2 _ _ ja (aA.length _ _ _ hh)]at ar;by_cases aY:d.tree=true
    .exact Good.same h aT ay ((aS.dr aY).2 ⟨aa,by rw[<-ar];exact aA.plain _ _ _ _ ay hh⟩)
    .cases d<;>first|exact(aY rfl).elim|(rw[aA]at hh;exact hh.elim)|exact Good.same h aT rfl (by rw[aS];trivial)|(have b2:=aA.plain _ _ _ (λ_=>False) ay hh;rw[ar,ix (by exact aa)]at b2;exact Good.same h aT rfl (aS.tO _ _ rfl b2))
   .cases he
  .cases he
 .rename_i y q;split at he
  .rename_i ds ao;split at he
   .rename_i d ax;split at he
    .cases he
    .rename_i fI;simp only[some.injEq]at he;have fI:(I.tuple ds).plain=false:=by simpa [I.plain]using fI
     rw[aS]at aF;obtain⟨dv,a,g1,g2,g3⟩:=aF _ ao fI;obtain⟨arr,rfl,cf⟩:=g3;obtain⟨x,an,aa,ar⟩:=pick ds d arr ax cf;have aT:(Instr.extract (.tuple arr) k).run C.P w= .ok x w:=by simp[Instr.extract,an]
     have hy:=h.ey y;rw[aS.dr (ju ao (.inl fI))]at hy;obtain⟨hd,dH,e3,gl,k0,b1,cK,dM,dX,eF⟩:=ctx q (s y) (dd (aG y)) (S y) none _ hy.2 ao;rw[k0]at g1;simp only[some.injEq,Prod.mk.injEq,true_and]at g1;obtain⟨rfl,rfl⟩:=g1;rw[g2]at ar;split at he
     .rename_i ay;subst he;rw[aA]at dX;obtain⟨cA,hc,c2,cD,jt,e,ja,hs,iE,j1,hh,o1⟩:=bA.pick ds _ _ k d dX ax;rw[e,yK cA hc c2 _ _ ja (aA.length _ _ _ hh)]at ar;by_cases aY:d.tree=true
      .exact Good.same h aT ay ((aS.dr aY).2 ⟨aa,by rw[<-ar];exact aA.plain _ _ _ _ ay hh⟩)
      .cases d<;>first|exact(aY rfl).elim|(rw[aA]at hh;exact hh.elim)|exact Good.same h aT rfl (by rw[aS];trivial)|(have b2:=aA.plain _ _ _ (λ_=>False) ay hh;rw[ar,ix (by exact aa)]at b2;exact Good.same h aT rfl (aS.tO _ _ rfl b2))
     .subst he;refine Good.same h aT rfl ?_;rw[aS];intro d2 ht D_;rw[Ed w q _ _ _ _ _ _ [k] k0];rw[Ec _ _ _ _ ao]at ht;simp only[I.sub,ax,some.injEq]at ht;subst ht;simp only[ep,ax];exact⟨_,_,rfl,ar.symm,aa⟩
   .cases he
  .cases he
 .cases he
def jd (C:cl) (s:al) (T:TypeId) (x:I) (k:Nat):Option I:=
 match(C.T T).k with
 | .struct aE=>match aE[k]? with
   |some (l4,off)=>match x with
    | .agg ds=>match ds[k]? with
      |some d=>if I.eZ (ds.take k)=off/\fits C l4 d=true/\d.plain=true/\d.tree=true then some d else none
      |none=>none
    | .h y q=>match I.sub q (s y)with
      |some (.agg ds)=>match ds[k]? with
       |some d=>if I.eZ (ds.take k)=off/\fits C l4 d=true/\I.hA ds=false/\d.tree=true then some (if d.plain then d else .h y (q++[k]))else none
       |none=>none
      |_=>none
    |_=>none
   |none=>none
 |_=>none
theorem adi (bO:C.fH) (h:cd w0 F0 X F S s aG w) {T:TypeId} {x:I} {v:Value} {k:Nat} (aF:aS w F s aG x v (λ_=>False)) (he:jd C s T x k=some av):Good C w0 F0 X aG w (Instr.field T v k) av s:=by
 have key:∀(aE:List (TypeId×Nat)) (l4:TypeId) (off:Nat),(C.T T).k= .struct aE->aE[k]? =some (l4,off)->∀(ds:azk) (d:I) (arr:Array Value) (aZ:Nat->Prop),ds[k]? =some d->I.eZ (ds.take k)=off->fits C l4 d=true->bA w F ds arr.toList aZ->
   ∃x jt,(Instr.field T (.agg arr) k).run C.P w= .ok x w/\eK d x/\aA w F d (dd x) jt/\(arr.toList.drop off).take d.wd=dd x:=by
  intro aE l4 off ax bH ds d arr aZ ao tN kd hT;obtain⟨i,Ej,z,aO,aU,aM,bT,cv,ck,bY⟩:=bO.info (hv ax (by simp));rw[ax]at bY;obtain⟨gs,rfl,fh⟩:=Ee bY;obtain⟨g,g1,rfl,rfl⟩:∃g,gs[k]? =some g/\g.type=l4/\g.offset=off:=by
   rw[<-fh,getElem?_map]at bH;simp only[map_eq_some_iff,Prod.mk.injEq]at bH;obtain⟨g,ad,ae,aJ⟩:=bH;exact⟨g,by simpa using ad,ae,aJ⟩
  obtain⟨cA,hc,c2,cD,jt,e,ja,hs,iE,j1,hh,o1⟩:=bA.pick ds _ _ k d hT ao;obtain⟨x,aT,Uc,oD⟩:=acT (w:=w) bO e (ja.trans tN) hh kd;refine⟨x,jt,?_,oD,by rw[Uc];exact hh,?_⟩
  .simp[Instr.field,run_underlying ck,g1,asAgg,aT]
  .rw[e,Uc,<-tN];exact yK cA hc c2 _ _ ja (aA.length _ _ _ hh)
 have Ud:∀(d:I) (x:Value) (jt:Nat->Prop),d.plain=true->eK d x->aA w F d (dd x) jt->aS w F s aG d x (λ_=>False):=by
  intro d x jt ay aa hT;by_cases aY:d.tree=true
  .exact(aS.dr aY).2 ⟨aa,aA.plain _ _ _ _ ay hT⟩
  .cases d<;>first|exact(aY rfl).elim|(rw[aA]at hT;exact hT.elim)|(rw[aS];trivial)|(have b2:=aA.plain _ _ _ (λ_=>False) ay hT;rw[ix (by exact aa)]at b2;exact aS.tO _ _ rfl b2)
 unfold jd at he;split at he
 .rename_i aE ax;split at he
  .rename_i l4 off bH;split at he
   .rename_i ds;split at he
    .rename_i d ao;split at he
     .rename_i ar;simp only[some.injEq]at he;subst he;obtain⟨⟨arr,rfl⟩,hT⟩:=(aS.dr rfl).1 aF;rw[aA]at hT;obtain⟨x,jt,aT,aa,xr,_⟩:=key aE l4 off ax bH ds d arr _ ao ar.1 ar.2.1 hT;exact Good.same h aT ar.2.2.1 (Ud d x jt ar.2.2.1 aa xr)
     .cases he
    .cases he
   .rename_i y q;split at he
    .rename_i ds ao;split at he
     .rename_i d o4;split at he
      .rename_i ar;simp only[some.injEq]at he;have fI:(I.agg ds).plain=false:=by simpa [I.plain]using ar.2.2.1
       rw[aS]at aF;obtain⟨dv,a,g1,g2,g3⟩:=aF _ ao fI;obtain⟨arr,rfl⟩:=g3;have hy:=h.ey y;rw[aS.dr (ju ao (.inl fI))]at hy;obtain⟨hd,dH,e3,gl,k0,b1,cK,dM,dX,eF⟩:=ctx q (s y) (dd (aG y)) (S y) none _ hy.2 ao;rw[k0]at g1;simp only[some.injEq,Prod.mk.injEq,true_and]at g1;obtain⟨rfl,rfl⟩:=g1;rw[aA,<-g2]at dX;obtain⟨x,jt,aT,aa,xr,iF⟩:=key aE l4 off ax bH ds d arr _ o4 ar.1 ar.2.1 dX;by_cases ay:d.plain=true
       .rw[if_pos ay]at he;subst he;exact Good.same h aT ay (Ud d x jt ay aa xr)
       .rw[if_neg ay]at he;subst he;refine Good.same h aT rfl ?_;rw[aS];intro d2 ht D_;rw[Ed w q _ _ _ _ _ _ [k] k0];rw[Ec _ _ _ _ ao]at ht;simp only[I.sub,o4,some.injEq]at ht;subst ht;simp only[ep,o4];refine⟨_,_,rfl,?_,aa⟩;rw[ar.1,<-g2];exact iF.symm
      .cases he
     .cases he
    .cases he
   .cases he
  .cases he
 .cases he
end
section
variable {C:cl} {w0 w:World} {F0 X F:Nat->Prop} {S:Nat->Nat->Prop} {s s1:al} {aG:Nat->Value} {av:I}
def idx (C:cl) (T:TypeId) (x i:I):Option I:=
 match(C.T T).k,x,i with
 | .str,.str l,.int _ n=>if 0<=n then(match l[n.toNat]? with|some b=>some (.int .u8 b.toNat)|none=>none)else none
 |_,_,_=>none
theorem adj (l:azc) (n:Nat):(⟨⟨l⟩⟩:ByteArray)[n]? =l[n]? :=by
 by_cases h:n<l.length
 .have bD:n<(⟨⟨l⟩⟩:ByteArray).size:=h;rw[getElem?_eq_getElem h,getElem?_pos (⟨⟨l⟩⟩:ByteArray) n bD];rfl
 .have bD:¬n<(⟨⟨l⟩⟩:ByteArray).size:=h;rw[getElem?_eq_none (by omega),getElem?_neg (⟨⟨l⟩⟩:ByteArray) n bD]
theorem adk (bO:C.fH) (h:cd w0 F0 X F S s aG w) {T:TypeId} {x i:I} {v qT:Value} (aF:aS w F s aG x v (λ_=>False)) (ai:aS w F s aG i qT (λ_=>False)) (he:idx C T x i=some av):
  Good C w0 F0 X aG w (Instr.index T v qT) av s:=by
 unfold idx at he;split at he
 .rename_i l k n ax;have:=o5 aF;subst this;have:=qg ai;subst this;obtain⟨i,d,z,aO,aU,aM,bT,cv,ck,bY⟩:=bO.info (hv ax (by simp));rw[ax]at bY;have:=tL bY;subst this;split at he
  .rename_i aR;split at he
   .rename_i b ab;simp only[some.injEq]at he;subst he;refine Good.same h ?_ rfl (of_int _ _);simp[Instr.index,asIntOf,run_underlying ck,aR,adj,ab]
   .cases he
  .cases he
 .cases he
def lenOf (s:al):I->Option Nat
 | .str l=>some l.length
 | .a8=>some 0
 | .slice xs=>some xs.length
 | .h y q=>match I.sub q (s y)with
   |some (.ak _ xs)=>some xs.length
   |_=>none
 |_=>none
def vA (C:cl) (s:al) (T:TypeId) (x:I):Option I:=
 match(C.T T).k,x with
 | .str,.str l=>some (.int .i64 l.length)
 | .slice _,.a8=>some (.int .i64 0)
 | .slice _,.slice xs=>some (.int .i64 xs.length)
 | .slice _,.h y q=>match I.sub q (s y)with
   |some (.ak _ xs)=>some (.int .i64 xs.length)
   |_=>none
 |_,_=>none
theorem H4 {xs:azk} {v:Value} {aZ:Nat->Prop} (h:aS w F s aG (.slice xs) v aZ):(xs=[]/\∃a c,v= .slice a 0 c/\c<=maxLen/\(a=none->c=0))\/
  ∃b o cap e9 sz,v= .slice (some ⟨b,o,none⟩) xs.length cap/\F b/\xs.length<=cap/\cap<=maxLen/\(∀d∈xs,d.wd=sz)/\js w b o e9/\bA w F xs e9 (λ_=>False):=by
 have bD:=(aS.dr rfl).1 h;rw[aA,ix bD.1]at bD;obtain⟨_,⟨rfl,a,c,ae,aJ⟩|⟨b,o,cap,e9,sz,ae,aJ⟩⟩:=bD
 .simp at ae;exact .inl ⟨rfl,a,c,ae,aJ⟩
 .simp at ae;exact .inr ⟨b,o,cap,e9,sz,ae,aJ⟩
theorem adl (bO:C.fH) (h:cd w0 F0 X F S s aG w) {T ty:TypeId} {x:I} {v:Value} (aF:aS w F s aG x v (λ_=>False)) (he:vA C s T x=some av):
  Good C w0 F0 X aG w (Builtin.len_ #[T] ty #[v]) av s:=by
 unfold vA at he;split at he
 .rename_i l ax;have:=o5 aF;subst this;obtain⟨i,d,z,aO,aU,aM,bT,cv,ck,bY⟩:=bO.info (hv ax (by simp));rw[ax]at bY;have:=tL bY;subst this;simp only[some.injEq]at he;subst he;refine Good.same h ?_ rfl (of_int _ _);simp[Builtin.len_,run_underlying ck,goInt];rfl
 .rename_i e ax;have:=xq aF;subst this;obtain⟨i,d,z,aO,aU,aM,bT,cv,ck,bY⟩:=bO.info (hv ax (by simp));rw[ax]at bY;have:=oC bY;subst this;simp only[some.injEq]at he;subst he;refine Good.same h ?_ rfl (of_int _ _);simp[Builtin.len_,run_underlying ck,goInt]
 .rename_i e xs ax;obtain⟨i,d,z,aO,aU,aM,bT,cv,ck,bY⟩:=bO.info (hv ax (by simp));rw[ax]at bY;have:=oC bY;subst this;simp only[some.injEq]at he;subst he;refine Good.same h ?_ rfl (of_int _ _);rcases H4 aF with⟨rfl,a,c,rfl,_⟩|⟨b,o,cap,e9,sz,rfl,_⟩<;>simp[Builtin.len_,run_underlying ck,goInt]
 .rename_i e y q ax;split at he
  .rename_i sz xs ao;obtain⟨i,d,z,aO,aU,aM,bT,cv,ck,bY⟩:=bO.info (hv ax (by simp));rw[ax]at bY;have:=oC bY;subst this;simp only[some.injEq]at he;subst he;refine Good.same h ?_ rfl (of_int _ _);rcases MF h aF ao with⟨rfl,_,rfl⟩|⟨b,cap,cur,aU,fr,rfl,_⟩<;>simp[Builtin.len_,run_underlying ck,goInt]
  .cases he
 .cases he
def bytesOf:azk->Option azc
 |[]=>some []
 | .int .u8 n::r=>if 0<=n/\n<256 then(bytesOf r).map (UInt8.ofNat n.toNat::·)else none
 |_=>none
def iR (b:UInt8):I:=.int .u8 b.toNat
theorem adm (l:azc):bytesOf (l.map iR)=some l:=by
 induction l with
 |nil=>rfl
 |cons b l ih=>
  have ab:b.toNat<256:=b.toNat_lt;simp only[map_cons,iR,bytesOf,Int.toNat_natCast];rw[if_pos (by omega),ih];simp
theorem MG:∀(xs:azk) (l:azc) (cs:azi) (aZ:Nat->Prop),bytesOf xs=some l->bA w F xs cs aZ->cs=l.map (λb=>.int .u8 (b.toNat:Int))/\xs.length=l.length
 |[],l,cs,aZ,h,aT=>by simp[bytesOf]at h;subst h;rw[bA]at aT;subst aT;exact⟨rfl,rfl⟩
 |x::xs,l,cs,aZ,h,aT=>by
  unfold bytesOf at h;split at h
  .rename_i e;cases e
  .rename_i n r e;simp only[cons.injEq]at e;obtain⟨rfl,rfl⟩:=e;split at h
   .rename_i aR;simp only[map_eq_some_iff]at h;obtain⟨c_,ad,rfl⟩:=h;rw[bA]at aT;obtain⟨cA,c2,cD,eH,rfl,ae,aJ,_⟩:=aT;obtain⟨rfl,bh⟩:=MG xs c_ c2 eH ad aJ;rw[aA]at ae;subst ae;refine⟨?_,by simp[bh]⟩;simp only[map_cons,cons_append,nil_append,cons.injEq,and_true,Value.int.injEq,true_and];simp only[UInt8.toNat_ofNat'];omega
   .cases h
  .cases h
theorem cd.H5 (h:cd w0 F0 X F S s aG w) {aL:World} {sz cap:Nat} {xs:azk} {cur:Array Value} {e:TypeId} {fr:Nat×Nat} {Sn:Nat->Prop}
  (hw:aL.heap=w.heap.push (.cells cur e fr)) (ad:aL.os=w.os) (ae:aL.tape=w.tape) (aJ:Out aL w)
  (bH:pH fr (cur.size+(sz-1))) (hle:xs.length<=cap) (hm:cap<=maxLen) (fg:cur.size=cap*sz) (nb:∀d∈xs,d.wd=sz) (aF:bA w F xs (cur.toList.take (xs.length*sz)) Sn)
  (er:∀b,Sn b->b<w.heap.size) (bK:∀b,Sn b->¬F b) (cj:∀u b,Sn b->¬S u b) (a7:∀b,Sn b->X b\/w0.heap.size<=b):
  cd w0 F0 X F S s aG aL/\nV w0 X F S s aG aL (.ak sz xs) (.slice (some ⟨w.heap.size,0,none⟩) xs.length cap):=by
 have hold:∀b,b<w.heap.size->aL.heap[b]? =w.heap[b]? :=by
  intro b ab;rw[hw,Array.getElem?_push,if_neg (by omega)]
 have awS:aL.heap.size=w.heap.size+1:=by rw[hw];simp
 refine⟨h.grow hold (by omega) ad ae aJ,.inr ⟨rfl,rfl,λb=>b=w.heap.size\/Sn b,?_,?_,?_,?_,?_⟩⟩
 .simp only[dd,jb];rw[aA];refine .inr ⟨w.heap.size,cap,cur,e,fr,Sn,rfl,.inl rfl,?_,bH,hle,hm,fg,nb,?_,λc ar=>.inr ar,λar=>Nat.lt_irrefl _ (er _ ar)⟩
  .rw[hw];simp
  .exact bA.frame (λb ab=>hold b (h.gP b ab)) _ _ _ (λb ab=>hold b (er b ab)) aF
 .rintro b (rfl|ab)
  .omega
  .have:=er b ab;omega
 .rintro b (rfl|ab) vz
  .exact Nat.lt_irrefl _ (h.gP _ vz)
  .exact bK b ab vz
 .rintro u b (rfl|ab) hu
  .exact Nat.lt_irrefl _ (h.fS _ _ hu)
  .exact cj u b ab hu
 .rintro b (rfl|ab)
  .exact .inr h.size
  .exact a7 b ab
def kW (C:cl) (s:al) (A B:TypeId) (x:I):Option I:=
 if(C.T A).ok=true then
 match(C.T B).k,x with
 | .int k,.int _ n=>some (.int k (k.wrap n))
 | .str,.str l=>match(C.T A).k with
   | .str=>some (.str l)
   |_=>none
 | .str,x=>match(C.T A).k with
   | .slice e=>match(C.T e).k with
     | .int .u8=>match x with
       | .a8=>some (.str [])
       | .slice xs=>(bytesOf xs).map .str
       | .h y q=>match I.sub q (s y)with
         |some (.ak 1 xs)=>(bytesOf xs).map .str
         |_=>none
       |_=>none
     |_=>none
   |_=>none
 | .slice e,.str l=>match(C.T A).k,(C.T e).k with
   | .str,.int .u8=>if l.length<=9223372036854775807 then some (.ak 1 (l.map iR))else none
   |_,_=>none
 |_,_=>none
 else none
theorem Ue (l:azc) (aZ:Nat->Prop):bA w F (l.map iR) (l.map λb=>.int .u8 (b.toNat:Int)) aZ:=by
 induction l generalizing aZ with
 |nil=>simp only[map_nil];rw[bA]
 |cons b l ih=>
  simp only[map_cons];rw[bA];exact⟨[.int .u8 (b.toNat:Int)],_,λ_=>False,λ_=>False,rfl,by rw[iR,aA],ih _,λ_ h=>h.elim,λ_ h=>h.elim,λ_ h=>h.elim⟩
theorem adn (bO:C.fH) (h:cd w0 F0 X F S s aG w) {A B:TypeId} {x:I} {v:Value} (aF:aS w F s aG x v (λ_=>False)) (he:kW C s A B x=some av):
  Good C w0 F0 X aG w (convert A B v) av s:=by
 unfold kW at he;split at he
 .rename_i iS;obtain⟨kF,awT,awU,J,a2,a3,a4,a5,pK,o7⟩:=bO.info iS;split at he
  .rename_i k da n ax;have:=qg aF;subst this;obtain⟨i,d,z,aO,aU,aM,bT,cv,ck,bY⟩:=bO.info (hv ax (by simp));rw[ax]at bY;have:=HW bY;subst this;simp only[some.injEq]at he;subst he;refine Good.same h ?_ rfl (of_int _ _);simp[convert,run_underlying pK,run_underlying ck,Conv.intToInt]
  .rename_i l ax;have:=o5 aF;subst this;obtain⟨i,d,z,aO,aU,aM,bT,cv,ck,bY⟩:=bO.info (hv ax (by simp));rw[ax]at bY;have:=tL bY;subst this;split at he
   .rename_i En;rw[En]at o7;have:=tL o7;subst this;simp only[some.injEq]at he;subst he;refine Good.same h ?_ rfl (sq _);simp[convert,run_underlying pK,run_underlying ck]
   .cases he
  .rename_i x ax _;obtain⟨i,d,z,aO,aU,aM,bT,cv,ck,bY⟩:=bO.info (hv ax (by simp));rw[ax]at bY;have:=tL bY;subst this;split at he
   .rename_i e En;rw[En]at o7;have:=oC o7;subst this;split at he
    .rename_i Eo;obtain⟨tM,bM,vx,f1,f2,f3,f4,f5,f6,f7⟩:=bO.info (hv Eo (by simp));rw[Eo]at f7;have:=HW f7;subst this;have fin:∀(l:azc) (b o cap:Nat),js w b o (l.map λb=>.int .u8 (b.toNat:Int))->(convert A B (.slice (some ⟨b,o,none⟩) l.length cap)).run C.P w= .ok (.string ⟨⟨l⟩⟩) w:=by
      intro l b o cap mh;refine run_convert_bytes_back w A B e ⟨b,o,none⟩ cap l pK f6 ck (λj bJ=>?_);rw[Addr.add_lit];exact mh j _ (by simp[bJ])
     have nil:(convert A B (.slice none 0 0)).run C.P w= .ok (.string ⟨⟨[]⟩⟩) w:=by
      simp[convert,run_underlying pK,run_underlying ck,run_underlying f6,Conv.bytesToString];rfl
     split at he
     .have:=xq aF;subst this;simp only[some.injEq]at he;subst he;exact Good.same h nil rfl (sq _)
     .rename_i xs _;simp only[map_eq_some_iff]at he;obtain⟨l,aC,rfl⟩:=he;rcases H4 aF with⟨rfl,a,c,rfl,_,yW⟩|⟨b,o,cap,e9,sz,rfl,ad,ae,aJ,bh,b2,dA⟩
      .simp[bytesOf]at aC;subst aC;cases a with
       |none=>
        have:=yW rfl;subst this;exact Good.same h nil rfl (sq _)
       |some a=>
        refine Good.same h ?_ rfl (sq _);exact run_convert_bytes_back w A B e a c [] pK f6 ck (λj bJ=>by simp at bJ)
      .obtain⟨rfl,dC⟩:=MG xs l e9 _ aC dA;rw[dC];exact Good.same h (fin l b o cap b2) rfl (sq _)
     .rename_i y q;split at he
      .rename_i xs ao;simp only[map_eq_some_iff]at he;obtain⟨l,aC,rfl⟩:=he;rcases MF h aF ao with⟨rfl,a,rfl⟩|⟨b,cap,cur,aU,fr,rfl,ad,ae,aJ,bh,b2,dA,aZ,dC,_⟩
       .simp[bytesOf]at aC;subst aC;cases a with
        |none=>exact Good.same h nil rfl (sq _)
        |some a=>
         refine Good.same h ?_ rfl (sq _);exact run_convert_bytes_back w A B e a 0 [] pK f6 ck (λj bJ=>by simp at bJ)
       .obtain⟨hI,jF⟩:=MG xs l _ _ aC dC;rw[jF];refine Good.same h (fin l b 0 cap ?_) rfl (sq _);rw[<-hI];exact A3 ad _
      .cases he
     .cases he
    .cases he
   .cases he
  .rename_i e l ax;have:=o5 aF;subst this;obtain⟨i,d,z,aO,aU,aM,bT,cv,ck,bY⟩:=bO.info (hv ax (by simp));rw[ax]at bY;have:=oC bY;subst this;split at he
   .rename_i En Eo;rw[En]at o7;have:=tL o7;subst this;obtain⟨tM,bM,vx,f1,f2,f3,f4,f5,f6,f7⟩:=bO.info (hv Eo (by simp));rw[Eo]at f7;have:=HW f7;subst this;split at he
    .rename_i aC;simp only[some.injEq]at he;subst he;have aa:(⟨⟨l⟩⟩:ByteArray).size=l.length:=rfl;have MH:=grownCap_ge w l.length 0 e;have ado:=grownCap_le_maxLen w l.length 0 e (by unfold maxLen;omega);have Uf:(bytesRow ⟨⟨l⟩⟩ (grownCap w l.length 0 e)).toList=l.map (λb=>Value.int .u8 (b.toNat:Int))++replicate (grownCap w l.length 0 e-l.length) (.int .u8 0):=by
      simp[bytesRow,aa]
     have fg:(bytesRow ⟨⟨l⟩⟩ (grownCap w l.length 0 e)).size=grownCap w l.length 0 e*1:=by
      have:(bytesRow ⟨⟨l⟩⟩ (grownCap w l.length 0 e)).size=(bytesRow ⟨⟨l⟩⟩ (grownCap w l.length 0 e)).toList.length:=by simp
      rw[this,Uf];simp;omega
     have yT:=run_bytes_of_string w A B e ⟨⟨l⟩⟩ pK ck f6;rw[aa]at yT;have oE:=h.H5 (aL:=w.drew.alloc (.cells (bytesRow ⟨⟨l⟩⟩ (grownCap w l.length 0 e)) e ((bytesRow ⟨⟨l⟩⟩ (grownCap w l.length 0 e)).size,(bytesRow ⟨⟨l⟩⟩ (grownCap w l.length 0 e)).size+1)))
      (sz:=1) (cap:=grownCap w l.length 0 e) (xs:=l.map iR) (cur:=bytesRow ⟨⟨l⟩⟩ (grownCap w l.length 0 e)) (e:=e) (Sn:=λ_=>False) rfl rfl rfl ⟨rfl,λ_=>le_succ _⟩
      (λo bL ⟨ad,_⟩=>by simp only at ad;omega) (by simpa using MH) ado fg (by intro d ao;obtain⟨b,_,rfl⟩:=mem_map.1 ao;rfl)
      (by rw[Uf,take_left' (by simp)];exact Ue l _) (λ_ h=>h.elim) (λ_ h=>h.elim) (λ_ _ h=>h.elim) (λ_ h=>h.elim)
     simp only[length_map]at oE;exact⟨_,_,F,S,yT,oE.1,oE.2⟩
    .cases he
   .cases he
  .cases he
 .cases he
end
section
variable {C:cl} {w0 w:World} {F0 X F:Nat->Prop} {S:Nat->Nat->Prop} {s s1:al} {aG:Nat->Value} {av:I}
def jE (d:Nat):Option I->Option Nat
 |none=>some d
 |some (.int _ n)=>if 0<=n then some n.toNat else none
 |some _=>none
def iJ (C:cl) (s:al) (T:TypeId) (x:I) (fM ai:Option I):Option (I×al):=
 match(C.T T).k,x with
 | .str,.str l=>match jE 0 fM,jE l.length ai with
   |some a,some b=>if a<=b/\b<=l.length then some (.str ((l.take b).drop a),s)else none
   |_,_=>none
 | .slice e,.a8=>match jE 0 fM,jE 0 ai with
   |some 0,some 0=>if(C.T e).ok=true then some (.a8,s)else none
   |_,_=>none
 | .slice e,.slice xs=>match jE 0 fM,jE xs.length ai with
   |some a,some b=>if a<=b/\b<=xs.length/\(C.T e).ok=true/\(∀d∈xs,d.wd=(C.T e).sz)then some (.slice ((xs.take b).drop a),s)else none
   |_,_=>none
 | .slice e,.h y q=>match I.sub q (s y)with
   |some (.ak sz xs)=>match jE 0 fM,jE xs.length ai with
    |some 0,some b=>if b<=xs.length/\(C.T e).ok=true then(match dD s (.h y q)with|some (_,s1)=>some (.ak sz (xs.take b),s1)|none=>none)else none
    |_,_=>none
   |_=>none
 |_,_=>none
def vB (w:World) (F:Nat->Prop) (s:al) (aG:Nat->Value):Option I->Option Value->Prop
 |none,none=>True
 |some d,some v=>aS w F s aG d v (λ_=>False)
 |_,_=>False
theorem Ug {d:Nat} {o:Option I} {v:Option Value} (bL:vB w F s aG o v) {a:Nat} (h:jE d o=some a):(o=none/\v=none/\a=d)\/∃k,v=some (.int k a):=by
 cases o with
 |none=>
  cases v with
  |none=>simp[jE]at h;exact .inl ⟨rfl,rfl,h.symm⟩
  |some v=>simp[vB]at bL
 |some x=>
  cases v with
  |none=>simp[vB]at bL
  |some v=>
   simp only[vB]at bL;cases x with
   |int k n=>
    have:=qg bL;subst this;simp only[jE]at h;split at h
    .rename_i aR;simp only[some.injEq]at h;subst h;obtain⟨m,rfl⟩:=Int.eq_ofNat_of_zero_le aR;exact .inr ⟨k,rfl⟩
    .cases h
   |_=>simp[jE]at h
theorem Ba {P:Program} {isS:Bool} {len cap a b:Nat} {fM ai:Option I} {yZ y0:Option Value} (qV:vB w F s aG fM yZ) (qW:vB w F s aG ai y0) (bl:jE 0 fM=some a) (ab:jE len ai=some b) (kC:a<=b) (adp:b<=cap) (_hlc:len<=cap):
  (Instr.sliceBounds isS len cap yZ y0 none).run P w= .ok (a,b,cap) w:=by
 rcases Ug qV bl with⟨_,rfl,rfl⟩|⟨k,rfl⟩<;>rcases Ug qW ab with⟨_,rfl,rfl⟩|⟨da,rfl⟩<;>
  simp[Instr.sliceBounds,Instr.sliceBound,asIntOf,kC,adp]
theorem Bb (bO:C.fH) {T:TypeId} (ax:(C.T T).flat=true) (v:Value) (fM ai fc:Option Value) (w:World):(Instr.sliceAt T v fM ai fc).run C.P w=(Instr.slice T v fM ai fc).run C.P w:=by
 obtain⟨i,d,z,aO,aU,aM,bT,cv,ck,bY⟩:=bO.info (TW ax);have dV:∀n e,d≠.array n e:=by
  clear ck;unfold hB.flat at ax;generalize (C.T T).k=nX at*;cases nX<;>cases d<;>simp[nU]at bY ax⊢
 cases d<;>first|exact(dV _ _ rfl).elim|simp[Instr.sliceAt,run_underlying ck]
theorem Bc {x:hB} {k:qe} (h:x.k=k) (ax:k≠.other) (aa:∀aE,k≠.struct aE) (ab:∀e,k≠.gm e:=by simp):x.flat=true:=by
 unfold hB.flat;rw[h];cases k<;>first|rfl|exact(ax rfl).elim|exact(ab _ rfl).elim|exact(aa _ rfl).elim
theorem bA.split:∀(n:Nat) (xs:azk) (cs:azi) (aZ:Nat->Prop),bA w F xs cs aZ->∃cA c2 cD eH,cs=cA++c2/\bA w F (xs.take n) cA cD/\bA w F (xs.drop n) c2 eH/\(∀b,cD b->aZ b)/\(∀b,eH b->aZ b)/\(∀b,cD b->¬eH b)
 |0,xs,cs,aZ,h=>⟨[],cs,λ_=>False,aZ,rfl,by rw[take_zero,bA],h,λ_ h=>h.elim,λ_ h=>h,λ_ h=>h.elim⟩
 |n+1,[],cs,aZ,h=>by rw[bA]at h;subst h;exact⟨[],[],λ_=>False,λ_=>False,rfl,by rw[take_nil,bA],by rw[drop_nil,bA],λ_ h=>h.elim,λ_ h=>h.elim,λ_ h=>h.elim⟩
 |n+1,x::xs,cs,aZ,h=>by
  rw[bA]at h;obtain⟨cA,c2,i_,hS,rfl,ad,ae,aJ,bh,b2⟩:=h;obtain⟨d1,d2,cD,eH,rfl,g1,g2,g3,g4,g5⟩:=bA.split n xs c2 hS ae;refine⟨cA++d1,d2,λb=>i_ b\/cD b,eH,by simp,?_,g2,?_,λb ab=>bh _ (g4 _ ab),?_⟩
  .rw[take_succ_cons,bA];exact⟨cA,d1,i_,cD,rfl,ad,g1,λ_ h=>.inl h,λ_ h=>.inr h,λb ab ar=>b2 b ab (g3 b ar)⟩
  .rintro b (ab|ab)
   .exact aJ b ab
   .exact bh b (g3 b ab)
  .rintro b (ab|ab) ar
   .exact b2 b ab (g4 b ar)
   .exact g5 b ab ar
theorem adq (bO:C.fH) (h:cd w0 F0 X F S s aG w) {T:TypeId} {x:I} {v:Value} {fM ai:Option I} {yZ y0:Option Value} (an:x.plain=true) (aF:aS w F s aG x v (λ_=>False)) (qV:vB w F s aG fM yZ) (qW:vB w F s aG ai y0)
  (he:iJ C s T x fM ai=some (av,s1)):Good C w0 F0 X aG w (Instr.sliceAt T v yZ y0 none) av s1:=by
 unfold iJ at he;split at he
 .rename_i l ax;have:=o5 aF;subst this;obtain⟨i,d,z,aO,aU,aM,bT,cv,ck,bY⟩:=bO.info (hv ax (by simp));rw[ax]at bY;have:=tL bY;subst this;split at he
  .rename_i a b bl ab;split at he
   .rename_i kC;simp only[some.injEq,Prod.mk.injEq]at he;obtain⟨rfl,rfl⟩:=he;refine Good.same h ?_ rfl (sq _);rw[Bb bO (Bc ax (by simp) (by simp))];have fg:(⟨⟨l⟩⟩:ByteArray).size=l.length:=rfl;have qX:=Ba (P:=C.P) (isS:=false) (len:=l.length) (cap:=l.length) qV qW bl ab kC.1 kC.2 (Nat.le_refl _);have adr:(⟨⟨l⟩⟩:ByteArray).extract a b=⟨⟨(l.take b).drop a⟩⟩:=by
     apply ByteArray.ext;simp[ByteArray.data_extract,drop_take]
    simp[Instr.slice,run_underlying ck,fg,qX,adr]
   .cases he
  .cases he
 .rename_i e ax;have:=xq aF;subst this;obtain⟨i,d,z,aO,aU,aM,bT,cv,ck,bY⟩:=bO.info (hv ax (by simp));rw[ax]at bY;have:=oC bY;subst this;split at he
  .rename_i bl ab;split at he
   .rename_i vC;obtain⟨tM,bM,vx,f1,f2,f3,f4,f5,f6,f7⟩:=bO.info vC;simp only[some.injEq,Prod.mk.injEq]at he;obtain⟨rfl,rfl⟩:=he;have qX:=Ba (P:=C.P) (isS:=true) (len:=0) (cap:=0) qV qW bl ab (Nat.le_refl _) (Nat.le_refl _) (Nat.le_refl _);refine Good.same h (v:=.slice none 0 0) ?_ rfl aF;rw[Bb bO (Bc ax (by simp) (by simp))];simp[Instr.slice,run_underlying ck,qX,nf f1,f2]
   .cases he
  .cases he
 .rename_i e xs ax;obtain⟨i,d,z,aO,aU,aM,bT,cv,ck,bY⟩:=bO.info (hv ax (by simp));rw[ax]at bY;have:=oC bY;subst this;split at he
  .rename_i a b bl ab;split at he
   .rename_i kC;obtain⟨ads,Uh,vC,nb⟩:=kC;obtain⟨tM,bM,vx,f1,f2,f3,f4,f5,f6,f7⟩:=bO.info vC;simp only[some.injEq,Prod.mk.injEq]at he;obtain⟨rfl,rfl⟩:=he;rcases H4 aF with⟨rfl,Bd,c,rfl,MI,yW⟩|⟨lf,o,cap,e9,sz,rfl,ad,ae,aJ,bh,b2,dA⟩
    .have je:b=0:=by simpa using Uh
     subst je;have adt:a=0:=by omega
     subst adt;have qX:=Ba (P:=C.P) (isS:=true) (len:=0) (cap:=c) qV qW bl ab (Nat.le_refl _) (zero_le _) (zero_le _);refine Good.same h (v:=.slice Bd 0 c) ?_ rfl ((aS.dr rfl).2 ⟨rfl,by rw[aA];exact .inl ⟨rfl,Bd,c,rfl,MI,yW⟩⟩);rw[Bb bO (Bc ax (by simp) (by simp))];cases Bd with
     |none=>
      have:=yW rfl;subst this;simp[Instr.slice,run_underlying ck,qX,nf f1,f2]
     |some Bd=>simp[Instr.slice,run_underlying ck,qX,nf f1,f2,Addr.add]
    .have qX:=Ba (P:=C.P) (isS:=true) (len:=xs.length) (cap:=cap) qV qW bl ab ads (Nat.le_trans Uh ae) ae;obtain⟨cA,c2,cD,eH,rfl,g1,g2,g3,g4,g5⟩:=bA.split b xs e9 _ dA;obtain⟨d1,d2,awV,Ui,rfl,b1,cK,dM,dX,eF⟩:=bA.split a (xs.take b) cA _ g1;have H6:d1.length=a*(C.T e).sz:=by
      rw[bA.length _ _ _ b1,yM _ (λd ao=>nb d (mem_of_mem_take (mem_of_mem_take ao))),length_take,length_take];congr 1;omega
     have hlen:((xs.take b).drop a).length=b-a:=by simp;omega
     have mh:js w lf (o+a*(C.T e).sz) d2:=by
      rw[<-H6];have:js w lf o (d1++(d2++c2)):=by simpa using b2
      exact this.My
     have H7:bA w F ((xs.take b).drop a) d2 (λ_=>False):=bA.mono (λ_ h=>h) _ _ _ _ (λb ab=>(g3 _ (dX _ ab)).elim) cK;have mem:∀d∈(xs.take b).drop a,d.wd=sz:=λd ao=>bh d (mem_of_mem_take (mem_of_mem_drop ao));have run:(Instr.sliceAt T (.slice (some ⟨lf,o,none⟩) xs.length cap) yZ y0 none).run C.P w= .ok (.slice (if cap=a then some ⟨lf,o,none⟩else some ⟨lf,o+a*(C.T e).sz,none⟩) (b-a) (cap-a)) w:=by
      rw[Bb bO (Bc ax (by simp) (by simp))];simp[Instr.slice,run_underlying ck,qX,nf f1,f2,Addr.add_lit]
     refine⟨_,w,F,S,run,h,.inl ⟨rfl,(aS.dr rfl).2 ⟨rfl,?_⟩⟩⟩;simp only[dd,jb];rw[aA];by_cases Uj:cap=a
     .have adu:b=a:=by omega
      subst adu;have Ep:(xs.take b).drop b=[]:=by simp
      rw[if_pos Uj];rw[Ep]at H7⊢;rw[bA]at H7;subst H7;exact .inr ⟨lf,o,cap-b,[],sz,by simp,ad,zero_le _,by omega,by simp,λj c bJ=>by simp at bJ,by rw[bA]⟩
     .rw[if_neg Uj];exact .inr ⟨lf,_,cap-a,d2,sz,by rw[hlen],ad,by rw[hlen];omega,by omega,mem,mh,H7⟩
   .cases he
  .cases he
 .rename_i e y q ax;split at he
  .rename_i sz xs ao;split at he
   .rename_i b bl ab;split at he
    .rename_i xt;split at he
     .rename_i Ej s2 aY;simp only[some.injEq,Prod.mk.injEq]at he;obtain⟨rfl,rfl⟩:=he;obtain⟨i,d,z,aO,aU,aM,bT,cv,ck,bY⟩:=bO.info (hv ax (by simp));rw[ax]at bY;have:=oC bY;subst this;obtain⟨tM,bM,vx,f1,f2,f3,f4,f5,f6,f7⟩:=bO.info xt.2;have yY:Ej= .ak sz xs:=by
       simp only[dD,ao,I.plain]at aY;simp at aY;exact aY.1.symm
      subst yY;obtain⟨cD,g0,g1,g2,Sn,g3,g4,g5,g6,g7,g8⟩:=sk h rfl aF aY;rw[ix g2,aA]at g3;rcases g3 with⟨rfl,a0,nz⟩|⟨lf,cap,cur,fT,fr,aZ,nz,b1,cK,dM,dX,eF,dz,kG,fA,o8,kh⟩
      .simp at nz;subst nz;have je:b=0:=by simpa using xt.1
       subst je;have qX:=Ba (P:=C.P) (isS:=true) (len:=0) (cap:=0) qV qW bl ab (Nat.le_refl _) (Nat.le_refl _) (Nat.le_refl _);refine⟨.slice a0 0 0,w,F,cD,?_,g0,.inr ⟨rfl,rfl,λ_=>False,by simp only[dd,jb];rw[aA];exact .inl ⟨rfl,_,rfl⟩,λ_ h=>h.elim,λ_ h=>h.elim,λ_ _ h=>h.elim,λ_ h=>h.elim⟩⟩;rw[Bb bO (Bc ax (by simp) (by simp))];cases a0<;>simp[Instr.slice,run_underlying ck,qX,nf f1,f2]
      .simp at nz;subst nz;have qX:=Ba (P:=C.P) (isS:=true) (len:=xs.length) (cap:=cap) qV qW bl ab (zero_le _) (Nat.le_trans xt.1 dX) dX;have hlen:(xs.take b).length=b:=by simp;omega
       have run:(Instr.sliceAt T (.slice (some ⟨lf,0,none⟩) xs.length cap) yZ y0 none).run C.P w= .ok (.slice (some ⟨lf,0,none⟩) b cap) w:=by
        rw[Bb bO (Bc ax (by simp) (by simp))];simp[Instr.slice,run_underlying ck,qX,nf f1,f2,Addr.add_lit]
       refine⟨_,w,F,cD,run,g0,.inr ⟨rfl,rfl,Sn,?_,g4,g5,g6,g7⟩⟩;simp only[dd,jb];rw[aA];obtain⟨cA,c2,i_,hS,ar,m1,m2,m3,m4,m5⟩:=bA.split b xs _ _ fA;refine .inr ⟨lf,cap,cur,fT,fr,aZ,by rw[hlen],b1,cK,dM,by omega,eF,dz,λd ao=>kG d (mem_of_mem_take ao),?_,o8,kh⟩;have H6:cA.length=b*sz:=by
        rw[bA.length _ _ _ m1,yM _ (λd ao=>kG d (mem_of_mem_take ao)),hlen]
       have:cur.toList.take ((xs.take b).length*sz)=cA:=by
        rw[hlen];have ae:b*sz<=xs.length*sz:=mul_le_mul_right _ xt.1;have:(cur.toList.take (xs.length*sz)).take (b*sz)=cA:=by rw[ar,take_left' H6]
        rwa [take_take,Nat.min_eq_left ae]at this
       rw[this];exact bA.mono (λ_ h=>h) _ _ _ _ m3 m1
     .cases he
    .cases he
   .cases he
  .cases he
 .cases he
end
section
variable {C:cl} {w0 w:World} {F0 X F:Nat->Prop} {S:Nat->Nat->Prop} {s s1:al} {aG:Nat->Value} {av:I}
def Src (P:Program) (w:World) (size:Nat) (x:Value) (m:Nat) (news:azi):Prop:=
 ∀aL:World,aL.heap=w.heap->(Builtin.lenOf x).run P aL= .ok m aL/\(Builtin.firstCells size m x).run P aL= .ok news.toArray aL
def MJ (d:TypeDesc):Prop:=(∃e,d= .slice e)\/d= .string
theorem adv {P:Program} {T dN ty e:TypeId} {vD:TypeDesc} {i:TypeInfo} (aY:P.underlying T=some (.slice e)) (hu:P.underlying dN=some vD) (y1:MJ vD) (ai:P.info? e=some i)
  {x:Value} {m:Nat} {news:azi} (H8:Src P w i.size x m news) {b n cap:Nat} {cur:Array Value} {fT:TypeId} {fr:Nat×Nat} {l mid r:azi} (ab:w.heap[b]? =some (.cells cur fT fr)) (bH:pH fr cur.size)
  (ar:cur.toList=l++(mid++r)) (aC:l.length=n*i.size) (hm:mid.length=news.length) (H0:∀v∈news,Value.hH v=true) (tR:n+m<=cap):
  ∃aL,(Builtin.append_ #[T,dN] ty #[.slice (some ⟨b,0,none⟩) n cap,x]).run P w= .ok (.slice (some ⟨b,0,none⟩) (n+m) cap) aL/\aL.heap[b]? =some (.cells (l++(news++r)).toArray fT fr)/\
   (∀c,c≠b->aL.heap[c]? =w.heap[c]?)/\aL.heap.size=w.heap.size/\aL.os=w.os/\aL.tape=w.tape/\Out aL w:=by
 obtain⟨aL,m1,m2⟩:=HZ (P:=P) (b:=b) (o:=n*i.size) (e:=fT) (fr:=fr) news 0 cur w l mid r ab bH ar (by omega) hm H0;refine⟨aL,?_,m2⟩;obtain⟨ad,ae⟩:=H8 w rfl;rcases y1 with⟨hi,rfl⟩|rfl<;>simp[Builtin.append_,run_underlying aY,run_underlying hu,nf ai,ad,ae,tR,Addr.add_lit,m1]
theorem adw {P:Program} {T dN ty e:TypeId} {vD:TypeDesc} {i:TypeInfo} {z:Value} (aY:P.underlying T=some (.slice e)) (hu:P.underlying dN=some vD) (y1:MJ vD) (ai:P.info? e=some i) (cf:i.zero=some z)
  {x:Value} {m:Nat} {news:azi} (H8:Src P w i.size x m news) {base:Option Addr} {n cap:Nat} {ss:azi} (hold:Src P w i.size (.slice base n cap) n ss) (tR:¬n+m<=cap)
  (aR:n+m<=9223372036854775807) (MK:(n+m)*i.bytes<=140737488355328):
  (Builtin.append_ #[T,dN] ty #[.slice base n cap,x]).run P w= .ok (.slice (some ⟨w.heap.size,0,none⟩) (n+m) (grownCap w (n+m) cap e))
   (w.drew.alloc (.cells (ss.toArray++news.toArray++Builtin.zeroCells z.cells (grownCap w (n+m) cap e-(n+m))) e)):=by
 have ad:=(H8 w rfl).1;have ae:=(H8 w.drew rfl).2;have aJ:=(hold w.drew rfl).2;have awW:=growslice_fits (need:=n+m) (old:=cap) (by omega) MK;have kd:¬(281474976710656<Builtin.nextslicecap (n+m) cap*i.bytes):=by omega
 have H9:∀k (w:World),(askRoom k).run P w= .ok () w:=by
  intro k w;unfold askRoom;split<;>rfl
 have adx:¬(9223372036854775807<(n:Int)+(m:Int)/\i.bytes=0):=by omega
 rcases y1 with⟨hi,rfl⟩|rfl<;>
  .simp[Builtin.append_,run_underlying aY,run_underlying hu,nf ai,Ef ai,ad,tR,kd,Question.forced,H9];rw[if_neg adx,aJ];simp[ae,yR ai cf,newRow,grownCap];have aO:(ss++news).toArray=ss.toArray++news.toArray:=by simp
   rw[aO,Array.append_assoc]
def H_ (C:cl) (e dN:TypeId):Bool:=match(C.T dN).k,(C.T e).k with
 | .slice hi,_=>hi==e
 | .str,.int .u8=>true
 |_,_=>false
def vE (C:cl) (s:al) (T dN:TypeId) (x y:I):Option (I×al):=
 match(C.T T).k with
 | .slice e=>if(C.T e).ok=true/\(C.T e).zero.wd=(C.T e).sz/\(flat (C.T e).zero).isSome=true/\H_ C e dN=true then
   match(match x with| .a8=>some (I.ak (C.T e).sz [],s)| .h a q=>dD s (.h a q)|_=>none)with
   |some (.ak sz xs,s1)=>if sz=(C.T e).sz then
     match(match nd x.owner y with
      | .a8=>some ([],s1)
      | .slice cH=>some (cH,s1)
      | .str l=>some (l.map iR,s1)
      | .h a q=>match dD s1 (.h a q)with
        |some (.ak _ cH,s2)=>some (cH,s2)
        |_=>none
      |_=>none)with
     |some (cH,s2)=>if(∀d∈cH,d.wd=(C.T e).sz)/\(xs.length+cH.length)*(C.T e).bytes<=140737488355328/\xs.length+cH.length<=9223372036854775807 then some (.ak sz (xs++cH),s2)else none
     |none=>none
    else none
   |_=>none
   else none
 |_=>none
theorem bA.append {xs cH:azk} {cA c2:azi} {cD eH aZ:Nat->Prop} (ad:bA w F xs cA cD) (ae:bA w F cH c2 eH) (aO:∀b,cD b->aZ b) (aU:∀b,eH b->aZ b) (aM:∀b,cD b->¬eH b):bA w F (xs++cH) (cA++c2) aZ:=by
 induction xs generalizing cA cD aZ with
 |nil=>rw[bA]at ad;subst ad;exact bA.mono (λ_ h=>h) _ _ _ _ aU ae
 |cons x xs ih=>
  rw[bA]at ad;obtain⟨ady,adz,i_,hS,rfl,g1,g2,g3,g4,g5⟩:=ad;rw[cons_append,bA];refine⟨ady,adz++c2,i_,λb=>hS b\/eH b,by simp,g1,ih g2 (λb h=>.inl h) (λb h=>.inr h) (λb h=>aM b (g4 b h)),λb h=>aO b (g3 b h),?_,?_⟩
  .rintro b (h|h)
   .exact aO b (g4 b h)
   .exact aU b h
  .rintro b h (bD|bD)
   .exact g5 b h bD
   .exact aM b (g3 b h) bD
theorem ML {P:Program} {size m cap:Nat} {b o:Nat} {news:azi} (mh:js w b o news) (aC:news.length=m*size):Src P w size (.slice (some ⟨b,o,none⟩) m cap) m news:=by
 intro aL hw;refine⟨rfl,?_⟩;refine run_firstCells_some aL size m ⟨b,o,none⟩ m cap news aC (λj v bJ=>?_);rw[Addr.add_lit];have:=mh j v bJ;simpa [World.cell?,hw]using this
theorem Uk {P:Program} {size cap:Nat}:Src P w size (.slice none 0 cap) 0 []:=by
 intro aL _;exact⟨rfl,by simp[Builtin.firstCells]⟩
theorem MM {P:Program} {size cap:Nat} (a:Option Addr):Src P w size (.slice a 0 cap) 0 []:=by
 cases a with
 |none=>exact Uk
 |some a=>
  intro aL _;exact⟨rfl,run_firstCells_some aL size 0 a 0 cap [] (by simp) (λj v bJ=>by simp at bJ)⟩
theorem adA {P:Program} (l:azc):Src P w 1 (.string ⟨⟨l⟩⟩) l.length (l.map λb=>.int .u8 (b.toNat:Int)):=by
 intro aL _;refine⟨rfl,?_⟩;have:(⟨⟨l⟩⟩:ByteArray).extract 0 l.length=⟨⟨l⟩⟩:=by
  apply ByteArray.ext;simp[ByteArray.data_extract]
 simp[Builtin.firstCells,this]
theorem bA.y2 {sz:Nat} {xs:azk} {cs:azi} {aZ:Nat->Prop} (h:bA w F xs cs aZ) (hw:∀d∈xs,d.wd=sz):cs.length=xs.length*sz:=by
 rw[bA.length _ _ _ h,yM _ hw]
theorem cd.turn (h:cd w0 F0 X F S s aG w) {aL:World} {b:Nat} (ab:∀c,c≠b->aL.heap[c]? =w.heap[c]?) (aa:aL.heap.size=w.heap.size) (ad:aL.os=w.os) (ae:aL.tape=w.tape) (aJ:Out aL w)
  (bK:¬F b) (cj:∀u,¬S u b) (a7:X b\/w0.heap.size<=b):cd w0 F0 X F S s aG aL where
 iQ:=h.iQ
 jv:=h.jv
 gP:=λc ar=>by rw[aa];exact h.gP c ar
 fS:=λt c ar=>by rw[aa];exact h.fS t c ar
 hj:=h.hj
 gD:=h.gD
 eR:=h.eR
 ey:=λt=>aS.frame (Sx:=S) (λc ar=>ab c (by rintro rfl;exact bK ar)) (λ_ h=>h) (λx c ar=>ab c (by rintro rfl;exact cj x ar)) h.ey _ _ _ (λc ar=>ab c (by rintro rfl;exact cj t ar)) (h.ey t)
 old:=λc er mJ=>by
  rw[ab c ?_]
  .exact h.old c er mJ
  .rintro rfl;rcases a7 with a7|a7
   .exact mJ a7
   .omega
 size:=by rw[aa];exact h.size
 os:=ad.trans h.os
 tape:=ae.trans h.tape
 output:=aJ.trans h.output
 gU:=h.gU
theorem adB (bO:C.fH) (h:cd w0 F0 X F S s aG w) {T dN ty:TypeId} {x y:I} {kf lF:Value} (an:aS w F s aG x kf (λ_=>False)) (hy:aS w F s aG y lF (λ_=>False))
  (he:vE C s T dN x y=some (av,s1)):Good C w0 F0 X aG w (Builtin.append_ #[T,dN] ty #[kf,lF]) av s1:=by
 unfold vE at he;split at he
 .rename_i e ax;obtain⟨Ul,d,Um,aO,aU,aM,bT,cv,ck,bY⟩:=bO.info (hv ax (by simp));rw[ax]at bY;have:=oC bY;subst this;split at he
  .rename_i Eh;obtain⟨vC,y3,y4,tS⟩:=Eh;obtain⟨i,Un,z,f1,f2,f3,f4,f5,f6,f7⟩:=bO.info vC;obtain⟨hU,qi⟩:=isSome_iff_exists.1 y4;have y5:=f5 hU qi;have xu:hU.length=(C.T e).sz:=by
    have:=aA.length _ _ _ ((aA.flat (w:=w) (F:=F) _).1 (C.T e).zero hU (λ_=>False) (Nat.le_refl _) qi);rw[this,y3]
   obtain⟨vD,hu,y1⟩:∃vD,C.P.underlying dN=some vD/\MJ vD:=by
    unfold H_ at tS;split at tS
    .rename_i hi nh;obtain⟨_,bM,_,_,_,_,_,_,g6,g7⟩:=bO.info (hv nh (by simp));rw[nh]at g7;exact⟨bM,g6,.inl ⟨_,oC g7⟩⟩
    .rename_i nh _;obtain⟨_,bM,_,_,_,_,_,_,g6,g7⟩:=bO.info (hv nh (by simp));rw[nh]at g7;exact⟨bM,g6,.inr (tL g7)⟩
    .cases tS
   split at he
   .rename_i sz xs MN tT;split at he
    .rename_i fg;subst fg;split at he
     .rename_i cH Er qY;split at he
      .rename_i adC;obtain⟨Be,MK,y6⟩:=adC;simp only[some.injEq,Prod.mk.injEq]at he;obtain⟨rfl,rfl⟩:=he;obtain⟨i_,a0,Sn,a3,a4,a5,pK,o7,MO,a9,xv⟩:∃i_,cd w0 F0 X F i_ MN aG w/\∃Sn,aA w F (.ak (C.T e).sz xs) [kf] Sn/\(∀b,Sn b->b<w.heap.size)/\(∀b,Sn b->¬F b)/\(∀u b,Sn b->¬i_ u b)/\
         (∀b,Sn b->X b\/w0.heap.size<=b)/\(∀u b,i_ u b->S u b)/\(∀b,Sn b->∃u,S u b)/\aS w F MN aG (nd x.owner y) lF (λ_=>False):=by
        split at tT
        .simp only[some.injEq,Prod.mk.injEq,I.ak.injEq,true_and]at tT;obtain⟨rfl,rfl⟩:=tT;have:=xq an;subst this;exact⟨S,h,λ_=>False,by rw[aA];exact .inl ⟨rfl,_,rfl⟩,λ_ h=>h.elim,λ_ h=>h.elim,λ_ _ h=>h.elim,λ_ h=>h.elim,λ_ _ h=>h,λ_ h=>h.elim,hy⟩
        .obtain⟨cD,g0,g1,g2,Sn,g3,g4,g5,g6,g7,g8,g9,g10⟩:=sk h rfl an tT;rw[ix g2]at g3;exact⟨cD,g0,Sn,g3,g4,g5,g6,g7,g8,g9,g10 _ _ _ hy⟩
        .cases tT
       obtain⟨hS,lf,qj,news,hC,gd,fY,bw,cI,cn,nZ,bW⟩:∃hS,cd w0 F0 X F hS Er aG w/\∃qj news,bA w F cH news qj/\Src C.P w i.size lF cH.length news/\(∀b,qj b->b<w.heap.size)/\(∀b,qj b->¬F b)/\(∀u b,qj b->¬hS u b)/\
         (∀b,qj b->X b\/w0.heap.size<=b)/\(∀u b,hS u b->i_ u b)/\(∀b,qj b->∃u,i_ u b):=by
        split at qY
        .rename_i y7;simp only[some.injEq,Prod.mk.injEq]at qY;obtain⟨rfl,rfl⟩:=qY;rw[y7]at xv;have:=xq xv;subst this;exact⟨i_,a0,λ_=>False,[],by rw[bA],Uk,λ_ h=>h.elim,λ_ h=>h.elim,λ_ _ h=>h.elim,λ_ h=>h.elim,λ_ _ h=>h,λ_ h=>h.elim⟩
        .rename_i fe y7;simp only[some.injEq,Prod.mk.injEq]at qY;obtain⟨rfl,rfl⟩:=qY;rw[y7]at xv;rcases H4 xv with⟨rfl,Bd,awX,rfl,_,yW⟩|⟨b,o,cap,e9,adD,rfl,b1,cK,dM,dX,eF,dz⟩
         .exact⟨i_,a0,λ_=>False,[],by rw[bA],MM Bd,λ_ h=>h.elim,λ_ h=>h.elim,λ_ _ h=>h.elim,λ_ h=>h.elim,λ_ _ h=>h,λ_ h=>h.elim⟩
         .exact⟨i_,a0,λ_=>False,e9,dz,ML eF (by rw[f2];exact bA.y2 dz Be),λ_ h=>h.elim,λ_ h=>h.elim,λ_ _ h=>h.elim,λ_ h=>h.elim,λ_ _ h=>h,λ_ h=>h.elim⟩
        .rename_i l y7;simp only[some.injEq,Prod.mk.injEq]at qY;obtain⟨rfl,rfl⟩:=qY;rw[y7]at xv;have:=o5 xv;subst this;have Ia:l≠[]->i.size=1:=by
          intro aC;cases l with
          |nil=>exact(aC rfl).elim
          |cons b l=>rw[f2,<-Be (iR b) (by simp)];rfl
         by_cases aC:l=[]
         .subst aC;refine⟨i_,a0,λ_=>False,[],by simp only[map_nil];rw[bA],?_,λ_ h=>h.elim,λ_ h=>h.elim,λ_ _ h=>h.elim,λ_ h=>h.elim,λ_ _ h=>h,λ_ h=>h.elim⟩;intro aL _;exact⟨rfl,by simp[Builtin.firstCells,ByteArray.extract];rfl⟩
         .refine⟨i_,a0,λ_=>False,_,Ue l _,?_,λ_ h=>h.elim,λ_ h=>h.elim,λ_ _ h=>h.elim,λ_ h=>h.elim,λ_ _ h=>h,λ_ h=>h.elim⟩;rw[Ia aC,length_map];exact adA l
        .rename_i a q y7;split at qY
         .rename_i awY fe s2 aY;simp only[some.injEq,Prod.mk.injEq]at qY;obtain⟨rfl,rfl⟩:=qY;rw[y7]at xv;obtain⟨eH,g0,g1,g2,qj,g3,g4,g5,g6,g7,g8,g9,g10⟩:=sk a0 rfl xv aY;rw[ix g2,aA]at g3;rcases g3 with⟨rfl,adE,nz⟩|⟨b,cap,cur,fT,fr,aZ,nz,b1,cK,dM,dX,eF,dz,kG,fA,o8,kh⟩
          .simp at nz;subst nz;exact⟨eH,g0,λ_=>False,[],by rw[bA],(MM adE),λ_ h=>h.elim,λ_ h=>h.elim,λ_ _ h=>h.elim,λ_ h=>h.elim,g8,λ_ h=>h.elim⟩
          .simp at nz;subst nz;refine⟨eH,g0,aZ,_,fA,ML (A3 cK _) ?_,λc ar=>g4 c (o8 c ar),λc ar=>g5 c (o8 c ar),λu c ar=>g6 u c (o8 c ar),λc ar=>g7 c (o8 c ar),g8,λc ar=>g9 c (o8 c ar)⟩;rw[f2];exact bA.y2 fA Be
         .cases qY
        .cases qY
       have xw:news.length=cH.length*(C.T e).sz:=bA.y2 hC Be;have qZ:∀c,Sn c->¬qj c:=λc ad ae=>by obtain⟨u,hu⟩:=bW c ae;exact pK u c ad hu
       have kC:∀u c,Sn c->¬hS u c:=λu c ad ae=>pK u c ad (nZ u c ae);have grow:∀(base:Option Addr) (cap:Nat) (ss:azi) (Sx:Nat->Prop),kf= .slice base xs.length cap->Src C.P w i.size (.slice base xs.length cap) xs.length ss->bA w F xs ss Sx->(∀d∈xs,d.wd=(C.T e).sz)->(∀c,Sx c->Sn c)->¬xs.length+cH.length<=cap->
         Good C w0 F0 X aG w (Builtin.append_ #[T,dN] ty #[kf,lF]) (.ak (C.T e).sz (xs++cH)) Er:=by
        intro base cap ss Sx MD hold Uo Up fX tR;subst MD;have aT:=adw (ty:=ty) ck hu y1 f1 f4 gd hold tR y6 (by rw[f3];exact MK);have MH:=grownCap_ge w (xs.length+cH.length) cap e;have MI:=grownCap_le_maxLen w (xs.length+cH.length) cap e (by unfold maxLen;omega);have Es:=bA.y2 Uo Up;have adF:bA w F (xs++cH) (ss++news) (λc=>Sx c\/qj c):=bA.append Uo hC (λ_ h=>.inl h) (λ_ h=>.inr h) (λc ad ae=>qZ c (fX c ad) ae);have adG:(ss++news).length=(xs++cH).length*(C.T e).sz:=by simp[Es,xw,Nat.add_mul]
        have oE:=lf.H5 (aL:=w.drew.alloc (.cells (ss.toArray++news.toArray++Builtin.zeroCells z.cells (grownCap w (xs.length+cH.length) cap e-(xs.length+cH.length))) e))
         (sz:=(C.T e).sz) (cap:=grownCap w (xs.length+cH.length) cap e) (xs:=xs++cH) (e:=e) (fr:=(0,0)) (Sn:=λc=>Sx c\/qj c) rfl rfl rfl ⟨rfl,λ_=>le_succ _⟩
         (λo _ ⟨_,ae⟩=>absurd ae (not_lt_zero _)) (by simpa using MH) MI
         (by
          simp only[Array.size_append,List.size_toArray,size_zeroCells,y5,Es,xw,xu,<-Nat.add_mul];congr 1;omega)
         (by
          intro d ao;rcases mem_append.1 ao with ao|ao
          .exact Up d ao
          .exact Be d ao)
         (by
          simp only[Array.toList_append];rw[take_left' adG];exact adF)
         (by rintro c (ar|ar);exact a4 c (fX c ar);exact fY c ar) (by rintro c (ar|ar);exact a5 c (fX c ar);exact bw c ar) (by rintro u c (ar|ar);exact kC u c (fX c ar);exact cI u c ar) (by rintro c (ar|ar);exact o7 c (fX c ar);exact cn c ar)
        refine⟨_,_,F,hS,aT,oE.1,?_⟩;have:=oE.2;simpa using this
       rw[aA]at a3;rcases a3 with⟨rfl,Ib,nz⟩|⟨b,cap,cur,fT,fr,aZ,nz,b1,cK,dM,dX,eF,dz,kG,fA,o8,kh⟩
       .simp at nz;subst nz;by_cases Uq:cH=[]
        .subst Uq;have MP:news=[]:=by simpa using xw
         subst MP;refine⟨.slice Ib 0 0,w,F,hS,?_,lf,.inr ⟨rfl,rfl,λ_=>False,by simp only[dd,jb];rw[aA];exact .inl ⟨rfl,_,rfl⟩,λ_ h=>h.elim,λ_ h=>h.elim,λ_ _ h=>h.elim,λ_ h=>h.elim⟩⟩;obtain⟨ad,ae⟩:=gd w rfl;cases Ib<;>rcases y1 with⟨hi,rfl⟩|rfl<;>simp at ad ae<;>simp[Builtin.append_,run_underlying ck,run_underlying hu,nf f1,ad,ae,storeCells]
        .exact grow Ib 0 [] (λ_=>False) rfl (MM Ib) (by rw[bA]) (by simp) (λ_ h=>h.elim) (by
          cases cH with
          |nil=>exact(Uq rfl).elim
          |cons y cH=>simp)
       .simp at nz;subst nz;by_cases tR:xs.length+cH.length<=cap
        ·
         have Es:=bA.y2 fA kG;have hlen:cur.toList.length=cap*(C.T e).sz:=by simp[dz]
         have hle:(xs.length+cH.length)*(C.T e).sz<=cap*(C.T e).sz:=mul_le_mul_right _ tR;rw[Nat.add_mul]at hle;have pJ:cur.toList=cur.toList.take (xs.length*(C.T e).sz)++((cur.toList.drop (xs.length*(C.T e).sz)).take news.length++(cur.toList.drop (xs.length*(C.T e).sz)).drop news.length):=by
          rw[take_append_drop,take_append_drop]
         obtain⟨aL,m1,m2,m3,m4,m5,m6,m7⟩:=adv (ty:=ty) (n:=xs.length) (m:=cH.length) (cap:=cap) ck hu y1 f1 gd cK dM.low pJ (by rw[f2];exact Es) (by simp[hlen,xw];omega) (bA.yS _ _ _ hC) tR;have adH:=lf.turn m3 m4 m5 m6 m7 (a5 b b1) (λu hu=>kC u b b1 hu) (o7 b b1);have tK:∀c,F c->aL.heap[c]? =w.heap[c]? :=λc ar=>m3 c (by rintro rfl;exact a5 _ b1 ar);refine⟨_,aL,F,hS,m1,adH,.inr ⟨rfl,rfl,λc=>Sn c\/qj c,?_,?_,?_,?_,?_⟩⟩
         .simp only[dd,jb];rw[aA];have Ur:(cur.toList.take (xs.length*(C.T e).sz)++(news++(cur.toList.drop (xs.length*(C.T e).sz)).drop news.length)).toArray.size=cur.size:=by
           have:cur.size=cur.toList.length:=by simp
           rw[this];conv=>rhs;rw[pJ]
           simp[hlen,xw];omega
          refine .inr ⟨b,cap,_,fT,fr,λc=>aZ c\/qj c,by simp,.inl b1,m2,by rw[Ur];exact dM,by simpa using tR,eF,by rw[Ur];exact dz,?_,?_,?_,?_⟩
          .intro d ao;rcases mem_append.1 ao with ao|ao
           .exact kG d ao
           .exact Be d ao
          .have A_:=bA.frame tK _ _ _ (λc ar=>m3 c (by rintro rfl;exact kh ar)) fA;have yQ:=bA.frame tK _ _ _ (λc ar=>m3 c (by rintro rfl;exact qZ _ b1 ar)) hC;have:((cur.toList.take (xs.length*(C.T e).sz)++(news++(cur.toList.drop (xs.length*(C.T e).sz)).drop news.length)).toArray.toList.take ((xs++cH).length*(C.T e).sz))=cur.toList.take (xs.length*(C.T e).sz)++news:=by
            simp only[];rw[<-append_assoc];exact take_left' (by rw[length_append,Es,xw,length_append,Nat.add_mul])
           rw[this];exact bA.append A_ yQ (λ_ h=>.inl h) (λ_ h=>.inr h) (λc ad ae=>qZ c (o8 c ad) ae)
          .rintro c (ar|ar)
           .exact .inl (o8 c ar)
           .exact .inr ar
          .rintro(ar|ar)
           .exact kh ar
           .exact qZ b b1 ar
         .rw[m4];rintro c (ar|ar);exact a4 c ar;exact fY c ar
         .rintro c (ar|ar);exact a5 c ar;exact bw c ar
         .rintro u c (ar|ar);exact kC u c ar;exact cI u c ar
         .rintro c (ar|ar);exact o7 c ar;exact cn c ar
        .exact grow (some ⟨b,0,none⟩) cap _ aZ rfl (ML (A3 cK _) (by rw[f2];exact bA.y2 fA kG)) fA kG o8 tR
      .cases he
     .cases he
    .cases he
   .cases he
  .cases he
 .cases he
end
section
variable {C:cl} {w0 w aL:World} {F0 X F:Nat->Prop} {S:Nat->Nat->Prop} {s s1:al} {aG:Nat->Value} {av:I}
theorem cd.adI (h:cd w0 F0 X F S s aG w) {x:Nat} {q:azf} {d bM:I} {b:Nat} (ao:I.sub q (s x)=some d) (ay:d.plain=false) (MQ:bM.tree=true) (ad:∀v,j2 d v->j2 bM v) (aa:∀v,eK d v->eK bM v)
  (ae:∀vs,bM≠.tuple vs) (nb:bM.wd=d.wd) (ab:∀dv a gl,ep w q (s x) (dd (aG x)) none=some (d,dv,a)->aA w F d dv gl->gl b/\aA aL F bM dv gl) (qS:∀c,c≠b->aL.heap[c]? =w.heap[c]?) (fg:aL.heap.size=w.heap.size) (Ms:aL.os=w.os)
  (Mt:aL.tape=w.tape) (yO:Out aL w):∃aZ,cd w0 F0 X F aZ (et (jc x s) x (I.put q bM (s x))) aG aL:=by
 have aY:=ju ao (.inl ay);have an:=h.ey x;rw[aS.dr aY]at an;obtain⟨dv,a,e3,gl,g0,g1,g2,g3,g4,g5⟩:=ctx q (s x) (dd (aG x)) (S x) none d an.2 ao;obtain⟨yP,aF⟩:=ab dv a gl g0 g4;have y8:S x b:=g2 b yP;have tK:∀c,F c->aL.heap[c]? =w.heap[c]? :=λc ar=>qS c (by rintro rfl;exact h.hj x _ y8 ar);have A7:∀c,e3 c->c≠b:=λc ar e=>g3 c ar (e▸yP);have l3:aA aL F (I.put q bM (s x)) (dd (aG x)) (λc=>e3 c\/gl c):=by
  rcases g5 with⟨l,r,aO,aU,aM⟩|⟨lf,cur,e,fr,l,r,aO,aU,aM,bT,cv,ck⟩
  .rw[aO];exact aM aL bM dv gl tK (λc ar=>qS c (A7 c ar)) nb aF (λc ar mK=>g3 c mK ar)
  .refine ck aL bM dv gl tK (λc ar _=>qS c (A7 c ar)) ?_ nb aF (λc ar mK=>g3 c mK ar);rw[qS lf (A7 lf aU),aM,<-cv]
 have D9:eK (I.put q bM (s x)) (aG x)/\(I.put q bM (s x)).tree=true:=by
  cases q with
  |nil=>
   simp only[I.sub,some.injEq]at ao;simp only[I.put];exact⟨aa _ (ao▸an.1),MQ⟩
  |cons k q=>
   refine⟨D8 an.1 ao ad (λ_=>ae) nb,?_⟩;rcases xm k q bM (s x)with⟨aE,gs,aO,e⟩|⟨aE,gs,aO,e⟩|⟨sz,xs,cH,aO,e⟩|⟨y,z,aO,e⟩|e<;>rw[e]<;>first|rfl|exact aY
 let aH:=et (jc x s) x (I.put q bM (s x))
 have iP:∀y,y≠x->(aH y).tree=true->aH y=s y/\aG y=aG y:=λy hy aY=>by
  have e:aH y=eg.cG x (s y):=lE _ _ hy;rw[e]at aY⊢;exact⟨(HS aY).2,rfl⟩
 have mI:(aH x).plain=false->(s x).plain=false/\∀v,eK (s x) v->eK (aH x) v:=by
  intro _;refine⟨?_,λv aF=>?_⟩
  .cases b3:(s x).plain with
   |false=>rfl
   |true=>rw[I.Mi _ _ _ b3 ao]at ay;cases ay
  .simp only[aH,o3];cases q with
   |nil=>
    simp only[I.sub,some.injEq]at ao;simp only[I.put];exact aa _ (ao▸aF)
   |cons k q=>exact D8 aF ao ad (λ_=>ae) nb
 have both:∀c,(e3 c\/gl c)->S x c:=λc ar=>ar.elim (g1 c) (g2 c);refine⟨hk S x (λc=>e3 c\/gl c),?_⟩;constructor;case iQ=>exact h.iQ
 case jv=>exact h.jv
 case gP=>exact λb ab=>by rw[fg];exact h.gP b ab
 case fS=>
  intro u c ab;rw[fg];simp only[hk]at ab;split at ab
  .exact h.fS x c (both c ab)
  .exact h.fS u c ab
 case hj=>
  intro u c ab;simp only[hk]at ab;split at ab
  .exact h.hj x c (both c ab)
  .exact h.hj u c ab
 case gD=>
  intro u y c dV ab hy;simp only[hk]at ab hy;split at ab
  .rename_i hu;rw[if_neg (λe=>dV (hu.trans e.symm))]at hy;exact h.gD x y c (λe=>dV (hu.trans e)) (both c ab) hy
  .rename_i hu;split at hy
   .exact h.gD u x c hu ab (both c hy)
   .exact h.gD u y c dV ab hy
 case eR=>
  intro u c ab;simp only[hk]at ab;split at ab
  .exact h.eR x c (both c ab)
  .exact h.eR u c ab
 case ey=>
  intro u;by_cases hu:u=x
  .subst hu;rw[o3,D5];exact(aS.dr D9.2).2 ⟨D9.1,l3⟩
  .rw[lE _ _ hu,D6 _ _ hu];have dV:∀y c,y≠x->S y c->aL.heap[c]? =w.heap[c]? :=λy c hy ar=>qS c (by rintro rfl;exact h.gD y x c hy ar y8);refine(aS.cG iP rfl mI (λy gE d2 hy ht D_=>?_) tK _).1 _ _ _ (Nat.le_refl _) (λc ar=>dV u c hu ar) (h.ey u);have Ea:=h.ey y;rw[aS.dr (ju ht D_)]at Ea;exact HR gE _ _ _ none d2 Ea.2 ht (λc ar=>dV y c hy ar)
 case old=>
  intro c er mJ;rw[qS c ?_]
  .exact h.old c er mJ
  .rintro rfl;rcases h.eR x c y8 with a7|a7
   .exact mJ a7
   .omega
 case size=>rw[fg];exact h.size
 case os=>exact Ms.trans h.os
 case tape=>exact Mt.trans h.tape
 case output=>exact yO.trans h.output
 case gU=>exact h.gU
def Us (P:Program) (t:TypeId):Bool:=match P.info? t with
 |some i=>match i.zero with
  |some (.bool false)=>true
  |_=>false
 |none=>false
def q0 (C:cl) (T:TypeId):Bool:=match(C.T T).k with
 | .map su xx=>match(C.T su).k with
   | .str=>Us C.P xx
   |_=>false
 |_=>false
def jI (C:cl) (s:al) (T:TypeId) (x i:I):Option I:=match x,i with
 | .h y q,.str k=>match I.sub q (s y)with
   |some (.b9 (.mp m))=>if q0 C T=true then some (.bool (j0 k m))else none
   |_=>none
 |_,_=>none
def kX (C:cl) (s:al) (T:TypeId) (x i v:I):Option al:=match x,i,v with
 | .h y q,.str k,.bool b=>match I.sub q (s y)with
   |some (.b9 (.mp m))=>if q0 C T=true then some (et (jc y s) y (I.put q (.b9 (.mp (kb k b m))) (s y)))else none
   |_=>none
 |_,_,_=>none
theorem Ut (bO:C.fH) {T:TypeId} (h:q0 C T=true):∃su xx,C.P.underlying T=some (.map su xx)/\C.P.underlying su=some .string/\∀w,(zeroValue xx).run C.P w= .ok (.bool false) w:=by
 unfold q0 at h;split at h
 .rename_i su xx ax;split at h
  .rename_i ad;obtain⟨i,d,z,aO,aU,aM,bT,cv,ck,bY⟩:=bO.info (hv ax (by simp));obtain⟨tM,bM,vx,f1,f2,f3,f4,f5,f6,f7⟩:=bO.info (hv ad (by simp));rw[ax]at bY;rw[ad]at f7;have:=tL f7;subst this;refine⟨su,xx,?_,f6,λw=>?_⟩
   .rw[ck];cases d<;>simp[nU]at bY;rw[bY.1,bY.2]
   .unfold Us at h;split at h
    .rename_i i2 g1;split at h
     .rename_i g2;exact yR g1 g2 w
     .cases h
    .cases h
  .cases h
 .cases h
theorem MR (a b:ByteArray):(a==b)=true↔a=b:=by
 constructor
 .intro h;exact ByteArray.ext (eq_of_beq (show(a.data==b.data)=true from h))
 .rintro rfl;show(a.data==a.data)=true;simp
theorem MS (k:azc) (b:Bool):∀(es:List MapEntry) (m:aza) (i:Nat),es.map (λe=>(e.key,e.val))=m.map (λe=>(.string ⟨⟨e.1⟩⟩,.bool e.2))->
  (Instr.findNow .string (.string ⟨⟨k⟩⟩) es i=some none/\j0 k m=false/\kb k b m=m++[(k,b)])\/
  ∃j e,es[j]? =some e/\e.key= .string ⟨⟨k⟩⟩/\Instr.findNow .string (.string ⟨⟨k⟩⟩) es i=some (some (i+j,.bool (j0 k m)))/\kb k b m=m.set j (k,b)
 |[],m,i,h=>by
  have:m=[]:=by simpa using h.symm
  subst this;exact .inl ⟨rfl,rfl,rfl⟩
 |e::es,[],i,h=>by simp at h
 |e::es,(da,gO)::m,i,h=>by
  simp only[map_cons,cons.injEq,Prod.mk.injEq]at h;obtain⟨⟨ad,ae⟩,aJ⟩:=h;by_cases ax:da=k
  .subst ax;refine .inr ⟨0,e,rfl,ad,?_,by simp[kb]⟩;have:(((⟨⟨da⟩⟩:ByteArray)==⟨⟨da⟩⟩))=true:=(MR _ _).2 rfl;simp only[Instr.findNow,ad,ae,Instr.sameNow,j0,this,if_true,Nat.add_zero]
  .have aR:((⟨⟨k⟩⟩:ByteArray)==⟨⟨da⟩⟩)=false:=by
    refine Bool.eq_false_iff.2 λe=>ax ?_;have:=(MR _ _).1 e;simp only[ByteArray.mk.injEq,Array.mk.injEq]at this;exact this.symm
   rcases MS k b es m (i+1) aJ with⟨g1,g2,g3⟩|⟨j,hi,g1,g2,g3,g4⟩
   .refine .inl ⟨?_,?_,?_⟩
    .simp only[Instr.findNow,ad,Instr.sameNow,aR];exact g1
    .simp[j0,ax,g2]
    .simp[kb,ax,g3]
   .refine .inr ⟨j+1,hi,g1,g2,?_,?_⟩
    .simp only[Instr.findNow,ad,Instr.sameNow,aR];rw[g3];simp[j0,ax,Nat.add_assoc,Nat.add_comm 1 j]
    .simp[kb,ax,g4]
theorem Ic {P:Program} {su:TypeId} (ax:P.underlying su=some .string) (e:Bool) (k:ByteArray) (w:World):(Instr.checkKey e 10000 su (.string k)).run P w= .ok () w:=by
 unfold Instr.checkKey;simp[run_underlying ax]
theorem Uu (h:cd w0 F0 X F S s aG w) {y:Nat} {q:azf} {m:aza} {v:Value} (aF:aS w F s aG (.h y q) v (λ_=>False)) (ao:I.sub q (s y)=some (.b9 (.mp m))):
  ∃r ms pI,v= .map (some r)/\w.heap[r]? =some (.map ms pI)/\ms.toList.map (λe=>(e.key,e.val))=m.map (λe=>(.string ⟨⟨e.1⟩⟩,.bool e.2))/\
   ∃a,ep w q (s y) (dd (aG y)) none=some (.b9 (.mp m),[.map (some r)],a):=by
 rw[aS]at aF;obtain⟨dv,a,g1,g2,g3⟩:=aF _ ao rfl;have ad:Value.hH v=true:=g3;rw[ix ad]at g2;have an:=h.ey y;rw[aS.dr (ju ao (.inl rfl))]at an;obtain⟨hd,dH,e3,gl,k0,b1,cK,dM,dX,eF⟩:=ctx q (s y) (dd (aG y)) (S y) none _ an.2 ao;rw[k0]at g1;simp only[some.injEq,Prod.mk.injEq,true_and]at g1;obtain⟨rfl,rfl⟩:=g1;rw[aA]at dX;obtain⟨r,ms,pI,aO,aU,aM,bT⟩:=dX;rw[aO]at g2 k0;exact⟨r,ms,pI,by simpa using g2,aM,bT,dH,k0⟩
theorem adJ (bO:C.fH) (h:cd w0 F0 X F S s aG w) {T:TypeId} {x i:I} {kf qT:Value} (an:aS w F s aG x kf (λ_=>False)) (ai:aS w F s aG i qT (λ_=>False)) (he:jI C s T x i=some av):
  Good C w0 F0 X aG w (Instr.lookup T kf qT false) av s:=by
 unfold jI at he;split at he
 .rename_i y q k;split at he
  .rename_i m ao;split at he
   .rename_i lb;simp only[some.injEq]at he;subst he;obtain⟨su,xx,t1,t2,t3⟩:=Ut bO lb;obtain⟨r,ms,pI,rfl,aU,aM,_⟩:=Uu h an ao;have:=o5 ai;subst this;refine Good.same h (v:=.bool (j0 k m)) ?_ rfl (of_bool _);rcases MS k true ms.toList m 0 aM with⟨g1,g2,_⟩|⟨j,e,_,_,g1,_⟩
    .simp[Instr.lookup,run_underlying t1,getObj,Sem.run,aU,Ic t2,Instr.findKey,run_underlying t2,g1,t3,g2]
    .simp[Instr.lookup,run_underlying t1,getObj,Sem.run,aU,Ic t2,Instr.findKey,run_underlying t2,g1]
   .cases he
  .cases he
 .cases he
theorem adK (bO:C.fH) (h:cd w0 F0 X F S s aG w) {T:TypeId} {x i v:I} {kf qT Uv:Value} (an:aS w F s aG x kf (λ_=>False)) (ai:aS w F s aG i qT (λ_=>False)) (aF:aS w F s aG v Uv (λ_=>False)) {s2:al}
  (he:kX C s T x i v=some s2):∃aL aZ,(Instr.mapUpdate T kf qT Uv).run C.P w= .ok () aL/\cd w0 F0 X F aZ s2 aG aL:=by
 unfold kX at he;split at he
 .rename_i y q k b;split at he
  .rename_i m ao;split at he
   .rename_i lb;simp only[some.injEq]at he;subst he;obtain⟨su,xx,t1,t2,t3⟩:=Ut bO lb;obtain⟨r,ms,pI,rfl,aU,aM,a0,nc⟩:=Uu h an ao;have:=o5 ai;subst this;have:=xp aF;subst this;have key:∀(Ie:Array MapEntry) (MT:Nat),Ie.toList.map (λe=>(e.key,e.val))=(kb k b m).map (λe=>(.string ⟨⟨e.1⟩⟩,.bool e.2))->
      ∃aZ,cd w0 F0 X F aZ (et (jc y s) y (I.put q (.b9 (.mp (kb k b m))) (s y))) aG {w with heap:=w.heap.setIfInBounds r (.map Ie MT)}:=by
     intro Ie MT hm;have aT:r<w.heap.size:=(Array.getElem?_eq_some_iff.1 aU).1;refine cd.adI (b:=r) h ao rfl rfl (λv aF=>aF) (λv aF=>aF) (λvs e=>by cases e) rfl ?_ (λc ar=>?_) (by simp) rfl rfl ⟨rfl,λ_=>Nat.le_refl _⟩
     .intro dv a gl bH hT;rw[nc]at bH;simp only[some.injEq,Prod.mk.injEq,true_and]at bH;obtain⟨rfl,_⟩:=bH;rw[aA]at hT⊢;obtain⟨mj,xy,awZ,f1,f2,f3,f4⟩:=hT;simp only[cons.injEq,Value.map.injEq,some.injEq,and_true]at f1;subst f1;exact⟨f2,r,Ie,MT,rfl,f2,by simp[aT],hm⟩
     .simp[Ne.symm ar]
    rcases MS k b ms.toList m 0 aM with⟨g1,_,g2⟩|⟨j,e,g0,ge,g1,g2⟩
    .obtain⟨aZ,b1⟩:=key (ms.push {key:=.string ⟨⟨k⟩⟩,val:=.bool b,born:=pI}) (pI+1) (by rw[g2];simp[aM]);exact⟨_,aZ,by simp[Instr.mapUpdate,run_underlying t1,getObj,setObj,Sem.run,aU,Ic t2,Instr.findKey,run_underlying t2,g1],b1⟩
    .rw[Nat.zero_add]at g1;obtain⟨aZ,b1⟩:=key (ms.modify j λe=>{e with key:=.string ⟨⟨k⟩⟩,val:=.bool b}) pI (by
      rw[g2,map_set,<-aM];apply ext_getElem?;intro n;by_cases aR:n=j
      .subst aR;have:n<ms.toList.length:=(List.getElem?_eq_some_iff.1 g0).1;rw[getElem?_set_self (by simpa using this)];simp[g0]
      .simp[getElem?_set_ne (Ne.symm aR),Ne.symm aR])
     have adL:ms[j]? =some e:=by simpa using g0
     exact⟨_,aZ,by simp[Instr.mapUpdate,run_underlying t1,getObj,setObj,Sem.run,aU,Ic t2,Instr.findKey,run_underlying t2,g1,adL,ge,Instr.keyThatStays,Instr.sameBits,(MR ⟨⟨k⟩⟩ ⟨⟨k⟩⟩).2 rfl],b1⟩
   .cases he
  .cases he
 .cases he
theorem adM (h:cd w0 F0 X F S s aG w) (t:TypeId):Good C w0 F0 X aG w (Instr.makeMap t none) (.b9 (.mp [])) s:=by
 have hold:∀b,b<w.heap.size->(w.alloc (.map #[] 0)).heap[b]? =w.heap[b]? :=by
  intro b ab;show(w.heap.push _)[b]? =_;rw[Array.getElem?_push,if_neg (by omega)]
 refine⟨.map (some w.heap.size),w.alloc (.map #[] 0),F,S,?_,h.grow hold (by simp) rfl rfl ⟨rfl,λ_=>Nat.le_refl _⟩,.inr ⟨rfl,rfl,λb=>b=w.heap.size,?_,?_,?_,?_,?_⟩⟩
 .simp[Instr.makeMap,newObj,Sem.run]
 .rw[aA];refine⟨w.heap.size,#[],0,rfl,rfl,?_,rfl⟩;show(w.heap.push _)[_]? =_;simp
 .rintro b rfl;simp
 .rintro b rfl vz;exact Nat.lt_irrefl _ (h.gP _ vz)
 .rintro u b rfl hu;exact Nat.lt_irrefl _ (h.fS _ _ hu)
 .rintro b rfl;exact .inr h.size
end
end Go.eg
