/- Part of a proof that a law returns true for every input. No condition. -/
import Derived.Test.YtmaepbgkcmjcjahGreatDoorFwC
import Derived.Test.YtmaepbgkcmjcjahGreatDoorFwA
import Derived.Laws.IdiomStrings
import Derived.Laws.Strings
import Derived.LaidEql
import Derived.WideLaws
import Derived.Laws.StructEq
namespace Go.ei
open List Option Nat Or
section
variable {C:cy} {w0 w:World} {F0 X F:Nat->Prop} {S:Nat->Nat->Prop} {s s1:al} {aH:Nat->Value} {av:I}
theorem qH {k:IntKind} {n:Int} {v:Value} {a_:Nat->Prop} (h:aQ w F s aH (.int k n) v a_):v= .int k n:=by
 have bF:=(aQ.dx rfl).1 h;rw[az,ia bF.1]at bF;simpa using bF.2
theorem xD {b:Bool} {v:Value} {a_:Nat->Prop} (h:aQ w F s aH (.bool b) v a_):v= .bool b:=by
 have bF:=(aQ.dx rfl).1 h;rw[az,ia bF.1]at bF;simpa using bF.2
theorem pt {b:azc} {v:Value} {a_:Nat->Prop} (h:aQ w F s aH (.str b) v a_):v= .string ⟨⟨b⟩⟩:=by
 have bF:=(aQ.dx rfl).1 h;rw[az,ia bF.1]at bF;simpa using bF.2
theorem UJ {v:Value} {a_:Nat->Prop} (h:aQ w F s aH .ez v a_):v= .pointer none:=by
 have bF:=(aQ.dx rfl).1 h;rw[az,ia bF.1]at bF;simpa using bF.2
theorem xE {v:Value} {a_:Nat->Prop} (h:aQ w F s aH .bd v a_):v= .slice none 0 0:=by
 have bF:=(aQ.dx rfl).1 h;rw[az,ia bF.1]at bF;simpa using bF.2
theorem UK {v:Value} {a_:Nat->Prop} (h:aQ w F s aH .gu v a_):∃b,v= .bool b:=by
 have bF:=(aQ.dx rfl).1 h;rw[az,ia bF.1]at bF;simpa using bF.2
theorem of_int (k:IntKind) (n:Int):aQ w F s aH (.int k n) (.int k n) (λ_=>False):=(aQ.dx rfl).2 ⟨rfl,by rw[az];rfl⟩
theorem of_bool (b:Bool):aQ w F s aH (.bool b) (.bool b) (λ_=>False):=(aQ.dx rfl).2 ⟨rfl,by rw[az];rfl⟩
theorem sS (b:azc):aQ w F s aH (.str b) (.string ⟨⟨b⟩⟩) (λ_=>False):=(aQ.dx rfl).2 ⟨rfl,by rw[az];rfl⟩
theorem M1 (b:Bool):aQ w F s aH .gu (.bool b) (λ_=>False):=(aQ.dx rfl).2 ⟨rfl,by rw[az];exact⟨b,rfl⟩⟩
def k2 (op:BinOp) (k:IntKind) (a:Int) (dv:IntKind) (b:Int):Option I:=
 match op with
 | .shl=>if b<0 then none else some (.int k (k.wrap (a*2^(min b.toNat k.bits))))
 | .shr=>if b<0 then none else some (.int k (a.fdiv (2^(min b.toNat k.bits))))
 | .add=>if k=dv then some (.int k (k.wrap (a+b)))else none
 | .sub=>if k=dv then some (.int k (k.wrap (a-b)))else none
 | .mul=>if k=dv then some (.int k (k.wrap (a*b)))else none
 | .quo=>if k=dv/\b≠0 then some (.int k (k.wrap (a.tdiv b)))else none
 | .rem=>if k=dv/\b≠0 then some (.int k (a.tmod b))else none
 | .eql=>if k=dv then some (.bool (a==b))else none
 | .neq=>if k=dv then some (.bool (a !=b))else none
 | .lss=>if k=dv then some (.bool (decide (a<b)))else none
 | .leq=>if k=dv then some (.bool (decide (a<=b)))else none
 | .gtr=>if k=dv then some (.bool (decide (b<a)))else none
 | .geq=>if k=dv then some (.bool (decide (b<=a)))else none
 | .and=>if k=dv then some (.int k (bitsOf .and k a b))else none
 | .or=>if k=dv then some (.int k (bitsOf .or k a b))else none
 | .xor=>if k=dv then some (.int k (bitsOf .xor k a b))else none
 | .andNot=>if k=dv then some (.int k (bitsOf .andNot k a b))else none
def qI (op:BinOp) (a b:azc):Option I:=
 match op with
 | .add=>if a.length+b.length<=9223372036854775807 then some (.str (a++b))else none
 | .eql=>some (.bool (a==b))
 | .neq=>some (.bool !(a==b))
 | .lss=>some (.bool (Op.bytesLess a b))
 | .leq=>some (.bool (Op.bytesLess a b||a==b))
 | .gtr=>some (.bool !(Op.bytesLess a b||a==b))
 | .geq=>some (.bool !(Op.bytesLess a b))
 |_=>none
def me (s:al):I->Option azg
 | .bd=>some (some true)
 | .slice xs=>some (if xs=[]then none else some false)
 | .h x q=>match I.sub q (s x)with
   |some (.ae _ xs)=>some (if xs=[]then none else some false)
   |_=>none
 |_=>none
def oi (s:al):I->azg
 | .ez=>some true
 | .ref _=>some false
 | .h x q=>match I.sub q (s x)with
   |some (.aM _)=>some false
   |_=>none
 |_=>none
def sT (neg:Bool):azg->I
 |some b=>.bool (b !=neg)
 |none=>.gu
def structEq (P:Program) (T:TypeId):Bool:= !P.stoodInHeld T&& !P.eqGuardType P.depth T&&(P.fieldsOf T).toList.all λf=>decide (f.name≠ "_")
def rz (C:cy):List (TypeId×Nat)->Nat->azk->azk->azg
 |[],_,[],[]=>some true
 |(mb,off)::aG,n,d::ds,e::es=>if off=n then(match(C.T mb).k,d,e with
  | .int k,.int bX a,.int cu b=>if bX=k/\cu=k then(rz C aG (n+1) ds es).map λr=>a==b&&r else none
  | .bool,.bool a,.bool b=>(rz C aG (n+1) ds es).map λr=>a==b&&r
  | .str,.str a,.str b=>(rz C aG (n+1) ds es).map λr=>a==b&&r
  |_,_,_=>none)else none
 |_,_,_,_=>none
def eP (C:cy) (s:al) (op:BinOp) (T:TypeId) (x y:I):Option I:=
 match x,y with
 | .int k a,.int dv b=>k2 op k a dv b
 | .str a,.str b=>qI op a b
 | .bool a,.bool b=>match op,(C.T T).k with
   | .eql,.bool=>some (.bool (a==b))
   | .neq,.bool=>some (.bool !(a==b))
   |_,_=>none
 | .agg ds,.agg es=>match op,(C.T T).k with
   | .eql,.struct aG=>if structEq C.P T=true then(rz C aG 0 ds es).map λb=>.bool b else none
   | .neq,.struct aG=>if structEq C.P T=true then(rz C aG 0 ds es).map λb=>.bool !b else none
   |_,_=>none
 |x,.bd=>match op,(C.T T).k with
  | .eql,.slice _=>(me s x).map (sT false)
  | .neq,.slice _=>(me s x).map (sT true)
  |_,_=>none
 |x,.ez=>match op,(C.T T).k with
  | .eql,.ptr _=>(oi s x).map λb=>.bool b
  | .neq,.ptr _=>(oi s x).map λb=>.bool !b
  |_,_=>none
 |_,_=>none
theorem adq {P:Program} {op:BinOp} {T:TypeId} {k dv:IntKind} {a b:Int} (he:k2 op k a dv b=some av) (w:World):
  ∃v,(binOp op T (.int k a) (.int dv b)).run P w= .ok v w/\aQ w F s aH av v (λ_=>False):=by
 unfold k2 at he;cases op<;>simp only at he<;>split at he<;>first|(cases he;done)|skip
 all_goals
  rename_i au;simp only[some.injEq]at he;subst he
 all_goals first
  |(subst au;simp only[binOp_add,binOp_sub,binOp_mul,binOp_eql,binOp_neq,binOp_lss,binOp_leq,binOp_gtr,binOp_geq,binOp_and,binOp_or,binOp_xor,binOp_andNot,Op.intArith,Op.intBits,Sem.run_pure,Result.ok.injEq,and_true,exists_eq_left']
    first|exact of_int _ _|exact of_bool _)
  |(obtain⟨rfl,bc⟩:=au
    simp only[binOp_quo,binOp_rem,Op.intDiv,bc,if_false,Sem.run_pure,Result.ok.injEq,and_true,exists_eq_left'];exact of_int _ _)
  |(simp only[binOp_shl,binOp_shr,Op.shift,au,if_false,Sem.run_pure,Result.ok.injEq,and_true,exists_eq_left']
    exact of_int _ _)
theorem EM (a:azc):(⟨⟨a⟩⟩:ByteArray).toList=a:=ByteArray.toList_eq _
theorem adr (a b:azc):(⟨⟨a⟩⟩:ByteArray)++(⟨⟨b⟩⟩:ByteArray)=⟨⟨a++b⟩⟩:=by
 apply ByteArray.ext;simp[ByteArray.data_append]
theorem ads {P:Program} {op:BinOp} {T:TypeId} {a b:azc} (he:qI op a b=some av) (w:World):
  ∃v,(binOp op T (.string ⟨⟨a⟩⟩) (.string ⟨⟨b⟩⟩)).run P w= .ok v w/\aQ w F s aH av v (λ_=>False):=by
 have ab:∀op,binOp op T (.string ⟨⟨a⟩⟩) (.string ⟨⟨b⟩⟩)=Op.stringOp op ⟨⟨a⟩⟩ ⟨⟨b⟩⟩:=by intro op;cases op<;>rfl
 rw[ab];unfold qI at he;cases op<;>simp only[some.injEq]at he<;>first|(cases he;done)|skip
 case add=>
  split at he
  .rename_i hl;simp only[some.injEq]at he;subst he;have aa:((ByteArray.size ⟨⟨a⟩⟩+ByteArray.size ⟨⟨b⟩⟩:Nat):Int)<=9223372036854775807:=by
    show((a.length+b.length:Nat):Int)<=_;omega
   refine⟨.string ⟨⟨a++b⟩⟩,?_,sS _⟩;simp only[Op.stringOp,IntKind.max_i64];rw[if_neg (by omega),adr];rfl
  .cases he
 all_goals
  subst he;simp only[Op.stringOp,EM,Sem.run_pure,Result.ok.injEq,and_true,exists_eq_left'];exact of_bool _
theorem M3 (h:cj w0 F0 X F S s aH w) {v:Value} {y:Nat} {q:azf} (aF:aQ w F s aH (.h y q) v (λ_=>False)) {sz:Nat} {xs:azk} (ao:I.sub q (s y)=some (.ae sz xs)):
  (xs=[]/\∃a,v= .slice a 0 0)\/∃b cap cur e fr,v= .slice (some ⟨b,0,none⟩) xs.length cap/\w.heap[b]? =some (.cells cur e fr)/\pZ fr cur.size/\xs.length<=cap/\cap<=maxLen/\cur.size=cap*sz/\(∀d∈xs,d.wd=sz)/\
   ∃a_,bA w F xs (cur.toList.take (xs.length*sz)) a_/\(∀c,a_ c->S y c)/\S y b:=by
 rw[aQ]at aF;obtain⟨dK,a,g1,g2,g3⟩:=aF _ ao rfl;have aa:Value.hO v=true:=g3;rw[ia aa]at g2;subst g2;have aq:=h.eu y;rw[aQ.dx (jG ao (.inl rfl))]at aq;obtain⟨hk,dI,fj,gv,k0,bX,cu,dS,dW,eB⟩:=ctx q (s y) (c_ (aH y)) (S y) none _ aq.2 ao;rw[k0]at g1;simp only[some.injEq,Prod.mk.injEq,true_and]at g1;obtain⟨rfl,rfl⟩:=g1;rw[az]at dW;rcases dW with⟨rfl,a2,ag⟩|⟨b,cap,cur,aW,fr,eJ,aU,cc,cZ,cv,cd,fC,jt,jh,kD,dB,dZ⟩
 .simp at ag;exact .inl ⟨rfl,_,ag⟩
 .simp at aU;exact .inr ⟨b,cap,cur,aW,fr,aU,cZ,cv.low,cd,fC,jt,jh,eJ,kD,λc au=>cu _ (dB c au),cu _ cc⟩
theorem UL (h:cj w0 F0 X F S s aH w) {v:Value} {y:Nat} {q:azf} (aF:aQ w F s aH (.h y q) v (λ_=>False)) {d:I} (ao:I.sub q (s y)=some (.aM d)):
  ∃b cur e fr,v= .pointer (some ⟨b,0,none⟩)/\w.heap[b]? =some (.cells cur e fr):=by
 rw[aQ]at aF;obtain⟨dK,a,g1,g2,g3⟩:=aF _ ao rfl;have aa:Value.hO v=true:=g3;rw[ia aa]at g2;subst g2;have aq:=h.eu y;rw[aQ.dx (jG ao (.inl rfl))]at aq;obtain⟨hk,dI,fj,gv,k0,bX,cu,dS,dW,eB⟩:=ctx q (s y) (c_ (aH y)) (S y) none _ aq.2 ao;rw[k0]at g1;simp only[some.injEq,Prod.mk.injEq,true_and]at g1;obtain⟨rfl,rfl⟩:=g1;rw[az]at dW;obtain⟨b,cur,aW,fr,eJ,aU,cc,cZ,_⟩:=dW;simp at aU;exact⟨b,cur,aW,fr,aU,cZ⟩
theorem UM {P:Program} {T e:TypeId} (bb:P.underlying T=some (.slice e)) (w:World):∀d,(Op.equalIn (d+1) T (.slice none 0 0) (.slice none 0 0)).run P w= .ok true w/\
  ∀a n c,(Op.equalIn (d+1) T (.slice (some a) n c) (.slice none 0 0)).run P w= .ok false w:=by
 intro d;refine⟨by simp[Op.equalIn,run_underlying bb],λa n c=>by simp[Op.equalIn,run_underlying bb]⟩
theorem UN {P:Program} {T e:TypeId} (bb:P.underlying T=some (.pointer e)) (w:World):∀d,(Op.equalIn (d+1) T (.pointer none) (.pointer none)).run P w= .ok true w/\
  ∀a,(Op.equalIn (d+1) T (.pointer (some a)) (.pointer none)).run P w= .ok false w:=by
 intro d;refine⟨by simp[Op.equalIn,run_underlying bb],λa=>by simp[Op.equalIn,run_underlying bb]⟩
theorem UO {P:Program} {T:TypeId} (bb:P.underlying T=some .bool) (w:World):∀d a b,(Op.equalIn (d+1) T (.bool a) (.bool b)).run P w= .ok (a==b) w:=by
 intro d a b;simp[Op.equalIn,run_underlying bb]
theorem UP (h:cj w0 F0 X F S s aH w) {x:I} {v:Value} (aF:aQ w F s aH x v (λ_=>False)) {T e:TypeId} {r:azg} (aS:me s x=some r) (bb:C.P.underlying T=some (.slice e)):
  ∃b,(Op.equal T v (.slice none 0 0)).run C.P w= .ok b w/\(∀gV,r=some gV->gV=b)/\Value.hO v=true/\∃a n c,v= .slice a n c:=by
 have aR:=λa n c=>(UM bb w 9999).2 a n c;have gi:=(UM bb w 9999).1;cases x with
 |bd=>
  have:=xE aF;subst this;simp[me]at aS;subst aS;exact⟨true,gi,by simp,rfl,_,_,_,rfl⟩
 |slice xs=>
  have bF:=(aQ.dx rfl).1 aF;rw[az,ia bF.1]at bF;simp only[me,some.injEq]at aS;obtain⟨_,⟨rfl,a,c,ag,_,zh⟩|⟨b,o,cap,fp,sz,ag,aD⟩⟩:=bF
  .simp at ag aS;subst ag;subst aS;cases a with
   |none=>
    have:=zh rfl;subst this;exact⟨true,gi,by simp,rfl,_,_,_,rfl⟩
   |some a=>exact⟨false,aR _ _ _,by simp,rfl,_,_,_,rfl⟩
  .simp at ag;subst ag;refine⟨false,aR _ _ _,?_,rfl,_,_,_,rfl⟩;subst aS;split<;>simp
 |h y q=>
  simp only[me]at aS;split at aS
  .rename_i sz xs ao;simp only[some.injEq]at aS;rcases M3 h aF ao with⟨rfl,a,rfl⟩|⟨b,cap,cur,aW,fr,rfl,_⟩
   .simp at aS;subst aS;cases a with
    |none=>exact⟨true,gi,by simp,rfl,_,_,_,rfl⟩
    |some a=>exact⟨false,aR _ _ _,by simp,rfl,_,_,_,rfl⟩
   .refine⟨false,aR _ _ _,?_,rfl,_,_,_,rfl⟩;subst aS;split<;>simp
  .cases aS
 |_=>simp[me]at aS
theorem UQ (h:cj w0 F0 X F S s aH w) {x:I} {v:Value} (aF:aQ w F s aH x v (λ_=>False)) {T e:TypeId} {r:Bool} (aS:oi s x=some r) (bb:C.P.underlying T=some (.pointer e)):
  (Op.equal T v (.pointer none)).run C.P w= .ok r w/\∃a,v= .pointer a:=by
 have aR:=λa=>(UN bb w 9999).2 a;have gi:=(UN bb w 9999).1;cases x with
 |ez=>
  have:=UJ aF;subst this;simp[oi]at aS;subst aS;exact⟨gi,_,rfl⟩
 |ref d=>
  have bF:=(aQ.dx rfl).1 aF;rw[az,ia bF.1]at bF;simp[oi]at aS;subst aS;obtain⟨_,b,o,fp,ag,_⟩:=bF;simp at ag;subst ag;exact⟨aR _,_,rfl⟩
 |h y q=>
  simp only[oi]at aS;split at aS
  .rename_i d ao;simp only[some.injEq]at aS;subst aS;obtain⟨b,cur,e,fr,rfl,_⟩:=UL h aF ao;exact⟨aR _,_,rfl⟩
  .cases aS
 |_=>simp[oi]at aS
theorem adt (bU:C.fK):∀(aG:List (TypeId×Nat)) (gs:List Field) (n:Nat) (ds es:azk) (r:Bool) (ic l2 cx c2:azi) (xs c1:Array Value) (cO eJ:Nat->Prop),
  gs.map (λg=>(g.type,g.offset))=aG->(gs.all λf=>decide (f.name≠ "_"))=true->rz C aG n ds es=some r->bA w F ds cx cO->bA w F es c2 eJ->xs.toList=ic++cx->ic.length=n->c1.toList=l2++c2->l2.length=n->
  ∀m,(Op.eqFields (m+1) xs c1 gs).run C.P w= .ok r w:=by
 intro aG;induction aG with
 |nil=>
  intro gs n ds es r ic l2 cx c2 xs c1 cO eJ hg aV he ad ag aq hl hy IM m;have:gs=[]:=by simpa using hg
  subst this;cases ds<;>cases es<;>simp[rz]at he;subst he;simp[Op.eqFields]
 |cons p aG ih=>
  obtain⟨mb,off⟩:=p;intro gs n ds es r ic l2 cx c2 xs c1 cO eJ hg aV he ad ag aq hl hy IM m;cases gs with
  |nil=>simp at hg
  |cons g gs=>
   simp only[map_cons,cons.injEq,Prod.mk.injEq]at hg;obtain⟨⟨rfl,rfl⟩,hg⟩:=hg;simp only[all_cons,Bool.and_eq_true,decide_eq_true_eq]at aV;cases ds with
   |nil=>simp[rz]at he
   |cons d ds=>
   cases es with
   |nil=>simp[rz]at he
   |cons e es=>
   simp only[rz]at he;split at he
   .rename_i um;rw[bA]at ad ag;obtain⟨J,a2,pv,BD,rfl,gY,ix,kh,UR,hr⟩:=ad;obtain⟨hG,fP,aw2,adu,rfl,gZ,gx,iM,jH,rA⟩:=ag;have step:∀(x y:Value) (z:Bool),(C.T g.type).flat=true->J=[x]->hG=[y]->(∀m,(Op.equalIn (m+1) g.type x y).run C.P w= .ok z w)->∀hW,rz C aG (n+1) ds es=some hW->
      (Op.eqFields (m+1) xs c1 (g::gs)).run C.P w= .ok (z&&hW) w:=by
     intro x y z jg M4 adv heq hW fA;subst M4;subst adv;have nA:xs[g.offset]? =some x:=by
      rw[<-Array.getElem?_toList,aq,um,<-hl,getElem?_append_right (Nat.le_refl _)];simp
     have uq:c1[g.offset]? =some y:=by
      rw[<-Array.getElem?_toList,hy,um,<-IM,getElem?_append_right (Nat.le_refl _)];simp
     have ai:=ih gs (n+1) ds es hW (ic++[x]) (l2++[y]) a2 fP xs c1 BD adu hg aV.2 fA ix gx (by rw[aq];simp) (by simp[hl]) (by rw[hy];simp) (by simp[IM]) m;unfold Op.eqFields;rw[if_pos aV.1];simp only[part,Sem.run_bind,MZ bU jg,Result.andThen_ok,Bool.false_eq_true,if_false,nA,uq,Sem.run_pure,heq];cases z
     .simp
     .simpa using ai
    split at he
    .rename_i k bX a cu b aw;split at he
     .rename_i adw;obtain⟨rfl,rfl⟩:=adw;rw[az]at gY gZ;simp only[map_eq_some_iff]at he;obtain⟨hW,fA,rfl⟩:=he;obtain⟨i,EN,US,aR,aW,aU,cc,cZ,cv,cd⟩:=bU.info (hF aw (by simp));rw[aw]at cd;have zi:=IF cd;subst zi;exact step _ _ _ (by simp[hP.flat,aw]) gY gZ (λm=>run_equalIn_int w m g.type _ _ a b cv) hW fA
     .cases he
    .rename_i a b aw;rw[az]at gY gZ;simp only[map_eq_some_iff]at he;obtain⟨hW,fA,rfl⟩:=he;obtain⟨i,EN,US,aR,aW,aU,cc,cZ,cv,cd⟩:=bU.info (hF aw (by simp));rw[aw]at cd;have zi:=MU cd;subst zi;exact step _ _ _ (by simp[hP.flat,aw]) gY gZ (λm=>run_equalIn_bool' w m g.type a b cv) hW fA
    .rename_i a b aw;rw[az]at gY gZ;simp only[map_eq_some_iff]at he;obtain⟨hW,fA,rfl⟩:=he;obtain⟨i,EN,US,aR,aW,aU,cc,cZ,cv,cd⟩:=bU.info (hF aw (by simp));rw[aw]at cd;have zi:=ui cd;subst zi;refine step _ _ (a==b) (by simp[hP.flat,aw]) gY gZ (λm=>?_) hW fA;rw[run_equalIn_string w m g.type _ _ cv,EM,EM]
    .cases he
   .cases he
theorem UT (bU:C.fK) {T:TypeId} {aG:List (TypeId×Nat)} (aw:(C.T T).k= .struct aG) {ds es:azk} {kC lQ:Value} {cO eJ:Nat->Prop} {r:Bool} (aq:aQ w F s aH (.agg ds) kC cO) (hy:aQ w F s aH (.agg es) lQ eJ)
  (cE:structEq C.P T=true) (he:rz C aG 0 ds es=some r) (op:BinOp) (EO EP:Operand):
  (eqGuard op T EO EP kC lQ).run C.P w= .ok () w/\(Op.equal T kC lQ).run C.P w= .ok r w:=by
 obtain⟨i,d,z,aR,aW,aU,cc,cZ,cv,cd⟩:=bU.info (hF aw (by simp));rw[aw]at cd;obtain⟨gs,rfl,fC⟩:=EG cd;have ER:C.P.fieldsOf T=gs:=by simp[Program.fieldsOf,cv]
 simp only[structEq,Bool.and_eq_true,Bool.not_eq_true',ER]at cE;obtain⟨⟨gZ,gx⟩,iM⟩:=cE;obtain⟨⟨xs,rfl⟩,BE⟩:=(aQ.dx rfl).1 aq;obtain⟨⟨c1,rfl⟩,zc⟩:=(aQ.dx rfl).1 hy;rw[az]at BE zc;constructor
 .cases op<;>simp[eqGuard,gx]
 .show(Op.equalIn (9999+1) T _ _).run C.P w=_;rw[run_equalIn_struct w 9999 T xs c1 (by rw[ER];exact cv) gZ,ER];exact adt bU aG gs.toList 0 ds es r [] [] _ _ xs c1 cO eJ fC iM he BE zc rfl rfl rfl rfl 9998
theorem adx (bU:C.fK) (h:cj w0 F0 X F S s aH w) {op:BinOp} {T:TypeId} {x y:I} {kC lQ:Value} (EO EP:Operand) (aq:aQ w F s aH x kC (λ_=>False)) (hy:aQ w F s aH y lQ (λ_=>False))
  (he:eP C s op T x y=some av):Good C w0 F0 X aH w (do eqGuard op T EO EP kC lQ;binOp op T kC lQ) av s:=by
 unfold eP at he;split at he
 .have:=qH aq;subst this;have:=qH hy;subst this;obtain⟨v,ad,ag⟩:=adq (P:=C.P) (T:=T) he w;refine Good.same h (v:=v) ?_ ?_ ag
  .rw[eqGuard_at_int];exact ad
  .revert he;unfold k2;cases op<;>simp only<;>split<;>simp<;>(rintro rfl;rfl)
 .have:=pt aq;subst this;have:=pt hy;subst this;obtain⟨v,ad,ag⟩:=ads (P:=C.P) (T:=T) he w;refine Good.same h (v:=v) ?_ ?_ ag
  .rw[eqGuard_at_string];exact ad
  .revert he;unfold qI;cases op<;>simp only<;>(try split)<;>simp<;>(try (rintro rfl;rfl))
 .have:=xD aq;subst this;have:=xD hy;subst this;split at he
  .rename_i aw;simp only[some.injEq]at he;subst he;obtain⟨i,d,z,aR,aW,aU,cc,cZ,cv,cd⟩:=bU.info (hF aw (by simp));rw[aw]at cd;have:=MU cd;subst this;refine Good.same h ?_ rfl (of_bool _);rw[eqGuard_at_bool];simp[binOp,Op.equal,Op.maxDepth,UO cv w 9999]
  .rename_i aw;simp only[some.injEq]at he;subst he;obtain⟨i,d,z,aR,aW,aU,cc,cZ,cv,cd⟩:=bU.info (hF aw (by simp));rw[aw]at cd;have:=MU cd;subst this;refine Good.same h ?_ rfl (of_bool _);rw[eqGuard_at_bool];simp[binOp,Op.equal,Op.maxDepth,UO cv w 9999]
  .cases he
 .split at he
  .rename_i aG aw;split at he
   .rename_i cE;simp only[map_eq_some_iff]at he;obtain⟨r,aS,rfl⟩:=he;obtain⟨g1,g2⟩:=UT bU aw aq hy cE aS .eql EO EP;obtain⟨⟨xs,rfl⟩,_⟩:=(aQ.dx rfl).1 aq;obtain⟨⟨c1,rfl⟩,_⟩:=(aQ.dx rfl).1 hy;exact Good.same h (by simp[g1,binOp,g2]) rfl (of_bool _)
   .cases he
  .rename_i aG aw;split at he
   .rename_i cE;simp only[map_eq_some_iff]at he;obtain⟨r,aS,rfl⟩:=he;obtain⟨g1,g2⟩:=UT bU aw aq hy cE aS .neq EO EP;obtain⟨⟨xs,rfl⟩,_⟩:=(aQ.dx rfl).1 aq;obtain⟨⟨c1,rfl⟩,_⟩:=(aQ.dx rfl).1 hy;exact Good.same h (by simp[g1,binOp,g2]) rfl (of_bool _)
   .cases he
  .cases he
 .have:=xE hy;subst this;split at he
  .rename_i e aw;simp only[map_eq_some_iff]at he;obtain⟨r,aS,rfl⟩:=he;obtain⟨i,d,z,aR,aW,aU,cc,cZ,cv,cd⟩:=bU.info (hF aw (by simp));rw[aw]at cd;have:=oX cd;subst this;obtain⟨b,ad,ag,aD,a0,br,c0,rfl⟩:=UP h aq aS cv;refine Good.same h (v:=.bool b) ?_ ?_ ?_
   .rw[eqGuard_at_slice];simp[binOp,ad]
   .cases r<;>rfl
   .cases r with
    |none=>exact M1 b
    |some gV=>have:=ag gV rfl;subst this;simp only[sT,Bool.bne_false];exact of_bool _
  .rename_i e aw;simp only[map_eq_some_iff]at he;obtain⟨r,aS,rfl⟩:=he;obtain⟨i,d,z,aR,aW,aU,cc,cZ,cv,cd⟩:=bU.info (hF aw (by simp));rw[aw]at cd;have:=oX cd;subst this;obtain⟨b,ad,ag,aD,a0,br,c0,rfl⟩:=UP h aq aS cv;refine Good.same h (v:=.bool !b) ?_ ?_ ?_
   .rw[eqGuard_at_slice];simp[binOp,ad]
   .cases r<;>rfl
   .cases r with
    |none=>exact M1 _
    |some gV=>have:=ag gV rfl;subst this;simp only[sT,Bool.bne_true];exact of_bool _
  .cases he
 .have:=UJ hy;subst this;split at he
  .rename_i e aw;simp only[map_eq_some_iff]at he;obtain⟨r,aS,rfl⟩:=he;obtain⟨i,d,z,aR,aW,aU,cc,cZ,cv,cd⟩:=bU.info (hF aw (by simp));rw[aw]at cd;have:=UA cd;subst this;obtain⟨ad,a0,rfl⟩:=UQ h aq aS cv;refine Good.same h (v:=.bool r) ?_ rfl (of_bool _);rw[eqGuard_at_pointer];simp[binOp,ad]
  .rename_i e aw;simp only[map_eq_some_iff]at he;obtain⟨r,aS,rfl⟩:=he;obtain⟨i,d,z,aR,aW,aU,cc,cZ,cv,cd⟩:=bU.info (hF aw (by simp));rw[aw]at cd;have:=UA cd;subst this;obtain⟨ad,a0,rfl⟩:=UQ h aq aS cv;refine Good.same h (v:=.bool !r) ?_ rfl (of_bool _);rw[eqGuard_at_pointer];simp[binOp,ad]
  .cases he
 .cases he
end
section
variable {C:cy} {w0 w:World} {F0 X F:Nat->Prop} {S:Nat->Nat->Prop} {s s1:al} {aH:Nat->Value} {av:I}
def un (op:UnOp) (x:I):Option I:=
 match op,x with
 | .not,.bool b=>some (.bool !b)
 | .not,.gu=>some .gu
 | .neg,.int k n=>some (.int k (k.wrap (0-n)))
 |_,_=>none
theorem ady (h:cj w0 F0 X F S s aH w) {op:UnOp} {x:I} {v:Value} (aF:aQ w F s aH x v (λ_=>False)) (he:un op x=some av):Good C w0 F0 X aH w (Op.unary op v) av s:=by
 unfold un at he;split at he<;>first|(cases he;done)|(simp only[some.injEq]at he;subst he)
 .have:=xD aF;subst this;exact Good.same h rfl rfl (of_bool _)
 .obtain⟨b,rfl⟩:=UK aF;exact Good.same h rfl rfl (M1 _)
 .have:=qH aF;subst this;exact Good.same h rfl rfl (of_int _ _)
def mC (s:al) (x:I):Option I:=
 match x with
 | .ref d=>some (.ref d)
 | .fn f c=>some (.fn f c)
 | .h y q=>match I.sub q (s y)with
   |some (.aM _)=>some (.h y q)
   |_=>none
 |_=>none
theorem adz {d:I} {v:Value} {a_:Nat->Prop} (h:aQ w F s aH (.ref d) v a_):∃b o fp,v= .pointer (some ⟨b,o,none⟩)/\F b/\jD w b o fp/\az w F d fp (λ_=>False):=by
 have bF:=(aQ.dx rfl).1 h;rw[az,ia bF.1]at bF;obtain⟨_,b,o,fp,ad,ag,aD,bh⟩:=bF;simp at ad;subst ad;exact⟨b,o,fp,rfl,ag,aD,bh⟩
theorem adA (h:cj w0 F0 X F S s aH w) {x:I} {v:Value} (aF:aQ w F s aH x v (λ_=>False)) (he:mC s x=some av):
  av=x/\x.plain=true/\((∃a,v= .pointer (some a))\/∃f c,v= .func (.func f) #[] c):=by
 unfold mC at he;split at he
 .simp only[some.injEq]at he;subst he;obtain⟨b,o,fp,rfl,_⟩:=adz aF;exact⟨rfl,rfl,.inl ⟨_,rfl⟩⟩
 .simp only[some.injEq]at he;subst he;rw[aQ]at aF;obtain⟨arr,rfl,_⟩:=aF;exact⟨rfl,rfl,.inr ⟨_,_,rfl⟩⟩
 .split at he
  .rename_i d ao;simp only[some.injEq]at he;subst he;obtain⟨b,cur,e,fr,rfl,_⟩:=UL h aF ao;exact⟨rfl,rfl,.inl ⟨_,rfl⟩⟩
  .cases he
 .cases he
def ex (s:al) (x:I) (k:Nat):Option I:=
 match x with
 | .tuple ds=>match ds[k]? with
   |some d=>if d.plain=true then some d else none
   |none=>none
 | .h y q=>match I.sub q (s y)with
   |some (.tuple ds)=>match ds[k]? with
    |some d=>if I.e6 ds=true then none else some (if d.plain then d else .h y (q++[k]))
    |none=>none
   |_=>none
 |_=>none
theorem UU:∀(vs:azi) (k:Nat) (x:Value) (ds:azk),vs[k]? =some x->vs.length=ds.length->(∀(j:Nat) (d:I) (y:Value),ds[j]? =some d->vs[j]? =some y->(jF y).length=d.wd)->
  ∃l r,vs.flatMap jF=l++(jF x++r)/\l.length=I.e9 (ds.take k)
 |[],k,x,ds,h,_,_=>by simp at h
 |v::vs,0,x,ds,h,hl,hw=>by
  simp at h;subst h;exact⟨[],vs.flatMap jF,by simp,by simp[I.e9]⟩
 |v::vs,k+1,x,d::ds,h,hl,hw=>by
  obtain⟨l,r,aR,aW⟩:=UU vs k x ds (by simpa using h) (by simpa using hl) (λj d y ad ag=>hw (j+1) d y (by simpa using ad) (by simpa using ag));refine⟨jF v++l,r,by simp[aR],?_⟩;have:=hw 0 d v (by simp) (by simp);simp[I.e9,aW,this]
 |v::vs,k+1,x,[],h,hl,hw=>by simp at hl
theorem adB {d:I} {v:Value} (h:ki d v) (_hd:∀vs,d≠.tuple vs):c_ v=jF v:=by
 cases d with
 |agg aG=>obtain⟨arr,rfl⟩:=h;rfl
 |_=>
  have ad:Value.hO v=true:=h;cases v<;>first|rfl|(simp[Value.hO]at ad)
theorem adC {d:I} {v:Value} (h:ki d v) (ao:∀vs,d≠.tuple vs):eY d v:=by
 cases d with
 |tuple vs=>exact(ao _ rfl).elim
 |_=>exact h
theorem UW (h:cj w0 F0 X F S s aH w) {x:I} {v:Value} {k:Nat} (aF:aQ w F s aH x v (λ_=>False)) (he:ex s x k=some av):Good C w0 F0 X aH w (Instr.extract v k) av s:=by
 have pick:∀(ds:azk) (d:I) (arr:Array Value),ds[k]? =some d->(arr.size=ds.length/\∀(k:Nat) (d:I) (x:Value),ds[k]? =some d->arr[k]? =some x->ki d x/\(∀vs,d≠.tuple vs)/\(jF x).length=d.wd)->
   ∃x,arr[k]? =some x/\eY d x/\((c_ (.tuple arr)).drop (I.e9 (ds.take k))).take d.wd=c_ x:=by
  intro ds d arr ao ⟨cf,nv⟩;have eN:k<arr.size:=by rw[cf];exact(List.getElem?_eq_some_iff.1 ao).1
  have aq:arr[k]? =some arr[k]:=Array.getElem?_eq_getElem eN;obtain⟨g1,g2,g3⟩:=nv k d _ ao aq;obtain⟨l,r,aR,aW⟩:=UU arr.toList k arr[k] ds (by simp[eN]) (by simpa using cf) (λj d y ad ag=>(nv j d y ad (by simpa using ag)).2.2);refine⟨_,aq,adC g1 g2,?_⟩;rw[adB g1 g2];simp only[c_];rw[aR];exact y7 l _ r _ _ aW g3
 unfold ex at he;split at he
 .rename_i ds;split at he
  .rename_i d ao;split at he
   .rename_i ax;simp only[some.injEq]at he;subst he;have bF:=(aQ.dx rfl).1 aF;obtain⟨⟨arr,rfl,cf⟩,ie⟩:=bF;obtain⟨x,aq,aa,au⟩:=pick ds d arr ao cf;have aS:(Instr.extract (.tuple arr) k).run C.P w= .ok x w:=by simp[Instr.extract,aq]
    rw[az]at ie;obtain⟨cx,hj,c2,cO,jE,e,jr,gY,ix,kh,hr,pn⟩:=bA.pick ds _ _ k d ie ao;rw[e,y7 cx hj c2 _ _ jr (az.length _ _ _ hr)]at au;by_cases bb:d.tree=true
    .exact Good.same h aS ax ((aQ.dx bb).2 ⟨aa,by rw[<-au];exact az.plain _ _ _ _ ax hr⟩)
    .cases d<;>first|exact(bb rfl).elim|(rw[az]at hr;exact hr.elim)|exact Good.same h aS rfl (by rw[aQ];trivial)|(have b1:=az.plain _ _ _ (λ_=>False) ax hr;rw[au,ia (by exact aa)]at b1;exact Good.same h aS rfl (aQ.uo _ _ rfl b1))
   .cases he
  .cases he
 .rename_i y q;split at he
  .rename_i ds ao;split at he
   .rename_i d aw;split at he
    .cases he
    .rename_i fO;simp only[some.injEq]at he;have fO:(I.tuple ds).plain=false:=by simpa [I.plain]using fO
     rw[aQ]at aF;obtain⟨dK,a,g1,g2,g3⟩:=aF _ ao fO;obtain⟨arr,rfl,cf⟩:=g3;obtain⟨x,aq,aa,au⟩:=pick ds d arr aw cf;have aS:(Instr.extract (.tuple arr) k).run C.P w= .ok x w:=by simp[Instr.extract,aq]
     have hy:=h.eu y;rw[aQ.dx (jG ao (.inl fO))]at hy;obtain⟨hk,dI,fj,gv,k0,bX,cu,dS,dW,eB⟩:=ctx q (s y) (c_ (aH y)) (S y) none _ hy.2 ao;rw[k0]at g1;simp only[some.injEq,Prod.mk.injEq,true_and]at g1;obtain⟨rfl,rfl⟩:=g1;rw[g2]at au;split at he
     .rename_i ax;subst he;rw[az]at dW;obtain⟨cx,hj,c2,cO,jE,e,jr,gY,ix,kh,hr,pn⟩:=bA.pick ds _ _ k d dW aw;rw[e,y7 cx hj c2 _ _ jr (az.length _ _ _ hr)]at au;by_cases bb:d.tree=true
      .exact Good.same h aS ax ((aQ.dx bb).2 ⟨aa,by rw[<-au];exact az.plain _ _ _ _ ax hr⟩)
      .cases d<;>first|exact(bb rfl).elim|(rw[az]at hr;exact hr.elim)|exact Good.same h aS rfl (by rw[aQ];trivial)|(have b1:=az.plain _ _ _ (λ_=>False) ax hr;rw[au,ia (by exact aa)]at b1;exact Good.same h aS rfl (aQ.uo _ _ rfl b1))
     .subst he;refine Good.same h aS rfl ?_;rw[aQ];intro d2 hE EB;rw[EF w q _ _ _ _ _ _ [k] k0];rw[EE _ _ _ _ ao]at hE;simp only[I.sub,aw,some.injEq]at hE;subst hE;simp only[eA,aw];exact⟨_,_,rfl,au.symm,aa⟩
   .cases he
  .cases he
 .cases he
def pw (C:cy) (s:al) (T:TypeId) (x:I) (k:Nat):Option I:=
 match(C.T T).k with
 | .struct aG=>match aG[k]? with
   |some (mb,off)=>match x with
    | .agg ds=>match ds[k]? with
      |some d=>if I.e9 (ds.take k)=off/\fits C mb d=true/\d.plain=true/\d.tree=true then some d else none
      |none=>none
    | .h y q=>match I.sub q (s y)with
      |some (.agg ds)=>match ds[k]? with
       |some d=>if I.e9 (ds.take k)=off/\fits C mb d=true/\I.e6 ds=false/\d.tree=true then some (if d.plain then d else .h y (q++[k]))else none
       |none=>none
      |_=>none
    |_=>none
   |none=>none
 |_=>none
theorem adD (bU:C.fK) (h:cj w0 F0 X F S s aH w) {T:TypeId} {x:I} {v:Value} {k:Nat} (aF:aQ w F s aH x v (λ_=>False)) (he:pw C s T x k=some av):Good C w0 F0 X aH w (Instr.field T v k) av s:=by
 have key:∀(aG:List (TypeId×Nat)) (mb:TypeId) (off:Nat),(C.T T).k= .struct aG->aG[k]? =some (mb,off)->∀(ds:azk) (d:I) (arr:Array Value) (a_:Nat->Prop),ds[k]? =some d->I.e9 (ds.take k)=off->fits C mb d=true->bA w F ds arr.toList a_->
   ∃x jE,(Instr.field T (.agg arr) k).run C.P w= .ok x w/\eY d x/\az w F d (c_ x) jE/\(arr.toList.drop off).take d.wd=c_ x:=by
  intro aG mb off aw bH ds d arr a_ ao um kB ie;obtain⟨i,EN,z,aR,aW,aU,cc,cZ,cv,cd⟩:=bU.info (hF aw (by simp));rw[aw]at cd;obtain⟨gs,rfl,fC⟩:=EG cd;obtain⟨g,g1,rfl,rfl⟩:∃g,gs[k]? =some g/\g.type=mb/\g.offset=off:=by
   rw[<-fC,getElem?_map]at bH;simp only[map_eq_some_iff,Prod.mk.injEq]at bH;obtain⟨g,ad,ag,aD⟩:=bH;exact⟨g,by simpa using ad,ag,aD⟩
  obtain⟨cx,hj,c2,cO,jE,e,jr,gY,ix,kh,hr,pn⟩:=bA.pick ds _ _ k d ie ao;obtain⟨x,aS,UX,nT⟩:=adg (w:=w) bU e (jr.trans um) hr kB;refine⟨x,jE,?_,nT,by rw[UX];exact hr,?_⟩
  .simp[Instr.field,run_underlying cv,g1,asAgg,aS]
  .rw[e,UX,<-um];exact y7 cx hj c2 _ _ jr (az.length _ _ _ hr)
 have UY:∀(d:I) (x:Value) (jE:Nat->Prop),d.plain=true->eY d x->az w F d (c_ x) jE->aQ w F s aH d x (λ_=>False):=by
  intro d x jE ax aa ie;by_cases bb:d.tree=true
  .exact(aQ.dx bb).2 ⟨aa,az.plain _ _ _ _ ax ie⟩
  .cases d<;>first|exact(bb rfl).elim|(rw[az]at ie;exact ie.elim)|(rw[aQ];trivial)|(have b1:=az.plain _ _ _ (λ_=>False) ax ie;rw[ia (by exact aa)]at b1;exact aQ.uo _ _ rfl b1)
 unfold pw at he;split at he
 .rename_i aG aw;split at he
  .rename_i mb off bH;split at he
   .rename_i ds;split at he
    .rename_i d ao;split at he
     .rename_i au;simp only[some.injEq]at he;subst he;obtain⟨⟨arr,rfl⟩,ie⟩:=(aQ.dx rfl).1 aF;rw[az]at ie;obtain⟨x,jE,aS,aa,xF,_⟩:=key aG mb off aw bH ds d arr _ ao au.1 au.2.1 ie;exact Good.same h aS au.2.2.1 (UY d x jE au.2.2.1 aa xF)
     .cases he
    .cases he
   .rename_i y q;split at he
    .rename_i ds ao;split at he
     .rename_i d pr;split at he
      .rename_i au;simp only[some.injEq]at he;have fO:(I.agg ds).plain=false:=by simpa [I.plain]using au.2.2.1
       rw[aQ]at aF;obtain⟨dK,a,g1,g2,g3⟩:=aF _ ao fO;obtain⟨arr,rfl⟩:=g3;have hy:=h.eu y;rw[aQ.dx (jG ao (.inl fO))]at hy;obtain⟨hk,dI,fj,gv,k0,bX,cu,dS,dW,eB⟩:=ctx q (s y) (c_ (aH y)) (S y) none _ hy.2 ao;rw[k0]at g1;simp only[some.injEq,Prod.mk.injEq,true_and]at g1;obtain⟨rfl,rfl⟩:=g1;rw[az,<-g2]at dW;obtain⟨x,jE,aS,aa,xF,ib⟩:=key aG mb off aw bH ds d arr _ pr au.1 au.2.1 dW;by_cases ax:d.plain=true
       .rw[if_pos ax]at he;subst he;exact Good.same h aS ax (UY d x jE ax aa xF)
       .rw[if_neg ax]at he;subst he;refine Good.same h aS rfl ?_;rw[aQ];intro d2 hE EB;rw[EF w q _ _ _ _ _ _ [k] k0];rw[EE _ _ _ _ ao]at hE;simp only[I.sub,pr,some.injEq]at hE;subst hE;simp only[eA,pr];refine⟨_,_,rfl,?_,aa⟩;rw[au.1,<-g2];exact ib.symm
      .cases he
     .cases he
    .cases he
   .cases he
  .cases he
 .cases he
end
section
variable {C:cy} {w0 w:World} {F0 X F:Nat->Prop} {S:Nat->Nat->Prop} {s s1:al} {aH:Nat->Value} {av:I}
def idx (C:cy) (T:TypeId) (x i:I):Option I:=
 match(C.T T).k,x,i with
 | .str,.str l,.int _ n=>if 0<=n then(match l[n.toNat]? with|some b=>some (.int .u8 b.toNat)|none=>none)else none
 |_,_,_=>none
theorem adE (l:azc) (n:Nat):(⟨⟨l⟩⟩:ByteArray)[n]? =l[n]? :=by
 by_cases h:n<l.length
 .have bF:n<(⟨⟨l⟩⟩:ByteArray).size:=h;rw[getElem?_eq_getElem h,getElem?_pos (⟨⟨l⟩⟩:ByteArray) n bF];rfl
 .have bF:¬n<(⟨⟨l⟩⟩:ByteArray).size:=h;rw[getElem?_eq_none (by omega),getElem?_neg (⟨⟨l⟩⟩:ByteArray) n bF]
theorem adF (bU:C.fK) (h:cj w0 F0 X F S s aH w) {T:TypeId} {x i:I} {v ry:Value} (aF:aQ w F s aH x v (λ_=>False)) (ai:aQ w F s aH i ry (λ_=>False)) (he:idx C T x i=some av):
  Good C w0 F0 X aH w (Instr.index T v ry) av s:=by
 unfold idx at he;split at he
 .rename_i l k n aw;have:=pt aF;subst this;have:=qH ai;subst this;obtain⟨i,d,z,aR,aW,aU,cc,cZ,cv,cd⟩:=bU.info (hF aw (by simp));rw[aw]at cd;have:=ui cd;subst this;split at he
  .rename_i aV;split at he
   .rename_i b ab;simp only[some.injEq]at he;subst he;refine Good.same h ?_ rfl (of_int _ _);simp[Instr.index,asIntOf,run_underlying cv,aV,adE,ab]
   .cases he
  .cases he
 .cases he
def lenOf (s:al):I->Option Nat
 | .str l=>some l.length
 | .bd=>some 0
 | .slice xs=>some xs.length
 | .h y q=>match I.sub q (s y)with
   |some (.ae _ xs)=>some xs.length
   |_=>none
 |_=>none
def vQ (C:cy) (s:al) (T:TypeId) (x:I):Option I:=
 match(C.T T).k,x with
 | .str,.str l=>some (.int .i64 l.length)
 | .slice _,.bd=>some (.int .i64 0)
 | .slice _,.slice xs=>some (.int .i64 xs.length)
 | .slice _,.h y q=>match I.sub q (s y)with
   |some (.ae _ xs)=>some (.int .i64 xs.length)
   |_=>none
 |_,_=>none
theorem IP {xs:azk} {v:Value} {a_:Nat->Prop} (h:aQ w F s aH (.slice xs) v a_):(xs=[]/\∃a c,v= .slice a 0 c/\c<=maxLen/\(a=none->c=0))\/
  ∃b o cap fp sz,v= .slice (some ⟨b,o,none⟩) xs.length cap/\F b/\xs.length<=cap/\cap<=maxLen/\(∀d∈xs,d.wd=sz)/\jD w b o fp/\bA w F xs fp (λ_=>False):=by
 have bF:=(aQ.dx rfl).1 h;rw[az,ia bF.1]at bF;obtain⟨_,⟨rfl,a,c,ag,aD⟩|⟨b,o,cap,fp,sz,ag,aD⟩⟩:=bF
 .simp at ag;exact .inl ⟨rfl,a,c,ag,aD⟩
 .simp at ag;exact .inr ⟨b,o,cap,fp,sz,ag,aD⟩
theorem adG (bU:C.fK) (h:cj w0 F0 X F S s aH w) {T ty:TypeId} {x:I} {v:Value} (aF:aQ w F s aH x v (λ_=>False)) (he:vQ C s T x=some av):
  Good C w0 F0 X aH w (Builtin.len_ #[T] ty #[v]) av s:=by
 unfold vQ at he;split at he
 .rename_i l aw;have:=pt aF;subst this;obtain⟨i,d,z,aR,aW,aU,cc,cZ,cv,cd⟩:=bU.info (hF aw (by simp));rw[aw]at cd;have:=ui cd;subst this;simp only[some.injEq]at he;subst he;refine Good.same h ?_ rfl (of_int _ _);simp[Builtin.len_,run_underlying cv,goInt];rfl
 .rename_i e aw;have:=xE aF;subst this;obtain⟨i,d,z,aR,aW,aU,cc,cZ,cv,cd⟩:=bU.info (hF aw (by simp));rw[aw]at cd;have:=oX cd;subst this;simp only[some.injEq]at he;subst he;refine Good.same h ?_ rfl (of_int _ _);simp[Builtin.len_,run_underlying cv,goInt]
 .rename_i e xs aw;obtain⟨i,d,z,aR,aW,aU,cc,cZ,cv,cd⟩:=bU.info (hF aw (by simp));rw[aw]at cd;have:=oX cd;subst this;simp only[some.injEq]at he;subst he;refine Good.same h ?_ rfl (of_int _ _);rcases IP aF with⟨rfl,a,c,rfl,_⟩|⟨b,o,cap,fp,sz,rfl,_⟩<;>simp[Builtin.len_,run_underlying cv,goInt]
 .rename_i e y q aw;split at he
  .rename_i sz xs ao;obtain⟨i,d,z,aR,aW,aU,cc,cZ,cv,cd⟩:=bU.info (hF aw (by simp));rw[aw]at cd;have:=oX cd;subst this;simp only[some.injEq]at he;subst he;refine Good.same h ?_ rfl (of_int _ _);rcases M3 h aF ao with⟨rfl,_,rfl⟩|⟨b,cap,cur,aW,fr,rfl,_⟩<;>simp[Builtin.len_,run_underlying cv,goInt]
  .cases he
 .cases he
def bytesOf:azk->Option azc
 |[]=>some []
 | .int .u8 n::r=>if 0<=n/\n<256 then(bytesOf r).map (UInt8.ofNat n.toNat::·)else none
 |_=>none
def ji (b:UInt8):I:=.int .u8 b.toNat
theorem adH (l:azc):bytesOf (l.map ji)=some l:=by
 induction l with
 |nil=>rfl
 |cons b l ih=>
  have ab:b.toNat<256:=b.toNat_lt;simp only[map_cons,ji,bytesOf,Int.toNat_natCast];rw[if_pos (by omega),ih];simp
theorem M5:∀(xs:azk) (l:azc) (cs:azi) (a_:Nat->Prop),bytesOf xs=some l->bA w F xs cs a_->cs=l.map (λb=>.int .u8 (b.toNat:Int))/\xs.length=l.length
 |[],l,cs,a_,h,aS=>by simp[bytesOf]at h;subst h;rw[bA]at aS;subst aS;exact⟨rfl,rfl⟩
 |x::xs,l,cs,a_,h,aS=>by
  unfold bytesOf at h;split at h
  .rename_i e;cases e
  .rename_i n r e;simp only[cons.injEq]at e;obtain⟨rfl,rfl⟩:=e;split at h
   .rename_i aV;simp only[map_eq_some_iff]at h;obtain⟨cK,ad,rfl⟩:=h;rw[bA]at aS;obtain⟨cx,c2,cO,eJ,rfl,ag,aD,_⟩:=aS;obtain⟨rfl,bh⟩:=M5 xs cK c2 eJ ad aD;rw[az]at ag;subst ag;refine⟨?_,by simp[bh]⟩;simp only[map_cons,cons_append,nil_append,cons.injEq,and_true,Value.int.injEq,true_and];simp only[UInt8.toNat_ofNat'];omega
   .cases h
  .cases h
theorem cj.IQ (h:cj w0 F0 X F S s aH w) {aP:World} {sz cap:Nat} {xs:azk} {cur:Array Value} {e:TypeId} {fr:Nat×Nat} {Sn:Nat->Prop}
  (hw:aP.heap=w.heap.push (.cells cur e fr)) (ad:aP.os=w.os) (ag:aP.tape=w.tape) (aD:Out aP w)
  (bH:pZ fr (cur.size+(sz-1))) (hle:xs.length<=cap) (hm:cap<=maxLen) (fa:cur.size=cap*sz) (nu:∀d∈xs,d.wd=sz) (aF:bA w F xs (cur.toList.take (xs.length*sz)) Sn)
  (eN:∀b,Sn b->b<w.heap.size) (bJ:∀b,Sn b->¬F b) (cq:∀u b,Sn b->¬S u b) (bc:∀b,Sn b->X b\/w0.heap.size<=b):
  cj w0 F0 X F S s aH aP/\oh w0 X F S s aH aP (.ae sz xs) (.slice (some ⟨w.heap.size,0,none⟩) xs.length cap):=by
 have hold:∀b,b<w.heap.size->aP.heap[b]? =w.heap[b]? :=by
  intro b ab;rw[hw,Array.getElem?_push,if_neg (by omega)]
 have aw3:aP.heap.size=w.heap.size+1:=by rw[hw];simp
 refine⟨h.grow hold (by omega) ad ag aD,.inr ⟨rfl,rfl,λb=>b=w.heap.size\/Sn b,?_,?_,?_,?_,?_⟩⟩
 .simp only[c_,jF];rw[az];refine .inr ⟨w.heap.size,cap,cur,e,fr,Sn,rfl,.inl rfl,?_,bH,hle,hm,fa,nu,?_,λc au=>.inr au,λau=>Nat.lt_irrefl _ (eN _ au)⟩
  .rw[hw];simp
  .exact bA.frame (λb ab=>hold b (h.gg b ab)) _ _ _ (λb ab=>hold b (eN b ab)) aF
 .rintro b (rfl|ab)
  .omega
  .have:=eN b ab;omega
 .rintro b (rfl|ab) vP
  .exact Nat.lt_irrefl _ (h.gg _ vP)
  .exact bJ b ab vP
 .rintro u b (rfl|ab) hu
  .exact Nat.lt_irrefl _ (h.fB _ _ hu)
  .exact cq u b ab hu
 .rintro b (rfl|ab)
  .exact .inr h.size
  .exact bc b ab
def k3 (C:cy) (s:al) (A B:TypeId) (x:I):Option I:=
 if(C.T A).ok=true then
 match(C.T B).k,x with
 | .int k,.int _ n=>some (.int k (k.wrap n))
 | .str,.str l=>match(C.T A).k with
   | .str=>some (.str l)
   |_=>none
 | .str,x=>match(C.T A).k with
   | .slice e=>match(C.T e).k with
     | .int .u8=>match x with
       | .bd=>some (.str [])
       | .slice xs=>(bytesOf xs).map .str
       | .h y q=>match I.sub q (s y)with
         |some (.ae 1 xs)=>(bytesOf xs).map .str
         |_=>none
       |_=>none
     |_=>none
   |_=>none
 | .slice e,.str l=>match(C.T A).k,(C.T e).k with
   | .str,.int .u8=>if l.length<=9223372036854775807 then some (.ae 1 (l.map ji))else none
   |_,_=>none
 |_,_=>none
 else none
theorem UZ (l:azc) (a_:Nat->Prop):bA w F (l.map ji) (l.map λb=>.int .u8 (b.toNat:Int)) a_:=by
 induction l generalizing a_ with
 |nil=>simp only[map_nil];rw[bA]
 |cons b l ih=>
  simp only[map_cons];rw[bA];exact⟨[.int .u8 (b.toNat:Int)],_,λ_=>False,λ_=>False,rfl,by rw[ji,az],ih _,λ_ h=>h.elim,λ_ h=>h.elim,λ_ h=>h.elim⟩
theorem adI (bU:C.fK) (h:cj w0 F0 X F S s aH w) {A B:TypeId} {x:I} {v:Value} (aF:aQ w F s aH x v (λ_=>False)) (he:k3 C s A B x=some av):
  Good C w0 F0 X aH w (convert A B v) av s:=by
 unfold k3 at he;split at he
 .rename_i jj;obtain⟨kM,aw4,aw5,J,a2,a3,a4,a5,p2,px⟩:=bU.info jj;split at he
  .rename_i k dv n aw;have:=qH aF;subst this;obtain⟨i,d,z,aR,aW,aU,cc,cZ,cv,cd⟩:=bU.info (hF aw (by simp));rw[aw]at cd;have:=IF cd;subst this;simp only[some.injEq]at he;subst he;refine Good.same h ?_ rfl (of_int _ _);simp[convert,run_underlying p2,run_underlying cv,Conv.intToInt]
  .rename_i l aw;have:=pt aF;subst this;obtain⟨i,d,z,aR,aW,aU,cc,cZ,cv,cd⟩:=bU.info (hF aw (by simp));rw[aw]at cd;have:=ui cd;subst this;split at he
   .rename_i ES;rw[ES]at px;have:=ui px;subst this;simp only[some.injEq]at he;subst he;refine Good.same h ?_ rfl (sS _);simp[convert,run_underlying p2,run_underlying cv]
   .cases he
  .rename_i x aw _;obtain⟨i,d,z,aR,aW,aU,cc,cZ,cv,cd⟩:=bU.info (hF aw (by simp));rw[aw]at cd;have:=ui cd;subst this;split at he
   .rename_i e ES;rw[ES]at px;have:=oX px;subst this;split at he
    .rename_i ET;obtain⟨uk,bM,vN,f1,f2,f3,f4,f5,f6,f7⟩:=bU.info (hF ET (by simp));rw[ET]at f7;have:=IF f7;subst this;have fin:∀(l:azc) (b o cap:Nat),jD w b o (l.map λb=>.int .u8 (b.toNat:Int))->(convert A B (.slice (some ⟨b,o,none⟩) l.length cap)).run C.P w= .ok (.string ⟨⟨l⟩⟩) w:=by
      intro l b o cap mB;refine run_convert_bytes_back w A B e ⟨b,o,none⟩ cap l p2 f6 cv (λj bG=>?_);rw[Addr.add_lit];exact mB j _ (by simp[bG])
     have nil:(convert A B (.slice none 0 0)).run C.P w= .ok (.string ⟨⟨[]⟩⟩) w:=by
      simp[convert,run_underlying p2,run_underlying cv,run_underlying f6,Conv.bytesToString];rfl
     split at he
     .have:=xE aF;subst this;simp only[some.injEq]at he;subst he;exact Good.same h nil rfl (sS _)
     .rename_i xs _;simp only[map_eq_some_iff]at he;obtain⟨l,hl,rfl⟩:=he;rcases IP aF with⟨rfl,a,c,rfl,_,zh⟩|⟨b,o,cap,fp,sz,rfl,ad,ag,aD,bh,b1,du⟩
      .simp[bytesOf]at hl;subst hl;cases a with
       |none=>
        have:=zh rfl;subst this;exact Good.same h nil rfl (sS _)
       |some a=>
        refine Good.same h ?_ rfl (sS _);exact run_convert_bytes_back w A B e a c [] p2 f6 cv (λj bG=>by simp at bG)
      .obtain⟨rfl,di⟩:=M5 xs l fp _ hl du;rw[di];exact Good.same h (fin l b o cap b1) rfl (sS _)
     .rename_i y q;split at he
      .rename_i xs ao;simp only[map_eq_some_iff]at he;obtain⟨l,hl,rfl⟩:=he;rcases M3 h aF ao with⟨rfl,a,rfl⟩|⟨b,cap,cur,aW,fr,rfl,ad,ag,aD,bh,b1,du,a_,di,_⟩
       .simp[bytesOf]at hl;subst hl;cases a with
        |none=>exact Good.same h nil rfl (sS _)
        |some a=>
         refine Good.same h ?_ rfl (sS _);exact run_convert_bytes_back w A B e a 0 [] p2 f6 cv (λj bG=>by simp at bG)
       .obtain⟨hi,iV⟩:=M5 xs l _ _ hl di;rw[iV];refine Good.same h (fin l b 0 cap ?_) rfl (sS _);rw[<-hi];exact Bv ad _
      .cases he
     .cases he
    .cases he
   .cases he
  .rename_i e l aw;have:=pt aF;subst this;obtain⟨i,d,z,aR,aW,aU,cc,cZ,cv,cd⟩:=bU.info (hF aw (by simp));rw[aw]at cd;have:=oX cd;subst this;split at he
   .rename_i ES ET;rw[ES]at px;have:=ui px;subst this;obtain⟨uk,bM,vN,f1,f2,f3,f4,f5,f6,f7⟩:=bU.info (hF ET (by simp));rw[ET]at f7;have:=IF f7;subst this;split at he
    .rename_i hl;simp only[some.injEq]at he;subst he;have aa:(⟨⟨l⟩⟩:ByteArray).size=l.length:=rfl;have M6:=grownCap_ge w l.length 0 e;have adJ:=grownCap_le_maxLen w l.length 0 e (by unfold maxLen;omega);have U0:(bytesRow ⟨⟨l⟩⟩ (grownCap w l.length 0 e)).toList=l.map (λb=>Value.int .u8 (b.toNat:Int))++replicate (grownCap w l.length 0 e-l.length) (.int .u8 0):=by
      simp[bytesRow,aa]
     have fa:(bytesRow ⟨⟨l⟩⟩ (grownCap w l.length 0 e)).size=grownCap w l.length 0 e*1:=by
      have:(bytesRow ⟨⟨l⟩⟩ (grownCap w l.length 0 e)).size=(bytesRow ⟨⟨l⟩⟩ (grownCap w l.length 0 e)).toList.length:=by simp
      rw[this,U0];simp;omega
     have zf:=run_bytes_of_string w A B e ⟨⟨l⟩⟩ p2 cv f6;rw[aa]at zf;have oY:=h.IQ (aP:=w.drew.alloc (.cells (bytesRow ⟨⟨l⟩⟩ (grownCap w l.length 0 e)) e ((bytesRow ⟨⟨l⟩⟩ (grownCap w l.length 0 e)).size,(bytesRow ⟨⟨l⟩⟩ (grownCap w l.length 0 e)).size+1)))
      (sz:=1) (cap:=grownCap w l.length 0 e) (xs:=l.map ji) (cur:=bytesRow ⟨⟨l⟩⟩ (grownCap w l.length 0 e)) (e:=e) (Sn:=λ_=>False) rfl rfl rfl ⟨rfl,λ_=>le_succ _⟩
      (λo bO ⟨ad,_⟩=>by simp only at ad;omega) (by simpa using M6) adJ fa (by intro d ao;obtain⟨b,_,rfl⟩:=mem_map.1 ao;rfl)
      (by rw[U0,take_left' (by simp)];exact UZ l _) (λ_ h=>h.elim) (λ_ h=>h.elim) (λ_ _ h=>h.elim) (λ_ h=>h.elim)
     simp only[length_map]at oY;exact⟨_,_,F,S,zf,oY.1,oY.2⟩
    .cases he
   .cases he
  .cases he
 .cases he
end
section
variable {C:cy} {w0 w:World} {F0 X F:Nat->Prop} {S:Nat->Nat->Prop} {s s1:al} {aH:Nat->Value} {av:I}
def jR (d:Nat):Option I->Option Nat
 |none=>some d
 |some (.int _ n)=>if 0<=n then some n.toNat else none
 |some _=>none
def iW (C:cy) (s:al) (T:TypeId) (x:I) (fT ai:Option I):Option (I×al):=
 match(C.T T).k,x with
 | .str,.str l=>match jR 0 fT,jR l.length ai with
   |some a,some b=>if a<=b/\b<=l.length then some (.str ((l.take b).drop a),s)else none
   |_,_=>none
 | .slice e,.bd=>match jR 0 fT,jR 0 ai with
   |some 0,some 0=>if(C.T e).ok=true then some (.bd,s)else none
   |_,_=>none
 | .slice e,.slice xs=>match jR 0 fT,jR xs.length ai with
   |some a,some b=>if a<=b/\b<=xs.length/\(C.T e).ok=true/\(∀d∈xs,d.wd=(C.T e).sz)then some (.slice ((xs.take b).drop a),s)else none
   |_,_=>none
 | .slice e,.h y q=>match I.sub q (s y)with
   |some (.ae sz xs)=>match jR 0 fT,jR xs.length ai with
    |some 0,some b=>if b<=xs.length/\(C.T e).ok=true then(match dJ s (.h y q)with|some (_,s1)=>some (.ae sz (xs.take b),s1)|none=>none)else none
    |_,_=>none
   |_=>none
 |_,_=>none
def vR (w:World) (F:Nat->Prop) (s:al) (aH:Nat->Value):Option I->Option Value->Prop
 |none,none=>True
 |some d,some v=>aQ w F s aH d v (λ_=>False)
 |_,_=>False
theorem U1 {d:Nat} {o:Option I} {v:Option Value} (bO:vR w F s aH o v) {a:Nat} (h:jR d o=some a):(o=none/\v=none/\a=d)\/∃k,v=some (.int k a):=by
 cases o with
 |none=>
  cases v with
  |none=>simp[jR]at h;exact .inl ⟨rfl,rfl,h.symm⟩
  |some v=>simp[vR]at bO
 |some x=>
  cases v with
  |none=>simp[vR]at bO
  |some v=>
   simp only[vR]at bO;cases x with
   |int k n=>
    have:=qH bO;subst this;simp only[jR]at h;split at h
    .rename_i aV;simp only[some.injEq]at h;subst h;obtain⟨m,rfl⟩:=Int.eq_ofNat_of_zero_le aV;exact .inr ⟨k,rfl⟩
    .cases h
   |_=>simp[jR]at h
theorem BF {P:Program} {isS:Bool} {len cap a b:Nat} {fT ai:Option I} {zj zk:Option Value} (rB:vR w F s aH fT zj) (rC:vR w F s aH ai zk) (bo:jR 0 fT=some a) (ab:jR len ai=some b) (kK:a<=b) (adK:b<=cap) (_hlc:len<=cap):
  (Instr.sliceBounds isS len cap zj zk none).run P w= .ok (a,b,cap) w:=by
 rcases U1 rB bo with⟨_,rfl,rfl⟩|⟨k,rfl⟩<;>rcases U1 rC ab with⟨_,rfl,rfl⟩|⟨dv,rfl⟩<;>
  simp[Instr.sliceBounds,Instr.sliceBound,asIntOf,kK,adK]
theorem BG (bU:C.fK) {T:TypeId} (aw:(C.T T).flat=true) (v:Value) (fT ai fv:Option Value) (w:World):(Instr.sliceAt T v fT ai fv).run C.P w=(Instr.slice T v fT ai fv).run C.P w:=by
 obtain⟨i,d,z,aR,aW,aU,cc,cZ,cv,cd⟩:=bU.info (UD aw);have eb:∀n e,d≠.array n e:=by
  clear cv;unfold hP.flat at aw;generalize (C.T T).k=nz at*;cases nz<;>cases d<;>simp[og]at cd aw⊢
 cases d<;>first|exact(eb _ _ rfl).elim|simp[Instr.sliceAt,run_underlying cv]
theorem BH {x:hP} {k:qE} (h:x.k=k) (aw:k≠.other) (aa:∀aG,k≠.struct aG) (ab:∀e,k≠.gH e:=by simp):x.flat=true:=by
 unfold hP.flat;rw[h];cases k<;>first|rfl|exact(aw rfl).elim|exact(ab _ rfl).elim|exact(aa _ rfl).elim
theorem bA.split:∀(n:Nat) (xs:azk) (cs:azi) (a_:Nat->Prop),bA w F xs cs a_->∃cx c2 cO eJ,cs=cx++c2/\bA w F (xs.take n) cx cO/\bA w F (xs.drop n) c2 eJ/\(∀b,cO b->a_ b)/\(∀b,eJ b->a_ b)/\(∀b,cO b->¬eJ b)
 |0,xs,cs,a_,h=>⟨[],cs,λ_=>False,a_,rfl,by rw[take_zero,bA],h,λ_ h=>h.elim,λ_ h=>h,λ_ h=>h.elim⟩
 |n+1,[],cs,a_,h=>by rw[bA]at h;subst h;exact⟨[],[],λ_=>False,λ_=>False,rfl,by rw[take_nil,bA],by rw[drop_nil,bA],λ_ h=>h.elim,λ_ h=>h.elim,λ_ h=>h.elim⟩
 |n+1,x::xs,cs,a_,h=>by
  rw[bA]at h;obtain⟨cx,c2,jq,h9,rfl,ad,ag,aD,bh,b1⟩:=h;obtain⟨d1,d2,cO,eJ,rfl,g1,g2,g3,g4,g5⟩:=bA.split n xs c2 h9 ag;refine⟨cx++d1,d2,λb=>jq b\/cO b,eJ,by simp,?_,g2,?_,λb ab=>bh _ (g4 _ ab),?_⟩
  .rw[take_succ_cons,bA];exact⟨cx,d1,jq,cO,rfl,ad,g1,λ_ h=>.inl h,λ_ h=>.inr h,λb ab au=>b1 b ab (g3 b au)⟩
  .rintro b (ab|ab)
   .exact aD b ab
   .exact bh b (g3 b ab)
  .rintro b (ab|ab) au
   .exact b1 b ab (g4 b au)
   .exact g5 b ab au
theorem adL (bU:C.fK) (h:cj w0 F0 X F S s aH w) {T:TypeId} {x:I} {v:Value} {fT ai:Option I} {zj zk:Option Value} (aq:x.plain=true) (aF:aQ w F s aH x v (λ_=>False)) (rB:vR w F s aH fT zj) (rC:vR w F s aH ai zk)
  (he:iW C s T x fT ai=some (av,s1)):Good C w0 F0 X aH w (Instr.sliceAt T v zj zk none) av s1:=by
 unfold iW at he;split at he
 .rename_i l aw;have:=pt aF;subst this;obtain⟨i,d,z,aR,aW,aU,cc,cZ,cv,cd⟩:=bU.info (hF aw (by simp));rw[aw]at cd;have:=ui cd;subst this;split at he
  .rename_i a b bo ab;split at he
   .rename_i kK;simp only[some.injEq,Prod.mk.injEq]at he;obtain⟨rfl,rfl⟩:=he;refine Good.same h ?_ rfl (sS _);rw[BG bU (BH aw (by simp) (by simp))];have fa:(⟨⟨l⟩⟩:ByteArray).size=l.length:=rfl;have rD:=BF (P:=C.P) (isS:=false) (len:=l.length) (cap:=l.length) rB rC bo ab kK.1 kK.2 (Nat.le_refl _);have adM:(⟨⟨l⟩⟩:ByteArray).extract a b=⟨⟨(l.take b).drop a⟩⟩:=by
     apply ByteArray.ext;simp[ByteArray.data_extract,drop_take]
    simp[Instr.slice,run_underlying cv,fa,rD,adM]
   .cases he
  .cases he
 .rename_i e aw;have:=xE aF;subst this;obtain⟨i,d,z,aR,aW,aU,cc,cZ,cv,cd⟩:=bU.info (hF aw (by simp));rw[aw]at cd;have:=oX cd;subst this;split at he
  .rename_i bo ab;split at he
   .rename_i vS;obtain⟨uk,bM,vN,f1,f2,f3,f4,f5,f6,f7⟩:=bU.info vS;simp only[some.injEq,Prod.mk.injEq]at he;obtain⟨rfl,rfl⟩:=he;have rD:=BF (P:=C.P) (isS:=true) (len:=0) (cap:=0) rB rC bo ab (Nat.le_refl _) (Nat.le_refl _) (Nat.le_refl _);refine Good.same h (v:=.slice none 0 0) ?_ rfl aF;rw[BG bU (BH aw (by simp) (by simp))];simp[Instr.slice,run_underlying cv,rD,ny f1,f2]
   .cases he
  .cases he
 .rename_i e xs aw;obtain⟨i,d,z,aR,aW,aU,cc,cZ,cv,cd⟩:=bU.info (hF aw (by simp));rw[aw]at cd;have:=oX cd;subst this;split at he
  .rename_i a b bo ab;split at he
   .rename_i kK;obtain⟨adN,U2,vS,nu⟩:=kK;obtain⟨uk,bM,vN,f1,f2,f3,f4,f5,f6,f7⟩:=bU.info vS;simp only[some.injEq,Prod.mk.injEq]at he;obtain⟨rfl,rfl⟩:=he;rcases IP aF with⟨rfl,BI,c,rfl,M7,zh⟩|⟨lR,o,cap,fp,sz,rfl,ad,ag,aD,bh,b1,du⟩
    .have iN:b=0:=by simpa using U2
     subst iN;have adO:a=0:=by omega
     subst adO;have rD:=BF (P:=C.P) (isS:=true) (len:=0) (cap:=c) rB rC bo ab (Nat.le_refl _) (zero_le _) (zero_le _);refine Good.same h (v:=.slice BI 0 c) ?_ rfl ((aQ.dx rfl).2 ⟨rfl,by rw[az];exact .inl ⟨rfl,BI,c,rfl,M7,zh⟩⟩);rw[BG bU (BH aw (by simp) (by simp))];cases BI with
     |none=>
      have:=zh rfl;subst this;simp[Instr.slice,run_underlying cv,rD,ny f1,f2]
     |some BI=>simp[Instr.slice,run_underlying cv,rD,ny f1,f2,Addr.add]
    .have rD:=BF (P:=C.P) (isS:=true) (len:=xs.length) (cap:=cap) rB rC bo ab adN (Nat.le_trans U2 ag) ag;obtain⟨cx,c2,cO,eJ,rfl,g1,g2,g3,g4,g5⟩:=bA.split b xs fp _ du;obtain⟨d1,d2,aw6,U3,rfl,bX,cu,dS,dW,eB⟩:=bA.split a (xs.take b) cx _ g1;have EU:d1.length=a*(C.T e).sz:=by
      rw[bA.length _ _ _ bX,y9 _ (λd ao=>nu d (mem_of_mem_take (mem_of_mem_take ao))),length_take,length_take];congr 1;omega
     have hlen:((xs.take b).drop a).length=b-a:=by simp;omega
     have mB:jD w lR (o+a*(C.T e).sz) d2:=by
      rw[<-EU];have:jD w lR o (d1++(d2++c2)):=by simpa using b1
      exact this.MW
     have IU:bA w F ((xs.take b).drop a) d2 (λ_=>False):=bA.mono (λ_ h=>h) _ _ _ _ (λb ab=>(g3 _ (dW _ ab)).elim) cu;have mem:∀d∈(xs.take b).drop a,d.wd=sz:=λd ao=>bh d (mem_of_mem_take (mem_of_mem_drop ao));have run:(Instr.sliceAt T (.slice (some ⟨lR,o,none⟩) xs.length cap) zj zk none).run C.P w= .ok (.slice (if cap=a then some ⟨lR,o,none⟩else some ⟨lR,o+a*(C.T e).sz,none⟩) (b-a) (cap-a)) w:=by
      rw[BG bU (BH aw (by simp) (by simp))];simp[Instr.slice,run_underlying cv,rD,ny f1,f2,Addr.add_lit]
     refine⟨_,w,F,S,run,h,.inl ⟨rfl,(aQ.dx rfl).2 ⟨rfl,?_⟩⟩⟩;simp only[c_,jF];rw[az];by_cases U4:cap=a
     .have adP:b=a:=by omega
      subst adP;have EV:(xs.take b).drop b=[]:=by simp
      rw[if_pos U4];rw[EV]at IU⊢;rw[bA]at IU;subst IU;exact .inr ⟨lR,o,cap-b,[],sz,by simp,ad,zero_le _,by omega,by simp,λj c bG=>by simp at bG,by rw[bA]⟩
     .rw[if_neg U4];exact .inr ⟨lR,_,cap-a,d2,sz,by rw[hlen],ad,by rw[hlen];omega,by omega,mem,mB,IU⟩
   .cases he
  .cases he
 .rename_i e y q aw;split at he
  .rename_i sz xs ao;split at he
   .rename_i b bo ab;split at he
    .rename_i xG;split at he
     .rename_i EN s2 bb;simp only[some.injEq,Prod.mk.injEq]at he;obtain⟨rfl,rfl⟩:=he;obtain⟨i,d,z,aR,aW,aU,cc,cZ,cv,cd⟩:=bU.info (hF aw (by simp));rw[aw]at cd;have:=oX cd;subst this;obtain⟨uk,bM,vN,f1,f2,f3,f4,f5,f6,f7⟩:=bU.info xG.2;have zi:EN= .ae sz xs:=by
       simp only[dJ,ao,I.plain]at bb;simp at bb;exact bb.1.symm
      subst zi;obtain⟨cO,g0,g1,g2,Sn,g3,g4,g5,g6,g7,g8⟩:=rv h rfl aF bb;rw[ia g2,az]at g3;rcases g3 with⟨rfl,a0,nV⟩|⟨lR,cap,cur,gi,fr,a_,nV,bX,cu,dS,dW,eB,dw,kj,fQ,py,kE⟩
      .simp at nV;subst nV;have iN:b=0:=by simpa using xG.1
       subst iN;have rD:=BF (P:=C.P) (isS:=true) (len:=0) (cap:=0) rB rC bo ab (Nat.le_refl _) (Nat.le_refl _) (Nat.le_refl _);refine⟨.slice a0 0 0,w,F,cO,?_,g0,.inr ⟨rfl,rfl,λ_=>False,by simp only[c_,jF];rw[az];exact .inl ⟨rfl,_,rfl⟩,λ_ h=>h.elim,λ_ h=>h.elim,λ_ _ h=>h.elim,λ_ h=>h.elim⟩⟩;rw[BG bU (BH aw (by simp) (by simp))];cases a0<;>simp[Instr.slice,run_underlying cv,rD,ny f1,f2]
      .simp at nV;subst nV;have rD:=BF (P:=C.P) (isS:=true) (len:=xs.length) (cap:=cap) rB rC bo ab (zero_le _) (Nat.le_trans xG.1 dW) dW;have hlen:(xs.take b).length=b:=by simp;omega
       have run:(Instr.sliceAt T (.slice (some ⟨lR,0,none⟩) xs.length cap) zj zk none).run C.P w= .ok (.slice (some ⟨lR,0,none⟩) b cap) w:=by
        rw[BG bU (BH aw (by simp) (by simp))];simp[Instr.slice,run_underlying cv,rD,ny f1,f2,Addr.add_lit]
       refine⟨_,w,F,cO,run,g0,.inr ⟨rfl,rfl,Sn,?_,g4,g5,g6,g7⟩⟩;simp only[c_,jF];rw[az];obtain⟨cx,c2,jq,h9,au,m1,m2,m3,m4,m5⟩:=bA.split b xs _ _ fQ;refine .inr ⟨lR,cap,cur,gi,fr,a_,by rw[hlen],bX,cu,dS,by omega,eB,dw,λd ao=>kj d (mem_of_mem_take ao),?_,py,kE⟩;have EU:cx.length=b*sz:=by
        rw[bA.length _ _ _ m1,y9 _ (λd ao=>kj d (mem_of_mem_take ao)),hlen]
       have:cur.toList.take ((xs.take b).length*sz)=cx:=by
        rw[hlen];have ag:b*sz<=xs.length*sz:=mul_le_mul_right _ xG.1;have:(cur.toList.take (xs.length*sz)).take (b*sz)=cx:=by rw[au,take_left' EU]
        rwa [take_take,Nat.min_eq_left ag]at this
       rw[this];exact bA.mono (λ_ h=>h) _ _ _ _ m3 m1
     .cases he
    .cases he
   .cases he
  .cases he
 .cases he
end
section
variable {C:cy} {w0 w:World} {F0 X F:Nat->Prop} {S:Nat->Nat->Prop} {s s1:al} {aH:Nat->Value} {av:I}
def Src (P:Program) (w:World) (size:Nat) (x:Value) (m:Nat) (news:azi):Prop:=
 ∀aP:World,aP.heap=w.heap->(Builtin.lenOf x).run P aP= .ok m aP/\(Builtin.firstCells size m x).run P aP= .ok news.toArray aP
def M8 (d:TypeDesc):Prop:=(∃e,d= .slice e)\/d= .string
theorem adQ {P:Program} {T ea ty e:TypeId} {vT:TypeDesc} {i:TypeInfo} (bb:P.underlying T=some (.slice e)) (hu:P.underlying ea=some vT) (zl:M8 vT) (ai:P.info? e=some i)
  {x:Value} {m:Nat} {news:azi} (IV:Src P w i.size x m news) {b n cap:Nat} {cur:Array Value} {gi:TypeId} {fr:Nat×Nat} {l mid r:azi} (ab:w.heap[b]? =some (.cells cur gi fr)) (bH:pZ fr cur.size)
  (au:cur.toList=l++(mid++r)) (hl:l.length=n*i.size) (hm:mid.length=news.length) (IK:∀v∈news,Value.hO v=true) (ur:n+m<=cap):
  ∃aP,(Builtin.append_ #[T,ea] ty #[.slice (some ⟨b,0,none⟩) n cap,x]).run P w= .ok (.slice (some ⟨b,0,none⟩) (n+m) cap) aP/\aP.heap[b]? =some (.cells (l++(news++r)).toArray gi fr)/\
   (∀c,c≠b->aP.heap[c]? =w.heap[c]?)/\aP.heap.size=w.heap.size/\aP.os=w.os/\aP.tape=w.tape/\Out aP w:=by
 obtain⟨aP,m1,m2⟩:=IJ (P:=P) (b:=b) (o:=n*i.size) (e:=gi) (fr:=fr) news 0 cur w l mid r ab bH au (by omega) hm IK;refine⟨aP,?_,m2⟩;obtain⟨ad,ag⟩:=IV w rfl;rcases zl with⟨hs,rfl⟩|rfl<;>simp[Builtin.append_,run_underlying bb,run_underlying hu,ny ai,ad,ag,ur,Addr.add_lit,m1]
theorem adR {P:Program} {T ea ty e:TypeId} {vT:TypeDesc} {i:TypeInfo} {z:Value} (bb:P.underlying T=some (.slice e)) (hu:P.underlying ea=some vT) (zl:M8 vT) (ai:P.info? e=some i) (cf:i.zero=some z)
  {x:Value} {m:Nat} {news:azi} (IV:Src P w i.size x m news) {base:Option Addr} {n cap:Nat} {sU:azi} (hold:Src P w i.size (.slice base n cap) n sU) (ur:¬n+m<=cap)
  (aV:n+m<=9223372036854775807) (M9:(n+m)*i.bytes<=140737488355328):
  (Builtin.append_ #[T,ea] ty #[.slice base n cap,x]).run P w= .ok (.slice (some ⟨w.heap.size,0,none⟩) (n+m) (grownCap w (n+m) cap e))
   (w.drew.alloc (.cells (sU.toArray++news.toArray++Builtin.zeroCells z.cells (grownCap w (n+m) cap e-(n+m))) e)):=by
 have ad:=(IV w rfl).1;have ag:=(IV w.drew rfl).2;have aD:=(hold w.drew rfl).2;have aw7:=growslice_fits (need:=n+m) (old:=cap) (by omega) M9;have kB:¬(281474976710656<Builtin.nextslicecap (n+m) cap*i.bytes):=by omega
 have IW:∀k (w:World),(askRoom k).run P w= .ok () w:=by
  intro k w;unfold askRoom;split<;>rfl
 have adS:¬(9223372036854775807<(n:Int)+(m:Int)/\i.bytes=0):=by omega
 rcases zl with⟨hs,rfl⟩|rfl<;>
  .simp[Builtin.append_,run_underlying bb,run_underlying hu,ny ai,EH ai,ad,ur,kB,Question.forced,IW];rw[if_neg adS,aD];simp[ag,zd ai cf,newRow,grownCap];have aR:(sU++news).toArray=sU.toArray++news.toArray:=by simp
   rw[aR,Array.append_assoc]
def IX (C:cy) (e ea:TypeId):Bool:=match(C.T ea).k,(C.T e).k with
 | .slice hs,_=>hs==e
 | .str,.int .u8=>true
 |_,_=>false
def vU (C:cy) (s:al) (T ea:TypeId) (x y:I):Option (I×al):=
 match(C.T T).k with
 | .slice e=>if(C.T e).ok=true/\(C.T e).zero.wd=(C.T e).sz/\(flat (C.T e).zero).isSome=true/\IX C e ea=true then
   match(match x with| .bd=>some (I.ae (C.T e).sz [],s)| .h a q=>dJ s (.h a q)|_=>none)with
   |some (.ae sz xs,s1)=>if sz=(C.T e).sz then
     match(match nx x.owner y with
      | .bd=>some ([],s1)
      | .slice c1=>some (c1,s1)
      | .str l=>some (l.map ji,s1)
      | .h a q=>match dJ s1 (.h a q)with
        |some (.ae _ c1,s2)=>some (c1,s2)
        |_=>none
      |_=>none)with
     |some (c1,s2)=>if(∀d∈c1,d.wd=(C.T e).sz)/\(xs.length+c1.length)*(C.T e).bytes<=140737488355328/\xs.length+c1.length<=9223372036854775807 then some (.ae sz (xs++c1),s2)else none
     |none=>none
    else none
   |_=>none
   else none
 |_=>none
theorem bA.append {xs c1:azk} {cx c2:azi} {cO eJ a_:Nat->Prop} (ad:bA w F xs cx cO) (ag:bA w F c1 c2 eJ) (aR:∀b,cO b->a_ b) (aW:∀b,eJ b->a_ b) (aU:∀b,cO b->¬eJ b):bA w F (xs++c1) (cx++c2) a_:=by
 induction xs generalizing cx cO a_ with
 |nil=>rw[bA]at ad;subst ad;exact bA.mono (λ_ h=>h) _ _ _ _ aW ag
 |cons x xs ih=>
  rw[bA]at ad;obtain⟨adT,adU,jq,h9,rfl,g1,g2,g3,g4,g5⟩:=ad;rw[cons_append,bA];refine⟨adT,adU++c2,jq,λb=>h9 b\/eJ b,by simp,g1,ih g2 (λb h=>.inl h) (λb h=>.inr h) (λb h=>aU b (g4 b h)),λb h=>aR b (g3 b h),?_,?_⟩
  .rintro b (h|h)
   .exact aR b (g4 b h)
   .exact aW b h
  .rintro b h (bF|bF)
   .exact g5 b h bF
   .exact aU b (g3 b h) bF
theorem M_ {P:Program} {size m cap:Nat} {b o:Nat} {news:azi} (mB:jD w b o news) (hl:news.length=m*size):Src P w size (.slice (some ⟨b,o,none⟩) m cap) m news:=by
 intro aP hw;refine⟨rfl,?_⟩;refine run_firstCells_some aP size m ⟨b,o,none⟩ m cap news hl (λj v bG=>?_);rw[Addr.add_lit];have:=mB j v bG;simpa [World.cell?,hw]using this
theorem U5 {P:Program} {size cap:Nat}:Src P w size (.slice none 0 cap) 0 []:=by
 intro aP _;exact⟨rfl,by simp[Builtin.firstCells]⟩
theorem Na {P:Program} {size cap:Nat} (a:Option Addr):Src P w size (.slice a 0 cap) 0 []:=by
 cases a with
 |none=>exact U5
 |some a=>
  intro aP _;exact⟨rfl,run_firstCells_some aP size 0 a 0 cap [] (by simp) (λj v bG=>by simp at bG)⟩
theorem adV {P:Program} (l:azc):Src P w 1 (.string ⟨⟨l⟩⟩) l.length (l.map λb=>.int .u8 (b.toNat:Int)):=by
 intro aP _;refine⟨rfl,?_⟩;have:(⟨⟨l⟩⟩:ByteArray).extract 0 l.length=⟨⟨l⟩⟩:=by
  apply ByteArray.ext;simp[ByteArray.data_extract]
 simp[Builtin.firstCells,this]
theorem bA.zm {sz:Nat} {xs:azk} {cs:azi} {a_:Nat->Prop} (h:bA w F xs cs a_) (hw:∀d∈xs,d.wd=sz):cs.length=xs.length*sz:=by
 rw[bA.length _ _ _ h,y9 _ hw]
theorem cj.turn (h:cj w0 F0 X F S s aH w) {aP:World} {b:Nat} (ab:∀c,c≠b->aP.heap[c]? =w.heap[c]?) (aa:aP.heap.size=w.heap.size) (ad:aP.os=w.os) (ag:aP.tape=w.tape) (aD:Out aP w)
  (bJ:¬F b) (cq:∀u,¬S u b) (bc:X b\/w0.heap.size<=b):cj w0 F0 X F S s aH aP where
 h_:=h.h_
 iL:=h.iL
 gg:=λc au=>by rw[aa];exact h.gg c au
 fB:=λt c au=>by rw[aa];exact h.fB t c au
 gN:=h.gN
 gh:=h.gh
 eX:=h.eX
 eu:=λt=>aQ.frame (Sx:=S) (λc au=>ab c (by rintro rfl;exact bJ au)) (λ_ h=>h) (λx c au=>ab c (by rintro rfl;exact cq x au)) h.eu _ _ _ (λc au=>ab c (by rintro rfl;exact cq t au)) (h.eu t)
 old:=λc eN mT=>by
  rw[ab c ?_]
  .exact h.old c eN mT
  .rintro rfl;rcases bc with bc|bc
   .exact mT bc
   .omega
 size:=by rw[aa];exact h.size
 os:=ad.trans h.os
 tape:=ag.trans h.tape
 output:=aD.trans h.output
 gw:=h.gw
theorem adW (bU:C.fK) (h:cj w0 F0 X F S s aH w) {T ea ty:TypeId} {x y:I} {kC lQ:Value} (aq:aQ w F s aH x kC (λ_=>False)) (hy:aQ w F s aH y lQ (λ_=>False))
  (he:vU C s T ea x y=some (av,s1)):Good C w0 F0 X aH w (Builtin.append_ #[T,ea] ty #[kC,lQ]) av s1:=by
 unfold vU at he;split at he
 .rename_i e aw;obtain⟨U6,d,U7,aR,aW,aU,cc,cZ,cv,cd⟩:=bU.info (hF aw (by simp));rw[aw]at cd;have:=oX cd;subst this;split at he
  .rename_i EL;obtain⟨vS,zn,zo,uu⟩:=EL;obtain⟨i,U8,z,f1,f2,f3,f4,f5,f6,f7⟩:=bU.info vS;obtain⟨ig,qJ⟩:=isSome_iff_exists.1 zo;have zp:=f5 ig qJ;have xH:ig.length=(C.T e).sz:=by
    have:=az.length _ _ _ ((az.flat (w:=w) (F:=F) _).1 (C.T e).zero ig (λ_=>False) (Nat.le_refl _) qJ);rw[this,zn]
   obtain⟨vT,hu,zl⟩:∃vT,C.P.underlying ea=some vT/\M8 vT:=by
    unfold IX at uu;split at uu
    .rename_i hs nW;obtain⟨_,bM,_,_,_,_,_,_,g6,g7⟩:=bU.info (hF nW (by simp));rw[nW]at g7;exact⟨bM,g6,.inl ⟨_,oX g7⟩⟩
    .rename_i nW _;obtain⟨_,bM,_,_,_,_,_,_,g6,g7⟩:=bU.info (hF nW (by simp));rw[nW]at g7;exact⟨bM,g6,.inr (ui g7)⟩
    .cases uu
   split at he
   .rename_i sz xs Nb uv;split at he
    .rename_i fa;subst fa;split at he
     .rename_i c1 EW rE;split at he
      .rename_i adX;obtain⟨BJ,M9,zq⟩:=adX;simp only[some.injEq,Prod.mk.injEq]at he;obtain⟨rfl,rfl⟩:=he;obtain⟨jq,a0,Sn,a3,a4,a5,p2,px,Nc,a9,xI⟩:∃jq,cj w0 F0 X F jq Nb aH w/\∃Sn,az w F (.ae (C.T e).sz xs) [kC] Sn/\(∀b,Sn b->b<w.heap.size)/\(∀b,Sn b->¬F b)/\(∀u b,Sn b->¬jq u b)/\
         (∀b,Sn b->X b\/w0.heap.size<=b)/\(∀u b,jq u b->S u b)/\(∀b,Sn b->∃u,S u b)/\aQ w F Nb aH (nx x.owner y) lQ (λ_=>False):=by
        split at uv
        .simp only[some.injEq,Prod.mk.injEq,I.ae.injEq,true_and]at uv;obtain⟨rfl,rfl⟩:=uv;have:=xE aq;subst this;exact⟨S,h,λ_=>False,by rw[az];exact .inl ⟨rfl,_,rfl⟩,λ_ h=>h.elim,λ_ h=>h.elim,λ_ _ h=>h.elim,λ_ h=>h.elim,λ_ _ h=>h,λ_ h=>h.elim,hy⟩
        .obtain⟨cO,g0,g1,g2,Sn,g3,g4,g5,g6,g7,g8,g9,g10⟩:=rv h rfl aq uv;rw[ia g2]at g3;exact⟨cO,g0,Sn,g3,g4,g5,g6,g7,g8,g9,g10 _ _ _ hy⟩
        .cases uv
       obtain⟨h9,lR,qK,news,hG,fP,gj,bT,da,dM,sV,cm⟩:∃h9,cj w0 F0 X F h9 EW aH w/\∃qK news,bA w F c1 news qK/\Src C.P w i.size lQ c1.length news/\(∀b,qK b->b<w.heap.size)/\(∀b,qK b->¬F b)/\(∀u b,qK b->¬h9 u b)/\
         (∀b,qK b->X b\/w0.heap.size<=b)/\(∀u b,h9 u b->jq u b)/\(∀b,qK b->∃u,jq u b):=by
        split at rE
        .rename_i zr;simp only[some.injEq,Prod.mk.injEq]at rE;obtain⟨rfl,rfl⟩:=rE;rw[zr]at xI;have:=xE xI;subst this;exact⟨jq,a0,λ_=>False,[],by rw[bA],U5,λ_ h=>h.elim,λ_ h=>h.elim,λ_ _ h=>h.elim,λ_ h=>h.elim,λ_ _ h=>h,λ_ h=>h.elim⟩
        .rename_i fw zr;simp only[some.injEq,Prod.mk.injEq]at rE;obtain⟨rfl,rfl⟩:=rE;rw[zr]at xI;rcases IP xI with⟨rfl,BI,aw8,rfl,_,zh⟩|⟨b,o,cap,fp,adY,rfl,bX,cu,dS,dW,eB,dw⟩
         .exact⟨jq,a0,λ_=>False,[],by rw[bA],Na BI,λ_ h=>h.elim,λ_ h=>h.elim,λ_ _ h=>h.elim,λ_ h=>h.elim,λ_ _ h=>h,λ_ h=>h.elim⟩
         .exact⟨jq,a0,λ_=>False,fp,dw,M_ eB (by rw[f2];exact bA.zm dw BJ),λ_ h=>h.elim,λ_ h=>h.elim,λ_ _ h=>h.elim,λ_ h=>h.elim,λ_ _ h=>h,λ_ h=>h.elim⟩
        .rename_i l zr;simp only[some.injEq,Prod.mk.injEq]at rE;obtain⟨rfl,rfl⟩:=rE;rw[zr]at xI;have:=pt xI;subst this;have IY:l≠[]->i.size=1:=by
          intro hl;cases l with
          |nil=>exact(hl rfl).elim
          |cons b l=>rw[f2,<-BJ (ji b) (by simp)];rfl
         by_cases hl:l=[]
         .subst hl;refine⟨jq,a0,λ_=>False,[],by simp only[map_nil];rw[bA],?_,λ_ h=>h.elim,λ_ h=>h.elim,λ_ _ h=>h.elim,λ_ h=>h.elim,λ_ _ h=>h,λ_ h=>h.elim⟩;intro aP _;exact⟨rfl,by simp[Builtin.firstCells,ByteArray.extract];rfl⟩
         .refine⟨jq,a0,λ_=>False,_,UZ l _,?_,λ_ h=>h.elim,λ_ h=>h.elim,λ_ _ h=>h.elim,λ_ h=>h.elim,λ_ _ h=>h,λ_ h=>h.elim⟩;rw[IY hl,length_map];exact adV l
        .rename_i a q zr;split at rE
         .rename_i aw9 fw s2 bb;simp only[some.injEq,Prod.mk.injEq]at rE;obtain⟨rfl,rfl⟩:=rE;rw[zr]at xI;obtain⟨eJ,g0,g1,g2,qK,g3,g4,g5,g6,g7,g8,g9,g10⟩:=rv a0 rfl xI bb;rw[ia g2,az]at g3;rcases g3 with⟨rfl,adZ,nV⟩|⟨b,cap,cur,gi,fr,a_,nV,bX,cu,dS,dW,eB,dw,kj,fQ,py,kE⟩
          .simp at nV;subst nV;exact⟨eJ,g0,λ_=>False,[],by rw[bA],(Na adZ),λ_ h=>h.elim,λ_ h=>h.elim,λ_ _ h=>h.elim,λ_ h=>h.elim,g8,λ_ h=>h.elim⟩
          .simp at nV;subst nV;refine⟨eJ,g0,a_,_,fQ,M_ (Bv cu _) ?_,λc au=>g4 c (py c au),λc au=>g5 c (py c au),λu c au=>g6 u c (py c au),λc au=>g7 c (py c au),g8,λc au=>g9 c (py c au)⟩;rw[f2];exact bA.zm fQ BJ
         .cases rE
        .cases rE
       have xJ:news.length=c1.length*(C.T e).sz:=bA.zm hG BJ;have rF:∀c,Sn c->¬qK c:=λc ad ag=>by obtain⟨u,hu⟩:=cm c ag;exact p2 u c ad hu
       have kK:∀u c,Sn c->¬h9 u c:=λu c ad ag=>p2 u c ad (sV u c ag);have grow:∀(base:Option Addr) (cap:Nat) (sU:azi) (Sx:Nat->Prop),kC= .slice base xs.length cap->Src C.P w i.size (.slice base xs.length cap) xs.length sU->bA w F xs sU Sx->(∀d∈xs,d.wd=(C.T e).sz)->(∀c,Sx c->Sn c)->¬xs.length+c1.length<=cap->
         Good C w0 F0 X aH w (Builtin.append_ #[T,ea] ty #[kC,lQ]) (.ae (C.T e).sz (xs++c1)) EW:=by
        intro base cap sU Sx M0 hold U9 U_ f_ ur;subst M0;have aS:=adR (ty:=ty) cv hu zl f1 f4 fP hold ur zq (by rw[f3];exact M9);have M6:=grownCap_ge w (xs.length+c1.length) cap e;have M7:=grownCap_le_maxLen w (xs.length+c1.length) cap e (by unfold maxLen;omega);have EX:=bA.zm U9 U_;have ad0:bA w F (xs++c1) (sU++news) (λc=>Sx c\/qK c):=bA.append U9 hG (λ_ h=>.inl h) (λ_ h=>.inr h) (λc ad ag=>rF c (f_ c ad) ag);have ad1:(sU++news).length=(xs++c1).length*(C.T e).sz:=by simp[EX,xJ,Nat.add_mul]
        have oY:=lR.IQ (aP:=w.drew.alloc (.cells (sU.toArray++news.toArray++Builtin.zeroCells z.cells (grownCap w (xs.length+c1.length) cap e-(xs.length+c1.length))) e))
         (sz:=(C.T e).sz) (cap:=grownCap w (xs.length+c1.length) cap e) (xs:=xs++c1) (e:=e) (fr:=(0,0)) (Sn:=λc=>Sx c\/qK c) rfl rfl rfl ⟨rfl,λ_=>le_succ _⟩
         (λo _ ⟨_,ag⟩=>absurd ag (not_lt_zero _)) (by simpa using M6) M7
         (by
          simp only[Array.size_append,List.size_toArray,size_zeroCells,zp,EX,xJ,xH,<-Nat.add_mul];congr 1;omega)
         (by
          intro d ao;rcases mem_append.1 ao with ao|ao
          .exact U_ d ao
          .exact BJ d ao)
         (by
          simp only[Array.toList_append];rw[take_left' ad1];exact ad0)
         (by rintro c (au|au);exact a4 c (f_ c au);exact gj c au) (by rintro c (au|au);exact a5 c (f_ c au);exact bT c au) (by rintro u c (au|au);exact kK u c (f_ c au);exact da u c au) (by rintro c (au|au);exact px c (f_ c au);exact dM c au)
        refine⟨_,_,F,h9,aS,oY.1,?_⟩;have:=oY.2;simpa using this
       rw[az]at a3;rcases a3 with⟨rfl,IZ,nV⟩|⟨b,cap,cur,gi,fr,a_,nV,bX,cu,dS,dW,eB,dw,kj,fQ,py,kE⟩
       .simp at nV;subst nV;by_cases Va:c1=[]
        .subst Va;have Nd:news=[]:=by simpa using xJ
         subst Nd;refine⟨.slice IZ 0 0,w,F,h9,?_,lR,.inr ⟨rfl,rfl,λ_=>False,by simp only[c_,jF];rw[az];exact .inl ⟨rfl,_,rfl⟩,λ_ h=>h.elim,λ_ h=>h.elim,λ_ _ h=>h.elim,λ_ h=>h.elim⟩⟩;obtain⟨ad,ag⟩:=fP w rfl;cases IZ<;>rcases zl with⟨hs,rfl⟩|rfl<;>simp at ad ag<;>simp[Builtin.append_,run_underlying cv,run_underlying hu,ny f1,ad,ag,storeCells]
        .exact grow IZ 0 [] (λ_=>False) rfl (Na IZ) (by rw[bA]) (by simp) (λ_ h=>h.elim) (by
          cases c1 with
          |nil=>exact(Va rfl).elim
          |cons y c1=>simp)
       .simp at nV;subst nV;by_cases ur:xs.length+c1.length<=cap
        ·
         have EX:=bA.zm fQ kj;have hlen:cur.toList.length=cap*(C.T e).sz:=by simp[dw]
         have hle:(xs.length+c1.length)*(C.T e).sz<=cap*(C.T e).sz:=mul_le_mul_right _ ur;rw[Nat.add_mul]at hle;have p1:cur.toList=cur.toList.take (xs.length*(C.T e).sz)++((cur.toList.drop (xs.length*(C.T e).sz)).take news.length++(cur.toList.drop (xs.length*(C.T e).sz)).drop news.length):=by
          rw[take_append_drop,take_append_drop]
         obtain⟨aP,m1,m2,m3,m4,m5,m6,m7⟩:=adQ (ty:=ty) (n:=xs.length) (m:=c1.length) (cap:=cap) cv hu zl f1 fP cu dS.low p1 (by rw[f2];exact EX) (by simp[hlen,xJ];omega) (bA.ze _ _ _ hG) ur;have ad2:=lR.turn m3 m4 m5 m6 m7 (a5 b bX) (λu hu=>kK u b bX hu) (px b bX);have ug:∀c,F c->aP.heap[c]? =w.heap[c]? :=λc au=>m3 c (by rintro rfl;exact a5 _ bX au);refine⟨_,aP,F,h9,m1,ad2,.inr ⟨rfl,rfl,λc=>Sn c\/qK c,?_,?_,?_,?_,?_⟩⟩
         .simp only[c_,jF];rw[az];have Vb:(cur.toList.take (xs.length*(C.T e).sz)++(news++(cur.toList.drop (xs.length*(C.T e).sz)).drop news.length)).toArray.size=cur.size:=by
           have:cur.size=cur.toList.length:=by simp
           rw[this];conv=>rhs;rw[p1]
           simp[hlen,xJ];omega
          refine .inr ⟨b,cap,_,gi,fr,λc=>a_ c\/qK c,by simp,.inl bX,m2,by rw[Vb];exact dS,by simpa using ur,eB,by rw[Vb];exact dw,?_,?_,?_,?_⟩
          .intro d ao;rcases mem_append.1 ao with ao|ao
           .exact kj d ao
           .exact BJ d ao
          .have BE:=bA.frame ug _ _ _ (λc au=>m3 c (by rintro rfl;exact kE au)) fQ;have zc:=bA.frame ug _ _ _ (λc au=>m3 c (by rintro rfl;exact rF _ bX au)) hG;have:((cur.toList.take (xs.length*(C.T e).sz)++(news++(cur.toList.drop (xs.length*(C.T e).sz)).drop news.length)).toArray.toList.take ((xs++c1).length*(C.T e).sz))=cur.toList.take (xs.length*(C.T e).sz)++news:=by
            simp only[];rw[<-append_assoc];exact take_left' (by rw[length_append,EX,xJ,length_append,Nat.add_mul])
           rw[this];exact bA.append BE zc (λ_ h=>.inl h) (λ_ h=>.inr h) (λc ad ag=>rF c (py c ad) ag)
          .rintro c (au|au)
           .exact .inl (py c au)
           .exact .inr au
          .rintro(au|au)
           .exact kE au
           .exact rF b bX au
         .rw[m4];rintro c (au|au);exact a4 c au;exact gj c au
         .rintro c (au|au);exact a5 c au;exact bT c au
         .rintro u c (au|au);exact kK u c au;exact da u c au
         .rintro c (au|au);exact px c au;exact dM c au
        .exact grow (some ⟨b,0,none⟩) cap _ a_ rfl (M_ (Bv cu _) (by rw[f2];exact bA.zm fQ kj)) fQ kj py ur
      .cases he
     .cases he
    .cases he
   .cases he
  .cases he
 .cases he
end
section
variable {C:cy} {w0 w aP:World} {F0 X F:Nat->Prop} {S:Nat->Nat->Prop} {s s1:al} {aH:Nat->Value} {av:I}
theorem cj.ad3 (h:cj w0 F0 X F S s aH w) {x:Nat} {q:azf} {d bM:I} {b:Nat} (ao:I.sub q (s x)=some d) (ax:d.plain=false) (Nf:bM.tree=true) (ad:∀v,ki d v->ki bM v) (aa:∀v,eY d v->eY bM v)
  (ag:∀vs,bM≠.tuple vs) (nu:bM.wd=d.wd) (ab:∀dK a gv,eA w q (s x) (c_ (aH x)) none=some (d,dK,a)->az w F d dK gv->gv b/\az aP F bM dK gv) (ru:∀c,c≠b->aP.heap[c]? =w.heap[c]?) (fa:aP.heap.size=w.heap.size) (MQ:aP.os=w.os)
  (MR:aP.tape=w.tape) (za:Out aP w):∃a_,cj w0 F0 X F a_ (el (js x s) x (I.put q bM (s x))) aH aP:=by
 have bb:=jG ao (.inl ax);have aq:=h.eu x;rw[aQ.dx bb]at aq;obtain⟨dK,a,fj,gv,g0,g1,g2,g3,g4,g5⟩:=ctx q (s x) (c_ (aH x)) (S x) none d aq.2 ao;obtain⟨zb,aF⟩:=ab dK a gv g0 g4;have zs:S x b:=g2 b zb;have ug:∀c,F c->aP.heap[c]? =w.heap[c]? :=λc au=>ru c (by rintro rfl;exact h.gN x _ zs au);have BB:∀c,fj c->c≠b:=λc au e=>g3 c au (e▸zb);have l_:az aP F (I.put q bM (s x)) (c_ (aH x)) (λc=>fj c\/gv c):=by
  rcases g5 with⟨l,r,aR,aW,aU⟩|⟨lR,cur,e,fr,l,r,aR,aW,aU,cc,cZ,cv⟩
  .rw[aR];exact aU aP bM dK gv ug (λc au=>ru c (BB c au)) nu aF (λc au kA=>g3 c kA au)
  .refine cv aP bM dK gv ug (λc au _=>ru c (BB c au)) ?_ nu aF (λc au kA=>g3 c kA au);rw[ru lR (BB lR aW),aU,<-cZ]
 have EA:eY (I.put q bM (s x)) (aH x)/\(I.put q bM (s x)).tree=true:=by
  cases q with
  |nil=>
   simp only[I.sub,some.injEq]at ao;simp only[I.put];exact⟨aa _ (ao▸aq.1),Nf⟩
  |cons k q=>
   refine⟨Ez aq.1 ao ad (λ_=>ag) nu,?_⟩;rcases xB k q bM (s x)with⟨aG,gs,aR,e⟩|⟨aG,gs,aR,e⟩|⟨sz,xs,c1,aR,e⟩|⟨y,z,aR,e⟩|e<;>rw[e]<;>first|rfl|exact bb
 let aE:=el (js x s) x (I.put q bM (s x))
 have iK:∀y,y≠x->(aE y).tree=true->aE y=s y/\aH y=aH y:=λy hy bb=>by
  have e:aE y=ei.cW x (s y):=ll _ _ hy;rw[e]at bb⊢;exact⟨(IB bb).2,rfl⟩
 have oe:(aE x).plain=false->(s x).plain=false/\∀v,eY (s x) v->eY (aE x) v:=by
  intro _;refine⟨?_,λv aF=>?_⟩
  .cases bP:(s x).plain with
   |false=>rfl
   |true=>rw[I.MG _ _ _ bP ao]at ax;cases ax
  .simp only[aE,oV];cases q with
   |nil=>
    simp only[I.sub,some.injEq]at ao;simp only[I.put];exact aa _ (ao▸aF)
   |cons k q=>exact Ez aF ao ad (λ_=>ag) nu
 have both:∀c,(fj c\/gv c)->S x c:=λc au=>au.elim (g1 c) (g2 c);refine⟨hn S x (λc=>fj c\/gv c),?_⟩;constructor;case h_=>exact h.h_
 case iL=>exact h.iL
 case gg=>exact λb ab=>by rw[fa];exact h.gg b ab
 case fB=>
  intro u c ab;rw[fa];simp only[hn]at ab;split at ab
  .exact h.fB x c (both c ab)
  .exact h.fB u c ab
 case gN=>
  intro u c ab;simp only[hn]at ab;split at ab
  .exact h.gN x c (both c ab)
  .exact h.gN u c ab
 case gh=>
  intro u y c eb ab hy;simp only[hn]at ab hy;split at ab
  .rename_i hu;rw[if_neg (λe=>eb (hu.trans e.symm))]at hy;exact h.gh x y c (λe=>eb (hu.trans e)) (both c ab) hy
  .rename_i hu;split at hy
   .exact h.gh u x c hu ab (both c hy)
   .exact h.gh u y c eb ab hy
 case eX=>
  intro u c ab;simp only[hn]at ab;split at ab
  .exact h.eX x c (both c ab)
  .exact h.eX u c ab
 case eu=>
  intro u;by_cases hu:u=x
  .subst hu;rw[oV,Ex];exact(aQ.dx EA.2).2 ⟨EA.1,l_⟩
  .rw[ll _ _ hu,Ey _ _ hu];have eb:∀y c,y≠x->S y c->aP.heap[c]? =w.heap[c]? :=λy c hy au=>ru c (by rintro rfl;exact h.gh y x c hy au zs);refine(aQ.cW iK rfl oe (λy gx d2 hy hE EB=>?_) ug _).1 _ _ _ (Nat.le_refl _) (λc au=>eb u c hu au) (h.eu u);have EC:=h.eu y;rw[aQ.dx (jG hE EB)]at EC;exact IA gx _ _ _ none d2 EC.2 hE (λc au=>eb y c hy au)
 case old=>
  intro c eN mT;rw[ru c ?_]
  .exact h.old c eN mT
  .rintro rfl;rcases h.eX x c zs with bc|bc
   .exact mT bc
   .omega
 case size=>rw[fa];exact h.size
 case os=>exact MQ.trans h.os
 case tape=>exact MR.trans h.tape
 case output=>exact za.trans h.output
 case gw=>exact h.gw
def Vc (P:Program) (t:TypeId):Bool:=match P.info? t with
 |some i=>match i.zero with
  |some (.bool false)=>true
  |_=>false
 |none=>false
def rG (C:cy) (T:TypeId):Bool:=match(C.T T).k with
 | .map sW xK=>match(C.T sW).k with
   | .str=>Vc C.P xK
   |_=>false
 |_=>false
def jT (C:cy) (s:al) (T:TypeId) (x i:I):Option I:=match x,i with
 | .h y q,.str k=>match I.sub q (s y)with
   |some (.ck (.mp m))=>if rG C T=true then some (.bool (kg k m))else none
   |_=>none
 |_,_=>none
def k4 (C:cy) (s:al) (T:TypeId) (x i v:I):Option al:=match x,i,v with
 | .h y q,.str k,.bool b=>match I.sub q (s y)with
   |some (.ck (.mp m))=>if rG C T=true then some (el (js y s) y (I.put q (.ck (.mp (kx k b m))) (s y)))else none
   |_=>none
 |_,_,_=>none
theorem Vd (bU:C.fK) {T:TypeId} (h:rG C T=true):∃sW xK,C.P.underlying T=some (.map sW xK)/\C.P.underlying sW=some .string/\∀w,(zeroValue xK).run C.P w= .ok (.bool false) w:=by
 unfold rG at h;split at h
 .rename_i sW xK aw;split at h
  .rename_i ad;obtain⟨i,d,z,aR,aW,aU,cc,cZ,cv,cd⟩:=bU.info (hF aw (by simp));obtain⟨uk,bM,vN,f1,f2,f3,f4,f5,f6,f7⟩:=bU.info (hF ad (by simp));rw[aw]at cd;rw[ad]at f7;have:=ui f7;subst this;refine⟨sW,xK,?_,f6,λw=>?_⟩
   .rw[cv];cases d<;>simp[og]at cd;rw[cd.1,cd.2]
   .unfold Vc at h;split at h
    .rename_i i2 g1;split at h
     .rename_i g2;exact zd g1 g2 w
     .cases h
    .cases h
  .cases h
 .cases h
theorem Ng (a b:ByteArray):(a==b)=true↔a=b:=by
 constructor
 .intro h;exact ByteArray.ext (eq_of_beq (show(a.data==b.data)=true from h))
 .rintro rfl;show(a.data==a.data)=true;simp
theorem Nh (k:azc) (b:Bool):∀(es:List MapEntry) (m:aza) (i:Nat),es.map (λe=>(e.key,e.val))=m.map (λe=>(.string ⟨⟨e.1⟩⟩,.bool e.2))->
  (Instr.findNow .string (.string ⟨⟨k⟩⟩) es i=some none/\kg k m=false/\kx k b m=m++[(k,b)])\/
  ∃j e,es[j]? =some e/\e.key= .string ⟨⟨k⟩⟩/\Instr.findNow .string (.string ⟨⟨k⟩⟩) es i=some (some (i+j,.bool (kg k m)))/\kx k b m=m.set j (k,b)
 |[],m,i,h=>by
  have:m=[]:=by simpa using h.symm
  subst this;exact .inl ⟨rfl,rfl,rfl⟩
 |e::es,[],i,h=>by simp at h
 |e::es,(dv,gV)::m,i,h=>by
  simp only[map_cons,cons.injEq,Prod.mk.injEq]at h;obtain⟨⟨ad,ag⟩,aD⟩:=h;by_cases aw:dv=k
  .subst aw;refine .inr ⟨0,e,rfl,ad,?_,by simp[kx]⟩;have:(((⟨⟨dv⟩⟩:ByteArray)==⟨⟨dv⟩⟩))=true:=(Ng _ _).2 rfl;simp only[Instr.findNow,ad,ag,Instr.sameNow,kg,this,if_true,Nat.add_zero]
  .have aV:((⟨⟨k⟩⟩:ByteArray)==⟨⟨dv⟩⟩)=false:=by
    refine Bool.eq_false_iff.2 λe=>aw ?_;have:=(Ng _ _).1 e;simp only[ByteArray.mk.injEq,Array.mk.injEq]at this;exact this.symm
   rcases Nh k b es m (i+1) aD with⟨g1,g2,g3⟩|⟨j,hs,g1,g2,g3,g4⟩
   .refine .inl ⟨?_,?_,?_⟩
    .simp only[Instr.findNow,ad,Instr.sameNow,aV];exact g1
    .simp[kg,aw,g2]
    .simp[kx,aw,g3]
   .refine .inr ⟨j+1,hs,g1,g2,?_,?_⟩
    .simp only[Instr.findNow,ad,Instr.sameNow,aV];rw[g3];simp[kg,aw,Nat.add_assoc,Nat.add_comm 1 j]
    .simp[kx,aw,g4]
theorem I0 {P:Program} {sW:TypeId} (aw:P.underlying sW=some .string) (e:Bool) (k:ByteArray) (w:World):(Instr.checkKey e 10000 sW (.string k)).run P w= .ok () w:=by
 unfold Instr.checkKey;simp[run_underlying aw]
theorem Ve (h:cj w0 F0 X F S s aH w) {y:Nat} {q:azf} {m:aza} {v:Value} (aF:aQ w F s aH (.h y q) v (λ_=>False)) (ao:I.sub q (s y)=some (.ck (.mp m))):
  ∃r ms p0,v= .map (some r)/\w.heap[r]? =some (.map ms p0)/\ms.toList.map (λe=>(e.key,e.val))=m.map (λe=>(.string ⟨⟨e.1⟩⟩,.bool e.2))/\
   ∃a,eA w q (s y) (c_ (aH y)) none=some (.ck (.mp m),[.map (some r)],a):=by
 rw[aQ]at aF;obtain⟨dK,a,g1,g2,g3⟩:=aF _ ao rfl;have ad:Value.hO v=true:=g3;rw[ia ad]at g2;have aq:=h.eu y;rw[aQ.dx (jG ao (.inl rfl))]at aq;obtain⟨hk,dI,fj,gv,k0,bX,cu,dS,dW,eB⟩:=ctx q (s y) (c_ (aH y)) (S y) none _ aq.2 ao;rw[k0]at g1;simp only[some.injEq,Prod.mk.injEq,true_and]at g1;obtain⟨rfl,rfl⟩:=g1;rw[az]at dW;obtain⟨r,ms,p0,aR,aW,aU,cc⟩:=dW;rw[aR]at g2 k0;exact⟨r,ms,p0,by simpa using g2,aU,cc,dI,k0⟩
theorem ad4 (bU:C.fK) (h:cj w0 F0 X F S s aH w) {T:TypeId} {x i:I} {kC ry:Value} (aq:aQ w F s aH x kC (λ_=>False)) (ai:aQ w F s aH i ry (λ_=>False)) (he:jT C s T x i=some av):
  Good C w0 F0 X aH w (Instr.lookup T kC ry false) av s:=by
 unfold jT at he;split at he
 .rename_i y q k;split at he
  .rename_i m ao;split at he
   .rename_i ln;simp only[some.injEq]at he;subst he;obtain⟨sW,xK,t1,t2,t3⟩:=Vd bU ln;obtain⟨r,ms,p0,rfl,aW,aU,_⟩:=Ve h aq ao;have:=pt ai;subst this;refine Good.same h (v:=.bool (kg k m)) ?_ rfl (of_bool _);rcases Nh k true ms.toList m 0 aU with⟨g1,g2,_⟩|⟨j,e,_,_,g1,_⟩
    .simp[Instr.lookup,run_underlying t1,getObj,Sem.run,aW,I0 t2,Instr.findKey,run_underlying t2,g1,t3,g2]
    .simp[Instr.lookup,run_underlying t1,getObj,Sem.run,aW,I0 t2,Instr.findKey,run_underlying t2,g1]
   .cases he
  .cases he
 .cases he
theorem ad5 (bU:C.fK) (h:cj w0 F0 X F S s aH w) {T:TypeId} {x i v:I} {kC ry Vf:Value} (aq:aQ w F s aH x kC (λ_=>False)) (ai:aQ w F s aH i ry (λ_=>False)) (aF:aQ w F s aH v Vf (λ_=>False)) {s2:al}
  (he:k4 C s T x i v=some s2):∃aP a_,(Instr.mapUpdate T kC ry Vf).run C.P w= .ok () aP/\cj w0 F0 X F a_ s2 aH aP:=by
 unfold k4 at he;split at he
 .rename_i y q k b;split at he
  .rename_i m ao;split at he
   .rename_i ln;simp only[some.injEq]at he;subst he;obtain⟨sW,xK,t1,t2,t3⟩:=Vd bU ln;obtain⟨r,ms,p0,rfl,aW,aU,a0,nw⟩:=Ve h aq ao;have:=pt ai;subst this;have:=xD aF;subst this;have key:∀(I1:Array MapEntry) (Ni:Nat),I1.toList.map (λe=>(e.key,e.val))=(kx k b m).map (λe=>(.string ⟨⟨e.1⟩⟩,.bool e.2))->
      ∃a_,cj w0 F0 X F a_ (el (js y s) y (I.put q (.ck (.mp (kx k b m))) (s y))) aH {w with heap:=w.heap.setIfInBounds r (.map I1 Ni)}:=by
     intro I1 Ni hm;have aS:r<w.heap.size:=(Array.getElem?_eq_some_iff.1 aW).1;refine cj.ad3 (b:=r) h ao rfl rfl (λv aF=>aF) (λv aF=>aF) (λvs e=>by cases e) rfl ?_ (λc au=>?_) (by simp) rfl rfl ⟨rfl,λ_=>Nat.le_refl _⟩
     .intro dK a gv bH ie;rw[nw]at bH;simp only[some.injEq,Prod.mk.injEq,true_and]at bH;obtain⟨rfl,_⟩:=bH;rw[az]at ie⊢;obtain⟨hW,xL,aw_,f1,f2,f3,f4⟩:=ie;simp only[cons.injEq,Value.map.injEq,some.injEq,and_true]at f1;subst f1;exact⟨f2,r,I1,Ni,rfl,f2,by simp[aS],hm⟩
     .simp[Ne.symm au]
    rcases Nh k b ms.toList m 0 aU with⟨g1,_,g2⟩|⟨j,e,g0,ge,g1,g2⟩
    .obtain⟨a_,bX⟩:=key (ms.push {key:=.string ⟨⟨k⟩⟩,val:=.bool b,born:=p0}) (p0+1) (by rw[g2];simp[aU]);exact⟨_,a_,by simp[Instr.mapUpdate,run_underlying t1,getObj,setObj,Sem.run,aW,I0 t2,Instr.findKey,run_underlying t2,g1],bX⟩
    .rw[Nat.zero_add]at g1;obtain⟨a_,bX⟩:=key (ms.modify j λe=>{e with key:=.string ⟨⟨k⟩⟩,val:=.bool b}) p0 (by
      rw[g2,map_set,<-aU];apply ext_getElem?;intro n;by_cases aV:n=j
      .subst aV;have:n<ms.toList.length:=(List.getElem?_eq_some_iff.1 g0).1;rw[getElem?_set_self (by simpa using this)];simp[g0]
      .simp[getElem?_set_ne (Ne.symm aV),Ne.symm aV])
     have ad6:ms[j]? =some e:=by simpa using g0
     exact⟨_,a_,by simp[Instr.mapUpdate,run_underlying t1,getObj,setObj,Sem.run,aW,I0 t2,Instr.findKey,run_underlying t2,g1,ad6,ge,Instr.keyThatStays,Instr.sameBits,(Ng ⟨⟨k⟩⟩ ⟨⟨k⟩⟩).2 rfl],bX⟩
   .cases he
  .cases he
 .cases he
theorem ad7 (h:cj w0 F0 X F S s aH w) (t:TypeId):Good C w0 F0 X aH w (Instr.makeMap t none) (.ck (.mp [])) s:=by
 have hold:∀b,b<w.heap.size->(w.alloc (.map #[] 0)).heap[b]? =w.heap[b]? :=by
  intro b ab;show(w.heap.push _)[b]? =_;rw[Array.getElem?_push,if_neg (by omega)]
 refine⟨.map (some w.heap.size),w.alloc (.map #[] 0),F,S,?_,h.grow hold (by simp) rfl rfl ⟨rfl,λ_=>Nat.le_refl _⟩,.inr ⟨rfl,rfl,λb=>b=w.heap.size,?_,?_,?_,?_,?_⟩⟩
 .simp[Instr.makeMap,newObj,Sem.run]
 .rw[az];refine⟨w.heap.size,#[],0,rfl,rfl,?_,rfl⟩;show(w.heap.push _)[_]? =_;simp
 .rintro b rfl;simp
 .rintro b rfl vP;exact Nat.lt_irrefl _ (h.gg _ vP)
 .rintro u b rfl hu;exact Nat.lt_irrefl _ (h.fB _ _ hu)
 .rintro b rfl;exact .inr h.size
end
end Go.ei
