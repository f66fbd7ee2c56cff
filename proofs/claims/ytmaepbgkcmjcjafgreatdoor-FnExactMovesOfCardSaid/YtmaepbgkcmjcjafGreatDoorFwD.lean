/- Part of a proof that a law returns true for every input. No condition. -/
import Derived.Test.YtmaepbgkcmjcjafGreatDoorFwC
import Derived.Test.YtmaepbgkcmjcjafGreatDoorFwA
import Derived.Laws.IdiomStrings
import Derived.Laws.Strings
import Derived.LaidEql
import Derived.WideLaws
import Derived.Laws.StructEq
namespace Go.eg
open List Option Nat
section
variable {C:cm} {w0 w:World} {F0 X F:Nat->Prop} {S:Nat->Nat->Prop} {s s1:ak} {aI:Nat->Value} {av:I}
theorem qf {k:IntKind} {n:Int} {v:Value} {a7:Nat->Prop} (h:aO w F s aI (.int k n) v a7):v= .int k n:=by
 have bC:=(aO.dh rfl).1 h;rw[aB,h4 bC.1]at bC;simpa using bC.2
theorem w4 {b:Bool} {v:Value} {a7:Nat->Prop} (h:aO w F s aI (.bool b) v a7):v= .bool b:=by
 have bC:=(aO.dh rfl).1 h;rw[aB,h4 bC.1]at bC;simpa using bC.2
theorem o9 {b:ayc} {v:Value} {a7:Nat->Prop} (h:aO w F s aI (.str b) v a7):v= .string ⟨⟨b⟩⟩:=by
 have bC:=(aO.dh rfl).1 h;rw[aB,h4 bC.1]at bC;simpa using bC.2
theorem TQ {v:Value} {a7:Nat->Prop} (h:aO w F s aI .er v a7):v= .pointer none:=by
 have bC:=(aO.dh rfl).1 h;rw[aB,h4 bC.1]at bC;simpa using bC.2
theorem w5 {v:Value} {a7:Nat->Prop} (h:aO w F s aI .bg v a7):v= .slice none 0 0:=by
 have bC:=(aO.dh rfl).1 h;rw[aB,h4 bC.1]at bC;simpa using bC.2
theorem TR {v:Value} {a7:Nat->Prop} (h:aO w F s aI .gn v a7):∃b,v= .bool b:=by
 have bC:=(aO.dh rfl).1 h;rw[aB,h4 bC.1]at bC;simpa using bC.2
theorem of_int (k:IntKind) (n:Int):aO w F s aI (.int k n) (.int k n) (λ_=>False):=(aO.dh rfl).2 ⟨rfl,by rw[aB];rfl⟩
theorem of_bool (b:Bool):aO w F s aI (.bool b) (.bool b) (λ_=>False):=(aO.dh rfl).2 ⟨rfl,by rw[aB];rfl⟩
theorem sd (b:ayc):aO w F s aI (.str b) (.string ⟨⟨b⟩⟩) (λ_=>False):=(aO.dh rfl).2 ⟨rfl,by rw[aB];rfl⟩
theorem Mm (b:Bool):aO w F s aI .gn (.bool b) (λ_=>False):=(aO.dh rfl).2 ⟨rfl,by rw[aB];exact⟨b,rfl⟩⟩
def kS (op:BinOp) (k:IntKind) (a:Int) (di:IntKind) (b:Int):Option I:=
 match op with
 | .shl=>if b<0 then none else some (.int k (k.wrap (a*2^(min b.toNat k.bits))))
 | .shr=>if b<0 then none else some (.int k (a.fdiv (2^(min b.toNat k.bits))))
 | .add=>if k=di then some (.int k (k.wrap (a+b)))else none
 | .sub=>if k=di then some (.int k (k.wrap (a-b)))else none
 | .mul=>if k=di then some (.int k (k.wrap (a*b)))else none
 | .quo=>if k=di/\b≠0 then some (.int k (k.wrap (a.tdiv b)))else none
 | .rem=>if k=di/\b≠0 then some (.int k (a.tmod b))else none
 | .eql=>if k=di then some (.bool (a==b))else none
 | .neq=>if k=di then some (.bool (a !=b))else none
 | .lss=>if k=di then some (.bool (decide (a<b)))else none
 | .leq=>if k=di then some (.bool (decide (a<=b)))else none
 | .gtr=>if k=di then some (.bool (decide (b<a)))else none
 | .geq=>if k=di then some (.bool (decide (b<=a)))else none
 | .and=>if k=di then some (.int k (bitsOf .and k a b))else none
 | .or=>if k=di then some (.int k (bitsOf .or k a b))else none
 | .xor=>if k=di then some (.int k (bitsOf .xor k a b))else none
 | .andNot=>if k=di then some (.int k (bitsOf .andNot k a b))else none
def qg (op:BinOp) (a b:ayc):Option I:=
 match op with
 | .add=>if a.length+b.length<=9223372036854775807 then some (.str (a++b))else none
 | .eql=>some (.bool (a==b))
 | .neq=>some (.bool !(a==b))
 | .lss=>some (.bool (Op.bytesLess a b))
 | .leq=>some (.bool (Op.bytesLess a b||a==b))
 | .gtr=>some (.bool !(Op.bytesLess a b||a==b))
 | .geq=>some (.bool !(Op.bytesLess a b))
 |_=>none
def l1 (s:ak):I->Option ayg
 | .bg=>some (some true)
 | .slice xs=>some (if xs=[]then none else some false)
 | .h x q=>match I.sub q (s x)with
   |some (.ag _ xs)=>some (if xs=[]then none else some false)
   |_=>none
 |_=>none
def n3 (s:ak):I->ayg
 | .er=>some true
 | .ref _=>some false
 | .h x q=>match I.sub q (s x)with
   |some (.aS _)=>some false
   |_=>none
 |_=>none
def se (neg:Bool):ayg->I
 |some b=>.bool (b !=neg)
 |none=>.gn
def structEq (P:Program) (T:TypeId):Bool:= !P.stoodInHeld T&& !P.eqGuardType P.depth T&&(P.fieldsOf T).toList.all λf=>decide (f.name≠ "_")
def qW (C:cm):List (TypeId×Nat)->Nat->ayk->ayk->ayg
 |[],_,[],[]=>some true
 |(lZ,off)::aF,n,d::ds,e::es=>if off=n then(match(C.T lZ).k,d,e with
  | .int k,.int bS a,.int ct b=>if bS=k/\ct=k then(qW C aF (n+1) ds es).map λr=>a==b&&r else none
  | .bool,.bool a,.bool b=>(qW C aF (n+1) ds es).map λr=>a==b&&r
  | .str,.str a,.str b=>(qW C aF (n+1) ds es).map λr=>a==b&&r
  |_,_,_=>none)else none
 |_,_,_,_=>none
def eL (C:cm) (s:ak) (op:BinOp) (T:TypeId) (x y:I):Option I:=
 match x,y with
 | .int k a,.int di b=>kS op k a di b
 | .str a,.str b=>qg op a b
 | .bool a,.bool b=>match op,(C.T T).k with
   | .eql,.bool=>some (.bool (a==b))
   | .neq,.bool=>some (.bool !(a==b))
   |_,_=>none
 | .agg ds,.agg es=>match op,(C.T T).k with
   | .eql,.struct aF=>if structEq C.P T=true then(qW C aF 0 ds es).map λb=>.bool b else none
   | .neq,.struct aF=>if structEq C.P T=true then(qW C aF 0 ds es).map λb=>.bool !b else none
   |_,_=>none
 |x,.bg=>match op,(C.T T).k with
  | .eql,.slice _=>(l1 s x).map (se false)
  | .neq,.slice _=>(l1 s x).map (se true)
  |_,_=>none
 |x,.er=>match op,(C.T T).k with
  | .eql,.ptr _=>(n3 s x).map λb=>.bool b
  | .neq,.ptr _=>(n3 s x).map λb=>.bool !b
  |_,_=>none
 |_,_=>none
theorem acN {P:Program} {op:BinOp} {T:TypeId} {k di:IntKind} {a b:Int} (he:kS op k a di b=some av) (w:World):
  ∃v,(binOp op T (.int k a) (.int di b)).run P w= .ok v w/\aO w F s aI av v (λ_=>False):=by
 unfold kS at he;cases op<;>simp only at he<;>split at he<;>first|(cases he;done)|skip
 all_goals
  rename_i ar;simp only[some.injEq]at he;subst he
 all_goals first
  |(subst ar;simp only[binOp_add,binOp_sub,binOp_mul,binOp_eql,binOp_neq,binOp_lss,binOp_leq,binOp_gtr,binOp_geq,binOp_and,binOp_or,binOp_xor,binOp_andNot,Op.intArith,Op.intBits,Sem.run_pure,Result.ok.injEq,and_true,exists_eq_left']
    first|exact of_int _ _|exact of_bool _)
  |(obtain⟨rfl,a_⟩:=ar
    simp only[binOp_quo,binOp_rem,Op.intDiv,a_,if_false,Sem.run_pure,Result.ok.injEq,and_true,exists_eq_left'];exact of_int _ _)
  |(simp only[binOp_shl,binOp_shr,Op.shift,ar,if_false,Sem.run_pure,Result.ok.injEq,and_true,exists_eq_left']
    exact of_int _ _)
theorem D3 (a:ayc):(⟨⟨a⟩⟩:ByteArray).toList=a:=ByteArray.toList_eq _
theorem acO (a b:ayc):(⟨⟨a⟩⟩:ByteArray)++(⟨⟨b⟩⟩:ByteArray)=⟨⟨a++b⟩⟩:=by
 apply ByteArray.ext;simp[ByteArray.data_append]
theorem acP {P:Program} {op:BinOp} {T:TypeId} {a b:ayc} (he:qg op a b=some av) (w:World):
  ∃v,(binOp op T (.string ⟨⟨a⟩⟩) (.string ⟨⟨b⟩⟩)).run P w= .ok v w/\aO w F s aI av v (λ_=>False):=by
 have aa:∀op,binOp op T (.string ⟨⟨a⟩⟩) (.string ⟨⟨b⟩⟩)=Op.stringOp op ⟨⟨a⟩⟩ ⟨⟨b⟩⟩:=by intro op;cases op<;>rfl
 rw[aa];unfold qg at he;cases op<;>simp only[some.injEq]at he<;>first|(cases he;done)|skip
 case add=>
  split at he
  .rename_i hl;simp only[some.injEq]at he;subst he;have ab:((ByteArray.size ⟨⟨a⟩⟩+ByteArray.size ⟨⟨b⟩⟩:Nat):Int)<=9223372036854775807:=by
    show((a.length+b.length:Nat):Int)<=_;omega
   refine⟨.string ⟨⟨a++b⟩⟩,?_,sd _⟩;simp only[Op.stringOp,IntKind.max_i64];rw[if_neg (by omega),acO];rfl
  .cases he
 all_goals
  subst he;simp only[Op.stringOp,D3,Sem.run_pure,Result.ok.injEq,and_true,exists_eq_left'];exact of_bool _
theorem Mn (h:cb w0 F0 X F S s aI w) {v:Value} {y:Nat} {q:ayf} (aJ:aO w F s aI (.h y q) v (λ_=>False)) {sz:Nat} {xs:ayk} (an:I.sub q (s y)=some (.ag sz xs)):
  (xs=[]/\∃a,v= .slice a 0 0)\/∃b cap cur e fr,v= .slice (some ⟨b,0,none⟩) xs.length cap/\w.heap[b]? =some (.cells cur e fr)/\pF fr cur.size/\xs.length<=cap/\cap<=maxLen/\cur.size=cap*sz/\(∀d∈xs,d.wd=sz)/\
   ∃a7,bt w F xs (cur.toList.take (xs.length*sz)) a7/\(∀c,a7 c->S y c)/\S y b:=by
 rw[aO]at aJ;obtain⟨dx,a,g1,g2,g3⟩:=aJ _ an rfl;have ab:Value.hF v=true:=g3;rw[h4 ab]at g2;subst g2;have ao:=h.el y;rw[aO.dh (jy an (.inl rfl))]at ao;obtain⟨hb,dt,fi,gp,k0,bS,ct,dT,ed,eQ⟩:=ctx q (s y) (cT (aI y)) (S y) none _ ao.2 an;rw[k0]at g1;simp only[some.injEq,Prod.mk.injEq,true_and]at g1;obtain⟨rfl,rfl⟩:=g1;rw[aB]at ed;rcases ed with⟨rfl,a2,af⟩|⟨b,cap,cur,aY,fr,eF,aU,b4,cM,cl,b9,fJ,jl,iD,kn,dd,dz⟩
 .simp at af;exact .inl ⟨rfl,_,af⟩
 .simp at aU;exact .inr ⟨b,cap,cur,aY,fr,aU,cM,cl.low,b9,fJ,jl,iD,eF,kn,λc ar=>ct _ (dd c ar),ct _ b4⟩
theorem TS (h:cb w0 F0 X F S s aI w) {v:Value} {y:Nat} {q:ayf} (aJ:aO w F s aI (.h y q) v (λ_=>False)) {d:I} (an:I.sub q (s y)=some (.aS d)):
  ∃b cur e fr,v= .pointer (some ⟨b,0,none⟩)/\w.heap[b]? =some (.cells cur e fr):=by
 rw[aO]at aJ;obtain⟨dx,a,g1,g2,g3⟩:=aJ _ an rfl;have ab:Value.hF v=true:=g3;rw[h4 ab]at g2;subst g2;have ao:=h.el y;rw[aO.dh (jy an (.inl rfl))]at ao;obtain⟨hb,dt,fi,gp,k0,bS,ct,dT,ed,eQ⟩:=ctx q (s y) (cT (aI y)) (S y) none _ ao.2 an;rw[k0]at g1;simp only[some.injEq,Prod.mk.injEq,true_and]at g1;obtain⟨rfl,rfl⟩:=g1;rw[aB]at ed;obtain⟨b,cur,aY,fr,eF,aU,b4,cM,_⟩:=ed;simp at aU;exact⟨b,cur,aY,fr,aU,cM⟩
theorem TT {P:Program} {T e:TypeId} (ba:P.underlying T=some (.slice e)) (w:World):∀d,(Op.equalIn (d+1) T (.slice none 0 0) (.slice none 0 0)).run P w= .ok true w/\
  ∀a n c,(Op.equalIn (d+1) T (.slice (some a) n c) (.slice none 0 0)).run P w= .ok false w:=by
 intro d;refine⟨by simp[Op.equalIn,run_underlying ba],λa n c=>by simp[Op.equalIn,run_underlying ba]⟩
theorem TU {P:Program} {T e:TypeId} (ba:P.underlying T=some (.pointer e)) (w:World):∀d,(Op.equalIn (d+1) T (.pointer none) (.pointer none)).run P w= .ok true w/\
  ∀a,(Op.equalIn (d+1) T (.pointer (some a)) (.pointer none)).run P w= .ok false w:=by
 intro d;refine⟨by simp[Op.equalIn,run_underlying ba],λa=>by simp[Op.equalIn,run_underlying ba]⟩
theorem TV {P:Program} {T:TypeId} (ba:P.underlying T=some .bool) (w:World):∀d a b,(Op.equalIn (d+1) T (.bool a) (.bool b)).run P w= .ok (a==b) w:=by
 intro d a b;simp[Op.equalIn,run_underlying ba]
theorem TW (h:cb w0 F0 X F S s aI w) {x:I} {v:Value} (aJ:aO w F s aI x v (λ_=>False)) {T e:TypeId} {r:ayg} (aQ:l1 s x=some r) (ba:C.P.underlying T=some (.slice e)):
  ∃b,(Op.equal T v (.slice none 0 0)).run C.P w= .ok b w/\(∀gL,r=some gL->gL=b)/\Value.hF v=true/\∃a n c,v= .slice a n c:=by
 have aP:=λa n c=>(TT ba w 9999).2 a n c;have gb:=(TT ba w 9999).1;cases x with
 |bg=>
  have:=w5 aJ;subst this;simp[l1]at aQ;subst aQ;exact⟨true,gb,by simp,rfl,_,_,_,rfl⟩
 |slice xs=>
  have bC:=(aO.dh rfl).1 aJ;rw[aB,h4 bC.1]at bC;simp only[l1,some.injEq]at aQ;obtain⟨_,⟨rfl,a,c,af,_,yE⟩|⟨b,o,cap,fo,sz,af,aG⟩⟩:=bC
  .simp at af aQ;subst af;subst aQ;cases a with
   |none=>
    have:=yE rfl;subst this;exact⟨true,gb,by simp,rfl,_,_,_,rfl⟩
   |some a=>exact⟨false,aP _ _ _,by simp,rfl,_,_,_,rfl⟩
  .simp at af;subst af;refine⟨false,aP _ _ _,?_,rfl,_,_,_,rfl⟩;subst aQ;split<;>simp
 |h y q=>
  simp only[l1]at aQ;split at aQ
  .rename_i sz xs an;simp only[some.injEq]at aQ;rcases Mn h aJ an with⟨rfl,a,rfl⟩|⟨b,cap,cur,aY,fr,rfl,_⟩
   .simp at aQ;subst aQ;cases a with
    |none=>exact⟨true,gb,by simp,rfl,_,_,_,rfl⟩
    |some a=>exact⟨false,aP _ _ _,by simp,rfl,_,_,_,rfl⟩
   .refine⟨false,aP _ _ _,?_,rfl,_,_,_,rfl⟩;subst aQ;split<;>simp
  .cases aQ
 |_=>simp[l1]at aQ
theorem TX (h:cb w0 F0 X F S s aI w) {x:I} {v:Value} (aJ:aO w F s aI x v (λ_=>False)) {T e:TypeId} {r:Bool} (aQ:n3 s x=some r) (ba:C.P.underlying T=some (.pointer e)):
  (Op.equal T v (.pointer none)).run C.P w= .ok r w/\∃a,v= .pointer a:=by
 have aP:=λa=>(TU ba w 9999).2 a;have gb:=(TU ba w 9999).1;cases x with
 |er=>
  have:=TQ aJ;subst this;simp[n3]at aQ;subst aQ;exact⟨gb,_,rfl⟩
 |ref d=>
  have bC:=(aO.dh rfl).1 aJ;rw[aB,h4 bC.1]at bC;simp[n3]at aQ;subst aQ;obtain⟨_,b,o,fo,af,_⟩:=bC;simp at af;subst af;exact⟨aP _,_,rfl⟩
 |h y q=>
  simp only[n3]at aQ;split at aQ
  .rename_i d an;simp only[some.injEq]at aQ;subst aQ;obtain⟨b,cur,e,fr,rfl,_⟩:=TS h aJ an;exact⟨aP _,_,rfl⟩
  .cases aQ
 |_=>simp[n3]at aQ
theorem acQ (bP:C.fH):∀(aF:List (TypeId×Nat)) (gs:List Field) (n:Nat) (ds es:ayk) (r:Bool) (h5 l2 cr c2:ayi) (xs cP:Array Value) (cI eF:Nat->Prop),
  gs.map (λg=>(g.type,g.offset))=aF->(gs.all λf=>decide (f.name≠ "_"))=true->qW C aF n ds es=some r->bt w F ds cr cI->bt w F es c2 eF->xs.toList=h5++cr->h5.length=n->cP.toList=l2++c2->l2.length=n->
  ∀m,(Op.eqFields (m+1) xs cP gs).run C.P w= .ok r w:=by
 intro aF;induction aF with
 |nil=>
  intro gs n ds es r h5 l2 cr c2 xs cP cI eF hg aV he ad af ao hl hy H2 m;have:gs=[]:=by simpa using hg
  subst this;cases ds<;>cases es<;>simp[qW]at he;subst he;simp[Op.eqFields]
 |cons p aF ih=>
  obtain⟨lZ,off⟩:=p;intro gs n ds es r h5 l2 cr c2 xs cP cI eF hg aV he ad af ao hl hy H2 m;cases gs with
  |nil=>simp at hg
  |cons g gs=>
   simp only[map_cons,cons.injEq,Prod.mk.injEq]at hg;obtain⟨⟨rfl,rfl⟩,hg⟩:=hg;simp only[all_cons,Bool.and_eq_true,decide_eq_true_eq]at aV;cases ds with
   |nil=>simp[qW]at he
   |cons d ds=>
   cases es with
   |nil=>simp[qW]at he
   |cons e es=>
   simp only[qW]at he;split at he
   .rename_i tD;rw[bt]at ad af;obtain⟨J,a2,o_,AP,rfl,gT,iO,j2,TY,ho⟩:=ad;obtain⟨hA,fV,awa,acR,rfl,gU,gy,iE,i7,qX⟩:=af;have step:∀(x y:Value) (z:Bool),(C.T g.type).flat=true->J=[x]->hA=[y]->(∀m,(Op.equalIn (m+1) g.type x y).run C.P w= .ok z w)->∀hN,qW C aF (n+1) ds es=some hN->
      (Op.eqFields (m+1) xs cP (g::gs)).run C.P w= .ok (z&&hN) w:=by
     intro x y z kl acS acT heq hN fw;subst acS;subst acT;have ni:xs[g.offset]? =some x:=by
      rw[<-Array.getElem?_toList,ao,tD,<-hl,getElem?_append_right (Nat.le_refl _)];simp
     have tF:cP[g.offset]? =some y:=by
      rw[<-Array.getElem?_toList,hy,tD,<-H2,getElem?_append_right (Nat.le_refl _)];simp
     have aj:=ih gs (n+1) ds es hN (h5++[x]) (l2++[y]) a2 fV xs cP AP acR hg aV.2 fw iO gy (by rw[ao];simp) (by simp[hl]) (by rw[hy];simp) (by simp[H2]) m;unfold Op.eqFields;rw[if_pos aV.1];simp only[part,Sem.run_bind,Mk bP kl,Result.andThen_ok,Bool.false_eq_true,if_false,ni,tF,Sem.run_pure,heq];cases z
     .simp
     .simpa using aj
    split at he
    .rename_i k bS a ct b au;split at he
     .rename_i acU;obtain⟨rfl,rfl⟩:=acU;rw[aB]at gT gU;simp only[map_eq_some_iff]at he;obtain⟨hN,fw,rfl⟩:=he;obtain⟨i,D4,TZ,aP,aY,aU,b4,cM,cl,b9⟩:=bP.info (hz au (by simp));rw[au]at b9;have yF:=HU b9;subst yF;exact step _ _ _ (by simp[hG.flat,au]) gT gU (λm=>run_equalIn_int w m g.type _ _ a b cl) hN fw
     .cases he
    .rename_i a b au;rw[aB]at gT gU;simp only[map_eq_some_iff]at he;obtain⟨hN,fw,rfl⟩:=he;obtain⟨i,D4,TZ,aP,aY,aU,b4,cM,cl,b9⟩:=bP.info (hz au (by simp));rw[au]at b9;have yF:=Mf b9;subst yF;exact step _ _ _ (by simp[hG.flat,au]) gT gU (λm=>run_equalIn_bool' w m g.type a b cl) hN fw
    .rename_i a b au;rw[aB]at gT gU;simp only[map_eq_some_iff]at he;obtain⟨hN,fw,rfl⟩:=he;obtain⟨i,D4,TZ,aP,aY,aU,b4,cM,cl,b9⟩:=bP.info (hz au (by simp));rw[au]at b9;have yF:=tB b9;subst yF;refine step _ _ (a==b) (by simp[hG.flat,au]) gT gU (λm=>?_) hN fw;rw[run_equalIn_string w m g.type _ _ cl,D3,D3]
    .cases he
   .cases he
theorem T0 (bP:C.fH) {T:TypeId} {aF:List (TypeId×Nat)} (au:(C.T T).k= .struct aF) {ds es:ayk} {km lI:Value} {cI eF:Nat->Prop} {r:Bool} (ao:aO w F s aI (.agg ds) km cI) (hy:aO w F s aI (.agg es) lI eF)
  (cy:structEq C.P T=true) (he:qW C aF 0 ds es=some r) (op:BinOp) (D5 D6:Operand):
  (eqGuard op T D5 D6 km lI).run C.P w= .ok () w/\(Op.equal T km lI).run C.P w= .ok r w:=by
 obtain⟨i,d,z,aP,aY,aU,b4,cM,cl,b9⟩:=bP.info (hz au (by simp));rw[au]at b9;obtain⟨gs,rfl,fJ⟩:=DX b9;have D7:C.P.fieldsOf T=gs:=by simp[Program.fieldsOf,cl]
 simp only[structEq,Bool.and_eq_true,Bool.not_eq_true',D7]at cy;obtain⟨⟨gU,gy⟩,iE⟩:=cy;obtain⟨⟨xs,rfl⟩,AQ⟩:=(aO.dh rfl).1 ao;obtain⟨⟨cP,rfl⟩,yz⟩:=(aO.dh rfl).1 hy;rw[aB]at AQ yz;constructor
 .cases op<;>simp[eqGuard,gy]
 .show(Op.equalIn (9999+1) T _ _).run C.P w=_;rw[run_equalIn_struct w 9999 T xs cP (by rw[D7];exact cl) gU,D7];exact acQ bP aF gs.toList 0 ds es r [] [] _ _ xs cP cI eF fJ iE he AQ yz rfl rfl rfl rfl 9998
theorem acV (bP:C.fH) (h:cb w0 F0 X F S s aI w) {op:BinOp} {T:TypeId} {x y:I} {km lI:Value} (D5 D6:Operand) (ao:aO w F s aI x km (λ_=>False)) (hy:aO w F s aI y lI (λ_=>False))
  (he:eL C s op T x y=some av):Good C w0 F0 X aI w (do eqGuard op T D5 D6 km lI;binOp op T km lI) av s:=by
 unfold eL at he;split at he
 .have:=qf ao;subst this;have:=qf hy;subst this;obtain⟨v,ad,af⟩:=acN (P:=C.P) (T:=T) he w;refine Good.same h (v:=v) ?_ ?_ af
  .rw[eqGuard_at_int];exact ad
  .revert he;unfold kS;cases op<;>simp only<;>split<;>simp<;>(rintro rfl;rfl)
 .have:=o9 ao;subst this;have:=o9 hy;subst this;obtain⟨v,ad,af⟩:=acP (P:=C.P) (T:=T) he w;refine Good.same h (v:=v) ?_ ?_ af
  .rw[eqGuard_at_string];exact ad
  .revert he;unfold qg;cases op<;>simp only<;>(try split)<;>simp<;>(try (rintro rfl;rfl))
 .have:=w4 ao;subst this;have:=w4 hy;subst this;split at he
  .rename_i au;simp only[some.injEq]at he;subst he;obtain⟨i,d,z,aP,aY,aU,b4,cM,cl,b9⟩:=bP.info (hz au (by simp));rw[au]at b9;have:=Mf b9;subst this;refine Good.same h ?_ rfl (of_bool _);rw[eqGuard_at_bool];simp[binOp,Op.equal,Op.maxDepth,TV cl w 9999]
  .rename_i au;simp only[some.injEq]at he;subst he;obtain⟨i,d,z,aP,aY,aU,b4,cM,cl,b9⟩:=bP.info (hz au (by simp));rw[au]at b9;have:=Mf b9;subst this;refine Good.same h ?_ rfl (of_bool _);rw[eqGuard_at_bool];simp[binOp,Op.equal,Op.maxDepth,TV cl w 9999]
  .cases he
 .split at he
  .rename_i aF au;split at he
   .rename_i cy;simp only[map_eq_some_iff]at he;obtain⟨r,aQ,rfl⟩:=he;obtain⟨g1,g2⟩:=T0 bP au ao hy cy aQ .eql D5 D6;obtain⟨⟨xs,rfl⟩,_⟩:=(aO.dh rfl).1 ao;obtain⟨⟨cP,rfl⟩,_⟩:=(aO.dh rfl).1 hy;exact Good.same h (by simp[g1,binOp,g2]) rfl (of_bool _)
   .cases he
  .rename_i aF au;split at he
   .rename_i cy;simp only[map_eq_some_iff]at he;obtain⟨r,aQ,rfl⟩:=he;obtain⟨g1,g2⟩:=T0 bP au ao hy cy aQ .neq D5 D6;obtain⟨⟨xs,rfl⟩,_⟩:=(aO.dh rfl).1 ao;obtain⟨⟨cP,rfl⟩,_⟩:=(aO.dh rfl).1 hy;exact Good.same h (by simp[g1,binOp,g2]) rfl (of_bool _)
   .cases he
  .cases he
 .have:=w5 hy;subst this;split at he
  .rename_i e au;simp only[map_eq_some_iff]at he;obtain⟨r,aQ,rfl⟩:=he;obtain⟨i,d,z,aP,aY,aU,b4,cM,cl,b9⟩:=bP.info (hz au (by simp));rw[au]at b9;have:=oD b9;subst this;obtain⟨b,ad,af,aG,a0,bo,c0,rfl⟩:=TW h ao aQ cl;refine Good.same h (v:=.bool b) ?_ ?_ ?_
   .rw[eqGuard_at_slice];simp[binOp,ad]
   .cases r<;>rfl
   .cases r with
    |none=>exact Mm b
    |some gL=>have:=af gL rfl;subst this;simp only[se,Bool.bne_false];exact of_bool _
  .rename_i e au;simp only[map_eq_some_iff]at he;obtain⟨r,aQ,rfl⟩:=he;obtain⟨i,d,z,aP,aY,aU,b4,cM,cl,b9⟩:=bP.info (hz au (by simp));rw[au]at b9;have:=oD b9;subst this;obtain⟨b,ad,af,aG,a0,bo,c0,rfl⟩:=TW h ao aQ cl;refine Good.same h (v:=.bool !b) ?_ ?_ ?_
   .rw[eqGuard_at_slice];simp[binOp,ad]
   .cases r<;>rfl
   .cases r with
    |none=>exact Mm _
    |some gL=>have:=af gL rfl;subst this;simp only[se,Bool.bne_true];exact of_bool _
  .cases he
 .have:=TQ hy;subst this;split at he
  .rename_i e au;simp only[map_eq_some_iff]at he;obtain⟨r,aQ,rfl⟩:=he;obtain⟨i,d,z,aP,aY,aU,b4,cM,cl,b9⟩:=bP.info (hz au (by simp));rw[au]at b9;have:=TH b9;subst this;obtain⟨ad,a0,rfl⟩:=TX h ao aQ cl;refine Good.same h (v:=.bool r) ?_ rfl (of_bool _);rw[eqGuard_at_pointer];simp[binOp,ad]
  .rename_i e au;simp only[map_eq_some_iff]at he;obtain⟨r,aQ,rfl⟩:=he;obtain⟨i,d,z,aP,aY,aU,b4,cM,cl,b9⟩:=bP.info (hz au (by simp));rw[au]at b9;have:=TH b9;subst this;obtain⟨ad,a0,rfl⟩:=TX h ao aQ cl;refine Good.same h (v:=.bool !r) ?_ rfl (of_bool _);rw[eqGuard_at_pointer];simp[binOp,ad]
  .cases he
 .cases he
end
section
variable {C:cm} {w0 w:World} {F0 X F:Nat->Prop} {S:Nat->Nat->Prop} {s s1:ak} {aI:Nat->Value} {av:I}
def un (op:UnOp) (x:I):Option I:=
 match op,x with
 | .not,.bool b=>some (.bool !b)
 | .not,.gn=>some .gn
 | .neg,.int k n=>some (.int k (k.wrap (0-n)))
 |_,_=>none
theorem acW (h:cb w0 F0 X F S s aI w) {op:UnOp} {x:I} {v:Value} (aJ:aO w F s aI x v (λ_=>False)) (he:un op x=some av):Good C w0 F0 X aI w (Op.unary op v) av s:=by
 unfold un at he;split at he<;>first|(cases he;done)|(simp only[some.injEq]at he;subst he)
 .have:=w4 aJ;subst this;exact Good.same h rfl rfl (of_bool _)
 .obtain⟨b,rfl⟩:=TR aJ;exact Good.same h rfl rfl (Mm _)
 .have:=qf aJ;subst this;exact Good.same h rfl rfl (of_int _ _)
def mm (s:ak) (x:I):Option I:=
 match x with
 | .ref d=>some (.ref d)
 | .fn f c=>some (.fn f c)
 | .h y q=>match I.sub q (s y)with
   |some (.aS _)=>some (.h y q)
   |_=>none
 |_=>none
theorem acX {d:I} {v:Value} {a7:Nat->Prop} (h:aO w F s aI (.ref d) v a7):∃b o fo,v= .pointer (some ⟨b,o,none⟩)/\F b/\jv w b o fo/\aB w F d fo (λ_=>False):=by
 have bC:=(aO.dh rfl).1 h;rw[aB,h4 bC.1]at bC;obtain⟨_,b,o,fo,ad,af,aG,bf⟩:=bC;simp at ad;subst ad;exact⟨b,o,fo,rfl,af,aG,bf⟩
theorem acY (h:cb w0 F0 X F S s aI w) {x:I} {v:Value} (aJ:aO w F s aI x v (λ_=>False)) (he:mm s x=some av):
  av=x/\x.plain=true/\((∃a,v= .pointer (some a))\/∃f c,v= .func (.func f) #[] c):=by
 unfold mm at he;split at he
 .simp only[some.injEq]at he;subst he;obtain⟨b,o,fo,rfl,_⟩:=acX aJ;exact⟨rfl,rfl,.inl ⟨_,rfl⟩⟩
 .simp only[some.injEq]at he;subst he;rw[aO]at aJ;obtain⟨arr,rfl,_⟩:=aJ;exact⟨rfl,rfl,.inr ⟨_,_,rfl⟩⟩
 .split at he
  .rename_i d an;simp only[some.injEq]at he;subst he;obtain⟨b,cur,e,fr,rfl,_⟩:=TS h aJ an;exact⟨rfl,rfl,.inl ⟨_,rfl⟩⟩
  .cases he
 .cases he
def ex (s:ak) (x:I) (k:Nat):Option I:=
 match x with
 | .tuple ds=>match ds[k]? with
   |some d=>if d.plain=true then some d else none
   |none=>none
 | .h y q=>match I.sub q (s y)with
   |some (.tuple ds)=>match ds[k]? with
    |some d=>if I.e5 ds=true then none else some (if d.plain then d else .h y (q++[k]))
    |none=>none
   |_=>none
 |_=>none
theorem T1:∀(vs:ayi) (k:Nat) (x:Value) (ds:ayk),vs[k]? =some x->vs.length=ds.length->(∀(j:Nat) (d:I) (y:Value),ds[j]? =some d->vs[j]? =some y->(jx y).length=d.wd)->
  ∃l r,vs.flatMap jx=l++(jx x++r)/\l.length=I.e9 (ds.take k)
 |[],k,x,ds,h,_,_=>by simp at h
 |v::vs,0,x,ds,h,hl,hw=>by
  simp at h;subst h;exact⟨[],vs.flatMap jx,by simp,by simp[I.e9]⟩
 |v::vs,k+1,x,d::ds,h,hl,hw=>by
  obtain⟨l,r,aP,aY⟩:=T1 vs k x ds (by simpa using h) (by simpa using hl) (λj d y ad af=>hw (j+1) d y (by simpa using ad) (by simpa using af));refine⟨jx v++l,r,by simp[aP],?_⟩;have:=hw 0 d v (by simp) (by simp);simp[I.e9,aY,this]
 |v::vs,k+1,x,[],h,hl,hw=>by simp at hl
theorem acZ {d:I} {v:Value} (h:j3 d v) (_hd:∀vs,d≠.tuple vs):cT v=jx v:=by
 cases d with
 |agg aF=>obtain⟨arr,rfl⟩:=h;rfl
 |_=>
  have ad:Value.hF v=true:=h;cases v<;>first|rfl|(simp[Value.hF]at ad)
theorem ac0 {d:I} {v:Value} (h:j3 d v) (an:∀vs,d≠.tuple vs):eY d v:=by
 cases d with
 |tuple vs=>exact(an _ rfl).elim
 |_=>exact h
theorem ac1 (h:cb w0 F0 X F S s aI w) {x:I} {v:Value} {k:Nat} (aJ:aO w F s aI x v (λ_=>False)) (he:ex s x k=some av):Good C w0 F0 X aI w (Instr.extract v k) av s:=by
 have pick:∀(ds:ayk) (d:I) (arr:Array Value),ds[k]? =some d->(arr.size=ds.length/\∀(k:Nat) (d:I) (x:Value),ds[k]? =some d->arr[k]? =some x->j3 d x/\(∀vs,d≠.tuple vs)/\(jx x).length=d.wd)->
   ∃x,arr[k]? =some x/\eY d x/\((cT (.tuple arr)).drop (I.e9 (ds.take k))).take d.wd=cT x:=by
  intro ds d arr an ⟨b8,nd⟩;have eI:k<arr.size:=by rw[b8];exact(List.getElem?_eq_some_iff.1 an).1
  have ao:arr[k]? =some arr[k]:=Array.getElem?_eq_getElem eI;obtain⟨g1,g2,g3⟩:=nd k d _ an ao;obtain⟨l,r,aP,aY⟩:=T1 arr.toList k arr[k] ds (by simp[eI]) (by simpa using b8) (λj d y ad af=>(nd j d y ad (by simpa using af)).2.2);refine⟨_,ao,ac0 g1 g2,?_⟩;rw[acZ g1 g2];simp only[cT];rw[aP];exact yt l _ r _ _ aY g3
 unfold ex at he;split at he
 .rename_i ds;split at he
  .rename_i d an;split at he
   .rename_i ax;simp only[some.injEq]at he;subst he;have bC:=(aO.dh rfl).1 aJ;obtain⟨⟨arr,rfl,b8⟩,h6⟩:=bC;obtain⟨x,ao,ab,ar⟩:=pick ds d arr an b8;have aQ:(Instr.extract (.tuple arr) k).run C.P w= .ok x w:=by simp[Instr.extract,ao]
    rw[aB]at h6;obtain⟨cr,ha,c2,cI,jw,e,jj,gT,iO,j2,ho,o4⟩:=bt.pick ds _ _ k d h6 an;rw[e,yt cr ha c2 _ _ jj (aB.length _ _ _ ho)]at ar;by_cases ba:d.tree=true
    .exact Good.same h aQ ax ((aO.dh ba).2 ⟨ab,by rw[<-ar];exact aB.plain _ _ _ _ ax ho⟩)
    .cases d<;>first|exact(ba rfl).elim|(rw[aB]at ho;exact ho.elim)|exact Good.same h aQ rfl (by rw[aO];trivial)|(have bU:=aB.plain _ _ _ (λ_=>False) ax ho;rw[ar,h4 (by exact ab)]at bU;exact Good.same h aQ rfl (aO.tE _ _ rfl bU))
   .cases he
  .cases he
 .rename_i y q;split at he
  .rename_i ds an;split at he
   .rename_i d au;split at he
    .cases he
    .rename_i fI;simp only[some.injEq]at he;have fI:(I.tuple ds).plain=false:=by simpa [I.plain]using fI
     rw[aO]at aJ;obtain⟨dx,a,g1,g2,g3⟩:=aJ _ an fI;obtain⟨arr,rfl,b8⟩:=g3;obtain⟨x,ao,ab,ar⟩:=pick ds d arr au b8;have aQ:(Instr.extract (.tuple arr) k).run C.P w= .ok x w:=by simp[Instr.extract,ao]
     have hy:=h.el y;rw[aO.dh (jy an (.inl fI))]at hy;obtain⟨hb,dt,fi,gp,k0,bS,ct,dT,ed,eQ⟩:=ctx q (s y) (cT (aI y)) (S y) none _ hy.2 an;rw[k0]at g1;simp only[some.injEq,Prod.mk.injEq,true_and]at g1;obtain⟨rfl,rfl⟩:=g1;rw[g2]at ar;split at he
     .rename_i ax;subst he;rw[aB]at ed;obtain⟨cr,ha,c2,cI,jw,e,jj,gT,iO,j2,ho,o4⟩:=bt.pick ds _ _ k d ed au;rw[e,yt cr ha c2 _ _ jj (aB.length _ _ _ ho)]at ar;by_cases ba:d.tree=true
      .exact Good.same h aQ ax ((aO.dh ba).2 ⟨ab,by rw[<-ar];exact aB.plain _ _ _ _ ax ho⟩)
      .cases d<;>first|exact(ba rfl).elim|(rw[aB]at ho;exact ho.elim)|exact Good.same h aQ rfl (by rw[aO];trivial)|(have bU:=aB.plain _ _ _ (λ_=>False) ax ho;rw[ar,h4 (by exact ab)]at bU;exact Good.same h aQ rfl (aO.tE _ _ rfl bU))
     .subst he;refine Good.same h aQ rfl ?_;rw[aO];intro d2 hx DS;rw[DW w q _ _ _ _ _ _ [k] k0];rw[DV _ _ _ _ an]at hx;simp only[I.sub,au,some.injEq]at hx;subst hx;simp only[et,au];exact⟨_,_,rfl,ar.symm,ab⟩
   .cases he
  .cases he
 .cases he
def pa (C:cm) (s:ak) (T:TypeId) (x:I) (k:Nat):Option I:=
 match(C.T T).k with
 | .struct aF=>match aF[k]? with
   |some (lZ,off)=>match x with
    | .agg ds=>match ds[k]? with
      |some d=>if I.e9 (ds.take k)=off/\fits C lZ d=true/\d.plain=true/\d.tree=true then some d else none
      |none=>none
    | .h y q=>match I.sub q (s y)with
      |some (.agg ds)=>match ds[k]? with
       |some d=>if I.e9 (ds.take k)=off/\fits C lZ d=true/\I.e5 ds=false/\d.tree=true then some (if d.plain then d else .h y (q++[k]))else none
       |none=>none
      |_=>none
    |_=>none
   |none=>none
 |_=>none
theorem ac2 (bP:C.fH) (h:cb w0 F0 X F S s aI w) {T:TypeId} {x:I} {v:Value} {k:Nat} (aJ:aO w F s aI x v (λ_=>False)) (he:pa C s T x k=some av):Good C w0 F0 X aI w (Instr.field T v k) av s:=by
 have key:∀(aF:List (TypeId×Nat)) (lZ:TypeId) (off:Nat),(C.T T).k= .struct aF->aF[k]? =some (lZ,off)->∀(ds:ayk) (d:I) (arr:Array Value) (a7:Nat->Prop),ds[k]? =some d->I.e9 (ds.take k)=off->fits C lZ d=true->bt w F ds arr.toList a7->
   ∃x jw,(Instr.field T (.agg arr) k).run C.P w= .ok x w/\eY d x/\aB w F d (cT x) jw/\(arr.toList.drop off).take d.wd=cT x:=by
  intro aF lZ off au bD ds d arr a7 an tD kk h6;obtain⟨i,D4,z,aP,aY,aU,b4,cM,cl,b9⟩:=bP.info (hz au (by simp));rw[au]at b9;obtain⟨gs,rfl,fJ⟩:=DX b9;obtain⟨g,g1,rfl,rfl⟩:∃g,gs[k]? =some g/\g.type=lZ/\g.offset=off:=by
   rw[<-fJ,getElem?_map]at bD;simp only[map_eq_some_iff,Prod.mk.injEq]at bD;obtain⟨g,ad,af,aG⟩:=bD;exact⟨g,by simpa using ad,af,aG⟩
  obtain⟨cr,ha,c2,cI,jw,e,jj,gT,iO,j2,ho,o4⟩:=bt.pick ds _ _ k d h6 an;obtain⟨x,aQ,T2,oE⟩:=acD (w:=w) bP e (jj.trans tD) ho kk;refine⟨x,jw,?_,oE,by rw[T2];exact ho,?_⟩
  .simp[Instr.field,run_underlying cl,g1,asAgg,aQ]
  .rw[e,T2,<-tD];exact yt cr ha c2 _ _ jj (aB.length _ _ _ ho)
 have T3:∀(d:I) (x:Value) (jw:Nat->Prop),d.plain=true->eY d x->aB w F d (cT x) jw->aO w F s aI d x (λ_=>False):=by
  intro d x jw ax ab h6;by_cases ba:d.tree=true
  .exact(aO.dh ba).2 ⟨ab,aB.plain _ _ _ _ ax h6⟩
  .cases d<;>first|exact(ba rfl).elim|(rw[aB]at h6;exact h6.elim)|(rw[aO];trivial)|(have bU:=aB.plain _ _ _ (λ_=>False) ax h6;rw[h4 (by exact ab)]at bU;exact aO.tE _ _ rfl bU)
 unfold pa at he;split at he
 .rename_i aF au;split at he
  .rename_i lZ off bD;split at he
   .rename_i ds;split at he
    .rename_i d an;split at he
     .rename_i ar;simp only[some.injEq]at he;subst he;obtain⟨⟨arr,rfl⟩,h6⟩:=(aO.dh rfl).1 aJ;rw[aB]at h6;obtain⟨x,jw,aQ,ab,w6,_⟩:=key aF lZ off au bD ds d arr _ an ar.1 ar.2.1 h6;exact Good.same h aQ ar.2.2.1 (T3 d x jw ar.2.2.1 ab w6)
     .cases he
    .cases he
   .rename_i y q;split at he
    .rename_i ds an;split at he
     .rename_i d o8;split at he
      .rename_i ar;simp only[some.injEq]at he;have fI:(I.agg ds).plain=false:=by simpa [I.plain]using ar.2.2.1
       rw[aO]at aJ;obtain⟨dx,a,g1,g2,g3⟩:=aJ _ an fI;obtain⟨arr,rfl⟩:=g3;have hy:=h.el y;rw[aO.dh (jy an (.inl fI))]at hy;obtain⟨hb,dt,fi,gp,k0,bS,ct,dT,ed,eQ⟩:=ctx q (s y) (cT (aI y)) (S y) none _ hy.2 an;rw[k0]at g1;simp only[some.injEq,Prod.mk.injEq,true_and]at g1;obtain⟨rfl,rfl⟩:=g1;rw[aB,<-g2]at ed;obtain⟨x,jw,aQ,ab,w6,iC⟩:=key aF lZ off au bD ds d arr _ o8 ar.1 ar.2.1 ed;by_cases ax:d.plain=true
       .rw[if_pos ax]at he;subst he;exact Good.same h aQ ax (T3 d x jw ax ab w6)
       .rw[if_neg ax]at he;subst he;refine Good.same h aQ rfl ?_;rw[aO];intro d2 hx DS;rw[DW w q _ _ _ _ _ _ [k] k0];rw[DV _ _ _ _ an]at hx;simp only[I.sub,o8,some.injEq]at hx;subst hx;simp only[et,o8];refine⟨_,_,rfl,?_,ab⟩;rw[ar.1,<-g2];exact iC.symm
      .cases he
     .cases he
    .cases he
   .cases he
  .cases he
 .cases he
end
section
variable {C:cm} {w0 w:World} {F0 X F:Nat->Prop} {S:Nat->Nat->Prop} {s s1:ak} {aI:Nat->Value} {av:I}
def idx (C:cm) (T:TypeId) (x i:I):Option I:=
 match(C.T T).k,x,i with
 | .str,.str l,.int _ n=>if 0<=n then(match l[n.toNat]? with|some b=>some (.int .u8 b.toNat)|none=>none)else none
 |_,_,_=>none
theorem ac3 (l:ayc) (n:Nat):(⟨⟨l⟩⟩:ByteArray)[n]? =l[n]? :=by
 by_cases h:n<l.length
 .have bC:n<(⟨⟨l⟩⟩:ByteArray).size:=h;rw[getElem?_eq_getElem h,getElem?_pos (⟨⟨l⟩⟩:ByteArray) n bC];rfl
 .have bC:¬n<(⟨⟨l⟩⟩:ByteArray).size:=h;rw[getElem?_eq_none (by omega),getElem?_neg (⟨⟨l⟩⟩:ByteArray) n bC]
theorem ac4 (bP:C.fH) (h:cb w0 F0 X F S s aI w) {T:TypeId} {x i:I} {v qV:Value} (aJ:aO w F s aI x v (λ_=>False)) (aj:aO w F s aI i qV (λ_=>False)) (he:idx C T x i=some av):
  Good C w0 F0 X aI w (Instr.index T v qV) av s:=by
 unfold idx at he;split at he
 .rename_i l k n au;have:=o9 aJ;subst this;have:=qf aj;subst this;obtain⟨i,d,z,aP,aY,aU,b4,cM,cl,b9⟩:=bP.info (hz au (by simp));rw[au]at b9;have:=tB b9;subst this;split at he
  .rename_i aV;split at he
   .rename_i b aa;simp only[some.injEq]at he;subst he;refine Good.same h ?_ rfl (of_int _ _);simp[Instr.index,asIntOf,run_underlying cl,aV,ac3,aa]
   .cases he
  .cases he
 .cases he
def lenOf (s:ak):I->Option Nat
 | .str l=>some l.length
 | .bg=>some 0
 | .slice xs=>some xs.length
 | .h y q=>match I.sub q (s y)with
   |some (.ag _ xs)=>some xs.length
   |_=>none
 |_=>none
def vf (C:cm) (s:ak) (T:TypeId) (x:I):Option I:=
 match(C.T T).k,x with
 | .str,.str l=>some (.int .i64 l.length)
 | .slice _,.bg=>some (.int .i64 0)
 | .slice _,.slice xs=>some (.int .i64 xs.length)
 | .slice _,.h y q=>match I.sub q (s y)with
   |some (.ag _ xs)=>some (.int .i64 xs.length)
   |_=>none
 |_,_=>none
theorem H3 {xs:ayk} {v:Value} {a7:Nat->Prop} (h:aO w F s aI (.slice xs) v a7):(xs=[]/\∃a c,v= .slice a 0 c/\c<=maxLen/\(a=none->c=0))\/
  ∃b o cap fo sz,v= .slice (some ⟨b,o,none⟩) xs.length cap/\F b/\xs.length<=cap/\cap<=maxLen/\(∀d∈xs,d.wd=sz)/\jv w b o fo/\bt w F xs fo (λ_=>False):=by
 have bC:=(aO.dh rfl).1 h;rw[aB,h4 bC.1]at bC;obtain⟨_,⟨rfl,a,c,af,aG⟩|⟨b,o,cap,fo,sz,af,aG⟩⟩:=bC
 .simp at af;exact .inl ⟨rfl,a,c,af,aG⟩
 .simp at af;exact .inr ⟨b,o,cap,fo,sz,af,aG⟩
theorem ac5 (bP:C.fH) (h:cb w0 F0 X F S s aI w) {T ty:TypeId} {x:I} {v:Value} (aJ:aO w F s aI x v (λ_=>False)) (he:vf C s T x=some av):
  Good C w0 F0 X aI w (Builtin.len_ #[T] ty #[v]) av s:=by
 unfold vf at he;split at he
 .rename_i l au;have:=o9 aJ;subst this;obtain⟨i,d,z,aP,aY,aU,b4,cM,cl,b9⟩:=bP.info (hz au (by simp));rw[au]at b9;have:=tB b9;subst this;simp only[some.injEq]at he;subst he;refine Good.same h ?_ rfl (of_int _ _);simp[Builtin.len_,run_underlying cl,goInt];rfl
 .rename_i e au;have:=w5 aJ;subst this;obtain⟨i,d,z,aP,aY,aU,b4,cM,cl,b9⟩:=bP.info (hz au (by simp));rw[au]at b9;have:=oD b9;subst this;simp only[some.injEq]at he;subst he;refine Good.same h ?_ rfl (of_int _ _);simp[Builtin.len_,run_underlying cl,goInt]
 .rename_i e xs au;obtain⟨i,d,z,aP,aY,aU,b4,cM,cl,b9⟩:=bP.info (hz au (by simp));rw[au]at b9;have:=oD b9;subst this;simp only[some.injEq]at he;subst he;refine Good.same h ?_ rfl (of_int _ _);rcases H3 aJ with⟨rfl,a,c,rfl,_⟩|⟨b,o,cap,fo,sz,rfl,_⟩<;>simp[Builtin.len_,run_underlying cl,goInt]
 .rename_i e y q au;split at he
  .rename_i sz xs an;obtain⟨i,d,z,aP,aY,aU,b4,cM,cl,b9⟩:=bP.info (hz au (by simp));rw[au]at b9;have:=oD b9;subst this;simp only[some.injEq]at he;subst he;refine Good.same h ?_ rfl (of_int _ _);rcases Mn h aJ an with⟨rfl,_,rfl⟩|⟨b,cap,cur,aY,fr,rfl,_⟩<;>simp[Builtin.len_,run_underlying cl,goInt]
  .cases he
 .cases he
def bytesOf:ayk->Option ayc
 |[]=>some []
 | .int .u8 n::r=>if 0<=n/\n<256 then(bytesOf r).map (UInt8.ofNat n.toNat::·)else none
 |_=>none
def i_ (b:UInt8):I:=.int .u8 b.toNat
theorem ac6 (l:ayc):bytesOf (l.map i_)=some l:=by
 induction l with
 |nil=>rfl
 |cons b l ih=>
  have aa:b.toNat<256:=b.toNat_lt;simp only[map_cons,i_,bytesOf,Int.toNat_natCast];rw[if_pos (by omega),ih];simp
theorem Mo:∀(xs:ayk) (l:ayc) (cs:ayi) (a7:Nat->Prop),bytesOf xs=some l->bt w F xs cs a7->cs=l.map (λb=>.int .u8 (b.toNat:Int))/\xs.length=l.length
 |[],l,cs,a7,h,aQ=>by simp[bytesOf]at h;subst h;rw[bt]at aQ;subst aQ;exact⟨rfl,rfl⟩
 |x::xs,l,cs,a7,h,aQ=>by
  unfold bytesOf at h;split at h
  .rename_i e;cases e
  .rename_i n r e;simp only[cons.injEq]at e;obtain⟨rfl,rfl⟩:=e;split at h
   .rename_i aV;simp only[map_eq_some_iff]at h;obtain⟨c6,ad,rfl⟩:=h;rw[bt]at aQ;obtain⟨cr,c2,cI,eF,rfl,af,aG,_⟩:=aQ;obtain⟨rfl,bf⟩:=Mo xs c6 c2 eF ad aG;rw[aB]at af;subst af;refine⟨?_,by simp[bf]⟩;simp only[map_cons,cons_append,nil_append,cons.injEq,and_true,Value.int.injEq,true_and];simp only[UInt8.toNat_ofNat'];omega
   .cases h
  .cases h
theorem cb.H4 (h:cb w0 F0 X F S s aI w) {aN:World} {sz cap:Nat} {xs:ayk} {cur:Array Value} {e:TypeId} {fr:Nat×Nat} {Sn:Nat->Prop}
  (hw:aN.heap=w.heap.push (.cells cur e fr)) (ad:aN.os=w.os) (af:aN.tape=w.tape) (aG:Out aN w)
  (bD:pF fr (cur.size+(sz-1))) (hle:xs.length<=cap) (hm:cap<=maxLen) (fj:cur.size=cap*sz) (nc:∀d∈xs,d.wd=sz) (aJ:bt w F xs (cur.toList.take (xs.length*sz)) Sn)
  (eI:∀b,Sn b->b<w.heap.size) (bE:∀b,Sn b->¬F b) (cj:∀u b,Sn b->¬S u b) (a_:∀b,Sn b->X b\/w0.heap.size<=b):
  cb w0 F0 X F S s aI aN/\n1 w0 X F S s aI aN (.ag sz xs) (.slice (some ⟨w.heap.size,0,none⟩) xs.length cap):=by
 have hold:∀b,b<w.heap.size->aN.heap[b]? =w.heap[b]? :=by
  intro b aa;rw[hw,Array.getElem?_push,if_neg (by omega)]
 have awb:aN.heap.size=w.heap.size+1:=by rw[hw];simp
 refine⟨h.grow hold (by omega) ad af aG,.inr ⟨rfl,rfl,λb=>b=w.heap.size\/Sn b,?_,?_,?_,?_,?_⟩⟩
 .simp only[cT,jx];rw[aB];refine .inr ⟨w.heap.size,cap,cur,e,fr,Sn,rfl,.inl rfl,?_,bD,hle,hm,fj,nc,?_,λc ar=>.inr ar,λar=>Nat.lt_irrefl _ (eI _ ar)⟩
  .rw[hw];simp
  .exact bt.frame (λb aa=>hold b (h.f_ b aa)) _ _ _ (λb aa=>hold b (eI b aa)) aJ
 .rintro b (rfl|aa)
  .omega
  .have:=eI b aa;omega
 .rintro b (rfl|aa) ve
  .exact Nat.lt_irrefl _ (h.f_ _ ve)
  .exact bE b aa ve
 .rintro u b (rfl|aa) hu
  .exact Nat.lt_irrefl _ (h.fz _ _ hu)
  .exact cj u b aa hu
 .rintro b (rfl|aa)
  .exact .inr h.size
  .exact a_ b aa
def kT (C:cm) (s:ak) (A B:TypeId) (x:I):Option I:=
 if(C.T A).ok=true then
 match(C.T B).k,x with
 | .int k,.int _ n=>some (.int k (k.wrap n))
 | .str,.str l=>match(C.T A).k with
   | .str=>some (.str l)
   |_=>none
 | .str,x=>match(C.T A).k with
   | .slice e=>match(C.T e).k with
     | .int .u8=>match x with
       | .bg=>some (.str [])
       | .slice xs=>(bytesOf xs).map .str
       | .h y q=>match I.sub q (s y)with
         |some (.ag 1 xs)=>(bytesOf xs).map .str
         |_=>none
       |_=>none
     |_=>none
   |_=>none
 | .slice e,.str l=>match(C.T A).k,(C.T e).k with
   | .str,.int .u8=>if l.length<=9223372036854775807 then some (.ag 1 (l.map i_))else none
   |_,_=>none
 |_,_=>none
 else none
theorem T4 (l:ayc) (a7:Nat->Prop):bt w F (l.map i_) (l.map λb=>.int .u8 (b.toNat:Int)) a7:=by
 induction l generalizing a7 with
 |nil=>simp only[map_nil];rw[bt]
 |cons b l ih=>
  simp only[map_cons];rw[bt];exact⟨[.int .u8 (b.toNat:Int)],_,λ_=>False,λ_=>False,rfl,by rw[i_,aB],ih _,λ_ h=>h.elim,λ_ h=>h.elim,λ_ h=>h.elim⟩
theorem ac7 (bP:C.fH) (h:cb w0 F0 X F S s aI w) {A B:TypeId} {x:I} {v:Value} (aJ:aO w F s aI x v (λ_=>False)) (he:kT C s A B x=some av):
  Good C w0 F0 X aI w (convert A B v) av s:=by
 unfold kT at he;split at he
 .rename_i ja;obtain⟨kD,awc,awd,J,a2,a3,a4,a5,pI,pb⟩:=bP.info ja;split at he
  .rename_i k di n au;have:=qf aJ;subst this;obtain⟨i,d,z,aP,aY,aU,b4,cM,cl,b9⟩:=bP.info (hz au (by simp));rw[au]at b9;have:=HU b9;subst this;simp only[some.injEq]at he;subst he;refine Good.same h ?_ rfl (of_int _ _);simp[convert,run_underlying pI,run_underlying cl,Conv.intToInt]
  .rename_i l au;have:=o9 aJ;subst this;obtain⟨i,d,z,aP,aY,aU,b4,cM,cl,b9⟩:=bP.info (hz au (by simp));rw[au]at b9;have:=tB b9;subst this;split at he
   .rename_i D8;rw[D8]at pb;have:=tB pb;subst this;simp only[some.injEq]at he;subst he;refine Good.same h ?_ rfl (sd _);simp[convert,run_underlying pI,run_underlying cl]
   .cases he
  .rename_i x au _;obtain⟨i,d,z,aP,aY,aU,b4,cM,cl,b9⟩:=bP.info (hz au (by simp));rw[au]at b9;have:=tB b9;subst this;split at he
   .rename_i e D8;rw[D8]at pb;have:=oD pb;subst this;split at he
    .rename_i D9;obtain⟨tC,bJ,vc,f1,f2,f3,f4,f5,f6,f7⟩:=bP.info (hz D9 (by simp));rw[D9]at f7;have:=HU f7;subst this;have fin:∀(l:ayc) (b o cap:Nat),jv w b o (l.map λb=>.int .u8 (b.toNat:Int))->(convert A B (.slice (some ⟨b,o,none⟩) l.length cap)).run C.P w= .ok (.string ⟨⟨l⟩⟩) w:=by
      intro l b o cap ml;refine run_convert_bytes_back w A B e ⟨b,o,none⟩ cap l pI f6 cl (λj bF=>?_);rw[Addr.add_lit];exact ml j _ (by simp[bF])
     have nil:(convert A B (.slice none 0 0)).run C.P w= .ok (.string ⟨⟨[]⟩⟩) w:=by
      simp[convert,run_underlying pI,run_underlying cl,run_underlying f6,Conv.bytesToString];rfl
     split at he
     .have:=w5 aJ;subst this;simp only[some.injEq]at he;subst he;exact Good.same h nil rfl (sd _)
     .rename_i xs _;simp only[map_eq_some_iff]at he;obtain⟨l,hl,rfl⟩:=he;rcases H3 aJ with⟨rfl,a,c,rfl,_,yE⟩|⟨b,o,cap,fo,sz,rfl,ad,af,aG,bf,bU,dc⟩
      .simp[bytesOf]at hl;subst hl;cases a with
       |none=>
        have:=yE rfl;subst this;exact Good.same h nil rfl (sd _)
       |some a=>
        refine Good.same h ?_ rfl (sd _);exact run_convert_bytes_back w A B e a c [] pI f6 cl (λj bF=>by simp at bF)
      .obtain⟨rfl,c1⟩:=Mo xs l fo _ hl dc;rw[c1];exact Good.same h (fin l b o cap bU) rfl (sd _)
     .rename_i y q;split at he
      .rename_i xs an;simp only[map_eq_some_iff]at he;obtain⟨l,hl,rfl⟩:=he;rcases Mn h aJ an with⟨rfl,a,rfl⟩|⟨b,cap,cur,aY,fr,rfl,ad,af,aG,bf,bU,dc,a7,c1,_⟩
       .simp[bytesOf]at hl;subst hl;cases a with
        |none=>exact Good.same h nil rfl (sd _)
        |some a=>
         refine Good.same h ?_ rfl (sd _);exact run_convert_bytes_back w A B e a 0 [] pI f6 cl (λj bF=>by simp at bF)
       .obtain⟨g_,iN⟩:=Mo xs l _ _ hl c1;rw[iN];refine Good.same h (fin l b 0 cap ?_) rfl (sd _);rw[<-g_];exact AG ad _
      .cases he
     .cases he
    .cases he
   .cases he
  .rename_i e l au;have:=o9 aJ;subst this;obtain⟨i,d,z,aP,aY,aU,b4,cM,cl,b9⟩:=bP.info (hz au (by simp));rw[au]at b9;have:=oD b9;subst this;split at he
   .rename_i D8 D9;rw[D8]at pb;have:=tB pb;subst this;obtain⟨tC,bJ,vc,f1,f2,f3,f4,f5,f6,f7⟩:=bP.info (hz D9 (by simp));rw[D9]at f7;have:=HU f7;subst this;split at he
    .rename_i hl;simp only[some.injEq]at he;subst he;have ab:(⟨⟨l⟩⟩:ByteArray).size=l.length:=rfl;have Mp:=grownCap_ge w l.length 0 e;have ac8:=grownCap_le_maxLen w l.length 0 e (by unfold maxLen;omega);have T5:(bytesRow ⟨⟨l⟩⟩ (grownCap w l.length 0 e)).toList=l.map (λb=>Value.int .u8 (b.toNat:Int))++replicate (grownCap w l.length 0 e-l.length) (.int .u8 0):=by
      simp[bytesRow,ab]
     have fj:(bytesRow ⟨⟨l⟩⟩ (grownCap w l.length 0 e)).size=grownCap w l.length 0 e*1:=by
      have:(bytesRow ⟨⟨l⟩⟩ (grownCap w l.length 0 e)).size=(bytesRow ⟨⟨l⟩⟩ (grownCap w l.length 0 e)).toList.length:=by simp
      rw[this,T5];simp;omega
     have yC:=run_bytes_of_string w A B e ⟨⟨l⟩⟩ pI cl f6;rw[ab]at yC;have oF:=h.H4 (aN:=w.drew.alloc (.cells (bytesRow ⟨⟨l⟩⟩ (grownCap w l.length 0 e)) e ((bytesRow ⟨⟨l⟩⟩ (grownCap w l.length 0 e)).size,(bytesRow ⟨⟨l⟩⟩ (grownCap w l.length 0 e)).size+1)))
      (sz:=1) (cap:=grownCap w l.length 0 e) (xs:=l.map i_) (cur:=bytesRow ⟨⟨l⟩⟩ (grownCap w l.length 0 e)) (e:=e) (Sn:=λ_=>False) rfl rfl rfl ⟨rfl,λ_=>le_succ _⟩
      (λo bI ⟨ad,_⟩=>by simp only at ad;omega) (by simpa using Mp) ac8 fj (by intro d an;obtain⟨b,_,rfl⟩:=mem_map.1 an;rfl)
      (by rw[T5,take_left' (by simp)];exact T4 l _) (λ_ h=>h.elim) (λ_ h=>h.elim) (λ_ _ h=>h.elim) (λ_ h=>h.elim)
     simp only[length_map]at oF;exact⟨_,_,F,S,yC,oF.1,oF.2⟩
    .cases he
   .cases he
  .cases he
 .cases he
end
section
variable {C:cm} {w0 w:World} {F0 X F:Nat->Prop} {S:Nat->Nat->Prop} {s s1:ak} {aI:Nat->Value} {av:I}
def jF (d:Nat):Option I->Option Nat
 |none=>some d
 |some (.int _ n)=>if 0<=n then some n.toNat else none
 |some _=>none
def iP (C:cm) (s:ak) (T:TypeId) (x:I) (fP aj:Option I):Option (I×ak):=
 match(C.T T).k,x with
 | .str,.str l=>match jF 0 fP,jF l.length aj with
   |some a,some b=>if a<=b/\b<=l.length then some (.str ((l.take b).drop a),s)else none
   |_,_=>none
 | .slice e,.bg=>match jF 0 fP,jF 0 aj with
   |some 0,some 0=>if(C.T e).ok=true then some (.bg,s)else none
   |_,_=>none
 | .slice e,.slice xs=>match jF 0 fP,jF xs.length aj with
   |some a,some b=>if a<=b/\b<=xs.length/\(C.T e).ok=true/\(∀d∈xs,d.wd=(C.T e).sz)then some (.slice ((xs.take b).drop a),s)else none
   |_,_=>none
 | .slice e,.h y q=>match I.sub q (s y)with
   |some (.ag sz xs)=>match jF 0 fP,jF xs.length aj with
    |some 0,some b=>if b<=xs.length/\(C.T e).ok=true then(match dG s (.h y q)with|some (_,s1)=>some (.ag sz (xs.take b),s1)|none=>none)else none
    |_,_=>none
   |_=>none
 |_,_=>none
def vg (w:World) (F:Nat->Prop) (s:ak) (aI:Nat->Value):Option I->Option Value->Prop
 |none,none=>True
 |some d,some v=>aO w F s aI d v (λ_=>False)
 |_,_=>False
theorem T6 {d:Nat} {o:Option I} {v:Option Value} (bI:vg w F s aI o v) {a:Nat} (h:jF d o=some a):(o=none/\v=none/\a=d)\/∃k,v=some (.int k a):=by
 cases o with
 |none=>
  cases v with
  |none=>simp[jF]at h;exact .inl ⟨rfl,rfl,h.symm⟩
  |some v=>simp[vg]at bI
 |some x=>
  cases v with
  |none=>simp[vg]at bI
  |some v=>
   simp only[vg]at bI;cases x with
   |int k n=>
    have:=qf bI;subst this;simp only[jF]at h;split at h
    .rename_i aV;simp only[some.injEq]at h;subst h;obtain⟨m,rfl⟩:=Int.eq_ofNat_of_zero_le aV;exact .inr ⟨k,rfl⟩
    .cases h
   |_=>simp[jF]at h
theorem AR {P:Program} {isS:Bool} {len cap a b:Nat} {fP aj:Option I} {yG yH:Option Value} (qY:vg w F s aI fP yG) (qZ:vg w F s aI aj yH) (br:jF 0 fP=some a) (aa:jF len aj=some b) (kB:a<=b) (ac9:b<=cap) (_hlc:len<=cap):
  (Instr.sliceBounds isS len cap yG yH none).run P w= .ok (a,b,cap) w:=by
 rcases T6 qY br with⟨_,rfl,rfl⟩|⟨k,rfl⟩<;>rcases T6 qZ aa with⟨_,rfl,rfl⟩|⟨di,rfl⟩<;>
  simp[Instr.sliceBounds,Instr.sliceBound,asIntOf,kB,ac9]
theorem AU (bP:C.fH) {T:TypeId} (au:(C.T T).flat=true) (v:Value) (fP aj fq:Option Value) (w:World):(Instr.sliceAt T v fP aj fq).run C.P w=(Instr.slice T v fP aj fq).run C.P w:=by
 obtain⟨i,d,z,aP,aY,aU,b4,cM,cl,b9⟩:=bP.info (TK au);have d_:∀n e,d≠.array n e:=by
  clear cl;unfold hG.flat at au;generalize (C.T T).k=n2 at*;cases n2<;>cases d<;>simp[n0]at b9 au⊢
 cases d<;>first|exact(d_ _ _ rfl).elim|simp[Instr.sliceAt,run_underlying cl]
theorem AV {x:hG} {k:qc} (h:x.k=k) (au:k≠.other) (ab:∀aF,k≠.struct aF) (aa:∀e,k≠.gz e:=by simp):x.flat=true:=by
 unfold hG.flat;rw[h];cases k<;>first|rfl|exact(au rfl).elim|exact(aa _ rfl).elim|exact(ab _ rfl).elim
theorem bt.split:∀(n:Nat) (xs:ayk) (cs:ayi) (a7:Nat->Prop),bt w F xs cs a7->∃cr c2 cI eF,cs=cr++c2/\bt w F (xs.take n) cr cI/\bt w F (xs.drop n) c2 eF/\(∀b,cI b->a7 b)/\(∀b,eF b->a7 b)/\(∀b,cI b->¬eF b)
 |0,xs,cs,a7,h=>⟨[],cs,λ_=>False,a7,rfl,by rw[take_zero,bt],h,λ_ h=>h.elim,λ_ h=>h,λ_ h=>h.elim⟩
 |n+1,[],cs,a7,h=>by rw[bt]at h;subst h;exact⟨[],[],λ_=>False,λ_=>False,rfl,by rw[take_nil,bt],by rw[drop_nil,bt],λ_ h=>h.elim,λ_ h=>h.elim,λ_ h=>h.elim⟩
 |n+1,x::xs,cs,a7,h=>by
  rw[bt]at h;obtain⟨cr,c2,ji,h2,rfl,ad,af,aG,bf,bU⟩:=h;obtain⟨d1,d2,cI,eF,rfl,g1,g2,g3,g4,g5⟩:=bt.split n xs c2 h2 af;refine⟨cr++d1,d2,λb=>ji b\/cI b,eF,by simp,?_,g2,?_,λb aa=>bf _ (g4 _ aa),?_⟩
  .rw[take_succ_cons,bt];exact⟨cr,d1,ji,cI,rfl,ad,g1,λ_ h=>.inl h,λ_ h=>.inr h,λb aa ar=>bU b aa (g3 b ar)⟩
  .rintro b (aa|aa)
   .exact aG b aa
   .exact bf b (g3 b aa)
  .rintro b (aa|aa) ar
   .exact bU b aa (g4 b ar)
   .exact g5 b aa ar
theorem ac_ (bP:C.fH) (h:cb w0 F0 X F S s aI w) {T:TypeId} {x:I} {v:Value} {fP aj:Option I} {yG yH:Option Value} (ao:x.plain=true) (aJ:aO w F s aI x v (λ_=>False)) (qY:vg w F s aI fP yG) (qZ:vg w F s aI aj yH)
  (he:iP C s T x fP aj=some (av,s1)):Good C w0 F0 X aI w (Instr.sliceAt T v yG yH none) av s1:=by
 unfold iP at he;split at he
 .rename_i l au;have:=o9 aJ;subst this;obtain⟨i,d,z,aP,aY,aU,b4,cM,cl,b9⟩:=bP.info (hz au (by simp));rw[au]at b9;have:=tB b9;subst this;split at he
  .rename_i a b br aa;split at he
   .rename_i kB;simp only[some.injEq,Prod.mk.injEq]at he;obtain⟨rfl,rfl⟩:=he;refine Good.same h ?_ rfl (sd _);rw[AU bP (AV au (by simp) (by simp))];have fj:(⟨⟨l⟩⟩:ByteArray).size=l.length:=rfl;have q0:=AR (P:=C.P) (isS:=false) (len:=l.length) (cap:=l.length) qY qZ br aa kB.1 kB.2 (Nat.le_refl _);have ada:(⟨⟨l⟩⟩:ByteArray).extract a b=⟨⟨(l.take b).drop a⟩⟩:=by
     apply ByteArray.ext;simp[ByteArray.data_extract,drop_take]
    simp[Instr.slice,run_underlying cl,fj,q0,ada]
   .cases he
  .cases he
 .rename_i e au;have:=w5 aJ;subst this;obtain⟨i,d,z,aP,aY,aU,b4,cM,cl,b9⟩:=bP.info (hz au (by simp));rw[au]at b9;have:=oD b9;subst this;split at he
  .rename_i br aa;split at he
   .rename_i vh;obtain⟨tC,bJ,vc,f1,f2,f3,f4,f5,f6,f7⟩:=bP.info vh;simp only[some.injEq,Prod.mk.injEq]at he;obtain⟨rfl,rfl⟩:=he;have q0:=AR (P:=C.P) (isS:=true) (len:=0) (cap:=0) qY qZ br aa (Nat.le_refl _) (Nat.le_refl _) (Nat.le_refl _);refine Good.same h (v:=.slice none 0 0) ?_ rfl aJ;rw[AU bP (AV au (by simp) (by simp))];simp[Instr.slice,run_underlying cl,q0,nh f1,f2]
   .cases he
  .cases he
 .rename_i e xs au;obtain⟨i,d,z,aP,aY,aU,b4,cM,cl,b9⟩:=bP.info (hz au (by simp));rw[au]at b9;have:=oD b9;subst this;split at he
  .rename_i a b br aa;split at he
   .rename_i kB;obtain⟨adb,T7,vh,nc⟩:=kB;obtain⟨tC,bJ,vc,f1,f2,f3,f4,f5,f6,f7⟩:=bP.info vh;simp only[some.injEq,Prod.mk.injEq]at he;obtain⟨rfl,rfl⟩:=he;rcases H3 aJ with⟨rfl,AW,c,rfl,Mq,yE⟩|⟨lJ,o,cap,fo,sz,rfl,ad,af,aG,bf,bU,dc⟩
    .have jm:b=0:=by simpa using T7
     subst jm;have ade:a=0:=by omega
     subst ade;have q0:=AR (P:=C.P) (isS:=true) (len:=0) (cap:=c) qY qZ br aa (Nat.le_refl _) (zero_le _) (zero_le _);refine Good.same h (v:=.slice AW 0 c) ?_ rfl ((aO.dh rfl).2 ⟨rfl,by rw[aB];exact .inl ⟨rfl,AW,c,rfl,Mq,yE⟩⟩);rw[AU bP (AV au (by simp) (by simp))];cases AW with
     |none=>
      have:=yE rfl;subst this;simp[Instr.slice,run_underlying cl,q0,nh f1,f2]
     |some AW=>simp[Instr.slice,run_underlying cl,q0,nh f1,f2,Addr.add]
    .have q0:=AR (P:=C.P) (isS:=true) (len:=xs.length) (cap:=cap) qY qZ br aa adb (Nat.le_trans T7 af) af;obtain⟨cr,c2,cI,eF,rfl,g1,g2,g3,g4,g5⟩:=bt.split b xs fo _ dc;obtain⟨d1,d2,awe,T8,rfl,bS,ct,dT,ed,eQ⟩:=bt.split a (xs.take b) cr _ g1;have H5:d1.length=a*(C.T e).sz:=by
      rw[bt.length _ _ _ bS,yv _ (λd an=>nc d (mem_of_mem_take (mem_of_mem_take an))),length_take,length_take];congr 1;omega
     have hlen:((xs.take b).drop a).length=b-a:=by simp;omega
     have ml:jv w lJ (o+a*(C.T e).sz) d2:=by
      rw[<-H5];have:jv w lJ o (d1++(d2++c2)):=by simpa using bU
      exact this.Mh
     have H6:bt w F ((xs.take b).drop a) d2 (λ_=>False):=bt.mono (λ_ h=>h) _ _ _ _ (λb aa=>(g3 _ (ed _ aa)).elim) ct;have mem:∀d∈(xs.take b).drop a,d.wd=sz:=λd an=>bf d (mem_of_mem_take (mem_of_mem_drop an));have run:(Instr.sliceAt T (.slice (some ⟨lJ,o,none⟩) xs.length cap) yG yH none).run C.P w= .ok (.slice (if cap=a then some ⟨lJ,o,none⟩else some ⟨lJ,o+a*(C.T e).sz,none⟩) (b-a) (cap-a)) w:=by
      rw[AU bP (AV au (by simp) (by simp))];simp[Instr.slice,run_underlying cl,q0,nh f1,f2,Addr.add_lit]
     refine⟨_,w,F,S,run,h,.inl ⟨rfl,(aO.dh rfl).2 ⟨rfl,?_⟩⟩⟩;simp only[cT,jx];rw[aB];by_cases T9:cap=a
     .have adf:b=a:=by omega
      subst adf;have D_:(xs.take b).drop b=[]:=by simp
      rw[if_pos T9];rw[D_]at H6⊢;rw[bt]at H6;subst H6;exact .inr ⟨lJ,o,cap-b,[],sz,by simp,ad,zero_le _,by omega,by simp,λj c bF=>by simp at bF,by rw[bt]⟩
     .rw[if_neg T9];exact .inr ⟨lJ,_,cap-a,d2,sz,by rw[hlen],ad,by rw[hlen];omega,by omega,mem,ml,H6⟩
   .cases he
  .cases he
 .rename_i e y q au;split at he
  .rename_i sz xs an;split at he
   .rename_i b br aa;split at he
    .rename_i w7;split at he
     .rename_i D4 s2 ba;simp only[some.injEq,Prod.mk.injEq]at he;obtain⟨rfl,rfl⟩:=he;obtain⟨i,d,z,aP,aY,aU,b4,cM,cl,b9⟩:=bP.info (hz au (by simp));rw[au]at b9;have:=oD b9;subst this;obtain⟨tC,bJ,vc,f1,f2,f3,f4,f5,f6,f7⟩:=bP.info w7.2;have yF:D4= .ag sz xs:=by
       simp only[dG,an,I.plain]at ba;simp at ba;exact ba.1.symm
      subst yF;obtain⟨cI,g0,g1,g2,Sn,g3,g4,g5,g6,g7,g8⟩:=r_ h rfl aJ ba;rw[h4 g2,aB]at g3;rcases g3 with⟨rfl,a0,nC⟩|⟨lJ,cap,cur,gb,fr,a7,nC,bS,ct,dT,ed,eQ,de,kE,fK,pc,ko⟩
      .simp at nC;subst nC;have jm:b=0:=by simpa using w7.1
       subst jm;have q0:=AR (P:=C.P) (isS:=true) (len:=0) (cap:=0) qY qZ br aa (Nat.le_refl _) (Nat.le_refl _) (Nat.le_refl _);refine⟨.slice a0 0 0,w,F,cI,?_,g0,.inr ⟨rfl,rfl,λ_=>False,by simp only[cT,jx];rw[aB];exact .inl ⟨rfl,_,rfl⟩,λ_ h=>h.elim,λ_ h=>h.elim,λ_ _ h=>h.elim,λ_ h=>h.elim⟩⟩;rw[AU bP (AV au (by simp) (by simp))];cases a0<;>simp[Instr.slice,run_underlying cl,q0,nh f1,f2]
      .simp at nC;subst nC;have q0:=AR (P:=C.P) (isS:=true) (len:=xs.length) (cap:=cap) qY qZ br aa (zero_le _) (Nat.le_trans w7.1 ed) ed;have hlen:(xs.take b).length=b:=by simp;omega
       have run:(Instr.sliceAt T (.slice (some ⟨lJ,0,none⟩) xs.length cap) yG yH none).run C.P w= .ok (.slice (some ⟨lJ,0,none⟩) b cap) w:=by
        rw[AU bP (AV au (by simp) (by simp))];simp[Instr.slice,run_underlying cl,q0,nh f1,f2,Addr.add_lit]
       refine⟨_,w,F,cI,run,g0,.inr ⟨rfl,rfl,Sn,?_,g4,g5,g6,g7⟩⟩;simp only[cT,jx];rw[aB];obtain⟨cr,c2,ji,h2,ar,m1,m2,m3,m4,m5⟩:=bt.split b xs _ _ fK;refine .inr ⟨lJ,cap,cur,gb,fr,a7,by rw[hlen],bS,ct,dT,by omega,eQ,de,λd an=>kE d (mem_of_mem_take an),?_,pc,ko⟩;have H5:cr.length=b*sz:=by
        rw[bt.length _ _ _ m1,yv _ (λd an=>kE d (mem_of_mem_take an)),hlen]
       have:cur.toList.take ((xs.take b).length*sz)=cr:=by
        rw[hlen];have af:b*sz<=xs.length*sz:=mul_le_mul_right _ w7.1;have:(cur.toList.take (xs.length*sz)).take (b*sz)=cr:=by rw[ar,take_left' H5]
        rwa [take_take,Nat.min_eq_left af]at this
       rw[this];exact bt.mono (λ_ h=>h) _ _ _ _ m3 m1
     .cases he
    .cases he
   .cases he
  .cases he
 .cases he
end
section
variable {C:cm} {w0 w:World} {F0 X F:Nat->Prop} {S:Nat->Nat->Prop} {s s1:ak} {aI:Nat->Value} {av:I}
def Src (P:Program) (w:World) (size:Nat) (x:Value) (m:Nat) (news:ayi):Prop:=
 ∀aN:World,aN.heap=w.heap->(Builtin.lenOf x).run P aN= .ok m aN/\(Builtin.firstCells size m x).run P aN= .ok news.toArray aN
def Mr (d:TypeDesc):Prop:=(∃e,d= .slice e)\/d= .string
theorem adg {P:Program} {T dU ty e:TypeId} {vi:TypeDesc} {i:TypeInfo} (ba:P.underlying T=some (.slice e)) (hu:P.underlying dU=some vi) (yI:Mr vi) (aj:P.info? e=some i)
  {x:Value} {m:Nat} {news:ayi} (H7:Src P w i.size x m news) {b n cap:Nat} {cur:Array Value} {gb:TypeId} {fr:Nat×Nat} {l mid r:ayi} (aa:w.heap[b]? =some (.cells cur gb fr)) (bD:pF fr cur.size)
  (ar:cur.toList=l++(mid++r)) (hl:l.length=n*i.size) (hm:mid.length=news.length) (HZ:∀v∈news,Value.hF v=true) (tG:n+m<=cap):
  ∃aN,(Builtin.append_ #[T,dU] ty #[.slice (some ⟨b,0,none⟩) n cap,x]).run P w= .ok (.slice (some ⟨b,0,none⟩) (n+m) cap) aN/\aN.heap[b]? =some (.cells (l++(news++r)).toArray gb fr)/\
   (∀c,c≠b->aN.heap[c]? =w.heap[c]?)/\aN.heap.size=w.heap.size/\aN.os=w.os/\aN.tape=w.tape/\Out aN w:=by
 obtain⟨aN,m1,m2⟩:=HY (P:=P) (b:=b) (o:=n*i.size) (e:=gb) (fr:=fr) news 0 cur w l mid r aa bD ar (by omega) hm HZ;refine⟨aN,?_,m2⟩;obtain⟨ad,af⟩:=H7 w rfl;rcases yI with⟨hp,rfl⟩|rfl<;>simp[Builtin.append_,run_underlying ba,run_underlying hu,nh aj,ad,af,tG,Addr.add_lit,m1]
theorem adh {P:Program} {T dU ty e:TypeId} {vi:TypeDesc} {i:TypeInfo} {z:Value} (ba:P.underlying T=some (.slice e)) (hu:P.underlying dU=some vi) (yI:Mr vi) (aj:P.info? e=some i) (b8:i.zero=some z)
  {x:Value} {m:Nat} {news:ayi} (H7:Src P w i.size x m news) {base:Option Addr} {n cap:Nat} {sf:ayi} (hold:Src P w i.size (.slice base n cap) n sf) (tG:¬n+m<=cap)
  (aV:n+m<=9223372036854775807) (Ms:(n+m)*i.bytes<=140737488355328):
  (Builtin.append_ #[T,dU] ty #[.slice base n cap,x]).run P w= .ok (.slice (some ⟨w.heap.size,0,none⟩) (n+m) (grownCap w (n+m) cap e))
   (w.drew.alloc (.cells (sf.toArray++news.toArray++Builtin.zeroCells z.cells (grownCap w (n+m) cap e-(n+m))) e)):=by
 have ad:=(H7 w rfl).1;have af:=(H7 w.drew rfl).2;have aG:=(hold w.drew rfl).2;have awf:=growslice_fits (need:=n+m) (old:=cap) (by omega) Ms;have kk:¬(281474976710656<Builtin.nextslicecap (n+m) cap*i.bytes):=by omega
 have H8:∀k (w:World),(askRoom k).run P w= .ok () w:=by
  intro k w;unfold askRoom;split<;>rfl
 have adi:¬(9223372036854775807<(n:Int)+(m:Int)/\i.bytes=0):=by omega
 rcases yI with⟨hp,rfl⟩|rfl<;>
  .simp[Builtin.append_,run_underlying ba,run_underlying hu,nh aj,DY aj,ad,tG,kk,Question.forced,H8];rw[if_neg adi,aG];simp[af,yA aj b8,newRow,grownCap];have aP:(sf++news).toArray=sf.toArray++news.toArray:=by simp
   rw[aP,Array.append_assoc]
def H9 (C:cm) (e dU:TypeId):Bool:=match(C.T dU).k,(C.T e).k with
 | .slice hp,_=>hp==e
 | .str,.int .u8=>true
 |_,_=>false
def vj (C:cm) (s:ak) (T dU:TypeId) (x y:I):Option (I×ak):=
 match(C.T T).k with
 | .slice e=>if(C.T e).ok=true/\(C.T e).zero.wd=(C.T e).sz/\(flat (C.T e).zero).isSome=true/\H9 C e dU=true then
   match(match x with| .bg=>some (I.ag (C.T e).sz [],s)| .h a q=>dG s (.h a q)|_=>none)with
   |some (.ag sz xs,s1)=>if sz=(C.T e).sz then
     match(match ng x.owner y with
      | .bg=>some ([],s1)
      | .slice cP=>some (cP,s1)
      | .str l=>some (l.map i_,s1)
      | .h a q=>match dG s1 (.h a q)with
        |some (.ag _ cP,s2)=>some (cP,s2)
        |_=>none
      |_=>none)with
     |some (cP,s2)=>if(∀d∈cP,d.wd=(C.T e).sz)/\(xs.length+cP.length)*(C.T e).bytes<=140737488355328/\xs.length+cP.length<=9223372036854775807 then some (.ag sz (xs++cP),s2)else none
     |none=>none
    else none
   |_=>none
   else none
 |_=>none
theorem bt.append {xs cP:ayk} {cr c2:ayi} {cI eF a7:Nat->Prop} (ad:bt w F xs cr cI) (af:bt w F cP c2 eF) (aP:∀b,cI b->a7 b) (aY:∀b,eF b->a7 b) (aU:∀b,cI b->¬eF b):bt w F (xs++cP) (cr++c2) a7:=by
 induction xs generalizing cr cI a7 with
 |nil=>rw[bt]at ad;subst ad;exact bt.mono (λ_ h=>h) _ _ _ _ aY af
 |cons x xs ih=>
  rw[bt]at ad;obtain⟨adj,adk,ji,h2,rfl,g1,g2,g3,g4,g5⟩:=ad;rw[cons_append,bt];refine⟨adj,adk++c2,ji,λb=>h2 b\/eF b,by simp,g1,ih g2 (λb h=>.inl h) (λb h=>.inr h) (λb h=>aU b (g4 b h)),λb h=>aP b (g3 b h),?_,?_⟩
  .rintro b (h|h)
   .exact aP b (g4 b h)
   .exact aY b h
  .rintro b h (bC|bC)
   .exact g5 b h bC
   .exact aU b (g3 b h) bC
theorem Mt {P:Program} {size m cap:Nat} {b o:Nat} {news:ayi} (ml:jv w b o news) (hl:news.length=m*size):Src P w size (.slice (some ⟨b,o,none⟩) m cap) m news:=by
 intro aN hw;refine⟨rfl,?_⟩;refine run_firstCells_some aN size m ⟨b,o,none⟩ m cap news hl (λj v bF=>?_);rw[Addr.add_lit];have:=ml j v bF;simpa [World.cell?,hw]using this
theorem T_ {P:Program} {size cap:Nat}:Src P w size (.slice none 0 cap) 0 []:=by
 intro aN _;exact⟨rfl,by simp[Builtin.firstCells]⟩
theorem Mu {P:Program} {size cap:Nat} (a:Option Addr):Src P w size (.slice a 0 cap) 0 []:=by
 cases a with
 |none=>exact T_
 |some a=>
  intro aN _;exact⟨rfl,run_firstCells_some aN size 0 a 0 cap [] (by simp) (λj v bF=>by simp at bF)⟩
theorem adl {P:Program} (l:ayc):Src P w 1 (.string ⟨⟨l⟩⟩) l.length (l.map λb=>.int .u8 (b.toNat:Int)):=by
 intro aN _;refine⟨rfl,?_⟩;have:(⟨⟨l⟩⟩:ByteArray).extract 0 l.length=⟨⟨l⟩⟩:=by
  apply ByteArray.ext;simp[ByteArray.data_extract]
 simp[Builtin.firstCells,this]
theorem bt.yJ {sz:Nat} {xs:ayk} {cs:ayi} {a7:Nat->Prop} (h:bt w F xs cs a7) (hw:∀d∈xs,d.wd=sz):cs.length=xs.length*sz:=by
 rw[bt.length _ _ _ h,yv _ hw]
theorem cb.turn (h:cb w0 F0 X F S s aI w) {aN:World} {b:Nat} (aa:∀c,c≠b->aN.heap[c]? =w.heap[c]?) (ab:aN.heap.size=w.heap.size) (ad:aN.os=w.os) (af:aN.tape=w.tape) (aG:Out aN w)
  (bE:¬F b) (cj:∀u,¬S u b) (a_:X b\/w0.heap.size<=b):cb w0 F0 X F S s aI aN where
 h3:=h.h3
 iB:=h.iB
 f_:=λc ar=>by rw[ab];exact h.f_ c ar
 fz:=λt c ar=>by rw[ab];exact h.fz t c ar
 gD:=h.gD
 ga:=h.ga
 eU:=h.eU
 el:=λt=>aO.frame (Sx:=S) (λc ar=>aa c (by rintro rfl;exact bE ar)) (λ_ h=>h) (λx c ar=>aa c (by rintro rfl;exact cj x ar)) h.el _ _ _ (λc ar=>aa c (by rintro rfl;exact cj t ar)) (h.el t)
 old:=λc eI mJ=>by
  rw[aa c ?_]
  .exact h.old c eI mJ
  .rintro rfl;rcases a_ with a_|a_
   .exact mJ a_
   .omega
 size:=by rw[ab];exact h.size
 os:=ad.trans h.os
 tape:=af.trans h.tape
 output:=aG.trans h.output
 gq:=h.gq
theorem adm (bP:C.fH) (h:cb w0 F0 X F S s aI w) {T dU ty:TypeId} {x y:I} {km lI:Value} (ao:aO w F s aI x km (λ_=>False)) (hy:aO w F s aI y lI (λ_=>False))
  (he:vj C s T dU x y=some (av,s1)):Good C w0 F0 X aI w (Builtin.append_ #[T,dU] ty #[km,lI]) av s1:=by
 unfold vj at he;split at he
 .rename_i e au;obtain⟨Ua,d,Ub,aP,aY,aU,b4,cM,cl,b9⟩:=bP.info (hz au (by simp));rw[au]at b9;have:=oD b9;subst this;split at he
  .rename_i D2;obtain⟨vh,yK,yL,tH⟩:=D2;obtain⟨i,Uc,z,f1,f2,f3,f4,f5,f6,f7⟩:=bP.info vh;obtain⟨h7,qh⟩:=isSome_iff_exists.1 yL;have yM:=f5 h7 qh;have w8:h7.length=(C.T e).sz:=by
    have:=aB.length _ _ _ ((aB.flat (w:=w) (F:=F) _).1 (C.T e).zero h7 (λ_=>False) (Nat.le_refl _) qh);rw[this,yK]
   obtain⟨vi,hu,yI⟩:∃vi,C.P.underlying dU=some vi/\Mr vi:=by
    unfold H9 at tH;split at tH
    .rename_i hp nD;obtain⟨_,bJ,_,_,_,_,_,_,g6,g7⟩:=bP.info (hz nD (by simp));rw[nD]at g7;exact⟨bJ,g6,.inl ⟨_,oD g7⟩⟩
    .rename_i nD _;obtain⟨_,bJ,_,_,_,_,_,_,g6,g7⟩:=bP.info (hz nD (by simp));rw[nD]at g7;exact⟨bJ,g6,.inr (tB g7)⟩
    .cases tH
   split at he
   .rename_i sz xs Mv tI;split at he
    .rename_i fj;subst fj;split at he
     .rename_i cP Ea q1;split at he
      .rename_i adn;obtain⟨AX,Ms,yN⟩:=adn;simp only[some.injEq,Prod.mk.injEq]at he;obtain⟨rfl,rfl⟩:=he;obtain⟨ji,a0,Sn,a3,a4,a5,pI,pb,Mw,a9,w9⟩:∃ji,cb w0 F0 X F ji Mv aI w/\∃Sn,aB w F (.ag (C.T e).sz xs) [km] Sn/\(∀b,Sn b->b<w.heap.size)/\(∀b,Sn b->¬F b)/\(∀u b,Sn b->¬ji u b)/\
         (∀b,Sn b->X b\/w0.heap.size<=b)/\(∀u b,ji u b->S u b)/\(∀b,Sn b->∃u,S u b)/\aO w F Mv aI (ng x.owner y) lI (λ_=>False):=by
        split at tI
        .simp only[some.injEq,Prod.mk.injEq,I.ag.injEq,true_and]at tI;obtain⟨rfl,rfl⟩:=tI;have:=w5 ao;subst this;exact⟨S,h,λ_=>False,by rw[aB];exact .inl ⟨rfl,_,rfl⟩,λ_ h=>h.elim,λ_ h=>h.elim,λ_ _ h=>h.elim,λ_ h=>h.elim,λ_ _ h=>h,λ_ h=>h.elim,hy⟩
        .obtain⟨cI,g0,g1,g2,Sn,g3,g4,g5,g6,g7,g8,g9,g10⟩:=r_ h rfl ao tI;rw[h4 g2]at g3;exact⟨cI,g0,Sn,g3,g4,g5,g6,g7,g8,g9,g10 _ _ _ hy⟩
        .cases tI
       obtain⟨h2,lJ,qi,news,hA,fV,gd,bM,cV,dA,qj,b7⟩:∃h2,cb w0 F0 X F h2 Ea aI w/\∃qi news,bt w F cP news qi/\Src C.P w i.size lI cP.length news/\(∀b,qi b->b<w.heap.size)/\(∀b,qi b->¬F b)/\(∀u b,qi b->¬h2 u b)/\
         (∀b,qi b->X b\/w0.heap.size<=b)/\(∀u b,h2 u b->ji u b)/\(∀b,qi b->∃u,ji u b):=by
        split at q1
        .rename_i yO;simp only[some.injEq,Prod.mk.injEq]at q1;obtain⟨rfl,rfl⟩:=q1;rw[yO]at w9;have:=w5 w9;subst this;exact⟨ji,a0,λ_=>False,[],by rw[bt],T_,λ_ h=>h.elim,λ_ h=>h.elim,λ_ _ h=>h.elim,λ_ h=>h.elim,λ_ _ h=>h,λ_ h=>h.elim⟩
        .rename_i fs yO;simp only[some.injEq,Prod.mk.injEq]at q1;obtain⟨rfl,rfl⟩:=q1;rw[yO]at w9;rcases H3 w9 with⟨rfl,AW,awg,rfl,_,yE⟩|⟨b,o,cap,fo,ado,rfl,bS,ct,dT,ed,eQ,de⟩
         .exact⟨ji,a0,λ_=>False,[],by rw[bt],Mu AW,λ_ h=>h.elim,λ_ h=>h.elim,λ_ _ h=>h.elim,λ_ h=>h.elim,λ_ _ h=>h,λ_ h=>h.elim⟩
         .exact⟨ji,a0,λ_=>False,fo,de,Mt eQ (by rw[f2];exact bt.yJ de AX),λ_ h=>h.elim,λ_ h=>h.elim,λ_ _ h=>h.elim,λ_ h=>h.elim,λ_ _ h=>h,λ_ h=>h.elim⟩
        .rename_i l yO;simp only[some.injEq,Prod.mk.injEq]at q1;obtain⟨rfl,rfl⟩:=q1;rw[yO]at w9;have:=o9 w9;subst this;have H_:l≠[]->i.size=1:=by
          intro hl;cases l with
          |nil=>exact(hl rfl).elim
          |cons b l=>rw[f2,<-AX (i_ b) (by simp)];rfl
         by_cases hl:l=[]
         .subst hl;refine⟨ji,a0,λ_=>False,[],by simp only[map_nil];rw[bt],?_,λ_ h=>h.elim,λ_ h=>h.elim,λ_ _ h=>h.elim,λ_ h=>h.elim,λ_ _ h=>h,λ_ h=>h.elim⟩;intro aN _;exact⟨rfl,by simp[Builtin.firstCells,ByteArray.extract];rfl⟩
         .refine⟨ji,a0,λ_=>False,_,T4 l _,?_,λ_ h=>h.elim,λ_ h=>h.elim,λ_ _ h=>h.elim,λ_ h=>h.elim,λ_ _ h=>h,λ_ h=>h.elim⟩;rw[H_ hl,length_map];exact adl l
        .rename_i a q yO;split at q1
         .rename_i awh fs s2 ba;simp only[some.injEq,Prod.mk.injEq]at q1;obtain⟨rfl,rfl⟩:=q1;rw[yO]at w9;obtain⟨eF,g0,g1,g2,qi,g3,g4,g5,g6,g7,g8,g9,g10⟩:=r_ a0 rfl w9 ba;rw[h4 g2,aB]at g3;rcases g3 with⟨rfl,adp,nC⟩|⟨b,cap,cur,gb,fr,a7,nC,bS,ct,dT,ed,eQ,de,kE,fK,pc,ko⟩
          .simp at nC;subst nC;exact⟨eF,g0,λ_=>False,[],by rw[bt],(Mu adp),λ_ h=>h.elim,λ_ h=>h.elim,λ_ _ h=>h.elim,λ_ h=>h.elim,g8,λ_ h=>h.elim⟩
          .simp at nC;subst nC;refine⟨eF,g0,a7,_,fK,Mt (AG ct _) ?_,λc ar=>g4 c (pc c ar),λc ar=>g5 c (pc c ar),λu c ar=>g6 u c (pc c ar),λc ar=>g7 c (pc c ar),g8,λc ar=>g9 c (pc c ar)⟩;rw[f2];exact bt.yJ fK AX
         .cases q1
        .cases q1
       have w_:news.length=cP.length*(C.T e).sz:=bt.yJ hA AX;have q2:∀c,Sn c->¬qi c:=λc ad af=>by obtain⟨u,hu⟩:=b7 c af;exact pI u c ad hu
       have kB:∀u c,Sn c->¬h2 u c:=λu c ad af=>pI u c ad (qj u c af);have grow:∀(base:Option Addr) (cap:Nat) (sf:ayi) (Sx:Nat->Prop),km= .slice base xs.length cap->Src C.P w i.size (.slice base xs.length cap) xs.length sf->bt w F xs sf Sx->(∀d∈xs,d.wd=(C.T e).sz)->(∀c,Sx c->Sn c)->¬xs.length+cP.length<=cap->
         Good C w0 F0 X aI w (Builtin.append_ #[T,dU] ty #[km,lI]) (.ag (C.T e).sz (xs++cP)) Ea:=by
        intro base cap sf Sx Ml hold Ud Ue fU tG;subst Ml;have aQ:=adh (ty:=ty) cl hu yI f1 f4 fV hold tG yN (by rw[f3];exact Ms);have Mp:=grownCap_ge w (xs.length+cP.length) cap e;have Mq:=grownCap_le_maxLen w (xs.length+cP.length) cap e (by unfold maxLen;omega);have Eb:=bt.yJ Ud Ue;have adq:bt w F (xs++cP) (sf++news) (λc=>Sx c\/qi c):=bt.append Ud hA (λ_ h=>.inl h) (λ_ h=>.inr h) (λc ad af=>q2 c (fU c ad) af);have adr:(sf++news).length=(xs++cP).length*(C.T e).sz:=by simp[Eb,w_,Nat.add_mul]
        have oF:=lJ.H4 (aN:=w.drew.alloc (.cells (sf.toArray++news.toArray++Builtin.zeroCells z.cells (grownCap w (xs.length+cP.length) cap e-(xs.length+cP.length))) e))
         (sz:=(C.T e).sz) (cap:=grownCap w (xs.length+cP.length) cap e) (xs:=xs++cP) (e:=e) (fr:=(0,0)) (Sn:=λc=>Sx c\/qi c) rfl rfl rfl ⟨rfl,λ_=>le_succ _⟩
         (λo _ ⟨_,af⟩=>absurd af (not_lt_zero _)) (by simpa using Mp) Mq
         (by
          simp only[Array.size_append,List.size_toArray,size_zeroCells,yM,Eb,w_,w8,<-Nat.add_mul];congr 1;omega)
         (by
          intro d an;rcases mem_append.1 an with an|an
          .exact Ue d an
          .exact AX d an)
         (by
          simp only[Array.toList_append];rw[take_left' adr];exact adq)
         (by rintro c (ar|ar);exact a4 c (fU c ar);exact gd c ar) (by rintro c (ar|ar);exact a5 c (fU c ar);exact bM c ar) (by rintro u c (ar|ar);exact kB u c (fU c ar);exact cV u c ar) (by rintro c (ar|ar);exact pb c (fU c ar);exact dA c ar)
        refine⟨_,_,F,h2,aQ,oF.1,?_⟩;have:=oF.2;simpa using this
       rw[aB]at a3;rcases a3 with⟨rfl,Ia,nC⟩|⟨b,cap,cur,gb,fr,a7,nC,bS,ct,dT,ed,eQ,de,kE,fK,pc,ko⟩
       .simp at nC;subst nC;by_cases Uf:cP=[]
        .subst Uf;have Mx:news=[]:=by simpa using w_
         subst Mx;refine⟨.slice Ia 0 0,w,F,h2,?_,lJ,.inr ⟨rfl,rfl,λ_=>False,by simp only[cT,jx];rw[aB];exact .inl ⟨rfl,_,rfl⟩,λ_ h=>h.elim,λ_ h=>h.elim,λ_ _ h=>h.elim,λ_ h=>h.elim⟩⟩;obtain⟨ad,af⟩:=fV w rfl;cases Ia<;>rcases yI with⟨hp,rfl⟩|rfl<;>simp at ad af<;>simp[Builtin.append_,run_underlying cl,run_underlying hu,nh f1,ad,af,storeCells]
        .exact grow Ia 0 [] (λ_=>False) rfl (Mu Ia) (by rw[bt]) (by simp) (λ_ h=>h.elim) (by
          cases cP with
          |nil=>exact(Uf rfl).elim
          |cons y cP=>simp)
       .simp at nC;subst nC;by_cases tG:xs.length+cP.length<=cap
        ·
         have Eb:=bt.yJ fK kE;have hlen:cur.toList.length=cap*(C.T e).sz:=by simp[de]
         have hle:(xs.length+cP.length)*(C.T e).sz<=cap*(C.T e).sz:=mul_le_mul_right _ tG;rw[Nat.add_mul]at hle;have pH:cur.toList=cur.toList.take (xs.length*(C.T e).sz)++((cur.toList.drop (xs.length*(C.T e).sz)).take news.length++(cur.toList.drop (xs.length*(C.T e).sz)).drop news.length):=by
          rw[take_append_drop,take_append_drop]
         obtain⟨aN,m1,m2,m3,m4,m5,m6,m7⟩:=adg (ty:=ty) (n:=xs.length) (m:=cP.length) (cap:=cap) cl hu yI f1 fV ct dT.low pH (by rw[f2];exact Eb) (by simp[hlen,w_];omega) (bt.yB _ _ _ hA) tG;have ads:=lJ.turn m3 m4 m5 m6 m7 (a5 b bS) (λu hu=>kB u b bS hu) (pb b bS);have tz:∀c,F c->aN.heap[c]? =w.heap[c]? :=λc ar=>m3 c (by rintro rfl;exact a5 _ bS ar);refine⟨_,aN,F,h2,m1,ads,.inr ⟨rfl,rfl,λc=>Sn c\/qi c,?_,?_,?_,?_,?_⟩⟩
         .simp only[cT,jx];rw[aB];have Ug:(cur.toList.take (xs.length*(C.T e).sz)++(news++(cur.toList.drop (xs.length*(C.T e).sz)).drop news.length)).toArray.size=cur.size:=by
           have:cur.size=cur.toList.length:=by simp
           rw[this];conv=>rhs;rw[pH]
           simp[hlen,w_];omega
          refine .inr ⟨b,cap,_,gb,fr,λc=>a7 c\/qi c,by simp,.inl bS,m2,by rw[Ug];exact dT,by simpa using tG,eQ,by rw[Ug];exact de,?_,?_,?_,?_⟩
          .intro d an;rcases mem_append.1 an with an|an
           .exact kE d an
           .exact AX d an
          .have AQ:=bt.frame tz _ _ _ (λc ar=>m3 c (by rintro rfl;exact ko ar)) fK;have yz:=bt.frame tz _ _ _ (λc ar=>m3 c (by rintro rfl;exact q2 _ bS ar)) hA;have:((cur.toList.take (xs.length*(C.T e).sz)++(news++(cur.toList.drop (xs.length*(C.T e).sz)).drop news.length)).toArray.toList.take ((xs++cP).length*(C.T e).sz))=cur.toList.take (xs.length*(C.T e).sz)++news:=by
            simp only[];rw[<-append_assoc];exact take_left' (by rw[length_append,Eb,w_,length_append,Nat.add_mul])
           rw[this];exact bt.append AQ yz (λ_ h=>.inl h) (λ_ h=>.inr h) (λc ad af=>q2 c (pc c ad) af)
          .rintro c (ar|ar)
           .exact .inl (pc c ar)
           .exact .inr ar
          .rintro(ar|ar)
           .exact ko ar
           .exact q2 b bS ar
         .rw[m4];rintro c (ar|ar);exact a4 c ar;exact gd c ar
         .rintro c (ar|ar);exact a5 c ar;exact bM c ar
         .rintro u c (ar|ar);exact kB u c ar;exact cV u c ar
         .rintro c (ar|ar);exact pb c ar;exact dA c ar
        .exact grow (some ⟨b,0,none⟩) cap _ a7 rfl (Mt (AG ct _) (by rw[f2];exact bt.yJ fK kE)) fK kE pc tG
      .cases he
     .cases he
    .cases he
   .cases he
  .cases he
 .cases he
end
section
variable {C:cm} {w0 w aN:World} {F0 X F:Nat->Prop} {S:Nat->Nat->Prop} {s s1:ak} {aI:Nat->Value} {av:I}
theorem cb.adt (h:cb w0 F0 X F S s aI w) {x:Nat} {q:ayf} {d bJ:I} {b:Nat} (an:I.sub q (s x)=some d) (ax:d.plain=false) (My:bJ.tree=true) (ad:∀v,j3 d v->j3 bJ v) (ab:∀v,eY d v->eY bJ v)
  (af:∀vs,bJ≠.tuple vs) (nc:bJ.wd=d.wd) (aa:∀dx a gp,et w q (s x) (cT (aI x)) none=some (d,dx,a)->aB w F d dx gp->gp b/\aB aN F bJ dx gp) (qU:∀c,c≠b->aN.heap[c]? =w.heap[c]?) (fj:aN.heap.size=w.heap.size) (Mb:aN.os=w.os)
  (Mc:aN.tape=w.tape) (yx:Out aN w):∃a7,cb w0 F0 X F a7 (ei (jk x s) x (I.put q bJ (s x))) aI aN:=by
 have ba:=jy an (.inl ax);have ao:=h.el x;rw[aO.dh ba]at ao;obtain⟨dx,a,fi,gp,g0,g1,g2,g3,g4,g5⟩:=ctx q (s x) (cT (aI x)) (S x) none d ao.2 an;obtain⟨yy,aJ⟩:=aa dx a gp g0 g4;have yP:S x b:=g2 b yy;have tz:∀c,F c->aN.heap[c]? =w.heap[c]? :=λc ar=>qU c (by rintro rfl;exact h.gD x _ yP ar);have AM:∀c,fi c->c≠b:=λc ar e=>g3 c ar (e▸yy);have lX:aB aN F (I.put q bJ (s x)) (cT (aI x)) (λc=>fi c\/gp c):=by
  rcases g5 with⟨l,r,aP,aY,aU⟩|⟨lJ,cur,e,fr,l,r,aP,aY,aU,b4,cM,cl⟩
  .rw[aP];exact aU aN bJ dx gp tz (λc ar=>qU c (AM c ar)) nc aJ (λc ar mK=>g3 c mK ar)
  .refine cl aN bJ dx gp tz (λc ar _=>qU c (AM c ar)) ?_ nc aJ (λc ar mK=>g3 c mK ar);rw[qU lJ (AM lJ aY),aU,<-cM]
 have DR:eY (I.put q bJ (s x)) (aI x)/\(I.put q bJ (s x)).tree=true:=by
  cases q with
  |nil=>
   simp only[I.sub,some.injEq]at an;simp only[I.put];exact⟨ab _ (an▸ao.1),My⟩
  |cons k q=>
   refine⟨DQ ao.1 an ad (λ_=>af) nc,?_⟩;rcases w2 k q bJ (s x)with⟨aF,gs,aP,e⟩|⟨aF,gs,aP,e⟩|⟨sz,xs,cP,aP,e⟩|⟨y,z,aP,e⟩|e<;>rw[e]<;>first|rfl|exact ba
 let aH:=ei (jk x s) x (I.put q bJ (s x))
 have iA:∀y,y≠x->(aH y).tree=true->aH y=s y/\aI y=aI y:=λy hy ba=>by
  have e:aH y=eg.cJ x (s y):=lb _ _ hy;rw[e]at ba⊢;exact⟨(HQ ba).2,rfl⟩
 have o6:(aH x).plain=false->(s x).plain=false/\∀v,eY (s x) v->eY (aH x) v:=by
  intro _;refine⟨?_,λv aJ=>?_⟩
  .cases bR:(s x).plain with
   |false=>rfl
   |true=>rw[I.L2 _ _ _ bR an]at ax;cases ax
  .simp only[aH,oC];cases q with
   |nil=>
    simp only[I.sub,some.injEq]at an;simp only[I.put];exact ab _ (an▸aJ)
   |cons k q=>exact DQ aJ an ad (λ_=>af) nc
 have both:∀c,(fi c\/gp c)->S x c:=λc ar=>ar.elim (g1 c) (g2 c);refine⟨hc S x (λc=>fi c\/gp c),?_⟩;constructor;case h3=>exact h.h3
 case iB=>exact h.iB
 case f_=>exact λb aa=>by rw[fj];exact h.f_ b aa
 case fz=>
  intro u c aa;rw[fj];simp only[hc]at aa;split at aa
  .exact h.fz x c (both c aa)
  .exact h.fz u c aa
 case gD=>
  intro u c aa;simp only[hc]at aa;split at aa
  .exact h.gD x c (both c aa)
  .exact h.gD u c aa
 case ga=>
  intro u y c d_ aa hy;simp only[hc]at aa hy;split at aa
  .rename_i hu;rw[if_neg (λe=>d_ (hu.trans e.symm))]at hy;exact h.ga x y c (λe=>d_ (hu.trans e)) (both c aa) hy
  .rename_i hu;split at hy
   .exact h.ga u x c hu aa (both c hy)
   .exact h.ga u y c d_ aa hy
 case eU=>
  intro u c aa;simp only[hc]at aa;split at aa
  .exact h.eU x c (both c aa)
  .exact h.eU u c aa
 case el=>
  intro u;by_cases hu:u=x
  .subst hu;rw[oC,DO];exact(aO.dh DR.2).2 ⟨DR.1,lX⟩
  .rw[lb _ _ hu,DP _ _ hu];have d_:∀y c,y≠x->S y c->aN.heap[c]? =w.heap[c]? :=λy c hy ar=>qU c (by rintro rfl;exact h.ga y x c hy ar yP);refine(aO.cJ iA rfl o6 (λy gy d2 hy hx DS=>?_) tz _).1 _ _ _ (Nat.le_refl _) (λc ar=>d_ u c hu ar) (h.el u);have DT:=h.el y;rw[aO.dh (jy hx DS)]at DT;exact HP gy _ _ _ none d2 DT.2 hx (λc ar=>d_ y c hy ar)
 case old=>
  intro c eI mJ;rw[qU c ?_]
  .exact h.old c eI mJ
  .rintro rfl;rcases h.eU x c yP with a_|a_
   .exact mJ a_
   .omega
 case size=>rw[fj];exact h.size
 case os=>exact Mb.trans h.os
 case tape=>exact Mc.trans h.tape
 case output=>exact yx.trans h.output
 case gq=>exact h.gq
def Uh (P:Program) (t:TypeId):Bool:=match P.info? t with
 |some i=>match i.zero with
  |some (.bool false)=>true
  |_=>false
 |none=>false
def q3 (C:cm) (T:TypeId):Bool:=match(C.T T).k with
 | .map sg xa=>match(C.T sg).k with
   | .str=>Uh C.P xa
   |_=>false
 |_=>false
def jH (C:cm) (s:ak) (T:TypeId) (x i:I):Option I:=match x,i with
 | .h y q,.str k=>match I.sub q (s y)with
   |some (.cc (.mp m))=>if q3 C T=true then some (.bool (j1 k m))else none
   |_=>none
 |_,_=>none
def kU (C:cm) (s:ak) (T:TypeId) (x i v:I):Option ak:=match x,i,v with
 | .h y q,.str k,.bool b=>match I.sub q (s y)with
   |some (.cc (.mp m))=>if q3 C T=true then some (ei (jk y s) y (I.put q (.cc (.mp (kh k b m))) (s y)))else none
   |_=>none
 |_,_,_=>none
theorem Ui (bP:C.fH) {T:TypeId} (h:q3 C T=true):∃sg xa,C.P.underlying T=some (.map sg xa)/\C.P.underlying sg=some .string/\∀w,(zeroValue xa).run C.P w= .ok (.bool false) w:=by
 unfold q3 at h;split at h
 .rename_i sg xa au;split at h
  .rename_i ad;obtain⟨i,d,z,aP,aY,aU,b4,cM,cl,b9⟩:=bP.info (hz au (by simp));obtain⟨tC,bJ,vc,f1,f2,f3,f4,f5,f6,f7⟩:=bP.info (hz ad (by simp));rw[au]at b9;rw[ad]at f7;have:=tB f7;subst this;refine⟨sg,xa,?_,f6,λw=>?_⟩
   .rw[cl];cases d<;>simp[n0]at b9;rw[b9.1,b9.2]
   .unfold Uh at h;split at h
    .rename_i i2 g1;split at h
     .rename_i g2;exact yA g1 g2 w
     .cases h
    .cases h
  .cases h
 .cases h
theorem Mz (a b:ByteArray):(a==b)=true↔a=b:=by
 constructor
 .intro h;exact ByteArray.ext (eq_of_beq (show(a.data==b.data)=true from h))
 .rintro rfl;show(a.data==a.data)=true;simp
theorem MA (k:ayc) (b:Bool):∀(es:List MapEntry) (m:aya) (i:Nat),es.map (λe=>(e.key,e.val))=m.map (λe=>(.string ⟨⟨e.1⟩⟩,.bool e.2))->
  (Instr.findNow .string (.string ⟨⟨k⟩⟩) es i=some none/\j1 k m=false/\kh k b m=m++[(k,b)])\/
  ∃j e,es[j]? =some e/\e.key= .string ⟨⟨k⟩⟩/\Instr.findNow .string (.string ⟨⟨k⟩⟩) es i=some (some (i+j,.bool (j1 k m)))/\kh k b m=m.set j (k,b)
 |[],m,i,h=>by
  have:m=[]:=by simpa using h.symm
  subst this;exact .inl ⟨rfl,rfl,rfl⟩
 |e::es,[],i,h=>by simp at h
 |e::es,(di,gL)::m,i,h=>by
  simp only[map_cons,cons.injEq,Prod.mk.injEq]at h;obtain⟨⟨ad,af⟩,aG⟩:=h;by_cases au:di=k
  .subst au;refine .inr ⟨0,e,rfl,ad,?_,by simp[kh]⟩;have:(((⟨⟨di⟩⟩:ByteArray)==⟨⟨di⟩⟩))=true:=(Mz _ _).2 rfl;simp only[Instr.findNow,ad,af,Instr.sameNow,j1,this,if_true,Nat.add_zero]
  .have aV:((⟨⟨k⟩⟩:ByteArray)==⟨⟨di⟩⟩)=false:=by
    refine Bool.eq_false_iff.2 λe=>au ?_;have:=(Mz _ _).1 e;simp only[ByteArray.mk.injEq,Array.mk.injEq]at this;exact this.symm
   rcases MA k b es m (i+1) aG with⟨g1,g2,g3⟩|⟨j,hp,g1,g2,g3,g4⟩
   .refine .inl ⟨?_,?_,?_⟩
    .simp only[Instr.findNow,ad,Instr.sameNow,aV];exact g1
    .simp[j1,au,g2]
    .simp[kh,au,g3]
   .refine .inr ⟨j+1,hp,g1,g2,?_,?_⟩
    .simp only[Instr.findNow,ad,Instr.sameNow,aV];rw[g3];simp[j1,au,Nat.add_assoc,Nat.add_comm 1 j]
    .simp[kh,au,g4]
theorem Ib {P:Program} {sg:TypeId} (au:P.underlying sg=some .string) (e:Bool) (k:ByteArray) (w:World):(Instr.checkKey e 10000 sg (.string k)).run P w= .ok () w:=by
 unfold Instr.checkKey;simp[run_underlying au]
theorem Uj (h:cb w0 F0 X F S s aI w) {y:Nat} {q:ayf} {m:aya} {v:Value} (aJ:aO w F s aI (.h y q) v (λ_=>False)) (an:I.sub q (s y)=some (.cc (.mp m))):
  ∃r ms pG,v= .map (some r)/\w.heap[r]? =some (.map ms pG)/\ms.toList.map (λe=>(e.key,e.val))=m.map (λe=>(.string ⟨⟨e.1⟩⟩,.bool e.2))/\
   ∃a,et w q (s y) (cT (aI y)) none=some (.cc (.mp m),[.map (some r)],a):=by
 rw[aO]at aJ;obtain⟨dx,a,g1,g2,g3⟩:=aJ _ an rfl;have ad:Value.hF v=true:=g3;rw[h4 ad]at g2;have ao:=h.el y;rw[aO.dh (jy an (.inl rfl))]at ao;obtain⟨hb,dt,fi,gp,k0,bS,ct,dT,ed,eQ⟩:=ctx q (s y) (cT (aI y)) (S y) none _ ao.2 an;rw[k0]at g1;simp only[some.injEq,Prod.mk.injEq,true_and]at g1;obtain⟨rfl,rfl⟩:=g1;rw[aB]at ed;obtain⟨r,ms,pG,aP,aY,aU,b4⟩:=ed;rw[aP]at g2 k0;exact⟨r,ms,pG,by simpa using g2,aU,b4,dt,k0⟩
theorem adu (bP:C.fH) (h:cb w0 F0 X F S s aI w) {T:TypeId} {x i:I} {km qV:Value} (ao:aO w F s aI x km (λ_=>False)) (aj:aO w F s aI i qV (λ_=>False)) (he:jH C s T x i=some av):
  Good C w0 F0 X aI w (Instr.lookup T km qV false) av s:=by
 unfold jH at he;split at he
 .rename_i y q k;split at he
  .rename_i m an;split at he
   .rename_i ld;simp only[some.injEq]at he;subst he;obtain⟨sg,xa,t1,t2,t3⟩:=Ui bP ld;obtain⟨r,ms,pG,rfl,aY,aU,_⟩:=Uj h ao an;have:=o9 aj;subst this;refine Good.same h (v:=.bool (j1 k m)) ?_ rfl (of_bool _);rcases MA k true ms.toList m 0 aU with⟨g1,g2,_⟩|⟨j,e,_,_,g1,_⟩
    .simp[Instr.lookup,run_underlying t1,getObj,Sem.run,aY,Ib t2,Instr.findKey,run_underlying t2,g1,t3,g2]
    .simp[Instr.lookup,run_underlying t1,getObj,Sem.run,aY,Ib t2,Instr.findKey,run_underlying t2,g1]
   .cases he
  .cases he
 .cases he
theorem adv (bP:C.fH) (h:cb w0 F0 X F S s aI w) {T:TypeId} {x i v:I} {km qV Uk:Value} (ao:aO w F s aI x km (λ_=>False)) (aj:aO w F s aI i qV (λ_=>False)) (aJ:aO w F s aI v Uk (λ_=>False)) {s2:ak}
  (he:kU C s T x i v=some s2):∃aN a7,(Instr.mapUpdate T km qV Uk).run C.P w= .ok () aN/\cb w0 F0 X F a7 s2 aI aN:=by
 unfold kU at he;split at he
 .rename_i y q k b;split at he
  .rename_i m an;split at he
   .rename_i ld;simp only[some.injEq]at he;subst he;obtain⟨sg,xa,t1,t2,t3⟩:=Ui bP ld;obtain⟨r,ms,pG,rfl,aY,aU,a0,nf⟩:=Uj h ao an;have:=o9 aj;subst this;have:=w4 aJ;subst this;have key:∀(Ic:Array MapEntry) (MB:Nat),Ic.toList.map (λe=>(e.key,e.val))=(kh k b m).map (λe=>(.string ⟨⟨e.1⟩⟩,.bool e.2))->
      ∃a7,cb w0 F0 X F a7 (ei (jk y s) y (I.put q (.cc (.mp (kh k b m))) (s y))) aI {w with heap:=w.heap.setIfInBounds r (.map Ic MB)}:=by
     intro Ic MB hm;have aQ:r<w.heap.size:=(Array.getElem?_eq_some_iff.1 aY).1;refine cb.adt (b:=r) h an rfl rfl (λv aJ=>aJ) (λv aJ=>aJ) (λvs e=>by cases e) rfl ?_ (λc ar=>?_) (by simp) rfl rfl ⟨rfl,λ_=>Nat.le_refl _⟩
     .intro dx a gp bD h6;rw[nf]at bD;simp only[some.injEq,Prod.mk.injEq,true_and]at bD;obtain⟨rfl,_⟩:=bD;rw[aB]at h6⊢;obtain⟨hN,xb,awi,f1,f2,f3,f4⟩:=h6;simp only[cons.injEq,Value.map.injEq,some.injEq,and_true]at f1;subst f1;exact⟨f2,r,Ic,MB,rfl,f2,by simp[aQ],hm⟩
     .simp[Ne.symm ar]
    rcases MA k b ms.toList m 0 aU with⟨g1,_,g2⟩|⟨j,e,g0,ge,g1,g2⟩
    .obtain⟨a7,bS⟩:=key (ms.push {key:=.string ⟨⟨k⟩⟩,val:=.bool b,born:=pG}) (pG+1) (by rw[g2];simp[aU]);exact⟨_,a7,by simp[Instr.mapUpdate,run_underlying t1,getObj,setObj,Sem.run,aY,Ib t2,Instr.findKey,run_underlying t2,g1],bS⟩
    .rw[Nat.zero_add]at g1;obtain⟨a7,bS⟩:=key (ms.modify j λe=>{e with key:=.string ⟨⟨k⟩⟩,val:=.bool b}) pG (by
      rw[g2,map_set,<-aU];apply ext_getElem?;intro n;by_cases aV:n=j
      .subst aV;have:n<ms.toList.length:=(List.getElem?_eq_some_iff.1 g0).1;rw[getElem?_set_self (by simpa using this)];simp[g0]
      .simp[getElem?_set_ne (Ne.symm aV),Ne.symm aV])
     have adw:ms[j]? =some e:=by simpa using g0
     exact⟨_,a7,by simp[Instr.mapUpdate,run_underlying t1,getObj,setObj,Sem.run,aY,Ib t2,Instr.findKey,run_underlying t2,g1,adw,ge,Instr.keyThatStays,Instr.sameBits,(Mz ⟨⟨k⟩⟩ ⟨⟨k⟩⟩).2 rfl],bS⟩
   .cases he
  .cases he
 .cases he
theorem adx (h:cb w0 F0 X F S s aI w) (t:TypeId):Good C w0 F0 X aI w (Instr.makeMap t none) (.cc (.mp [])) s:=by
 have hold:∀b,b<w.heap.size->(w.alloc (.map #[] 0)).heap[b]? =w.heap[b]? :=by
  intro b aa;show(w.heap.push _)[b]? =_;rw[Array.getElem?_push,if_neg (by omega)]
 refine⟨.map (some w.heap.size),w.alloc (.map #[] 0),F,S,?_,h.grow hold (by simp) rfl rfl ⟨rfl,λ_=>Nat.le_refl _⟩,.inr ⟨rfl,rfl,λb=>b=w.heap.size,?_,?_,?_,?_,?_⟩⟩
 .simp[Instr.makeMap,newObj,Sem.run]
 .rw[aB];refine⟨w.heap.size,#[],0,rfl,rfl,?_,rfl⟩;show(w.heap.push _)[_]? =_;simp
 .rintro b rfl;simp
 .rintro b rfl ve;exact Nat.lt_irrefl _ (h.f_ _ ve)
 .rintro u b rfl hu;exact Nat.lt_irrefl _ (h.fz _ _ hu)
 .rintro b rfl;exact .inr h.size
end
end Go.eg
