/- Part of a proof that a law returns true for every input. No condition. -/
import Derived.Test.YtmaepbgkcmjcjagGreatDoorFwC
import Derived.Test.YtmaepbgkcmjcjagGreatDoorFwA
import Derived.Laws.IdiomStrings
import Derived.Laws.Strings
import Derived.LaidEql
import Derived.WideLaws
import Derived.Laws.StructEq
namespace Go.ef
open List Option Nat
section
variable {C:cj} {w0 w:World} {F0 X F:Nat->Prop} {S:Nat->Nat->Prop} {s s1:ak} {aG:Nat->Value} {av:I}
theorem p4 {k:IntKind} {n:Int} {v:Value} {aX:Nat->Prop} (h:aO w F s aG (.int k n) v aX):v= .int k n:=by
 have bB:=(aO.dk rfl).1 h;rw[aA,ib bB.1]at bB;simpa using bB.2
theorem wK {b:Bool} {v:Value} {aX:Nat->Prop} (h:aO w F s aG (.bool b) v aX):v= .bool b:=by
 have bB:=(aO.dk rfl).1 h;rw[aA,ib bB.1]at bB;simpa using bB.2
theorem oT {b:axa} {v:Value} {aX:Nat->Prop} (h:aO w F s aG (.str b) v aX):v= .string ⟨⟨b⟩⟩:=by
 have bB:=(aO.dk rfl).1 h;rw[aA,ib bB.1]at bB;simpa using bB.2
theorem SE {v:Value} {aX:Nat->Prop} (h:aO w F s aG .en v aX):v= .pointer none:=by
 have bB:=(aO.dk rfl).1 h;rw[aA,ib bB.1]at bB;simpa using bB.2
theorem wL {v:Value} {aX:Nat->Prop} (h:aO w F s aG .a8 v aX):v= .slice none 0 0:=by
 have bB:=(aO.dk rfl).1 h;rw[aA,ib bB.1]at bB;simpa using bB.2
theorem SF {v:Value} {aX:Nat->Prop} (h:aO w F s aG .gw v aX):∃b,v= .bool b:=by
 have bB:=(aO.dk rfl).1 h;rw[aA,ib bB.1]at bB;simpa using bB.2
theorem of_int (k:IntKind) (n:Int):aO w F s aG (.int k n) (.int k n) (λ_=>False):=(aO.dk rfl).2 ⟨rfl,by rw[aA];rfl⟩
theorem of_bool (b:Bool):aO w F s aG (.bool b) (.bool b) (λ_=>False):=(aO.dk rfl).2 ⟨rfl,by rw[aA];rfl⟩
theorem rZ (b:axa):aO w F s aG (.str b) (.string ⟨⟨b⟩⟩) (λ_=>False):=(aO.dk rfl).2 ⟨rfl,by rw[aA];rfl⟩
theorem LF (b:Bool):aO w F s aG .gw (.bool b) (λ_=>False):=(aO.dk rfl).2 ⟨rfl,by rw[aA];exact⟨b,rfl⟩⟩
def kJ (op:BinOp) (k:IntKind) (a:Int) (c_:IntKind) (b:Int):Option I:=
 match op with
 | .shl=>if b<0 then none else some (.int k (k.wrap (a*2^(min b.toNat k.bits))))
 | .shr=>if b<0 then none else some (.int k (a.fdiv (2^(min b.toNat k.bits))))
 | .add=>if k=c_ then some (.int k (k.wrap (a+b)))else none
 | .sub=>if k=c_ then some (.int k (k.wrap (a-b)))else none
 | .mul=>if k=c_ then some (.int k (k.wrap (a*b)))else none
 | .quo=>if k=c_/\b≠0 then some (.int k (k.wrap (a.tdiv b)))else none
 | .rem=>if k=c_/\b≠0 then some (.int k (a.tmod b))else none
 | .eql=>if k=c_ then some (.bool (a==b))else none
 | .neq=>if k=c_ then some (.bool (a !=b))else none
 | .lss=>if k=c_ then some (.bool (decide (a<b)))else none
 | .leq=>if k=c_ then some (.bool (decide (a<=b)))else none
 | .gtr=>if k=c_ then some (.bool (decide (b<a)))else none
 | .geq=>if k=c_ then some (.bool (decide (b<=a)))else none
 | .and=>if k=c_ then some (.int k (bitsOf .and k a b))else none
 | .or=>if k=c_ then some (.int k (bitsOf .or k a b))else none
 | .xor=>if k=c_ then some (.int k (bitsOf .xor k a b))else none
 | .andNot=>if k=c_ then some (.int k (bitsOf .andNot k a b))else none
def p5 (op:BinOp) (a b:axa):Option I:=
 match op with
 | .add=>if a.length+b.length<=9223372036854775807 then some (.str (a++b))else none
 | .eql=>some (.bool (a==b))
 | .neq=>some (.bool !(a==b))
 | .lss=>some (.bool (Op.bytesLess a b))
 | .leq=>some (.bool (Op.bytesLess a b||a==b))
 | .gtr=>some (.bool !(Op.bytesLess a b||a==b))
 | .geq=>some (.bool !(Op.bytesLess a b))
 |_=>none
def lS (s:ak):I->Option axe
 | .a8=>some (some true)
 | .slice xs=>some (if xs=[]then none else some false)
 | .h x q=>match I.sub q (s x)with
   |some (.aj _ xs)=>some (if xs=[]then none else some false)
   |_=>none
 |_=>none
def nS (s:ak):I->axe
 | .en=>some true
 | .ref _=>some false
 | .h x q=>match I.sub q (s x)with
   |some (.aM _)=>some false
   |_=>none
 |_=>none
def r0 (neg:Bool):axe->I
 |some b=>.bool (b !=neg)
 |none=>.gw
def structEq (P:Program) (T:TypeId):Bool:= !P.stoodInHeld T&& !P.eqGuardType P.depth T&&(P.fieldsOf T).toList.all λf=>decide (f.name≠ "_")
def qI (C:cj):List (TypeId×Nat)->Nat->axi->axi->axe
 |[],_,[],[]=>some true
 |(lR,off)::aD,n,d::ds,e::es=>if off=n then(match(C.T lR).k,d,e with
  | .int k,.int bX a,.int cN b=>if bX=k/\cN=k then(qI C aD (n+1) ds es).map λr=>a==b&&r else none
  | .bool,.bool a,.bool b=>(qI C aD (n+1) ds es).map λr=>a==b&&r
  | .str,.str a,.str b=>(qI C aD (n+1) ds es).map λr=>a==b&&r
  |_,_,_=>none)else none
 |_,_,_,_=>none
def eN (C:cj) (s:ak) (op:BinOp) (T:TypeId) (x y:I):Option I:=
 match x,y with
 | .int k a,.int c_ b=>kJ op k a c_ b
 | .str a,.str b=>p5 op a b
 | .bool a,.bool b=>match op,(C.T T).k with
   | .eql,.bool=>some (.bool (a==b))
   | .neq,.bool=>some (.bool !(a==b))
   |_,_=>none
 | .agg ds,.agg es=>match op,(C.T T).k with
   | .eql,.struct aD=>if structEq C.P T=true then(qI C aD 0 ds es).map λb=>.bool b else none
   | .neq,.struct aD=>if structEq C.P T=true then(qI C aD 0 ds es).map λb=>.bool !b else none
   |_,_=>none
 |x,.a8=>match op,(C.T T).k with
  | .eql,.slice _=>(lS s x).map (r0 false)
  | .neq,.slice _=>(lS s x).map (r0 true)
  |_,_=>none
 |x,.en=>match op,(C.T T).k with
  | .eql,.ptr _=>(nS s x).map λb=>.bool b
  | .neq,.ptr _=>(nS s x).map λb=>.bool !b
  |_,_=>none
 |_,_=>none
theorem abr {P:Program} {op:BinOp} {T:TypeId} {k c_:IntKind} {a b:Int} (he:kJ op k a c_ b=some av) (w:World):
  ∃v,(binOp op T (.int k a) (.int c_ b)).run P w= .ok v w/\aO w F s aG av v (λ_=>False):=by
 unfold kJ at he;cases op<;>simp only at he<;>split at he<;>first|(cases he;done)|skip
 all_goals
  rename_i ar;simp only[some.injEq]at he;subst he
 all_goals first
  |(subst ar;simp only[binOp_add,binOp_sub,binOp_mul,binOp_eql,binOp_neq,binOp_lss,binOp_leq,binOp_gtr,binOp_geq,binOp_and,binOp_or,binOp_xor,binOp_andNot,Op.intArith,Op.intBits,Sem.run_pure,Result.ok.injEq,and_true,exists_eq_left']
    first|exact of_int _ _|exact of_bool _)
  |(obtain⟨rfl,bb⟩:=ar
    simp only[binOp_quo,binOp_rem,Op.intDiv,bb,if_false,Sem.run_pure,Result.ok.injEq,and_true,exists_eq_left'];exact of_int _ _)
  |(simp only[binOp_shl,binOp_shr,Op.shift,ar,if_false,Sem.run_pure,Result.ok.injEq,and_true,exists_eq_left']
    exact of_int _ _)
theorem Dy (a:axa):(⟨⟨a⟩⟩:ByteArray).toList=a:=ByteArray.toList_eq _
theorem abt (a b:axa):(⟨⟨a⟩⟩:ByteArray)++(⟨⟨b⟩⟩:ByteArray)=⟨⟨a++b⟩⟩:=by
 apply ByteArray.ext;simp[ByteArray.data_append]
theorem abu {P:Program} {op:BinOp} {T:TypeId} {a b:axa} (he:p5 op a b=some av) (w:World):
  ∃v,(binOp op T (.string ⟨⟨a⟩⟩) (.string ⟨⟨b⟩⟩)).run P w= .ok v w/\aO w F s aG av v (λ_=>False):=by
 have ab:∀op,binOp op T (.string ⟨⟨a⟩⟩) (.string ⟨⟨b⟩⟩)=Op.stringOp op ⟨⟨a⟩⟩ ⟨⟨b⟩⟩:=by intro op;cases op<;>rfl
 rw[ab];unfold p5 at he;cases op<;>simp only[some.injEq]at he<;>first|(cases he;done)|skip
 case add=>
  split at he
  .rename_i aC;simp only[some.injEq]at he;subst he;have aa:((ByteArray.size ⟨⟨a⟩⟩+ByteArray.size ⟨⟨b⟩⟩:Nat):Int)<=9223372036854775807:=by
    show((a.length+b.length:Nat):Int)<=_;omega
   refine⟨.string ⟨⟨a++b⟩⟩,?_,rZ _⟩;simp only[Op.stringOp,IntKind.max_i64];rw[if_neg (by omega),abt];rfl
  .cases he
 all_goals
  subst he;simp only[Op.stringOp,Dy,Sem.run_pure,Result.ok.injEq,and_true,exists_eq_left'];exact of_bool _
theorem LG (h:b8 w0 F0 X F S s aG w) {v:Value} {y:Nat} {q:axd} (aE:aO w F s aG (.h y q) v (λ_=>False)) {sz:Nat} {xs:axi} (al:I.sub q (s y)=some (.aj sz xs)):
  (xs=[]/\∃a,v= .slice a 0 0)\/∃b cap cur e fr,v= .slice (some ⟨b,0,none⟩) xs.length cap/\w.heap[b]? =some (.cells cur e fr)/\po fr cur.size/\xs.length<=cap/\cap<=maxLen/\cur.size=cap*sz/\(∀d∈xs,d.wd=sz)/\
   ∃aX,bx w F xs (cur.toList.take (xs.length*sz)) aX/\(∀c,aX c->S y c)/\S y b:=by
 rw[aO]at aE;obtain⟨dp,a,g1,g2,g3⟩:=aE _ al rfl;have aa:Value.hE v=true:=g3;rw[ib aa]at g2;subst g2;have an:=h.ew y;rw[aO.dk (jf al (.inl rfl))]at an;obtain⟨g_,dC,e5,gm,k0,bX,cN,dH,dT,eG⟩:=ctx q (s y) (c8 (aG y)) (S y) none _ an.2 al;rw[k0]at g1;simp only[some.injEq,Prod.mk.injEq,true_and]at g1;obtain⟨rfl,rfl⟩:=g1;rw[aA]at dT;rcases dT with⟨rfl,a2,ae⟩|⟨b,cap,cur,aU,fr,eI,aR,bW,cM,cg,b3,fu,j7,ic,kK,e1,fi⟩
 .simp at ae;exact .inl ⟨rfl,_,ae⟩
 .simp at aR;exact .inr ⟨b,cap,cur,aU,fr,aR,cM,cg.low,b3,fu,j7,ic,eI,kK,λc ar=>cN _ (e1 c ar),cN _ bW⟩
theorem SG (h:b8 w0 F0 X F S s aG w) {v:Value} {y:Nat} {q:axd} (aE:aO w F s aG (.h y q) v (λ_=>False)) {d:I} (al:I.sub q (s y)=some (.aM d)):
  ∃b cur e fr,v= .pointer (some ⟨b,0,none⟩)/\w.heap[b]? =some (.cells cur e fr):=by
 rw[aO]at aE;obtain⟨dp,a,g1,g2,g3⟩:=aE _ al rfl;have aa:Value.hE v=true:=g3;rw[ib aa]at g2;subst g2;have an:=h.ew y;rw[aO.dk (jf al (.inl rfl))]at an;obtain⟨g_,dC,e5,gm,k0,bX,cN,dH,dT,eG⟩:=ctx q (s y) (c8 (aG y)) (S y) none _ an.2 al;rw[k0]at g1;simp only[some.injEq,Prod.mk.injEq,true_and]at g1;obtain⟨rfl,rfl⟩:=g1;rw[aA]at dT;obtain⟨b,cur,aU,fr,eI,aR,bW,cM,_⟩:=dT;simp at aR;exact⟨b,cur,aU,fr,aR,cM⟩
theorem SH {P:Program} {T e:TypeId} (aZ:P.underlying T=some (.slice e)) (w:World):∀d,(Op.equalIn (d+1) T (.slice none 0 0) (.slice none 0 0)).run P w= .ok true w/\
  ∀a n c,(Op.equalIn (d+1) T (.slice (some a) n c) (.slice none 0 0)).run P w= .ok false w:=by
 intro d;refine⟨by simp[Op.equalIn,run_underlying aZ],λa n c=>by simp[Op.equalIn,run_underlying aZ]⟩
theorem SI {P:Program} {T e:TypeId} (aZ:P.underlying T=some (.pointer e)) (w:World):∀d,(Op.equalIn (d+1) T (.pointer none) (.pointer none)).run P w= .ok true w/\
  ∀a,(Op.equalIn (d+1) T (.pointer (some a)) (.pointer none)).run P w= .ok false w:=by
 intro d;refine⟨by simp[Op.equalIn,run_underlying aZ],λa=>by simp[Op.equalIn,run_underlying aZ]⟩
theorem SJ {P:Program} {T:TypeId} (aZ:P.underlying T=some .bool) (w:World):∀d a b,(Op.equalIn (d+1) T (.bool a) (.bool b)).run P w= .ok (a==b) w:=by
 intro d a b;simp[Op.equalIn,run_underlying aZ]
theorem SK (h:b8 w0 F0 X F S s aG w) {x:I} {v:Value} (aE:aO w F s aG x v (λ_=>False)) {T e:TypeId} {r:axe} (aQ:lS s x=some r) (aZ:C.P.underlying T=some (.slice e)):
  ∃b,(Op.equal T v (.slice none 0 0)).run C.P w= .ok b w/\(∀gM,r=some gM->gM=b)/\Value.hE v=true/\∃a n c,v= .slice a n c:=by
 have aN:=λa n c=>(SH aZ w 9999).2 a n c;have ga:=(SH aZ w 9999).1;cases x with
 |a8=>
  have:=wL aE;subst this;simp[lS]at aQ;subst aQ;exact⟨true,ga,by simp,rfl,_,_,_,rfl⟩
 |slice xs=>
  have bB:=(aO.dk rfl).1 aE;rw[aA,ib bB.1]at bB;simp only[lS,some.injEq]at aQ;obtain⟨_,⟨rfl,a,c,ae,_,yk⟩|⟨b,o,cap,e9,sz,ae,aI⟩⟩:=bB
  .simp at ae aQ;subst ae;subst aQ;cases a with
   |none=>
    have:=yk rfl;subst this;exact⟨true,ga,by simp,rfl,_,_,_,rfl⟩
   |some a=>exact⟨false,aN _ _ _,by simp,rfl,_,_,_,rfl⟩
  .simp at ae;subst ae;refine⟨false,aN _ _ _,?_,rfl,_,_,_,rfl⟩;subst aQ;split<;>simp
 |h y q=>
  simp only[lS]at aQ;split at aQ
  .rename_i sz xs al;simp only[some.injEq]at aQ;rcases LG h aE al with⟨rfl,a,rfl⟩|⟨b,cap,cur,aU,fr,rfl,_⟩
   .simp at aQ;subst aQ;cases a with
    |none=>exact⟨true,ga,by simp,rfl,_,_,_,rfl⟩
    |some a=>exact⟨false,aN _ _ _,by simp,rfl,_,_,_,rfl⟩
   .refine⟨false,aN _ _ _,?_,rfl,_,_,_,rfl⟩;subst aQ;split<;>simp
  .cases aQ
 |_=>simp[lS]at aQ
theorem SL (h:b8 w0 F0 X F S s aG w) {x:I} {v:Value} (aE:aO w F s aG x v (λ_=>False)) {T e:TypeId} {r:Bool} (aQ:nS s x=some r) (aZ:C.P.underlying T=some (.pointer e)):
  (Op.equal T v (.pointer none)).run C.P w= .ok r w/\∃a,v= .pointer a:=by
 have aN:=λa=>(SI aZ w 9999).2 a;have ga:=(SI aZ w 9999).1;cases x with
 |en=>
  have:=SE aE;subst this;simp[nS]at aQ;subst aQ;exact⟨ga,_,rfl⟩
 |ref d=>
  have bB:=(aO.dk rfl).1 aE;rw[aA,ib bB.1]at bB;simp[nS]at aQ;subst aQ;obtain⟨_,b,o,e9,ae,_⟩:=bB;simp at ae;subst ae;exact⟨aN _,_,rfl⟩
 |h y q=>
  simp only[nS]at aQ;split at aQ
  .rename_i d al;simp only[some.injEq]at aQ;subst aQ;obtain⟨b,cur,e,fr,rfl,_⟩:=SG h aE al;exact⟨aN _,_,rfl⟩
  .cases aQ
 |_=>simp[nS]at aQ
theorem abv (bK:C.fz):∀(aD:List (TypeId×Nat)) (gs:List Field) (n:Nat) (ds es:axi) (r:Bool) (hP l2 cz c2:axg) (xs cL:Array Value) (cA eI:Nat->Prop),
  gs.map (λg=>(g.type,g.offset))=aD->(gs.all λf=>decide (f.name≠ "_"))=true->qI C aD n ds es=some r->bx w F ds cz cA->bx w F es c2 eI->xs.toList=hP++cz->hP.length=n->cL.toList=l2++c2->l2.length=n->
  ∀m,(Op.eqFields (m+1) xs cL gs).run C.P w= .ok r w:=by
 intro aD;induction aD with
 |nil=>
  intro gs n ds es r hP l2 cz c2 xs cL cA eI hg aS he ad ae an aC hy Hj m;have:gs=[]:=by simpa using hg
  subst this;cases ds<;>cases es<;>simp[qI]at he;subst he;simp[Op.eqFields]
 |cons p aD ih=>
  obtain⟨lR,off⟩:=p;intro gs n ds es r hP l2 cz c2 xs cL cA eI hg aS he ad ae an aC hy Hj m;cases gs with
  |nil=>simp at hg
  |cons g gs=>
   simp only[map_cons,cons.injEq,Prod.mk.injEq]at hg;obtain⟨⟨rfl,rfl⟩,hg⟩:=hg;simp only[all_cons,Bool.and_eq_true,decide_eq_true_eq]at aS;cases ds with
   |nil=>simp[qI]at he
   |cons d ds=>
   cases es with
   |nil=>simp[qI]at he
   |cons e es=>
   simp only[qI]at he;split at he
   .rename_i tn;rw[bx]at ad ae;obtain⟨J,a2,oU,Av,rfl,hp,iV,kq,SM,hc⟩:=ad;obtain⟨hs,fT,atV,abw,rfl,hj,gO,iJ,jN,tq⟩:=ae;have step:∀(x y:Value) (z:Bool),(C.T g.type).flat=true->J=[x]->hs=[y]->(∀m,(Op.equalIn (m+1) g.type x y).run C.P w= .ok z w)->∀me,qI C aD (n+1) ds es=some me->
      (Op.eqFields (m+1) xs cL (g::gs)).run C.P w= .ok (z&&me) w:=by
     intro x y z j5 abx aby heq me fh;subst abx;subst aby;have nc:xs[g.offset]? =some x:=by
      rw[<-Array.getElem?_toList,an,tn,<-aC,getElem?_append_right (Nat.le_refl _)];simp
     have tr:cL[g.offset]? =some y:=by
      rw[<-Array.getElem?_toList,hy,tn,<-Hj,getElem?_append_right (Nat.le_refl _)];simp
     have ag:=ih gs (n+1) ds es me (hP++[x]) (l2++[y]) a2 fT xs cL Av abw hg aS.2 fh iV gO (by rw[an];simp) (by simp[aC]) (by rw[hy];simp) (by simp[Hj]) m;unfold Op.eqFields;rw[if_pos aS.1];simp only[part,Sem.run_bind,LB bK j5,Result.andThen_ok,Bool.false_eq_true,if_false,nc,tr,Sem.run_pure,heq];cases z
     .simp
     .simpa using ag
    split at he
    .rename_i k bX a cN b au;split at he
     .rename_i abz;obtain⟨rfl,rfl⟩:=abz;rw[aA]at hp hj;simp only[map_eq_some_iff]at he;obtain⟨me,fh,rfl⟩:=he;obtain⟨i,Dz,SN,aN,aU,aR,bW,cM,cg,b3⟩:=bK.info (hr au (by simp));rw[au]at b3;have yl:=Hd b3;subst yl;exact step _ _ _ (by simp[hA.flat,au]) hp hj (λm=>run_equalIn_int w m g.type _ _ a b cg) me fh
     .cases he
    .rename_i a b au;rw[aA]at hp hj;simp only[map_eq_some_iff]at he;obtain⟨me,fh,rfl⟩:=he;obtain⟨i,Dz,SN,aN,aU,aR,bW,cM,cg,b3⟩:=bK.info (hr au (by simp));rw[au]at b3;have yl:=Lw b3;subst yl;exact step _ _ _ (by simp[hA.flat,au]) hp hj (λm=>run_equalIn_bool' w m g.type a b cg) me fh
    .rename_i a b au;rw[aA]at hp hj;simp only[map_eq_some_iff]at he;obtain⟨me,fh,rfl⟩:=he;obtain⟨i,Dz,SN,aN,aU,aR,bW,cM,cg,b3⟩:=bK.info (hr au (by simp));rw[au]at b3;have yl:=tl b3;subst yl;refine step _ _ (a==b) (by simp[hA.flat,au]) hp hj (λm=>?_) me fh;rw[run_equalIn_string w m g.type _ _ cg,Dy,Dy]
    .cases he
   .cases he
theorem SO (bK:C.fz) {T:TypeId} {aD:List (TypeId×Nat)} (au:(C.T T).k= .struct aD) {ds es:axi} {j6 lr:Value} {cA eI:Nat->Prop} {r:Bool} (an:aO w F s aG (.agg ds) j6 cA) (hy:aO w F s aG (.agg es) lr eI)
  (cx:structEq C.P T=true) (he:qI C aD 0 ds es=some r) (op:BinOp) (DA DB:Operand):
  (eqGuard op T DA DB j6 lr).run C.P w= .ok () w/\(Op.equal T j6 lr).run C.P w= .ok r w:=by
 obtain⟨i,d,z,aN,aU,aR,bW,cM,cg,b3⟩:=bK.info (hr au (by simp));rw[au]at b3;obtain⟨gs,rfl,fu⟩:=Du b3;have DC:C.P.fieldsOf T=gs:=by simp[Program.fieldsOf,cg]
 simp only[structEq,Bool.and_eq_true,Bool.not_eq_true',DC]at cx;obtain⟨⟨hj,gO⟩,iJ⟩:=cx;obtain⟨⟨xs,rfl⟩,Aw⟩:=(aO.dk rfl).1 an;obtain⟨⟨cL,rfl⟩,ye⟩:=(aO.dk rfl).1 hy;rw[aA]at Aw ye;constructor
 .cases op<;>simp[eqGuard,gO]
 .show(Op.equalIn (9999+1) T _ _).run C.P w=_;rw[run_equalIn_struct w 9999 T xs cL (by rw[DC];exact cg) hj,DC];exact abv bK aD gs.toList 0 ds es r [] [] _ _ xs cL cA eI fu iJ he Aw ye rfl rfl rfl rfl 9998
theorem abA (bK:C.fz) (h:b8 w0 F0 X F S s aG w) {op:BinOp} {T:TypeId} {x y:I} {j6 lr:Value} (DA DB:Operand) (an:aO w F s aG x j6 (λ_=>False)) (hy:aO w F s aG y lr (λ_=>False))
  (he:eN C s op T x y=some av):Good C w0 F0 X aG w (do eqGuard op T DA DB j6 lr;binOp op T j6 lr) av s:=by
 unfold eN at he;split at he
 .have:=p4 an;subst this;have:=p4 hy;subst this;obtain⟨v,ad,ae⟩:=abr (P:=C.P) (T:=T) he w;refine Good.same h (v:=v) ?_ ?_ ae
  .rw[eqGuard_at_int];exact ad
  .revert he;unfold kJ;cases op<;>simp only<;>split<;>simp<;>(rintro rfl;rfl)
 .have:=oT an;subst this;have:=oT hy;subst this;obtain⟨v,ad,ae⟩:=abu (P:=C.P) (T:=T) he w;refine Good.same h (v:=v) ?_ ?_ ae
  .rw[eqGuard_at_string];exact ad
  .revert he;unfold p5;cases op<;>simp only<;>(try split)<;>simp<;>(try (rintro rfl;rfl))
 .have:=wK an;subst this;have:=wK hy;subst this;split at he
  .rename_i au;simp only[some.injEq]at he;subst he;obtain⟨i,d,z,aN,aU,aR,bW,cM,cg,b3⟩:=bK.info (hr au (by simp));rw[au]at b3;have:=Lw b3;subst this;refine Good.same h ?_ rfl (of_bool _);rw[eqGuard_at_bool];simp[binOp,Op.equal,Op.maxDepth,SJ cg w 9999]
  .rename_i au;simp only[some.injEq]at he;subst he;obtain⟨i,d,z,aN,aU,aR,bW,cM,cg,b3⟩:=bK.info (hr au (by simp));rw[au]at b3;have:=Lw b3;subst this;refine Good.same h ?_ rfl (of_bool _);rw[eqGuard_at_bool];simp[binOp,Op.equal,Op.maxDepth,SJ cg w 9999]
  .cases he
 .split at he
  .rename_i aD au;split at he
   .rename_i cx;simp only[map_eq_some_iff]at he;obtain⟨r,aQ,rfl⟩:=he;obtain⟨g1,g2⟩:=SO bK au an hy cx aQ .eql DA DB;obtain⟨⟨xs,rfl⟩,_⟩:=(aO.dk rfl).1 an;obtain⟨⟨cL,rfl⟩,_⟩:=(aO.dk rfl).1 hy;exact Good.same h (by simp[g1,binOp,g2]) rfl (of_bool _)
   .cases he
  .rename_i aD au;split at he
   .rename_i cx;simp only[map_eq_some_iff]at he;obtain⟨r,aQ,rfl⟩:=he;obtain⟨g1,g2⟩:=SO bK au an hy cx aQ .neq DA DB;obtain⟨⟨xs,rfl⟩,_⟩:=(aO.dk rfl).1 an;obtain⟨⟨cL,rfl⟩,_⟩:=(aO.dk rfl).1 hy;exact Good.same h (by simp[g1,binOp,g2]) rfl (of_bool _)
   .cases he
  .cases he
 .have:=wL hy;subst this;split at he
  .rename_i e au;simp only[map_eq_some_iff]at he;obtain⟨r,aQ,rfl⟩:=he;obtain⟨i,d,z,aN,aU,aR,bW,cM,cg,b3⟩:=bK.info (hr au (by simp));rw[au]at b3;have:=oq b3;subst this;obtain⟨b,ad,ae,aI,a0,bq,c0,rfl⟩:=SK h an aQ cg;refine Good.same h (v:=.bool b) ?_ ?_ ?_
   .rw[eqGuard_at_slice];simp[binOp,ad]
   .cases r<;>rfl
   .cases r with
    |none=>exact LF b
    |some gM=>have:=ae gM rfl;subst this;simp only[r0,Bool.bne_false];exact of_bool _
  .rename_i e au;simp only[map_eq_some_iff]at he;obtain⟨r,aQ,rfl⟩:=he;obtain⟨i,d,z,aN,aU,aR,bW,cM,cg,b3⟩:=bK.info (hr au (by simp));rw[au]at b3;have:=oq b3;subst this;obtain⟨b,ad,ae,aI,a0,bq,c0,rfl⟩:=SK h an aQ cg;refine Good.same h (v:=.bool !b) ?_ ?_ ?_
   .rw[eqGuard_at_slice];simp[binOp,ad]
   .cases r<;>rfl
   .cases r with
    |none=>exact LF _
    |some gM=>have:=ae gM rfl;subst this;simp only[r0,Bool.bne_true];exact of_bool _
  .cases he
 .have:=SE hy;subst this;split at he
  .rename_i e au;simp only[map_eq_some_iff]at he;obtain⟨r,aQ,rfl⟩:=he;obtain⟨i,d,z,aN,aU,aR,bW,cM,cg,b3⟩:=bK.info (hr au (by simp));rw[au]at b3;have:=Su b3;subst this;obtain⟨ad,a0,rfl⟩:=SL h an aQ cg;refine Good.same h (v:=.bool r) ?_ rfl (of_bool _);rw[eqGuard_at_pointer];simp[binOp,ad]
  .rename_i e au;simp only[map_eq_some_iff]at he;obtain⟨r,aQ,rfl⟩:=he;obtain⟨i,d,z,aN,aU,aR,bW,cM,cg,b3⟩:=bK.info (hr au (by simp));rw[au]at b3;have:=Su b3;subst this;obtain⟨ad,a0,rfl⟩:=SL h an aQ cg;refine Good.same h (v:=.bool !r) ?_ rfl (of_bool _);rw[eqGuard_at_pointer];simp[binOp,ad]
  .cases he
 .cases he
end
section
variable {C:cj} {w0 w:World} {F0 X F:Nat->Prop} {S:Nat->Nat->Prop} {s s1:ak} {aG:Nat->Value} {av:I}
def un (op:UnOp) (x:I):Option I:=
 match op,x with
 | .not,.bool b=>some (.bool !b)
 | .not,.gw=>some .gw
 | .neg,.int k n=>some (.int k (k.wrap (0-n)))
 |_,_=>none
theorem abB (h:b8 w0 F0 X F S s aG w) {op:UnOp} {x:I} {v:Value} (aE:aO w F s aG x v (λ_=>False)) (he:un op x=some av):Good C w0 F0 X aG w (Op.unary op v) av s:=by
 unfold un at he;split at he<;>first|(cases he;done)|(simp only[some.injEq]at he;subst he)
 .have:=wK aE;subst this;exact Good.same h rfl rfl (of_bool _)
 .obtain⟨b,rfl⟩:=SF aE;exact Good.same h rfl rfl (LF _)
 .have:=p4 aE;subst this;exact Good.same h rfl rfl (of_int _ _)
def mf (s:ak) (x:I):Option I:=
 match x with
 | .ref d=>some (.ref d)
 | .fn f c=>some (.fn f c)
 | .h y q=>match I.sub q (s y)with
   |some (.aM _)=>some (.h y q)
   |_=>none
 |_=>none
theorem abC {d:I} {v:Value} {aX:Nat->Prop} (h:aO w F s aG (.ref d) v aX):∃b o e9,v= .pointer (some ⟨b,o,none⟩)/\F b/\jc w b o e9/\aA w F d e9 (λ_=>False):=by
 have bB:=(aO.dk rfl).1 h;rw[aA,ib bB.1]at bB;obtain⟨_,b,o,e9,ad,ae,aI,bc⟩:=bB;simp at ad;subst ad;exact⟨b,o,e9,rfl,ae,aI,bc⟩
theorem abD (h:b8 w0 F0 X F S s aG w) {x:I} {v:Value} (aE:aO w F s aG x v (λ_=>False)) (he:mf s x=some av):
  av=x/\x.plain=true/\((∃a,v= .pointer (some a))\/∃f c,v= .func (.func f) #[] c):=by
 unfold mf at he;split at he
 .simp only[some.injEq]at he;subst he;obtain⟨b,o,e9,rfl,_⟩:=abC aE;exact⟨rfl,rfl,.inl ⟨_,rfl⟩⟩
 .simp only[some.injEq]at he;subst he;rw[aO]at aE;obtain⟨arr,rfl,_⟩:=aE;exact⟨rfl,rfl,.inr ⟨_,_,rfl⟩⟩
 .split at he
  .rename_i d al;simp only[some.injEq]at he;subst he;obtain⟨b,cur,e,fr,rfl,_⟩:=SG h aE al;exact⟨rfl,rfl,.inl ⟨_,rfl⟩⟩
  .cases he
 .cases he
def ex (s:ak) (x:I) (k:Nat):Option I:=
 match x with
 | .tuple ds=>match ds[k]? with
   |some d=>if d.plain=true then some d else none
   |none=>none
 | .h y q=>match I.sub q (s y)with
   |some (.tuple ds)=>match ds[k]? with
    |some d=>if I.hz ds=true then none else some (if d.plain then d else .h y (q++[k]))
    |none=>none
   |_=>none
 |_=>none
theorem SP:∀(vs:axg) (k:Nat) (x:Value) (ds:axi),vs[k]? =some x->vs.length=ds.length->(∀(j:Nat) (d:I) (y:Value),ds[j]? =some d->vs[j]? =some y->(je y).length=d.wd)->
  ∃l r,vs.flatMap je=l++(je x++r)/\l.length=I.eY (ds.take k)
 |[],k,x,ds,h,_,_=>by simp at h
 |v::vs,0,x,ds,h,aC,hw=>by
  simp at h;subst h;exact⟨[],vs.flatMap je,by simp,by simp[I.eY]⟩
 |v::vs,k+1,x,d::ds,h,aC,hw=>by
  obtain⟨l,r,aN,aU⟩:=SP vs k x ds (by simpa using h) (by simpa using aC) (λj d y ad ae=>hw (j+1) d y (by simpa using ad) (by simpa using ae));refine⟨je v++l,r,by simp[aN],?_⟩;have:=hw 0 d v (by simp) (by simp);simp[I.eY,aU,this]
 |v::vs,k+1,x,[],h,aC,hw=>by simp at aC
theorem abE {d:I} {v:Value} (h:jM d v) (_hd:∀vs,d≠.tuple vs):c8 v=je v:=by
 cases d with
 |agg aD=>obtain⟨arr,rfl⟩:=h;rfl
 |_=>
  have ad:Value.hE v=true:=h;cases v<;>first|rfl|(simp[Value.hE]at ad)
theorem abF {d:I} {v:Value} (h:jM d v) (al:∀vs,d≠.tuple vs):eM d v:=by
 cases d with
 |tuple vs=>exact(al _ rfl).elim
 |_=>exact h
theorem abG (h:b8 w0 F0 X F S s aG w) {x:I} {v:Value} {k:Nat} (aE:aO w F s aG x v (λ_=>False)) (he:ex s x k=some av):Good C w0 F0 X aG w (Instr.extract v k) av s:=by
 have pick:∀(ds:axi) (d:I) (arr:Array Value),ds[k]? =some d->(arr.size=ds.length/\∀(k:Nat) (d:I) (x:Value),ds[k]? =some d->arr[k]? =some x->jM d x/\(∀vs,d≠.tuple vs)/\(je x).length=d.wd)->
   ∃x,arr[k]? =some x/\eM d x/\((c8 (.tuple arr)).drop (I.eY (ds.take k))).take d.wd=c8 x:=by
  intro ds d arr al ⟨b9,mY⟩;have eB:k<arr.size:=by rw[b9];exact(List.getElem?_eq_some_iff.1 al).1
  have an:arr[k]? =some arr[k]:=Array.getElem?_eq_getElem eB;obtain⟨g1,g2,g3⟩:=mY k d _ al an;obtain⟨l,r,aN,aU⟩:=SP arr.toList k arr[k] ds (by simp[eB]) (by simpa using b9) (λj d y ad ae=>(mY j d y ad (by simpa using ae)).2.2);refine⟨_,an,abF g1 g2,?_⟩;rw[abE g1 g2];simp only[c8];rw[aN];exact x9 l _ r _ _ aU g3
 unfold ex at he;split at he
 .rename_i ds;split at he
  .rename_i d al;split at he
   .rename_i ax;simp only[some.injEq]at he;subst he;have bB:=(aO.dk rfl).1 aE;obtain⟨⟨arr,rfl,b9⟩,hQ⟩:=bB;obtain⟨x,an,aa,ar⟩:=pick ds d arr al b9;have aQ:(Instr.extract (.tuple arr) k).run C.P w= .ok x w:=by simp[Instr.extract,an]
    rw[aA]at hQ;obtain⟨cz,gZ,c2,cA,jd,e,iU,hp,iV,kq,hc,oN⟩:=bx.pick ds _ _ k d hQ al;rw[e,x9 cz gZ c2 _ _ iU (aA.length _ _ _ hc)]at ar;by_cases aZ:d.tree=true
    .exact Good.same h aQ ax ((aO.dk aZ).2 ⟨aa,by rw[<-ar];exact aA.plain _ _ _ _ ax hc⟩)
    .cases d<;>first|exact(aZ rfl).elim|(rw[aA]at hc;exact hc.elim)|exact Good.same h aQ rfl (by rw[aO];trivial)|(have bY:=aA.plain _ _ _ (λ_=>False) ax hc;rw[ar,ib (by exact aa)]at bY;exact Good.same h aQ rfl (aO.tp _ _ rfl bY))
   .cases he
  .cases he
 .rename_i y q;split at he
  .rename_i ds al;split at he
   .rename_i d au;split at he
    .cases he
    .rename_i fA;simp only[some.injEq]at he;have fA:(I.tuple ds).plain=false:=by simpa [I.plain]using fA
     rw[aO]at aE;obtain⟨dp,a,g1,g2,g3⟩:=aE _ al fA;obtain⟨arr,rfl,b9⟩:=g3;obtain⟨x,an,aa,ar⟩:=pick ds d arr au b9;have aQ:(Instr.extract (.tuple arr) k).run C.P w= .ok x w:=by simp[Instr.extract,an]
     have hy:=h.ew y;rw[aO.dk (jf al (.inl fA))]at hy;obtain⟨g_,dC,e5,gm,k0,bX,cN,dH,dT,eG⟩:=ctx q (s y) (c8 (aG y)) (S y) none _ hy.2 al;rw[k0]at g1;simp only[some.injEq,Prod.mk.injEq,true_and]at g1;obtain⟨rfl,rfl⟩:=g1;rw[g2]at ar;split at he
     .rename_i ax;subst he;rw[aA]at dT;obtain⟨cz,gZ,c2,cA,jd,e,iU,hp,iV,kq,hc,oN⟩:=bx.pick ds _ _ k d dT au;rw[e,x9 cz gZ c2 _ _ iU (aA.length _ _ _ hc)]at ar;by_cases aZ:d.tree=true
      .exact Good.same h aQ ax ((aO.dk aZ).2 ⟨aa,by rw[<-ar];exact aA.plain _ _ _ _ ax hc⟩)
      .cases d<;>first|exact(aZ rfl).elim|(rw[aA]at hc;exact hc.elim)|exact Good.same h aQ rfl (by rw[aO];trivial)|(have bY:=aA.plain _ _ _ (λ_=>False) ax hc;rw[ar,ib (by exact aa)]at bY;exact Good.same h aQ rfl (aO.tp _ _ rfl bY))
     .subst he;refine Good.same h aQ rfl ?_;rw[aO];intro d2 hq Dp;rw[Dt w q _ _ _ _ _ _ [k] k0];rw[Ds _ _ _ _ al]at hq;simp only[I.sub,au,some.injEq]at hq;subst hq;simp only[er,au];exact⟨_,_,rfl,ar.symm,aa⟩
   .cases he
  .cases he
 .cases he
def oV (C:cj) (s:ak) (T:TypeId) (x:I) (k:Nat):Option I:=
 match(C.T T).k with
 | .struct aD=>match aD[k]? with
   |some (lR,off)=>match x with
    | .agg ds=>match ds[k]? with
      |some d=>if I.eY (ds.take k)=off/\fits C lR d=true/\d.plain=true/\d.tree=true then some d else none
      |none=>none
    | .h y q=>match I.sub q (s y)with
      |some (.agg ds)=>match ds[k]? with
       |some d=>if I.eY (ds.take k)=off/\fits C lR d=true/\I.hz ds=false/\d.tree=true then some (if d.plain then d else .h y (q++[k]))else none
       |none=>none
      |_=>none
    |_=>none
   |none=>none
 |_=>none
theorem abH (bK:C.fz) (h:b8 w0 F0 X F S s aG w) {T:TypeId} {x:I} {v:Value} {k:Nat} (aE:aO w F s aG x v (λ_=>False)) (he:oV C s T x k=some av):Good C w0 F0 X aG w (Instr.field T v k) av s:=by
 have key:∀(aD:List (TypeId×Nat)) (lR:TypeId) (off:Nat),(C.T T).k= .struct aD->aD[k]? =some (lR,off)->∀(ds:axi) (d:I) (arr:Array Value) (aX:Nat->Prop),ds[k]? =some d->I.eY (ds.take k)=off->fits C lR d=true->bx w F ds arr.toList aX->
   ∃x jd,(Instr.field T (.agg arr) k).run C.P w= .ok x w/\eM d x/\aA w F d (c8 x) jd/\(arr.toList.drop off).take d.wd=c8 x:=by
  intro aD lR off au bF ds d arr aX al tn j4 hQ;obtain⟨i,Dz,z,aN,aU,aR,bW,cM,cg,b3⟩:=bK.info (hr au (by simp));rw[au]at b3;obtain⟨gs,rfl,fu⟩:=Du b3;obtain⟨g,g1,rfl,rfl⟩:∃g,gs[k]? =some g/\g.type=lR/\g.offset=off:=by
   rw[<-fu,getElem?_map]at bF;simp only[map_eq_some_iff,Prod.mk.injEq]at bF;obtain⟨g,ad,ae,aI⟩:=bF;exact⟨g,by simpa using ad,ae,aI⟩
  obtain⟨cz,gZ,c2,cA,jd,e,iU,hp,iV,kq,hc,oN⟩:=bx.pick ds _ _ k d hQ al;obtain⟨x,aQ,SQ,ot⟩:=abh (w:=w) bK e (iU.trans tn) hc j4;refine⟨x,jd,?_,ot,by rw[SQ];exact hc,?_⟩
  .simp[Instr.field,run_underlying cg,g1,asAgg,aQ]
  .rw[e,SQ,<-tn];exact x9 cz gZ c2 _ _ iU (aA.length _ _ _ hc)
 have SR:∀(d:I) (x:Value) (jd:Nat->Prop),d.plain=true->eM d x->aA w F d (c8 x) jd->aO w F s aG d x (λ_=>False):=by
  intro d x jd ax aa hQ;by_cases aZ:d.tree=true
  .exact(aO.dk aZ).2 ⟨aa,aA.plain _ _ _ _ ax hQ⟩
  .cases d<;>first|exact(aZ rfl).elim|(rw[aA]at hQ;exact hQ.elim)|(rw[aO];trivial)|(have bY:=aA.plain _ _ _ (λ_=>False) ax hQ;rw[ib (by exact aa)]at bY;exact aO.tp _ _ rfl bY)
 unfold oV at he;split at he
 .rename_i aD au;split at he
  .rename_i lR off bF;split at he
   .rename_i ds;split at he
    .rename_i d al;split at he
     .rename_i ar;simp only[some.injEq]at he;subst he;obtain⟨⟨arr,rfl⟩,hQ⟩:=(aO.dk rfl).1 aE;rw[aA]at hQ;obtain⟨x,jd,aQ,aa,wM,_⟩:=key aD lR off au bF ds d arr _ al ar.1 ar.2.1 hQ;exact Good.same h aQ ar.2.2.1 (SR d x jd ar.2.2.1 aa wM)
     .cases he
    .cases he
   .rename_i y q;split at he
    .rename_i ds al;split at he
     .rename_i d oS;split at he
      .rename_i ar;simp only[some.injEq]at he;have fA:(I.agg ds).plain=false:=by simpa [I.plain]using ar.2.2.1
       rw[aO]at aE;obtain⟨dp,a,g1,g2,g3⟩:=aE _ al fA;obtain⟨arr,rfl⟩:=g3;have hy:=h.ew y;rw[aO.dk (jf al (.inl fA))]at hy;obtain⟨g_,dC,e5,gm,k0,bX,cN,dH,dT,eG⟩:=ctx q (s y) (c8 (aG y)) (S y) none _ hy.2 al;rw[k0]at g1;simp only[some.injEq,Prod.mk.injEq,true_and]at g1;obtain⟨rfl,rfl⟩:=g1;rw[aA,<-g2]at dT;obtain⟨x,jd,aQ,aa,wM,iX⟩:=key aD lR off au bF ds d arr _ oS ar.1 ar.2.1 dT;by_cases ax:d.plain=true
       .rw[if_pos ax]at he;subst he;exact Good.same h aQ ax (SR d x jd ax aa wM)
       .rw[if_neg ax]at he;subst he;refine Good.same h aQ rfl ?_;rw[aO];intro d2 hq Dp;rw[Dt w q _ _ _ _ _ _ [k] k0];rw[Ds _ _ _ _ al]at hq;simp only[I.sub,oS,some.injEq]at hq;subst hq;simp only[er,oS];refine⟨_,_,rfl,?_,aa⟩;rw[ar.1,<-g2];exact iX.symm
      .cases he
     .cases he
    .cases he
   .cases he
  .cases he
 .cases he
end
section
variable {C:cj} {w0 w:World} {F0 X F:Nat->Prop} {S:Nat->Nat->Prop} {s s1:ak} {aG:Nat->Value} {av:I}
def idx (C:cj) (T:TypeId) (x i:I):Option I:=
 match(C.T T).k,x,i with
 | .str,.str l,.int _ n=>if 0<=n then(match l[n.toNat]? with|some b=>some (.int .u8 b.toNat)|none=>none)else none
 |_,_,_=>none
theorem abI (l:axa) (n:Nat):(⟨⟨l⟩⟩:ByteArray)[n]? =l[n]? :=by
 by_cases h:n<l.length
 .have bB:n<(⟨⟨l⟩⟩:ByteArray).size:=h;rw[getElem?_eq_getElem h,getElem?_pos (⟨⟨l⟩⟩:ByteArray) n bB];rfl
 .have bB:¬n<(⟨⟨l⟩⟩:ByteArray).size:=h;rw[getElem?_eq_none (by omega),getElem?_neg (⟨⟨l⟩⟩:ByteArray) n bB]
theorem abJ (bK:C.fz) (h:b8 w0 F0 X F S s aG w) {T:TypeId} {x i:I} {v qH:Value} (aE:aO w F s aG x v (λ_=>False)) (ag:aO w F s aG i qH (λ_=>False)) (he:idx C T x i=some av):
  Good C w0 F0 X aG w (Instr.index T v qH) av s:=by
 unfold idx at he;split at he
 .rename_i l k n au;have:=oT aE;subst this;have:=p4 ag;subst this;obtain⟨i,d,z,aN,aU,aR,bW,cM,cg,b3⟩:=bK.info (hr au (by simp));rw[au]at b3;have:=tl b3;subst this;split at he
  .rename_i aS;split at he
   .rename_i b ab;simp only[some.injEq]at he;subst he;refine Good.same h ?_ rfl (of_int _ _);simp[Instr.index,asIntOf,run_underlying cg,aS,abI,ab]
   .cases he
  .cases he
 .cases he
def lenOf (s:ak):I->Option Nat
 | .str l=>some l.length
 | .a8=>some 0
 | .slice xs=>some xs.length
 | .h y q=>match I.sub q (s y)with
   |some (.aj _ xs)=>some xs.length
   |_=>none
 |_=>none
def uX (C:cj) (s:ak) (T:TypeId) (x:I):Option I:=
 match(C.T T).k,x with
 | .str,.str l=>some (.int .i64 l.length)
 | .slice _,.a8=>some (.int .i64 0)
 | .slice _,.slice xs=>some (.int .i64 xs.length)
 | .slice _,.h y q=>match I.sub q (s y)with
   |some (.aj _ xs)=>some (.int .i64 xs.length)
   |_=>none
 |_,_=>none
theorem Hk {xs:axi} {v:Value} {aX:Nat->Prop} (h:aO w F s aG (.slice xs) v aX):(xs=[]/\∃a c,v= .slice a 0 c/\c<=maxLen/\(a=none->c=0))\/
  ∃b o cap e9 sz,v= .slice (some ⟨b,o,none⟩) xs.length cap/\F b/\xs.length<=cap/\cap<=maxLen/\(∀d∈xs,d.wd=sz)/\jc w b o e9/\bx w F xs e9 (λ_=>False):=by
 have bB:=(aO.dk rfl).1 h;rw[aA,ib bB.1]at bB;obtain⟨_,⟨rfl,a,c,ae,aI⟩|⟨b,o,cap,e9,sz,ae,aI⟩⟩:=bB
 .simp at ae;exact .inl ⟨rfl,a,c,ae,aI⟩
 .simp at ae;exact .inr ⟨b,o,cap,e9,sz,ae,aI⟩
theorem abK (bK:C.fz) (h:b8 w0 F0 X F S s aG w) {T ty:TypeId} {x:I} {v:Value} (aE:aO w F s aG x v (λ_=>False)) (he:uX C s T x=some av):
  Good C w0 F0 X aG w (Builtin.len_ #[T] ty #[v]) av s:=by
 unfold uX at he;split at he
 .rename_i l au;have:=oT aE;subst this;obtain⟨i,d,z,aN,aU,aR,bW,cM,cg,b3⟩:=bK.info (hr au (by simp));rw[au]at b3;have:=tl b3;subst this;simp only[some.injEq]at he;subst he;refine Good.same h ?_ rfl (of_int _ _);simp[Builtin.len_,run_underlying cg,goInt];rfl
 .rename_i e au;have:=wL aE;subst this;obtain⟨i,d,z,aN,aU,aR,bW,cM,cg,b3⟩:=bK.info (hr au (by simp));rw[au]at b3;have:=oq b3;subst this;simp only[some.injEq]at he;subst he;refine Good.same h ?_ rfl (of_int _ _);simp[Builtin.len_,run_underlying cg,goInt]
 .rename_i e xs au;obtain⟨i,d,z,aN,aU,aR,bW,cM,cg,b3⟩:=bK.info (hr au (by simp));rw[au]at b3;have:=oq b3;subst this;simp only[some.injEq]at he;subst he;refine Good.same h ?_ rfl (of_int _ _);rcases Hk aE with⟨rfl,a,c,rfl,_⟩|⟨b,o,cap,e9,sz,rfl,_⟩<;>simp[Builtin.len_,run_underlying cg,goInt]
 .rename_i e y q au;split at he
  .rename_i sz xs al;obtain⟨i,d,z,aN,aU,aR,bW,cM,cg,b3⟩:=bK.info (hr au (by simp));rw[au]at b3;have:=oq b3;subst this;simp only[some.injEq]at he;subst he;refine Good.same h ?_ rfl (of_int _ _);rcases LG h aE al with⟨rfl,_,rfl⟩|⟨b,cap,cur,aU,fr,rfl,_⟩<;>simp[Builtin.len_,run_underlying cg,goInt]
  .cases he
 .cases he
def bytesOf:axi->Option axa
 |[]=>some []
 | .int .u8 n::r=>if 0<=n/\n<256 then(bytesOf r).map (UInt8.ofNat n.toNat::·)else none
 |_=>none
def iK (b:UInt8):I:=.int .u8 b.toNat
theorem abL (l:axa):bytesOf (l.map iK)=some l:=by
 induction l with
 |nil=>rfl
 |cons b l ih=>
  have ab:b.toNat<256:=b.toNat_lt;simp only[map_cons,iK,bytesOf,Int.toNat_natCast];rw[if_pos (by omega),ih];simp
theorem LH:∀(xs:axi) (l:axa) (cs:axg) (aX:Nat->Prop),bytesOf xs=some l->bx w F xs cs aX->cs=l.map (λb=>.int .u8 (b.toNat:Int))/\xs.length=l.length
 |[],l,cs,aX,h,aQ=>by simp[bytesOf]at h;subst h;rw[bx]at aQ;subst aQ;exact⟨rfl,rfl⟩
 |x::xs,l,cs,aX,h,aQ=>by
  unfold bytesOf at h;split at h
  .rename_i e;cases e
  .rename_i n r e;simp only[cons.injEq]at e;obtain⟨rfl,rfl⟩:=e;split at h
   .rename_i aS;simp only[map_eq_some_iff]at h;obtain⟨cW,ad,rfl⟩:=h;rw[bx]at aQ;obtain⟨cz,c2,cA,eI,rfl,ae,aI,_⟩:=aQ;obtain⟨rfl,bc⟩:=LH xs cW c2 eI ad aI;rw[aA]at ae;subst ae;refine⟨?_,by simp[bc]⟩;simp only[map_cons,cons_append,nil_append,cons.injEq,and_true,Value.int.injEq,true_and];simp only[UInt8.toNat_ofNat'];omega
   .cases h
  .cases h
theorem b8.Hl (h:b8 w0 F0 X F S s aG w) {aL:World} {sz cap:Nat} {xs:axi} {cur:Array Value} {e:TypeId} {fr:Nat×Nat} {Sn:Nat->Prop}
  (hw:aL.heap=w.heap.push (.cells cur e fr)) (ad:aL.os=w.os) (ae:aL.tape=w.tape) (aI:Out aL w)
  (bF:po fr (cur.size+(sz-1))) (hle:xs.length<=cap) (hm:cap<=maxLen) (fg:cur.size=cap*sz) (mX:∀d∈xs,d.wd=sz) (aE:bx w F xs (cur.toList.take (xs.length*sz)) Sn)
  (eB:∀b,Sn b->b<w.heap.size) (bG:∀b,Sn b->¬F b) (ca:∀u b,Sn b->¬S u b) (bb:∀b,Sn b->X b\/w0.heap.size<=b):
  b8 w0 F0 X F S s aG aL/\nQ w0 X F S s aG aL (.aj sz xs) (.slice (some ⟨w.heap.size,0,none⟩) xs.length cap):=by
 have hold:∀b,b<w.heap.size->aL.heap[b]? =w.heap[b]? :=by
  intro b ab;rw[hw,Array.getElem?_push,if_neg (by omega)]
 have atW:aL.heap.size=w.heap.size+1:=by rw[hw];simp
 refine⟨h.grow hold (by omega) ad ae aI,.inr ⟨rfl,rfl,λb=>b=w.heap.size\/Sn b,?_,?_,?_,?_,?_⟩⟩
 .simp only[c8,je];rw[aA];refine .inr ⟨w.heap.size,cap,cur,e,fr,Sn,rfl,.inl rfl,?_,bF,hle,hm,fg,mX,?_,λc ar=>.inr ar,λar=>Nat.lt_irrefl _ (eB _ ar)⟩
  .rw[hw];simp
  .exact bx.frame (λb ab=>hold b (h.gN b ab)) _ _ _ (λb ab=>hold b (eB b ab)) aE
 .rintro b (rfl|ab)
  .omega
  .have:=eB b ab;omega
 .rintro b (rfl|ab) uW
  .exact Nat.lt_irrefl _ (h.gN _ uW)
  .exact bG b ab uW
 .rintro u b (rfl|ab) hu
  .exact Nat.lt_irrefl _ (h.fN _ _ hu)
  .exact ca u b ab hu
 .rintro b (rfl|ab)
  .exact .inr h.size
  .exact bb b ab
def kL (C:cj) (s:ak) (A B:TypeId) (x:I):Option I:=
 if(C.T A).ok=true then
 match(C.T B).k,x with
 | .int k,.int _ n=>some (.int k (k.wrap n))
 | .str,.str l=>match(C.T A).k with
   | .str=>some (.str l)
   |_=>none
 | .str,x=>match(C.T A).k with
   | .slice e=>match(C.T e).k with
     | .int .u8=>match x with
       | .a8=>some (.str [])
       | .slice xs=>(bytesOf xs).map .str
       | .h y q=>match I.sub q (s y)with
         |some (.aj 1 xs)=>(bytesOf xs).map .str
         |_=>none
       |_=>none
     |_=>none
   |_=>none
 | .slice e,.str l=>match(C.T A).k,(C.T e).k with
   | .str,.int .u8=>if l.length<=9223372036854775807 then some (.aj 1 (l.map iK))else none
   |_,_=>none
 |_,_=>none
 else none
theorem SS (l:axa) (aX:Nat->Prop):bx w F (l.map iK) (l.map λb=>.int .u8 (b.toNat:Int)) aX:=by
 induction l generalizing aX with
 |nil=>simp only[map_nil];rw[bx]
 |cons b l ih=>
  simp only[map_cons];rw[bx];exact⟨[.int .u8 (b.toNat:Int)],_,λ_=>False,λ_=>False,rfl,by rw[iK,aA],ih _,λ_ h=>h.elim,λ_ h=>h.elim,λ_ h=>h.elim⟩
theorem abM (bK:C.fz) (h:b8 w0 F0 X F S s aG w) {A B:TypeId} {x:I} {v:Value} (aE:aO w F s aG x v (λ_=>False)) (he:kL C s A B x=some av):
  Good C w0 F0 X aG w (convert A B v) av s:=by
 unfold kL at he;split at he
 .rename_i iL;obtain⟨ks,atX,atY,J,a2,a3,a4,a5,pt,oW⟩:=bK.info iL;split at he
  .rename_i k c_ n au;have:=p4 aE;subst this;obtain⟨i,d,z,aN,aU,aR,bW,cM,cg,b3⟩:=bK.info (hr au (by simp));rw[au]at b3;have:=Hd b3;subst this;simp only[some.injEq]at he;subst he;refine Good.same h ?_ rfl (of_int _ _);simp[convert,run_underlying pt,run_underlying cg,Conv.intToInt]
  .rename_i l au;have:=oT aE;subst this;obtain⟨i,d,z,aN,aU,aR,bW,cM,cg,b3⟩:=bK.info (hr au (by simp));rw[au]at b3;have:=tl b3;subst this;split at he
   .rename_i DD;rw[DD]at oW;have:=tl oW;subst this;simp only[some.injEq]at he;subst he;refine Good.same h ?_ rfl (rZ _);simp[convert,run_underlying pt,run_underlying cg]
   .cases he
  .rename_i x au _;obtain⟨i,d,z,aN,aU,aR,bW,cM,cg,b3⟩:=bK.info (hr au (by simp));rw[au]at b3;have:=tl b3;subst this;split at he
   .rename_i e DD;rw[DD]at oW;have:=oq oW;subst this;split at he
    .rename_i DE;obtain⟨tm,bI,uU,f1,f2,f3,f4,f5,f6,f7⟩:=bK.info (hr DE (by simp));rw[DE]at f7;have:=Hd f7;subst this;have fin:∀(l:axa) (b o cap:Nat),jc w b o (l.map λb=>.int .u8 (b.toNat:Int))->(convert A B (.slice (some ⟨b,o,none⟩) l.length cap)).run C.P w= .ok (.string ⟨⟨l⟩⟩) w:=by
      intro l b o cap mc;refine run_convert_bytes_back w A B e ⟨b,o,none⟩ cap l pt f6 cg (λj bE=>?_);rw[Addr.add_lit];exact mc j _ (by simp[bE])
     have nil:(convert A B (.slice none 0 0)).run C.P w= .ok (.string ⟨⟨[]⟩⟩) w:=by
      simp[convert,run_underlying pt,run_underlying cg,run_underlying f6,Conv.bytesToString];rfl
     split at he
     .have:=wL aE;subst this;simp only[some.injEq]at he;subst he;exact Good.same h nil rfl (rZ _)
     .rename_i xs _;simp only[map_eq_some_iff]at he;obtain⟨l,aC,rfl⟩:=he;rcases Hk aE with⟨rfl,a,c,rfl,_,yk⟩|⟨b,o,cap,e9,sz,rfl,ad,ae,aI,bc,bY,dt⟩
      .simp[bytesOf]at aC;subst aC;cases a with
       |none=>
        have:=yk rfl;subst this;exact Good.same h nil rfl (rZ _)
       |some a=>
        refine Good.same h ?_ rfl (rZ _);exact run_convert_bytes_back w A B e a c [] pt f6 cg (λj bE=>by simp at bE)
      .obtain⟨rfl,dv⟩:=LH xs l e9 _ aC dt;rw[dv];exact Good.same h (fin l b o cap bY) rfl (rZ _)
     .rename_i y q;split at he
      .rename_i xs al;simp only[map_eq_some_iff]at he;obtain⟨l,aC,rfl⟩:=he;rcases LG h aE al with⟨rfl,a,rfl⟩|⟨b,cap,cur,aU,fr,rfl,ad,ae,aI,bc,bY,dt,aX,dv,_⟩
       .simp[bytesOf]at aC;subst aC;cases a with
        |none=>exact Good.same h nil rfl (rZ _)
        |some a=>
         refine Good.same h ?_ rfl (rZ _);exact run_convert_bytes_back w A B e a 0 [] pt f6 cg (λj bE=>by simp at bE)
       .obtain⟨hN,j3⟩:=LH xs l _ _ aC dv;rw[j3];refine Good.same h (fin l b 0 cap ?_) rfl (rZ _);rw[<-hN];exact Ao ad _
      .cases he
     .cases he
    .cases he
   .cases he
  .rename_i e l au;have:=oT aE;subst this;obtain⟨i,d,z,aN,aU,aR,bW,cM,cg,b3⟩:=bK.info (hr au (by simp));rw[au]at b3;have:=oq b3;subst this;split at he
   .rename_i DD DE;rw[DD]at oW;have:=tl oW;subst this;obtain⟨tm,bI,uU,f1,f2,f3,f4,f5,f6,f7⟩:=bK.info (hr DE (by simp));rw[DE]at f7;have:=Hd f7;subst this;split at he
    .rename_i aC;simp only[some.injEq]at he;subst he;have aa:(⟨⟨l⟩⟩:ByteArray).size=l.length:=rfl;have LI:=grownCap_ge w l.length 0 e;have abN:=grownCap_le_maxLen w l.length 0 e (by unfold maxLen;omega);have SU:(bytesRow ⟨⟨l⟩⟩ (grownCap w l.length 0 e)).toList=l.map (λb=>Value.int .u8 (b.toNat:Int))++replicate (grownCap w l.length 0 e-l.length) (.int .u8 0):=by
      simp[bytesRow,aa]
     have fg:(bytesRow ⟨⟨l⟩⟩ (grownCap w l.length 0 e)).size=grownCap w l.length 0 e*1:=by
      have:(bytesRow ⟨⟨l⟩⟩ (grownCap w l.length 0 e)).size=(bytesRow ⟨⟨l⟩⟩ (grownCap w l.length 0 e)).toList.length:=by simp
      rw[this,SU];simp;omega
     have yh:=run_bytes_of_string w A B e ⟨⟨l⟩⟩ pt cg f6;rw[aa]at yh;have ou:=h.Hl (aL:=w.drew.alloc (.cells (bytesRow ⟨⟨l⟩⟩ (grownCap w l.length 0 e)) e ((bytesRow ⟨⟨l⟩⟩ (grownCap w l.length 0 e)).size,(bytesRow ⟨⟨l⟩⟩ (grownCap w l.length 0 e)).size+1)))
      (sz:=1) (cap:=grownCap w l.length 0 e) (xs:=l.map iK) (cur:=bytesRow ⟨⟨l⟩⟩ (grownCap w l.length 0 e)) (e:=e) (Sn:=λ_=>False) rfl rfl rfl ⟨rfl,λ_=>le_succ _⟩
      (λo bH ⟨ad,_⟩=>by simp only at ad;omega) (by simpa using LI) abN fg (by intro d al;obtain⟨b,_,rfl⟩:=mem_map.1 al;rfl)
      (by rw[SU,take_left' (by simp)];exact SS l _) (λ_ h=>h.elim) (λ_ h=>h.elim) (λ_ _ h=>h.elim) (λ_ h=>h.elim)
     simp only[length_map]at ou;exact⟨_,_,F,S,yh,ou.1,ou.2⟩
    .cases he
   .cases he
  .cases he
 .cases he
end
section
variable {C:cj} {w0 w:World} {F0 X F:Nat->Prop} {S:Nat->Nat->Prop} {s s1:ak} {aG:Nat->Value} {av:I}
def jr (d:Nat):Option I->Option Nat
 |none=>some d
 |some (.int _ n)=>if 0<=n then some n.toNat else none
 |some _=>none
def ix (C:cj) (s:ak) (T:TypeId) (x:I) (fF ag:Option I):Option (I×ak):=
 match(C.T T).k,x with
 | .str,.str l=>match jr 0 fF,jr l.length ag with
   |some a,some b=>if a<=b/\b<=l.length then some (.str ((l.take b).drop a),s)else none
   |_,_=>none
 | .slice e,.a8=>match jr 0 fF,jr 0 ag with
   |some 0,some 0=>if(C.T e).ok=true then some (.a8,s)else none
   |_,_=>none
 | .slice e,.slice xs=>match jr 0 fF,jr xs.length ag with
   |some a,some b=>if a<=b/\b<=xs.length/\(C.T e).ok=true/\(∀d∈xs,d.wd=(C.T e).sz)then some (.slice ((xs.take b).drop a),s)else none
   |_,_=>none
 | .slice e,.h y q=>match I.sub q (s y)with
   |some (.aj sz xs)=>match jr 0 fF,jr xs.length ag with
    |some 0,some b=>if b<=xs.length/\(C.T e).ok=true then(match dw s (.h y q)with|some (_,s1)=>some (.aj sz (xs.take b),s1)|none=>none)else none
    |_,_=>none
   |_=>none
 |_,_=>none
def uY (w:World) (F:Nat->Prop) (s:ak) (aG:Nat->Value):Option I->Option Value->Prop
 |none,none=>True
 |some d,some v=>aO w F s aG d v (λ_=>False)
 |_,_=>False
theorem SV {d:Nat} {o:Option I} {v:Option Value} (bH:uY w F s aG o v) {a:Nat} (h:jr d o=some a):(o=none/\v=none/\a=d)\/∃k,v=some (.int k a):=by
 cases o with
 |none=>
  cases v with
  |none=>simp[jr]at h;exact .inl ⟨rfl,rfl,h.symm⟩
  |some v=>simp[uY]at bH
 |some x=>
  cases v with
  |none=>simp[uY]at bH
  |some v=>
   simp only[uY]at bH;cases x with
   |int k n=>
    have:=p4 bH;subst this;simp only[jr]at h;split at h
    .rename_i aS;simp only[some.injEq]at h;subst h;obtain⟨m,rfl⟩:=Int.eq_ofNat_of_zero_le aS;exact .inr ⟨k,rfl⟩
    .cases h
   |_=>simp[jr]at h
theorem Ax {P:Program} {isS:Bool} {len cap a b:Nat} {fF ag:Option I} {ym yn:Option Value} (qJ:uY w F s aG fF ym) (qK:uY w F s aG ag yn) (bl:jr 0 fF=some a) (ab:jr len ag=some b) (kp:a<=b) (abO:b<=cap) (_hlc:len<=cap):
  (Instr.sliceBounds isS len cap ym yn none).run P w= .ok (a,b,cap) w:=by
 rcases SV qJ bl with⟨_,rfl,rfl⟩|⟨k,rfl⟩<;>rcases SV qK ab with⟨_,rfl,rfl⟩|⟨c_,rfl⟩<;>
  simp[Instr.sliceBounds,Instr.sliceBound,asIntOf,kp,abO]
theorem Ay (bK:C.fz) {T:TypeId} (au:(C.T T).flat=true) (v:Value) (fF ag fb:Option Value) (w:World):(Instr.sliceAt T v fF ag fb).run C.P w=(Instr.slice T v fF ag fb).run C.P w:=by
 obtain⟨i,d,z,aN,aU,aR,bW,cM,cg,b3⟩:=bK.info (Sy au);have dQ:∀n e,d≠.array n e:=by
  clear cg;unfold hA.flat at au;generalize (C.T T).k=nR at*;cases nR<;>cases d<;>simp[nP]at b3 au⊢
 cases d<;>first|exact(dQ _ _ rfl).elim|simp[Instr.sliceAt,run_underlying cg]
theorem Az {x:hA} {k:p2} (h:x.k=k) (au:k≠.other) (aa:∀aD,k≠.struct aD) (ab:∀e,k≠.gx e:=by simp):x.flat=true:=by
 unfold hA.flat;rw[h];cases k<;>first|rfl|exact(au rfl).elim|exact(ab _ rfl).elim|exact(aa _ rfl).elim
theorem bx.split:∀(n:Nat) (xs:axi) (cs:axg) (aX:Nat->Prop),bx w F xs cs aX->∃cz c2 cA eI,cs=cz++c2/\bx w F (xs.take n) cz cA/\bx w F (xs.drop n) c2 eI/\(∀b,cA b->aX b)/\(∀b,eI b->aX b)/\(∀b,cA b->¬eI b)
 |0,xs,cs,aX,h=>⟨[],cs,λ_=>False,aX,rfl,by rw[take_zero,bx],h,λ_ h=>h.elim,λ_ h=>h,λ_ h=>h.elim⟩
 |n+1,[],cs,aX,h=>by rw[bx]at h;subst h;exact⟨[],[],λ_=>False,λ_=>False,rfl,by rw[take_nil,bx],by rw[drop_nil,bx],λ_ h=>h.elim,λ_ h=>h.elim,λ_ h=>h.elim⟩
 |n+1,x::xs,cs,aX,h=>by
  rw[bx]at h;obtain⟨cz,c2,iT,hO,rfl,ad,ae,aI,bc,bY⟩:=h;obtain⟨d1,d2,cA,eI,rfl,g1,g2,g3,g4,g5⟩:=bx.split n xs c2 hO ae;refine⟨cz++d1,d2,λb=>iT b\/cA b,eI,by simp,?_,g2,?_,λb ab=>bc _ (g4 _ ab),?_⟩
  .rw[take_succ_cons,bx];exact⟨cz,d1,iT,cA,rfl,ad,g1,λ_ h=>.inl h,λ_ h=>.inr h,λb ab ar=>bY b ab (g3 b ar)⟩
  .rintro b (ab|ab)
   .exact aI b ab
   .exact bc b (g3 b ab)
  .rintro b (ab|ab) ar
   .exact bY b ab (g4 b ar)
   .exact g5 b ab ar
theorem abP (bK:C.fz) (h:b8 w0 F0 X F S s aG w) {T:TypeId} {x:I} {v:Value} {fF ag:Option I} {ym yn:Option Value} (an:x.plain=true) (aE:aO w F s aG x v (λ_=>False)) (qJ:uY w F s aG fF ym) (qK:uY w F s aG ag yn)
  (he:ix C s T x fF ag=some (av,s1)):Good C w0 F0 X aG w (Instr.sliceAt T v ym yn none) av s1:=by
 unfold ix at he;split at he
 .rename_i l au;have:=oT aE;subst this;obtain⟨i,d,z,aN,aU,aR,bW,cM,cg,b3⟩:=bK.info (hr au (by simp));rw[au]at b3;have:=tl b3;subst this;split at he
  .rename_i a b bl ab;split at he
   .rename_i kp;simp only[some.injEq,Prod.mk.injEq]at he;obtain⟨rfl,rfl⟩:=he;refine Good.same h ?_ rfl (rZ _);rw[Ay bK (Az au (by simp) (by simp))];have fg:(⟨⟨l⟩⟩:ByteArray).size=l.length:=rfl;have qL:=Ax (P:=C.P) (isS:=false) (len:=l.length) (cap:=l.length) qJ qK bl ab kp.1 kp.2 (Nat.le_refl _);have abQ:(⟨⟨l⟩⟩:ByteArray).extract a b=⟨⟨(l.take b).drop a⟩⟩:=by
     apply ByteArray.ext;simp[ByteArray.data_extract,drop_take]
    simp[Instr.slice,run_underlying cg,fg,qL,abQ]
   .cases he
  .cases he
 .rename_i e au;have:=wL aE;subst this;obtain⟨i,d,z,aN,aU,aR,bW,cM,cg,b3⟩:=bK.info (hr au (by simp));rw[au]at b3;have:=oq b3;subst this;split at he
  .rename_i bl ab;split at he
   .rename_i uZ;obtain⟨tm,bI,uU,f1,f2,f3,f4,f5,f6,f7⟩:=bK.info uZ;simp only[some.injEq,Prod.mk.injEq]at he;obtain⟨rfl,rfl⟩:=he;have qL:=Ax (P:=C.P) (isS:=true) (len:=0) (cap:=0) qJ qK bl ab (Nat.le_refl _) (Nat.le_refl _) (Nat.le_refl _);refine Good.same h (v:=.slice none 0 0) ?_ rfl aE;rw[Ay bK (Az au (by simp) (by simp))];simp[Instr.slice,run_underlying cg,qL,nb f1,f2]
   .cases he
  .cases he
 .rename_i e xs au;obtain⟨i,d,z,aN,aU,aR,bW,cM,cg,b3⟩:=bK.info (hr au (by simp));rw[au]at b3;have:=oq b3;subst this;split at he
  .rename_i a b bl ab;split at he
   .rename_i kp;obtain⟨abR,SW,uZ,mX⟩:=kp;obtain⟨tm,bI,uU,f1,f2,f3,f4,f5,f6,f7⟩:=bK.info uZ;simp only[some.injEq,Prod.mk.injEq]at he;obtain⟨rfl,rfl⟩:=he;rcases Hk aE with⟨rfl,AA,c,rfl,LJ,yk⟩|⟨lu,o,cap,e9,sz,rfl,ad,ae,aI,bc,bY,dt⟩
    .have iZ:b=0:=by simpa using SW
     subst iZ;have abS:a=0:=by omega
     subst abS;have qL:=Ax (P:=C.P) (isS:=true) (len:=0) (cap:=c) qJ qK bl ab (Nat.le_refl _) (zero_le _) (zero_le _);refine Good.same h (v:=.slice AA 0 c) ?_ rfl ((aO.dk rfl).2 ⟨rfl,by rw[aA];exact .inl ⟨rfl,AA,c,rfl,LJ,yk⟩⟩);rw[Ay bK (Az au (by simp) (by simp))];cases AA with
     |none=>
      have:=yk rfl;subst this;simp[Instr.slice,run_underlying cg,qL,nb f1,f2]
     |some AA=>simp[Instr.slice,run_underlying cg,qL,nb f1,f2,Addr.add]
    .have qL:=Ax (P:=C.P) (isS:=true) (len:=xs.length) (cap:=cap) qJ qK bl ab abR (Nat.le_trans SW ae) ae;obtain⟨cz,c2,cA,eI,rfl,g1,g2,g3,g4,g5⟩:=bx.split b xs e9 _ dt;obtain⟨d1,d2,atZ,SX,rfl,bX,cN,dH,dT,eG⟩:=bx.split a (xs.take b) cz _ g1;have Hm:d1.length=a*(C.T e).sz:=by
      rw[bx.length _ _ _ bX,ya _ (λd al=>mX d (mem_of_mem_take (mem_of_mem_take al))),length_take,length_take];congr 1;omega
     have hlen:((xs.take b).drop a).length=b-a:=by simp;omega
     have mc:jc w lu (o+a*(C.T e).sz) d2:=by
      rw[<-Hm];have:jc w lu o (d1++(d2++c2)):=by simpa using bY
      exact this.Ly
     have Hn:bx w F ((xs.take b).drop a) d2 (λ_=>False):=bx.mono (λ_ h=>h) _ _ _ _ (λb ab=>(g3 _ (dT _ ab)).elim) cN;have mem:∀d∈(xs.take b).drop a,d.wd=sz:=λd al=>bc d (mem_of_mem_take (mem_of_mem_drop al));have run:(Instr.sliceAt T (.slice (some ⟨lu,o,none⟩) xs.length cap) ym yn none).run C.P w= .ok (.slice (if cap=a then some ⟨lu,o,none⟩else some ⟨lu,o+a*(C.T e).sz,none⟩) (b-a) (cap-a)) w:=by
      rw[Ay bK (Az au (by simp) (by simp))];simp[Instr.slice,run_underlying cg,qL,nb f1,f2,Addr.add_lit]
     refine⟨_,w,F,S,run,h,.inl ⟨rfl,(aO.dk rfl).2 ⟨rfl,?_⟩⟩⟩;simp only[c8,je];rw[aA];by_cases SY:cap=a
     .have abT:b=a:=by omega
      subst abT;have DF:(xs.take b).drop b=[]:=by simp
      rw[if_pos SY];rw[DF]at Hn⊢;rw[bx]at Hn;subst Hn;exact .inr ⟨lu,o,cap-b,[],sz,by simp,ad,zero_le _,by omega,by simp,λj c bE=>by simp at bE,by rw[bx]⟩
     .rw[if_neg SY];exact .inr ⟨lu,_,cap-a,d2,sz,by rw[hlen],ad,by rw[hlen];omega,by omega,mem,mc,Hn⟩
   .cases he
  .cases he
 .rename_i e y q au;split at he
  .rename_i sz xs al;split at he
   .rename_i b bl ab;split at he
    .rename_i wN;split at he
     .rename_i Dz s2 aZ;simp only[some.injEq,Prod.mk.injEq]at he;obtain⟨rfl,rfl⟩:=he;obtain⟨i,d,z,aN,aU,aR,bW,cM,cg,b3⟩:=bK.info (hr au (by simp));rw[au]at b3;have:=oq b3;subst this;obtain⟨tm,bI,uU,f1,f2,f3,f4,f5,f6,f7⟩:=bK.info wN.2;have yl:Dz= .aj sz xs:=by
       simp only[dw,al,I.plain]at aZ;simp at aZ;exact aZ.1.symm
      subst yl;obtain⟨cA,g0,g1,g2,Sn,g3,g4,g5,g6,g7,g8⟩:=rW h rfl aE aZ;rw[ib g2,aA]at g3;rcases g3 with⟨rfl,a0,nu⟩|⟨lu,cap,cur,ga,fr,aX,nu,bX,cN,dH,dT,eG,eg,kt,fB,oX,j8⟩
      .simp at nu;subst nu;have iZ:b=0:=by simpa using wN.1
       subst iZ;have qL:=Ax (P:=C.P) (isS:=true) (len:=0) (cap:=0) qJ qK bl ab (Nat.le_refl _) (Nat.le_refl _) (Nat.le_refl _);refine⟨.slice a0 0 0,w,F,cA,?_,g0,.inr ⟨rfl,rfl,λ_=>False,by simp only[c8,je];rw[aA];exact .inl ⟨rfl,_,rfl⟩,λ_ h=>h.elim,λ_ h=>h.elim,λ_ _ h=>h.elim,λ_ h=>h.elim⟩⟩;rw[Ay bK (Az au (by simp) (by simp))];cases a0<;>simp[Instr.slice,run_underlying cg,qL,nb f1,f2]
      .simp at nu;subst nu;have qL:=Ax (P:=C.P) (isS:=true) (len:=xs.length) (cap:=cap) qJ qK bl ab (zero_le _) (Nat.le_trans wN.1 dT) dT;have hlen:(xs.take b).length=b:=by simp;omega
       have run:(Instr.sliceAt T (.slice (some ⟨lu,0,none⟩) xs.length cap) ym yn none).run C.P w= .ok (.slice (some ⟨lu,0,none⟩) b cap) w:=by
        rw[Ay bK (Az au (by simp) (by simp))];simp[Instr.slice,run_underlying cg,qL,nb f1,f2,Addr.add_lit]
       refine⟨_,w,F,cA,run,g0,.inr ⟨rfl,rfl,Sn,?_,g4,g5,g6,g7⟩⟩;simp only[c8,je];rw[aA];obtain⟨cz,c2,iT,hO,ar,m1,m2,m3,m4,m5⟩:=bx.split b xs _ _ fB;refine .inr ⟨lu,cap,cur,ga,fr,aX,by rw[hlen],bX,cN,dH,by omega,eG,eg,λd al=>kt d (mem_of_mem_take al),?_,oX,j8⟩;have Hm:cz.length=b*sz:=by
        rw[bx.length _ _ _ m1,ya _ (λd al=>kt d (mem_of_mem_take al)),hlen]
       have:cur.toList.take ((xs.take b).length*sz)=cz:=by
        rw[hlen];have ae:b*sz<=xs.length*sz:=mul_le_mul_right _ wN.1;have:(cur.toList.take (xs.length*sz)).take (b*sz)=cz:=by rw[ar,take_left' Hm]
        rwa [take_take,Nat.min_eq_left ae]at this
       rw[this];exact bx.mono (λ_ h=>h) _ _ _ _ m3 m1
     .cases he
    .cases he
   .cases he
  .cases he
 .cases he
end
section
variable {C:cj} {w0 w:World} {F0 X F:Nat->Prop} {S:Nat->Nat->Prop} {s s1:ak} {aG:Nat->Value} {av:I}
def Src (P:Program) (w:World) (size:Nat) (x:Value) (m:Nat) (news:axg):Prop:=
 ∀aL:World,aL.heap=w.heap->(Builtin.lenOf x).run P aL= .ok m aL/\(Builtin.firstCells size m x).run P aL= .ok news.toArray aL
def LK (d:TypeDesc):Prop:=(∃e,d= .slice e)\/d= .string
theorem abU {P:Program} {T dI ty e:TypeId} {u0:TypeDesc} {i:TypeInfo} (aZ:P.underlying T=some (.slice e)) (hu:P.underlying dI=some u0) (yo:LK u0) (ag:P.info? e=some i)
  {x:Value} {m:Nat} {news:axg} (Ho:Src P w i.size x m news) {b n cap:Nat} {cur:Array Value} {ga:TypeId} {fr:Nat×Nat} {l mid r:axg} (ab:w.heap[b]? =some (.cells cur ga fr)) (bF:po fr cur.size)
  (ar:cur.toList=l++(mid++r)) (aC:l.length=n*i.size) (hm:mid.length=news.length) (Hh:∀v∈news,Value.hE v=true) (ts:n+m<=cap):
  ∃aL,(Builtin.append_ #[T,dI] ty #[.slice (some ⟨b,0,none⟩) n cap,x]).run P w= .ok (.slice (some ⟨b,0,none⟩) (n+m) cap) aL/\aL.heap[b]? =some (.cells (l++(news++r)).toArray ga fr)/\
   (∀c,c≠b->aL.heap[c]? =w.heap[c]?)/\aL.heap.size=w.heap.size/\aL.os=w.os/\aL.tape=w.tape/\Out aL w:=by
 obtain⟨aL,m1,m2⟩:=Hg (P:=P) (b:=b) (o:=n*i.size) (e:=ga) (fr:=fr) news 0 cur w l mid r ab bF ar (by omega) hm Hh;refine⟨aL,?_,m2⟩;obtain⟨ad,ae⟩:=Ho w rfl;rcases yo with⟨hd,rfl⟩|rfl<;>simp[Builtin.append_,run_underlying aZ,run_underlying hu,nb ag,ad,ae,ts,Addr.add_lit,m1]
theorem abV {P:Program} {T dI ty e:TypeId} {u0:TypeDesc} {i:TypeInfo} {z:Value} (aZ:P.underlying T=some (.slice e)) (hu:P.underlying dI=some u0) (yo:LK u0) (ag:P.info? e=some i) (b9:i.zero=some z)
  {x:Value} {m:Nat} {news:axg} (Ho:Src P w i.size x m news) {base:Option Addr} {n cap:Nat} {r1:axg} (hold:Src P w i.size (.slice base n cap) n r1) (ts:¬n+m<=cap)
  (aS:n+m<=9223372036854775807) (LL:(n+m)*i.bytes<=140737488355328):
  (Builtin.append_ #[T,dI] ty #[.slice base n cap,x]).run P w= .ok (.slice (some ⟨w.heap.size,0,none⟩) (n+m) (grownCap w (n+m) cap e))
   (w.drew.alloc (.cells (r1.toArray++news.toArray++Builtin.zeroCells z.cells (grownCap w (n+m) cap e-(n+m))) e)):=by
 have ad:=(Ho w rfl).1;have ae:=(Ho w.drew rfl).2;have aI:=(hold w.drew rfl).2;have at0:=growslice_fits (need:=n+m) (old:=cap) (by omega) LL;have j4:¬(281474976710656<Builtin.nextslicecap (n+m) cap*i.bytes):=by omega
 have Hp:∀k (w:World),(askRoom k).run P w= .ok () w:=by
  intro k w;unfold askRoom;split<;>rfl
 have abW:¬(9223372036854775807<(n:Int)+(m:Int)/\i.bytes=0):=by omega
 rcases yo with⟨hd,rfl⟩|rfl<;>
  .simp[Builtin.append_,run_underlying aZ,run_underlying hu,nb ag,Dv ag,ad,ts,j4,Question.forced,Hp];rw[if_neg abW,aI];simp[ae,yf ag b9,newRow,grownCap];have aN:(r1++news).toArray=r1.toArray++news.toArray:=by simp
   rw[aN,Array.append_assoc]
def Hq (C:cj) (e dI:TypeId):Bool:=match(C.T dI).k,(C.T e).k with
 | .slice hd,_=>hd==e
 | .str,.int .u8=>true
 |_,_=>false
def u1 (C:cj) (s:ak) (T dI:TypeId) (x y:I):Option (I×ak):=
 match(C.T T).k with
 | .slice e=>if(C.T e).ok=true/\(C.T e).zero.wd=(C.T e).sz/\(flat (C.T e).zero).isSome=true/\Hq C e dI=true then
   match(match x with| .a8=>some (I.aj (C.T e).sz [],s)| .h a q=>dw s (.h a q)|_=>none)with
   |some (.aj sz xs,s1)=>if sz=(C.T e).sz then
     match(match na x.owner y with
      | .a8=>some ([],s1)
      | .slice cL=>some (cL,s1)
      | .str l=>some (l.map iK,s1)
      | .h a q=>match dw s1 (.h a q)with
        |some (.aj _ cL,s2)=>some (cL,s2)
        |_=>none
      |_=>none)with
     |some (cL,s2)=>if(∀d∈cL,d.wd=(C.T e).sz)/\(xs.length+cL.length)*(C.T e).bytes<=140737488355328/\xs.length+cL.length<=9223372036854775807 then some (.aj sz (xs++cL),s2)else none
     |none=>none
    else none
   |_=>none
   else none
 |_=>none
theorem bx.append {xs cL:axi} {cz c2:axg} {cA eI aX:Nat->Prop} (ad:bx w F xs cz cA) (ae:bx w F cL c2 eI) (aN:∀b,cA b->aX b) (aU:∀b,eI b->aX b) (aR:∀b,cA b->¬eI b):bx w F (xs++cL) (cz++c2) aX:=by
 induction xs generalizing cz cA aX with
 |nil=>rw[bx]at ad;subst ad;exact bx.mono (λ_ h=>h) _ _ _ _ aU ae
 |cons x xs ih=>
  rw[bx]at ad;obtain⟨abX,abY,iT,hO,rfl,g1,g2,g3,g4,g5⟩:=ad;rw[cons_append,bx];refine⟨abX,abY++c2,iT,λb=>hO b\/eI b,by simp,g1,ih g2 (λb h=>.inl h) (λb h=>.inr h) (λb h=>aR b (g4 b h)),λb h=>aN b (g3 b h),?_,?_⟩
  .rintro b (h|h)
   .exact aN b (g4 b h)
   .exact aU b h
  .rintro b h (bB|bB)
   .exact g5 b h bB
   .exact aR b (g3 b h) bB
theorem LM {P:Program} {size m cap:Nat} {b o:Nat} {news:axg} (mc:jc w b o news) (aC:news.length=m*size):Src P w size (.slice (some ⟨b,o,none⟩) m cap) m news:=by
 intro aL hw;refine⟨rfl,?_⟩;refine run_firstCells_some aL size m ⟨b,o,none⟩ m cap news aC (λj v bE=>?_);rw[Addr.add_lit];have:=mc j v bE;simpa [World.cell?,hw]using this
theorem SZ {P:Program} {size cap:Nat}:Src P w size (.slice none 0 cap) 0 []:=by
 intro aL _;exact⟨rfl,by simp[Builtin.firstCells]⟩
theorem LN {P:Program} {size cap:Nat} (a:Option Addr):Src P w size (.slice a 0 cap) 0 []:=by
 cases a with
 |none=>exact SZ
 |some a=>
  intro aL _;exact⟨rfl,run_firstCells_some aL size 0 a 0 cap [] (by simp) (λj v bE=>by simp at bE)⟩
theorem abZ {P:Program} (l:axa):Src P w 1 (.string ⟨⟨l⟩⟩) l.length (l.map λb=>.int .u8 (b.toNat:Int)):=by
 intro aL _;refine⟨rfl,?_⟩;have:(⟨⟨l⟩⟩:ByteArray).extract 0 l.length=⟨⟨l⟩⟩:=by
  apply ByteArray.ext;simp[ByteArray.data_extract]
 simp[Builtin.firstCells,this]
theorem bx.yp {sz:Nat} {xs:axi} {cs:axg} {aX:Nat->Prop} (h:bx w F xs cs aX) (hw:∀d∈xs,d.wd=sz):cs.length=xs.length*sz:=by
 rw[bx.length _ _ _ h,ya _ hw]
theorem b8.turn (h:b8 w0 F0 X F S s aG w) {aL:World} {b:Nat} (ab:∀c,c≠b->aL.heap[c]? =w.heap[c]?) (aa:aL.heap.size=w.heap.size) (ad:aL.os=w.os) (ae:aL.tape=w.tape) (aI:Out aL w)
  (bG:¬F b) (ca:∀u,¬S u b) (bb:X b\/w0.heap.size<=b):b8 w0 F0 X F S s aG aL where
 iI:=h.iI
 jg:=h.jg
 gN:=λc ar=>by rw[aa];exact h.gN c ar
 fN:=λt c ar=>by rw[aa];exact h.fN t c ar
 hf:=h.hf
 gE:=h.gE
 eS:=h.eS
 ew:=λt=>aO.frame (Sx:=S) (λc ar=>ab c (by rintro rfl;exact bG ar)) (λ_ h=>h) (λx c ar=>ab c (by rintro rfl;exact ca x ar)) h.ew _ _ _ (λc ar=>ab c (by rintro rfl;exact ca t ar)) (h.ew t)
 old:=λc eB mC=>by
  rw[ab c ?_]
  .exact h.old c eB mC
  .rintro rfl;rcases bb with bb|bb
   .exact mC bb
   .omega
 size:=by rw[aa];exact h.size
 os:=ad.trans h.os
 tape:=ae.trans h.tape
 output:=aI.trans h.output
 gS:=h.gS
theorem ab0 (bK:C.fz) (h:b8 w0 F0 X F S s aG w) {T dI ty:TypeId} {x y:I} {j6 lr:Value} (an:aO w F s aG x j6 (λ_=>False)) (hy:aO w F s aG y lr (λ_=>False))
  (he:u1 C s T dI x y=some (av,s1)):Good C w0 F0 X aG w (Builtin.append_ #[T,dI] ty #[j6,lr]) av s1:=by
 unfold u1 at he;split at he
 .rename_i e au;obtain⟨S0,d,S1,aN,aU,aR,bW,cM,cg,b3⟩:=bK.info (hr au (by simp));rw[au]at b3;have:=oq b3;subst this;split at he
  .rename_i Dx;obtain⟨uZ,yq,yr,tt⟩:=Dx;obtain⟨i,S2,z,f1,f2,f3,f4,f5,f6,f7⟩:=bK.info uZ;obtain⟨hR,p6⟩:=isSome_iff_exists.1 yr;have ys:=f5 hR p6;have wO:hR.length=(C.T e).sz:=by
    have:=aA.length _ _ _ ((aA.flat (w:=w) (F:=F) _).1 (C.T e).zero hR (λ_=>False) (Nat.le_refl _) p6);rw[this,yq]
   obtain⟨u0,hu,yo⟩:∃u0,C.P.underlying dI=some u0/\LK u0:=by
    unfold Hq at tt;split at tt
    .rename_i hd nv;obtain⟨_,bI,_,_,_,_,_,_,g6,g7⟩:=bK.info (hr nv (by simp));rw[nv]at g7;exact⟨bI,g6,.inl ⟨_,oq g7⟩⟩
    .rename_i nv _;obtain⟨_,bI,_,_,_,_,_,_,g6,g7⟩:=bK.info (hr nv (by simp));rw[nv]at g7;exact⟨bI,g6,.inr (tl g7)⟩
    .cases tt
   split at he
   .rename_i sz xs LO tu;split at he
    .rename_i fg;subst fg;split at he
     .rename_i cL DG qM;split at he
      .rename_i ab1;obtain⟨AB,LL,yt⟩:=ab1;simp only[some.injEq,Prod.mk.injEq]at he;obtain⟨rfl,rfl⟩:=he;obtain⟨iT,a0,Sn,a3,a4,a5,pt,oW,LP,a9,wP⟩:∃iT,b8 w0 F0 X F iT LO aG w/\∃Sn,aA w F (.aj (C.T e).sz xs) [j6] Sn/\(∀b,Sn b->b<w.heap.size)/\(∀b,Sn b->¬F b)/\(∀u b,Sn b->¬iT u b)/\
         (∀b,Sn b->X b\/w0.heap.size<=b)/\(∀u b,iT u b->S u b)/\(∀b,Sn b->∃u,S u b)/\aO w F LO aG (na x.owner y) lr (λ_=>False):=by
        split at tu
        .simp only[some.injEq,Prod.mk.injEq,I.aj.injEq,true_and]at tu;obtain⟨rfl,rfl⟩:=tu;have:=wL an;subst this;exact⟨S,h,λ_=>False,by rw[aA];exact .inl ⟨rfl,_,rfl⟩,λ_ h=>h.elim,λ_ h=>h.elim,λ_ _ h=>h.elim,λ_ h=>h.elim,λ_ _ h=>h,λ_ h=>h.elim,hy⟩
        .obtain⟨cA,g0,g1,g2,Sn,g3,g4,g5,g6,g7,g8,g9,g10⟩:=rW h rfl an tu;rw[ib g2]at g3;exact⟨cA,g0,Sn,g3,g4,g5,g6,g7,g8,g9,g10 _ _ _ hy⟩
        .cases tu
       obtain⟨hO,lu,p7,news,hs,fT,fU,bU,cP,dn,p8,cy⟩:∃hO,b8 w0 F0 X F hO DG aG w/\∃p7 news,bx w F cL news p7/\Src C.P w i.size lr cL.length news/\(∀b,p7 b->b<w.heap.size)/\(∀b,p7 b->¬F b)/\(∀u b,p7 b->¬hO u b)/\
         (∀b,p7 b->X b\/w0.heap.size<=b)/\(∀u b,hO u b->iT u b)/\(∀b,p7 b->∃u,iT u b):=by
        split at qM
        .rename_i yu;simp only[some.injEq,Prod.mk.injEq]at qM;obtain⟨rfl,rfl⟩:=qM;rw[yu]at wP;have:=wL wP;subst this;exact⟨iT,a0,λ_=>False,[],by rw[bx],SZ,λ_ h=>h.elim,λ_ h=>h.elim,λ_ _ h=>h.elim,λ_ h=>h.elim,λ_ _ h=>h,λ_ h=>h.elim⟩
        .rename_i fc yu;simp only[some.injEq,Prod.mk.injEq]at qM;obtain⟨rfl,rfl⟩:=qM;rw[yu]at wP;rcases Hk wP with⟨rfl,AA,at1,rfl,_,yk⟩|⟨b,o,cap,e9,ab2,rfl,bX,cN,dH,dT,eG,eg⟩
         .exact⟨iT,a0,λ_=>False,[],by rw[bx],LN AA,λ_ h=>h.elim,λ_ h=>h.elim,λ_ _ h=>h.elim,λ_ h=>h.elim,λ_ _ h=>h,λ_ h=>h.elim⟩
         .exact⟨iT,a0,λ_=>False,e9,eg,LM eG (by rw[f2];exact bx.yp eg AB),λ_ h=>h.elim,λ_ h=>h.elim,λ_ _ h=>h.elim,λ_ h=>h.elim,λ_ _ h=>h,λ_ h=>h.elim⟩
        .rename_i l yu;simp only[some.injEq,Prod.mk.injEq]at qM;obtain⟨rfl,rfl⟩:=qM;rw[yu]at wP;have:=oT wP;subst this;have Hr:l≠[]->i.size=1:=by
          intro aC;cases l with
          |nil=>exact(aC rfl).elim
          |cons b l=>rw[f2,<-AB (iK b) (by simp)];rfl
         by_cases aC:l=[]
         .subst aC;refine⟨iT,a0,λ_=>False,[],by simp only[map_nil];rw[bx],?_,λ_ h=>h.elim,λ_ h=>h.elim,λ_ _ h=>h.elim,λ_ h=>h.elim,λ_ _ h=>h,λ_ h=>h.elim⟩;intro aL _;exact⟨rfl,by simp[Builtin.firstCells,ByteArray.extract];rfl⟩
         .refine⟨iT,a0,λ_=>False,_,SS l _,?_,λ_ h=>h.elim,λ_ h=>h.elim,λ_ _ h=>h.elim,λ_ h=>h.elim,λ_ _ h=>h,λ_ h=>h.elim⟩;rw[Hr aC,length_map];exact abZ l
        .rename_i a q yu;split at qM
         .rename_i at2 fc s2 aZ;simp only[some.injEq,Prod.mk.injEq]at qM;obtain⟨rfl,rfl⟩:=qM;rw[yu]at wP;obtain⟨eI,g0,g1,g2,p7,g3,g4,g5,g6,g7,g8,g9,g10⟩:=rW a0 rfl wP aZ;rw[ib g2,aA]at g3;rcases g3 with⟨rfl,ab3,nu⟩|⟨b,cap,cur,ga,fr,aX,nu,bX,cN,dH,dT,eG,eg,kt,fB,oX,j8⟩
          .simp at nu;subst nu;exact⟨eI,g0,λ_=>False,[],by rw[bx],(LN ab3),λ_ h=>h.elim,λ_ h=>h.elim,λ_ _ h=>h.elim,λ_ h=>h.elim,g8,λ_ h=>h.elim⟩
          .simp at nu;subst nu;refine⟨eI,g0,aX,_,fB,LM (Ao cN _) ?_,λc ar=>g4 c (oX c ar),λc ar=>g5 c (oX c ar),λu c ar=>g6 u c (oX c ar),λc ar=>g7 c (oX c ar),g8,λc ar=>g9 c (oX c ar)⟩;rw[f2];exact bx.yp fB AB
         .cases qM
        .cases qM
       have wQ:news.length=cL.length*(C.T e).sz:=bx.yp hs AB;have qN:∀c,Sn c->¬p7 c:=λc ad ae=>by obtain⟨u,hu⟩:=cy c ae;exact pt u c ad hu
       have kp:∀u c,Sn c->¬hO u c:=λu c ad ae=>pt u c ad (p8 u c ae);have grow:∀(base:Option Addr) (cap:Nat) (r1:axg) (Sx:Nat->Prop),j6= .slice base xs.length cap->Src C.P w i.size (.slice base xs.length cap) xs.length r1->bx w F xs r1 Sx->(∀d∈xs,d.wd=(C.T e).sz)->(∀c,Sx c->Sn c)->¬xs.length+cL.length<=cap->
         Good C w0 F0 X aG w (Builtin.append_ #[T,dI] ty #[j6,lr]) (.aj (C.T e).sz (xs++cL)) DG:=by
        intro base cap r1 Sx LD hold S3 S4 fS ts;subst LD;have aQ:=abV (ty:=ty) cg hu yo f1 f4 fT hold ts yt (by rw[f3];exact LL);have LI:=grownCap_ge w (xs.length+cL.length) cap e;have LJ:=grownCap_le_maxLen w (xs.length+cL.length) cap e (by unfold maxLen;omega);have DH:=bx.yp S3 S4;have ab4:bx w F (xs++cL) (r1++news) (λc=>Sx c\/p7 c):=bx.append S3 hs (λ_ h=>.inl h) (λ_ h=>.inr h) (λc ad ae=>qN c (fS c ad) ae);have ab5:(r1++news).length=(xs++cL).length*(C.T e).sz:=by simp[DH,wQ,Nat.add_mul]
        have ou:=lu.Hl (aL:=w.drew.alloc (.cells (r1.toArray++news.toArray++Builtin.zeroCells z.cells (grownCap w (xs.length+cL.length) cap e-(xs.length+cL.length))) e))
         (sz:=(C.T e).sz) (cap:=grownCap w (xs.length+cL.length) cap e) (xs:=xs++cL) (e:=e) (fr:=(0,0)) (Sn:=λc=>Sx c\/p7 c) rfl rfl rfl ⟨rfl,λ_=>le_succ _⟩
         (λo _ ⟨_,ae⟩=>absurd ae (not_lt_zero _)) (by simpa using LI) LJ
         (by
          simp only[Array.size_append,List.size_toArray,size_zeroCells,ys,DH,wQ,wO,<-Nat.add_mul];congr 1;omega)
         (by
          intro d al;rcases mem_append.1 al with al|al
          .exact S4 d al
          .exact AB d al)
         (by
          simp only[Array.toList_append];rw[take_left' ab5];exact ab4)
         (by rintro c (ar|ar);exact a4 c (fS c ar);exact fU c ar) (by rintro c (ar|ar);exact a5 c (fS c ar);exact bU c ar) (by rintro u c (ar|ar);exact kp u c (fS c ar);exact cP u c ar) (by rintro c (ar|ar);exact oW c (fS c ar);exact dn c ar)
        refine⟨_,_,F,hO,aQ,ou.1,?_⟩;have:=ou.2;simpa using this
       rw[aA]at a3;rcases a3 with⟨rfl,Hs,nu⟩|⟨b,cap,cur,ga,fr,aX,nu,bX,cN,dH,dT,eG,eg,kt,fB,oX,j8⟩
       .simp at nu;subst nu;by_cases S5:cL=[]
        .subst S5;have LQ:news=[]:=by simpa using wQ
         subst LQ;refine⟨.slice Hs 0 0,w,F,hO,?_,lu,.inr ⟨rfl,rfl,λ_=>False,by simp only[c8,je];rw[aA];exact .inl ⟨rfl,_,rfl⟩,λ_ h=>h.elim,λ_ h=>h.elim,λ_ _ h=>h.elim,λ_ h=>h.elim⟩⟩;obtain⟨ad,ae⟩:=fT w rfl;cases Hs<;>rcases yo with⟨hd,rfl⟩|rfl<;>simp at ad ae<;>simp[Builtin.append_,run_underlying cg,run_underlying hu,nb f1,ad,ae,storeCells]
        .exact grow Hs 0 [] (λ_=>False) rfl (LN Hs) (by rw[bx]) (by simp) (λ_ h=>h.elim) (by
          cases cL with
          |nil=>exact(S5 rfl).elim
          |cons y cL=>simp)
       .simp at nu;subst nu;by_cases ts:xs.length+cL.length<=cap
        ·
         have DH:=bx.yp fB kt;have hlen:cur.toList.length=cap*(C.T e).sz:=by simp[eg]
         have hle:(xs.length+cL.length)*(C.T e).sz<=cap*(C.T e).sz:=mul_le_mul_right _ ts;rw[Nat.add_mul]at hle;have pr:cur.toList=cur.toList.take (xs.length*(C.T e).sz)++((cur.toList.drop (xs.length*(C.T e).sz)).take news.length++(cur.toList.drop (xs.length*(C.T e).sz)).drop news.length):=by
          rw[take_append_drop,take_append_drop]
         obtain⟨aL,m1,m2,m3,m4,m5,m6,m7⟩:=abU (ty:=ty) (n:=xs.length) (m:=cL.length) (cap:=cap) cg hu yo f1 fT cN dH.low pr (by rw[f2];exact DH) (by simp[hlen,wQ];omega) (bx.yg _ _ _ hs) ts;have ab6:=lu.turn m3 m4 m5 m6 m7 (a5 b bX) (λu hu=>kp u b bX hu) (oW b bX);have tk:∀c,F c->aL.heap[c]? =w.heap[c]? :=λc ar=>m3 c (by rintro rfl;exact a5 _ bX ar);refine⟨_,aL,F,hO,m1,ab6,.inr ⟨rfl,rfl,λc=>Sn c\/p7 c,?_,?_,?_,?_,?_⟩⟩
         .simp only[c8,je];rw[aA];have S6:(cur.toList.take (xs.length*(C.T e).sz)++(news++(cur.toList.drop (xs.length*(C.T e).sz)).drop news.length)).toArray.size=cur.size:=by
           have:cur.size=cur.toList.length:=by simp
           rw[this];conv=>rhs;rw[pr]
           simp[hlen,wQ];omega
          refine .inr ⟨b,cap,_,ga,fr,λc=>aX c\/p7 c,by simp,.inl bX,m2,by rw[S6];exact dH,by simpa using ts,eG,by rw[S6];exact eg,?_,?_,?_,?_⟩
          .intro d al;rcases mem_append.1 al with al|al
           .exact kt d al
           .exact AB d al
          .have Aw:=bx.frame tk _ _ _ (λc ar=>m3 c (by rintro rfl;exact j8 ar)) fB;have ye:=bx.frame tk _ _ _ (λc ar=>m3 c (by rintro rfl;exact qN _ bX ar)) hs;have:((cur.toList.take (xs.length*(C.T e).sz)++(news++(cur.toList.drop (xs.length*(C.T e).sz)).drop news.length)).toArray.toList.take ((xs++cL).length*(C.T e).sz))=cur.toList.take (xs.length*(C.T e).sz)++news:=by
            simp only[];rw[<-append_assoc];exact take_left' (by rw[length_append,DH,wQ,length_append,Nat.add_mul])
           rw[this];exact bx.append Aw ye (λ_ h=>.inl h) (λ_ h=>.inr h) (λc ad ae=>qN c (oX c ad) ae)
          .rintro c (ar|ar)
           .exact .inl (oX c ar)
           .exact .inr ar
          .rintro(ar|ar)
           .exact j8 ar
           .exact qN b bX ar
         .rw[m4];rintro c (ar|ar);exact a4 c ar;exact fU c ar
         .rintro c (ar|ar);exact a5 c ar;exact bU c ar
         .rintro u c (ar|ar);exact kp u c ar;exact cP u c ar
         .rintro c (ar|ar);exact oW c ar;exact dn c ar
        .exact grow (some ⟨b,0,none⟩) cap _ aX rfl (LM (Ao cN _) (by rw[f2];exact bx.yp fB kt)) fB kt oX ts
      .cases he
     .cases he
    .cases he
   .cases he
  .cases he
 .cases he
end
section
variable {C:cj} {w0 w aL:World} {F0 X F:Nat->Prop} {S:Nat->Nat->Prop} {s s1:ak} {aG:Nat->Value} {av:I}
theorem b8.ab7 (h:b8 w0 F0 X F S s aG w) {x:Nat} {q:axd} {d bI:I} {b:Nat} (al:I.sub q (s x)=some d) (ax:d.plain=false) (LR:bI.tree=true) (ad:∀v,jM d v->jM bI v) (aa:∀v,eM d v->eM bI v)
  (ae:∀vs,bI≠.tuple vs) (mX:bI.wd=d.wd) (ab:∀dp a gm,er w q (s x) (c8 (aG x)) none=some (d,dp,a)->aA w F d dp gm->gm b/\aA aL F bI dp gm) (qG:∀c,c≠b->aL.heap[c]? =w.heap[c]?) (fg:aL.heap.size=w.heap.size) (Ls:aL.os=w.os)
  (Lt:aL.tape=w.tape) (yc:Out aL w):∃aX,b8 w0 F0 X F aX (et (iW x s) x (I.put q bI (s x))) aG aL:=by
 have aZ:=jf al (.inl ax);have an:=h.ew x;rw[aO.dk aZ]at an;obtain⟨dp,a,e5,gm,g0,g1,g2,g3,g4,g5⟩:=ctx q (s x) (c8 (aG x)) (S x) none d an.2 al;obtain⟨yd,aE⟩:=ab dp a gm g0 g4;have yv:S x b:=g2 b yd;have tk:∀c,F c->aL.heap[c]? =w.heap[c]? :=λc ar=>qG c (by rintro rfl;exact h.hf x _ yv ar);have As:∀c,e5 c->c≠b:=λc ar e=>g3 c ar (e▸yd);have lP:aA aL F (I.put q bI (s x)) (c8 (aG x)) (λc=>e5 c\/gm c):=by
  rcases g5 with⟨l,r,aN,aU,aR⟩|⟨lu,cur,e,fr,l,r,aN,aU,aR,bW,cM,cg⟩
  .rw[aN];exact aR aL bI dp gm tk (λc ar=>qG c (As c ar)) mX aE (λc ar mD=>g3 c mD ar)
  .refine cg aL bI dp gm tk (λc ar _=>qG c (As c ar)) ?_ mX aE (λc ar mD=>g3 c mD ar);rw[qG lu (As lu aU),aR,<-cM]
 have Dn:eM (I.put q bI (s x)) (aG x)/\(I.put q bI (s x)).tree=true:=by
  cases q with
  |nil=>
   simp only[I.sub,some.injEq]at al;simp only[I.put];exact⟨aa _ (al▸an.1),LR⟩
  |cons k q=>
   refine⟨Dm an.1 al ad (λ_=>ae) mX,?_⟩;rcases wH k q bI (s x)with⟨aD,gs,aN,e⟩|⟨aD,gs,aN,e⟩|⟨sz,xs,cL,aN,e⟩|⟨y,z,aN,e⟩|e<;>rw[e]<;>first|rfl|exact aZ
 let aH:=et (iW x s) x (I.put q bI (s x))
 have iH:∀y,y≠x->(aH y).tree=true->aH y=s y/\aG y=aG y:=λy hy aZ=>by
  have e:aH y=ef.cK x (s y):=lp _ _ hy;rw[e]at aZ⊢;exact⟨(G_ aZ).2,rfl⟩
 have oQ:(aH x).plain=false->(s x).plain=false/\∀v,eM (s x) v->eM (aH x) v:=by
  intro _;refine⟨?_,λv aE=>?_⟩
  .cases cc:(s x).plain with
   |false=>rfl
   |true=>rw[I.Li _ _ _ cc al]at ax;cases ax
  .simp only[aH,oP];cases q with
   |nil=>
    simp only[I.sub,some.injEq]at al;simp only[I.put];exact aa _ (al▸aE)
   |cons k q=>exact Dm aE al ad (λ_=>ae) mX
 have both:∀c,(e5 c\/gm c)->S x c:=λc ar=>ar.elim (g1 c) (g2 c);refine⟨hh S x (λc=>e5 c\/gm c),?_⟩;constructor;case iI=>exact h.iI
 case jg=>exact h.jg
 case gN=>exact λb ab=>by rw[fg];exact h.gN b ab
 case fN=>
  intro u c ab;rw[fg];simp only[hh]at ab;split at ab
  .exact h.fN x c (both c ab)
  .exact h.fN u c ab
 case hf=>
  intro u c ab;simp only[hh]at ab;split at ab
  .exact h.hf x c (both c ab)
  .exact h.hf u c ab
 case gE=>
  intro u y c dQ ab hy;simp only[hh]at ab hy;split at ab
  .rename_i hu;rw[if_neg (λe=>dQ (hu.trans e.symm))]at hy;exact h.gE x y c (λe=>dQ (hu.trans e)) (both c ab) hy
  .rename_i hu;split at hy
   .exact h.gE u x c hu ab (both c hy)
   .exact h.gE u y c dQ ab hy
 case eS=>
  intro u c ab;simp only[hh]at ab;split at ab
  .exact h.eS x c (both c ab)
  .exact h.eS u c ab
 case ew=>
  intro u;by_cases hu:u=x
  .subst hu;rw[oP,Dj];exact(aO.dk Dn.2).2 ⟨Dn.1,lP⟩
  .rw[lp _ _ hu,Dk _ _ hu];have dQ:∀y c,y≠x->S y c->aL.heap[c]? =w.heap[c]? :=λy c hy ar=>qG c (by rintro rfl;exact h.gE y x c hy ar yv);refine(aO.cK iH rfl oQ (λy gO d2 hy hq Dp=>?_) tk _).1 _ _ _ (Nat.le_refl _) (λc ar=>dQ u c hu ar) (h.ew u);have Dq:=h.ew y;rw[aO.dk (jf hq Dp)]at Dq;exact G9 gO _ _ _ none d2 Dq.2 hq (λc ar=>dQ y c hy ar)
 case old=>
  intro c eB mC;rw[qG c ?_]
  .exact h.old c eB mC
  .rintro rfl;rcases h.eS x c yv with bb|bb
   .exact mC bb
   .omega
 case size=>rw[fg];exact h.size
 case os=>exact Ls.trans h.os
 case tape=>exact Lt.trans h.tape
 case output=>exact yc.trans h.output
 case gS=>exact h.gS
def S7 (P:Program) (t:TypeId):Bool:=match P.info? t with
 |some i=>match i.zero with
  |some (.bool false)=>true
  |_=>false
 |none=>false
def qO (C:cj) (T:TypeId):Bool:=match(C.T T).k with
 | .map r2 wR=>match(C.T r2).k with
   | .str=>S7 C.P wR
   |_=>false
 |_=>false
def jt (C:cj) (s:ak) (T:TypeId) (x i:I):Option I:=match x,i with
 | .h y q,.str k=>match I.sub q (s y)with
   |some (.b4 (.mp m))=>if qO C T=true then some (.bool (jL k m))else none
   |_=>none
 |_,_=>none
def kM (C:cj) (s:ak) (T:TypeId) (x i v:I):Option ak:=match x,i,v with
 | .h y q,.str k,.bool b=>match I.sub q (s y)with
   |some (.b4 (.mp m))=>if qO C T=true then some (et (iW y s) y (I.put q (.b4 (.mp (j1 k b m))) (s y)))else none
   |_=>none
 |_,_,_=>none
theorem S8 (bK:C.fz) {T:TypeId} (h:qO C T=true):∃r2 wR,C.P.underlying T=some (.map r2 wR)/\C.P.underlying r2=some .string/\∀w,(zeroValue wR).run C.P w= .ok (.bool false) w:=by
 unfold qO at h;split at h
 .rename_i r2 wR au;split at h
  .rename_i ad;obtain⟨i,d,z,aN,aU,aR,bW,cM,cg,b3⟩:=bK.info (hr au (by simp));obtain⟨tm,bI,uU,f1,f2,f3,f4,f5,f6,f7⟩:=bK.info (hr ad (by simp));rw[au]at b3;rw[ad]at f7;have:=tl f7;subst this;refine⟨r2,wR,?_,f6,λw=>?_⟩
   .rw[cg];cases d<;>simp[nP]at b3;rw[b3.1,b3.2]
   .unfold S7 at h;split at h
    .rename_i i2 g1;split at h
     .rename_i g2;exact yf g1 g2 w
     .cases h
    .cases h
  .cases h
 .cases h
theorem LS (a b:ByteArray):(a==b)=true↔a=b:=by
 constructor
 .intro h;exact ByteArray.ext (eq_of_beq (show(a.data==b.data)=true from h))
 .rintro rfl;show(a.data==a.data)=true;simp
theorem LU (k:axa) (b:Bool):∀(es:List MapEntry) (m:awY) (i:Nat),es.map (λe=>(e.key,e.val))=m.map (λe=>(.string ⟨⟨e.1⟩⟩,.bool e.2))->
  (Instr.findNow .string (.string ⟨⟨k⟩⟩) es i=some none/\jL k m=false/\j1 k b m=m++[(k,b)])\/
  ∃j e,es[j]? =some e/\e.key= .string ⟨⟨k⟩⟩/\Instr.findNow .string (.string ⟨⟨k⟩⟩) es i=some (some (i+j,.bool (jL k m)))/\j1 k b m=m.set j (k,b)
 |[],m,i,h=>by
  have:m=[]:=by simpa using h.symm
  subst this;exact .inl ⟨rfl,rfl,rfl⟩
 |e::es,[],i,h=>by simp at h
 |e::es,(c_,gM)::m,i,h=>by
  simp only[map_cons,cons.injEq,Prod.mk.injEq]at h;obtain⟨⟨ad,ae⟩,aI⟩:=h;by_cases au:c_=k
  .subst au;refine .inr ⟨0,e,rfl,ad,?_,by simp[j1]⟩;have:(((⟨⟨c_⟩⟩:ByteArray)==⟨⟨c_⟩⟩))=true:=(LS _ _).2 rfl;simp only[Instr.findNow,ad,ae,Instr.sameNow,jL,this,if_true,Nat.add_zero]
  .have aS:((⟨⟨k⟩⟩:ByteArray)==⟨⟨c_⟩⟩)=false:=by
    refine Bool.eq_false_iff.2 λe=>au ?_;have:=(LS _ _).1 e;simp only[ByteArray.mk.injEq,Array.mk.injEq]at this;exact this.symm
   rcases LU k b es m (i+1) aI with⟨g1,g2,g3⟩|⟨j,hd,g1,g2,g3,g4⟩
   .refine .inl ⟨?_,?_,?_⟩
    .simp only[Instr.findNow,ad,Instr.sameNow,aS];exact g1
    .simp[jL,au,g2]
    .simp[j1,au,g3]
   .refine .inr ⟨j+1,hd,g1,g2,?_,?_⟩
    .simp only[Instr.findNow,ad,Instr.sameNow,aS];rw[g3];simp[jL,au,Nat.add_assoc,Nat.add_comm 1 j]
    .simp[j1,au,g4]
theorem Ht {P:Program} {r2:TypeId} (au:P.underlying r2=some .string) (e:Bool) (k:ByteArray) (w:World):(Instr.checkKey e 10000 r2 (.string k)).run P w= .ok () w:=by
 unfold Instr.checkKey;simp[run_underlying au]
theorem S9 (h:b8 w0 F0 X F S s aG w) {y:Nat} {q:axd} {m:awY} {v:Value} (aE:aO w F s aG (.h y q) v (λ_=>False)) (al:I.sub q (s y)=some (.b4 (.mp m))):
  ∃r ms pq,v= .map (some r)/\w.heap[r]? =some (.map ms pq)/\ms.toList.map (λe=>(e.key,e.val))=m.map (λe=>(.string ⟨⟨e.1⟩⟩,.bool e.2))/\
   ∃a,er w q (s y) (c8 (aG y)) none=some (.b4 (.mp m),[.map (some r)],a):=by
 rw[aO]at aE;obtain⟨dp,a,g1,g2,g3⟩:=aE _ al rfl;have ad:Value.hE v=true:=g3;rw[ib ad]at g2;have an:=h.ew y;rw[aO.dk (jf al (.inl rfl))]at an;obtain⟨g_,dC,e5,gm,k0,bX,cN,dH,dT,eG⟩:=ctx q (s y) (c8 (aG y)) (S y) none _ an.2 al;rw[k0]at g1;simp only[some.injEq,Prod.mk.injEq,true_and]at g1;obtain⟨rfl,rfl⟩:=g1;rw[aA]at dT;obtain⟨r,ms,pq,aN,aU,aR,bW⟩:=dT;rw[aN]at g2 k0;exact⟨r,ms,pq,by simpa using g2,aR,bW,dC,k0⟩
theorem ab8 (bK:C.fz) (h:b8 w0 F0 X F S s aG w) {T:TypeId} {x i:I} {j6 qH:Value} (an:aO w F s aG x j6 (λ_=>False)) (ag:aO w F s aG i qH (λ_=>False)) (he:jt C s T x i=some av):
  Good C w0 F0 X aG w (Instr.lookup T j6 qH false) av s:=by
 unfold jt at he;split at he
 .rename_i y q k;split at he
  .rename_i m al;split at he
   .rename_i k3;simp only[some.injEq]at he;subst he;obtain⟨r2,wR,t1,t2,t3⟩:=S8 bK k3;obtain⟨r,ms,pq,rfl,aU,aR,_⟩:=S9 h an al;have:=oT ag;subst this;refine Good.same h (v:=.bool (jL k m)) ?_ rfl (of_bool _);rcases LU k true ms.toList m 0 aR with⟨g1,g2,_⟩|⟨j,e,_,_,g1,_⟩
    .simp[Instr.lookup,run_underlying t1,getObj,Sem.run,aU,Ht t2,Instr.findKey,run_underlying t2,g1,t3,g2]
    .simp[Instr.lookup,run_underlying t1,getObj,Sem.run,aU,Ht t2,Instr.findKey,run_underlying t2,g1]
   .cases he
  .cases he
 .cases he
theorem ab9 (bK:C.fz) (h:b8 w0 F0 X F S s aG w) {T:TypeId} {x i v:I} {j6 qH S_:Value} (an:aO w F s aG x j6 (λ_=>False)) (ag:aO w F s aG i qH (λ_=>False)) (aE:aO w F s aG v S_ (λ_=>False)) {s2:ak}
  (he:kM C s T x i v=some s2):∃aL aX,(Instr.mapUpdate T j6 qH S_).run C.P w= .ok () aL/\b8 w0 F0 X F aX s2 aG aL:=by
 unfold kM at he;split at he
 .rename_i y q k b;split at he
  .rename_i m al;split at he
   .rename_i k3;simp only[some.injEq]at he;subst he;obtain⟨r2,wR,t1,t2,t3⟩:=S8 bK k3;obtain⟨r,ms,pq,rfl,aU,aR,a0,mZ⟩:=S9 h an al;have:=oT ag;subst this;have:=wK aE;subst this;have key:∀(Hu:Array MapEntry) (LV:Nat),Hu.toList.map (λe=>(e.key,e.val))=(j1 k b m).map (λe=>(.string ⟨⟨e.1⟩⟩,.bool e.2))->
      ∃aX,b8 w0 F0 X F aX (et (iW y s) y (I.put q (.b4 (.mp (j1 k b m))) (s y))) aG {w with heap:=w.heap.setIfInBounds r (.map Hu LV)}:=by
     intro Hu LV hm;have aQ:r<w.heap.size:=(Array.getElem?_eq_some_iff.1 aU).1;refine b8.ab7 (b:=r) h al rfl rfl (λv aE=>aE) (λv aE=>aE) (λvs e=>by cases e) rfl ?_ (λc ar=>?_) (by simp) rfl rfl ⟨rfl,λ_=>Nat.le_refl _⟩
     .intro dp a gm bF hQ;rw[mZ]at bF;simp only[some.injEq,Prod.mk.injEq,true_and]at bF;obtain⟨rfl,_⟩:=bF;rw[aA]at hQ⊢;obtain⟨me,wS,at3,f1,f2,f3,f4⟩:=hQ;simp only[cons.injEq,Value.map.injEq,some.injEq,and_true]at f1;subst f1;exact⟨f2,r,Hu,LV,rfl,f2,by simp[aQ],hm⟩
     .simp[Ne.symm ar]
    rcases LU k b ms.toList m 0 aR with⟨g1,_,g2⟩|⟨j,e,g0,ge,g1,g2⟩
    .obtain⟨aX,bX⟩:=key (ms.push {key:=.string ⟨⟨k⟩⟩,val:=.bool b,born:=pq}) (pq+1) (by rw[g2];simp[aR]);exact⟨_,aX,by simp[Instr.mapUpdate,run_underlying t1,getObj,setObj,Sem.run,aU,Ht t2,Instr.findKey,run_underlying t2,g1],bX⟩
    .rw[Nat.zero_add]at g1;obtain⟨aX,bX⟩:=key (ms.modify j λe=>{e with key:=.string ⟨⟨k⟩⟩,val:=.bool b}) pq (by
      rw[g2,map_set,<-aR];apply ext_getElem?;intro n;by_cases aS:n=j
      .subst aS;have:n<ms.toList.length:=(List.getElem?_eq_some_iff.1 g0).1;rw[getElem?_set_self (by simpa using this)];simp[g0]
      .simp[getElem?_set_ne (Ne.symm aS),Ne.symm aS])
     have ab_:ms[j]? =some e:=by simpa using g0
     exact⟨_,aX,by simp[Instr.mapUpdate,run_underlying t1,getObj,setObj,Sem.run,aU,Ht t2,Instr.findKey,run_underlying t2,g1,ab_,ge,Instr.keyThatStays,Instr.sameBits,(LS ⟨⟨k⟩⟩ ⟨⟨k⟩⟩).2 rfl],bX⟩
   .cases he
  .cases he
 .cases he
theorem aca (h:b8 w0 F0 X F S s aG w) (t:TypeId):Good C w0 F0 X aG w (Instr.makeMap t none) (.b4 (.mp [])) s:=by
 have hold:∀b,b<w.heap.size->(w.alloc (.map #[] 0)).heap[b]? =w.heap[b]? :=by
  intro b ab;show(w.heap.push _)[b]? =_;rw[Array.getElem?_push,if_neg (by omega)]
 refine⟨.map (some w.heap.size),w.alloc (.map #[] 0),F,S,?_,h.grow hold (by simp) rfl rfl ⟨rfl,λ_=>Nat.le_refl _⟩,.inr ⟨rfl,rfl,λb=>b=w.heap.size,?_,?_,?_,?_,?_⟩⟩
 .simp[Instr.makeMap,newObj,Sem.run]
 .rw[aA];refine⟨w.heap.size,#[],0,rfl,rfl,?_,rfl⟩;show(w.heap.push _)[_]? =_;simp
 .rintro b rfl;simp
 .rintro b rfl uW;exact Nat.lt_irrefl _ (h.gN _ uW)
 .rintro u b rfl hu;exact Nat.lt_irrefl _ (h.fN _ _ hu)
 .rintro b rfl;exact .inr h.size
end
end Go.ef
