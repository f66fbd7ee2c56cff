/- Part of a proof that a law returns true for every input. No condition. -/
import Derived.Test.YtcmimclaknmnbaaGreatDoorFwC
import Derived.Test.YtcmimclaknmnbaaGreatDoorFwA
import Derived.Laws.IdiomStrings
import Derived.Laws.Strings
import Derived.LaidEql
import Derived.WideLaws
import Derived.Laws.StructEq
namespace Go.cC
open List Option Nat Or
section
variable {C:bx} {w0 w:World} {F0 X F:Nat->Prop} {S:Nat->Nat->Prop} {s s1:an} {au:Nat->Value} {av:I}
theorem oq {k:IntKind} {n:Int} {v:Value} {aJ:Nat->Prop} (h:aF w F s au (.int k n) v aJ):v= .int k n:=by
 have bn:=(aF.b_ rfl).1 h;rw[ar,e_ bn.1]at bn;simpa using bn.2
theorem tF {b:Bool} {v:Value} {aJ:Nat->Prop} (h:aF w F s au (.bool b) v aJ):v= .bool b:=by
 have bn:=(aF.b_ rfl).1 h;rw[ar,e_ bn.1]at bn;simpa using bn.2
theorem nx {b:anR} {v:Value} {aJ:Nat->Prop} (h:aF w F s au (.str b) v aJ):v= .string ⟨⟨b⟩⟩:=by
 have bn:=(aF.b_ rfl).1 h;rw[ar,e_ bn.1]at bn;simpa using bn.2
theorem M7 {v:Value} {aJ:Nat->Prop} (h:aF w F s au .dq v aJ):v= .pointer none:=by
 have bn:=(aF.b_ rfl).1 h;rw[ar,e_ bn.1]at bn;simpa using bn.2
theorem sv {v:Value} {aJ:Nat->Prop} (h:aF w F s au .bd v aJ):v= .slice none 0 0:=by
 have bn:=(aF.b_ rfl).1 h;rw[ar,e_ bn.1]at bn;simpa using bn.2
theorem M8 {v:Value} {aJ:Nat->Prop} (h:aF w F s au .fj v aJ):∃b,v= .bool b:=by
 have bn:=(aF.b_ rfl).1 h;rw[ar,e_ bn.1]at bn;simpa using bn.2
theorem of_int (k:IntKind) (n:Int):aF w F s au (.int k n) (.int k n) (λ_=>False):=(aF.b_ rfl).2 ⟨rfl,by rw[ar];rfl⟩
theorem of_bool (b:Bool):aF w F s au (.bool b) (.bool b) (λ_=>False):=(aF.b_ rfl).2 ⟨rfl,by rw[ar];rfl⟩
theorem ql (b:anR):aF w F s au (.str b) (.string ⟨⟨b⟩⟩) (λ_=>False):=(aF.b_ rfl).2 ⟨rfl,by rw[ar];rfl⟩
theorem GU (b:Bool):aF w F s au .fj (.bool b) (λ_=>False):=(aF.b_ rfl).2 ⟨rfl,by rw[ar];exact⟨b,rfl⟩⟩
def jc (op:BinOp) (k:IntKind) (a:Int) (da:IntKind) (b:Int):Option I:=
 match op with
 | .shl=>if b<0 then none else some (.int k (k.wrap (a*2^(min b.toNat k.bits))))
 | .shr=>if b<0 then none else some (.int k (a.fdiv (2^(min b.toNat k.bits))))
 | .add=>if k=da then some (.int k (k.wrap (a+b)))else none
 | .sub=>if k=da then some (.int k (k.wrap (a-b)))else none
 | .mul=>if k=da then some (.int k (k.wrap (a*b)))else none
 | .quo=>if k=da/\b≠0 then some (.int k (k.wrap (a.tdiv b)))else none
 | .rem=>if k=da/\b≠0 then some (.int k (a.tmod b))else none
 | .eql=>if k=da then some (.bool (a==b))else none
 | .neq=>if k=da then some (.bool (a !=b))else none
 | .lss=>if k=da then some (.bool (decide (a<b)))else none
 | .leq=>if k=da then some (.bool (decide (a<=b)))else none
 | .gtr=>if k=da then some (.bool (decide (b<a)))else none
 | .geq=>if k=da then some (.bool (decide (b<=a)))else none
 | .and=>if k=da then some (.int k (bitsOf .and k a b))else none
 | .or=>if k=da then some (.int k (bitsOf .or k a b))else none
 | .xor=>if k=da then some (.int k (bitsOf .xor k a b))else none
 | .andNot=>if k=da then some (.int k (bitsOf .andNot k a b))else none
def oY (op:BinOp) (a b:anR):Option I:=
 match op with
 | .add=>if a.length+b.length<=9223372036854775807 then some (.str (a++b))else none
 | .eql=>some (.bool (a==b))
 | .neq=>some (.bool !(a==b))
 | .lss=>some (.bool (Op.bytesLess a b))
 | .leq=>some (.bool (Op.bytesLess a b||a==b))
 | .gtr=>some (.bool !(Op.bytesLess a b||a==b))
 | .geq=>some (.bool !(Op.bytesLess a b))
 |_=>none
def j7 (s:an):I->Option anV
 | .bd=>some (some true)
 | .slice xs=>some (if xs=[]then none else some false)
 | .h x q=>match I.sub q (s x)with
   |some (.ah _ xs)=>some (if xs=[]then none else some false)
   |_=>none
 |_=>none
def mm (s:an):I->anV
 | .dq=>some true
 | .ref _=>some false
 | .h x q=>match I.sub q (s x)with
   |some (.aV _)=>some false
   |_=>none
 |_=>none
def qm (neg:Bool):anV->I
 |some b=>.bool (b !=neg)
 |none=>.fj
def structEq (P:Program) (T:TypeId):Bool:= !P.stoodInHeld T&& !P.eqGuardType P.depth T&&(P.fieldsOf T).toList.all λf=>decide (f.name≠ "_")
def pF (C:bx):List (TypeId×Nat)->Nat->anZ->anZ->anV
 |[],_,[],[]=>some true
 |(j6,off)::aC,n,d::ds,e::es=>if off=n then(match(C.T j6).k,d,e with
  | .int k,.int bT a,.int b2 b=>if bT=k/\b2=k then(pF C aC (n+1) ds es).map λr=>a==b&&r else none
  | .bool,.bool a,.bool b=>(pF C aC (n+1) ds es).map λr=>a==b&&r
  | .str,.str a,.str b=>(pF C aC (n+1) ds es).map λr=>a==b&&r
  |_,_,_=>none)else none
 |_,_,_,_=>none
def ef (C:bx) (s:an) (op:BinOp) (T:TypeId) (x y:I):Option I:=
 match x,y with
 | .int k a,.int da b=>jc op k a da b
 | .str a,.str b=>oY op a b
 | .bool a,.bool b=>match op,(C.T T).k with
   | .eql,.bool=>some (.bool (a==b))
   | .neq,.bool=>some (.bool !(a==b))
   |_,_=>none
 | .agg ds,.agg es=>match op,(C.T T).k with
   | .eql,.struct aC=>if structEq C.P T=true then(pF C aC 0 ds es).map λb=>.bool b else none
   | .neq,.struct aC=>if structEq C.P T=true then(pF C aC 0 ds es).map λb=>.bool !b else none
   |_,_=>none
 |x,.bd=>match op,(C.T T).k with
  | .eql,.slice _=>(j7 s x).map (qm false)
  | .neq,.slice _=>(j7 s x).map (qm true)
  |_,_=>none
 |x,.dq=>match op,(C.T T).k with
  | .eql,.ptr _=>(mm s x).map λb=>.bool b
  | .neq,.ptr _=>(mm s x).map λb=>.bool !b
  |_,_=>none
 |_,_=>none
theorem Wo {P:Program} {op:BinOp} {T:TypeId} {k da:IntKind} {a b:Int} (he:jc op k a da b=some av) (w:World):
  ∃v,(binOp op T (.int k a) (.int da b)).run P w= .ok v w/\aF w F s au av v (λ_=>False):=by
 unfold jc at he;cases op<;>simp only at he<;>split at he<;>first|(cases he;done)|skip
 all_goals
  rename_i ai;simp only[some.injEq]at he;subst he
 all_goals first
  |(subst ai;simp only[binOp_add,binOp_sub,binOp_mul,binOp_eql,binOp_neq,binOp_lss,binOp_leq,binOp_gtr,binOp_geq,binOp_and,binOp_or,binOp_xor,binOp_andNot,Op.intArith,Op.intBits,Sem.run_pure,Result.ok.injEq,and_true,exists_eq_left']
    first|exact of_int _ _|exact of_bool _)
  |(obtain⟨rfl,ba⟩:=ai
    simp only[binOp_quo,binOp_rem,Op.intDiv,ba,if_false,Sem.run_pure,Result.ok.injEq,and_true,exists_eq_left'];exact of_int _ _)
  |(simp only[binOp_shl,binOp_shr,Op.shift,ai,if_false,Sem.run_pure,Result.ok.injEq,and_true,exists_eq_left']
    exact of_int _ _)
theorem zW (a:anR):(⟨⟨a⟩⟩:ByteArray).toList=a:=ByteArray.toList_eq _
theorem Wp (a b:anR):(⟨⟨a⟩⟩:ByteArray)++(⟨⟨b⟩⟩:ByteArray)=⟨⟨a++b⟩⟩:=by
 apply ByteArray.ext;simp[ByteArray.data_append]
theorem Wq {P:Program} {op:BinOp} {T:TypeId} {a b:anR} (he:oY op a b=some av) (w:World):
  ∃v,(binOp op T (.string ⟨⟨a⟩⟩) (.string ⟨⟨b⟩⟩)).run P w= .ok v w/\aF w F s au av v (λ_=>False):=by
 have R:∀op,binOp op T (.string ⟨⟨a⟩⟩) (.string ⟨⟨b⟩⟩)=Op.stringOp op ⟨⟨a⟩⟩ ⟨⟨b⟩⟩:=by intro op;cases op<;>rfl
 rw[R];unfold oY at he;cases op<;>simp only[some.injEq]at he<;>first|(cases he;done)|skip
 case add=>
  split at he
  .rename_i hl;simp only[some.injEq]at he;subst he;have U:((ByteArray.size ⟨⟨a⟩⟩+ByteArray.size ⟨⟨b⟩⟩:Nat):Int)<=9223372036854775807:=by
    show((a.length+b.length:Nat):Int)<=_;omega
   refine⟨.string ⟨⟨a++b⟩⟩,?_,ql _⟩;simp only[Op.stringOp,IntKind.max_i64];rw[if_neg (by omega),Wp];rfl
  .cases he
 all_goals
  subst he;simp only[Op.stringOp,zW,Sem.run_pure,Result.ok.injEq,and_true,exists_eq_left'];exact of_bool _
theorem GV (h:bq w0 F0 X F S s au w) {v:Value} {y:Nat} {q:anU} (aD:aF w F s au (.h y q) v (λ_=>False)) {sz:Nat} {xs:anZ} (ae:I.sub q (s y)=some (.ah sz xs)):
  (xs=[]/\∃a,v= .slice a 0 0)\/∃b cap cur e fr,v= .slice (some ⟨b,0,none⟩) xs.length cap/\w.heap[b]? =some (.cells cur e fr)/\lH fr cur.size/\xs.length<=cap/\cap<=maxLen/\cur.size=cap*sz/\(∀d∈xs,d.wd=sz)/\
   ∃aJ,aW w F xs (cur.toList.take (xs.length*sz)) aJ/\(∀c,aJ c->S y c)/\S y b:=by
 rw[aF]at aD;obtain⟨cx,a,g1,g2,g3⟩:=aD _ ae rfl;have U:Value.eJ v=true:=g3;rw[e_ U]at g2;subst g2;have ag:=h.cD y;rw[aF.b_ (hL ae (.inl rfl))]at ag;obtain⟨fI,bN,dI,fg,k0,bT,b2,dm,de,e5⟩:=ctx q (s y) (bZ (au y)) (S y) none _ ag.2 ae;rw[k0]at g1;simp only[some.injEq,Prod.mk.injEq,true_and]at g1;obtain⟨rfl,rfl⟩:=g1;rw[ar]at de;rcases de with⟨rfl,a2,ab⟩|⟨b,cap,cur,aM,fr,cH,aP,bK,cg,bP,bL,hr,gi,jd,ot,dD,dE⟩
 .simp at ab;exact .inl ⟨rfl,_,ab⟩
 .simp at aP;exact .inr ⟨b,cap,cur,aM,fr,aP,cg,bP.low,bL,hr,gi,jd,cH,ot,λc ai=>b2 _ (dD c ai),b2 _ bK⟩
theorem M9 (h:bq w0 F0 X F S s au w) {v:Value} {y:Nat} {q:anU} (aD:aF w F s au (.h y q) v (λ_=>False)) {d:I} (ae:I.sub q (s y)=some (.aV d)):
  ∃b cur e fr,v= .pointer (some ⟨b,0,none⟩)/\w.heap[b]? =some (.cells cur e fr):=by
 rw[aF]at aD;obtain⟨cx,a,g1,g2,g3⟩:=aD _ ae rfl;have U:Value.eJ v=true:=g3;rw[e_ U]at g2;subst g2;have ag:=h.cD y;rw[aF.b_ (hL ae (.inl rfl))]at ag;obtain⟨fI,bN,dI,fg,k0,bT,b2,dm,de,e5⟩:=ctx q (s y) (bZ (au y)) (S y) none _ ag.2 ae;rw[k0]at g1;simp only[some.injEq,Prod.mk.injEq,true_and]at g1;obtain⟨rfl,rfl⟩:=g1;rw[ar]at de;obtain⟨b,cur,aM,fr,cH,aP,bK,cg,_⟩:=de;simp at aP;exact⟨b,cur,aM,fr,aP,cg⟩
theorem M_ {P:Program} {T e:TypeId} (aL:P.underlying T=some (.slice e)) (w:World):∀d,(Op.equalIn (d+1) T (.slice none 0 0) (.slice none 0 0)).run P w= .ok true w/\
  ∀a n c,(Op.equalIn (d+1) T (.slice (some a) n c) (.slice none 0 0)).run P w= .ok false w:=by
 intro d;refine⟨by simp[Op.equalIn,run_underlying aL],λa n c=>by simp[Op.equalIn,run_underlying aL]⟩
theorem Na {P:Program} {T e:TypeId} (aL:P.underlying T=some (.pointer e)) (w:World):∀d,(Op.equalIn (d+1) T (.pointer none) (.pointer none)).run P w= .ok true w/\
  ∀a,(Op.equalIn (d+1) T (.pointer (some a)) (.pointer none)).run P w= .ok false w:=by
 intro d;refine⟨by simp[Op.equalIn,run_underlying aL],λa=>by simp[Op.equalIn,run_underlying aL]⟩
theorem Nb {P:Program} {T:TypeId} (aL:P.underlying T=some .bool) (w:World):∀d a b,(Op.equalIn (d+1) T (.bool a) (.bool b)).run P w= .ok (a==b) w:=by
 intro d a b;simp[Op.equalIn,run_underlying aL]
theorem Nc (h:bq w0 F0 X F S s au w) {x:I} {v:Value} (aD:aF w F s au x v (λ_=>False)) {T e:TypeId} {r:anV} (ax:j7 s x=some r) (aL:C.P.underlying T=some (.slice e)):
  ∃b,(Op.equal T v (.slice none 0 0)).run C.P w= .ok b w/\(∀e8,r=some e8->e8=b)/\Value.eJ v=true/\∃a n c,v= .slice a n c:=by
 have aI:=λa n c=>(M_ aL w 9999).2 a n c;have fA:=(M_ aL w 9999).1;cases x with
 |bd=>
  have:=sv aD;subst this;simp[j7]at ax;subst ax;exact⟨true,fA,by simp,rfl,_,_,_,rfl⟩
 |slice xs=>
  have bn:=(aF.b_ rfl).1 aD;rw[ar,e_ bn.1]at bn;simp only[j7,some.injEq]at ax;obtain⟨_,⟨rfl,a,c,ab,_,vi⟩|⟨b,o,cap,eh,sz,ab,ay⟩⟩:=bn
  .simp at ab ax;subst ab;subst ax;cases a with
   |none=>
    have:=vi rfl;subst this;exact⟨true,fA,by simp,rfl,_,_,_,rfl⟩
   |some a=>exact⟨false,aI _ _ _,by simp,rfl,_,_,_,rfl⟩
  .simp at ab;subst ab;refine⟨false,aI _ _ _,?_,rfl,_,_,_,rfl⟩;subst ax;split<;>simp
 |h y q=>
  simp only[j7]at ax;split at ax
  .rename_i sz xs ae;simp only[some.injEq]at ax;rcases GV h aD ae with⟨rfl,a,rfl⟩|⟨b,cap,cur,aM,fr,rfl,_⟩
   .simp at ax;subst ax;cases a with
    |none=>exact⟨true,fA,by simp,rfl,_,_,_,rfl⟩
    |some a=>exact⟨false,aI _ _ _,by simp,rfl,_,_,_,rfl⟩
   .refine⟨false,aI _ _ _,?_,rfl,_,_,_,rfl⟩;subst ax;split<;>simp
  .cases ax
 |_=>simp[j7]at ax
theorem Nd (h:bq w0 F0 X F S s au w) {x:I} {v:Value} (aD:aF w F s au x v (λ_=>False)) {T e:TypeId} {r:Bool} (ax:mm s x=some r) (aL:C.P.underlying T=some (.pointer e)):
  (Op.equal T v (.pointer none)).run C.P w= .ok r w/\∃a,v= .pointer a:=by
 have aI:=λa=>(Na aL w 9999).2 a;have fA:=(Na aL w 9999).1;cases x with
 |dq=>
  have:=M7 aD;subst this;simp[mm]at ax;subst ax;exact⟨fA,_,rfl⟩
 |ref d=>
  have bn:=(aF.b_ rfl).1 aD;rw[ar,e_ bn.1]at bn;simp[mm]at ax;subst ax;obtain⟨_,b,o,eh,ab,_⟩:=bn;simp at ab;subst ab;exact⟨aI _,_,rfl⟩
 |h y q=>
  simp only[mm]at ax;split at ax
  .rename_i d ae;simp only[some.injEq]at ax;subst ax;obtain⟨b,cur,e,fr,rfl,_⟩:=M9 h aD ae;exact⟨aI _,_,rfl⟩
  .cases ax
 |_=>simp[mm]at ax
theorem Wr (bb:C.Ok):∀(aC:List (TypeId×Nat)) (gs:List Field) (n:Nat) (ds es:anZ) (r:Bool) (en l2 c1 c2:anX) (xs ys:Array Value) (bR cH:Nat->Prop),
  gs.map (λg=>(g.type,g.offset))=aC->(gs.all λf=>decide (f.name≠ "_"))=true->pF C aC n ds es=some r->aW w F ds c1 bR->aW w F es c2 cH->xs.toList=en++c1->en.length=n->ys.toList=l2++c2->l2.length=n->
  ∀m,(Op.eqFields (m+1) xs ys gs).run C.P w= .ok r w:=by
 intro aC;induction aC with
 |nil=>
  intro gs n ds es r en l2 c1 c2 xs ys bR cH hg aN he h1 ab ag hl hy zX m;have:gs=[]:=by simpa using hg
  subst this;cases ds<;>cases es<;>simp[pF]at he;subst he;simp[Op.eqFields]
 |cons p aC ih=>
  obtain⟨j6,off⟩:=p;intro gs n ds es r en l2 c1 c2 xs ys bR cH hg aN he h1 ab ag hl hy zX m;cases gs with
  |nil=>simp at hg
  |cons g gs=>
   simp only[map_cons,cons.injEq,Prod.mk.injEq]at hg;obtain⟨⟨rfl,rfl⟩,hg⟩:=hg;simp only[all_cons,Bool.and_eq_true,decide_eq_true_eq]at aN;cases ds with
   |nil=>simp[pF]at he
   |cons d ds=>
   cases es with
   |nil=>simp[pF]at he
   |cons e es=>
   simp only[pF]at he;split at he
   .rename_i rn;rw[aW]at h1 ab;obtain⟨J,a2,C8,la,rfl,eF,fk,hp,xo,fX⟩:=h1;obtain⟨ik,gJ,amf,Ws,rfl,eH,eB,gD,gK,xp⟩:=ab;have step:∀(x y:Value) (z:Bool),(C.T g.type).flat=true->J=[x]->ik=[y]->(∀m,(Op.equalIn (m+1) g.type x y).run C.P w= .ok z w)->∀gj,pF C aC (n+1) ds es=some gj->
      (Op.eqFields (m+1) xs ys (g::gs)).run C.P w= .ok (z&&gj) w:=by
     intro x y z jv Wt GW heq gj dA;subst Wt;subst GW;have Wu:xs[g.offset]? =some x:=by
      rw[<-Array.getElem?_toList,ag,rn,<-hl,getElem?_append_right (Nat.le_refl _)];simp
     have Wv:ys[g.offset]? =some y:=by
      rw[<-Array.getElem?_toList,hy,rn,<-zX,getElem?_append_right (Nat.le_refl _)];simp
     have ak:=ih gs (n+1) ds es gj (en++[x]) (l2++[y]) a2 gJ xs ys la Ws hg aN.2 dA fk eB (by rw[ag];simp) (by simp[hl]) (by rw[hy];simp) (by simp[zX]) m;unfold Op.eqFields;rw[if_pos aN.1];simp only[part,Sem.run_bind,GP bb jv,Result.andThen_ok,Bool.false_eq_true,if_false,Wu,Wv,Sem.run_pure,heq];cases z
     .simp
     .simpa using ak
    split at he
    .rename_i k bT a b2 b hk;split at he
     .rename_i vj;obtain⟨rfl,rfl⟩:=vj;rw[ar]at eF eH;simp only[map_eq_some_iff]at he;obtain⟨gj,dA,rfl⟩:=he;obtain⟨i,ht,Nf,aI,aM,aP,bK,cg,bP,bL⟩:=bb.info (fQ hk (by simp));rw[hk]at bL;have vk:=zU bL;subst vk;exact step _ _ _ (by simp[gr.flat,hk]) eF eH (λm=>run_equalIn_int w m g.type _ _ a b bP) gj dA
     .cases he
    .rename_i a b hk;rw[ar]at eF eH;simp only[map_eq_some_iff]at he;obtain⟨gj,dA,rfl⟩:=he;obtain⟨i,ht,Nf,aI,aM,aP,bK,cg,bP,bL⟩:=bb.info (fQ hk (by simp));rw[hk]at bL;have vk:=GK bL;subst vk;exact step _ _ _ (by simp[gr.flat,hk]) eF eH (λm=>run_equalIn_bool' w m g.type a b bP) gj dA
    .rename_i a b hk;rw[ar]at eF eH;simp only[map_eq_some_iff]at he;obtain⟨gj,dA,rfl⟩:=he;obtain⟨i,ht,Nf,aI,aM,aP,bK,cg,bP,bL⟩:=bb.info (fQ hk (by simp));rw[hk]at bL;have vk:=rk bL;subst vk;refine step _ _ (a==b) (by simp[gr.flat,hk]) eF eH (λm=>?_) gj dA;rw[run_equalIn_string w m g.type _ _ bP,zW,zW]
    .cases he
   .cases he
theorem Ng (bb:C.Ok) {T:TypeId} {aC:List (TypeId×Nat)} (hk:(C.T T).k= .struct aC) {ds es:anZ} {el hs:Value} {bR cH:Nat->Prop} {r:Bool} (ag:aF w F s au (.agg ds) el bR) (hy:aF w F s au (.agg es) hs cH)
  (ca:structEq C.P T=true) (he:pF C aC 0 ds es=some r) (op:BinOp) (zY zZ:Operand):
  (eqGuard op T zY zZ el hs).run C.P w= .ok () w/\(Op.equal T el hs).run C.P w= .ok r w:=by
 obtain⟨i,d,z,aI,aM,aP,bK,cg,bP,bL⟩:=bb.info (fQ hk (by simp));rw[hk]at bL;obtain⟨gs,rfl,hr⟩:=zT bL;have vl:C.P.fieldsOf T=gs:=by simp[Program.fieldsOf,bP]
 simp only[structEq,Bool.and_eq_true,Bool.not_eq_true',vl]at ca;obtain⟨⟨eH,eB⟩,gD⟩:=ca;obtain⟨⟨xs,rfl⟩,tG⟩:=(aF.b_ rfl).1 ag;obtain⟨⟨ys,rfl⟩,vd⟩:=(aF.b_ rfl).1 hy;rw[ar]at tG vd;constructor
 .cases op<;>simp[eqGuard,eB]
 .show(Op.equalIn (9999+1) T _ _).run C.P w=_;rw[run_equalIn_struct w 9999 T xs ys (by rw[vl];exact bP) eH,vl];exact Wr bb aC gs.toList 0 ds es r [] [] _ _ xs ys bR cH hr gD he tG vd rfl rfl rfl rfl 9998
theorem Ww (bb:C.Ok) (h:bq w0 F0 X F S s au w) {op:BinOp} {T:TypeId} {x y:I} {el hs:Value} (zY zZ:Operand) (ag:aF w F s au x el (λ_=>False)) (hy:aF w F s au y hs (λ_=>False))
  (he:ef C s op T x y=some av):Good C w0 F0 X au w (do eqGuard op T zY zZ el hs;binOp op T el hs) av s:=by
 unfold ef at he;split at he
 .have:=oq ag;subst this;have:=oq hy;subst this;obtain⟨v,h1,ab⟩:=Wo (P:=C.P) (T:=T) he w;refine Good.same h (v:=v) ?_ ?_ ab
  .rw[eqGuard_at_int];exact h1
  .revert he;unfold jc;cases op<;>simp only<;>split<;>simp<;>(rintro rfl;rfl)
 .have:=nx ag;subst this;have:=nx hy;subst this;obtain⟨v,h1,ab⟩:=Wq (P:=C.P) (T:=T) he w;refine Good.same h (v:=v) ?_ ?_ ab
  .rw[eqGuard_at_string];exact h1
  .revert he;unfold oY;cases op<;>simp only<;>(try split)<;>simp<;>(try (rintro rfl;rfl))
 .have:=tF ag;subst this;have:=tF hy;subst this;split at he
  .rename_i hk;simp only[some.injEq]at he;subst he;obtain⟨i,d,z,aI,aM,aP,bK,cg,bP,bL⟩:=bb.info (fQ hk (by simp));rw[hk]at bL;have:=GK bL;subst this;refine Good.same h ?_ rfl (of_bool _);rw[eqGuard_at_bool];simp[binOp,Op.equal,Op.maxDepth,Nb bP w 9999]
  .rename_i hk;simp only[some.injEq]at he;subst he;obtain⟨i,d,z,aI,aM,aP,bK,cg,bP,bL⟩:=bb.info (fQ hk (by simp));rw[hk]at bL;have:=GK bL;subst this;refine Good.same h ?_ rfl (of_bool _);rw[eqGuard_at_bool];simp[binOp,Op.equal,Op.maxDepth,Nb bP w 9999]
  .cases he
 .split at he
  .rename_i aC hk;split at he
   .rename_i ca;simp only[map_eq_some_iff]at he;obtain⟨r,ax,rfl⟩:=he;obtain⟨g1,g2⟩:=Ng bb hk ag hy ca ax .eql zY zZ;obtain⟨⟨xs,rfl⟩,_⟩:=(aF.b_ rfl).1 ag;obtain⟨⟨ys,rfl⟩,_⟩:=(aF.b_ rfl).1 hy;exact Good.same h (by simp[g1,binOp,g2]) rfl (of_bool _)
   .cases he
  .rename_i aC hk;split at he
   .rename_i ca;simp only[map_eq_some_iff]at he;obtain⟨r,ax,rfl⟩:=he;obtain⟨g1,g2⟩:=Ng bb hk ag hy ca ax .neq zY zZ;obtain⟨⟨xs,rfl⟩,_⟩:=(aF.b_ rfl).1 ag;obtain⟨⟨ys,rfl⟩,_⟩:=(aF.b_ rfl).1 hy;exact Good.same h (by simp[g1,binOp,g2]) rfl (of_bool _)
   .cases he
  .cases he
 .have:=sv hy;subst this;split at he
  .rename_i e hk;simp only[map_eq_some_iff]at he;obtain⟨r,ax,rfl⟩:=he;obtain⟨i,d,z,aI,aM,aP,bK,cg,bP,bL⟩:=bb.info (fQ hk (by simp));rw[hk]at bL;have:=mj bL;subst this;obtain⟨b,h1,ab,ay,a0,bQ,c0,rfl⟩:=Nc h ag ax bP;refine Good.same h (v:=.bool b) ?_ ?_ ?_
   .rw[eqGuard_at_slice];simp[binOp,h1]
   .cases r<;>rfl
   .cases r with
    |none=>exact GU b
    |some e8=>have:=ab e8 rfl;subst this;simp only[qm,Bool.bne_false];exact of_bool _
  .rename_i e hk;simp only[map_eq_some_iff]at he;obtain⟨r,ax,rfl⟩:=he;obtain⟨i,d,z,aI,aM,aP,bK,cg,bP,bL⟩:=bb.info (fQ hk (by simp));rw[hk]at bL;have:=mj bL;subst this;obtain⟨b,h1,ab,ay,a0,bQ,c0,rfl⟩:=Nc h ag ax bP;refine Good.same h (v:=.bool !b) ?_ ?_ ?_
   .rw[eqGuard_at_slice];simp[binOp,h1]
   .cases r<;>rfl
   .cases r with
    |none=>exact GU _
    |some e8=>have:=ab e8 rfl;subst this;simp only[qm,Bool.bne_true];exact of_bool _
  .cases he
 .have:=M7 hy;subst this;split at he
  .rename_i e hk;simp only[map_eq_some_iff]at he;obtain⟨r,ax,rfl⟩:=he;obtain⟨i,d,z,aI,aM,aP,bK,cg,bP,bL⟩:=bb.info (fQ hk (by simp));rw[hk]at bL;have:=MW bL;subst this;obtain⟨h1,a0,rfl⟩:=Nd h ag ax bP;refine Good.same h (v:=.bool r) ?_ rfl (of_bool _);rw[eqGuard_at_pointer];simp[binOp,h1]
  .rename_i e hk;simp only[map_eq_some_iff]at he;obtain⟨r,ax,rfl⟩:=he;obtain⟨i,d,z,aI,aM,aP,bK,cg,bP,bL⟩:=bb.info (fQ hk (by simp));rw[hk]at bL;have:=MW bL;subst this;obtain⟨h1,a0,rfl⟩:=Nd h ag ax bP;refine Good.same h (v:=.bool !r) ?_ rfl (of_bool _);rw[eqGuard_at_pointer];simp[binOp,h1]
  .cases he
 .cases he
end
section
variable {C:bx} {w0 w:World} {F0 X F:Nat->Prop} {S:Nat->Nat->Prop} {s s1:an} {au:Nat->Value} {av:I}
def un (op:UnOp) (x:I):Option I:=
 match op,x with
 | .not,.bool b=>some (.bool !b)
 | .not,.fj=>some .fj
 | .neg,.int k n=>some (.int k (k.wrap (0-n)))
 |_,_=>none
theorem Wx (h:bq w0 F0 X F S s au w) {op:UnOp} {x:I} {v:Value} (aD:aF w F s au x v (λ_=>False)) (he:un op x=some av):Good C w0 F0 X au w (Op.unary op v) av s:=by
 unfold un at he;split at he<;>first|(cases he;done)|(simp only[some.injEq]at he;subst he)
 .have:=tF aD;subst this;exact Good.same h rfl rfl (of_bool _)
 .obtain⟨b,rfl⟩:=M8 aD;exact Good.same h rfl rfl (GU _)
 .have:=oq aD;subst this;exact Good.same h rfl rfl (of_int _ _)
def jx (s:an) (x:I):Option I:=
 match x with
 | .ref d=>some (.ref d)
 | .fn f c=>some (.fn f c)
 | .h y q=>match I.sub q (s y)with
   |some (.aV _)=>some (.h y q)
   |_=>none
 |_=>none
theorem Wy {d:I} {v:Value} {aJ:Nat->Prop} (h:aF w F s au (.ref d) v aJ):∃b o eh,v= .pointer (some ⟨b,o,none⟩)/\F b/\Rd w b o eh/\ar w F d eh (λ_=>False):=by
 have bn:=(aF.b_ rfl).1 h;rw[ar,e_ bn.1]at bn;obtain⟨_,b,o,eh,h1,ab,ay,aT⟩:=bn;simp at h1;subst h1;exact⟨b,o,eh,rfl,ab,ay,aT⟩
theorem Wz (h:bq w0 F0 X F S s au w) {x:I} {v:Value} (aD:aF w F s au x v (λ_=>False)) (he:jx s x=some av):
  av=x/\x.plain=true/\((∃a,v= .pointer (some a))\/∃f c,v= .func (.func f) #[] c):=by
 unfold jx at he;split at he
 .simp only[some.injEq]at he;subst he;obtain⟨b,o,eh,rfl,_⟩:=Wy aD;exact⟨rfl,rfl,.inl ⟨_,rfl⟩⟩
 .simp only[some.injEq]at he;subst he;rw[aF]at aD;obtain⟨arr,rfl,_⟩:=aD;exact⟨rfl,rfl,.inr ⟨_,_,rfl⟩⟩
 .split at he
  .rename_i d ae;simp only[some.injEq]at he;subst he;obtain⟨b,cur,e,fr,rfl,_⟩:=M9 h aD ae;exact⟨rfl,rfl,.inl ⟨_,rfl⟩⟩
  .cases he
 .cases he
def ex (s:an) (x:I) (k:Nat):Option I:=
 match x with
 | .tuple ds=>match ds[k]? with
   |some d=>if d.plain=true then some d else none
   |none=>none
 | .h y q=>match I.sub q (s y)with
   |some (.tuple ds)=>match ds[k]? with
    |some d=>if I.dS ds=true then none else some (if d.plain then d else .h y (q++[k]))
    |none=>none
   |_=>none
 |_=>none
theorem Nh:∀(vs:anX) (k:Nat) (x:Value) (ds:anZ),vs[k]? =some x->vs.length=ds.length->(∀(j:Nat) (d:I) (y:Value),ds[j]? =some d->vs[j]? =some y->(gX y).length=d.wd)->
  ∃l r,vs.flatMap gX=l++(gX x++r)/\l.length=I.dR (ds.take k)
 |[],k,x,ds,h,_,_=>by simp at h
 |v::vs,0,x,ds,h,hl,hw=>by
  simp at h;subst h;exact⟨[],vs.flatMap gX,by simp,by simp[I.dR]⟩
 |v::vs,k+1,x,d::ds,h,hl,hw=>by
  obtain⟨l,r,aI,aM⟩:=Nh vs k x ds (by simpa using h) (by simpa using hl) (λj d y h1 ab=>hw (j+1) d y (by simpa using h1) (by simpa using ab));refine⟨gX v++l,r,by simp[aI],?_⟩;have:=hw 0 d v (by simp) (by simp);simp[I.dR,aM,this]
 |v::vs,k+1,x,[],h,hl,hw=>by simp at hl
theorem WA {d:I} {v:Value} (h:ie d v) (_hd:∀vs,d≠.tuple vs):bZ v=gX v:=by
 cases d with
 |agg aC=>obtain⟨arr,rfl⟩:=h;rfl
 |_=>
  have h1:Value.eJ v=true:=h;cases v<;>first|rfl|(simp[Value.eJ]at h1)
theorem WB {d:I} {v:Value} (h:ie d v) (ae:∀vs,d≠.tuple vs):c7 d v:=by
 cases d with
 |tuple vs=>exact(ae _ rfl).elim
 |_=>exact h
theorem WC (h:bq w0 F0 X F S s au w) {x:I} {v:Value} {k:Nat} (aD:aF w F s au x v (λ_=>False)) (he:ex s x k=some av):Good C w0 F0 X au w (Instr.extract v k) av s:=by
 have pick:∀(ds:anZ) (d:I) (arr:Array Value),ds[k]? =some d->(arr.size=ds.length/\∀(k:Nat) (d:I) (x:Value),ds[k]? =some d->arr[k]? =some x->ie d x/\(∀vs,d≠.tuple vs)/\(gX x).length=d.wd)->
   ∃x,arr[k]? =some x/\c7 d x/\((bZ (.tuple arr)).drop (I.dR (ds.take k))).take d.wd=bZ x:=by
  intro ds d arr ae ⟨bC,ja⟩;have cp:k<arr.size:=by rw[bC];exact(List.getElem?_eq_some_iff.1 ae).1
  have ag:arr[k]? =some arr[k]:=Array.getElem?_eq_getElem cp;obtain⟨g1,g2,g3⟩:=ja k d _ ae ag;obtain⟨l,r,aI,aM⟩:=Nh arr.toList k arr[k] ds (by simp[cp]) (by simpa using bC) (λj d y h1 ab=>(ja j d y h1 (by simpa using ab)).2.2);refine⟨_,ag,WB g1 g2,?_⟩;rw[WA g1 g2];simp only[bZ];rw[aI];exact u7 l _ r _ _ aM g3
 unfold ex at he;split at he
 .rename_i ds;split at he
  .rename_i d ae;split at he
   .rename_i al;simp only[some.injEq]at he;subst he;have bn:=(aF.b_ rfl).1 aD;obtain⟨⟨arr,rfl,bC⟩,eC⟩:=bn;obtain⟨x,ag,U,ai⟩:=pick ds d arr ae bC;have ax:(Instr.extract (.tuple arr) k).run C.P w= .ok x w:=by simp[Instr.extract,ag]
    rw[ar]at eC;obtain⟨c1,fB,c2,bR,hS,e,hJ,eF,fk,hp,fX,nu⟩:=aW.pick ds _ _ k d eC ae;rw[e,u7 c1 fB c2 _ _ hJ (ar.length _ _ _ fX)]at ai;by_cases aL:d.tree=true
    .exact Good.same h ax al ((aF.b_ aL).2 ⟨U,by rw[<-ai];exact ar.plain _ _ _ _ al fX⟩)
    .cases d<;>first|exact(aL rfl).elim|(rw[ar]at fX;exact fX.elim)|exact Good.same h ax rfl (by rw[aF];trivial)|(have bp:=ar.plain _ _ _ (λ_=>False) al fX;rw[ai,e_ (by exact U)]at bp;exact Good.same h ax rfl (aF.rp _ _ rfl bp))
   .cases he
  .cases he
 .rename_i y q;split at he
  .rename_i ds ae;split at he
   .rename_i d hk;split at he
    .cases he
    .rename_i eA;simp only[some.injEq]at he;have eA:(I.tuple ds).plain=false:=by simpa [I.plain]using eA
     rw[aF]at aD;obtain⟨cx,a,g1,g2,g3⟩:=aD _ ae eA;obtain⟨arr,rfl,bC⟩:=g3;obtain⟨x,ag,U,ai⟩:=pick ds d arr hk bC;have ax:(Instr.extract (.tuple arr) k).run C.P w= .ok x w:=by simp[Instr.extract,ag]
     have hy:=h.cD y;rw[aF.b_ (hL ae (.inl eA))]at hy;obtain⟨fI,bN,dI,fg,k0,bT,b2,dm,de,e5⟩:=ctx q (s y) (bZ (au y)) (S y) none _ hy.2 ae;rw[k0]at g1;simp only[some.injEq,Prod.mk.injEq,true_and]at g1;obtain⟨rfl,rfl⟩:=g1;rw[g2]at ai;split at he
     .rename_i al;subst he;rw[ar]at de;obtain⟨c1,fB,c2,bR,hS,e,hJ,eF,fk,hp,fX,nu⟩:=aW.pick ds _ _ k d de hk;rw[e,u7 c1 fB c2 _ _ hJ (ar.length _ _ _ fX)]at ai;by_cases aL:d.tree=true
      .exact Good.same h ax al ((aF.b_ aL).2 ⟨U,by rw[<-ai];exact ar.plain _ _ _ _ al fX⟩)
      .cases d<;>first|exact(aL rfl).elim|(rw[ar]at fX;exact fX.elim)|exact Good.same h ax rfl (by rw[aF];trivial)|(have bp:=ar.plain _ _ _ (λ_=>False) al fX;rw[ai,e_ (by exact U)]at bp;exact Good.same h ax rfl (aF.rp _ _ rfl bp))
     .subst he;refine Good.same h ax rfl ?_;rw[aF];intro d2 fP ri;rw[zS w q _ _ _ _ _ _ [k] k0];rw[zR _ _ _ _ ae]at fP;simp only[I.sub,hk,some.injEq]at fP;subst fP;simp only[c6,hk];exact⟨_,_,rfl,ai.symm,U⟩
   .cases he
  .cases he
 .cases he
def ny (C:bx) (s:an) (T:TypeId) (x:I) (k:Nat):Option I:=
 match(C.T T).k with
 | .struct aC=>match aC[k]? with
   |some (j6,off)=>match x with
    | .agg ds=>match ds[k]? with
      |some d=>if I.dR (ds.take k)=off/\fits C j6 d=true/\d.plain=true/\d.tree=true then some d else none
      |none=>none
    | .h y q=>match I.sub q (s y)with
      |some (.agg ds)=>match ds[k]? with
       |some d=>if I.dR (ds.take k)=off/\fits C j6 d=true/\I.dS ds=false/\d.tree=true then some (if d.plain then d else .h y (q++[k]))else none
       |none=>none
      |_=>none
    |_=>none
   |none=>none
 |_=>none
theorem WD (bb:C.Ok) (h:bq w0 F0 X F S s au w) {T:TypeId} {x:I} {v:Value} {k:Nat} (aD:aF w F s au x v (λ_=>False)) (he:ny C s T x k=some av):Good C w0 F0 X au w (Instr.field T v k) av s:=by
 have key:∀(aC:List (TypeId×Nat)) (j6:TypeId) (off:Nat),(C.T T).k= .struct aC->aC[k]? =some (j6,off)->∀(ds:anZ) (d:I) (arr:Array Value) (aJ:Nat->Prop),ds[k]? =some d->I.dR (ds.take k)=off->fits C j6 d=true->aW w F ds arr.toList aJ->
   ∃x hS,(Instr.field T (.agg arr) k).run C.P w= .ok x w/\c7 d x/\ar w F d (bZ x) hS/\(arr.toList.drop off).take d.wd=bZ x:=by
  intro aC j6 off hk bc ds d arr aJ ae rn h0 eC;obtain⟨i,ht,z,aI,aM,aP,bK,cg,bP,bL⟩:=bb.info (fQ hk (by simp));rw[hk]at bL;obtain⟨gs,rfl,hr⟩:=zT bL;obtain⟨g,g1,rfl,rfl⟩:∃g,gs[k]? =some g/\g.type=j6/\g.offset=off:=by
   rw[<-hr,getElem?_map]at bc;simp only[map_eq_some_iff,Prod.mk.injEq]at bc;obtain⟨g,h1,ab,ay⟩:=bc;exact⟨g,by simpa using h1,ab,ay⟩
  obtain⟨c1,fB,c2,bR,hS,e,hJ,eF,fk,hp,fX,nu⟩:=aW.pick ds _ _ k d eC ae;obtain⟨x,ax,Ni,k_⟩:=Wc (w:=w) bb e (hJ.trans rn) fX h0;refine⟨x,hS,?_,k_,by rw[Ni];exact fX,?_⟩
  .simp[Instr.field,run_underlying bP,g1,asAgg,ax]
  .rw[e,Ni,<-rn];exact u7 c1 fB c2 _ _ hJ (ar.length _ _ _ fX)
 have Nj:∀(d:I) (x:Value) (hS:Nat->Prop),d.plain=true->c7 d x->ar w F d (bZ x) hS->aF w F s au d x (λ_=>False):=by
  intro d x hS al U eC;by_cases aL:d.tree=true
  .exact(aF.b_ aL).2 ⟨U,ar.plain _ _ _ _ al eC⟩
  .cases d<;>first|exact(aL rfl).elim|(rw[ar]at eC;exact eC.elim)|(rw[aF];trivial)|(have bp:=ar.plain _ _ _ (λ_=>False) al eC;rw[e_ (by exact U)]at bp;exact aF.rp _ _ rfl bp)
 unfold ny at he;split at he
 .rename_i aC hk;split at he
  .rename_i j6 off bc;split at he
   .rename_i ds;split at he
    .rename_i d ae;split at he
     .rename_i ai;simp only[some.injEq]at he;subst he;obtain⟨⟨arr,rfl⟩,eC⟩:=(aF.b_ rfl).1 aD;rw[ar]at eC;obtain⟨x,hS,ax,U,GX,_⟩:=key aC j6 off hk bc ds d arr _ ae ai.1 ai.2.1 eC;exact Good.same h ax ai.2.2.1 (Nj d x hS ai.2.2.1 U GX)
     .cases he
    .cases he
   .rename_i y q;split at he
    .rename_i ds ae;split at he
     .rename_i d oW;split at he
      .rename_i ai;simp only[some.injEq]at he;have eA:(I.agg ds).plain=false:=by simpa [I.plain]using ai.2.2.1
       rw[aF]at aD;obtain⟨cx,a,g1,g2,g3⟩:=aD _ ae eA;obtain⟨arr,rfl⟩:=g3;have hy:=h.cD y;rw[aF.b_ (hL ae (.inl eA))]at hy;obtain⟨fI,bN,dI,fg,k0,bT,b2,dm,de,e5⟩:=ctx q (s y) (bZ (au y)) (S y) none _ hy.2 ae;rw[k0]at g1;simp only[some.injEq,Prod.mk.injEq,true_and]at g1;obtain⟨rfl,rfl⟩:=g1;rw[ar,<-g2]at de;obtain⟨x,hS,ax,U,GX,fZ⟩:=key aC j6 off hk bc ds d arr _ oW ai.1 ai.2.1 de;by_cases al:d.plain=true
       .rw[if_pos al]at he;subst he;exact Good.same h ax al (Nj d x hS al U GX)
       .rw[if_neg al]at he;subst he;refine Good.same h ax rfl ?_;rw[aF];intro d2 fP ri;rw[zS w q _ _ _ _ _ _ [k] k0];rw[zR _ _ _ _ ae]at fP;simp only[I.sub,oW,some.injEq]at fP;subst fP;simp only[c6,oW];refine⟨_,_,rfl,?_,U⟩;rw[ai.1,<-g2];exact fZ.symm
      .cases he
     .cases he
    .cases he
   .cases he
  .cases he
 .cases he
end
section
variable {C:bx} {w0 w:World} {F0 X F:Nat->Prop} {S:Nat->Nat->Prop} {s s1:an} {au:Nat->Value} {av:I}
def idx (C:bx) (T:TypeId) (x i:I):Option I:=
 match(C.T T).k,x,i with
 | .str,.str l,.int _ n=>if 0<=n then(match l[n.toNat]? with|some b=>some (.int .u8 b.toNat)|none=>none)else none
 |_,_,_=>none
theorem WE (l:anR) (n:Nat):(⟨⟨l⟩⟩:ByteArray)[n]? =l[n]? :=by
 by_cases h:n<l.length
 .have bn:n<(⟨⟨l⟩⟩:ByteArray).size:=h;rw[getElem?_eq_getElem h,getElem?_pos (⟨⟨l⟩⟩:ByteArray) n bn];rfl
 .have bn:¬n<(⟨⟨l⟩⟩:ByteArray).size:=h;rw[getElem?_eq_none (by omega),getElem?_neg (⟨⟨l⟩⟩:ByteArray) n bn]
theorem WG (bb:C.Ok) (h:bq w0 F0 X F S s au w) {T:TypeId} {x i:I} {v pE:Value} (aD:aF w F s au x v (λ_=>False)) (ak:aF w F s au i pE (λ_=>False)) (he:idx C T x i=some av):
  Good C w0 F0 X au w (Instr.index T v pE) av s:=by
 unfold idx at he;split at he
 .rename_i l k n hk;have:=nx aD;subst this;have:=oq ak;subst this;obtain⟨i,d,z,aI,aM,aP,bK,cg,bP,bL⟩:=bb.info (fQ hk (by simp));rw[hk]at bL;have:=rk bL;subst this;split at he
  .rename_i aN;split at he
   .rename_i b R;simp only[some.injEq]at he;subst he;refine Good.same h ?_ rfl (of_int _ _);simp[Instr.index,asIntOf,run_underlying bP,aN,WE,R]
   .cases he
  .cases he
 .cases he
def lenOf (s:an):I->Option Nat
 | .str l=>some l.length
 | .bd=>some 0
 | .slice xs=>some xs.length
 | .h y q=>match I.sub q (s y)with
   |some (.ah _ xs)=>some xs.length
   |_=>none
 |_=>none
def sw (C:bx) (s:an) (T:TypeId) (x:I):Option I:=
 match(C.T T).k,x with
 | .str,.str l=>some (.int .i64 l.length)
 | .slice _,.bd=>some (.int .i64 0)
 | .slice _,.slice xs=>some (.int .i64 xs.length)
 | .slice _,.h y q=>match I.sub q (s y)with
   |some (.ah _ xs)=>some (.int .i64 xs.length)
   |_=>none
 |_,_=>none
theorem C9 {xs:anZ} {v:Value} {aJ:Nat->Prop} (h:aF w F s au (.slice xs) v aJ):(xs=[]/\∃a c,v= .slice a 0 c/\c<=maxLen/\(a=none->c=0))\/
  ∃b o cap eh sz,v= .slice (some ⟨b,o,none⟩) xs.length cap/\F b/\xs.length<=cap/\cap<=maxLen/\(∀d∈xs,d.wd=sz)/\Rd w b o eh/\aW w F xs eh (λ_=>False):=by
 have bn:=(aF.b_ rfl).1 h;rw[ar,e_ bn.1]at bn;obtain⟨_,⟨rfl,a,c,ab,ay⟩|⟨b,o,cap,eh,sz,ab,ay⟩⟩:=bn
 .simp at ab;exact .inl ⟨rfl,a,c,ab,ay⟩
 .simp at ab;exact .inr ⟨b,o,cap,eh,sz,ab,ay⟩
theorem WH (bb:C.Ok) (h:bq w0 F0 X F S s au w) {T ty:TypeId} {x:I} {v:Value} (aD:aF w F s au x v (λ_=>False)) (he:sw C s T x=some av):
  Good C w0 F0 X au w (Builtin.len_ #[T] ty #[v]) av s:=by
 unfold sw at he;split at he
 .rename_i l hk;have:=nx aD;subst this;obtain⟨i,d,z,aI,aM,aP,bK,cg,bP,bL⟩:=bb.info (fQ hk (by simp));rw[hk]at bL;have:=rk bL;subst this;simp only[some.injEq]at he;subst he;refine Good.same h ?_ rfl (of_int _ _);simp[Builtin.len_,run_underlying bP,goInt];rfl
 .rename_i e hk;have:=sv aD;subst this;obtain⟨i,d,z,aI,aM,aP,bK,cg,bP,bL⟩:=bb.info (fQ hk (by simp));rw[hk]at bL;have:=mj bL;subst this;simp only[some.injEq]at he;subst he;refine Good.same h ?_ rfl (of_int _ _);simp[Builtin.len_,run_underlying bP,goInt]
 .rename_i e xs hk;obtain⟨i,d,z,aI,aM,aP,bK,cg,bP,bL⟩:=bb.info (fQ hk (by simp));rw[hk]at bL;have:=mj bL;subst this;simp only[some.injEq]at he;subst he;refine Good.same h ?_ rfl (of_int _ _);rcases C9 aD with⟨rfl,a,c,rfl,_⟩|⟨b,o,cap,eh,sz,rfl,_⟩<;>simp[Builtin.len_,run_underlying bP,goInt]
 .rename_i e y q hk;split at he
  .rename_i sz xs ae;obtain⟨i,d,z,aI,aM,aP,bK,cg,bP,bL⟩:=bb.info (fQ hk (by simp));rw[hk]at bL;have:=mj bL;subst this;simp only[some.injEq]at he;subst he;refine Good.same h ?_ rfl (of_int _ _);rcases GV h aD ae with⟨rfl,_,rfl⟩|⟨b,cap,cur,aM,fr,rfl,_⟩<;>simp[Builtin.len_,run_underlying bP,goInt]
  .cases he
 .cases he
def bytesOf:anZ->Option anR
 |[]=>some []
 | .int .u8 n::r=>if 0<=n/\n<256 then(bytesOf r).map (UInt8.ofNat n.toNat::·)else none
 |_=>none
def hv (b:UInt8):I:=.int .u8 b.toNat
theorem WI (l:anR):bytesOf (l.map hv)=some l:=by
 induction l with
 |nil=>rfl
 |cons b l ih=>
  have R:b.toNat<256:=b.toNat_lt;simp only[map_cons,hv,bytesOf,Int.toNat_natCast];rw[if_pos (by omega),ih];simp
theorem GY:∀(xs:anZ) (l:anR) (cs:anX) (aJ:Nat->Prop),bytesOf xs=some l->aW w F xs cs aJ->cs=l.map (λb=>.int .u8 (b.toNat:Int))/\xs.length=l.length
 |[],l,cs,aJ,h,ax=>by simp[bytesOf]at h;subst h;rw[aW]at ax;subst ax;exact⟨rfl,rfl⟩
 |x::xs,l,cs,aJ,h,ax=>by
  unfold bytesOf at h;split at h
  .rename_i e;cases e
  .rename_i n r e;simp only[cons.injEq]at e;obtain⟨rfl,rfl⟩:=e;split at h
   .rename_i aN;simp only[map_eq_some_iff]at h;obtain⟨bV,h1,rfl⟩:=h;rw[aW]at ax;obtain⟨c1,c2,bR,cH,rfl,ab,ay,_⟩:=ax;obtain⟨rfl,aT⟩:=GY xs bV c2 cH h1 ay;rw[ar]at ab;subst ab;refine⟨?_,by simp[aT]⟩;simp only[map_cons,cons_append,nil_append,cons.injEq,and_true,Value.int.injEq,true_and];simp only[UInt8.toNat_ofNat'];omega
   .cases h
  .cases h
theorem bq.z1 (h:bq w0 F0 X F S s au w) {aq:World} {sz cap:Nat} {xs:anZ} {cur:Array Value} {e:TypeId} {fr:Nat×Nat} {Sn:Nat->Prop}
  (hw:aq.heap=w.heap.push (.cells cur e fr)) (h1:aq.os=w.os) (ab:aq.tape=w.tape) (ay:Out aq w)
  (bc:lH fr (cur.size+(sz-1))) (hle:xs.length<=cap) (hm:cap<=maxLen) (dr:cur.size=cap*sz) (k6:∀d∈xs,d.wd=sz) (aD:aW w F xs (cur.toList.take (xs.length*sz)) Sn)
  (cp:∀b,Sn b->b<w.heap.size) (a8:∀b,Sn b->¬F b) (bE:∀u b,Sn b->¬S u b) (ba:∀b,Sn b->X b\/w0.heap.size<=b):
  bq w0 F0 X F S s au aq/\j5 w0 X F S s au aq (.ah sz xs) (.slice (some ⟨w.heap.size,0,none⟩) xs.length cap):=by
 have hold:∀b,b<w.heap.size->aq.heap[b]? =w.heap[b]? :=by
  intro b R;rw[hw,Array.getElem?_push,if_neg (by omega)]
 have Nk:aq.heap.size=w.heap.size+1:=by rw[hw];simp
 refine⟨h.grow hold (by omega) h1 ab ay,.inr ⟨rfl,rfl,λb=>b=w.heap.size\/Sn b,?_,?_,?_,?_,?_⟩⟩
 .simp only[bZ,gX];rw[ar];refine .inr ⟨w.heap.size,cap,cur,e,fr,Sn,rfl,.inl rfl,?_,bc,hle,hm,dr,k6,?_,λc ai=>.inr ai,λai=>Nat.lt_irrefl _ (cp _ ai)⟩
  .rw[hw];simp
  .exact aW.frame (λb R=>hold b (h.dV b R)) _ _ _ (λb R=>hold b (cp b R)) aD
 .rintro b (rfl|R)
  .omega
  .have:=cp b R;omega
 .rintro b (rfl|R) su
  .exact Nat.lt_irrefl _ (h.dV _ su)
  .exact a8 b R su
 .rintro u b (rfl|R) hu
  .exact Nat.lt_irrefl _ (h.dh _ _ hu)
  .exact bE u b R hu
 .rintro b (rfl|R)
  .exact .inr h.size
  .exact ba b R
def je (C:bx) (s:an) (A B:TypeId) (x:I):Option I:=
 if(C.T A).ok=true then
 match(C.T B).k,x with
 | .int k,.int _ n=>some (.int k (k.wrap n))
 | .str,.str l=>match(C.T A).k with
   | .str=>some (.str l)
   |_=>none
 | .str,x=>match(C.T A).k with
   | .slice e=>match(C.T e).k with
     | .int .u8=>match x with
       | .bd=>some (.str [])
       | .slice xs=>(bytesOf xs).map .str
       | .h y q=>match I.sub q (s y)with
         |some (.ah 1 xs)=>(bytesOf xs).map .str
         |_=>none
       |_=>none
     |_=>none
   |_=>none
 | .slice e,.str l=>match(C.T A).k,(C.T e).k with
   | .str,.int .u8=>if l.length<=9223372036854775807 then some (.ah 1 (l.map hv))else none
   |_,_=>none
 |_,_=>none
 else none
theorem Nl (l:anR) (aJ:Nat->Prop):aW w F (l.map hv) (l.map λb=>.int .u8 (b.toNat:Int)) aJ:=by
 induction l generalizing aJ with
 |nil=>simp only[map_nil];rw[aW]
 |cons b l ih=>
  simp only[map_cons];rw[aW];exact⟨[.int .u8 (b.toNat:Int)],_,λ_=>False,λ_=>False,rfl,by rw[hv,ar],ih _,λ_ h=>h.elim,λ_ h=>h.elim,λ_ h=>h.elim⟩
theorem WJ (bb:C.Ok) (h:bq w0 F0 X F S s au w) {A B:TypeId} {x:I} {v:Value} (aD:aF w F s au x v (λ_=>False)) (he:je C s A B x=some av):
  Good C w0 F0 X au w (convert A B v) av s:=by
 unfold je at he;split at he
 .rename_i iS;obtain⟨jb,amg,amh,J,a2,a3,a4,a5,rr,ru⟩:=bb.info iS;split at he
  .rename_i k da n hk;have:=oq aD;subst this;obtain⟨i,d,z,aI,aM,aP,bK,cg,bP,bL⟩:=bb.info (fQ hk (by simp));rw[hk]at bL;have:=zU bL;subst this;simp only[some.injEq]at he;subst he;refine Good.same h ?_ rfl (of_int _ _);simp[convert,run_underlying rr,run_underlying bP,Conv.intToInt]
  .rename_i l hk;have:=nx aD;subst this;obtain⟨i,d,z,aI,aM,aP,bK,cg,bP,bL⟩:=bb.info (fQ hk (by simp));rw[hk]at bL;have:=rk bL;subst this;split at he
   .rename_i z6;rw[z6]at ru;have:=rk ru;subst this;simp only[some.injEq]at he;subst he;refine Good.same h ?_ rfl (ql _);simp[convert,run_underlying rr,run_underlying bP]
   .cases he
  .rename_i x hk _;obtain⟨i,d,z,aI,aM,aP,bK,cg,bP,bL⟩:=bb.info (fQ hk (by simp));rw[hk]at bL;have:=rk bL;subst this;split at he
   .rename_i e z6;rw[z6]at ru;have:=mj ru;subst this;split at he
    .rename_i z7;obtain⟨rl,bf,rm,f1,f2,f3,f4,f5,f6,f7⟩:=bb.info (fQ z7 (by simp));rw[z7]at f7;have:=zU f7;subst this;have fin:∀(l:anR) (b o cap:Nat),Rd w b o (l.map λb=>.int .u8 (b.toNat:Int))->(convert A B (.slice (some ⟨b,o,none⟩) l.length cap)).run C.P w= .ok (.string ⟨⟨l⟩⟩) w:=by
      intro l b o cap jQ;refine run_convert_bytes_back w A B e ⟨b,o,none⟩ cap l rr f6 bP (λj bo=>?_);rw[Addr.add_lit];exact jQ j _ (by simp[bo])
     have nil:(convert A B (.slice none 0 0)).run C.P w= .ok (.string ⟨⟨[]⟩⟩) w:=by
      simp[convert,run_underlying rr,run_underlying bP,run_underlying f6,Conv.bytesToString];rfl
     split at he
     .have:=sv aD;subst this;simp only[some.injEq]at he;subst he;exact Good.same h nil rfl (ql _)
     .rename_i xs _;simp only[map_eq_some_iff]at he;obtain⟨l,hl,rfl⟩:=he;rcases C9 aD with⟨rfl,a,c,rfl,_,vi⟩|⟨b,o,cap,eh,sz,rfl,h1,ab,ay,aT,bp,bX⟩
      .simp[bytesOf]at hl;subst hl;cases a with
       |none=>
        have:=vi rfl;subst this;exact Good.same h nil rfl (ql _)
       |some a=>
        refine Good.same h ?_ rfl (ql _);exact run_convert_bytes_back w A B e a c [] rr f6 bP (λj bo=>by simp at bo)
      .obtain⟨rfl,bM⟩:=GY xs l eh _ hl bX;rw[bM];exact Good.same h (fin l b o cap bp) rfl (ql _)
     .rename_i y q;split at he
      .rename_i xs ae;simp only[map_eq_some_iff]at he;obtain⟨l,hl,rfl⟩:=he;rcases GV h aD ae with⟨rfl,a,rfl⟩|⟨b,cap,cur,aM,fr,rfl,h1,ab,ay,aT,bp,bX,aJ,bM,_⟩
       .simp[bytesOf]at hl;subst hl;cases a with
        |none=>exact Good.same h nil rfl (ql _)
        |some a=>
         refine Good.same h ?_ rfl (ql _);exact run_convert_bytes_back w A B e a 0 [] rr f6 bP (λj bo=>by simp at bo)
       .obtain⟨dy,hG⟩:=GY xs l _ _ hl bM;rw[hG];refine Good.same h (fin l b 0 cap ?_) rfl (ql _);rw[<-dy];exact xk h1 _
      .cases he
     .cases he
    .cases he
   .cases he
  .rename_i e l hk;have:=nx aD;subst this;obtain⟨i,d,z,aI,aM,aP,bK,cg,bP,bL⟩:=bb.info (fQ hk (by simp));rw[hk]at bL;have:=mj bL;subst this;split at he
   .rename_i z6 z7;rw[z6]at ru;have:=rk ru;subst this;obtain⟨rl,bf,rm,f1,f2,f3,f4,f5,f6,f7⟩:=bb.info (fQ z7 (by simp));rw[z7]at f7;have:=zU f7;subst this;split at he
    .rename_i hl;simp only[some.injEq]at he;subst he;have U:(⟨⟨l⟩⟩:ByteArray).size=l.length:=rfl;have vn:=grownCap_ge w l.length 0 e;have z8:=grownCap_le_maxLen w l.length 0 e (by unfold maxLen;omega);have Nn:(bytesRow ⟨⟨l⟩⟩ (grownCap w l.length 0 e)).toList=l.map (λb=>Value.int .u8 (b.toNat:Int))++replicate (grownCap w l.length 0 e-l.length) (.int .u8 0):=by
      simp[bytesRow,U]
     have dr:(bytesRow ⟨⟨l⟩⟩ (grownCap w l.length 0 e)).size=grownCap w l.length 0 e*1:=by
      have:(bytesRow ⟨⟨l⟩⟩ (grownCap w l.length 0 e)).size=(bytesRow ⟨⟨l⟩⟩ (grownCap w l.length 0 e)).toList.length:=by simp
      rw[this,Nn];simp;omega
     have vg:=run_bytes_of_string w A B e ⟨⟨l⟩⟩ rr bP f6;rw[U]at vg;have lK:=h.z1 (aq:=w.drew.alloc (.cells (bytesRow ⟨⟨l⟩⟩ (grownCap w l.length 0 e)) e ((bytesRow ⟨⟨l⟩⟩ (grownCap w l.length 0 e)).size,(bytesRow ⟨⟨l⟩⟩ (grownCap w l.length 0 e)).size+1)))
      (sz:=1) (cap:=grownCap w l.length 0 e) (xs:=l.map hv) (cur:=bytesRow ⟨⟨l⟩⟩ (grownCap w l.length 0 e)) (e:=e) (Sn:=λ_=>False) rfl rfl rfl ⟨rfl,λ_=>le_succ _⟩
      (λo a1 ⟨h1,_⟩=>by simp only at h1;omega) (by simpa using vn) z8 dr (by intro d ae;obtain⟨b,_,rfl⟩:=mem_map.1 ae;rfl)
      (by rw[Nn,take_left' (by simp)];exact Nl l _) (λ_ h=>h.elim) (λ_ h=>h.elim) (λ_ _ h=>h.elim) (λ_ h=>h.elim)
     simp only[length_map]at lK;exact⟨_,_,F,S,vg,lK.1,lK.2⟩
    .cases he
   .cases he
  .cases he
 .cases he
end
section
variable {C:bx} {w0 w:World} {F0 X F:Nat->Prop} {S:Nat->Nat->Prop} {s s1:an} {au:Nat->Value} {av:I}
def hZ (d:Nat):Option I->Option Nat
 |none=>some d
 |some (.int _ n)=>if 0<=n then some n.toNat else none
 |some _=>none
def fR (C:bx) (s:an) (T:TypeId) (x:I) (eK ak:Option I):Option (I×an):=
 match(C.T T).k,x with
 | .str,.str l=>match hZ 0 eK,hZ l.length ak with
   |some a,some b=>if a<=b/\b<=l.length then some (.str ((l.take b).drop a),s)else none
   |_,_=>none
 | .slice e,.bd=>match hZ 0 eK,hZ 0 ak with
   |some 0,some 0=>if(C.T e).ok=true then some (.bd,s)else none
   |_,_=>none
 | .slice e,.slice xs=>match hZ 0 eK,hZ xs.length ak with
   |some a,some b=>if a<=b/\b<=xs.length/\(C.T e).ok=true/\(∀d∈xs,d.wd=(C.T e).sz)then some (.slice ((xs.take b).drop a),s)else none
   |_,_=>none
 | .slice e,.h y q=>match I.sub q (s y)with
   |some (.ah sz xs)=>match hZ 0 eK,hZ xs.length ak with
    |some 0,some b=>if b<=xs.length/\(C.T e).ok=true then(match cy s (.h y q)with|some (_,s1)=>some (.ah sz (xs.take b),s1)|none=>none)else none
    |_,_=>none
   |_=>none
 |_,_=>none
def sx (w:World) (F:Nat->Prop) (s:an) (au:Nat->Value):Option I->Option Value->Prop
 |none,none=>True
 |some d,some v=>aF w F s au d v (λ_=>False)
 |_,_=>False
theorem Np {d:Nat} {o:Option I} {v:Option Value} (a1:sx w F s au o v) {a:Nat} (h:hZ d o=some a):(o=none/\v=none/\a=d)\/∃k,v=some (.int k a):=by
 cases o with
 |none=>
  cases v with
  |none=>simp[hZ]at h;exact .inl ⟨rfl,rfl,h.symm⟩
  |some v=>simp[sx]at a1
 |some x=>
  cases v with
  |none=>simp[sx]at a1
  |some v=>
   simp only[sx]at a1;cases x with
   |int k n=>
    have:=oq a1;subst this;simp only[hZ]at h;split at h
    .rename_i aN;simp only[some.injEq]at h;subst h;obtain⟨m,rfl⟩:=Int.eq_ofNat_of_zero_le aN;exact .inr ⟨k,rfl⟩
    .cases h
   |_=>simp[hZ]at h
theorem xq {P:Program} {isS:Bool} {len cap a b:Nat} {eK ak:Option I} {vo vp:Option Value} (lb:sx w F s au eK vo) (nz:sx w F s au ak vp) (bg:hZ 0 eK=some a) (R:hZ len ak=some b) (nt:a<=b) (WK:b<=cap) (_hlc:len<=cap):
  (Instr.sliceBounds isS len cap vo vp none).run P w= .ok (a,b,cap) w:=by
 rcases Np lb bg with⟨_,rfl,rfl⟩|⟨k,rfl⟩<;>rcases Np nz R with⟨_,rfl,rfl⟩|⟨da,rfl⟩<;>
  simp[Instr.sliceBounds,Instr.sliceBound,asIntOf,nt,WK]
theorem xr (bb:C.Ok) {T:TypeId} (hk:(C.T T).flat=true) (v:Value) (eK ak eI:Option Value) (w:World):(Instr.sliceAt T v eK ak eI).run C.P w=(Instr.slice T v eK ak eI).run C.P w:=by
 obtain⟨i,d,z,aI,aM,aP,bK,cg,bP,bL⟩:=bb.info (MZ hk);have cI:∀n e,d≠.array n e:=by
  clear bP;unfold gr.flat at hk;generalize (C.T T).k=dC at*;cases dC<;>cases d<;>simp[mh]at bL hk⊢
 cases d<;>first|exact(cI _ _ rfl).elim|simp[Instr.sliceAt,run_underlying bP]
theorem xt {x:gr} {k:oh} (h:x.k=k) (hk:k≠.other) (U:∀aC,k≠.struct aC) (R:∀e,k≠.ij e:=by simp):x.flat=true:=by
 unfold gr.flat;rw[h];cases k<;>first|rfl|exact(hk rfl).elim|exact(R _ rfl).elim|exact(U _ rfl).elim
theorem aW.split:∀(n:Nat) (xs:anZ) (cs:anX) (aJ:Nat->Prop),aW w F xs cs aJ->∃c1 c2 bR cH,cs=c1++c2/\aW w F (xs.take n) c1 bR/\aW w F (xs.drop n) c2 cH/\(∀b,bR b->aJ b)/\(∀b,cH b->aJ b)/\(∀b,bR b->¬cH b)
 |0,xs,cs,aJ,h=>⟨[],cs,λ_=>False,aJ,rfl,by rw[take_zero,aW],h,λ_ h=>h.elim,λ_ h=>h,λ_ h=>h.elim⟩
 |n+1,[],cs,aJ,h=>by rw[aW]at h;subst h;exact⟨[],[],λ_=>False,λ_=>False,rfl,by rw[take_nil,aW],by rw[drop_nil,aW],λ_ h=>h.elim,λ_ h=>h.elim,λ_ h=>h.elim⟩
 |n+1,x::xs,cs,aJ,h=>by
  rw[aW]at h;obtain⟨c1,c2,hI,gI,rfl,h1,ab,ay,aT,bp⟩:=h;obtain⟨d1,d2,bR,cH,rfl,g1,g2,g3,g4,g5⟩:=aW.split n xs c2 gI ab;refine⟨c1++d1,d2,λb=>hI b\/bR b,cH,by simp,?_,g2,?_,λb R=>aT _ (g4 _ R),?_⟩
  .rw[take_succ_cons,aW];exact⟨c1,d1,hI,bR,rfl,h1,g1,λ_ h=>.inl h,λ_ h=>.inr h,λb R ai=>bp b R (g3 b ai)⟩
  .rintro b (R|R)
   .exact ay b R
   .exact aT b (g3 b R)
  .rintro b (R|R) ai
   .exact bp b R (g4 b ai)
   .exact g5 b R ai
theorem WL (bb:C.Ok) (h:bq w0 F0 X F S s au w) {T:TypeId} {x:I} {v:Value} {eK ak:Option I} {vo vp:Option Value} (ag:x.plain=true) (aD:aF w F s au x v (λ_=>False)) (lb:sx w F s au eK vo) (nz:sx w F s au ak vp)
  (he:fR C s T x eK ak=some (av,s1)):Good C w0 F0 X au w (Instr.sliceAt T v vo vp none) av s1:=by
 unfold fR at he;split at he
 .rename_i l hk;have:=nx aD;subst this;obtain⟨i,d,z,aI,aM,aP,bK,cg,bP,bL⟩:=bb.info (fQ hk (by simp));rw[hk]at bL;have:=rk bL;subst this;split at he
  .rename_i a b bg R;split at he
   .rename_i nt;simp only[some.injEq,Prod.mk.injEq]at he;obtain⟨rfl,rfl⟩:=he;refine Good.same h ?_ rfl (ql _);rw[xr bb (xt hk (by simp) (by simp))];have dr:(⟨⟨l⟩⟩:ByteArray).size=l.length:=rfl;have pG:=xq (P:=C.P) (isS:=false) (len:=l.length) (cap:=l.length) lb nz bg R nt.1 nt.2 (Nat.le_refl _);have WM:(⟨⟨l⟩⟩:ByteArray).extract a b=⟨⟨(l.take b).drop a⟩⟩:=by
     apply ByteArray.ext;simp[ByteArray.data_extract,drop_take]
    simp[Instr.slice,run_underlying bP,dr,pG,WM]
   .cases he
  .cases he
 .rename_i e hk;have:=sv aD;subst this;obtain⟨i,d,z,aI,aM,aP,bK,cg,bP,bL⟩:=bb.info (fQ hk (by simp));rw[hk]at bL;have:=mj bL;subst this;split at he
  .rename_i bg R;split at he
   .rename_i qn;obtain⟨rl,bf,rm,f1,f2,f3,f4,f5,f6,f7⟩:=bb.info qn;simp only[some.injEq,Prod.mk.injEq]at he;obtain⟨rfl,rfl⟩:=he;have pG:=xq (P:=C.P) (isS:=true) (len:=0) (cap:=0) lb nz bg R (Nat.le_refl _) (Nat.le_refl _) (Nat.le_refl _);refine Good.same h (v:=.slice none 0 0) ?_ rfl aD;rw[xr bb (xt hk (by simp) (by simp))];simp[Instr.slice,run_underlying bP,pG,kG f1,f2]
   .cases he
  .cases he
 .rename_i e xs hk;obtain⟨i,d,z,aI,aM,aP,bK,cg,bP,bL⟩:=bb.info (fQ hk (by simp));rw[hk]at bL;have:=mj bL;subst this;split at he
  .rename_i a b bg R;split at he
   .rename_i nt;obtain⟨WN,Nq,qn,k6⟩:=nt;obtain⟨rl,bf,rm,f1,f2,f3,f4,f5,f6,f7⟩:=bb.info qn;simp only[some.injEq,Prod.mk.injEq]at he;obtain⟨rfl,rfl⟩:=he;rcases C9 aD with⟨rfl,xu,c,rfl,z_,vi⟩|⟨jS,o,cap,eh,sz,rfl,h1,ab,ay,aT,bp,bX⟩
    .have gR:b=0:=by simpa using Nq
     subst gR;have WO:a=0:=by omega
     subst WO;have pG:=xq (P:=C.P) (isS:=true) (len:=0) (cap:=c) lb nz bg R (Nat.le_refl _) (zero_le _) (zero_le _);refine Good.same h (v:=.slice xu 0 c) ?_ rfl ((aF.b_ rfl).2 ⟨rfl,by rw[ar];exact .inl ⟨rfl,xu,c,rfl,z_,vi⟩⟩);rw[xr bb (xt hk (by simp) (by simp))];cases xu with
     |none=>
      have:=vi rfl;subst this;simp[Instr.slice,run_underlying bP,pG,kG f1,f2]
     |some xu=>simp[Instr.slice,run_underlying bP,pG,kG f1,f2,Addr.add]
    .have pG:=xq (P:=C.P) (isS:=true) (len:=xs.length) (cap:=cap) lb nz bg R WN (Nat.le_trans Nq ab) ab;obtain⟨c1,c2,bR,cH,rfl,g1,g2,g3,g4,g5⟩:=aW.split b xs eh _ bX;obtain⟨d1,d2,kH,ou,rfl,bT,b2,dm,de,e5⟩:=aW.split a (xs.take b) c1 _ g1;have GZ:d1.length=a*(C.T e).sz:=by
      rw[aW.length _ _ _ bT,u_ _ (λd ae=>k6 d (mem_of_mem_take (mem_of_mem_take ae))),length_take,length_take];congr 1;omega
     have hlen:((xs.take b).drop a).length=b-a:=by simp;omega
     have jQ:Rd w jS (o+a*(C.T e).sz) d2:=by
      rw[<-GZ];have:Rd w jS o (d1++(d2++c2)):=by simpa using bp
      exact this.GM
     have C_:aW w F ((xs.take b).drop a) d2 (λ_=>False):=aW.mono (λ_ h=>h) _ _ _ _ (λb R=>(g3 _ (de _ R)).elim) b2;have mem:∀d∈(xs.take b).drop a,d.wd=sz:=λd ae=>aT d (mem_of_mem_take (mem_of_mem_drop ae));have run:(Instr.sliceAt T (.slice (some ⟨jS,o,none⟩) xs.length cap) vo vp none).run C.P w= .ok (.slice (if cap=a then some ⟨jS,o,none⟩else some ⟨jS,o+a*(C.T e).sz,none⟩) (b-a) (cap-a)) w:=by
      rw[xr bb (xt hk (by simp) (by simp))];simp[Instr.slice,run_underlying bP,pG,kG f1,f2,Addr.add_lit]
     refine⟨_,w,F,S,run,h,.inl ⟨rfl,(aF.b_ rfl).2 ⟨rfl,?_⟩⟩⟩;simp only[bZ,gX];rw[ar];by_cases Nr:cap=a
     .have WQ:b=a:=by omega
      subst WQ;have Aa:(xs.take b).drop b=[]:=by simp
      rw[if_pos Nr];rw[Aa]at C_⊢;rw[aW]at C_;subst C_;exact .inr ⟨jS,o,cap-b,[],sz,by simp,h1,zero_le _,by omega,by simp,λj c bo=>by simp at bo,by rw[aW]⟩
     .rw[if_neg Nr];exact .inr ⟨jS,_,cap-a,d2,sz,by rw[hlen],h1,by rw[hlen];omega,by omega,mem,jQ,C_⟩
   .cases he
  .cases he
 .rename_i e y q hk;split at he
  .rename_i sz xs ae;split at he
   .rename_i b bg R;split at he
    .rename_i Da;split at he
     .rename_i ht s2 aL;simp only[some.injEq,Prod.mk.injEq]at he;obtain⟨rfl,rfl⟩:=he;obtain⟨i,d,z,aI,aM,aP,bK,cg,bP,bL⟩:=bb.info (fQ hk (by simp));rw[hk]at bL;have:=mj bL;subst this;obtain⟨rl,bf,rm,f1,f2,f3,f4,f5,f6,f7⟩:=bb.info Da.2;have vk:ht= .ah sz xs:=by
       simp only[cy,ae,I.plain]at aL;simp at aL;exact aL.1.symm
      subst vk;obtain⟨bR,g0,g1,g2,Sn,g3,g4,g5,g6,g7,g8⟩:=rj h rfl aD aL;rw[e_ g2,ar]at g3;rcases g3 with⟨rfl,a0,kI⟩|⟨jS,cap,cur,fA,fr,aJ,kI,bT,b2,dm,de,e5,dJ,jy,cM,nA,mn⟩
      .simp at kI;subst kI;have gR:b=0:=by simpa using Da.1
       subst gR;have pG:=xq (P:=C.P) (isS:=true) (len:=0) (cap:=0) lb nz bg R (Nat.le_refl _) (Nat.le_refl _) (Nat.le_refl _);refine⟨.slice a0 0 0,w,F,bR,?_,g0,.inr ⟨rfl,rfl,λ_=>False,by simp only[bZ,gX];rw[ar];exact .inl ⟨rfl,_,rfl⟩,λ_ h=>h.elim,λ_ h=>h.elim,λ_ _ h=>h.elim,λ_ h=>h.elim⟩⟩;rw[xr bb (xt hk (by simp) (by simp))];cases a0<;>simp[Instr.slice,run_underlying bP,pG,kG f1,f2]
      .simp at kI;subst kI;have pG:=xq (P:=C.P) (isS:=true) (len:=xs.length) (cap:=cap) lb nz bg R (zero_le _) (Nat.le_trans Da.1 de) de;have hlen:(xs.take b).length=b:=by simp;omega
       have run:(Instr.sliceAt T (.slice (some ⟨jS,0,none⟩) xs.length cap) vo vp none).run C.P w= .ok (.slice (some ⟨jS,0,none⟩) b cap) w:=by
        rw[xr bb (xt hk (by simp) (by simp))];simp[Instr.slice,run_underlying bP,pG,kG f1,f2,Addr.add_lit]
       refine⟨_,w,F,bR,run,g0,.inr ⟨rfl,rfl,Sn,?_,g4,g5,g6,g7⟩⟩;simp only[bZ,gX];rw[ar];obtain⟨c1,c2,hI,gI,ai,m1,m2,m3,m4,m5⟩:=aW.split b xs _ _ cM;refine .inr ⟨jS,cap,cur,fA,fr,aJ,by rw[hlen],bT,b2,dm,by omega,e5,dJ,λd ae=>jy d (mem_of_mem_take ae),?_,nA,mn⟩;have GZ:c1.length=b*sz:=by
        rw[aW.length _ _ _ m1,u_ _ (λd ae=>jy d (mem_of_mem_take ae)),hlen]
       have:cur.toList.take ((xs.take b).length*sz)=c1:=by
        rw[hlen];have ab:b*sz<=xs.length*sz:=mul_le_mul_right _ Da.1;have:(cur.toList.take (xs.length*sz)).take (b*sz)=c1:=by rw[ai,take_left' GZ]
        rwa [take_take,Nat.min_eq_left ab]at this
       rw[this];exact aW.mono (λ_ h=>h) _ _ _ _ m3 m1
     .cases he
    .cases he
   .cases he
  .cases he
 .cases he
end
section
variable {C:bx} {w0 w:World} {F0 X F:Nat->Prop} {S:Nat->Nat->Prop} {s s1:an} {au:Nat->Value} {av:I}
def Src (P:Program) (w:World) (size:Nat) (x:Value) (m:Nat) (news:anX):Prop:=
 ∀aq:World,aq.heap=w.heap->(Builtin.lenOf x).run P aq= .ok m aq/\(Builtin.firstCells size m x).run P aq= .ok news.toArray aq
def G0 (d:TypeDesc):Prop:=(∃e,d= .slice e)\/d= .string
theorem WR {P:Program} {T b5 ty e:TypeId} {sy:TypeDesc} {i:TypeInfo} (aL:P.underlying T=some (.slice e)) (hu:P.underlying b5=some sy) (vq:G0 sy) (ak:P.info? e=some i)
  {x:Value} {m:Nat} {news:anX} (Db:Src P w i.size x m news) {b n cap:Nat} {cur:Array Value} {fA:TypeId} {fr:Nat×Nat} {l mid r:anX} (R:w.heap[b]? =some (.cells cur fA fr)) (bc:lH fr cur.size)
  (ai:cur.toList=l++(mid++r)) (hl:l.length=n*i.size) (hm:mid.length=news.length) (jw:∀v∈news,Value.eJ v=true) (rv:n+m<=cap):
  ∃aq,(Builtin.append_ #[T,b5] ty #[.slice (some ⟨b,0,none⟩) n cap,x]).run P w= .ok (.slice (some ⟨b,0,none⟩) (n+m) cap) aq/\aq.heap[b]? =some (.cells (l++(news++r)).toArray fA fr)/\
   (∀c,c≠b->aq.heap[c]? =w.heap[c]?)/\aq.heap.size=w.heap.size/\aq.os=w.os/\aq.tape=w.tape/\Out aq w:=by
 obtain⟨aq,m1,m2⟩:=GR (P:=P) (b:=b) (o:=n*i.size) (e:=fA) (fr:=fr) news 0 cur w l mid r R bc ai (by omega) hm jw;refine⟨aq,?_,m2⟩;obtain⟨h1,ab⟩:=Db w rfl;rcases vq with⟨gC,rfl⟩|rfl<;>simp[Builtin.append_,run_underlying aL,run_underlying hu,kG ak,h1,ab,rv,Addr.add_lit,m1]
theorem WS {P:Program} {T b5 ty e:TypeId} {sy:TypeDesc} {i:TypeInfo} {z:Value} (aL:P.underlying T=some (.slice e)) (hu:P.underlying b5=some sy) (vq:G0 sy) (ak:P.info? e=some i) (bC:i.zero=some z)
  {x:Value} {m:Nat} {news:anX} (Db:Src P w i.size x m news) {base:Option Addr} {n cap:Nat} {qo:anX} (hold:Src P w i.size (.slice base n cap) n qo) (rv:¬n+m<=cap)
  (aN:n+m<=9223372036854775807) (G1:(n+m)*i.bytes<=140737488355328):
  (Builtin.append_ #[T,b5] ty #[.slice base n cap,x]).run P w= .ok (.slice (some ⟨w.heap.size,0,none⟩) (n+m) (grownCap w (n+m) cap e))
   (w.drew.alloc (.cells (qo.toArray++news.toArray++Builtin.zeroCells z.cells (grownCap w (n+m) cap e-(n+m))) e)):=by
 have h1:=(Db w rfl).1;have ab:=(Db w.drew rfl).2;have ay:=(hold w.drew rfl).2;have xv:=growslice_fits (need:=n+m) (old:=cap) (by omega) G1;have h0:¬(281474976710656<Builtin.nextslicecap (n+m) cap*i.bytes):=by omega
 have xw:∀k (w:World),(askRoom k).run P w= .ok () w:=by
  intro k w;unfold askRoom;split<;>rfl
 have G2:¬(9223372036854775807<(n:Int)+(m:Int)/\i.bytes=0):=by omega
 rcases vq with⟨gC,rfl⟩|rfl<;>
  .simp[Builtin.append_,run_underlying aL,run_underlying hu,kG ak,ve ak,h1,rv,h0,Question.forced,xw];rw[if_neg G2,ay];simp[ab,vf ak bC,newRow,grownCap];have aI:(qo++news).toArray=qo.toArray++news.toArray:=by simp
   rw[aI,Array.append_assoc]
def Dc (C:bx) (e b5:TypeId):Bool:=match(C.T b5).k,(C.T e).k with
 | .slice gC,_=>gC==e
 | .str,.int .u8=>true
 |_,_=>false
def sA (C:bx) (s:an) (T b5:TypeId) (x y:I):Option (I×an):=
 match(C.T T).k with
 | .slice e=>if(C.T e).ok=true/\(C.T e).zero.wd=(C.T e).sz/\(flat (C.T e).zero).isSome=true/\Dc C e b5=true then
   match(match x with| .bd=>some (I.ah (C.T e).sz [],s)| .h a q=>cy s (.h a q)|_=>none)with
   |some (.ah sz xs,s1)=>if sz=(C.T e).sz then
     match(match k9 x.owner y with
      | .bd=>some ([],s1)
      | .slice ys=>some (ys,s1)
      | .str l=>some (l.map hv,s1)
      | .h a q=>match cy s1 (.h a q)with
        |some (.ah _ ys,s2)=>some (ys,s2)
        |_=>none
      |_=>none)with
     |some (ys,s2)=>if(∀d∈ys,d.wd=(C.T e).sz)/\(xs.length+ys.length)*(C.T e).bytes<=140737488355328/\xs.length+ys.length<=9223372036854775807 then some (.ah sz (xs++ys),s2)else none
     |none=>none
    else none
   |_=>none
   else none
 |_=>none
theorem aW.append {xs ys:anZ} {c1 c2:anX} {bR cH aJ:Nat->Prop} (h1:aW w F xs c1 bR) (ab:aW w F ys c2 cH) (aI:∀b,bR b->aJ b) (aM:∀b,cH b->aJ b) (aP:∀b,bR b->¬cH b):aW w F (xs++ys) (c1++c2) aJ:=by
 induction xs generalizing c1 bR aJ with
 |nil=>rw[aW]at h1;subst h1;exact aW.mono (λ_ h=>h) _ _ _ _ aM ab
 |cons x xs ih=>
  rw[aW]at h1;obtain⟨WT,WU,hI,gI,rfl,g1,g2,g3,g4,g5⟩:=h1;rw[cons_append,aW];refine⟨WT,WU++c2,hI,λb=>gI b\/cH b,by simp,g1,ih g2 (λb h=>.inl h) (λb h=>.inr h) (λb h=>aP b (g4 b h)),λb h=>aI b (g3 b h),?_,?_⟩
  .rintro b (h|h)
   .exact aI b (g4 b h)
   .exact aM b h
  .rintro b h (bn|bn)
   .exact g5 b h bn
   .exact aP b (g3 b h) bn
theorem G3 {P:Program} {size m cap:Nat} {b o:Nat} {news:anX} (jQ:Rd w b o news) (hl:news.length=m*size):Src P w size (.slice (some ⟨b,o,none⟩) m cap) m news:=by
 intro aq hw;refine⟨rfl,?_⟩;refine run_firstCells_some aq size m ⟨b,o,none⟩ m cap news hl (λj v bo=>?_);rw[Addr.add_lit];have:=jQ j v bo;simpa [World.cell?,hw]using this
theorem Ns {P:Program} {size cap:Nat}:Src P w size (.slice none 0 cap) 0 []:=by
 intro aq _;exact⟨rfl,by simp[Builtin.firstCells]⟩
theorem G4 {P:Program} {size cap:Nat} (a:Option Addr):Src P w size (.slice a 0 cap) 0 []:=by
 cases a with
 |none=>exact Ns
 |some a=>
  intro aq _;exact⟨rfl,run_firstCells_some aq size 0 a 0 cap [] (by simp) (λj v bo=>by simp at bo)⟩
theorem WV {P:Program} (l:anR):Src P w 1 (.string ⟨⟨l⟩⟩) l.length (l.map λb=>.int .u8 (b.toNat:Int)):=by
 intro aq _;refine⟨rfl,?_⟩;have:(⟨⟨l⟩⟩:ByteArray).extract 0 l.length=⟨⟨l⟩⟩:=by
  apply ByteArray.ext;simp[ByteArray.data_extract]
 simp[Builtin.firstCells,this]
theorem aW.vr {sz:Nat} {xs:anZ} {cs:anX} {aJ:Nat->Prop} (h:aW w F xs cs aJ) (hw:∀d∈xs,d.wd=sz):cs.length=xs.length*sz:=by
 rw[aW.length _ _ _ h,u_ _ hw]
theorem bq.turn (h:bq w0 F0 X F S s au w) {aq:World} {b:Nat} (R:∀c,c≠b->aq.heap[c]? =w.heap[c]?) (U:aq.heap.size=w.heap.size) (h1:aq.os=w.os) (ab:aq.tape=w.tape) (ay:Out aq w)
  (a8:¬F b) (bE:∀u,¬S u b) (ba:X b\/w0.heap.size<=b):bq w0 F0 X F S s au aq where
 fl:=h.fl
 fL:=h.fL
 dV:=λc ai=>by rw[U];exact h.dV c ai
 dh:=λt c ai=>by rw[U];exact h.dh t c ai
 ep:=h.ep
 ev:=h.ev
 cR:=h.cR
 cD:=λt=>aF.frame (Sx:=S) (λc ai=>R c (by rintro rfl;exact a8 ai)) (λ_ h=>h) (λx c ai=>R c (by rintro rfl;exact bE x ai)) h.cD _ _ _ (λc ai=>R c (by rintro rfl;exact bE t ai)) (h.cD t)
 old:=λc cp iQ=>by
  rw[R c ?_]
  .exact h.old c cp iQ
  .rintro rfl;rcases ba with ba|ba
   .exact iQ ba
   .omega
 size:=by rw[U];exact h.size
 os:=h1.trans h.os
 tape:=ab.trans h.tape
 output:=ay.trans h.output
 e4:=h.e4
theorem WW (bb:C.Ok) (h:bq w0 F0 X F S s au w) {T b5 ty:TypeId} {x y:I} {el hs:Value} (ag:aF w F s au x el (λ_=>False)) (hy:aF w F s au y hs (λ_=>False))
  (he:sA C s T b5 x y=some (av,s1)):Good C w0 F0 X au w (Builtin.append_ #[T,b5] ty #[el,hs]) av s1:=by
 unfold sA at he;split at he
 .rename_i e hk;obtain⟨G5,d,G6,aI,aM,aP,bK,cg,bP,bL⟩:=bb.info (fQ hk (by simp));rw[hk]at bL;have:=mj bL;subst this;split at he
  .rename_i vh;obtain⟨qn,ry,sB,rz⟩:=vh;obtain⟨i,G7,z,f1,f2,f3,f4,f5,f6,f7⟩:=bb.info qn;obtain⟨fa,ov⟩:=isSome_iff_exists.1 sB;have sC:=f5 fa ov;have qp:fa.length=(C.T e).sz:=by
    have:=ar.length _ _ _ ((ar.flat (w:=w) (F:=F) _).1 (C.T e).zero fa (λ_=>False) (Nat.le_refl _) ov);rw[this,ry]
   obtain⟨sy,hu,vq⟩:∃sy,C.P.underlying b5=some sy/\G0 sy:=by
    unfold Dc at rz;split at rz
    .rename_i gC j8;obtain⟨_,bf,_,_,_,_,_,_,g6,g7⟩:=bb.info (fQ j8 (by simp));rw[j8]at g7;exact⟨bf,g6,.inl ⟨_,mj g7⟩⟩
    .rename_i j8 _;obtain⟨_,bf,_,_,_,_,_,_,g6,g7⟩:=bb.info (fQ j8 (by simp));rw[j8]at g7;exact⟨bf,g6,.inr (rk g7)⟩
    .cases rz
   split at he
   .rename_i sz xs Nt vt;split at he
    .rename_i dr;subst dr;split at he
     .rename_i ys Dd pH;split at he
      .rename_i xx;obtain⟨xy,G1,tH⟩:=xx;simp only[some.injEq,Prod.mk.injEq]at he;obtain⟨rfl,rfl⟩:=he;obtain⟨hI,a0,Sn,a3,a4,a5,rr,ru,ami,a9,tI⟩:∃hI,bq w0 F0 X F hI Nt au w/\∃Sn,ar w F (.ah (C.T e).sz xs) [el] Sn/\(∀b,Sn b->b<w.heap.size)/\(∀b,Sn b->¬F b)/\(∀u b,Sn b->¬hI u b)/\
         (∀b,Sn b->X b\/w0.heap.size<=b)/\(∀u b,hI u b->S u b)/\(∀b,Sn b->∃u,S u b)/\aF w F Nt au (k9 x.owner y) hs (λ_=>False):=by
        split at vt
        .simp only[some.injEq,Prod.mk.injEq,I.ah.injEq,true_and]at vt;obtain⟨rfl,rfl⟩:=vt;have:=sv ag;subst this;exact⟨S,h,λ_=>False,by rw[ar];exact .inl ⟨rfl,_,rfl⟩,λ_ h=>h.elim,λ_ h=>h.elim,λ_ _ h=>h.elim,λ_ h=>h.elim,λ_ _ h=>h,λ_ h=>h.elim,hy⟩
        .obtain⟨bR,g0,g1,g2,Sn,g3,g4,g5,g6,g7,g8,g9,g10⟩:=rj h rfl ag vt;rw[e_ g2]at g3;exact⟨bR,g0,Sn,g3,g4,g5,g6,g7,g8,g9,g10 _ _ _ hy⟩
        .cases vt
       obtain⟨gI,jS,oZ,news,ik,gJ,iT,cw,dt,eD,sD,cS⟩:∃gI,bq w0 F0 X F gI Dd au w/\∃oZ news,aW w F ys news oZ/\Src C.P w i.size hs ys.length news/\(∀b,oZ b->b<w.heap.size)/\(∀b,oZ b->¬F b)/\(∀u b,oZ b->¬gI u b)/\
         (∀b,oZ b->X b\/w0.heap.size<=b)/\(∀u b,gI u b->hI u b)/\(∀b,oZ b->∃u,hI u b):=by
        split at pH
        .rename_i vu;simp only[some.injEq,Prod.mk.injEq]at pH;obtain⟨rfl,rfl⟩:=pH;rw[vu]at tI;have:=sv tI;subst this;exact⟨hI,a0,λ_=>False,[],by rw[aW],Ns,λ_ h=>h.elim,λ_ h=>h.elim,λ_ _ h=>h.elim,λ_ h=>h.elim,λ_ _ h=>h,λ_ h=>h.elim⟩
        .rename_i dX vu;simp only[some.injEq,Prod.mk.injEq]at pH;obtain⟨rfl,rfl⟩:=pH;rw[vu]at tI;rcases C9 tI with⟨rfl,xu,WX,rfl,_,vi⟩|⟨b,o,cap,eh,WY,rfl,bT,b2,dm,de,e5,dJ⟩
         .exact⟨hI,a0,λ_=>False,[],by rw[aW],G4 xu,λ_ h=>h.elim,λ_ h=>h.elim,λ_ _ h=>h.elim,λ_ h=>h.elim,λ_ _ h=>h,λ_ h=>h.elim⟩
         .exact⟨hI,a0,λ_=>False,eh,dJ,G3 e5 (by rw[f2];exact aW.vr dJ xy),λ_ h=>h.elim,λ_ h=>h.elim,λ_ _ h=>h.elim,λ_ h=>h.elim,λ_ _ h=>h,λ_ h=>h.elim⟩
        .rename_i l vu;simp only[some.injEq,Prod.mk.injEq]at pH;obtain⟨rfl,rfl⟩:=pH;rw[vu]at tI;have:=nx tI;subst this;have De:l≠[]->i.size=1:=by
          intro hl;cases l with
          |nil=>exact(hl rfl).elim
          |cons b l=>rw[f2,<-xy (hv b) (by simp)];rfl
         by_cases hl:l=[]
         .subst hl;refine⟨hI,a0,λ_=>False,[],by simp only[map_nil];rw[aW],?_,λ_ h=>h.elim,λ_ h=>h.elim,λ_ _ h=>h.elim,λ_ h=>h.elim,λ_ _ h=>h,λ_ h=>h.elim⟩;intro aq _;exact⟨rfl,by simp[Builtin.firstCells,ByteArray.extract];rfl⟩
         .refine⟨hI,a0,λ_=>False,_,Nl l _,?_,λ_ h=>h.elim,λ_ h=>h.elim,λ_ _ h=>h.elim,λ_ h=>h.elim,λ_ _ h=>h,λ_ h=>h.elim⟩;rw[De hl,length_map];exact WV l
        .rename_i a q vu;split at pH
         .rename_i amj dX s2 aL;simp only[some.injEq,Prod.mk.injEq]at pH;obtain⟨rfl,rfl⟩:=pH;rw[vu]at tI;obtain⟨cH,g0,g1,g2,oZ,g3,g4,g5,g6,g7,g8,g9,g10⟩:=rj a0 rfl tI aL;rw[e_ g2,ar]at g3;rcases g3 with⟨rfl,WZ,kI⟩|⟨b,cap,cur,fA,fr,aJ,kI,bT,b2,dm,de,e5,dJ,jy,cM,nA,mn⟩
          .simp at kI;subst kI;exact⟨cH,g0,λ_=>False,[],by rw[aW],(G4 WZ),λ_ h=>h.elim,λ_ h=>h.elim,λ_ _ h=>h.elim,λ_ h=>h.elim,g8,λ_ h=>h.elim⟩
          .simp at kI;subst kI;refine⟨cH,g0,aJ,_,cM,G3 (xk b2 _) ?_,λc ai=>g4 c (nA c ai),λc ai=>g5 c (nA c ai),λu c ai=>g6 u c (nA c ai),λc ai=>g7 c (nA c ai),g8,λc ai=>g9 c (nA c ai)⟩;rw[f2];exact aW.vr cM xy
         .cases pH
        .cases pH
       have tJ:news.length=ys.length*(C.T e).sz:=aW.vr ik xy;have pI:∀c,Sn c->¬oZ c:=λc h1 ab=>by obtain⟨u,hu⟩:=cS c ab;exact rr u c h1 hu
       have nt:∀u c,Sn c->¬gI u c:=λu c h1 ab=>rr u c h1 (sD u c ab);have grow:∀(base:Option Addr) (cap:Nat) (qo:anX) (Sx:Nat->Prop),el= .slice base xs.length cap->Src C.P w i.size (.slice base xs.length cap) xs.length qo->aW w F xs qo Sx->(∀d∈xs,d.wd=(C.T e).sz)->(∀c,Sx c->Sn c)->¬xs.length+ys.length<=cap->
         Good C w0 F0 X au w (Builtin.append_ #[T,b5] ty #[el,hs]) (.ah (C.T e).sz (xs++ys)) Dd:=by
        intro base cap qo Sx GS hold Nu Nv eV rv;subst GS;have ax:=WS (ty:=ty) bP hu vq f1 f4 gJ hold rv tH (by rw[f3];exact G1);have vn:=grownCap_ge w (xs.length+ys.length) cap e;have z_:=grownCap_le_maxLen w (xs.length+ys.length) cap e (by unfold maxLen;omega);have iU:=aW.vr Nu Nv;have W0:aW w F (xs++ys) (qo++news) (λc=>Sx c\/oZ c):=aW.append Nu ik (λ_ h=>.inl h) (λ_ h=>.inr h) (λc h1 ab=>pI c (eV c h1) ab);have W1:(qo++news).length=(xs++ys).length*(C.T e).sz:=by simp[iU,tJ,Nat.add_mul]
        have lK:=jS.z1 (aq:=w.drew.alloc (.cells (qo.toArray++news.toArray++Builtin.zeroCells z.cells (grownCap w (xs.length+ys.length) cap e-(xs.length+ys.length))) e))
         (sz:=(C.T e).sz) (cap:=grownCap w (xs.length+ys.length) cap e) (xs:=xs++ys) (e:=e) (fr:=(0,0)) (Sn:=λc=>Sx c\/oZ c) rfl rfl rfl ⟨rfl,λ_=>le_succ _⟩
         (λo _ ⟨_,ab⟩=>absurd ab (not_lt_zero _)) (by simpa using vn) z_
         (by
          simp only[Array.size_append,List.size_toArray,size_zeroCells,sC,iU,tJ,qp,<-Nat.add_mul];congr 1;omega)
         (by
          intro d ae;rcases mem_append.1 ae with ae|ae
          .exact Nv d ae
          .exact xy d ae)
         (by
          simp only[Array.toList_append];rw[take_left' W1];exact W0)
         (by rintro c (ai|ai);exact a4 c (eV c ai);exact iT c ai) (by rintro c (ai|ai);exact a5 c (eV c ai);exact cw c ai) (by rintro u c (ai|ai);exact nt u c (eV c ai);exact dt u c ai) (by rintro c (ai|ai);exact ru c (eV c ai);exact eD c ai)
        refine⟨_,_,F,gI,ax,lK.1,?_⟩;have:=lK.2;simpa using this
       rw[ar]at a3;rcases a3 with⟨rfl,Df,kI⟩|⟨b,cap,cur,fA,fr,aJ,kI,bT,b2,dm,de,e5,dJ,jy,cM,nA,mn⟩
       .simp at kI;subst kI;by_cases Nw:ys=[]
        .subst Nw;have vv:news=[]:=by simpa using tJ
         subst vv;refine⟨.slice Df 0 0,w,F,gI,?_,jS,.inr ⟨rfl,rfl,λ_=>False,by simp only[bZ,gX];rw[ar];exact .inl ⟨rfl,_,rfl⟩,λ_ h=>h.elim,λ_ h=>h.elim,λ_ _ h=>h.elim,λ_ h=>h.elim⟩⟩;obtain⟨h1,ab⟩:=gJ w rfl;cases Df<;>rcases vq with⟨gC,rfl⟩|rfl<;>simp at h1 ab<;>simp[Builtin.append_,run_underlying bP,run_underlying hu,kG f1,h1,ab,storeCells]
        .exact grow Df 0 [] (λ_=>False) rfl (G4 Df) (by rw[aW]) (by simp) (λ_ h=>h.elim) (by
          cases ys with
          |nil=>exact(Nw rfl).elim
          |cons y ys=>simp)
       .simp at kI;subst kI;by_cases rv:xs.length+ys.length<=cap
        ·
         have iU:=aW.vr cM jy;have hlen:cur.toList.length=cap*(C.T e).sz:=by simp[dJ]
         have hle:(xs.length+ys.length)*(C.T e).sz<=cap*(C.T e).sz:=mul_le_mul_right _ rv;rw[Nat.add_mul]at hle;have k5:cur.toList=cur.toList.take (xs.length*(C.T e).sz)++((cur.toList.drop (xs.length*(C.T e).sz)).take news.length++(cur.toList.drop (xs.length*(C.T e).sz)).drop news.length):=by
          rw[take_append_drop,take_append_drop]
         obtain⟨aq,m1,m2,m3,m4,m5,m6,m7⟩:=WR (ty:=ty) (n:=xs.length) (m:=ys.length) (cap:=cap) bP hu vq f1 gJ b2 dm.low k5 (by rw[f2];exact iU) (by simp[hlen,tJ];omega) (aW.mP _ _ _ ik) rv;have W2:=jS.turn m3 m4 m5 m6 m7 (a5 b bT) (λu hu=>nt u b bT hu) (ru b bT);have rh:∀c,F c->aq.heap[c]? =w.heap[c]? :=λc ai=>m3 c (by rintro rfl;exact a5 _ bT ai);refine⟨_,aq,F,gI,m1,W2,.inr ⟨rfl,rfl,λc=>Sn c\/oZ c,?_,?_,?_,?_,?_⟩⟩
         .simp only[bZ,gX];rw[ar];have Nx:(cur.toList.take (xs.length*(C.T e).sz)++(news++(cur.toList.drop (xs.length*(C.T e).sz)).drop news.length)).toArray.size=cur.size:=by
           have:cur.size=cur.toList.length:=by simp
           rw[this];conv=>rhs;rw[k5]
           simp[hlen,tJ];omega
          refine .inr ⟨b,cap,_,fA,fr,λc=>aJ c\/oZ c,by simp,.inl bT,m2,by rw[Nx];exact dm,by simpa using rv,e5,by rw[Nx];exact dJ,?_,?_,?_,?_⟩
          .intro d ae;rcases mem_append.1 ae with ae|ae
           .exact jy d ae
           .exact xy d ae
          .have tG:=aW.frame rh _ _ _ (λc ai=>m3 c (by rintro rfl;exact mn ai)) cM;have vd:=aW.frame rh _ _ _ (λc ai=>m3 c (by rintro rfl;exact pI _ bT ai)) ik;have:((cur.toList.take (xs.length*(C.T e).sz)++(news++(cur.toList.drop (xs.length*(C.T e).sz)).drop news.length)).toArray.toList.take ((xs++ys).length*(C.T e).sz))=cur.toList.take (xs.length*(C.T e).sz)++news:=by
            simp only[];rw[<-append_assoc];exact take_left' (by rw[length_append,iU,tJ,length_append,Nat.add_mul])
           rw[this];exact aW.append tG vd (λ_ h=>.inl h) (λ_ h=>.inr h) (λc h1 ab=>pI c (nA c h1) ab)
          .rintro c (ai|ai)
           .exact .inl (nA c ai)
           .exact .inr ai
          .rintro(ai|ai)
           .exact mn ai
           .exact pI b bT ai
         .rw[m4];rintro c (ai|ai);exact a4 c ai;exact iT c ai
         .rintro c (ai|ai);exact a5 c ai;exact cw c ai
         .rintro u c (ai|ai);exact nt u c ai;exact dt u c ai
         .rintro c (ai|ai);exact ru c ai;exact eD c ai
        .exact grow (some ⟨b,0,none⟩) cap _ aJ rfl (G3 (xk b2 _) (by rw[f2];exact aW.vr cM jy)) cM jy nA rv
      .cases he
     .cases he
    .cases he
   .cases he
  .cases he
 .cases he
end
section
variable {C:bx} {w0 w aq:World} {F0 X F:Nat->Prop} {S:Nat->Nat->Prop} {s s1:an} {au:Nat->Value} {av:I}
theorem bq.W3 (h:bq w0 F0 X F S s au w) {x:Nat} {q:anU} {d bf:I} {b:Nat} (ae:I.sub q (s x)=some d) (al:d.plain=false) (G8:bf.tree=true) (h1:∀v,ie d v->ie bf v) (U:∀v,c7 d v->c7 bf v)
  (ab:∀vs,bf≠.tuple vs) (k6:bf.wd=d.wd) (R:∀cx a fg,c6 w q (s x) (bZ (au x)) none=some (d,cx,a)->ar w F d cx fg->fg b/\ar aq F bf cx fg) (mO:∀c,c≠b->aq.heap[c]? =w.heap[c]?) (dr:aq.heap.size=w.heap.size) (oU:aq.os=w.os)
  (GH:aq.tape=w.tape) (vb:Out aq w):∃aJ,bq w0 F0 X F aJ (cK (hM x s) x (I.put q bf (s x))) au aq:=by
 have aL:=hL ae (.inl al);have ag:=h.cD x;rw[aF.b_ aL]at ag;obtain⟨cx,a,dI,fg,g0,g1,g2,g3,g4,g5⟩:=ctx q (s x) (bZ (au x)) (S x) none d ag.2 ae;obtain⟨vc,aD⟩:=R cx a fg g0 g4;have rA:S x b:=g2 b vc;have rh:∀c,F c->aq.heap[c]? =w.heap[c]? :=λc ai=>mO c (by rintro rfl;exact h.ep x _ rA ai);have tD:∀c,dI c->c≠b:=λc ai e=>g3 c ai (e▸vc);have j4:ar aq F (I.put q bf (s x)) (bZ (au x)) (λc=>dI c\/fg c):=by
  rcases g5 with⟨l,r,aI,aM,aP⟩|⟨jS,cur,e,fr,l,r,aI,aM,aP,bK,cg,bP⟩
  .rw[aI];exact aP aq bf cx fg rh (λc ai=>mO c (tD c ai)) k6 aD (λc ai og=>g3 c og ai)
  .refine bP aq bf cx fg rh (λc ai _=>mO c (tD c ai)) ?_ k6 aD (λc ai og=>g3 c og ai);rw[mO jS (tD jS aM),aP,<-cg]
 have zP:c7 (I.put q bf (s x)) (au x)/\(I.put q bf (s x)).tree=true:=by
  cases q with
  |nil=>
   simp only[I.sub,some.injEq]at ae;simp only[I.put];exact⟨U _ (ae▸ag.1),G8⟩
  |cons k q=>
   refine⟨zO ag.1 ae h1 (λ_=>ab) k6,?_⟩;rcases tC k q bf (s x)with⟨aC,gs,aI,e⟩|⟨aC,gs,aI,e⟩|⟨sz,xs,ys,aI,e⟩|⟨y,z,aI,e⟩|e<;>rw[e]<;>first|rfl|exact aL
 let aA:=cK (hM x s) x (I.put q bf (s x))
 have gY:∀y,y≠x->(aA y).tree=true->aA y=s y/\au y=au y:=λy hy aL=>by
  have e:aA y=cC.b4 x (s y):=ju _ _ hy;rw[e]at aL⊢;exact⟨(CX aL).2,rfl⟩
 have fO:(aA x).plain=false->(s x).plain=false/\∀v,c7 (s x) v->c7 (aA x) v:=by
  intro _;refine⟨?_,λv aD=>?_⟩
  .cases cb:(s x).plain with
   |false=>rfl
   |true=>rw[I.Gw _ _ _ cb ae]at al;cases al
  .simp only[aA,nv];cases q with
   |nil=>
    simp only[I.sub,some.injEq]at ae;simp only[I.put];exact U _ (ae▸aD)
   |cons k q=>exact zO aD ae h1 (λ_=>ab) k6
 have both:∀c,(dI c\/fg c)->S x c:=λc ai=>ai.elim (g1 c) (g2 c);refine⟨fY S x (λc=>dI c\/fg c),?_⟩;constructor;case fl=>exact h.fl
 case fL=>exact h.fL
 case dV=>exact λb R=>by rw[dr];exact h.dV b R
 case dh=>
  intro u c R;rw[dr];simp only[fY]at R;split at R
  .exact h.dh x c (both c R)
  .exact h.dh u c R
 case ep=>
  intro u c R;simp only[fY]at R;split at R
  .exact h.ep x c (both c R)
  .exact h.ep u c R
 case ev=>
  intro u y c cI R hy;simp only[fY]at R hy;split at R
  .rename_i hu;rw[if_neg (λe=>cI (hu.trans e.symm))]at hy;exact h.ev x y c (λe=>cI (hu.trans e)) (both c R) hy
  .rename_i hu;split at hy
   .exact h.ev u x c hu R (both c hy)
   .exact h.ev u y c cI R hy
 case cR=>
  intro u c R;simp only[fY]at R;split at R
  .exact h.cR x c (both c R)
  .exact h.cR u c R
 case cD=>
  intro u;by_cases hu:u=x
  .subst hu;rw[nv,zM];exact(aF.b_ zP.2).2 ⟨zP.1,j4⟩
  .rw[ju _ _ hu,zN _ _ hu];have cI:∀y c,y≠x->S y c->aq.heap[c]? =w.heap[c]? :=λy c hy ai=>mO c (by rintro rfl;exact h.ev y x c hy ai rA);refine(aF.b4 gY rfl fO (λy eB d2 hy fP ri=>?_) rh _).1 _ _ _ (Nat.le_refl _) (λc ai=>cI u c hu ai) (h.cD u);have zQ:=h.cD y;rw[aF.b_ (hL fP ri)]at zQ;exact CW eB _ _ _ none d2 zQ.2 fP (λc ai=>cI y c hy ai)
 case old=>
  intro c cp iQ;rw[mO c ?_]
  .exact h.old c cp iQ
  .rintro rfl;rcases h.cR x c rA with ba|ba
   .exact iQ ba
   .omega
 case size=>rw[dr];exact h.size
 case os=>exact oU.trans h.os
 case tape=>exact GH.trans h.tape
 case output=>exact vb.trans h.output
 case e4=>exact h.e4
def Ny (P:Program) (t:TypeId):Bool:=match P.info? t with
 |some i=>match i.zero with
  |some (.bool false)=>true
  |_=>false
 |none=>false
def tK (C:bx) (T:TypeId):Bool:=match(C.T T).k with
 | .map qq h3=>match(C.T qq).k with
   | .str=>Ny C.P h3
   |_=>false
 |_=>false
def il (C:bx) (s:an) (T:TypeId) (x i:I):Option I:=match x,i with
 | .h y q,.str k=>match I.sub q (s y)with
   |some (.cc (.mp m))=>if tK C T=true then some (.bool (kE k m))else none
   |_=>none
 |_,_=>none
def jz (C:bx) (s:an) (T:TypeId) (x i v:I):Option an:=match x,i,v with
 | .h y q,.str k,.bool b=>match I.sub q (s y)with
   |some (.cc (.mp m))=>if tK C T=true then some (cK (hM y s) y (I.put q (.cc (.mp (kF k b m))) (s y)))else none
   |_=>none
 |_,_,_=>none
theorem Nz (bb:C.Ok) {T:TypeId} (h:tK C T=true):∃qq h3,C.P.underlying T=some (.map qq h3)/\C.P.underlying qq=some .string/\∀w,(zeroValue h3).run C.P w= .ok (.bool false) w:=by
 unfold tK at h;split at h
 .rename_i qq h3 hk;split at h
  .rename_i h1;obtain⟨i,d,z,aI,aM,aP,bK,cg,bP,bL⟩:=bb.info (fQ hk (by simp));obtain⟨rl,bf,rm,f1,f2,f3,f4,f5,f6,f7⟩:=bb.info (fQ h1 (by simp));rw[hk]at bL;rw[h1]at f7;have:=rk f7;subst this;refine⟨qq,h3,?_,f6,λw=>?_⟩
   .rw[bP];cases d<;>simp[mh]at bL;rw[bL.1,bL.2]
   .unfold Ny at h;split at h
    .rename_i i2 g1;split at h
     .rename_i g2;exact vf g1 g2 w
     .cases h
    .cases h
  .cases h
 .cases h
theorem G9 (a b:ByteArray):(a==b)=true↔a=b:=by
 constructor
 .intro h;exact ByteArray.ext (eq_of_beq (show(a.data==b.data)=true from h))
 .rintro rfl;show(a.data==a.data)=true;simp
theorem G_ (k:anR) (b:Bool):∀(es:List MapEntry) (m:anP) (i:Nat),es.map (λe=>(e.key,e.val))=m.map (λe=>(.string ⟨⟨e.1⟩⟩,.bool e.2))->
  (Instr.findNow .string (.string ⟨⟨k⟩⟩) es i=some none/\kE k m=false/\kF k b m=m++[(k,b)])\/
  ∃j e,es[j]? =some e/\e.key= .string ⟨⟨k⟩⟩/\Instr.findNow .string (.string ⟨⟨k⟩⟩) es i=some (some (i+j,.bool (kE k m)))/\kF k b m=m.set j (k,b)
 |[],m,i,h=>by
  have:m=[]:=by simpa using h.symm
  subst this;exact .inl ⟨rfl,rfl,rfl⟩
 |e::es,[],i,h=>by simp at h
 |e::es,(da,e8)::m,i,h=>by
  simp only[map_cons,cons.injEq,Prod.mk.injEq]at h;obtain⟨⟨h1,ab⟩,ay⟩:=h;by_cases hk:da=k
  .subst hk;refine .inr ⟨0,e,rfl,h1,?_,by simp[kF]⟩;have:(((⟨⟨da⟩⟩:ByteArray)==⟨⟨da⟩⟩))=true:=(G9 _ _).2 rfl;simp only[Instr.findNow,h1,ab,Instr.sameNow,kE,this,if_true,Nat.add_zero]
  .have aN:((⟨⟨k⟩⟩:ByteArray)==⟨⟨da⟩⟩)=false:=by
    refine Bool.eq_false_iff.2 λe=>hk ?_;have:=(G9 _ _).1 e;simp only[ByteArray.mk.injEq,Array.mk.injEq]at this;exact this.symm
   rcases G_ k b es m (i+1) ay with⟨g1,g2,g3⟩|⟨j,gC,g1,g2,g3,g4⟩
   .refine .inl ⟨?_,?_,?_⟩
    .simp only[Instr.findNow,h1,Instr.sameNow,aN];exact g1
    .simp[kE,hk,g2]
    .simp[kF,hk,g3]
   .refine .inr ⟨j+1,gC,g1,g2,?_,?_⟩
    .simp only[Instr.findNow,h1,Instr.sameNow,aN];rw[g3];simp[kE,hk,Nat.add_assoc,Nat.add_comm 1 j]
    .simp[kF,hk,g4]
theorem Dg {P:Program} {qq:TypeId} (hk:P.underlying qq=some .string) (e:Bool) (k:ByteArray) (w:World):(Instr.checkKey e 10000 qq (.string k)).run P w= .ok () w:=by
 unfold Instr.checkKey;simp[run_underlying hk]
theorem NA (h:bq w0 F0 X F S s au w) {y:Nat} {q:anU} {m:anP} {v:Value} (aD:aF w F s au (.h y q) v (λ_=>False)) (ae:I.sub q (s y)=some (.cc (.mp m))):
  ∃r ms oe,v= .map (some r)/\w.heap[r]? =some (.map ms oe)/\ms.toList.map (λe=>(e.key,e.val))=m.map (λe=>(.string ⟨⟨e.1⟩⟩,.bool e.2))/\
   ∃a,c6 w q (s y) (bZ (au y)) none=some (.cc (.mp m),[.map (some r)],a):=by
 rw[aF]at aD;obtain⟨cx,a,g1,g2,g3⟩:=aD _ ae rfl;have h1:Value.eJ v=true:=g3;rw[e_ h1]at g2;have ag:=h.cD y;rw[aF.b_ (hL ae (.inl rfl))]at ag;obtain⟨fI,bN,dI,fg,k0,bT,b2,dm,de,e5⟩:=ctx q (s y) (bZ (au y)) (S y) none _ ag.2 ae;rw[k0]at g1;simp only[some.injEq,Prod.mk.injEq,true_and]at g1;obtain⟨rfl,rfl⟩:=g1;rw[ar]at de;obtain⟨r,ms,oe,aI,aM,aP,bK⟩:=de;rw[aI]at g2 k0;exact⟨r,ms,oe,by simpa using g2,aP,bK,bN,k0⟩
theorem W4 (bb:C.Ok) (h:bq w0 F0 X F S s au w) {T:TypeId} {x i:I} {el pE:Value} (ag:aF w F s au x el (λ_=>False)) (ak:aF w F s au i pE (λ_=>False)) (he:il C s T x i=some av):
  Good C w0 F0 X au w (Instr.lookup T el pE false) av s:=by
 unfold il at he;split at he
 .rename_i y q k;split at he
  .rename_i m ae;split at he
   .rename_i fK;simp only[some.injEq]at he;subst he;obtain⟨qq,h3,t1,t2,t3⟩:=Nz bb fK;obtain⟨r,ms,oe,rfl,aM,aP,_⟩:=NA h ag ae;have:=nx ak;subst this;refine Good.same h (v:=.bool (kE k m)) ?_ rfl (of_bool _);rcases G_ k true ms.toList m 0 aP with⟨g1,g2,_⟩|⟨j,e,_,_,g1,_⟩
    .simp[Instr.lookup,run_underlying t1,getObj,Sem.run,aM,Dg t2,Instr.findKey,run_underlying t2,g1,t3,g2]
    .simp[Instr.lookup,run_underlying t1,getObj,Sem.run,aM,Dg t2,Instr.findKey,run_underlying t2,g1]
   .cases he
  .cases he
 .cases he
theorem W5 (bb:C.Ok) (h:bq w0 F0 X F S s au w) {T:TypeId} {x i v:I} {el pE NB:Value} (ag:aF w F s au x el (λ_=>False)) (ak:aF w F s au i pE (λ_=>False)) (aD:aF w F s au v NB (λ_=>False)) {s2:an}
  (he:jz C s T x i v=some s2):∃aq aJ,(Instr.mapUpdate T el pE NB).run C.P w= .ok () aq/\bq w0 F0 X F aJ s2 au aq:=by
 unfold jz at he;split at he
 .rename_i y q k b;split at he
  .rename_i m ae;split at he
   .rename_i fK;simp only[some.injEq]at he;subst he;obtain⟨qq,h3,t1,t2,t3⟩:=Nz bb fK;obtain⟨r,ms,oe,rfl,aM,aP,a0,k7⟩:=NA h ag ae;have:=nx ak;subst this;have:=tF aD;subst this;have key:∀(Dh:Array MapEntry) (Ha:Nat),Dh.toList.map (λe=>(e.key,e.val))=(kF k b m).map (λe=>(.string ⟨⟨e.1⟩⟩,.bool e.2))->
      ∃aJ,bq w0 F0 X F aJ (cK (hM y s) y (I.put q (.cc (.mp (kF k b m))) (s y))) au {w with heap:=w.heap.setIfInBounds r (.map Dh Ha)}:=by
     intro Dh Ha hm;have ax:r<w.heap.size:=(Array.getElem?_eq_some_iff.1 aM).1;refine bq.W3 (b:=r) h ae rfl rfl (λv aD=>aD) (λv aD=>aD) (λvs e=>by cases e) rfl ?_ (λc ai=>?_) (by simp) rfl rfl ⟨rfl,λ_=>Nat.le_refl _⟩
     .intro cx a fg bc eC;rw[k7]at bc;simp only[some.injEq,Prod.mk.injEq,true_and]at bc;obtain⟨rfl,_⟩:=bc;rw[ar]at eC⊢;obtain⟨gj,tL,amk,f1,f2,f3,f4⟩:=eC;simp only[cons.injEq,Value.map.injEq,some.injEq,and_true]at f1;subst f1;exact⟨f2,r,Dh,Ha,rfl,f2,by simp[ax],hm⟩
     .simp[Ne.symm ai]
    rcases G_ k b ms.toList m 0 aP with⟨g1,_,g2⟩|⟨j,e,g0,ge,g1,g2⟩
    .obtain⟨aJ,bT⟩:=key (ms.push {key:=.string ⟨⟨k⟩⟩,val:=.bool b,born:=oe}) (oe+1) (by rw[g2];simp[aP]);exact⟨_,aJ,by simp[Instr.mapUpdate,run_underlying t1,getObj,setObj,Sem.run,aM,Dg t2,Instr.findKey,run_underlying t2,g1],bT⟩
    .rw[Nat.zero_add]at g1;obtain⟨aJ,bT⟩:=key (ms.modify j λe=>{e with key:=.string ⟨⟨k⟩⟩,val:=.bool b}) oe (by
      rw[g2,map_set,<-aP];apply ext_getElem?;intro n;by_cases aN:n=j
      .subst aN;have:n<ms.toList.length:=(List.getElem?_eq_some_iff.1 g0).1;rw[getElem?_set_self (by simpa using this)];simp[g0]
      .simp[getElem?_set_ne (Ne.symm aN),Ne.symm aN])
     have W6:ms[j]? =some e:=by simpa using g0
     exact⟨_,aJ,by simp[Instr.mapUpdate,run_underlying t1,getObj,setObj,Sem.run,aM,Dg t2,Instr.findKey,run_underlying t2,g1,W6,ge,Instr.keyThatStays,Instr.sameBits,(G9 ⟨⟨k⟩⟩ ⟨⟨k⟩⟩).2 rfl],bT⟩
   .cases he
  .cases he
 .cases he
theorem W7 (h:bq w0 F0 X F S s au w) (t:TypeId):Good C w0 F0 X au w (Instr.makeMap t none) (.cc (.mp [])) s:=by
 have hold:∀b,b<w.heap.size->(w.alloc (.map #[] 0)).heap[b]? =w.heap[b]? :=by
  intro b R;show(w.heap.push _)[b]? =_;rw[Array.getElem?_push,if_neg (by omega)]
 refine⟨.map (some w.heap.size),w.alloc (.map #[] 0),F,S,?_,h.grow hold (by simp) rfl rfl ⟨rfl,λ_=>Nat.le_refl _⟩,.inr ⟨rfl,rfl,λb=>b=w.heap.size,?_,?_,?_,?_,?_⟩⟩
 .simp[Instr.makeMap,newObj,Sem.run]
 .rw[ar];refine⟨w.heap.size,#[],0,rfl,rfl,?_,rfl⟩;show(w.heap.push _)[_]? =_;simp
 .rintro b rfl;simp
 .rintro b rfl su;exact Nat.lt_irrefl _ (h.dV _ su)
 .rintro u b rfl hu;exact Nat.lt_irrefl _ (h.dh _ _ hu)
 .rintro b rfl;exact .inr h.size
end
end Go.cC
