/- Part of a proof that a law returns true for every input. No condition. -/
import Derived.Test.YtmaenemdkobeeaaGreatFwC
import Derived.Test.YtmaenemdkobeeaaGreatFwA
import Derived.Laws.IdiomStrings
import Derived.Laws.Strings
import Derived.LaidEql
import Derived.WideLaws
import Derived.Laws.StructEq
namespace Go.ek
open List Option Nat Or
section
variable {C:ch} {w0 w:World} {F0 X F:Nat->Prop} {S:Nat->Nat->Prop} {s s1:az} {aJ:Nat->Value} {av:J}
theorem q5 {k:IntKind} {n:Int} {v:Value} {a0:Nat->Prop} (h:aU w F s aJ (.int k n) v a0):v= .int k n:=by
 have bM:=(aU.c_ rfl).1 h;rw[aD,hX bM.1]at bM;simpa using bM.2
theorem uL {b:Bool} {v:Value} {a0:Nat->Prop} (h:aU w F s aJ (.bool b) v a0):v= .bool b:=by
 have bM:=(aU.c_ rfl).1 h;rw[aD,hX bM.1]at bM;simpa using bM.2
theorem p7 {b:arE} {v:Value} {a0:Nat->Prop} (h:aU w F s aJ (.str b) v a0):v= .string ⟨⟨b⟩⟩:=by
 have bM:=(aU.c_ rfl).1 h;rw[aD,hX bM.1]at bM;simpa using bM.2
theorem PY {v:Value} {a0:Nat->Prop} (h:aU w F s aJ .eh v a0):v= .pointer none:=by
 have bM:=(aU.c_ rfl).1 h;rw[aD,hX bM.1]at bM;simpa using bM.2
theorem tq {v:Value} {a0:Nat->Prop} (h:aU w F s aJ .au v a0):v= .slice none 0 0:=by
 have bM:=(aU.c_ rfl).1 h;rw[aD,hX bM.1]at bM;simpa using bM.2
theorem PZ {v:Value} {a0:Nat->Prop} (h:aU w F s aJ .fW v a0):∃b,v= .bool b:=by
 have bM:=(aU.c_ rfl).1 h;rw[aD,hX bM.1]at bM;simpa using bM.2
theorem of_int (k:IntKind) (n:Int):aU w F s aJ (.int k n) (.int k n) (λ_=>False):=(aU.c_ rfl).2 ⟨rfl,by rw[aD];rfl⟩
theorem of_bool (b:Bool):aU w F s aJ (.bool b) (.bool b) (λ_=>False):=(aU.c_ rfl).2 ⟨rfl,by rw[aD];rfl⟩
theorem q6 (b:arE):aU w F s aJ (.str b) (.string ⟨⟨b⟩⟩) (λ_=>False):=(aU.c_ rfl).2 ⟨rfl,by rw[aD];rfl⟩
theorem IZ (b:Bool):aU w F s aJ .fW (.bool b) (λ_=>False):=(aU.c_ rfl).2 ⟨rfl,by rw[aD];exact⟨b,rfl⟩⟩
def j4 (op:BinOp) (k:IntKind) (a:Int) (cZ:IntKind) (b:Int):Option J:=
 match op with
 | .shl=>if b<0 then none else some (.int k (k.wrap (a*2^(min b.toNat k.bits))))
 | .shr=>if b<0 then none else some (.int k (a.fdiv (2^(min b.toNat k.bits))))
 | .add=>if k=cZ then some (.int k (k.wrap (a+b)))else none
 | .sub=>if k=cZ then some (.int k (k.wrap (a-b)))else none
 | .mul=>if k=cZ then some (.int k (k.wrap (a*b)))else none
 | .quo=>if k=cZ/\b≠0 then some (.int k (k.wrap (a.tdiv b)))else none
 | .rem=>if k=cZ/\b≠0 then some (.int k (a.tmod b))else none
 | .eql=>if k=cZ then some (.bool (a==b))else none
 | .neq=>if k=cZ then some (.bool (a !=b))else none
 | .lss=>if k=cZ then some (.bool (decide (a<b)))else none
 | .leq=>if k=cZ then some (.bool (decide (a<=b)))else none
 | .gtr=>if k=cZ then some (.bool (decide (b<a)))else none
 | .geq=>if k=cZ then some (.bool (decide (b<=a)))else none
 | .and=>if k=cZ then some (.int k (bitsOf .and k a b))else none
 | .or=>if k=cZ then some (.int k (bitsOf .or k a b))else none
 | .xor=>if k=cZ then some (.int k (bitsOf .xor k a b))else none
 | .andNot=>if k=cZ then some (.int k (bitsOf .andNot k a b))else none
def pg (op:BinOp) (a b:arE):Option J:=
 match op with
 | .add=>if a.length+b.length<=9223372036854775807 then some (.str (a++b))else none
 | .eql=>some (.bool (a==b))
 | .neq=>some (.bool !(a==b))
 | .lss=>some (.bool (Op.bytesLess a b))
 | .leq=>some (.bool (Op.bytesLess a b||a==b))
 | .gtr=>some (.bool !(Op.bytesLess a b||a==b))
 | .geq=>some (.bool !(Op.bytesLess a b))
 |_=>none
def kT (s:az):J->Option arI
 | .au=>some (some true)
 | .slice xs=>some (if xs=[]then none else some false)
 | .h x q=>match J.sub q (s x)with
   |some (.af _ xs)=>some (if xs=[]then none else some false)
   |_=>none
 |_=>none
def mW (s:az):J->arI
 | .eh=>some true
 | .ref _=>some false
 | .h x q=>match J.sub q (s x)with
   |some (.aG _)=>some false
   |_=>none
 |_=>none
def q7 (neg:Bool):arI->J
 |some b=>.bool (b !=neg)
 |none=>.fW
def structEq (P:Program) (T:TypeId):Bool:= !P.stoodInHeld T&& !P.eqGuardType P.depth T&&(P.fieldsOf T).toList.all λf=>decide (f.name≠ "_")
def p8 (C:ch):List (TypeId×Nat)->Nat->arM->arM->arI
 |[],_,[],[]=>some true
 |(kQ,off)::aH,n,d::ds,e::es=>if off=n then(match(C.T kQ).k,d,e with
  | .int k,.int b3 a,.int cv b=>if b3=k/\cv=k then(p8 C aH (n+1) ds es).map λr=>a==b&&r else none
  | .bool,.bool a,.bool b=>(p8 C aH (n+1) ds es).map λr=>a==b&&r
  | .str,.str a,.str b=>(p8 C aH (n+1) ds es).map λr=>a==b&&r
  |_,_,_=>none)else none
 |_,_,_,_=>none
def ff (C:ch) (s:az) (op:BinOp) (T:TypeId) (x y:J):Option J:=
 match x,y with
 | .int k a,.int cZ b=>j4 op k a cZ b
 | .str a,.str b=>pg op a b
 | .bool a,.bool b=>match op,(C.T T).k with
   | .eql,.bool=>some (.bool (a==b))
   | .neq,.bool=>some (.bool !(a==b))
   |_,_=>none
 | .agg ds,.agg es=>match op,(C.T T).k with
   | .eql,.struct aH=>if structEq C.P T=true then(p8 C aH 0 ds es).map λb=>.bool b else none
   | .neq,.struct aH=>if structEq C.P T=true then(p8 C aH 0 ds es).map λb=>.bool !b else none
   |_,_=>none
 |x,.au=>match op,(C.T T).k with
  | .eql,.slice _=>(kT s x).map (q7 false)
  | .neq,.slice _=>(kT s x).map (q7 true)
  |_,_=>none
 |x,.eh=>match op,(C.T T).k with
  | .eql,.ptr _=>(mW s x).map λb=>.bool b
  | .neq,.ptr _=>(mW s x).map λb=>.bool !b
  |_,_=>none
 |_,_=>none
theorem Xn {P:Program} {op:BinOp} {T:TypeId} {k cZ:IntKind} {a b:Int} (he:j4 op k a cZ b=some av) (w:World):
  ∃v,(binOp op T (.int k a) (.int cZ b)).run P w= .ok v w/\aU w F s aJ av v (λ_=>False):=by
 unfold j4 at he;cases op<;>simp only at he<;>split at he<;>first|(cases he;done)|skip
 all_goals
  rename_i ax;simp only[some.injEq]at he;subst he
 all_goals first
  |(subst ax;simp only[binOp_add,binOp_sub,binOp_mul,binOp_eql,binOp_neq,binOp_lss,binOp_leq,binOp_gtr,binOp_geq,binOp_and,binOp_or,binOp_xor,binOp_andNot,Op.intArith,Op.intBits,Sem.run_pure,Result.ok.injEq,and_true,exists_eq_left']
    first|exact of_int _ _|exact of_bool _)
  |(obtain⟨rfl,a5⟩:=ax
    simp only[binOp_quo,binOp_rem,Op.intDiv,a5,if_false,Sem.run_pure,Result.ok.injEq,and_true,exists_eq_left'];exact of_int _ _)
  |(simp only[binOp_shl,binOp_shr,Op.shift,ax,if_false,Sem.run_pure,Result.ok.injEq,and_true,exists_eq_left']
    exact of_int _ _)
theorem AS (a:arE):(⟨⟨a⟩⟩:ByteArray).toList=a:=ByteArray.toList_eq _
theorem Xo (a b:arE):(⟨⟨a⟩⟩:ByteArray)++(⟨⟨b⟩⟩:ByteArray)=⟨⟨a++b⟩⟩:=by
 apply ByteArray.ext;simp[ByteArray.data_append]
theorem Xp {P:Program} {op:BinOp} {T:TypeId} {a b:arE} (he:pg op a b=some av) (w:World):
  ∃v,(binOp op T (.string ⟨⟨a⟩⟩) (.string ⟨⟨b⟩⟩)).run P w= .ok v w/\aU w F s aJ av v (λ_=>False):=by
 have ab:∀op,binOp op T (.string ⟨⟨a⟩⟩) (.string ⟨⟨b⟩⟩)=Op.stringOp op ⟨⟨a⟩⟩ ⟨⟨b⟩⟩:=by intro op;cases op<;>rfl
 rw[ab];unfold pg at he;cases op<;>simp only[some.injEq]at he<;>first|(cases he;done)|skip
 case add=>
  split at he
  .rename_i hl;simp only[some.injEq]at he;subst he;have ad:((ByteArray.size ⟨⟨a⟩⟩+ByteArray.size ⟨⟨b⟩⟩:Nat):Int)<=9223372036854775807:=by
    show((a.length+b.length:Nat):Int)<=_;omega
   refine⟨.string ⟨⟨a++b⟩⟩,?_,q6 _⟩;simp only[Op.stringOp,IntKind.max_i64];rw[if_neg (by omega),Xo];rfl
  .cases he
 all_goals
  subst he;simp only[Op.stringOp,AS,Sem.run_pure,Result.ok.injEq,and_true,exists_eq_left'];exact of_bool _
theorem I0 (h:b4 w0 F0 X F S s aJ w) {v:Value} {y:Nat} {q:arH} (aE:aU w F s aJ (.h y q) v (λ_=>False)) {sz:Nat} {xs:arM} (ak:J.sub q (s y)=some (.af sz xs)):
  (xs=[]/\∃a,v= .slice a 0 0)\/∃b cap cur e fr,v= .slice (some ⟨b,0,none⟩) xs.length cap/\w.heap[b]? =some (.cells cur e fr)/\oy fr cur.size/\xs.length<=cap/\cap<=maxLen/\cur.size=cap*sz/\(∀d∈xs,d.wd=sz)/\
   ∃a0,bm w F xs (cur.toList.take (xs.length*sz)) a0/\(∀c,a0 c->S y c)/\S y b:=by
 rw[aU]at aE;obtain⟨df,a,a2,bq,ck⟩:=aE _ ak rfl;have ad:Value.hp v=true:=ck;rw[hX ad]at bq;subst bq;have ay:=h.ev y;rw[aU.c_ (iX ak (.inl rfl))]at ay;obtain⟨gW,dd,fe,gq,k0,b3,cv,fz,ez,fR⟩:=ctx q (s y) (cP (aJ y)) (S y) none _ ay.2 ak;rw[k0]at a2;simp only[some.injEq,Prod.mk.injEq,true_and]at a2;obtain⟨rfl,rfl⟩:=a2;rw[aD]at ez;rcases ez with⟨rfl,aM,ag⟩|⟨b,cap,cur,a8,fr,eo,aY,bT,cF,cj,b0,gZ,ie,jz,mX,dL,dw⟩
 .simp at ag;exact .inl ⟨rfl,_,ag⟩
 .simp at aY;exact .inr ⟨b,cap,cur,a8,fr,aY,cF,cj.low,b0,gZ,ie,jz,eo,mX,λc ax=>cv _ (dL c ax),cv _ bT⟩
theorem P0 (h:b4 w0 F0 X F S s aJ w) {v:Value} {y:Nat} {q:arH} (aE:aU w F s aJ (.h y q) v (λ_=>False)) {d:J} (ak:J.sub q (s y)=some (.aG d)):
  ∃b cur e fr,v= .pointer (some ⟨b,0,none⟩)/\w.heap[b]? =some (.cells cur e fr):=by
 rw[aU]at aE;obtain⟨df,a,a2,bq,ck⟩:=aE _ ak rfl;have ad:Value.hp v=true:=ck;rw[hX ad]at bq;subst bq;have ay:=h.ev y;rw[aU.c_ (iX ak (.inl rfl))]at ay;obtain⟨gW,dd,fe,gq,k0,b3,cv,fz,ez,fR⟩:=ctx q (s y) (cP (aJ y)) (S y) none _ ay.2 ak;rw[k0]at a2;simp only[some.injEq,Prod.mk.injEq,true_and]at a2;obtain⟨rfl,rfl⟩:=a2;rw[aD]at ez;obtain⟨b,cur,a8,fr,eo,aY,bT,cF,_⟩:=ez;simp at aY;exact⟨b,cur,a8,fr,aY,cF⟩
theorem P1 {P:Program} {T e:TypeId} (bc:P.underlying T=some (.slice e)) (w:World):∀d,(Op.equalIn (d+1) T (.slice none 0 0) (.slice none 0 0)).run P w= .ok true w/\
  ∀a n c,(Op.equalIn (d+1) T (.slice (some a) n c) (.slice none 0 0)).run P w= .ok false w:=by
 intro d;refine⟨by simp[Op.equalIn,run_underlying bc],λa n c=>by simp[Op.equalIn,run_underlying bc]⟩
theorem P2 {P:Program} {T e:TypeId} (bc:P.underlying T=some (.pointer e)) (w:World):∀d,(Op.equalIn (d+1) T (.pointer none) (.pointer none)).run P w= .ok true w/\
  ∀a,(Op.equalIn (d+1) T (.pointer (some a)) (.pointer none)).run P w= .ok false w:=by
 intro d;refine⟨by simp[Op.equalIn,run_underlying bc],λa=>by simp[Op.equalIn,run_underlying bc]⟩
theorem P3 {P:Program} {T:TypeId} (bc:P.underlying T=some .bool) (w:World):∀d a b,(Op.equalIn (d+1) T (.bool a) (.bool b)).run P w= .ok (a==b) w:=by
 intro d a b;simp[Op.equalIn,run_underlying bc]
theorem P4 (h:b4 w0 F0 X F S s aJ w) {x:J} {v:Value} (aE:aU w F s aJ x v (λ_=>False)) {T e:TypeId} {r:arI} (a4:kT s x=some r) (bc:C.P.underlying T=some (.slice e)):
  ∃b,(Op.equal T v (.slice none 0 0)).run C.P w= .ok b w/\(∀gJ,r=some gJ->gJ=b)/\Value.hp v=true/\∃a n c,v= .slice a n c:=by
 have aW:=λa n c=>(P1 bc w 9999).2 a n c;have fS:=(P1 bc w 9999).1;cases x with
 |au=>
  have:=tq aE;subst this;simp[kT]at a4;subst a4;exact⟨true,fS,by simp,rfl,_,_,_,rfl⟩
 |slice xs=>
  have bM:=(aU.c_ rfl).1 aE;rw[aD,hX bM.1]at bM;simp only[kT,some.injEq]at a4;obtain⟨_,⟨rfl,a,c,ag,_,wk⟩|⟨b,o,cap,fm,sz,ag,aK⟩⟩:=bM
  .simp at ag a4;subst ag;subst a4;cases a with
   |none=>
    have:=wk rfl;subst this;exact⟨true,fS,by simp,rfl,_,_,_,rfl⟩
   |some a=>exact⟨false,aW _ _ _,by simp,rfl,_,_,_,rfl⟩
  .simp at ag;subst ag;refine⟨false,aW _ _ _,?_,rfl,_,_,_,rfl⟩;subst a4;split<;>simp
 |h y q=>
  simp only[kT]at a4;split at a4
  .rename_i sz xs ak;simp only[some.injEq]at a4;rcases I0 h aE ak with⟨rfl,a,rfl⟩|⟨b,cap,cur,a8,fr,rfl,_⟩
   .simp at a4;subst a4;cases a with
    |none=>exact⟨true,fS,by simp,rfl,_,_,_,rfl⟩
    |some a=>exact⟨false,aW _ _ _,by simp,rfl,_,_,_,rfl⟩
   .refine⟨false,aW _ _ _,?_,rfl,_,_,_,rfl⟩;subst a4;split<;>simp
  .cases a4
 |_=>simp[kT]at a4
theorem P5 (h:b4 w0 F0 X F S s aJ w) {x:J} {v:Value} (aE:aU w F s aJ x v (λ_=>False)) {T e:TypeId} {r:Bool} (a4:mW s x=some r) (bc:C.P.underlying T=some (.pointer e)):
  (Op.equal T v (.pointer none)).run C.P w= .ok r w/\∃a,v= .pointer a:=by
 have aW:=λa=>(P2 bc w 9999).2 a;have fS:=(P2 bc w 9999).1;cases x with
 |eh=>
  have:=PY aE;subst this;simp[mW]at a4;subst a4;exact⟨fS,_,rfl⟩
 |ref d=>
  have bM:=(aU.c_ rfl).1 aE;rw[aD,hX bM.1]at bM;simp[mW]at a4;subst a4;obtain⟨_,b,o,fm,ag,_⟩:=bM;simp at ag;subst ag;exact⟨aW _,_,rfl⟩
 |h y q=>
  simp only[mW]at a4;split at a4
  .rename_i d ak;simp only[some.injEq]at a4;subst a4;obtain⟨b,cur,e,fr,rfl,_⟩:=P0 h aE ak;exact⟨aW _,_,rfl⟩
  .cases a4
 |_=>simp[mW]at a4
theorem Xq (bB:C.fI):∀(aH:List (TypeId×Nat)) (gs:List Field) (n:Nat) (ds es:arM) (r:Bool) (fA l2 b2 cc:arK) (xs c7:Array Value) (cA eo:Nat->Prop),
  gs.map (λg=>(g.type,g.offset))=aH->(gs.all λf=>decide (f.name≠ "_"))=true->p8 C aH n ds es=some r->bm w F ds b2 cA->bm w F es cc eo->xs.toList=fA++b2->fA.length=n->c7.toList=l2++cc->l2.length=n->
  ∀m,(Op.eqFields (m+1) xs c7 gs).run C.P w= .ok r w:=by
 intro aH;induction aH with
 |nil=>
  intro gs n ds es r fA l2 b2 cc xs c7 cA eo bC aZ he ae ag ay hl bz I1 m;have:gs=[]:=by simpa using bC
  subst this;cases ds<;>cases es<;>simp[p8]at he;subst he;simp[Op.eqFields]
 |cons p aH ih=>
  obtain⟨kQ,off⟩:=p;intro gs n ds es r fA l2 b2 cc xs c7 cA eo bC aZ he ae ag ay hl bz I1 m;cases gs with
  |nil=>simp at bC
  |cons g gs=>
   simp only[map_cons,cons.injEq,Prod.mk.injEq]at bC;obtain⟨⟨rfl,rfl⟩,bC⟩:=bC;simp only[all_cons,Bool.and_eq_true,decide_eq_true_eq]at aZ;cases ds with
   |nil=>simp[p8]at he
   |cons d ds=>
   cases es with
   |nil=>simp[p8]at he
   |cons e es=>
   simp only[p8]at he;split at he
   .rename_i sf;rw[bm]at ae ag;obtain⟨R,aM,Ew,Xr,rfl,gr,hD,i7,Ex,gO⟩:=ae;obtain⟨j5,ig,apg,Xs,rfl,dr,dh,hM,g7,k9⟩:=ag;have step:∀(x y:Value) (z:Bool),(C.T g.type).flat=true->R=[x]->j5=[y]->(∀m,(Op.equalIn (m+1) g.type x y).run C.P w= .ok z w)->∀hE,p8 C aH (n+1) ds es=some hE->
      (Op.eqFields (m+1) xs c7 (g::gs)).run C.P w= .ok (z&&hE) w:=by
     intro x y z hs Xt Xu heq hE ft;subst Xt;subst Xu;have Xv:xs[g.offset]? =some x:=by
      rw[<-Array.getElem?_toList,ay,sf,<-hl,getElem?_append_right (Nat.le_refl _)];simp
     have Xw:c7[g.offset]? =some y:=by
      rw[<-Array.getElem?_toList,bz,sf,<-I1,getElem?_append_right (Nat.le_refl _)];simp
     have al:=ih gs (n+1) ds es hE (fA++[x]) (l2++[y]) aM ig xs c7 Xr Xs bC aZ.2 ft hD dh (by rw[ay];simp) (by simp[hl]) (by rw[bz];simp) (by simp[I1]) m;unfold Op.eqFields;rw[if_pos aZ.1];simp only[part,Sem.run_bind,IX bB hs,Result.andThen_ok,Bool.false_eq_true,if_false,Xv,Xw,Sem.run_pure,heq];cases z
     .simp
     .simpa using al
    split at he
    .rename_i k b3 a cv b ao;split at he
     .rename_i Xx;obtain⟨rfl,rfl⟩:=Xx;rw[aD]at gr dr;simp only[map_eq_some_iff]at he;obtain⟨hE,ft,rfl⟩:=he;obtain⟨i,AU,P6,aW,a8,aY,bT,cF,cj,b0⟩:=bB.info (gY ao (by simp));rw[ao]at b0;have wm:=AP b0;subst wm;exact step _ _ _ (by simp[hr.flat,ao]) gr dr (λm=>run_equalIn_int w m g.type _ _ a b cj) hE ft
     .cases he
    .rename_i a b ao;rw[aD]at gr dr;simp only[map_eq_some_iff]at he;obtain⟨hE,ft,rfl⟩:=he;obtain⟨i,AU,P6,aW,a8,aY,bT,cF,cj,b0⟩:=bB.info (gY ao (by simp));rw[ao]at b0;have wm:=IP b0;subst wm;exact step _ _ _ (by simp[hr.flat,ao]) gr dr (λm=>run_equalIn_bool' w m g.type a b cj) hE ft
    .rename_i a b ao;rw[aD]at gr dr;simp only[map_eq_some_iff]at he;obtain⟨hE,ft,rfl⟩:=he;obtain⟨i,AU,P6,aW,a8,aY,bT,cF,cj,b0⟩:=bB.info (gY ao (by simp));rw[ao]at b0;have wm:=se b0;subst wm;refine step _ _ (a==b) (by simp[hr.flat,ao]) gr dr (λm=>?_) hE ft;rw[run_equalIn_string w m g.type _ _ cj,AS,AS]
    .cases he
   .cases he
theorem P7 (bB:C.fI) {T:TypeId} {aH:List (TypeId×Nat)} (ao:(C.T T).k= .struct aH) {ds es:arM} {iY jN:Value} {cA eo:Nat->Prop} {r:Bool} (ay:aU w F s aJ (.agg ds) iY cA) (bz:aU w F s aJ (.agg es) jN eo)
  (cl:structEq C.P T=true) (he:p8 C aH 0 ds es=some r) (op:BinOp) (AV AW:Operand):
  (eqGuard op T AV AW iY jN).run C.P w= .ok () w/\(Op.equal T iY jN).run C.P w= .ok r w:=by
 obtain⟨i,d,z,aW,a8,aY,bT,cF,cj,b0⟩:=bB.info (gY ao (by simp));rw[ao]at b0;obtain⟨gs,rfl,gZ⟩:=AO b0;have AX:C.P.fieldsOf T=gs:=by simp[Program.fieldsOf,cj]
 simp only[structEq,Bool.and_eq_true,Bool.not_eq_true',AX]at cl;obtain⟨⟨dr,dh⟩,hM⟩:=cl;obtain⟨⟨xs,rfl⟩,uM⟩:=(aU.c_ rfl).1 ay;obtain⟨⟨c7,rfl⟩,we⟩:=(aU.c_ rfl).1 bz;rw[aD]at uM we;constructor
 .cases op<;>simp[eqGuard,dh]
 .show(Op.equalIn (9999+1) T _ _).run C.P w=_;rw[run_equalIn_struct w 9999 T xs c7 (by rw[AX];exact cj) dr,AX];exact Xq bB aH gs.toList 0 ds es r [] [] _ _ xs c7 cA eo gZ hM he uM we rfl rfl rfl rfl 9998
theorem Xy (bB:C.fI) (h:b4 w0 F0 X F S s aJ w) {op:BinOp} {T:TypeId} {x y:J} {iY jN:Value} (AV AW:Operand) (ay:aU w F s aJ x iY (λ_=>False)) (bz:aU w F s aJ y jN (λ_=>False))
  (he:ff C s op T x y=some av):Good C w0 F0 X aJ w (do eqGuard op T AV AW iY jN;binOp op T iY jN) av s:=by
 unfold ff at he;split at he
 .have:=q5 ay;subst this;have:=q5 bz;subst this;obtain⟨v,ae,ag⟩:=Xn (P:=C.P) (T:=T) he w;refine Good.same h (v:=v) ?_ ?_ ag
  .rw[eqGuard_at_int];exact ae
  .revert he;unfold j4;cases op<;>simp only<;>split<;>simp<;>(rintro rfl;rfl)
 .have:=p7 ay;subst this;have:=p7 bz;subst this;obtain⟨v,ae,ag⟩:=Xp (P:=C.P) (T:=T) he w;refine Good.same h (v:=v) ?_ ?_ ag
  .rw[eqGuard_at_string];exact ae
  .revert he;unfold pg;cases op<;>simp only<;>(try split)<;>simp<;>(try (rintro rfl;rfl))
 .have:=uL ay;subst this;have:=uL bz;subst this;split at he
  .rename_i ao;simp only[some.injEq]at he;subst he;obtain⟨i,d,z,aW,a8,aY,bT,cF,cj,b0⟩:=bB.info (gY ao (by simp));rw[ao]at b0;have:=IP b0;subst this;refine Good.same h ?_ rfl (of_bool _);rw[eqGuard_at_bool];simp[binOp,Op.equal,Op.maxDepth,P3 cj w 9999]
  .rename_i ao;simp only[some.injEq]at he;subst he;obtain⟨i,d,z,aW,a8,aY,bT,cF,cj,b0⟩:=bB.info (gY ao (by simp));rw[ao]at b0;have:=IP b0;subst this;refine Good.same h ?_ rfl (of_bool _);rw[eqGuard_at_bool];simp[binOp,Op.equal,Op.maxDepth,P3 cj w 9999]
  .cases he
 .split at he
  .rename_i aH ao;split at he
   .rename_i cl;simp only[map_eq_some_iff]at he;obtain⟨r,a4,rfl⟩:=he;obtain⟨a2,bq⟩:=P7 bB ao ay bz cl a4 .eql AV AW;obtain⟨⟨xs,rfl⟩,_⟩:=(aU.c_ rfl).1 ay;obtain⟨⟨c7,rfl⟩,_⟩:=(aU.c_ rfl).1 bz;exact Good.same h (by simp[a2,binOp,bq]) rfl (of_bool _)
   .cases he
  .rename_i aH ao;split at he
   .rename_i cl;simp only[map_eq_some_iff]at he;obtain⟨r,a4,rfl⟩:=he;obtain⟨a2,bq⟩:=P7 bB ao ay bz cl a4 .neq AV AW;obtain⟨⟨xs,rfl⟩,_⟩:=(aU.c_ rfl).1 ay;obtain⟨⟨c7,rfl⟩,_⟩:=(aU.c_ rfl).1 bz;exact Good.same h (by simp[a2,binOp,bq]) rfl (of_bool _)
   .cases he
  .cases he
 .have:=tq bz;subst this;split at he
  .rename_i e ao;simp only[map_eq_some_iff]at he;obtain⟨r,a4,rfl⟩:=he;obtain⟨i,d,z,aW,a8,aY,bT,cF,cj,b0⟩:=bB.info (gY ao (by simp));rw[ao]at b0;have:=mV b0;subst this;obtain⟨b,ae,ag,aK,I,bu,pc,rfl⟩:=P4 h ay a4 cj;refine Good.same h (v:=.bool b) ?_ ?_ ?_
   .rw[eqGuard_at_slice];simp[binOp,ae]
   .cases r<;>rfl
   .cases r with
    |none=>exact IZ b
    |some gJ=>have:=ag gJ rfl;subst this;simp only[q7,Bool.bne_false];exact of_bool _
  .rename_i e ao;simp only[map_eq_some_iff]at he;obtain⟨r,a4,rfl⟩:=he;obtain⟨i,d,z,aW,a8,aY,bT,cF,cj,b0⟩:=bB.info (gY ao (by simp));rw[ao]at b0;have:=mV b0;subst this;obtain⟨b,ae,ag,aK,I,bu,pc,rfl⟩:=P4 h ay a4 cj;refine Good.same h (v:=.bool !b) ?_ ?_ ?_
   .rw[eqGuard_at_slice];simp[binOp,ae]
   .cases r<;>rfl
   .cases r with
    |none=>exact IZ _
    |some gJ=>have:=ag gJ rfl;subst this;simp only[q7,Bool.bne_true];exact of_bool _
  .cases he
 .have:=PY bz;subst this;split at he
  .rename_i e ao;simp only[map_eq_some_iff]at he;obtain⟨r,a4,rfl⟩:=he;obtain⟨i,d,z,aW,a8,aY,bT,cF,cj,b0⟩:=bB.info (gY ao (by simp));rw[ao]at b0;have:=PO b0;subst this;obtain⟨ae,I,rfl⟩:=P5 h ay a4 cj;refine Good.same h (v:=.bool r) ?_ rfl (of_bool _);rw[eqGuard_at_pointer];simp[binOp,ae]
  .rename_i e ao;simp only[map_eq_some_iff]at he;obtain⟨r,a4,rfl⟩:=he;obtain⟨i,d,z,aW,a8,aY,bT,cF,cj,b0⟩:=bB.info (gY ao (by simp));rw[ao]at b0;have:=PO b0;subst this;obtain⟨ae,I,rfl⟩:=P5 h ay a4 cj;refine Good.same h (v:=.bool !r) ?_ rfl (of_bool _);rw[eqGuard_at_pointer];simp[binOp,ae]
  .cases he
 .cases he
end
section
variable {C:ch} {w0 w:World} {F0 X F:Nat->Prop} {S:Nat->Nat->Prop} {s s1:az} {aJ:Nat->Value} {av:J}
def un (op:UnOp) (x:J):Option J:=
 match op,x with
 | .not,.bool b=>some (.bool !b)
 | .not,.fW=>some .fW
 | .neg,.int k n=>some (.int k (k.wrap (0-n)))
 |_,_=>none
theorem Xz (h:b4 w0 F0 X F S s aJ w) {op:UnOp} {x:J} {v:Value} (aE:aU w F s aJ x v (λ_=>False)) (he:un op x=some av):Good C w0 F0 X aJ w (Op.unary op v) av s:=by
 unfold un at he;split at he<;>first|(cases he;done)|(simp only[some.injEq]at he;subst he)
 .have:=uL aE;subst this;exact Good.same h rfl rfl (of_bool _)
 .obtain⟨b,rfl⟩:=PZ aE;exact Good.same h rfl rfl (IZ _)
 .have:=q5 aE;subst this;exact Good.same h rfl rfl (of_int _ _)
def j6 (s:az) (x:J):Option J:=
 match x with
 | .ref d=>some (.ref d)
 | .fn f c=>some (.fn f c)
 | .h y q=>match J.sub q (s y)with
   |some (.aG _)=>some (.h y q)
   |_=>none
 |_=>none
theorem XA {d:J} {v:Value} {a0:Nat->Prop} (h:aU w F s aJ (.ref d) v a0):∃b o fm,v= .pointer (some ⟨b,o,none⟩)/\F b/\iV w b o fm/\aD w F d fm (λ_=>False):=by
 have bM:=(aU.c_ rfl).1 h;rw[aD,hX bM.1]at bM;obtain⟨_,b,o,fm,ae,ag,aK,a3⟩:=bM;simp at ae;subst ae;exact⟨b,o,fm,rfl,ag,aK,a3⟩
theorem XB (h:b4 w0 F0 X F S s aJ w) {x:J} {v:Value} (aE:aU w F s aJ x v (λ_=>False)) (he:j6 s x=some av):
  av=x/\x.plain=true/\((∃a,v= .pointer (some a))\/∃f c,v= .func (.func f) #[] c):=by
 unfold j6 at he;split at he
 .simp only[some.injEq]at he;subst he;obtain⟨b,o,fm,rfl,_⟩:=XA aE;exact⟨rfl,rfl,.inl ⟨_,rfl⟩⟩
 .simp only[some.injEq]at he;subst he;rw[aU]at aE;obtain⟨arr,rfl,_⟩:=aE;exact⟨rfl,rfl,.inr ⟨_,_,rfl⟩⟩
 .split at he
  .rename_i d ak;simp only[some.injEq]at he;subst he;obtain⟨b,cur,e,fr,rfl,_⟩:=P0 h aE ak;exact⟨rfl,rfl,.inl ⟨_,rfl⟩⟩
  .cases he
 .cases he
def ex (s:az) (x:J) (k:Nat):Option J:=
 match x with
 | .tuple ds=>match ds[k]? with
   |some d=>if d.plain=true then some d else none
   |none=>none
 | .h y q=>match J.sub q (s y)with
   |some (.tuple ds)=>match ds[k]? with
    |some d=>if J.eu ds=true then none else some (if d.plain then d else .h y (q++[k]))
    |none=>none
   |_=>none
 |_=>none
theorem P8:∀(vs:arK) (k:Nat) (x:Value) (ds:arM),vs[k]? =some x->vs.length=ds.length->(∀(j:Nat) (d:J) (y:Value),ds[j]? =some d->vs[j]? =some y->(jn y).length=d.wd)->
  ∃l r,vs.flatMap jn=l++(jn x++r)/\l.length=J.e1 (ds.take k)
 |[],k,x,ds,h,_,_=>by simp at h
 |v::vs,0,x,ds,h,hl,hw=>by
  simp at h;subst h;exact⟨[],vs.flatMap jn,by simp,by simp[J.e1]⟩
 |v::vs,k+1,x,d::ds,h,hl,hw=>by
  obtain⟨l,r,aW,a8⟩:=P8 vs k x ds (by simpa using h) (by simpa using hl) (λj d y ae ag=>hw (j+1) d y (by simpa using ae) (by simpa using ag));refine⟨jn v++l,r,by simp[aW],?_⟩;have:=hw 0 d v (by simp) (by simp);simp[J.e1,a8,this]
 |v::vs,k+1,x,[],h,hl,hw=>by simp at hl
theorem XC {d:J} {v:Value} (h:jo d v) (_hd:∀vs,d≠.tuple vs):cP v=jn v:=by
 cases d with
 |agg aH=>obtain⟨arr,rfl⟩:=h;rfl
 |_=>
  have ae:Value.hp v=true:=h;cases v<;>first|rfl|(simp[Value.hp]at ae)
theorem XD {d:J} {v:Value} (h:jo d v) (ak:∀vs,d≠.tuple vs):eO d v:=by
 cases d with
 |tuple vs=>exact(ak _ rfl).elim
 |_=>exact h
theorem XE (h:b4 w0 F0 X F S s aJ w) {x:J} {v:Value} {k:Nat} (aE:aU w F s aJ x v (λ_=>False)) (he:ex s x k=some av):Good C w0 F0 X aJ w (Instr.extract v k) av s:=by
 have pick:∀(ds:arM) (d:J) (arr:Array Value),ds[k]? =some d->(arr.size=ds.length/\∀(k:Nat) (d:J) (x:Value),ds[k]? =some d->arr[k]? =some x->jo d x/\(∀vs,d≠.tuple vs)/\(jn x).length=d.wd)->
   ∃x,arr[k]? =some x/\eO d x/\((cP (.tuple arr)).drop (J.e1 (ds.take k))).take d.wd=cP x:=by
  intro ds d arr ak ⟨ca,p4⟩;have e2:k<arr.size:=by rw[ca];exact(List.getElem?_eq_some_iff.1 ak).1
  have ay:arr[k]? =some arr[k]:=Array.getElem?_eq_getElem e2;obtain⟨a2,bq,ck⟩:=p4 k d _ ak ay;obtain⟨l,r,aW,a8⟩:=P8 arr.toList k arr[k] ds (by simp[e2]) (by simpa using ca) (λj d y ae ag=>(p4 j d y ae (by simpa using ag)).2.2);refine⟨_,ay,XD a2 bq,?_⟩;rw[XC a2 bq];simp only[cP];rw[aW];exact v7 l _ r _ _ a8 ck
 unfold ex at he;split at he
 .rename_i ds;split at he
  .rename_i d ak;split at he
   .rename_i aw;simp only[some.injEq]at he;subst he;have bM:=(aU.c_ rfl).1 aE;obtain⟨⟨arr,rfl,ca⟩,hN⟩:=bM;obtain⟨x,ay,ad,ax⟩:=pick ds d arr ak ca;have a4:(Instr.extract (.tuple arr) k).run C.P w= .ok x w:=by simp[Instr.extract,ay]
    rw[aD]at hN;obtain⟨b2,gV,cc,cA,iW,e,iI,gr,hD,i7,gO,nQ⟩:=bm.pick ds _ _ k d hN ak;rw[e,v7 b2 gV cc _ _ iI (aD.length _ _ _ gO)]at ax;by_cases bc:d.tree=true
    .exact Good.same h a4 aw ((aU.c_ bc).2 ⟨ad,by rw[<-ax];exact aD.plain _ _ _ _ aw gO⟩)
    .cases d<;>first|exact(bc rfl).elim|(rw[aD]at gO;exact gO.elim)|exact Good.same h a4 rfl (by rw[aU];trivial)|(have bI:=aD.plain _ _ _ (λ_=>False) aw gO;rw[ax,hX (by exact ad)]at bI;exact Good.same h a4 rfl (aU.sg _ _ rfl bI))
   .cases he
  .cases he
 .rename_i y q;split at he
  .rename_i ds ak;split at he
   .rename_i d ao;split at he
    .cases he
    .rename_i ew;simp only[some.injEq]at he;have ew:(J.tuple ds).plain=false:=by simpa [J.plain]using ew
     rw[aU]at aE;obtain⟨df,a,a2,bq,ck⟩:=aE _ ak ew;obtain⟨arr,rfl,ca⟩:=ck;obtain⟨x,ay,ad,ax⟩:=pick ds d arr ao ca;have a4:(Instr.extract (.tuple arr) k).run C.P w= .ok x w:=by simp[Instr.extract,ay]
     have bz:=h.ev y;rw[aU.c_ (iX ak (.inl ew))]at bz;obtain⟨gW,dd,fe,gq,k0,b3,cv,fz,ez,fR⟩:=ctx q (s y) (cP (aJ y)) (S y) none _ bz.2 ak;rw[k0]at a2;simp only[some.injEq,Prod.mk.injEq,true_and]at a2;obtain⟨rfl,rfl⟩:=a2;rw[bq]at ax;split at he
     .rename_i aw;subst he;rw[aD]at ez;obtain⟨b2,gV,cc,cA,iW,e,iI,gr,hD,i7,gO,nQ⟩:=bm.pick ds _ _ k d ez ao;rw[e,v7 b2 gV cc _ _ iI (aD.length _ _ _ gO)]at ax;by_cases bc:d.tree=true
      .exact Good.same h a4 aw ((aU.c_ bc).2 ⟨ad,by rw[<-ax];exact aD.plain _ _ _ _ aw gO⟩)
      .cases d<;>first|exact(bc rfl).elim|(rw[aD]at gO;exact gO.elim)|exact Good.same h a4 rfl (by rw[aU];trivial)|(have bI:=aD.plain _ _ _ (λ_=>False) aw gO;rw[ax,hX (by exact ad)]at bI;exact Good.same h a4 rfl (aU.sg _ _ rfl bI))
     .subst he;refine Good.same h a4 rfl ?_;rw[aU];intro d2 i9 AK;rw[AN w q _ _ _ _ _ _ [k] k0];rw[AM _ _ _ _ ak]at i9;simp only[J.sub,ao,some.injEq]at i9;subst i9;simp only[eb,ao];exact⟨_,_,rfl,ax.symm,ad⟩
   .cases he
  .cases he
 .cases he
def nT (C:ch) (s:az) (T:TypeId) (x:J) (k:Nat):Option J:=
 match(C.T T).k with
 | .struct aH=>match aH[k]? with
   |some (kQ,off)=>match x with
    | .agg ds=>match ds[k]? with
      |some d=>if J.e1 (ds.take k)=off/\fits C kQ d=true/\d.plain=true/\d.tree=true then some d else none
      |none=>none
    | .h y q=>match J.sub q (s y)with
      |some (.agg ds)=>match ds[k]? with
       |some d=>if J.e1 (ds.take k)=off/\fits C kQ d=true/\J.eu ds=false/\d.tree=true then some (if d.plain then d else .h y (q++[k]))else none
       |none=>none
      |_=>none
    |_=>none
   |none=>none
 |_=>none
theorem XF (bB:C.fI) (h:b4 w0 F0 X F S s aJ w) {T:TypeId} {x:J} {v:Value} {k:Nat} (aE:aU w F s aJ x v (λ_=>False)) (he:nT C s T x k=some av):Good C w0 F0 X aJ w (Instr.field T v k) av s:=by
 have key:∀(aH:List (TypeId×Nat)) (kQ:TypeId) (off:Nat),(C.T T).k= .struct aH->aH[k]? =some (kQ,off)->∀(ds:arM) (d:J) (arr:Array Value) (a0:Nat->Prop),ds[k]? =some d->J.e1 (ds.take k)=off->fits C kQ d=true->bm w F ds arr.toList a0->
   ∃x iW,(Instr.field T (.agg arr) k).run C.P w= .ok x w/\eO d x/\aD w F d (cP x) iW/\(arr.toList.drop off).take d.wd=cP x:=by
  intro aH kQ off ao bo ds d arr a0 ak sf i_ hN;obtain⟨i,AU,z,aW,a8,aY,bT,cF,cj,b0⟩:=bB.info (gY ao (by simp));rw[ao]at b0;obtain⟨gs,rfl,gZ⟩:=AO b0;obtain⟨g,a2,rfl,rfl⟩:∃g,gs[k]? =some g/\g.type=kQ/\g.offset=off:=by
   rw[<-gZ,getElem?_map]at bo;simp only[map_eq_some_iff,Prod.mk.injEq]at bo;obtain⟨g,ae,ag,aK⟩:=bo;exact⟨g,by simpa using ae,ag,aK⟩
  obtain⟨b2,gV,cc,cA,iW,e,iI,gr,hD,i7,gO,nQ⟩:=bm.pick ds _ _ k d hN ak;obtain⟨x,a4,P9,kR⟩:=Xc (w:=w) bB e (iI.trans sf) gO i_;refine⟨x,iW,?_,kR,by rw[P9];exact gO,?_⟩
  .simp[Instr.field,run_underlying cj,a2,asAgg,a4]
  .rw[e,P9,<-sf];exact v7 b2 gV cc _ _ iI (aD.length _ _ _ gO)
 have P_:∀(d:J) (x:Value) (iW:Nat->Prop),d.plain=true->eO d x->aD w F d (cP x) iW->aU w F s aJ d x (λ_=>False):=by
  intro d x iW aw ad hN;by_cases bc:d.tree=true
  .exact(aU.c_ bc).2 ⟨ad,aD.plain _ _ _ _ aw hN⟩
  .cases d<;>first|exact(bc rfl).elim|(rw[aD]at hN;exact hN.elim)|(rw[aU];trivial)|(have bI:=aD.plain _ _ _ (λ_=>False) aw hN;rw[hX (by exact ad)]at bI;exact aU.sg _ _ rfl bI)
 unfold nT at he;split at he
 .rename_i aH ao;split at he
  .rename_i kQ off bo;split at he
   .rename_i ds;split at he
    .rename_i d ak;split at he
     .rename_i ax;simp only[some.injEq]at he;subst he;obtain⟨⟨arr,rfl⟩,hN⟩:=(aU.c_ rfl).1 aE;rw[aD]at hN;obtain⟨x,iW,a4,ad,uN,_⟩:=key aH kQ off ao bo ds d arr _ ak ax.1 ax.2.1 hN;exact Good.same h a4 ax.2.2.1 (P_ d x iW ax.2.2.1 ad uN)
     .cases he
    .cases he
   .rename_i y q;split at he
    .rename_i ds ak;split at he
     .rename_i d oB;split at he
      .rename_i ax;simp only[some.injEq]at he;have ew:(J.agg ds).plain=false:=by simpa [J.plain]using ax.2.2.1
       rw[aU]at aE;obtain⟨df,a,a2,bq,ck⟩:=aE _ ak ew;obtain⟨arr,rfl⟩:=ck;have bz:=h.ev y;rw[aU.c_ (iX ak (.inl ew))]at bz;obtain⟨gW,dd,fe,gq,k0,b3,cv,fz,ez,fR⟩:=ctx q (s y) (cP (aJ y)) (S y) none _ bz.2 ak;rw[k0]at a2;simp only[some.injEq,Prod.mk.injEq,true_and]at a2;obtain⟨rfl,rfl⟩:=a2;rw[aD,<-bq]at ez;obtain⟨x,iW,a4,ad,uN,iB⟩:=key aH kQ off ao bo ds d arr _ oB ax.1 ax.2.1 ez;by_cases aw:d.plain=true
       .rw[if_pos aw]at he;subst he;exact Good.same h a4 aw (P_ d x iW aw ad uN)
       .rw[if_neg aw]at he;subst he;refine Good.same h a4 rfl ?_;rw[aU];intro d2 i9 AK;rw[AN w q _ _ _ _ _ _ [k] k0];rw[AM _ _ _ _ ak]at i9;simp only[J.sub,oB,some.injEq]at i9;subst i9;simp only[eb,oB];refine⟨_,_,rfl,?_,ad⟩;rw[ax.1,<-bq];exact iB.symm
      .cases he
     .cases he
    .cases he
   .cases he
  .cases he
 .cases he
end
section
variable {C:ch} {w0 w:World} {F0 X F:Nat->Prop} {S:Nat->Nat->Prop} {s s1:az} {aJ:Nat->Value} {av:J}
def idx (C:ch) (T:TypeId) (x i:J):Option J:=
 match(C.T T).k,x,i with
 | .str,.str l,.int _ n=>if 0<=n then(match l[n.toNat]? with|some b=>some (.int .u8 b.toNat)|none=>none)else none
 |_,_,_=>none
theorem XG (l:arE) (n:Nat):(⟨⟨l⟩⟩:ByteArray)[n]? =l[n]? :=by
 by_cases h:n<l.length
 .have bM:n<(⟨⟨l⟩⟩:ByteArray).size:=h;rw[getElem?_eq_getElem h,getElem?_pos (⟨⟨l⟩⟩:ByteArray) n bM];rfl
 .have bM:¬n<(⟨⟨l⟩⟩:ByteArray).size:=h;rw[getElem?_eq_none (by omega),getElem?_neg (⟨⟨l⟩⟩:ByteArray) n bM]
theorem XH (bB:C.fI) (h:b4 w0 F0 X F S s aJ w) {T:TypeId} {x i:J} {v p6:Value} (aE:aU w F s aJ x v (λ_=>False)) (al:aU w F s aJ i p6 (λ_=>False)) (he:idx C T x i=some av):
  Good C w0 F0 X aJ w (Instr.index T v p6) av s:=by
 unfold idx at he;split at he
 .rename_i l k n ao;have:=p7 aE;subst this;have:=q5 al;subst this;obtain⟨i,d,z,aW,a8,aY,bT,cF,cj,b0⟩:=bB.info (gY ao (by simp));rw[ao]at b0;have:=se b0;subst this;split at he
  .rename_i aZ;split at he
   .rename_i b ab;simp only[some.injEq]at he;subst he;refine Good.same h ?_ rfl (of_int _ _);simp[Instr.index,asIntOf,run_underlying cj,aZ,XG,ab]
   .cases he
  .cases he
 .cases he
def lenOf (s:az):J->Option Nat
 | .str l=>some l.length
 | .au=>some 0
 | .slice xs=>some xs.length
 | .h y q=>match J.sub q (s y)with
   |some (.af _ xs)=>some xs.length
   |_=>none
 |_=>none
def tr (C:ch) (s:az) (T:TypeId) (x:J):Option J:=
 match(C.T T).k,x with
 | .str,.str l=>some (.int .i64 l.length)
 | .slice _,.au=>some (.int .i64 0)
 | .slice _,.slice xs=>some (.int .i64 xs.length)
 | .slice _,.h y q=>match J.sub q (s y)with
   |some (.af _ xs)=>some (.int .i64 xs.length)
   |_=>none
 |_,_=>none
theorem Ey {xs:arM} {v:Value} {a0:Nat->Prop} (h:aU w F s aJ (.slice xs) v a0):(xs=[]/\∃a c,v= .slice a 0 c/\c<=maxLen/\(a=none->c=0))\/
  ∃b o cap fm sz,v= .slice (some ⟨b,o,none⟩) xs.length cap/\F b/\xs.length<=cap/\cap<=maxLen/\(∀d∈xs,d.wd=sz)/\iV w b o fm/\bm w F xs fm (λ_=>False):=by
 have bM:=(aU.c_ rfl).1 h;rw[aD,hX bM.1]at bM;obtain⟨_,⟨rfl,a,c,ag,aK⟩|⟨b,o,cap,fm,sz,ag,aK⟩⟩:=bM
 .simp at ag;exact .inl ⟨rfl,a,c,ag,aK⟩
 .simp at ag;exact .inr ⟨b,o,cap,fm,sz,ag,aK⟩
theorem XI (bB:C.fI) (h:b4 w0 F0 X F S s aJ w) {T ty:TypeId} {x:J} {v:Value} (aE:aU w F s aJ x v (λ_=>False)) (he:tr C s T x=some av):
  Good C w0 F0 X aJ w (Builtin.len_ #[T] ty #[v]) av s:=by
 unfold tr at he;split at he
 .rename_i l ao;have:=p7 aE;subst this;obtain⟨i,d,z,aW,a8,aY,bT,cF,cj,b0⟩:=bB.info (gY ao (by simp));rw[ao]at b0;have:=se b0;subst this;simp only[some.injEq]at he;subst he;refine Good.same h ?_ rfl (of_int _ _);simp[Builtin.len_,run_underlying cj,goInt];rfl
 .rename_i e ao;have:=tq aE;subst this;obtain⟨i,d,z,aW,a8,aY,bT,cF,cj,b0⟩:=bB.info (gY ao (by simp));rw[ao]at b0;have:=mV b0;subst this;simp only[some.injEq]at he;subst he;refine Good.same h ?_ rfl (of_int _ _);simp[Builtin.len_,run_underlying cj,goInt]
 .rename_i e xs ao;obtain⟨i,d,z,aW,a8,aY,bT,cF,cj,b0⟩:=bB.info (gY ao (by simp));rw[ao]at b0;have:=mV b0;subst this;simp only[some.injEq]at he;subst he;refine Good.same h ?_ rfl (of_int _ _);rcases Ey aE with⟨rfl,a,c,rfl,_⟩|⟨b,o,cap,fm,sz,rfl,_⟩<;>simp[Builtin.len_,run_underlying cj,goInt]
 .rename_i e y q ao;split at he
  .rename_i sz xs ak;obtain⟨i,d,z,aW,a8,aY,bT,cF,cj,b0⟩:=bB.info (gY ao (by simp));rw[ao]at b0;have:=mV b0;subst this;simp only[some.injEq]at he;subst he;refine Good.same h ?_ rfl (of_int _ _);rcases I0 h aE ak with⟨rfl,_,rfl⟩|⟨b,cap,cur,a8,fr,rfl,_⟩<;>simp[Builtin.len_,run_underlying cj,goInt]
  .cases he
 .cases he
def bytesOf:arM->Option arE
 |[]=>some []
 | .int .u8 n::r=>if 0<=n/\n<256 then(bytesOf r).map (UInt8.ofNat n.toNat::·)else none
 |_=>none
def mu (b:UInt8):J:=.int .u8 b.toNat
theorem XJ (l:arE):bytesOf (l.map mu)=some l:=by
 induction l with
 |nil=>rfl
 |cons b l ih=>
  have ab:b.toNat<256:=b.toNat_lt;simp only[map_cons,mu,bytesOf,Int.toNat_natCast];rw[if_pos (by omega),ih];simp
theorem I2:∀(xs:arM) (l:arE) (cs:arK) (a0:Nat->Prop),bytesOf xs=some l->bm w F xs cs a0->cs=l.map (λb=>.int .u8 (b.toNat:Int))/\xs.length=l.length
 |[],l,cs,a0,h,a4=>by simp[bytesOf]at h;subst h;rw[bm]at a4;subst a4;exact⟨rfl,rfl⟩
 |x::xs,l,cs,a0,h,a4=>by
  unfold bytesOf at h;split at h
  .rename_i e;cases e
  .rename_i n r e;simp only[cons.injEq]at e;obtain⟨rfl,rfl⟩:=e;split at h
   .rename_i aZ;simp only[map_eq_some_iff]at h;obtain⟨cb,ae,rfl⟩:=h;rw[bm]at a4;obtain⟨b2,cc,cA,eo,rfl,ag,aK,_⟩:=a4;obtain⟨rfl,a3⟩:=I2 xs cb cc eo ae aK;rw[aD]at ag;subst ag;refine⟨?_,by simp[a3]⟩;simp only[map_cons,cons_append,nil_append,cons.injEq,and_true,Value.int.injEq,true_and];simp only[UInt8.toNat_ofNat'];omega
   .cases h
  .cases h
theorem b4.AY (h:b4 w0 F0 X F S s aJ w) {aQ:World} {sz cap:Nat} {xs:arM} {cur:Array Value} {e:TypeId} {fr:Nat×Nat} {Sn:Nat->Prop}
  (hw:aQ.heap=w.heap.push (.cells cur e fr)) (ae:aQ.os=w.os) (ag:aQ.tape=w.tape) (aK:Out aQ w)
  (bo:oy fr (cur.size+(sz-1))) (hle:xs.length<=cap) (hm:cap<=maxLen) (e4:cur.size=cap*sz) (l1:∀d∈xs,d.wd=sz) (aE:bm w F xs (cur.toList.take (xs.length*sz)) Sn)
  (e2:∀b,Sn b->b<w.heap.size) (bt:∀b,Sn b->¬F b) (cf:∀u b,Sn b->¬S u b) (a5:∀b,Sn b->X b\/w0.heap.size<=b):
  b4 w0 F0 X F S s aJ aQ/\mU w0 X F S s aJ aQ (.af sz xs) (.slice (some ⟨w.heap.size,0,none⟩) xs.length cap):=by
 have hold:∀b,b<w.heap.size->aQ.heap[b]? =w.heap[b]? :=by
  intro b ab;rw[hw,Array.getElem?_push,if_neg (by omega)]
 have aph:aQ.heap.size=w.heap.size+1:=by rw[hw];simp
 refine⟨h.grow hold (by omega) ae ag aK,.inr ⟨rfl,rfl,λb=>b=w.heap.size\/Sn b,?_,?_,?_,?_,?_⟩⟩
 .simp only[cP,jn];rw[aD];refine .inr ⟨w.heap.size,cap,cur,e,fr,Sn,rfl,.inl rfl,?_,bo,hle,hm,e4,l1,?_,λc ax=>.inr ax,λax=>Nat.lt_irrefl _ (e2 _ ax)⟩
  .rw[hw];simp
  .exact bm.frame (λb ab=>hold b (h.gE b ab)) _ _ _ (λb ab=>hold b (e2 b ab)) aE
 .rintro b (rfl|ab)
  .omega
  .have:=e2 b ab;omega
 .rintro b (rfl|ab) tp
  .exact Nat.lt_irrefl _ (h.gE _ tp)
  .exact bt b ab tp
 .rintro u b (rfl|ab) hu
  .exact Nat.lt_irrefl _ (h.fH _ _ hu)
  .exact cf u b ab hu
 .rintro b (rfl|ab)
  .exact .inr h.size
  .exact a5 b ab
def j7 (C:ch) (s:az) (A B:TypeId) (x:J):Option J:=
 if(C.T A).ok=true then
 match(C.T B).k,x with
 | .int k,.int _ n=>some (.int k (k.wrap n))
 | .str,.str l=>match(C.T A).k with
   | .str=>some (.str l)
   |_=>none
 | .str,x=>match(C.T A).k with
   | .slice e=>match(C.T e).k with
     | .int .u8=>match x with
       | .au=>some (.str [])
       | .slice xs=>(bytesOf xs).map .str
       | .h y q=>match J.sub q (s y)with
         |some (.af 1 xs)=>(bytesOf xs).map .str
         |_=>none
       |_=>none
     |_=>none
   |_=>none
 | .slice e,.str l=>match(C.T A).k,(C.T e).k with
   | .str,.int .u8=>if l.length<=9223372036854775807 then some (.af 1 (l.map mu))else none
   |_,_=>none
 |_,_=>none
 else none
theorem Qa (l:arE) (a0:Nat->Prop):bm w F (l.map mu) (l.map λb=>.int .u8 (b.toNat:Int)) a0:=by
 induction l generalizing a0 with
 |nil=>simp only[map_nil];rw[bm]
 |cons b l ih=>
  simp only[map_cons];rw[bm];exact⟨[.int .u8 (b.toNat:Int)],_,λ_=>False,λ_=>False,rfl,by rw[mu,aD],ih _,λ_ h=>h.elim,λ_ h=>h.elim,λ_ h=>h.elim⟩
theorem XK (bB:C.fI) (h:b4 w0 F0 X F S s aJ w) {A B:TypeId} {x:J} {v:Value} (aE:aU w F s aJ x v (λ_=>False)) (he:j7 C s A B x=some av):
  Good C w0 F0 X aJ w (convert A B v) av s:=by
 unfold j7 at he;split at he
 .rename_i h4;obtain⟨j0,api,apj,R,aM,bG,dM,AZ,si,sj⟩:=bB.info h4;split at he
  .rename_i k cZ n ao;have:=q5 aE;subst this;obtain⟨i,d,z,aW,a8,aY,bT,cF,cj,b0⟩:=bB.info (gY ao (by simp));rw[ao]at b0;have:=AP b0;subst this;simp only[some.injEq]at he;subst he;refine Good.same h ?_ rfl (of_int _ _);simp[convert,run_underlying si,run_underlying cj,Conv.intToInt]
  .rename_i l ao;have:=p7 aE;subst this;obtain⟨i,d,z,aW,a8,aY,bT,cF,cj,b0⟩:=bB.info (gY ao (by simp));rw[ao]at b0;have:=se b0;subst this;split at he
   .rename_i j8;rw[j8]at sj;have:=se sj;subst this;simp only[some.injEq]at he;subst he;refine Good.same h ?_ rfl (q6 _);simp[convert,run_underlying si,run_underlying cj]
   .cases he
  .rename_i x ao _;obtain⟨i,d,z,aW,a8,aY,bT,cF,cj,b0⟩:=bB.info (gY ao (by simp));rw[ao]at b0;have:=se b0;subst this;split at he
   .rename_i e j8;rw[j8]at sj;have:=mV sj;subst this;split at he
    .rename_i A0;obtain⟨tl,bE,tm,f1,f2,f3,f4,f5,f6,f7⟩:=bB.info (gY A0 (by simp));rw[A0]at f7;have:=AP f7;subst this;have fin:∀(l:arE) (b o cap:Nat),iV w b o (l.map λb=>.int .u8 (b.toNat:Int))->(convert A B (.slice (some ⟨b,o,none⟩) l.length cap)).run C.P w= .ok (.string ⟨⟨l⟩⟩) w:=by
      intro l b o cap k5;refine run_convert_bytes_back w A B e ⟨b,o,none⟩ cap l si f6 cj (λj bP=>?_);rw[Addr.add_lit];exact k5 j _ (by simp[bP])
     have nil:(convert A B (.slice none 0 0)).run C.P w= .ok (.string ⟨⟨[]⟩⟩) w:=by
      simp[convert,run_underlying si,run_underlying cj,run_underlying f6,Conv.bytesToString];rfl
     split at he
     .have:=tq aE;subst this;simp only[some.injEq]at he;subst he;exact Good.same h nil rfl (q6 _)
     .rename_i xs _;simp only[map_eq_some_iff]at he;obtain⟨l,hl,rfl⟩:=he;rcases Ey aE with⟨rfl,a,c,rfl,_,wk⟩|⟨b,o,cap,fm,sz,rfl,ae,ag,aK,a3,bI,dc⟩
      .simp[bytesOf]at hl;subst hl;cases a with
       |none=>
        have:=wk rfl;subst this;exact Good.same h nil rfl (q6 _)
       |some a=>
        refine Good.same h ?_ rfl (q6 _);exact run_convert_bytes_back w A B e a c [] si f6 cj (λj bP=>by simp at bP)
      .obtain⟨rfl,c6⟩:=I2 xs l fm _ hl dc;rw[c6];exact Good.same h (fin l b o cap bI) rfl (q6 _)
     .rename_i y q;split at he
      .rename_i xs ak;simp only[map_eq_some_iff]at he;obtain⟨l,hl,rfl⟩:=he;rcases I0 h aE ak with⟨rfl,a,rfl⟩|⟨b,cap,cur,a8,fr,rfl,ae,ag,aK,a3,bI,dc,a0,c6,_⟩
       .simp[bytesOf]at hl;subst hl;cases a with
        |none=>exact Good.same h nil rfl (q6 _)
        |some a=>
         refine Good.same h ?_ rfl (q6 _);exact run_convert_bytes_back w A B e a 0 [] si f6 cj (λj bP=>by simp at bP)
       .obtain⟨gy,jy⟩:=I2 xs l _ _ hl c6;rw[jy];refine Good.same h (fin l b 0 cap ?_) rfl (q6 _);rw[<-gy];exact x_ ae _
      .cases he
     .cases he
    .cases he
   .cases he
  .rename_i e l ao;have:=p7 aE;subst this;obtain⟨i,d,z,aW,a8,aY,bT,cF,cj,b0⟩:=bB.info (gY ao (by simp));rw[ao]at b0;have:=mV b0;subst this;split at he
   .rename_i j8 A0;rw[j8]at sj;have:=se sj;subst this;obtain⟨tl,bE,tm,f1,f2,f3,f4,f5,f6,f7⟩:=bB.info (gY A0 (by simp));rw[A0]at f7;have:=AP f7;subst this;split at he
    .rename_i hl;simp only[some.injEq]at he;subst he;have ad:(⟨⟨l⟩⟩:ByteArray).size=l.length:=rfl;have yg:=grownCap_ge w l.length 0 e;have XL:=grownCap_le_maxLen w l.length 0 e (by unfold maxLen;omega);have Qb:(bytesRow ⟨⟨l⟩⟩ (grownCap w l.length 0 e)).toList=l.map (λb=>Value.int .u8 (b.toNat:Int))++replicate (grownCap w l.length 0 e-l.length) (.int .u8 0):=by
      simp[bytesRow,ad]
     have e4:(bytesRow ⟨⟨l⟩⟩ (grownCap w l.length 0 e)).size=grownCap w l.length 0 e*1:=by
      have:(bytesRow ⟨⟨l⟩⟩ (grownCap w l.length 0 e)).size=(bytesRow ⟨⟨l⟩⟩ (grownCap w l.length 0 e)).toList.length:=by simp
      rw[this,Qb];simp;omega
     have wi:=run_bytes_of_string w A B e ⟨⟨l⟩⟩ si cj f6;rw[ad]at wi;have lA:=h.AY (aQ:=w.drew.alloc (.cells (bytesRow ⟨⟨l⟩⟩ (grownCap w l.length 0 e)) e ((bytesRow ⟨⟨l⟩⟩ (grownCap w l.length 0 e)).size,(bytesRow ⟨⟨l⟩⟩ (grownCap w l.length 0 e)).size+1)))
      (sz:=1) (cap:=grownCap w l.length 0 e) (xs:=l.map mu) (cur:=bytesRow ⟨⟨l⟩⟩ (grownCap w l.length 0 e)) (e:=e) (Sn:=λ_=>False) rfl rfl rfl ⟨rfl,λ_=>le_succ _⟩
      (λo b_ ⟨ae,_⟩=>by simp only at ae;omega) (by simpa using yg) XL e4 (by intro d ak;obtain⟨b,_,rfl⟩:=mem_map.1 ak;rfl)
      (by rw[Qb,take_left' (by simp)];exact Qa l _) (λ_ h=>h.elim) (λ_ h=>h.elim) (λ_ _ h=>h.elim) (λ_ h=>h.elim)
     simp only[length_map]at lA;exact⟨_,_,F,S,wi,lA.1,lA.2⟩
    .cases he
   .cases he
  .cases he
 .cases he
end
section
variable {C:ch} {w0 w:World} {F0 X F:Nat->Prop} {S:Nat->Nat->Prop} {s s1:az} {aJ:Nat->Value} {av:J}
def i6 (d:Nat):Option J->Option Nat
 |none=>some d
 |some (.int _ n)=>if 0<=n then some n.toNat else none
 |some _=>none
def gR (C:ch) (s:az) (T:TypeId) (x:J) (fB al:Option J):Option (J×az):=
 match(C.T T).k,x with
 | .str,.str l=>match i6 0 fB,i6 l.length al with
   |some a,some b=>if a<=b/\b<=l.length then some (.str ((l.take b).drop a),s)else none
   |_,_=>none
 | .slice e,.au=>match i6 0 fB,i6 0 al with
   |some 0,some 0=>if(C.T e).ok=true then some (.au,s)else none
   |_,_=>none
 | .slice e,.slice xs=>match i6 0 fB,i6 xs.length al with
   |some a,some b=>if a<=b/\b<=xs.length/\(C.T e).ok=true/\(∀d∈xs,d.wd=(C.T e).sz)then some (.slice ((xs.take b).drop a),s)else none
   |_,_=>none
 | .slice e,.h y q=>match J.sub q (s y)with
   |some (.af sz xs)=>match i6 0 fB,i6 xs.length al with
    |some 0,some b=>if b<=xs.length/\(C.T e).ok=true then(match dq s (.h y q)with|some (_,s1)=>some (.af sz (xs.take b),s1)|none=>none)else none
    |_,_=>none
   |_=>none
 |_,_=>none
def ts (w:World) (F:Nat->Prop) (s:az) (aJ:Nat->Value):Option J->Option Value->Prop
 |none,none=>True
 |some d,some v=>aU w F s aJ d v (λ_=>False)
 |_,_=>False
theorem Qc {d:Nat} {o:Option J} {v:Option Value} (b_:ts w F s aJ o v) {a:Nat} (h:i6 d o=some a):(o=none/\v=none/\a=d)\/∃k,v=some (.int k a):=by
 cases o with
 |none=>
  cases v with
  |none=>simp[i6]at h;exact .inl ⟨rfl,rfl,h.symm⟩
  |some v=>simp[ts]at b_
 |some x=>
  cases v with
  |none=>simp[ts]at b_
  |some v=>
   simp only[ts]at b_;cases x with
   |int k n=>
    have:=q5 b_;subst this;simp only[i6]at h;split at h
    .rename_i aZ;simp only[some.injEq]at h;subst h;obtain⟨m,rfl⟩:=Int.eq_ofNat_of_zero_le aZ;exact .inr ⟨k,rfl⟩
    .cases h
   |_=>simp[i6]at h
theorem yh {P:Program} {isS:Bool} {len cap a b:Nat} {fB al:Option J} {wo wq:Option Value} (p9:ts w F s aJ fB wo) (p_:ts w F s aJ al wq) (b6:i6 0 fB=some a) (ab:i6 len al=some b) (jK:a<=b) (XM:b<=cap) (_hlc:len<=cap):
  (Instr.sliceBounds isS len cap wo wq none).run P w= .ok (a,b,cap) w:=by
 rcases Qc p9 b6 with⟨_,rfl,rfl⟩|⟨k,rfl⟩<;>rcases Qc p_ ab with⟨_,rfl,rfl⟩|⟨cZ,rfl⟩<;>
  simp[Instr.sliceBounds,Instr.sliceBound,asIntOf,jK,XM]
theorem yi (bB:C.fI) {T:TypeId} (ao:(C.T T).flat=true) (v:Value) (fB al fs:Option Value) (w:World):(Instr.sliceAt T v fB al fs).run C.P w=(Instr.slice T v fB al fs).run C.P w:=by
 obtain⟨i,d,z,aW,a8,aY,bT,cF,cj,b0⟩:=bB.info (PS ao);have ee:∀n e,d≠.array n e:=by
  clear cj;unfold hr.flat at ao;generalize (C.T T).k=k8 at*;cases k8<;>cases d<;>simp[mT]at b0 ao⊢
 cases d<;>first|exact(ee _ _ rfl).elim|simp[Instr.sliceAt,run_underlying cj]
theorem yj {x:hr} {k:oA} (h:x.k=k) (ao:k≠.other) (ad:∀aH,k≠.struct aH) (ab:∀e,k≠.ey e:=by simp):x.flat=true:=by
 unfold hr.flat;rw[h];cases k<;>first|rfl|exact(ao rfl).elim|exact(ab _ rfl).elim|exact(ad _ rfl).elim
theorem bm.split:∀(n:Nat) (xs:arM) (cs:arK) (a0:Nat->Prop),bm w F xs cs a0->∃b2 cc cA eo,cs=b2++cc/\bm w F (xs.take n) b2 cA/\bm w F (xs.drop n) cc eo/\(∀b,cA b->a0 b)/\(∀b,eo b->a0 b)/\(∀b,cA b->¬eo b)
 |0,xs,cs,a0,h=>⟨[],cs,λ_=>False,a0,rfl,by rw[take_zero,bm],h,λ_ h=>h.elim,λ_ h=>h,λ_ h=>h.elim⟩
 |n+1,[],cs,a0,h=>by rw[bm]at h;subst h;exact⟨[],[],λ_=>False,λ_=>False,rfl,by rw[take_nil,bm],by rw[drop_nil,bm],λ_ h=>h.elim,λ_ h=>h.elim,λ_ h=>h.elim⟩
 |n+1,x::xs,cs,a0,h=>by
  rw[bm]at h;obtain⟨b2,cc,iH,hW,rfl,ae,ag,aK,a3,bI⟩:=h;obtain⟨d1,d2,cA,eo,rfl,a2,bq,ck,eE,fP⟩:=bm.split n xs cc hW ag;refine⟨b2++d1,d2,λb=>iH b\/cA b,eo,by simp,?_,bq,?_,λb ab=>a3 _ (eE _ ab),?_⟩
  .rw[take_succ_cons,bm];exact⟨b2,d1,iH,cA,rfl,ae,a2,λ_ h=>.inl h,λ_ h=>.inr h,λb ab ax=>bI b ab (ck b ax)⟩
  .rintro b (ab|ab)
   .exact aK b ab
   .exact a3 b (ck b ab)
  .rintro b (ab|ab) ax
   .exact bI b ab (eE b ax)
   .exact fP b ab ax
theorem XN (bB:C.fI) (h:b4 w0 F0 X F S s aJ w) {T:TypeId} {x:J} {v:Value} {fB al:Option J} {wo wq:Option Value} (ay:x.plain=true) (aE:aU w F s aJ x v (λ_=>False)) (p9:ts w F s aJ fB wo) (p_:ts w F s aJ al wq)
  (he:gR C s T x fB al=some (av,s1)):Good C w0 F0 X aJ w (Instr.sliceAt T v wo wq none) av s1:=by
 unfold gR at he;split at he
 .rename_i l ao;have:=p7 aE;subst this;obtain⟨i,d,z,aW,a8,aY,bT,cF,cj,b0⟩:=bB.info (gY ao (by simp));rw[ao]at b0;have:=se b0;subst this;split at he
  .rename_i a b b6 ab;split at he
   .rename_i jK;simp only[some.injEq,Prod.mk.injEq]at he;obtain⟨rfl,rfl⟩:=he;refine Good.same h ?_ rfl (q6 _);rw[yi bB (yj ao (by simp) (by simp))];have e4:(⟨⟨l⟩⟩:ByteArray).size=l.length:=rfl;have qa:=yh (P:=C.P) (isS:=false) (len:=l.length) (cap:=l.length) p9 p_ b6 ab jK.1 jK.2 (Nat.le_refl _);have XO:(⟨⟨l⟩⟩:ByteArray).extract a b=⟨⟨(l.take b).drop a⟩⟩:=by
     apply ByteArray.ext;simp[ByteArray.data_extract,drop_take]
    simp[Instr.slice,run_underlying cj,e4,qa,XO]
   .cases he
  .cases he
 .rename_i e ao;have:=tq aE;subst this;obtain⟨i,d,z,aW,a8,aY,bT,cF,cj,b0⟩:=bB.info (gY ao (by simp));rw[ao]at b0;have:=mV b0;subst this;split at he
  .rename_i b6 ab;split at he
   .rename_i q8;obtain⟨tl,bE,tm,f1,f2,f3,f4,f5,f6,f7⟩:=bB.info q8;simp only[some.injEq,Prod.mk.injEq]at he;obtain⟨rfl,rfl⟩:=he;have qa:=yh (P:=C.P) (isS:=true) (len:=0) (cap:=0) p9 p_ b6 ab (Nat.le_refl _) (Nat.le_refl _) (Nat.le_refl _);refine Good.same h (v:=.slice none 0 0) ?_ rfl aE;rw[yi bB (yj ao (by simp) (by simp))];simp[Instr.slice,run_underlying cj,qa,k7 f1,f2]
   .cases he
  .cases he
 .rename_i e xs ao;obtain⟨i,d,z,aW,a8,aY,bT,cF,cj,b0⟩:=bB.info (gY ao (by simp));rw[ao]at b0;have:=mV b0;subst this;split at he
  .rename_i a b b6 ab;split at he
   .rename_i jK;obtain⟨XP,Qd,q8,l1⟩:=jK;obtain⟨tl,bE,tm,f1,f2,f3,f4,f5,f6,f7⟩:=bB.info q8;simp only[some.injEq,Prod.mk.injEq]at he;obtain⟨rfl,rfl⟩:=he;rcases Ey aE with⟨rfl,yk,c,rfl,A1,wk⟩|⟨kU,o,cap,fm,sz,rfl,ae,ag,aK,a3,bI,dc⟩
    .have iK:b=0:=by simpa using Qd
     subst iK;have XQ:a=0:=by omega
     subst XQ;have qa:=yh (P:=C.P) (isS:=true) (len:=0) (cap:=c) p9 p_ b6 ab (Nat.le_refl _) (zero_le _) (zero_le _);refine Good.same h (v:=.slice yk 0 c) ?_ rfl ((aU.c_ rfl).2 ⟨rfl,by rw[aD];exact .inl ⟨rfl,yk,c,rfl,A1,wk⟩⟩);rw[yi bB (yj ao (by simp) (by simp))];cases yk with
     |none=>
      have:=wk rfl;subst this;simp[Instr.slice,run_underlying cj,qa,k7 f1,f2]
     |some yk=>simp[Instr.slice,run_underlying cj,qa,k7 f1,f2,Addr.add]
    .have qa:=yh (P:=C.P) (isS:=true) (len:=xs.length) (cap:=cap) p9 p_ b6 ab XP (Nat.le_trans Qd ag) ag;obtain⟨b2,cc,cA,eo,rfl,a2,bq,ck,eE,fP⟩:=bm.split b xs fm _ dc;obtain⟨d1,d2,apk,Qe,rfl,b3,cv,fz,ez,fR⟩:=bm.split a (xs.take b) b2 _ a2;have I3:d1.length=a*(C.T e).sz:=by
      rw[bm.length _ _ _ b3,v9 _ (λd ak=>l1 d (mem_of_mem_take (mem_of_mem_take ak))),length_take,length_take];congr 1;omega
     have hlen:((xs.take b).drop a).length=b-a:=by simp;omega
     have k5:iV w kU (o+a*(C.T e).sz) d2:=by
      rw[<-I3];have:iV w kU o (d1++(d2++cc)):=by simpa using bI
      exact this.IU
     have Ez:bm w F ((xs.take b).drop a) d2 (λ_=>False):=bm.mono (λ_ h=>h) _ _ _ _ (λb ab=>(ck _ (ez _ ab)).elim) cv;have mem:∀d∈(xs.take b).drop a,d.wd=sz:=λd ak=>a3 d (mem_of_mem_take (mem_of_mem_drop ak));have run:(Instr.sliceAt T (.slice (some ⟨kU,o,none⟩) xs.length cap) wo wq none).run C.P w= .ok (.slice (if cap=a then some ⟨kU,o,none⟩else some ⟨kU,o+a*(C.T e).sz,none⟩) (b-a) (cap-a)) w:=by
      rw[yi bB (yj ao (by simp) (by simp))];simp[Instr.slice,run_underlying cj,qa,k7 f1,f2,Addr.add_lit]
     refine⟨_,w,F,S,run,h,.inl ⟨rfl,(aU.c_ rfl).2 ⟨rfl,?_⟩⟩⟩;simp only[cP,jn];rw[aD];by_cases Qf:cap=a
     .have XR:b=a:=by omega
      subst XR;have A2:(xs.take b).drop b=[]:=by simp
      rw[if_pos Qf];rw[A2]at Ez⊢;rw[bm]at Ez;subst Ez;exact .inr ⟨kU,o,cap-b,[],sz,by simp,ae,zero_le _,by omega,by simp,λj c bP=>by simp at bP,by rw[bm]⟩
     .rw[if_neg Qf];exact .inr ⟨kU,_,cap-a,d2,sz,by rw[hlen],ae,by rw[hlen];omega,by omega,mem,k5,Ez⟩
   .cases he
  .cases he
 .rename_i e y q ao;split at he
  .rename_i sz xs ak;split at he
   .rename_i b b6 ab;split at he
    .rename_i uO;split at he
     .rename_i AU s2 bc;simp only[some.injEq,Prod.mk.injEq]at he;obtain⟨rfl,rfl⟩:=he;obtain⟨i,d,z,aW,a8,aY,bT,cF,cj,b0⟩:=bB.info (gY ao (by simp));rw[ao]at b0;have:=mV b0;subst this;obtain⟨tl,bE,tm,f1,f2,f3,f4,f5,f6,f7⟩:=bB.info uO.2;have wm:AU= .af sz xs:=by
       simp only[dq,ak,J.plain]at bc;simp at bc;exact bc.1.symm
      subst wm;obtain⟨cA,fM,a2,bq,Sn,ck,eE,fP,g0,j1,nq⟩:=qY h rfl aE bc;rw[hX bq,aD]at ck;rcases ck with⟨rfl,I,l6⟩|⟨kU,cap,cur,fS,fr,a0,l6,b3,cv,fz,ez,fR,dj,jO,dx,nU,uP⟩
      .simp at l6;subst l6;have iK:b=0:=by simpa using uO.1
       subst iK;have qa:=yh (P:=C.P) (isS:=true) (len:=0) (cap:=0) p9 p_ b6 ab (Nat.le_refl _) (Nat.le_refl _) (Nat.le_refl _);refine⟨.slice I 0 0,w,F,cA,?_,fM,.inr ⟨rfl,rfl,λ_=>False,by simp only[cP,jn];rw[aD];exact .inl ⟨rfl,_,rfl⟩,λ_ h=>h.elim,λ_ h=>h.elim,λ_ _ h=>h.elim,λ_ h=>h.elim⟩⟩;rw[yi bB (yj ao (by simp) (by simp))];cases I<;>simp[Instr.slice,run_underlying cj,qa,k7 f1,f2]
      .simp at l6;subst l6;have qa:=yh (P:=C.P) (isS:=true) (len:=xs.length) (cap:=cap) p9 p_ b6 ab (zero_le _) (Nat.le_trans uO.1 ez) ez;have hlen:(xs.take b).length=b:=by simp;omega
       have run:(Instr.sliceAt T (.slice (some ⟨kU,0,none⟩) xs.length cap) wo wq none).run C.P w= .ok (.slice (some ⟨kU,0,none⟩) b cap) w:=by
        rw[yi bB (yj ao (by simp) (by simp))];simp[Instr.slice,run_underlying cj,qa,k7 f1,f2,Addr.add_lit]
       refine⟨_,w,F,cA,run,fM,.inr ⟨rfl,rfl,Sn,?_,eE,fP,g0,j1⟩⟩;simp only[cP,jn];rw[aD];obtain⟨b2,cc,iH,hW,ax,gk,ht,iJ,kS,nr⟩:=bm.split b xs _ _ dx;refine .inr ⟨kU,cap,cur,fS,fr,a0,by rw[hlen],b3,cv,fz,by omega,fR,dj,λd ak=>jO d (mem_of_mem_take ak),?_,nU,uP⟩;have I3:b2.length=b*sz:=by
        rw[bm.length _ _ _ gk,v9 _ (λd ak=>jO d (mem_of_mem_take ak)),hlen]
       have:cur.toList.take ((xs.take b).length*sz)=b2:=by
        rw[hlen];have ag:b*sz<=xs.length*sz:=mul_le_mul_right _ uO.1;have:(cur.toList.take (xs.length*sz)).take (b*sz)=b2:=by rw[ax,take_left' I3]
        rwa [take_take,Nat.min_eq_left ag]at this
       rw[this];exact bm.mono (λ_ h=>h) _ _ _ _ iJ gk
     .cases he
    .cases he
   .cases he
  .cases he
 .cases he
end
section
variable {C:ch} {w0 w:World} {F0 X F:Nat->Prop} {S:Nat->Nat->Prop} {s s1:az} {aJ:Nat->Value} {av:J}
def Src (P:Program) (w:World) (size:Nat) (x:Value) (m:Nat) (news:arK):Prop:=
 ∀aQ:World,aQ.heap=w.heap->(Builtin.lenOf x).run P aQ= .ok m aQ/\(Builtin.firstCells size m x).run P aQ= .ok news.toArray aQ
def I4 (d:TypeDesc):Prop:=(∃e,d= .slice e)\/d= .string
theorem XS {P:Program} {T cC ty e:TypeId} {tt:TypeDesc} {i:TypeInfo} (bc:P.underlying T=some (.slice e)) (hu:P.underlying cC=some tt) (wt:I4 tt) (al:P.info? e=some i)
  {x:Value} {m:Nat} {news:arK} (EA:Src P w i.size x m news) {b n cap:Nat} {cur:Array Value} {fS:TypeId} {fr:Nat×Nat} {l mid r:arK} (ab:w.heap[b]? =some (.cells cur fS fr)) (bo:oy fr cur.size)
  (ax:cur.toList=l++(mid++r)) (hl:l.length=n*i.size) (hm:mid.length=news.length) (Eu:∀v∈news,Value.hp v=true) (sk:n+m<=cap):
  ∃aQ,(Builtin.append_ #[T,cC] ty #[.slice (some ⟨b,0,none⟩) n cap,x]).run P w= .ok (.slice (some ⟨b,0,none⟩) (n+m) cap) aQ/\aQ.heap[b]? =some (.cells (l++(news++r)).toArray fS fr)/\
   (∀c,c≠b->aQ.heap[c]? =w.heap[c]?)/\aQ.heap.size=w.heap.size/\aQ.os=w.os/\aQ.tape=w.tape/\Out aQ w:=by
 obtain⟨aQ,gk,ht⟩:=Et (P:=P) (b:=b) (o:=n*i.size) (e:=fS) (fr:=fr) news 0 cur w l mid r ab bo ax (by omega) hm Eu;refine⟨aQ,?_,ht⟩;obtain⟨ae,ag⟩:=EA w rfl;rcases wt with⟨fQ,rfl⟩|rfl<;>simp[Builtin.append_,run_underlying bc,run_underlying hu,k7 al,ae,ag,sk,Addr.add_lit,gk]
theorem XT {P:Program} {T cC ty e:TypeId} {tt:TypeDesc} {i:TypeInfo} {z:Value} (bc:P.underlying T=some (.slice e)) (hu:P.underlying cC=some tt) (wt:I4 tt) (al:P.info? e=some i) (ca:i.zero=some z)
  {x:Value} {m:Nat} {news:arK} (EA:Src P w i.size x m news) {base:Option Addr} {n cap:Nat} {q9:arK} (hold:Src P w i.size (.slice base n cap) n q9) (sk:¬n+m<=cap)
  (aZ:n+m<=9223372036854775807) (I5:(n+m)*i.bytes<=140737488355328):
  (Builtin.append_ #[T,cC] ty #[.slice base n cap,x]).run P w= .ok (.slice (some ⟨w.heap.size,0,none⟩) (n+m) (grownCap w (n+m) cap e))
   (w.drew.alloc (.cells (q9.toArray++news.toArray++Builtin.zeroCells z.cells (grownCap w (n+m) cap e-(n+m))) e)):=by
 have ae:=(EA w rfl).1;have ag:=(EA w.drew rfl).2;have aK:=(hold w.drew rfl).2;have apl:=growslice_fits (need:=n+m) (old:=cap) (by omega) I5;have i_:¬(281474976710656<Builtin.nextslicecap (n+m) cap*i.bytes):=by omega
 have yl:∀k (w:World),(askRoom k).run P w= .ok () w:=by
  intro k w;unfold askRoom;split<;>rfl
 have I6:¬(9223372036854775807<(n:Int)+(m:Int)/\i.bytes=0):=by omega
 rcases wt with⟨fQ,rfl⟩|rfl<;>
  .simp[Builtin.append_,run_underlying bc,run_underlying hu,k7 al,wg al,ae,sk,i_,Question.forced,yl];rw[if_neg I6,aK];simp[ag,uJ al ca,newRow,grownCap];have aW:(q9++news).toArray=q9.toArray++news.toArray:=by simp
   rw[aW,Array.append_assoc]
def EB (C:ch) (e cC:TypeId):Bool:=match(C.T cC).k,(C.T e).k with
 | .slice fQ,_=>fQ==e
 | .str,.int .u8=>true
 |_,_=>false
def tu (C:ch) (s:az) (T cC:TypeId) (x y:J):Option (J×az):=
 match(C.T T).k with
 | .slice e=>if(C.T e).ok=true/\(C.T e).zero.wd=(C.T e).sz/\(flat (C.T e).zero).isSome=true/\EB C e cC=true then
   match(match x with| .au=>some (J.af (C.T e).sz [],s)| .h a q=>dq s (.h a q)|_=>none)with
   |some (.af sz xs,s1)=>if sz=(C.T e).sz then
     match(match l5 x.owner y with
      | .au=>some ([],s1)
      | .slice c7=>some (c7,s1)
      | .str l=>some (l.map mu,s1)
      | .h a q=>match dq s1 (.h a q)with
        |some (.af _ c7,s2)=>some (c7,s2)
        |_=>none
      |_=>none)with
     |some (c7,s2)=>if(∀d∈c7,d.wd=(C.T e).sz)/\(xs.length+c7.length)*(C.T e).bytes<=140737488355328/\xs.length+c7.length<=9223372036854775807 then some (.af sz (xs++c7),s2)else none
     |none=>none
    else none
   |_=>none
   else none
 |_=>none
theorem bm.append {xs c7:arM} {b2 cc:arK} {cA eo a0:Nat->Prop} (ae:bm w F xs b2 cA) (ag:bm w F c7 cc eo) (aW:∀b,cA b->a0 b) (a8:∀b,eo b->a0 b) (aY:∀b,cA b->¬eo b):bm w F (xs++c7) (b2++cc) a0:=by
 induction xs generalizing b2 cA a0 with
 |nil=>rw[bm]at ae;subst ae;exact bm.mono (λ_ h=>h) _ _ _ _ a8 ag
 |cons x xs ih=>
  rw[bm]at ae;obtain⟨XU,XV,iH,hW,rfl,a2,bq,ck,eE,fP⟩:=ae;rw[cons_append,bm];refine⟨XU,XV++cc,iH,λb=>hW b\/eo b,by simp,a2,ih bq (λb h=>.inl h) (λb h=>.inr h) (λb h=>aY b (eE b h)),λb h=>aW b (ck b h),?_,?_⟩
  .rintro b (h|h)
   .exact aW b (eE b h)
   .exact a8 b h
  .rintro b h (bM|bM)
   .exact fP b h bM
   .exact aY b (ck b h) bM
theorem I7 {P:Program} {size m cap:Nat} {b o:Nat} {news:arK} (k5:iV w b o news) (hl:news.length=m*size):Src P w size (.slice (some ⟨b,o,none⟩) m cap) m news:=by
 intro aQ hw;refine⟨rfl,?_⟩;refine run_firstCells_some aQ size m ⟨b,o,none⟩ m cap news hl (λj v bP=>?_);rw[Addr.add_lit];have:=k5 j v bP;simpa [World.cell?,hw]using this
theorem Qg {P:Program} {size cap:Nat}:Src P w size (.slice none 0 cap) 0 []:=by
 intro aQ _;exact⟨rfl,by simp[Builtin.firstCells]⟩
theorem I8 {P:Program} {size cap:Nat} (a:Option Addr):Src P w size (.slice a 0 cap) 0 []:=by
 cases a with
 |none=>exact Qg
 |some a=>
  intro aQ _;exact⟨rfl,run_firstCells_some aQ size 0 a 0 cap [] (by simp) (λj v bP=>by simp at bP)⟩
theorem XW {P:Program} (l:arE):Src P w 1 (.string ⟨⟨l⟩⟩) l.length (l.map λb=>.int .u8 (b.toNat:Int)):=by
 intro aQ _;refine⟨rfl,?_⟩;have:(⟨⟨l⟩⟩:ByteArray).extract 0 l.length=⟨⟨l⟩⟩:=by
  apply ByteArray.ext;simp[ByteArray.data_extract]
 simp[Builtin.firstCells,this]
theorem bm.wu {sz:Nat} {xs:arM} {cs:arK} {a0:Nat->Prop} (h:bm w F xs cs a0) (hw:∀d∈xs,d.wd=sz):cs.length=xs.length*sz:=by
 rw[bm.length _ _ _ h,v9 _ hw]
theorem b4.turn (h:b4 w0 F0 X F S s aJ w) {aQ:World} {b:Nat} (ab:∀c,c≠b->aQ.heap[c]? =w.heap[c]?) (ad:aQ.heap.size=w.heap.size) (ae:aQ.os=w.os) (ag:aQ.tape=w.tape) (aK:Out aQ w)
  (bt:¬F b) (cf:∀u,¬S u b) (a5:X b\/w0.heap.size<=b):b4 w0 F0 X F S s aJ aQ where
 ib:=h.ib
 iz:=h.iz
 gE:=λc ax=>by rw[ad];exact h.gE c ax
 fH:=λt c ax=>by rw[ad];exact h.fH t c ax
 gP:=h.gP
 gu:=h.gu
 eN:=h.eN
 ev:=λt=>aU.frame (Sx:=S) (λc ax=>ab c (by rintro rfl;exact bt ax)) (λ_ h=>h) (λx c ax=>ab c (by rintro rfl;exact cf x ax)) h.ev _ _ _ (λc ax=>ab c (by rintro rfl;exact cf t ax)) (h.ev t)
 old:=λc e2 ly=>by
  rw[ab c ?_]
  .exact h.old c e2 ly
  .rintro rfl;rcases a5 with a5|a5
   .exact ly a5
   .omega
 size:=by rw[ad];exact h.size
 os:=ae.trans h.os
 tape:=ag.trans h.tape
 output:=aK.trans h.output
 iA:=h.iA
theorem XX (bB:C.fI) (h:b4 w0 F0 X F S s aJ w) {T cC ty:TypeId} {x y:J} {iY jN:Value} (ay:aU w F s aJ x iY (λ_=>False)) (bz:aU w F s aJ y jN (λ_=>False))
  (he:tu C s T cC x y=some (av,s1)):Good C w0 F0 X aJ w (Builtin.append_ #[T,cC] ty #[iY,jN]) av s1:=by
 unfold tu at he;split at he
 .rename_i e ao;obtain⟨I9,d,I_,aW,a8,aY,bT,cF,cj,b0⟩:=bB.info (gY ao (by simp));rw[ao]at b0;have:=mV b0;subst this;split at he
  .rename_i wj;obtain⟨q8,sl,tv,sm⟩:=wj;obtain⟨i,Ja,z,f1,f2,f3,f4,f5,f6,f7⟩:=bB.info q8;obtain⟨gf,ns⟩:=isSome_iff_exists.1 tv;have tw:=f5 gf ns;have q_:gf.length=(C.T e).sz:=by
    have:=aD.length _ _ _ ((aD.flat (w:=w) (F:=F) _).1 (C.T e).zero gf (λ_=>False) (Nat.le_refl _) ns);rw[this,sl]
   obtain⟨tt,hu,wt⟩:∃tt,C.P.underlying cC=some tt/\I4 tt:=by
    unfold EB at sm;split at sm
    .rename_i fQ mv;obtain⟨_,bE,_,_,_,_,_,_,g0,j1⟩:=bB.info (gY mv (by simp));rw[mv]at j1;exact⟨bE,g0,.inl ⟨_,mV j1⟩⟩
    .rename_i mv _;obtain⟨_,bE,_,_,_,_,_,_,g0,j1⟩:=bB.info (gY mv (by simp));rw[mv]at j1;exact⟨bE,g0,.inr (se j1)⟩
    .cases sm
   split at he
   .rename_i sz xs Jb sn;split at he
    .rename_i e4;subst e4;split at he
     .rename_i c7 A3 qb;split at he
      .rename_i XY;obtain⟨ym,I5,Jc⟩:=XY;simp only[some.injEq,Prod.mk.injEq]at he;obtain⟨rfl,rfl⟩:=he;obtain⟨iH,I,Sn,bG,dM,AZ,si,sj,apm,apn,uQ⟩:∃iH,b4 w0 F0 X F iH Jb aJ w/\∃Sn,aD w F (.af (C.T e).sz xs) [iY] Sn/\(∀b,Sn b->b<w.heap.size)/\(∀b,Sn b->¬F b)/\(∀u b,Sn b->¬iH u b)/\
         (∀b,Sn b->X b\/w0.heap.size<=b)/\(∀u b,iH u b->S u b)/\(∀b,Sn b->∃u,S u b)/\aU w F Jb aJ (l5 x.owner y) jN (λ_=>False):=by
        split at sn
        .simp only[some.injEq,Prod.mk.injEq,J.af.injEq,true_and]at sn;obtain⟨rfl,rfl⟩:=sn;have:=tq ay;subst this;exact⟨S,h,λ_=>False,by rw[aD];exact .inl ⟨rfl,_,rfl⟩,λ_ h=>h.elim,λ_ h=>h.elim,λ_ _ h=>h.elim,λ_ h=>h.elim,λ_ _ h=>h,λ_ h=>h.elim,bz⟩
        .obtain⟨cA,fM,a2,bq,Sn,ck,eE,fP,g0,j1,nq,A4,EC⟩:=qY h rfl ay sn;rw[hX bq]at ck;exact⟨cA,fM,Sn,ck,eE,fP,g0,j1,nq,A4,EC _ _ _ bz⟩
        .cases sn
       obtain⟨hW,kU,ph,news,j5,ig,lB,bN,cS,eL,pj,cw⟩:∃hW,b4 w0 F0 X F hW A3 aJ w/\∃ph news,bm w F c7 news ph/\Src C.P w i.size jN c7.length news/\(∀b,ph b->b<w.heap.size)/\(∀b,ph b->¬F b)/\(∀u b,ph b->¬hW u b)/\
         (∀b,ph b->X b\/w0.heap.size<=b)/\(∀u b,hW u b->iH u b)/\(∀b,ph b->∃u,iH u b):=by
        split at qb
        .rename_i nV;simp only[some.injEq,Prod.mk.injEq]at qb;obtain⟨rfl,rfl⟩:=qb;rw[nV]at uQ;have:=tq uQ;subst this;exact⟨iH,I,λ_=>False,[],by rw[bm],Qg,λ_ h=>h.elim,λ_ h=>h.elim,λ_ _ h=>h.elim,λ_ h=>h.elim,λ_ _ h=>h,λ_ h=>h.elim⟩
        .rename_i fC nV;simp only[some.injEq,Prod.mk.injEq]at qb;obtain⟨rfl,rfl⟩:=qb;rw[nV]at uQ;rcases Ey uQ with⟨rfl,yk,apo,rfl,_,wk⟩|⟨b,o,cap,fm,XZ,rfl,b3,cv,fz,ez,fR,dj⟩
         .exact⟨iH,I,λ_=>False,[],by rw[bm],I8 yk,λ_ h=>h.elim,λ_ h=>h.elim,λ_ _ h=>h.elim,λ_ h=>h.elim,λ_ _ h=>h,λ_ h=>h.elim⟩
         .exact⟨iH,I,λ_=>False,fm,dj,I7 fR (by rw[f2];exact bm.wu dj ym),λ_ h=>h.elim,λ_ h=>h.elim,λ_ _ h=>h.elim,λ_ h=>h.elim,λ_ _ h=>h,λ_ h=>h.elim⟩
        .rename_i l nV;simp only[some.injEq,Prod.mk.injEq]at qb;obtain⟨rfl,rfl⟩:=qb;rw[nV]at uQ;have:=p7 uQ;subst this;have ED:l≠[]->i.size=1:=by
          intro hl;cases l with
          |nil=>exact(hl rfl).elim
          |cons b l=>rw[f2,<-ym (mu b) (by simp)];rfl
         by_cases hl:l=[]
         .subst hl;refine⟨iH,I,λ_=>False,[],by simp only[map_nil];rw[bm],?_,λ_ h=>h.elim,λ_ h=>h.elim,λ_ _ h=>h.elim,λ_ h=>h.elim,λ_ _ h=>h,λ_ h=>h.elim⟩;intro aQ _;exact⟨rfl,by simp[Builtin.firstCells,ByteArray.extract];rfl⟩
         .refine⟨iH,I,λ_=>False,_,Qa l _,?_,λ_ h=>h.elim,λ_ h=>h.elim,λ_ _ h=>h.elim,λ_ h=>h.elim,λ_ _ h=>h,λ_ h=>h.elim⟩;rw[ED hl,length_map];exact XW l
        .rename_i a q nV;split at qb
         .rename_i apq fC s2 bc;simp only[some.injEq,Prod.mk.injEq]at qb;obtain⟨rfl,rfl⟩:=qb;rw[nV]at uQ;obtain⟨eo,fM,a2,bq,ph,ck,eE,fP,g0,j1,nq,A4,EC⟩:=qY I rfl uQ bc;rw[hX bq,aD]at ck;rcases ck with⟨rfl,X0,l6⟩|⟨b,cap,cur,fS,fr,a0,l6,b3,cv,fz,ez,fR,dj,jO,dx,nU,uP⟩
          .simp at l6;subst l6;exact⟨eo,fM,λ_=>False,[],by rw[bm],(I8 X0),λ_ h=>h.elim,λ_ h=>h.elim,λ_ _ h=>h.elim,λ_ h=>h.elim,nq,λ_ h=>h.elim⟩
          .simp at l6;subst l6;refine⟨eo,fM,a0,_,dx,I7 (x_ cv _) ?_,λc ax=>eE c (nU c ax),λc ax=>fP c (nU c ax),λu c ax=>g0 u c (nU c ax),λc ax=>j1 c (nU c ax),nq,λc ax=>A4 c (nU c ax)⟩;rw[f2];exact bm.wu dx ym
         .cases qb
        .cases qb
       have uR:news.length=c7.length*(C.T e).sz:=bm.wu j5 ym;have qc:∀c,Sn c->¬ph c:=λc ae ag=>by obtain⟨u,hu⟩:=cw c ag;exact si u c ae hu
       have jK:∀u c,Sn c->¬hW u c:=λu c ae ag=>si u c ae (pj u c ag);have grow:∀(base:Option Addr) (cap:Nat) (q9:arK) (Sx:Nat->Prop),iY= .slice base xs.length cap->Src C.P w i.size (.slice base xs.length cap) xs.length q9->bm w F xs q9 Sx->(∀d∈xs,d.wd=(C.T e).sz)->(∀c,Sx c->Sn c)->¬xs.length+c7.length<=cap->
         Good C w0 F0 X aJ w (Builtin.append_ #[T,cC] ty #[iY,jN]) (.af (C.T e).sz (xs++c7)) A3:=by
        intro base cap q9 Sx IY hold Qh Qi gi sk;subst IY;have a4:=XT (ty:=ty) cj hu wt f1 f4 ig hold sk Jc (by rw[f3];exact I5);have yg:=grownCap_ge w (xs.length+c7.length) cap e;have A1:=grownCap_le_maxLen w (xs.length+c7.length) cap e (by unfold maxLen;omega);have A5:=bm.wu Qh Qi;have X1:bm w F (xs++c7) (q9++news) (λc=>Sx c\/ph c):=bm.append Qh j5 (λ_ h=>.inl h) (λ_ h=>.inr h) (λc ae ag=>qc c (gi c ae) ag);have X2:(q9++news).length=(xs++c7).length*(C.T e).sz:=by simp[A5,uR,Nat.add_mul]
        have lA:=kU.AY (aQ:=w.drew.alloc (.cells (q9.toArray++news.toArray++Builtin.zeroCells z.cells (grownCap w (xs.length+c7.length) cap e-(xs.length+c7.length))) e))
         (sz:=(C.T e).sz) (cap:=grownCap w (xs.length+c7.length) cap e) (xs:=xs++c7) (e:=e) (fr:=(0,0)) (Sn:=λc=>Sx c\/ph c) rfl rfl rfl ⟨rfl,λ_=>le_succ _⟩
         (λo _ ⟨_,ag⟩=>absurd ag (not_lt_zero _)) (by simpa using yg) A1
         (by
          simp only[Array.size_append,List.size_toArray,size_zeroCells,tw,A5,uR,q_,<-Nat.add_mul];congr 1;omega)
         (by
          intro d ak;rcases mem_append.1 ak with ak|ak
          .exact Qi d ak
          .exact ym d ak)
         (by
          simp only[Array.toList_append];rw[take_left' X2];exact X1)
         (by rintro c (ax|ax);exact dM c (gi c ax);exact lB c ax) (by rintro c (ax|ax);exact AZ c (gi c ax);exact bN c ax) (by rintro u c (ax|ax);exact jK u c (gi c ax);exact cS u c ax) (by rintro c (ax|ax);exact sj c (gi c ax);exact eL c ax)
        refine⟨_,_,F,hW,a4,lA.1,?_⟩;have:=lA.2;simpa using this
       rw[aD]at bG;rcases bG with⟨rfl,EE,l6⟩|⟨b,cap,cur,fS,fr,a0,l6,b3,cv,fz,ez,fR,dj,jO,dx,nU,uP⟩
       .simp at l6;subst l6;by_cases Qj:c7=[]
        .subst Qj;have Jd:news=[]:=by simpa using uR
         subst Jd;refine⟨.slice EE 0 0,w,F,hW,?_,kU,.inr ⟨rfl,rfl,λ_=>False,by simp only[cP,jn];rw[aD];exact .inl ⟨rfl,_,rfl⟩,λ_ h=>h.elim,λ_ h=>h.elim,λ_ _ h=>h.elim,λ_ h=>h.elim⟩⟩;obtain⟨ae,ag⟩:=ig w rfl;cases EE<;>rcases wt with⟨fQ,rfl⟩|rfl<;>simp at ae ag<;>simp[Builtin.append_,run_underlying cj,run_underlying hu,k7 f1,ae,ag,storeCells]
        .exact grow EE 0 [] (λ_=>False) rfl (I8 EE) (by rw[bm]) (by simp) (λ_ h=>h.elim) (by
          cases c7 with
          |nil=>exact(Qj rfl).elim
          |cons y c7=>simp)
       .simp at l6;subst l6;by_cases sk:xs.length+c7.length<=cap
        ·
         have A5:=bm.wu dx jO;have hlen:cur.toList.length=cap*(C.T e).sz:=by simp[dj]
         have hle:(xs.length+c7.length)*(C.T e).sz<=cap*(C.T e).sz:=mul_le_mul_right _ sk;rw[Nat.add_mul]at hle;have mR:cur.toList=cur.toList.take (xs.length*(C.T e).sz)++((cur.toList.drop (xs.length*(C.T e).sz)).take news.length++(cur.toList.drop (xs.length*(C.T e).sz)).drop news.length):=by
          rw[take_append_drop,take_append_drop]
         obtain⟨aQ,gk,ht,iJ,kS,nr,q2,q3⟩:=XS (ty:=ty) (n:=xs.length) (m:=c7.length) (cap:=cap) cj hu wt f1 ig cv fz.low mR (by rw[f2];exact A5) (by simp[hlen,uR];omega) (bm.wh _ _ _ j5) sk;have X3:=kU.turn iJ kS nr q2 q3 (AZ b b3) (λu hu=>jK u b b3 hu) (sj b b3);have sc:∀c,F c->aQ.heap[c]? =w.heap[c]? :=λc ax=>iJ c (by rintro rfl;exact AZ _ b3 ax);refine⟨_,aQ,F,hW,gk,X3,.inr ⟨rfl,rfl,λc=>Sn c\/ph c,?_,?_,?_,?_,?_⟩⟩
         .simp only[cP,jn];rw[aD];have Qk:(cur.toList.take (xs.length*(C.T e).sz)++(news++(cur.toList.drop (xs.length*(C.T e).sz)).drop news.length)).toArray.size=cur.size:=by
           have:cur.size=cur.toList.length:=by simp
           rw[this];conv=>rhs;rw[mR]
           simp[hlen,uR];omega
          refine .inr ⟨b,cap,_,fS,fr,λc=>a0 c\/ph c,by simp,.inl b3,ht,by rw[Qk];exact fz,by simpa using sk,fR,by rw[Qk];exact dj,?_,?_,?_,?_⟩
          .intro d ak;rcases mem_append.1 ak with ak|ak
           .exact jO d ak
           .exact ym d ak
          .have uM:=bm.frame sc _ _ _ (λc ax=>iJ c (by rintro rfl;exact uP ax)) dx;have we:=bm.frame sc _ _ _ (λc ax=>iJ c (by rintro rfl;exact qc _ b3 ax)) j5;have:((cur.toList.take (xs.length*(C.T e).sz)++(news++(cur.toList.drop (xs.length*(C.T e).sz)).drop news.length)).toArray.toList.take ((xs++c7).length*(C.T e).sz))=cur.toList.take (xs.length*(C.T e).sz)++news:=by
            simp only[];rw[<-append_assoc];exact take_left' (by rw[length_append,A5,uR,length_append,Nat.add_mul])
           rw[this];exact bm.append uM we (λ_ h=>.inl h) (λ_ h=>.inr h) (λc ae ag=>qc c (nU c ae) ag)
          .rintro c (ax|ax)
           .exact .inl (nU c ax)
           .exact .inr ax
          .rintro(ax|ax)
           .exact uP ax
           .exact qc b b3 ax
         .rw[kS];rintro c (ax|ax);exact dM c ax;exact lB c ax
         .rintro c (ax|ax);exact AZ c ax;exact bN c ax
         .rintro u c (ax|ax);exact jK u c ax;exact cS u c ax
         .rintro c (ax|ax);exact sj c ax;exact eL c ax
        .exact grow (some ⟨b,0,none⟩) cap _ a0 rfl (I7 (x_ cv _) (by rw[f2];exact bm.wu dx jO)) dx jO nU sk
      .cases he
     .cases he
    .cases he
   .cases he
  .cases he
 .cases he
end
section
variable {C:ch} {w0 w aQ:World} {F0 X F:Nat->Prop} {S:Nat->Nat->Prop} {s s1:az} {aJ:Nat->Value} {av:J}
theorem b4.X4 (h:b4 w0 F0 X F S s aJ w) {x:Nat} {q:arH} {d bE:J} {b:Nat} (ak:J.sub q (s x)=some d) (aw:d.plain=false) (X5:bE.tree=true) (ae:∀v,jo d v->jo bE v) (ad:∀v,eO d v->eO bE v)
  (ag:∀vs,bE≠.tuple vs) (l1:bE.wd=d.wd) (ab:∀df a gq,eb w q (s x) (cP (aJ x)) none=some (d,df,a)->aD w F d df gq->gq b/\aD aQ F bE df gq) (p5:∀c,c≠b->aQ.heap[c]? =w.heap[c]?) (e4:aQ.heap.size=w.heap.size) (II:aQ.os=w.os)
  (IJ:aQ.tape=w.tape) (wb:Out aQ w):∃a0,b4 w0 F0 X F a0 (dY (hq x s) x (J.put q bE (s x))) aJ aQ:=by
 have bc:=iX ak (.inl aw);have ay:=h.ev x;rw[aU.c_ bc]at ay;obtain⟨df,a,fe,gq,fM,a2,bq,ck,eE,fP⟩:=ctx q (s x) (cP (aJ x)) (S x) none d ay.2 ak;obtain⟨wc,aE⟩:=ab df a gq fM eE;have wv:S x b:=bq b wc;have sc:∀c,F c->aQ.heap[c]? =w.heap[c]? :=λc ax=>p5 c (by rintro rfl;exact h.gP x _ wv ax);have ye:∀c,fe c->c≠b:=λc ax e=>ck c ax (e▸wc);have lv:aD aQ F (J.put q bE (s x)) (cP (aJ x)) (λc=>fe c\/gq c):=by
  rcases fP with⟨l,r,aW,a8,aY⟩|⟨kU,cur,e,fr,l,r,aW,a8,aY,bT,cF,cj⟩
  .rw[aW];exact aY aQ bE df gq sc (λc ax=>p5 c (ye c ax)) l1 aE (λc ax mq=>ck c mq ax)
  .refine cj aQ bE df gq sc (λc ax _=>p5 c (ye c ax)) ?_ l1 aE (λc ax mq=>ck c mq ax);rw[p5 kU (ye kU a8),aY,<-cF]
 have AJ:eO (J.put q bE (s x)) (aJ x)/\(J.put q bE (s x)).tree=true:=by
  cases q with
  |nil=>
   simp only[J.sub,some.injEq]at ak;simp only[J.put];exact⟨ad _ (ak▸ay.1),X5⟩
  |cons k q=>
   refine⟨AH ay.1 ak ae (λ_=>ag) l1,?_⟩;rcases uI k q bE (s x)with⟨aH,gs,aW,e⟩|⟨aH,gs,aW,e⟩|⟨sz,xs,c7,aW,e⟩|⟨y,z,aW,e⟩|e<;>rw[e]<;>first|rfl|exact bc
 let aI:=dY (hq x s) x (J.put q bE (s x))
 have ia:∀y,y≠x->(aI y).tree=true->aI y=s y/\aJ y=aJ y:=λy bz bc=>by
  have e:aI y=ek.cB x (s y):=ki _ _ bz;rw[e]at bc⊢;exact⟨(Em bc).2,rfl⟩
 have nS:(aI x).plain=false->(s x).plain=false/\∀v,eO (s x) v->eO (aI x) v:=by
  intro _;refine⟨?_,λv aE=>?_⟩
  .cases bR:(s x).plain with
   |false=>rfl
   |true=>rw[J.ID _ _ _ bR ak]at aw;cases aw
  .simp only[aI,nm];cases q with
   |nil=>
    simp only[J.sub,some.injEq]at ak;simp only[J.put];exact ad _ (ak▸aE)
   |cons k q=>exact AH aE ak ae (λ_=>ag) l1
 have both:∀c,(fe c\/gq c)->S x c:=λc ax=>ax.elim (a2 c) (bq c);refine⟨gX S x (λc=>fe c\/gq c),?_⟩;constructor;case ib=>exact h.ib
 case iz=>exact h.iz
 case gE=>exact λb ab=>by rw[e4];exact h.gE b ab
 case fH=>
  intro u c ab;rw[e4];simp only[gX]at ab;split at ab
  .exact h.fH x c (both c ab)
  .exact h.fH u c ab
 case gP=>
  intro u c ab;simp only[gX]at ab;split at ab
  .exact h.gP x c (both c ab)
  .exact h.gP u c ab
 case gu=>
  intro u y c ee ab bz;simp only[gX]at ab bz;split at ab
  .rename_i hu;rw[if_neg (λe=>ee (hu.trans e.symm))]at bz;exact h.gu x y c (λe=>ee (hu.trans e)) (both c ab) bz
  .rename_i hu;split at bz
   .exact h.gu u x c hu ab (both c bz)
   .exact h.gu u y c ee ab bz
 case eN=>
  intro u c ab;simp only[gX]at ab;split at ab
  .exact h.eN x c (both c ab)
  .exact h.eN u c ab
 case ev=>
  intro u;by_cases hu:u=x
  .subst hu;rw[nm,AF];exact(aU.c_ AJ.2).2 ⟨AJ.1,lv⟩
  .rw[ki _ _ hu,AG _ _ hu];have ee:∀y c,y≠x->S y c->aQ.heap[c]? =w.heap[c]? :=λy c bz ax=>p5 c (by rintro rfl;exact h.gu y x c bz ax wv);refine(aU.cB ia rfl nS (λy dh d2 bz i9 AK=>?_) sc _).1 _ _ _ (Nat.le_refl _) (λc ax=>ee u c hu ax) (h.ev u);have AL:=h.ev y;rw[aU.c_ (iX i9 AK)]at AL;exact El dh _ _ _ none d2 AL.2 i9 (λc ax=>ee y c bz ax)
 case old=>
  intro c e2 ly;rw[p5 c ?_]
  .exact h.old c e2 ly
  .rintro rfl;rcases h.eN x c wv with a5|a5
   .exact ly a5
   .omega
 case size=>rw[e4];exact h.size
 case os=>exact II.trans h.os
 case tape=>exact IJ.trans h.tape
 case output=>exact wb.trans h.output
 case iA=>exact h.iA
def Ql (P:Program) (t:TypeId):Bool:=match P.info? t with
 |some i=>match i.zero with
  |some (.bool false)=>true
  |_=>false
 |none=>false
def EF (C:ch) (T:TypeId):Bool:=match(C.T T).k with
 | .map ra uS=>match(C.T ra).k with
   | .str=>Ql C.P uS
   |_=>false
 |_=>false
def qd (C:ch) (s:az) (T:TypeId) (x i:J):Option J:=match x,i with
 | .h y q,.str k=>match J.sub q (s y)with
   |some (.eM (.mp m))=>if EF C T=true then some (.bool (uE k m))else none
   |_=>none
 |_,_=>none
def oC (C:ch) (s:az) (T:TypeId) (x i v:J):Option az:=match x,i,v with
 | .h y q,.str k,.bool b=>match J.sub q (s y)with
   |some (.eM (.mp m))=>if EF C T=true then some (dY (hq y s) y (J.put q (.eM (.mp (sb k b m))) (s y)))else none
   |_=>none
 |_,_,_=>none
theorem Qm (bB:C.fI) {T:TypeId} (h:EF C T=true):∃ra uS,C.P.underlying T=some (.map ra uS)/\C.P.underlying ra=some .string/\∀w,(zeroValue uS).run C.P w= .ok (.bool false) w:=by
 unfold EF at h;split at h
 .rename_i ra uS ao;split at h
  .rename_i ae;obtain⟨i,d,z,aW,a8,aY,bT,cF,cj,b0⟩:=bB.info (gY ao (by simp));obtain⟨tl,bE,tm,f1,f2,f3,f4,f5,f6,f7⟩:=bB.info (gY ae (by simp));rw[ao]at b0;rw[ae]at f7;have:=se f7;subst this;refine⟨ra,uS,?_,f6,λw=>?_⟩
   .rw[cj];cases d<;>simp[mT]at b0;rw[b0.1,b0.2]
   .unfold Ql at h;split at h
    .rename_i qV a2;split at h
     .rename_i bq;exact uJ a2 bq w
     .cases h
    .cases h
  .cases h
 .cases h
theorem Je (a b:ByteArray):(a==b)=true↔a=b:=by
 constructor
 .intro h;exact ByteArray.ext (eq_of_beq (show(a.data==b.data)=true from h))
 .rintro rfl;show(a.data==a.data)=true;simp
theorem Jf (k:arE) (b:Bool):∀(es:List MapEntry) (m:arC) (i:Nat),es.map (λe=>(e.key,e.val))=m.map (λe=>(.string ⟨⟨e.1⟩⟩,.bool e.2))->
  (Instr.findNow .string (.string ⟨⟨k⟩⟩) es i=some none/\uE k m=false/\sb k b m=m++[(k,b)])\/
  ∃j e,es[j]? =some e/\e.key= .string ⟨⟨k⟩⟩/\Instr.findNow .string (.string ⟨⟨k⟩⟩) es i=some (some (i+j,.bool (uE k m)))/\sb k b m=m.set j (k,b)
 |[],m,i,h=>by
  have:m=[]:=by simpa using h.symm
  subst this;exact .inl ⟨rfl,rfl,rfl⟩
 |e::es,[],i,h=>by simp at h
 |e::es,(cZ,gJ)::m,i,h=>by
  simp only[map_cons,cons.injEq,Prod.mk.injEq]at h;obtain⟨⟨ae,ag⟩,aK⟩:=h;by_cases ao:cZ=k
  .subst ao;refine .inr ⟨0,e,rfl,ae,?_,by simp[sb]⟩;have:(((⟨⟨cZ⟩⟩:ByteArray)==⟨⟨cZ⟩⟩))=true:=(Je _ _).2 rfl;simp only[Instr.findNow,ae,ag,Instr.sameNow,uE,this,if_true,Nat.add_zero]
  .have aZ:((⟨⟨k⟩⟩:ByteArray)==⟨⟨cZ⟩⟩)=false:=by
    refine Bool.eq_false_iff.2 λe=>ao ?_;have:=(Je _ _).1 e;simp only[ByteArray.mk.injEq,Array.mk.injEq]at this;exact this.symm
   rcases Jf k b es m (i+1) aK with⟨a2,bq,ck⟩|⟨j,fQ,a2,bq,ck,eE⟩
   .refine .inl ⟨?_,?_,?_⟩
    .simp only[Instr.findNow,ae,Instr.sameNow,aZ];exact a2
    .simp[uE,ao,bq]
    .simp[sb,ao,ck]
   .refine .inr ⟨j+1,fQ,a2,bq,?_,?_⟩
    .simp only[Instr.findNow,ae,Instr.sameNow,aZ];rw[ck];simp[uE,ao,Nat.add_assoc,Nat.add_comm 1 j]
    .simp[sb,ao,eE]
theorem EG {P:Program} {ra:TypeId} (ao:P.underlying ra=some .string) (e:Bool) (k:ByteArray) (w:World):(Instr.checkKey e 10000 ra (.string k)).run P w= .ok () w:=by
 unfold Instr.checkKey;simp[run_underlying ao]
theorem Qn (h:b4 w0 F0 X F S s aJ w) {y:Nat} {q:arH} {m:arC} {v:Value} (aE:aU w F s aJ (.h y q) v (λ_=>False)) (ak:J.sub q (s y)=some (.eM (.mp m))):
  ∃r ms oz,v= .map (some r)/\w.heap[r]? =some (.map ms oz)/\ms.toList.map (λe=>(e.key,e.val))=m.map (λe=>(.string ⟨⟨e.1⟩⟩,.bool e.2))/\
   ∃a,eb w q (s y) (cP (aJ y)) none=some (.eM (.mp m),[.map (some r)],a):=by
 rw[aU]at aE;obtain⟨df,a,a2,bq,ck⟩:=aE _ ak rfl;have ae:Value.hp v=true:=ck;rw[hX ae]at bq;have ay:=h.ev y;rw[aU.c_ (iX ak (.inl rfl))]at ay;obtain⟨gW,dd,fe,gq,k0,b3,cv,fz,ez,fR⟩:=ctx q (s y) (cP (aJ y)) (S y) none _ ay.2 ak;rw[k0]at a2;simp only[some.injEq,Prod.mk.injEq,true_and]at a2;obtain⟨rfl,rfl⟩:=a2;rw[aD]at ez;obtain⟨r,ms,oz,aW,a8,aY,bT⟩:=ez;rw[aW]at bq k0;exact⟨r,ms,oz,by simpa using bq,aY,bT,dd,k0⟩
theorem X6 (bB:C.fI) (h:b4 w0 F0 X F S s aJ w) {T:TypeId} {x i:J} {iY p6:Value} (ay:aU w F s aJ x iY (λ_=>False)) (al:aU w F s aJ i p6 (λ_=>False)) (he:qd C s T x i=some av):
  Good C w0 F0 X aJ w (Instr.lookup T iY p6 false) av s:=by
 unfold qd at he;split at he
 .rename_i y q k;split at he
  .rename_i m ak;split at he
   .rename_i kj;simp only[some.injEq]at he;subst he;obtain⟨ra,uS,t1,t2,t3⟩:=Qm bB kj;obtain⟨r,ms,oz,rfl,a8,aY,_⟩:=Qn h ay ak;have:=p7 al;subst this;refine Good.same h (v:=.bool (uE k m)) ?_ rfl (of_bool _);rcases Jf k true ms.toList m 0 aY with⟨a2,bq,_⟩|⟨j,e,_,_,a2,_⟩
    .simp[Instr.lookup,run_underlying t1,getObj,Sem.run,a8,EG t2,Instr.findKey,run_underlying t2,a2,t3,bq]
    .simp[Instr.lookup,run_underlying t1,getObj,Sem.run,a8,EG t2,Instr.findKey,run_underlying t2,a2]
   .cases he
  .cases he
 .cases he
theorem X7 (bB:C.fI) (h:b4 w0 F0 X F S s aJ w) {T:TypeId} {x i v:J} {iY p6 Qo:Value} (ay:aU w F s aJ x iY (λ_=>False)) (al:aU w F s aJ i p6 (λ_=>False)) (aE:aU w F s aJ v Qo (λ_=>False)) {s2:az}
  (he:oC C s T x i v=some s2):∃aQ a0,(Instr.mapUpdate T iY p6 Qo).run C.P w= .ok () aQ/\b4 w0 F0 X F a0 s2 aJ aQ:=by
 unfold oC at he;split at he
 .rename_i y q k b;split at he
  .rename_i m ak;split at he
   .rename_i kj;simp only[some.injEq]at he;subst he;obtain⟨ra,uS,t1,t2,t3⟩:=Qm bB kj;obtain⟨r,ms,oz,rfl,a8,aY,I,l3⟩:=Qn h ay ak;have:=p7 al;subst this;have:=uL aE;subst this;have key:∀(EH:Array MapEntry) (Jg:Nat),EH.toList.map (λe=>(e.key,e.val))=(sb k b m).map (λe=>(.string ⟨⟨e.1⟩⟩,.bool e.2))->
      ∃a0,b4 w0 F0 X F a0 (dY (hq y s) y (J.put q (.eM (.mp (sb k b m))) (s y))) aJ {w with heap:=w.heap.setIfInBounds r (.map EH Jg)}:=by
     intro EH Jg hm;have a4:r<w.heap.size:=(Array.getElem?_eq_some_iff.1 a8).1;refine b4.X4 (b:=r) h ak rfl rfl (λv aE=>aE) (λv aE=>aE) (λvs e=>by cases e) rfl ?_ (λc ax=>?_) (by simp) rfl rfl ⟨rfl,λ_=>Nat.le_refl _⟩
     .intro df a gq bo hN;rw[l3]at bo;simp only[some.injEq,Prod.mk.injEq,true_and]at bo;obtain⟨rfl,_⟩:=bo;rw[aD]at hN⊢;obtain⟨hE,uT,apr,f1,f2,f3,f4⟩:=hN;simp only[cons.injEq,Value.map.injEq,some.injEq,and_true]at f1;subst f1;exact⟨f2,r,EH,Jg,rfl,f2,by simp[a4],hm⟩
     .simp[Ne.symm ax]
    rcases Jf k b ms.toList m 0 aY with⟨a2,_,bq⟩|⟨j,e,fM,ge,a2,bq⟩
    .obtain⟨a0,b3⟩:=key (ms.push {key:=.string ⟨⟨k⟩⟩,val:=.bool b,born:=oz}) (oz+1) (by rw[bq];simp[aY]);exact⟨_,a0,by simp[Instr.mapUpdate,run_underlying t1,getObj,setObj,Sem.run,a8,EG t2,Instr.findKey,run_underlying t2,a2],b3⟩
    .rw[Nat.zero_add]at a2;obtain⟨a0,b3⟩:=key (ms.modify j λe=>{e with key:=.string ⟨⟨k⟩⟩,val:=.bool b}) oz (by
      rw[bq,map_set,<-aY];apply ext_getElem?;intro n;by_cases aZ:n=j
      .subst aZ;have:n<ms.toList.length:=(List.getElem?_eq_some_iff.1 fM).1;rw[getElem?_set_self (by simpa using this)];simp[fM]
      .simp[getElem?_set_ne (Ne.symm aZ),Ne.symm aZ])
     have X8:ms[j]? =some e:=by simpa using fM
     exact⟨_,a0,by simp[Instr.mapUpdate,run_underlying t1,getObj,setObj,Sem.run,a8,EG t2,Instr.findKey,run_underlying t2,a2,X8,ge,Instr.keyThatStays,Instr.sameBits,(Je ⟨⟨k⟩⟩ ⟨⟨k⟩⟩).2 rfl],b3⟩
   .cases he
  .cases he
 .cases he
theorem X9 (h:b4 w0 F0 X F S s aJ w) (t:TypeId):Good C w0 F0 X aJ w (Instr.makeMap t none) (.eM (.mp [])) s:=by
 have hold:∀b,b<w.heap.size->(w.alloc (.map #[] 0)).heap[b]? =w.heap[b]? :=by
  intro b ab;show(w.heap.push _)[b]? =_;rw[Array.getElem?_push,if_neg (by omega)]
 refine⟨.map (some w.heap.size),w.alloc (.map #[] 0),F,S,?_,h.grow hold (by simp) rfl rfl ⟨rfl,λ_=>Nat.le_refl _⟩,.inr ⟨rfl,rfl,λb=>b=w.heap.size,?_,?_,?_,?_,?_⟩⟩
 .simp[Instr.makeMap,newObj,Sem.run]
 .rw[aD];refine⟨w.heap.size,#[],0,rfl,rfl,?_,rfl⟩;show(w.heap.push _)[_]? =_;simp
 .rintro b rfl;simp
 .rintro b rfl tp;exact Nat.lt_irrefl _ (h.gE _ tp)
 .rintro u b rfl hu;exact Nat.lt_irrefl _ (h.fH _ _ hu)
 .rintro b rfl;exact .inr h.size
end
end Go.ek
