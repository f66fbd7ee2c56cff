/- Part of a proof that a law returns true for every input. No condition. -/
import Derived.Test.YtngohoaiimbacabGreatDoorFwC
import Derived.Test.YtngohoaiimbacabGreatDoorFwA
import Derived.Laws.IdiomStrings
import Derived.Laws.Strings
import Derived.LaidEql
import Derived.WideLaws
import Derived.Laws.StructEq
namespace Go.c_
open List Option Nat Or
section
variable {C:bW} {w0 w:World} {F0 X F:Nat->Prop} {S:Nat->Nat->Prop} {s s1:aw} {ay:Nat->Value} {av:I}
theorem mR {k:IntKind} {n:Int} {v:Value} {aN:Nat->Prop} (h:aF w F s ay (.int k n) v aN):v= .int k n:=by
 have bc:=(aF.cr rfl).1 h;rw[au,gz bc.1]at bc;simpa using bc.2
theorem q6 {b:Bool} {v:Value} {aN:Nat->Prop} (h:aF w F s ay (.bool b) v aN):v= .bool b:=by
 have bc:=(aF.cr rfl).1 h;rw[au,gz bc.1]at bc;simpa using bc.2
theorem lN {b:aht} {v:Value} {aN:Nat->Prop} (h:aF w F s ay (.str b) v aN):v= .string ⟨⟨b⟩⟩:=by
 have bc:=(aF.cr rfl).1 h;rw[au,gz bc.1]at bc;simpa using bc.2
theorem Ji {v:Value} {aN:Nat->Prop} (h:aF w F s ay .dr v aN):v= .pointer none:=by
 have bc:=(aF.cr rfl).1 h;rw[au,gz bc.1]at bc;simpa using bc.2
theorem q7 {v:Value} {aN:Nat->Prop} (h:aF w F s ay .bf v aN):v= .slice none 0 0:=by
 have bc:=(aF.cr rfl).1 h;rw[au,gz bc.1]at bc;simpa using bc.2
theorem Jj {v:Value} {aN:Nat->Prop} (h:aF w F s ay .fw v aN):∃b,v= .bool b:=by
 have bc:=(aF.cr rfl).1 h;rw[au,gz bc.1]at bc;simpa using bc.2
theorem of_int (k:IntKind) (n:Int):aF w F s ay (.int k n) (.int k n) (λ_=>False):=(aF.cr rfl).2 ⟨rfl,by rw[au];rfl⟩
theorem of_bool (b:Bool):aF w F s ay (.bool b) (.bool b) (λ_=>False):=(aF.cr rfl).2 ⟨rfl,by rw[au];rfl⟩
theorem oe (b:aht):aF w F s ay (.str b) (.string ⟨⟨b⟩⟩) (λ_=>False):=(aF.cr rfl).2 ⟨rfl,by rw[au];rfl⟩
theorem Ds (b:Bool):aF w F s ay .fw (.bool b) (λ_=>False):=(aF.cr rfl).2 ⟨rfl,by rw[au];exact⟨b,rfl⟩⟩
def iB (op:BinOp) (k:IntKind) (a:Int) (cI:IntKind) (b:Int):Option I:=
 match op with
 | .shl=>if b<0 then none else some (.int k (k.wrap (a*2^(min b.toNat k.bits))))
 | .shr=>if b<0 then none else some (.int k (a.fdiv (2^(min b.toNat k.bits))))
 | .add=>if k=cI then some (.int k (k.wrap (a+b)))else none
 | .sub=>if k=cI then some (.int k (k.wrap (a-b)))else none
 | .mul=>if k=cI then some (.int k (k.wrap (a*b)))else none
 | .quo=>if k=cI/\b≠0 then some (.int k (k.wrap (a.tdiv b)))else none
 | .rem=>if k=cI/\b≠0 then some (.int k (a.tmod b))else none
 | .eql=>if k=cI then some (.bool (a==b))else none
 | .neq=>if k=cI then some (.bool (a !=b))else none
 | .lss=>if k=cI then some (.bool (decide (a<b)))else none
 | .leq=>if k=cI then some (.bool (decide (a<=b)))else none
 | .gtr=>if k=cI then some (.bool (decide (b<a)))else none
 | .geq=>if k=cI then some (.bool (decide (b<=a)))else none
 | .and=>if k=cI then some (.int k (bitsOf .and k a b))else none
 | .or=>if k=cI then some (.int k (bitsOf .or k a b))else none
 | .xor=>if k=cI then some (.int k (bitsOf .xor k a b))else none
 | .andNot=>if k=cI then some (.int k (bitsOf .andNot k a b))else none
def mS (op:BinOp) (a b:aht):Option I:=
 match op with
 | .add=>if a.length+b.length<=9223372036854775807 then some (.str (a++b))else none
 | .eql=>some (.bool (a==b))
 | .neq=>some (.bool !(a==b))
 | .lss=>some (.bool (Op.bytesLess a b))
 | .leq=>some (.bool (Op.bytesLess a b||a==b))
 | .gtr=>some (.bool !(Op.bytesLess a b||a==b))
 | .geq=>some (.bool !(Op.bytesLess a b))
 |_=>none
def lg (s:aw):I->Option ahx
 | .bf=>some (some true)
 | .slice xs=>some (if xs=[]then none else some false)
 | .h x q=>match I.sub q (s x)with
   |some (.ao _ xs)=>some (if xs=[]then none else some false)
   |_=>none
 |_=>none
def lh (s:aw):I->ahx
 | .dr=>some true
 | .ref _=>some false
 | .h x q=>match I.sub q (s x)with
   |some (.a1 _)=>some false
   |_=>none
 |_=>none
def wD (neg:Bool):ahx->I
 |some b=>.bool (b !=neg)
 |none=>.fw
def structEq (P:Program) (T:TypeId):Bool:= !P.stoodInHeld T&& !P.eqGuardType P.depth T&&(P.fieldsOf T).toList.all λf=>decide (f.name≠ "_")
def nv (C:bW):List (TypeId×Nat)->Nat->ahB->ahB->ahx
 |[],_,[],[]=>some true
 |(jE,off)::az,n,d::ds,e::es=>if off=n then(match(C.T jE).k,d,e with
  | .int k,.int bN a,.int cc b=>if bN=k/\cc=k then(nv C az (n+1) ds es).map λr=>a==b&&r else none
  | .bool,.bool a,.bool b=>(nv C az (n+1) ds es).map λr=>a==b&&r
  | .str,.str a,.str b=>(nv C az (n+1) ds es).map λr=>a==b&&r
  |_,_,_=>none)else none
 |_,_,_,_=>none
def el (C:bW) (s:aw) (op:BinOp) (T:TypeId) (x y:I):Option I:=
 match x,y with
 | .int k a,.int cI b=>iB op k a cI b
 | .str a,.str b=>mS op a b
 | .bool a,.bool b=>match op,(C.T T).k with
   | .eql,.bool=>some (.bool (a==b))
   | .neq,.bool=>some (.bool !(a==b))
   |_,_=>none
 | .agg ds,.agg es=>match op,(C.T T).k with
   | .eql,.struct az=>if structEq C.P T=true then(nv C az 0 ds es).map λb=>.bool b else none
   | .neq,.struct az=>if structEq C.P T=true then(nv C az 0 ds es).map λb=>.bool !b else none
   |_,_=>none
 |x,.bf=>match op,(C.T T).k with
  | .eql,.slice _=>(lg s x).map (wD false)
  | .neq,.slice _=>(lg s x).map (wD true)
  |_,_=>none
 |x,.dr=>match op,(C.T T).k with
  | .eql,.ptr _=>(lh s x).map λb=>.bool b
  | .neq,.ptr _=>(lh s x).map λb=>.bool !b
  |_,_=>none
 |_,_=>none
theorem QC {P:Program} {op:BinOp} {T:TypeId} {k cI:IntKind} {a b:Int} (he:iB op k a cI b=some av) (w:World):
  ∃v,(binOp op T (.int k a) (.int cI b)).run P w= .ok v w/\aF w F s ay av v (λ_=>False):=by
 unfold iB at he;cases op<;>simp only at he<;>split at he<;>first|(cases he;done)|skip
 all_goals
  rename_i ai;simp only[some.injEq]at he;subst he
 all_goals first
  |(subst ai;simp only[binOp_add,binOp_sub,binOp_mul,binOp_eql,binOp_neq,binOp_lss,binOp_leq,binOp_gtr,binOp_geq,binOp_and,binOp_or,binOp_xor,binOp_andNot,Op.intArith,Op.intBits,Sem.run_pure,Result.ok.injEq,and_true,exists_eq_left']
    first|exact of_int _ _|exact of_bool _)
  |(obtain⟨rfl,aV⟩:=ai
    simp only[binOp_quo,binOp_rem,Op.intDiv,aV,if_false,Sem.run_pure,Result.ok.injEq,and_true,exists_eq_left'];exact of_int _ _)
  |(simp only[binOp_shl,binOp_shr,Op.shift,ai,if_false,Sem.run_pure,Result.ok.injEq,and_true,exists_eq_left']
    exact of_int _ _)
theorem wE (a:aht):(⟨⟨a⟩⟩:ByteArray).toList=a:=ByteArray.toList_eq _
theorem QD (a b:aht):(⟨⟨a⟩⟩:ByteArray)++(⟨⟨b⟩⟩:ByteArray)=⟨⟨a++b⟩⟩:=by
 apply ByteArray.ext;simp[ByteArray.data_append]
theorem QE {P:Program} {op:BinOp} {T:TypeId} {a b:aht} (he:mS op a b=some av) (w:World):
  ∃v,(binOp op T (.string ⟨⟨a⟩⟩) (.string ⟨⟨b⟩⟩)).run P w= .ok v w/\aF w F s ay av v (λ_=>False):=by
 have R:∀op,binOp op T (.string ⟨⟨a⟩⟩) (.string ⟨⟨b⟩⟩)=Op.stringOp op ⟨⟨a⟩⟩ ⟨⟨b⟩⟩:=by intro op;cases op<;>rfl
 rw[R];unfold mS at he;cases op<;>simp only[some.injEq]at he<;>first|(cases he;done)|skip
 case add=>
  split at he
  .rename_i hl;simp only[some.injEq]at he;subst he;have U:((ByteArray.size ⟨⟨a⟩⟩+ByteArray.size ⟨⟨b⟩⟩:Nat):Int)<=9223372036854775807:=by
    show((a.length+b.length:Nat):Int)<=_;omega
   refine⟨.string ⟨⟨a++b⟩⟩,?_,oe _⟩;simp only[Op.stringOp,IntKind.max_i64];rw[if_neg (by omega),QD];rfl
  .cases he
 all_goals
  subst he;simp only[Op.stringOp,wE,Sem.run_pure,Result.ok.injEq,and_true,exists_eq_left'];exact of_bool _
theorem Dt (h:bx w0 F0 X F S s ay w) {v:Value} {y:Nat} {q:ahw} (aI:aF w F s ay (.h y q) v (λ_=>False)) {sz:Nat} {xs:ahB} (ae:I.sub q (s y)=some (.ao sz xs)):
  (xs=[]/\∃a,v= .slice a 0 0)\/∃b cap cur e fr,v= .slice (some ⟨b,0,none⟩) xs.length cap/\w.heap[b]? =some (.cells cur e fr)/\mo fr cur.size/\xs.length<=cap/\cap<=maxLen/\cur.size=cap*sz/\(∀d∈xs,d.wd=sz)/\
   ∃aN,aZ w F xs (cur.toList.take (xs.length*sz)) aN/\(∀c,aN c->S y c)/\S y b:=by
 rw[aF]at aI;obtain⟨cD,a,g1,g2,g3⟩:=aI _ ae rfl;have U:Value.fY v=true:=g3;rw[gz U]at g2;subst g2;have ar:=h.cW y;rw[aF.cr (hG ae (.inl rfl))]at ar;obtain⟨fO,cB,dW,e5,k0,bN,cc,eB,dB,e6⟩:=ctx q (s y) (b8 (ay y)) (S y) none _ ar.2 ae;rw[k0]at g1;simp only[some.injEq,Prod.mk.injEq,true_and]at g1;obtain⟨rfl,rfl⟩:=g1;rw[au]at dB;rcases dB with⟨rfl,a2,ad⟩|⟨b,cap,cur,aT,fr,dh,aR,b4,cz,bV,bF,gL,kT,lO,lP,dD,dE⟩
 .simp at ad;exact .inl ⟨rfl,_,ad⟩
 .simp at aR;exact .inr ⟨b,cap,cur,aT,fr,aR,cz,bV.low,bF,gL,kT,lO,dh,lP,λc ai=>cc _ (dD c ai),cc _ b4⟩
theorem Jk (h:bx w0 F0 X F S s ay w) {v:Value} {y:Nat} {q:ahw} (aI:aF w F s ay (.h y q) v (λ_=>False)) {d:I} (ae:I.sub q (s y)=some (.a1 d)):
  ∃b cur e fr,v= .pointer (some ⟨b,0,none⟩)/\w.heap[b]? =some (.cells cur e fr):=by
 rw[aF]at aI;obtain⟨cD,a,g1,g2,g3⟩:=aI _ ae rfl;have U:Value.fY v=true:=g3;rw[gz U]at g2;subst g2;have ar:=h.cW y;rw[aF.cr (hG ae (.inl rfl))]at ar;obtain⟨fO,cB,dW,e5,k0,bN,cc,eB,dB,e6⟩:=ctx q (s y) (b8 (ay y)) (S y) none _ ar.2 ae;rw[k0]at g1;simp only[some.injEq,Prod.mk.injEq,true_and]at g1;obtain⟨rfl,rfl⟩:=g1;rw[au]at dB;obtain⟨b,cur,aT,fr,dh,aR,b4,cz,_⟩:=dB;simp at aR;exact⟨b,cur,aT,fr,aR,cz⟩
theorem Jl {P:Program} {T e:TypeId} (aY:P.underlying T=some (.slice e)) (w:World):∀d,(Op.equalIn (d+1) T (.slice none 0 0) (.slice none 0 0)).run P w= .ok true w/\
  ∀a n c,(Op.equalIn (d+1) T (.slice (some a) n c) (.slice none 0 0)).run P w= .ok false w:=by
 intro d;refine⟨by simp[Op.equalIn,run_underlying aY],λa n c=>by simp[Op.equalIn,run_underlying aY]⟩
theorem Jm {P:Program} {T e:TypeId} (aY:P.underlying T=some (.pointer e)) (w:World):∀d,(Op.equalIn (d+1) T (.pointer none) (.pointer none)).run P w= .ok true w/\
  ∀a,(Op.equalIn (d+1) T (.pointer (some a)) (.pointer none)).run P w= .ok false w:=by
 intro d;refine⟨by simp[Op.equalIn,run_underlying aY],λa=>by simp[Op.equalIn,run_underlying aY]⟩
theorem Jn {P:Program} {T:TypeId} (aY:P.underlying T=some .bool) (w:World):∀d a b,(Op.equalIn (d+1) T (.bool a) (.bool b)).run P w= .ok (a==b) w:=by
 intro d a b;simp[Op.equalIn,run_underlying aY]
theorem Jo (h:bx w0 F0 X F S s ay w) {x:I} {v:Value} (aI:aF w F s ay x v (λ_=>False)) {T e:TypeId} {r:ahx} (aH:lg s x=some r) (aY:C.P.underlying T=some (.slice e)):
  ∃b,(Op.equal T v (.slice none 0 0)).run C.P w= .ok b w/\(∀ff,r=some ff->ff=b)/\Value.fY v=true/\∃a n c,v= .slice a n c:=by
 have aP:=λa n c=>(Jl aY w 9999).2 a n c;have fE:=(Jl aY w 9999).1;cases x with
 |bf=>
  have:=q7 aI;subst this;simp[lg]at aH;subst aH;exact⟨true,fE,by simp,rfl,_,_,_,rfl⟩
 |slice xs=>
  have bc:=(aF.cr rfl).1 aI;rw[au,gz bc.1]at bc;simp only[lg,some.injEq]at aH;obtain⟨_,⟨rfl,a,c,ad,_,ss⟩|⟨b,o,cap,eh,sz,ad,aC⟩⟩:=bc
  .simp at ad aH;subst ad;subst aH;cases a with
   |none=>
    have:=ss rfl;subst this;exact⟨true,fE,by simp,rfl,_,_,_,rfl⟩
   |some a=>exact⟨false,aP _ _ _,by simp,rfl,_,_,_,rfl⟩
  .simp at ad;subst ad;refine⟨false,aP _ _ _,?_,rfl,_,_,_,rfl⟩;subst aH;split<;>simp
 |h y q=>
  simp only[lg]at aH;split at aH
  .rename_i sz xs ae;simp only[some.injEq]at aH;rcases Dt h aI ae with⟨rfl,a,rfl⟩|⟨b,cap,cur,aT,fr,rfl,_⟩
   .simp at aH;subst aH;cases a with
    |none=>exact⟨true,fE,by simp,rfl,_,_,_,rfl⟩
    |some a=>exact⟨false,aP _ _ _,by simp,rfl,_,_,_,rfl⟩
   .refine⟨false,aP _ _ _,?_,rfl,_,_,_,rfl⟩;subst aH;split<;>simp
  .cases aH
 |_=>simp[lg]at aH
theorem Jp (h:bx w0 F0 X F S s ay w) {x:I} {v:Value} (aI:aF w F s ay x v (λ_=>False)) {T e:TypeId} {r:Bool} (aH:lh s x=some r) (aY:C.P.underlying T=some (.pointer e)):
  (Op.equal T v (.pointer none)).run C.P w= .ok r w/\∃a,v= .pointer a:=by
 have aP:=λa=>(Jm aY w 9999).2 a;have fE:=(Jm aY w 9999).1;cases x with
 |dr=>
  have:=Ji aI;subst this;simp[lh]at aH;subst aH;exact⟨fE,_,rfl⟩
 |ref d=>
  have bc:=(aF.cr rfl).1 aI;rw[au,gz bc.1]at bc;simp[lh]at aH;subst aH;obtain⟨_,b,o,eh,ad,_⟩:=bc;simp at ad;subst ad;exact⟨aP _,_,rfl⟩
 |h y q=>
  simp only[lh]at aH;split at aH
  .rename_i d ae;simp only[some.injEq]at aH;subst aH;obtain⟨b,cur,e,fr,rfl,_⟩:=Jk h aI ae;exact⟨aP _,_,rfl⟩
  .cases aH
 |_=>simp[lh]at aH
theorem QF (bk:C.eF):∀(az:List (TypeId×Nat)) (gs:List Field) (n:Nat) (ds es:ahB) (r:Bool) (gh l2 b2 c2:ahz) (xs bm:Array Value) (b3 dh:Nat->Prop),
  gs.map (λg=>(g.type,g.offset))=az->(gs.all λf=>decide (f.name≠ "_"))=true->nv C az n ds es=some r->aZ w F ds b2 b3->aZ w F es c2 dh->xs.toList=gh++b2->gh.length=n->bm.toList=l2++c2->l2.length=n->
  ∀m,(Op.eqFields (m+1) xs bm gs).run C.P w= .ok r w:=by
 intro az;induction az with
 |nil=>
  intro gs n ds es r gh l2 b2 c2 xs bm b3 dh hg aU he ab ad ar hl hy Du m;have:gs=[]:=by simpa using hg
  subst this;cases ds<;>cases es<;>simp[nv]at he;subst he;simp[Op.eqFields]
 |cons p az ih=>
  obtain⟨jE,off⟩:=p;intro gs n ds es r gh l2 b2 c2 xs bm b3 dh hg aU he ab ad ar hl hy Du m;cases gs with
  |nil=>simp at hg
  |cons g gs=>
   simp only[map_cons,cons.injEq,Prod.mk.injEq]at hg;obtain⟨⟨rfl,rfl⟩,hg⟩:=hg;simp only[all_cons,Bool.and_eq_true,decide_eq_true_eq]at aU;cases ds with
   |nil=>simp[nv]at he
   |cons d ds=>
   cases es with
   |nil=>simp[nv]at he
   |cons e es=>
   simp only[nv]at he;split at he
   .rename_i o7;rw[aZ]at ab ad;obtain⟨J,a2,zG,QG,rfl,fl,gJ,h3,Jq,fU⟩:=ab;obtain⟨iC,gA,afP,QH,rfl,fA,fp,gX,hv,mv⟩:=ad;have step:∀(x y:Value) (z:Bool),(C.T g.type).flat=true->J=[x]->iC=[y]->(∀m,(Op.equalIn (m+1) g.type x y).run C.P w= .ok z w)->∀gn,nv C az (n+1) ds es=some gn->
      (Op.eqFields (m+1) xs bm (g::gs)).run C.P w= .ok (z&&gn) w:=by
     intro x y z jP Dv Dw heq gn eu;subst Dv;subst Dw;have QI:xs[g.offset]? =some x:=by
      rw[<-Array.getElem?_toList,ar,o7,<-hl,getElem?_append_right (Nat.le_refl _)];simp
     have QJ:bm[g.offset]? =some y:=by
      rw[<-Array.getElem?_toList,hy,o7,<-Du,getElem?_append_right (Nat.le_refl _)];simp
     have ak:=ih gs (n+1) ds es gn (gh++[x]) (l2++[y]) a2 gA xs bm QG QH hg aU.2 eu gJ fp (by rw[ar];simp) (by simp[hl]) (by rw[hy];simp) (by simp[Du]) m;unfold Op.eqFields;rw[if_pos aU.1];simp only[part,Sem.run_bind,Dq bk jP,Result.andThen_ok,Bool.false_eq_true,if_false,QI,QJ,Sem.run_pure,heq];cases z
     .simp
     .simpa using ak
    split at he
    .rename_i k bN a cc b aq;split at he
     .rename_i QK;obtain⟨rfl,rfl⟩:=QK;rw[au]at fl fA;simp only[map_eq_some_iff]at he;obtain⟨gn,eu,rfl⟩:=he;obtain⟨i,wF,Jr,aP,aT,aR,b4,cz,bV,bF⟩:=bk.info (fZ aq (by simp));rw[aq]at bF;have su:=zy bF;subst su;exact step _ _ _ (by simp[gg.flat,aq]) fl fA (λm=>run_equalIn_int w m g.type _ _ a b bV) gn eu
     .cases he
    .rename_i a b aq;rw[au]at fl fA;simp only[map_eq_some_iff]at he;obtain⟨gn,eu,rfl⟩:=he;obtain⟨i,wF,Jr,aP,aT,aR,b4,cz,bV,bF⟩:=bk.info (fZ aq (by simp));rw[aq]at bF;have su:=Dk bF;subst su;exact step _ _ _ (by simp[gg.flat,aq]) fl fA (λm=>run_equalIn_bool' w m g.type a b bV) gn eu
    .rename_i a b aq;rw[au]at fl fA;simp only[map_eq_some_iff]at he;obtain⟨gn,eu,rfl⟩:=he;obtain⟨i,wF,Jr,aP,aT,aR,b4,cz,bV,bF⟩:=bk.info (fZ aq (by simp));rw[aq]at bF;have su:=o6 bF;subst su;refine step _ _ (a==b) (by simp[gg.flat,aq]) fl fA (λm=>?_) gn eu;rw[run_equalIn_string w m g.type _ _ bV,wE,wE]
    .cases he
   .cases he
theorem Js (bk:C.eF) {T:TypeId} {az:List (TypeId×Nat)} (aq:(C.T T).k= .struct az) {ds es:ahB} {ia jm:Value} {b3 dh:Nat->Prop} {r:Bool} (ar:aF w F s ay (.agg ds) ia b3) (hy:aF w F s ay (.agg es) jm dh)
  (b_:structEq C.P T=true) (he:nv C az 0 ds es=some r) (op:BinOp) (wG wH:Operand):
  (eqGuard op T wG wH ia jm).run C.P w= .ok () w/\(Op.equal T ia jm).run C.P w= .ok r w:=by
 obtain⟨i,d,z,aP,aT,aR,b4,cz,bV,bF⟩:=bk.info (fZ aq (by simp));rw[aq]at bF;obtain⟨gs,rfl,gL⟩:=wx bF;have wI:C.P.fieldsOf T=gs:=by simp[Program.fieldsOf,bV]
 simp only[structEq,Bool.and_eq_true,Bool.not_eq_true',wI]at b_;obtain⟨⟨fA,fp⟩,gX⟩:=b_;obtain⟨⟨xs,rfl⟩,o9⟩:=(aF.cr rfl).1 ar;obtain⟨⟨bm,rfl⟩,n_⟩:=(aF.cr rfl).1 hy;rw[au]at o9 n_;constructor
 .cases op<;>simp[eqGuard,fp]
 .show(Op.equalIn (9999+1) T _ _).run C.P w=_;rw[run_equalIn_struct w 9999 T xs bm (by rw[wI];exact bV) fA,wI];exact QF bk az gs.toList 0 ds es r [] [] _ _ xs bm b3 dh gL gX he o9 n_ rfl rfl rfl rfl 9998
theorem QL (bk:C.eF) (h:bx w0 F0 X F S s ay w) {op:BinOp} {T:TypeId} {x y:I} {ia jm:Value} (wG wH:Operand) (ar:aF w F s ay x ia (λ_=>False)) (hy:aF w F s ay y jm (λ_=>False))
  (he:el C s op T x y=some av):Good C w0 F0 X ay w (do eqGuard op T wG wH ia jm;binOp op T ia jm) av s:=by
 unfold el at he;split at he
 .have:=mR ar;subst this;have:=mR hy;subst this;obtain⟨v,ab,ad⟩:=QC (P:=C.P) (T:=T) he w;refine Good.same h (v:=v) ?_ ?_ ad
  .rw[eqGuard_at_int];exact ab
  .revert he;unfold iB;cases op<;>simp only<;>split<;>simp<;>(rintro rfl;rfl)
 .have:=lN ar;subst this;have:=lN hy;subst this;obtain⟨v,ab,ad⟩:=QE (P:=C.P) (T:=T) he w;refine Good.same h (v:=v) ?_ ?_ ad
  .rw[eqGuard_at_string];exact ab
  .revert he;unfold mS;cases op<;>simp only<;>(try split)<;>simp<;>(try (rintro rfl;rfl))
 .have:=q6 ar;subst this;have:=q6 hy;subst this;split at he
  .rename_i aq;simp only[some.injEq]at he;subst he;obtain⟨i,d,z,aP,aT,aR,b4,cz,bV,bF⟩:=bk.info (fZ aq (by simp));rw[aq]at bF;have:=Dk bF;subst this;refine Good.same h ?_ rfl (of_bool _);rw[eqGuard_at_bool];simp[binOp,Op.equal,Op.maxDepth,Jn bV w 9999]
  .rename_i aq;simp only[some.injEq]at he;subst he;obtain⟨i,d,z,aP,aT,aR,b4,cz,bV,bF⟩:=bk.info (fZ aq (by simp));rw[aq]at bF;have:=Dk bF;subst this;refine Good.same h ?_ rfl (of_bool _);rw[eqGuard_at_bool];simp[binOp,Op.equal,Op.maxDepth,Jn bV w 9999]
  .cases he
 .split at he
  .rename_i az aq;split at he
   .rename_i b_;simp only[map_eq_some_iff]at he;obtain⟨r,aH,rfl⟩:=he;obtain⟨g1,g2⟩:=Js bk aq ar hy b_ aH .eql wG wH;obtain⟨⟨xs,rfl⟩,_⟩:=(aF.cr rfl).1 ar;obtain⟨⟨bm,rfl⟩,_⟩:=(aF.cr rfl).1 hy;exact Good.same h (by simp[g1,binOp,g2]) rfl (of_bool _)
   .cases he
  .rename_i az aq;split at he
   .rename_i b_;simp only[map_eq_some_iff]at he;obtain⟨r,aH,rfl⟩:=he;obtain⟨g1,g2⟩:=Js bk aq ar hy b_ aH .neq wG wH;obtain⟨⟨xs,rfl⟩,_⟩:=(aF.cr rfl).1 ar;obtain⟨⟨bm,rfl⟩,_⟩:=(aF.cr rfl).1 hy;exact Good.same h (by simp[g1,binOp,g2]) rfl (of_bool _)
   .cases he
  .cases he
 .have:=q7 hy;subst this;split at he
  .rename_i e aq;simp only[map_eq_some_iff]at he;obtain⟨r,aH,rfl⟩:=he;obtain⟨i,d,z,aP,aT,aR,b4,cz,bV,bF⟩:=bk.info (fZ aq (by simp));rw[aq]at bF;have:=lM bF;subst this;obtain⟨b,ab,ad,aC,a0,bw,c0,rfl⟩:=Jo h ar aH bV;refine Good.same h (v:=.bool b) ?_ ?_ ?_
   .rw[eqGuard_at_slice];simp[binOp,ab]
   .cases r<;>rfl
   .cases r with
    |none=>exact Ds b
    |some ff=>have:=ad ff rfl;subst this;simp only[wD,Bool.bne_false];exact of_bool _
  .rename_i e aq;simp only[map_eq_some_iff]at he;obtain⟨r,aH,rfl⟩:=he;obtain⟨i,d,z,aP,aT,aR,b4,cz,bV,bF⟩:=bk.info (fZ aq (by simp));rw[aq]at bF;have:=lM bF;subst this;obtain⟨b,ab,ad,aC,a0,bw,c0,rfl⟩:=Jo h ar aH bV;refine Good.same h (v:=.bool !b) ?_ ?_ ?_
   .rw[eqGuard_at_slice];simp[binOp,ab]
   .cases r<;>rfl
   .cases r with
    |none=>exact Ds _
    |some ff=>have:=ad ff rfl;subst this;simp only[wD,Bool.bne_true];exact of_bool _
  .cases he
 .have:=Ji hy;subst this;split at he
  .rename_i e aq;simp only[map_eq_some_iff]at he;obtain⟨r,aH,rfl⟩:=he;obtain⟨i,d,z,aP,aT,aR,b4,cz,bV,bF⟩:=bk.info (fZ aq (by simp));rw[aq]at bF;have:=I_ bF;subst this;obtain⟨ab,a0,rfl⟩:=Jp h ar aH bV;refine Good.same h (v:=.bool r) ?_ rfl (of_bool _);rw[eqGuard_at_pointer];simp[binOp,ab]
  .rename_i e aq;simp only[map_eq_some_iff]at he;obtain⟨r,aH,rfl⟩:=he;obtain⟨i,d,z,aP,aT,aR,b4,cz,bV,bF⟩:=bk.info (fZ aq (by simp));rw[aq]at bF;have:=I_ bF;subst this;obtain⟨ab,a0,rfl⟩:=Jp h ar aH bV;refine Good.same h (v:=.bool !r) ?_ rfl (of_bool _);rw[eqGuard_at_pointer];simp[binOp,ab]
  .cases he
 .cases he
end
section
variable {C:bW} {w0 w:World} {F0 X F:Nat->Prop} {S:Nat->Nat->Prop} {s s1:aw} {ay:Nat->Value} {av:I}
def un (op:UnOp) (x:I):Option I:=
 match op,x with
 | .not,.bool b=>some (.bool !b)
 | .not,.fw=>some .fw
 | .neg,.int k n=>some (.int k (k.wrap (0-n)))
 |_,_=>none
theorem QM (h:bx w0 F0 X F S s ay w) {op:UnOp} {x:I} {v:Value} (aI:aF w F s ay x v (λ_=>False)) (he:un op x=some av):Good C w0 F0 X ay w (Op.unary op v) av s:=by
 unfold un at he;split at he<;>first|(cases he;done)|(simp only[some.injEq]at he;subst he)
 .have:=q6 aI;subst this;exact Good.same h rfl rfl (of_bool _)
 .obtain⟨b,rfl⟩:=Jj aI;exact Good.same h rfl rfl (Ds _)
 .have:=mR aI;subst this;exact Good.same h rfl rfl (of_int _ _)
def kz (s:aw) (x:I):Option I:=
 match x with
 | .ref d=>some (.ref d)
 | .fn f c=>some (.fn f c)
 | .h y q=>match I.sub q (s y)with
   |some (.a1 _)=>some (.h y q)
   |_=>none
 |_=>none
theorem QN {d:I} {v:Value} {aN:Nat->Prop} (h:aF w F s ay (.ref d) v aN):∃b o eh,v= .pointer (some ⟨b,o,none⟩)/\F b/\hE w b o eh/\au w F d eh (λ_=>False):=by
 have bc:=(aF.cr rfl).1 h;rw[au,gz bc.1]at bc;obtain⟨_,b,o,eh,ab,ad,aC,aW⟩:=bc;simp at ab;subst ab;exact⟨b,o,eh,rfl,ad,aC,aW⟩
theorem QO (h:bx w0 F0 X F S s ay w) {x:I} {v:Value} (aI:aF w F s ay x v (λ_=>False)) (he:kz s x=some av):
  av=x/\x.plain=true/\((∃a,v= .pointer (some a))\/∃f c,v= .func (.func f) #[] c):=by
 unfold kz at he;split at he
 .simp only[some.injEq]at he;subst he;obtain⟨b,o,eh,rfl,_⟩:=QN aI;exact⟨rfl,rfl,.inl ⟨_,rfl⟩⟩
 .simp only[some.injEq]at he;subst he;rw[aF]at aI;obtain⟨arr,rfl,_⟩:=aI;exact⟨rfl,rfl,.inr ⟨_,_,rfl⟩⟩
 .split at he
  .rename_i d ae;simp only[some.injEq]at he;subst he;obtain⟨b,cur,e,fr,rfl,_⟩:=Jk h aI ae;exact⟨rfl,rfl,.inl ⟨_,rfl⟩⟩
  .cases he
 .cases he
def ex (s:aw) (x:I) (k:Nat):Option I:=
 match x with
 | .tuple ds=>match ds[k]? with
   |some d=>if d.plain=true then some d else none
   |none=>none
 | .h y q=>match I.sub q (s y)with
   |some (.tuple ds)=>match ds[k]? with
    |some d=>if I.dU ds=true then none else some (if d.plain then d else .h y (q++[k]))
    |none=>none
   |_=>none
 |_=>none
theorem Jt:∀(vs:ahz) (k:Nat) (x:Value) (ds:ahB),vs[k]? =some x->vs.length=ds.length->(∀(j:Nat) (d:I) (y:Value),ds[j]? =some d->vs[j]? =some y->(hs y).length=d.wd)->
  ∃l r,vs.flatMap hs=l++(hs x++r)/\l.length=I.dT (ds.take k)
 |[],k,x,ds,h,_,_=>by simp at h
 |v::vs,0,x,ds,h,hl,hw=>by
  simp at h;subst h;exact⟨[],vs.flatMap hs,by simp,by simp[I.dT]⟩
 |v::vs,k+1,x,d::ds,h,hl,hw=>by
  obtain⟨l,r,aP,aT⟩:=Jt vs k x ds (by simpa using h) (by simpa using hl) (λj d y ab ad=>hw (j+1) d y (by simpa using ab) (by simpa using ad));refine⟨hs v++l,r,by simp[aP],?_⟩;have:=hw 0 d v (by simp) (by simp);simp[I.dT,aT,this]
 |v::vs,k+1,x,[],h,hl,hw=>by simp at hl
theorem QP {d:I} {v:Value} (h:h4 d v) (_hd:∀vs,d≠.tuple vs):b8 v=hs v:=by
 cases d with
 |agg az=>obtain⟨arr,rfl⟩:=h;rfl
 |_=>
  have ab:Value.fY v=true:=h;cases v<;>first|rfl|(simp[Value.fY]at ab)
theorem QQ {d:I} {v:Value} (h:h4 d v) (ae:∀vs,d≠.tuple vs):dz d v:=by
 cases d with
 |tuple vs=>exact(ae _ rfl).elim
 |_=>exact h
theorem QR (h:bx w0 F0 X F S s ay w) {x:I} {v:Value} {k:Nat} (aI:aF w F s ay x v (λ_=>False)) (he:ex s x k=some av):Good C w0 F0 X ay w (Instr.extract v k) av s:=by
 have pick:∀(ds:ahB) (d:I) (arr:Array Value),ds[k]? =some d->(arr.size=ds.length/\∀(k:Nat) (d:I) (x:Value),ds[k]? =some d->arr[k]? =some x->h4 d x/\(∀vs,d≠.tuple vs)/\(hs x).length=d.wd)->
   ∃x,arr[k]? =some x/\dz d x/\((b8 (.tuple arr)).drop (I.dT (ds.take k))).take d.wd=b8 x:=by
  intro ds d arr ae ⟨bR,ks⟩;have ei:k<arr.size:=by rw[bR];exact(List.getElem?_eq_some_iff.1 ae).1
  have ar:arr[k]? =some arr[k]:=Array.getElem?_eq_getElem ei;obtain⟨g1,g2,g3⟩:=ks k d _ ae ar;obtain⟨l,r,aP,aT⟩:=Jt arr.toList k arr[k] ds (by simp[ei]) (by simpa using bR) (λj d y ab ad=>(ks j d y ab (by simpa using ad)).2.2);refine⟨_,ar,QQ g1 g2,?_⟩;rw[QP g1 g2];simp only[b8];rw[aP];exact sg l _ r _ _ aT g3
 unfold ex at he;split at he
 .rename_i ds;split at he
  .rename_i d ae;split at he
   .rename_i an;simp only[some.injEq]at he;subst he;have bc:=(aF.cr rfl).1 aI;obtain⟨⟨arr,rfl,bR⟩,gp⟩:=bc;obtain⟨x,ar,U,ai⟩:=pick ds d arr ae bR;have aH:(Instr.extract (.tuple arr) k).run C.P w= .ok x w:=by simp[Instr.extract,ar]
    rw[au]at gp;obtain⟨b2,fN,c2,b3,hF,e,hr,fl,gJ,h3,fU,l7⟩:=aZ.pick ds _ _ k d gp ae;rw[e,sg b2 fN c2 _ _ hr (au.length _ _ _ fU)]at ai;by_cases aY:d.tree=true
    .exact Good.same h aH an ((aF.cr aY).2 ⟨U,by rw[<-ai];exact au.plain _ _ _ _ an fU⟩)
    .cases d<;>first|exact(aY rfl).elim|(rw[au]at fU;exact fU.elim)|exact Good.same h aH rfl (by rw[aF];trivial)|(have bu:=au.plain _ _ _ (λ_=>False) an fU;rw[ai,gz (by exact U)]at bu;exact Good.same h aH rfl (aF.o8 _ _ rfl bu))
   .cases he
  .cases he
 .rename_i y q;split at he
  .rename_i ds ae;split at he
   .rename_i d aq;split at he
    .cases he
    .rename_i fy;simp only[some.injEq]at he;have fy:(I.tuple ds).plain=false:=by simpa [I.plain]using fy
     rw[aF]at aI;obtain⟨cD,a,g1,g2,g3⟩:=aI _ ae fy;obtain⟨arr,rfl,bR⟩:=g3;obtain⟨x,ar,U,ai⟩:=pick ds d arr aq bR;have aH:(Instr.extract (.tuple arr) k).run C.P w= .ok x w:=by simp[Instr.extract,ar]
     have hy:=h.cW y;rw[aF.cr (hG ae (.inl fy))]at hy;obtain⟨fO,cB,dW,e5,k0,bN,cc,eB,dB,e6⟩:=ctx q (s y) (b8 (ay y)) (S y) none _ hy.2 ae;rw[k0]at g1;simp only[some.injEq,Prod.mk.injEq,true_and]at g1;obtain⟨rfl,rfl⟩:=g1;rw[g2]at ai;split at he
     .rename_i an;subst he;rw[au]at dB;obtain⟨b2,fN,c2,b3,hF,e,hr,fl,gJ,h3,fU,l7⟩:=aZ.pick ds _ _ k d dB aq;rw[e,sg b2 fN c2 _ _ hr (au.length _ _ _ fU)]at ai;by_cases aY:d.tree=true
      .exact Good.same h aH an ((aF.cr aY).2 ⟨U,by rw[<-ai];exact au.plain _ _ _ _ an fU⟩)
      .cases d<;>first|exact(aY rfl).elim|(rw[au]at fU;exact fU.elim)|exact Good.same h aH rfl (by rw[aF];trivial)|(have bu:=au.plain _ _ _ (λ_=>False) an fU;rw[ai,gz (by exact U)]at bu;exact Good.same h aH rfl (aF.o8 _ _ rfl bu))
     .subst he;refine Good.same h aH rfl ?_;rw[aF];intro d2 hN wq;rw[wv w q _ _ _ _ _ _ [k] k0];rw[wu _ _ _ _ ae]at hN;simp only[I.sub,aq,some.injEq]at hN;subst hN;simp only[dc,aq];exact⟨_,_,rfl,ai.symm,U⟩
   .cases he
  .cases he
 .cases he
def l9 (C:bW) (s:aw) (T:TypeId) (x:I) (k:Nat):Option I:=
 match(C.T T).k with
 | .struct az=>match az[k]? with
   |some (jE,off)=>match x with
    | .agg ds=>match ds[k]? with
      |some d=>if I.dT (ds.take k)=off/\fits C jE d=true/\d.plain=true/\d.tree=true then some d else none
      |none=>none
    | .h y q=>match I.sub q (s y)with
      |some (.agg ds)=>match ds[k]? with
       |some d=>if I.dT (ds.take k)=off/\fits C jE d=true/\I.dU ds=false/\d.tree=true then some (if d.plain then d else .h y (q++[k]))else none
       |none=>none
      |_=>none
    |_=>none
   |none=>none
 |_=>none
theorem QS (bk:C.eF) (h:bx w0 F0 X F S s ay w) {T:TypeId} {x:I} {v:Value} {k:Nat} (aI:aF w F s ay x v (λ_=>False)) (he:l9 C s T x k=some av):Good C w0 F0 X ay w (Instr.field T v k) av s:=by
 have key:∀(az:List (TypeId×Nat)) (jE:TypeId) (off:Nat),(C.T T).k= .struct az->az[k]? =some (jE,off)->∀(ds:ahB) (d:I) (arr:Array Value) (aN:Nat->Prop),ds[k]? =some d->I.dT (ds.take k)=off->fits C jE d=true->aZ w F ds arr.toList aN->
   ∃x hF,(Instr.field T (.agg arr) k).run C.P w= .ok x w/\dz d x/\au w F d (b8 x) hF/\(arr.toList.drop off).take d.wd=b8 x:=by
  intro az jE off aq bd ds d arr aN ae o7 h_ gp;obtain⟨i,wF,z,aP,aT,aR,b4,cz,bV,bF⟩:=bk.info (fZ aq (by simp));rw[aq]at bF;obtain⟨gs,rfl,gL⟩:=wx bF;obtain⟨g,g1,rfl,rfl⟩:∃g,gs[k]? =some g/\g.type=jE/\g.offset=off:=by
   rw[<-gL,getElem?_map]at bd;simp only[map_eq_some_iff,Prod.mk.injEq]at bd;obtain⟨g,ab,ad,aC⟩:=bd;exact⟨g,by simpa using ab,ad,aC⟩
  obtain⟨b2,fN,c2,b3,hF,e,hr,fl,gJ,h3,fU,l7⟩:=aZ.pick ds _ _ k d gp ae;obtain⟨x,aH,Ju,ky⟩:=Qr (w:=w) bk e (hr.trans o7) fU h_;refine⟨x,hF,?_,ky,by rw[Ju];exact fU,?_⟩
  .simp[Instr.field,run_underlying bV,g1,asAgg,aH]
  .rw[e,Ju,<-o7];exact sg b2 fN c2 _ _ hr (au.length _ _ _ fU)
 have Jv:∀(d:I) (x:Value) (hF:Nat->Prop),d.plain=true->dz d x->au w F d (b8 x) hF->aF w F s ay d x (λ_=>False):=by
  intro d x hF an U gp;by_cases aY:d.tree=true
  .exact(aF.cr aY).2 ⟨U,au.plain _ _ _ _ an gp⟩
  .cases d<;>first|exact(aY rfl).elim|(rw[au]at gp;exact gp.elim)|(rw[aF];trivial)|(have bu:=au.plain _ _ _ (λ_=>False) an gp;rw[gz (by exact U)]at bu;exact aF.o8 _ _ rfl bu)
 unfold l9 at he;split at he
 .rename_i az aq;split at he
  .rename_i jE off bd;split at he
   .rename_i ds;split at he
    .rename_i d ae;split at he
     .rename_i ai;simp only[some.injEq]at he;subst he;obtain⟨⟨arr,rfl⟩,gp⟩:=(aF.cr rfl).1 aI;rw[au]at gp;obtain⟨x,hF,aH,U,q8,_⟩:=key az jE off aq bd ds d arr _ ae ai.1 ai.2.1 gp;exact Good.same h aH ai.2.2.1 (Jv d x hF ai.2.2.1 U q8)
     .cases he
    .cases he
   .rename_i y q;split at he
    .rename_i ds ae;split at he
     .rename_i d ob;split at he
      .rename_i ai;simp only[some.injEq]at he;have fy:(I.agg ds).plain=false:=by simpa [I.plain]using ai.2.2.1
       rw[aF]at aI;obtain⟨cD,a,g1,g2,g3⟩:=aI _ ae fy;obtain⟨arr,rfl⟩:=g3;have hy:=h.cW y;rw[aF.cr (hG ae (.inl fy))]at hy;obtain⟨fO,cB,dW,e5,k0,bN,cc,eB,dB,e6⟩:=ctx q (s y) (b8 (ay y)) (S y) none _ hy.2 ae;rw[k0]at g1;simp only[some.injEq,Prod.mk.injEq,true_and]at g1;obtain⟨rfl,rfl⟩:=g1;rw[au,<-g2]at dB;obtain⟨x,hF,aH,U,q8,hj⟩:=key az jE off aq bd ds d arr _ ob ai.1 ai.2.1 dB;by_cases an:d.plain=true
       .rw[if_pos an]at he;subst he;exact Good.same h aH an (Jv d x hF an U q8)
       .rw[if_neg an]at he;subst he;refine Good.same h aH rfl ?_;rw[aF];intro d2 hN wq;rw[wv w q _ _ _ _ _ _ [k] k0];rw[wu _ _ _ _ ae]at hN;simp only[I.sub,ob,some.injEq]at hN;subst hN;simp only[dc,ob];refine⟨_,_,rfl,?_,U⟩;rw[ai.1,<-g2];exact hj.symm
      .cases he
     .cases he
    .cases he
   .cases he
  .cases he
 .cases he
end
section
variable {C:bW} {w0 w:World} {F0 X F:Nat->Prop} {S:Nat->Nat->Prop} {s s1:aw} {ay:Nat->Value} {av:I}
def idx (C:bW) (T:TypeId) (x i:I):Option I:=
 match(C.T T).k,x,i with
 | .str,.str l,.int _ n=>if 0<=n then(match l[n.toNat]? with|some b=>some (.int .u8 b.toNat)|none=>none)else none
 |_,_,_=>none
theorem QT (l:aht) (n:Nat):(⟨⟨l⟩⟩:ByteArray)[n]? =l[n]? :=by
 by_cases h:n<l.length
 .have bc:n<(⟨⟨l⟩⟩:ByteArray).size:=h;rw[getElem?_eq_getElem h,getElem?_pos (⟨⟨l⟩⟩:ByteArray) n bc];rfl
 .have bc:¬n<(⟨⟨l⟩⟩:ByteArray).size:=h;rw[getElem?_eq_none (by omega),getElem?_neg (⟨⟨l⟩⟩:ByteArray) n bc]
theorem QU (bk:C.eF) (h:bx w0 F0 X F S s ay w) {T:TypeId} {x i:I} {v nt:Value} (aI:aF w F s ay x v (λ_=>False)) (ak:aF w F s ay i nt (λ_=>False)) (he:idx C T x i=some av):
  Good C w0 F0 X ay w (Instr.index T v nt) av s:=by
 unfold idx at he;split at he
 .rename_i l k n aq;have:=lN aI;subst this;have:=mR ak;subst this;obtain⟨i,d,z,aP,aT,aR,b4,cz,bV,bF⟩:=bk.info (fZ aq (by simp));rw[aq]at bF;have:=o6 bF;subst this;split at he
  .rename_i aU;split at he
   .rename_i b R;simp only[some.injEq]at he;subst he;refine Good.same h ?_ rfl (of_int _ _);simp[Instr.index,asIntOf,run_underlying bV,aU,QT,R]
   .cases he
  .cases he
 .cases he
def lenOf (s:aw):I->Option Nat
 | .str l=>some l.length
 | .bf=>some 0
 | .slice xs=>some xs.length
 | .h y q=>match I.sub q (s y)with
   |some (.ao _ xs)=>some xs.length
   |_=>none
 |_=>none
def qc (C:bW) (s:aw) (T:TypeId) (x:I):Option I:=
 match(C.T T).k,x with
 | .str,.str l=>some (.int .i64 l.length)
 | .slice _,.bf=>some (.int .i64 0)
 | .slice _,.slice xs=>some (.int .i64 xs.length)
 | .slice _,.h y q=>match I.sub q (s y)with
   |some (.ao _ xs)=>some (.int .i64 xs.length)
   |_=>none
 |_,_=>none
theorem zH {xs:ahB} {v:Value} {aN:Nat->Prop} (h:aF w F s ay (.slice xs) v aN):(xs=[]/\∃a c,v= .slice a 0 c/\c<=maxLen/\(a=none->c=0))\/
  ∃b o cap eh sz,v= .slice (some ⟨b,o,none⟩) xs.length cap/\F b/\xs.length<=cap/\cap<=maxLen/\(∀d∈xs,d.wd=sz)/\hE w b o eh/\aZ w F xs eh (λ_=>False):=by
 have bc:=(aF.cr rfl).1 h;rw[au,gz bc.1]at bc;obtain⟨_,⟨rfl,a,c,ad,aC⟩|⟨b,o,cap,eh,sz,ad,aC⟩⟩:=bc
 .simp at ad;exact .inl ⟨rfl,a,c,ad,aC⟩
 .simp at ad;exact .inr ⟨b,o,cap,eh,sz,ad,aC⟩
theorem QV (bk:C.eF) (h:bx w0 F0 X F S s ay w) {T ty:TypeId} {x:I} {v:Value} (aI:aF w F s ay x v (λ_=>False)) (he:qc C s T x=some av):
  Good C w0 F0 X ay w (Builtin.len_ #[T] ty #[v]) av s:=by
 unfold qc at he;split at he
 .rename_i l aq;have:=lN aI;subst this;obtain⟨i,d,z,aP,aT,aR,b4,cz,bV,bF⟩:=bk.info (fZ aq (by simp));rw[aq]at bF;have:=o6 bF;subst this;simp only[some.injEq]at he;subst he;refine Good.same h ?_ rfl (of_int _ _);simp[Builtin.len_,run_underlying bV,goInt];rfl
 .rename_i e aq;have:=q7 aI;subst this;obtain⟨i,d,z,aP,aT,aR,b4,cz,bV,bF⟩:=bk.info (fZ aq (by simp));rw[aq]at bF;have:=lM bF;subst this;simp only[some.injEq]at he;subst he;refine Good.same h ?_ rfl (of_int _ _);simp[Builtin.len_,run_underlying bV,goInt]
 .rename_i e xs aq;obtain⟨i,d,z,aP,aT,aR,b4,cz,bV,bF⟩:=bk.info (fZ aq (by simp));rw[aq]at bF;have:=lM bF;subst this;simp only[some.injEq]at he;subst he;refine Good.same h ?_ rfl (of_int _ _);rcases zH aI with⟨rfl,a,c,rfl,_⟩|⟨b,o,cap,eh,sz,rfl,_⟩<;>simp[Builtin.len_,run_underlying bV,goInt]
 .rename_i e y q aq;split at he
  .rename_i sz xs ae;obtain⟨i,d,z,aP,aT,aR,b4,cz,bV,bF⟩:=bk.info (fZ aq (by simp));rw[aq]at bF;have:=lM bF;subst this;simp only[some.injEq]at he;subst he;refine Good.same h ?_ rfl (of_int _ _);rcases Dt h aI ae with⟨rfl,_,rfl⟩|⟨b,cap,cur,aT,fr,rfl,_⟩<;>simp[Builtin.len_,run_underlying bV,goInt]
  .cases he
 .cases he
def bytesOf:ahB->Option aht
 |[]=>some []
 | .int .u8 n::r=>if 0<=n/\n<256 then(bytesOf r).map (UInt8.ofNat n.toNat::·)else none
 |_=>none
def kU (b:UInt8):I:=.int .u8 b.toNat
theorem QW (l:aht):bytesOf (l.map kU)=some l:=by
 induction l with
 |nil=>rfl
 |cons b l ih=>
  have R:b.toNat<256:=b.toNat_lt;simp only[map_cons,kU,bytesOf,Int.toNat_natCast];rw[if_pos (by omega),ih];simp
theorem Dx:∀(xs:ahB) (l:aht) (cs:ahz) (aN:Nat->Prop),bytesOf xs=some l->aZ w F xs cs aN->cs=l.map (λb=>.int .u8 (b.toNat:Int))/\xs.length=l.length
 |[],l,cs,aN,h,aH=>by simp[bytesOf]at h;subst h;rw[aZ]at aH;subst aH;exact⟨rfl,rfl⟩
 |x::xs,l,cs,aN,h,aH=>by
  unfold bytesOf at h;split at h
  .rename_i e;cases e
  .rename_i n r e;simp only[cons.injEq]at e;obtain⟨rfl,rfl⟩:=e;split at h
   .rename_i aU;simp only[map_eq_some_iff]at h;obtain⟨cd,ab,rfl⟩:=h;rw[aZ]at aH;obtain⟨b2,c2,b3,dh,rfl,ad,aC,_⟩:=aH;obtain⟨rfl,aW⟩:=Dx xs cd c2 dh ab aC;rw[au]at ad;subst ad;refine⟨?_,by simp[aW]⟩;simp only[map_cons,cons_append,nil_append,cons.injEq,and_true,Value.int.injEq,true_and];simp only[UInt8.toNat_ofNat'];omega
   .cases h
  .cases h
theorem bx.zI (h:bx w0 F0 X F S s ay w) {aD:World} {sz cap:Nat} {xs:ahB} {cur:Array Value} {e:TypeId} {fr:Nat×Nat} {Sn:Nat->Prop}
  (hw:aD.heap=w.heap.push (.cells cur e fr)) (ab:aD.os=w.os) (ad:aD.tape=w.tape) (aC:Out aD w)
  (bd:mo fr (cur.size+(sz-1))) (hle:xs.length<=cap) (hm:cap<=maxLen) (eJ:cur.size=cap*sz) (jO:∀d∈xs,d.wd=sz) (aI:aZ w F xs (cur.toList.take (xs.length*sz)) Sn)
  (ei:∀b,Sn b->b<w.heap.size) (a8:∀b,Sn b->¬F b) (bK:∀u b,Sn b->¬S u b) (aV:∀b,Sn b->X b\/w0.heap.size<=b):
  bx w0 F0 X F S s ay aD/\kR w0 X F S s ay aD (.ao sz xs) (.slice (some ⟨w.heap.size,0,none⟩) xs.length cap):=by
 have hold:∀b,b<w.heap.size->aD.heap[b]? =w.heap[b]? :=by
  intro b R;rw[hw,Array.getElem?_push,if_neg (by omega)]
 have afQ:aD.heap.size=w.heap.size+1:=by rw[hw];simp
 refine⟨h.grow hold (by omega) ab ad aC,.inr ⟨rfl,rfl,λb=>b=w.heap.size\/Sn b,?_,?_,?_,?_,?_⟩⟩
 .simp only[b8,hs];rw[au];refine .inr ⟨w.heap.size,cap,cur,e,fr,Sn,rfl,.inl rfl,?_,bd,hle,hm,eJ,jO,?_,λc ai=>.inr ai,λai=>Nat.lt_irrefl _ (ei _ ai)⟩
  .rw[hw];simp
  .exact aZ.frame (λb R=>hold b (h.eK b R)) _ _ _ (λb R=>hold b (ei b R)) aI
 .rintro b (rfl|R)
  .omega
  .have:=ei b R;omega
 .rintro b (rfl|R) qb
  .exact Nat.lt_irrefl _ (h.eK _ qb)
  .exact a8 b R qb
 .rintro u b (rfl|R) hu
  .exact Nat.lt_irrefl _ (h.et _ _ hu)
  .exact bK u b R hu
 .rintro b (rfl|R)
  .exact .inr h.size
  .exact aV b R
def iD (C:bW) (s:aw) (A B:TypeId) (x:I):Option I:=
 if(C.T A).ok=true then
 match(C.T B).k,x with
 | .int k,.int _ n=>some (.int k (k.wrap n))
 | .str,.str l=>match(C.T A).k with
   | .str=>some (.str l)
   |_=>none
 | .str,x=>match(C.T A).k with
   | .slice e=>match(C.T e).k with
     | .int .u8=>match x with
       | .bf=>some (.str [])
       | .slice xs=>(bytesOf xs).map .str
       | .h y q=>match I.sub q (s y)with
         |some (.ao 1 xs)=>(bytesOf xs).map .str
         |_=>none
       |_=>none
     |_=>none
   |_=>none
 | .slice e,.str l=>match(C.T A).k,(C.T e).k with
   | .str,.int .u8=>if l.length<=9223372036854775807 then some (.ao 1 (l.map kU))else none
   |_,_=>none
 |_,_=>none
 else none
theorem Jw (l:aht) (aN:Nat->Prop):aZ w F (l.map kU) (l.map λb=>.int .u8 (b.toNat:Int)) aN:=by
 induction l generalizing aN with
 |nil=>simp only[map_nil];rw[aZ]
 |cons b l ih=>
  simp only[map_cons];rw[aZ];exact⟨[.int .u8 (b.toNat:Int)],_,λ_=>False,λ_=>False,rfl,by rw[kU,au],ih _,λ_ h=>h.elim,λ_ h=>h.elim,λ_ h=>h.elim⟩
theorem QX (bk:C.eF) (h:bx w0 F0 X F S s ay w) {A B:TypeId} {x:I} {v:Value} (aI:aF w F s ay x v (λ_=>False)) (he:iD C s A B x=some av):
  Good C w0 F0 X ay w (convert A B v) av s:=by
 unfold iD at he;split at he
 .rename_i ib;obtain⟨iz,afR,afS,J,a2,a3,a4,a5,o_,pa⟩:=bk.info ib;split at he
  .rename_i k cI n aq;have:=mR aI;subst this;obtain⟨i,d,z,aP,aT,aR,b4,cz,bV,bF⟩:=bk.info (fZ aq (by simp));rw[aq]at bF;have:=zy bF;subst this;simp only[some.injEq]at he;subst he;refine Good.same h ?_ rfl (of_int _ _);simp[convert,run_underlying o_,run_underlying bV,Conv.intToInt]
  .rename_i l aq;have:=lN aI;subst this;obtain⟨i,d,z,aP,aT,aR,b4,cz,bV,bF⟩:=bk.info (fZ aq (by simp));rw[aq]at bF;have:=o6 bF;subst this;split at he
   .rename_i wJ;rw[wJ]at pa;have:=o6 pa;subst this;simp only[some.injEq]at he;subst he;refine Good.same h ?_ rfl (oe _);simp[convert,run_underlying o_,run_underlying bV]
   .cases he
  .rename_i x aq _;obtain⟨i,d,z,aP,aT,aR,b4,cz,bV,bF⟩:=bk.info (fZ aq (by simp));rw[aq]at bF;have:=o6 bF;subst this;split at he
   .rename_i e wJ;rw[wJ]at pa;have:=lM pa;subst this;split at he
    .rename_i wK;obtain⟨p9,bp,p_,f1,f2,f3,f4,f5,f6,f7⟩:=bk.info (fZ wK (by simp));rw[wK]at f7;have:=zy f7;subst this;have fin:∀(l:aht) (b o cap:Nat),hE w b o (l.map λb=>.int .u8 (b.toNat:Int))->(convert A B (.slice (some ⟨b,o,none⟩) l.length cap)).run C.P w= .ok (.string ⟨⟨l⟩⟩) w:=by
      intro l b o cap jN;refine run_convert_bytes_back w A B e ⟨b,o,none⟩ cap l o_ f6 bV (λj bQ=>?_);rw[Addr.add_lit];exact jN j _ (by simp[bQ])
     have nil:(convert A B (.slice none 0 0)).run C.P w= .ok (.string ⟨⟨[]⟩⟩) w:=by
      simp[convert,run_underlying o_,run_underlying bV,run_underlying f6,Conv.bytesToString];rfl
     split at he
     .have:=q7 aI;subst this;simp only[some.injEq]at he;subst he;exact Good.same h nil rfl (oe _)
     .rename_i xs _;simp only[map_eq_some_iff]at he;obtain⟨l,hl,rfl⟩:=he;rcases zH aI with⟨rfl,a,c,rfl,_,ss⟩|⟨b,o,cap,eh,sz,rfl,ab,ad,aC,aW,bu,cy⟩
      .simp[bytesOf]at hl;subst hl;cases a with
       |none=>
        have:=ss rfl;subst this;exact Good.same h nil rfl (oe _)
       |some a=>
        refine Good.same h ?_ rfl (oe _);exact run_convert_bytes_back w A B e a c [] o_ f6 bV (λj bQ=>by simp at bQ)
      .obtain⟨rfl,cl⟩:=Dx xs l eh _ hl cy;rw[cl];exact Good.same h (fin l b o cap bu) rfl (oe _)
     .rename_i y q;split at he
      .rename_i xs ae;simp only[map_eq_some_iff]at he;obtain⟨l,hl,rfl⟩:=he;rcases Dt h aI ae with⟨rfl,a,rfl⟩|⟨b,cap,cur,aT,fr,rfl,ab,ad,aC,aW,bu,cy,aN,cl,_⟩
       .simp[bytesOf]at hl;subst hl;cases a with
        |none=>exact Good.same h nil rfl (oe _)
        |some a=>
         refine Good.same h ?_ rfl (oe _);exact run_convert_bytes_back w A B e a 0 [] o_ f6 bV (λj bQ=>by simp at bQ)
       .obtain⟨fM,h9⟩:=Dx xs l _ _ hl cl;rw[h9];refine Good.same h (fin l b 0 cap ?_) rfl (oe _);rw[<-fM];exact ud ab _
      .cases he
     .cases he
    .cases he
   .cases he
  .rename_i e l aq;have:=lN aI;subst this;obtain⟨i,d,z,aP,aT,aR,b4,cz,bV,bF⟩:=bk.info (fZ aq (by simp));rw[aq]at bF;have:=lM bF;subst this;split at he
   .rename_i wJ wK;rw[wJ]at pa;have:=o6 pa;subst this;obtain⟨p9,bp,p_,f1,f2,f3,f4,f5,f6,f7⟩:=bk.info (fZ wK (by simp));rw[wK]at f7;have:=zy f7;subst this;split at he
    .rename_i hl;simp only[some.injEq]at he;subst he;have U:(⟨⟨l⟩⟩:ByteArray).size=l.length:=rfl;have Dy:=grownCap_ge w l.length 0 e;have QY:=grownCap_le_maxLen w l.length 0 e (by unfold maxLen;omega);have Jx:(bytesRow ⟨⟨l⟩⟩ (grownCap w l.length 0 e)).toList=l.map (λb=>Value.int .u8 (b.toNat:Int))++replicate (grownCap w l.length 0 e-l.length) (.int .u8 0):=by
      simp[bytesRow,U]
     have eJ:(bytesRow ⟨⟨l⟩⟩ (grownCap w l.length 0 e)).size=grownCap w l.length 0 e*1:=by
      have:(bytesRow ⟨⟨l⟩⟩ (grownCap w l.length 0 e)).size=(bytesRow ⟨⟨l⟩⟩ (grownCap w l.length 0 e)).toList.length:=by simp
      rw[this,Jx];simp;omega
     have sr:=run_bytes_of_string w A B e ⟨⟨l⟩⟩ o_ bV f6;rw[U]at sr;have lQ:=h.zI (aD:=w.drew.alloc (.cells (bytesRow ⟨⟨l⟩⟩ (grownCap w l.length 0 e)) e ((bytesRow ⟨⟨l⟩⟩ (grownCap w l.length 0 e)).size,(bytesRow ⟨⟨l⟩⟩ (grownCap w l.length 0 e)).size+1)))
      (sz:=1) (cap:=grownCap w l.length 0 e) (xs:=l.map kU) (cur:=bytesRow ⟨⟨l⟩⟩ (grownCap w l.length 0 e)) (e:=e) (Sn:=λ_=>False) rfl rfl rfl ⟨rfl,λ_=>le_succ _⟩
      (λo b1 ⟨ab,_⟩=>by simp only at ab;omega) (by simpa using Dy) QY eJ (by intro d ae;obtain⟨b,_,rfl⟩:=mem_map.1 ae;rfl)
      (by rw[Jx,take_left' (by simp)];exact Jw l _) (λ_ h=>h.elim) (λ_ h=>h.elim) (λ_ _ h=>h.elim) (λ_ h=>h.elim)
     simp only[length_map]at lQ;exact⟨_,_,F,S,sr,lQ.1,lQ.2⟩
    .cases he
   .cases he
  .cases he
 .cases he
end
section
variable {C:bW} {w0 w:World} {F0 X F:Nat->Prop} {S:Nat->Nat->Prop} {s s1:aw} {ay:Nat->Value} {av:I}
def hL (d:Nat):Option I->Option Nat
 |none=>some d
 |some (.int _ n)=>if 0<=n then some n.toNat else none
 |some _=>none
def gY (C:bW) (s:aw) (T:TypeId) (x:I) (eN ak:Option I):Option (I×aw):=
 match(C.T T).k,x with
 | .str,.str l=>match hL 0 eN,hL l.length ak with
   |some a,some b=>if a<=b/\b<=l.length then some (.str ((l.take b).drop a),s)else none
   |_,_=>none
 | .slice e,.bf=>match hL 0 eN,hL 0 ak with
   |some 0,some 0=>if(C.T e).ok=true then some (.bf,s)else none
   |_,_=>none
 | .slice e,.slice xs=>match hL 0 eN,hL xs.length ak with
   |some a,some b=>if a<=b/\b<=xs.length/\(C.T e).ok=true/\(∀d∈xs,d.wd=(C.T e).sz)then some (.slice ((xs.take b).drop a),s)else none
   |_,_=>none
 | .slice e,.h y q=>match I.sub q (s y)with
   |some (.ao sz xs)=>match hL 0 eN,hL xs.length ak with
    |some 0,some b=>if b<=xs.length/\(C.T e).ok=true then(match cH s (.h y q)with|some (_,s1)=>some (.ao sz (xs.take b),s1)|none=>none)else none
    |_,_=>none
   |_=>none
 |_,_=>none
def qd (w:World) (F:Nat->Prop) (s:aw) (ay:Nat->Value):Option I->Option Value->Prop
 |none,none=>True
 |some d,some v=>aF w F s ay d v (λ_=>False)
 |_,_=>False
theorem Jy {d:Nat} {o:Option I} {v:Option Value} (b1:qd w F s ay o v) {a:Nat} (h:hL d o=some a):(o=none/\v=none/\a=d)\/∃k,v=some (.int k a):=by
 cases o with
 |none=>
  cases v with
  |none=>simp[hL]at h;exact .inl ⟨rfl,rfl,h.symm⟩
  |some v=>simp[qd]at b1
 |some x=>
  cases v with
  |none=>simp[qd]at b1
  |some v=>
   simp only[qd]at b1;cases x with
   |int k n=>
    have:=mR b1;subst this;simp only[hL]at h;split at h
    .rename_i aU;simp only[some.injEq]at h;subst h;obtain⟨m,rfl⟩:=Int.eq_ofNat_of_zero_le aU;exact .inr ⟨k,rfl⟩
    .cases h
   |_=>simp[hL]at h
theorem uj {P:Program} {isS:Bool} {len cap a b:Nat} {eN ak:Option I} {sv sw:Option Value} (nw:qd w F s ay eN sv) (nx:qd w F s ay ak sw) (bM:hL 0 eN=some a) (R:hL len ak=some b) (l6:a<=b) (QZ:b<=cap) (_hlc:len<=cap):
  (Instr.sliceBounds isS len cap sv sw none).run P w= .ok (a,b,cap) w:=by
 rcases Jy nw bM with⟨_,rfl,rfl⟩|⟨k,rfl⟩<;>rcases Jy nx R with⟨_,rfl,rfl⟩|⟨cI,rfl⟩<;>
  simp[Instr.sliceBounds,Instr.sliceBound,asIntOf,l6,QZ]
theorem uk (bk:C.eF) {T:TypeId} (aq:(C.T T).flat=true) (v:Value) (eN ak eA:Option Value) (w:World):(Instr.sliceAt T v eN ak eA).run C.P w=(Instr.slice T v eN ak eA).run C.P w:=by
 obtain⟨i,d,z,aP,aT,aR,b4,cz,bV,bF⟩:=bk.info (Jc aq);have cO:∀n e,d≠.array n e:=by
  clear bV;unfold gg.flat at aq;generalize (C.T T).k=kx at*;cases kx<;>cases d<;>simp[lf]at bF aq⊢
 cases d<;>first|exact(cO _ _ rfl).elim|simp[Instr.sliceAt,run_underlying bV]
theorem um {x:gg} {k:mO} (h:x.k=k) (aq:k≠.other) (U:∀az,k≠.struct az) (R:∀e,k≠.gr e:=by simp):x.flat=true:=by
 unfold gg.flat;rw[h];cases k<;>first|rfl|exact(aq rfl).elim|exact(R _ rfl).elim|exact(U _ rfl).elim
theorem aZ.split:∀(n:Nat) (xs:ahB) (cs:ahz) (aN:Nat->Prop),aZ w F xs cs aN->∃b2 c2 b3 dh,cs=b2++c2/\aZ w F (xs.take n) b2 b3/\aZ w F (xs.drop n) c2 dh/\(∀b,b3 b->aN b)/\(∀b,dh b->aN b)/\(∀b,b3 b->¬dh b)
 |0,xs,cs,aN,h=>⟨[],cs,λ_=>False,aN,rfl,by rw[take_zero,aZ],h,λ_ h=>h.elim,λ_ h=>h,λ_ h=>h.elim⟩
 |n+1,[],cs,aN,h=>by rw[aZ]at h;subst h;exact⟨[],[],λ_=>False,λ_=>False,rfl,by rw[take_nil,aZ],by rw[drop_nil,aZ],λ_ h=>h.elim,λ_ h=>h.elim,λ_ h=>h.elim⟩
 |n+1,x::xs,cs,aN,h=>by
  rw[aZ]at h;obtain⟨b2,c2,hq,gx,rfl,ab,ad,aC,aW,bu⟩:=h;obtain⟨d1,d2,b3,dh,rfl,g1,g2,g3,g4,g5⟩:=aZ.split n xs c2 gx ad;refine⟨b2++d1,d2,λb=>hq b\/b3 b,dh,by simp,?_,g2,?_,λb R=>aW _ (g4 _ R),?_⟩
  .rw[take_succ_cons,aZ];exact⟨b2,d1,hq,b3,rfl,ab,g1,λ_ h=>.inl h,λ_ h=>.inr h,λb R ai=>bu b R (g3 b ai)⟩
  .rintro b (R|R)
   .exact aC b R
   .exact aW b (g3 b R)
  .rintro b (R|R) ai
   .exact bu b R (g4 b ai)
   .exact g5 b R ai
theorem Q0 (bk:C.eF) (h:bx w0 F0 X F S s ay w) {T:TypeId} {x:I} {v:Value} {eN ak:Option I} {sv sw:Option Value} (ar:x.plain=true) (aI:aF w F s ay x v (λ_=>False)) (nw:qd w F s ay eN sv) (nx:qd w F s ay ak sw)
  (he:gY C s T x eN ak=some (av,s1)):Good C w0 F0 X ay w (Instr.sliceAt T v sv sw none) av s1:=by
 unfold gY at he;split at he
 .rename_i l aq;have:=lN aI;subst this;obtain⟨i,d,z,aP,aT,aR,b4,cz,bV,bF⟩:=bk.info (fZ aq (by simp));rw[aq]at bF;have:=o6 bF;subst this;split at he
  .rename_i a b bM R;split at he
   .rename_i l6;simp only[some.injEq,Prod.mk.injEq]at he;obtain⟨rfl,rfl⟩:=he;refine Good.same h ?_ rfl (oe _);rw[uk bk (um aq (by simp) (by simp))];have eJ:(⟨⟨l⟩⟩:ByteArray).size=l.length:=rfl;have ny:=uj (P:=C.P) (isS:=false) (len:=l.length) (cap:=l.length) nw nx bM R l6.1 l6.2 (Nat.le_refl _);have Q1:(⟨⟨l⟩⟩:ByteArray).extract a b=⟨⟨(l.take b).drop a⟩⟩:=by
     apply ByteArray.ext;simp[ByteArray.data_extract,drop_take]
    simp[Instr.slice,run_underlying bV,eJ,ny,Q1]
   .cases he
  .cases he
 .rename_i e aq;have:=q7 aI;subst this;obtain⟨i,d,z,aP,aT,aR,b4,cz,bV,bF⟩:=bk.info (fZ aq (by simp));rw[aq]at bF;have:=lM bF;subst this;split at he
  .rename_i bM R;split at he
   .rename_i qe;obtain⟨p9,bp,p_,f1,f2,f3,f4,f5,f6,f7⟩:=bk.info qe;simp only[some.injEq,Prod.mk.injEq]at he;obtain⟨rfl,rfl⟩:=he;have ny:=uj (P:=C.P) (isS:=true) (len:=0) (cap:=0) nw nx bM R (Nat.le_refl _) (Nat.le_refl _) (Nat.le_refl _);refine Good.same h (v:=.slice none 0 0) ?_ rfl aI;rw[uk bk (um aq (by simp) (by simp))];simp[Instr.slice,run_underlying bV,ny,kv f1,f2]
   .cases he
  .cases he
 .rename_i e xs aq;obtain⟨i,d,z,aP,aT,aR,b4,cz,bV,bF⟩:=bk.info (fZ aq (by simp));rw[aq]at bF;have:=lM bF;subst this;split at he
  .rename_i a b bM R;split at he
   .rename_i l6;obtain⟨Q2,Jz,qe,jO⟩:=l6;obtain⟨p9,bp,p_,f1,f2,f3,f4,f5,f6,f7⟩:=bk.info qe;simp only[some.injEq,Prod.mk.injEq]at he;obtain⟨rfl,rfl⟩:=he;rcases zH aI with⟨rfl,uo,c,rfl,Dz,ss⟩|⟨h5,o,cap,eh,sz,rfl,ab,ad,aC,aW,bu,cy⟩
    .have hx:b=0:=by simpa using Jz
     subst hx;have Q3:a=0:=by omega
     subst Q3;have ny:=uj (P:=C.P) (isS:=true) (len:=0) (cap:=c) nw nx bM R (Nat.le_refl _) (zero_le _) (zero_le _);refine Good.same h (v:=.slice uo 0 c) ?_ rfl ((aF.cr rfl).2 ⟨rfl,by rw[au];exact .inl ⟨rfl,uo,c,rfl,Dz,ss⟩⟩);rw[uk bk (um aq (by simp) (by simp))];cases uo with
     |none=>
      have:=ss rfl;subst this;simp[Instr.slice,run_underlying bV,ny,kv f1,f2]
     |some uo=>simp[Instr.slice,run_underlying bV,ny,kv f1,f2,Addr.add]
    .have ny:=uj (P:=C.P) (isS:=true) (len:=xs.length) (cap:=cap) nw nx bM R Q2 (Nat.le_trans Jz ad) ad;obtain⟨b2,c2,b3,dh,rfl,g1,g2,g3,g4,g5⟩:=aZ.split b xs eh _ cy;obtain⟨d1,d2,afT,JA,rfl,bN,cc,eB,dB,e6⟩:=aZ.split a (xs.take b) b2 _ g1;have zJ:d1.length=a*(C.T e).sz:=by
      rw[aZ.length _ _ _ bN,sj _ (λd ae=>jO d (mem_of_mem_take (mem_of_mem_take ae))),length_take,length_take];congr 1;omega
     have hlen:((xs.take b).drop a).length=b-a:=by simp;omega
     have jN:hE w h5 (o+a*(C.T e).sz) d2:=by
      rw[<-zJ];have:hE w h5 o (d1++(d2++c2)):=by simpa using bu
      exact this.Dm
     have zK:aZ w F ((xs.take b).drop a) d2 (λ_=>False):=aZ.mono (λ_ h=>h) _ _ _ _ (λb R=>(g3 _ (dB _ R)).elim) cc;have mem:∀d∈(xs.take b).drop a,d.wd=sz:=λd ae=>aW d (mem_of_mem_take (mem_of_mem_drop ae));have run:(Instr.sliceAt T (.slice (some ⟨h5,o,none⟩) xs.length cap) sv sw none).run C.P w= .ok (.slice (if cap=a then some ⟨h5,o,none⟩else some ⟨h5,o+a*(C.T e).sz,none⟩) (b-a) (cap-a)) w:=by
      rw[uk bk (um aq (by simp) (by simp))];simp[Instr.slice,run_underlying bV,ny,kv f1,f2,Addr.add_lit]
     refine⟨_,w,F,S,run,h,.inl ⟨rfl,(aF.cr rfl).2 ⟨rfl,?_⟩⟩⟩;simp only[b8,hs];rw[au];by_cases JB:cap=a
     .have Q4:b=a:=by omega
      subst Q4;have wL:(xs.take b).drop b=[]:=by simp
      rw[if_pos JB];rw[wL]at zK⊢;rw[aZ]at zK;subst zK;exact .inr ⟨h5,o,cap-b,[],sz,by simp,ab,zero_le _,by omega,by simp,λj c bQ=>by simp at bQ,by rw[aZ]⟩
     .rw[if_neg JB];exact .inr ⟨h5,_,cap-a,d2,sz,by rw[hlen],ab,by rw[hlen];omega,by omega,mem,jN,zK⟩
   .cases he
  .cases he
 .rename_i e y q aq;split at he
  .rename_i sz xs ae;split at he
   .rename_i b bM R;split at he
    .rename_i zL;split at he
     .rename_i wF s2 aY;simp only[some.injEq,Prod.mk.injEq]at he;obtain⟨rfl,rfl⟩:=he;obtain⟨i,d,z,aP,aT,aR,b4,cz,bV,bF⟩:=bk.info (fZ aq (by simp));rw[aq]at bF;have:=lM bF;subst this;obtain⟨p9,bp,p_,f1,f2,f3,f4,f5,f6,f7⟩:=bk.info zL.2;have su:wF= .ao sz xs:=by
       simp only[cH,ae,I.plain]at aY;simp at aY;exact aY.1.symm
      subst su;obtain⟨b3,g0,g1,g2,Sn,g3,g4,g5,g6,g7,g8⟩:=o5 h rfl aI aY;rw[gz g2,au]at g3;rcases g3 with⟨rfl,a0,lj⟩|⟨h5,cap,cur,fE,fr,aN,lj,bN,cc,eB,dB,e6,cZ,iW,fF,l_,mT⟩
      .simp at lj;subst lj;have hx:b=0:=by simpa using zL.1
       subst hx;have ny:=uj (P:=C.P) (isS:=true) (len:=0) (cap:=0) nw nx bM R (Nat.le_refl _) (Nat.le_refl _) (Nat.le_refl _);refine⟨.slice a0 0 0,w,F,b3,?_,g0,.inr ⟨rfl,rfl,λ_=>False,by simp only[b8,hs];rw[au];exact .inl ⟨rfl,_,rfl⟩,λ_ h=>h.elim,λ_ h=>h.elim,λ_ _ h=>h.elim,λ_ h=>h.elim⟩⟩;rw[uk bk (um aq (by simp) (by simp))];cases a0<;>simp[Instr.slice,run_underlying bV,ny,kv f1,f2]
      .simp at lj;subst lj;have ny:=uj (P:=C.P) (isS:=true) (len:=xs.length) (cap:=cap) nw nx bM R (zero_le _) (Nat.le_trans zL.1 dB) dB;have hlen:(xs.take b).length=b:=by simp;omega
       have run:(Instr.sliceAt T (.slice (some ⟨h5,0,none⟩) xs.length cap) sv sw none).run C.P w= .ok (.slice (some ⟨h5,0,none⟩) b cap) w:=by
        rw[uk bk (um aq (by simp) (by simp))];simp[Instr.slice,run_underlying bV,ny,kv f1,f2,Addr.add_lit]
       refine⟨_,w,F,b3,run,g0,.inr ⟨rfl,rfl,Sn,?_,g4,g5,g6,g7⟩⟩;simp only[b8,hs];rw[au];obtain⟨b2,c2,hq,gx,ai,m1,m2,m3,m4,m5⟩:=aZ.split b xs _ _ fF;refine .inr ⟨h5,cap,cur,fE,fr,aN,by rw[hlen],bN,cc,eB,by omega,e6,cZ,λd ae=>iW d (mem_of_mem_take ae),?_,l_,mT⟩;have zJ:b2.length=b*sz:=by
        rw[aZ.length _ _ _ m1,sj _ (λd ae=>iW d (mem_of_mem_take ae)),hlen]
       have:cur.toList.take ((xs.take b).length*sz)=b2:=by
        rw[hlen];have ad:b*sz<=xs.length*sz:=mul_le_mul_right _ zL.1;have:(cur.toList.take (xs.length*sz)).take (b*sz)=b2:=by rw[ai,take_left' zJ]
        rwa [take_take,Nat.min_eq_left ad]at this
       rw[this];exact aZ.mono (λ_ h=>h) _ _ _ _ m3 m1
     .cases he
    .cases he
   .cases he
  .cases he
 .cases he
end
section
variable {C:bW} {w0 w:World} {F0 X F:Nat->Prop} {S:Nat->Nat->Prop} {s s1:aw} {ay:Nat->Value} {av:I}
def Src (P:Program) (w:World) (size:Nat) (x:Value) (m:Nat) (news:ahz):Prop:=
 ∀aD:World,aD.heap=w.heap->(Builtin.lenOf x).run P aD= .ok m aD/\(Builtin.firstCells size m x).run P aD= .ok news.toArray aD
def DA (d:TypeDesc):Prop:=(∃e,d= .slice e)\/d= .string
theorem Q5 {P:Program} {T cQ ty e:TypeId} {qf:TypeDesc} {i:TypeInfo} (aY:P.underlying T=some (.slice e)) (hu:P.underlying cQ=some qf) (sx:DA qf) (ak:P.info? e=some i)
  {x:Value} {m:Nat} {news:ahz} (zM:Src P w i.size x m news) {b n cap:Nat} {cur:Array Value} {fE:TypeId} {fr:Nat×Nat} {l mid r:ahz} (R:w.heap[b]? =some (.cells cur fE fr)) (bd:mo fr cur.size)
  (ai:cur.toList=l++(mid++r)) (hl:l.length=n*i.size) (hm:mid.length=news.length) (zE:∀v∈news,Value.fY v=true) (pb:n+m<=cap):
  ∃aD,(Builtin.append_ #[T,cQ] ty #[.slice (some ⟨b,0,none⟩) n cap,x]).run P w= .ok (.slice (some ⟨b,0,none⟩) (n+m) cap) aD/\aD.heap[b]? =some (.cells (l++(news++r)).toArray fE fr)/\
   (∀c,c≠b->aD.heap[c]? =w.heap[c]?)/\aD.heap.size=w.heap.size/\aD.os=w.os/\aD.tape=w.tape/\Out aD w:=by
 obtain⟨aD,m1,m2⟩:=zD (P:=P) (b:=b) (o:=n*i.size) (e:=fE) (fr:=fr) news 0 cur w l mid r R bd ai (by omega) hm zE;refine⟨aD,?_,m2⟩;obtain⟨ab,ad⟩:=zM w rfl;rcases sx with⟨fV,rfl⟩|rfl<;>simp[Builtin.append_,run_underlying aY,run_underlying hu,kv ak,ab,ad,pb,Addr.add_lit,m1]
theorem Q6 {P:Program} {T cQ ty e:TypeId} {qf:TypeDesc} {i:TypeInfo} {z:Value} (aY:P.underlying T=some (.slice e)) (hu:P.underlying cQ=some qf) (sx:DA qf) (ak:P.info? e=some i) (bR:i.zero=some z)
  {x:Value} {m:Nat} {news:ahz} (zM:Src P w i.size x m news) {base:Option Addr} {n cap:Nat} {og:ahz} (hold:Src P w i.size (.slice base n cap) n og) (pb:¬n+m<=cap)
  (aU:n+m<=9223372036854775807) (DB:(n+m)*i.bytes<=140737488355328):
  (Builtin.append_ #[T,cQ] ty #[.slice base n cap,x]).run P w= .ok (.slice (some ⟨w.heap.size,0,none⟩) (n+m) (grownCap w (n+m) cap e))
   (w.drew.alloc (.cells (og.toArray++news.toArray++Builtin.zeroCells z.cells (grownCap w (n+m) cap e-(n+m))) e)):=by
 have ab:=(zM w rfl).1;have ad:=(zM w.drew rfl).2;have aC:=(hold w.drew rfl).2;have afU:=growslice_fits (need:=n+m) (old:=cap) (by omega) DB;have h_:¬(281474976710656<Builtin.nextslicecap (n+m) cap*i.bytes):=by omega
 have zN:∀k (w:World),(askRoom k).run P w= .ok () w:=by
  intro k w;unfold askRoom;split<;>rfl
 have Q7:¬(9223372036854775807<(n:Int)+(m:Int)/\i.bytes=0):=by omega
 rcases sx with⟨fV,rfl⟩|rfl<;>
  .simp[Builtin.append_,run_underlying aY,run_underlying hu,kv ak,wy ak,ab,pb,h_,Question.forced,zN];rw[if_neg Q7,aC];simp[ad,so ak bR,newRow,grownCap];have aP:(og++news).toArray=og.toArray++news.toArray:=by simp
   rw[aP,Array.append_assoc]
def zO (C:bW) (e cQ:TypeId):Bool:=match(C.T cQ).k,(C.T e).k with
 | .slice fV,_=>fV==e
 | .str,.int .u8=>true
 |_,_=>false
def qg (C:bW) (s:aw) (T cQ:TypeId) (x y:I):Option (I×aw):=
 match(C.T T).k with
 | .slice e=>if(C.T e).ok=true/\(C.T e).zero.wd=(C.T e).sz/\(flat (C.T e).zero).isSome=true/\zO C e cQ=true then
   match(match x with| .bf=>some (I.ao (C.T e).sz [],s)| .h a q=>cH s (.h a q)|_=>none)with
   |some (.ao sz xs,s1)=>if sz=(C.T e).sz then
     match(match ku x.owner y with
      | .bf=>some ([],s1)
      | .slice bm=>some (bm,s1)
      | .str l=>some (l.map kU,s1)
      | .h a q=>match cH s1 (.h a q)with
        |some (.ao _ bm,s2)=>some (bm,s2)
        |_=>none
      |_=>none)with
     |some (bm,s2)=>if(∀d∈bm,d.wd=(C.T e).sz)/\(xs.length+bm.length)*(C.T e).bytes<=140737488355328/\xs.length+bm.length<=9223372036854775807 then some (.ao sz (xs++bm),s2)else none
     |none=>none
    else none
   |_=>none
   else none
 |_=>none
theorem aZ.append {xs bm:ahB} {b2 c2:ahz} {b3 dh aN:Nat->Prop} (ab:aZ w F xs b2 b3) (ad:aZ w F bm c2 dh) (aP:∀b,b3 b->aN b) (aT:∀b,dh b->aN b) (aR:∀b,b3 b->¬dh b):aZ w F (xs++bm) (b2++c2) aN:=by
 induction xs generalizing b2 b3 aN with
 |nil=>rw[aZ]at ab;subst ab;exact aZ.mono (λ_ h=>h) _ _ _ _ aT ad
 |cons x xs ih=>
  rw[aZ]at ab;obtain⟨Q8,Q9,hq,gx,rfl,g1,g2,g3,g4,g5⟩:=ab;rw[cons_append,aZ];refine⟨Q8,Q9++c2,hq,λb=>gx b\/dh b,by simp,g1,ih g2 (λb h=>.inl h) (λb h=>.inr h) (λb h=>aR b (g4 b h)),λb h=>aP b (g3 b h),?_,?_⟩
  .rintro b (h|h)
   .exact aP b (g4 b h)
   .exact aT b h
  .rintro b h (bc|bc)
   .exact g5 b h bc
   .exact aR b (g3 b h) bc
theorem DC {P:Program} {size m cap:Nat} {b o:Nat} {news:ahz} (jN:hE w b o news) (hl:news.length=m*size):Src P w size (.slice (some ⟨b,o,none⟩) m cap) m news:=by
 intro aD hw;refine⟨rfl,?_⟩;refine run_firstCells_some aD size m ⟨b,o,none⟩ m cap news hl (λj v bQ=>?_);rw[Addr.add_lit];have:=jN j v bQ;simpa [World.cell?,hw]using this
theorem JC {P:Program} {size cap:Nat}:Src P w size (.slice none 0 cap) 0 []:=by
 intro aD _;exact⟨rfl,by simp[Builtin.firstCells]⟩
theorem DD {P:Program} {size cap:Nat} (a:Option Addr):Src P w size (.slice a 0 cap) 0 []:=by
 cases a with
 |none=>exact JC
 |some a=>
  intro aD _;exact⟨rfl,run_firstCells_some aD size 0 a 0 cap [] (by simp) (λj v bQ=>by simp at bQ)⟩
theorem Q_ {P:Program} (l:aht):Src P w 1 (.string ⟨⟨l⟩⟩) l.length (l.map λb=>.int .u8 (b.toNat:Int)):=by
 intro aD _;refine⟨rfl,?_⟩;have:(⟨⟨l⟩⟩:ByteArray).extract 0 l.length=⟨⟨l⟩⟩:=by
  apply ByteArray.ext;simp[ByteArray.data_extract]
 simp[Builtin.firstCells,this]
theorem aZ.sy {sz:Nat} {xs:ahB} {cs:ahz} {aN:Nat->Prop} (h:aZ w F xs cs aN) (hw:∀d∈xs,d.wd=sz):cs.length=xs.length*sz:=by
 rw[aZ.length _ _ _ h,sj _ hw]
theorem bx.turn (h:bx w0 F0 X F S s ay w) {aD:World} {b:Nat} (R:∀c,c≠b->aD.heap[c]? =w.heap[c]?) (U:aD.heap.size=w.heap.size) (ab:aD.os=w.os) (ad:aD.tape=w.tape) (aC:Out aD w)
  (a8:¬F b) (bK:∀u,¬S u b) (aV:X b\/w0.heap.size<=b):bx w0 F0 X F S s ay aD where
 gq:=h.gq
 gK:=h.gK
 eK:=λc ai=>by rw[U];exact h.eK c ai
 et:=λt c ai=>by rw[U];exact h.et t c ai
 fg:=h.fg
 eT:=h.eT
 dy:=h.dy
 cW:=λt=>aF.frame (Sx:=S) (λc ai=>R c (by rintro rfl;exact a8 ai)) (λ_ h=>h) (λx c ai=>R c (by rintro rfl;exact bK x ai)) h.cW _ _ _ (λc ai=>R c (by rintro rfl;exact bK t ai)) (h.cW t)
 old:=λc ei j_=>by
  rw[R c ?_]
  .exact h.old c ei j_
  .rintro rfl;rcases aV with aV|aV
   .exact j_ aV
   .omega
 size:=by rw[U];exact h.size
 os:=ab.trans h.os
 tape:=ad.trans h.tape
 output:=aC.trans h.output
 fW:=h.fW
theorem Ra (bk:C.eF) (h:bx w0 F0 X F S s ay w) {T cQ ty:TypeId} {x y:I} {ia jm:Value} (ar:aF w F s ay x ia (λ_=>False)) (hy:aF w F s ay y jm (λ_=>False))
  (he:qg C s T cQ x y=some (av,s1)):Good C w0 F0 X ay w (Builtin.append_ #[T,cQ] ty #[ia,jm]) av s1:=by
 unfold qg at he;split at he
 .rename_i e aq;obtain⟨JD,d,JE,aP,aT,aR,b4,cz,bV,bF⟩:=bk.info (fZ aq (by simp));rw[aq]at bF;have:=lM bF;subst this;split at he
  .rename_i wC;obtain⟨qe,sA,sB,pc⟩:=wC;obtain⟨i,JF,z,f1,f2,f3,f4,f5,f6,f7⟩:=bk.info qe;obtain⟨gB,mU⟩:=isSome_iff_exists.1 sB;have sC:=f5 gB mU;have q9:gB.length=(C.T e).sz:=by
    have:=au.length _ _ _ ((au.flat (w:=w) (F:=F) _).1 (C.T e).zero gB (λ_=>False) (Nat.le_refl _) mU);rw[this,sA]
   obtain⟨qf,hu,sx⟩:∃qf,C.P.underlying cQ=some qf/\DA qf:=by
    unfold zO at pc;split at pc
    .rename_i fV kV;obtain⟨_,bp,_,_,_,_,_,_,g6,g7⟩:=bk.info (fZ kV (by simp));rw[kV]at g7;exact⟨bp,g6,.inl ⟨_,lM g7⟩⟩
    .rename_i kV _;obtain⟨_,bp,_,_,_,_,_,_,g6,g7⟩:=bk.info (fZ kV (by simp));rw[kV]at g7;exact⟨bp,g6,.inr (o6 g7)⟩
    .cases pc
   split at he
   .rename_i sz xs DE pd;split at he
    .rename_i eJ;subst eJ;split at he
     .rename_i bm wM nz;split at he
      .rename_i Rb;obtain⟨uq,DB,sD⟩:=Rb;simp only[some.injEq,Prod.mk.injEq]at he;obtain⟨rfl,rfl⟩:=he;obtain⟨hq,a0,Sn,a3,a4,a5,o_,pa,afV,a9,q_⟩:∃hq,bx w0 F0 X F hq DE ay w/\∃Sn,au w F (.ao (C.T e).sz xs) [ia] Sn/\(∀b,Sn b->b<w.heap.size)/\(∀b,Sn b->¬F b)/\(∀u b,Sn b->¬hq u b)/\
         (∀b,Sn b->X b\/w0.heap.size<=b)/\(∀u b,hq u b->S u b)/\(∀b,Sn b->∃u,S u b)/\aF w F DE ay (ku x.owner y) jm (λ_=>False):=by
        split at pd
        .simp only[some.injEq,Prod.mk.injEq,I.ao.injEq,true_and]at pd;obtain⟨rfl,rfl⟩:=pd;have:=q7 ar;subst this;exact⟨S,h,λ_=>False,by rw[au];exact .inl ⟨rfl,_,rfl⟩,λ_ h=>h.elim,λ_ h=>h.elim,λ_ _ h=>h.elim,λ_ h=>h.elim,λ_ _ h=>h,λ_ h=>h.elim,hy⟩
        .obtain⟨b3,g0,g1,g2,Sn,g3,g4,g5,g6,g7,g8,g9,g10⟩:=o5 h rfl ar pd;rw[gz g2]at g3;exact⟨b3,g0,Sn,g3,g4,g5,g6,g7,g8,g9,g10 _ _ _ hy⟩
        .cases pd
       obtain⟨gx,h5,mV,news,iC,gA,iE,bO,cT,di,sE,b9⟩:∃gx,bx w0 F0 X F gx wM ay w/\∃mV news,aZ w F bm news mV/\Src C.P w i.size jm bm.length news/\(∀b,mV b->b<w.heap.size)/\(∀b,mV b->¬F b)/\(∀u b,mV b->¬gx u b)/\
         (∀b,mV b->X b\/w0.heap.size<=b)/\(∀u b,gx u b->hq u b)/\(∀b,mV b->∃u,hq u b):=by
        split at nz
        .rename_i sF;simp only[some.injEq,Prod.mk.injEq]at nz;obtain⟨rfl,rfl⟩:=nz;rw[sF]at q_;have:=q7 q_;subst this;exact⟨hq,a0,λ_=>False,[],by rw[aZ],JC,λ_ h=>h.elim,λ_ h=>h.elim,λ_ _ h=>h.elim,λ_ h=>h.elim,λ_ _ h=>h,λ_ h=>h.elim⟩
        .rename_i dn sF;simp only[some.injEq,Prod.mk.injEq]at nz;obtain⟨rfl,rfl⟩:=nz;rw[sF]at q_;rcases zH q_ with⟨rfl,uo,afW,rfl,_,ss⟩|⟨b,o,cap,eh,Rc,rfl,bN,cc,eB,dB,e6,cZ⟩
         .exact⟨hq,a0,λ_=>False,[],by rw[aZ],DD uo,λ_ h=>h.elim,λ_ h=>h.elim,λ_ _ h=>h.elim,λ_ h=>h.elim,λ_ _ h=>h,λ_ h=>h.elim⟩
         .exact⟨hq,a0,λ_=>False,eh,cZ,DC e6 (by rw[f2];exact aZ.sy cZ uq),λ_ h=>h.elim,λ_ h=>h.elim,λ_ _ h=>h.elim,λ_ h=>h.elim,λ_ _ h=>h,λ_ h=>h.elim⟩
        .rename_i l sF;simp only[some.injEq,Prod.mk.injEq]at nz;obtain⟨rfl,rfl⟩:=nz;rw[sF]at q_;have:=lN q_;subst this;have zP:l≠[]->i.size=1:=by
          intro hl;cases l with
          |nil=>exact(hl rfl).elim
          |cons b l=>rw[f2,<-uq (kU b) (by simp)];rfl
         by_cases hl:l=[]
         .subst hl;refine⟨hq,a0,λ_=>False,[],by simp only[map_nil];rw[aZ],?_,λ_ h=>h.elim,λ_ h=>h.elim,λ_ _ h=>h.elim,λ_ h=>h.elim,λ_ _ h=>h,λ_ h=>h.elim⟩;intro aD _;exact⟨rfl,by simp[Builtin.firstCells,ByteArray.extract];rfl⟩
         .refine⟨hq,a0,λ_=>False,_,Jw l _,?_,λ_ h=>h.elim,λ_ h=>h.elim,λ_ _ h=>h.elim,λ_ h=>h.elim,λ_ _ h=>h,λ_ h=>h.elim⟩;rw[zP hl,length_map];exact Q_ l
        .rename_i a q sF;split at nz
         .rename_i afX dn s2 aY;simp only[some.injEq,Prod.mk.injEq]at nz;obtain⟨rfl,rfl⟩:=nz;rw[sF]at q_;obtain⟨dh,g0,g1,g2,mV,g3,g4,g5,g6,g7,g8,g9,g10⟩:=o5 a0 rfl q_ aY;rw[gz g2,au]at g3;rcases g3 with⟨rfl,Rd,lj⟩|⟨b,cap,cur,fE,fr,aN,lj,bN,cc,eB,dB,e6,cZ,iW,fF,l_,mT⟩
          .simp at lj;subst lj;exact⟨dh,g0,λ_=>False,[],by rw[aZ],(DD Rd),λ_ h=>h.elim,λ_ h=>h.elim,λ_ _ h=>h.elim,λ_ h=>h.elim,g8,λ_ h=>h.elim⟩
          .simp at lj;subst lj;refine⟨dh,g0,aN,_,fF,DC (ud cc _) ?_,λc ai=>g4 c (l_ c ai),λc ai=>g5 c (l_ c ai),λu c ai=>g6 u c (l_ c ai),λc ai=>g7 c (l_ c ai),g8,λc ai=>g9 c (l_ c ai)⟩;rw[f2];exact aZ.sy fF uq
         .cases nz
        .cases nz
       have ra:news.length=bm.length*(C.T e).sz:=aZ.sy iC uq;have nA:∀c,Sn c->¬mV c:=λc ab ad=>by obtain⟨u,hu⟩:=b9 c ad;exact o_ u c ab hu
       have l6:∀u c,Sn c->¬gx u c:=λu c ab ad=>o_ u c ab (sE u c ad);have grow:∀(base:Option Addr) (cap:Nat) (og:ahz) (Sx:Nat->Prop),ia= .slice base xs.length cap->Src C.P w i.size (.slice base xs.length cap) xs.length og->aZ w F xs og Sx->(∀d∈xs,d.wd=(C.T e).sz)->(∀c,Sx c->Sn c)->¬xs.length+bm.length<=cap->
         Good C w0 F0 X ay w (Builtin.append_ #[T,cQ] ty #[ia,jm]) (.ao (C.T e).sz (xs++bm)) wM:=by
        intro base cap og Sx Dr hold JG JH e2 pb;subst Dr;have aH:=Q6 (ty:=ty) bV hu sx f1 f4 gA hold pb sD (by rw[f3];exact DB);have Dy:=grownCap_ge w (xs.length+bm.length) cap e;have Dz:=grownCap_le_maxLen w (xs.length+bm.length) cap e (by unfold maxLen;omega);have wN:=aZ.sy JG JH;have Re:aZ w F (xs++bm) (og++news) (λc=>Sx c\/mV c):=aZ.append JG iC (λ_ h=>.inl h) (λ_ h=>.inr h) (λc ab ad=>nA c (e2 c ab) ad);have Rf:(og++news).length=(xs++bm).length*(C.T e).sz:=by simp[wN,ra,Nat.add_mul]
        have lQ:=h5.zI (aD:=w.drew.alloc (.cells (og.toArray++news.toArray++Builtin.zeroCells z.cells (grownCap w (xs.length+bm.length) cap e-(xs.length+bm.length))) e))
         (sz:=(C.T e).sz) (cap:=grownCap w (xs.length+bm.length) cap e) (xs:=xs++bm) (e:=e) (fr:=(0,0)) (Sn:=λc=>Sx c\/mV c) rfl rfl rfl ⟨rfl,λ_=>le_succ _⟩
         (λo _ ⟨_,ad⟩=>absurd ad (not_lt_zero _)) (by simpa using Dy) Dz
         (by
          simp only[Array.size_append,List.size_toArray,size_zeroCells,sC,wN,ra,q9,<-Nat.add_mul];congr 1;omega)
         (by
          intro d ae;rcases mem_append.1 ae with ae|ae
          .exact JH d ae
          .exact uq d ae)
         (by
          simp only[Array.toList_append];rw[take_left' Rf];exact Re)
         (by rintro c (ai|ai);exact a4 c (e2 c ai);exact iE c ai) (by rintro c (ai|ai);exact a5 c (e2 c ai);exact bO c ai) (by rintro u c (ai|ai);exact l6 u c (e2 c ai);exact cT u c ai) (by rintro c (ai|ai);exact pa c (e2 c ai);exact di c ai)
        refine⟨_,_,F,gx,aH,lQ.1,?_⟩;have:=lQ.2;simpa using this
       rw[au]at a3;rcases a3 with⟨rfl,zQ,lj⟩|⟨b,cap,cur,fE,fr,aN,lj,bN,cc,eB,dB,e6,cZ,iW,fF,l_,mT⟩
       .simp at lj;subst lj;by_cases JI:bm=[]
        .subst JI;have DF:news=[]:=by simpa using ra
         subst DF;refine⟨.slice zQ 0 0,w,F,gx,?_,h5,.inr ⟨rfl,rfl,λ_=>False,by simp only[b8,hs];rw[au];exact .inl ⟨rfl,_,rfl⟩,λ_ h=>h.elim,λ_ h=>h.elim,λ_ _ h=>h.elim,λ_ h=>h.elim⟩⟩;obtain⟨ab,ad⟩:=gA w rfl;cases zQ<;>rcases sx with⟨fV,rfl⟩|rfl<;>simp at ab ad<;>simp[Builtin.append_,run_underlying bV,run_underlying hu,kv f1,ab,ad,storeCells]
        .exact grow zQ 0 [] (λ_=>False) rfl (DD zQ) (by rw[aZ]) (by simp) (λ_ h=>h.elim) (by
          cases bm with
          |nil=>exact(JI rfl).elim
          |cons y bm=>simp)
       .simp at lj;subst lj;by_cases pb:xs.length+bm.length<=cap
        ·
         have wN:=aZ.sy fF iW;have hlen:cur.toList.length=cap*(C.T e).sz:=by simp[cZ]
         have hle:(xs.length+bm.length)*(C.T e).sz<=cap*(C.T e).sz:=mul_le_mul_right _ pb;rw[Nat.add_mul]at hle;have mr:cur.toList=cur.toList.take (xs.length*(C.T e).sz)++((cur.toList.drop (xs.length*(C.T e).sz)).take news.length++(cur.toList.drop (xs.length*(C.T e).sz)).drop news.length):=by
          rw[take_append_drop,take_append_drop]
         obtain⟨aD,m1,m2,m3,m4,m5,m6,m7⟩:=Q5 (ty:=ty) (n:=xs.length) (m:=bm.length) (cap:=cap) bV hu sx f1 gA cc eB.low mr (by rw[f2];exact wN) (by simp[hlen,ra];omega) (aZ.sq _ _ _ iC) pb;have Rg:=h5.turn m3 m4 m5 m6 m7 (a5 b bN) (λu hu=>l6 u b bN hu) (pa b bN);have o3:∀c,F c->aD.heap[c]? =w.heap[c]? :=λc ai=>m3 c (by rintro rfl;exact a5 _ bN ai);refine⟨_,aD,F,gx,m1,Rg,.inr ⟨rfl,rfl,λc=>Sn c\/mV c,?_,?_,?_,?_,?_⟩⟩
         .simp only[b8,hs];rw[au];have JJ:(cur.toList.take (xs.length*(C.T e).sz)++(news++(cur.toList.drop (xs.length*(C.T e).sz)).drop news.length)).toArray.size=cur.size:=by
           have:cur.size=cur.toList.length:=by simp
           rw[this];conv=>rhs;rw[mr]
           simp[hlen,ra];omega
          refine .inr ⟨b,cap,_,fE,fr,λc=>aN c\/mV c,by simp,.inl bN,m2,by rw[JJ];exact eB,by simpa using pb,e6,by rw[JJ];exact cZ,?_,?_,?_,?_⟩
          .intro d ae;rcases mem_append.1 ae with ae|ae
           .exact iW d ae
           .exact uq d ae
          .have o9:=aZ.frame o3 _ _ _ (λc ai=>m3 c (by rintro rfl;exact mT ai)) fF;have n_:=aZ.frame o3 _ _ _ (λc ai=>m3 c (by rintro rfl;exact nA _ bN ai)) iC;have:((cur.toList.take (xs.length*(C.T e).sz)++(news++(cur.toList.drop (xs.length*(C.T e).sz)).drop news.length)).toArray.toList.take ((xs++bm).length*(C.T e).sz))=cur.toList.take (xs.length*(C.T e).sz)++news:=by
            simp only[];rw[<-append_assoc];exact take_left' (by rw[length_append,wN,ra,length_append,Nat.add_mul])
           rw[this];exact aZ.append o9 n_ (λ_ h=>.inl h) (λ_ h=>.inr h) (λc ab ad=>nA c (l_ c ab) ad)
          .rintro c (ai|ai)
           .exact .inl (l_ c ai)
           .exact .inr ai
          .rintro(ai|ai)
           .exact mT ai
           .exact nA b bN ai
         .rw[m4];rintro c (ai|ai);exact a4 c ai;exact iE c ai
         .rintro c (ai|ai);exact a5 c ai;exact bO c ai
         .rintro u c (ai|ai);exact l6 u c ai;exact cT u c ai
         .rintro c (ai|ai);exact pa c ai;exact di c ai
        .exact grow (some ⟨b,0,none⟩) cap _ aN rfl (DC (ud cc _) (by rw[f2];exact aZ.sy fF iW)) fF iW l_ pb
      .cases he
     .cases he
    .cases he
   .cases he
  .cases he
 .cases he
end
section
variable {C:bW} {w0 w aD:World} {F0 X F:Nat->Prop} {S:Nat->Nat->Prop} {s s1:aw} {ay:Nat->Value} {av:I}
theorem bx.Rh (h:bx w0 F0 X F S s ay w) {x:Nat} {q:ahw} {d bp:I} {b:Nat} (ae:I.sub q (s x)=some d) (an:d.plain=false) (DG:bp.tree=true) (ab:∀v,h4 d v->h4 bp v) (U:∀v,dz d v->dz bp v)
  (ad:∀vs,bp≠.tuple vs) (jO:bp.wd=d.wd) (R:∀cD a e5,dc w q (s x) (b8 (ay x)) none=some (d,cD,a)->au w F d cD e5->e5 b/\au aD F bp cD e5) (ns:∀c,c≠b->aD.heap[c]? =w.heap[c]?) (eJ:aD.heap.size=w.heap.size) (Df:aD.os=w.os)
  (Dg:aD.tape=w.tape) (sl:Out aD w):∃aN,bx w0 F0 X F aN (da (hM x s) x (I.put q bp (s x))) ay aD:=by
 have aY:=hG ae (.inl an);have ar:=h.cW x;rw[aF.cr aY]at ar;obtain⟨cD,a,dW,e5,g0,g1,g2,g3,g4,g5⟩:=ctx q (s x) (b8 (ay x)) (S x) none d ar.2 ae;obtain⟨sn,aI⟩:=R cD a e5 g0 g4;have sG:S x b:=g2 b sn;have o3:∀c,F c->aD.heap[c]? =w.heap[c]? :=λc ai=>ns c (by rintro rfl;exact h.fg x _ sG ai);have uh:∀c,dW c->c≠b:=λc ai e=>g3 c ai (e▸sn);have j8:au aD F (I.put q bp (s x)) (b8 (ay x)) (λc=>dW c\/e5 c):=by
  rcases g5 with⟨l,r,aP,aT,aR⟩|⟨h5,cur,e,fr,l,r,aP,aT,aR,b4,cz,bV⟩
  .rw[aP];exact aR aD bp cD e5 o3 (λc ai=>ns c (uh c ai)) jO aI (λc ai nr=>g3 c nr ai)
  .refine bV aD bp cD e5 o3 (λc ai _=>ns c (uh c ai)) ?_ jO aI (λc ai nr=>g3 c nr ai);rw[ns h5 (uh h5 aT),aR,<-cz]
 have wo:dz (I.put q bp (s x)) (ay x)/\(I.put q bp (s x)).tree=true:=by
  cases q with
  |nil=>
   simp only[I.sub,some.injEq]at ae;simp only[I.put];exact⟨U _ (ae▸ar.1),DG⟩
  |cons k q=>
   refine⟨wm ar.1 ae ab (λ_=>ad) jO,?_⟩;rcases q4 k q bp (s x)with⟨az,gs,aP,e⟩|⟨az,gs,aP,e⟩|⟨sz,xs,bm,aP,e⟩|⟨y,z,aP,e⟩|e<;>rw[e]<;>first|rfl|exact aY
 let aA:=da (hM x s) x (I.put q bp (s x))
 have gS:∀y,y≠x->(aA y).tree=true->aA y=s y/\ay y=ay y:=λy hy aY=>by
  have e:aA y=c_.b6 x (s y):=iV _ _ hy;rw[e]at aY⊢;exact⟨(zt aY).2,rfl⟩
 have fo:(aA x).plain=false->(s x).plain=false/\∀v,dz (s x) v->dz (aA x) v:=by
  intro _;refine⟨?_,λv aI=>?_⟩
  .cases bZ:(s x).plain with
   |false=>rfl
   |true=>rw[I.C7 _ _ _ bZ ae]at an;cases an
  .simp only[aA,lL];cases q with
   |nil=>
    simp only[I.sub,some.injEq]at ae;simp only[I.put];exact U _ (ae▸aI)
   |cons k q=>exact wm aI ae ab (λ_=>ad) jO
 have both:∀c,(dW c\/e5 c)->S x c:=λc ai=>ai.elim (g1 c) (g2 c);refine⟨fP S x (λc=>dW c\/e5 c),?_⟩;constructor;case gq=>exact h.gq
 case gK=>exact h.gK
 case eK=>exact λb R=>by rw[eJ];exact h.eK b R
 case et=>
  intro u c R;rw[eJ];simp only[fP]at R;split at R
  .exact h.et x c (both c R)
  .exact h.et u c R
 case fg=>
  intro u c R;simp only[fP]at R;split at R
  .exact h.fg x c (both c R)
  .exact h.fg u c R
 case eT=>
  intro u y c cO R hy;simp only[fP]at R hy;split at R
  .rename_i hu;rw[if_neg (λe=>cO (hu.trans e.symm))]at hy;exact h.eT x y c (λe=>cO (hu.trans e)) (both c R) hy
  .rename_i hu;split at hy
   .exact h.eT u x c hu R (both c hy)
   .exact h.eT u y c cO R hy
 case dy=>
  intro u c R;simp only[fP]at R;split at R
  .exact h.dy x c (both c R)
  .exact h.dy u c R
 case cW=>
  intro u;by_cases hu:u=x
  .subst hu;rw[lL,wj];exact(aF.cr wo.2).2 ⟨wo.1,j8⟩
  .rw[iV _ _ hu,wk _ _ hu];have cO:∀y c,y≠x->S y c->aD.heap[c]? =w.heap[c]? :=λy c hy ai=>ns c (by rintro rfl;exact h.eT y x c hy ai sG);refine(aF.b6 gS rfl fo (λy fp d2 hy hN wq=>?_) o3 _).1 _ _ _ (Nat.le_refl _) (λc ai=>cO u c hu ai) (h.cW u);have wt:=h.cW y;rw[aF.cr (hG hN wq)]at wt;exact zs fp _ _ _ none d2 wt.2 hN (λc ai=>cO y c hy ai)
 case old=>
  intro c ei j_;rw[ns c ?_]
  .exact h.old c ei j_
  .rintro rfl;rcases h.dy x c sG with aV|aV
   .exact j_ aV
   .omega
 case size=>rw[eJ];exact h.size
 case os=>exact Df.trans h.os
 case tape=>exact Dg.trans h.tape
 case output=>exact sl.trans h.output
 case fW=>exact h.fW
def JK (P:Program) (t:TypeId):Bool:=match P.info? t with
 |some i=>match i.zero with
  |some (.bool false)=>true
  |_=>false
 |none=>false
def zR (C:bW) (T:TypeId):Bool:=match(C.T T).k with
 | .map oh rb=>match(C.T oh).k with
   | .str=>JK C.P rb
   |_=>false
 |_=>false
def nB (C:bW) (s:aw) (T:TypeId) (x i:I):Option I:=match x,i with
 | .h y q,.str k=>match I.sub q (s y)with
   |some (.dK (.mp m))=>if zR C T=true then some (.bool (q0 k m))else none
   |_=>none
 |_,_=>none
def mw (C:bW) (s:aw) (T:TypeId) (x i v:I):Option aw:=match x,i,v with
 | .h y q,.str k,.bool b=>match I.sub q (s y)with
   |some (.dK (.mp m))=>if zR C T=true then some (da (hM y s) y (I.put q (.dK (.mp (o1 k b m))) (s y)))else none
   |_=>none
 |_,_,_=>none
theorem JL (bk:C.eF) {T:TypeId} (h:zR C T=true):∃oh rb,C.P.underlying T=some (.map oh rb)/\C.P.underlying oh=some .string/\∀w,(zeroValue rb).run C.P w= .ok (.bool false) w:=by
 unfold zR at h;split at h
 .rename_i oh rb aq;split at h
  .rename_i ab;obtain⟨i,d,z,aP,aT,aR,b4,cz,bV,bF⟩:=bk.info (fZ aq (by simp));obtain⟨p9,bp,p_,f1,f2,f3,f4,f5,f6,f7⟩:=bk.info (fZ ab (by simp));rw[aq]at bF;rw[ab]at f7;have:=o6 f7;subst this;refine⟨oh,rb,?_,f6,λw=>?_⟩
   .rw[bV];cases d<;>simp[lf]at bF;rw[bF.1,bF.2]
   .unfold JK at h;split at h
    .rename_i i2 g1;split at h
     .rename_i g2;exact so g1 g2 w
     .cases h
    .cases h
  .cases h
 .cases h
theorem DH (a b:ByteArray):(a==b)=true↔a=b:=by
 constructor
 .intro h;exact ByteArray.ext (eq_of_beq (show(a.data==b.data)=true from h))
 .rintro rfl;show(a.data==a.data)=true;simp
theorem DI (k:aht) (b:Bool):∀(es:List MapEntry) (m:gk) (i:Nat),es.map (λe=>(e.key,e.val))=m.map (λe=>(.string ⟨⟨e.1⟩⟩,.bool e.2))->
  (Instr.findNow .string (.string ⟨⟨k⟩⟩) es i=some none/\q0 k m=false/\o1 k b m=m++[(k,b)])\/
  ∃j e,es[j]? =some e/\e.key= .string ⟨⟨k⟩⟩/\Instr.findNow .string (.string ⟨⟨k⟩⟩) es i=some (some (i+j,.bool (q0 k m)))/\o1 k b m=m.set j (k,b)
 |[],m,i,h=>by
  have:m=[]:=by simpa using h.symm
  subst this;exact .inl ⟨rfl,rfl,rfl⟩
 |e::es,[],i,h=>by simp at h
 |e::es,(cI,ff)::m,i,h=>by
  simp only[map_cons,cons.injEq,Prod.mk.injEq]at h;obtain⟨⟨ab,ad⟩,aC⟩:=h;by_cases aq:cI=k
  .subst aq;refine .inr ⟨0,e,rfl,ab,?_,by simp[o1]⟩;have:(((⟨⟨cI⟩⟩:ByteArray)==⟨⟨cI⟩⟩))=true:=(DH _ _).2 rfl;simp only[Instr.findNow,ab,ad,Instr.sameNow,q0,this,if_true,Nat.add_zero]
  .have aU:((⟨⟨k⟩⟩:ByteArray)==⟨⟨cI⟩⟩)=false:=by
    refine Bool.eq_false_iff.2 λe=>aq ?_;have:=(DH _ _).1 e;simp only[ByteArray.mk.injEq,Array.mk.injEq]at this;exact this.symm
   rcases DI k b es m (i+1) aC with⟨g1,g2,g3⟩|⟨j,fV,g1,g2,g3,g4⟩
   .refine .inl ⟨?_,?_,?_⟩
    .simp only[Instr.findNow,ab,Instr.sameNow,aU];exact g1
    .simp[q0,aq,g2]
    .simp[o1,aq,g3]
   .refine .inr ⟨j+1,fV,g1,g2,?_,?_⟩
    .simp only[Instr.findNow,ab,Instr.sameNow,aU];rw[g3];simp[q0,aq,Nat.add_assoc,Nat.add_comm 1 j]
    .simp[o1,aq,g4]
theorem zS {P:Program} {oh:TypeId} (aq:P.underlying oh=some .string) (e:Bool) (k:ByteArray) (w:World):(Instr.checkKey e 10000 oh (.string k)).run P w= .ok () w:=by
 unfold Instr.checkKey;simp[run_underlying aq]
theorem JM (h:bx w0 F0 X F S s ay w) {y:Nat} {q:ahw} {m:gk} {v:Value} (aI:aF w F s ay (.h y q) v (λ_=>False)) (ae:I.sub q (s y)=some (.dK (.mp m))):
  ∃r ms mq,v= .map (some r)/\w.heap[r]? =some (.map ms mq)/\ms.toList.map (λe=>(e.key,e.val))=m.map (λe=>(.string ⟨⟨e.1⟩⟩,.bool e.2))/\
   ∃a,dc w q (s y) (b8 (ay y)) none=some (.dK (.mp m),[.map (some r)],a):=by
 rw[aF]at aI;obtain⟨cD,a,g1,g2,g3⟩:=aI _ ae rfl;have ab:Value.fY v=true:=g3;rw[gz ab]at g2;have ar:=h.cW y;rw[aF.cr (hG ae (.inl rfl))]at ar;obtain⟨fO,cB,dW,e5,k0,bN,cc,eB,dB,e6⟩:=ctx q (s y) (b8 (ay y)) (S y) none _ ar.2 ae;rw[k0]at g1;simp only[some.injEq,Prod.mk.injEq,true_and]at g1;obtain⟨rfl,rfl⟩:=g1;rw[au]at dB;obtain⟨r,ms,mq,aP,aT,aR,b4⟩:=dB;rw[aP]at g2 k0;exact⟨r,ms,mq,by simpa using g2,aR,b4,cB,k0⟩
theorem Ri (bk:C.eF) (h:bx w0 F0 X F S s ay w) {T:TypeId} {x i:I} {ia nt:Value} (ar:aF w F s ay x ia (λ_=>False)) (ak:aF w F s ay i nt (λ_=>False)) (he:nB C s T x i=some av):
  Good C w0 F0 X ay w (Instr.lookup T ia nt false) av s:=by
 unfold nB at he;split at he
 .rename_i y q k;split at he
  .rename_i m ae;split at he
   .rename_i iq;simp only[some.injEq]at he;subst he;obtain⟨oh,rb,t1,t2,t3⟩:=JL bk iq;obtain⟨r,ms,mq,rfl,aT,aR,_⟩:=JM h ar ae;have:=lN ak;subst this;refine Good.same h (v:=.bool (q0 k m)) ?_ rfl (of_bool _);rcases DI k true ms.toList m 0 aR with⟨g1,g2,_⟩|⟨j,e,_,_,g1,_⟩
    .simp[Instr.lookup,run_underlying t1,getObj,Sem.run,aT,zS t2,Instr.findKey,run_underlying t2,g1,t3,g2]
    .simp[Instr.lookup,run_underlying t1,getObj,Sem.run,aT,zS t2,Instr.findKey,run_underlying t2,g1]
   .cases he
  .cases he
 .cases he
theorem Rj (bk:C.eF) (h:bx w0 F0 X F S s ay w) {T:TypeId} {x i v:I} {ia nt JN:Value} (ar:aF w F s ay x ia (λ_=>False)) (ak:aF w F s ay i nt (λ_=>False)) (aI:aF w F s ay v JN (λ_=>False)) {s2:aw}
  (he:mw C s T x i v=some s2):∃aD aN,(Instr.mapUpdate T ia nt JN).run C.P w= .ok () aD/\bx w0 F0 X F aN s2 ay aD:=by
 unfold mw at he;split at he
 .rename_i y q k b;split at he
  .rename_i m ae;split at he
   .rename_i iq;simp only[some.injEq]at he;subst he;obtain⟨oh,rb,t1,t2,t3⟩:=JL bk iq;obtain⟨r,ms,mq,rfl,aT,aR,a0,kt⟩:=JM h ar ae;have:=lN ak;subst this;have:=q6 aI;subst this;have key:∀(zT:Array MapEntry) (DJ:Nat),zT.toList.map (λe=>(e.key,e.val))=(o1 k b m).map (λe=>(.string ⟨⟨e.1⟩⟩,.bool e.2))->
      ∃aN,bx w0 F0 X F aN (da (hM y s) y (I.put q (.dK (.mp (o1 k b m))) (s y))) ay {w with heap:=w.heap.setIfInBounds r (.map zT DJ)}:=by
     intro zT DJ hm;have aH:r<w.heap.size:=(Array.getElem?_eq_some_iff.1 aT).1;refine bx.Rh (b:=r) h ae rfl rfl (λv aI=>aI) (λv aI=>aI) (λvs e=>by cases e) rfl ?_ (λc ai=>?_) (by simp) rfl rfl ⟨rfl,λ_=>Nat.le_refl _⟩
     .intro cD a e5 bd gp;rw[kt]at bd;simp only[some.injEq,Prod.mk.injEq,true_and]at bd;obtain⟨rfl,_⟩:=bd;rw[au]at gp⊢;obtain⟨gn,re,afY,f1,f2,f3,f4⟩:=gp;simp only[cons.injEq,Value.map.injEq,some.injEq,and_true]at f1;subst f1;exact⟨f2,r,zT,DJ,rfl,f2,by simp[aH],hm⟩
     .simp[Ne.symm ai]
    rcases DI k b ms.toList m 0 aR with⟨g1,_,g2⟩|⟨j,e,g0,ge,g1,g2⟩
    .obtain⟨aN,bN⟩:=key (ms.push {key:=.string ⟨⟨k⟩⟩,val:=.bool b,born:=mq}) (mq+1) (by rw[g2];simp[aR]);exact⟨_,aN,by simp[Instr.mapUpdate,run_underlying t1,getObj,setObj,Sem.run,aT,zS t2,Instr.findKey,run_underlying t2,g1],bN⟩
    .rw[Nat.zero_add]at g1;obtain⟨aN,bN⟩:=key (ms.modify j λe=>{e with key:=.string ⟨⟨k⟩⟩,val:=.bool b}) mq (by
      rw[g2,map_set,<-aR];apply ext_getElem?;intro n;by_cases aU:n=j
      .subst aU;have:n<ms.toList.length:=(List.getElem?_eq_some_iff.1 g0).1;rw[getElem?_set_self (by simpa using this)];simp[g0]
      .simp[getElem?_set_ne (Ne.symm aU),Ne.symm aU])
     have Rk:ms[j]? =some e:=by simpa using g0
     exact⟨_,aN,by simp[Instr.mapUpdate,run_underlying t1,getObj,setObj,Sem.run,aT,zS t2,Instr.findKey,run_underlying t2,g1,Rk,ge,Instr.keyThatStays,Instr.sameBits,(DH ⟨⟨k⟩⟩ ⟨⟨k⟩⟩).2 rfl],bN⟩
   .cases he
  .cases he
 .cases he
theorem Rl (h:bx w0 F0 X F S s ay w) (t:TypeId):Good C w0 F0 X ay w (Instr.makeMap t none) (.dK (.mp [])) s:=by
 have hold:∀b,b<w.heap.size->(w.alloc (.map #[] 0)).heap[b]? =w.heap[b]? :=by
  intro b R;show(w.heap.push _)[b]? =_;rw[Array.getElem?_push,if_neg (by omega)]
 refine⟨.map (some w.heap.size),w.alloc (.map #[] 0),F,S,?_,h.grow hold (by simp) rfl rfl ⟨rfl,λ_=>Nat.le_refl _⟩,.inr ⟨rfl,rfl,λb=>b=w.heap.size,?_,?_,?_,?_,?_⟩⟩
 .simp[Instr.makeMap,newObj,Sem.run]
 .rw[au];refine⟨w.heap.size,#[],0,rfl,rfl,?_,rfl⟩;show(w.heap.push _)[_]? =_;simp
 .rintro b rfl;simp
 .rintro b rfl qb;exact Nat.lt_irrefl _ (h.eK _ qb)
 .rintro u b rfl hu;exact Nat.lt_irrefl _ (h.et _ _ hu)
 .rintro b rfl;exact .inr h.size
end
end Go.c_
