/- Part of a proof that a law returns true for every input. No condition. -/
import Derived.Test.YteloniioljdceaaGreatDoorFwC
import Derived.Test.YteloniioljdceaaGreatDoorFwA
import Derived.Laws.IdiomStrings
import Derived.Laws.Strings
import Derived.LaidEql
import Derived.WideLaws
import Derived.Laws.StructEq
namespace Go.ca
open List Option Nat Or
section
variable {C:bl} {w0 w:World} {F0 X F:Nat->Prop} {S:Nat->Nat->Prop} {s s1:aj} {ao:Nat->Value} {av:I}
theorem jJ {k:IntKind} {n:Int} {v:Value} {aB:Nat->Prop} (h:ar w F s ao (.int k n) v aB):v= .int k n:=by
 have aN:=(ar.bx rfl).1 h;rw[ah,eb aN.1]at aN;simpa using aN.2
theorem ny {b:Bool} {v:Value} {aB:Nat->Prop} (h:ar w F s ao (.bool b) v aB):v= .bool b:=by
 have aN:=(ar.bx rfl).1 h;rw[ah,eb aN.1]at aN;simpa using aN.2
theorem iv {b:RD} {v:Value} {aB:Nat->Prop} (h:ar w F s ao (.str b) v aB):v= .string ⟨⟨b⟩⟩:=by
 have aN:=(ar.bx rfl).1 h;rw[ah,eb aN.1]at aN;simpa using aN.2
theorem Ar {v:Value} {aB:Nat->Prop} (h:ar w F s ao .cu v aB):v= .pointer none:=by
 have aN:=(ar.bx rfl).1 h;rw[ah,eb aN.1]at aN;simpa using aN.2
theorem nz {v:Value} {aB:Nat->Prop} (h:ar w F s ao .bz v aB):v= .slice none 0 0:=by
 have aN:=(ar.bx rfl).1 h;rw[ah,eb aN.1]at aN;simpa using aN.2
theorem As {v:Value} {aB:Nat->Prop} (h:ar w F s ao .dB v aB):∃b,v= .bool b:=by
 have aN:=(ar.bx rfl).1 h;rw[ah,eb aN.1]at aN;simpa using aN.2
theorem of_int (k:IntKind) (n:Int):ar w F s ao (.int k n) (.int k n) (λ_=>False):=(ar.bx rfl).2 ⟨rfl,by rw[ah];rfl⟩
theorem of_bool (b:Bool):ar w F s ao (.bool b) (.bool b) (λ_=>False):=(ar.bx rfl).2 ⟨rfl,by rw[ah];rfl⟩
theorem kY (b:RD):ar w F s ao (.str b) (.string ⟨⟨b⟩⟩) (λ_=>False):=(ar.bx rfl).2 ⟨rfl,by rw[ah];rfl⟩
theorem wK (b:Bool):ar w F s ao .dB (.bool b) (λ_=>False):=(ar.bx rfl).2 ⟨rfl,by rw[ah];exact⟨b,rfl⟩⟩
def fl (op:BinOp) (k:IntKind) (a:Int) (b5:IntKind) (b:Int):Option I:=
 match op with
 | .shl=>if b<0 then none else some (.int k (k.wrap (a*2^(min b.toNat k.bits))))
 | .shr=>if b<0 then none else some (.int k (a.fdiv (2^(min b.toNat k.bits))))
 | .add=>if k=b5 then some (.int k (k.wrap (a+b)))else none
 | .sub=>if k=b5 then some (.int k (k.wrap (a-b)))else none
 | .mul=>if k=b5 then some (.int k (k.wrap (a*b)))else none
 | .quo=>if k=b5/\b≠0 then some (.int k (k.wrap (a.tdiv b)))else none
 | .rem=>if k=b5/\b≠0 then some (.int k (a.tmod b))else none
 | .eql=>if k=b5 then some (.bool (a==b))else none
 | .neq=>if k=b5 then some (.bool (a !=b))else none
 | .lss=>if k=b5 then some (.bool (decide (a<b)))else none
 | .leq=>if k=b5 then some (.bool (decide (a<=b)))else none
 | .gtr=>if k=b5 then some (.bool (decide (b<a)))else none
 | .geq=>if k=b5 then some (.bool (decide (b<=a)))else none
 | .and=>if k=b5 then some (.int k (bitsOf .and k a b))else none
 | .or=>if k=b5 then some (.int k (bitsOf .or k a b))else none
 | .xor=>if k=b5 then some (.int k (bitsOf .xor k a b))else none
 | .andNot=>if k=b5 then some (.int k (bitsOf .andNot k a b))else none
def jK (op:BinOp) (a b:RD):Option I:=
 match op with
 | .add=>if a.length+b.length<=9223372036854775807 then some (.str (a++b))else none
 | .eql=>some (.bool (a==b))
 | .neq=>some (.bool !(a==b))
 | .lss=>some (.bool (Op.bytesLess a b))
 | .leq=>some (.bool (Op.bytesLess a b||a==b))
 | .gtr=>some (.bool !(Op.bytesLess a b||a==b))
 | .geq=>some (.bool !(Op.bytesLess a b))
 |_=>none
def hY (s:aj):I->Option RH
 | .bz=>some (some true)
 | .slice xs=>some (if xs=[]then none else some false)
 | .h x q=>match I.sub q (s x)with
   |some (.aE _ xs)=>some (if xs=[]then none else some false)
   |_=>none
 |_=>none
def hZ (s:aj):I->RH
 | .cu=>some true
 | .ref _=>some false
 | .h x q=>match I.sub q (s x)with
   |some (.bC _)=>some false
   |_=>none
 |_=>none
def rq (neg:Bool):RH->I
 |some b=>.bool (b !=neg)
 |none=>.dB
def structEq (P:Program) (T:TypeId):Bool:= !P.stoodInHeld T&& !P.eqGuardType P.depth T&&(P.fieldsOf T).toList.all λf=>decide (f.name≠ "_")
def kd (C:bl):List (TypeId×Nat)->Nat->RL->RL->RH
 |[],_,[],[]=>some true
 |(gn,off)::al,n,d::ds,e::es=>if off=n then(match(C.T gn).k,d,e with
  | .int k,.int bA a,.int bN b=>if bA=k/\bN=k then(kd C al (n+1) ds es).map λr=>a==b&&r else none
  | .bool,.bool a,.bool b=>(kd C al (n+1) ds es).map λr=>a==b&&r
  | .str,.str a,.str b=>(kd C al (n+1) ds es).map λr=>a==b&&r
  |_,_,_=>none)else none
 |_,_,_,_=>none
def cW (C:bl) (s:aj) (op:BinOp) (T:TypeId) (x y:I):Option I:=
 match x,y with
 | .int k a,.int b5 b=>fl op k a b5 b
 | .str a,.str b=>jK op a b
 | .bool a,.bool b=>match op,(C.T T).k with
   | .eql,.bool=>some (.bool (a==b))
   | .neq,.bool=>some (.bool !(a==b))
   |_,_=>none
 | .agg ds,.agg es=>match op,(C.T T).k with
   | .eql,.struct al=>if structEq C.P T=true then(kd C al 0 ds es).map λb=>.bool b else none
   | .neq,.struct al=>if structEq C.P T=true then(kd C al 0 ds es).map λb=>.bool !b else none
   |_,_=>none
 |x,.bz=>match op,(C.T T).k with
  | .eql,.slice _=>(hY s x).map (rq false)
  | .neq,.slice _=>(hY s x).map (rq true)
  |_,_=>none
 |x,.cu=>match op,(C.T T).k with
  | .eql,.ptr _=>(hZ s x).map λb=>.bool b
  | .neq,.ptr _=>(hZ s x).map λb=>.bool !b
  |_,_=>none
 |_,_=>none
theorem GI {P:Program} {op:BinOp} {T:TypeId} {k b5:IntKind} {a b:Int} (he:fl op k a b5 b=some av) (w:World):
  ∃v,(binOp op T (.int k a) (.int b5 b)).run P w= .ok v w/\ar w F s ao av v (λ_=>False):=by
 unfold fl at he;cases op<;>simp only at he<;>split at he<;>first|(cases he;done)|skip
 all_goals
  rename_i ae;simp only[some.injEq]at he;subst he
 all_goals first
  |(subst ae;simp only[binOp_add,binOp_sub,binOp_mul,binOp_eql,binOp_neq,binOp_lss,binOp_leq,binOp_gtr,binOp_geq,binOp_and,binOp_or,binOp_xor,binOp_andNot,Op.intArith,Op.intBits,Sem.run_pure,Result.ok.injEq,and_true,exists_eq_left']
    first|exact of_int _ _|exact of_bool _)
  |(obtain⟨rfl,bj⟩:=ae
    simp only[binOp_quo,binOp_rem,Op.intDiv,bj,if_false,Sem.run_pure,Result.ok.injEq,and_true,exists_eq_left'];exact of_int _ _)
  |(simp only[binOp_shl,binOp_shr,Op.shift,ae,if_false,Sem.run_pure,Result.ok.injEq,and_true,exists_eq_left']
    exact of_int _ _)
theorem rr (a:RD):(⟨⟨a⟩⟩:ByteArray).toList=a:=ByteArray.toList_eq _
theorem GJ (a b:RD):(⟨⟨a⟩⟩:ByteArray)++(⟨⟨b⟩⟩:ByteArray)=⟨⟨a++b⟩⟩:=by
 apply ByteArray.ext;simp[ByteArray.data_append]
theorem GK {P:Program} {op:BinOp} {T:TypeId} {a b:RD} (he:jK op a b=some av) (w:World):
  ∃v,(binOp op T (.string ⟨⟨a⟩⟩) (.string ⟨⟨b⟩⟩)).run P w= .ok v w/\ar w F s ao av v (λ_=>False):=by
 have J:∀op,binOp op T (.string ⟨⟨a⟩⟩) (.string ⟨⟨b⟩⟩)=Op.stringOp op ⟨⟨a⟩⟩ ⟨⟨b⟩⟩:=by intro op;cases op<;>rfl
 rw[J];unfold jK at he;cases op<;>simp only[some.injEq]at he<;>first|(cases he;done)|skip
 case add=>
  split at he
  .rename_i hl;simp only[some.injEq]at he;subst he;have R:((ByteArray.size ⟨⟨a⟩⟩+ByteArray.size ⟨⟨b⟩⟩:Nat):Int)<=9223372036854775807:=by
    show((a.length+b.length:Nat):Int)<=_;omega
   refine⟨.string ⟨⟨a++b⟩⟩,?_,kY _⟩;simp only[Op.stringOp,IntKind.max_i64];rw[if_neg (by omega),GJ];rfl
  .cases he
 all_goals
  subst he;simp only[Op.stringOp,rr,Sem.run_pure,Result.ok.injEq,and_true,exists_eq_left'];exact of_bool _
theorem wL (h:aZ w0 F0 X F S s ao w) {v:Value} {y:Nat} {q:RG} (az:ar w F s ao (.h y q) v (λ_=>False)) {sz:Nat} {xs:RL} (ad:I.sub q (s y)=some (.aE sz xs)):
  (xs=[]/\∃a,v= .slice a 0 0)\/∃b cap cur e fr,v= .slice (some ⟨b,0,none⟩) xs.length cap/\w.heap[b]? =some (.cells cur e fr)/\jd fr cur.size/\xs.length<=cap/\cap<=maxLen/\cur.size=cap*sz/\(∀d∈xs,d.wd=sz)/\
   ∃aB,aH w F xs (cur.toList.take (xs.length*sz)) aB/\(∀c,aB c->S y c)/\S y b:=by
 rw[ar]at az;obtain⟨bF,a,g1,g2,g3⟩:=az _ ad rfl;have R:Value.eh v=true:=g3;rw[eb R]at g2;subst g2;have ak:=h.b9 y;rw[ar.bx (eX ad (.inl rfl))]at ak;obtain⟨dG,bI,cr,df,k0,bA,bN,bO,bL,cz⟩:=ctx q (s y) (bn (ao y)) (S y) none _ ak.2 ad;rw[k0]at g1;simp only[some.injEq,Prod.mk.injEq,true_and]at g1;obtain⟨rfl,rfl⟩:=g1;rw[ah]at bL;rcases bL with⟨rfl,a2,ab⟩|⟨b,cap,cur,aG,fr,b0,aJ,bp,bJ,bk,a7,eH,ec,gd,hD,fT,hE⟩
 .simp at ab;exact .inl ⟨rfl,_,ab⟩
 .simp at aJ;exact .inr ⟨b,cap,cur,aG,fr,aJ,bJ,bk.low,a7,eH,ec,gd,b0,hD,λc ae=>bN _ (fT c ae),bN _ bp⟩
theorem At (h:aZ w0 F0 X F S s ao w) {v:Value} {y:Nat} {q:RG} (az:ar w F s ao (.h y q) v (λ_=>False)) {d:I} (ad:I.sub q (s y)=some (.bC d)):
  ∃b cur e fr,v= .pointer (some ⟨b,0,none⟩)/\w.heap[b]? =some (.cells cur e fr):=by
 rw[ar]at az;obtain⟨bF,a,g1,g2,g3⟩:=az _ ad rfl;have R:Value.eh v=true:=g3;rw[eb R]at g2;subst g2;have ak:=h.b9 y;rw[ar.bx (eX ad (.inl rfl))]at ak;obtain⟨dG,bI,cr,df,k0,bA,bN,bO,bL,cz⟩:=ctx q (s y) (bn (ao y)) (S y) none _ ak.2 ad;rw[k0]at g1;simp only[some.injEq,Prod.mk.injEq,true_and]at g1;obtain⟨rfl,rfl⟩:=g1;rw[ah]at bL;obtain⟨b,cur,aG,fr,b0,aJ,bp,bJ,_⟩:=bL;simp at aJ;exact⟨b,cur,aG,fr,aJ,bJ⟩
theorem Au {P:Program} {T e:TypeId} (aI:P.underlying T=some (.slice e)) (w:World):∀d,(Op.equalIn (d+1) T (.slice none 0 0) (.slice none 0 0)).run P w= .ok true w/\
  ∀a n c,(Op.equalIn (d+1) T (.slice (some a) n c) (.slice none 0 0)).run P w= .ok false w:=by
 intro d;refine⟨by simp[Op.equalIn,run_underlying aI],λa n c=>by simp[Op.equalIn,run_underlying aI]⟩
theorem Av {P:Program} {T e:TypeId} (aI:P.underlying T=some (.pointer e)) (w:World):∀d,(Op.equalIn (d+1) T (.pointer none) (.pointer none)).run P w= .ok true w/\
  ∀a,(Op.equalIn (d+1) T (.pointer (some a)) (.pointer none)).run P w= .ok false w:=by
 intro d;refine⟨by simp[Op.equalIn,run_underlying aI],λa=>by simp[Op.equalIn,run_underlying aI]⟩
theorem Aw {P:Program} {T:TypeId} (aI:P.underlying T=some .bool) (w:World):∀d a b,(Op.equalIn (d+1) T (.bool a) (.bool b)).run P w= .ok (a==b) w:=by
 intro d a b;simp[Op.equalIn,run_underlying aI]
theorem Ax (h:aZ w0 F0 X F S s ao w) {x:I} {v:Value} (az:ar w F s ao x v (λ_=>False)) {T e:TypeId} {r:RH} (ax:hY s x=some r) (aI:C.P.underlying T=some (.slice e)):
  ∃b,(Op.equal T v (.slice none 0 0)).run C.P w= .ok b w/\(∀dw,r=some dw->dw=b)/\Value.eh v=true/\∃a n c,v= .slice a n c:=by
 have aD:=λa n c=>(Au aI w 9999).2 a n c;have ez:=(Au aI w 9999).1;cases x with
 |bz=>
  have:=nz az;subst this;simp[hY]at ax;subst ax;exact⟨true,ez,by simp,rfl,_,_,_,rfl⟩
 |slice xs=>
  have aN:=(ar.bx rfl).1 az;rw[ah,eb aN.1]at aN;simp only[hY,some.injEq]at ax;obtain⟨_,⟨rfl,a,c,ab,_,oB⟩|⟨b,o,cap,cV,sz,ab,ay⟩⟩:=aN
  .simp at ab ax;subst ab;subst ax;cases a with
   |none=>
    have:=oB rfl;subst this;exact⟨true,ez,by simp,rfl,_,_,_,rfl⟩
   |some a=>exact⟨false,aD _ _ _,by simp,rfl,_,_,_,rfl⟩
  .simp at ab;subst ab;refine⟨false,aD _ _ _,?_,rfl,_,_,_,rfl⟩;subst ax;split<;>simp
 |h y q=>
  simp only[hY]at ax;split at ax
  .rename_i sz xs ad;simp only[some.injEq]at ax;rcases wL h az ad with⟨rfl,a,rfl⟩|⟨b,cap,cur,aG,fr,rfl,_⟩
   .simp at ax;subst ax;cases a with
    |none=>exact⟨true,ez,by simp,rfl,_,_,_,rfl⟩
    |some a=>exact⟨false,aD _ _ _,by simp,rfl,_,_,_,rfl⟩
   .refine⟨false,aD _ _ _,?_,rfl,_,_,_,rfl⟩;subst ax;split<;>simp
  .cases ax
 |_=>simp[hY]at ax
theorem Ay (h:aZ w0 F0 X F S s ao w) {x:I} {v:Value} (az:ar w F s ao x v (λ_=>False)) {T e:TypeId} {r:Bool} (ax:hZ s x=some r) (aI:C.P.underlying T=some (.pointer e)):
  (Op.equal T v (.pointer none)).run C.P w= .ok r w/\∃a,v= .pointer a:=by
 have aD:=λa=>(Av aI w 9999).2 a;have ez:=(Av aI w 9999).1;cases x with
 |cu=>
  have:=Ar az;subst this;simp[hZ]at ax;subst ax;exact⟨ez,_,rfl⟩
 |ref d=>
  have aN:=(ar.bx rfl).1 az;rw[ah,eb aN.1]at aN;simp[hZ]at ax;subst ax;obtain⟨_,b,o,cV,ab,_⟩:=aN;simp at ab;subst ab;exact⟨aD _,_,rfl⟩
 |h y q=>
  simp only[hZ]at ax;split at ax
  .rename_i d ad;simp only[some.injEq]at ax;subst ax;obtain⟨b,cur,e,fr,rfl,_⟩:=At h az ad;exact⟨aD _,_,rfl⟩
  .cases ax
 |_=>simp[hZ]at ax
theorem GL (aS:C.cS):∀(al:List (TypeId×Nat)) (gs:List Field) (n:Nat) (ds es:RL) (r:Bool) (eA l2 bb c2:RJ) (xs bM:Array Value) (bg b0:Nat->Prop),
  gs.map (λg=>(g.type,g.offset))=al->(gs.all λf=>decide (f.name≠ "_"))=true->kd C al n ds es=some r->aH w F ds bb bg->aH w F es c2 b0->xs.toList=eA++bb->eA.length=n->bM.toList=l2++c2->l2.length=n->
  ∀m,(Op.eqFields (m+1) xs bM gs).run C.P w= .ok r w:=by
 intro al;induction al with
 |nil=>
  intro gs n ds es r eA l2 bb c2 xs bM bg b0 hg aT he U ab ak hl hy pN m;have:gs=[]:=by simpa using hg
  subst this;cases ds<;>cases es<;>simp[kd]at he;subst he;simp[Op.eqFields]
 |cons p al ih=>
  obtain⟨gn,off⟩:=p;intro gs n ds es r eA l2 bb c2 xs bM bg b0 hg aT he U ab ak hl hy pN m;cases gs with
  |nil=>simp at hg
  |cons g gs=>
   simp only[map_cons,cons.injEq,Prod.mk.injEq]at hg;obtain⟨⟨rfl,rfl⟩,hg⟩:=hg;simp only[all_cons,Bool.and_eq_true,decide_eq_true_eq]at aT;cases ds with
   |nil=>simp[kd]at he
   |cons d ds=>
   cases es with
   |nil=>simp[kd]at he
   |cons e es=>
   simp only[kd]at he;split at he
   .rename_i lG;rw[aH]at U ab;obtain⟨aw,a2,tH,GM,rfl,eo,eF,fj,pO,dM⟩:=U;obtain⟨e0,dW,QI,GN,rfl,ek,dx,fU,hF,tI⟩:=ab;have step:∀(x y:Value) (z:Bool),(C.T g.type).flat=true->aw=[x]->e0=[y]->(∀m,(Op.equalIn (m+1) g.type x y).run C.P w= .ok z w)->∀eM,kd C al (n+1) ds es=some eM->
      (Op.eqFields (m+1) xs bM (g::gs)).run C.P w= .ok (z&&eM) w:=by
     intro x y z gR GO oC heq eM cI;subst GO;subst oC;have GP:xs[g.offset]? =some x:=by
      rw[<-Array.getElem?_toList,ak,lG,<-hl,getElem?_append_right (Nat.le_refl _)];simp
     have GQ:bM[g.offset]? =some y:=by
      rw[<-Array.getElem?_toList,hy,lG,<-pN,getElem?_append_right (Nat.le_refl _)];simp
     have aC:=ih gs (n+1) ds es eM (eA++[x]) (l2++[y]) a2 dW xs bM GM GN hg aT.2 cI eF dx (by rw[ak];simp) (by simp[hl]) (by rw[hy];simp) (by simp[pN]) m;unfold Op.eqFields;rw[if_pos aT.1];simp only[part,Sem.run_bind,wG aS gR,Result.andThen_ok,Bool.false_eq_true,if_false,GP,GQ,Sem.run_pure,heq];cases z
     .simp
     .simpa using aC
    split at he
    .rename_i k bA a bN b ag;split at he
     .rename_i GR;obtain⟨rfl,rfl⟩:=GR;rw[ah]at eo ek;simp only[map_eq_some_iff]at he;obtain⟨eM,cI,rfl⟩:=he;obtain⟨i,ru,Az,aD,aG,aJ,bp,bJ,bk,a7⟩:=aS.info (dV ag (by simp));rw[ag]at a7;have oD:=tC a7;subst oD;exact step _ _ _ (by simp[ea.flat,ag]) eo ek (λm=>run_equalIn_int w m g.type _ _ a b bk) eM cI
     .cases he
    .rename_i a b ag;rw[ah]at eo ek;simp only[map_eq_some_iff]at he;obtain⟨eM,cI,rfl⟩:=he;obtain⟨i,ru,Az,aD,aG,aJ,bp,bJ,bk,a7⟩:=aS.info (dV ag (by simp));rw[ag]at a7;have oD:=wB a7;subst oD;exact step _ _ _ (by simp[ea.flat,ag]) eo ek (λm=>run_equalIn_bool' w m g.type a b bk) eM cI
    .rename_i a b ag;rw[ah]at eo ek;simp only[map_eq_some_iff]at he;obtain⟨eM,cI,rfl⟩:=he;obtain⟨i,ru,Az,aD,aG,aJ,bp,bJ,bk,a7⟩:=aS.info (dV ag (by simp));rw[ag]at a7;have oD:=lF a7;subst oD;refine step _ _ (a==b) (by simp[ea.flat,ag]) eo ek (λm=>?_) eM cI;rw[run_equalIn_string w m g.type _ _ bk,rr,rr]
    .cases he
   .cases he
theorem AA (aS:C.cS) {T:TypeId} {al:List (TypeId×Nat)} (ag:(C.T T).k= .struct al) {ds es:RL} {fq gb:Value} {bg b0:Nat->Prop} {r:Bool} (ak:ar w F s ao (.agg ds) fq bg) (hy:ar w F s ao (.agg es) gb b0)
  (b2:structEq C.P T=true) (he:kd C al 0 ds es=some r) (op:BinOp) (rv ry:Operand):
  (eqGuard op T rv ry fq gb).run C.P w= .ok () w/\(Op.equal T fq gb).run C.P w= .ok r w:=by
 obtain⟨i,d,z,aD,aG,aJ,bp,bJ,bk,a7⟩:=aS.info (dV ag (by simp));rw[ag]at a7;obtain⟨gs,rfl,eH⟩:=rm a7;have rz:C.P.fieldsOf T=gs:=by simp[Program.fieldsOf,bk]
 simp only[structEq,Bool.and_eq_true,Bool.not_eq_true',rz]at b2;obtain⟨⟨ek,dx⟩,fU⟩:=b2;obtain⟨⟨xs,rfl⟩,pP⟩:=(ar.bx rfl).1 ak;obtain⟨⟨bM,rfl⟩,ow⟩:=(ar.bx rfl).1 hy;rw[ah]at pP ow;constructor
 .cases op<;>simp[eqGuard,dx]
 .show(Op.equalIn (9999+1) T _ _).run C.P w=_;rw[run_equalIn_struct w 9999 T xs bM (by rw[rz];exact bk) ek,rz];exact GL aS al gs.toList 0 ds es r [] [] _ _ xs bM bg b0 eH fU he pP ow rfl rfl rfl rfl 9998
theorem GS (aS:C.cS) (h:aZ w0 F0 X F S s ao w) {op:BinOp} {T:TypeId} {x y:I} {fq gb:Value} (rv ry:Operand) (ak:ar w F s ao x fq (λ_=>False)) (hy:ar w F s ao y gb (λ_=>False))
  (he:cW C s op T x y=some av):Good C w0 F0 X ao w (do eqGuard op T rv ry fq gb;binOp op T fq gb) av s:=by
 unfold cW at he;split at he
 .have:=jJ ak;subst this;have:=jJ hy;subst this;obtain⟨v,U,ab⟩:=GI (P:=C.P) (T:=T) he w;refine Good.same h (v:=v) ?_ ?_ ab
  .rw[eqGuard_at_int];exact U
  .revert he;unfold fl;cases op<;>simp only<;>split<;>simp<;>(rintro rfl;rfl)
 .have:=iv ak;subst this;have:=iv hy;subst this;obtain⟨v,U,ab⟩:=GK (P:=C.P) (T:=T) he w;refine Good.same h (v:=v) ?_ ?_ ab
  .rw[eqGuard_at_string];exact U
  .revert he;unfold jK;cases op<;>simp only<;>(try split)<;>simp<;>(try (rintro rfl;rfl))
 .have:=ny ak;subst this;have:=ny hy;subst this;split at he
  .rename_i ag;simp only[some.injEq]at he;subst he;obtain⟨i,d,z,aD,aG,aJ,bp,bJ,bk,a7⟩:=aS.info (dV ag (by simp));rw[ag]at a7;have:=wB a7;subst this;refine Good.same h ?_ rfl (of_bool _);rw[eqGuard_at_bool];simp[binOp,Op.equal,Op.maxDepth,Aw bk w 9999]
  .rename_i ag;simp only[some.injEq]at he;subst he;obtain⟨i,d,z,aD,aG,aJ,bp,bJ,bk,a7⟩:=aS.info (dV ag (by simp));rw[ag]at a7;have:=wB a7;subst this;refine Good.same h ?_ rfl (of_bool _);rw[eqGuard_at_bool];simp[binOp,Op.equal,Op.maxDepth,Aw bk w 9999]
  .cases he
 .split at he
  .rename_i al ag;split at he
   .rename_i b2;simp only[map_eq_some_iff]at he;obtain⟨r,ax,rfl⟩:=he;obtain⟨g1,g2⟩:=AA aS ag ak hy b2 ax .eql rv ry;obtain⟨⟨xs,rfl⟩,_⟩:=(ar.bx rfl).1 ak;obtain⟨⟨bM,rfl⟩,_⟩:=(ar.bx rfl).1 hy;exact Good.same h (by simp[g1,binOp,g2]) rfl (of_bool _)
   .cases he
  .rename_i al ag;split at he
   .rename_i b2;simp only[map_eq_some_iff]at he;obtain⟨r,ax,rfl⟩:=he;obtain⟨g1,g2⟩:=AA aS ag ak hy b2 ax .neq rv ry;obtain⟨⟨xs,rfl⟩,_⟩:=(ar.bx rfl).1 ak;obtain⟨⟨bM,rfl⟩,_⟩:=(ar.bx rfl).1 hy;exact Good.same h (by simp[g1,binOp,g2]) rfl (of_bool _)
   .cases he
  .cases he
 .have:=nz hy;subst this;split at he
  .rename_i e ag;simp only[map_eq_some_iff]at he;obtain⟨r,ax,rfl⟩:=he;obtain⟨i,d,z,aD,aG,aJ,bp,bJ,bk,a7⟩:=aS.info (dV ag (by simp));rw[ag]at a7;have:=ir a7;subst this;obtain⟨b,U,ab,ay,a0,cJ,c0,rfl⟩:=Ax h ak ax bk;refine Good.same h (v:=.bool b) ?_ ?_ ?_
   .rw[eqGuard_at_slice];simp[binOp,U]
   .cases r<;>rfl
   .cases r with
    |none=>exact wK b
    |some dw=>have:=ab dw rfl;subst this;simp only[rq,Bool.bne_false];exact of_bool _
  .rename_i e ag;simp only[map_eq_some_iff]at he;obtain⟨r,ax,rfl⟩:=he;obtain⟨i,d,z,aD,aG,aJ,bp,bJ,bk,a7⟩:=aS.info (dV ag (by simp));rw[ag]at a7;have:=ir a7;subst this;obtain⟨b,U,ab,ay,a0,cJ,c0,rfl⟩:=Ax h ak ax bk;refine Good.same h (v:=.bool !b) ?_ ?_ ?_
   .rw[eqGuard_at_slice];simp[binOp,U]
   .cases r<;>rfl
   .cases r with
    |none=>exact wK _
    |some dw=>have:=ab dw rfl;subst this;simp only[rq,Bool.bne_true];exact of_bool _
  .cases he
 .have:=Ar hy;subst this;split at he
  .rename_i e ag;simp only[map_eq_some_iff]at he;obtain⟨r,ax,rfl⟩:=he;obtain⟨i,d,z,aD,aG,aJ,bp,bJ,bk,a7⟩:=aS.info (dV ag (by simp));rw[ag]at a7;have:=Aj a7;subst this;obtain⟨U,a0,rfl⟩:=Ay h ak ax bk;refine Good.same h (v:=.bool r) ?_ rfl (of_bool _);rw[eqGuard_at_pointer];simp[binOp,U]
  .rename_i e ag;simp only[map_eq_some_iff]at he;obtain⟨r,ax,rfl⟩:=he;obtain⟨i,d,z,aD,aG,aJ,bp,bJ,bk,a7⟩:=aS.info (dV ag (by simp));rw[ag]at a7;have:=Aj a7;subst this;obtain⟨U,a0,rfl⟩:=Ay h ak ax bk;refine Good.same h (v:=.bool !r) ?_ rfl (of_bool _);rw[eqGuard_at_pointer];simp[binOp,U]
  .cases he
 .cases he
end
section
variable {C:bl} {w0 w:World} {F0 X F:Nat->Prop} {S:Nat->Nat->Prop} {s s1:aj} {ao:Nat->Value} {av:I}
def un (op:UnOp) (x:I):Option I:=
 match op,x with
 | .not,.bool b=>some (.bool !b)
 | .not,.dB=>some .dB
 | .neg,.int k n=>some (.int k (k.wrap (0-n)))
 |_,_=>none
theorem GU (h:aZ w0 F0 X F S s ao w) {op:UnOp} {x:I} {v:Value} (az:ar w F s ao x v (λ_=>False)) (he:un op x=some av):Good C w0 F0 X ao w (Op.unary op v) av s:=by
 unfold un at he;split at he<;>first|(cases he;done)|(simp only[some.injEq]at he;subst he)
 .have:=ny az;subst this;exact Good.same h rfl rfl (of_bool _)
 .obtain⟨b,rfl⟩:=As az;exact Good.same h rfl rfl (wK _)
 .have:=jJ az;subst this;exact Good.same h rfl rfl (of_int _ _)
def hG (s:aj) (x:I):Option I:=
 match x with
 | .ref d=>some (.ref d)
 | .fn f c=>some (.fn f c)
 | .h y q=>match I.sub q (s y)with
   |some (.bC _)=>some (.h y q)
   |_=>none
 |_=>none
theorem GV {d:I} {v:Value} {aB:Nat->Prop} (h:ar w F s ao (.ref d) v aB):∃b o cV,v= .pointer (some ⟨b,o,none⟩)/\F b/\e_ w b o cV/\ah w F d cV (λ_=>False):=by
 have aN:=(ar.bx rfl).1 h;rw[ah,eb aN.1]at aN;obtain⟨_,b,o,cV,U,ab,ay,aQ⟩:=aN;simp at U;subst U;exact⟨b,o,cV,rfl,ab,ay,aQ⟩
theorem GW (h:aZ w0 F0 X F S s ao w) {x:I} {v:Value} (az:ar w F s ao x v (λ_=>False)) (he:hG s x=some av):
  av=x/\x.plain=true/\((∃a,v= .pointer (some a))\/∃f c,v= .func (.func f) #[] c):=by
 unfold hG at he;split at he
 .simp only[some.injEq]at he;subst he;obtain⟨b,o,cV,rfl,_⟩:=GV az;exact⟨rfl,rfl,.inl ⟨_,rfl⟩⟩
 .simp only[some.injEq]at he;subst he;rw[ar]at az;obtain⟨arr,rfl,_⟩:=az;exact⟨rfl,rfl,.inr ⟨_,_,rfl⟩⟩
 .split at he
  .rename_i d ad;simp only[some.injEq]at he;subst he;obtain⟨b,cur,e,fr,rfl,_⟩:=At h az ad;exact⟨rfl,rfl,.inl ⟨_,rfl⟩⟩
  .cases he
 .cases he
def ex (s:aj) (x:I) (k:Nat):Option I:=
 match x with
 | .tuple ds=>match ds[k]? with
   |some d=>if d.plain=true then some d else none
   |none=>none
 | .h y q=>match I.sub q (s y)with
   |some (.tuple ds)=>match ds[k]? with
    |some d=>if I.ee ds=true then none else some (if d.plain then d else .h y (q++[k]))
    |none=>none
   |_=>none
 |_=>none
theorem AB:∀(vs:RJ) (k:Nat) (x:Value) (ds:RL),vs[k]? =some x->vs.length=ds.length->(∀(j:Nat) (d:I) (y:Value),ds[j]? =some d->vs[j]? =some y->(eG y).length=d.wd)->
  ∃l r,vs.flatMap eG=l++(eG x++r)/\l.length=I.cp (ds.take k)
 |[],k,x,ds,h,_,_=>by simp at h
 |v::vs,0,x,ds,h,hl,hw=>by
  simp at h;subst h;exact⟨[],vs.flatMap eG,by simp,by simp[I.cp]⟩
 |v::vs,k+1,x,d::ds,h,hl,hw=>by
  obtain⟨l,r,aD,aG⟩:=AB vs k x ds (by simpa using h) (by simpa using hl) (λj d y U ab=>hw (j+1) d y (by simpa using U) (by simpa using ab));refine⟨eG v++l,r,by simp[aD],?_⟩;have:=hw 0 d v (by simp) (by simp);simp[I.cp,aG,this]
 |v::vs,k+1,x,[],h,hl,hw=>by simp at hl
theorem tJ {d:I} {v:Value} (h:eS d v) (_hd:∀vs,d≠.tuple vs):bn v=eG v:=by
 cases d with
 |agg al=>obtain⟨arr,rfl⟩:=h;rfl
 |_=>
  have U:Value.eh v=true:=h;cases v<;>first|rfl|(simp[Value.eh]at U)
theorem GX {d:I} {v:Value} (h:eS d v) (ad:∀vs,d≠.tuple vs):b7 d v:=by
 cases d with
 |tuple vs=>exact(ad _ rfl).elim
 |_=>exact h
theorem GY (h:aZ w0 F0 X F S s ao w) {x:I} {v:Value} {k:Nat} (az:ar w F s ao x v (λ_=>False)) (he:ex s x k=some av):Good C w0 F0 X ao w (Instr.extract v k) av s:=by
 have pick:∀(ds:RL) (d:I) (arr:Array Value),ds[k]? =some d->(arr.size=ds.length/\∀(k:Nat) (d:I) (x:Value),ds[k]? =some d->arr[k]? =some x->eS d x/\(∀vs,d≠.tuple vs)/\(eG x).length=d.wd)->
   ∃x,arr[k]? =some x/\b7 d x/\((bn (.tuple arr)).drop (I.cp (ds.take k))).take d.wd=bn x:=by
  intro ds d arr ad ⟨bt,fk⟩;have cq:k<arr.size:=by rw[bt];exact(List.getElem?_eq_some_iff.1 ad).1
  have ak:arr[k]? =some arr[k]:=Array.getElem?_eq_getElem cq;obtain⟨g1,g2,g3⟩:=fk k d _ ad ak;obtain⟨l,r,aD,aG⟩:=AB arr.toList k arr[k] ds (by simp[cq]) (by simpa using bt) (λj d y U ab=>(fk j d y U (by simpa using ab)).2.2);refine⟨_,ak,GX g1 g2,?_⟩;rw[tJ g1 g2];simp only[bn];rw[aD];exact om l _ r _ _ aG g3
 unfold ex at he;split at he
 .rename_i ds;split at he
  .rename_i d ad;split at he
   .rename_i af;simp only[some.injEq]at he;subst he;have aN:=(ar.bx rfl).1 az;obtain⟨⟨arr,rfl,bt⟩,eC⟩:=aN;obtain⟨x,ak,R,ae⟩:=pick ds d arr ad bt;have ax:(Instr.extract (.tuple arr) k).run C.P w= .ok x w:=by simp[Instr.extract,ak]
    rw[ah]at eC;obtain⟨bb,dF,c2,bg,eW,e,eR,eo,eF,fj,dM,iN⟩:=aH.pick ds _ _ k d eC ad;rw[e,om bb dF c2 _ _ eR (ah.length _ _ _ dM)]at ae;by_cases aI:d.tree=true
    .exact Good.same h ax af ((ar.bx aI).2 ⟨R,by rw[<-ae];exact ah.plain _ _ _ _ af dM⟩)
    .cases d<;>first|exact(aI rfl).elim|(rw[ah]at dM;exact dM.elim)|exact Good.same h ax rfl (by rw[ar];trivial)|(have bc:=ah.plain _ _ _ (λ_=>False) af dM;rw[ae,eb (by exact R)]at bc;exact Good.same h ax rfl (ar.lH _ _ rfl bc))
   .cases he
  .cases he
 .rename_i y q;split at he
  .rename_i ds ad;split at he
   .rename_i d ag;split at he
    .cases he
    .rename_i dZ;simp only[some.injEq]at he;have dZ:(I.tuple ds).plain=false:=by simpa [I.plain]using dZ
     rw[ar]at az;obtain⟨bF,a,g1,g2,g3⟩:=az _ ad dZ;obtain⟨arr,rfl,bt⟩:=g3;obtain⟨x,ak,R,ae⟩:=pick ds d arr ag bt;have ax:(Instr.extract (.tuple arr) k).run C.P w= .ok x w:=by simp[Instr.extract,ak]
     have hy:=h.b9 y;rw[ar.bx (eX ad (.inl dZ))]at hy;obtain⟨dG,bI,cr,df,k0,bA,bN,bO,bL,cz⟩:=ctx q (s y) (bn (ao y)) (S y) none _ hy.2 ad;rw[k0]at g1;simp only[some.injEq,Prod.mk.injEq,true_and]at g1;obtain⟨rfl,rfl⟩:=g1;rw[g2]at ae;split at he
     .rename_i af;subst he;rw[ah]at bL;obtain⟨bb,dF,c2,bg,eW,e,eR,eo,eF,fj,dM,iN⟩:=aH.pick ds _ _ k d bL ag;rw[e,om bb dF c2 _ _ eR (ah.length _ _ _ dM)]at ae;by_cases aI:d.tree=true
      .exact Good.same h ax af ((ar.bx aI).2 ⟨R,by rw[<-ae];exact ah.plain _ _ _ _ af dM⟩)
      .cases d<;>first|exact(aI rfl).elim|(rw[ah]at dM;exact dM.elim)|exact Good.same h ax rfl (by rw[ar];trivial)|(have bc:=ah.plain _ _ _ (λ_=>False) af dM;rw[ae,eb (by exact R)]at bc;exact Good.same h ax rfl (ar.lH _ _ rfl bc))
     .subst he;refine Good.same h ax rfl ?_;rw[ar];intro d2 eT rh;rw[rl w q _ _ _ _ _ _ [k] k0];rw[rk _ _ _ _ ad]at eT;simp only[I.sub,ag,some.injEq]at eT;subst eT;simp only[b6,ag];exact⟨_,_,rfl,ae.symm,R⟩
   .cases he
  .cases he
 .cases he
def iS (C:bl) (s:aj) (T:TypeId) (x:I) (k:Nat):Option I:=
 match(C.T T).k with
 | .struct al=>match al[k]? with
   |some (gn,off)=>match x with
    | .agg ds=>match ds[k]? with
      |some d=>if I.cp (ds.take k)=off/\fits C gn d=true/\d.plain=true/\d.tree=true then some d else none
      |none=>none
    | .h y q=>match I.sub q (s y)with
      |some (.agg ds)=>match ds[k]? with
       |some d=>if I.cp (ds.take k)=off/\fits C gn d=true/\I.ee ds=false/\d.tree=true then some (if d.plain then d else .h y (q++[k]))else none
       |none=>none
      |_=>none
    |_=>none
   |none=>none
 |_=>none
theorem GZ (aS:C.cS) (h:aZ w0 F0 X F S s ao w) {T:TypeId} {x:I} {v:Value} {k:Nat} (az:ar w F s ao x v (λ_=>False)) (he:iS C s T x k=some av):Good C w0 F0 X ao w (Instr.field T v k) av s:=by
 have key:∀(al:List (TypeId×Nat)) (gn:TypeId) (off:Nat),(C.T T).k= .struct al->al[k]? =some (gn,off)->∀(ds:RL) (d:I) (arr:Array Value) (aB:Nat->Prop),ds[k]? =some d->I.cp (ds.take k)=off->fits C gn d=true->aH w F ds arr.toList aB->
   ∃x eW,(Instr.field T (.agg arr) k).run C.P w= .ok x w/\b7 d x/\ah w F d (bn x) eW/\(arr.toList.drop off).take d.wd=bn x:=by
  intro al gn off ag bq ds d arr aB ad lG fp eC;obtain⟨i,ru,z,aD,aG,aJ,bp,bJ,bk,a7⟩:=aS.info (dV ag (by simp));rw[ag]at a7;obtain⟨gs,rfl,eH⟩:=rm a7;obtain⟨g,g1,rfl,rfl⟩:∃g,gs[k]? =some g/\g.type=gn/\g.offset=off:=by
   rw[<-eH,getElem?_map]at bq;simp only[map_eq_some_iff,Prod.mk.injEq]at bq;obtain⟨g,U,ab,ay⟩:=bq;exact⟨g,by simpa using U,ab,ay⟩
  obtain⟨bb,dF,c2,bg,eW,e,eR,eo,eF,fj,dM,iN⟩:=aH.pick ds _ _ k d eC ad;obtain⟨x,ax,pQ,jg⟩:=Gx (w:=w) aS e (eR.trans lG) dM fp;refine⟨x,eW,?_,jg,by rw[pQ];exact dM,?_⟩
  .simp[Instr.field,run_underlying bk,g1,asAgg,ax]
  .rw[e,pQ,<-lG];exact om bb dF c2 _ _ eR (ah.length _ _ _ dM)
 have AD:∀(d:I) (x:Value) (eW:Nat->Prop),d.plain=true->b7 d x->ah w F d (bn x) eW->ar w F s ao d x (λ_=>False):=by
  intro d x eW af R eC;by_cases aI:d.tree=true
  .exact(ar.bx aI).2 ⟨R,ah.plain _ _ _ _ af eC⟩
  .cases d<;>first|exact(aI rfl).elim|(rw[ah]at eC;exact eC.elim)|(rw[ar];trivial)|(have bc:=ah.plain _ _ _ (λ_=>False) af eC;rw[eb (by exact R)]at bc;exact ar.lH _ _ rfl bc)
 unfold iS at he;split at he
 .rename_i al ag;split at he
  .rename_i gn off bq;split at he
   .rename_i ds;split at he
    .rename_i d ad;split at he
     .rename_i ae;simp only[some.injEq]at he;subst he;obtain⟨⟨arr,rfl⟩,eC⟩:=(ar.bx rfl).1 az;rw[ah]at eC;obtain⟨x,eW,ax,R,wM,_⟩:=key al gn off ag bq ds d arr _ ad ae.1 ae.2.1 eC;exact Good.same h ax ae.2.2.1 (AD d x eW ae.2.2.1 R wM)
     .cases he
    .cases he
   .rename_i y q;split at he
    .rename_i ds ad;split at he
     .rename_i d kW;split at he
      .rename_i ae;simp only[some.injEq]at he;have dZ:(I.agg ds).plain=false:=by simpa [I.plain]using ae.2.2.1
       rw[ar]at az;obtain⟨bF,a,g1,g2,g3⟩:=az _ ad dZ;obtain⟨arr,rfl⟩:=g3;have hy:=h.b9 y;rw[ar.bx (eX ad (.inl dZ))]at hy;obtain⟨dG,bI,cr,df,k0,bA,bN,bO,bL,cz⟩:=ctx q (s y) (bn (ao y)) (S y) none _ hy.2 ad;rw[k0]at g1;simp only[some.injEq,Prod.mk.injEq,true_and]at g1;obtain⟨rfl,rfl⟩:=g1;rw[ah,<-g2]at bL;obtain⟨x,eW,ax,R,wM,iQ⟩:=key al gn off ag bq ds d arr _ kW ae.1 ae.2.1 bL;by_cases af:d.plain=true
       .rw[if_pos af]at he;subst he;exact Good.same h ax af (AD d x eW af R wM)
       .rw[if_neg af]at he;subst he;refine Good.same h ax rfl ?_;rw[ar];intro d2 eT rh;rw[rl w q _ _ _ _ _ _ [k] k0];rw[rk _ _ _ _ ad]at eT;simp only[I.sub,kW,some.injEq]at eT;subst eT;simp only[b6,kW];refine⟨_,_,rfl,?_,R⟩;rw[ae.1,<-g2];exact iQ.symm
      .cases he
     .cases he
    .cases he
   .cases he
  .cases he
 .cases he
end
section
variable {C:bl} {w0 w:World} {F0 X F:Nat->Prop} {S:Nat->Nat->Prop} {s s1:aj} {ao:Nat->Value} {av:I}
def idx (C:bl) (T:TypeId) (x i:I):Option I:=
 match(C.T T).k,x,i with
 | .str,.str l,.int _ n=>if 0<=n then(match l[n.toNat]? with|some b=>some (.int .u8 b.toNat)|none=>none)else none
 |_,_,_=>none
theorem G0 (l:RD) (n:Nat):(⟨⟨l⟩⟩:ByteArray)[n]? =l[n]? :=by
 by_cases h:n<l.length
 .have aN:n<(⟨⟨l⟩⟩:ByteArray).size:=h;rw[getElem?_eq_getElem h,getElem?_pos (⟨⟨l⟩⟩:ByteArray) n aN];rfl
 .have aN:¬n<(⟨⟨l⟩⟩:ByteArray).size:=h;rw[getElem?_eq_none (by omega),getElem?_neg (⟨⟨l⟩⟩:ByteArray) n aN]
theorem G1 (aS:C.cS) (h:aZ w0 F0 X F S s ao w) {T:TypeId} {x i:I} {v ka:Value} (az:ar w F s ao x v (λ_=>False)) (aC:ar w F s ao i ka (λ_=>False)) (he:idx C T x i=some av):
  Good C w0 F0 X ao w (Instr.index T v ka) av s:=by
 unfold idx at he;split at he
 .rename_i l k n ag;have:=iv az;subst this;have:=jJ aC;subst this;obtain⟨i,d,z,aD,aG,aJ,bp,bJ,bk,a7⟩:=aS.info (dV ag (by simp));rw[ag]at a7;have:=lF a7;subst this;split at he
  .rename_i aT;split at he
   .rename_i b J;simp only[some.injEq]at he;subst he;refine Good.same h ?_ rfl (of_int _ _);simp[Instr.index,asIntOf,run_underlying bk,aT,G0,J]
   .cases he
  .cases he
 .cases he
def lenOf (s:aj):I->Option Nat
 | .str l=>some l.length
 | .bz=>some 0
 | .slice xs=>some xs.length
 | .h y q=>match I.sub q (s y)with
   |some (.aE _ xs)=>some xs.length
   |_=>none
 |_=>none
def iT (C:bl) (s:aj) (T:TypeId) (x:I):Option I:=
 match(C.T T).k,x with
 | .str,.str l=>some (.int .i64 l.length)
 | .slice _,.bz=>some (.int .i64 0)
 | .slice _,.slice xs=>some (.int .i64 xs.length)
 | .slice _,.h y q=>match I.sub q (s y)with
   |some (.aE _ xs)=>some (.int .i64 xs.length)
   |_=>none
 |_,_=>none
theorem tK {xs:RL} {v:Value} {aB:Nat->Prop} (h:ar w F s ao (.slice xs) v aB):(xs=[]/\∃a c,v= .slice a 0 c/\c<=maxLen/\(a=none->c=0))\/
  ∃b o cap cV sz,v= .slice (some ⟨b,o,none⟩) xs.length cap/\F b/\xs.length<=cap/\cap<=maxLen/\(∀d∈xs,d.wd=sz)/\e_ w b o cV/\aH w F xs cV (λ_=>False):=by
 have aN:=(ar.bx rfl).1 h;rw[ah,eb aN.1]at aN;obtain⟨_,⟨rfl,a,c,ab,ay⟩|⟨b,o,cap,cV,sz,ab,ay⟩⟩:=aN
 .simp at ab;exact .inl ⟨rfl,a,c,ab,ay⟩
 .simp at ab;exact .inr ⟨b,o,cap,cV,sz,ab,ay⟩
theorem G2 (aS:C.cS) (h:aZ w0 F0 X F S s ao w) {T ty:TypeId} {x:I} {v:Value} (az:ar w F s ao x v (λ_=>False)) (he:iT C s T x=some av):
  Good C w0 F0 X ao w (Builtin.len_ #[T] ty #[v]) av s:=by
 unfold iT at he;split at he
 .rename_i l ag;have:=iv az;subst this;obtain⟨i,d,z,aD,aG,aJ,bp,bJ,bk,a7⟩:=aS.info (dV ag (by simp));rw[ag]at a7;have:=lF a7;subst this;simp only[some.injEq]at he;subst he;refine Good.same h ?_ rfl (of_int _ _);simp[Builtin.len_,run_underlying bk,goInt];rfl
 .rename_i e ag;have:=nz az;subst this;obtain⟨i,d,z,aD,aG,aJ,bp,bJ,bk,a7⟩:=aS.info (dV ag (by simp));rw[ag]at a7;have:=ir a7;subst this;simp only[some.injEq]at he;subst he;refine Good.same h ?_ rfl (of_int _ _);simp[Builtin.len_,run_underlying bk,goInt]
 .rename_i e xs ag;obtain⟨i,d,z,aD,aG,aJ,bp,bJ,bk,a7⟩:=aS.info (dV ag (by simp));rw[ag]at a7;have:=ir a7;subst this;simp only[some.injEq]at he;subst he;refine Good.same h ?_ rfl (of_int _ _);rcases tK az with⟨rfl,a,c,rfl,_⟩|⟨b,o,cap,cV,sz,rfl,_⟩<;>simp[Builtin.len_,run_underlying bk,goInt]
 .rename_i e y q ag;split at he
  .rename_i sz xs ad;obtain⟨i,d,z,aD,aG,aJ,bp,bJ,bk,a7⟩:=aS.info (dV ag (by simp));rw[ag]at a7;have:=ir a7;subst this;simp only[some.injEq]at he;subst he;refine Good.same h ?_ rfl (of_int _ _);rcases wL h az ad with⟨rfl,_,rfl⟩|⟨b,cap,cur,aG,fr,rfl,_⟩<;>simp[Builtin.len_,run_underlying bk,goInt]
  .cases he
 .cases he
def bytesOf:RL->Option RD
 |[]=>some []
 | .int .u8 n::r=>if 0<=n/\n<256 then(bytesOf r).map (UInt8.ofNat n.toNat::·)else none
 |_=>none
def eN (b:UInt8):I:=.int .u8 b.toNat
theorem G3 (l:RD):bytesOf (l.map eN)=some l:=by
 induction l with
 |nil=>rfl
 |cons b l ih=>
  have J:b.toNat<256:=b.toNat_lt;simp only[map_cons,eN,bytesOf,Int.toNat_natCast];rw[if_pos (by omega),ih];simp
theorem wN:∀(xs:RL) (l:RD) (cs:RJ) (aB:Nat->Prop),bytesOf xs=some l->aH w F xs cs aB->cs=l.map (λb=>.int .u8 (b.toNat:Int))/\xs.length=l.length
 |[],l,cs,aB,h,ax=>by simp[bytesOf]at h;subst h;rw[aH]at ax;subst ax;exact⟨rfl,rfl⟩
 |x::xs,l,cs,aB,h,ax=>by
  unfold bytesOf at h;split at h
  .rename_i e;cases e
  .rename_i n r e;simp only[cons.injEq]at e;obtain⟨rfl,rfl⟩:=e;split at h
   .rename_i aT;simp only[map_eq_some_iff]at h;obtain⟨bH,U,rfl⟩:=h;rw[aH]at ax;obtain⟨bb,c2,bg,b0,rfl,ab,ay,_⟩:=ax;obtain⟨rfl,aQ⟩:=wN xs bH c2 b0 U ay;rw[ah]at ab;subst ab;refine⟨?_,by simp[aQ]⟩;simp only[map_cons,cons_append,nil_append,cons.injEq,and_true,Value.int.injEq,true_and];simp only[UInt8.toNat_ofNat'];omega
   .cases h
  .cases h
theorem aZ.tL (h:aZ w0 F0 X F S s ao w) {an:World} {sz cap:Nat} {xs:RL} {cur:Array Value} {e:TypeId} {fr:Nat×Nat} {Sn:Nat->Prop}
  (hw:an.heap=w.heap.push (.cells cur e fr)) (U:an.os=w.os) (ab:an.tape=w.tape) (ay:Out an w)
  (bq:jd fr (cur.size+(sz-1))) (hle:xs.length<=cap) (hm:cap<=maxLen) (dm:cur.size=cap*sz) (g_:∀d∈xs,d.wd=sz) (az:aH w F xs (cur.toList.take (xs.length*sz)) Sn)
  (cq:∀b,Sn b->b<w.heap.size) (aL:∀b,Sn b->¬F b) (a_:∀u b,Sn b->¬S u b) (bj:∀b,Sn b->X b\/w0.heap.size<=b):
  aZ w0 F0 X F S s ao an/\hz w0 X F S s ao an (.aE sz xs) (.slice (some ⟨w.heap.size,0,none⟩) xs.length cap):=by
 have hold:∀b,b<w.heap.size->an.heap[b]? =w.heap[b]? :=by
  intro b J;rw[hw,Array.getElem?_push,if_neg (by omega)]
 have QJ:an.heap.size=w.heap.size+1:=by rw[hw];simp
 refine⟨h.grow hold (by omega) U ab ay,.inr ⟨rfl,rfl,λb=>b=w.heap.size\/Sn b,?_,?_,?_,?_,?_⟩⟩
 .simp only[bn,eG];rw[ah];refine .inr ⟨w.heap.size,cap,cur,e,fr,Sn,rfl,.inl rfl,?_,bq,hle,hm,dm,g_,?_,λc ae=>.inr ae,λae=>Nat.lt_irrefl _ (cq _ ae)⟩
  .rw[hw];simp
  .exact aH.frame (λb J=>hold b (h.dk b J)) _ _ _ (λb J=>hold b (cq b J)) az
 .rintro b (rfl|J)
  .omega
  .have:=cq b J;omega
 .rintro b (rfl|J) my
  .exact Nat.lt_irrefl _ (h.dk _ my)
  .exact aL b J my
 .rintro u b (rfl|J) hu
  .exact Nat.lt_irrefl _ (h.c1 _ _ hu)
  .exact a_ u b J hu
 .rintro b (rfl|J)
  .exact .inr h.size
  .exact bj b J
def fG (C:bl) (s:aj) (A B:TypeId) (x:I):Option I:=
 if(C.T A).ok=true then
 match(C.T B).k,x with
 | .int k,.int _ n=>some (.int k (k.wrap n))
 | .str,.str l=>match(C.T A).k with
   | .str=>some (.str l)
   |_=>none
 | .str,x=>match(C.T A).k with
   | .slice e=>match(C.T e).k with
     | .int .u8=>match x with
       | .bz=>some (.str [])
       | .slice xs=>(bytesOf xs).map .str
       | .h y q=>match I.sub q (s y)with
         |some (.aE 1 xs)=>(bytesOf xs).map .str
         |_=>none
       |_=>none
     |_=>none
   |_=>none
 | .slice e,.str l=>match(C.T A).k,(C.T e).k with
   | .str,.int .u8=>if l.length<=9223372036854775807 then some (.aE 1 (l.map eN))else none
   |_,_=>none
 |_,_=>none
 else none
theorem AE (l:RD) (aB:Nat->Prop):aH w F (l.map eN) (l.map λb=>.int .u8 (b.toNat:Int)) aB:=by
 induction l generalizing aB with
 |nil=>simp only[map_nil];rw[aH]
 |cons b l ih=>
  simp only[map_cons];rw[aH];exact⟨[.int .u8 (b.toNat:Int)],_,λ_=>False,λ_=>False,rfl,by rw[eN,ah],ih _,λ_ h=>h.elim,λ_ h=>h.elim,λ_ h=>h.elim⟩
theorem G4 (aS:C.cS) (h:aZ w0 F0 X F S s ao w) {A B:TypeId} {x:I} {v:Value} (az:ar w F s ao x v (λ_=>False)) (he:fG C s A B x=some av):
  Good C w0 F0 X ao w (convert A B v) av s:=by
 unfold fG at he;split at he
 .rename_i fH;obtain⟨fE,QK,QL,aw,a2,a3,a4,a5,lI,lJ⟩:=aS.info fH;split at he
  .rename_i k b5 n ag;have:=jJ az;subst this;obtain⟨i,d,z,aD,aG,aJ,bp,bJ,bk,a7⟩:=aS.info (dV ag (by simp));rw[ag]at a7;have:=tC a7;subst this;simp only[some.injEq]at he;subst he;refine Good.same h ?_ rfl (of_int _ _);simp[convert,run_underlying lI,run_underlying bk,Conv.intToInt]
  .rename_i l ag;have:=iv az;subst this;obtain⟨i,d,z,aD,aG,aJ,bp,bJ,bk,a7⟩:=aS.info (dV ag (by simp));rw[ag]at a7;have:=lF a7;subst this;split at he
   .rename_i rA;rw[rA]at lJ;have:=lF lJ;subst this;simp only[some.injEq]at he;subst he;refine Good.same h ?_ rfl (kY _);simp[convert,run_underlying lI,run_underlying bk]
   .cases he
  .rename_i x ag _;obtain⟨i,d,z,aD,aG,aJ,bp,bJ,bk,a7⟩:=aS.info (dV ag (by simp));rw[ag]at a7;have:=lF a7;subst this;split at he
   .rename_i e rA;rw[rA]at lJ;have:=ir lJ;subst this;split at he
    .rename_i rB;obtain⟨mv,aV,iu,f1,f2,f3,f4,f5,f6,f7⟩:=aS.info (dV rB (by simp));rw[rB]at f7;have:=tC f7;subst this;have fin:∀(l:RD) (b o cap:Nat),e_ w b o (l.map λb=>.int .u8 (b.toNat:Int))->(convert A B (.slice (some ⟨b,o,none⟩) l.length cap)).run C.P w= .ok (.string ⟨⟨l⟩⟩) w:=by
      intro l b o cap gx;refine run_convert_bytes_back w A B e ⟨b,o,none⟩ cap l lI f6 bk (λj bE=>?_);rw[Addr.add_lit];exact gx j _ (by simp[bE])
     have nil:(convert A B (.slice none 0 0)).run C.P w= .ok (.string ⟨⟨[]⟩⟩) w:=by
      simp[convert,run_underlying lI,run_underlying bk,run_underlying f6,Conv.bytesToString];rfl
     split at he
     .have:=nz az;subst this;simp only[some.injEq]at he;subst he;exact Good.same h nil rfl (kY _)
     .rename_i xs _;simp only[map_eq_some_iff]at he;obtain⟨l,hl,rfl⟩:=he;rcases tK az with⟨rfl,a,c,rfl,_,oB⟩|⟨b,o,cap,cV,sz,rfl,U,ab,ay,aQ,bc,bW⟩
      .simp[bytesOf]at hl;subst hl;cases a with
       |none=>
        have:=oB rfl;subst this;exact Good.same h nil rfl (kY _)
       |some a=>
        refine Good.same h ?_ rfl (kY _);exact run_convert_bytes_back w A B e a c [] lI f6 bk (λj bE=>by simp at bE)
      .obtain⟨rfl,b4⟩:=wN xs l cV _ hl bW;rw[b4];exact Good.same h (fin l b o cap bc) rfl (kY _)
     .rename_i y q;split at he
      .rename_i xs ad;simp only[map_eq_some_iff]at he;obtain⟨l,hl,rfl⟩:=he;rcases wL h az ad with⟨rfl,a,rfl⟩|⟨b,cap,cur,aG,fr,rfl,U,ab,ay,aQ,bc,bW,aB,b4,_⟩
       .simp[bytesOf]at hl;subst hl;cases a with
        |none=>exact Good.same h nil rfl (kY _)
        |some a=>
         refine Good.same h ?_ rfl (kY _);exact run_convert_bytes_back w A B e a 0 [] lI f6 bk (λj bE=>by simp at bE)
       .obtain⟨cP,fD⟩:=wN xs l _ _ hl b4;rw[fD];refine Good.same h (fin l b 0 cap ?_) rfl (kY _);rw[<-cP];exact pH U _
      .cases he
     .cases he
    .cases he
   .cases he
  .rename_i e l ag;have:=iv az;subst this;obtain⟨i,d,z,aD,aG,aJ,bp,bJ,bk,a7⟩:=aS.info (dV ag (by simp));rw[ag]at a7;have:=ir a7;subst this;split at he
   .rename_i rA rB;rw[rA]at lJ;have:=lF lJ;subst this;obtain⟨mv,aV,iu,f1,f2,f3,f4,f5,f6,f7⟩:=aS.info (dV rB (by simp));rw[rB]at f7;have:=tC f7;subst this;split at he
    .rename_i hl;simp only[some.injEq]at he;subst he;have R:(⟨⟨l⟩⟩:ByteArray).size=l.length:=rfl;have wO:=grownCap_ge w l.length 0 e;have G5:=grownCap_le_maxLen w l.length 0 e (by unfold maxLen;omega);have AF:(bytesRow ⟨⟨l⟩⟩ (grownCap w l.length 0 e)).toList=l.map (λb=>Value.int .u8 (b.toNat:Int))++replicate (grownCap w l.length 0 e-l.length) (.int .u8 0):=by
      simp[bytesRow,R]
     have dm:(bytesRow ⟨⟨l⟩⟩ (grownCap w l.length 0 e)).size=grownCap w l.length 0 e*1:=by
      have:(bytesRow ⟨⟨l⟩⟩ (grownCap w l.length 0 e)).size=(bytesRow ⟨⟨l⟩⟩ (grownCap w l.length 0 e)).toList.length:=by simp
      rw[this,AF];simp;omega
     have oz:=run_bytes_of_string w A B e ⟨⟨l⟩⟩ lI bk f6;rw[R]at oz;have ji:=h.tL (an:=w.drew.alloc (.cells (bytesRow ⟨⟨l⟩⟩ (grownCap w l.length 0 e)) e ((bytesRow ⟨⟨l⟩⟩ (grownCap w l.length 0 e)).size,(bytesRow ⟨⟨l⟩⟩ (grownCap w l.length 0 e)).size+1)))
      (sz:=1) (cap:=grownCap w l.length 0 e) (xs:=l.map eN) (cur:=bytesRow ⟨⟨l⟩⟩ (grownCap w l.length 0 e)) (e:=e) (Sn:=λ_=>False) rfl rfl rfl ⟨rfl,λ_=>le_succ _⟩
      (λo ba ⟨U,_⟩=>by simp only at U;omega) (by simpa using wO) G5 dm (by intro d ad;obtain⟨b,_,rfl⟩:=mem_map.1 ad;rfl)
      (by rw[AF,take_left' (by simp)];exact AE l _) (λ_ h=>h.elim) (λ_ h=>h.elim) (λ_ _ h=>h.elim) (λ_ h=>h.elim)
     simp only[length_map]at ji;exact⟨_,_,F,S,oz,ji.1,ji.2⟩
    .cases he
   .cases he
  .cases he
 .cases he
end
section
variable {C:bl} {w0 w:World} {F0 X F:Nat->Prop} {S:Nat->Nat->Prop} {s s1:aj} {ao:Nat->Value} {av:I}
def e9 (d:Nat):Option I->Option Nat
 |none=>some d
 |some (.int _ n)=>if 0<=n then some n.toNat else none
 |some _=>none
def eD (C:bl) (s:aj) (T:TypeId) (x:I) (di aC:Option I):Option (I×aj):=
 match(C.T T).k,x with
 | .str,.str l=>match e9 0 di,e9 l.length aC with
   |some a,some b=>if a<=b/\b<=l.length then some (.str ((l.take b).drop a),s)else none
   |_,_=>none
 | .slice e,.bz=>match e9 0 di,e9 0 aC with
   |some 0,some 0=>if(C.T e).ok=true then some (.bz,s)else none
   |_,_=>none
 | .slice e,.slice xs=>match e9 0 di,e9 xs.length aC with
   |some a,some b=>if a<=b/\b<=xs.length/\(C.T e).ok=true/\(∀d∈xs,d.wd=(C.T e).sz)then some (.slice ((xs.take b).drop a),s)else none
   |_,_=>none
 | .slice e,.h y q=>match I.sub q (s y)with
   |some (.aE sz xs)=>match e9 0 di,e9 xs.length aC with
    |some 0,some b=>if b<=xs.length/\(C.T e).ok=true then(match bK s (.h y q)with|some (_,s1)=>some (.aE sz (xs.take b),s1)|none=>none)else none
    |_,_=>none
   |_=>none
 |_,_=>none
def mz (w:World) (F:Nat->Prop) (s:aj) (ao:Nat->Value):Option I->Option Value->Prop
 |none,none=>True
 |some d,some v=>ar w F s ao d v (λ_=>False)
 |_,_=>False
theorem AG {d:Nat} {o:Option I} {v:Option Value} (ba:mz w F s ao o v) {a:Nat} (h:e9 d o=some a):(o=none/\v=none/\a=d)\/∃k,v=some (.int k a):=by
 cases o with
 |none=>
  cases v with
  |none=>simp[e9]at h;exact .inl ⟨rfl,rfl,h.symm⟩
  |some v=>simp[mz]at ba
 |some x=>
  cases v with
  |none=>simp[mz]at ba
  |some v=>
   simp only[mz]at ba;cases x with
   |int k n=>
    have:=jJ ba;subst this;simp only[e9]at h;split at h
    .rename_i aT;simp only[some.injEq]at h;subst h;obtain⟨m,rfl⟩:=Int.eq_ofNat_of_zero_le aT;exact .inr ⟨k,rfl⟩
    .cases h
   |_=>simp[e9]at h
theorem pR {P:Program} {isS:Bool} {len cap a b:Nat} {di aC:Option I} {oE oF:Option Value} (gp:mz w F s ao di oE) (ke:mz w F s ao aC oF) (a1:e9 0 di=some a) (J:e9 len aC=some b) (iM:a<=b) (G6:b<=cap) (_hlc:len<=cap):
  (Instr.sliceBounds isS len cap oE oF none).run P w= .ok (a,b,cap) w:=by
 rcases AG gp a1 with⟨_,rfl,rfl⟩|⟨k,rfl⟩<;>rcases AG ke J with⟨_,rfl,rfl⟩|⟨b5,rfl⟩<;>
  simp[Instr.sliceBounds,Instr.sliceBound,asIntOf,iM,G6]
theorem pS (aS:C.cS) {T:TypeId} (ag:(C.T T).flat=true) (v:Value) (di aC cY:Option Value) (w:World):(Instr.sliceAt T v di aC cY).run C.P w=(Instr.slice T v di aC cY).run C.P w:=by
 obtain⟨i,d,z,aD,aG,aJ,bp,bJ,bk,a7⟩:=aS.info (Am ag);have bT:∀n e,d≠.array n e:=by
  clear bk;unfold ea.flat at ag;generalize (C.T T).k=hb at*;cases hb<;>cases d<;>simp[hW]at a7 ag⊢
 cases d<;>first|exact(bT _ _ rfl).elim|simp[Instr.sliceAt,run_underlying bk]
theorem pT {x:ea} {k:jI} (h:x.k=k) (ag:k≠.other) (R:∀al,k≠.struct al) (J:∀e,k≠.ey e:=by simp):x.flat=true:=by
 unfold ea.flat;rw[h];cases k<;>first|rfl|exact(ag rfl).elim|exact(J _ rfl).elim|exact(R _ rfl).elim
theorem aH.split:∀(n:Nat) (xs:RL) (cs:RJ) (aB:Nat->Prop),aH w F xs cs aB->∃bb c2 bg b0,cs=bb++c2/\aH w F (xs.take n) bb bg/\aH w F (xs.drop n) c2 b0/\(∀b,bg b->aB b)/\(∀b,b0 b->aB b)/\(∀b,bg b->¬b0 b)
 |0,xs,cs,aB,h=>⟨[],cs,λ_=>False,aB,rfl,by rw[take_zero,aH],h,λ_ h=>h.elim,λ_ h=>h,λ_ h=>h.elim⟩
 |n+1,[],cs,aB,h=>by rw[aH]at h;subst h;exact⟨[],[],λ_=>False,λ_=>False,rfl,by rw[take_nil,aH],by rw[drop_nil,aH],λ_ h=>h.elim,λ_ h=>h.elim,λ_ h=>h.elim⟩
 |n+1,x::xs,cs,aB,h=>by
  rw[aH]at h;obtain⟨bb,c2,eQ,en,rfl,U,ab,ay,aQ,bc⟩:=h;obtain⟨d1,d2,bg,b0,rfl,g1,g2,g3,g4,g5⟩:=aH.split n xs c2 en ab;refine⟨bb++d1,d2,λb=>eQ b\/bg b,b0,by simp,?_,g2,?_,λb J=>aQ _ (g4 _ J),?_⟩
  .rw[take_succ_cons,aH];exact⟨bb,d1,eQ,bg,rfl,U,g1,λ_ h=>.inl h,λ_ h=>.inr h,λb J ae=>bc b J (g3 b ae)⟩
  .rintro b (J|J)
   .exact ay b J
   .exact aQ b (g3 b J)
  .rintro b (J|J) ae
   .exact bc b J (g4 b ae)
   .exact g5 b J ae
theorem G7 (aS:C.cS) (h:aZ w0 F0 X F S s ao w) {T:TypeId} {x:I} {v:Value} {di aC:Option I} {oE oF:Option Value} (ak:x.plain=true) (az:ar w F s ao x v (λ_=>False)) (gp:mz w F s ao di oE) (ke:mz w F s ao aC oF)
  (he:eD C s T x di aC=some (av,s1)):Good C w0 F0 X ao w (Instr.sliceAt T v oE oF none) av s1:=by
 unfold eD at he;split at he
 .rename_i l ag;have:=iv az;subst this;obtain⟨i,d,z,aD,aG,aJ,bp,bJ,bk,a7⟩:=aS.info (dV ag (by simp));rw[ag]at a7;have:=lF a7;subst this;split at he
  .rename_i a b a1 J;split at he
   .rename_i iM;simp only[some.injEq,Prod.mk.injEq]at he;obtain⟨rfl,rfl⟩:=he;refine Good.same h ?_ rfl (kY _);rw[pS aS (pT ag (by simp) (by simp))];have dm:(⟨⟨l⟩⟩:ByteArray).size=l.length:=rfl;have kf:=pR (P:=C.P) (isS:=false) (len:=l.length) (cap:=l.length) gp ke a1 J iM.1 iM.2 (Nat.le_refl _);have G8:(⟨⟨l⟩⟩:ByteArray).extract a b=⟨⟨(l.take b).drop a⟩⟩:=by
     apply ByteArray.ext;simp[ByteArray.data_extract,drop_take]
    simp[Instr.slice,run_underlying bk,dm,kf,G8]
   .cases he
  .cases he
 .rename_i e ag;have:=nz az;subst this;obtain⟨i,d,z,aD,aG,aJ,bp,bJ,bk,a7⟩:=aS.info (dV ag (by simp));rw[ag]at a7;have:=ir a7;subst this;split at he
  .rename_i a1 J;split at he
   .rename_i mA;obtain⟨mv,aV,iu,f1,f2,f3,f4,f5,f6,f7⟩:=aS.info mA;simp only[some.injEq,Prod.mk.injEq]at he;obtain⟨rfl,rfl⟩:=he;have kf:=pR (P:=C.P) (isS:=true) (len:=0) (cap:=0) gp ke a1 J (Nat.le_refl _) (Nat.le_refl _) (Nat.le_refl _);refine Good.same h (v:=.slice none 0 0) ?_ rfl az;rw[pS aS (pT ag (by simp) (by simp))];simp[Instr.slice,run_underlying bk,kf,hB f1,f2]
   .cases he
  .cases he
 .rename_i e xs ag;obtain⟨i,d,z,aD,aG,aJ,bp,bJ,bk,a7⟩:=aS.info (dV ag (by simp));rw[ag]at a7;have:=ir a7;subst this;split at he
  .rename_i a b a1 J;split at he
   .rename_i iM;obtain⟨G9,AH,mA,g_⟩:=iM;obtain⟨mv,aV,iu,f1,f2,f3,f4,f5,f6,f7⟩:=aS.info mA;simp only[some.injEq,Prod.mk.injEq]at he;obtain⟨rfl,rfl⟩:=he;rcases tK az with⟨rfl,pU,c,rfl,wP,oB⟩|⟨eE,o,cap,cV,sz,rfl,U,ab,ay,aQ,bc,bW⟩
    .have eU:b=0:=by simpa using AH
     subst eU;have G_:a=0:=by omega
     subst G_;have kf:=pR (P:=C.P) (isS:=true) (len:=0) (cap:=c) gp ke a1 J (Nat.le_refl _) (zero_le _) (zero_le _);refine Good.same h (v:=.slice pU 0 c) ?_ rfl ((ar.bx rfl).2 ⟨rfl,by rw[ah];exact .inl ⟨rfl,pU,c,rfl,wP,oB⟩⟩);rw[pS aS (pT ag (by simp) (by simp))];cases pU with
     |none=>
      have:=oB rfl;subst this;simp[Instr.slice,run_underlying bk,kf,hB f1,f2]
     |some pU=>simp[Instr.slice,run_underlying bk,kf,hB f1,f2,Addr.add]
    .have kf:=pR (P:=C.P) (isS:=true) (len:=xs.length) (cap:=cap) gp ke a1 J G9 (Nat.le_trans AH ab) ab;obtain⟨bb,c2,bg,b0,rfl,g1,g2,g3,g4,g5⟩:=aH.split b xs cV _ bW;obtain⟨d1,d2,Ha,wQ,rfl,bA,bN,bO,bL,cz⟩:=aH.split a (xs.take b) bb _ g1;have wR:d1.length=a*(C.T e).sz:=by
      rw[aH.length _ _ _ bA,oq _ (λd ad=>g_ d (mem_of_mem_take (mem_of_mem_take ad))),length_take,length_take];congr 1;omega
     have hlen:((xs.take b).drop a).length=b-a:=by simp;omega
     have gx:e_ w eE (o+a*(C.T e).sz) d2:=by
      rw[<-wR];have:e_ w eE o (d1++(d2++c2)):=by simpa using bc
      exact this.wD
     have tM:aH w F ((xs.take b).drop a) d2 (λ_=>False):=aH.mono (λ_ h=>h) _ _ _ _ (λb J=>(g3 _ (bL _ J)).elim) bN;have mem:∀d∈(xs.take b).drop a,d.wd=sz:=λd ad=>aQ d (mem_of_mem_take (mem_of_mem_drop ad));have run:(Instr.sliceAt T (.slice (some ⟨eE,o,none⟩) xs.length cap) oE oF none).run C.P w= .ok (.slice (if cap=a then some ⟨eE,o,none⟩else some ⟨eE,o+a*(C.T e).sz,none⟩) (b-a) (cap-a)) w:=by
      rw[pS aS (pT ag (by simp) (by simp))];simp[Instr.slice,run_underlying bk,kf,hB f1,f2,Addr.add_lit]
     refine⟨_,w,F,S,run,h,.inl ⟨rfl,(ar.bx rfl).2 ⟨rfl,?_⟩⟩⟩;simp only[bn,eG];rw[ah];by_cases AJ:cap=a
     .have Hb:b=a:=by omega
      subst Hb;have rC:(xs.take b).drop b=[]:=by simp
      rw[if_pos AJ];rw[rC]at tM⊢;rw[aH]at tM;subst tM;exact .inr ⟨eE,o,cap-b,[],sz,by simp,U,zero_le _,by omega,by simp,λj c bE=>by simp at bE,by rw[aH]⟩
     .rw[if_neg AJ];exact .inr ⟨eE,_,cap-a,d2,sz,by rw[hlen],U,by rw[hlen];omega,by omega,mem,gx,tM⟩
   .cases he
  .cases he
 .rename_i e y q ag;split at he
  .rename_i sz xs ad;split at he
   .rename_i b a1 J;split at he
    .rename_i tN;split at he
     .rename_i ru s2 aI;simp only[some.injEq,Prod.mk.injEq]at he;obtain⟨rfl,rfl⟩:=he;obtain⟨i,d,z,aD,aG,aJ,bp,bJ,bk,a7⟩:=aS.info (dV ag (by simp));rw[ag]at a7;have:=ir a7;subst this;obtain⟨mv,aV,iu,f1,f2,f3,f4,f5,f6,f7⟩:=aS.info tN.2;have oD:ru= .aE sz xs:=by
       simp only[bK,ad,I.plain]at aI;simp at aI;exact aI.1.symm
      subst oD;obtain⟨bg,g0,g1,g2,Sn,g3,g4,g5,g6,g7,g8⟩:=lE h rfl az aI;rw[eb g2,ah]at g3;rcases g3 with⟨rfl,a0,hc⟩|⟨eE,cap,cur,ez,fr,aB,hc,bA,bN,bO,bL,cz,db,fV,hd,iU,jL⟩
      .simp at hc;subst hc;have eU:b=0:=by simpa using tN.1
       subst eU;have kf:=pR (P:=C.P) (isS:=true) (len:=0) (cap:=0) gp ke a1 J (Nat.le_refl _) (Nat.le_refl _) (Nat.le_refl _);refine⟨.slice a0 0 0,w,F,bg,?_,g0,.inr ⟨rfl,rfl,λ_=>False,by simp only[bn,eG];rw[ah];exact .inl ⟨rfl,_,rfl⟩,λ_ h=>h.elim,λ_ h=>h.elim,λ_ _ h=>h.elim,λ_ h=>h.elim⟩⟩;rw[pS aS (pT ag (by simp) (by simp))];cases a0<;>simp[Instr.slice,run_underlying bk,kf,hB f1,f2]
      .simp at hc;subst hc;have kf:=pR (P:=C.P) (isS:=true) (len:=xs.length) (cap:=cap) gp ke a1 J (zero_le _) (Nat.le_trans tN.1 bL) bL;have hlen:(xs.take b).length=b:=by simp;omega
       have run:(Instr.sliceAt T (.slice (some ⟨eE,0,none⟩) xs.length cap) oE oF none).run C.P w= .ok (.slice (some ⟨eE,0,none⟩) b cap) w:=by
        rw[pS aS (pT ag (by simp) (by simp))];simp[Instr.slice,run_underlying bk,kf,hB f1,f2,Addr.add_lit]
       refine⟨_,w,F,bg,run,g0,.inr ⟨rfl,rfl,Sn,?_,g4,g5,g6,g7⟩⟩;simp only[bn,eG];rw[ah];obtain⟨bb,c2,eQ,en,ae,m1,m2,m3,m4,m5⟩:=aH.split b xs _ _ hd;refine .inr ⟨eE,cap,cur,ez,fr,aB,by rw[hlen],bA,bN,bO,by omega,cz,db,λd ad=>fV d (mem_of_mem_take ad),?_,iU,jL⟩;have wR:bb.length=b*sz:=by
        rw[aH.length _ _ _ m1,oq _ (λd ad=>fV d (mem_of_mem_take ad)),hlen]
       have:cur.toList.take ((xs.take b).length*sz)=bb:=by
        rw[hlen];have ab:b*sz<=xs.length*sz:=mul_le_mul_right _ tN.1;have:(cur.toList.take (xs.length*sz)).take (b*sz)=bb:=by rw[ae,take_left' wR]
        rwa [take_take,Nat.min_eq_left ab]at this
       rw[this];exact aH.mono (λ_ h=>h) _ _ _ _ m3 m1
     .cases he
    .cases he
   .cases he
  .cases he
 .cases he
end
section
variable {C:bl} {w0 w:World} {F0 X F:Nat->Prop} {S:Nat->Nat->Prop} {s s1:aj} {ao:Nat->Value} {av:I}
def Src (P:Program) (w:World) (size:Nat) (x:Value) (m:Nat) (news:RJ):Prop:=
 ∀an:World,an.heap=w.heap->(Builtin.lenOf x).run P an= .ok m an/\(Builtin.firstCells size m x).run P an= .ok news.toArray an
def wS (d:TypeDesc):Prop:=(∃e,d= .slice e)\/d= .string
theorem Hc {P:Program} {T bQ ty e:TypeId} {mB:TypeDesc} {i:TypeInfo} (aI:P.underlying T=some (.slice e)) (hu:P.underlying bQ=some mB) (oG:wS mB) (aC:P.info? e=some i)
  {x:Value} {m:Nat} {news:RJ} (tO:Src P w i.size x m news) {b n cap:Nat} {cur:Array Value} {ez:TypeId} {fr:Nat×Nat} {l mid r:RJ} (J:w.heap[b]? =some (.cells cur ez fr)) (bq:jd fr cur.size)
  (ae:cur.toList=l++(mid++r)) (hl:l.length=n*i.size) (hm:mid.length=news.length) (tF:∀v∈news,Value.eh v=true) (lK:n+m<=cap):
  ∃an,(Builtin.append_ #[T,bQ] ty #[.slice (some ⟨b,0,none⟩) n cap,x]).run P w= .ok (.slice (some ⟨b,0,none⟩) (n+m) cap) an/\an.heap[b]? =some (.cells (l++(news++r)).toArray ez fr)/\
   (∀c,c≠b->an.heap[c]? =w.heap[c]?)/\an.heap.size=w.heap.size/\an.os=w.os/\an.tape=w.tape/\Out an w:=by
 obtain⟨an,m1,m2⟩:=wH (P:=P) (b:=b) (o:=n*i.size) (e:=ez) (fr:=fr) news 0 cur w l mid r J bq ae (by omega) hm tF;refine⟨an,?_,m2⟩;obtain⟨U,ab⟩:=tO w rfl;rcases oG with⟨ej,rfl⟩|rfl<;>simp[Builtin.append_,run_underlying aI,run_underlying hu,hB aC,U,ab,lK,Addr.add_lit,m1]
theorem Hd {P:Program} {T bQ ty e:TypeId} {mB:TypeDesc} {i:TypeInfo} {z:Value} (aI:P.underlying T=some (.slice e)) (hu:P.underlying bQ=some mB) (oG:wS mB) (aC:P.info? e=some i) (bt:i.zero=some z)
  {x:Value} {m:Nat} {news:RJ} (tO:Src P w i.size x m news) {base:Option Addr} {n cap:Nat} {kZ:RJ} (hold:Src P w i.size (.slice base n cap) n kZ) (lK:¬n+m<=cap)
  (aT:n+m<=9223372036854775807) (wT:(n+m)*i.bytes<=140737488355328):
  (Builtin.append_ #[T,bQ] ty #[.slice base n cap,x]).run P w= .ok (.slice (some ⟨w.heap.size,0,none⟩) (n+m) (grownCap w (n+m) cap e))
   (w.drew.alloc (.cells (kZ.toArray++news.toArray++Builtin.zeroCells z.cells (grownCap w (n+m) cap e-(n+m))) e)):=by
 have U:=(tO w rfl).1;have ab:=(tO w.drew rfl).2;have ay:=(hold w.drew rfl).2;have QM:=growslice_fits (need:=n+m) (old:=cap) (by omega) wT;have fp:¬(281474976710656<Builtin.nextslicecap (n+m) cap*i.bytes):=by omega
 have tP:∀k (w:World),(askRoom k).run P w= .ok () w:=by
  intro k w;unfold askRoom;split<;>rfl
 have k1:¬(9223372036854775807<(n:Int)+(m:Int)/\i.bytes=0):=by omega
 rcases oG with⟨ej,rfl⟩|rfl<;>
  .simp[Builtin.append_,run_underlying aI,run_underlying hu,hB aC,rn aC,U,lK,fp,Question.forced,tP];rw[if_neg k1,ay];simp[ab,pL aC bt,newRow,grownCap];have aD:(kZ++news).toArray=kZ.toArray++news.toArray:=by simp
   rw[aD,Array.append_assoc]
def tQ (C:bl) (e bQ:TypeId):Bool:=match(C.T bQ).k,(C.T e).k with
 | .slice ej,_=>ej==e
 | .str,.int .u8=>true
 |_,_=>false
def mC (C:bl) (s:aj) (T bQ:TypeId) (x y:I):Option (I×aj):=
 match(C.T T).k with
 | .slice e=>if(C.T e).ok=true/\(C.T e).zero.wd=(C.T e).sz/\(flat (C.T e).zero).isSome=true/\tQ C e bQ=true then
   match(match x with| .bz=>some (I.aE (C.T e).sz [],s)| .h a q=>bK s (.h a q)|_=>none)with
   |some (.aE sz xs,s1)=>if sz=(C.T e).sz then
     match(match hA x.owner y with
      | .bz=>some ([],s1)
      | .slice bM=>some (bM,s1)
      | .str l=>some (l.map eN,s1)
      | .h a q=>match bK s1 (.h a q)with
        |some (.aE _ bM,s2)=>some (bM,s2)
        |_=>none
      |_=>none)with
     |some (bM,s2)=>if(∀d∈bM,d.wd=(C.T e).sz)/\(xs.length+bM.length)*(C.T e).bytes<=140737488355328/\xs.length+bM.length<=9223372036854775807 then some (.aE sz (xs++bM),s2)else none
     |none=>none
    else none
   |_=>none
   else none
 |_=>none
theorem aH.append {xs bM:RL} {bb c2:RJ} {bg b0 aB:Nat->Prop} (U:aH w F xs bb bg) (ab:aH w F bM c2 b0) (aD:∀b,bg b->aB b) (aG:∀b,b0 b->aB b) (aJ:∀b,bg b->¬b0 b):aH w F (xs++bM) (bb++c2) aB:=by
 induction xs generalizing bb bg aB with
 |nil=>rw[aH]at U;subst U;exact aH.mono (λ_ h=>h) _ _ _ _ aG ab
 |cons x xs ih=>
  rw[aH]at U;obtain⟨He,Hf,eQ,en,rfl,g1,g2,g3,g4,g5⟩:=U;rw[cons_append,aH];refine⟨He,Hf++c2,eQ,λb=>en b\/b0 b,by simp,g1,ih g2 (λb h=>.inl h) (λb h=>.inr h) (λb h=>aJ b (g4 b h)),λb h=>aD b (g3 b h),?_,?_⟩
  .rintro b (h|h)
   .exact aD b (g4 b h)
   .exact aG b h
  .rintro b h (aN|aN)
   .exact g5 b h aN
   .exact aJ b (g3 b h) aN
theorem wU {P:Program} {size m cap:Nat} {b o:Nat} {news:RJ} (gx:e_ w b o news) (hl:news.length=m*size):Src P w size (.slice (some ⟨b,o,none⟩) m cap) m news:=by
 intro an hw;refine⟨rfl,?_⟩;refine run_firstCells_some an size m ⟨b,o,none⟩ m cap news hl (λj v bE=>?_);rw[Addr.add_lit];have:=gx j v bE;simpa [World.cell?,hw]using this
theorem AK {P:Program} {size cap:Nat}:Src P w size (.slice none 0 cap) 0 []:=by
 intro an _;exact⟨rfl,by simp[Builtin.firstCells]⟩
theorem wV {P:Program} {size cap:Nat} (a:Option Addr):Src P w size (.slice a 0 cap) 0 []:=by
 cases a with
 |none=>exact AK
 |some a=>
  intro an _;exact⟨rfl,run_firstCells_some an size 0 a 0 cap [] (by simp) (λj v bE=>by simp at bE)⟩
theorem Hg {P:Program} (l:RD):Src P w 1 (.string ⟨⟨l⟩⟩) l.length (l.map λb=>.int .u8 (b.toNat:Int)):=by
 intro an _;refine⟨rfl,?_⟩;have:(⟨⟨l⟩⟩:ByteArray).extract 0 l.length=⟨⟨l⟩⟩:=by
  apply ByteArray.ext;simp[ByteArray.data_extract]
 simp[Builtin.firstCells,this]
theorem aH.oH {sz:Nat} {xs:RL} {cs:RJ} {aB:Nat->Prop} (h:aH w F xs cs aB) (hw:∀d∈xs,d.wd=sz):cs.length=xs.length*sz:=by
 rw[aH.length _ _ _ h,oq _ hw]
theorem aZ.turn (h:aZ w0 F0 X F S s ao w) {an:World} {b:Nat} (J:∀c,c≠b->an.heap[c]? =w.heap[c]?) (R:an.heap.size=w.heap.size) (U:an.os=w.os) (ab:an.tape=w.tape) (ay:Out an w)
  (aL:¬F b) (a_:∀u,¬S u b) (bj:X b\/w0.heap.size<=b):aZ w0 F0 X F S s ao an where
 eK:=h.eK
 eY:=h.eY
 dk:=λc ae=>by rw[R];exact h.dk c ae
 c1:=λt c ae=>by rw[R];exact h.c1 t c ae
 dN:=h.dN
 du:=h.du
 ck:=h.ck
 b9:=λt=>ar.frame (Sx:=S) (λc ae=>J c (by rintro rfl;exact aL ae)) (λ_ h=>h) (λx c ae=>J c (by rintro rfl;exact a_ x ae)) h.b9 _ _ _ (λc ae=>J c (by rintro rfl;exact a_ t ae)) (h.b9 t)
 old:=λc cq gQ=>by
  rw[J c ?_]
  .exact h.old c cq gQ
  .rintro rfl;rcases bj with bj|bj
   .exact gQ bj
   .omega
 size:=by rw[R];exact h.size
 os:=U.trans h.os
 tape:=ab.trans h.tape
 output:=ay.trans h.output
 ef:=h.ef
theorem Hh (aS:C.cS) (h:aZ w0 F0 X F S s ao w) {T bQ ty:TypeId} {x y:I} {fq gb:Value} (ak:ar w F s ao x fq (λ_=>False)) (hy:ar w F s ao y gb (λ_=>False))
  (he:mC C s T bQ x y=some (av,s1)):Good C w0 F0 X ao w (Builtin.append_ #[T,bQ] ty #[fq,gb]) av s1:=by
 unfold mC at he;split at he
 .rename_i e ag;obtain⟨AL,d,AM,aD,aG,aJ,bp,bJ,bk,a7⟩:=aS.info (dV ag (by simp));rw[ag]at a7;have:=ir a7;subst this;split at he
  .rename_i rp;obtain⟨mA,oI,oJ,lL⟩:=rp;obtain⟨i,AN,z,f1,f2,f3,f4,f5,f6,f7⟩:=aS.info mA;obtain⟨ep,k2⟩:=isSome_iff_exists.1 oJ;have oK:=f5 ep k2;have nA:ep.length=(C.T e).sz:=by
    have:=ah.length _ _ _ ((ah.flat (w:=w) (F:=F) _).1 (C.T e).zero ep (λ_=>False) (Nat.le_refl _) k2);rw[this,oI]
   obtain⟨mB,hu,oG⟩:∃mB,C.P.underlying bQ=some mB/\wS mB:=by
    unfold tQ at lL;split at lL
    .rename_i ej h0;obtain⟨_,aV,_,_,_,_,_,_,g6,g7⟩:=aS.info (dV h0 (by simp));rw[h0]at g7;exact⟨aV,g6,.inl ⟨_,ir g7⟩⟩
    .rename_i h0 _;obtain⟨_,aV,_,_,_,_,_,_,g6,g7⟩:=aS.info (dV h0 (by simp));rw[h0]at g7;exact⟨aV,g6,.inr (lF g7)⟩
    .cases lL
   split at he
   .rename_i sz xs AO oL;split at he
    .rename_i dm;subst dm;split at he
     .rename_i bM tR kg;split at he
      .rename_i wW;obtain⟨pV,wT,oM⟩:=wW;simp only[some.injEq,Prod.mk.injEq]at he;obtain⟨rfl,rfl⟩:=he;obtain⟨eQ,a0,Sn,a3,a4,a5,lI,lJ,QN,a9,nB⟩:∃eQ,aZ w0 F0 X F eQ AO ao w/\∃Sn,ah w F (.aE (C.T e).sz xs) [fq] Sn/\(∀b,Sn b->b<w.heap.size)/\(∀b,Sn b->¬F b)/\(∀u b,Sn b->¬eQ u b)/\
         (∀b,Sn b->X b\/w0.heap.size<=b)/\(∀u b,eQ u b->S u b)/\(∀b,Sn b->∃u,S u b)/\ar w F AO ao (hA x.owner y) gb (λ_=>False):=by
        split at oL
        .simp only[some.injEq,Prod.mk.injEq,I.aE.injEq,true_and]at oL;obtain⟨rfl,rfl⟩:=oL;have:=nz ak;subst this;exact⟨S,h,λ_=>False,by rw[ah];exact .inl ⟨rfl,_,rfl⟩,λ_ h=>h.elim,λ_ h=>h.elim,λ_ _ h=>h.elim,λ_ h=>h.elim,λ_ _ h=>h,λ_ h=>h.elim,hy⟩
        .obtain⟨bg,g0,g1,g2,Sn,g3,g4,g5,g6,g7,g8,g9,g10⟩:=lE h rfl ak oL;rw[eb g2]at g3;exact⟨bg,g0,Sn,g3,g4,g5,g6,g7,g8,g9,g10 _ _ _ hy⟩
        .cases oL
       obtain⟨en,eE,jM,news,e0,dW,iw,b3,lM,cA,Hi,cF⟩:∃en,aZ w0 F0 X F en tR ao w/\∃jM news,aH w F bM news jM/\Src C.P w i.size gb bM.length news/\(∀b,jM b->b<w.heap.size)/\(∀b,jM b->¬F b)/\(∀u b,jM b->¬en u b)/\
         (∀b,jM b->X b\/w0.heap.size<=b)/\(∀u b,en u b->eQ u b)/\(∀b,jM b->∃u,eQ u b):=by
        split at kg
        .rename_i oN;simp only[some.injEq,Prod.mk.injEq]at kg;obtain⟨rfl,rfl⟩:=kg;rw[oN]at nB;have:=nz nB;subst this;exact⟨eQ,a0,λ_=>False,[],by rw[aH],AK,λ_ h=>h.elim,λ_ h=>h.elim,λ_ _ h=>h.elim,λ_ h=>h.elim,λ_ _ h=>h,λ_ h=>h.elim⟩
        .rename_i dP oN;simp only[some.injEq,Prod.mk.injEq]at kg;obtain⟨rfl,rfl⟩:=kg;rw[oN]at nB;rcases tK nB with⟨rfl,pU,QO,rfl,_,oB⟩|⟨b,o,cap,cV,Hj,rfl,bA,bN,bO,bL,cz,db⟩
         .exact⟨eQ,a0,λ_=>False,[],by rw[aH],wV pU,λ_ h=>h.elim,λ_ h=>h.elim,λ_ _ h=>h.elim,λ_ h=>h.elim,λ_ _ h=>h,λ_ h=>h.elim⟩
         .exact⟨eQ,a0,λ_=>False,cV,db,wU cz (by rw[f2];exact aH.oH db pV),λ_ h=>h.elim,λ_ h=>h.elim,λ_ _ h=>h.elim,λ_ h=>h.elim,λ_ _ h=>h,λ_ h=>h.elim⟩
        .rename_i l oN;simp only[some.injEq,Prod.mk.injEq]at kg;obtain⟨rfl,rfl⟩:=kg;rw[oN]at nB;have:=iv nB;subst this;have Hk:l≠[]->i.size=1:=by
          intro hl;cases l with
          |nil=>exact(hl rfl).elim
          |cons b l=>rw[f2,<-pV (eN b) (by simp)];rfl
         by_cases hl:l=[]
         .subst hl;refine⟨eQ,a0,λ_=>False,[],by simp only[map_nil];rw[aH],?_,λ_ h=>h.elim,λ_ h=>h.elim,λ_ _ h=>h.elim,λ_ h=>h.elim,λ_ _ h=>h,λ_ h=>h.elim⟩;intro an _;exact⟨rfl,by simp[Builtin.firstCells,ByteArray.extract];rfl⟩
         .refine⟨eQ,a0,λ_=>False,_,AE l _,?_,λ_ h=>h.elim,λ_ h=>h.elim,λ_ _ h=>h.elim,λ_ h=>h.elim,λ_ _ h=>h,λ_ h=>h.elim⟩;rw[Hk hl,length_map];exact Hg l
        .rename_i a q oN;split at kg
         .rename_i QP dP s2 aI;simp only[some.injEq,Prod.mk.injEq]at kg;obtain⟨rfl,rfl⟩:=kg;rw[oN]at nB;obtain⟨b0,g0,g1,g2,jM,g3,g4,g5,g6,g7,g8,g9,g10⟩:=lE a0 rfl nB aI;rw[eb g2,ah]at g3;rcases g3 with⟨rfl,Hl,hc⟩|⟨b,cap,cur,ez,fr,aB,hc,bA,bN,bO,bL,cz,db,fV,hd,iU,jL⟩
          .simp at hc;subst hc;exact⟨b0,g0,λ_=>False,[],by rw[aH],(wV Hl),λ_ h=>h.elim,λ_ h=>h.elim,λ_ _ h=>h.elim,λ_ h=>h.elim,g8,λ_ h=>h.elim⟩
          .simp at hc;subst hc;refine⟨b0,g0,aB,_,hd,wU (pH bN _) ?_,λc ae=>g4 c (iU c ae),λc ae=>g5 c (iU c ae),λu c ae=>g6 u c (iU c ae),λc ae=>g7 c (iU c ae),g8,λc ae=>g9 c (iU c ae)⟩;rw[f2];exact aH.oH hd pV
         .cases kg
        .cases kg
       have nC:news.length=bM.length*(C.T e).sz:=aH.oH e0 pV;have kh:∀c,Sn c->¬jM c:=λc U ab=>by obtain⟨u,hu⟩:=cF c ab;exact lI u c U hu
       have iM:∀u c,Sn c->¬en u c:=λu c U ab=>lI u c U (Hi u c ab);have grow:∀(base:Option Addr) (cap:Nat) (kZ:RJ) (Sx:Nat->Prop),fq= .slice base xs.length cap->Src C.P w i.size (.slice base xs.length cap) xs.length kZ->aH w F xs kZ Sx->(∀d∈xs,d.wd=(C.T e).sz)->(∀c,Sx c->Sn c)->¬xs.length+bM.length<=cap->
         Good C w0 F0 X ao w (Builtin.append_ #[T,bQ] ty #[fq,gb]) (.aE (C.T e).sz (xs++bM)) tR:=by
        intro base cap kZ Sx wJ hold AP AQ cZ lK;subst wJ;have ax:=Hd (ty:=ty) bk hu oG f1 f4 dW hold lK oM (by rw[f3];exact wT);have wO:=grownCap_ge w (xs.length+bM.length) cap e;have wP:=grownCap_le_maxLen w (xs.length+bM.length) cap e (by unfold maxLen;omega);have rD:=aH.oH AP AQ;have Hm:aH w F (xs++bM) (kZ++news) (λc=>Sx c\/jM c):=aH.append AP e0 (λ_ h=>.inl h) (λ_ h=>.inr h) (λc U ab=>kh c (cZ c U) ab);have Hn:(kZ++news).length=(xs++bM).length*(C.T e).sz:=by simp[rD,nC,Nat.add_mul]
        have ji:=eE.tL (an:=w.drew.alloc (.cells (kZ.toArray++news.toArray++Builtin.zeroCells z.cells (grownCap w (xs.length+bM.length) cap e-(xs.length+bM.length))) e))
         (sz:=(C.T e).sz) (cap:=grownCap w (xs.length+bM.length) cap e) (xs:=xs++bM) (e:=e) (fr:=(0,0)) (Sn:=λc=>Sx c\/jM c) rfl rfl rfl ⟨rfl,λ_=>le_succ _⟩
         (λo _ ⟨_,ab⟩=>absurd ab (not_lt_zero _)) (by simpa using wO) wP
         (by
          simp only[Array.size_append,List.size_toArray,size_zeroCells,oK,rD,nC,nA,<-Nat.add_mul];congr 1;omega)
         (by
          intro d ad;rcases mem_append.1 ad with ad|ad
          .exact AQ d ad
          .exact pV d ad)
         (by
          simp only[Array.toList_append];rw[take_left' Hn];exact Hm)
         (by rintro c (ae|ae);exact a4 c (cZ c ae);exact iw c ae) (by rintro c (ae|ae);exact a5 c (cZ c ae);exact b3 c ae) (by rintro u c (ae|ae);exact iM u c (cZ c ae);exact lM u c ae) (by rintro c (ae|ae);exact lJ c (cZ c ae);exact cA c ae)
        refine⟨_,_,F,en,ax,ji.1,?_⟩;have:=ji.2;simpa using this
       rw[ah]at a3;rcases a3 with⟨rfl,tS,hc⟩|⟨b,cap,cur,ez,fr,aB,hc,bA,bN,bO,bL,cz,db,fV,hd,iU,jL⟩
       .simp at hc;subst hc;by_cases AR:bM=[]
        .subst AR;have wX:news=[]:=by simpa using nC
         subst wX;refine⟨.slice tS 0 0,w,F,en,?_,eE,.inr ⟨rfl,rfl,λ_=>False,by simp only[bn,eG];rw[ah];exact .inl ⟨rfl,_,rfl⟩,λ_ h=>h.elim,λ_ h=>h.elim,λ_ _ h=>h.elim,λ_ h=>h.elim⟩⟩;obtain⟨U,ab⟩:=dW w rfl;cases tS<;>rcases oG with⟨ej,rfl⟩|rfl<;>simp at U ab<;>simp[Builtin.append_,run_underlying bk,run_underlying hu,hB f1,U,ab,storeCells]
        .exact grow tS 0 [] (λ_=>False) rfl (wV tS) (by rw[aH]) (by simp) (λ_ h=>h.elim) (by
          cases bM with
          |nil=>exact(AR rfl).elim
          |cons y bM=>simp)
       .simp at hc;subst hc;by_cases lK:xs.length+bM.length<=cap
        ·
         have rD:=aH.oH hd fV;have hlen:cur.toList.length=cap*(C.T e).sz:=by simp[db]
         have hle:(xs.length+bM.length)*(C.T e).sz<=cap*(C.T e).sz:=mul_le_mul_right _ lK;rw[Nat.add_mul]at hle;have jf:cur.toList=cur.toList.take (xs.length*(C.T e).sz)++((cur.toList.drop (xs.length*(C.T e).sz)).take news.length++(cur.toList.drop (xs.length*(C.T e).sz)).drop news.length):=by
          rw[take_append_drop,take_append_drop]
         obtain⟨an,m1,m2,m3,m4,m5,m6,m7⟩:=Hc (ty:=ty) (n:=xs.length) (m:=bM.length) (cap:=cap) bk hu oG f1 dW bN bO.low jf (by rw[f2];exact rD) (by simp[hlen,nC];omega) (aH.ox _ _ _ e0) lK;have Ho:=eE.turn m3 m4 m5 m6 m7 (a5 b bA) (λu hu=>iM u b bA hu) (lJ b bA);have lD:∀c,F c->an.heap[c]? =w.heap[c]? :=λc ae=>m3 c (by rintro rfl;exact a5 _ bA ae);refine⟨_,an,F,en,m1,Ho,.inr ⟨rfl,rfl,λc=>Sn c\/jM c,?_,?_,?_,?_,?_⟩⟩
         .simp only[bn,eG];rw[ah];have AU:(cur.toList.take (xs.length*(C.T e).sz)++(news++(cur.toList.drop (xs.length*(C.T e).sz)).drop news.length)).toArray.size=cur.size:=by
           have:cur.size=cur.toList.length:=by simp
           rw[this];conv=>rhs;rw[jf]
           simp[hlen,nC];omega
          refine .inr ⟨b,cap,_,ez,fr,λc=>aB c\/jM c,by simp,.inl bA,m2,by rw[AU];exact bO,by simpa using lK,cz,by rw[AU];exact db,?_,?_,?_,?_⟩
          .intro d ad;rcases mem_append.1 ad with ad|ad
           .exact fV d ad
           .exact pV d ad
          .have pP:=aH.frame lD _ _ _ (λc ae=>m3 c (by rintro rfl;exact jL ae)) hd;have ow:=aH.frame lD _ _ _ (λc ae=>m3 c (by rintro rfl;exact kh _ bA ae)) e0;have:((cur.toList.take (xs.length*(C.T e).sz)++(news++(cur.toList.drop (xs.length*(C.T e).sz)).drop news.length)).toArray.toList.take ((xs++bM).length*(C.T e).sz))=cur.toList.take (xs.length*(C.T e).sz)++news:=by
            simp only[];rw[<-append_assoc];exact take_left' (by rw[length_append,rD,nC,length_append,Nat.add_mul])
           rw[this];exact aH.append pP ow (λ_ h=>.inl h) (λ_ h=>.inr h) (λc U ab=>kh c (iU c U) ab)
          .rintro c (ae|ae)
           .exact .inl (iU c ae)
           .exact .inr ae
          .rintro(ae|ae)
           .exact jL ae
           .exact kh b bA ae
         .rw[m4];rintro c (ae|ae);exact a4 c ae;exact iw c ae
         .rintro c (ae|ae);exact a5 c ae;exact b3 c ae
         .rintro u c (ae|ae);exact iM u c ae;exact lM u c ae
         .rintro c (ae|ae);exact lJ c ae;exact cA c ae
        .exact grow (some ⟨b,0,none⟩) cap _ aB rfl (wU (pH bN _) (by rw[f2];exact aH.oH hd fV)) hd fV iU lK
      .cases he
     .cases he
    .cases he
   .cases he
  .cases he
 .cases he
end
section
variable {C:bl} {w0 w an:World} {F0 X F:Nat->Prop} {S:Nat->Nat->Prop} {s s1:aj} {ao:Nat->Value} {av:I}
theorem aZ.Hp (h:aZ w0 F0 X F S s ao w) {x:Nat} {q:RG} {d aV:I} {b:Nat} (ad:I.sub q (s x)=some d) (af:d.plain=false) (wY:aV.tree=true) (U:∀v,eS d v->eS aV v) (R:∀v,b7 d v->b7 aV v)
  (ab:∀vs,aV≠.tuple vs) (g_:aV.wd=d.wd) (J:∀bF a df,b6 w q (s x) (bn (ao x)) none=some (d,bF,a)->ah w F d bF df->df b/\ah an F aV bF df) (j9:∀c,c≠b->an.heap[c]? =w.heap[c]?) (dm:an.heap.size=w.heap.size) (wy:an.os=w.os)
  (wz:an.tape=w.tape) (ou:Out an w):∃aB,aZ w0 F0 X F aB (cd (fa x s) x (I.put q aV (s x))) ao an:=by
 have aI:=eX ad (.inl af);have ak:=h.b9 x;rw[ar.bx aI]at ak;obtain⟨bF,a,cr,df,g0,g1,g2,g3,g4,g5⟩:=ctx q (s x) (bn (ao x)) (S x) none d ak.2 ad;obtain⟨ov,az⟩:=J bF a df g0 g4;have jN:S x b:=g2 b ov;have lD:∀c,F c->an.heap[c]? =w.heap[c]? :=λc ae=>j9 c (by rintro rfl;exact h.dN x _ jN ae);have pK:∀c,cr c->c≠b:=λc ae e=>g3 c ae (e▸ov);have gN:ah an F (I.put q aV (s x)) (bn (ao x)) (λc=>cr c\/df c):=by
  rcases g5 with⟨l,r,aD,aG,aJ⟩|⟨eE,cur,e,fr,l,r,aD,aG,aJ,bp,bJ,bk⟩
  .rw[aD];exact aJ an aV bF df lD (λc ae=>j9 c (pK c ae)) g_ az (λc ae lC=>g3 c lC ae)
  .refine bk an aV bF df lD (λc ae _=>j9 c (pK c ae)) ?_ g_ az (λc ae lC=>g3 c lC ae);rw[j9 eE (pK eE aG),aJ,<-bJ]
 have rf:b7 (I.put q aV (s x)) (ao x)/\(I.put q aV (s x)).tree=true:=by
  cases q with
  |nil=>
   simp only[I.sub,some.injEq]at ad;simp only[I.put];exact⟨R _ (ad▸ak.1),wY⟩
  |cons k q=>
   refine⟨re ak.1 ad U (λ_=>ab) g_,?_⟩;rcases nw k q aV (s x)with⟨al,gs,aD,e⟩|⟨al,gs,aD,e⟩|⟨sz,xs,bM,aD,e⟩|⟨y,z,aD,e⟩|e<;>rw[e]<;>first|rfl|exact aI
 let aq:=cd (fa x s) x (I.put q aV (s x))
 have eJ:∀y,y≠x->(aq y).tree=true->aq y=s y/\ao y=ao y:=λy hy aI=>by
  have e:aq y=ca.bm x (s y):=gy _ _ hy;rw[e]at aI⊢;exact⟨(tv aI).2,rfl⟩
 have dh:(aq x).plain=false->(s x).plain=false/\∀v,b7 (s x) v->b7 (aq x) v:=by
  intro _;refine⟨?_,λv az=>?_⟩
  .cases d_:(s x).plain with
   |false=>rfl
   |true=>rw[I.wj _ _ _ d_ ad]at af;cases af
  .simp only[aq,jH];cases q with
   |nil=>
    simp only[I.sub,some.injEq]at ad;simp only[I.put];exact R _ (ad▸az)
   |cons k q=>exact re az ad U (λ_=>ab) g_
 have both:∀c,(cr c\/df c)->S x c:=λc ae=>ae.elim (g1 c) (g2 c);refine⟨ew S x (λc=>cr c\/df c),?_⟩;constructor;case eK=>exact h.eK
 case eY=>exact h.eY
 case dk=>exact λb J=>by rw[dm];exact h.dk b J
 case c1=>
  intro u c J;rw[dm];simp only[ew]at J;split at J
  .exact h.c1 x c (both c J)
  .exact h.c1 u c J
 case dN=>
  intro u c J;simp only[ew]at J;split at J
  .exact h.dN x c (both c J)
  .exact h.dN u c J
 case du=>
  intro u y c bT J hy;simp only[ew]at J hy;split at J
  .rename_i hu;rw[if_neg (λe=>bT (hu.trans e.symm))]at hy;exact h.du x y c (λe=>bT (hu.trans e)) (both c J) hy
  .rename_i hu;split at hy
   .exact h.du u x c hu J (both c hy)
   .exact h.du u y c bT J hy
 case ck=>
  intro u c J;simp only[ew]at J;split at J
  .exact h.ck x c (both c J)
  .exact h.ck u c J
 case b9=>
  intro u;by_cases hu:u=x
  .subst hu;rw[jH,ra];exact(ar.bx rf.2).2 ⟨rf.1,gN⟩
  .rw[gy _ _ hu,rb _ _ hu];have bT:∀y c,y≠x->S y c->an.heap[c]? =w.heap[c]? :=λy c hy ae=>j9 c (by rintro rfl;exact h.du y x c hy ae jN);refine(ar.bm eJ rfl dh (λy dx d2 hy eT rh=>?_) lD _).1 _ _ _ (Nat.le_refl _) (λc ae=>bT u c hu ae) (h.b9 u);have ri:=h.b9 y;rw[ar.bx (eX eT rh)]at ri;exact tu dx _ _ _ none d2 ri.2 eT (λc ae=>bT y c hy ae)
 case old=>
  intro c cq gQ;rw[j9 c ?_]
  .exact h.old c cq gQ
  .rintro rfl;rcases h.ck x c jN with bj|bj
   .exact gQ bj
   .omega
 case size=>rw[dm];exact h.size
 case os=>exact wy.trans h.os
 case tape=>exact wz.trans h.tape
 case output=>exact ou.trans h.output
 case ef=>exact h.ef
def AV (P:Program) (t:TypeId):Bool:=match P.info? t with
 |some i=>match i.zero with
  |some (.bool false)=>true
  |_=>false
 |none=>false
def tT (C:bl) (T:TypeId):Bool:=match(C.T T).k with
 | .map k3 nD=>match(C.T k3).k with
   | .str=>AV C.P nD
   |_=>false
 |_=>false
def ki (C:bl) (s:aj) (T:TypeId) (x i:I):Option I:=match x,i with
 | .h y q,.str k=>match I.sub q (s y)with
   |some (.cf (.mp m))=>if tT C T=true then some (.bool (ns k m))else none
   |_=>none
 |_,_=>none
def jj (C:bl) (s:aj) (T:TypeId) (x i v:I):Option aj:=match x,i,v with
 | .h y q,.str k,.bool b=>match I.sub q (s y)with
   |some (.cf (.mp m))=>if tT C T=true then some (cd (fa y s) y (I.put q (.cf (.mp (lB k b m))) (s y)))else none
   |_=>none
 |_,_,_=>none
theorem AW (aS:C.cS) {T:TypeId} (h:tT C T=true):∃k3 nD,C.P.underlying T=some (.map k3 nD)/\C.P.underlying k3=some .string/\∀w,(zeroValue nD).run C.P w= .ok (.bool false) w:=by
 unfold tT at h;split at h
 .rename_i k3 nD ag;split at h
  .rename_i U;obtain⟨i,d,z,aD,aG,aJ,bp,bJ,bk,a7⟩:=aS.info (dV ag (by simp));obtain⟨mv,aV,iu,f1,f2,f3,f4,f5,f6,f7⟩:=aS.info (dV U (by simp));rw[ag]at a7;rw[U]at f7;have:=lF f7;subst this;refine⟨k3,nD,?_,f6,λw=>?_⟩
   .rw[bk];cases d<;>simp[hW]at a7;rw[a7.1,a7.2]
   .unfold AV at h;split at h
    .rename_i i2 g1;split at h
     .rename_i g2;exact pL g1 g2 w
     .cases h
    .cases h
  .cases h
 .cases h
theorem wZ (a b:ByteArray):(a==b)=true↔a=b:=by
 constructor
 .intro h;exact ByteArray.ext (eq_of_beq (show(a.data==b.data)=true from h))
 .rintro rfl;show(a.data==a.data)=true;simp
theorem w1 (k:RD) (b:Bool):∀(es:List MapEntry) (m:RB) (i:Nat),es.map (λe=>(e.key,e.val))=m.map (λe=>(.string ⟨⟨e.1⟩⟩,.bool e.2))->
  (Instr.findNow .string (.string ⟨⟨k⟩⟩) es i=some none/\ns k m=false/\lB k b m=m++[(k,b)])\/
  ∃j e,es[j]? =some e/\e.key= .string ⟨⟨k⟩⟩/\Instr.findNow .string (.string ⟨⟨k⟩⟩) es i=some (some (i+j,.bool (ns k m)))/\lB k b m=m.set j (k,b)
 |[],m,i,h=>by
  have:m=[]:=by simpa using h.symm
  subst this;exact .inl ⟨rfl,rfl,rfl⟩
 |e::es,[],i,h=>by simp at h
 |e::es,(b5,dw)::m,i,h=>by
  simp only[map_cons,cons.injEq,Prod.mk.injEq]at h;obtain⟨⟨U,ab⟩,ay⟩:=h;by_cases ag:b5=k
  .subst ag;refine .inr ⟨0,e,rfl,U,?_,by simp[lB]⟩;have:(((⟨⟨b5⟩⟩:ByteArray)==⟨⟨b5⟩⟩))=true:=(wZ _ _).2 rfl;simp only[Instr.findNow,U,ab,Instr.sameNow,ns,this,if_true,Nat.add_zero]
  .have aT:((⟨⟨k⟩⟩:ByteArray)==⟨⟨b5⟩⟩)=false:=by
    refine Bool.eq_false_iff.2 λe=>ag ?_;have:=(wZ _ _).1 e;simp only[ByteArray.mk.injEq,Array.mk.injEq]at this;exact this.symm
   rcases w1 k b es m (i+1) ay with⟨g1,g2,g3⟩|⟨j,ej,g1,g2,g3,g4⟩
   .refine .inl ⟨?_,?_,?_⟩
    .simp only[Instr.findNow,U,Instr.sameNow,aT];exact g1
    .simp[ns,ag,g2]
    .simp[lB,ag,g3]
   .refine .inr ⟨j+1,ej,g1,g2,?_,?_⟩
    .simp only[Instr.findNow,U,Instr.sameNow,aT];rw[g3];simp[ns,ag,Nat.add_assoc,Nat.add_comm 1 j]
    .simp[lB,ag,g4]
theorem tU {P:Program} {k3:TypeId} (ag:P.underlying k3=some .string) (e:Bool) (k:ByteArray) (w:World):(Instr.checkKey e 10000 k3 (.string k)).run P w= .ok () w:=by
 unfold Instr.checkKey;simp[run_underlying ag]
theorem AX (h:aZ w0 F0 X F S s ao w) {y:Nat} {q:RG} {m:RB} {v:Value} (az:ar w F s ao (.h y q) v (λ_=>False)) (ad:I.sub q (s y)=some (.cf (.mp m))):
  ∃r ms je,v= .map (some r)/\w.heap[r]? =some (.map ms je)/\ms.toList.map (λe=>(e.key,e.val))=m.map (λe=>(.string ⟨⟨e.1⟩⟩,.bool e.2))/\
   ∃a,b6 w q (s y) (bn (ao y)) none=some (.cf (.mp m),[.map (some r)],a):=by
 rw[ar]at az;obtain⟨bF,a,g1,g2,g3⟩:=az _ ad rfl;have U:Value.eh v=true:=g3;rw[eb U]at g2;have ak:=h.b9 y;rw[ar.bx (eX ad (.inl rfl))]at ak;obtain⟨dG,bI,cr,df,k0,bA,bN,bO,bL,cz⟩:=ctx q (s y) (bn (ao y)) (S y) none _ ak.2 ad;rw[k0]at g1;simp only[some.injEq,Prod.mk.injEq,true_and]at g1;obtain⟨rfl,rfl⟩:=g1;rw[ah]at bL;obtain⟨r,ms,je,aD,aG,aJ,bp⟩:=bL;rw[aD]at g2 k0;exact⟨r,ms,je,by simpa using g2,aJ,bp,bI,k0⟩
theorem Hq (aS:C.cS) (h:aZ w0 F0 X F S s ao w) {T:TypeId} {x i:I} {fq ka:Value} (ak:ar w F s ao x fq (λ_=>False)) (aC:ar w F s ao i ka (λ_=>False)) (he:ki C s T x i=some av):
  Good C w0 F0 X ao w (Instr.lookup T fq ka false) av s:=by
 unfold ki at he;split at he
 .rename_i y q k;split at he
  .rename_i m ad;split at he
   .rename_i gP;simp only[some.injEq]at he;subst he;obtain⟨k3,nD,t1,t2,t3⟩:=AW aS gP;obtain⟨r,ms,je,rfl,aG,aJ,_⟩:=AX h ak ad;have:=iv aC;subst this;refine Good.same h (v:=.bool (ns k m)) ?_ rfl (of_bool _);rcases w1 k true ms.toList m 0 aJ with⟨g1,g2,_⟩|⟨j,e,_,_,g1,_⟩
    .simp[Instr.lookup,run_underlying t1,getObj,Sem.run,aG,tU t2,Instr.findKey,run_underlying t2,g1,t3,g2]
    .simp[Instr.lookup,run_underlying t1,getObj,Sem.run,aG,tU t2,Instr.findKey,run_underlying t2,g1]
   .cases he
  .cases he
 .cases he
theorem Hr (aS:C.cS) (h:aZ w0 F0 X F S s ao w) {T:TypeId} {x i v:I} {fq ka AY:Value} (ak:ar w F s ao x fq (λ_=>False)) (aC:ar w F s ao i ka (λ_=>False)) (az:ar w F s ao v AY (λ_=>False)) {s2:aj}
  (he:jj C s T x i v=some s2):∃an aB,(Instr.mapUpdate T fq ka AY).run C.P w= .ok () an/\aZ w0 F0 X F aB s2 ao an:=by
 unfold jj at he;split at he
 .rename_i y q k b;split at he
  .rename_i m ad;split at he
   .rename_i gP;simp only[some.injEq]at he;subst he;obtain⟨k3,nD,t1,t2,t3⟩:=AW aS gP;obtain⟨r,ms,je,rfl,aG,aJ,a0,ha⟩:=AX h ak ad;have:=iv aC;subst this;have:=ny az;subst this;have key:∀(tV:Array MapEntry) (w2:Nat),tV.toList.map (λe=>(e.key,e.val))=(lB k b m).map (λe=>(.string ⟨⟨e.1⟩⟩,.bool e.2))->
      ∃aB,aZ w0 F0 X F aB (cd (fa y s) y (I.put q (.cf (.mp (lB k b m))) (s y))) ao {w with heap:=w.heap.setIfInBounds r (.map tV w2)}:=by
     intro tV w2 hm;have ax:r<w.heap.size:=(Array.getElem?_eq_some_iff.1 aG).1;refine aZ.Hp (b:=r) h ad rfl rfl (λv az=>az) (λv az=>az) (λvs e=>by cases e) rfl ?_ (λc ae=>?_) (by simp) rfl rfl ⟨rfl,λ_=>Nat.le_refl _⟩
     .intro bF a df bq eC;rw[ha]at bq;simp only[some.injEq,Prod.mk.injEq,true_and]at bq;obtain⟨rfl,_⟩:=bq;rw[ah]at eC⊢;obtain⟨eM,nE,QQ,f1,f2,f3,f4⟩:=eC;simp only[cons.injEq,Value.map.injEq,some.injEq,and_true]at f1;subst f1;exact⟨f2,r,tV,w2,rfl,f2,by simp[ax],hm⟩
     .simp[Ne.symm ae]
    rcases w1 k b ms.toList m 0 aJ with⟨g1,_,g2⟩|⟨j,e,g0,ge,g1,g2⟩
    .obtain⟨aB,bA⟩:=key (ms.push {key:=.string ⟨⟨k⟩⟩,val:=.bool b,born:=je}) (je+1) (by rw[g2];simp[aJ]);exact⟨_,aB,by simp[Instr.mapUpdate,run_underlying t1,getObj,setObj,Sem.run,aG,tU t2,Instr.findKey,run_underlying t2,g1],bA⟩
    .rw[Nat.zero_add]at g1;obtain⟨aB,bA⟩:=key (ms.modify j λe=>{e with key:=.string ⟨⟨k⟩⟩,val:=.bool b}) je (by
      rw[g2,map_set,<-aJ];apply ext_getElem?;intro n;by_cases aT:n=j
      .subst aT;have:n<ms.toList.length:=(List.getElem?_eq_some_iff.1 g0).1;rw[getElem?_set_self (by simpa using this)];simp[g0]
      .simp[getElem?_set_ne (Ne.symm aT),Ne.symm aT])
     have Hs:ms[j]? =some e:=by simpa using g0
     exact⟨_,aB,by simp[Instr.mapUpdate,run_underlying t1,getObj,setObj,Sem.run,aG,tU t2,Instr.findKey,run_underlying t2,g1,Hs,ge,Instr.keyThatStays,Instr.sameBits,(wZ ⟨⟨k⟩⟩ ⟨⟨k⟩⟩).2 rfl],bA⟩
   .cases he
  .cases he
 .cases he
theorem Ht (h:aZ w0 F0 X F S s ao w) (t:TypeId):Good C w0 F0 X ao w (Instr.makeMap t none) (.cf (.mp [])) s:=by
 have hold:∀b,b<w.heap.size->(w.alloc (.map #[] 0)).heap[b]? =w.heap[b]? :=by
  intro b J;show(w.heap.push _)[b]? =_;rw[Array.getElem?_push,if_neg (by omega)]
 refine⟨.map (some w.heap.size),w.alloc (.map #[] 0),F,S,?_,h.grow hold (by simp) rfl rfl ⟨rfl,λ_=>Nat.le_refl _⟩,.inr ⟨rfl,rfl,λb=>b=w.heap.size,?_,?_,?_,?_,?_⟩⟩
 .simp[Instr.makeMap,newObj,Sem.run]
 .rw[ah];refine⟨w.heap.size,#[],0,rfl,rfl,?_,rfl⟩;show(w.heap.push _)[_]? =_;simp
 .rintro b rfl;simp
 .rintro b rfl my;exact Nat.lt_irrefl _ (h.dk _ my)
 .rintro u b rfl hu;exact Nat.lt_irrefl _ (h.c1 _ _ hu)
 .rintro b rfl;exact .inr h.size
end
end Go.ca
