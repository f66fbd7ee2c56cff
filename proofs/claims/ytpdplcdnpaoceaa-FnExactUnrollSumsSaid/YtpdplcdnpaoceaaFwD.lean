/- Part of a proof that a law returns true for every input. No condition. -/
import Derived.Test.YtpdplcdnpaoceaaFwC
import Derived.Test.YtpdplcdnpaoceaaFwA
import Derived.Laws.IdiomStrings
import Derived.Laws.Strings
import Derived.LaidEql
import Derived.WideLaws
import Derived.Laws.StructEq
namespace Go.cV
open List Option Nat Or
section
variable {C:bI} {w0 w:World} {F0 X F:Nat->Prop} {S:Nat->Nat->Prop} {s s1:af} {an:Nat->Value} {av:j}
theorem mm {k:IntKind} {n:Int} {v:Value} {aB:Nat->Prop} (h:az w F s an (.int k n) v aB):v= .int k n:=by
 have bl:=(az.b7 rfl).1 h;rw[aj,e5 bl.1]at bl;simpa using bl.2
theorem oX {b:Bool} {v:Value} {aB:Nat->Prop} (h:az w F s an (.bool b) v aB):v= .bool b:=by
 have bl:=(az.b7 rfl).1 h;rw[aj,e5 bl.1]at bl;simpa using bl.2
theorem lG {b:Vj} {v:Value} {aB:Nat->Prop} (h:az w F s an (.str b) v aB):v= .string ⟨⟨b⟩⟩:=by
 have bl:=(az.b7 rfl).1 h;rw[aj,e5 bl.1]at bl;simpa using bl.2
theorem CR {v:Value} {aB:Nat->Prop} (h:az w F s an .cW v aB):v= .pointer none:=by
 have bl:=(az.b7 rfl).1 h;rw[aj,e5 bl.1]at bl;simpa using bl.2
theorem nW {v:Value} {aB:Nat->Prop} (h:az w F s an .aK v aB):v= .slice none 0 0:=by
 have bl:=(az.b7 rfl).1 h;rw[aj,e5 bl.1]at bl;simpa using bl.2
theorem CS {v:Value} {aB:Nat->Prop} (h:az w F s an .dV v aB):∃b,v= .bool b:=by
 have bl:=(az.b7 rfl).1 h;rw[aj,e5 bl.1]at bl;simpa using bl.2
theorem of_int (k:IntKind) (n:Int):az w F s an (.int k n) (.int k n) (λ_=>False):=(az.b7 rfl).2 ⟨rfl,by rw[aj];rfl⟩
theorem of_bool (b:Bool):az w F s an (.bool b) (.bool b) (λ_=>False):=(az.b7 rfl).2 ⟨rfl,by rw[aj];rfl⟩
theorem mn (b:Vj):az w F s an (.str b) (.string ⟨⟨b⟩⟩) (λ_=>False):=(az.b7 rfl).2 ⟨rfl,by rw[aj];rfl⟩
theorem yB (b:Bool):az w F s an .dV (.bool b) (λ_=>False):=(az.b7 rfl).2 ⟨rfl,by rw[aj];exact⟨b,rfl⟩⟩
def hf (op:BinOp) (k:IntKind) (a:Int) (cN:IntKind) (b:Int):Option j:=
 match op with
 | .shl=>if b<0 then none else some (.int k (k.wrap (a*2^(min b.toNat k.bits))))
 | .shr=>if b<0 then none else some (.int k (a.fdiv (2^(min b.toNat k.bits))))
 | .add=>if k=cN then some (.int k (k.wrap (a+b)))else none
 | .sub=>if k=cN then some (.int k (k.wrap (a-b)))else none
 | .mul=>if k=cN then some (.int k (k.wrap (a*b)))else none
 | .quo=>if k=cN/\b≠0 then some (.int k (k.wrap (a.tdiv b)))else none
 | .rem=>if k=cN/\b≠0 then some (.int k (a.tmod b))else none
 | .eql=>if k=cN then some (.bool (a==b))else none
 | .neq=>if k=cN then some (.bool (a !=b))else none
 | .lss=>if k=cN then some (.bool (decide (a<b)))else none
 | .leq=>if k=cN then some (.bool (decide (a<=b)))else none
 | .gtr=>if k=cN then some (.bool (decide (b<a)))else none
 | .geq=>if k=cN then some (.bool (decide (b<=a)))else none
 | .and=>if k=cN then some (.int k (bitsOf .and k a b))else none
 | .or=>if k=cN then some (.int k (bitsOf .or k a b))else none
 | .xor=>if k=cN then some (.int k (bitsOf .xor k a b))else none
 | .andNot=>if k=cN then some (.int k (bitsOf .andNot k a b))else none
def kW (op:BinOp) (a b:Vj):Option j:=
 match op with
 | .add=>if a.length+b.length<=9223372036854775807 then some (.str (a++b))else none
 | .eql=>some (.bool (a==b))
 | .neq=>some (.bool !(a==b))
 | .lss=>some (.bool (Op.bytesLess a b))
 | .leq=>some (.bool (Op.bytesLess a b||a==b))
 | .gtr=>some (.bool !(Op.bytesLess a b||a==b))
 | .geq=>some (.bool !(Op.bytesLess a b))
 |_=>none
def h0 (s:af):j->Option Vn
 | .aK=>some (some true)
 | .slice xs=>some (if xs=[]then none else some false)
 | .h x q=>match j.sub q (s x)with
   |some (.aq _ xs)=>some (if xs=[]then none else some false)
   |_=>none
 |_=>none
def jl (s:af):j->Vn
 | .cW=>some true
 | .ref _=>some false
 | .h x q=>match j.sub q (s x)with
   |some (.aS _)=>some false
   |_=>none
 |_=>none
def mo (neg:Bool):Vn->j
 |some b=>.bool (b !=neg)
 |none=>.dV
def structEq (P:Program) (T:TypeId):Bool:= !P.stoodInHeld T&& !P.eqGuardType P.depth T&&(P.fieldsOf T).toList.all λf=>decide (f.name≠ "_")
def lH (C:bI):List (TypeId×Nat)->Nat->Vr->Vr->Vn
 |[],_,[],[]=>some true
 |(hZ,off)::al,n,d::ds,e::es=>if off=n then(match(C.T hZ).k,d,e with
  | .int k,.int bX a,.int b6 b=>if bX=k/\b6=k then(lH C al (n+1) ds es).map λr=>a==b&&r else none
  | .bool,.bool a,.bool b=>(lH C al (n+1) ds es).map λr=>a==b&&r
  | .str,.str a,.str b=>(lH C al (n+1) ds es).map λr=>a==b&&r
  |_,_,_=>none)else none
 |_,_,_,_=>none
def eb (C:bI) (s:af) (op:BinOp) (T:TypeId) (x y:j):Option j:=
 match x,y with
 | .int k a,.int cN b=>hf op k a cN b
 | .str a,.str b=>kW op a b
 | .bool a,.bool b=>match op,(C.T T).k with
   | .eql,.bool=>some (.bool (a==b))
   | .neq,.bool=>some (.bool !(a==b))
   |_,_=>none
 | .agg ds,.agg es=>match op,(C.T T).k with
   | .eql,.struct al=>if structEq C.P T=true then(lH C al 0 ds es).map λb=>.bool b else none
   | .neq,.struct al=>if structEq C.P T=true then(lH C al 0 ds es).map λb=>.bool !b else none
   |_,_=>none
 |x,.aK=>match op,(C.T T).k with
  | .eql,.slice _=>(h0 s x).map (mo false)
  | .neq,.slice _=>(h0 s x).map (mo true)
  |_,_=>none
 |x,.cW=>match op,(C.T T).k with
  | .eql,.ptr _=>(jl s x).map λb=>.bool b
  | .neq,.ptr _=>(jl s x).map λb=>.bool !b
  |_,_=>none
 |_,_=>none
theorem Jh {P:Program} {op:BinOp} {T:TypeId} {k cN:IntKind} {a b:Int} (he:hf op k a cN b=some av) (w:World):
  ∃v,(binOp op T (.int k a) (.int cN b)).run P w= .ok v w/\az w F s an av v (λ_=>False):=by
 unfold hf at he;cases op<;>simp only at he<;>split at he<;>first|(cases he;done)|skip
 all_goals
  rename_i ai;simp only[some.injEq]at he;subst he
 all_goals first
  |(subst ai;simp only[binOp_add,binOp_sub,binOp_mul,binOp_eql,binOp_neq,binOp_lss,binOp_leq,binOp_gtr,binOp_geq,binOp_and,binOp_or,binOp_xor,binOp_andNot,Op.intArith,Op.intBits,Sem.run_pure,Result.ok.injEq,and_true,exists_eq_left']
    first|exact of_int _ _|exact of_bool _)
  |(obtain⟨rfl,bt⟩:=ai
    simp only[binOp_quo,binOp_rem,Op.intDiv,bt,if_false,Sem.run_pure,Result.ok.injEq,and_true,exists_eq_left'];exact of_int _ _)
  |(simp only[binOp_shl,binOp_shr,Op.shift,ai,if_false,Sem.run_pure,Result.ok.injEq,and_true,exists_eq_left']
    exact of_int _ _)
theorem tj (a:Vj):(⟨⟨a⟩⟩:ByteArray).toList=a:=ByteArray.toList_eq _
theorem Ji (a b:Vj):(⟨⟨a⟩⟩:ByteArray)++(⟨⟨b⟩⟩:ByteArray)=⟨⟨a++b⟩⟩:=by
 apply ByteArray.ext;simp[ByteArray.data_append]
theorem Jj {P:Program} {op:BinOp} {T:TypeId} {a b:Vj} (he:kW op a b=some av) (w:World):
  ∃v,(binOp op T (.string ⟨⟨a⟩⟩) (.string ⟨⟨b⟩⟩)).run P w= .ok v w/\az w F s an av v (λ_=>False):=by
 have J:∀op,binOp op T (.string ⟨⟨a⟩⟩) (.string ⟨⟨b⟩⟩)=Op.stringOp op ⟨⟨a⟩⟩ ⟨⟨b⟩⟩:=by intro op;cases op<;>rfl
 rw[J];unfold kW at he;cases op<;>simp only[some.injEq]at he<;>first|(cases he;done)|skip
 case add=>
  split at he
  .rename_i hl;simp only[some.injEq]at he;subst he;have R:((ByteArray.size ⟨⟨a⟩⟩+ByteArray.size ⟨⟨b⟩⟩:Nat):Int)<=9223372036854775807:=by
    show((a.length+b.length:Nat):Int)<=_;omega
   refine⟨.string ⟨⟨a++b⟩⟩,?_,mn _⟩;simp only[Op.stringOp,IntKind.max_i64];rw[if_neg (by omega),Ji];rfl
  .cases he
 all_goals
  subst he;simp only[Op.stringOp,tj,Sem.run_pure,Result.ok.injEq,and_true,exists_eq_left'];exact of_bool _
theorem yC (h:bg w0 F0 X F S s an w) {v:Value} {y:Nat} {q:Vm} (aE:az w F s an (.h y q) v (λ_=>False)) {sz:Nat} {xs:Vr} (ad:j.sub q (s y)=some (.aq sz xs)):
  (xs=[]/\∃a,v= .slice a 0 0)\/∃b cap cur e fr,v= .slice (some ⟨b,0,none⟩) xs.length cap/\w.heap[b]? =some (.cells cur e fr)/\kn fr cur.size/\xs.length<=cap/\cap<=maxLen/\cur.size=cap*sz/\(∀d∈xs,d.wd=sz)/\
   ∃aB,aQ w F xs (cur.toList.take (xs.length*sz)) aB/\(∀c,aB c->S y c)/\S y b:=by
 rw[az]at aE;obtain⟨b_,a,aL,a0,bK⟩:=aE _ ad rfl;have R:Value.et v=true:=bK;rw[e5 R]at a0;subst a0;have ae:=h.cG y;rw[az.b7 (fZ ad (.inl rfl))]at ae;obtain⟨eJ,bZ,c1,dW,k0,bX,b6,cR,cI,d_⟩:=ctx q (s y) (bW (an y)) (S y) none _ ae.2 ad;rw[k0]at aL;simp only[some.injEq,Prod.mk.injEq,true_and]at aL;obtain⟨rfl,rfl⟩:=aL;rw[aj]at cI;rcases cI with⟨rfl,bw,aa⟩|⟨b,cap,cur,aR,fr,cx,aX,bT,cb,bH,bx,gR,iE,j2,tk,dT,dN⟩
 .simp at aa;exact .inl ⟨rfl,_,aa⟩
 .simp at aX;exact .inr ⟨b,cap,cur,aR,fr,aX,cb,bH.low,bx,gR,iE,j2,cx,tk,λc ai=>b6 _ (dT c ai),b6 _ bT⟩
theorem CT (h:bg w0 F0 X F S s an w) {v:Value} {y:Nat} {q:Vm} (aE:az w F s an (.h y q) v (λ_=>False)) {d:j} (ad:j.sub q (s y)=some (.aS d)):
  ∃b cur e fr,v= .pointer (some ⟨b,0,none⟩)/\w.heap[b]? =some (.cells cur e fr):=by
 rw[az]at aE;obtain⟨b_,a,aL,a0,bK⟩:=aE _ ad rfl;have R:Value.et v=true:=bK;rw[e5 R]at a0;subst a0;have ae:=h.cG y;rw[az.b7 (fZ ad (.inl rfl))]at ae;obtain⟨eJ,bZ,c1,dW,k0,bX,b6,cR,cI,d_⟩:=ctx q (s y) (bW (an y)) (S y) none _ ae.2 ad;rw[k0]at aL;simp only[some.injEq,Prod.mk.injEq,true_and]at aL;obtain⟨rfl,rfl⟩:=aL;rw[aj]at cI;obtain⟨b,cur,aR,fr,cx,aX,bT,cb,_⟩:=cI;simp at aX;exact⟨b,cur,aR,fr,aX,cb⟩
theorem CU {P:Program} {T e:TypeId} (aO:P.underlying T=some (.slice e)) (w:World):∀d,(Op.equalIn (d+1) T (.slice none 0 0) (.slice none 0 0)).run P w= .ok true w/\
  ∀a n c,(Op.equalIn (d+1) T (.slice (some a) n c) (.slice none 0 0)).run P w= .ok false w:=by
 intro d;refine⟨by simp[Op.equalIn,run_underlying aO],λa n c=>by simp[Op.equalIn,run_underlying aO]⟩
theorem CV {P:Program} {T e:TypeId} (aO:P.underlying T=some (.pointer e)) (w:World):∀d,(Op.equalIn (d+1) T (.pointer none) (.pointer none)).run P w= .ok true w/\
  ∀a,(Op.equalIn (d+1) T (.pointer (some a)) (.pointer none)).run P w= .ok false w:=by
 intro d;refine⟨by simp[Op.equalIn,run_underlying aO],λa=>by simp[Op.equalIn,run_underlying aO]⟩
theorem CW {P:Program} {T:TypeId} (aO:P.underlying T=some .bool) (w:World):∀d a b,(Op.equalIn (d+1) T (.bool a) (.bool b)).run P w= .ok (a==b) w:=by
 intro d a b;simp[Op.equalIn,run_underlying aO]
theorem CX (h:bg w0 F0 X F S s an w) {x:j} {v:Value} (aE:az w F s an x v (λ_=>False)) {T e:TypeId} {r:Vn} (aG:h0 s x=some r) (aO:C.P.underlying T=some (.slice e)):
  ∃b,(Op.equal T v (.slice none 0 0)).run C.P w= .ok b w/\(∀eE,r=some eE->eE=b)/\Value.et v=true/\∃a n c,v= .slice a n c:=by
 have aI:=λa n c=>(CU aO w 9999).2 a n c;have fs:=(CU aO w 9999).1;cases x with
 |aK=>
  have:=nW aE;subst this;simp[h0]at aG;subst aG;exact⟨true,fs,by simp,rfl,_,_,_,rfl⟩
 |slice xs=>
  have bl:=(az.b7 rfl).1 aE;rw[aj,e5 bl.1]at bl;simp only[h0,some.injEq]at aG;obtain⟨_,⟨rfl,a,c,aa,_,p_⟩|⟨b,o,cap,de,sz,aa,ax⟩⟩:=bl
  .simp at aa aG;subst aa;subst aG;cases a with
   |none=>
    have:=p_ rfl;subst this;exact⟨true,fs,by simp,rfl,_,_,_,rfl⟩
   |some a=>exact⟨false,aI _ _ _,by simp,rfl,_,_,_,rfl⟩
  .simp at aa;subst aa;refine⟨false,aI _ _ _,?_,rfl,_,_,_,rfl⟩;subst aG;split<;>simp
 |h y q=>
  simp only[h0]at aG;split at aG
  .rename_i sz xs ad;simp only[some.injEq]at aG;rcases yC h aE ad with⟨rfl,a,rfl⟩|⟨b,cap,cur,aR,fr,rfl,_⟩
   .simp at aG;subst aG;cases a with
    |none=>exact⟨true,fs,by simp,rfl,_,_,_,rfl⟩
    |some a=>exact⟨false,aI _ _ _,by simp,rfl,_,_,_,rfl⟩
   .refine⟨false,aI _ _ _,?_,rfl,_,_,_,rfl⟩;subst aG;split<;>simp
  .cases aG
 |_=>simp[h0]at aG
theorem CY (h:bg w0 F0 X F S s an w) {x:j} {v:Value} (aE:az w F s an x v (λ_=>False)) {T e:TypeId} {r:Bool} (aG:jl s x=some r) (aO:C.P.underlying T=some (.pointer e)):
  (Op.equal T v (.pointer none)).run C.P w= .ok r w/\∃a,v= .pointer a:=by
 have aI:=λa=>(CV aO w 9999).2 a;have fs:=(CV aO w 9999).1;cases x with
 |cW=>
  have:=CR aE;subst this;simp[jl]at aG;subst aG;exact⟨fs,_,rfl⟩
 |ref d=>
  have bl:=(az.b7 rfl).1 aE;rw[aj,e5 bl.1]at bl;simp[jl]at aG;subst aG;obtain⟨_,b,o,de,aa,_⟩:=bl;simp at aa;subst aa;exact⟨aI _,_,rfl⟩
 |h y q=>
  simp only[jl]at aG;split at aG
  .rename_i d ad;simp only[some.injEq]at aG;subst aG;obtain⟨b,cur,e,fr,rfl,_⟩:=CT h aE ad;exact⟨aI _,_,rfl⟩
  .cases aG
 |_=>simp[jl]at aG
theorem Jk (a4:C.dx):∀(al:List (TypeId×Nat)) (gs:List Field) (n:Nat) (ds es:Vr) (r:Bool) (eR l2 bu bN:Vp) (xs ys:Array Value) (bP cx:Nat->Prop),
  gs.map (λg=>(g.type,g.offset))=al->(gs.all λf=>decide (f.name≠ "_"))=true->lH C al n ds es=some r->aQ w F ds bu bP->aQ w F es bN cx->xs.toList=eR++bu->eR.length=n->ys.toList=l2++bN->l2.length=n->
  ∀m,(Op.eqFields (m+1) xs ys gs).run C.P w= .ok r w:=by
 intro al;induction al with
 |nil=>
  intro gs n ds es r eR l2 bu bN xs ys bP cx bm a2 he U aa ae hl a_ yD m;have:gs=[]:=by simpa using bm
  subst this;cases ds<;>cases es<;>simp[lH]at he;subst he;simp[Op.eqFields]
 |cons p al ih=>
  obtain⟨hZ,off⟩:=p;intro gs n ds es r eR l2 bu bN xs ys bP cx bm a2 he U aa ae hl a_ yD m;cases gs with
  |nil=>simp at bm
  |cons g gs=>
   simp only[map_cons,cons.injEq,Prod.mk.injEq]at bm;obtain⟨⟨rfl,rfl⟩,bm⟩:=bm;simp only[all_cons,Bool.and_eq_true,decide_eq_true_eq]at a2;cases ds with
   |nil=>simp[lH]at he
   |cons d ds=>
   cases es with
   |nil=>simp[lH]at he
   |cons e es=>
   simp only[lH]at he;split at he
   .rename_i nc;rw[aQ]at U aa;obtain⟨ar,bw,vI,Jl,rfl,eO,el,fP,qa,dG⟩:=U;obtain⟨iF,gl,T1,Jm,rfl,eS,dY,gS,fQ,nf⟩:=aa;have step:∀(x y:Value) (z:Bool),(C.T g.type).flat=true->ar=[x]->iF=[y]->(∀m,(Op.equalIn (m+1) g.type x y).run C.P w= .ok z w)->∀gF,lH C al (n+1) ds es=some gF->
      (Op.eqFields (m+1) xs ys (g::gs)).run C.P w= .ok (z&&gF) w:=by
     intro x y z hr Jn yE heq gF c9;subst Jn;subst yE;have Jo:xs[g.offset]? =some x:=by
      rw[<-Array.getElem?_toList,ae,nc,<-hl,getElem?_append_right (Nat.le_refl _)];simp
     have Jp:ys[g.offset]? =some y:=by
      rw[<-Array.getElem?_toList,a_,nc,<-yD,getElem?_append_right (Nat.le_refl _)];simp
     have ay:=ih gs (n+1) ds es gF (eR++[x]) (l2++[y]) bw gl xs ys Jl Jm bm a2.2 c9 el dY (by rw[ae];simp) (by simp[hl]) (by rw[a_];simp) (by simp[yD]) m;unfold Op.eqFields;rw[if_pos a2.1];simp only[part,Sem.run_bind,yy a4 hr,Result.andThen_ok,Bool.false_eq_true,if_false,Jo,Jp,Sem.run_pure,heq];cases z
     .simp
     .simpa using ay
    split at he
    .rename_i k bX a b6 b ak;split at he
     .rename_i Jq;obtain⟨rfl,rfl⟩:=Jq;rw[aj]at eO eS;simp only[map_eq_some_iff]at he;obtain⟨gF,c9,rfl⟩:=he;obtain⟨i,tl,CZ,aI,aR,aX,bT,cb,bH,bx⟩:=a4.info (eQ ak (by simp));rw[ak]at bx;have qb:=tf bx;subst qb;exact step _ _ _ (by simp[e4.flat,ak]) eO eS (λm=>run_equalIn_int w m g.type _ _ a b bH) gF c9
     .cases he
    .rename_i a b ak;rw[aj]at eO eS;simp only[map_eq_some_iff]at he;obtain⟨gF,c9,rfl⟩:=he;obtain⟨i,tl,CZ,aI,aR,aX,bT,cb,bH,bx⟩:=a4.info (eQ ak (by simp));rw[ak]at bx;have qb:=yt bx;subst qb;exact step _ _ _ (by simp[e4.flat,ak]) eO eS (λm=>run_equalIn_bool' w m g.type a b bH) gF c9
    .rename_i a b ak;rw[aj]at eO eS;simp only[map_eq_some_iff]at he;obtain⟨gF,c9,rfl⟩:=he;obtain⟨i,tl,CZ,aI,aR,aX,bT,cb,bH,bx⟩:=a4.info (eQ ak (by simp));rw[ak]at bx;have qb:=nb bx;subst qb;refine step _ _ (a==b) (by simp[e4.flat,ak]) eO eS (λm=>?_) gF c9;rw[run_equalIn_string w m g.type _ _ bH,tj,tj]
    .cases he
   .cases he
theorem C0 (a4:C.dx) {T:TypeId} {al:List (TypeId×Nat)} (ak:(C.T T).k= .struct al) {ds es:Vr} {dg g8:Value} {bP cx:Nat->Prop} {r:Bool} (ae:az w F s an (.agg ds) dg bP) (a_:az w F s an (.agg es) g8 cx)
  (b2:structEq C.P T=true) (he:lH C al 0 ds es=some r) (op:BinOp) (tm tn:Operand):
  (eqGuard op T tm tn dg g8).run C.P w= .ok () w/\(Op.equal T dg g8).run C.P w= .ok r w:=by
 obtain⟨i,d,z,aI,aR,aX,bT,cb,bH,bx⟩:=a4.info (eQ ak (by simp));rw[ak]at bx;obtain⟨gs,rfl,gR⟩:=te bx;have qc:C.P.fieldsOf T=gs:=by simp[Program.fieldsOf,bH]
 simp only[structEq,Bool.and_eq_true,Bool.not_eq_true',qc]at b2;obtain⟨⟨eS,dY⟩,gS⟩:=b2;obtain⟨⟨xs,rfl⟩,oY⟩:=(az.b7 rfl).1 ae;obtain⟨⟨ys,rfl⟩,p4⟩:=(az.b7 rfl).1 a_;rw[aj]at oY p4;constructor
 .cases op<;>simp[eqGuard,dY]
 .show(Op.equalIn (9999+1) T _ _).run C.P w=_;rw[run_equalIn_struct w 9999 T xs ys (by rw[qc];exact bH) eS,qc];exact Jk a4 al gs.toList 0 ds es r [] [] _ _ xs ys bP cx gR gS he oY p4 rfl rfl rfl rfl 9998
theorem Jr (a4:C.dx) (h:bg w0 F0 X F S s an w) {op:BinOp} {T:TypeId} {x y:j} {dg g8:Value} (tm tn:Operand) (ae:az w F s an x dg (λ_=>False)) (a_:az w F s an y g8 (λ_=>False))
  (he:eb C s op T x y=some av):Good C w0 F0 X an w (do eqGuard op T tm tn dg g8;binOp op T dg g8) av s:=by
 unfold eb at he;split at he
 .have:=mm ae;subst this;have:=mm a_;subst this;obtain⟨v,U,aa⟩:=Jh (P:=C.P) (T:=T) he w;refine Good.same h (v:=v) ?_ ?_ aa
  .rw[eqGuard_at_int];exact U
  .revert he;unfold hf;cases op<;>simp only<;>split<;>simp<;>(rintro rfl;rfl)
 .have:=lG ae;subst this;have:=lG a_;subst this;obtain⟨v,U,aa⟩:=Jj (P:=C.P) (T:=T) he w;refine Good.same h (v:=v) ?_ ?_ aa
  .rw[eqGuard_at_string];exact U
  .revert he;unfold kW;cases op<;>simp only<;>(try split)<;>simp<;>(try (rintro rfl;rfl))
 .have:=oX ae;subst this;have:=oX a_;subst this;split at he
  .rename_i ak;simp only[some.injEq]at he;subst he;obtain⟨i,d,z,aI,aR,aX,bT,cb,bH,bx⟩:=a4.info (eQ ak (by simp));rw[ak]at bx;have:=yt bx;subst this;refine Good.same h ?_ rfl (of_bool _);rw[eqGuard_at_bool];simp[binOp,Op.equal,Op.maxDepth,CW bH w 9999]
  .rename_i ak;simp only[some.injEq]at he;subst he;obtain⟨i,d,z,aI,aR,aX,bT,cb,bH,bx⟩:=a4.info (eQ ak (by simp));rw[ak]at bx;have:=yt bx;subst this;refine Good.same h ?_ rfl (of_bool _);rw[eqGuard_at_bool];simp[binOp,Op.equal,Op.maxDepth,CW bH w 9999]
  .cases he
 .split at he
  .rename_i al ak;split at he
   .rename_i b2;simp only[map_eq_some_iff]at he;obtain⟨r,aG,rfl⟩:=he;obtain⟨aL,a0⟩:=C0 a4 ak ae a_ b2 aG .eql tm tn;obtain⟨⟨xs,rfl⟩,_⟩:=(az.b7 rfl).1 ae;obtain⟨⟨ys,rfl⟩,_⟩:=(az.b7 rfl).1 a_;exact Good.same h (by simp[aL,binOp,a0]) rfl (of_bool _)
   .cases he
  .rename_i al ak;split at he
   .rename_i b2;simp only[map_eq_some_iff]at he;obtain⟨r,aG,rfl⟩:=he;obtain⟨aL,a0⟩:=C0 a4 ak ae a_ b2 aG .neq tm tn;obtain⟨⟨xs,rfl⟩,_⟩:=(az.b7 rfl).1 ae;obtain⟨⟨ys,rfl⟩,_⟩:=(az.b7 rfl).1 a_;exact Good.same h (by simp[aL,binOp,a0]) rfl (of_bool _)
   .cases he
  .cases he
 .have:=nW a_;subst this;split at he
  .rename_i e ak;simp only[map_eq_some_iff]at he;obtain⟨r,aG,rfl⟩:=he;obtain⟨i,d,z,aI,aR,aX,bT,cb,bH,bx⟩:=a4.info (eQ ak (by simp));rw[ak]at bx;have:=jk bx;subst this;obtain⟨b,U,aa,ax,I,ck,mf,rfl⟩:=CX h ae aG bH;refine Good.same h (v:=.bool b) ?_ ?_ ?_
   .rw[eqGuard_at_slice];simp[binOp,U]
   .cases r<;>rfl
   .cases r with
    |none=>exact yB b
    |some eE=>have:=aa eE rfl;subst this;simp only[mo,Bool.bne_false];exact of_bool _
  .rename_i e ak;simp only[map_eq_some_iff]at he;obtain⟨r,aG,rfl⟩:=he;obtain⟨i,d,z,aI,aR,aX,bT,cb,bH,bx⟩:=a4.info (eQ ak (by simp));rw[ak]at bx;have:=jk bx;subst this;obtain⟨b,U,aa,ax,I,ck,mf,rfl⟩:=CX h ae aG bH;refine Good.same h (v:=.bool !b) ?_ ?_ ?_
   .rw[eqGuard_at_slice];simp[binOp,U]
   .cases r<;>rfl
   .cases r with
    |none=>exact yB _
    |some eE=>have:=aa eE rfl;subst this;simp only[mo,Bool.bne_true];exact of_bool _
  .cases he
 .have:=CR a_;subst this;split at he
  .rename_i e ak;simp only[map_eq_some_iff]at he;obtain⟨r,aG,rfl⟩:=he;obtain⟨i,d,z,aI,aR,aX,bT,cb,bH,bx⟩:=a4.info (eQ ak (by simp));rw[ak]at bx;have:=CI bx;subst this;obtain⟨U,I,rfl⟩:=CY h ae aG bH;refine Good.same h (v:=.bool r) ?_ rfl (of_bool _);rw[eqGuard_at_pointer];simp[binOp,U]
  .rename_i e ak;simp only[map_eq_some_iff]at he;obtain⟨r,aG,rfl⟩:=he;obtain⟨i,d,z,aI,aR,aX,bT,cb,bH,bx⟩:=a4.info (eQ ak (by simp));rw[ak]at bx;have:=CI bx;subst this;obtain⟨U,I,rfl⟩:=CY h ae aG bH;refine Good.same h (v:=.bool !r) ?_ rfl (of_bool _);rw[eqGuard_at_pointer];simp[binOp,U]
  .cases he
 .cases he
end
section
variable {C:bI} {w0 w:World} {F0 X F:Nat->Prop} {S:Nat->Nat->Prop} {s s1:af} {an:Nat->Value} {av:j}
def un (op:UnOp) (x:j):Option j:=
 match op,x with
 | .not,.bool b=>some (.bool !b)
 | .not,.dV=>some .dV
 | .neg,.int k n=>some (.int k (k.wrap (0-n)))
 |_,_=>none
theorem Js (h:bg w0 F0 X F S s an w) {op:UnOp} {x:j} {v:Value} (aE:az w F s an x v (λ_=>False)) (he:un op x=some av):Good C w0 F0 X an w (Op.unary op v) av s:=by
 unfold un at he;split at he<;>first|(cases he;done)|(simp only[some.injEq]at he;subst he)
 .have:=oX aE;subst this;exact Good.same h rfl rfl (of_bool _)
 .obtain⟨b,rfl⟩:=CS aE;exact Good.same h rfl rfl (yB _)
 .have:=mm aE;subst this;exact Good.same h rfl rfl (of_int _ _)
def ht (s:af) (x:j):Option j:=
 match x with
 | .ref d=>some (.ref d)
 | .fn f c=>some (.fn f c)
 | .h y q=>match j.sub q (s y)with
   |some (.aS _)=>some (.h y q)
   |_=>none
 |_=>none
theorem Jt {d:j} {v:Value} {aB:Nat->Prop} (h:az w F s an (.ref d) v aB):∃b o de,v= .pointer (some ⟨b,o,none⟩)/\F b/\gh w b o de/\aj w F d de (λ_=>False):=by
 have bl:=(az.b7 rfl).1 h;rw[aj,e5 bl.1]at bl;obtain⟨_,b,o,de,U,aa,ax,aP⟩:=bl;simp at U;subst U;exact⟨b,o,de,rfl,aa,ax,aP⟩
theorem Ju (h:bg w0 F0 X F S s an w) {x:j} {v:Value} (aE:az w F s an x v (λ_=>False)) (he:ht s x=some av):
  av=x/\x.plain=true/\((∃a,v= .pointer (some a))\/∃f c,v= .func (.func f) #[] c):=by
 unfold ht at he;split at he
 .simp only[some.injEq]at he;subst he;obtain⟨b,o,de,rfl,_⟩:=Jt aE;exact⟨rfl,rfl,.inl ⟨_,rfl⟩⟩
 .simp only[some.injEq]at he;subst he;rw[az]at aE;obtain⟨arr,rfl,_⟩:=aE;exact⟨rfl,rfl,.inr ⟨_,_,rfl⟩⟩
 .split at he
  .rename_i d ad;simp only[some.injEq]at he;subst he;obtain⟨b,cur,e,fr,rfl,_⟩:=CT h aE ad;exact⟨rfl,rfl,.inl ⟨_,rfl⟩⟩
  .cases he
 .cases he
def ex (s:af) (x:j) (k:Nat):Option j:=
 match x with
 | .tuple ds=>match ds[k]? with
   |some d=>if d.plain=true then some d else none
   |none=>none
 | .h y q=>match j.sub q (s y)with
   |some (.tuple ds)=>match ds[k]? with
    |some d=>if j.db ds=true then none else some (if d.plain then d else .h y (q++[k]))
    |none=>none
   |_=>none
 |_=>none
theorem C1:∀(vs:Vp) (k:Nat) (x:Value) (ds:Vr),vs[k]? =some x->vs.length=ds.length->(∀(aD:Nat) (d:j) (y:Value),ds[aD]? =some d->vs[aD]? =some y->(gy y).length=d.wd)->
  ∃l r,vs.flatMap gy=l++(gy x++r)/\l.length=j.c0 (ds.take k)
 |[],k,x,ds,h,_,_=>by simp at h
 |v::vs,0,x,ds,h,hl,hw=>by
  simp at h;subst h;exact⟨[],vs.flatMap gy,by simp,by simp[j.c0]⟩
 |v::vs,k+1,x,d::ds,h,hl,hw=>by
  obtain⟨l,r,aI,aR⟩:=C1 vs k x ds (by simpa using h) (by simpa using hl) (λaD d y U aa=>hw (aD+1) d y (by simpa using U) (by simpa using aa));refine⟨gy v++l,r,by simp[aI],?_⟩;have:=hw 0 d v (by simp) (by simp);simp[j.c0,aR,this]
 |v::vs,k+1,x,[],h,hl,hw=>by simp at hl
theorem Jv {d:j} {v:Value} (h:gP d v) (_hd:∀vs,d≠.tuple vs):bW v=gy v:=by
 cases d with
 |agg al=>obtain⟨arr,rfl⟩:=h;rfl
 |_=>
  have U:Value.et v=true:=h;cases v<;>first|rfl|(simp[Value.et]at U)
theorem Jw {d:j} {v:Value} (h:gP d v) (ad:∀vs,d≠.tuple vs):cM d v:=by
 cases d with
 |tuple vs=>exact(ad _ rfl).elim
 |_=>exact h
theorem Jx (h:bg w0 F0 X F S s an w) {x:j} {v:Value} {k:Nat} (aE:az w F s an x v (λ_=>False)) (he:ex s x k=some av):Good C w0 F0 X an w (Instr.extract v k) av s:=by
 have pick:∀(ds:Vr) (d:j) (arr:Array Value),ds[k]? =some d->(arr.size=ds.length/\∀(k:Nat) (d:j) (x:Value),ds[k]? =some d->arr[k]? =some x->gP d x/\(∀vs,d≠.tuple vs)/\(gy x).length=d.wd)->
   ∃x,arr[k]? =some x/\cM d x/\((bW (.tuple arr)).drop (j.c0 (ds.take k))).take d.wd=bW x:=by
  intro ds d arr ad ⟨bC,lz⟩;have da:k<arr.size:=by rw[bC];exact(List.getElem?_eq_some_iff.1 ad).1
  have ae:arr[k]? =some arr[k]:=Array.getElem?_eq_getElem da;obtain⟨aL,a0,bK⟩:=lz k d _ ad ae;obtain⟨l,r,aI,aR⟩:=C1 arr.toList k arr[k] ds (by simp[da]) (by simpa using bC) (λaD d y U aa=>(lz aD d y U (by simpa using aa)).2.2);refine⟨_,ae,Jw aL a0,?_⟩;rw[Jv aL a0];simp only[bW];rw[aI];exact pY l _ r _ _ aR bK
 unfold ex at he;split at he
 .rename_i ds;split at he
  .rename_i d ad;split at he
   .rename_i ag;simp only[some.injEq]at he;subst he;have bl:=(az.b7 rfl).1 aE;obtain⟨⟨arr,rfl,bC⟩,eX⟩:=bl;obtain⟨x,ae,R,ai⟩:=pick ds d arr ad bC;have aG:(Instr.extract (.tuple arr) k).run C.P w= .ok x w:=by simp[Instr.extract,ae]
    rw[aj]at eX;obtain⟨bu,eN,bN,bP,gj,e,fY,eO,el,fP,dG,jX⟩:=aQ.pick ds _ _ k d eX ad;rw[e,pY bu eN bN _ _ fY (aj.length _ _ _ dG)]at ai;by_cases aO:d.tree=true
    .exact Good.same h aG ag ((az.b7 aO).2 ⟨R,by rw[<-ai];exact aj.plain _ _ _ _ ag dG⟩)
    .cases d<;>first|exact(aO rfl).elim|(rw[aj]at dG;exact dG.elim)|exact Good.same h aG rfl (by rw[az];trivial)|(have a9:=aj.plain _ _ _ (λ_=>False) ag dG;rw[ai,e5 (by exact R)]at a9;exact Good.same h aG rfl (az.nd _ _ rfl a9))
   .cases he
  .cases he
 .rename_i y q;split at he
  .rename_i ds ad;split at he
   .rename_i d ak;split at he
    .cases he
    .rename_i eP;simp only[some.injEq]at he;have eP:(j.tuple ds).plain=false:=by simpa [j.plain]using eP
     rw[az]at aE;obtain⟨b_,a,aL,a0,bK⟩:=aE _ ad eP;obtain⟨arr,rfl,bC⟩:=bK;obtain⟨x,ae,R,ai⟩:=pick ds d arr ak bC;have aG:(Instr.extract (.tuple arr) k).run C.P w= .ok x w:=by simp[Instr.extract,ae]
     have a_:=h.cG y;rw[az.b7 (fZ ad (.inl eP))]at a_;obtain⟨eJ,bZ,c1,dW,k0,bX,b6,cR,cI,d_⟩:=ctx q (s y) (bW (an y)) (S y) none _ a_.2 ad;rw[k0]at aL;simp only[some.injEq,Prod.mk.injEq,true_and]at aL;obtain⟨rfl,rfl⟩:=aL;rw[a0]at ai;split at he
     .rename_i ag;subst he;rw[aj]at cI;obtain⟨bu,eN,bN,bP,gj,e,fY,eO,el,fP,dG,jX⟩:=aQ.pick ds _ _ k d cI ak;rw[e,pY bu eN bN _ _ fY (aj.length _ _ _ dG)]at ai;by_cases aO:d.tree=true
      .exact Good.same h aG ag ((az.b7 aO).2 ⟨R,by rw[<-ai];exact aj.plain _ _ _ _ ag dG⟩)
      .cases d<;>first|exact(aO rfl).elim|(rw[aj]at dG;exact dG.elim)|exact Good.same h aG rfl (by rw[az];trivial)|(have a9:=aj.plain _ _ _ (λ_=>False) ag dG;rw[ai,e5 (by exact R)]at a9;exact Good.same h aG rfl (az.nd _ _ rfl a9))
     .subst he;refine Good.same h aG rfl ?_;rw[az];intro d2 gB ta;rw[td w q _ _ _ _ _ _ [k] k0];rw[tc _ _ _ _ ad]at gB;simp only[j.sub,ak,some.injEq]at gB;subst gB;simp only[cy,ak];exact⟨_,_,rfl,ai.symm,R⟩
   .cases he
  .cases he
 .cases he
def j3 (C:bI) (s:af) (T:TypeId) (x:j) (k:Nat):Option j:=
 match(C.T T).k with
 | .struct al=>match al[k]? with
   |some (hZ,off)=>match x with
    | .agg ds=>match ds[k]? with
      |some d=>if j.c0 (ds.take k)=off/\fits C hZ d=true/\d.plain=true/\d.tree=true then some d else none
      |none=>none
    | .h y q=>match j.sub q (s y)with
      |some (.agg ds)=>match ds[k]? with
       |some d=>if j.c0 (ds.take k)=off/\fits C hZ d=true/\j.db ds=false/\d.tree=true then some (if d.plain then d else .h y (q++[k]))else none
       |none=>none
      |_=>none
    |_=>none
   |none=>none
 |_=>none
theorem Jy (a4:C.dx) (h:bg w0 F0 X F S s an w) {T:TypeId} {x:j} {v:Value} {k:Nat} (aE:az w F s an x v (λ_=>False)) (he:j3 C s T x k=some av):Good C w0 F0 X an w (Instr.field T v k) av s:=by
 have key:∀(al:List (TypeId×Nat)) (hZ:TypeId) (off:Nat),(C.T T).k= .struct al->al[k]? =some (hZ,off)->∀(ds:Vr) (d:j) (arr:Array Value) (aB:Nat->Prop),ds[k]? =some d->j.c0 (ds.take k)=off->fits C hZ d=true->aQ w F ds arr.toList aB->
   ∃x gj,(Instr.field T (.agg arr) k).run C.P w= .ok x w/\cM d x/\aj w F d (bW x) gj/\(arr.toList.drop off).take d.wd=bW x:=by
  intro al hZ off ak bd ds d arr aB ad nc gC eX;obtain⟨i,tl,z,aI,aR,aX,bT,cb,bH,bx⟩:=a4.info (eQ ak (by simp));rw[ak]at bx;obtain⟨gs,rfl,gR⟩:=te bx;obtain⟨g,aL,rfl,rfl⟩:∃g,gs[k]? =some g/\g.type=hZ/\g.offset=off:=by
   rw[<-gR,getElem?_map]at bd;simp only[map_eq_some_iff,Prod.mk.injEq]at bd;obtain⟨g,U,aa,ax⟩:=bd;exact⟨g,by simpa using U,aa,ax⟩
  obtain⟨bu,eN,bN,bP,gj,e,fY,eO,el,fP,dG,jX⟩:=aQ.pick ds _ _ k d eX ad;obtain⟨x,aG,C2,ks⟩:=I7 (w:=w) a4 e (fY.trans nc) dG gC;refine⟨x,gj,?_,ks,by rw[C2];exact dG,?_⟩
  .simp[Instr.field,run_underlying bH,aL,asAgg,aG]
  .rw[e,C2,<-nc];exact pY bu eN bN _ _ fY (aj.length _ _ _ dG)
 have C3:∀(d:j) (x:Value) (gj:Nat->Prop),d.plain=true->cM d x->aj w F d (bW x) gj->az w F s an d x (λ_=>False):=by
  intro d x gj ag R eX;by_cases aO:d.tree=true
  .exact(az.b7 aO).2 ⟨R,aj.plain _ _ _ _ ag eX⟩
  .cases d<;>first|exact(aO rfl).elim|(rw[aj]at eX;exact eX.elim)|(rw[az];trivial)|(have a9:=aj.plain _ _ _ (λ_=>False) ag eX;rw[e5 (by exact R)]at a9;exact az.nd _ _ rfl a9)
 unfold j3 at he;split at he
 .rename_i al ak;split at he
  .rename_i hZ off bd;split at he
   .rename_i ds;split at he
    .rename_i d ad;split at he
     .rename_i ai;simp only[some.injEq]at he;subst he;obtain⟨⟨arr,rfl⟩,eX⟩:=(az.b7 rfl).1 aE;rw[aj]at eX;obtain⟨x,gj,aG,R,yF,_⟩:=key al hZ off ak bd ds d arr _ ad ai.1 ai.2.1 eX;exact Good.same h aG ai.2.2.1 (C3 d x gj ai.2.2.1 R yF)
     .cases he
    .cases he
   .rename_i y q;split at he
    .rename_i ds ad;split at he
     .rename_i d nR;split at he
      .rename_i ai;simp only[some.injEq]at he;have eP:(j.agg ds).plain=false:=by simpa [j.plain]using ai.2.2.1
       rw[az]at aE;obtain⟨b_,a,aL,a0,bK⟩:=aE _ ad eP;obtain⟨arr,rfl⟩:=bK;have a_:=h.cG y;rw[az.b7 (fZ ad (.inl eP))]at a_;obtain⟨eJ,bZ,c1,dW,k0,bX,b6,cR,cI,d_⟩:=ctx q (s y) (bW (an y)) (S y) none _ a_.2 ad;rw[k0]at aL;simp only[some.injEq,Prod.mk.injEq,true_and]at aL;obtain⟨rfl,rfl⟩:=aL;rw[aj,<-a0]at cI;obtain⟨x,gj,aG,R,yF,gD⟩:=key al hZ off ak bd ds d arr _ nR ai.1 ai.2.1 cI;by_cases ag:d.plain=true
       .rw[if_pos ag]at he;subst he;exact Good.same h aG ag (C3 d x gj ag R yF)
       .rw[if_neg ag]at he;subst he;refine Good.same h aG rfl ?_;rw[az];intro d2 gB ta;rw[td w q _ _ _ _ _ _ [k] k0];rw[tc _ _ _ _ ad]at gB;simp only[j.sub,nR,some.injEq]at gB;subst gB;simp only[cy,nR];refine⟨_,_,rfl,?_,R⟩;rw[ai.1,<-a0];exact gD.symm
      .cases he
     .cases he
    .cases he
   .cases he
  .cases he
 .cases he
end
section
variable {C:bI} {w0 w:World} {F0 X F:Nat->Prop} {S:Nat->Nat->Prop} {s s1:af} {an:Nat->Value} {av:j}
def idx (C:bI) (T:TypeId) (x i:j):Option j:=
 match(C.T T).k,x,i with
 | .str,.str l,.int _ n=>if 0<=n then(match l[n.toNat]? with|some b=>some (.int .u8 b.toNat)|none=>none)else none
 |_,_,_=>none
theorem Jz (l:Vj) (n:Nat):(⟨⟨l⟩⟩:ByteArray)[n]? =l[n]? :=by
 by_cases h:n<l.length
 .have bl:n<(⟨⟨l⟩⟩:ByteArray).size:=h;rw[getElem?_eq_getElem h,getElem?_pos (⟨⟨l⟩⟩:ByteArray) n bl];rfl
 .have bl:¬n<(⟨⟨l⟩⟩:ByteArray).size:=h;rw[getElem?_eq_none (by omega),getElem?_neg (⟨⟨l⟩⟩:ByteArray) n bl]
theorem JA (a4:C.dx) (h:bg w0 F0 X F S s an w) {T:TypeId} {x i:j} {v lC:Value} (aE:az w F s an x v (λ_=>False)) (ay:az w F s an i lC (λ_=>False)) (he:idx C T x i=some av):
  Good C w0 F0 X an w (Instr.index T v lC) av s:=by
 unfold idx at he;split at he
 .rename_i l k n ak;have:=lG aE;subst this;have:=mm ay;subst this;obtain⟨i,d,z,aI,aR,aX,bT,cb,bH,bx⟩:=a4.info (eQ ak (by simp));rw[ak]at bx;have:=nb bx;subst this;split at he
  .rename_i a2;split at he
   .rename_i b J;simp only[some.injEq]at he;subst he;refine Good.same h ?_ rfl (of_int _ _);simp[Instr.index,asIntOf,run_underlying bH,a2,Jz,J]
   .cases he
  .cases he
 .cases he
def lenOf (s:af):j->Option Nat
 | .str l=>some l.length
 | .aK=>some 0
 | .slice xs=>some xs.length
 | .h y q=>match j.sub q (s y)with
   |some (.aq _ xs)=>some xs.length
   |_=>none
 |_=>none
def nX (C:bI) (s:af) (T:TypeId) (x:j):Option j:=
 match(C.T T).k,x with
 | .str,.str l=>some (.int .i64 l.length)
 | .slice _,.aK=>some (.int .i64 0)
 | .slice _,.slice xs=>some (.int .i64 xs.length)
 | .slice _,.h y q=>match j.sub q (s y)with
   |some (.aq _ xs)=>some (.int .i64 xs.length)
   |_=>none
 |_,_=>none
theorem vJ {xs:Vr} {v:Value} {aB:Nat->Prop} (h:az w F s an (.slice xs) v aB):(xs=[]/\∃a c,v= .slice a 0 c/\c<=maxLen/\(a=none->c=0))\/
  ∃b o cap de sz,v= .slice (some ⟨b,o,none⟩) xs.length cap/\F b/\xs.length<=cap/\cap<=maxLen/\(∀d∈xs,d.wd=sz)/\gh w b o de/\aQ w F xs de (λ_=>False):=by
 have bl:=(az.b7 rfl).1 h;rw[aj,e5 bl.1]at bl;obtain⟨_,⟨rfl,a,c,aa,ax⟩|⟨b,o,cap,de,sz,aa,ax⟩⟩:=bl
 .simp at aa;exact .inl ⟨rfl,a,c,aa,ax⟩
 .simp at aa;exact .inr ⟨b,o,cap,de,sz,aa,ax⟩
theorem JB (a4:C.dx) (h:bg w0 F0 X F S s an w) {T ty:TypeId} {x:j} {v:Value} (aE:az w F s an x v (λ_=>False)) (he:nX C s T x=some av):
  Good C w0 F0 X an w (Builtin.len_ #[T] ty #[v]) av s:=by
 unfold nX at he;split at he
 .rename_i l ak;have:=lG aE;subst this;obtain⟨i,d,z,aI,aR,aX,bT,cb,bH,bx⟩:=a4.info (eQ ak (by simp));rw[ak]at bx;have:=nb bx;subst this;simp only[some.injEq]at he;subst he;refine Good.same h ?_ rfl (of_int _ _);simp[Builtin.len_,run_underlying bH,goInt];rfl
 .rename_i e ak;have:=nW aE;subst this;obtain⟨i,d,z,aI,aR,aX,bT,cb,bH,bx⟩:=a4.info (eQ ak (by simp));rw[ak]at bx;have:=jk bx;subst this;simp only[some.injEq]at he;subst he;refine Good.same h ?_ rfl (of_int _ _);simp[Builtin.len_,run_underlying bH,goInt]
 .rename_i e xs ak;obtain⟨i,d,z,aI,aR,aX,bT,cb,bH,bx⟩:=a4.info (eQ ak (by simp));rw[ak]at bx;have:=jk bx;subst this;simp only[some.injEq]at he;subst he;refine Good.same h ?_ rfl (of_int _ _);rcases vJ aE with⟨rfl,a,c,rfl,_⟩|⟨b,o,cap,de,sz,rfl,_⟩<;>simp[Builtin.len_,run_underlying bH,goInt]
 .rename_i e y q ak;split at he
  .rename_i sz xs ad;obtain⟨i,d,z,aI,aR,aX,bT,cb,bH,bx⟩:=a4.info (eQ ak (by simp));rw[ak]at bx;have:=jk bx;subst this;simp only[some.injEq]at he;subst he;refine Good.same h ?_ rfl (of_int _ _);rcases yC h aE ad with⟨rfl,_,rfl⟩|⟨b,cap,cur,aR,fr,rfl,_⟩<;>simp[Builtin.len_,run_underlying bH,goInt]
  .cases he
 .cases he
def bytesOf:Vr->Option Vj
 |[]=>some []
 | .int .u8 n::r=>if 0<=n/\n<256 then(bytesOf r).map (UInt8.ofNat n.toNat::·)else none
 |_=>none
def i2 (b:UInt8):j:=.int .u8 b.toNat
theorem JC (l:Vj):bytesOf (l.map i2)=some l:=by
 induction l with
 |nil=>rfl
 |cons b l ih=>
  have J:b.toNat<256:=b.toNat_lt;simp only[map_cons,i2,bytesOf,Int.toNat_natCast];rw[if_pos (by omega),ih];simp
theorem yG:∀(xs:Vr) (l:Vj) (cs:Vp) (aB:Nat->Prop),bytesOf xs=some l->aQ w F xs cs aB->cs=l.map (λb=>.int .u8 (b.toNat:Int))/\xs.length=l.length
 |[],l,cs,aB,h,aG=>by simp[bytesOf]at h;subst h;rw[aQ]at aG;subst aG;exact⟨rfl,rfl⟩
 |x::xs,l,cs,aB,h,aG=>by
  unfold bytesOf at h;split at h
  .rename_i e;cases e
  .rename_i n r e;simp only[cons.injEq]at e;obtain⟨rfl,rfl⟩:=e;split at h
   .rename_i a2;simp only[map_eq_some_iff]at h;obtain⟨b0,U,rfl⟩:=h;rw[aQ]at aG;obtain⟨bu,bN,bP,cx,rfl,aa,ax,_⟩:=aG;obtain⟨rfl,aP⟩:=yG xs b0 bN cx U ax;rw[aj]at aa;subst aa;refine⟨?_,by simp[aP]⟩;simp only[map_cons,cons_append,nil_append,cons.injEq,and_true,Value.int.injEq,true_and];simp only[UInt8.toNat_ofNat'];omega
   .cases h
  .cases h
theorem bg.tp (h:bg w0 F0 X F S s an w) {aw:World} {sz cap:Nat} {xs:Vr} {cur:Array Value} {e:TypeId} {fr:Nat×Nat} {Sn:Nat->Prop}
  (hw:aw.heap=w.heap.push (.cells cur e fr)) (U:aw.os=w.os) (aa:aw.tape=w.tape) (ax:Out aw w)
  (bd:kn fr (cur.size+(sz-1))) (hle:xs.length<=cap) (hm:cap<=maxLen) (df:cur.size=cap*sz) (iQ:∀d∈xs,d.wd=sz) (aE:aQ w F xs (cur.toList.take (xs.length*sz)) Sn)
  (da:∀b,Sn b->b<w.heap.size) (a3:∀b,Sn b->¬F b) (bB:∀u b,Sn b->¬S u b) (bt:∀b,Sn b->X b\/w0.heap.size<=b):
  bg w0 F0 X F S s an aw/\ia w0 X F S s an aw (.aq sz xs) (.slice (some ⟨w.heap.size,0,none⟩) xs.length cap):=by
 have hold:∀b,b<w.heap.size->aw.heap[b]? =w.heap[b]? :=by
  intro b J;rw[hw,Array.getElem?_push,if_neg (by omega)]
 have T2:aw.heap.size=w.heap.size+1:=by rw[hw];simp
 refine⟨h.grow hold (by omega) U aa ax,.inr ⟨rfl,rfl,λb=>b=w.heap.size\/Sn b,?_,?_,?_,?_,?_⟩⟩
 .simp only[bW,gy];rw[aj];refine .inr ⟨w.heap.size,cap,cur,e,fr,Sn,rfl,.inl rfl,?_,bd,hle,hm,df,iQ,?_,λc ai=>.inr ai,λai=>Nat.lt_irrefl _ (da _ ai)⟩
  .rw[hw];simp
  .exact aQ.frame (λb J=>hold b (h.eg b J)) _ _ _ (λb J=>hold b (da b J)) aE
 .rintro b (rfl|J)
  .omega
  .have:=da b J;omega
 .rintro b (rfl|J) nV
  .exact Nat.lt_irrefl _ (h.eg _ nV)
  .exact a3 b J nV
 .rintro u b (rfl|J) hu
  .exact Nat.lt_irrefl _ (h.dw _ _ hu)
  .exact bB u b J hu
 .rintro b (rfl|J)
  .exact .inr h.size
  .exact bt b J
def hg (C:bI) (s:af) (A B:TypeId) (x:j):Option j:=
 if(C.T A).ok=true then
 match(C.T B).k,x with
 | .int k,.int _ n=>some (.int k (k.wrap n))
 | .str,.str l=>match(C.T A).k with
   | .str=>some (.str l)
   |_=>none
 | .str,x=>match(C.T A).k with
   | .slice e=>match(C.T e).k with
     | .int .u8=>match x with
       | .aK=>some (.str [])
       | .slice xs=>(bytesOf xs).map .str
       | .h y q=>match j.sub q (s y)with
         |some (.aq 1 xs)=>(bytesOf xs).map .str
         |_=>none
       |_=>none
     |_=>none
   |_=>none
 | .slice e,.str l=>match(C.T A).k,(C.T e).k with
   | .str,.int .u8=>if l.length<=9223372036854775807 then some (.aq 1 (l.map i2))else none
   |_,_=>none
 |_,_=>none
 else none
theorem C4 (l:Vj) (aB:Nat->Prop):aQ w F (l.map i2) (l.map λb=>.int .u8 (b.toNat:Int)) aB:=by
 induction l generalizing aB with
 |nil=>simp only[map_nil];rw[aQ]
 |cons b l ih=>
  simp only[map_cons];rw[aQ];exact⟨[.int .u8 (b.toNat:Int)],_,λ_=>False,λ_=>False,rfl,by rw[i2,aj],ih _,λ_ h=>h.elim,λ_ h=>h.elim,λ_ h=>h.elim⟩
theorem JD (a4:C.dx) (h:bg w0 F0 X F S s an w) {A B:TypeId} {x:j} {v:Value} (aE:az w F s an x v (λ_=>False)) (he:hg C s A B x=some av):
  Good C w0 F0 X an w (convert A B v) av s:=by
 unfold hg at he;split at he
 .rename_i hh;obtain⟨hJ,T3,T4,ar,bw,fG,ng,oZ,nh,ni⟩:=a4.info hh;split at he
  .rename_i k cN n ak;have:=mm aE;subst this;obtain⟨i,d,z,aI,aR,aX,bT,cb,bH,bx⟩:=a4.info (eQ ak (by simp));rw[ak]at bx;have:=tf bx;subst this;simp only[some.injEq]at he;subst he;refine Good.same h ?_ rfl (of_int _ _);simp[convert,run_underlying nh,run_underlying bH,Conv.intToInt]
  .rename_i l ak;have:=lG aE;subst this;obtain⟨i,d,z,aI,aR,aX,bT,cb,bH,bx⟩:=a4.info (eQ ak (by simp));rw[ak]at bx;have:=nb bx;subst this;split at he
   .rename_i tq;rw[tq]at ni;have:=nb ni;subst this;simp only[some.injEq]at he;subst he;refine Good.same h ?_ rfl (mn _);simp[convert,run_underlying nh,run_underlying bH]
   .cases he
  .rename_i x ak _;obtain⟨i,d,z,aI,aR,aX,bT,cb,bH,bx⟩:=a4.info (eQ ak (by simp));rw[ak]at bx;have:=nb bx;subst this;split at he
   .rename_i e tq;rw[tq]at ni;have:=jk ni;subst this;split at he
    .rename_i tr;obtain⟨nP,a8,nQ,f1,f2,f3,f4,f5,f6,f7⟩:=a4.info (eQ tr (by simp));rw[tr]at f7;have:=tf f7;subst this;have fin:∀(l:Vj) (b o cap:Nat),gh w b o (l.map λb=>.int .u8 (b.toNat:Int))->(convert A B (.slice (some ⟨b,o,none⟩) l.length cap)).run C.P w= .ok (.string ⟨⟨l⟩⟩) w:=by
      intro l b o cap h9;refine run_convert_bytes_back w A B e ⟨b,o,none⟩ cap l nh f6 bH (λaD cn=>?_);rw[Addr.add_lit];exact h9 aD _ (by simp[cn])
     have nil:(convert A B (.slice none 0 0)).run C.P w= .ok (.string ⟨⟨[]⟩⟩) w:=by
      simp[convert,run_underlying nh,run_underlying bH,run_underlying f6,Conv.bytesToString];rfl
     split at he
     .have:=nW aE;subst this;simp only[some.injEq]at he;subst he;exact Good.same h nil rfl (mn _)
     .rename_i xs _;simp only[map_eq_some_iff]at he;obtain⟨l,hl,rfl⟩:=he;rcases vJ aE with⟨rfl,a,c,rfl,_,p_⟩|⟨b,o,cap,de,sz,rfl,U,aa,ax,aP,a9,bU⟩
      .simp[bytesOf]at hl;subst hl;cases a with
       |none=>
        have:=p_ rfl;subst this;exact Good.same h nil rfl (mn _)
       |some a=>
        refine Good.same h ?_ rfl (mn _);exact run_convert_bytes_back w A B e a c [] nh f6 bH (λaD cn=>by simp at cn)
      .obtain⟨rfl,bO⟩:=yG xs l de _ hl bU;rw[bO];exact Good.same h (fin l b o cap a9) rfl (mn _)
     .rename_i y q;split at he
      .rename_i xs ad;simp only[map_eq_some_iff]at he;obtain⟨l,hl,rfl⟩:=he;rcases yC h aE ad with⟨rfl,a,rfl⟩|⟨b,cap,cur,aR,fr,rfl,U,aa,ax,aP,a9,bU,aB,bO,_⟩
       .simp[bytesOf]at hl;subst hl;cases a with
        |none=>exact Good.same h nil rfl (mn _)
        |some a=>
         refine Good.same h ?_ rfl (mn _);exact run_convert_bytes_back w A B e a 0 [] nh f6 bH (λaD cn=>by simp at cn)
       .obtain⟨dv,hG⟩:=yG xs l _ _ hl bO;rw[hG];refine Good.same h (fin l b 0 cap ?_) rfl (mn _);rw[<-dv];exact rF U _
      .cases he
     .cases he
    .cases he
   .cases he
  .rename_i e l ak;have:=lG aE;subst this;obtain⟨i,d,z,aI,aR,aX,bT,cb,bH,bx⟩:=a4.info (eQ ak (by simp));rw[ak]at bx;have:=jk bx;subst this;split at he
   .rename_i tq tr;rw[tq]at ni;have:=nb ni;subst this;obtain⟨nP,a8,nQ,f1,f2,f3,f4,f5,f6,f7⟩:=a4.info (eQ tr (by simp));rw[tr]at f7;have:=tf f7;subst this;split at he
    .rename_i hl;simp only[some.injEq]at he;subst he;have R:(⟨⟨l⟩⟩:ByteArray).size=l.length:=rfl;have qd:=grownCap_ge w l.length 0 e;have JE:=grownCap_le_maxLen w l.length 0 e (by unfold maxLen;omega);have C5:(bytesRow ⟨⟨l⟩⟩ (grownCap w l.length 0 e)).toList=l.map (λb=>Value.int .u8 (b.toNat:Int))++replicate (grownCap w l.length 0 e-l.length) (.int .u8 0):=by
      simp[bytesRow,R]
     have df:(bytesRow ⟨⟨l⟩⟩ (grownCap w l.length 0 e)).size=grownCap w l.length 0 e*1:=by
      have:(bytesRow ⟨⟨l⟩⟩ (grownCap w l.length 0 e)).size=(bytesRow ⟨⟨l⟩⟩ (grownCap w l.length 0 e)).toList.length:=by simp
      rw[this,C5];simp;omega
     have p8:=run_bytes_of_string w A B e ⟨⟨l⟩⟩ nh bH f6;rw[R]at p8;have i3:=h.tp (aw:=w.drew.alloc (.cells (bytesRow ⟨⟨l⟩⟩ (grownCap w l.length 0 e)) e ((bytesRow ⟨⟨l⟩⟩ (grownCap w l.length 0 e)).size,(bytesRow ⟨⟨l⟩⟩ (grownCap w l.length 0 e)).size+1)))
      (sz:=1) (cap:=grownCap w l.length 0 e) (xs:=l.map i2) (cur:=bytesRow ⟨⟨l⟩⟩ (grownCap w l.length 0 e)) (e:=e) (Sn:=λ_=>False) rfl rfl rfl ⟨rfl,λ_=>le_succ _⟩
      (λo bk ⟨U,_⟩=>by simp only at U;omega) (by simpa using qd) JE df (by intro d ad;obtain⟨b,_,rfl⟩:=mem_map.1 ad;rfl)
      (by rw[C5,take_left' (by simp)];exact C4 l _) (λ_ h=>h.elim) (λ_ h=>h.elim) (λ_ _ h=>h.elim) (λ_ h=>h.elim)
     simp only[length_map]at i3;exact⟨_,_,F,S,p8,i3.1,i3.2⟩
    .cases he
   .cases he
  .cases he
 .cases he
end
section
variable {C:bI} {w0 w:World} {F0 X F:Nat->Prop} {S:Nat->Nat->Prop} {s s1:af} {an:Nat->Value} {av:j}
def gx (d:Nat):Option j->Option Nat
 |none=>some d
 |some (.int _ n)=>if 0<=n then some n.toNat else none
 |some _=>none
def eY (C:bI) (s:af) (T:TypeId) (x:j) (dE ay:Option j):Option (j×af):=
 match(C.T T).k,x with
 | .str,.str l=>match gx 0 dE,gx l.length ay with
   |some a,some b=>if a<=b/\b<=l.length then some (.str ((l.take b).drop a),s)else none
   |_,_=>none
 | .slice e,.aK=>match gx 0 dE,gx 0 ay with
   |some 0,some 0=>if(C.T e).ok=true then some (.aK,s)else none
   |_,_=>none
 | .slice e,.slice xs=>match gx 0 dE,gx xs.length ay with
   |some a,some b=>if a<=b/\b<=xs.length/\(C.T e).ok=true/\(∀d∈xs,d.wd=(C.T e).sz)then some (.slice ((xs.take b).drop a),s)else none
   |_,_=>none
 | .slice e,.h y q=>match j.sub q (s y)with
   |some (.aq sz xs)=>match gx 0 dE,gx xs.length ay with
    |some 0,some b=>if b<=xs.length/\(C.T e).ok=true then(match cc s (.h y q)with|some (_,s1)=>some (.aq sz (xs.take b),s1)|none=>none)else none
    |_,_=>none
   |_=>none
 |_,_=>none
def nY (w:World) (F:Nat->Prop) (s:af) (an:Nat->Value):Option j->Option Value->Prop
 |none,none=>True
 |some d,some v=>az w F s an d v (λ_=>False)
 |_,_=>False
theorem C6 {d:Nat} {o:Option j} {v:Option Value} (bk:nY w F s an o v) {a:Nat} (h:gx d o=some a):(o=none/\v=none/\a=d)\/∃k,v=some (.int k a):=by
 cases o with
 |none=>
  cases v with
  |none=>simp[gx]at h;exact .inl ⟨rfl,rfl,h.symm⟩
  |some v=>simp[nY]at bk
 |some x=>
  cases v with
  |none=>simp[nY]at bk
  |some v=>
   simp only[nY]at bk;cases x with
   |int k n=>
    have:=mm bk;subst this;simp only[gx]at h;split at h
    .rename_i a2;simp only[some.injEq]at h;subst h;obtain⟨m,rfl⟩:=Int.eq_ofNat_of_zero_le a2;exact .inr ⟨k,rfl⟩
    .cases h
   |_=>simp[gx]at h
theorem rL {P:Program} {isS:Bool} {len cap a b:Nat} {dE ay:Option j} {qe qf:Option Value} (kv:nY w F s an dE qe) (lI:nY w F s an ay qf) (b4:gx 0 dE=some a) (J:gx len ay=some b) (jW:a<=b) (JF:b<=cap) (_hlc:len<=cap):
  (Instr.sliceBounds isS len cap qe qf none).run P w= .ok (a,b,cap) w:=by
 rcases C6 kv b4 with⟨_,rfl,rfl⟩|⟨k,rfl⟩<;>rcases C6 lI J with⟨_,rfl,rfl⟩|⟨cN,rfl⟩<;>
  simp[Instr.sliceBounds,Instr.sliceBound,asIntOf,jW,JF]
theorem rM (a4:C.dx) {T:TypeId} (ak:(C.T T).flat=true) (v:Value) (dE ay fO:Option Value) (w:World):(Instr.sliceAt T v dE ay fO).run C.P w=(Instr.slice T v dE ay fO).run C.P w:=by
 obtain⟨i,d,z,aI,aR,aX,bT,cb,bH,bx⟩:=a4.info (CL ak);have cJ:∀n e,d≠.array n e:=by
  clear bH;unfold e4.flat at ak;generalize (C.T T).k=ib at*;cases ib<;>cases d<;>simp[jj]at bx ak⊢
 cases d<;>first|exact(cJ _ _ rfl).elim|simp[Instr.sliceAt,run_underlying bH]
theorem rN {x:e4} {k:kr} (h:x.k=k) (ak:k≠.other) (R:∀al,k≠.struct al) (J:∀e,k≠.fb e:=by simp):x.flat=true:=by
 unfold e4.flat;rw[h];cases k<;>first|rfl|exact(ak rfl).elim|exact(J _ rfl).elim|exact(R _ rfl).elim
theorem aQ.split:∀(n:Nat) (xs:Vr) (cs:Vp) (aB:Nat->Prop),aQ w F xs cs aB->∃bu bN bP cx,cs=bu++bN/\aQ w F (xs.take n) bu bP/\aQ w F (xs.drop n) bN cx/\(∀b,bP b->aB b)/\(∀b,cx b->aB b)/\(∀b,bP b->¬cx b)
 |0,xs,cs,aB,h=>⟨[],cs,λ_=>False,aB,rfl,by rw[take_zero,aQ],h,λ_ h=>h.elim,λ_ h=>h,λ_ h=>h.elim⟩
 |n+1,[],cs,aB,h=>by rw[aQ]at h;subst h;exact⟨[],[],λ_=>False,λ_=>False,rfl,by rw[take_nil,aQ],by rw[drop_nil,aQ],λ_ h=>h.elim,λ_ h=>h.elim,λ_ h=>h.elim⟩
 |n+1,x::xs,cs,aB,h=>by
  rw[aQ]at h;obtain⟨bu,bN,fX,fj,rfl,U,aa,ax,aP,a9⟩:=h;obtain⟨d1,d2,bP,cx,rfl,aL,a0,bK,cF,dq⟩:=aQ.split n xs bN fj aa;refine⟨bu++d1,d2,λb=>fX b\/bP b,cx,by simp,?_,a0,?_,λb J=>aP _ (cF _ J),?_⟩
  .rw[take_succ_cons,aQ];exact⟨bu,d1,fX,bP,rfl,U,aL,λ_ h=>.inl h,λ_ h=>.inr h,λb J ai=>a9 b J (bK b ai)⟩
  .rintro b (J|J)
   .exact ax b J
   .exact aP b (bK b J)
  .rintro b (J|J) ai
   .exact a9 b J (cF b ai)
   .exact dq b J ai
theorem JG (a4:C.dx) (h:bg w0 F0 X F S s an w) {T:TypeId} {x:j} {v:Value} {dE ay:Option j} {qe qf:Option Value} (ae:x.plain=true) (aE:az w F s an x v (λ_=>False)) (kv:nY w F s an dE qe) (lI:nY w F s an ay qf)
  (he:eY C s T x dE ay=some (av,s1)):Good C w0 F0 X an w (Instr.sliceAt T v qe qf none) av s1:=by
 unfold eY at he;split at he
 .rename_i l ak;have:=lG aE;subst this;obtain⟨i,d,z,aI,aR,aX,bT,cb,bH,bx⟩:=a4.info (eQ ak (by simp));rw[ak]at bx;have:=nb bx;subst this;split at he
  .rename_i a b b4 J;split at he
   .rename_i jW;simp only[some.injEq,Prod.mk.injEq]at he;obtain⟨rfl,rfl⟩:=he;refine Good.same h ?_ rfl (mn _);rw[rM a4 (rN ak (by simp) (by simp))];have df:(⟨⟨l⟩⟩:ByteArray).size=l.length:=rfl;have lJ:=rL (P:=C.P) (isS:=false) (len:=l.length) (cap:=l.length) kv lI b4 J jW.1 jW.2 (Nat.le_refl _);have JH:(⟨⟨l⟩⟩:ByteArray).extract a b=⟨⟨(l.take b).drop a⟩⟩:=by
     apply ByteArray.ext;simp[ByteArray.data_extract,drop_take]
    simp[Instr.slice,run_underlying bH,df,lJ,JH]
   .cases he
  .cases he
 .rename_i e ak;have:=nW aE;subst this;obtain⟨i,d,z,aI,aR,aX,bT,cb,bH,bx⟩:=a4.info (eQ ak (by simp));rw[ak]at bx;have:=jk bx;subst this;split at he
  .rename_i b4 J;split at he
   .rename_i mq;obtain⟨nP,a8,nQ,f1,f2,f3,f4,f5,f6,f7⟩:=a4.info mq;simp only[some.injEq,Prod.mk.injEq]at he;obtain⟨rfl,rfl⟩:=he;have lJ:=rL (P:=C.P) (isS:=true) (len:=0) (cap:=0) kv lI b4 J (Nat.le_refl _) (Nat.le_refl _) (Nat.le_refl _);refine Good.same h (v:=.slice none 0 0) ?_ rfl aE;rw[rM a4 (rN ak (by simp) (by simp))];simp[Instr.slice,run_underlying bH,lJ,iC f1,f2]
   .cases he
  .cases he
 .rename_i e xs ak;obtain⟨i,d,z,aI,aR,aX,bT,cb,bH,bx⟩:=a4.info (eQ ak (by simp));rw[ak]at bx;have:=jk bx;subst this;split at he
  .rename_i a b b4 J;split at he
   .rename_i jW;obtain⟨JI,C7,mq,iQ⟩:=jW;obtain⟨nP,a8,nQ,f1,f2,f3,f4,f5,f6,f7⟩:=a4.info mq;simp only[some.injEq,Prod.mk.injEq]at he;obtain⟨rfl,rfl⟩:=he;rcases vJ aE with⟨rfl,rO,c,rfl,ts,p_⟩|⟨ig,o,cap,de,sz,rfl,U,aa,ax,aP,a9,bU⟩
    .have ft:b=0:=by simpa using C7
     subst ft;have JJ:a=0:=by omega
     subst JJ;have lJ:=rL (P:=C.P) (isS:=true) (len:=0) (cap:=c) kv lI b4 J (Nat.le_refl _) (zero_le _) (zero_le _);refine Good.same h (v:=.slice rO 0 c) ?_ rfl ((az.b7 rfl).2 ⟨rfl,by rw[aj];exact .inl ⟨rfl,rO,c,rfl,ts,p_⟩⟩);rw[rM a4 (rN ak (by simp) (by simp))];cases rO with
     |none=>
      have:=p_ rfl;subst this;simp[Instr.slice,run_underlying bH,lJ,iC f1,f2]
     |some rO=>simp[Instr.slice,run_underlying bH,lJ,iC f1,f2,Addr.add]
    .have lJ:=rL (P:=C.P) (isS:=true) (len:=xs.length) (cap:=cap) kv lI b4 J JI (Nat.le_trans C7 aa) aa;obtain⟨bu,bN,bP,cx,rfl,aL,a0,bK,cF,dq⟩:=aQ.split b xs de _ bU;obtain⟨d1,d2,vK,C8,rfl,bX,b6,cR,cI,d_⟩:=aQ.split a (xs.take b) bu _ aL;have yH:d1.length=a*(C.T e).sz:=by
      rw[aQ.length _ _ _ bX,p0 _ (λd ad=>iQ d (mem_of_mem_take (mem_of_mem_take ad))),length_take,length_take];congr 1;omega
     have hlen:((xs.take b).drop a).length=b-a:=by simp;omega
     have h9:gh w ig (o+a*(C.T e).sz) d2:=by
      rw[<-yH];have:gh w ig o (d1++(d2++bN)):=by simpa using a9
      exact this.yv
     have vL:aQ w F ((xs.take b).drop a) d2 (λ_=>False):=aQ.mono (λ_ h=>h) _ _ _ _ (λb J=>(bK _ (cI _ J)).elim) b6;have mem:∀d∈(xs.take b).drop a,d.wd=sz:=λd ad=>aP d (mem_of_mem_take (mem_of_mem_drop ad));have run:(Instr.sliceAt T (.slice (some ⟨ig,o,none⟩) xs.length cap) qe qf none).run C.P w= .ok (.slice (if cap=a then some ⟨ig,o,none⟩else some ⟨ig,o+a*(C.T e).sz,none⟩) (b-a) (cap-a)) w:=by
      rw[rM a4 (rN ak (by simp) (by simp))];simp[Instr.slice,run_underlying bH,lJ,iC f1,f2,Addr.add_lit]
     refine⟨_,w,F,S,run,h,.inl ⟨rfl,(az.b7 rfl).2 ⟨rfl,?_⟩⟩⟩;simp only[bW,gy];rw[aj];by_cases C9:cap=a
     .have JK:b=a:=by omega
      subst JK;have tt:(xs.take b).drop b=[]:=by simp
      rw[if_pos C9];rw[tt]at vL⊢;rw[aQ]at vL;subst vL;exact .inr ⟨ig,o,cap-b,[],sz,by simp,U,zero_le _,by omega,by simp,λaD c cn=>by simp at cn,by rw[aQ]⟩
     .rw[if_neg C9];exact .inr ⟨ig,_,cap-a,d2,sz,by rw[hlen],U,by rw[hlen];omega,by omega,mem,h9,vL⟩
   .cases he
  .cases he
 .rename_i e y q ak;split at he
  .rename_i sz xs ad;split at he
   .rename_i b b4 J;split at he
    .rename_i vM;split at he
     .rename_i tl s2 aO;simp only[some.injEq,Prod.mk.injEq]at he;obtain⟨rfl,rfl⟩:=he;obtain⟨i,d,z,aI,aR,aX,bT,cb,bH,bx⟩:=a4.info (eQ ak (by simp));rw[ak]at bx;have:=jk bx;subst this;obtain⟨nP,a8,nQ,f1,f2,f3,f4,f5,f6,f7⟩:=a4.info vM.2;have qb:tl= .aq sz xs:=by
       simp only[cc,ad,j.plain]at aO;simp at aO;exact aO.1.symm
      subst qb;obtain⟨bP,fg,aL,a0,Sn,bK,cF,dq,gk,hd,jB⟩:=na h rfl aE aO;rw[e5 a0,aj]at bK;rcases bK with⟨rfl,I,iG⟩|⟨ig,cap,cur,fs,fr,aB,iG,bX,b6,cR,cI,d_,dD,hv,ed,j4,o0⟩
      .simp at iG;subst iG;have ft:b=0:=by simpa using vM.1
       subst ft;have lJ:=rL (P:=C.P) (isS:=true) (len:=0) (cap:=0) kv lI b4 J (Nat.le_refl _) (Nat.le_refl _) (Nat.le_refl _);refine⟨.slice I 0 0,w,F,bP,?_,fg,.inr ⟨rfl,rfl,λ_=>False,by simp only[bW,gy];rw[aj];exact .inl ⟨rfl,_,rfl⟩,λ_ h=>h.elim,λ_ h=>h.elim,λ_ _ h=>h.elim,λ_ h=>h.elim⟩⟩;rw[rM a4 (rN ak (by simp) (by simp))];cases I<;>simp[Instr.slice,run_underlying bH,lJ,iC f1,f2]
      .simp at iG;subst iG;have lJ:=rL (P:=C.P) (isS:=true) (len:=xs.length) (cap:=cap) kv lI b4 J (zero_le _) (Nat.le_trans vM.1 cI) cI;have hlen:(xs.take b).length=b:=by simp;omega
       have run:(Instr.sliceAt T (.slice (some ⟨ig,0,none⟩) xs.length cap) qe qf none).run C.P w= .ok (.slice (some ⟨ig,0,none⟩) b cap) w:=by
        rw[rM a4 (rN ak (by simp) (by simp))];simp[Instr.slice,run_underlying bH,lJ,iC f1,f2,Addr.add_lit]
       refine⟨_,w,F,bP,run,fg,.inr ⟨rfl,rfl,Sn,?_,cF,dq,gk,hd⟩⟩;simp only[bW,gy];rw[aj];obtain⟨bu,bN,fX,fj,ai,ea,fh,gE,j0,lF⟩:=aQ.split b xs _ _ ed;refine .inr ⟨ig,cap,cur,fs,fr,aB,by rw[hlen],bX,b6,cR,by omega,d_,dD,λd ad=>hv d (mem_of_mem_take ad),?_,j4,o0⟩;have yH:bu.length=b*sz:=by
        rw[aQ.length _ _ _ ea,p0 _ (λd ad=>hv d (mem_of_mem_take ad)),hlen]
       have:cur.toList.take ((xs.take b).length*sz)=bu:=by
        rw[hlen];have aa:b*sz<=xs.length*sz:=mul_le_mul_right _ vM.1;have:(cur.toList.take (xs.length*sz)).take (b*sz)=bu:=by rw[ai,take_left' yH]
        rwa [take_take,Nat.min_eq_left aa]at this
       rw[this];exact aQ.mono (λ_ h=>h) _ _ _ _ gE ea
     .cases he
    .cases he
   .cases he
  .cases he
 .cases he
end
section
variable {C:bI} {w0 w:World} {F0 X F:Nat->Prop} {S:Nat->Nat->Prop} {s s1:af} {an:Nat->Value} {av:j}
def Src (P:Program) (w:World) (size:Nat) (x:Value) (m:Nat) (news:Vp):Prop:=
 ∀aw:World,aw.heap=w.heap->(Builtin.lenOf x).run P aw= .ok m aw/\(Builtin.firstCells size m x).run P aw= .ok news.toArray aw
def yI (d:TypeDesc):Prop:=(∃e,d= .slice e)\/d= .string
theorem JL {P:Program} {T bR ty e:TypeId} {nZ:TypeDesc} {i:TypeInfo} (aO:P.underlying T=some (.slice e)) (hu:P.underlying bR=some nZ) (qg:yI nZ) (ay:P.info? e=some i)
  {x:Value} {m:Nat} {news:Vp} (vN:Src P w i.size x m news) {b n cap:Nat} {cur:Array Value} {fs:TypeId} {fr:Nat×Nat} {l mid r:Vp} (J:w.heap[b]? =some (.cells cur fs fr)) (bd:kn fr cur.size)
  (ai:cur.toList=l++(mid++r)) (hl:l.length=n*i.size) (hm:mid.length=news.length) (oV:∀v∈news,Value.et v=true) (nj:n+m<=cap):
  ∃aw,(Builtin.append_ #[T,bR] ty #[.slice (some ⟨b,0,none⟩) n cap,x]).run P w= .ok (.slice (some ⟨b,0,none⟩) (n+m) cap) aw/\aw.heap[b]? =some (.cells (l++(news++r)).toArray fs fr)/\
   (∀c,c≠b->aw.heap[c]? =w.heap[c]?)/\aw.heap.size=w.heap.size/\aw.os=w.os/\aw.tape=w.tape/\Out aw w:=by
 obtain⟨aw,ea,fh⟩:=yz (P:=P) (b:=b) (o:=n*i.size) (e:=fs) (fr:=fr) news 0 cur w l mid r J bd ai (by omega) hm oV;refine⟨aw,?_,fh⟩;obtain⟨U,aa⟩:=vN w rfl;rcases qg with⟨fk,rfl⟩|rfl<;>simp[Builtin.append_,run_underlying aO,run_underlying hu,iC ay,U,aa,nj,Addr.add_lit,ea]
theorem JM {P:Program} {T bR ty e:TypeId} {nZ:TypeDesc} {i:TypeInfo} {z:Value} (aO:P.underlying T=some (.slice e)) (hu:P.underlying bR=some nZ) (qg:yI nZ) (ay:P.info? e=some i) (bC:i.zero=some z)
  {x:Value} {m:Nat} {news:Vp} (vN:Src P w i.size x m news) {base:Option Addr} {n cap:Nat} {mr:Vp} (hold:Src P w i.size (.slice base n cap) n mr) (nj:¬n+m<=cap)
  (a2:n+m<=9223372036854775807) (yJ:(n+m)*i.bytes<=140737488355328):
  (Builtin.append_ #[T,bR] ty #[.slice base n cap,x]).run P w= .ok (.slice (some ⟨w.heap.size,0,none⟩) (n+m) (grownCap w (n+m) cap e))
   (w.drew.alloc (.cells (mr.toArray++news.toArray++Builtin.zeroCells z.cells (grownCap w (n+m) cap e-(n+m))) e)):=by
 have U:=(vN w rfl).1;have aa:=(vN w.drew rfl).2;have ax:=(hold w.drew rfl).2;have T5:=growslice_fits (need:=n+m) (old:=cap) (by omega) yJ;have gC:¬(281474976710656<Builtin.nextslicecap (n+m) cap*i.bytes):=by omega
 have rP:∀k (w:World),(askRoom k).run P w= .ok () w:=by
  intro k w;unfold askRoom;split<;>rfl
 have yK:¬(9223372036854775807<(n:Int)+(m:Int)/\i.bytes=0):=by omega
 rcases qg with⟨fk,rfl⟩|rfl<;>
  .simp[Builtin.append_,run_underlying aO,run_underlying hu,iC ay,p5 ay,U,nj,gC,Question.forced,rP];rw[if_neg yK,ax];simp[aa,p6 ay bC,newRow,grownCap];have aI:(mr++news).toArray=mr.toArray++news.toArray:=by simp
   rw[aI,Array.append_assoc]
def vO (C:bI) (e bR:TypeId):Bool:=match(C.T bR).k,(C.T e).k with
 | .slice fk,_=>fk==e
 | .str,.int .u8=>true
 |_,_=>false
def n0 (C:bI) (s:af) (T bR:TypeId) (x y:j):Option (j×af):=
 match(C.T T).k with
 | .slice e=>if(C.T e).ok=true/\(C.T e).zero.wd=(C.T e).sz/\(flat (C.T e).zero).isSome=true/\vO C e bR=true then
   match(match x with| .aK=>some (j.aq (C.T e).sz [],s)| .h a q=>cc s (.h a q)|_=>none)with
   |some (.aq sz xs,s1)=>if sz=(C.T e).sz then
     match(match iS x.owner y with
      | .aK=>some ([],s1)
      | .slice ys=>some (ys,s1)
      | .str l=>some (l.map i2,s1)
      | .h a q=>match cc s1 (.h a q)with
        |some (.aq _ ys,s2)=>some (ys,s2)
        |_=>none
      |_=>none)with
     |some (ys,s2)=>if(∀d∈ys,d.wd=(C.T e).sz)/\(xs.length+ys.length)*(C.T e).bytes<=140737488355328/\xs.length+ys.length<=9223372036854775807 then some (.aq sz (xs++ys),s2)else none
     |none=>none
    else none
   |_=>none
   else none
 |_=>none
theorem aQ.append {xs ys:Vr} {bu bN:Vp} {bP cx aB:Nat->Prop} (U:aQ w F xs bu bP) (aa:aQ w F ys bN cx) (aI:∀b,bP b->aB b) (aR:∀b,cx b->aB b) (aX:∀b,bP b->¬cx b):aQ w F (xs++ys) (bu++bN) aB:=by
 induction xs generalizing bu bP aB with
 |nil=>rw[aQ]at U;subst U;exact aQ.mono (λ_ h=>h) _ _ _ _ aR aa
 |cons x xs ih=>
  rw[aQ]at U;obtain⟨JN,JO,fX,fj,rfl,aL,a0,bK,cF,dq⟩:=U;rw[cons_append,aQ];refine⟨JN,JO++bN,fX,λb=>fj b\/cx b,by simp,aL,ih a0 (λb h=>.inl h) (λb h=>.inr h) (λb h=>aX b (cF b h)),λb h=>aI b (bK b h),?_,?_⟩
  .rintro b (h|h)
   .exact aI b (cF b h)
   .exact aR b h
  .rintro b h (bl|bl)
   .exact dq b h bl
   .exact aX b (bK b h) bl
theorem yL {P:Program} {size m cap:Nat} {b o:Nat} {news:Vp} (h9:gh w b o news) (hl:news.length=m*size):Src P w size (.slice (some ⟨b,o,none⟩) m cap) m news:=by
 intro aw hw;refine⟨rfl,?_⟩;refine run_firstCells_some aw size m ⟨b,o,none⟩ m cap news hl (λaD v cn=>?_);rw[Addr.add_lit];have:=h9 aD v cn;simpa [World.cell?,hw]using this
theorem C_ {P:Program} {size cap:Nat}:Src P w size (.slice none 0 cap) 0 []:=by
 intro aw _;exact⟨rfl,by simp[Builtin.firstCells]⟩
theorem yM {P:Program} {size cap:Nat} (a:Option Addr):Src P w size (.slice a 0 cap) 0 []:=by
 cases a with
 |none=>exact C_
 |some a=>
  intro aw _;exact⟨rfl,run_firstCells_some aw size 0 a 0 cap [] (by simp) (λaD v cn=>by simp at cn)⟩
theorem JP {P:Program} (l:Vj):Src P w 1 (.string ⟨⟨l⟩⟩) l.length (l.map λb=>.int .u8 (b.toNat:Int)):=by
 intro aw _;refine⟨rfl,?_⟩;have:(⟨⟨l⟩⟩:ByteArray).extract 0 l.length=⟨⟨l⟩⟩:=by
  apply ByteArray.ext;simp[ByteArray.data_extract]
 simp[Builtin.firstCells,this]
theorem aQ.qh {sz:Nat} {xs:Vr} {cs:Vp} {aB:Nat->Prop} (h:aQ w F xs cs aB) (hw:∀d∈xs,d.wd=sz):cs.length=xs.length*sz:=by
 rw[aQ.length _ _ _ h,p0 _ hw]
theorem bg.turn (h:bg w0 F0 X F S s an w) {aw:World} {b:Nat} (J:∀c,c≠b->aw.heap[c]? =w.heap[c]?) (R:aw.heap.size=w.heap.size) (U:aw.os=w.os) (aa:aw.tape=w.tape) (ax:Out aw w)
  (a3:¬F b) (bB:∀u,¬S u b) (bt:X b\/w0.heap.size<=b):bg w0 F0 X F S s an aw where
 fl:=h.fl
 fA:=h.fA
 eg:=λc ai=>by rw[R];exact h.eg c ai
 dw:=λt c ai=>by rw[R];exact h.dw t c ai
 ew:=h.ew
 dS:=h.dS
 cU:=h.cU
 cG:=λt=>az.frame (Sx:=S) (λc ai=>J c (by rintro rfl;exact a3 ai)) (λ_ h=>h) (λx c ai=>J c (by rintro rfl;exact bB x ai)) h.cG _ _ _ (λc ai=>J c (by rintro rfl;exact bB t ai)) (h.cG t)
 old:=λc da hX=>by
  rw[J c ?_]
  .exact h.old c da hX
  .rintro rfl;rcases bt with bt|bt
   .exact hX bt
   .omega
 size:=by rw[R];exact h.size
 os:=U.trans h.os
 tape:=aa.trans h.tape
 output:=ax.trans h.output
 fB:=h.fB
theorem JQ (a4:C.dx) (h:bg w0 F0 X F S s an w) {T bR ty:TypeId} {x y:j} {dg g8:Value} (ae:az w F s an x dg (λ_=>False)) (a_:az w F s an y g8 (λ_=>False))
  (he:n0 C s T bR x y=some (av,s1)):Good C w0 F0 X an w (Builtin.append_ #[T,bR] ty #[dg,g8]) av s1:=by
 unfold n0 at he;split at he
 .rename_i e ak;obtain⟨yN,d,yO,aI,aR,aX,bT,cb,bH,bx⟩:=a4.info (eQ ak (by simp));rw[ak]at bx;have:=jk bx;subst this;split at he
  .rename_i p9;obtain⟨mq,nk,n1,nm⟩:=p9;obtain⟨i,yP,z,f1,f2,f3,f4,f5,f6,f7⟩:=a4.info mq;obtain⟨dU,kx⟩:=isSome_iff_exists.1 n1;have n2:=f5 dU kx;have mu:dU.length=(C.T e).sz:=by
    have:=aj.length _ _ _ ((aj.flat (w:=w) (F:=F) _).1 (C.T e).zero dU (λ_=>False) (Nat.le_refl _) kx);rw[this,nk]
   obtain⟨nZ,hu,qg⟩:∃nZ,C.P.underlying bR=some nZ/\yI nZ:=by
    unfold vO at nm;split at nm
    .rename_i fk iH;obtain⟨_,a8,_,_,_,_,_,_,gk,hd⟩:=a4.info (eQ iH (by simp));rw[iH]at hd;exact⟨a8,gk,.inl ⟨_,jk hd⟩⟩
    .rename_i iH _;obtain⟨_,a8,_,_,_,_,_,_,gk,hd⟩:=a4.info (eQ iH (by simp));rw[iH]at hd;exact⟨a8,gk,.inr (nb hd)⟩
    .cases nm
   split at he
   .rename_i sz xs Da qi;split at he
    .rename_i df;subst df;split at he
     .rename_i ys vP lK;split at he
      .rename_i JR;obtain⟨rQ,yJ,yQ⟩:=JR;simp only[some.injEq,Prod.mk.injEq]at he;obtain⟨rfl,rfl⟩:=he;obtain⟨fX,I,Sn,fG,ng,oZ,nh,ni,T6,T7,o1⟩:∃fX,bg w0 F0 X F fX Da an w/\∃Sn,aj w F (.aq (C.T e).sz xs) [dg] Sn/\(∀b,Sn b->b<w.heap.size)/\(∀b,Sn b->¬F b)/\(∀u b,Sn b->¬fX u b)/\
         (∀b,Sn b->X b\/w0.heap.size<=b)/\(∀u b,fX u b->S u b)/\(∀b,Sn b->∃u,S u b)/\az w F Da an (iS x.owner y) g8 (λ_=>False):=by
        split at qi
        .simp only[some.injEq,Prod.mk.injEq,j.aq.injEq,true_and]at qi;obtain⟨rfl,rfl⟩:=qi;have:=nW ae;subst this;exact⟨S,h,λ_=>False,by rw[aj];exact .inl ⟨rfl,_,rfl⟩,λ_ h=>h.elim,λ_ h=>h.elim,λ_ _ h=>h.elim,λ_ h=>h.elim,λ_ _ h=>h,λ_ h=>h.elim,a_⟩
        .obtain⟨bP,fg,aL,a0,Sn,bK,cF,dq,gk,hd,jB,tu,vQ⟩:=na h rfl ae qi;rw[e5 a0]at bK;exact⟨bP,fg,Sn,bK,cF,dq,gk,hd,jB,tu,vQ _ _ _ a_⟩
        .cases qi
       obtain⟨fj,ig,kX,news,iF,gl,h1,cO,c6,fC,tv,dy⟩:∃fj,bg w0 F0 X F fj vP an w/\∃kX news,aQ w F ys news kX/\Src C.P w i.size g8 ys.length news/\(∀b,kX b->b<w.heap.size)/\(∀b,kX b->¬F b)/\(∀u b,kX b->¬fj u b)/\
         (∀b,kX b->X b\/w0.heap.size<=b)/\(∀u b,fj u b->fX u b)/\(∀b,kX b->∃u,fX u b):=by
        split at lK
        .rename_i qj;simp only[some.injEq,Prod.mk.injEq]at lK;obtain⟨rfl,rfl⟩:=lK;rw[qj]at o1;have:=nW o1;subst this;exact⟨fX,I,λ_=>False,[],by rw[aQ],C_,λ_ h=>h.elim,λ_ h=>h.elim,λ_ _ h=>h.elim,λ_ h=>h.elim,λ_ _ h=>h,λ_ h=>h.elim⟩
        .rename_i dz qj;simp only[some.injEq,Prod.mk.injEq]at lK;obtain⟨rfl,rfl⟩:=lK;rw[qj]at o1;rcases vJ o1 with⟨rfl,rO,T8,rfl,_,p_⟩|⟨b,o,cap,de,JS,rfl,bX,b6,cR,cI,d_,dD⟩
         .exact⟨fX,I,λ_=>False,[],by rw[aQ],yM rO,λ_ h=>h.elim,λ_ h=>h.elim,λ_ _ h=>h.elim,λ_ h=>h.elim,λ_ _ h=>h,λ_ h=>h.elim⟩
         .exact⟨fX,I,λ_=>False,de,dD,yL d_ (by rw[f2];exact aQ.qh dD rQ),λ_ h=>h.elim,λ_ h=>h.elim,λ_ _ h=>h.elim,λ_ h=>h.elim,λ_ _ h=>h,λ_ h=>h.elim⟩
        .rename_i l qj;simp only[some.injEq,Prod.mk.injEq]at lK;obtain⟨rfl,rfl⟩:=lK;rw[qj]at o1;have:=lG o1;subst this;have JT:l≠[]->i.size=1:=by
          intro hl;cases l with
          |nil=>exact(hl rfl).elim
          |cons b l=>rw[f2,<-rQ (i2 b) (by simp)];rfl
         by_cases hl:l=[]
         .subst hl;refine⟨fX,I,λ_=>False,[],by simp only[map_nil];rw[aQ],?_,λ_ h=>h.elim,λ_ h=>h.elim,λ_ _ h=>h.elim,λ_ h=>h.elim,λ_ _ h=>h,λ_ h=>h.elim⟩;intro aw _;exact⟨rfl,by simp[Builtin.firstCells,ByteArray.extract];rfl⟩
         .refine⟨fX,I,λ_=>False,_,C4 l _,?_,λ_ h=>h.elim,λ_ h=>h.elim,λ_ _ h=>h.elim,λ_ h=>h.elim,λ_ _ h=>h,λ_ h=>h.elim⟩;rw[JT hl,length_map];exact JP l
        .rename_i a q qj;split at lK
         .rename_i T9 dz s2 aO;simp only[some.injEq,Prod.mk.injEq]at lK;obtain⟨rfl,rfl⟩:=lK;rw[qj]at o1;obtain⟨cx,fg,aL,a0,kX,bK,cF,dq,gk,hd,jB,tu,vQ⟩:=na I rfl o1 aO;rw[e5 a0,aj]at bK;rcases bK with⟨rfl,JU,iG⟩|⟨b,cap,cur,fs,fr,aB,iG,bX,b6,cR,cI,d_,dD,hv,ed,j4,o0⟩
          .simp at iG;subst iG;exact⟨cx,fg,λ_=>False,[],by rw[aQ],(yM JU),λ_ h=>h.elim,λ_ h=>h.elim,λ_ _ h=>h.elim,λ_ h=>h.elim,jB,λ_ h=>h.elim⟩
          .simp at iG;subst iG;refine⟨cx,fg,aB,_,ed,yL (rF b6 _) ?_,λc ai=>cF c (j4 c ai),λc ai=>dq c (j4 c ai),λu c ai=>gk u c (j4 c ai),λc ai=>hd c (j4 c ai),jB,λc ai=>tu c (j4 c ai)⟩;rw[f2];exact aQ.qh ed rQ
         .cases lK
        .cases lK
       have o2:news.length=ys.length*(C.T e).sz:=aQ.qh iF rQ;have lL:∀c,Sn c->¬kX c:=λc U aa=>by obtain⟨u,hu⟩:=dy c aa;exact nh u c U hu
       have jW:∀u c,Sn c->¬fj u c:=λu c U aa=>nh u c U (tv u c aa);have grow:∀(base:Option Addr) (cap:Nat) (mr:Vp) (Sx:Nat->Prop),dg= .slice base xs.length cap->Src C.P w i.size (.slice base xs.length cap) xs.length mr->aQ w F xs mr Sx->(∀d∈xs,d.wd=(C.T e).sz)->(∀c,Sx c->Sn c)->¬xs.length+ys.length<=cap->
         Good C w0 F0 X an w (Builtin.append_ #[T,bR] ty #[dg,g8]) (.aq (C.T e).sz (xs++ys)) vP:=by
        intro base cap mr Sx yA hold Db Dc dX nj;subst yA;have aG:=JM (ty:=ty) bH hu qg f1 f4 gl hold nj yQ (by rw[f3];exact yJ);have qd:=grownCap_ge w (xs.length+ys.length) cap e;have ts:=grownCap_le_maxLen w (xs.length+ys.length) cap e (by unfold maxLen;omega);have tw:=aQ.qh Db Dc;have JV:aQ w F (xs++ys) (mr++news) (λc=>Sx c\/kX c):=aQ.append Db iF (λ_ h=>.inl h) (λ_ h=>.inr h) (λc U aa=>lL c (dX c U) aa);have JW:(mr++news).length=(xs++ys).length*(C.T e).sz:=by simp[tw,o2,Nat.add_mul]
        have i3:=ig.tp (aw:=w.drew.alloc (.cells (mr.toArray++news.toArray++Builtin.zeroCells z.cells (grownCap w (xs.length+ys.length) cap e-(xs.length+ys.length))) e))
         (sz:=(C.T e).sz) (cap:=grownCap w (xs.length+ys.length) cap e) (xs:=xs++ys) (e:=e) (fr:=(0,0)) (Sn:=λc=>Sx c\/kX c) rfl rfl rfl ⟨rfl,λ_=>le_succ _⟩
         (λo _ ⟨_,aa⟩=>absurd aa (not_lt_zero _)) (by simpa using qd) ts
         (by
          simp only[Array.size_append,List.size_toArray,size_zeroCells,n2,tw,o2,mu,<-Nat.add_mul];congr 1;omega)
         (by
          intro d ad;rcases mem_append.1 ad with ad|ad
          .exact Dc d ad
          .exact rQ d ad)
         (by
          simp only[Array.toList_append];rw[take_left' JW];exact JV)
         (by rintro c (ai|ai);exact ng c (dX c ai);exact h1 c ai) (by rintro c (ai|ai);exact oZ c (dX c ai);exact cO c ai) (by rintro u c (ai|ai);exact jW u c (dX c ai);exact c6 u c ai) (by rintro c (ai|ai);exact ni c (dX c ai);exact fC c ai)
        refine⟨_,_,F,fj,aG,i3.1,?_⟩;have:=i3.2;simpa using this
       rw[aj]at fG;rcases fG with⟨rfl,vR,iG⟩|⟨b,cap,cur,fs,fr,aB,iG,bX,b6,cR,cI,d_,dD,hv,ed,j4,o0⟩
       .simp at iG;subst iG;by_cases Dd:ys=[]
        .subst Dd;have tx:news=[]:=by simpa using o2
         subst tx;refine⟨.slice vR 0 0,w,F,fj,?_,ig,.inr ⟨rfl,rfl,λ_=>False,by simp only[bW,gy];rw[aj];exact .inl ⟨rfl,_,rfl⟩,λ_ h=>h.elim,λ_ h=>h.elim,λ_ _ h=>h.elim,λ_ h=>h.elim⟩⟩;obtain⟨U,aa⟩:=gl w rfl;cases vR<;>rcases qg with⟨fk,rfl⟩|rfl<;>simp at U aa<;>simp[Builtin.append_,run_underlying bH,run_underlying hu,iC f1,U,aa,storeCells]
        .exact grow vR 0 [] (λ_=>False) rfl (yM vR) (by rw[aQ]) (by simp) (λ_ h=>h.elim) (by
          cases ys with
          |nil=>exact(Dd rfl).elim
          |cons y ys=>simp)
       .simp at iG;subst iG;by_cases nj:xs.length+ys.length<=cap
        ·
         have tw:=aQ.qh ed hv;have hlen:cur.toList.length=cap*(C.T e).sz:=by simp[dD]
         have hle:(xs.length+ys.length)*(C.T e).sz<=cap*(C.T e).sz:=mul_le_mul_right _ nj;rw[Nat.add_mul]at hle;have jg:cur.toList=cur.toList.take (xs.length*(C.T e).sz)++((cur.toList.drop (xs.length*(C.T e).sz)).take news.length++(cur.toList.drop (xs.length*(C.T e).sz)).drop news.length):=by
          rw[take_append_drop,take_append_drop]
         obtain⟨aw,ea,fh,gE,j0,lF,nT,nU⟩:=JL (ty:=ty) (n:=xs.length) (m:=ys.length) (cap:=cap) bH hu qg f1 gl b6 cR.low jg (by rw[f2];exact tw) (by simp[hlen,o2];omega) (aQ.lE _ _ _ iF) nj;have JX:=ig.turn gE j0 lF nT nU (oZ b bX) (λu hu=>jW u b bX hu) (ni b bX);have m9:∀c,F c->aw.heap[c]? =w.heap[c]? :=λc ai=>gE c (by rintro rfl;exact oZ _ bX ai);refine⟨_,aw,F,fj,ea,JX,.inr ⟨rfl,rfl,λc=>Sn c\/kX c,?_,?_,?_,?_,?_⟩⟩
         .simp only[bW,gy];rw[aj];have De:(cur.toList.take (xs.length*(C.T e).sz)++(news++(cur.toList.drop (xs.length*(C.T e).sz)).drop news.length)).toArray.size=cur.size:=by
           have:cur.size=cur.toList.length:=by simp
           rw[this];conv=>rhs;rw[jg]
           simp[hlen,o2];omega
          refine .inr ⟨b,cap,_,fs,fr,λc=>aB c\/kX c,by simp,.inl bX,fh,by rw[De];exact cR,by simpa using nj,d_,by rw[De];exact dD,?_,?_,?_,?_⟩
          .intro d ad;rcases mem_append.1 ad with ad|ad
           .exact hv d ad
           .exact rQ d ad
          .have oY:=aQ.frame m9 _ _ _ (λc ai=>gE c (by rintro rfl;exact o0 ai)) ed;have p4:=aQ.frame m9 _ _ _ (λc ai=>gE c (by rintro rfl;exact lL _ bX ai)) iF;have:((cur.toList.take (xs.length*(C.T e).sz)++(news++(cur.toList.drop (xs.length*(C.T e).sz)).drop news.length)).toArray.toList.take ((xs++ys).length*(C.T e).sz))=cur.toList.take (xs.length*(C.T e).sz)++news:=by
            simp only[];rw[<-append_assoc];exact take_left' (by rw[length_append,tw,o2,length_append,Nat.add_mul])
           rw[this];exact aQ.append oY p4 (λ_ h=>.inl h) (λ_ h=>.inr h) (λc U aa=>lL c (j4 c U) aa)
          .rintro c (ai|ai)
           .exact .inl (j4 c ai)
           .exact .inr ai
          .rintro(ai|ai)
           .exact o0 ai
           .exact lL b bX ai
         .rw[j0];rintro c (ai|ai);exact ng c ai;exact h1 c ai
         .rintro c (ai|ai);exact oZ c ai;exact cO c ai
         .rintro u c (ai|ai);exact jW u c ai;exact c6 u c ai
         .rintro c (ai|ai);exact ni c ai;exact fC c ai
        .exact grow (some ⟨b,0,none⟩) cap _ aB rfl (yL (rF b6 _) (by rw[f2];exact aQ.qh ed hv)) ed hv j4 nj
      .cases he
     .cases he
    .cases he
   .cases he
  .cases he
 .cases he
end
section
variable {C:bI} {w0 w aw:World} {F0 X F:Nat->Prop} {S:Nat->Nat->Prop} {s s1:af} {an:Nat->Value} {av:j}
theorem bg.JY (h:bg w0 F0 X F S s an w) {x:Nat} {q:Vm} {d a8:j} {b:Nat} (ad:j.sub q (s x)=some d) (ag:d.plain=false) (JZ:a8.tree=true) (U:∀v,gP d v->gP a8 v) (R:∀v,cM d v->cM a8 v)
  (aa:∀vs,a8≠.tuple vs) (iQ:a8.wd=d.wd) (J:∀b_ a dW,cy w q (s x) (bW (an x)) none=some (d,b_,a)->aj w F d b_ dW->dW b/\aj aw F a8 b_ dW) (lB:∀c,c≠b->aw.heap[c]? =w.heap[c]?) (df:aw.heap.size=w.heap.size) (yo:aw.os=w.os)
  (yp:aw.tape=w.tape) (p2:Out aw w):∃aB,bg w0 F0 X F aB (cA (gz x s) x (j.put q a8 (s x))) an aw:=by
 have aO:=fZ ad (.inl ag);have ae:=h.cG x;rw[az.b7 aO]at ae;obtain⟨b_,a,c1,dW,fg,aL,a0,bK,cF,dq⟩:=ctx q (s x) (bW (an x)) (S x) none d ae.2 ad;obtain⟨p3,aE⟩:=J b_ a dW fg cF;have qk:S x b:=a0 b p3;have m9:∀c,F c->aw.heap[c]? =w.heap[c]? :=λc ai=>lB c (by rintro rfl;exact h.ew x _ qk ai);have rJ:∀c,c1 c->c≠b:=λc ai e=>bK c ai (e▸p3);have iB:aj aw F (j.put q a8 (s x)) (bW (an x)) (λc=>c1 c\/dW c):=by
  rcases dq with⟨l,r,aI,aR,aX⟩|⟨ig,cur,e,fr,l,r,aI,aR,aX,bT,cb,bH⟩
  .rw[aI];exact aX aw a8 b_ dW m9 (λc ai=>lB c (rJ c ai)) iQ aE (λc ai lA=>bK c lA ai)
  .refine bH aw a8 b_ dW m9 (λc ai _=>lB c (rJ c ai)) ?_ iQ aE (λc ai lA=>bK c lA ai);rw[lB ig (rJ ig aR),aX,<-cb]
 have s_:cM (j.put q a8 (s x)) (an x)/\(j.put q a8 (s x)).tree=true:=by
  cases q with
  |nil=>
   simp only[j.sub,some.injEq]at ad;simp only[j.put];exact⟨R _ (ad▸ae.1),JZ⟩
  |cons k q=>
   refine⟨s9 ae.1 ad U (λ_=>aa) iQ,?_⟩;rcases oU k q a8 (s x)with⟨al,gs,aI,e⟩|⟨al,gs,aI,e⟩|⟨sz,xs,ys,aI,e⟩|⟨y,z,aI,e⟩|e<;>rw[e]<;>first|rfl|exact aO
 let au:=cA (gz x s) x (j.put q a8 (s x))
 have fz:∀y,y≠x->(au y).tree=true->au y=s y/\an y=an y:=λy a_ aO=>by
  have e:au y=cV.bQ x (s y):=hW _ _ a_;rw[e]at aO⊢;exact⟨(vA aO).2,rfl⟩
 have jY:(au x).plain=false->(s x).plain=false/\∀v,cM (s x) v->cM (au x) v:=by
  intro _;refine⟨?_,λv aE=>?_⟩
  .cases cH:(s x).plain with
   |false=>rfl
   |true=>rw[j.yi _ _ _ cH ad]at ag;cases ag
  .simp only[au,kp];cases q with
   |nil=>
    simp only[j.sub,some.injEq]at ad;simp only[j.put];exact R _ (ad▸aE)
   |cons k q=>exact s9 aE ad U (λ_=>aa) iQ
 have both:∀c,(c1 c\/dW c)->S x c:=λc ai=>ai.elim (aL c) (a0 c);refine⟨fm S x (λc=>c1 c\/dW c),?_⟩;constructor;case fl=>exact h.fl
 case fA=>exact h.fA
 case eg=>exact λb J=>by rw[df];exact h.eg b J
 case dw=>
  intro u c J;rw[df];simp only[fm]at J;split at J
  .exact h.dw x c (both c J)
  .exact h.dw u c J
 case ew=>
  intro u c J;simp only[fm]at J;split at J
  .exact h.ew x c (both c J)
  .exact h.ew u c J
 case dS=>
  intro u y c cJ J a_;simp only[fm]at J a_;split at J
  .rename_i hu;rw[if_neg (λe=>cJ (hu.trans e.symm))]at a_;exact h.dS x y c (λe=>cJ (hu.trans e)) (both c J) a_
  .rename_i hu;split at a_
   .exact h.dS u x c hu J (both c a_)
   .exact h.dS u y c cJ J a_
 case cU=>
  intro u c J;simp only[fm]at J;split at J
  .exact h.cU x c (both c J)
  .exact h.cU u c J
 case cG=>
  intro u;by_cases hu:u=x
  .subst hu;rw[kp,s6];exact(az.b7 s_.2).2 ⟨s_.1,iB⟩
  .rw[hW _ _ hu,s7 _ _ hu];have cJ:∀y c,y≠x->S y c->aw.heap[c]? =w.heap[c]? :=λy c a_ ai=>lB c (by rintro rfl;exact h.dS y x c a_ ai qk);refine(az.bQ fz rfl jY (λy dY d2 a_ gB ta=>?_) m9 _).1 _ _ _ (Nat.le_refl _) (λc ai=>cJ u c hu ai) (h.cG u);have tb:=h.cG y;rw[az.b7 (fZ gB ta)]at tb;exact vz dY _ _ _ none d2 tb.2 gB (λc ai=>cJ y c a_ ai)
 case old=>
  intro c da hX;rw[lB c ?_]
  .exact h.old c da hX
  .rintro rfl;rcases h.cU x c qk with bt|bt
   .exact hX bt
   .omega
 case size=>rw[df];exact h.size
 case os=>exact yo.trans h.os
 case tape=>exact yp.trans h.tape
 case output=>exact p2.trans h.output
 case fB=>exact h.fB
def Df (P:Program) (t:TypeId):Bool:=match P.info? t with
 |some i=>match i.zero with
  |some (.bool false)=>true
  |_=>false
 |none=>false
def vS (C:bI) (T:TypeId):Bool:=match(C.T T).k with
 | .map mv o3=>match(C.T mv).k with
   | .str=>Df C.P o3
   |_=>false
 |_=>false
def lM (C:bI) (s:af) (T:TypeId) (x i:j):Option j:=match x,i with
 | .h y q,.str k=>match j.sub q (s y)with
   |some (.cY (.mp m))=>if vS C T=true then some (.bool (oQ k m))else none
   |_=>none
 |_,_=>none
def ky (C:bI) (s:af) (T:TypeId) (x i v:j):Option af:=match x,i,v with
 | .h y q,.str k,.bool b=>match j.sub q (s y)with
   |some (.cY (.mp m))=>if vS C T=true then some (cA (gz y s) y (j.put q (.cY (.mp (m8 k b m))) (s y)))else none
   |_=>none
 |_,_,_=>none
theorem Dg (a4:C.dx) {T:TypeId} (h:vS C T=true):∃mv o3,C.P.underlying T=some (.map mv o3)/\C.P.underlying mv=some .string/\∀w,(zeroValue o3).run C.P w= .ok (.bool false) w:=by
 unfold vS at h;split at h
 .rename_i mv o3 ak;split at h
  .rename_i U;obtain⟨i,d,z,aI,aR,aX,bT,cb,bH,bx⟩:=a4.info (eQ ak (by simp));obtain⟨nP,a8,nQ,f1,f2,f3,f4,f5,f6,f7⟩:=a4.info (eQ U (by simp));rw[ak]at bx;rw[U]at f7;have:=nb f7;subst this;refine⟨mv,o3,?_,f6,λw=>?_⟩
   .rw[bH];cases d<;>simp[jj]at bx;rw[bx.1,bx.2]
   .unfold Df at h;split at h
    .rename_i me aL;split at h
     .rename_i a0;exact p6 aL a0 w
     .cases h
    .cases h
  .cases h
 .cases h
theorem yR (a b:ByteArray):(a==b)=true↔a=b:=by
 constructor
 .intro h;exact ByteArray.ext (eq_of_beq (show(a.data==b.data)=true from h))
 .rintro rfl;show(a.data==a.data)=true;simp
theorem yS (k:Vj) (b:Bool):∀(es:List MapEntry) (m:Vi) (i:Nat),es.map (λe=>(e.key,e.val))=m.map (λe=>(.string ⟨⟨e.1⟩⟩,.bool e.2))->
  (Instr.findNow .string (.string ⟨⟨k⟩⟩) es i=some none/\oQ k m=false/\m8 k b m=m++[(k,b)])\/
  ∃aD e,es[aD]? =some e/\e.key= .string ⟨⟨k⟩⟩/\Instr.findNow .string (.string ⟨⟨k⟩⟩) es i=some (some (i+aD,.bool (oQ k m)))/\m8 k b m=m.set aD (k,b)
 |[],m,i,h=>by
  have:m=[]:=by simpa using h.symm
  subst this;exact .inl ⟨rfl,rfl,rfl⟩
 |e::es,[],i,h=>by simp at h
 |e::es,(cN,eE)::m,i,h=>by
  simp only[map_cons,cons.injEq,Prod.mk.injEq]at h;obtain⟨⟨U,aa⟩,ax⟩:=h;by_cases ak:cN=k
  .subst ak;refine .inr ⟨0,e,rfl,U,?_,by simp[m8]⟩;have:(((⟨⟨cN⟩⟩:ByteArray)==⟨⟨cN⟩⟩))=true:=(yR _ _).2 rfl;simp only[Instr.findNow,U,aa,Instr.sameNow,oQ,this,if_true,Nat.add_zero]
  .have a2:((⟨⟨k⟩⟩:ByteArray)==⟨⟨cN⟩⟩)=false:=by
    refine Bool.eq_false_iff.2 λe=>ak ?_;have:=(yR _ _).1 e;simp only[ByteArray.mk.injEq,Array.mk.injEq]at this;exact this.symm
   rcases yS k b es m (i+1) ax with⟨aL,a0,bK⟩|⟨aD,fk,aL,a0,bK,cF⟩
   .refine .inl ⟨?_,?_,?_⟩
    .simp only[Instr.findNow,U,Instr.sameNow,a2];exact aL
    .simp[oQ,ak,a0]
    .simp[m8,ak,bK]
   .refine .inr ⟨aD+1,fk,aL,a0,?_,?_⟩
    .simp only[Instr.findNow,U,Instr.sameNow,a2];rw[bK];simp[oQ,ak,Nat.add_assoc,Nat.add_comm 1 aD]
    .simp[m8,ak,cF]
theorem vT {P:Program} {mv:TypeId} (ak:P.underlying mv=some .string) (e:Bool) (k:ByteArray) (w:World):(Instr.checkKey e 10000 mv (.string k)).run P w= .ok () w:=by
 unfold Instr.checkKey;simp[run_underlying ak]
theorem Dh (h:bg w0 F0 X F S s an w) {y:Nat} {q:Vm} {m:Vi} {v:Value} (aE:az w F s an (.h y q) v (λ_=>False)) (ad:j.sub q (s y)=some (.cY (.mp m))):
  ∃r ms ko,v= .map (some r)/\w.heap[r]? =some (.map ms ko)/\ms.toList.map (λe=>(e.key,e.val))=m.map (λe=>(.string ⟨⟨e.1⟩⟩,.bool e.2))/\
   ∃a,cy w q (s y) (bW (an y)) none=some (.cY (.mp m),[.map (some r)],a):=by
 rw[az]at aE;obtain⟨b_,a,aL,a0,bK⟩:=aE _ ad rfl;have U:Value.et v=true:=bK;rw[e5 U]at a0;have ae:=h.cG y;rw[az.b7 (fZ ad (.inl rfl))]at ae;obtain⟨eJ,bZ,c1,dW,k0,bX,b6,cR,cI,d_⟩:=ctx q (s y) (bW (an y)) (S y) none _ ae.2 ad;rw[k0]at aL;simp only[some.injEq,Prod.mk.injEq,true_and]at aL;obtain⟨rfl,rfl⟩:=aL;rw[aj]at cI;obtain⟨r,ms,ko,aI,aR,aX,bT⟩:=cI;rw[aI]at a0 k0;exact⟨r,ms,ko,by simpa using a0,aX,bT,bZ,k0⟩
theorem J0 (a4:C.dx) (h:bg w0 F0 X F S s an w) {T:TypeId} {x i:j} {dg lC:Value} (ae:az w F s an x dg (λ_=>False)) (ay:az w F s an i lC (λ_=>False)) (he:lM C s T x i=some av):
  Good C w0 F0 X an w (Instr.lookup T dg lC false) av s:=by
 unfold lM at he;split at he
 .rename_i y q k;split at he
  .rename_i m ad;split at he
   .rename_i gA;simp only[some.injEq]at he;subst he;obtain⟨mv,o3,t1,t2,t3⟩:=Dg a4 gA;obtain⟨r,ms,ko,rfl,aR,aX,_⟩:=Dh h ae ad;have:=lG ay;subst this;refine Good.same h (v:=.bool (oQ k m)) ?_ rfl (of_bool _);rcases yS k true ms.toList m 0 aX with⟨aL,a0,_⟩|⟨aD,e,_,_,aL,_⟩
    .simp[Instr.lookup,run_underlying t1,getObj,Sem.run,aR,vT t2,Instr.findKey,run_underlying t2,aL,t3,a0]
    .simp[Instr.lookup,run_underlying t1,getObj,Sem.run,aR,vT t2,Instr.findKey,run_underlying t2,aL]
   .cases he
  .cases he
 .cases he
theorem J1 (a4:C.dx) (h:bg w0 F0 X F S s an w) {T:TypeId} {x i v:j} {dg lC Di:Value} (ae:az w F s an x dg (λ_=>False)) (ay:az w F s an i lC (λ_=>False)) (aE:az w F s an v Di (λ_=>False)) {s2:af}
  (he:ky C s T x i v=some s2):∃aw aB,(Instr.mapUpdate T dg lC Di).run C.P w= .ok () aw/\bg w0 F0 X F aB s2 an aw:=by
 unfold ky at he;split at he
 .rename_i y q k b;split at he
  .rename_i m ad;split at he
   .rename_i gA;simp only[some.injEq]at he;subst he;obtain⟨mv,o3,t1,t2,t3⟩:=Dg a4 gA;obtain⟨r,ms,ko,rfl,aR,aX,I,iR⟩:=Dh h ae ad;have:=lG ay;subst this;have:=oX aE;subst this;have key:∀(vU:Array MapEntry) (yT:Nat),vU.toList.map (λe=>(e.key,e.val))=(m8 k b m).map (λe=>(.string ⟨⟨e.1⟩⟩,.bool e.2))->
      ∃aB,bg w0 F0 X F aB (cA (gz y s) y (j.put q (.cY (.mp (m8 k b m))) (s y))) an {w with heap:=w.heap.setIfInBounds r (.map vU yT)}:=by
     intro vU yT hm;have aG:r<w.heap.size:=(Array.getElem?_eq_some_iff.1 aR).1;refine bg.JY (b:=r) h ad rfl rfl (λv aE=>aE) (λv aE=>aE) (λvs e=>by cases e) rfl ?_ (λc ai=>?_) (by simp) rfl rfl ⟨rfl,λ_=>Nat.le_refl _⟩
     .intro b_ a dW bd eX;rw[iR]at bd;simp only[some.injEq,Prod.mk.injEq,true_and]at bd;obtain⟨rfl,_⟩:=bd;rw[aj]at eX⊢;obtain⟨gF,o4,T_,f1,f2,f3,f4⟩:=eX;simp only[cons.injEq,Value.map.injEq,some.injEq,and_true]at f1;subst f1;exact⟨f2,r,vU,yT,rfl,f2,by simp[aG],hm⟩
     .simp[Ne.symm ai]
    rcases yS k b ms.toList m 0 aX with⟨aL,_,a0⟩|⟨aD,e,fg,ge,aL,a0⟩
    .obtain⟨aB,bX⟩:=key (ms.push {key:=.string ⟨⟨k⟩⟩,val:=.bool b,born:=ko}) (ko+1) (by rw[a0];simp[aX]);exact⟨_,aB,by simp[Instr.mapUpdate,run_underlying t1,getObj,setObj,Sem.run,aR,vT t2,Instr.findKey,run_underlying t2,aL],bX⟩
    .rw[Nat.zero_add]at aL;obtain⟨aB,bX⟩:=key (ms.modify aD λe=>{e with key:=.string ⟨⟨k⟩⟩,val:=.bool b}) ko (by
      rw[a0,map_set,<-aX];apply ext_getElem?;intro n;by_cases a2:n=aD
      .subst a2;have:n<ms.toList.length:=(List.getElem?_eq_some_iff.1 fg).1;rw[getElem?_set_self (by simpa using this)];simp[fg]
      .simp[getElem?_set_ne (Ne.symm a2),Ne.symm a2])
     have J2:ms[aD]? =some e:=by simpa using fg
     exact⟨_,aB,by simp[Instr.mapUpdate,run_underlying t1,getObj,setObj,Sem.run,aR,vT t2,Instr.findKey,run_underlying t2,aL,J2,ge,Instr.keyThatStays,Instr.sameBits,(yR ⟨⟨k⟩⟩ ⟨⟨k⟩⟩).2 rfl],bX⟩
   .cases he
  .cases he
 .cases he
theorem J3 (h:bg w0 F0 X F S s an w) (t:TypeId):Good C w0 F0 X an w (Instr.makeMap t none) (.cY (.mp [])) s:=by
 have hold:∀b,b<w.heap.size->(w.alloc (.map #[] 0)).heap[b]? =w.heap[b]? :=by
  intro b J;show(w.heap.push _)[b]? =_;rw[Array.getElem?_push,if_neg (by omega)]
 refine⟨.map (some w.heap.size),w.alloc (.map #[] 0),F,S,?_,h.grow hold (by simp) rfl rfl ⟨rfl,λ_=>Nat.le_refl _⟩,.inr ⟨rfl,rfl,λb=>b=w.heap.size,?_,?_,?_,?_,?_⟩⟩
 .simp[Instr.makeMap,newObj,Sem.run]
 .rw[aj];refine⟨w.heap.size,#[],0,rfl,rfl,?_,rfl⟩;show(w.heap.push _)[_]? =_;simp
 .rintro b rfl;simp
 .rintro b rfl nV;exact Nat.lt_irrefl _ (h.eg _ nV)
 .rintro u b rfl hu;exact Nat.lt_irrefl _ (h.dw _ _ hu)
 .rintro b rfl;exact .inr h.size
end
end Go.cV
