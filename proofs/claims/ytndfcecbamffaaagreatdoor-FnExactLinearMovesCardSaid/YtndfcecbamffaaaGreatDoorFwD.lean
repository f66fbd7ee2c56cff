/- Part of a proof that a law returns true for every input. No condition. -/
import Derived.Test.YtndfcecbamffaaaGreatDoorFwC
import Derived.Test.YtndfcecbamffaaaGreatDoorFwA
import Derived.Laws.IdiomStrings
import Derived.Laws.Strings
import Derived.LaidEql
import Derived.WideLaws
import Derived.Laws.StructEq
namespace Go.cG
open List Option Nat Or
section
variable {C:bz} {w0 w:World} {F0 X F:Nat->Prop} {S:Nat->Nat->Prop} {s s1:ag} {an:Nat->Value} {av:j}
theorem mJ {k:IntKind} {n:Int} {v:Value} {aG:Nat->Prop} (h:az w F s an (.int k n) v aG):v= .int k n:=by
 have bC:=(az.b8 rfl).1 h;rw[al,eH bC.1]at bC;simpa using bC.2
theorem qX {b:Bool} {v:Value} {aG:Nat->Prop} (h:az w F s an (.bool b) v aG):v= .bool b:=by
 have bC:=(az.b8 rfl).1 h;rw[al,eH bC.1]at bC;simpa using bC.2
theorem mK {b:aca} {v:Value} {aG:Nat->Prop} (h:az w F s an (.str b) v aG):v= .string ⟨⟨b⟩⟩:=by
 have bC:=(az.b8 rfl).1 h;rw[al,eH bC.1]at bC;simpa using bC.2
theorem G0 {v:Value} {aG:Nat->Prop} (h:az w F s an .c6 v aG):v= .pointer none:=by
 have bC:=(az.b8 rfl).1 h;rw[al,eH bC.1]at bC;simpa using bC.2
theorem p3 {v:Value} {aG:Nat->Prop} (h:az w F s an .bc v aG):v= .slice none 0 0:=by
 have bC:=(az.b8 rfl).1 h;rw[al,eH bC.1]at bC;simpa using bC.2
theorem G1 {v:Value} {aG:Nat->Prop} (h:az w F s an .eT v aG):∃b,v= .bool b:=by
 have bC:=(az.b8 rfl).1 h;rw[al,eH bC.1]at bC;simpa using bC.2
theorem of_int (k:IntKind) (n:Int):az w F s an (.int k n) (.int k n) (λ_=>False):=(az.b8 rfl).2 ⟨rfl,by rw[al];rfl⟩
theorem of_bool (b:Bool):az w F s an (.bool b) (.bool b) (λ_=>False):=(az.b8 rfl).2 ⟨rfl,by rw[al];rfl⟩
theorem n_ (b:aca):az w F s an (.str b) (.string ⟨⟨b⟩⟩) (λ_=>False):=(az.b8 rfl).2 ⟨rfl,by rw[al];rfl⟩
theorem BV (b:Bool):az w F s an .eT (.bool b) (λ_=>False):=(az.b8 rfl).2 ⟨rfl,by rw[al];exact⟨b,rfl⟩⟩
def hU (op:BinOp) (k:IntKind) (a:Int) (cO:IntKind) (b:Int):Option j:=
 match op with
 | .shl=>if b<0 then none else some (.int k (k.wrap (a*2^(min b.toNat k.bits))))
 | .shr=>if b<0 then none else some (.int k (a.fdiv (2^(min b.toNat k.bits))))
 | .add=>if k=cO then some (.int k (k.wrap (a+b)))else none
 | .sub=>if k=cO then some (.int k (k.wrap (a-b)))else none
 | .mul=>if k=cO then some (.int k (k.wrap (a*b)))else none
 | .quo=>if k=cO/\b≠0 then some (.int k (k.wrap (a.tdiv b)))else none
 | .rem=>if k=cO/\b≠0 then some (.int k (a.tmod b))else none
 | .eql=>if k=cO then some (.bool (a==b))else none
 | .neq=>if k=cO then some (.bool (a !=b))else none
 | .lss=>if k=cO then some (.bool (decide (a<b)))else none
 | .leq=>if k=cO then some (.bool (decide (a<=b)))else none
 | .gtr=>if k=cO then some (.bool (decide (b<a)))else none
 | .geq=>if k=cO then some (.bool (decide (b<=a)))else none
 | .and=>if k=cO then some (.int k (bitsOf .and k a b))else none
 | .or=>if k=cO then some (.int k (bitsOf .or k a b))else none
 | .xor=>if k=cO then some (.int k (bitsOf .xor k a b))else none
 | .andNot=>if k=cO then some (.int k (bitsOf .andNot k a b))else none
def mL (op:BinOp) (a b:aca):Option j:=
 match op with
 | .add=>if a.length+b.length<=9223372036854775807 then some (.str (a++b))else none
 | .eql=>some (.bool (a==b))
 | .neq=>some (.bool !(a==b))
 | .lss=>some (.bool (Op.bytesLess a b))
 | .leq=>some (.bool (Op.bytesLess a b||a==b))
 | .gtr=>some (.bool !(Op.bytesLess a b||a==b))
 | .geq=>some (.bool !(Op.bytesLess a b))
 |_=>none
def kE (s:ag):j->Option acf
 | .bc=>some (some true)
 | .slice xs=>some (if xs=[]then none else some false)
 | .h x q=>match j.sub q (s x)with
   |some (.ao _ xs)=>some (if xs=[]then none else some false)
   |_=>none
 |_=>none
def kF (s:ag):j->acf
 | .c6=>some true
 | .ref _=>some false
 | .h x q=>match j.sub q (s x)with
   |some (.aV _)=>some false
   |_=>none
 |_=>none
def v_ (neg:Bool):acf->j
 |some b=>.bool (b !=neg)
 |none=>.eT
def structEq (P:Program) (T:TypeId):Bool:= !P.stoodInHeld T&& !P.eqGuardType P.depth T&&(P.fieldsOf T).toList.all λf=>decide (f.name≠ "_")
def ny (C:bz):List (TypeId×Nat)->Nat->acj->acj->acf
 |[],_,[],[]=>some true
 |(iL,off)::ar,n,d::ds,e::es=>if off=n then(match(C.T iL).k,d,e with
  | .int k,.int bO a,.int b1 b=>if bO=k/\b1=k then(ny C ar (n+1) ds es).map λr=>a==b&&r else none
  | .bool,.bool a,.bool b=>(ny C ar (n+1) ds es).map λr=>a==b&&r
  | .str,.str a,.str b=>(ny C ar (n+1) ds es).map λr=>a==b&&r
  |_,_,_=>none)else none
 |_,_,_,_=>none
def dI (C:bz) (s:ag) (op:BinOp) (T:TypeId) (x y:j):Option j:=
 match x,y with
 | .int k a,.int cO b=>hU op k a cO b
 | .str a,.str b=>mL op a b
 | .bool a,.bool b=>match op,(C.T T).k with
   | .eql,.bool=>some (.bool (a==b))
   | .neq,.bool=>some (.bool !(a==b))
   |_,_=>none
 | .agg ds,.agg es=>match op,(C.T T).k with
   | .eql,.struct ar=>if structEq C.P T=true then(ny C ar 0 ds es).map λb=>.bool b else none
   | .neq,.struct ar=>if structEq C.P T=true then(ny C ar 0 ds es).map λb=>.bool !b else none
   |_,_=>none
 |x,.bc=>match op,(C.T T).k with
  | .eql,.slice _=>(kE s x).map (v_ false)
  | .neq,.slice _=>(kE s x).map (v_ true)
  |_,_=>none
 |x,.c6=>match op,(C.T T).k with
  | .eql,.ptr _=>(kF s x).map λb=>.bool b
  | .neq,.ptr _=>(kF s x).map λb=>.bool !b
  |_,_=>none
 |_,_=>none
theorem Oq {P:Program} {op:BinOp} {T:TypeId} {k cO:IntKind} {a b:Int} (he:hU op k a cO b=some av) (w:World):
  ∃v,(binOp op T (.int k a) (.int cO b)).run P w= .ok v w/\az w F s an av v (λ_=>False):=by
 unfold hU at he;cases op<;>simp only at he<;>split at he<;>first|(cases he;done)|skip
 all_goals
  rename_i aj;simp only[some.injEq]at he;subst he
 all_goals first
  |(subst aj;simp only[binOp_add,binOp_sub,binOp_mul,binOp_eql,binOp_neq,binOp_lss,binOp_leq,binOp_gtr,binOp_geq,binOp_and,binOp_or,binOp_xor,binOp_andNot,Op.intArith,Op.intBits,Sem.run_pure,Result.ok.injEq,and_true,exists_eq_left']
    first|exact of_int _ _|exact of_bool _)
  |(obtain⟨rfl,bg⟩:=aj
    simp only[binOp_quo,binOp_rem,Op.intDiv,bg,if_false,Sem.run_pure,Result.ok.injEq,and_true,exists_eq_left'];exact of_int _ _)
  |(simp only[binOp_shl,binOp_shr,Op.shift,aj,if_false,Sem.run_pure,Result.ok.injEq,and_true,exists_eq_left']
    exact of_int _ _)
theorem wa (a:aca):(⟨⟨a⟩⟩:ByteArray).toList=a:=ByteArray.toList_eq _
theorem Ot (a b:aca):(⟨⟨a⟩⟩:ByteArray)++(⟨⟨b⟩⟩:ByteArray)=⟨⟨a++b⟩⟩:=by
 apply ByteArray.ext;simp[ByteArray.data_append]
theorem Ou {P:Program} {op:BinOp} {T:TypeId} {a b:aca} (he:mL op a b=some av) (w:World):
  ∃v,(binOp op T (.string ⟨⟨a⟩⟩) (.string ⟨⟨b⟩⟩)).run P w= .ok v w/\az w F s an av v (λ_=>False):=by
 have I:∀op,binOp op T (.string ⟨⟨a⟩⟩) (.string ⟨⟨b⟩⟩)=Op.stringOp op ⟨⟨a⟩⟩ ⟨⟨b⟩⟩:=by intro op;cases op<;>rfl
 rw[I];unfold mL at he;cases op<;>simp only[some.injEq]at he<;>first|(cases he;done)|skip
 case add=>
  split at he
  .rename_i hl;simp only[some.injEq]at he;subst he;have J:((ByteArray.size ⟨⟨a⟩⟩+ByteArray.size ⟨⟨b⟩⟩:Nat):Int)<=9223372036854775807:=by
    show((a.length+b.length:Nat):Int)<=_;omega
   refine⟨.string ⟨⟨a++b⟩⟩,?_,n_ _⟩;simp only[Op.stringOp,IntKind.max_i64];rw[if_neg (by omega),Ot];rfl
  .cases he
 all_goals
  subst he;simp only[Op.stringOp,wa,Sem.run_pure,Result.ok.injEq,and_true,exists_eq_left'];exact of_bool _
theorem BW (h:bm w0 F0 X F S s an w) {v:Value} {y:Nat} {q:ace} (aE:az w F s an (.h y q) v (λ_=>False)) {sz:Nat} {xs:acj} (ad:j.sub q (s y)=some (.ao sz xs)):
  (xs=[]/\∃a,v= .slice a 0 0)\/∃b cap cur e fr,v= .slice (some ⟨b,0,none⟩) xs.length cap/\w.heap[b]? =some (.cells cur e fr)/\l8 fr cur.size/\xs.length<=cap/\cap<=maxLen/\cur.size=cap*sz/\(∀d∈xs,d.wd=sz)/\
   ∃aG,aT w F xs (cur.toList.take (xs.length*sz)) aG/\(∀c,aG c->S y c)/\S y b:=by
 rw[az]at aE;obtain⟨cn,a,g1,g2,g3⟩:=aE _ ad rfl;have J:Value.ej v=true:=g3;rw[eH J]at g2;subst g2;have ae:=h.cz y;rw[az.b8 (gN ad (.inl rfl))]at ae;obtain⟨eZ,bG,dd,eG,k0,bO,b1,cX,cT,ev⟩:=ctx q (s y) (bZ (an y)) (S y) none _ ae.2 ad;rw[k0]at g1;simp only[some.injEq,Prod.mk.injEq,true_and]at g1;obtain⟨rfl,rfl⟩:=g1;rw[al]at cT;rcases cT with⟨rfl,a2,U⟩|⟨b,cap,cur,aN,fr,cI,aP,bQ,b_,bM,bH,hy,fC,lD,sd,eK,dX⟩
 .simp at U;exact .inl ⟨rfl,_,U⟩
 .simp at aP;exact .inr ⟨b,cap,cur,aN,fr,aP,b_,bM.low,bH,hy,fC,lD,cI,sd,λc aj=>b1 _ (eK c aj),b1 _ bQ⟩
theorem G2 (h:bm w0 F0 X F S s an w) {v:Value} {y:Nat} {q:ace} (aE:az w F s an (.h y q) v (λ_=>False)) {d:j} (ad:j.sub q (s y)=some (.aV d)):
  ∃b cur e fr,v= .pointer (some ⟨b,0,none⟩)/\w.heap[b]? =some (.cells cur e fr):=by
 rw[az]at aE;obtain⟨cn,a,g1,g2,g3⟩:=aE _ ad rfl;have J:Value.ej v=true:=g3;rw[eH J]at g2;subst g2;have ae:=h.cz y;rw[az.b8 (gN ad (.inl rfl))]at ae;obtain⟨eZ,bG,dd,eG,k0,bO,b1,cX,cT,ev⟩:=ctx q (s y) (bZ (an y)) (S y) none _ ae.2 ad;rw[k0]at g1;simp only[some.injEq,Prod.mk.injEq,true_and]at g1;obtain⟨rfl,rfl⟩:=g1;rw[al]at cT;obtain⟨b,cur,aN,fr,cI,aP,bQ,b_,_⟩:=cT;simp at aP;exact⟨b,cur,aN,fr,aP,b_⟩
theorem G3 {P:Program} {T e:TypeId} (aK:P.underlying T=some (.slice e)) (w:World):∀d,(Op.equalIn (d+1) T (.slice none 0 0) (.slice none 0 0)).run P w= .ok true w/\
  ∀a n c,(Op.equalIn (d+1) T (.slice (some a) n c) (.slice none 0 0)).run P w= .ok false w:=by
 intro d;refine⟨by simp[Op.equalIn,run_underlying aK],λa n c=>by simp[Op.equalIn,run_underlying aK]⟩
theorem G4 {P:Program} {T e:TypeId} (aK:P.underlying T=some (.pointer e)) (w:World):∀d,(Op.equalIn (d+1) T (.pointer none) (.pointer none)).run P w= .ok true w/\
  ∀a,(Op.equalIn (d+1) T (.pointer (some a)) (.pointer none)).run P w= .ok false w:=by
 intro d;refine⟨by simp[Op.equalIn,run_underlying aK],λa=>by simp[Op.equalIn,run_underlying aK]⟩
theorem G5 {P:Program} {T:TypeId} (aK:P.underlying T=some .bool) (w:World):∀d a b,(Op.equalIn (d+1) T (.bool a) (.bool b)).run P w= .ok (a==b) w:=by
 intro d a b;simp[Op.equalIn,run_underlying aK]
theorem G6 (h:bm w0 F0 X F S s an w) {x:j} {v:Value} (aE:az w F s an x v (λ_=>False)) {T e:TypeId} {r:acf} (aD:kE s x=some r) (aK:C.P.underlying T=some (.slice e)):
  ∃b,(Op.equal T v (.slice none 0 0)).run C.P w= .ok b w/\(∀eA,r=some eA->eA=b)/\Value.ej v=true/\∃a n c,v= .slice a n c:=by
 have aH:=λa n c=>(G3 aK w 9999).2 a n c;have fw:=(G3 aK w 9999).1;cases x with
 |bc=>
  have:=p3 aE;subst this;simp[kE]at aD;subst aD;exact⟨true,fw,by simp,rfl,_,_,_,rfl⟩
 |slice xs=>
  have bC:=(az.b8 rfl).1 aE;rw[al,eH bC.1]at bC;simp only[kE,some.injEq]at aD;obtain⟨_,⟨rfl,a,c,U,_,se⟩|⟨b,o,cap,dC,sz,U,aw⟩⟩:=bC
  .simp at U aD;subst U;subst aD;cases a with
   |none=>
    have:=se rfl;subst this;exact⟨true,fw,by simp,rfl,_,_,_,rfl⟩
   |some a=>exact⟨false,aH _ _ _,by simp,rfl,_,_,_,rfl⟩
  .simp at U;subst U;refine⟨false,aH _ _ _,?_,rfl,_,_,_,rfl⟩;subst aD;split<;>simp
 |h y q=>
  simp only[kE]at aD;split at aD
  .rename_i sz xs ad;simp only[some.injEq]at aD;rcases BW h aE ad with⟨rfl,a,rfl⟩|⟨b,cap,cur,aN,fr,rfl,_⟩
   .simp at aD;subst aD;cases a with
    |none=>exact⟨true,fw,by simp,rfl,_,_,_,rfl⟩
    |some a=>exact⟨false,aH _ _ _,by simp,rfl,_,_,_,rfl⟩
   .refine⟨false,aH _ _ _,?_,rfl,_,_,_,rfl⟩;subst aD;split<;>simp
  .cases aD
 |_=>simp[kE]at aD
theorem G7 (h:bm w0 F0 X F S s an w) {x:j} {v:Value} (aE:az w F s an x v (λ_=>False)) {T e:TypeId} {r:Bool} (aD:kF s x=some r) (aK:C.P.underlying T=some (.pointer e)):
  (Op.equal T v (.pointer none)).run C.P w= .ok r w/\∃a,v= .pointer a:=by
 have aH:=λa=>(G4 aK w 9999).2 a;have fw:=(G4 aK w 9999).1;cases x with
 |c6=>
  have:=G0 aE;subst this;simp[kF]at aD;subst aD;exact⟨fw,_,rfl⟩
 |ref d=>
  have bC:=(az.b8 rfl).1 aE;rw[al,eH bC.1]at bC;simp[kF]at aD;subst aD;obtain⟨_,b,o,dC,U,_⟩:=bC;simp at U;subst U;exact⟨aH _,_,rfl⟩
 |h y q=>
  simp only[kF]at aD;split at aD
  .rename_i d ad;simp only[some.injEq]at aD;subst aD;obtain⟨b,cur,e,fr,rfl,_⟩:=G2 h aE ad;exact⟨aH _,_,rfl⟩
  .cases aD
 |_=>simp[kF]at aD
theorem Ov (a1:C.du):∀(ar:List (TypeId×Nat)) (gs:List Field) (n:Nat) (ds es:acj) (r:Bool) (eQ l2 bK bJ:ach) (xs b0:Array Value) (bT cI:Nat->Prop),
  gs.map (λg=>(g.type,g.offset))=ar->(gs.all λf=>decide (f.name≠ "_"))=true->ny C ar n ds es=some r->aT w F ds bK bT->aT w F es bJ cI->xs.toList=eQ++bK->eQ.length=n->b0.toList=l2++bJ->l2.length=n->
  ∀m,(Op.eqFields (m+1) xs b0 gs).run C.P w= .ok r w:=by
 intro ar;induction ar with
 |nil=>
  intro gs n ds es r eQ l2 bK bJ xs b0 bT cI bo aO he R U ae hl a6 BX m;have:gs=[]:=by simpa using bo
  subst this;cases ds<;>cases es<;>simp[ny]at he;subst he;simp[Op.eqFields]
 |cons p ar ih=>
  obtain⟨iL,off⟩:=p;intro gs n ds es r eQ l2 bK bJ xs b0 bT cI bo aO he R U ae hl a6 BX m;cases gs with
  |nil=>simp at bo
  |cons g gs=>
   simp only[map_cons,cons.injEq,Prod.mk.injEq]at bo;obtain⟨⟨rfl,rfl⟩,bo⟩:=bo;simp only[all_cons,Bool.and_eq_true,decide_eq_true_eq]at aO;cases ds with
   |nil=>simp[ny]at he
   |cons d ds=>
   cases es with
   |nil=>simp[ny]at he
   |cons e es=>
   simp only[ny]at he;split at he
   .rename_i o4;rw[aT]at R U;obtain⟨aa,a2,yM,Ow,rfl,e0,f_,gA,tT,fe⟩:=R;obtain⟨ju,gQ,aaN,Ox,rfl,eR,eu,ga,fS,tU⟩:=U;have step:∀(x y:Value) (z:Bool),(C.T g.type).flat=true->aa=[x]->ju=[y]->(∀m,(Op.equalIn (m+1) g.type x y).run C.P w= .ok z w)->∀gl,ny C ar (n+1) ds es=some gl->
      (Op.eqFields (m+1) xs b0 (g::gs)).run C.P w= .ok (z&&gl) w:=by
     intro x y z ie Oy BZ heq gl c3;subst Oy;subst BZ;have Oz:xs[g.offset]? =some x:=by
      rw[<-Array.getElem?_toList,ae,o4,<-hl,getElem?_append_right (Nat.le_refl _)];simp
     have OA:b0[g.offset]? =some y:=by
      rw[<-Array.getElem?_toList,a6,o4,<-BX,getElem?_append_right (Nat.le_refl _)];simp
     have ax:=ih gs (n+1) ds es gl (eQ++[x]) (l2++[y]) a2 gQ xs b0 Ow Ox bo aO.2 c3 f_ eu (by rw[ae];simp) (by simp[hl]) (by rw[a6];simp) (by simp[BX]) m;unfold Op.eqFields;rw[if_pos aO.1];simp only[part,Sem.run_bind,BQ a1 ie,Result.andThen_ok,Bool.false_eq_true,if_false,Oz,OA,Sem.run_pure,heq];cases z
     .simp
     .simpa using ax
    split at he
    .rename_i k bO a b1 b ak;split at he
     .rename_i OB;obtain⟨rfl,rfl⟩:=OB;rw[al]at e0 eR;simp only[map_eq_some_iff]at he;obtain⟨gl,c3,rfl⟩:=he;obtain⟨i,wb,G8,aH,aN,aP,bQ,b_,bM,bH⟩:=a1.info (e8 ak (by simp));rw[ak]at bH;have sf:=v7 bH;subst sf;exact step _ _ _ (by simp[fv.flat,ak]) e0 eR (λm=>run_equalIn_int w m g.type _ _ a b bM) gl c3
     .cases he
    .rename_i a b ak;rw[al]at e0 eR;simp only[map_eq_some_iff]at he;obtain⟨gl,c3,rfl⟩:=he;obtain⟨i,wb,G8,aH,aN,aP,bQ,b_,bM,bH⟩:=a1.info (e8 ak (by simp));rw[ak]at bH;have sf:=BL bH;subst sf;exact step _ _ _ (by simp[fv.flat,ak]) e0 eR (λm=>run_equalIn_bool' w m g.type a b bM) gl c3
    .rename_i a b ak;rw[al]at e0 eR;simp only[map_eq_some_iff]at he;obtain⟨gl,c3,rfl⟩:=he;obtain⟨i,wb,G8,aH,aN,aP,bQ,b_,bM,bH⟩:=a1.info (e8 ak (by simp));rw[ak]at bH;have sf:=o1 bH;subst sf;refine step _ _ (a==b) (by simp[fv.flat,ak]) e0 eR (λm=>?_) gl c3;rw[run_equalIn_string w m g.type _ _ bM,wa,wa]
    .cases he
   .cases he
theorem G9 (a1:C.du) {T:TypeId} {ar:List (TypeId×Nat)} (ak:(C.T T).k= .struct ar) {ds es:acj} {dE gC:Value} {bT cI:Nat->Prop} {r:Bool} (ae:az w F s an (.agg ds) dE bT) (a6:az w F s an (.agg es) gC cI)
  (cb:structEq C.P T=true) (he:ny C ar 0 ds es=some r) (op:BinOp) (wc we:Operand):
  (eqGuard op T wc we dE gC).run C.P w= .ok () w/\(Op.equal T dE gC).run C.P w= .ok r w:=by
 obtain⟨i,d,z,aH,aN,aP,bQ,b_,bM,bH⟩:=a1.info (e8 ak (by simp));rw[ak]at bH;obtain⟨gs,rfl,hy⟩:=vZ bH;have sg:C.P.fieldsOf T=gs:=by simp[Program.fieldsOf,bM]
 simp only[structEq,Bool.and_eq_true,Bool.not_eq_true',sg]at cb;obtain⟨⟨eR,eu⟩,ga⟩:=cb;obtain⟨⟨xs,rfl⟩,qY⟩:=(az.b8 rfl).1 ae;obtain⟨⟨b0,rfl⟩,r7⟩:=(az.b8 rfl).1 a6;rw[al]at qY r7;constructor
 .cases op<;>simp[eqGuard,eu]
 .show(Op.equalIn (9999+1) T _ _).run C.P w=_;rw[run_equalIn_struct w 9999 T xs b0 (by rw[sg];exact bM) eR,sg];exact Ov a1 ar gs.toList 0 ds es r [] [] _ _ xs b0 bT cI hy ga he qY r7 rfl rfl rfl rfl 9998
theorem OC (a1:C.du) (h:bm w0 F0 X F S s an w) {op:BinOp} {T:TypeId} {x y:j} {dE gC:Value} (wc we:Operand) (ae:az w F s an x dE (λ_=>False)) (a6:az w F s an y gC (λ_=>False))
  (he:dI C s op T x y=some av):Good C w0 F0 X an w (do eqGuard op T wc we dE gC;binOp op T dE gC) av s:=by
 unfold dI at he;split at he
 .have:=mJ ae;subst this;have:=mJ a6;subst this;obtain⟨v,R,U⟩:=Oq (P:=C.P) (T:=T) he w;refine Good.same h (v:=v) ?_ ?_ U
  .rw[eqGuard_at_int];exact R
  .revert he;unfold hU;cases op<;>simp only<;>split<;>simp<;>(rintro rfl;rfl)
 .have:=mK ae;subst this;have:=mK a6;subst this;obtain⟨v,R,U⟩:=Ou (P:=C.P) (T:=T) he w;refine Good.same h (v:=v) ?_ ?_ U
  .rw[eqGuard_at_string];exact R
  .revert he;unfold mL;cases op<;>simp only<;>(try split)<;>simp<;>(try (rintro rfl;rfl))
 .have:=qX ae;subst this;have:=qX a6;subst this;split at he
  .rename_i ak;simp only[some.injEq]at he;subst he;obtain⟨i,d,z,aH,aN,aP,bQ,b_,bM,bH⟩:=a1.info (e8 ak (by simp));rw[ak]at bH;have:=BL bH;subst this;refine Good.same h ?_ rfl (of_bool _);rw[eqGuard_at_bool];simp[binOp,Op.equal,Op.maxDepth,G5 bM w 9999]
  .rename_i ak;simp only[some.injEq]at he;subst he;obtain⟨i,d,z,aH,aN,aP,bQ,b_,bM,bH⟩:=a1.info (e8 ak (by simp));rw[ak]at bH;have:=BL bH;subst this;refine Good.same h ?_ rfl (of_bool _);rw[eqGuard_at_bool];simp[binOp,Op.equal,Op.maxDepth,G5 bM w 9999]
  .cases he
 .split at he
  .rename_i ar ak;split at he
   .rename_i cb;simp only[map_eq_some_iff]at he;obtain⟨r,aD,rfl⟩:=he;obtain⟨g1,g2⟩:=G9 a1 ak ae a6 cb aD .eql wc we;obtain⟨⟨xs,rfl⟩,_⟩:=(az.b8 rfl).1 ae;obtain⟨⟨b0,rfl⟩,_⟩:=(az.b8 rfl).1 a6;exact Good.same h (by simp[g1,binOp,g2]) rfl (of_bool _)
   .cases he
  .rename_i ar ak;split at he
   .rename_i cb;simp only[map_eq_some_iff]at he;obtain⟨r,aD,rfl⟩:=he;obtain⟨g1,g2⟩:=G9 a1 ak ae a6 cb aD .neq wc we;obtain⟨⟨xs,rfl⟩,_⟩:=(az.b8 rfl).1 ae;obtain⟨⟨b0,rfl⟩,_⟩:=(az.b8 rfl).1 a6;exact Good.same h (by simp[g1,binOp,g2]) rfl (of_bool _)
   .cases he
  .cases he
 .have:=p3 a6;subst this;split at he
  .rename_i e ak;simp only[map_eq_some_iff]at he;obtain⟨r,aD,rfl⟩:=he;obtain⟨i,d,z,aH,aN,aP,bQ,b_,bM,bH⟩:=a1.info (e8 ak (by simp));rw[ak]at bH;have:=kD bH;subst this;obtain⟨b,R,U,aw,a0,cd,n5,rfl⟩:=G6 h ae aD bM;refine Good.same h (v:=.bool b) ?_ ?_ ?_
   .rw[eqGuard_at_slice];simp[binOp,R]
   .cases r<;>rfl
   .cases r with
    |none=>exact BV b
    |some eA=>have:=U eA rfl;subst this;simp only[v_,Bool.bne_false];exact of_bool _
  .rename_i e ak;simp only[map_eq_some_iff]at he;obtain⟨r,aD,rfl⟩:=he;obtain⟨i,d,z,aH,aN,aP,bQ,b_,bM,bH⟩:=a1.info (e8 ak (by simp));rw[ak]at bH;have:=kD bH;subst this;obtain⟨b,R,U,aw,a0,cd,n5,rfl⟩:=G6 h ae aD bM;refine Good.same h (v:=.bool !b) ?_ ?_ ?_
   .rw[eqGuard_at_slice];simp[binOp,R]
   .cases r<;>rfl
   .cases r with
    |none=>exact BV _
    |some eA=>have:=U eA rfl;subst this;simp only[v_,Bool.bne_true];exact of_bool _
  .cases he
 .have:=G0 a6;subst this;split at he
  .rename_i e ak;simp only[map_eq_some_iff]at he;obtain⟨r,aD,rfl⟩:=he;obtain⟨i,d,z,aH,aN,aP,bQ,b_,bM,bH⟩:=a1.info (e8 ak (by simp));rw[ak]at bH;have:=GP bH;subst this;obtain⟨R,a0,rfl⟩:=G7 h ae aD bM;refine Good.same h (v:=.bool r) ?_ rfl (of_bool _);rw[eqGuard_at_pointer];simp[binOp,R]
  .rename_i e ak;simp only[map_eq_some_iff]at he;obtain⟨r,aD,rfl⟩:=he;obtain⟨i,d,z,aH,aN,aP,bQ,b_,bM,bH⟩:=a1.info (e8 ak (by simp));rw[ak]at bH;have:=GP bH;subst this;obtain⟨R,a0,rfl⟩:=G7 h ae aD bM;refine Good.same h (v:=.bool !r) ?_ rfl (of_bool _);rw[eqGuard_at_pointer];simp[binOp,R]
  .cases he
 .cases he
end
section
variable {C:bz} {w0 w:World} {F0 X F:Nat->Prop} {S:Nat->Nat->Prop} {s s1:ag} {an:Nat->Value} {av:j}
def un (op:UnOp) (x:j):Option j:=
 match op,x with
 | .not,.bool b=>some (.bool !b)
 | .not,.eT=>some .eT
 | .neg,.int k n=>some (.int k (k.wrap (0-n)))
 |_,_=>none
theorem OD (h:bm w0 F0 X F S s an w) {op:UnOp} {x:j} {v:Value} (aE:az w F s an x v (λ_=>False)) (he:un op x=some av):Good C w0 F0 X an w (Op.unary op v) av s:=by
 unfold un at he;split at he<;>first|(cases he;done)|(simp only[some.injEq]at he;subst he)
 .have:=qX aE;subst this;exact Good.same h rfl rfl (of_bool _)
 .obtain⟨b,rfl⟩:=G1 aE;exact Good.same h rfl rfl (BV _)
 .have:=mJ aE;subst this;exact Good.same h rfl rfl (of_int _ _)
def ig (s:ag) (x:j):Option j:=
 match x with
 | .ref d=>some (.ref d)
 | .fn f c=>some (.fn f c)
 | .h y q=>match j.sub q (s y)with
   |some (.aV _)=>some (.h y q)
   |_=>none
 |_=>none
theorem OE {d:j} {v:Value} {aG:Nat->Prop} (h:az w F s an (.ref d) v aG):∃b o dC,v= .pointer (some ⟨b,o,none⟩)/\F b/\gJ w b o dC/\al w F d dC (λ_=>False):=by
 have bC:=(az.b8 rfl).1 h;rw[al,eH bC.1]at bC;obtain⟨_,b,o,dC,R,U,aw,aQ⟩:=bC;simp at R;subst R;exact⟨b,o,dC,rfl,U,aw,aQ⟩
theorem OG (h:bm w0 F0 X F S s an w) {x:j} {v:Value} (aE:az w F s an x v (λ_=>False)) (he:ig s x=some av):
  av=x/\x.plain=true/\((∃a,v= .pointer (some a))\/∃f c,v= .func (.func f) #[] c):=by
 unfold ig at he;split at he
 .simp only[some.injEq]at he;subst he;obtain⟨b,o,dC,rfl,_⟩:=OE aE;exact⟨rfl,rfl,.inl ⟨_,rfl⟩⟩
 .simp only[some.injEq]at he;subst he;rw[az]at aE;obtain⟨arr,rfl,_⟩:=aE;exact⟨rfl,rfl,.inr ⟨_,_,rfl⟩⟩
 .split at he
  .rename_i d ad;simp only[some.injEq]at he;subst he;obtain⟨b,cur,e,fr,rfl,_⟩:=G2 h aE ad;exact⟨rfl,rfl,.inl ⟨_,rfl⟩⟩
  .cases he
 .cases he
def ex (s:ag) (x:j) (k:Nat):Option j:=
 match x with
 | .tuple ds=>match ds[k]? with
   |some d=>if d.plain=true then some d else none
   |none=>none
 | .h y q=>match j.sub q (s y)with
   |some (.tuple ds)=>match ds[k]? with
    |some d=>if j.dj ds=true then none else some (if d.plain then d else .h y (q++[k]))
    |none=>none
   |_=>none
 |_=>none
theorem G_:∀(vs:ach) (k:Nat) (x:Value) (ds:acj),vs[k]? =some x->vs.length=ds.length->(∀(aB:Nat) (d:j) (y:Value),ds[aB]? =some d->vs[aB]? =some y->(gM y).length=d.wd)->
  ∃l r,vs.flatMap gM=l++(gM x++r)/\l.length=j.di (ds.take k)
 |[],k,x,ds,h,_,_=>by simp at h
 |v::vs,0,x,ds,h,hl,hw=>by
  simp at h;subst h;exact⟨[],vs.flatMap gM,by simp,by simp[j.di]⟩
 |v::vs,k+1,x,d::ds,h,hl,hw=>by
  obtain⟨l,r,aH,aN⟩:=G_ vs k x ds (by simpa using h) (by simpa using hl) (λaB d y R U=>hw (aB+1) d y (by simpa using R) (by simpa using U));refine⟨gM v++l,r,by simp[aH],?_⟩;have:=hw 0 d v (by simp) (by simp);simp[j.di,aN,this]
 |v::vs,k+1,x,[],h,hl,hw=>by simp at hl
theorem OH {d:j} {v:Value} (h:hh d v) (_hd:∀vs,d≠.tuple vs):bZ v=gM v:=by
 cases d with
 |agg ar=>obtain⟨arr,rfl⟩:=h;rfl
 |_=>
  have R:Value.ej v=true:=h;cases v<;>first|rfl|(simp[Value.ej]at R)
theorem OI {d:j} {v:Value} (h:hh d v) (ad:∀vs,d≠.tuple vs):cU d v:=by
 cases d with
 |tuple vs=>exact(ad _ rfl).elim
 |_=>exact h
theorem OJ (h:bm w0 F0 X F S s an w) {x:j} {v:Value} {k:Nat} (aE:az w F s an x v (λ_=>False)) (he:ex s x k=some av):Good C w0 F0 X an w (Instr.extract v k) av s:=by
 have pick:∀(ds:acj) (d:j) (arr:Array Value),ds[k]? =some d->(arr.size=ds.length/\∀(k:Nat) (d:j) (x:Value),ds[k]? =some d->arr[k]? =some x->hh d x/\(∀vs,d≠.tuple vs)/\(gM x).length=d.wd)->
   ∃x,arr[k]? =some x/\cU d x/\((bZ (.tuple arr)).drop (j.di (ds.take k))).take d.wd=bZ x:=by
  intro ds d arr ad ⟨bD,l_⟩;have cW:k<arr.size:=by rw[bD];exact(List.getElem?_eq_some_iff.1 ad).1
  have ae:arr[k]? =some arr[k]:=Array.getElem?_eq_getElem cW;obtain⟨g1,g2,g3⟩:=l_ k d _ ad ae;obtain⟨l,r,aH,aN⟩:=G_ arr.toList k arr[k] ds (by simp[cW]) (by simpa using bD) (λaB d y R U=>(l_ aB d y R (by simpa using U)).2.2);refine⟨_,ae,OI g1 g2,?_⟩;rw[OH g1 g2];simp only[bZ];rw[aH];exact r1 l _ r _ _ aN g3
 unfold ex at he;split at he
 .rename_i ds;split at he
  .rename_i d ad;split at he
   .rename_i ai;simp only[some.injEq]at he;subst he;have bC:=(az.b8 rfl).1 aE;obtain⟨⟨arr,rfl,bD⟩,eO⟩:=bC;obtain⟨x,ae,J,aj⟩:=pick ds d arr ad bD;have aD:(Instr.extract (.tuple arr) k).run C.P w= .ok x w:=by simp[Instr.extract,ae]
    rw[al]at eO;obtain⟨bK,e6,bJ,bT,gU,e,gL,e0,f_,gA,fe,lz⟩:=aT.pick ds _ _ k d eO ad;rw[e,r1 bK e6 bJ _ _ gL (al.length _ _ _ fe)]at aj;by_cases aK:d.tree=true
    .exact Good.same h aD ai ((az.b8 aK).2 ⟨J,by rw[<-aj];exact al.plain _ _ _ _ ai fe⟩)
    .cases d<;>first|exact(aK rfl).elim|(rw[al]at fe;exact fe.elim)|exact Good.same h aD rfl (by rw[az];trivial)|(have bk:=al.plain _ _ _ (λ_=>False) ai fe;rw[aj,eH (by exact J)]at bk;exact Good.same h aD rfl (az.o5 _ _ rfl bk))
   .cases he
  .cases he
 .rename_i y q;split at he
  .rename_i ds ad;split at he
   .rename_i d ak;split at he
    .cases he
    .rename_i dQ;simp only[some.injEq]at he;have dQ:(j.tuple ds).plain=false:=by simpa [j.plain]using dQ
     rw[az]at aE;obtain⟨cn,a,g1,g2,g3⟩:=aE _ ad dQ;obtain⟨arr,rfl,bD⟩:=g3;obtain⟨x,ae,J,aj⟩:=pick ds d arr ak bD;have aD:(Instr.extract (.tuple arr) k).run C.P w= .ok x w:=by simp[Instr.extract,ae]
     have a6:=h.cz y;rw[az.b8 (gN ad (.inl dQ))]at a6;obtain⟨eZ,bG,dd,eG,k0,bO,b1,cX,cT,ev⟩:=ctx q (s y) (bZ (an y)) (S y) none _ a6.2 ad;rw[k0]at g1;simp only[some.injEq,Prod.mk.injEq,true_and]at g1;obtain⟨rfl,rfl⟩:=g1;rw[g2]at aj;split at he
     .rename_i ai;subst he;rw[al]at cT;obtain⟨bK,e6,bJ,bT,gU,e,gL,e0,f_,gA,fe,lz⟩:=aT.pick ds _ _ k d cT ak;rw[e,r1 bK e6 bJ _ _ gL (al.length _ _ _ fe)]at aj;by_cases aK:d.tree=true
      .exact Good.same h aD ai ((az.b8 aK).2 ⟨J,by rw[<-aj];exact al.plain _ _ _ _ ai fe⟩)
      .cases d<;>first|exact(aK rfl).elim|(rw[al]at fe;exact fe.elim)|exact Good.same h aD rfl (by rw[az];trivial)|(have bk:=al.plain _ _ _ (λ_=>False) ai fe;rw[aj,eH (by exact J)]at bk;exact Good.same h aD rfl (az.o5 _ _ rfl bk))
     .subst he;refine Good.same h aD rfl ?_;rw[az];intro d2 fJ vV;rw[vY w q _ _ _ _ _ _ [k] k0];rw[vX _ _ _ _ ad]at fJ;simp only[j.sub,ak,some.injEq]at fJ;subst fJ;simp only[cM,ak];exact⟨_,_,rfl,aj.symm,J⟩
   .cases he
  .cases he
 .cases he
def lE (C:bz) (s:ag) (T:TypeId) (x:j) (k:Nat):Option j:=
 match(C.T T).k with
 | .struct ar=>match ar[k]? with
   |some (iL,off)=>match x with
    | .agg ds=>match ds[k]? with
      |some d=>if j.di (ds.take k)=off/\fits C iL d=true/\d.plain=true/\d.tree=true then some d else none
      |none=>none
    | .h y q=>match j.sub q (s y)with
      |some (.agg ds)=>match ds[k]? with
       |some d=>if j.di (ds.take k)=off/\fits C iL d=true/\j.dj ds=false/\d.tree=true then some (if d.plain then d else .h y (q++[k]))else none
       |none=>none
      |_=>none
    |_=>none
   |none=>none
 |_=>none
theorem OK (a1:C.du) (h:bm w0 F0 X F S s an w) {T:TypeId} {x:j} {v:Value} {k:Nat} (aE:az w F s an x v (λ_=>False)) (he:lE C s T x k=some av):Good C w0 F0 X an w (Instr.field T v k) av s:=by
 have key:∀(ar:List (TypeId×Nat)) (iL:TypeId) (off:Nat),(C.T T).k= .struct ar->ar[k]? =some (iL,off)->∀(ds:acj) (d:j) (arr:Array Value) (aG:Nat->Prop),ds[k]? =some d->j.di (ds.take k)=off->fits C iL d=true->aT w F ds arr.toList aG->
   ∃x gU,(Instr.field T (.agg arr) k).run C.P w= .ok x w/\cU d x/\al w F d (bZ x) gU/\(arr.toList.drop off).take d.wd=bZ x:=by
  intro ar iL off ak bf ds d arr aG ad o4 gX eO;obtain⟨i,wb,z,aH,aN,aP,bQ,b_,bM,bH⟩:=a1.info (e8 ak (by simp));rw[ak]at bH;obtain⟨gs,rfl,hy⟩:=vZ bH;obtain⟨g,g1,rfl,rfl⟩:∃g,gs[k]? =some g/\g.type=iL/\g.offset=off:=by
   rw[<-hy,getElem?_map]at bf;simp only[map_eq_some_iff,Prod.mk.injEq]at bf;obtain⟨g,R,U,aw⟩:=bf;exact⟨g,by simpa using R,U,aw⟩
  obtain⟨bK,e6,bJ,bT,gU,e,gL,e0,f_,gA,fe,lz⟩:=aT.pick ds _ _ k d eO ad;obtain⟨x,aD,Ha,k6⟩:=Od (w:=w) a1 e (gL.trans o4) fe gX;refine⟨x,gU,?_,k6,by rw[Ha];exact fe,?_⟩
  .simp[Instr.field,run_underlying bM,g1,asAgg,aD]
  .rw[e,Ha,<-o4];exact r1 bK e6 bJ _ _ gL (al.length _ _ _ fe)
 have Hb:∀(d:j) (x:Value) (gU:Nat->Prop),d.plain=true->cU d x->al w F d (bZ x) gU->az w F s an d x (λ_=>False):=by
  intro d x gU ai J eO;by_cases aK:d.tree=true
  .exact(az.b8 aK).2 ⟨J,al.plain _ _ _ _ ai eO⟩
  .cases d<;>first|exact(aK rfl).elim|(rw[al]at eO;exact eO.elim)|(rw[az];trivial)|(have bk:=al.plain _ _ _ (λ_=>False) ai eO;rw[eH (by exact J)]at bk;exact az.o5 _ _ rfl bk)
 unfold lE at he;split at he
 .rename_i ar ak;split at he
  .rename_i iL off bf;split at he
   .rename_i ds;split at he
    .rename_i d ad;split at he
     .rename_i aj;simp only[some.injEq]at he;subst he;obtain⟨⟨arr,rfl⟩,eO⟩:=(az.b8 rfl).1 aE;rw[al]at eO;obtain⟨x,gU,aD,J,B0,_⟩:=key ar iL off ak bf ds d arr _ ad aj.1 aj.2.1 eO;exact Good.same h aD aj.2.2.1 (Hb d x gU aj.2.2.1 J B0)
     .cases he
    .cases he
   .rename_i y q;split at he
    .rename_i ds ad;split at he
     .rename_i d mH;split at he
      .rename_i aj;simp only[some.injEq]at he;have dQ:(j.agg ds).plain=false:=by simpa [j.plain]using aj.2.2.1
       rw[az]at aE;obtain⟨cn,a,g1,g2,g3⟩:=aE _ ad dQ;obtain⟨arr,rfl⟩:=g3;have a6:=h.cz y;rw[az.b8 (gN ad (.inl dQ))]at a6;obtain⟨eZ,bG,dd,eG,k0,bO,b1,cX,cT,ev⟩:=ctx q (s y) (bZ (an y)) (S y) none _ a6.2 ad;rw[k0]at g1;simp only[some.injEq,Prod.mk.injEq,true_and]at g1;obtain⟨rfl,rfl⟩:=g1;rw[al,<-g2]at cT;obtain⟨x,gU,aD,J,B0,gY⟩:=key ar iL off ak bf ds d arr _ mH aj.1 aj.2.1 cT;by_cases ai:d.plain=true
       .rw[if_pos ai]at he;subst he;exact Good.same h aD ai (Hb d x gU ai J B0)
       .rw[if_neg ai]at he;subst he;refine Good.same h aD rfl ?_;rw[az];intro d2 fJ vV;rw[vY w q _ _ _ _ _ _ [k] k0];rw[vX _ _ _ _ ad]at fJ;simp only[j.sub,mH,some.injEq]at fJ;subst fJ;simp only[cM,mH];refine⟨_,_,rfl,?_,J⟩;rw[aj.1,<-g2];exact gY.symm
      .cases he
     .cases he
    .cases he
   .cases he
  .cases he
 .cases he
end
section
variable {C:bz} {w0 w:World} {F0 X F:Nat->Prop} {S:Nat->Nat->Prop} {s s1:ag} {an:Nat->Value} {av:j}
def idx (C:bz) (T:TypeId) (x i:j):Option j:=
 match(C.T T).k,x,i with
 | .str,.str l,.int _ n=>if 0<=n then(match l[n.toNat]? with|some b=>some (.int .u8 b.toNat)|none=>none)else none
 |_,_,_=>none
theorem OL (l:aca) (n:Nat):(⟨⟨l⟩⟩:ByteArray)[n]? =l[n]? :=by
 by_cases h:n<l.length
 .have bC:n<(⟨⟨l⟩⟩:ByteArray).size:=h;rw[getElem?_eq_getElem h,getElem?_pos (⟨⟨l⟩⟩:ByteArray) n bC];rfl
 .have bC:¬n<(⟨⟨l⟩⟩:ByteArray).size:=h;rw[getElem?_eq_none (by omega),getElem?_neg (⟨⟨l⟩⟩:ByteArray) n bC]
theorem OM (a1:C.du) (h:bm w0 F0 X F S s an w) {T:TypeId} {x i:j} {v nx:Value} (aE:az w F s an x v (λ_=>False)) (ax:az w F s an i nx (λ_=>False)) (he:idx C T x i=some av):
  Good C w0 F0 X an w (Instr.index T v nx) av s:=by
 unfold idx at he;split at he
 .rename_i l k n ak;have:=mK aE;subst this;have:=mJ ax;subst this;obtain⟨i,d,z,aH,aN,aP,bQ,b_,bM,bH⟩:=a1.info (e8 ak (by simp));rw[ak]at bH;have:=o1 bH;subst this;split at he
  .rename_i aO;split at he
   .rename_i b I;simp only[some.injEq]at he;subst he;refine Good.same h ?_ rfl (of_int _ _);simp[Instr.index,asIntOf,run_underlying bM,aO,OL,I]
   .cases he
  .cases he
 .cases he
def lenOf (s:ag):j->Option Nat
 | .str l=>some l.length
 | .bc=>some 0
 | .slice xs=>some xs.length
 | .h y q=>match j.sub q (s y)with
   |some (.ao _ xs)=>some xs.length
   |_=>none
 |_=>none
def p4 (C:bz) (s:ag) (T:TypeId) (x:j):Option j:=
 match(C.T T).k,x with
 | .str,.str l=>some (.int .i64 l.length)
 | .slice _,.bc=>some (.int .i64 0)
 | .slice _,.slice xs=>some (.int .i64 xs.length)
 | .slice _,.h y q=>match j.sub q (s y)with
   |some (.ao _ xs)=>some (.int .i64 xs.length)
   |_=>none
 |_,_=>none
theorem yN {xs:acj} {v:Value} {aG:Nat->Prop} (h:az w F s an (.slice xs) v aG):(xs=[]/\∃a c,v= .slice a 0 c/\c<=maxLen/\(a=none->c=0))\/
  ∃b o cap dC sz,v= .slice (some ⟨b,o,none⟩) xs.length cap/\F b/\xs.length<=cap/\cap<=maxLen/\(∀d∈xs,d.wd=sz)/\gJ w b o dC/\aT w F xs dC (λ_=>False):=by
 have bC:=(az.b8 rfl).1 h;rw[al,eH bC.1]at bC;obtain⟨_,⟨rfl,a,c,U,aw⟩|⟨b,o,cap,dC,sz,U,aw⟩⟩:=bC
 .simp at U;exact .inl ⟨rfl,a,c,U,aw⟩
 .simp at U;exact .inr ⟨b,o,cap,dC,sz,U,aw⟩
theorem ON (a1:C.du) (h:bm w0 F0 X F S s an w) {T ty:TypeId} {x:j} {v:Value} (aE:az w F s an x v (λ_=>False)) (he:p4 C s T x=some av):
  Good C w0 F0 X an w (Builtin.len_ #[T] ty #[v]) av s:=by
 unfold p4 at he;split at he
 .rename_i l ak;have:=mK aE;subst this;obtain⟨i,d,z,aH,aN,aP,bQ,b_,bM,bH⟩:=a1.info (e8 ak (by simp));rw[ak]at bH;have:=o1 bH;subst this;simp only[some.injEq]at he;subst he;refine Good.same h ?_ rfl (of_int _ _);simp[Builtin.len_,run_underlying bM,goInt];rfl
 .rename_i e ak;have:=p3 aE;subst this;obtain⟨i,d,z,aH,aN,aP,bQ,b_,bM,bH⟩:=a1.info (e8 ak (by simp));rw[ak]at bH;have:=kD bH;subst this;simp only[some.injEq]at he;subst he;refine Good.same h ?_ rfl (of_int _ _);simp[Builtin.len_,run_underlying bM,goInt]
 .rename_i e xs ak;obtain⟨i,d,z,aH,aN,aP,bQ,b_,bM,bH⟩:=a1.info (e8 ak (by simp));rw[ak]at bH;have:=kD bH;subst this;simp only[some.injEq]at he;subst he;refine Good.same h ?_ rfl (of_int _ _);rcases yN aE with⟨rfl,a,c,rfl,_⟩|⟨b,o,cap,dC,sz,rfl,_⟩<;>simp[Builtin.len_,run_underlying bM,goInt]
 .rename_i e y q ak;split at he
  .rename_i sz xs ad;obtain⟨i,d,z,aH,aN,aP,bQ,b_,bM,bH⟩:=a1.info (e8 ak (by simp));rw[ak]at bH;have:=kD bH;subst this;simp only[some.injEq]at he;subst he;refine Good.same h ?_ rfl (of_int _ _);rcases BW h aE ad with⟨rfl,_,rfl⟩|⟨b,cap,cur,aN,fr,rfl,_⟩<;>simp[Builtin.len_,run_underlying bM,goInt]
  .cases he
 .cases he
def bytesOf:acj->Option aca
 |[]=>some []
 | .int .u8 n::r=>if 0<=n/\n<256 then(bytesOf r).map (UInt8.ofNat n.toNat::·)else none
 |_=>none
def gD (b:UInt8):j:=.int .u8 b.toNat
theorem OO (l:aca):bytesOf (l.map gD)=some l:=by
 induction l with
 |nil=>rfl
 |cons b l ih=>
  have I:b.toNat<256:=b.toNat_lt;simp only[map_cons,gD,bytesOf,Int.toNat_natCast];rw[if_pos (by omega),ih];simp
theorem B1:∀(xs:acj) (l:aca) (cs:ach) (aG:Nat->Prop),bytesOf xs=some l->aT w F xs cs aG->cs=l.map (λb=>.int .u8 (b.toNat:Int))/\xs.length=l.length
 |[],l,cs,aG,h,aD=>by simp[bytesOf]at h;subst h;rw[aT]at aD;subst aD;exact⟨rfl,rfl⟩
 |x::xs,l,cs,aG,h,aD=>by
  unfold bytesOf at h;split at h
  .rename_i e;cases e
  .rename_i n r e;simp only[cons.injEq]at e;obtain⟨rfl,rfl⟩:=e;split at h
   .rename_i aO;simp only[map_eq_some_iff]at h;obtain⟨bR,R,rfl⟩:=h;rw[aT]at aD;obtain⟨bK,bJ,bT,cI,rfl,U,aw,_⟩:=aD;obtain⟨rfl,aQ⟩:=B1 xs bR bJ cI R aw;rw[al]at U;subst U;refine⟨?_,by simp[aQ]⟩;simp only[map_cons,cons_append,nil_append,cons.injEq,and_true,Value.int.injEq,true_and];simp only[UInt8.toNat_ofNat'];omega
   .cases h
  .cases h
theorem bm.wg (h:bm w0 F0 X F S s an w) {au:World} {sz cap:Nat} {xs:acj} {cur:Array Value} {e:TypeId} {fr:Nat×Nat} {Sn:Nat->Prop}
  (hw:au.heap=w.heap.push (.cells cur e fr)) (R:au.os=w.os) (U:au.tape=w.tape) (aw:Out au w)
  (bf:l8 fr (cur.size+(sz-1))) (hle:xs.length<=cap) (hm:cap<=maxLen) (dm:cur.size=cap*sz) (jN:∀d∈xs,d.wd=sz) (aE:aT w F xs (cur.toList.take (xs.length*sz)) Sn)
  (cW:∀b,Sn b->b<w.heap.size) (aZ:∀b,Sn b->¬F b) (bI:∀u b,Sn b->¬S u b) (bg:∀b,Sn b->X b\/w0.heap.size<=b):
  bm w0 F0 X F S s an au/\iK w0 X F S s an au (.ao sz xs) (.slice (some ⟨w.heap.size,0,none⟩) xs.length cap):=by
 have hold:∀b,b<w.heap.size->au.heap[b]? =w.heap[b]? :=by
  intro b I;rw[hw,Array.getElem?_push,if_neg (by omega)]
 have Hc:au.heap.size=w.heap.size+1:=by rw[hw];simp
 refine⟨h.grow hold (by omega) R U aw,.inr ⟨rfl,rfl,λb=>b=w.heap.size\/Sn b,?_,?_,?_,?_,?_⟩⟩
 .simp only[bZ,gM];rw[al];refine .inr ⟨w.heap.size,cap,cur,e,fr,Sn,rfl,.inl rfl,?_,bf,hle,hm,dm,jN,?_,λc aj=>.inr aj,λaj=>Nat.lt_irrefl _ (cW _ aj)⟩
  .rw[hw];simp
  .exact aT.frame (λb I=>hold b (h.dP b I)) _ _ _ (λb I=>hold b (cW b I)) aE
 .rintro b (rfl|I)
  .omega
  .have:=cW b I;omega
 .rintro b (rfl|I) p2
  .exact Nat.lt_irrefl _ (h.dP _ p2)
  .exact aZ b I p2
 .rintro u b (rfl|I) hu
  .exact Nat.lt_irrefl _ (h.dt _ _ hu)
  .exact bI u b I hu
 .rintro b (rfl|I)
  .exact .inr h.size
  .exact bg b I
def hV (C:bz) (s:ag) (A B:TypeId) (x:j):Option j:=
 if(C.T A).ok=true then
 match(C.T B).k,x with
 | .int k,.int _ n=>some (.int k (k.wrap n))
 | .str,.str l=>match(C.T A).k with
   | .str=>some (.str l)
   |_=>none
 | .str,x=>match(C.T A).k with
   | .slice e=>match(C.T e).k with
     | .int .u8=>match x with
       | .bc=>some (.str [])
       | .slice xs=>(bytesOf xs).map .str
       | .h y q=>match j.sub q (s y)with
         |some (.ao 1 xs)=>(bytesOf xs).map .str
         |_=>none
       |_=>none
     |_=>none
   |_=>none
 | .slice e,.str l=>match(C.T A).k,(C.T e).k with
   | .str,.int .u8=>if l.length<=9223372036854775807 then some (.ao 1 (l.map gD))else none
   |_,_=>none
 |_,_=>none
 else none
theorem Hd (l:aca) (aG:Nat->Prop):aT w F (l.map gD) (l.map λb=>.int .u8 (b.toNat:Int)) aG:=by
 induction l generalizing aG with
 |nil=>simp only[map_nil];rw[aT]
 |cons b l ih=>
  simp only[map_cons];rw[aT];exact⟨[.int .u8 (b.toNat:Int)],_,λ_=>False,λ_=>False,rfl,by rw[gD,al],ih _,λ_ h=>h.elim,λ_ h=>h.elim,λ_ h=>h.elim⟩
theorem OP (a1:C.du) (h:bm w0 F0 X F S s an w) {A B:TypeId} {x:j} {v:Value} (aE:az w F s an x v (λ_=>False)) (he:hV C s A B x=some av):
  Good C w0 F0 X an w (convert A B v) av s:=by
 unfold hV at he;split at he
 .rename_i hW;obtain⟨hT,aaO,aaP,aa,a2,a3,a4,a5,o6,o7⟩:=a1.info hW;split at he
  .rename_i k cO n ak;have:=mJ aE;subst this;obtain⟨i,d,z,aH,aN,aP,bQ,b_,bM,bH⟩:=a1.info (e8 ak (by simp));rw[ak]at bH;have:=v7 bH;subst this;simp only[some.injEq]at he;subst he;refine Good.same h ?_ rfl (of_int _ _);simp[convert,run_underlying o6,run_underlying bM,Conv.intToInt]
  .rename_i l ak;have:=mK aE;subst this;obtain⟨i,d,z,aH,aN,aP,bQ,b_,bM,bH⟩:=a1.info (e8 ak (by simp));rw[ak]at bH;have:=o1 bH;subst this;split at he
   .rename_i wh;rw[wh]at o7;have:=o1 o7;subst this;simp only[some.injEq]at he;subst he;refine Good.same h ?_ rfl (n_ _);simp[convert,run_underlying o6,run_underlying bM]
   .cases he
  .rename_i x ak _;obtain⟨i,d,z,aH,aN,aP,bQ,b_,bM,bH⟩:=a1.info (e8 ak (by simp));rw[ak]at bH;have:=o1 bH;subst this;split at he
   .rename_i e wh;rw[wh]at o7;have:=kD o7;subst this;split at he
    .rename_i wi;obtain⟨o2,bd,o3,f1,f2,f3,f4,f5,f6,f7⟩:=a1.info (e8 wi (by simp));rw[wi]at f7;have:=v7 f7;subst this;have fin:∀(l:aca) (b o cap:Nat),gJ w b o (l.map λb=>.int .u8 (b.toNat:Int))->(convert A B (.slice (some ⟨b,o,none⟩) l.length cap)).run C.P w= .ok (.string ⟨⟨l⟩⟩) w:=by
      intro l b o cap iy;refine run_convert_bytes_back w A B e ⟨b,o,none⟩ cap l o6 f6 bM (λaB cp=>?_);rw[Addr.add_lit];exact iy aB _ (by simp[cp])
     have nil:(convert A B (.slice none 0 0)).run C.P w= .ok (.string ⟨⟨[]⟩⟩) w:=by
      simp[convert,run_underlying o6,run_underlying bM,run_underlying f6,Conv.bytesToString];rfl
     split at he
     .have:=p3 aE;subst this;simp only[some.injEq]at he;subst he;exact Good.same h nil rfl (n_ _)
     .rename_i xs _;simp only[map_eq_some_iff]at he;obtain⟨l,hl,rfl⟩:=he;rcases yN aE with⟨rfl,a,c,rfl,_,se⟩|⟨b,o,cap,dC,sz,rfl,R,U,aw,aQ,bk,bS⟩
      .simp[bytesOf]at hl;subst hl;cases a with
       |none=>
        have:=se rfl;subst this;exact Good.same h nil rfl (n_ _)
       |some a=>
        refine Good.same h ?_ rfl (n_ _);exact run_convert_bytes_back w A B e a c [] o6 f6 bM (λaB cp=>by simp at cp)
      .obtain⟨rfl,bL⟩:=B1 xs l dC _ hl bS;rw[bL];exact Good.same h (fin l b o cap bk) rfl (n_ _)
     .rename_i y q;split at he
      .rename_i xs ad;simp only[map_eq_some_iff]at he;obtain⟨l,hl,rfl⟩:=he;rcases BW h aE ad with⟨rfl,a,rfl⟩|⟨b,cap,cur,aN,fr,rfl,R,U,aw,aQ,bk,bS,aG,bL,_⟩
       .simp[bytesOf]at hl;subst hl;cases a with
        |none=>exact Good.same h nil rfl (n_ _)
        |some a=>
         refine Good.same h ?_ rfl (n_ _);exact run_convert_bytes_back w A B e a 0 [] o6 f6 bM (λaB cp=>by simp at cp)
       .obtain⟨da,hR⟩:=B1 xs l _ _ hl bL;rw[hR];refine Good.same h (fin l b 0 cap ?_) rfl (n_ _);rw[<-da];exact tN R _
      .cases he
     .cases he
    .cases he
   .cases he
  .rename_i e l ak;have:=mK aE;subst this;obtain⟨i,d,z,aH,aN,aP,bQ,b_,bM,bH⟩:=a1.info (e8 ak (by simp));rw[ak]at bH;have:=kD bH;subst this;split at he
   .rename_i wh wi;rw[wh]at o7;have:=o1 o7;subst this;obtain⟨o2,bd,o3,f1,f2,f3,f4,f5,f6,f7⟩:=a1.info (e8 wi (by simp));rw[wi]at f7;have:=v7 f7;subst this;split at he
    .rename_i hl;simp only[some.injEq]at he;subst he;have J:(⟨⟨l⟩⟩:ByteArray).size=l.length:=rfl;have si:=grownCap_ge w l.length 0 e;have OQ:=grownCap_le_maxLen w l.length 0 e (by unfold maxLen;omega);have He:(bytesRow ⟨⟨l⟩⟩ (grownCap w l.length 0 e)).toList=l.map (λb=>Value.int .u8 (b.toNat:Int))++replicate (grownCap w l.length 0 e-l.length) (.int .u8 0):=by
      simp[bytesRow,J]
     have dm:(bytesRow ⟨⟨l⟩⟩ (grownCap w l.length 0 e)).size=grownCap w l.length 0 e*1:=by
      have:(bytesRow ⟨⟨l⟩⟩ (grownCap w l.length 0 e)).size=(bytesRow ⟨⟨l⟩⟩ (grownCap w l.length 0 e)).toList.length:=by simp
      rw[this,He];simp;omega
     have sb:=run_bytes_of_string w A B e ⟨⟨l⟩⟩ o6 bM f6;rw[J]at sb;have j8:=h.wg (au:=w.drew.alloc (.cells (bytesRow ⟨⟨l⟩⟩ (grownCap w l.length 0 e)) e ((bytesRow ⟨⟨l⟩⟩ (grownCap w l.length 0 e)).size,(bytesRow ⟨⟨l⟩⟩ (grownCap w l.length 0 e)).size+1)))
      (sz:=1) (cap:=grownCap w l.length 0 e) (xs:=l.map gD) (cur:=bytesRow ⟨⟨l⟩⟩ (grownCap w l.length 0 e)) (e:=e) (Sn:=λ_=>False) rfl rfl rfl ⟨rfl,λ_=>le_succ _⟩
      (λo a_ ⟨R,_⟩=>by simp only at R;omega) (by simpa using si) OQ dm (by intro d ad;obtain⟨b,_,rfl⟩:=mem_map.1 ad;rfl)
      (by rw[He,take_left' (by simp)];exact Hd l _) (λ_ h=>h.elim) (λ_ h=>h.elim) (λ_ _ h=>h.elim) (λ_ h=>h.elim)
     simp only[length_map]at j8;exact⟨_,_,F,S,sb,j8.1,j8.2⟩
    .cases he
   .cases he
  .cases he
 .cases he
end
section
variable {C:bz} {w0 w:World} {F0 X F:Nat->Prop} {S:Nat->Nat->Prop} {s s1:ag} {an:Nat->Value} {av:j}
def gW (d:Nat):Option j->Option Nat
 |none=>some d
 |some (.int _ n)=>if 0<=n then some n.toNat else none
 |some _=>none
def e9 (C:bz) (s:ag) (T:TypeId) (x:j) (dY ax:Option j):Option (j×ag):=
 match(C.T T).k,x with
 | .str,.str l=>match gW 0 dY,gW l.length ax with
   |some a,some b=>if a<=b/\b<=l.length then some (.str ((l.take b).drop a),s)else none
   |_,_=>none
 | .slice e,.bc=>match gW 0 dY,gW 0 ax with
   |some 0,some 0=>if(C.T e).ok=true then some (.bc,s)else none
   |_,_=>none
 | .slice e,.slice xs=>match gW 0 dY,gW xs.length ax with
   |some a,some b=>if a<=b/\b<=xs.length/\(C.T e).ok=true/\(∀d∈xs,d.wd=(C.T e).sz)then some (.slice ((xs.take b).drop a),s)else none
   |_,_=>none
 | .slice e,.h y q=>match j.sub q (s y)with
   |some (.ao sz xs)=>match gW 0 dY,gW xs.length ax with
    |some 0,some b=>if b<=xs.length/\(C.T e).ok=true then(match cr s (.h y q)with|some (_,s1)=>some (.ao sz (xs.take b),s1)|none=>none)else none
    |_,_=>none
   |_=>none
 |_,_=>none
def p5 (w:World) (F:Nat->Prop) (s:ag) (an:Nat->Value):Option j->Option Value->Prop
 |none,none=>True
 |some d,some v=>az w F s an d v (λ_=>False)
 |_,_=>False
theorem Hf {d:Nat} {o:Option j} {v:Option Value} (a_:p5 w F s an o v) {a:Nat} (h:gW d o=some a):(o=none/\v=none/\a=d)\/∃k,v=some (.int k a):=by
 cases o with
 |none=>
  cases v with
  |none=>simp[gW]at h;exact .inl ⟨rfl,rfl,h.symm⟩
  |some v=>simp[p5]at a_
 |some x=>
  cases v with
  |none=>simp[p5]at a_
  |some v=>
   simp only[p5]at a_;cases x with
   |int k n=>
    have:=mJ a_;subst this;simp only[gW]at h;split at h
    .rename_i aO;simp only[some.injEq]at h;subst h;obtain⟨m,rfl⟩:=Int.eq_ofNat_of_zero_le aO;exact .inr ⟨k,rfl⟩
    .cases h
   |_=>simp[gW]at h
theorem tV {P:Program} {isS:Bool} {len cap a b:Nat} {dY ax:Option j} {sj sk:Option Value} (k7:p5 w F s an dY sj) (nz:p5 w F s an ax sk) (bx:gW 0 dY=some a) (I:gW len ax=some b) (ly:a<=b) (OR:b<=cap) (_hlc:len<=cap):
  (Instr.sliceBounds isS len cap sj sk none).run P w= .ok (a,b,cap) w:=by
 rcases Hf k7 bx with⟨_,rfl,rfl⟩|⟨k,rfl⟩<;>rcases Hf nz I with⟨_,rfl,rfl⟩|⟨cO,rfl⟩<;>
  simp[Instr.sliceBounds,Instr.sliceBound,asIntOf,ly,OR]
theorem tW (a1:C.du) {T:TypeId} (ak:(C.T T).flat=true) (v:Value) (dY ax gz:Option Value) (w:World):(Instr.sliceAt T v dY ax gz).run C.P w=(Instr.slice T v dY ax gz).run C.P w:=by
 obtain⟨i,d,z,aH,aN,aP,bQ,b_,bM,bH⟩:=a1.info (GS ak);have c9:∀n e,d≠.array n e:=by
  clear bM;unfold fv.flat at ak;generalize (C.T T).k=iT at*;cases iT<;>cases d<;>simp[kB]at bH ak⊢
 cases d<;>first|exact(c9 _ _ rfl).elim|simp[Instr.sliceAt,run_underlying bM]
theorem tX {x:fv} {k:mb} (h:x.k=k) (ak:k≠.other) (J:∀ar,k≠.struct ar) (I:∀e,k≠.hi e:=by simp):x.flat=true:=by
 unfold fv.flat;rw[h];cases k<;>first|rfl|exact(ak rfl).elim|exact(I _ rfl).elim|exact(J _ rfl).elim
theorem aT.split:∀(n:Nat) (xs:acj) (cs:ach) (aG:Nat->Prop),aT w F xs cs aG->∃bK bJ bT cI,cs=bK++bJ/\aT w F (xs.take n) bK bT/\aT w F (xs.drop n) bJ cI/\(∀b,bT b->aG b)/\(∀b,cI b->aG b)/\(∀b,bT b->¬cI b)
 |0,xs,cs,aG,h=>⟨[],cs,λ_=>False,aG,rfl,by rw[take_zero,aT],h,λ_ h=>h.elim,λ_ h=>h,λ_ h=>h.elim⟩
 |n+1,[],cs,aG,h=>by rw[aT]at h;subst h;exact⟨[],[],λ_=>False,λ_=>False,rfl,by rw[take_nil,aT],by rw[drop_nil,aT],λ_ h=>h.elim,λ_ h=>h.elim,λ_ h=>h.elim⟩
 |n+1,x::xs,cs,aG,h=>by
  rw[aT]at h;obtain⟨bK,bJ,gK,fR,rfl,R,U,aw,aQ,bk⟩:=h;obtain⟨d1,d2,bT,cI,rfl,g1,g2,g3,g4,g5⟩:=aT.split n xs bJ fR U;refine⟨bK++d1,d2,λb=>gK b\/bT b,cI,by simp,?_,g2,?_,λb I=>aQ _ (g4 _ I),?_⟩
  .rw[take_succ_cons,aT];exact⟨bK,d1,gK,bT,rfl,R,g1,λ_ h=>.inl h,λ_ h=>.inr h,λb I aj=>bk b I (g3 b aj)⟩
  .rintro b (I|I)
   .exact aw b I
   .exact aQ b (g3 b I)
  .rintro b (I|I) aj
   .exact bk b I (g4 b aj)
   .exact g5 b I aj
theorem OS (a1:C.du) (h:bm w0 F0 X F S s an w) {T:TypeId} {x:j} {v:Value} {dY ax:Option j} {sj sk:Option Value} (ae:x.plain=true) (aE:az w F s an x v (λ_=>False)) (k7:p5 w F s an dY sj) (nz:p5 w F s an ax sk)
  (he:e9 C s T x dY ax=some (av,s1)):Good C w0 F0 X an w (Instr.sliceAt T v sj sk none) av s1:=by
 unfold e9 at he;split at he
 .rename_i l ak;have:=mK aE;subst this;obtain⟨i,d,z,aH,aN,aP,bQ,b_,bM,bH⟩:=a1.info (e8 ak (by simp));rw[ak]at bH;have:=o1 bH;subst this;split at he
  .rename_i a b bx I;split at he
   .rename_i ly;simp only[some.injEq,Prod.mk.injEq]at he;obtain⟨rfl,rfl⟩:=he;refine Good.same h ?_ rfl (n_ _);rw[tW a1 (tX ak (by simp) (by simp))];have dm:(⟨⟨l⟩⟩:ByteArray).size=l.length:=rfl;have nA:=tV (P:=C.P) (isS:=false) (len:=l.length) (cap:=l.length) k7 nz bx I ly.1 ly.2 (Nat.le_refl _);have OT:(⟨⟨l⟩⟩:ByteArray).extract a b=⟨⟨(l.take b).drop a⟩⟩:=by
     apply ByteArray.ext;simp[ByteArray.data_extract,drop_take]
    simp[Instr.slice,run_underlying bM,dm,nA,OT]
   .cases he
  .cases he
 .rename_i e ak;have:=p3 aE;subst this;obtain⟨i,d,z,aH,aN,aP,bQ,b_,bM,bH⟩:=a1.info (e8 ak (by simp));rw[ak]at bH;have:=kD bH;subst this;split at he
  .rename_i bx I;split at he
   .rename_i oa;obtain⟨o2,bd,o3,f1,f2,f3,f4,f5,f6,f7⟩:=a1.info oa;simp only[some.injEq,Prod.mk.injEq]at he;obtain⟨rfl,rfl⟩:=he;have nA:=tV (P:=C.P) (isS:=true) (len:=0) (cap:=0) k7 nz bx I (Nat.le_refl _) (Nat.le_refl _) (Nat.le_refl _);refine Good.same h (v:=.slice none 0 0) ?_ rfl aE;rw[tW a1 (tX ak (by simp) (by simp))];simp[Instr.slice,run_underlying bM,nA,jt f1,f2]
   .cases he
  .cases he
 .rename_i e xs ak;obtain⟨i,d,z,aH,aN,aP,bQ,b_,bM,bH⟩:=a1.info (e8 ak (by simp));rw[ak]at bH;have:=kD bH;subst this;split at he
  .rename_i a b bx I;split at he
   .rename_i ly;obtain⟨OU,Hg,oa,jN⟩:=ly;obtain⟨o2,bd,o3,f1,f2,f3,f4,f5,f6,f7⟩:=a1.info oa;simp only[some.injEq,Prod.mk.injEq]at he;obtain⟨rfl,rfl⟩:=he;rcases yN aE with⟨rfl,tY,c,rfl,wj,se⟩|⟨iB,o,cap,dC,sz,rfl,R,U,aw,aQ,bk,bS⟩
    .have gb:b=0:=by simpa using Hg
     subst gb;have OV:a=0:=by omega
     subst OV;have nA:=tV (P:=C.P) (isS:=true) (len:=0) (cap:=c) k7 nz bx I (Nat.le_refl _) (zero_le _) (zero_le _);refine Good.same h (v:=.slice tY 0 c) ?_ rfl ((az.b8 rfl).2 ⟨rfl,by rw[al];exact .inl ⟨rfl,tY,c,rfl,wj,se⟩⟩);rw[tW a1 (tX ak (by simp) (by simp))];cases tY with
     |none=>
      have:=se rfl;subst this;simp[Instr.slice,run_underlying bM,nA,jt f1,f2]
     |some tY=>simp[Instr.slice,run_underlying bM,nA,jt f1,f2,Addr.add]
    .have nA:=tV (P:=C.P) (isS:=true) (len:=xs.length) (cap:=cap) k7 nz bx I OU (Nat.le_trans Hg U) U;obtain⟨bK,bJ,bT,cI,rfl,g1,g2,g3,g4,g5⟩:=aT.split b xs dC _ bS;obtain⟨d1,d2,p6,yO,rfl,bO,b1,cX,cT,ev⟩:=aT.split a (xs.take b) bK _ g1;have B2:d1.length=a*(C.T e).sz:=by
      rw[aT.length _ _ _ bO,r3 _ (λd ad=>jN d (mem_of_mem_take (mem_of_mem_take ad))),length_take,length_take];congr 1;omega
     have hlen:((xs.take b).drop a).length=b-a:=by simp;omega
     have iy:gJ w iB (o+a*(C.T e).sz) d2:=by
      rw[<-B2];have:gJ w iB o (d1++(d2++bJ)):=by simpa using bk
      exact this.BN
     have yP:aT w F ((xs.take b).drop a) d2 (λ_=>False):=aT.mono (λ_ h=>h) _ _ _ _ (λb I=>(g3 _ (cT _ I)).elim) b1;have mem:∀d∈(xs.take b).drop a,d.wd=sz:=λd ad=>aQ d (mem_of_mem_take (mem_of_mem_drop ad));have run:(Instr.sliceAt T (.slice (some ⟨iB,o,none⟩) xs.length cap) sj sk none).run C.P w= .ok (.slice (if cap=a then some ⟨iB,o,none⟩else some ⟨iB,o+a*(C.T e).sz,none⟩) (b-a) (cap-a)) w:=by
      rw[tW a1 (tX ak (by simp) (by simp))];simp[Instr.slice,run_underlying bM,nA,jt f1,f2,Addr.add_lit]
     refine⟨_,w,F,S,run,h,.inl ⟨rfl,(az.b8 rfl).2 ⟨rfl,?_⟩⟩⟩;simp only[bZ,gM];rw[al];by_cases Hh:cap=a
     .have OW:b=a:=by omega
      subst OW;have wk:(xs.take b).drop b=[]:=by simp
      rw[if_pos Hh];rw[wk]at yP⊢;rw[aT]at yP;subst yP;exact .inr ⟨iB,o,cap-b,[],sz,by simp,R,zero_le _,by omega,by simp,λaB c cp=>by simp at cp,by rw[aT]⟩
     .rw[if_neg Hh];exact .inr ⟨iB,_,cap-a,d2,sz,by rw[hlen],R,by rw[hlen];omega,by omega,mem,iy,yP⟩
   .cases he
  .cases he
 .rename_i e y q ak;split at he
  .rename_i sz xs ad;split at he
   .rename_i b bx I;split at he
    .rename_i yQ;split at he
     .rename_i wb s2 aK;simp only[some.injEq,Prod.mk.injEq]at he;obtain⟨rfl,rfl⟩:=he;obtain⟨i,d,z,aH,aN,aP,bQ,b_,bM,bH⟩:=a1.info (e8 ak (by simp));rw[ak]at bH;have:=kD bH;subst this;obtain⟨o2,bd,o3,f1,f2,f3,f4,f5,f6,f7⟩:=a1.info yQ.2;have sf:wb= .ao sz xs:=by
       simp only[cr,ad,j.plain]at aK;simp at aK;exact aK.1.symm
      subst sf;obtain⟨bT,g0,g1,g2,Sn,g3,g4,g5,g6,g7,g8⟩:=o0 h rfl aE aK;rw[eH g2,al]at g3;rcases g3 with⟨rfl,a0,jv⟩|⟨iB,cap,cur,fw,fr,aG,jv,bO,b1,cX,cT,ev,dV,ij,cZ,lF,nB⟩
      .simp at jv;subst jv;have gb:b=0:=by simpa using yQ.1
       subst gb;have nA:=tV (P:=C.P) (isS:=true) (len:=0) (cap:=0) k7 nz bx I (Nat.le_refl _) (Nat.le_refl _) (Nat.le_refl _);refine⟨.slice a0 0 0,w,F,bT,?_,g0,.inr ⟨rfl,rfl,λ_=>False,by simp only[bZ,gM];rw[al];exact .inl ⟨rfl,_,rfl⟩,λ_ h=>h.elim,λ_ h=>h.elim,λ_ _ h=>h.elim,λ_ h=>h.elim⟩⟩;rw[tW a1 (tX ak (by simp) (by simp))];cases a0<;>simp[Instr.slice,run_underlying bM,nA,jt f1,f2]
      .simp at jv;subst jv;have nA:=tV (P:=C.P) (isS:=true) (len:=xs.length) (cap:=cap) k7 nz bx I (zero_le _) (Nat.le_trans yQ.1 cT) cT;have hlen:(xs.take b).length=b:=by simp;omega
       have run:(Instr.sliceAt T (.slice (some ⟨iB,0,none⟩) xs.length cap) sj sk none).run C.P w= .ok (.slice (some ⟨iB,0,none⟩) b cap) w:=by
        rw[tW a1 (tX ak (by simp) (by simp))];simp[Instr.slice,run_underlying bM,nA,jt f1,f2,Addr.add_lit]
       refine⟨_,w,F,bT,run,g0,.inr ⟨rfl,rfl,Sn,?_,g4,g5,g6,g7⟩⟩;simp only[bZ,gM];rw[al];obtain⟨bK,bJ,gK,fR,aj,m1,m2,m3,m4,m5⟩:=aT.split b xs _ _ cZ;refine .inr ⟨iB,cap,cur,fw,fr,aG,by rw[hlen],bO,b1,cX,by omega,ev,dV,λd ad=>ij d (mem_of_mem_take ad),?_,lF,nB⟩;have B2:bK.length=b*sz:=by
        rw[aT.length _ _ _ m1,r3 _ (λd ad=>ij d (mem_of_mem_take ad)),hlen]
       have:cur.toList.take ((xs.take b).length*sz)=bK:=by
        rw[hlen];have U:b*sz<=xs.length*sz:=mul_le_mul_right _ yQ.1;have:(cur.toList.take (xs.length*sz)).take (b*sz)=bK:=by rw[aj,take_left' B2]
        rwa [take_take,Nat.min_eq_left U]at this
       rw[this];exact aT.mono (λ_ h=>h) _ _ _ _ m3 m1
     .cases he
    .cases he
   .cases he
  .cases he
 .cases he
end
section
variable {C:bz} {w0 w:World} {F0 X F:Nat->Prop} {S:Nat->Nat->Prop} {s s1:ag} {an:Nat->Value} {av:j}
def Src (P:Program) (w:World) (size:Nat) (x:Value) (m:Nat) (news:ach):Prop:=
 ∀au:World,au.heap=w.heap->(Builtin.lenOf x).run P au= .ok m au/\(Builtin.firstCells size m x).run P au= .ok news.toArray au
def B3 (d:TypeDesc):Prop:=(∃e,d= .slice e)\/d= .string
theorem OX {P:Program} {T bV ty e:TypeId} {p7:TypeDesc} {i:TypeInfo} (aK:P.underlying T=some (.slice e)) (hu:P.underlying bV=some p7) (sl:B3 p7) (ax:P.info? e=some i)
  {x:Value} {m:Nat} {news:ach} (yR:Src P w i.size x m news) {b n cap:Nat} {cur:Array Value} {fw:TypeId} {fr:Nat×Nat} {l mid r:ach} (I:w.heap[b]? =some (.cells cur fw fr)) (bf:l8 fr cur.size)
  (aj:cur.toList=l++(mid++r)) (hl:l.length=n*i.size) (hm:mid.length=news.length) (j7:∀v∈news,Value.ej v=true) (o8:n+m<=cap):
  ∃au,(Builtin.append_ #[T,bV] ty #[.slice (some ⟨b,0,none⟩) n cap,x]).run P w= .ok (.slice (some ⟨b,0,none⟩) (n+m) cap) au/\au.heap[b]? =some (.cells (l++(news++r)).toArray fw fr)/\
   (∀c,c≠b->au.heap[c]? =w.heap[c]?)/\au.heap.size=w.heap.size/\au.os=w.os/\au.tape=w.tape/\Out au w:=by
 obtain⟨au,m1,m2⟩:=BS (P:=P) (b:=b) (o:=n*i.size) (e:=fw) (fr:=fr) news 0 cur w l mid r I bf aj (by omega) hm j7;refine⟨au,?_,m2⟩;obtain⟨R,U⟩:=yR w rfl;rcases sl with⟨fH,rfl⟩|rfl<;>simp[Builtin.append_,run_underlying aK,run_underlying hu,jt ax,R,U,o8,Addr.add_lit,m1]
theorem OY {P:Program} {T bV ty e:TypeId} {p7:TypeDesc} {i:TypeInfo} {z:Value} (aK:P.underlying T=some (.slice e)) (hu:P.underlying bV=some p7) (sl:B3 p7) (ax:P.info? e=some i) (bD:i.zero=some z)
  {x:Value} {m:Nat} {news:ach} (yR:Src P w i.size x m news) {base:Option Addr} {n cap:Nat} {ob:ach} (hold:Src P w i.size (.slice base n cap) n ob) (o8:¬n+m<=cap)
  (aO:n+m<=9223372036854775807) (B4:(n+m)*i.bytes<=140737488355328):
  (Builtin.append_ #[T,bV] ty #[.slice base n cap,x]).run P w= .ok (.slice (some ⟨w.heap.size,0,none⟩) (n+m) (grownCap w (n+m) cap e))
   (w.drew.alloc (.cells (ob.toArray++news.toArray++Builtin.zeroCells z.cells (grownCap w (n+m) cap e-(n+m))) e)):=by
 have R:=(yR w rfl).1;have U:=(yR w.drew rfl).2;have aw:=(hold w.drew rfl).2;have aaQ:=growslice_fits (need:=n+m) (old:=cap) (by omega) B4;have gX:¬(281474976710656<Builtin.nextslicecap (n+m) cap*i.bytes):=by omega
 have tZ:∀k (w:World),(askRoom k).run P w= .ok () w:=by
  intro k w;unfold askRoom;split<;>rfl
 have B5:¬(9223372036854775807<(n:Int)+(m:Int)/\i.bytes=0):=by omega
 rcases sl with⟨fH,rfl⟩|rfl<;>
  .simp[Builtin.append_,run_underlying aK,run_underlying hu,jt ax,r8 ax,R,o8,gX,Question.forced,tZ];rw[if_neg B5,aw];simp[U,r9 ax bD,newRow,grownCap];have aH:(ob++news).toArray=ob.toArray++news.toArray:=by simp
   rw[aH,Array.append_assoc]
def yS (C:bz) (e bV:TypeId):Bool:=match(C.T bV).k,(C.T e).k with
 | .slice fH,_=>fH==e
 | .str,.int .u8=>true
 |_,_=>false
def p8 (C:bz) (s:ag) (T bV:TypeId) (x y:j):Option (j×ag):=
 match(C.T T).k with
 | .slice e=>if(C.T e).ok=true/\(C.T e).zero.wd=(C.T e).sz/\(flat (C.T e).zero).isSome=true/\yS C e bV=true then
   match(match x with| .bc=>some (j.ao (C.T e).sz [],s)| .h a q=>cr s (.h a q)|_=>none)with
   |some (.ao sz xs,s1)=>if sz=(C.T e).sz then
     match(match jQ x.owner y with
      | .bc=>some ([],s1)
      | .slice b0=>some (b0,s1)
      | .str l=>some (l.map gD,s1)
      | .h a q=>match cr s1 (.h a q)with
        |some (.ao _ b0,s2)=>some (b0,s2)
        |_=>none
      |_=>none)with
     |some (b0,s2)=>if(∀d∈b0,d.wd=(C.T e).sz)/\(xs.length+b0.length)*(C.T e).bytes<=140737488355328/\xs.length+b0.length<=9223372036854775807 then some (.ao sz (xs++b0),s2)else none
     |none=>none
    else none
   |_=>none
   else none
 |_=>none
theorem aT.append {xs b0:acj} {bK bJ:ach} {bT cI aG:Nat->Prop} (R:aT w F xs bK bT) (U:aT w F b0 bJ cI) (aH:∀b,bT b->aG b) (aN:∀b,cI b->aG b) (aP:∀b,bT b->¬cI b):aT w F (xs++b0) (bK++bJ) aG:=by
 induction xs generalizing bK bT aG with
 |nil=>rw[aT]at R;subst R;exact aT.mono (λ_ h=>h) _ _ _ _ aN U
 |cons x xs ih=>
  rw[aT]at R;obtain⟨OZ,O0,gK,fR,rfl,g1,g2,g3,g4,g5⟩:=R;rw[cons_append,aT];refine⟨OZ,O0++bJ,gK,λb=>fR b\/cI b,by simp,g1,ih g2 (λb h=>.inl h) (λb h=>.inr h) (λb h=>aP b (g4 b h)),λb h=>aH b (g3 b h),?_,?_⟩
  .rintro b (h|h)
   .exact aH b (g4 b h)
   .exact aN b h
  .rintro b h (bC|bC)
   .exact g5 b h bC
   .exact aP b (g3 b h) bC
theorem B6 {P:Program} {size m cap:Nat} {b o:Nat} {news:ach} (iy:gJ w b o news) (hl:news.length=m*size):Src P w size (.slice (some ⟨b,o,none⟩) m cap) m news:=by
 intro au hw;refine⟨rfl,?_⟩;refine run_firstCells_some au size m ⟨b,o,none⟩ m cap news hl (λaB v cp=>?_);rw[Addr.add_lit];have:=iy aB v cp;simpa [World.cell?,hw]using this
theorem Hi {P:Program} {size cap:Nat}:Src P w size (.slice none 0 cap) 0 []:=by
 intro au _;exact⟨rfl,by simp[Builtin.firstCells]⟩
theorem B7 {P:Program} {size cap:Nat} (a:Option Addr):Src P w size (.slice a 0 cap) 0 []:=by
 cases a with
 |none=>exact Hi
 |some a=>
  intro au _;exact⟨rfl,run_firstCells_some au size 0 a 0 cap [] (by simp) (λaB v cp=>by simp at cp)⟩
theorem O1 {P:Program} (l:aca):Src P w 1 (.string ⟨⟨l⟩⟩) l.length (l.map λb=>.int .u8 (b.toNat:Int)):=by
 intro au _;refine⟨rfl,?_⟩;have:(⟨⟨l⟩⟩:ByteArray).extract 0 l.length=⟨⟨l⟩⟩:=by
  apply ByteArray.ext;simp[ByteArray.data_extract]
 simp[Builtin.firstCells,this]
theorem aT.sn {sz:Nat} {xs:acj} {cs:ach} {aG:Nat->Prop} (h:aT w F xs cs aG) (hw:∀d∈xs,d.wd=sz):cs.length=xs.length*sz:=by
 rw[aT.length _ _ _ h,r3 _ hw]
theorem bm.turn (h:bm w0 F0 X F S s an w) {au:World} {b:Nat} (I:∀c,c≠b->au.heap[c]? =w.heap[c]?) (J:au.heap.size=w.heap.size) (R:au.os=w.os) (U:au.tape=w.tape) (aw:Out au w)
  (aZ:¬F b) (bI:∀u,¬S u b) (bg:X b\/w0.heap.size<=b):bm w0 F0 X F S s an au where
 ff:=h.ff
 fI:=h.fI
 dP:=λc aj=>by rw[J];exact h.dP c aj
 dt:=λt c aj=>by rw[J];exact h.dt t c aj
 eh:=h.eh
 dW:=h.dW
 cS:=h.cS
 cz:=λt=>az.frame (Sx:=S) (λc aj=>I c (by rintro rfl;exact aZ aj)) (λ_ h=>h) (λx c aj=>I c (by rintro rfl;exact bI x aj)) h.cz _ _ _ (λc aj=>I c (by rintro rfl;exact bI t aj)) (h.cz t)
 old:=λc cW ib=>by
  rw[I c ?_]
  .exact h.old c cW ib
  .rintro rfl;rcases bg with bg|bg
   .exact ib bg
   .omega
 size:=by rw[J];exact h.size
 os:=R.trans h.os
 tape:=U.trans h.tape
 output:=aw.trans h.output
 fu:=h.fu
theorem O2 (a1:C.du) (h:bm w0 F0 X F S s an w) {T bV ty:TypeId} {x y:j} {dE gC:Value} (ae:az w F s an x dE (λ_=>False)) (a6:az w F s an y gC (λ_=>False))
  (he:p8 C s T bV x y=some (av,s1)):Good C w0 F0 X an w (Builtin.append_ #[T,bV] ty #[dE,gC]) av s1:=by
 unfold p8 at he;split at he
 .rename_i e ak;obtain⟨B8,d,B9,aH,aN,aP,bQ,b_,bM,bH⟩:=a1.info (e8 ak (by simp));rw[ak]at bH;have:=kD bH;subst this;split at he
  .rename_i sc;obtain⟨oa,o9,p9,o_⟩:=sc;obtain⟨i,B_,z,f1,f2,f3,f4,f5,f6,f7⟩:=a1.info oa;obtain⟨eC,mh⟩:=isSome_iff_exists.1 p9;have p_:=f5 eC mh;have oc:eC.length=(C.T e).sz:=by
    have:=al.length _ _ _ ((al.flat (w:=w) (F:=F) _).1 (C.T e).zero eC (λ_=>False) (Nat.le_refl _) mh);rw[this,o9]
   obtain⟨p7,hu,sl⟩:∃p7,C.P.underlying bV=some p7/\B3 p7:=by
    unfold yS at o_;split at o_
    .rename_i fH iM;obtain⟨_,bd,_,_,_,_,_,_,g6,g7⟩:=a1.info (e8 iM (by simp));rw[iM]at g7;exact⟨bd,g6,.inl ⟨_,kD g7⟩⟩
    .rename_i iM _;obtain⟨_,bd,_,_,_,_,_,_,g6,g7⟩:=a1.info (e8 iM (by simp));rw[iM]at g7;exact⟨bd,g6,.inr (o1 g7)⟩
    .cases o_
   split at he
   .rename_i sz xs Hj so;split at he
    .rename_i dm;subst dm;split at he
     .rename_i b0 yT nC;split at he
      .rename_i yU;obtain⟨t_,B4,Ca⟩:=yU;simp only[some.injEq,Prod.mk.injEq]at he;obtain⟨rfl,rfl⟩:=he;obtain⟨gK,a0,Sn,a3,a4,a5,o6,o7,aaR,a9,qZ⟩:∃gK,bm w0 F0 X F gK Hj an w/\∃Sn,al w F (.ao (C.T e).sz xs) [dE] Sn/\(∀b,Sn b->b<w.heap.size)/\(∀b,Sn b->¬F b)/\(∀u b,Sn b->¬gK u b)/\
         (∀b,Sn b->X b\/w0.heap.size<=b)/\(∀u b,gK u b->S u b)/\(∀b,Sn b->∃u,S u b)/\az w F Hj an (jQ x.owner y) gC (λ_=>False):=by
        split at so
        .simp only[some.injEq,Prod.mk.injEq,j.ao.injEq,true_and]at so;obtain⟨rfl,rfl⟩:=so;have:=p3 ae;subst this;exact⟨S,h,λ_=>False,by rw[al];exact .inl ⟨rfl,_,rfl⟩,λ_ h=>h.elim,λ_ h=>h.elim,λ_ _ h=>h.elim,λ_ h=>h.elim,λ_ _ h=>h,λ_ h=>h.elim,a6⟩
        .obtain⟨bT,g0,g1,g2,Sn,g3,g4,g5,g6,g7,g8,g9,g10⟩:=o0 h rfl ae so;rw[eH g2]at g3;exact⟨bT,g0,Sn,g3,g4,g5,g6,g7,g8,g9,g10 _ _ _ a6⟩
        .cases so
       obtain⟨fR,iB,mM,news,ju,gQ,iN,cK,dp,fp,sq,dz⟩:∃fR,bm w0 F0 X F fR yT an w/\∃mM news,aT w F b0 news mM/\Src C.P w i.size gC b0.length news/\(∀b,mM b->b<w.heap.size)/\(∀b,mM b->¬F b)/\(∀u b,mM b->¬fR u b)/\
         (∀b,mM b->X b\/w0.heap.size<=b)/\(∀u b,fR u b->gK u b)/\(∀b,mM b->∃u,gK u b):=by
        split at nC
        .rename_i sr;simp only[some.injEq,Prod.mk.injEq]at nC;obtain⟨rfl,rfl⟩:=nC;rw[sr]at qZ;have:=p3 qZ;subst this;exact⟨gK,a0,λ_=>False,[],by rw[aT],Hi,λ_ h=>h.elim,λ_ h=>h.elim,λ_ _ h=>h.elim,λ_ h=>h.elim,λ_ _ h=>h,λ_ h=>h.elim⟩
        .rename_i dR sr;simp only[some.injEq,Prod.mk.injEq]at nC;obtain⟨rfl,rfl⟩:=nC;rw[sr]at qZ;rcases yN qZ with⟨rfl,tY,O3,rfl,_,se⟩|⟨b,o,cap,dC,O4,rfl,bO,b1,cX,cT,ev,dV⟩
         .exact⟨gK,a0,λ_=>False,[],by rw[aT],B7 tY,λ_ h=>h.elim,λ_ h=>h.elim,λ_ _ h=>h.elim,λ_ h=>h.elim,λ_ _ h=>h,λ_ h=>h.elim⟩
         .exact⟨gK,a0,λ_=>False,dC,dV,B6 ev (by rw[f2];exact aT.sn dV t_),λ_ h=>h.elim,λ_ h=>h.elim,λ_ _ h=>h.elim,λ_ h=>h.elim,λ_ _ h=>h,λ_ h=>h.elim⟩
        .rename_i l sr;simp only[some.injEq,Prod.mk.injEq]at nC;obtain⟨rfl,rfl⟩:=nC;rw[sr]at qZ;have:=mK qZ;subst this;have yV:l≠[]->i.size=1:=by
          intro hl;cases l with
          |nil=>exact(hl rfl).elim
          |cons b l=>rw[f2,<-t_ (gD b) (by simp)];rfl
         by_cases hl:l=[]
         .subst hl;refine⟨gK,a0,λ_=>False,[],by simp only[map_nil];rw[aT],?_,λ_ h=>h.elim,λ_ h=>h.elim,λ_ _ h=>h.elim,λ_ h=>h.elim,λ_ _ h=>h,λ_ h=>h.elim⟩;intro au _;exact⟨rfl,by simp[Builtin.firstCells,ByteArray.extract];rfl⟩
         .refine⟨gK,a0,λ_=>False,_,Hd l _,?_,λ_ h=>h.elim,λ_ h=>h.elim,λ_ _ h=>h.elim,λ_ h=>h.elim,λ_ _ h=>h,λ_ h=>h.elim⟩;rw[yV hl,length_map];exact O1 l
        .rename_i a q sr;split at nC
         .rename_i aaS dR s2 aK;simp only[some.injEq,Prod.mk.injEq]at nC;obtain⟨rfl,rfl⟩:=nC;rw[sr]at qZ;obtain⟨cI,g0,g1,g2,mM,g3,g4,g5,g6,g7,g8,g9,g10⟩:=o0 a0 rfl qZ aK;rw[eH g2,al]at g3;rcases g3 with⟨rfl,O5,jv⟩|⟨b,cap,cur,fw,fr,aG,jv,bO,b1,cX,cT,ev,dV,ij,cZ,lF,nB⟩
          .simp at jv;subst jv;exact⟨cI,g0,λ_=>False,[],by rw[aT],(B7 O5),λ_ h=>h.elim,λ_ h=>h.elim,λ_ _ h=>h.elim,λ_ h=>h.elim,g8,λ_ h=>h.elim⟩
          .simp at jv;subst jv;refine⟨cI,g0,aG,_,cZ,B6 (tN b1 _) ?_,λc aj=>g4 c (lF c aj),λc aj=>g5 c (lF c aj),λu c aj=>g6 u c (lF c aj),λc aj=>g7 c (lF c aj),g8,λc aj=>g9 c (lF c aj)⟩;rw[f2];exact aT.sn cZ t_
         .cases nC
        .cases nC
       have q0:news.length=b0.length*(C.T e).sz:=aT.sn ju t_;have nD:∀c,Sn c->¬mM c:=λc R U=>by obtain⟨u,hu⟩:=dz c U;exact o6 u c R hu
       have ly:∀u c,Sn c->¬fR u c:=λu c R U=>o6 u c R (sq u c U);have grow:∀(base:Option Addr) (cap:Nat) (ob:ach) (Sx:Nat->Prop),dE= .slice base xs.length cap->Src C.P w i.size (.slice base xs.length cap) xs.length ob->aT w F xs ob Sx->(∀d∈xs,d.wd=(C.T e).sz)->(∀c,Sx c->Sn c)->¬xs.length+b0.length<=cap->
         Good C w0 F0 X an w (Builtin.append_ #[T,bV] ty #[dE,gC]) (.ao (C.T e).sz (xs++b0)) yT:=by
        intro base cap ob Sx BT hold Hk Hl ef o8;subst BT;have aD:=OY (ty:=ty) bM hu sl f1 f4 gQ hold o8 Ca (by rw[f3];exact B4);have si:=grownCap_ge w (xs.length+b0.length) cap e;have wj:=grownCap_le_maxLen w (xs.length+b0.length) cap e (by unfold maxLen;omega);have pa:=aT.sn Hk Hl;have O6:aT w F (xs++b0) (ob++news) (λc=>Sx c\/mM c):=aT.append Hk ju (λ_ h=>.inl h) (λ_ h=>.inr h) (λc R U=>nD c (ef c R) U);have O7:(ob++news).length=(xs++b0).length*(C.T e).sz:=by simp[pa,q0,Nat.add_mul]
        have j8:=iB.wg (au:=w.drew.alloc (.cells (ob.toArray++news.toArray++Builtin.zeroCells z.cells (grownCap w (xs.length+b0.length) cap e-(xs.length+b0.length))) e))
         (sz:=(C.T e).sz) (cap:=grownCap w (xs.length+b0.length) cap e) (xs:=xs++b0) (e:=e) (fr:=(0,0)) (Sn:=λc=>Sx c\/mM c) rfl rfl rfl ⟨rfl,λ_=>le_succ _⟩
         (λo _ ⟨_,U⟩=>absurd U (not_lt_zero _)) (by simpa using si) wj
         (by
          simp only[Array.size_append,List.size_toArray,size_zeroCells,p_,pa,q0,oc,<-Nat.add_mul];congr 1;omega)
         (by
          intro d ad;rcases mem_append.1 ad with ad|ad
          .exact Hl d ad
          .exact t_ d ad)
         (by
          simp only[Array.toList_append];rw[take_left' O7];exact O6)
         (by rintro c (aj|aj);exact a4 c (ef c aj);exact iN c aj) (by rintro c (aj|aj);exact a5 c (ef c aj);exact cK c aj) (by rintro u c (aj|aj);exact ly u c (ef c aj);exact dp u c aj) (by rintro c (aj|aj);exact o7 c (ef c aj);exact fp c aj)
        refine⟨_,_,F,fR,aD,j8.1,?_⟩;have:=j8.2;simpa using this
       rw[al]at a3;rcases a3 with⟨rfl,yW,jv⟩|⟨b,cap,cur,fw,fr,aG,jv,bO,b1,cX,cT,ev,dV,ij,cZ,lF,nB⟩
       .simp at jv;subst jv;by_cases Hm:b0=[]
        .subst Hm;have ss:news=[]:=by simpa using q0
         subst ss;refine⟨.slice yW 0 0,w,F,fR,?_,iB,.inr ⟨rfl,rfl,λ_=>False,by simp only[bZ,gM];rw[al];exact .inl ⟨rfl,_,rfl⟩,λ_ h=>h.elim,λ_ h=>h.elim,λ_ _ h=>h.elim,λ_ h=>h.elim⟩⟩;obtain⟨R,U⟩:=gQ w rfl;cases yW<;>rcases sl with⟨fH,rfl⟩|rfl<;>simp at R U<;>simp[Builtin.append_,run_underlying bM,run_underlying hu,jt f1,R,U,storeCells]
        .exact grow yW 0 [] (λ_=>False) rfl (B7 yW) (by rw[aT]) (by simp) (λ_ h=>h.elim) (by
          cases b0 with
          |nil=>exact(Hm rfl).elim
          |cons y b0=>simp)
       .simp at jv;subst jv;by_cases o8:xs.length+b0.length<=cap
        ·
         have pa:=aT.sn cZ ij;have hlen:cur.toList.length=cap*(C.T e).sz:=by simp[dV]
         have hle:(xs.length+b0.length)*(C.T e).sz<=cap*(C.T e).sz:=mul_le_mul_right _ o8;rw[Nat.add_mul]at hle;have jM:cur.toList=cur.toList.take (xs.length*(C.T e).sz)++((cur.toList.drop (xs.length*(C.T e).sz)).take news.length++(cur.toList.drop (xs.length*(C.T e).sz)).drop news.length):=by
          rw[take_append_drop,take_append_drop]
         obtain⟨au,m1,m2,m3,m4,m5,m6,m7⟩:=OX (ty:=ty) (n:=xs.length) (m:=b0.length) (cap:=cap) bM hu sl f1 gQ b1 cX.low jM (by rw[f2];exact pa) (by simp[hlen,q0];omega) (aT.me _ _ _ ju) o8;have O8:=iB.turn m3 m4 m5 m6 m7 (a5 b bO) (λu hu=>ly u b bO hu) (o7 b bO);have oZ:∀c,F c->au.heap[c]? =w.heap[c]? :=λc aj=>m3 c (by rintro rfl;exact a5 _ bO aj);refine⟨_,au,F,fR,m1,O8,.inr ⟨rfl,rfl,λc=>Sn c\/mM c,?_,?_,?_,?_,?_⟩⟩
         .simp only[bZ,gM];rw[al];have Hn:(cur.toList.take (xs.length*(C.T e).sz)++(news++(cur.toList.drop (xs.length*(C.T e).sz)).drop news.length)).toArray.size=cur.size:=by
           have:cur.size=cur.toList.length:=by simp
           rw[this];conv=>rhs;rw[jM]
           simp[hlen,q0];omega
          refine .inr ⟨b,cap,_,fw,fr,λc=>aG c\/mM c,by simp,.inl bO,m2,by rw[Hn];exact cX,by simpa using o8,ev,by rw[Hn];exact dV,?_,?_,?_,?_⟩
          .intro d ad;rcases mem_append.1 ad with ad|ad
           .exact ij d ad
           .exact t_ d ad
          .have qY:=aT.frame oZ _ _ _ (λc aj=>m3 c (by rintro rfl;exact nB aj)) cZ;have r7:=aT.frame oZ _ _ _ (λc aj=>m3 c (by rintro rfl;exact nD _ bO aj)) ju;have:((cur.toList.take (xs.length*(C.T e).sz)++(news++(cur.toList.drop (xs.length*(C.T e).sz)).drop news.length)).toArray.toList.take ((xs++b0).length*(C.T e).sz))=cur.toList.take (xs.length*(C.T e).sz)++news:=by
            simp only[];rw[<-append_assoc];exact take_left' (by rw[length_append,pa,q0,length_append,Nat.add_mul])
           rw[this];exact aT.append qY r7 (λ_ h=>.inl h) (λ_ h=>.inr h) (λc R U=>nD c (lF c R) U)
          .rintro c (aj|aj)
           .exact .inl (lF c aj)
           .exact .inr aj
          .rintro(aj|aj)
           .exact nB aj
           .exact nD b bO aj
         .rw[m4];rintro c (aj|aj);exact a4 c aj;exact iN c aj
         .rintro c (aj|aj);exact a5 c aj;exact cK c aj
         .rintro u c (aj|aj);exact ly u c aj;exact dp u c aj
         .rintro c (aj|aj);exact o7 c aj;exact fp c aj
        .exact grow (some ⟨b,0,none⟩) cap _ aG rfl (B6 (tN b1 _) (by rw[f2];exact aT.sn cZ ij)) cZ ij lF o8
      .cases he
     .cases he
    .cases he
   .cases he
  .cases he
 .cases he
end
section
variable {C:bz} {w0 w au:World} {F0 X F:Nat->Prop} {S:Nat->Nat->Prop} {s s1:ag} {an:Nat->Value} {av:j}
theorem bm.O9 (h:bm w0 F0 X F S s an w) {x:Nat} {q:ace} {d bd:j} {b:Nat} (ad:j.sub q (s x)=some d) (ai:d.plain=false) (O_:bd.tree=true) (R:∀v,hh d v->hh bd v) (J:∀v,cU d v->cU bd v)
  (U:∀vs,bd≠.tuple vs) (jN:bd.wd=d.wd) (I:∀cn a eG,cM w q (s x) (bZ (an x)) none=some (d,cn,a)->al w F d cn eG->eG b/\al au F bd cn eG) (nw:∀c,c≠b->au.heap[c]? =w.heap[c]?) (dm:au.heap.size=w.heap.size) (BH:au.os=w.os)
  (BI:au.tape=w.tape) (r5:Out au w):∃aG,bm w0 F0 X F aG (cw (gO x s) x (j.put q bd (s x))) an au:=by
 have aK:=gN ad (.inl ai);have ae:=h.cz x;rw[az.b8 aK]at ae;obtain⟨cn,a,dd,eG,g0,g1,g2,g3,g4,g5⟩:=ctx q (s x) (bZ (an x)) (S x) none d ae.2 ad;obtain⟨r6,aE⟩:=I cn a eG g0 g4;have pb:S x b:=g2 b r6;have oZ:∀c,F c->au.heap[c]? =w.heap[c]? :=λc aj=>nw c (by rintro rfl;exact h.eh x _ pb aj);have tR:∀c,dd c->c≠b:=λc aj e=>g3 c aj (e▸r6);have js:al au F (j.put q bd (s x)) (bZ (an x)) (λc=>dd c\/eG c):=by
  rcases g5 with⟨l,r,aH,aN,aP⟩|⟨iB,cur,e,fr,l,r,aH,aN,aP,bQ,b_,bM⟩
  .rw[aH];exact aP au bd cn eG oZ (λc aj=>nw c (tR c aj)) jN aE (λc aj ma=>g3 c ma aj)
  .refine bM au bd cn eG oZ (λc aj _=>nw c (tR c aj)) ?_ jN aE (λc aj ma=>g3 c ma aj);rw[nw iB (tR iB aN),aP,<-b_]
 have vU:cU (j.put q bd (s x)) (an x)/\(j.put q bd (s x)).tree=true:=by
  cases q with
  |nil=>
   simp only[j.sub,some.injEq]at ad;simp only[j.put];exact⟨J _ (ad▸ae.1),O_⟩
  |cons k q=>
   refine⟨vT ae.1 ad R (λ_=>U) jN,?_⟩;rcases qU k q bd (s x)with⟨ar,gs,aH,e⟩|⟨ar,gs,aH,e⟩|⟨sz,xs,b0,aH,e⟩|⟨y,z,aH,e⟩|e<;>rw[e]<;>first|rfl|exact aK
 let aq:=cw (gO x s) x (j.put q bd (s x))
 have gj:∀y,y≠x->(aq y).tree=true->aq y=s y/\an y=an y:=λy a6 aK=>by
  have e:aq y=cG.bU x (s y):=ia _ _ a6;rw[e]at aK⊢;exact⟨(yD aK).2,rfl⟩
 have e7:(aq x).plain=false->(s x).plain=false/\∀v,cU (s x) v->cU (aq x) v:=by
  intro _;refine⟨?_,λv aE=>?_⟩
  .cases cx:(s x).plain with
   |false=>rfl
   |true=>rw[j.BA _ _ _ cx ad]at ai;cases ai
  .simp only[aq,lA];cases q with
   |nil=>
    simp only[j.sub,some.injEq]at ad;simp only[j.put];exact J _ (ad▸aE)
   |cons k q=>exact vT aE ad R (λ_=>U) jN
 have both:∀c,(dd c\/eG c)->S x c:=λc aj=>aj.elim (g1 c) (g2 c);refine⟨fg S x (λc=>dd c\/eG c),?_⟩;constructor;case ff=>exact h.ff
 case fI=>exact h.fI
 case dP=>exact λb I=>by rw[dm];exact h.dP b I
 case dt=>
  intro u c I;rw[dm];simp only[fg]at I;split at I
  .exact h.dt x c (both c I)
  .exact h.dt u c I
 case eh=>
  intro u c I;simp only[fg]at I;split at I
  .exact h.eh x c (both c I)
  .exact h.eh u c I
 case dW=>
  intro u y c c9 I a6;simp only[fg]at I a6;split at I
  .rename_i hu;rw[if_neg (λe=>c9 (hu.trans e.symm))]at a6;exact h.dW x y c (λe=>c9 (hu.trans e)) (both c I) a6
  .rename_i hu;split at a6
   .exact h.dW u x c hu I (both c a6)
   .exact h.dW u y c c9 I a6
 case cS=>
  intro u c I;simp only[fg]at I;split at I
  .exact h.cS x c (both c I)
  .exact h.cS u c I
 case cz=>
  intro u;by_cases hu:u=x
  .subst hu;rw[lA,vR];exact(az.b8 vU.2).2 ⟨vU.1,js⟩
  .rw[ia _ _ hu,vS _ _ hu];have c9:∀y c,y≠x->S y c->au.heap[c]? =w.heap[c]? :=λy c a6 aj=>nw c (by rintro rfl;exact h.dW y x c a6 aj pb);refine(az.bU gj rfl e7 (λy eu d2 a6 fJ vV=>?_) oZ _).1 _ _ _ (Nat.le_refl _) (λc aj=>c9 u c hu aj) (h.cz u);have vW:=h.cz y;rw[az.b8 (gN fJ vV)]at vW;exact yC eu _ _ _ none d2 vW.2 fJ (λc aj=>c9 y c a6 aj)
 case old=>
  intro c cW ib;rw[nw c ?_]
  .exact h.old c cW ib
  .rintro rfl;rcases h.cS x c pb with bg|bg
   .exact ib bg
   .omega
 case size=>rw[dm];exact h.size
 case os=>exact BH.trans h.os
 case tape=>exact BI.trans h.tape
 case output=>exact r5.trans h.output
 case fu=>exact h.fu
def Ho (P:Program) (t:TypeId):Bool:=match P.info? t with
 |some i=>match i.zero with
  |some (.bool false)=>true
  |_=>false
 |none=>false
def q1 (C:bz) (T:TypeId):Bool:=match(C.T T).k with
 | .map od q2=>match(C.T od).k with
   | .str=>Ho C.P q2
   |_=>false
 |_=>false
def hk (C:bz) (s:ag) (T:TypeId) (x i:j):Option j:=match x,i with
 | .h y q,.str k=>match j.sub q (s y)with
   |some (.b3 (.mp m))=>if q1 C T=true then some (.bool (jq k m))else none
   |_=>none
 |_,_=>none
def ik (C:bz) (s:ag) (T:TypeId) (x i v:j):Option ag:=match x,i,v with
 | .h y q,.str k,.bool b=>match j.sub q (s y)with
   |some (.b3 (.mp m))=>if q1 C T=true then some (cw (gO y s) y (j.put q (.b3 (.mp (jr k b m))) (s y)))else none
   |_=>none
 |_,_,_=>none
theorem Hp (a1:C.du) {T:TypeId} (h:q1 C T=true):∃od q2,C.P.underlying T=some (.map od q2)/\C.P.underlying od=some .string/\∀w,(zeroValue q2).run C.P w= .ok (.bool false) w:=by
 unfold q1 at h;split at h
 .rename_i od q2 ak;split at h
  .rename_i R;obtain⟨i,d,z,aH,aN,aP,bQ,b_,bM,bH⟩:=a1.info (e8 ak (by simp));obtain⟨o2,bd,o3,f1,f2,f3,f4,f5,f6,f7⟩:=a1.info (e8 R (by simp));rw[ak]at bH;rw[R]at f7;have:=o1 f7;subst this;refine⟨od,q2,?_,f6,λw=>?_⟩
   .rw[bM];cases d<;>simp[kB]at bH;rw[bH.1,bH.2]
   .unfold Ho at h;split at h
    .rename_i i2 g1;split at h
     .rename_i g2;exact r9 g1 g2 w
     .cases h
    .cases h
  .cases h
 .cases h
theorem Cb (a b:ByteArray):(a==b)=true↔a=b:=by
 constructor
 .intro h;exact ByteArray.ext (eq_of_beq (show(a.data==b.data)=true from h))
 .rintro rfl;show(a.data==a.data)=true;simp
theorem Cc (k:aca) (b:Bool):∀(es:List MapEntry) (m:gk) (i:Nat),es.map (λe=>(e.key,e.val))=m.map (λe=>(.string ⟨⟨e.1⟩⟩,.bool e.2))->
  (Instr.findNow .string (.string ⟨⟨k⟩⟩) es i=some none/\jq k m=false/\jr k b m=m++[(k,b)])\/
  ∃aB e,es[aB]? =some e/\e.key= .string ⟨⟨k⟩⟩/\Instr.findNow .string (.string ⟨⟨k⟩⟩) es i=some (some (i+aB,.bool (jq k m)))/\jr k b m=m.set aB (k,b)
 |[],m,i,h=>by
  have:m=[]:=by simpa using h.symm
  subst this;exact .inl ⟨rfl,rfl,rfl⟩
 |e::es,[],i,h=>by simp at h
 |e::es,(cO,eA)::m,i,h=>by
  simp only[map_cons,cons.injEq,Prod.mk.injEq]at h;obtain⟨⟨R,U⟩,aw⟩:=h;by_cases ak:cO=k
  .subst ak;refine .inr ⟨0,e,rfl,R,?_,by simp[jr]⟩;have:(((⟨⟨cO⟩⟩:ByteArray)==⟨⟨cO⟩⟩))=true:=(Cb _ _).2 rfl;simp only[Instr.findNow,R,U,Instr.sameNow,jq,this,if_true,Nat.add_zero]
  .have aO:((⟨⟨k⟩⟩:ByteArray)==⟨⟨cO⟩⟩)=false:=by
    refine Bool.eq_false_iff.2 λe=>ak ?_;have:=(Cb _ _).1 e;simp only[ByteArray.mk.injEq,Array.mk.injEq]at this;exact this.symm
   rcases Cc k b es m (i+1) aw with⟨g1,g2,g3⟩|⟨aB,fH,g1,g2,g3,g4⟩
   .refine .inl ⟨?_,?_,?_⟩
    .simp only[Instr.findNow,R,Instr.sameNow,aO];exact g1
    .simp[jq,ak,g2]
    .simp[jr,ak,g3]
   .refine .inr ⟨aB+1,fH,g1,g2,?_,?_⟩
    .simp only[Instr.findNow,R,Instr.sameNow,aO];rw[g3];simp[jq,ak,Nat.add_assoc,Nat.add_comm 1 aB]
    .simp[jr,ak,g4]
theorem yX {P:Program} {od:TypeId} (ak:P.underlying od=some .string) (e:Bool) (k:ByteArray) (w:World):(Instr.checkKey e 10000 od (.string k)).run P w= .ok () w:=by
 unfold Instr.checkKey;simp[run_underlying ak]
theorem Hq (h:bm w0 F0 X F S s an w) {y:Nat} {q:ace} {m:gk} {v:Value} (aE:az w F s an (.h y q) v (λ_=>False)) (ad:j.sub q (s y)=some (.b3 (.mp m))):
  ∃r ms l9,v= .map (some r)/\w.heap[r]? =some (.map ms l9)/\ms.toList.map (λe=>(e.key,e.val))=m.map (λe=>(.string ⟨⟨e.1⟩⟩,.bool e.2))/\
   ∃a,cM w q (s y) (bZ (an y)) none=some (.b3 (.mp m),[.map (some r)],a):=by
 rw[az]at aE;obtain⟨cn,a,g1,g2,g3⟩:=aE _ ad rfl;have R:Value.ej v=true:=g3;rw[eH R]at g2;have ae:=h.cz y;rw[az.b8 (gN ad (.inl rfl))]at ae;obtain⟨eZ,bG,dd,eG,k0,bO,b1,cX,cT,ev⟩:=ctx q (s y) (bZ (an y)) (S y) none _ ae.2 ad;rw[k0]at g1;simp only[some.injEq,Prod.mk.injEq,true_and]at g1;obtain⟨rfl,rfl⟩:=g1;rw[al]at cT;obtain⟨r,ms,l9,aH,aN,aP,bQ⟩:=cT;rw[aH]at g2 k0;exact⟨r,ms,l9,by simpa using g2,aP,bQ,bG,k0⟩
theorem Pa (a1:C.du) (h:bm w0 F0 X F S s an w) {T:TypeId} {x i:j} {dE nx:Value} (ae:az w F s an x dE (λ_=>False)) (ax:az w F s an i nx (λ_=>False)) (he:hk C s T x i=some av):
  Good C w0 F0 X an w (Instr.lookup T dE nx false) av s:=by
 unfold hk at he;split at he
 .rename_i y q k;split at he
  .rename_i m ad;split at he
   .rename_i e1;simp only[some.injEq]at he;subst he;obtain⟨od,q2,t1,t2,t3⟩:=Hp a1 e1;obtain⟨r,ms,l9,rfl,aN,aP,_⟩:=Hq h ae ad;have:=mK ax;subst this;refine Good.same h (v:=.bool (jq k m)) ?_ rfl (of_bool _);rcases Cc k true ms.toList m 0 aP with⟨g1,g2,_⟩|⟨aB,e,_,_,g1,_⟩
    .simp[Instr.lookup,run_underlying t1,getObj,Sem.run,aN,yX t2,Instr.findKey,run_underlying t2,g1,t3,g2]
    .simp[Instr.lookup,run_underlying t1,getObj,Sem.run,aN,yX t2,Instr.findKey,run_underlying t2,g1]
   .cases he
  .cases he
 .cases he
theorem Pb (a1:C.du) (h:bm w0 F0 X F S s an w) {T:TypeId} {x i v:j} {dE nx Hr:Value} (ae:az w F s an x dE (λ_=>False)) (ax:az w F s an i nx (λ_=>False)) (aE:az w F s an v Hr (λ_=>False)) {s2:ag}
  (he:ik C s T x i v=some s2):∃au aG,(Instr.mapUpdate T dE nx Hr).run C.P w= .ok () au/\bm w0 F0 X F aG s2 an au:=by
 unfold ik at he;split at he
 .rename_i y q k b;split at he
  .rename_i m ad;split at he
   .rename_i e1;simp only[some.injEq]at he;subst he;obtain⟨od,q2,t1,t2,t3⟩:=Hp a1 e1;obtain⟨r,ms,l9,rfl,aN,aP,a0,jO⟩:=Hq h ae ad;have:=mK ax;subst this;have:=qX aE;subst this;have key:∀(yY:Array MapEntry) (Cd:Nat),yY.toList.map (λe=>(e.key,e.val))=(jr k b m).map (λe=>(.string ⟨⟨e.1⟩⟩,.bool e.2))->
      ∃aG,bm w0 F0 X F aG (cw (gO y s) y (j.put q (.b3 (.mp (jr k b m))) (s y))) an {w with heap:=w.heap.setIfInBounds r (.map yY Cd)}:=by
     intro yY Cd hm;have aD:r<w.heap.size:=(Array.getElem?_eq_some_iff.1 aN).1;refine bm.O9 (b:=r) h ad rfl rfl (λv aE=>aE) (λv aE=>aE) (λvs e=>by cases e) rfl ?_ (λc aj=>?_) (by simp) rfl rfl ⟨rfl,λ_=>Nat.le_refl _⟩
     .intro cn a eG bf eO;rw[jO]at bf;simp only[some.injEq,Prod.mk.injEq,true_and]at bf;obtain⟨rfl,_⟩:=bf;rw[al]at eO⊢;obtain⟨gl,q3,aaT,f1,f2,f3,f4⟩:=eO;simp only[cons.injEq,Value.map.injEq,some.injEq,and_true]at f1;subst f1;exact⟨f2,r,yY,Cd,rfl,f2,by simp[aD],hm⟩
     .simp[Ne.symm aj]
    rcases Cc k b ms.toList m 0 aP with⟨g1,_,g2⟩|⟨aB,e,g0,ge,g1,g2⟩
    .obtain⟨aG,bO⟩:=key (ms.push {key:=.string ⟨⟨k⟩⟩,val:=.bool b,born:=l9}) (l9+1) (by rw[g2];simp[aP]);exact⟨_,aG,by simp[Instr.mapUpdate,run_underlying t1,getObj,setObj,Sem.run,aN,yX t2,Instr.findKey,run_underlying t2,g1],bO⟩
    .rw[Nat.zero_add]at g1;obtain⟨aG,bO⟩:=key (ms.modify aB λe=>{e with key:=.string ⟨⟨k⟩⟩,val:=.bool b}) l9 (by
      rw[g2,map_set,<-aP];apply ext_getElem?;intro n;by_cases aO:n=aB
      .subst aO;have:n<ms.toList.length:=(List.getElem?_eq_some_iff.1 g0).1;rw[getElem?_set_self (by simpa using this)];simp[g0]
      .simp[getElem?_set_ne (Ne.symm aO),Ne.symm aO])
     have Pc:ms[aB]? =some e:=by simpa using g0
     exact⟨_,aG,by simp[Instr.mapUpdate,run_underlying t1,getObj,setObj,Sem.run,aN,yX t2,Instr.findKey,run_underlying t2,g1,Pc,ge,Instr.keyThatStays,Instr.sameBits,(Cb ⟨⟨k⟩⟩ ⟨⟨k⟩⟩).2 rfl],bO⟩
   .cases he
  .cases he
 .cases he
theorem Pd (h:bm w0 F0 X F S s an w) (t:TypeId):Good C w0 F0 X an w (Instr.makeMap t none) (.b3 (.mp [])) s:=by
 have hold:∀b,b<w.heap.size->(w.alloc (.map #[] 0)).heap[b]? =w.heap[b]? :=by
  intro b I;show(w.heap.push _)[b]? =_;rw[Array.getElem?_push,if_neg (by omega)]
 refine⟨.map (some w.heap.size),w.alloc (.map #[] 0),F,S,?_,h.grow hold (by simp) rfl rfl ⟨rfl,λ_=>Nat.le_refl _⟩,.inr ⟨rfl,rfl,λb=>b=w.heap.size,?_,?_,?_,?_,?_⟩⟩
 .simp[Instr.makeMap,newObj,Sem.run]
 .rw[al];refine⟨w.heap.size,#[],0,rfl,rfl,?_,rfl⟩;show(w.heap.push _)[_]? =_;simp
 .rintro b rfl;simp
 .rintro b rfl p2;exact Nat.lt_irrefl _ (h.dP _ p2)
 .rintro u b rfl hu;exact Nat.lt_irrefl _ (h.dt _ _ hu)
 .rintro b rfl;exact .inr h.size
end
end Go.cG
