/- Part of a proof that a law returns true for every input. No condition. -/
import Derived.Test.YtndfcecbamffaaaGreatFwC
import Derived.Test.YtndfcecbamffaaaGreatFwA
import Derived.Laws.IdiomStrings
import Derived.Laws.Strings
import Derived.LaidEql
import Derived.WideLaws
import Derived.Laws.StructEq
namespace Go.c3
open List Option Nat Or
section
variable {C:bH} {w0 w:World} {F0 X F:Nat->Prop} {S:Nat->Nat->Prop} {s s1:ak} {aw:Nat->Value} {av:I}
theorem nV {k:IntKind} {n:Int} {v:Value} {aO:Nat->Prop} (h:aG w F s aw (.int k n) v aO):v= .int k n:=by
 have bB:=(aG.cd rfl).1 h;rw[ao,fX bB.1]at bB;simpa using bB.2
theorem rD {b:Bool} {v:Value} {aO:Nat->Prop} (h:aG w F s aw (.bool b) v aO):v= .bool b:=by
 have bB:=(aG.cd rfl).1 h;rw[ao,fX bB.1]at bB;simpa using bB.2
theorem nW {b:nq} {v:Value} {aO:Nat->Prop} (h:aG w F s aw (.str b) v aO):v= .string ⟨⟨b⟩⟩:=by
 have bB:=(aG.cd rfl).1 h;rw[ao,fX bB.1]at bB;simpa using bB.2
theorem Ir {v:Value} {aO:Nat->Prop} (h:aG w F s aw .db v aO):v= .pointer none:=by
 have bB:=(aG.cd rfl).1 h;rw[ao,fX bB.1]at bB;simpa using bB.2
theorem qw {v:Value} {aO:Nat->Prop} (h:aG w F s aw .aN v aO):v= .slice none 0 0:=by
 have bB:=(aG.cd rfl).1 h;rw[ao,fX bB.1]at bB;simpa using bB.2
theorem Is {v:Value} {aO:Nat->Prop} (h:aG w F s aw .eM v aO):∃b,v= .bool b:=by
 have bB:=(aG.cd rfl).1 h;rw[ao,fX bB.1]at bB;simpa using bB.2
theorem of_int (k:IntKind) (n:Int):aG w F s aw (.int k n) (.int k n) (λ_=>False):=(aG.cd rfl).2 ⟨rfl,by rw[ao];rfl⟩
theorem of_bool (b:Bool):aG w F s aw (.bool b) (.bool b) (λ_=>False):=(aG.cd rfl).2 ⟨rfl,by rw[ao];rfl⟩
theorem oJ (b:nq):aG w F s aw (.str b) (.string ⟨⟨b⟩⟩) (λ_=>False):=(aG.cd rfl).2 ⟨rfl,by rw[ao];rfl⟩
theorem CX (b:Bool):aG w F s aw .eM (.bool b) (λ_=>False):=(aG.cd rfl).2 ⟨rfl,by rw[ao];exact⟨b,rfl⟩⟩
def iA (op:BinOp) (k:IntKind) (a:Int) (c8:IntKind) (b:Int):Option I:=
 match op with
 | .shl=>if b<0 then none else some (.int k (k.wrap (a*2^(min b.toNat k.bits))))
 | .shr=>if b<0 then none else some (.int k (a.fdiv (2^(min b.toNat k.bits))))
 | .add=>if k=c8 then some (.int k (k.wrap (a+b)))else none
 | .sub=>if k=c8 then some (.int k (k.wrap (a-b)))else none
 | .mul=>if k=c8 then some (.int k (k.wrap (a*b)))else none
 | .quo=>if k=c8/\b≠0 then some (.int k (k.wrap (a.tdiv b)))else none
 | .rem=>if k=c8/\b≠0 then some (.int k (a.tmod b))else none
 | .eql=>if k=c8 then some (.bool (a==b))else none
 | .neq=>if k=c8 then some (.bool (a !=b))else none
 | .lss=>if k=c8 then some (.bool (decide (a<b)))else none
 | .leq=>if k=c8 then some (.bool (decide (a<=b)))else none
 | .gtr=>if k=c8 then some (.bool (decide (b<a)))else none
 | .geq=>if k=c8 then some (.bool (decide (b<=a)))else none
 | .and=>if k=c8 then some (.int k (bitsOf .and k a b))else none
 | .or=>if k=c8 then some (.int k (bitsOf .or k a b))else none
 | .xor=>if k=c8 then some (.int k (bitsOf .xor k a b))else none
 | .andNot=>if k=c8 then some (.int k (bitsOf .andNot k a b))else none
def m1 (op:BinOp) (a b:nq):Option I:=
 match op with
 | .add=>if a.length+b.length<=9223372036854775807 then some (.str (a++b))else none
 | .eql=>some (.bool (a==b))
 | .neq=>some (.bool !(a==b))
 | .lss=>some (.bool (Op.bytesLess a b))
 | .leq=>some (.bool (Op.bytesLess a b||a==b))
 | .gtr=>some (.bool !(Op.bytesLess a b||a==b))
 | .geq=>some (.bool !(Op.bytesLess a b))
 |_=>none
def jr (s:ak):I->Option afd
 | .aN=>some (some true)
 | .slice xs=>some (if xs=[]then none else some false)
 | .h x q=>match I.sub q (s x)with
   |some (.ag _ xs)=>some (if xs=[]then none else some false)
   |_=>none
 |_=>none
def kP (s:ak):I->afd
 | .db=>some true
 | .ref _=>some false
 | .h x q=>match I.sub q (s x)with
   |some (.aK _)=>some false
   |_=>none
 |_=>none
def oK (neg:Bool):afd->I
 |some b=>.bool (b !=neg)
 |none=>.eM
def structEq (P:Program) (T:TypeId):Bool:= !P.stoodInHeld T&& !P.eqGuardType P.depth T&&(P.fieldsOf T).toList.all λf=>decide (f.name≠ "_")
def mm (C:bH):List (TypeId×Nat)->Nat->afh->afh->afd
 |[],_,[],[]=>some true
 |(jq,off)::ay,n,d::ds,e::es=>if off=n then(match(C.T jq).k,d,e with
  | .int k,.int bU a,.int ch b=>if bU=k/\ch=k then(mm C ay (n+1) ds es).map λr=>a==b&&r else none
  | .bool,.bool a,.bool b=>(mm C ay (n+1) ds es).map λr=>a==b&&r
  | .str,.str a,.str b=>(mm C ay (n+1) ds es).map λr=>a==b&&r
  |_,_,_=>none)else none
 |_,_,_,_=>none
def eh (C:bH) (s:ak) (op:BinOp) (T:TypeId) (x y:I):Option I:=
 match x,y with
 | .int k a,.int c8 b=>iA op k a c8 b
 | .str a,.str b=>m1 op a b
 | .bool a,.bool b=>match op,(C.T T).k with
   | .eql,.bool=>some (.bool (a==b))
   | .neq,.bool=>some (.bool !(a==b))
   |_,_=>none
 | .agg ds,.agg es=>match op,(C.T T).k with
   | .eql,.struct ay=>if structEq C.P T=true then(mm C ay 0 ds es).map λb=>.bool b else none
   | .neq,.struct ay=>if structEq C.P T=true then(mm C ay 0 ds es).map λb=>.bool !b else none
   |_,_=>none
 |x,.aN=>match op,(C.T T).k with
  | .eql,.slice _=>(jr s x).map (oK false)
  | .neq,.slice _=>(jr s x).map (oK true)
  |_,_=>none
 |x,.db=>match op,(C.T T).k with
  | .eql,.ptr _=>(kP s x).map λb=>.bool b
  | .neq,.ptr _=>(kP s x).map λb=>.bool !b
  |_,_=>none
 |_,_=>none
theorem PA {P:Program} {op:BinOp} {T:TypeId} {k c8:IntKind} {a b:Int} (he:iA op k a c8 b=some av) (w:World):
  ∃v,(binOp op T (.int k a) (.int c8 b)).run P w= .ok v w/\aG w F s aw av v (λ_=>False):=by
 unfold iA at he;cases op<;>simp only at he<;>split at he<;>first|(cases he;done)|skip
 all_goals
  rename_i an;simp only[some.injEq]at he;subst he
 all_goals first
  |(subst an;simp only[binOp_add,binOp_sub,binOp_mul,binOp_eql,binOp_neq,binOp_lss,binOp_leq,binOp_gtr,binOp_geq,binOp_and,binOp_or,binOp_xor,binOp_andNot,Op.intArith,Op.intBits,Sem.run_pure,Result.ok.injEq,and_true,exists_eq_left']
    first|exact of_int _ _|exact of_bool _)
  |(obtain⟨rfl,bo⟩:=an
    simp only[binOp_quo,binOp_rem,Op.intDiv,bo,if_false,Sem.run_pure,Result.ok.injEq,and_true,exists_eq_left'];exact of_int _ _)
  |(simp only[binOp_shl,binOp_shr,Op.shift,an,if_false,Sem.run_pure,Result.ok.injEq,and_true,exists_eq_left']
    exact of_int _ _)
theorem wP (a:nq):(⟨⟨a⟩⟩:ByteArray).toList=a:=ByteArray.toList_eq _
theorem PB (a b:nq):(⟨⟨a⟩⟩:ByteArray)++(⟨⟨b⟩⟩:ByteArray)=⟨⟨a++b⟩⟩:=by
 apply ByteArray.ext;simp[ByteArray.data_append]
theorem PC {P:Program} {op:BinOp} {T:TypeId} {a b:nq} (he:m1 op a b=some av) (w:World):
  ∃v,(binOp op T (.string ⟨⟨a⟩⟩) (.string ⟨⟨b⟩⟩)).run P w= .ok v w/\aG w F s aw av v (λ_=>False):=by
 have U:∀op,binOp op T (.string ⟨⟨a⟩⟩) (.string ⟨⟨b⟩⟩)=Op.stringOp op ⟨⟨a⟩⟩ ⟨⟨b⟩⟩:=by intro op;cases op<;>rfl
 rw[U];unfold m1 at he;cases op<;>simp only[some.injEq]at he<;>first|(cases he;done)|skip
 case add=>
  split at he
  .rename_i hl;simp only[some.injEq]at he;subst he;have aa:((ByteArray.size ⟨⟨a⟩⟩+ByteArray.size ⟨⟨b⟩⟩:Nat):Int)<=9223372036854775807:=by
    show((a.length+b.length:Nat):Int)<=_;omega
   refine⟨.string ⟨⟨a++b⟩⟩,?_,oJ _⟩;simp only[Op.stringOp,IntKind.max_i64];rw[if_neg (by omega),PB];rfl
  .cases he
 all_goals
  subst he;simp only[Op.stringOp,wP,Sem.run_pure,Result.ok.injEq,and_true,exists_eq_left'];exact of_bool _
theorem CY (h:bw w0 F0 X F S s aw w) {v:Value} {y:Nat} {q:afc} (aH:aG w F s aw (.h y q) v (λ_=>False)) {sz:Nat} {xs:afh} (ai:I.sub q (s y)=some (.ag sz xs)):
  (xs=[]/\∃a,v= .slice a 0 0)\/∃b cap cur e fr,v= .slice (some ⟨b,0,none⟩) xs.length cap/\w.heap[b]? =some (.cells cur e fr)/\mf fr cur.size/\xs.length<=cap/\cap<=maxLen/\cur.size=cap*sz/\(∀d∈xs,d.wd=sz)/\
   ∃aO,aX w F xs (cur.toList.take (xs.length*sz)) aO/\(∀c,aO c->S y c)/\S y b:=by
 rw[aG]at aH;obtain⟨b7,a,aV,ba,bT⟩:=aH _ ai rfl;have aa:Value.fU v=true:=bT;rw[fX aa]at ba;subst ba;have al:=h.cV y;rw[aG.cd (gx ai (.inl rfl))]at al;obtain⟨fk,ca,dB,eF,k0,bU,ch,dd,cW,ed⟩:=ctx q (s y) (bX (aw y)) (S y) none _ al.2 ai;rw[k0]at aV;simp only[some.injEq,Prod.mk.injEq,true_and]at aV;obtain⟨rfl,rfl⟩:=aV;rw[ao]at cW;rcases cW with⟨rfl,aW,af⟩|⟨b,cap,cur,a3,fr,S2,aY,b1,cI,bQ,bL,gI,iS,jC,oL,dM,dT⟩
 .simp at af;exact .inl ⟨rfl,_,af⟩
 .simp at aY;exact .inr ⟨b,cap,cur,a3,fr,aY,cI,bQ.low,bL,gI,iS,jC,S2,oL,λc an=>ch _ (dM c an),ch _ b1⟩
theorem It (h:bw w0 F0 X F S s aw w) {v:Value} {y:Nat} {q:afc} (aH:aG w F s aw (.h y q) v (λ_=>False)) {d:I} (ai:I.sub q (s y)=some (.aK d)):
  ∃b cur e fr,v= .pointer (some ⟨b,0,none⟩)/\w.heap[b]? =some (.cells cur e fr):=by
 rw[aG]at aH;obtain⟨b7,a,aV,ba,bT⟩:=aH _ ai rfl;have aa:Value.fU v=true:=bT;rw[fX aa]at ba;subst ba;have al:=h.cV y;rw[aG.cd (gx ai (.inl rfl))]at al;obtain⟨fk,ca,dB,eF,k0,bU,ch,dd,cW,ed⟩:=ctx q (s y) (bX (aw y)) (S y) none _ al.2 ai;rw[k0]at aV;simp only[some.injEq,Prod.mk.injEq,true_and]at aV;obtain⟨rfl,rfl⟩:=aV;rw[ao]at cW;obtain⟨b,cur,a3,fr,S2,aY,b1,cI,_⟩:=cW;simp at aY;exact⟨b,cur,a3,fr,aY,cI⟩
theorem Iu {P:Program} {T e:TypeId} (aP:P.underlying T=some (.slice e)) (w:World):∀d,(Op.equalIn (d+1) T (.slice none 0 0) (.slice none 0 0)).run P w= .ok true w/\
  ∀a n c,(Op.equalIn (d+1) T (.slice (some a) n c) (.slice none 0 0)).run P w= .ok false w:=by
 intro d;refine⟨by simp[Op.equalIn,run_underlying aP],λa n c=>by simp[Op.equalIn,run_underlying aP]⟩
theorem Iv {P:Program} {T e:TypeId} (aP:P.underlying T=some (.pointer e)) (w:World):∀d,(Op.equalIn (d+1) T (.pointer none) (.pointer none)).run P w= .ok true w/\
  ∀a,(Op.equalIn (d+1) T (.pointer (some a)) (.pointer none)).run P w= .ok false w:=by
 intro d;refine⟨by simp[Op.equalIn,run_underlying aP],λa=>by simp[Op.equalIn,run_underlying aP]⟩
theorem Iw {P:Program} {T:TypeId} (aP:P.underlying T=some .bool) (w:World):∀d a b,(Op.equalIn (d+1) T (.bool a) (.bool b)).run P w= .ok (a==b) w:=by
 intro d a b;simp[Op.equalIn,run_underlying aP]
theorem Ix (h:bw w0 F0 X F S s aw w) {x:I} {v:Value} (aH:aG w F s aw x v (λ_=>False)) {T e:TypeId} {r:afd} (aR:jr s x=some r) (aP:C.P.underlying T=some (.slice e)):
  ∃b,(Op.equal T v (.slice none 0 0)).run C.P w= .ok b w/\(∀eN,r=some eN->eN=b)/\Value.fU v=true/\∃a n c,v= .slice a n c:=by
 have aT:=λa n c=>(Iu aP w 9999).2 a n c;have fE:=(Iu aP w 9999).1;cases x with
 |aN=>
  have:=qw aH;subst this;simp[jr]at aR;subst aR;exact⟨true,fE,by simp,rfl,_,_,_,rfl⟩
 |slice xs=>
  have bB:=(aG.cd rfl).1 aH;rw[ao,fX bB.1]at bB;simp only[jr,some.injEq]at aR;obtain⟨_,⟨rfl,a,c,af,_,sC⟩|⟨b,o,cap,c4,sz,af,aF⟩⟩:=bB
  .simp at af aR;subst af;subst aR;cases a with
   |none=>
    have:=sC rfl;subst this;exact⟨true,fE,by simp,rfl,_,_,_,rfl⟩
   |some a=>exact⟨false,aT _ _ _,by simp,rfl,_,_,_,rfl⟩
  .simp at af;subst af;refine⟨false,aT _ _ _,?_,rfl,_,_,_,rfl⟩;subst aR;split<;>simp
 |h y q=>
  simp only[jr]at aR;split at aR
  .rename_i sz xs ai;simp only[some.injEq]at aR;rcases CY h aH ai with⟨rfl,a,rfl⟩|⟨b,cap,cur,a3,fr,rfl,_⟩
   .simp at aR;subst aR;cases a with
    |none=>exact⟨true,fE,by simp,rfl,_,_,_,rfl⟩
    |some a=>exact⟨false,aT _ _ _,by simp,rfl,_,_,_,rfl⟩
   .refine⟨false,aT _ _ _,?_,rfl,_,_,_,rfl⟩;subst aR;split<;>simp
  .cases aR
 |_=>simp[jr]at aR
theorem Iy (h:bw w0 F0 X F S s aw w) {x:I} {v:Value} (aH:aG w F s aw x v (λ_=>False)) {T e:TypeId} {r:Bool} (aR:kP s x=some r) (aP:C.P.underlying T=some (.pointer e)):
  (Op.equal T v (.pointer none)).run C.P w= .ok r w/\∃a,v= .pointer a:=by
 have aT:=λa=>(Iv aP w 9999).2 a;have fE:=(Iv aP w 9999).1;cases x with
 |db=>
  have:=Ir aH;subst this;simp[kP]at aR;subst aR;exact⟨fE,_,rfl⟩
 |ref d=>
  have bB:=(aG.cd rfl).1 aH;rw[ao,fX bB.1]at bB;simp[kP]at aR;subst aR;obtain⟨_,b,o,c4,af,_⟩:=bB;simp at af;subst af;exact⟨aT _,_,rfl⟩
 |h y q=>
  simp only[kP]at aR;split at aR
  .rename_i d ai;simp only[some.injEq]at aR;subst aR;obtain⟨b,cur,e,fr,rfl,_⟩:=It h aH ai;exact⟨aT _,_,rfl⟩
  .cases aR
 |_=>simp[kP]at aR
theorem PD (a9:C.dL):∀(ay:List (TypeId×Nat)) (gs:List Field) (n:Nat) (ds es:afh) (r:Bool) (gi l2 bA bK:aff) (xs cf:Array Value) (S1 S2:Nat->Prop),
  gs.map (λg=>(g.type,g.offset))=ay->(gs.all λf=>decide (f.name≠ "_"))=true->mm C ay n ds es=some r->aX w F ds bA S1->aX w F es bK S2->xs.toList=gi++bA->gi.length=n->cf.toList=l2++bK->l2.length=n->
  ∀m,(Op.eqFields (m+1) xs cf gs).run C.P w= .ok r w:=by
 intro ay;induction ay with
 |nil=>
  intro gs n ds es r gi l2 bA bK xs cf S1 S2 bl a4 he ae af al hl a5 ur m;have:gs=[]:=by simpa using bl
  subst this;cases ds<;>cases es<;>simp[mm]at he;subst he;simp[Op.eqFields]
 |cons p ay ih=>
  obtain⟨jq,off⟩:=p;intro gs n ds es r gi l2 bA bK xs cf S1 S2 bl a4 he ae af al hl a5 ur m;cases gs with
  |nil=>simp at bl
  |cons g gs=>
   simp only[map_cons,cons.injEq,Prod.mk.injEq]at bl;obtain⟨⟨rfl,rfl⟩,bl⟩:=bl;simp only[all_cons,Bool.and_eq_true,decide_eq_true_eq]at a4;cases ds with
   |nil=>simp[mm]at he
   |cons d ds=>
   cases es with
   |nil=>simp[mm]at he
   |cons e es=>
   simp only[mm]at he;split at he
   .rename_i pB;rw[aX]at ae af;obtain⟨ab,aW,zy,PE,rfl,dD,ej,fV,pD,dE⟩:=ae;obtain⟨ie,hp,adw,PF,rfl,gj,fQ,gJ,gK,ku⟩:=af;have step:∀(x y:Value) (z:Bool),(C.T g.type).flat=true->ab=[x]->ie=[y]->(∀m,(Op.equalIn (m+1) g.type x y).run C.P w= .ok z w)->∀gz,mm C ay (n+1) ds es=some gz->
      (Op.eqFields (m+1) xs cf (g::gs)).run C.P w= .ok (z&&gz) w:=by
     intro x y z hO CZ C0 heq gz dS;subst CZ;subst C0;have PG:xs[g.offset]? =some x:=by
      rw[<-Array.getElem?_toList,al,pB,<-hl,getElem?_append_right (Nat.le_refl _)];simp
     have PH:cf[g.offset]? =some y:=by
      rw[<-Array.getElem?_toList,a5,pB,<-ur,getElem?_append_right (Nat.le_refl _)];simp
     have aC:=ih gs (n+1) ds es gz (gi++[x]) (l2++[y]) aW hp xs cf PE PF bl a4.2 dS ej fQ (by rw[al];simp) (by simp[hl]) (by rw[a5];simp) (by simp[ur]) m;unfold Op.eqFields;rw[if_pos a4.1];simp only[part,Sem.run_bind,CV a9 hO,Result.andThen_ok,Bool.false_eq_true,if_false,PG,PH,Sem.run_pure,heq];cases z
     .simp
     .simpa using aC
    split at he
    .rename_i k bU a ch b aj;split at he
     .rename_i PI;obtain⟨rfl,rfl⟩:=PI;rw[ao]at dD gj;simp only[map_eq_some_iff]at he;obtain⟨gz,dS,rfl⟩:=he;obtain⟨i,sD,Iz,aT,a3,aY,b1,cI,bQ,bL⟩:=a9.info (fv aj (by simp));rw[aj]at bL;have m2:=wL bL;subst m2;exact step _ _ _ (by simp[fW.flat,aj]) dD gj (λm=>run_equalIn_int w m g.type _ _ a b bQ) gz dS
     .cases he
    .rename_i a b aj;rw[ao]at dD gj;simp only[map_eq_some_iff]at he;obtain⟨gz,dS,rfl⟩:=he;obtain⟨i,sD,Iz,aT,a3,aY,b1,cI,bQ,bL⟩:=a9.info (fv aj (by simp));rw[aj]at bL;have m2:=CR bL;subst m2;exact step _ _ _ (by simp[fW.flat,aj]) dD gj (λm=>run_equalIn_bool' w m g.type a b bQ) gz dS
    .rename_i a b aj;rw[ao]at dD gj;simp only[map_eq_some_iff]at he;obtain⟨gz,dS,rfl⟩:=he;obtain⟨i,sD,Iz,aT,a3,aY,b1,cI,bQ,bL⟩:=a9.info (fv aj (by simp));rw[aj]at bL;have m2:=pA bL;subst m2;refine step _ _ (a==b) (by simp[fW.flat,aj]) dD gj (λm=>?_) gz dS;rw[run_equalIn_string w m g.type _ _ bQ,wP,wP]
    .cases he
   .cases he
theorem IA (a9:C.dL) {T:TypeId} {ay:List (TypeId×Nat)} (aj:(C.T T).k= .struct ay) {ds es:afh} {fD gh:Value} {S1 S2:Nat->Prop} {r:Bool} (al:aG w F s aw (.agg ds) fD S1) (a5:aG w F s aw (.agg es) gh S2)
  (cF:structEq C.P T=true) (he:mm C ay 0 ds es=some r) (op:BinOp) (wQ wR:Operand):
  (eqGuard op T wQ wR fD gh).run C.P w= .ok () w/\(Op.equal T fD gh).run C.P w= .ok r w:=by
 obtain⟨i,d,z,aT,a3,aY,b1,cI,bQ,bL⟩:=a9.info (fv aj (by simp));rw[aj]at bL;obtain⟨gs,rfl,gI⟩:=wK bL;have qx:C.P.fieldsOf T=gs:=by simp[Program.fieldsOf,bQ]
 simp only[structEq,Bool.and_eq_true,Bool.not_eq_true',qx]at cF;obtain⟨⟨gj,fQ⟩,gJ⟩:=cF;obtain⟨⟨xs,rfl⟩,lh⟩:=(aG.cd rfl).1 al;obtain⟨⟨cf,rfl⟩,qs⟩:=(aG.cd rfl).1 a5;rw[ao]at lh qs;constructor
 .cases op<;>simp[eqGuard,fQ]
 .show(Op.equalIn (9999+1) T _ _).run C.P w=_;rw[run_equalIn_struct w 9999 T xs cf (by rw[qx];exact bQ) gj,qx];exact PD a9 ay gs.toList 0 ds es r [] [] _ _ xs cf S1 S2 gI gJ he lh qs rfl rfl rfl rfl 9998
theorem PJ (a9:C.dL) (h:bw w0 F0 X F S s aw w) {op:BinOp} {T:TypeId} {x y:I} {fD gh:Value} (wQ wR:Operand) (al:aG w F s aw x fD (λ_=>False)) (a5:aG w F s aw y gh (λ_=>False))
  (he:eh C s op T x y=some av):Good C w0 F0 X aw w (do eqGuard op T wQ wR fD gh;binOp op T fD gh) av s:=by
 unfold eh at he;split at he
 .have:=nV al;subst this;have:=nV a5;subst this;obtain⟨v,ae,af⟩:=PA (P:=C.P) (T:=T) he w;refine Good.same h (v:=v) ?_ ?_ af
  .rw[eqGuard_at_int];exact ae
  .revert he;unfold iA;cases op<;>simp only<;>split<;>simp<;>(rintro rfl;rfl)
 .have:=nW al;subst this;have:=nW a5;subst this;obtain⟨v,ae,af⟩:=PC (P:=C.P) (T:=T) he w;refine Good.same h (v:=v) ?_ ?_ af
  .rw[eqGuard_at_string];exact ae
  .revert he;unfold m1;cases op<;>simp only<;>(try split)<;>simp<;>(try (rintro rfl;rfl))
 .have:=rD al;subst this;have:=rD a5;subst this;split at he
  .rename_i aj;simp only[some.injEq]at he;subst he;obtain⟨i,d,z,aT,a3,aY,b1,cI,bQ,bL⟩:=a9.info (fv aj (by simp));rw[aj]at bL;have:=CR bL;subst this;refine Good.same h ?_ rfl (of_bool _);rw[eqGuard_at_bool];simp[binOp,Op.equal,Op.maxDepth,Iw bQ w 9999]
  .rename_i aj;simp only[some.injEq]at he;subst he;obtain⟨i,d,z,aT,a3,aY,b1,cI,bQ,bL⟩:=a9.info (fv aj (by simp));rw[aj]at bL;have:=CR bL;subst this;refine Good.same h ?_ rfl (of_bool _);rw[eqGuard_at_bool];simp[binOp,Op.equal,Op.maxDepth,Iw bQ w 9999]
  .cases he
 .split at he
  .rename_i ay aj;split at he
   .rename_i cF;simp only[map_eq_some_iff]at he;obtain⟨r,aR,rfl⟩:=he;obtain⟨aV,ba⟩:=IA a9 aj al a5 cF aR .eql wQ wR;obtain⟨⟨xs,rfl⟩,_⟩:=(aG.cd rfl).1 al;obtain⟨⟨cf,rfl⟩,_⟩:=(aG.cd rfl).1 a5;exact Good.same h (by simp[aV,binOp,ba]) rfl (of_bool _)
   .cases he
  .rename_i ay aj;split at he
   .rename_i cF;simp only[map_eq_some_iff]at he;obtain⟨r,aR,rfl⟩:=he;obtain⟨aV,ba⟩:=IA a9 aj al a5 cF aR .neq wQ wR;obtain⟨⟨xs,rfl⟩,_⟩:=(aG.cd rfl).1 al;obtain⟨⟨cf,rfl⟩,_⟩:=(aG.cd rfl).1 a5;exact Good.same h (by simp[aV,binOp,ba]) rfl (of_bool _)
   .cases he
  .cases he
 .have:=qw a5;subst this;split at he
  .rename_i e aj;simp only[map_eq_some_iff]at he;obtain⟨r,aR,rfl⟩:=he;obtain⟨i,d,z,aT,a3,aY,b1,cI,bQ,bL⟩:=a9.info (fv aj (by simp));rw[aj]at bL;have:=ks bL;subst this;obtain⟨b,ae,af,aF,J,b3,i4,rfl⟩:=Ix h al aR bQ;refine Good.same h (v:=.bool b) ?_ ?_ ?_
   .rw[eqGuard_at_slice];simp[binOp,ae]
   .cases r<;>rfl
   .cases r with
    |none=>exact CX b
    |some eN=>have:=af eN rfl;subst this;simp only[oK,Bool.bne_false];exact of_bool _
  .rename_i e aj;simp only[map_eq_some_iff]at he;obtain⟨r,aR,rfl⟩:=he;obtain⟨i,d,z,aT,a3,aY,b1,cI,bQ,bL⟩:=a9.info (fv aj (by simp));rw[aj]at bL;have:=ks bL;subst this;obtain⟨b,ae,af,aF,J,b3,i4,rfl⟩:=Ix h al aR bQ;refine Good.same h (v:=.bool !b) ?_ ?_ ?_
   .rw[eqGuard_at_slice];simp[binOp,ae]
   .cases r<;>rfl
   .cases r with
    |none=>exact CX _
    |some eN=>have:=af eN rfl;subst this;simp only[oK,Bool.bne_true];exact of_bool _
  .cases he
 .have:=Ir a5;subst this;split at he
  .rename_i e aj;simp only[map_eq_some_iff]at he;obtain⟨r,aR,rfl⟩:=he;obtain⟨i,d,z,aT,a3,aY,b1,cI,bQ,bL⟩:=a9.info (fv aj (by simp));rw[aj]at bL;have:=Ig bL;subst this;obtain⟨ae,J,rfl⟩:=Iy h al aR bQ;refine Good.same h (v:=.bool r) ?_ rfl (of_bool _);rw[eqGuard_at_pointer];simp[binOp,ae]
  .rename_i e aj;simp only[map_eq_some_iff]at he;obtain⟨r,aR,rfl⟩:=he;obtain⟨i,d,z,aT,a3,aY,b1,cI,bQ,bL⟩:=a9.info (fv aj (by simp));rw[aj]at bL;have:=Ig bL;subst this;obtain⟨ae,J,rfl⟩:=Iy h al aR bQ;refine Good.same h (v:=.bool !r) ?_ rfl (of_bool _);rw[eqGuard_at_pointer];simp[binOp,ae]
  .cases he
 .cases he
end
section
variable {C:bH} {w0 w:World} {F0 X F:Nat->Prop} {S:Nat->Nat->Prop} {s s1:ak} {aw:Nat->Value} {av:I}
def un (op:UnOp) (x:I):Option I:=
 match op,x with
 | .not,.bool b=>some (.bool !b)
 | .not,.eM=>some .eM
 | .neg,.int k n=>some (.int k (k.wrap (0-n)))
 |_,_=>none
theorem PK (h:bw w0 F0 X F S s aw w) {op:UnOp} {x:I} {v:Value} (aH:aG w F s aw x v (λ_=>False)) (he:un op x=some av):Good C w0 F0 X aw w (Op.unary op v) av s:=by
 unfold un at he;split at he<;>first|(cases he;done)|(simp only[some.injEq]at he;subst he)
 .have:=rD aH;subst this;exact Good.same h rfl rfl (of_bool _)
 .obtain⟨b,rfl⟩:=Is aH;exact Good.same h rfl rfl (CX _)
 .have:=nV aH;subst this;exact Good.same h rfl rfl (of_int _ _)
def iT (s:ak) (x:I):Option I:=
 match x with
 | .ref d=>some (.ref d)
 | .fn f c=>some (.fn f c)
 | .h y q=>match I.sub q (s y)with
   |some (.aK _)=>some (.h y q)
   |_=>none
 |_=>none
theorem PL {d:I} {v:Value} {aO:Nat->Prop} (h:aG w F s aw (.ref d) v aO):∃b o c4,v= .pointer (some ⟨b,o,none⟩)/\F b/\hi w b o c4/\ao w F d c4 (λ_=>False):=by
 have bB:=(aG.cd rfl).1 h;rw[ao,fX bB.1]at bB;obtain⟨_,b,o,c4,ae,af,aF,a1⟩:=bB;simp at ae;subst ae;exact⟨b,o,c4,rfl,af,aF,a1⟩
theorem PM (h:bw w0 F0 X F S s aw w) {x:I} {v:Value} (aH:aG w F s aw x v (λ_=>False)) (he:iT s x=some av):
  av=x/\x.plain=true/\((∃a,v= .pointer (some a))\/∃f c,v= .func (.func f) #[] c):=by
 unfold iT at he;split at he
 .simp only[some.injEq]at he;subst he;obtain⟨b,o,c4,rfl,_⟩:=PL aH;exact⟨rfl,rfl,.inl ⟨_,rfl⟩⟩
 .simp only[some.injEq]at he;subst he;rw[aG]at aH;obtain⟨arr,rfl,_⟩:=aH;exact⟨rfl,rfl,.inr ⟨_,_,rfl⟩⟩
 .split at he
  .rename_i d ai;simp only[some.injEq]at he;subst he;obtain⟨b,cur,e,fr,rfl,_⟩:=It h aH ai;exact⟨rfl,rfl,.inl ⟨_,rfl⟩⟩
  .cases he
 .cases he
def ex (s:ak) (x:I) (k:Nat):Option I:=
 match x with
 | .tuple ds=>match ds[k]? with
   |some d=>if d.plain=true then some d else none
   |none=>none
 | .h y q=>match I.sub q (s y)with
   |some (.tuple ds)=>match ds[k]? with
    |some d=>if I.eb ds=true then none else some (if d.plain then d else .h y (q++[k]))
    |none=>none
   |_=>none
 |_=>none
theorem IB:∀(vs:aff) (k:Nat) (x:Value) (ds:afh),vs[k]? =some x->vs.length=ds.length->(∀(j:Nat) (d:I) (y:Value),ds[j]? =some d->vs[j]? =some y->(hj y).length=d.wd)->
  ∃l r,vs.flatMap hj=l++(hj x++r)/\l.length=I.dh (ds.take k)
 |[],k,x,ds,h,_,_=>by simp at h
 |v::vs,0,x,ds,h,hl,hw=>by
  simp at h;subst h;exact⟨[],vs.flatMap hj,by simp,by simp[I.dh]⟩
 |v::vs,k+1,x,d::ds,h,hl,hw=>by
  obtain⟨l,r,aT,a3⟩:=IB vs k x ds (by simpa using h) (by simpa using hl) (λj d y ae af=>hw (j+1) d y (by simpa using ae) (by simpa using af));refine⟨hj v++l,r,by simp[aT],?_⟩;have:=hw 0 d v (by simp) (by simp);simp[I.dh,a3,this]
 |v::vs,k+1,x,[],h,hl,hw=>by simp at hl
theorem PN {d:I} {v:Value} (h:hL d v) (_hd:∀vs,d≠.tuple vs):bX v=hj v:=by
 cases d with
 |agg ay=>obtain⟨arr,rfl⟩:=h;rfl
 |_=>
  have ae:Value.fU v=true:=h;cases v<;>first|rfl|(simp[Value.fU]at ae)
theorem PO {d:I} {v:Value} (h:hL d v) (ai:∀vs,d≠.tuple vs):dc d v:=by
 cases d with
 |tuple vs=>exact(ai _ rfl).elim
 |_=>exact h
theorem IC (h:bw w0 F0 X F S s aw w) {x:I} {v:Value} {k:Nat} (aH:aG w F s aw x v (λ_=>False)) (he:ex s x k=some av):Good C w0 F0 X aw w (Instr.extract v k) av s:=by
 have pick:∀(ds:afh) (d:I) (arr:Array Value),ds[k]? =some d->(arr.size=ds.length/\∀(k:Nat) (d:I) (x:Value),ds[k]? =some d->arr[k]? =some x->hL d x/\(∀vs,d≠.tuple vs)/\(hj x).length=d.wd)->
   ∃x,arr[k]? =some x/\dc d x/\((bX (.tuple arr)).drop (I.dh (ds.take k))).take d.wd=bX x:=by
  intro ds d arr ai ⟨bF,j7⟩;have c5:k<arr.size:=by rw[bF];exact(List.getElem?_eq_some_iff.1 ai).1
  have al:arr[k]? =some arr[k]:=Array.getElem?_eq_getElem c5;obtain⟨aV,ba,bT⟩:=j7 k d _ ai al;obtain⟨l,r,aT,a3⟩:=IB arr.toList k arr[k] ds (by simp[c5]) (by simpa using bF) (λj d y ae af=>(j7 j d y ae (by simpa using af)).2.2);refine⟨_,al,PO aV ba,?_⟩;rw[PN aV ba];simp only[bX];rw[aT];exact nO l _ r _ _ a3 bT
 unfold ex at he;split at he
 .rename_i ds;split at he
  .rename_i d ai;split at he
   .rename_i au;simp only[some.injEq]at he;subst he;have bB:=(aG.cd rfl).1 aH;obtain⟨⟨arr,rfl,bF⟩,fF⟩:=bB;obtain⟨x,al,aa,an⟩:=pick ds d arr ai bF;have aR:(Instr.extract (.tuple arr) k).run C.P w= .ok x w:=by simp[Instr.extract,al]
    rw[ao]at fF;obtain⟨bA,dQ,bK,S1,gq,e,eZ,dD,ej,fV,dE,ia⟩:=aX.pick ds _ _ k d fF ai;rw[e,nO bA dQ bK _ _ eZ (ao.length _ _ _ dE)]at an;by_cases aP:d.tree=true
    .exact Good.same h aR au ((aG.cd aP).2 ⟨aa,by rw[<-an];exact ao.plain _ _ _ _ au dE⟩)
    .cases d<;>first|exact(aP rfl).elim|(rw[ao]at dE;exact dE.elim)|exact Good.same h aR rfl (by rw[aG];trivial)|(have bt:=ao.plain _ _ _ (λ_=>False) au dE;rw[an,fX (by exact aa)]at bt;exact Good.same h aR rfl (aG.pC _ _ rfl bt))
   .cases he
  .cases he
 .rename_i y q;split at he
  .rename_i ds ai;split at he
   .rename_i d aj;split at he
    .cases he
    .rename_i gH;simp only[some.injEq]at he;have gH:(I.tuple ds).plain=false:=by simpa [I.plain]using gH
     rw[aG]at aH;obtain⟨b7,a,aV,ba,bT⟩:=aH _ ai gH;obtain⟨arr,rfl,bF⟩:=bT;obtain⟨x,al,aa,an⟩:=pick ds d arr aj bF;have aR:(Instr.extract (.tuple arr) k).run C.P w= .ok x w:=by simp[Instr.extract,al]
     have a5:=h.cV y;rw[aG.cd (gx ai (.inl gH))]at a5;obtain⟨fk,ca,dB,eF,k0,bU,ch,dd,cW,ed⟩:=ctx q (s y) (bX (aw y)) (S y) none _ a5.2 ai;rw[k0]at aV;simp only[some.injEq,Prod.mk.injEq,true_and]at aV;obtain⟨rfl,rfl⟩:=aV;rw[ba]at an;split at he
     .rename_i au;subst he;rw[ao]at cW;obtain⟨bA,dQ,bK,S1,gq,e,eZ,dD,ej,fV,dE,ia⟩:=aX.pick ds _ _ k d cW aj;rw[e,nO bA dQ bK _ _ eZ (ao.length _ _ _ dE)]at an;by_cases aP:d.tree=true
      .exact Good.same h aR au ((aG.cd aP).2 ⟨aa,by rw[<-an];exact ao.plain _ _ _ _ au dE⟩)
      .cases d<;>first|exact(aP rfl).elim|(rw[ao]at dE;exact dE.elim)|exact Good.same h aR rfl (by rw[aG];trivial)|(have bt:=ao.plain _ _ _ (λ_=>False) au dE;rw[an,fX (by exact aa)]at bt;exact Good.same h aR rfl (aG.pC _ _ rfl bt))
     .subst he;refine Good.same h aR rfl ?_;rw[aG];intro d2 hx wI;rw[sw w q _ _ _ _ _ _ [k] k0];rw[um _ _ _ _ ai]at hx;simp only[I.sub,aj,some.injEq]at hx;subst hx;simp only[cj,aj];exact⟨_,_,rfl,an.symm,aa⟩
   .cases he
  .cases he
 .cases he
def lN (C:bH) (s:ak) (T:TypeId) (x:I) (k:Nat):Option I:=
 match(C.T T).k with
 | .struct ay=>match ay[k]? with
   |some (jq,off)=>match x with
    | .agg ds=>match ds[k]? with
      |some d=>if I.dh (ds.take k)=off/\fits C jq d=true/\d.plain=true/\d.tree=true then some d else none
      |none=>none
    | .h y q=>match I.sub q (s y)with
      |some (.agg ds)=>match ds[k]? with
       |some d=>if I.dh (ds.take k)=off/\fits C jq d=true/\I.eb ds=false/\d.tree=true then some (if d.plain then d else .h y (q++[k]))else none
       |none=>none
      |_=>none
    |_=>none
   |none=>none
 |_=>none
theorem PQ (a9:C.dL) (h:bw w0 F0 X F S s aw w) {T:TypeId} {x:I} {v:Value} {k:Nat} (aH:aG w F s aw x v (λ_=>False)) (he:lN C s T x k=some av):Good C w0 F0 X aw w (Instr.field T v k) av s:=by
 have key:∀(ay:List (TypeId×Nat)) (jq:TypeId) (off:Nat),(C.T T).k= .struct ay->ay[k]? =some (jq,off)->∀(ds:afh) (d:I) (arr:Array Value) (aO:Nat->Prop),ds[k]? =some d->I.dh (ds.take k)=off->fits C jq d=true->aX w F ds arr.toList aO->
   ∃x gq,(Instr.field T (.agg arr) k).run C.P w= .ok x w/\dc d x/\ao w F d (bX x) gq/\(arr.toList.drop off).take d.wd=bX x:=by
  intro ay jq off aj a8 ds d arr aO ai pB hy fF;obtain⟨i,sD,z,aT,a3,aY,b1,cI,bQ,bL⟩:=a9.info (fv aj (by simp));rw[aj]at bL;obtain⟨gs,rfl,gI⟩:=wK bL;obtain⟨g,aV,rfl,rfl⟩:∃g,gs[k]? =some g/\g.type=jq/\g.offset=off:=by
   rw[<-gI,getElem?_map]at a8;simp only[map_eq_some_iff,Prod.mk.injEq]at a8;obtain⟨g,ae,af,aF⟩:=a8;exact⟨g,by simpa using ae,af,aF⟩
  obtain⟨bA,dQ,bK,S1,gq,e,eZ,dD,ej,fV,dE,ia⟩:=aX.pick ds _ _ k d fF ai;obtain⟨x,aR,uu,nU⟩:=Pq (w:=w) a9 e (eZ.trans pB) dE hy;refine⟨x,gq,?_,nU,by rw[uu];exact dE,?_⟩
  .simp[Instr.field,run_underlying bQ,aV,asAgg,aR]
  .rw[e,uu,<-pB];exact nO bA dQ bK _ _ eZ (ao.length _ _ _ dE)
 have ID:∀(d:I) (x:Value) (gq:Nat->Prop),d.plain=true->dc d x->ao w F d (bX x) gq->aG w F s aw d x (λ_=>False):=by
  intro d x gq au aa fF;by_cases aP:d.tree=true
  .exact(aG.cd aP).2 ⟨aa,ao.plain _ _ _ _ au fF⟩
  .cases d<;>first|exact(aP rfl).elim|(rw[ao]at fF;exact fF.elim)|(rw[aG];trivial)|(have bt:=ao.plain _ _ _ (λ_=>False) au fF;rw[fX (by exact aa)]at bt;exact aG.pC _ _ rfl bt)
 unfold lN at he;split at he
 .rename_i ay aj;split at he
  .rename_i jq off a8;split at he
   .rename_i ds;split at he
    .rename_i d ai;split at he
     .rename_i an;simp only[some.injEq]at he;subst he;obtain⟨⟨arr,rfl⟩,fF⟩:=(aG.cd rfl).1 aH;rw[ao]at fF;obtain⟨x,gq,aR,aa,C1,_⟩:=key ay jq off aj a8 ds d arr _ ai an.1 an.2.1 fF;exact Good.same h aR an.2.2.1 (ID d x gq an.2.2.1 aa C1)
     .cases he
    .cases he
   .rename_i y q;split at he
    .rename_i ds ai;split at he
     .rename_i d oG;split at he
      .rename_i an;simp only[some.injEq]at he;have gH:(I.agg ds).plain=false:=by simpa [I.plain]using an.2.2.1
       rw[aG]at aH;obtain⟨b7,a,aV,ba,bT⟩:=aH _ ai gH;obtain⟨arr,rfl⟩:=bT;have a5:=h.cV y;rw[aG.cd (gx ai (.inl gH))]at a5;obtain⟨fk,ca,dB,eF,k0,bU,ch,dd,cW,ed⟩:=ctx q (s y) (bX (aw y)) (S y) none _ a5.2 ai;rw[k0]at aV;simp only[some.injEq,Prod.mk.injEq,true_and]at aV;obtain⟨rfl,rfl⟩:=aV;rw[ao,<-ba]at cW;obtain⟨x,gq,aR,aa,C1,ho⟩:=key ay jq off aj a8 ds d arr _ oG an.1 an.2.1 cW;by_cases au:d.plain=true
       .rw[if_pos au]at he;subst he;exact Good.same h aR au (ID d x gq au aa C1)
       .rw[if_neg au]at he;subst he;refine Good.same h aR rfl ?_;rw[aG];intro d2 hx wI;rw[sw w q _ _ _ _ _ _ [k] k0];rw[um _ _ _ _ ai]at hx;simp only[I.sub,oG,some.injEq]at hx;subst hx;simp only[cj,oG];refine⟨_,_,rfl,?_,aa⟩;rw[an.1,<-ba];exact ho.symm
      .cases he
     .cases he
    .cases he
   .cases he
  .cases he
 .cases he
end
section
variable {C:bH} {w0 w:World} {F0 X F:Nat->Prop} {S:Nat->Nat->Prop} {s s1:ak} {aw:Nat->Value} {av:I}
def idx (C:bH) (T:TypeId) (x i:I):Option I:=
 match(C.T T).k,x,i with
 | .str,.str l,.int _ n=>if 0<=n then(match l[n.toNat]? with|some b=>some (.int .u8 b.toNat)|none=>none)else none
 |_,_,_=>none
theorem PR (l:nq) (n:Nat):(⟨⟨l⟩⟩:ByteArray)[n]? =l[n]? :=by
 by_cases h:n<l.length
 .have bB:n<(⟨⟨l⟩⟩:ByteArray).size:=h;rw[getElem?_eq_getElem h,getElem?_pos (⟨⟨l⟩⟩:ByteArray) n bB];rfl
 .have bB:¬n<(⟨⟨l⟩⟩:ByteArray).size:=h;rw[getElem?_eq_none (by omega),getElem?_neg (⟨⟨l⟩⟩:ByteArray) n bB]
theorem PS (a9:C.dL) (h:bw w0 F0 X F S s aw w) {T:TypeId} {x i:I} {v nT:Value} (aH:aG w F s aw x v (λ_=>False)) (aC:aG w F s aw i nT (λ_=>False)) (he:idx C T x i=some av):
  Good C w0 F0 X aw w (Instr.index T v nT) av s:=by
 unfold idx at he;split at he
 .rename_i l k n aj;have:=nW aH;subst this;have:=nV aC;subst this;obtain⟨i,d,z,aT,a3,aY,b1,cI,bQ,bL⟩:=a9.info (fv aj (by simp));rw[aj]at bL;have:=pA bL;subst this;split at he
  .rename_i a4;split at he
   .rename_i b U;simp only[some.injEq]at he;subst he;refine Good.same h ?_ rfl (of_int _ _);simp[Instr.index,asIntOf,run_underlying bQ,a4,PR,U]
   .cases he
  .cases he
 .cases he
def lenOf (s:ak):I->Option Nat
 | .str l=>some l.length
 | .aN=>some 0
 | .slice xs=>some xs.length
 | .h y q=>match I.sub q (s y)with
   |some (.ag _ xs)=>some xs.length
   |_=>none
 |_=>none
def qy (C:bH) (s:ak) (T:TypeId) (x:I):Option I:=
 match(C.T T).k,x with
 | .str,.str l=>some (.int .i64 l.length)
 | .slice _,.aN=>some (.int .i64 0)
 | .slice _,.slice xs=>some (.int .i64 xs.length)
 | .slice _,.h y q=>match I.sub q (s y)with
   |some (.ag _ xs)=>some (.int .i64 xs.length)
   |_=>none
 |_,_=>none
theorem zz {xs:afh} {v:Value} {aO:Nat->Prop} (h:aG w F s aw (.slice xs) v aO):(xs=[]/\∃a c,v= .slice a 0 c/\c<=maxLen/\(a=none->c=0))\/
  ∃b o cap c4 sz,v= .slice (some ⟨b,o,none⟩) xs.length cap/\F b/\xs.length<=cap/\cap<=maxLen/\(∀d∈xs,d.wd=sz)/\hi w b o c4/\aX w F xs c4 (λ_=>False):=by
 have bB:=(aG.cd rfl).1 h;rw[ao,fX bB.1]at bB;obtain⟨_,⟨rfl,a,c,af,aF⟩|⟨b,o,cap,c4,sz,af,aF⟩⟩:=bB
 .simp at af;exact .inl ⟨rfl,a,c,af,aF⟩
 .simp at af;exact .inr ⟨b,o,cap,c4,sz,af,aF⟩
theorem PT (a9:C.dL) (h:bw w0 F0 X F S s aw w) {T ty:TypeId} {x:I} {v:Value} (aH:aG w F s aw x v (λ_=>False)) (he:qy C s T x=some av):
  Good C w0 F0 X aw w (Builtin.len_ #[T] ty #[v]) av s:=by
 unfold qy at he;split at he
 .rename_i l aj;have:=nW aH;subst this;obtain⟨i,d,z,aT,a3,aY,b1,cI,bQ,bL⟩:=a9.info (fv aj (by simp));rw[aj]at bL;have:=pA bL;subst this;simp only[some.injEq]at he;subst he;refine Good.same h ?_ rfl (of_int _ _);simp[Builtin.len_,run_underlying bQ,goInt];rfl
 .rename_i e aj;have:=qw aH;subst this;obtain⟨i,d,z,aT,a3,aY,b1,cI,bQ,bL⟩:=a9.info (fv aj (by simp));rw[aj]at bL;have:=ks bL;subst this;simp only[some.injEq]at he;subst he;refine Good.same h ?_ rfl (of_int _ _);simp[Builtin.len_,run_underlying bQ,goInt]
 .rename_i e xs aj;obtain⟨i,d,z,aT,a3,aY,b1,cI,bQ,bL⟩:=a9.info (fv aj (by simp));rw[aj]at bL;have:=ks bL;subst this;simp only[some.injEq]at he;subst he;refine Good.same h ?_ rfl (of_int _ _);rcases zz aH with⟨rfl,a,c,rfl,_⟩|⟨b,o,cap,c4,sz,rfl,_⟩<;>simp[Builtin.len_,run_underlying bQ,goInt]
 .rename_i e y q aj;split at he
  .rename_i sz xs ai;obtain⟨i,d,z,aT,a3,aY,b1,cI,bQ,bL⟩:=a9.info (fv aj (by simp));rw[aj]at bL;have:=ks bL;subst this;simp only[some.injEq]at he;subst he;refine Good.same h ?_ rfl (of_int _ _);rcases CY h aH ai with⟨rfl,_,rfl⟩|⟨b,cap,cur,a3,fr,rfl,_⟩<;>simp[Builtin.len_,run_underlying bQ,goInt]
  .cases he
 .cases he
def bytesOf:afh->Option nq
 |[]=>some []
 | .int .u8 n::r=>if 0<=n/\n<256 then(bytesOf r).map (UInt8.ofNat n.toNat::·)else none
 |_=>none
def kv (b:UInt8):I:=.int .u8 b.toNat
theorem PU (l:nq):bytesOf (l.map kv)=some l:=by
 induction l with
 |nil=>rfl
 |cons b l ih=>
  have U:b.toNat<256:=b.toNat_lt;simp only[map_cons,kv,bytesOf,Int.toNat_natCast];rw[if_pos (by omega),ih];simp
theorem C2:∀(xs:afh) (l:nq) (cs:aff) (aO:Nat->Prop),bytesOf xs=some l->aX w F xs cs aO->cs=l.map (λb=>.int .u8 (b.toNat:Int))/\xs.length=l.length
 |[],l,cs,aO,h,aR=>by simp[bytesOf]at h;subst h;rw[aX]at aR;subst aR;exact⟨rfl,rfl⟩
 |x::xs,l,cs,aO,h,aR=>by
  unfold bytesOf at h;split at h
  .rename_i e;cases e
  .rename_i n r e;simp only[cons.injEq]at e;obtain⟨rfl,rfl⟩:=e;split at h
   .rename_i a4;simp only[map_eq_some_iff]at h;obtain⟨b2,ae,rfl⟩:=h;rw[aX]at aR;obtain⟨bA,bK,S1,S2,rfl,af,aF,_⟩:=aR;obtain⟨rfl,a1⟩:=C2 xs b2 bK S2 ae aF;rw[ao]at af;subst af;refine⟨?_,by simp[a1]⟩;simp only[map_cons,cons_append,nil_append,cons.injEq,and_true,Value.int.injEq,true_and];simp only[UInt8.toNat_ofNat'];omega
   .cases h
  .cases h
theorem bw.wS (h:bw w0 F0 X F S s aw w) {aB:World} {sz cap:Nat} {xs:afh} {cur:Array Value} {e:TypeId} {fr:Nat×Nat} {Sn:Nat->Prop}
  (hw:aB.heap=w.heap.push (.cells cur e fr)) (ae:aB.os=w.os) (af:aB.tape=w.tape) (aF:Out aB w)
  (a8:mf fr (cur.size+(sz-1))) (hle:xs.length<=cap) (hm:cap<=maxLen) (cO:cur.size=cap*sz) (j6:∀d∈xs,d.wd=sz) (aH:aX w F xs (cur.toList.take (xs.length*sz)) Sn)
  (c5:∀b,Sn b->b<w.heap.size) (bb:∀b,Sn b->¬F b) (bs:∀u b,Sn b->¬S u b) (bo:∀b,Sn b->X b\/w0.heap.size<=b):
  bw w0 F0 X F S s aw aB/\kq w0 X F S s aw aB (.ag sz xs) (.slice (some ⟨w.heap.size,0,none⟩) xs.length cap):=by
 have hold:∀b,b<w.heap.size->aB.heap[b]? =w.heap[b]? :=by
  intro b U;rw[hw,Array.getElem?_push,if_neg (by omega)]
 have adx:aB.heap.size=w.heap.size+1:=by rw[hw];simp
 refine⟨h.grow hold (by omega) ae af aF,.inr ⟨rfl,rfl,λb=>b=w.heap.size\/Sn b,?_,?_,?_,?_,?_⟩⟩
 .simp only[bX,hj];rw[ao];refine .inr ⟨w.heap.size,cap,cur,e,fr,Sn,rfl,.inl rfl,?_,a8,hle,hm,cO,j6,?_,λc an=>.inr an,λan=>Nat.lt_irrefl _ (c5 _ an)⟩
  .rw[hw];simp
  .exact aX.frame (λb U=>hold b (h.fu b U)) _ _ _ (λb U=>hold b (c5 b U)) aH
 .rintro b (rfl|U)
  .omega
  .have:=c5 b U;omega
 .rintro b (rfl|U) oI
  .exact Nat.lt_irrefl _ (h.fu _ oI)
  .exact bb b U oI
 .rintro u b (rfl|U) hu
  .exact Nat.lt_irrefl _ (h.ek _ _ hu)
  .exact bs u b U hu
 .rintro b (rfl|U)
  .exact .inr h.size
  .exact bo b U
def iB (C:bH) (s:ak) (A B:TypeId) (x:I):Option I:=
 if(C.T A).ok=true then
 match(C.T B).k,x with
 | .int k,.int _ n=>some (.int k (k.wrap n))
 | .str,.str l=>match(C.T A).k with
   | .str=>some (.str l)
   |_=>none
 | .str,x=>match(C.T A).k with
   | .slice e=>match(C.T e).k with
     | .int .u8=>match x with
       | .aN=>some (.str [])
       | .slice xs=>(bytesOf xs).map .str
       | .h y q=>match I.sub q (s y)with
         |some (.ag 1 xs)=>(bytesOf xs).map .str
         |_=>none
       |_=>none
     |_=>none
   |_=>none
 | .slice e,.str l=>match(C.T A).k,(C.T e).k with
   | .str,.int .u8=>if l.length<=9223372036854775807 then some (.ag 1 (l.map kv))else none
   |_,_=>none
 |_,_=>none
 else none
theorem IE (l:nq) (aO:Nat->Prop):aX w F (l.map kv) (l.map λb=>.int .u8 (b.toNat:Int)) aO:=by
 induction l generalizing aO with
 |nil=>simp only[map_nil];rw[aX]
 |cons b l ih=>
  simp only[map_cons];rw[aX];exact⟨[.int .u8 (b.toNat:Int)],_,λ_=>False,λ_=>False,rfl,by rw[kv,ao],ih _,λ_ h=>h.elim,λ_ h=>h.elim,λ_ h=>h.elim⟩
theorem PV (a9:C.dL) (h:bw w0 F0 X F S s aw w) {A B:TypeId} {x:I} {v:Value} (aH:aG w F s aw x v (λ_=>False)) (he:iB C s A B x=some av):
  Good C w0 F0 X aw w (convert A B v) av s:=by
 unfold iB at he;split at he
 .rename_i iC;obtain⟨jA,ady,adz,ab,aW,fm,rE,uv,pE,pF⟩:=a9.info iC;split at he
  .rename_i k c8 n aj;have:=nV aH;subst this;obtain⟨i,d,z,aT,a3,aY,b1,cI,bQ,bL⟩:=a9.info (fv aj (by simp));rw[aj]at bL;have:=wL bL;subst this;simp only[some.injEq]at he;subst he;refine Good.same h ?_ rfl (of_int _ _);simp[convert,run_underlying pE,run_underlying bQ,Conv.intToInt]
  .rename_i l aj;have:=nW aH;subst this;obtain⟨i,d,z,aT,a3,aY,b1,cI,bQ,bL⟩:=a9.info (fv aj (by simp));rw[aj]at bL;have:=pA bL;subst this;split at he
   .rename_i wT;rw[wT]at pF;have:=pA pF;subst this;simp only[some.injEq]at he;subst he;refine Good.same h ?_ rfl (oJ _);simp[convert,run_underlying pE,run_underlying bQ]
   .cases he
  .rename_i x aj _;obtain⟨i,d,z,aT,a3,aY,b1,cI,bQ,bL⟩:=a9.info (fv aj (by simp));rw[aj]at bL;have:=pA bL;subst this;split at he
   .rename_i e wT;rw[wT]at pF;have:=ks pF;subst this;split at he
    .rename_i wU;obtain⟨ml,bh,mX,f1,f2,f3,f4,f5,f6,f7⟩:=a9.info (fv wU (by simp));rw[wU]at f7;have:=wL f7;subst this;have fin:∀(l:nq) (b o cap:Nat),hi w b o (l.map λb=>.int .u8 (b.toNat:Int))->(convert A B (.slice (some ⟨b,o,none⟩) l.length cap)).run C.P w= .ok (.string ⟨⟨l⟩⟩) w:=by
      intro l b o cap hv;refine run_convert_bytes_back w A B e ⟨b,o,none⟩ cap l pE f6 bQ (λj bZ=>?_);rw[Addr.add_lit];exact hv j _ (by simp[bZ])
     have nil:(convert A B (.slice none 0 0)).run C.P w= .ok (.string ⟨⟨[]⟩⟩) w:=by
      simp[convert,run_underlying pE,run_underlying bQ,run_underlying f6,Conv.bytesToString];rfl
     split at he
     .have:=qw aH;subst this;simp only[some.injEq]at he;subst he;exact Good.same h nil rfl (oJ _)
     .rename_i xs _;simp only[map_eq_some_iff]at he;obtain⟨l,hl,rfl⟩:=he;rcases zz aH with⟨rfl,a,c,rfl,_,sC⟩|⟨b,o,cap,c4,sz,rfl,ae,af,aF,a1,bt,b_⟩
      .simp[bytesOf]at hl;subst hl;cases a with
       |none=>
        have:=sC rfl;subst this;exact Good.same h nil rfl (oJ _)
       |some a=>
        refine Good.same h ?_ rfl (oJ _);exact run_convert_bytes_back w A B e a c [] pE f6 bQ (λj bZ=>by simp at bZ)
      .obtain⟨rfl,cq⟩:=C2 xs l c4 _ hl b_;rw[cq];exact Good.same h (fin l b o cap bt) rfl (oJ _)
     .rename_i y q;split at he
      .rename_i xs ai;simp only[map_eq_some_iff]at he;obtain⟨l,hl,rfl⟩:=he;rcases CY h aH ai with⟨rfl,a,rfl⟩|⟨b,cap,cur,a3,fr,rfl,ae,af,aF,a1,bt,b_,aO,cq,_⟩
       .simp[bytesOf]at hl;subst hl;cases a with
        |none=>exact Good.same h nil rfl (oJ _)
        |some a=>
         refine Good.same h ?_ rfl (oJ _);exact run_convert_bytes_back w A B e a 0 [] pE f6 bQ (λj bZ=>by simp at bZ)
       .obtain⟨er,h1⟩:=C2 xs l _ _ hl cq;rw[h1];refine Good.same h (fin l b 0 cap ?_) rfl (oJ _);rw[<-er];exact uf ae _
      .cases he
     .cases he
    .cases he
   .cases he
  .rename_i e l aj;have:=nW aH;subst this;obtain⟨i,d,z,aT,a3,aY,b1,cI,bQ,bL⟩:=a9.info (fv aj (by simp));rw[aj]at bL;have:=ks bL;subst this;split at he
   .rename_i wT wU;rw[wT]at pF;have:=pA pF;subst this;obtain⟨ml,bh,mX,f1,f2,f3,f4,f5,f6,f7⟩:=a9.info (fv wU (by simp));rw[wU]at f7;have:=wL f7;subst this;split at he
    .rename_i hl;simp only[some.injEq]at he;subst he;have aa:(⟨⟨l⟩⟩:ByteArray).size=l.length:=rfl;have rF:=grownCap_ge w l.length 0 e;have PW:=grownCap_le_maxLen w l.length 0 e (by unfold maxLen;omega);have IF:(bytesRow ⟨⟨l⟩⟩ (grownCap w l.length 0 e)).toList=l.map (λb=>Value.int .u8 (b.toNat:Int))++replicate (grownCap w l.length 0 e-l.length) (.int .u8 0):=by
      simp[bytesRow,aa]
     have cO:(bytesRow ⟨⟨l⟩⟩ (grownCap w l.length 0 e)).size=grownCap w l.length 0 e*1:=by
      have:(bytesRow ⟨⟨l⟩⟩ (grownCap w l.length 0 e)).size=(bytesRow ⟨⟨l⟩⟩ (grownCap w l.length 0 e)).toList.length:=by simp
      rw[this,IF];simp;omega
     have qv:=run_bytes_of_string w A B e ⟨⟨l⟩⟩ pE bQ f6;rw[aa]at qv;have kx:=h.wS (aB:=w.drew.alloc (.cells (bytesRow ⟨⟨l⟩⟩ (grownCap w l.length 0 e)) e ((bytesRow ⟨⟨l⟩⟩ (grownCap w l.length 0 e)).size,(bytesRow ⟨⟨l⟩⟩ (grownCap w l.length 0 e)).size+1)))
      (sz:=1) (cap:=grownCap w l.length 0 e) (xs:=l.map kv) (cur:=bytesRow ⟨⟨l⟩⟩ (grownCap w l.length 0 e)) (e:=e) (Sn:=λ_=>False) rfl rfl rfl ⟨rfl,λ_=>le_succ _⟩
      (λo bO ⟨ae,_⟩=>by simp only at ae;omega) (by simpa using rF) PW cO (by intro d ai;obtain⟨b,_,rfl⟩:=mem_map.1 ai;rfl)
      (by rw[IF,take_left' (by simp)];exact IE l _) (λ_ h=>h.elim) (λ_ h=>h.elim) (λ_ _ h=>h.elim) (λ_ h=>h.elim)
     simp only[length_map]at kx;exact⟨_,_,F,S,qv,kx.1,kx.2⟩
    .cases he
   .cases he
  .cases he
 .cases he
end
section
variable {C:bH} {w0 w:World} {F0 X F:Nat->Prop} {S:Nat->Nat->Prop} {s s1:ak} {aw:Nat->Value} {av:I}
def ht (d:Nat):Option I->Option Nat
 |none=>some d
 |some (.int _ n)=>if 0<=n then some n.toNat else none
 |some _=>none
def e2 (C:bH) (s:ak) (T:TypeId) (x:I) (dI aC:Option I):Option (I×ak):=
 match(C.T T).k,x with
 | .str,.str l=>match ht 0 dI,ht l.length aC with
   |some a,some b=>if a<=b/\b<=l.length then some (.str ((l.take b).drop a),s)else none
   |_,_=>none
 | .slice e,.aN=>match ht 0 dI,ht 0 aC with
   |some 0,some 0=>if(C.T e).ok=true then some (.aN,s)else none
   |_,_=>none
 | .slice e,.slice xs=>match ht 0 dI,ht xs.length aC with
   |some a,some b=>if a<=b/\b<=xs.length/\(C.T e).ok=true/\(∀d∈xs,d.wd=(C.T e).sz)then some (.slice ((xs.take b).drop a),s)else none
   |_,_=>none
 | .slice e,.h y q=>match I.sub q (s y)with
   |some (.ag sz xs)=>match ht 0 dI,ht xs.length aC with
    |some 0,some b=>if b<=xs.length/\(C.T e).ok=true then(match cr s (.h y q)with|some (_,s1)=>some (.ag sz (xs.take b),s1)|none=>none)else none
    |_,_=>none
   |_=>none
 |_,_=>none
def qz (w:World) (F:Nat->Prop) (s:ak) (aw:Nat->Value):Option I->Option Value->Prop
 |none,none=>True
 |some d,some v=>aG w F s aw d v (λ_=>False)
 |_,_=>False
theorem IG {d:Nat} {o:Option I} {v:Option Value} (bO:qz w F s aw o v) {a:Nat} (h:ht d o=some a):(o=none/\v=none/\a=d)\/∃k,v=some (.int k a):=by
 cases o with
 |none=>
  cases v with
  |none=>simp[ht]at h;exact .inl ⟨rfl,rfl,h.symm⟩
  |some v=>simp[qz]at bO
 |some x=>
  cases v with
  |none=>simp[qz]at bO
  |some v=>
   simp only[qz]at bO;cases x with
   |int k n=>
    have:=nV bO;subst this;simp only[ht]at h;split at h
    .rename_i a4;simp only[some.injEq]at h;subst h;obtain⟨m,rfl⟩:=Int.eq_ofNat_of_zero_le a4;exact .inr ⟨k,rfl⟩
    .cases h
   |_=>simp[ht]at h
theorem uw {P:Program} {isS:Bool} {len cap a b:Nat} {dI aC:Option I} {sE sF:Option Value} (lj:qz w F s aw dI sE) (mn:qz w F s aw aC sF) (b8:ht 0 dI=some a) (U:ht len aC=some b) (lF:a<=b) (PX:b<=cap) (_hlc:len<=cap):
  (Instr.sliceBounds isS len cap sE sF none).run P w= .ok (a,b,cap) w:=by
 rcases IG lj b8 with⟨_,rfl,rfl⟩|⟨k,rfl⟩<;>rcases IG mn U with⟨_,rfl,rfl⟩|⟨c8,rfl⟩<;>
  simp[Instr.sliceBounds,Instr.sliceBound,asIntOf,lF,PX]
theorem rG (a9:C.dL) {T:TypeId} (aj:(C.T T).flat=true) (v:Value) (dI aC g0:Option Value) (w:World):(Instr.sliceAt T v dI aC g0).run C.P w=(Instr.slice T v dI aC g0).run C.P w:=by
 obtain⟨i,d,z,aT,a3,aY,b1,cI,bQ,bL⟩:=a9.info (Ij aj);have c_:∀n e,d≠.array n e:=by
  clear bQ;unfold fW.flat at aj;generalize (C.T T).k=jB at*;cases jB<;>cases d<;>simp[kN]at bL aj⊢
 cases d<;>first|exact(c_ _ _ rfl).elim|simp[Instr.sliceAt,run_underlying bQ]
theorem sG {x:fW} {k:mj} (h:x.k=k) (aj:k≠.other) (aa:∀ay,k≠.struct ay) (U:∀e,k≠.fl e:=by simp):x.flat=true:=by
 unfold fW.flat;rw[h];cases k<;>first|rfl|exact(aj rfl).elim|exact(U _ rfl).elim|exact(aa _ rfl).elim
theorem aX.split:∀(n:Nat) (xs:afh) (cs:aff) (aO:Nat->Prop),aX w F xs cs aO->∃bA bK S1 S2,cs=bA++bK/\aX w F (xs.take n) bA S1/\aX w F (xs.drop n) bK S2/\(∀b,S1 b->aO b)/\(∀b,S2 b->aO b)/\(∀b,S1 b->¬S2 b)
 |0,xs,cs,aO,h=>⟨[],cs,λ_=>False,aO,rfl,by rw[take_zero,aX],h,λ_ h=>h.elim,λ_ h=>h,λ_ h=>h.elim⟩
 |n+1,[],cs,aO,h=>by rw[aX]at h;subst h;exact⟨[],[],λ_=>False,λ_=>False,rfl,by rw[take_nil,aX],by rw[drop_nil,aX],λ_ h=>h.elim,λ_ h=>h.elim,λ_ h=>h.elim⟩
 |n+1,x::xs,cs,aO,h=>by
  rw[aX]at h;obtain⟨bA,bK,g1,gg,rfl,ae,af,aF,a1,bt⟩:=h;obtain⟨d1,d2,S1,S2,rfl,aV,ba,bT,c6,ea⟩:=aX.split n xs bK gg af;refine⟨bA++d1,d2,λb=>g1 b\/S1 b,S2,by simp,?_,ba,?_,λb U=>a1 _ (c6 _ U),?_⟩
  .rw[take_succ_cons,aX];exact⟨bA,d1,g1,S1,rfl,ae,aV,λ_ h=>.inl h,λ_ h=>.inr h,λb U an=>bt b U (bT b an)⟩
  .rintro b (U|U)
   .exact aF b U
   .exact a1 b (bT b U)
  .rintro b (U|U) an
   .exact bt b U (c6 b an)
   .exact ea b U an
theorem PY (a9:C.dL) (h:bw w0 F0 X F S s aw w) {T:TypeId} {x:I} {v:Value} {dI aC:Option I} {sE sF:Option Value} (al:x.plain=true) (aH:aG w F s aw x v (λ_=>False)) (lj:qz w F s aw dI sE) (mn:qz w F s aw aC sF)
  (he:e2 C s T x dI aC=some (av,s1)):Good C w0 F0 X aw w (Instr.sliceAt T v sE sF none) av s1:=by
 unfold e2 at he;split at he
 .rename_i l aj;have:=nW aH;subst this;obtain⟨i,d,z,aT,a3,aY,b1,cI,bQ,bL⟩:=a9.info (fv aj (by simp));rw[aj]at bL;have:=pA bL;subst this;split at he
  .rename_i a b b8 U;split at he
   .rename_i lF;simp only[some.injEq,Prod.mk.injEq]at he;obtain⟨rfl,rfl⟩:=he;refine Good.same h ?_ rfl (oJ _);rw[rG a9 (sG aj (by simp) (by simp))];have cO:(⟨⟨l⟩⟩:ByteArray).size=l.length:=rfl;have nX:=uw (P:=C.P) (isS:=false) (len:=l.length) (cap:=l.length) lj mn b8 U lF.1 lF.2 (Nat.le_refl _);have PZ:(⟨⟨l⟩⟩:ByteArray).extract a b=⟨⟨(l.take b).drop a⟩⟩:=by
     apply ByteArray.ext;simp[ByteArray.data_extract,drop_take]
    simp[Instr.slice,run_underlying bQ,cO,nX,PZ]
   .cases he
  .cases he
 .rename_i e aj;have:=qw aH;subst this;obtain⟨i,d,z,aT,a3,aY,b1,cI,bQ,bL⟩:=a9.info (fv aj (by simp));rw[aj]at bL;have:=ks bL;subst this;split at he
  .rename_i b8 U;split at he
   .rename_i kQ;obtain⟨ml,bh,mX,f1,f2,f3,f4,f5,f6,f7⟩:=a9.info kQ;simp only[some.injEq,Prod.mk.injEq]at he;obtain⟨rfl,rfl⟩:=he;have nX:=uw (P:=C.P) (isS:=true) (len:=0) (cap:=0) lj mn b8 U (Nat.le_refl _) (Nat.le_refl _) (Nat.le_refl _);refine Good.same h (v:=.slice none 0 0) ?_ rfl aH;rw[rG a9 (sG aj (by simp) (by simp))];simp[Instr.slice,run_underlying bQ,nX,iR f1,f2]
   .cases he
  .cases he
 .rename_i e xs aj;obtain⟨i,d,z,aT,a3,aY,b1,cI,bQ,bL⟩:=a9.info (fv aj (by simp));rw[aj]at bL;have:=ks bL;subst this;split at he
  .rename_i a b b8 U;split at he
   .rename_i lF;obtain⟨P0,IH,kQ,j6⟩:=lF;obtain⟨ml,bh,mX,f1,f2,f3,f4,f5,f6,f7⟩:=a9.info kQ;simp only[some.injEq,Prod.mk.injEq]at he;obtain⟨rfl,rfl⟩:=he;rcases zz aH with⟨rfl,ux,c,rfl,wV,sC⟩|⟨fK,o,cap,c4,sz,rfl,ae,af,aF,a1,bt,b_⟩
    .have ha:b=0:=by simpa using IH
     subst ha;have P1:a=0:=by omega
     subst P1;have nX:=uw (P:=C.P) (isS:=true) (len:=0) (cap:=c) lj mn b8 U (Nat.le_refl _) (zero_le _) (zero_le _);refine Good.same h (v:=.slice ux 0 c) ?_ rfl ((aG.cd rfl).2 ⟨rfl,by rw[ao];exact .inl ⟨rfl,ux,c,rfl,wV,sC⟩⟩);rw[rG a9 (sG aj (by simp) (by simp))];cases ux with
     |none=>
      have:=sC rfl;subst this;simp[Instr.slice,run_underlying bQ,nX,iR f1,f2]
     |some ux=>simp[Instr.slice,run_underlying bQ,nX,iR f1,f2,Addr.add]
    .have nX:=uw (P:=C.P) (isS:=true) (len:=xs.length) (cap:=cap) lj mn b8 U P0 (Nat.le_trans IH af) af;obtain⟨bA,bK,S1,S2,rfl,aV,ba,bT,c6,ea⟩:=aX.split b xs c4 _ b_;obtain⟨d1,d2,zA,II,rfl,bU,ch,dd,cW,ed⟩:=aX.split a (xs.take b) bA _ aV;have wW:d1.length=a*(C.T e).sz:=by
      rw[aX.length _ _ _ bU,oE _ (λd ai=>j6 d (mem_of_mem_take (mem_of_mem_take ai))),length_take,length_take];congr 1;omega
     have hlen:((xs.take b).drop a).length=b-a:=by simp;omega
     have hv:hi w fK (o+a*(C.T e).sz) d2:=by
      rw[<-wW];have:hi w fK o (d1++(d2++bK)):=by simpa using bt
      exact this.CS
     have zB:aX w F ((xs.take b).drop a) d2 (λ_=>False):=aX.mono (λ_ h=>h) _ _ _ _ (λb U=>(bT _ (cW _ U)).elim) ch;have mem:∀d∈(xs.take b).drop a,d.wd=sz:=λd ai=>a1 d (mem_of_mem_take (mem_of_mem_drop ai));have run:(Instr.sliceAt T (.slice (some ⟨fK,o,none⟩) xs.length cap) sE sF none).run C.P w= .ok (.slice (if cap=a then some ⟨fK,o,none⟩else some ⟨fK,o+a*(C.T e).sz,none⟩) (b-a) (cap-a)) w:=by
      rw[rG a9 (sG aj (by simp) (by simp))];simp[Instr.slice,run_underlying bQ,nX,iR f1,f2,Addr.add_lit]
     refine⟨_,w,F,S,run,h,.inl ⟨rfl,(aG.cd rfl).2 ⟨rfl,?_⟩⟩⟩;simp only[bX,hj];rw[ao];by_cases IJ:cap=a
     .have P2:b=a:=by omega
      subst P2;have wX:(xs.take b).drop b=[]:=by simp
      rw[if_pos IJ];rw[wX]at zB⊢;rw[aX]at zB;subst zB;exact .inr ⟨fK,o,cap-b,[],sz,by simp,ae,zero_le _,by omega,by simp,λj c bZ=>by simp at bZ,by rw[aX]⟩
     .rw[if_neg IJ];exact .inr ⟨fK,_,cap-a,d2,sz,by rw[hlen],ae,by rw[hlen];omega,by omega,mem,hv,zB⟩
   .cases he
  .cases he
 .rename_i e y q aj;split at he
  .rename_i sz xs ai;split at he
   .rename_i b b8 U;split at he
    .rename_i zC;split at he
     .rename_i sD s2 aP;simp only[some.injEq,Prod.mk.injEq]at he;obtain⟨rfl,rfl⟩:=he;obtain⟨i,d,z,aT,a3,aY,b1,cI,bQ,bL⟩:=a9.info (fv aj (by simp));rw[aj]at bL;have:=ks bL;subst this;obtain⟨ml,bh,mX,f1,f2,f3,f4,f5,f6,f7⟩:=a9.info zC.2;have m2:sD= .ag sz xs:=by
       simp only[cr,ai,I.plain]at aP;simp at aP;exact aP.1.symm
      subst m2;obtain⟨S1,fB,aV,ba,Sn,bT,c6,ea,gy,g9,kO⟩:=mW h rfl aH aP;rw[fX ba,ao]at bT;rcases bT with⟨rfl,J,h3⟩|⟨fK,cap,cur,fE,fr,aO,h3,bU,ch,dd,cW,ed,dn,h4,cL,lk,m3⟩
      .simp at h3;subst h3;have ha:b=0:=by simpa using zC.1
       subst ha;have nX:=uw (P:=C.P) (isS:=true) (len:=0) (cap:=0) lj mn b8 U (Nat.le_refl _) (Nat.le_refl _) (Nat.le_refl _);refine⟨.slice J 0 0,w,F,S1,?_,fB,.inr ⟨rfl,rfl,λ_=>False,by simp only[bX,hj];rw[ao];exact .inl ⟨rfl,_,rfl⟩,λ_ h=>h.elim,λ_ h=>h.elim,λ_ _ h=>h.elim,λ_ h=>h.elim⟩⟩;rw[rG a9 (sG aj (by simp) (by simp))];cases J<;>simp[Instr.slice,run_underlying bQ,nX,iR f1,f2]
      .simp at h3;subst h3;have nX:=uw (P:=C.P) (isS:=true) (len:=xs.length) (cap:=cap) lj mn b8 U (zero_le _) (Nat.le_trans zC.1 cW) cW;have hlen:(xs.take b).length=b:=by simp;omega
       have run:(Instr.sliceAt T (.slice (some ⟨fK,0,none⟩) xs.length cap) sE sF none).run C.P w= .ok (.slice (some ⟨fK,0,none⟩) b cap) w:=by
        rw[rG a9 (sG aj (by simp) (by simp))];simp[Instr.slice,run_underlying bQ,nX,iR f1,f2,Addr.add_lit]
       refine⟨_,w,F,S1,run,fB,.inr ⟨rfl,rfl,Sn,?_,c6,ea,gy,g9⟩⟩;simp only[bX,hj];rw[ao];obtain⟨bA,bK,g1,gg,an,el,fJ,gU,jT,j9⟩:=aX.split b xs _ _ cL;refine .inr ⟨fK,cap,cur,fE,fr,aO,by rw[hlen],bU,ch,dd,by omega,ed,dn,λd ai=>h4 d (mem_of_mem_take ai),?_,lk,m3⟩;have wW:bA.length=b*sz:=by
        rw[aX.length _ _ _ el,oE _ (λd ai=>h4 d (mem_of_mem_take ai)),hlen]
       have:cur.toList.take ((xs.take b).length*sz)=bA:=by
        rw[hlen];have af:b*sz<=xs.length*sz:=mul_le_mul_right _ zC.1;have:(cur.toList.take (xs.length*sz)).take (b*sz)=bA:=by rw[an,take_left' wW]
        rwa [take_take,Nat.min_eq_left af]at this
       rw[this];exact aX.mono (λ_ h=>h) _ _ _ _ gU el
     .cases he
    .cases he
   .cases he
  .cases he
 .cases he
end
section
variable {C:bH} {w0 w:World} {F0 X F:Nat->Prop} {S:Nat->Nat->Prop} {s s1:ak} {aw:Nat->Value} {av:I}
def Src (P:Program) (w:World) (size:Nat) (x:Value) (m:Nat) (news:aff):Prop:=
 ∀aB:World,aB.heap=w.heap->(Builtin.lenOf x).run P aB= .ok m aB/\(Builtin.firstCells size m x).run P aB= .ok news.toArray aB
def C3 (d:TypeDesc):Prop:=(∃e,d= .slice e)\/d= .string
theorem P3 {P:Program} {T bP ty e:TypeId} {qA:TypeDesc} {i:TypeInfo} (aP:P.underlying T=some (.slice e)) (hu:P.underlying bP=some qA) (sH:C3 qA) (aC:P.info? e=some i)
  {x:Value} {m:Nat} {news:aff} (zD:Src P w i.size x m news) {b n cap:Nat} {cur:Array Value} {fE:TypeId} {fr:Nat×Nat} {l mid r:aff} (U:w.heap[b]? =some (.cells cur fE fr)) (a8:mf fr cur.size)
  (an:cur.toList=l++(mid++r)) (hl:l.length=n*i.size) (hm:mid.length=news.length) (zv:∀v∈news,Value.fU v=true) (pG:n+m<=cap):
  ∃aB,(Builtin.append_ #[T,bP] ty #[.slice (some ⟨b,0,none⟩) n cap,x]).run P w= .ok (.slice (some ⟨b,0,none⟩) (n+m) cap) aB/\aB.heap[b]? =some (.cells (l++(news++r)).toArray fE fr)/\
   (∀c,c≠b->aB.heap[c]? =w.heap[c]?)/\aB.heap.size=w.heap.size/\aB.os=w.os/\aB.tape=w.tape/\Out aB w:=by
 obtain⟨aB,el,fJ⟩:=uq (P:=P) (b:=b) (o:=n*i.size) (e:=fE) (fr:=fr) news 0 cur w l mid r U a8 an (by omega) hm zv;refine⟨aB,?_,fJ⟩;obtain⟨ae,af⟩:=zD w rfl;rcases sH with⟨gd,rfl⟩|rfl<;>simp[Builtin.append_,run_underlying aP,run_underlying hu,iR aC,ae,af,pG,Addr.add_lit,el]
theorem P4 {P:Program} {T bP ty e:TypeId} {qA:TypeDesc} {i:TypeInfo} {z:Value} (aP:P.underlying T=some (.slice e)) (hu:P.underlying bP=some qA) (sH:C3 qA) (aC:P.info? e=some i) (bF:i.zero=some z)
  {x:Value} {m:Nat} {news:aff} (zD:Src P w i.size x m news) {base:Option Addr} {n cap:Nat} {oM:aff} (hold:Src P w i.size (.slice base n cap) n oM) (pG:¬n+m<=cap)
  (a4:n+m<=9223372036854775807) (C4:(n+m)*i.bytes<=140737488355328):
  (Builtin.append_ #[T,bP] ty #[.slice base n cap,x]).run P w= .ok (.slice (some ⟨w.heap.size,0,none⟩) (n+m) (grownCap w (n+m) cap e))
   (w.drew.alloc (.cells (oM.toArray++news.toArray++Builtin.zeroCells z.cells (grownCap w (n+m) cap e-(n+m))) e)):=by
 have ae:=(zD w rfl).1;have af:=(zD w.drew rfl).2;have aF:=(hold w.drew rfl).2;have adA:=growslice_fits (need:=n+m) (old:=cap) (by omega) C4;have hy:¬(281474976710656<Builtin.nextslicecap (n+m) cap*i.bytes):=by omega
 have uy:∀k (w:World),(askRoom k).run P w= .ok () w:=by
  intro k w;unfold askRoom;split<;>rfl
 have C5:¬(9223372036854775807<(n:Int)+(m:Int)/\i.bytes=0):=by omega
 rcases sH with⟨gd,rfl⟩|rfl<;>
  .simp[Builtin.append_,run_underlying aP,run_underlying hu,iR aC,sx aC,ae,pG,hy,Question.forced,uy];rw[if_neg C5,aF];simp[af,rA aC bF,newRow,grownCap];have aT:(oM++news).toArray=oM.toArray++news.toArray:=by simp
   rw[aT,Array.append_assoc]
def zE (C:bH) (e bP:TypeId):Bool:=match(C.T bP).k,(C.T e).k with
 | .slice gd,_=>gd==e
 | .str,.int .u8=>true
 |_,_=>false
def qB (C:bH) (s:ak) (T bP:TypeId) (x y:I):Option (I×ak):=
 match(C.T T).k with
 | .slice e=>if(C.T e).ok=true/\(C.T e).zero.wd=(C.T e).sz/\(flat (C.T e).zero).isSome=true/\zE C e bP=true then
   match(match x with| .aN=>some (I.ag (C.T e).sz [],s)| .h a q=>cr s (.h a q)|_=>none)with
   |some (.ag sz xs,s1)=>if sz=(C.T e).sz then
     match(match j8 x.owner y with
      | .aN=>some ([],s1)
      | .slice cf=>some (cf,s1)
      | .str l=>some (l.map kv,s1)
      | .h a q=>match cr s1 (.h a q)with
        |some (.ag _ cf,s2)=>some (cf,s2)
        |_=>none
      |_=>none)with
     |some (cf,s2)=>if(∀d∈cf,d.wd=(C.T e).sz)/\(xs.length+cf.length)*(C.T e).bytes<=140737488355328/\xs.length+cf.length<=9223372036854775807 then some (.ag sz (xs++cf),s2)else none
     |none=>none
    else none
   |_=>none
   else none
 |_=>none
theorem aX.append {xs cf:afh} {bA bK:aff} {S1 S2 aO:Nat->Prop} (ae:aX w F xs bA S1) (af:aX w F cf bK S2) (aT:∀b,S1 b->aO b) (a3:∀b,S2 b->aO b) (aY:∀b,S1 b->¬S2 b):aX w F (xs++cf) (bA++bK) aO:=by
 induction xs generalizing bA S1 aO with
 |nil=>rw[aX]at ae;subst ae;exact aX.mono (λ_ h=>h) _ _ _ _ a3 af
 |cons x xs ih=>
  rw[aX]at ae;obtain⟨P5,P6,g1,gg,rfl,aV,ba,bT,c6,ea⟩:=ae;rw[cons_append,aX];refine⟨P5,P6++bK,g1,λb=>gg b\/S2 b,by simp,aV,ih ba (λb h=>.inl h) (λb h=>.inr h) (λb h=>aY b (c6 b h)),λb h=>aT b (bT b h),?_,?_⟩
  .rintro b (h|h)
   .exact aT b (c6 b h)
   .exact a3 b h
  .rintro b h (bB|bB)
   .exact ea b h bB
   .exact aY b (bT b h) bB
theorem C6 {P:Program} {size m cap:Nat} {b o:Nat} {news:aff} (hv:hi w b o news) (hl:news.length=m*size):Src P w size (.slice (some ⟨b,o,none⟩) m cap) m news:=by
 intro aB hw;refine⟨rfl,?_⟩;refine run_firstCells_some aB size m ⟨b,o,none⟩ m cap news hl (λj v bZ=>?_);rw[Addr.add_lit];have:=hv j v bZ;simpa [World.cell?,hw]using this
theorem IK {P:Program} {size cap:Nat}:Src P w size (.slice none 0 cap) 0 []:=by
 intro aB _;exact⟨rfl,by simp[Builtin.firstCells]⟩
theorem C7 {P:Program} {size cap:Nat} (a:Option Addr):Src P w size (.slice a 0 cap) 0 []:=by
 cases a with
 |none=>exact IK
 |some a=>
  intro aB _;exact⟨rfl,run_firstCells_some aB size 0 a 0 cap [] (by simp) (λj v bZ=>by simp at bZ)⟩
theorem P7 {P:Program} (l:nq):Src P w 1 (.string ⟨⟨l⟩⟩) l.length (l.map λb=>.int .u8 (b.toNat:Int)):=by
 intro aB _;refine⟨rfl,?_⟩;have:(⟨⟨l⟩⟩:ByteArray).extract 0 l.length=⟨⟨l⟩⟩:=by
  apply ByteArray.ext;simp[ByteArray.data_extract]
 simp[Builtin.firstCells,this]
theorem aX.sI {sz:Nat} {xs:afh} {cs:aff} {aO:Nat->Prop} (h:aX w F xs cs aO) (hw:∀d∈xs,d.wd=sz):cs.length=xs.length*sz:=by
 rw[aX.length _ _ _ h,oE _ hw]
theorem bw.turn (h:bw w0 F0 X F S s aw w) {aB:World} {b:Nat} (U:∀c,c≠b->aB.heap[c]? =w.heap[c]?) (aa:aB.heap.size=w.heap.size) (ae:aB.os=w.os) (af:aB.tape=w.tape) (aF:Out aB w)
  (bb:¬F b) (bs:∀u,¬S u b) (bo:X b\/w0.heap.size<=b):bw w0 F0 X F S s aw aB where
 g2:=h.g2
 hk:=h.hk
 fu:=λc an=>by rw[aa];exact h.fu c an
 ek:=λt c an=>by rw[aa];exact h.ek t c an
 fC:=h.fC
 e9:=h.e9
 c7:=h.c7
 cV:=λt=>aG.frame (Sx:=S) (λc an=>U c (by rintro rfl;exact bb an)) (λ_ h=>h) (λx c an=>U c (by rintro rfl;exact bs x an)) h.cV _ _ _ (λc an=>U c (by rintro rfl;exact bs t an)) (h.cV t)
 old:=λc c5 jR=>by
  rw[U c ?_]
  .exact h.old c c5 jR
  .rintro rfl;rcases bo with bo|bo
   .exact jR bo
   .omega
 size:=by rw[aa];exact h.size
 os:=ae.trans h.os
 tape:=af.trans h.tape
 output:=aF.trans h.output
 hn:=h.hn
theorem P8 (a9:C.dL) (h:bw w0 F0 X F S s aw w) {T bP ty:TypeId} {x y:I} {fD gh:Value} (al:aG w F s aw x fD (λ_=>False)) (a5:aG w F s aw y gh (λ_=>False))
  (he:qB C s T bP x y=some (av,s1)):Good C w0 F0 X aw w (Builtin.append_ #[T,bP] ty #[fD,gh]) av s1:=by
 unfold qB at he;split at he
 .rename_i e aj;obtain⟨C8,d,C9,aT,a3,aY,b1,cI,bQ,bL⟩:=a9.info (fv aj (by simp));rw[aj]at bL;have:=ks bL;subst this;split at he
  .rename_i oH;obtain⟨kQ,pH,qC,pI⟩:=oH;obtain⟨i,C_,z,f1,f2,f3,f4,f5,f6,f7⟩:=a9.info kQ;obtain⟨eO,ky⟩:=isSome_iff_exists.1 qC;have qD:=f5 eO ky;have oN:eO.length=(C.T e).sz:=by
    have:=ao.length _ _ _ ((ao.flat (w:=w) (F:=F) _).1 (C.T e).zero eO (λ_=>False) (Nat.le_refl _) ky);rw[this,pH]
   obtain⟨qA,hu,sH⟩:∃qA,C.P.underlying bP=some qA/\C3 qA:=by
    unfold zE at pI;split at pI
    .rename_i gd js;obtain⟨_,bh,_,_,_,_,_,_,gy,g9⟩:=a9.info (fv js (by simp));rw[js]at g9;exact⟨bh,gy,.inl ⟨_,ks g9⟩⟩
    .rename_i js _;obtain⟨_,bh,_,_,_,_,_,_,gy,g9⟩:=a9.info (fv js (by simp));rw[js]at g9;exact⟨bh,gy,.inr (pA g9)⟩
    .cases pI
   split at he
   .rename_i sz xs IL sJ;split at he
    .rename_i cO;subst cO;split at he
     .rename_i cf zF nY;split at he
      .rename_i P9;obtain⟨uz,C4,Da⟩:=P9;simp only[some.injEq,Prod.mk.injEq]at he;obtain⟨rfl,rfl⟩:=he;obtain⟨g1,J,Sn,fm,rE,uv,pE,pF,adB,adC,rH⟩:∃g1,bw w0 F0 X F g1 IL aw w/\∃Sn,ao w F (.ag (C.T e).sz xs) [fD] Sn/\(∀b,Sn b->b<w.heap.size)/\(∀b,Sn b->¬F b)/\(∀u b,Sn b->¬g1 u b)/\
         (∀b,Sn b->X b\/w0.heap.size<=b)/\(∀u b,g1 u b->S u b)/\(∀b,Sn b->∃u,S u b)/\aG w F IL aw (j8 x.owner y) gh (λ_=>False):=by
        split at sJ
        .simp only[some.injEq,Prod.mk.injEq,I.ag.injEq,true_and]at sJ;obtain⟨rfl,rfl⟩:=sJ;have:=qw al;subst this;exact⟨S,h,λ_=>False,by rw[ao];exact .inl ⟨rfl,_,rfl⟩,λ_ h=>h.elim,λ_ h=>h.elim,λ_ _ h=>h.elim,λ_ h=>h.elim,λ_ _ h=>h,λ_ h=>h.elim,a5⟩
        .obtain⟨S1,fB,aV,ba,Sn,bT,c6,ea,gy,g9,kO,wY,zG⟩:=mW h rfl al sJ;rw[fX ba]at bT;exact⟨S1,fB,Sn,bT,c6,ea,gy,g9,kO,wY,zG _ _ _ a5⟩
        .cases sJ
       obtain⟨gg,fK,m4,news,ie,hp,jU,cG,de,et,sK,dw⟩:∃gg,bw w0 F0 X F gg zF aw w/\∃m4 news,aX w F cf news m4/\Src C.P w i.size gh cf.length news/\(∀b,m4 b->b<w.heap.size)/\(∀b,m4 b->¬F b)/\(∀u b,m4 b->¬gg u b)/\
         (∀b,m4 b->X b\/w0.heap.size<=b)/\(∀u b,gg u b->g1 u b)/\(∀b,m4 b->∃u,g1 u b):=by
        split at nY
        .rename_i sL;simp only[some.injEq,Prod.mk.injEq]at nY;obtain⟨rfl,rfl⟩:=nY;rw[sL]at rH;have:=qw rH;subst this;exact⟨g1,J,λ_=>False,[],by rw[aX],IK,λ_ h=>h.elim,λ_ h=>h.elim,λ_ _ h=>h.elim,λ_ h=>h.elim,λ_ _ h=>h,λ_ h=>h.elim⟩
        .rename_i ee sL;simp only[some.injEq,Prod.mk.injEq]at nY;obtain⟨rfl,rfl⟩:=nY;rw[sL]at rH;rcases zz rH with⟨rfl,ux,adD,rfl,_,sC⟩|⟨b,o,cap,c4,P_,rfl,bU,ch,dd,cW,ed,dn⟩
         .exact⟨g1,J,λ_=>False,[],by rw[aX],C7 ux,λ_ h=>h.elim,λ_ h=>h.elim,λ_ _ h=>h.elim,λ_ h=>h.elim,λ_ _ h=>h,λ_ h=>h.elim⟩
         .exact⟨g1,J,λ_=>False,c4,dn,C6 ed (by rw[f2];exact aX.sI dn uz),λ_ h=>h.elim,λ_ h=>h.elim,λ_ _ h=>h.elim,λ_ h=>h.elim,λ_ _ h=>h,λ_ h=>h.elim⟩
        .rename_i l sL;simp only[some.injEq,Prod.mk.injEq]at nY;obtain⟨rfl,rfl⟩:=nY;rw[sL]at rH;have:=nW rH;subst this;have Qa:l≠[]->i.size=1:=by
          intro hl;cases l with
          |nil=>exact(hl rfl).elim
          |cons b l=>rw[f2,<-uz (kv b) (by simp)];rfl
         by_cases hl:l=[]
         .subst hl;refine⟨g1,J,λ_=>False,[],by simp only[map_nil];rw[aX],?_,λ_ h=>h.elim,λ_ h=>h.elim,λ_ _ h=>h.elim,λ_ h=>h.elim,λ_ _ h=>h,λ_ h=>h.elim⟩;intro aB _;exact⟨rfl,by simp[Builtin.firstCells,ByteArray.extract];rfl⟩
         .refine⟨g1,J,λ_=>False,_,IE l _,?_,λ_ h=>h.elim,λ_ h=>h.elim,λ_ _ h=>h.elim,λ_ h=>h.elim,λ_ _ h=>h,λ_ h=>h.elim⟩;rw[Qa hl,length_map];exact P7 l
        .rename_i a q sL;split at nY
         .rename_i adE ee s2 aP;simp only[some.injEq,Prod.mk.injEq]at nY;obtain⟨rfl,rfl⟩:=nY;rw[sL]at rH;obtain⟨S2,fB,aV,ba,m4,bT,c6,ea,gy,g9,kO,wY,zG⟩:=mW J rfl rH aP;rw[fX ba,ao]at bT;rcases bT with⟨rfl,Qb,h3⟩|⟨b,cap,cur,fE,fr,aO,h3,bU,ch,dd,cW,ed,dn,h4,cL,lk,m3⟩
          .simp at h3;subst h3;exact⟨S2,fB,λ_=>False,[],by rw[aX],(C7 Qb),λ_ h=>h.elim,λ_ h=>h.elim,λ_ _ h=>h.elim,λ_ h=>h.elim,kO,λ_ h=>h.elim⟩
          .simp at h3;subst h3;refine⟨S2,fB,aO,_,cL,C6 (uf ch _) ?_,λc an=>c6 c (lk c an),λc an=>ea c (lk c an),λu c an=>gy u c (lk c an),λc an=>g9 c (lk c an),kO,λc an=>wY c (lk c an)⟩;rw[f2];exact aX.sI cL uz
         .cases nY
        .cases nY
       have rI:news.length=cf.length*(C.T e).sz:=aX.sI ie uz;have nZ:∀c,Sn c->¬m4 c:=λc ae af=>by obtain⟨u,hu⟩:=dw c af;exact pE u c ae hu
       have lF:∀u c,Sn c->¬gg u c:=λu c ae af=>pE u c ae (sK u c af);have grow:∀(base:Option Addr) (cap:Nat) (oM:aff) (Sx:Nat->Prop),fD= .slice base xs.length cap->Src C.P w i.size (.slice base xs.length cap) xs.length oM->aX w F xs oM Sx->(∀d∈xs,d.wd=(C.T e).sz)->(∀c,Sx c->Sn c)->¬xs.length+cf.length<=cap->
         Good C w0 F0 X aw w (Builtin.append_ #[T,bP] ty #[fD,gh]) (.ag (C.T e).sz (xs++cf)) zF:=by
        intro base cap oM Sx sB hold IM IP eG pG;subst sB;have aR:=P4 (ty:=ty) bQ hu sH f1 f4 hp hold pG Da (by rw[f3];exact C4);have rF:=grownCap_ge w (xs.length+cf.length) cap e;have wV:=grownCap_le_maxLen w (xs.length+cf.length) cap e (by unfold maxLen;omega);have wZ:=aX.sI IM IP;have Qc:aX w F (xs++cf) (oM++news) (λc=>Sx c\/m4 c):=aX.append IM ie (λ_ h=>.inl h) (λ_ h=>.inr h) (λc ae af=>nZ c (eG c ae) af);have Qd:(oM++news).length=(xs++cf).length*(C.T e).sz:=by simp[wZ,rI,Nat.add_mul]
        have kx:=fK.wS (aB:=w.drew.alloc (.cells (oM.toArray++news.toArray++Builtin.zeroCells z.cells (grownCap w (xs.length+cf.length) cap e-(xs.length+cf.length))) e))
         (sz:=(C.T e).sz) (cap:=grownCap w (xs.length+cf.length) cap e) (xs:=xs++cf) (e:=e) (fr:=(0,0)) (Sn:=λc=>Sx c\/m4 c) rfl rfl rfl ⟨rfl,λ_=>le_succ _⟩
         (λo _ ⟨_,af⟩=>absurd af (not_lt_zero _)) (by simpa using rF) wV
         (by
          simp only[Array.size_append,List.size_toArray,size_zeroCells,qD,wZ,rI,oN,<-Nat.add_mul];congr 1;omega)
         (by
          intro d ai;rcases mem_append.1 ai with ai|ai
          .exact IP d ai
          .exact uz d ai)
         (by
          simp only[Array.toList_append];rw[take_left' Qd];exact Qc)
         (by rintro c (an|an);exact rE c (eG c an);exact jU c an) (by rintro c (an|an);exact uv c (eG c an);exact cG c an) (by rintro u c (an|an);exact lF u c (eG c an);exact de u c an) (by rintro c (an|an);exact pF c (eG c an);exact et c an)
        refine⟨_,_,F,gg,aR,kx.1,?_⟩;have:=kx.2;simpa using this
       rw[ao]at fm;rcases fm with⟨rfl,zH,h3⟩|⟨b,cap,cur,fE,fr,aO,h3,bU,ch,dd,cW,ed,dn,h4,cL,lk,m3⟩
       .simp at h3;subst h3;by_cases IQ:cf=[]
        .subst IQ;have w1:news=[]:=by simpa using rI
         subst w1;refine⟨.slice zH 0 0,w,F,gg,?_,fK,.inr ⟨rfl,rfl,λ_=>False,by simp only[bX,hj];rw[ao];exact .inl ⟨rfl,_,rfl⟩,λ_ h=>h.elim,λ_ h=>h.elim,λ_ _ h=>h.elim,λ_ h=>h.elim⟩⟩;obtain⟨ae,af⟩:=hp w rfl;cases zH<;>rcases sH with⟨gd,rfl⟩|rfl<;>simp at ae af<;>simp[Builtin.append_,run_underlying bQ,run_underlying hu,iR f1,ae,af,storeCells]
        .exact grow zH 0 [] (λ_=>False) rfl (C7 zH) (by rw[aX]) (by simp) (λ_ h=>h.elim) (by
          cases cf with
          |nil=>exact(IQ rfl).elim
          |cons y cf=>simp)
       .simp at h3;subst h3;by_cases pG:xs.length+cf.length<=cap
        ·
         have wZ:=aX.sI cL h4;have hlen:cur.toList.length=cap*(C.T e).sz:=by simp[dn]
         have hle:(xs.length+cf.length)*(C.T e).sz<=cap*(C.T e).sz:=mul_le_mul_right _ pG;rw[Nat.add_mul]at hle;have iz:cur.toList=cur.toList.take (xs.length*(C.T e).sz)++((cur.toList.drop (xs.length*(C.T e).sz)).take news.length++(cur.toList.drop (xs.length*(C.T e).sz)).drop news.length):=by
          rw[take_append_drop,take_append_drop]
         obtain⟨aB,el,fJ,gU,jT,j9,lK,m0⟩:=P3 (ty:=ty) (n:=xs.length) (m:=cf.length) (cap:=cap) bQ hu sH f1 hp ch dd.low iz (by rw[f2];exact wZ) (by simp[hlen,rI];omega) (aX.qu _ _ _ ie) pG;have Qe:=fK.turn gU jT j9 lK m0 (uv b bU) (λu hu=>lF u b bU hu) (pF b bU);have pz:∀c,F c->aB.heap[c]? =w.heap[c]? :=λc an=>gU c (by rintro rfl;exact uv _ bU an);refine⟨_,aB,F,gg,el,Qe,.inr ⟨rfl,rfl,λc=>Sn c\/m4 c,?_,?_,?_,?_,?_⟩⟩
         .simp only[bX,hj];rw[ao];have IU:(cur.toList.take (xs.length*(C.T e).sz)++(news++(cur.toList.drop (xs.length*(C.T e).sz)).drop news.length)).toArray.size=cur.size:=by
           have:cur.size=cur.toList.length:=by simp
           rw[this];conv=>rhs;rw[iz]
           simp[hlen,rI];omega
          refine .inr ⟨b,cap,_,fE,fr,λc=>aO c\/m4 c,by simp,.inl bU,fJ,by rw[IU];exact dd,by simpa using pG,ed,by rw[IU];exact dn,?_,?_,?_,?_⟩
          .intro d ai;rcases mem_append.1 ai with ai|ai
           .exact h4 d ai
           .exact uz d ai
          .have lh:=aX.frame pz _ _ _ (λc an=>gU c (by rintro rfl;exact m3 an)) cL;have qs:=aX.frame pz _ _ _ (λc an=>gU c (by rintro rfl;exact nZ _ bU an)) ie;have:((cur.toList.take (xs.length*(C.T e).sz)++(news++(cur.toList.drop (xs.length*(C.T e).sz)).drop news.length)).toArray.toList.take ((xs++cf).length*(C.T e).sz))=cur.toList.take (xs.length*(C.T e).sz)++news:=by
            simp only[];rw[<-append_assoc];exact take_left' (by rw[length_append,wZ,rI,length_append,Nat.add_mul])
           rw[this];exact aX.append lh qs (λ_ h=>.inl h) (λ_ h=>.inr h) (λc ae af=>nZ c (lk c ae) af)
          .rintro c (an|an)
           .exact .inl (lk c an)
           .exact .inr an
          .rintro(an|an)
           .exact m3 an
           .exact nZ b bU an
         .rw[jT];rintro c (an|an);exact rE c an;exact jU c an
         .rintro c (an|an);exact uv c an;exact cG c an
         .rintro u c (an|an);exact lF u c an;exact de u c an
         .rintro c (an|an);exact pF c an;exact et c an
        .exact grow (some ⟨b,0,none⟩) cap _ aO rfl (C6 (uf ch _) (by rw[f2];exact aX.sI cL h4)) cL h4 lk pG
      .cases he
     .cases he
    .cases he
   .cases he
  .cases he
 .cases he
end
section
variable {C:bH} {w0 w aB:World} {F0 X F:Nat->Prop} {S:Nat->Nat->Prop} {s s1:ak} {aw:Nat->Value} {av:I}
theorem bw.Qf (h:bw w0 F0 X F S s aw w) {x:Nat} {q:afc} {d bh:I} {b:Nat} (ai:I.sub q (s x)=some d) (au:d.plain=false) (Qg:bh.tree=true) (ae:∀v,hL d v->hL bh v) (aa:∀v,dc d v->dc bh v)
  (af:∀vs,bh≠.tuple vs) (j6:bh.wd=d.wd) (U:∀b7 a eF,cj w q (s x) (bX (aw x)) none=some (d,b7,a)->ao w F d b7 eF->eF b/\ao aB F bh b7 eF) (nQ:∀c,c≠b->aB.heap[c]? =w.heap[c]?) (cO:aB.heap.size=w.heap.size) (CM:aB.os=w.os)
  (CN:aB.tape=w.tape) (su:Out aB w):∃aO,bw w0 F0 X F aO (cg (e0 x s) x (I.put q bh (s x))) aw aB:=by
 have aP:=gx ai (.inl au);have al:=h.cV x;rw[aG.cd aP]at al;obtain⟨b7,a,dB,eF,fB,aV,ba,bT,c6,ea⟩:=ctx q (s x) (bX (aw x)) (S x) none d al.2 ai;obtain⟨sv,aH⟩:=U b7 a eF fB c6;have sM:S x b:=ba b sv;have pz:∀c,F c->aB.heap[c]? =w.heap[c]? :=λc an=>nQ c (by rintro rfl;exact h.fC x _ sM an);have uk:∀c,dB c->c≠b:=λc an e=>bT c an (e▸sv);have iP:ao aB F (I.put q bh (s x)) (bX (aw x)) (λc=>dB c\/eF c):=by
  rcases ea with⟨l,r,aT,a3,aY⟩|⟨fK,cur,e,fr,l,r,aT,a3,aY,b1,cI,bQ⟩
  .rw[aT];exact aY aB bh b7 eF pz (λc an=>nQ c (uk c an)) j6 aH (λc an jz=>bT c jz an)
  .refine bQ aB bh b7 eF pz (λc an _=>nQ c (uk c an)) ?_ j6 aH (λc an jz=>bT c jz an);rw[nQ fK (uk fK a3),aY,<-cI]
 have wH:dc (I.put q bh (s x)) (aw x)/\(I.put q bh (s x)).tree=true:=by
  cases q with
  |nil=>
   simp only[I.sub,some.injEq]at ai;simp only[I.put];exact⟨aa _ (ai▸al.1),Qg⟩
  |cons k q=>
   refine⟨wG al.1 ai ae (λ_=>af) j6,?_⟩;rcases rz k q bh (s x)with⟨ay,gs,aT,e⟩|⟨ay,gs,aT,e⟩|⟨sz,xs,cf,aT,e⟩|⟨y,z,aT,e⟩|e<;>rw[e]<;>first|rfl|exact aP
 let az:=cg (e0 x s) x (I.put q bh (s x))
 have gG:∀y,y≠x->(az y).tree=true->az y=s y/\aw y=aw y:=λy a5 aP=>by
  have e:az y=c3.b5 x (s y):=h2 _ _ a5;rw[e]at aP⊢;exact⟨(zn aP).2,rfl⟩
 have eH:(az x).plain=false->(s x).plain=false/\∀v,dc (s x) v->dc (az x) v:=by
  intro _;refine⟨?_,λv aH=>?_⟩
  .cases cu:(s x).plain with
   |false=>rfl
   |true=>rw[I.CH _ _ _ cu ai]at au;cases au
  .simp only[az,lg];cases q with
   |nil=>
    simp only[I.sub,some.injEq]at ai;simp only[I.put];exact aa _ (ai▸aH)
   |cons k q=>exact wG aH ai ae (λ_=>af) j6
 have both:∀c,(dB c\/eF c)->S x c:=λc an=>an.elim (aV c) (ba c);refine⟨gf S x (λc=>dB c\/eF c),?_⟩;constructor;case g2=>exact h.g2
 case hk=>exact h.hk
 case fu=>exact λb U=>by rw[cO];exact h.fu b U
 case ek=>
  intro u c U;rw[cO];simp only[gf]at U;split at U
  .exact h.ek x c (both c U)
  .exact h.ek u c U
 case fC=>
  intro u c U;simp only[gf]at U;split at U
  .exact h.fC x c (both c U)
  .exact h.fC u c U
 case e9=>
  intro u y c c_ U a5;simp only[gf]at U a5;split at U
  .rename_i hu;rw[if_neg (λe=>c_ (hu.trans e.symm))]at a5;exact h.e9 x y c (λe=>c_ (hu.trans e)) (both c U) a5
  .rename_i hu;split at a5
   .exact h.e9 u x c hu U (both c a5)
   .exact h.e9 u y c c_ U a5
 case c7=>
  intro u c U;simp only[gf]at U;split at U
  .exact h.c7 x c (both c U)
  .exact h.c7 u c U
 case cV=>
  intro u;by_cases hu:u=x
  .subst hu;rw[lg,wE];exact(aG.cd wH.2).2 ⟨wH.1,iP⟩
  .rw[h2 _ _ hu,wF _ _ hu];have c_:∀y c,y≠x->S y c->aB.heap[c]? =w.heap[c]? :=λy c a5 an=>nQ c (by rintro rfl;exact h.e9 y x c a5 an sM);refine(aG.b5 gG rfl eH (λy fQ d2 a5 hx wI=>?_) pz _).1 _ _ _ (Nat.le_refl _) (λc an=>c_ u c hu an) (h.cV u);have wJ:=h.cV y;rw[aG.cd (gx hx wI)]at wJ;exact zm fQ _ _ _ none d2 wJ.2 hx (λc an=>c_ y c a5 an)
 case old=>
  intro c c5 jR;rw[nQ c ?_]
  .exact h.old c c5 jR
  .rintro rfl;rcases h.c7 x c sM with bo|bo
   .exact jR bo
   .omega
 case size=>rw[cO];exact h.size
 case os=>exact CM.trans h.os
 case tape=>exact CN.trans h.tape
 case output=>exact su.trans h.output
 case hn=>exact h.hn
def IV (P:Program) (t:TypeId):Bool:=match P.info? t with
 |some i=>match i.zero with
  |some (.bool false)=>true
  |_=>false
 |none=>false
def zI (C:bH) (T:TypeId):Bool:=match(C.T T).k with
 | .map oO rJ=>match(C.T oO).k with
   | .str=>IV C.P rJ
   |_=>false
 |_=>false
def n0 (C:bH) (s:ak) (T:TypeId) (x i:I):Option I:=match x,i with
 | .h y q,.str k=>match I.sub q (s y)with
   |some (.dm (.mp m))=>if zI C T=true then some (.bool (ru k m))else none
   |_=>none
 |_,_=>none
def mo (C:bH) (s:ak) (T:TypeId) (x i v:I):Option ak:=match x,i,v with
 | .h y q,.str k,.bool b=>match I.sub q (s y)with
   |some (.dm (.mp m))=>if zI C T=true then some (cg (e0 y s) y (I.put q (.dm (.mp (pw k b m))) (s y)))else none
   |_=>none
 |_,_,_=>none
theorem IW (a9:C.dL) {T:TypeId} (h:zI C T=true):∃oO rJ,C.P.underlying T=some (.map oO rJ)/\C.P.underlying oO=some .string/\∀w,(zeroValue rJ).run C.P w= .ok (.bool false) w:=by
 unfold zI at h;split at h
 .rename_i oO rJ aj;split at h
  .rename_i ae;obtain⟨i,d,z,aT,a3,aY,b1,cI,bQ,bL⟩:=a9.info (fv aj (by simp));obtain⟨ml,bh,mX,f1,f2,f3,f4,f5,f6,f7⟩:=a9.info (fv ae (by simp));rw[aj]at bL;rw[ae]at f7;have:=pA f7;subst this;refine⟨oO,rJ,?_,f6,λw=>?_⟩
   .rw[bQ];cases d<;>simp[kN]at bL;rw[bL.1,bL.2]
   .unfold IV at h;split at h
    .rename_i oD aV;split at h
     .rename_i ba;exact rA aV ba w
     .cases h
    .cases h
  .cases h
 .cases h
theorem Db (a b:ByteArray):(a==b)=true↔a=b:=by
 constructor
 .intro h;exact ByteArray.ext (eq_of_beq (show(a.data==b.data)=true from h))
 .rintro rfl;show(a.data==a.data)=true;simp
theorem Dc (k:nq) (b:Bool):∀(es:List MapEntry) (m:gk) (i:Nat),es.map (λe=>(e.key,e.val))=m.map (λe=>(.string ⟨⟨e.1⟩⟩,.bool e.2))->
  (Instr.findNow .string (.string ⟨⟨k⟩⟩) es i=some none/\ru k m=false/\pw k b m=m++[(k,b)])\/
  ∃j e,es[j]? =some e/\e.key= .string ⟨⟨k⟩⟩/\Instr.findNow .string (.string ⟨⟨k⟩⟩) es i=some (some (i+j,.bool (ru k m)))/\pw k b m=m.set j (k,b)
 |[],m,i,h=>by
  have:m=[]:=by simpa using h.symm
  subst this;exact .inl ⟨rfl,rfl,rfl⟩
 |e::es,[],i,h=>by simp at h
 |e::es,(c8,eN)::m,i,h=>by
  simp only[map_cons,cons.injEq,Prod.mk.injEq]at h;obtain⟨⟨ae,af⟩,aF⟩:=h;by_cases aj:c8=k
  .subst aj;refine .inr ⟨0,e,rfl,ae,?_,by simp[pw]⟩;have:(((⟨⟨c8⟩⟩:ByteArray)==⟨⟨c8⟩⟩))=true:=(Db _ _).2 rfl;simp only[Instr.findNow,ae,af,Instr.sameNow,ru,this,if_true,Nat.add_zero]
  .have a4:((⟨⟨k⟩⟩:ByteArray)==⟨⟨c8⟩⟩)=false:=by
    refine Bool.eq_false_iff.2 λe=>aj ?_;have:=(Db _ _).1 e;simp only[ByteArray.mk.injEq,Array.mk.injEq]at this;exact this.symm
   rcases Dc k b es m (i+1) aF with⟨aV,ba,bT⟩|⟨j,gd,aV,ba,bT,c6⟩
   .refine .inl ⟨?_,?_,?_⟩
    .simp only[Instr.findNow,ae,Instr.sameNow,a4];exact aV
    .simp[ru,aj,ba]
    .simp[pw,aj,bT]
   .refine .inr ⟨j+1,gd,aV,ba,?_,?_⟩
    .simp only[Instr.findNow,ae,Instr.sameNow,a4];rw[bT];simp[ru,aj,Nat.add_assoc,Nat.add_comm 1 j]
    .simp[pw,aj,c6]
theorem zJ {P:Program} {oO:TypeId} (aj:P.underlying oO=some .string) (e:Bool) (k:ByteArray) (w:World):(Instr.checkKey e 10000 oO (.string k)).run P w= .ok () w:=by
 unfold Instr.checkKey;simp[run_underlying aj]
theorem IX (h:bw w0 F0 X F S s aw w) {y:Nat} {q:afc} {m:gk} {v:Value} (aH:aG w F s aw (.h y q) v (λ_=>False)) (ai:I.sub q (s y)=some (.dm (.mp m))):
  ∃r ms mg,v= .map (some r)/\w.heap[r]? =some (.map ms mg)/\ms.toList.map (λe=>(e.key,e.val))=m.map (λe=>(.string ⟨⟨e.1⟩⟩,.bool e.2))/\
   ∃a,cj w q (s y) (bX (aw y)) none=some (.dm (.mp m),[.map (some r)],a):=by
 rw[aG]at aH;obtain⟨b7,a,aV,ba,bT⟩:=aH _ ai rfl;have ae:Value.fU v=true:=bT;rw[fX ae]at ba;have al:=h.cV y;rw[aG.cd (gx ai (.inl rfl))]at al;obtain⟨fk,ca,dB,eF,k0,bU,ch,dd,cW,ed⟩:=ctx q (s y) (bX (aw y)) (S y) none _ al.2 ai;rw[k0]at aV;simp only[some.injEq,Prod.mk.injEq,true_and]at aV;obtain⟨rfl,rfl⟩:=aV;rw[ao]at cW;obtain⟨r,ms,mg,aT,a3,aY,b1⟩:=cW;rw[aT]at ba k0;exact⟨r,ms,mg,by simpa using ba,aY,b1,ca,k0⟩
theorem Qh (a9:C.dL) (h:bw w0 F0 X F S s aw w) {T:TypeId} {x i:I} {fD nT:Value} (al:aG w F s aw x fD (λ_=>False)) (aC:aG w F s aw i nT (λ_=>False)) (he:n0 C s T x i=some av):
  Good C w0 F0 X aw w (Instr.lookup T fD nT false) av s:=by
 unfold n0 at he;split at he
 .rename_i y q k;split at he
  .rename_i m ai;split at he
   .rename_i gS;simp only[some.injEq]at he;subst he;obtain⟨oO,rJ,t1,t2,t3⟩:=IW a9 gS;obtain⟨r,ms,mg,rfl,a3,aY,_⟩:=IX h al ai;have:=nW aC;subst this;refine Good.same h (v:=.bool (ru k m)) ?_ rfl (of_bool _);rcases Dc k true ms.toList m 0 aY with⟨aV,ba,_⟩|⟨j,e,_,_,aV,_⟩
    .simp[Instr.lookup,run_underlying t1,getObj,Sem.run,a3,zJ t2,Instr.findKey,run_underlying t2,aV,t3,ba]
    .simp[Instr.lookup,run_underlying t1,getObj,Sem.run,a3,zJ t2,Instr.findKey,run_underlying t2,aV]
   .cases he
  .cases he
 .cases he
theorem Qi (a9:C.dL) (h:bw w0 F0 X F S s aw w) {T:TypeId} {x i v:I} {fD nT IY:Value} (al:aG w F s aw x fD (λ_=>False)) (aC:aG w F s aw i nT (λ_=>False)) (aH:aG w F s aw v IY (λ_=>False)) {s2:ak}
  (he:mo C s T x i v=some s2):∃aB aO,(Instr.mapUpdate T fD nT IY).run C.P w= .ok () aB/\bw w0 F0 X F aO s2 aw aB:=by
 unfold mo at he;split at he
 .rename_i y q k b;split at he
  .rename_i m ai;split at he
   .rename_i gS;simp only[some.injEq]at he;subst he;obtain⟨oO,rJ,t1,t2,t3⟩:=IW a9 gS;obtain⟨r,ms,mg,rfl,a3,aY,J,hM⟩:=IX h al ai;have:=nW aC;subst this;have:=rD aH;subst this;have key:∀(zK:Array MapEntry) (Dd:Nat),zK.toList.map (λe=>(e.key,e.val))=(pw k b m).map (λe=>(.string ⟨⟨e.1⟩⟩,.bool e.2))->
      ∃aO,bw w0 F0 X F aO (cg (e0 y s) y (I.put q (.dm (.mp (pw k b m))) (s y))) aw {w with heap:=w.heap.setIfInBounds r (.map zK Dd)}:=by
     intro zK Dd hm;have aR:r<w.heap.size:=(Array.getElem?_eq_some_iff.1 a3).1;refine bw.Qf (b:=r) h ai rfl rfl (λv aH=>aH) (λv aH=>aH) (λvs e=>by cases e) rfl ?_ (λc an=>?_) (by simp) rfl rfl ⟨rfl,λ_=>Nat.le_refl _⟩
     .intro b7 a eF a8 fF;rw[hM]at a8;simp only[some.injEq,Prod.mk.injEq,true_and]at a8;obtain⟨rfl,_⟩:=a8;rw[ao]at fF⊢;obtain⟨gz,rK,adF,f1,f2,f3,f4⟩:=fF;simp only[cons.injEq,Value.map.injEq,some.injEq,and_true]at f1;subst f1;exact⟨f2,r,zK,Dd,rfl,f2,by simp[aR],hm⟩
     .simp[Ne.symm an]
    rcases Dc k b ms.toList m 0 aY with⟨aV,_,ba⟩|⟨j,e,fB,ge,aV,ba⟩
    .obtain⟨aO,bU⟩:=key (ms.push {key:=.string ⟨⟨k⟩⟩,val:=.bool b,born:=mg}) (mg+1) (by rw[ba];simp[aY]);exact⟨_,aO,by simp[Instr.mapUpdate,run_underlying t1,getObj,setObj,Sem.run,a3,zJ t2,Instr.findKey,run_underlying t2,aV],bU⟩
    .rw[Nat.zero_add]at aV;obtain⟨aO,bU⟩:=key (ms.modify j λe=>{e with key:=.string ⟨⟨k⟩⟩,val:=.bool b}) mg (by
      rw[ba,map_set,<-aY];apply ext_getElem?;intro n;by_cases a4:n=j
      .subst a4;have:n<ms.toList.length:=(List.getElem?_eq_some_iff.1 fB).1;rw[getElem?_set_self (by simpa using this)];simp[fB]
      .simp[getElem?_set_ne (Ne.symm a4),Ne.symm a4])
     have Qj:ms[j]? =some e:=by simpa using fB
     exact⟨_,aO,by simp[Instr.mapUpdate,run_underlying t1,getObj,setObj,Sem.run,a3,zJ t2,Instr.findKey,run_underlying t2,aV,Qj,ge,Instr.keyThatStays,Instr.sameBits,(Db ⟨⟨k⟩⟩ ⟨⟨k⟩⟩).2 rfl],bU⟩
   .cases he
  .cases he
 .cases he
theorem Qk (h:bw w0 F0 X F S s aw w) (t:TypeId):Good C w0 F0 X aw w (Instr.makeMap t none) (.dm (.mp [])) s:=by
 have hold:∀b,b<w.heap.size->(w.alloc (.map #[] 0)).heap[b]? =w.heap[b]? :=by
  intro b U;show(w.heap.push _)[b]? =_;rw[Array.getElem?_push,if_neg (by omega)]
 refine⟨.map (some w.heap.size),w.alloc (.map #[] 0),F,S,?_,h.grow hold (by simp) rfl rfl ⟨rfl,λ_=>Nat.le_refl _⟩,.inr ⟨rfl,rfl,λb=>b=w.heap.size,?_,?_,?_,?_,?_⟩⟩
 .simp[Instr.makeMap,newObj,Sem.run]
 .rw[ao];refine⟨w.heap.size,#[],0,rfl,rfl,?_,rfl⟩;show(w.heap.push _)[_]? =_;simp
 .rintro b rfl;simp
 .rintro b rfl oI;exact Nat.lt_irrefl _ (h.fu _ oI)
 .rintro u b rfl hu;exact Nat.lt_irrefl _ (h.ek _ _ hu)
 .rintro b rfl;exact .inr h.size
end
end Go.c3
