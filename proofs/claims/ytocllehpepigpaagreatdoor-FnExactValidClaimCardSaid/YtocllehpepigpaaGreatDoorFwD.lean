/- Part of a proof that a law returns true for every input. No condition. -/
import Derived.Test.YtocllehpepigpaaGreatDoorFwC
import Derived.Test.YtocllehpepigpaaGreatDoorFwA
import Derived.Laws.IdiomStrings
import Derived.Laws.Strings
import Derived.LaidEql
import Derived.WideLaws
import Derived.Laws.StructEq
namespace Go.cI
section
variable {C:bS} {w0 w:World} {F0 X F:Nat→Prop} {S:Nat→Nat→Prop} {s s1:an} {au:Nat→Value} {av:I}
theorem l_ {k:IntKind} {n:Int} {v:Value} {aG:Nat→Prop} (h:aB w F s au (.int k n) v aG):v= .int k n:=by
 have bb:=(aB.b9 rfl).1 h
 rw[ak,gp bb.1]at bb
 simpa using bb.2
theorem pY {b:Bool} {v:Value} {aG:Nat→Prop} (h:aB w F s au (.bool b) v aG):v= .bool b:=by
 have bb:=(aB.b9 rfl).1 h
 rw[ak,gp bb.1]at bb
 simpa using bb.2
theorem lE {b:List UInt8} {v:Value} {aG:Nat→Prop} (h:aB w F s au (.str b) v aG):v= .string ⟨⟨b⟩⟩:=by
 have bb:=(aB.b9 rfl).1 h
 rw[ak,gp bb.1]at bb
 simpa using bb.2
theorem Es {v:Value} {aG:Nat→Prop} (h:aB w F s au .cS v aG):v= .pointer none:=by
 have bb:=(aB.b9 rfl).1 h
 rw[ak,gp bb.1]at bb
 simpa using bb.2
theorem o_ {v:Value} {aG:Nat→Prop} (h:aB w F s au .bk v aG):v= .slice none 0 0:=by
 have bb:=(aB.b9 rfl).1 h
 rw[ak,gp bb.1]at bb
 simpa using bb.2
theorem Et {v:Value} {aG:Nat→Prop} (h:aB w F s au .et v aG):∃b,v= .bool b:=by
 have bb:=(aB.b9 rfl).1 h
 rw[ak,gp bb.1]at bb
 simpa using bb.2
theorem of_int (k:IntKind) (n:Int):aB w F s au (.int k n) (.int k n) (fun _=>False):=(aB.b9 rfl).2 ⟨rfl,by rw[ak];rfl⟩
theorem of_bool (b:Bool):aB w F s au (.bool b) (.bool b) (fun _=>False):=(aB.b9 rfl).2 ⟨rfl,by rw[ak];rfl⟩
theorem nV (b:List UInt8):aB w F s au (.str b) (.string ⟨⟨b⟩⟩) (fun _=>False):=(aB.b9 rfl).2 ⟨rfl,by rw[ak];rfl⟩
theorem AW (b:Bool):aB w F s au .et (.bool b) (fun _=>False):=(aB.b9 rfl).2 ⟨rfl,by rw[ak];exact⟨b,rfl⟩⟩
def ka (op:BinOp) (k:IntKind) (a:Int) (dj:IntKind) (b:Int):Option I:=
 match op with
 | .shl=>if b<0 then none else some (.int k (k.wrap (a*2^(min b.toNat k.bits))))
 | .shr=>if b<0 then none else some (.int k (a.fdiv (2^(min b.toNat k.bits))))
 | .add=>if k=dj then some (.int k (k.wrap (a+b)))else none
 | .sub=>if k=dj then some (.int k (k.wrap (a-b)))else none
 | .mul=>if k=dj then some (.int k (k.wrap (a*b)))else none
 | .quo=>if k=dj∧b≠0 then some (.int k (k.wrap (a.tdiv b)))else none
 | .rem=>if k=dj∧b≠0 then some (.int k (a.tmod b))else none
 | .eql=>if k=dj then some (.bool (a==b))else none
 | .neq=>if k=dj then some (.bool (a !=b))else none
 | .lss=>if k=dj then some (.bool (decide (a<b)))else none
 | .leq=>if k=dj then some (.bool (decide (a≤b)))else none
 | .gtr=>if k=dj then some (.bool (decide (b<a)))else none
 | .geq=>if k=dj then some (.bool (decide (b≤a)))else none
 | .and=>if k=dj then some (.int k (bitsOf .and k a b))else none
 | .or=>if k=dj then some (.int k (bitsOf .or k a b))else none
 | .xor=>if k=dj then some (.int k (bitsOf .xor k a b))else none
 | .andNot=>if k=dj then some (.int k (bitsOf .andNot k a b))else none
def mG (op:BinOp) (a b:List UInt8):Option I:=
 match op with
 | .add=>if a.length+b.length≤9223372036854775807 then some (.str (a++b))else none
 | .eql=>some (.bool (a==b))
 | .neq=>some (.bool !(a==b))
 | .lss=>some (.bool (Op.bytesLess a b))
 | .leq=>some (.bool (Op.bytesLess a b||a==b))
 | .gtr=>some (.bool !(Op.bytesLess a b||a==b))
 | .geq=>some (.bool !(Op.bytesLess a b))
 |_=>none
def kN (s:an):I→Option (Option Bool)
 | .bk=>some (some true)
 | .slice xs=>some (if xs=[]then none else some false)
 | .h x q=>match I.sub q (s x)with
   |some (.aL _ xs)=>some (if xs=[]then none else some false)
   |_=>none
 |_=>none
def kO (s:an):I→Option Bool
 | .cS=>some true
 | .ref _=>some false
 | .h x q=>match I.sub q (s x)with
   |some (.bM _)=>some false
   |_=>none
 |_=>none
def uE (neg:Bool):Option Bool→I
 |some b=>.bool (b !=neg)
 |none=>.et
def structEq (P:Program) (T:TypeId):Bool:= !P.stoodInHeld T&& !P.eqGuardType P.depth T&&(P.fieldsOf T).toList.all fun f=>decide (f.name≠ "_")
def mZ (C:bS):List (TypeId×Nat)→Nat→List I→List I→Option Bool
 |[],_,[],[]=>some true
 |(je,off)::aq,n,d::ds,e::es=>if off=n then(match(C.T je).k,d,e with
  | .int k,.int bV a,.int b7 b=>if bV=k∧b7=k then(mZ C aq (n+1) ds es).map fun r=>a==b&&r else none
  | .bool,.bool a,.bool b=>(mZ C aq (n+1) ds es).map fun r=>a==b&&r
  | .str,.str a,.str b=>(mZ C aq (n+1) ds es).map fun r=>a==b&&r
  |_,_,_=>none)else none
 |_,_,_,_=>none
def bx (C:bS) (s:an) (op:BinOp) (T:TypeId) (x y:I):Option I:=
 match x,y with
 | .int k a,.int dj b=>ka op k a dj b
 | .str a,.str b=>mG op a b
 | .bool a,.bool b=>match op,(C.T T).k with
   | .eql,.bool=>some (.bool (a==b))
   | .neq,.bool=>some (.bool !(a==b))
   |_,_=>none
 | .agg ds,.agg es=>match op,(C.T T).k with
   | .eql,.struct aq=>if structEq C.P T=true then(mZ C aq 0 ds es).map fun b=>.bool b else none
   | .neq,.struct aq=>if structEq C.P T=true then(mZ C aq 0 ds es).map fun b=>.bool !b else none
   |_,_=>none
 |x,.bk=>match op,(C.T T).k with
  | .eql,.slice _=>(kN s x).map (uE false)
  | .neq,.slice _=>(kN s x).map (uE true)
  |_,_=>none
 |x,.cS=>match op,(C.T T).k with
  | .eql,.ptr _=>(kO s x).map fun b=>.bool b
  | .neq,.ptr _=>(kO s x).map fun b=>.bool !b
  |_,_=>none
 |_,_=>none
theorem Lm {P:Program} {op:BinOp} {T:TypeId} {k dj:IntKind} {a b:Int} (he:ka op k a dj b=some av) (w:World):
  ∃v,(binOp op T (.int k a) (.int dj b)).run P w= .ok v w∧aB w F s au av v (fun _=>False):=by
 unfold ka at he
 cases op<;>simp only at he<;>split at he<;>first|(cases he;done)|skip
 all_goals
  rename_i aj
  simp only[Option.some.injEq]at he
  subst he
 all_goals first
  |(subst aj;simp only[binOp_add,binOp_sub,binOp_mul,binOp_eql,binOp_neq,binOp_lss,binOp_leq,binOp_gtr,binOp_geq,binOp_and,binOp_or,binOp_xor,binOp_andNot,Op.intArith,Op.intBits,Sem.run_pure,Result.ok.injEq,and_true,exists_eq_left']
    first|exact of_int _ _|exact of_bool _)
  |(obtain⟨rfl,bm⟩:=aj
    simp only[binOp_quo,binOp_rem,Op.intDiv,bm,if_false,Sem.run_pure,Result.ok.injEq,and_true,exists_eq_left']
    exact of_int _ _)
  |(simp only[binOp_shl,binOp_shr,Op.shift,aj,if_false,Sem.run_pure,Result.ok.injEq,and_true,exists_eq_left']
    exact of_int _ _)
theorem uF (a:List UInt8):(⟨⟨a⟩⟩:ByteArray).toList=a:=ByteArray.toList_eq _
theorem Ln (a b:List UInt8):(⟨⟨a⟩⟩:ByteArray)++(⟨⟨b⟩⟩:ByteArray)=⟨⟨a++b⟩⟩:=by
 apply ByteArray.ext
 simp[ByteArray.data_append]
theorem Lo {P:Program} {op:BinOp} {T:TypeId} {a b:List UInt8} (he:mG op a b=some av) (w:World):
  ∃v,(binOp op T (.string ⟨⟨a⟩⟩) (.string ⟨⟨b⟩⟩)).run P w= .ok v w∧aB w F s au av v (fun _=>False):=by
 have U:∀op,binOp op T (.string ⟨⟨a⟩⟩) (.string ⟨⟨b⟩⟩)=Op.stringOp op ⟨⟨a⟩⟩ ⟨⟨b⟩⟩:=by intro op;cases op<;>rfl
 rw[U]
 unfold mG at he
 cases op<;>simp only[Option.some.injEq]at he<;>first|(cases he;done)|skip
 case add=>
  split at he
  ·rename_i aO
   simp only[Option.some.injEq]at he;subst he
   have aa:((ByteArray.size ⟨⟨a⟩⟩+ByteArray.size ⟨⟨b⟩⟩:Nat):Int)≤9223372036854775807:=by
    show((a.length+b.length:Nat):Int)≤_
    omega
   refine⟨.string ⟨⟨a++b⟩⟩,?_,nV _⟩
   simp only[Op.stringOp,IntKind.max_i64]
   rw[if_neg (by omega),Ln]
   rfl
  ·cases he
 all_goals
  subst he
  simp only[Op.stringOp,uF,Sem.run_pure,Result.ok.injEq,and_true,exists_eq_left']
  exact of_bool _
theorem AX (h:bw w0 F0 X F S s au w) {v:Value} {y:Nat} {q:List Nat} (aI:aB w F s au (.h y q) v (fun _=>False)) {sz:Nat} {xs:List I} (ah:I.sub q (s y)=some (.aL sz xs)):
  (xs=[]∧∃a,v= .slice a 0 0)∨∃b cap cur e fr,v= .slice (some ⟨b,0,none⟩) xs.length cap∧w.heap[b]? =some (.cells cur e fr)∧pS fr cur.size∧xs.length≤cap∧cap≤maxLen∧cur.size=cap*sz∧(∀d∈xs,d.wd=sz)∧
   ∃aG,aW w F xs (cur.toList.take (xs.length*sz)) aG∧(∀c,aG c→S y c)∧S y b:=by
 rw[aB]at aI
 obtain⟨cc,a,g1,g2,g3⟩:=aI _ ah rfl
 have aa:Value.f_ v=true:=g3
 rw[gp aa]at g2;subst g2
 have ai:=h.cN y
 rw[aB.b9 (hq ah (.inl rfl))]at ai
 obtain⟨ff,cz,dE,eM,k0,bV,b7,eh,dd,eO⟩:=ctx q (s y) (bU (au y)) (S y) none _ ai.2 ah
 rw[k0]at g1
 simp only[Option.some.injEq,Prod.mk.injEq,true_and]at g1
 obtain⟨rfl,rfl⟩:=g1
 rw[ak]at dd
 rcases dd with⟨rfl,a2,ag⟩|⟨b,cap,cur,aX,fr,dc,aS,bQ,cp,bK,bH,gb,h7,iQ,ma,fi,fL⟩
 ·simp at ag;exact .inl ⟨rfl,_,ag⟩
 ·simp at aS
  exact .inr ⟨b,cap,cur,aX,fr,aS,cp,bK,bH,gb,h7,iQ,dc,ma,fun c aj=>b7 _ (fi c aj),b7 _ bQ⟩
theorem Eu (h:bw w0 F0 X F S s au w) {v:Value} {y:Nat} {q:List Nat} (aI:aB w F s au (.h y q) v (fun _=>False)) {d:I} (ah:I.sub q (s y)=some (.bM d)):
  ∃b cur e fr,v= .pointer (some ⟨b,0,none⟩)∧w.heap[b]? =some (.cells cur e fr):=by
 rw[aB]at aI
 obtain⟨cc,a,g1,g2,g3⟩:=aI _ ah rfl
 have aa:Value.f_ v=true:=g3
 rw[gp aa]at g2;subst g2
 have ai:=h.cN y
 rw[aB.b9 (hq ah (.inl rfl))]at ai
 obtain⟨ff,cz,dE,eM,k0,bV,b7,eh,dd,eO⟩:=ctx q (s y) (bU (au y)) (S y) none _ ai.2 ah
 rw[k0]at g1
 simp only[Option.some.injEq,Prod.mk.injEq,true_and]at g1
 obtain⟨rfl,rfl⟩:=g1
 rw[ak]at dd
 obtain⟨b,cur,aX,fr,dc,aS,bQ,cp,_⟩:=dd
 simp at aS
 exact⟨b,cur,aX,fr,aS,cp⟩
theorem Ev {P:Program} {T e:TypeId} (aY:P.underlying T=some (.slice e)) (w:World):∀d,(Op.equalIn (d+1) T (.slice none 0 0) (.slice none 0 0)).run P w= .ok true w∧
  ∀a n c,(Op.equalIn (d+1) T (.slice (some a) n c) (.slice none 0 0)).run P w= .ok false w:=by
 intro d
 refine⟨by simp[Op.equalIn,run_underlying aY],fun a n c=>by simp[Op.equalIn,run_underlying aY]⟩
theorem Ew {P:Program} {T e:TypeId} (aY:P.underlying T=some (.pointer e)) (w:World):∀d,(Op.equalIn (d+1) T (.pointer none) (.pointer none)).run P w= .ok true w∧
  ∀a,(Op.equalIn (d+1) T (.pointer (some a)) (.pointer none)).run P w= .ok false w:=by
 intro d
 refine⟨by simp[Op.equalIn,run_underlying aY],fun a=>by simp[Op.equalIn,run_underlying aY]⟩
theorem Ex {P:Program} {T:TypeId} (aY:P.underlying T=some .bool) (w:World):∀d a b,(Op.equalIn (d+1) T (.bool a) (.bool b)).run P w= .ok (a==b) w:=by
 intro d a b
 simp[Op.equalIn,run_underlying aY]
theorem Ey (h:bw w0 F0 X F S s au w) {x:I} {v:Value} (aI:aB w F s au x v (fun _=>False)) {T e:TypeId} {r:Option Bool} (aH:kN s x=some r) (aY:C.P.underlying T=some (.slice e)):
  ∃b,(Op.equal T v (.slice none 0 0)).run C.P w= .ok b w∧(∀e8,r=some e8→e8=b)∧Value.f_ v=true∧∃a n c,v= .slice a n c:=by
 have aT:=fun a n c=>(Ev aY w 9999).2 a n c
 have gf:=(Ev aY w 9999).1
 cases x with
 |bk=>
  have:=o_ aI;subst this
  simp[kN]at aH;subst aH
  exact⟨true,gf,by simp,rfl,_,_,_,rfl⟩
 |slice xs=>
  have bb:=(aB.b9 rfl).1 aI
  rw[ak,gp bb.1]at bb
  simp only[kN,Option.some.injEq]at aH
  obtain⟨_,⟨rfl,a,c,ag,_,q4⟩|⟨b,o,cap,dI,sz,ag,aF⟩⟩:=bb
  ·simp at ag aH;subst ag;subst aH
   cases a with
   |none=>
    have:=q4 rfl;subst this
    exact⟨true,gf,by simp,rfl,_,_,_,rfl⟩
   |some a=>exact⟨false,aT _ _ _,by simp,rfl,_,_,_,rfl⟩
  ·simp at ag;subst ag
   refine⟨false,aT _ _ _,?_,rfl,_,_,_,rfl⟩
   subst aH
   split<;>simp
 |h y q=>
  simp only[kN]at aH
  split at aH
  ·rename_i sz xs ah
   simp only[Option.some.injEq]at aH
   rcases AX h aI ah with⟨rfl,a,rfl⟩|⟨b,cap,cur,aX,fr,rfl,_⟩
   ·simp at aH;subst aH
    cases a with
    |none=>exact⟨true,gf,by simp,rfl,_,_,_,rfl⟩
    |some a=>exact⟨false,aT _ _ _,by simp,rfl,_,_,_,rfl⟩
   ·refine⟨false,aT _ _ _,?_,rfl,_,_,_,rfl⟩
    subst aH
    split<;>simp
  ·cases aH
 |_=>simp[kN]at aH
theorem Ez (h:bw w0 F0 X F S s au w) {x:I} {v:Value} (aI:aB w F s au x v (fun _=>False)) {T e:TypeId} {r:Bool} (aH:kO s x=some r) (aY:C.P.underlying T=some (.pointer e)):
  (Op.equal T v (.pointer none)).run C.P w= .ok r w∧∃a,v= .pointer a:=by
 have aT:=fun a=>(Ew aY w 9999).2 a
 have gf:=(Ew aY w 9999).1
 cases x with
 |cS=>
  have:=Es aI;subst this
  simp[kO]at aH;subst aH
  exact⟨gf,_,rfl⟩
 |ref d=>
  have bb:=(aB.b9 rfl).1 aI
  rw[ak,gp bb.1]at bb
  simp[kO]at aH;subst aH
  obtain⟨_,b,o,dI,ag,_⟩:=bb
  simp at ag;subst ag
  exact⟨aT _,_,rfl⟩
 |h y q=>
  simp only[kO]at aH
  split at aH
  ·rename_i d ah
   simp only[Option.some.injEq]at aH;subst aH
   obtain⟨b,cur,e,fr,rfl,_⟩:=Eu h aI ah
   exact⟨aT _,_,rfl⟩
  ·cases aH
 |_=>simp[kO]at aH
theorem Lp (bc:C.en):∀(aq:List (TypeId×Nat)) (gs:List Field) (n:Nat) (ds es:List I) (r:Bool) (gq l2 b5 c2:List Value) (xs cf:Array Value) (bN dc:Nat→Prop),
  gs.map (fun g=>(g.type,g.offset))=aq→(gs.all fun f=>decide (f.name≠ "_"))=true→mZ C aq n ds es=some r→aW w F ds b5 bN→aW w F es c2 dc→xs.toList=gq++b5→gq.length=n→cf.toList=l2++c2→l2.length=n→
  ∀m,(Op.eqFields (m+1) xs cf gs).run C.P w= .ok r w:=by
 intro aq
 induction aq with
 |nil=>
  intro gs n ds es r gq l2 b5 c2 xs cf bN dc hg aV he ad ag ai aO hy AY m
  have:gs=[]:=by simpa using hg
  subst this
  cases ds<;>cases es<;>simp[mZ]at he
  subst he
  simp[Op.eqFields]
 |cons p aq ih=>
  obtain⟨je,off⟩:=p
  intro gs n ds es r gq l2 b5 c2 xs cf bN dc hg aV he ad ag ai aO hy AY m
  cases gs with
  |nil=>simp at hg
  |cons g gs=>
   simp only[List.map_cons,List.cons.injEq,Prod.mk.injEq]at hg
   obtain⟨⟨rfl,rfl⟩,hg⟩:=hg
   simp only[List.all_cons,Bool.and_eq_true,decide_eq_true_eq]at aV
   cases ds with
   |nil=>simp[mZ]at he
   |cons d ds=>
   cases es with
   |nil=>simp[mZ]at he
   |cons e es=>
   simp only[mZ]at he
   split at he
   ·rename_i oA
    rw[aW]at ad ag
    obtain⟨ab,a2,xb,Lq,rfl,fg,gM,hP,EA,fz⟩:=ad
    obtain⟨kP,h8,alG,Lr,rfl,hh,ga,jf,jg,pZ⟩:=ag
    have step:∀(x y:Value) (z:Bool),(C.T g.type).flat=true→ab=[x]→kP=[y]→(∀m,(Op.equalIn (m+1) g.type x y).run C.P w= .ok z w)→∀jr,mZ C aq (n+1) ds es=some jr→
      (Op.eqFields (m+1) xs cf (g::gs)).run C.P w= .ok (z&&jr) w:=by
     intro x y z iH Ls Lt heq jr dV
     subst Ls;subst Lt
     have Lu:xs[g.offset]? =some x:=by
      rw[←Array.getElem?_toList,ai,oA,←aO,List.getElem?_append_right (Nat.le_refl _)];simp
     have Lv:cf[g.offset]? =some y:=by
      rw[←Array.getElem?_toList,hy,oA,←AY,List.getElem?_append_right (Nat.le_refl _)];simp
     have ay:=ih gs (n+1) ds es jr (gq++[x]) (l2++[y]) a2 h8 xs cf Lq Lr hg aV.2 dV gM ga (by rw[ai];simp) (by simp[aO]) (by rw[hy];simp) (by simp[AY]) m
     unfold Op.eqFields
     rw[if_pos aV.1]
     simp only[part,Sem.run_bind,AR bc iH,Result.andThen_ok,Bool.false_eq_true,if_false,Lu,Lv,Sem.run_pure,heq]
     cases z
     ·simp
     ·simpa using ay
    split at he
    ·rename_i k bV a b7 b ax
     split at he
     ·rename_i Lw
      obtain⟨rfl,rfl⟩:=Lw
      rw[ak]at fg hh
      simp only[Option.map_eq_some_iff]at he
      obtain⟨jr,dV,rfl⟩:=he
      obtain⟨i,uG,EB,aT,aX,aS,bQ,cp,bK,bH⟩:=bc.info (fh ax (by simp))
      rw[ax]at bH
      have q5:=uA bH
      subst q5
      exact step _ _ _ (by simp[fS.flat,ax]) fg hh (fun m=>run_equalIn_int w m g.type _ _ a b bK) jr dV
     ·cases he
    ·rename_i a b ax
     rw[ak]at fg hh
     simp only[Option.map_eq_some_iff]at he
     obtain⟨jr,dV,rfl⟩:=he
     obtain⟨i,uG,EB,aT,aX,aS,bQ,cp,bK,bH⟩:=bc.info (fh ax (by simp))
     rw[ax]at bH
     have q5:=AM bH
     subst q5
     exact step _ _ _ (by simp[fS.flat,ax]) fg hh (fun m=>run_equalIn_bool' w m g.type a b bK) jr dV
    ·rename_i a b ax
     rw[ak]at fg hh
     simp only[Option.map_eq_some_iff]at he
     obtain⟨jr,dV,rfl⟩:=he
     obtain⟨i,uG,EB,aT,aX,aS,bQ,cp,bK,bH⟩:=bc.info (fh ax (by simp))
     rw[ax]at bH
     have q5:=oz bH
     subst q5
     refine step _ _ (a==b) (by simp[fS.flat,ax]) fg hh (fun m=> ?_) jr dV
     rw[run_equalIn_string w m g.type _ _ bK,uF,uF]
    ·cases he
   ·cases he
theorem EC (bc:C.en) {T:TypeId} {aq:List (TypeId×Nat)} (ax:(C.T T).k= .struct aq) {ds es:List I} {ht h6:Value} {bN dc:Nat→Prop} {r:Bool} (ai:aB w F s au (.agg ds) ht bN) (hy:aB w F s au (.agg es) h6 dc)
  (cM:structEq C.P T=true) (he:mZ C aq 0 ds es=some r) (op:BinOp) (uH uI:Operand):
  (eqGuard op T uH uI ht h6).run C.P w= .ok () w∧(Op.equal T ht h6).run C.P w= .ok r w:=by
 obtain⟨i,d,z,aT,aX,aS,bQ,cp,bK,bH⟩:=bc.info (fh ax (by simp))
 rw[ax]at bH
 obtain⟨gs,rfl,gb⟩:=uz bH
 have uJ:C.P.fieldsOf T=gs:=by simp[Program.fieldsOf,bK]
 simp only[structEq,Bool.and_eq_true,Bool.not_eq_true',uJ]at cM
 obtain⟨⟨hh,ga⟩,jf⟩:=cM
 obtain⟨⟨xs,rfl⟩,sl⟩:=(aB.b9 rfl).1 ai
 obtain⟨⟨cf,rfl⟩,qX⟩:=(aB.b9 rfl).1 hy
 rw[ak]at sl qX
 constructor
 ·cases op<;>simp[eqGuard,ga]
 ·show(Op.equalIn (9999+1) T _ _).run C.P w=_
  rw[run_equalIn_struct w 9999 T xs cf (by rw[uJ];exact bK) hh,uJ]
  exact Lp bc aq gs.toList 0 ds es r [] [] _ _ xs cf bN dc gb jf he sl qX rfl rfl rfl rfl 9998
theorem Lx (bc:C.en) (h:bw w0 F0 X F S s au w) {op:BinOp} {T:TypeId} {x y:I} {ht h6:Value} (uH uI:Operand) (ai:aB w F s au x ht (fun _=>False)) (hy:aB w F s au y h6 (fun _=>False))
  (he:bx C s op T x y=some av):Good C w0 F0 X au w (do eqGuard op T uH uI ht h6;binOp op T ht h6) av s:=by
 unfold bx at he
 split at he
 ·have:=l_ ai;subst this
  have:=l_ hy;subst this
  obtain⟨v,ad,ag⟩:=Lm (P:=C.P) (T:=T) he w
  refine Good.same h (v:=v) ?_ ?_ ag
  ·rw[eqGuard_at_int];exact ad
  ·revert he;unfold ka;cases op<;>simp only<;>split<;>simp<;>(rintro rfl;rfl)
 ·have:=lE ai;subst this
  have:=lE hy;subst this
  obtain⟨v,ad,ag⟩:=Lo (P:=C.P) (T:=T) he w
  refine Good.same h (v:=v) ?_ ?_ ag
  ·rw[eqGuard_at_string];exact ad
  ·revert he;unfold mG;cases op<;>simp only<;>(try split)<;>simp<;>(try (rintro rfl;rfl))
 ·have:=pY ai;subst this
  have:=pY hy;subst this
  split at he
  ·rename_i ax
   simp only[Option.some.injEq]at he;subst he
   obtain⟨i,d,z,aT,aX,aS,bQ,cp,bK,bH⟩:=bc.info (fh ax (by simp))
   rw[ax]at bH
   have:=AM bH;subst this
   refine Good.same h ?_ rfl (of_bool _)
   rw[eqGuard_at_bool]
   simp[binOp,Op.equal,Op.maxDepth,Ex bK w 9999]
  ·rename_i ax
   simp only[Option.some.injEq]at he;subst he
   obtain⟨i,d,z,aT,aX,aS,bQ,cp,bK,bH⟩:=bc.info (fh ax (by simp))
   rw[ax]at bH
   have:=AM bH;subst this
   refine Good.same h ?_ rfl (of_bool _)
   rw[eqGuard_at_bool]
   simp[binOp,Op.equal,Op.maxDepth,Ex bK w 9999]
  ·cases he
 ·split at he
  ·rename_i aq ax
   split at he
   ·rename_i cM
    simp only[Option.map_eq_some_iff]at he
    obtain⟨r,aH,rfl⟩:=he
    obtain⟨g1,g2⟩:=EC bc ax ai hy cM aH .eql uH uI
    obtain⟨⟨xs,rfl⟩,_⟩:=(aB.b9 rfl).1 ai
    obtain⟨⟨cf,rfl⟩,_⟩:=(aB.b9 rfl).1 hy
    exact Good.same h (by simp[g1,binOp,g2]) rfl (of_bool _)
   ·cases he
  ·rename_i aq ax
   split at he
   ·rename_i cM
    simp only[Option.map_eq_some_iff]at he
    obtain⟨r,aH,rfl⟩:=he
    obtain⟨g1,g2⟩:=EC bc ax ai hy cM aH .neq uH uI
    obtain⟨⟨xs,rfl⟩,_⟩:=(aB.b9 rfl).1 ai
    obtain⟨⟨cf,rfl⟩,_⟩:=(aB.b9 rfl).1 hy
    exact Good.same h (by simp[g1,binOp,g2]) rfl (of_bool _)
   ·cases he
  ·cases he
 ·have:=o_ hy;subst this
  split at he
  ·rename_i e ax
   simp only[Option.map_eq_some_iff]at he
   obtain⟨r,aH,rfl⟩:=he
   obtain⟨i,d,z,aT,aX,aS,bQ,cp,bK,bH⟩:=bc.info (fh ax (by simp))
   rw[ax]at bH
   have:=kJ bH;subst this
   obtain⟨b,ad,ag,aF,a0,bW,c0,rfl⟩:=Ey h ai aH bK
   refine Good.same h (v:=.bool b) ?_ ?_ ?_
   ·rw[eqGuard_at_slice]
    simp[binOp,ad]
   ·cases r<;>rfl
   ·cases r with
    |none=>exact AW b
    |some e8=>have:=ag e8 rfl;subst this;simp only[uE,Bool.bne_false];exact of_bool _
  ·rename_i e ax
   simp only[Option.map_eq_some_iff]at he
   obtain⟨r,aH,rfl⟩:=he
   obtain⟨i,d,z,aT,aX,aS,bQ,cp,bK,bH⟩:=bc.info (fh ax (by simp))
   rw[ax]at bH
   have:=kJ bH;subst this
   obtain⟨b,ad,ag,aF,a0,bW,c0,rfl⟩:=Ey h ai aH bK
   refine Good.same h (v:=.bool !b) ?_ ?_ ?_
   ·rw[eqGuard_at_slice]
    simp[binOp,ad]
   ·cases r<;>rfl
   ·cases r with
    |none=>exact AW _
    |some e8=>have:=ag e8 rfl;subst this;simp only[uE,Bool.bne_true];exact of_bool _
  ·cases he
 ·have:=Es hy;subst this
  split at he
  ·rename_i e ax
   simp only[Option.map_eq_some_iff]at he
   obtain⟨r,aH,rfl⟩:=he
   obtain⟨i,d,z,aT,aX,aS,bQ,cp,bK,bH⟩:=bc.info (fh ax (by simp))
   rw[ax]at bH
   have:=Eh bH;subst this
   obtain⟨ad,a0,rfl⟩:=Ez h ai aH bK
   refine Good.same h (v:=.bool r) ?_ rfl (of_bool _)
   rw[eqGuard_at_pointer]
   simp[binOp,ad]
  ·rename_i e ax
   simp only[Option.map_eq_some_iff]at he
   obtain⟨r,aH,rfl⟩:=he
   obtain⟨i,d,z,aT,aX,aS,bQ,cp,bK,bH⟩:=bc.info (fh ax (by simp))
   rw[ax]at bH
   have:=Eh bH;subst this
   obtain⟨ad,a0,rfl⟩:=Ez h ai aH bK
   refine Good.same h (v:=.bool !r) ?_ rfl (of_bool _)
   rw[eqGuard_at_pointer]
   simp[binOp,ad]
  ·cases he
 ·cases he
end
section
variable {C:bS} {w0 w:World} {F0 X F:Nat→Prop} {S:Nat→Nat→Prop} {s s1:an} {au:Nat→Value} {av:I}
def un (op:UnOp) (x:I):Option I:=
 match op,x with
 | .not,.bool b=>some (.bool !b)
 | .not,.et=>some .et
 | .neg,.int k n=>some (.int k (k.wrap (0-n)))
 |_,_=>none
theorem Ly (h:bw w0 F0 X F S s au w) {op:UnOp} {x:I} {v:Value} (aI:aB w F s au x v (fun _=>False)) (he:un op x=some av):Good C w0 F0 X au w (Op.unary op v) av s:=by
 unfold un at he
 split at he<;>first|(cases he;done)|(simp only[Option.some.injEq]at he;subst he)
 ·have:=pY aI;subst this
  exact Good.same h rfl rfl (of_bool _)
 ·obtain⟨b,rfl⟩:=Et aI
  exact Good.same h rfl rfl (AW _)
 ·have:=l_ aI;subst this
  exact Good.same h rfl rfl (of_int _ _)
def eo (s:an) (x:I):Option I:=
 match x with
 | .ref d=>some (.ref d)
 | .fn f c=>some (.fn f c)
 | .h y q=>match I.sub q (s y)with
   |some (.bM _)=>some (.h y q)
   |_=>none
 |_=>none
theorem Lz {d:I} {v:Value} {aG:Nat→Prop} (h:aB w F s au (.ref d) v aG):∃b o dI,v= .pointer (some ⟨b,o,none⟩)∧F b∧hl w b o dI∧ak w F d dI (fun _=>False):=by
 have bb:=(aB.b9 rfl).1 h
 rw[ak,gp bb.1]at bb
 obtain⟨_,b,o,dI,ad,ag,aF,a8⟩:=bb
 simp at ad;subst ad
 exact⟨b,o,dI,rfl,ag,aF,a8⟩
theorem LA (h:bw w0 F0 X F S s au w) {x:I} {v:Value} (aI:aB w F s au x v (fun _=>False)) (he:eo s x=some av):
  av=x∧x.plain=true∧((∃a,v= .pointer (some a))∨∃f c,v= .func (.func f) #[] c):=by
 unfold eo at he
 split at he
 ·simp only[Option.some.injEq]at he;subst he
  obtain⟨b,o,dI,rfl,_⟩:=Lz aI
  exact⟨rfl,rfl,.inl ⟨_,rfl⟩⟩
 ·simp only[Option.some.injEq]at he;subst he
  rw[aB]at aI
  obtain⟨arr,rfl,_⟩:=aI
  exact⟨rfl,rfl,.inr ⟨_,_,rfl⟩⟩
 ·split at he
  ·rename_i d ah
   simp only[Option.some.injEq]at he;subst he
   obtain⟨b,cur,e,fr,rfl,_⟩:=Eu h aI ah
   exact⟨rfl,rfl,.inl ⟨_,rfl⟩⟩
  ·cases he
 ·cases he
def ex (s:an) (x:I) (k:Nat):Option I:=
 match x with
 | .tuple ds=>match ds[k]? with
   |some d=>if d.plain=true then some d else none
   |none=>none
 | .h y q=>match I.sub q (s y)with
   |some (.tuple ds)=>match ds[k]? with
    |some d=>if I.fK ds=true then none else some (if d.plain then d else .h y (q++[k]))
    |none=>none
   |_=>none
 |_=>none
theorem ED:∀(vs:List Value) (k:Nat) (x:Value) (ds:List I),vs[k]? =some x→vs.length=ds.length→(∀(j:Nat) (d:I) (y:Value),ds[j]? =some d→vs[j]? =some y→(hp y).length=d.wd)→
  ∃l r,vs.flatMap hp=l++(hp x++r)∧l.length=I.dD (ds.take k)
 |[],k,x,ds,h,_,_=>by simp at h
 |v::vs,0,x,ds,h,aO,hw=>by
  simp at h;subst h
  exact⟨[],vs.flatMap hp,by simp,by simp[I.dD]⟩
 |v::vs,k+1,x,d::ds,h,aO,hw=>by
  obtain⟨l,r,aT,aX⟩:=ED vs k x ds (by simpa using h) (by simpa using aO) (fun j d y ad ag=>hw (j+1) d y (by simpa using ad) (by simpa using ag))
  refine⟨hp v++l,r,by simp[aT],?_⟩
  have:=hw 0 d v (by simp) (by simp)
  simp[I.dD,aX,this]
 |v::vs,k+1,x,[],h,aO,hw=>by simp at aO
theorem LB {d:I} {v:Value} (h:hQ d v) (_hd:∀vs,d≠.tuple vs):bU v=hp v:=by
 cases d with
 |agg aq=>obtain⟨arr,rfl⟩:=h;rfl
 |_=>
  have ad:Value.f_ v=true:=h
  cases v<;>first|rfl|(simp[Value.f_]at ad)
theorem LC {d:I} {v:Value} (h:hQ d v) (ah:∀vs,d≠.tuple vs):ck d v:=by
 cases d with
 |tuple vs=>exact(ah _ rfl).elim
 |_=>exact h
theorem LD (h:bw w0 F0 X F S s au w) {x:I} {v:Value} {k:Nat} (aI:aB w F s au x v (fun _=>False)) (he:ex s x k=some av):Good C w0 F0 X au w (Instr.extract v k) av s:=by
 have pick:∀(ds:List I) (d:I) (arr:Array Value),ds[k]? =some d→(arr.size=ds.length∧∀(k:Nat) (d:I) (x:Value),ds[k]? =some d→arr[k]? =some x→hQ d x∧(∀vs,d≠.tuple vs)∧(hp x).length=d.wd)→
   ∃x,arr[k]? =some x∧ck d x∧((bU (.tuple arr)).drop (I.dD (ds.take k))).take d.wd=bU x:=by
  intro ds d arr ah ⟨bG,iE⟩
  have d_:k<arr.size:=by rw[bG];exact(List.getElem?_eq_some_iff.1 ah).1
  have ai:arr[k]? =some arr[k]:=Array.getElem?_eq_getElem d_
  obtain⟨g1,g2,g3⟩:=iE k d _ ah ai
  obtain⟨l,r,aT,aX⟩:=ED arr.toList k arr[k] ds (by simp[d_]) (by simpa using bG) (fun j d y ad ag=>(iE j d y ad (by simpa using ag)).2.2)
  refine⟨_,ai,LC g1 g2,?_⟩
  rw[LB g1 g2]
  simp only[bU]
  rw[aT]
  exact qR l _ r _ _ aX g3
 unfold ex at he
 split at he
 ·rename_i ds
  split at he
  ·rename_i d ah
   split at he
   ·rename_i ao
    simp only[Option.some.injEq]at he;subst he
    have bb:=(aB.b9 rfl).1 aI
    obtain⟨⟨arr,rfl,bG⟩,gg⟩:=bb
    obtain⟨x,ai,aa,aj⟩:=pick ds d arr ah bG
    have aH:(Instr.extract (.tuple arr) k).run C.P w= .ok x w:=by simp[Instr.extract,ai]
    rw[ak]at gg
    obtain⟨b5,fe,c2,bN,ho,e,hd,fg,gM,hP,fz,lB⟩:=aW.pick ds _ _ k d gg ah
    rw[e,qR b5 fe c2 _ _ hd (ak.length _ _ _ fz)]at aj
    by_cases aY:d.tree=true
    ·exact Good.same h aH ao ((aB.b9 aY).2 ⟨aa,by rw[←aj];exact ak.plain _ _ _ _ ao fz⟩)
    ·cases d<;>first|exact(aY rfl).elim|(rw[ak]at fz;exact fz.elim)|exact Good.same h aH rfl (by rw[aB];trivial)|(have bF:=ak.plain _ _ _ (fun _=>False) ao fz;rw[aj,gp (by exact aa)]at bF;exact Good.same h aH rfl (aB.oB _ _ rfl bF))
   ·cases he
  ·cases he
 ·rename_i y q
  split at he
  ·rename_i ds ah
   split at he
   ·rename_i d ax
    split at he
    ·cases he
    ·rename_i gT
     simp only[Option.some.injEq]at he
     have gT:(I.tuple ds).plain=false:=by simpa [I.plain]using gT
     rw[aB]at aI
     obtain⟨cc,a,g1,g2,g3⟩:=aI _ ah gT
     obtain⟨arr,rfl,bG⟩:=g3
     obtain⟨x,ai,aa,aj⟩:=pick ds d arr ax bG
     have aH:(Instr.extract (.tuple arr) k).run C.P w= .ok x w:=by simp[Instr.extract,ai]
     have hy:=h.cN y
     rw[aB.b9 (hq ah (.inl gT))]at hy
     obtain⟨ff,cz,dE,eM,k0,bV,b7,eh,dd,eO⟩:=ctx q (s y) (bU (au y)) (S y) none _ hy.2 ah
     rw[k0]at g1
     simp only[Option.some.injEq,Prod.mk.injEq,true_and]at g1
     obtain⟨rfl,rfl⟩:=g1
     rw[g2]at aj
     split at he
     ·rename_i ao
      subst he
      rw[ak]at dd
      obtain⟨b5,fe,c2,bN,ho,e,hd,fg,gM,hP,fz,lB⟩:=aW.pick ds _ _ k d dd ax
      rw[e,qR b5 fe c2 _ _ hd (ak.length _ _ _ fz)]at aj
      by_cases aY:d.tree=true
      ·exact Good.same h aH ao ((aB.b9 aY).2 ⟨aa,by rw[←aj];exact ak.plain _ _ _ _ ao fz⟩)
      ·cases d<;>first|exact(aY rfl).elim|(rw[ak]at fz;exact fz.elim)|exact Good.same h aH rfl (by rw[aB];trivial)|(have bF:=ak.plain _ _ _ (fun _=>False) ao fz;rw[aj,gp (by exact aa)]at bF;exact Good.same h aH rfl (aB.oB _ _ rfl bF))
     ·subst he
      refine Good.same h aH rfl ?_
      rw[aB]
      intro d2 hf uv
      rw[uy w q _ _ _ _ _ _ [k] k0]
      rw[ux _ _ _ _ ah]at hf
      simp only[I.sub,ax,Option.some.injEq]at hf
      subst hf
      simp only[cL,ax]
      exact⟨_,_,rfl,aj.symm,aa⟩
   ·cases he
  ·cases he
 ·cases he
def lF (C:bS) (s:an) (T:TypeId) (x:I) (k:Nat):Option I:=
 match(C.T T).k with
 | .struct aq=>match aq[k]? with
   |some (je,off)=>match x with
    | .agg ds=>match ds[k]? with
      |some d=>if I.dD (ds.take k)=off∧fits C je d=true∧d.plain=true∧d.tree=true then some d else none
      |none=>none
    | .h y q=>match I.sub q (s y)with
      |some (.agg ds)=>match ds[k]? with
       |some d=>if I.dD (ds.take k)=off∧fits C je d=true∧I.fK ds=false∧d.tree=true then some (if d.plain then d else .h y (q++[k]))else none
       |none=>none
      |_=>none
    |_=>none
   |none=>none
 |_=>none
theorem LF (bc:C.en) (h:bw w0 F0 X F S s au w) {T:TypeId} {x:I} {v:Value} {k:Nat} (aI:aB w F s au x v (fun _=>False)) (he:lF C s T x k=some av):Good C w0 F0 X au w (Instr.field T v k) av s:=by
 have key:∀(aq:List (TypeId×Nat)) (je:TypeId) (off:Nat),(C.T T).k= .struct aq→aq[k]? =some (je,off)→∀(ds:List I) (d:I) (arr:Array Value) (aG:Nat→Prop),ds[k]? =some d→I.dD (ds.take k)=off→fits C je d=true→aW w F ds arr.toList aG→
   ∃x ho,(Instr.field T (.agg arr) k).run C.P w= .ok x w∧ck d x∧ak w F d (bU x) ho∧(arr.toList.drop off).take d.wd=bU x:=by
  intro aq je off ax br ds d arr aG ah oA hE gg
  obtain⟨i,uG,z,aT,aX,aS,bQ,cp,bK,bH⟩:=bc.info (fh ax (by simp))
  rw[ax]at bH
  obtain⟨gs,rfl,gb⟩:=uz bH
  obtain⟨g,g1,rfl,rfl⟩:∃g,gs[k]? =some g∧g.type=je∧g.offset=off:=by
   rw[←gb,List.getElem?_map]at br
   simp only[Option.map_eq_some_iff,Prod.mk.injEq]at br
   obtain⟨g,ad,ag,aF⟩:=br
   exact⟨g,by simpa using ad,ag,aF⟩
  obtain⟨b5,fe,c2,bN,ho,e,hd,fg,gM,hP,fz,lB⟩:=aW.pick ds _ _ k d gg ah
  obtain⟨x,aH,EE,l8⟩:=Lb (w:=w) bc e (hd.trans oA) fz hE
  refine⟨x,ho,?_,l8,by rw[EE];exact fz,?_⟩
  ·simp[Instr.field,run_underlying bK,g1,asAgg,aH]
  ·rw[e,EE,←oA];exact qR b5 fe c2 _ _ hd (ak.length _ _ _ fz)
 have EF:∀(d:I) (x:Value) (ho:Nat→Prop),d.plain=true→ck d x→ak w F d (bU x) ho→aB w F s au d x (fun _=>False):=by
  intro d x ho ao aa gg
  by_cases aY:d.tree=true
  ·exact(aB.b9 aY).2 ⟨aa,ak.plain _ _ _ _ ao gg⟩
  ·cases d<;>first|exact(aY rfl).elim|(rw[ak]at gg;exact gg.elim)|(rw[aB];trivial)|(have bF:=ak.plain _ _ _ (fun _=>False) ao gg;rw[gp (by exact aa)]at bF;exact aB.oB _ _ rfl bF)
 unfold lF at he
 split at he
 ·rename_i aq ax
  split at he
  ·rename_i je off br
   split at he
   ·rename_i ds
    split at he
    ·rename_i d ah
     split at he
     ·rename_i aj
      simp only[Option.some.injEq]at he;subst he
      obtain⟨⟨arr,rfl⟩,gg⟩:=(aB.b9 rfl).1 aI
      rw[ak]at gg
      obtain⟨x,ho,aH,aa,AZ,_⟩:=key aq je off ax br ds d arr _ ah aj.1 aj.2.1 gg
      exact Good.same h aH aj.2.2.1 (EF d x ho aj.2.2.1 aa AZ)
     ·cases he
    ·cases he
   ·rename_i y q
    split at he
    ·rename_i ds ah
     split at he
     ·rename_i d pW
      split at he
      ·rename_i aj
       simp only[Option.some.injEq]at he
       have gT:(I.agg ds).plain=false:=by simpa [I.plain]using aj.2.2.1
       rw[aB]at aI
       obtain⟨cc,a,g1,g2,g3⟩:=aI _ ah gT
       obtain⟨arr,rfl⟩:=g3
       have hy:=h.cN y
       rw[aB.b9 (hq ah (.inl gT))]at hy
       obtain⟨ff,cz,dE,eM,k0,bV,b7,eh,dd,eO⟩:=ctx q (s y) (bU (au y)) (S y) none _ hy.2 ah
       rw[k0]at g1
       simp only[Option.some.injEq,Prod.mk.injEq,true_and]at g1
       obtain⟨rfl,rfl⟩:=g1
       rw[ak,←g2]at dd
       obtain⟨x,ho,aH,aa,AZ,hs⟩:=key aq je off ax br ds d arr _ pW aj.1 aj.2.1 dd
       by_cases ao:d.plain=true
       ·rw[if_pos ao]at he;subst he
        exact Good.same h aH ao (EF d x ho ao aa AZ)
       ·rw[if_neg ao]at he;subst he
        refine Good.same h aH rfl ?_
        rw[aB]
        intro d2 hf uv
        rw[uy w q _ _ _ _ _ _ [k] k0]
        rw[ux _ _ _ _ ah]at hf
        simp only[I.sub,pW,Option.some.injEq]at hf
        subst hf
        simp only[cL,pW]
        refine⟨_,_,rfl,?_,aa⟩
        rw[aj.1,←g2];exact hs.symm
      ·cases he
     ·cases he
    ·cases he
   ·cases he
  ·cases he
 ·cases he
end
section
variable {C:bS} {w0 w:World} {F0 X F:Nat→Prop} {S:Nat→Nat→Prop} {s s1:an} {au:Nat→Value} {av:I}
def idx (C:bS) (T:TypeId) (x i:I):Option I:=
 match(C.T T).k,x,i with
 | .str,.str l,.int _ n=>if 0≤n then(match l[n.toNat]? with|some b=>some (.int .u8 b.toNat)|none=>none)else none
 |_,_,_=>none
theorem LG (l:List UInt8) (n:Nat):(⟨⟨l⟩⟩:ByteArray)[n]? =l[n]? :=by
 by_cases h:n<l.length
 ·have bb:n<(⟨⟨l⟩⟩:ByteArray).size:=h
  rw[List.getElem?_eq_getElem h,getElem?_pos (⟨⟨l⟩⟩:ByteArray) n bb]
  rfl
 ·have bb:¬n<(⟨⟨l⟩⟩:ByteArray).size:=h
  rw[List.getElem?_eq_none (by omega),getElem?_neg (⟨⟨l⟩⟩:ByteArray) n bb]
theorem LH (bc:C.en) (h:bw w0 F0 X F S s au w) {T:TypeId} {x i:I} {v mY:Value} (aI:aB w F s au x v (fun _=>False)) (ay:aB w F s au i mY (fun _=>False)) (he:idx C T x i=some av):
  Good C w0 F0 X au w (Instr.index T v mY) av s:=by
 unfold idx at he
 split at he
 ·rename_i l k n ax
  have:=lE aI;subst this
  have:=l_ ay;subst this
  obtain⟨i,d,z,aT,aX,aS,bQ,cp,bK,bH⟩:=bc.info (fh ax (by simp))
  rw[ax]at bH
  have:=oz bH;subst this
  split at he
  ·rename_i aV
   split at he
   ·rename_i b U
    simp only[Option.some.injEq]at he;subst he
    refine Good.same h ?_ rfl (of_int _ _)
    simp[Instr.index,asIntOf,run_underlying bK,aV,LG,U]
   ·cases he
  ·cases he
 ·cases he
def lenOf (s:an):I→Option Nat
 | .str l=>some l.length
 | .bk=>some 0
 | .slice xs=>some xs.length
 | .h y q=>match I.sub q (s y)with
   |some (.aL _ xs)=>some xs.length
   |_=>none
 |_=>none
def lG (C:bS) (s:an) (T:TypeId) (x:I):Option I:=
 match(C.T T).k,x with
 | .str,.str l=>some (.int .i64 l.length)
 | .slice _,.bk=>some (.int .i64 0)
 | .slice _,.slice xs=>some (.int .i64 xs.length)
 | .slice _,.h y q=>match I.sub q (s y)with
   |some (.aL _ xs)=>some (.int .i64 xs.length)
   |_=>none
 |_,_=>none
theorem xc {xs:List I} {v:Value} {aG:Nat→Prop} (h:aB w F s au (.slice xs) v aG):(xs=[]∧∃a c,v= .slice a 0 c∧c≤maxLen∧(a=none→c=0))∨
  ∃b o cap dI sz,v= .slice (some ⟨b,o,none⟩) xs.length cap∧F b∧xs.length≤cap∧cap≤maxLen∧(∀d∈xs,d.wd=sz)∧hl w b o dI∧aW w F xs dI (fun _=>False):=by
 have bb:=(aB.b9 rfl).1 h
 rw[ak,gp bb.1]at bb
 obtain⟨_,⟨rfl,a,c,ag,aF⟩|⟨b,o,cap,dI,sz,ag,aF⟩⟩:=bb
 ·simp at ag;exact .inl ⟨rfl,a,c,ag,aF⟩
 ·simp at ag;exact .inr ⟨b,o,cap,dI,sz,ag,aF⟩
theorem LI (bc:C.en) (h:bw w0 F0 X F S s au w) {T ty:TypeId} {x:I} {v:Value} (aI:aB w F s au x v (fun _=>False)) (he:lG C s T x=some av):
  Good C w0 F0 X au w (Builtin.len_ #[T] ty #[v]) av s:=by
 unfold lG at he
 split at he
 ·rename_i l ax
  have:=lE aI;subst this
  obtain⟨i,d,z,aT,aX,aS,bQ,cp,bK,bH⟩:=bc.info (fh ax (by simp))
  rw[ax]at bH
  have:=oz bH;subst this
  simp only[Option.some.injEq]at he;subst he
  refine Good.same h ?_ rfl (of_int _ _)
  simp[Builtin.len_,run_underlying bK,goInt]
  rfl
 ·rename_i e ax
  have:=o_ aI;subst this
  obtain⟨i,d,z,aT,aX,aS,bQ,cp,bK,bH⟩:=bc.info (fh ax (by simp))
  rw[ax]at bH
  have:=kJ bH;subst this
  simp only[Option.some.injEq]at he;subst he
  refine Good.same h ?_ rfl (of_int _ _)
  simp[Builtin.len_,run_underlying bK,goInt]
 ·rename_i e xs ax
  obtain⟨i,d,z,aT,aX,aS,bQ,cp,bK,bH⟩:=bc.info (fh ax (by simp))
  rw[ax]at bH
  have:=kJ bH;subst this
  simp only[Option.some.injEq]at he;subst he
  refine Good.same h ?_ rfl (of_int _ _)
  rcases xc aI with⟨rfl,a,c,rfl,_⟩|⟨b,o,cap,dI,sz,rfl,_⟩<;>simp[Builtin.len_,run_underlying bK,goInt]
 ·rename_i e y q ax
  split at he
  ·rename_i sz xs ah
   obtain⟨i,d,z,aT,aX,aS,bQ,cp,bK,bH⟩:=bc.info (fh ax (by simp))
   rw[ax]at bH
   have:=kJ bH;subst this
   simp only[Option.some.injEq]at he;subst he
   refine Good.same h ?_ rfl (of_int _ _)
   rcases AX h aI ah with⟨rfl,_,rfl⟩|⟨b,cap,cur,aX,fr,rfl,_⟩<;>simp[Builtin.len_,run_underlying bK,goInt]
  ·cases he
 ·cases he
def bytesOf:List I→Option (List UInt8)
 |[]=>some []
 | .int .u8 n::r=>if 0≤n∧n<256 then(bytesOf r).map (UInt8.ofNat n.toNat::·)else none
 |_=>none
def na (b:UInt8):I:=.int .u8 b.toNat
theorem A0:∀(xs:List I) (l:List UInt8) (cs:List Value) (aG:Nat→Prop),bytesOf xs=some l→aW w F xs cs aG→cs=l.map (fun b=>.int .u8 (b.toNat:Int))∧xs.length=l.length
 |[],l,cs,aG,h,aH=>by simp[bytesOf]at h;subst h;rw[aW]at aH;subst aH;exact⟨rfl,rfl⟩
 |x::xs,l,cs,aG,h,aH=>by
  unfold bytesOf at h
  split at h
  ·rename_i e;cases e
  ·rename_i n r e
   simp only[List.cons.injEq]at e
   obtain⟨rfl,rfl⟩:=e
   split at h
   ·rename_i aV
    simp only[Option.map_eq_some_iff]at h
    obtain⟨dW,ad,rfl⟩:=h
    rw[aW]at aH
    obtain⟨b5,c2,bN,dc,rfl,ag,aF,_⟩:=aH
    obtain⟨rfl,a8⟩:=A0 xs dW c2 dc ad aF
    rw[ak]at ag;subst ag
    refine⟨?_,by simp[a8]⟩
    simp only[List.map_cons,List.cons_append,List.nil_append,List.cons.injEq,and_true,Value.int.injEq,true_and]
    simp only[UInt8.toNat_ofNat']
    omega
   ·cases h
  ·cases h
theorem bw.uK (h:bw w0 F0 X F S s au w) {aA:World} {sz cap:Nat} {xs:List I} {cur:Array Value} {e:TypeId} {fr:Nat×Nat} {Sn:Nat→Prop}
  (hw:aA.heap=w.heap.push (.cells cur e fr)) (ad:aA.os=w.os) (ag:aA.tape=w.tape) (aF:Out aA w)
  (br:pS fr cur.size) (hle:xs.length≤cap) (hm:cap≤maxLen) (dJ:cur.size=cap*sz) (j9:∀d∈xs,d.wd=sz) (aI:aW w F xs (cur.toList.take (xs.length*sz)) Sn)
  (d_:∀b,Sn b→b<w.heap.size) (bl:∀b,Sn b→¬F b) (bI:∀u b,Sn b→¬S u b) (bm:∀b,Sn b→X b∨w0.heap.size≤b):
  bw w0 F0 X F S s au aA∧kI w0 X F S s au aA (.aL sz xs) (.slice (some ⟨w.heap.size,0,none⟩) xs.length cap):=by
 have hold:∀b,b<w.heap.size→aA.heap[b]? =w.heap[b]? :=by
  intro b U
  rw[hw,Array.getElem?_push,if_neg (by omega)]
 have alH:aA.heap.size=w.heap.size+1:=by rw[hw];simp
 refine⟨h.grow hold (by omega) ad ag aF,.inr ⟨rfl,rfl,fun b=>b=w.heap.size∨Sn b,?_,?_,?_,?_,?_⟩⟩
 ·simp only[bU,hp]
  rw[ak]
  refine .inr ⟨w.heap.size,cap,cur,e,fr,Sn,rfl,.inl rfl,?_,br,hle,hm,dJ,j9,?_,fun c aj=>.inr aj,fun aj=>Nat.lt_irrefl _ (d_ _ aj)⟩
  ·rw[hw];simp
  ·exact aW.frame (fun b U=>hold b (h.eT b U)) _ _ _ (fun b U=>hold b (d_ b U)) aI
 ·rintro b (rfl|U)
  ·omega
  ·have:=d_ b U;omega
 ·rintro b (rfl|U) o9
  ·exact Nat.lt_irrefl _ (h.eT _ o9)
  ·exact bl b U o9
 ·rintro u b (rfl|U) hu
  ·exact Nat.lt_irrefl _ (h.eg _ _ hu)
  ·exact bI u b U hu
 ·rintro b (rfl|U)
  ·exact .inr h.size
  ·exact bm b U
def gr (C:bS) (s:an) (A B:TypeId) (x:I):Option I:=
 if(C.T A).ok=true then
 match(C.T B).k,x with
 | .int k,.int _ n=>some (.int k (k.wrap n))
 | .str,.str l=>match(C.T A).k with
   | .str=>some (.str l)
   |_=>none
 | .str,x=>match(C.T A).k with
   | .slice e=>match(C.T e).k with
     | .int .u8=>match x with
       | .bk=>some (.str [])
       | .slice xs=>(bytesOf xs).map .str
       | .h y q=>match I.sub q (s y)with
         |some (.aL 1 xs)=>(bytesOf xs).map .str
         |_=>none
       |_=>none
     |_=>none
   |_=>none
 | .slice e,.str l=>match(C.T A).k,(C.T e).k with
   | .str,.int .u8=>if l.length≤9223372036854775807 then some (.aL 1 (l.map na))else none
   |_,_=>none
 |_,_=>none
 else none
theorem EG (l:List UInt8) (aG:Nat→Prop):aW w F (l.map na) (l.map fun b=>.int .u8 (b.toNat:Int)) aG:=by
 induction l generalizing aG with
 |nil=>simp only[List.map_nil];rw[aW]
 |cons b l ih=>
  simp only[List.map_cons]
  rw[aW]
  exact⟨[.int .u8 (b.toNat:Int)],_,fun _=>False,fun _=>False,rfl,by rw[na,ak],ih _,fun _ h=>h.elim,fun _ h=>h.elim,fun _ h=>h.elim⟩
theorem LJ (bc:C.en) (h:bw w0 F0 X F S s au w) {A B:TypeId} {x:I} {v:Value} (aI:aB w F s au x v (fun _=>False)) (he:gr C s A B x=some av):
  Good C w0 F0 X au w (convert A B v) av s:=by
 unfold gr at he
 split at he
 ·rename_i jS
  obtain⟨dO,alI,alJ,ab,a2,a3,a4,a5,oC,oD⟩:=bc.info jS
  split at he
  ·rename_i k dj n ax
   have:=l_ aI;subst this
   obtain⟨i,d,z,aT,aX,aS,bQ,cp,bK,bH⟩:=bc.info (fh ax (by simp))
   rw[ax]at bH
   have:=uA bH;subst this
   simp only[Option.some.injEq]at he;subst he
   refine Good.same h ?_ rfl (of_int _ _)
   simp[convert,run_underlying oC,run_underlying bK,Conv.intToInt]
  ·rename_i l ax
   have:=lE aI;subst this
   obtain⟨i,d,z,aT,aX,aS,bQ,cp,bK,bH⟩:=bc.info (fh ax (by simp))
   rw[ax]at bH
   have:=oz bH;subst this
   split at he
   ·rename_i uL
    rw[uL]at oD
    have:=oz oD;subst this
    simp only[Option.some.injEq]at he;subst he
    refine Good.same h ?_ rfl (nV _)
    simp[convert,run_underlying oC,run_underlying bK]
   ·cases he
  ·rename_i x ax _
   obtain⟨i,d,z,aT,aX,aS,bQ,cp,bK,bH⟩:=bc.info (fh ax (by simp))
   rw[ax]at bH
   have:=oz bH;subst this
   split at he
   ·rename_i e uL
    rw[uL]at oD
    have:=kJ oD;subst this
    split at he
    ·rename_i uM
     obtain⟨o6,bf,o7,f1,f2,f3,f4,f5,f6,f7⟩:=bc.info (fh uM (by simp))
     rw[uM]at f7
     have:=uA f7;subst this
     have fin:∀(l:List UInt8) (b o cap:Nat),hl w b o (l.map fun b=>.int .u8 (b.toNat:Int))→(convert A B (.slice (some ⟨b,o,none⟩) l.length cap)).run C.P w= .ok (.string ⟨⟨l⟩⟩) w:=by
      intro l b o cap jo
      refine run_convert_bytes_back w A B e ⟨b,o,none⟩ cap l oC f6 bK (fun j b6=> ?_)
      rw[Addr.add_lit]
      exact jo j _ (by simp[b6])
     have nil:(convert A B (.slice none 0 0)).run C.P w= .ok (.string ⟨⟨[]⟩⟩) w:=by
      simp[convert,run_underlying oC,run_underlying bK,run_underlying f6,Conv.bytesToString]
      rfl
     split at he
     ·have:=o_ aI;subst this
      simp only[Option.some.injEq]at he;subst he
      exact Good.same h nil rfl (nV _)
     ·rename_i xs _
      simp only[Option.map_eq_some_iff]at he
      obtain⟨l,aO,rfl⟩:=he
      rcases xc aI with⟨rfl,a,c,rfl,_,q4⟩|⟨b,o,cap,dI,sz,rfl,ad,ag,aF,a8,bF,cn⟩
      ·simp[bytesOf]at aO;subst aO
       cases a with
       |none=>
        have:=q4 rfl;subst this
        exact Good.same h nil rfl (nV _)
       |some a=>
        refine Good.same h ?_ rfl (nV _)
        exact run_convert_bytes_back w A B e a c [] oC f6 bK (fun j b6=>by simp at b6)
      ·obtain⟨rfl,cD⟩:=A0 xs l dI _ aO cn
       rw[cD]
       exact Good.same h (fin l b o cap bF) rfl (nV _)
     ·rename_i y q
      split at he
      ·rename_i xs ah
       simp only[Option.map_eq_some_iff]at he
       obtain⟨l,aO,rfl⟩:=he
       rcases AX h aI ah with⟨rfl,a,rfl⟩|⟨b,cap,cur,aX,fr,rfl,ad,ag,aF,a8,bF,cn,aG,cD,_⟩
       ·simp[bytesOf]at aO;subst aO
        cases a with
        |none=>exact Good.same h nil rfl (nV _)
        |some a=>
         refine Good.same h ?_ rfl (nV _)
         exact run_convert_bytes_back w A B e a 0 [] oC f6 bK (fun j b6=>by simp at b6)
       ·obtain⟨eu,gK⟩:=A0 xs l _ _ aO cD
        rw[gK]
        refine Good.same h (fin l b 0 cap ?_) rfl (nV _)
        rw[←eu]
        exact sf ad _
      ·cases he
     ·cases he
    ·cases he
   ·cases he
  ·rename_i e l ax
   have:=lE aI;subst this
   obtain⟨i,d,z,aT,aX,aS,bQ,cp,bK,bH⟩:=bc.info (fh ax (by simp))
   rw[ax]at bH
   have:=kJ bH;subst this
   split at he
   ·rename_i uL uM
    rw[uL]at oD
    have:=oz oD;subst this
    obtain⟨o6,bf,o7,f1,f2,f3,f4,f5,f6,f7⟩:=bc.info (fh uM (by simp))
    rw[uM]at f7
    have:=uA f7;subst this
    split at he
    ·rename_i aO
     simp only[Option.some.injEq]at he;subst he
     have aa:(⟨⟨l⟩⟩:ByteArray).size=l.length:=rfl
     have uN:=grownCap_ge w l.length 0 e
     have LK:=grownCap_le_maxLen w l.length 0 e (by unfold maxLen;omega)
     have EH:(bytesRow ⟨⟨l⟩⟩ (grownCap w l.length 0 e)).toList=l.map (fun b=>Value.int .u8 (b.toNat:Int))++List.replicate (grownCap w l.length 0 e-l.length) (.int .u8 0):=by
      simp[bytesRow,aa]
     have dJ:(bytesRow ⟨⟨l⟩⟩ (grownCap w l.length 0 e)).size=grownCap w l.length 0 e*1:=by
      have:(bytesRow ⟨⟨l⟩⟩ (grownCap w l.length 0 e)).size=(bytesRow ⟨⟨l⟩⟩ (grownCap w l.length 0 e)).toList.length:=by simp
      rw[this,EH];simp;omega
     have q2:=run_bytes_of_string w A B e ⟨⟨l⟩⟩ oC bK f6
     rw[aa]at q2
     have kr:=h.uK (aA:=w.drew.alloc (.cells (bytesRow ⟨⟨l⟩⟩ (grownCap w l.length 0 e)) e ((bytesRow ⟨⟨l⟩⟩ (grownCap w l.length 0 e)).size,(bytesRow ⟨⟨l⟩⟩ (grownCap w l.length 0 e)).size+1)))
      (sz:=1) (cap:=grownCap w l.length 0 e) (xs:=l.map na) (cur:=bytesRow ⟨⟨l⟩⟩ (grownCap w l.length 0 e)) (e:=e) (Sn:=fun _=>False) rfl rfl rfl ⟨rfl,fun _=>Nat.le_succ _⟩
      (fun o cd ⟨ad,_⟩=>by simp only at ad;omega) (by simpa using uN) LK dJ (by intro d ah;obtain⟨b,_,rfl⟩:=List.mem_map.1 ah;rfl)
      (by rw[EH,List.take_left' (by simp)];exact EG l _) (fun _ h=>h.elim) (fun _ h=>h.elim) (fun _ _ h=>h.elim) (fun _ h=>h.elim)
     simp only[List.length_map]at kr
     exact⟨_,_,F,S,q2,kr.1,kr.2⟩
    ·cases he
   ·cases he
  ·cases he
 ·cases he
end
section
variable {C:bS} {w0 w:World} {F0 X F:Nat→Prop} {S:Nat→Nat→Prop} {s s1:an} {au:Nat→Value} {av:I}
def hC (d:Nat):Option I→Option Nat
 |none=>some d
 |some (.int _ n)=>if 0≤n then some n.toNat else none
 |some _=>none
def dh (C:bS) (s:an) (T:TypeId) (x:I) (cJ ay:Option I):Option (I×an):=
 match(C.T T).k,x with
 | .str,.str l=>match hC 0 cJ,hC l.length ay with
   |some a,some b=>if a≤b∧b≤l.length then some (.str ((l.take b).drop a),s)else none
   |_,_=>none
 | .slice e,.bk=>match hC 0 cJ,hC 0 ay with
   |some 0,some 0=>if(C.T e).ok=true then some (.bk,s)else none
   |_,_=>none
 | .slice e,.slice xs=>match hC 0 cJ,hC xs.length ay with
   |some a,some b=>if a≤b∧b≤xs.length∧(C.T e).ok=true∧(∀d∈xs,d.wd=(C.T e).sz)then some (.slice ((xs.take b).drop a),s)else none
   |_,_=>none
 | .slice e,.h y q=>match I.sub q (s y)with
   |some (.aL sz xs)=>match hC 0 cJ,hC xs.length ay with
    |some 0,some b=>if b≤xs.length∧(C.T e).ok=true then(match ch s (.h y q)with|some (_,s1)=>some (.aL sz (xs.take b),s1)|none=>none)else none
    |_,_=>none
   |_=>none
 |_,_=>none
def pa (w:World) (F:Nat→Prop) (s:an) (au:Nat→Value):Option I→Option Value→Prop
 |none,none=>True
 |some d,some v=>aB w F s au d v (fun _=>False)
 |_,_=>False
theorem EI {d:Nat} {o:Option I} {v:Option Value} (cd:pa w F s au o v) {a:Nat} (h:hC d o=some a):(o=none∧v=none∧a=d)∨∃k,v=some (.int k a):=by
 cases o with
 |none=>
  cases v with
  |none=>simp[hC]at h;exact .inl ⟨rfl,rfl,h.symm⟩
  |some v=>simp[pa]at cd
 |some x=>
  cases v with
  |none=>simp[pa]at cd
  |some v=>
   simp only[pa]at cd
   cases x with
   |int k n=>
    have:=l_ cd;subst this
    simp only[hC]at h
    split at h
    ·rename_i aV
     simp only[Option.some.injEq]at h;subst h
     obtain⟨m,rfl⟩:=Int.eq_ofNat_of_zero_le aV
     exact .inr ⟨k,rfl⟩
    ·cases h
   |_=>simp[hC]at h
theorem sn {P:Program} {isS:Bool} {len cap a b:Nat} {cJ ay:Option I} {q6 q7:Option Value} (nb:pa w F s au cJ q6) (nc:pa w F s au ay q7) (cb:hC 0 cJ=some a) (U:hC len ay=some b) (lA:a≤b) (LL:b≤cap) (_hlc:len≤cap):
  (Instr.sliceBounds isS len cap q6 q7 none).run P w= .ok (a,b,cap) w:=by
 rcases EI nb cb with⟨_,rfl,rfl⟩|⟨k,rfl⟩<;>rcases EI nc U with⟨_,rfl,rfl⟩|⟨dj,rfl⟩<;>
  simp[Instr.sliceBounds,Instr.sliceBound,asIntOf,lA,LL]
theorem so (bc:C.en) {T:TypeId} (ax:(C.T T).flat=true) (v:Value) (cJ ay el:Option Value) (w:World):(Instr.sliceAt T v cJ ay el).run C.P w=(Instr.slice T v cJ ay el).run C.P w:=by
 obtain⟨i,d,z,aT,aX,aS,bQ,cp,bK,bH⟩:=bc.info (Ek ax)
 have dr:∀n e,d≠.array n e:=by
  clear bK
  unfold fS.flat at ax
  generalize (C.T T).k=kL at*
  cases kL<;>cases d<;>simp[kH]at bH ax⊢
 cases d<;>first|exact(dr _ _ rfl).elim|simp[Instr.sliceAt,run_underlying bK]
theorem sq {x:fS} {k:mE} (h:x.k=k) (ax:k≠.other) (aa:∀aq,k≠.struct aq) (U:∀e,k≠.fE e:=by simp):x.flat=true:=by
 unfold fS.flat;rw[h];cases k<;>first|rfl|exact(ax rfl).elim|exact(U _ rfl).elim|exact(aa _ rfl).elim
theorem aW.split:∀(n:Nat) (xs:List I) (cs:List Value) (aG:Nat→Prop),aW w F xs cs aG→∃b5 c2 bN dc,cs=b5++c2∧aW w F (xs.take n) b5 bN∧aW w F (xs.drop n) c2 dc∧(∀b,bN b→aG b)∧(∀b,dc b→aG b)∧(∀b,bN b→¬dc b)
 |0,xs,cs,aG,h=>⟨[],cs,fun _=>False,aG,rfl,by rw[List.take_zero,aW],h,fun _ h=>h.elim,fun _ h=>h,fun _ h=>h.elim⟩
 |n+1,[],cs,aG,h=>by rw[aW]at h;subst h;exact⟨[],[],fun _=>False,fun _=>False,rfl,by rw[List.take_nil,aW],by rw[List.drop_nil,aW],fun _ h=>h.elim,fun _ h=>h.elim,fun _ h=>h.elim⟩
 |n+1,x::xs,cs,aG,h=>by
  rw[aW]at h
  obtain⟨b5,c2,hc,gm,rfl,ad,ag,aF,a8,bF⟩:=h
  obtain⟨d1,d2,bN,dc,rfl,g1,g2,g3,g4,g5⟩:=aW.split n xs c2 gm ag
  refine⟨b5++d1,d2,fun b=>hc b∨bN b,dc,by simp,?_,g2,?_,fun b U=>a8 _ (g4 _ U),?_⟩
  ·rw[List.take_succ_cons,aW]
   exact⟨b5,d1,hc,bN,rfl,ad,g1,fun _ h=>.inl h,fun _ h=>.inr h,fun b U aj=>bF b U (g3 b aj)⟩
  ·rintro b (U|U)
   ·exact aF b U
   ·exact a8 b (g3 b U)
  ·rintro b (U|U) aj
   ·exact bF b U (g4 b aj)
   ·exact g5 b U aj
theorem LM (bc:C.en) (h:bw w0 F0 X F S s au w) {T:TypeId} {x:I} {v:Value} {cJ ay:Option I} {q6 q7:Option Value} (ai:x.plain=true) (aI:aB w F s au x v (fun _=>False)) (nb:pa w F s au cJ q6) (nc:pa w F s au ay q7)
  (he:dh C s T x cJ ay=some (av,s1)):Good C w0 F0 X au w (Instr.sliceAt T v q6 q7 none) av s1:=by
 unfold dh at he
 split at he
 ·rename_i l ax
  have:=lE aI;subst this
  obtain⟨i,d,z,aT,aX,aS,bQ,cp,bK,bH⟩:=bc.info (fh ax (by simp))
  rw[ax]at bH
  have:=oz bH;subst this
  split at he
  ·rename_i a b cb U
   split at he
   ·rename_i lA
    simp only[Option.some.injEq,Prod.mk.injEq]at he
    obtain⟨rfl,rfl⟩:=he
    refine Good.same h ?_ rfl (nV _)
    rw[so bc (sq ax (by simp) (by simp))]
    have dJ:(⟨⟨l⟩⟩:ByteArray).size=l.length:=rfl
    have nd:=sn (P:=C.P) (isS:=false) (len:=l.length) (cap:=l.length) nb nc cb U lA.1 lA.2 (Nat.le_refl _)
    have LN:(⟨⟨l⟩⟩:ByteArray).extract a b=⟨⟨(l.take b).drop a⟩⟩:=by
     apply ByteArray.ext
     simp[ByteArray.data_extract,List.drop_take]
    simp[Instr.slice,run_underlying bK,dJ,nd,LN]
   ·cases he
  ·cases he
 ·rename_i e ax
  have:=o_ aI;subst this
  obtain⟨i,d,z,aT,aX,aS,bQ,cp,bK,bH⟩:=bc.info (fh ax (by simp))
  rw[ax]at bH
  have:=kJ bH;subst this
  split at he
  ·rename_i cb U
   split at he
   ·rename_i nW
    obtain⟨o6,bf,o7,f1,f2,f3,f4,f5,f6,f7⟩:=bc.info nW
    simp only[Option.some.injEq,Prod.mk.injEq]at he
    obtain⟨rfl,rfl⟩:=he
    have nd:=sn (P:=C.P) (isS:=true) (len:=0) (cap:=0) nb nc cb U (Nat.le_refl _) (Nat.le_refl _) (Nat.le_refl _)
    refine Good.same h (v:=.slice none 0 0) ?_ rfl aI
    rw[so bc (sq ax (by simp) (by simp))]
    simp[Instr.slice,run_underlying bK,nd,jR f1,f2]
   ·cases he
  ·cases he
 ·rename_i e xs ax
  obtain⟨i,d,z,aT,aX,aS,bQ,cp,bK,bH⟩:=bc.info (fh ax (by simp))
  rw[ax]at bH
  have:=kJ bH;subst this
  split at he
  ·rename_i a b cb U
   split at he
   ·rename_i lA
    obtain⟨LO,EJ,nW,j9⟩:=lA
    obtain⟨o6,bf,o7,f1,f2,f3,f4,f5,f6,f7⟩:=bc.info nW
    simp only[Option.some.injEq,Prod.mk.injEq]at he
    obtain⟨rfl,rfl⟩:=he
    rcases xc aI with⟨rfl,sr,c,rfl,uO,q4⟩|⟨js,o,cap,dI,sz,rfl,ad,ag,aF,a8,bF,cn⟩
    ·have hv:b=0:=by simpa using EJ
     subst hv
     have LP:a=0:=by omega
     subst LP
     have nd:=sn (P:=C.P) (isS:=true) (len:=0) (cap:=c) nb nc cb U (Nat.le_refl _) (Nat.zero_le _) (Nat.zero_le _)
     refine Good.same h (v:=.slice sr 0 c) ?_ rfl ((aB.b9 rfl).2 ⟨rfl,by rw[ak];exact .inl ⟨rfl,sr,c,rfl,uO,q4⟩⟩)
     rw[so bc (sq ax (by simp) (by simp))]
     cases sr with
     |none=>
      have:=q4 rfl;subst this
      simp[Instr.slice,run_underlying bK,nd,jR f1,f2]
     |some sr=>simp[Instr.slice,run_underlying bK,nd,jR f1,f2,Addr.add]
    ·have nd:=sn (P:=C.P) (isS:=true) (len:=xs.length) (cap:=cap) nb nc cb U LO (Nat.le_trans EJ ag) ag
     obtain⟨b5,c2,bN,dc,rfl,g1,g2,g3,g4,g5⟩:=aW.split b xs dI _ cn
     obtain⟨d1,d2,alK,EK,rfl,bV,b7,eh,dd,eO⟩:=aW.split a (xs.take b) b5 _ g1
     have A1:d1.length=a*(C.T e).sz:=by
      rw[aW.length _ _ _ bV,qT _ (fun d ah=>j9 d (List.mem_of_mem_take (List.mem_of_mem_take ah))),List.length_take,List.length_take]
      congr 1;omega
     have hlen:((xs.take b).drop a).length=b-a:=by simp;omega
     have jo:hl w js (o+a*(C.T e).sz) d2:=by
      rw[←A1]
      have:hl w js o (d1++(d2++c2)):=by simpa using bF
      exact this.AO
     have xd:aW w F ((xs.take b).drop a) d2 (fun _=>False):=aW.mono (fun _ h=>h) _ _ _ _ (fun b U=>(g3 _ (dd _ U)).elim) b7
     have mem:∀d∈(xs.take b).drop a,d.wd=sz:=fun d ah=>a8 d (List.mem_of_mem_take (List.mem_of_mem_drop ah))
     have run:(Instr.sliceAt T (.slice (some ⟨js,o,none⟩) xs.length cap) q6 q7 none).run C.P w= .ok (.slice (if cap=a then some ⟨js,o,none⟩else some ⟨js,o+a*(C.T e).sz,none⟩) (b-a) (cap-a)) w:=by
      rw[so bc (sq ax (by simp) (by simp))]
      simp[Instr.slice,run_underlying bK,nd,jR f1,f2,Addr.add_lit]
     refine⟨_,w,F,S,run,h,.inl ⟨rfl,(aB.b9 rfl).2 ⟨rfl,?_⟩⟩⟩
     simp only[bU,hp]
     rw[ak]
     by_cases EL:cap=a
     ·have LQ:b=a:=by omega
      subst LQ
      have uP:(xs.take b).drop b=[]:=by simp
      rw[if_pos EL]
      rw[uP]at xd⊢
      rw[aW]at xd
      subst xd
      exact .inr ⟨js,o,cap-b,[],sz,by simp,ad,Nat.zero_le _,by omega,by simp,fun j c b6=>by simp at b6,by rw[aW]⟩
     ·rw[if_neg EL]
      exact .inr ⟨js,_,cap-a,d2,sz,by rw[hlen],ad,by rw[hlen];omega,by omega,mem,jo,xd⟩
   ·cases he
  ·cases he
 ·rename_i e y q ax
  split at he
  ·rename_i sz xs ah
   split at he
   ·rename_i b cb U
    split at he
    ·rename_i xe
     split at he
     ·rename_i uG s2 aY
      simp only[Option.some.injEq,Prod.mk.injEq]at he
      obtain⟨rfl,rfl⟩:=he
      obtain⟨i,d,z,aT,aX,aS,bQ,cp,bK,bH⟩:=bc.info (fh ax (by simp))
      rw[ax]at bH
      have:=kJ bH;subst this
      obtain⟨o6,bf,o7,f1,f2,f3,f4,f5,f6,f7⟩:=bc.info xe.2
      have q5:uG= .aL sz xs:=by
       simp only[ch,ah,I.plain]at aY
       simp at aY
       exact aY.1.symm
      subst q5
      obtain⟨bN,g0,g1,g2,Sn,g3,g4,g5,g6,g7,g8⟩:=nR h rfl aI aY
      rw[gp g2,ak]at g3
      rcases g3 with⟨rfl,a0,kQ⟩|⟨js,cap,cur,gf,fr,aG,kQ,bV,b7,eh,dd,eO,ey,h9,gh,lH,mH⟩
      ·simp at kQ;subst kQ
       have hv:b=0:=by simpa using xe.1
       subst hv
       have nd:=sn (P:=C.P) (isS:=true) (len:=0) (cap:=0) nb nc cb U (Nat.le_refl _) (Nat.le_refl _) (Nat.le_refl _)
       refine⟨.slice a0 0 0,w,F,bN,?_,g0,.inr ⟨rfl,rfl,fun _=>False,by simp only[bU,hp];rw[ak];exact .inl ⟨rfl,_,rfl⟩,fun _ h=>h.elim,fun _ h=>h.elim,fun _ _ h=>h.elim,fun _ h=>h.elim⟩⟩
       rw[so bc (sq ax (by simp) (by simp))]
       cases a0<;>simp[Instr.slice,run_underlying bK,nd,jR f1,f2]
      ·simp at kQ;subst kQ
       have nd:=sn (P:=C.P) (isS:=true) (len:=xs.length) (cap:=cap) nb nc cb U (Nat.zero_le _) (Nat.le_trans xe.1 dd) dd
       have hlen:(xs.take b).length=b:=by simp;omega
       have run:(Instr.sliceAt T (.slice (some ⟨js,0,none⟩) xs.length cap) q6 q7 none).run C.P w= .ok (.slice (some ⟨js,0,none⟩) b cap) w:=by
        rw[so bc (sq ax (by simp) (by simp))]
        simp[Instr.slice,run_underlying bK,nd,jR f1,f2,Addr.add_lit]
       refine⟨_,w,F,bN,run,g0,.inr ⟨rfl,rfl,Sn,?_,g4,g5,g6,g7⟩⟩
       simp only[bU,hp]
       rw[ak]
       obtain⟨b5,c2,hc,gm,aj,m1,m2,m3,m4,m5⟩:=aW.split b xs _ _ gh
       refine .inr ⟨js,cap,cur,gf,fr,aG,by rw[hlen],bV,b7,eh,by omega,eO,ey,fun d ah=>h9 d (List.mem_of_mem_take ah),?_,lH,mH⟩
       have A1:b5.length=b*sz:=by
        rw[aW.length _ _ _ m1,qT _ (fun d ah=>h9 d (List.mem_of_mem_take ah)),hlen]
       have:cur.toList.take ((xs.take b).length*sz)=b5:=by
        rw[hlen]
        have ag:b*sz≤xs.length*sz:=Nat.mul_le_mul_right _ xe.1
        have:(cur.toList.take (xs.length*sz)).take (b*sz)=b5:=by rw[aj,List.take_left' A1]
        rwa [List.take_take,Nat.min_eq_left ag]at this
       rw[this]
       exact aW.mono (fun _ h=>h) _ _ _ _ m3 m1
     ·cases he
    ·cases he
   ·cases he
  ·cases he
 ·cases he
end
section
variable {C:bS} {w0 w:World} {F0 X F:Nat→Prop} {S:Nat→Nat→Prop} {s s1:an} {au:Nat→Value} {av:I}
def Src (P:Program) (w:World) (size:Nat) (x:Value) (m:Nat) (news:List Value):Prop:=
 ∀aA:World,aA.heap=w.heap→(Builtin.lenOf x).run P aA= .ok m aA∧(Builtin.firstCells size m x).run P aA= .ok news.toArray aA
def A2 (d:TypeDesc):Prop:=(∃e,d= .slice e)∨d= .string
theorem LR {P:Program} {T bz ty e:TypeId} {pb:TypeDesc} {i:TypeInfo} (aY:P.underlying T=some (.slice e)) (hu:P.underlying bz=some pb) (q8:A2 pb) (ay:P.info? e=some i)
  {x:Value} {m:Nat} {news:List Value} (xf:Src P w i.size x m news) {b n cap:Nat} {cur:Array Value} {gf:TypeId} {fr:Nat×Nat} {l mid r:List Value} (U:w.heap[b]? =some (.cells cur gf fr)) (br:pS fr cur.size)
  (aj:cur.toList=l++(mid++r)) (aO:l.length=n*i.size) (hm:mid.length=news.length) (w_:∀v∈news,Value.f_ v=true) (oE:n+m≤cap):
  ∃aA,(Builtin.append_ #[T,bz] ty #[.slice (some ⟨b,0,none⟩) n cap,x]).run P w= .ok (.slice (some ⟨b,0,none⟩) (n+m) cap) aA∧aA.heap[b]? =some (.cells (l++(news++r)).toArray gf fr)∧
   (∀c,c≠b→aA.heap[c]? =w.heap[c]?)∧aA.heap.size=w.heap.size∧aA.os=w.os∧aA.tape=w.tape∧Out aA w:=by
 obtain⟨aA,m1,m2⟩:=AU (P:=P) (b:=b) (o:=n*i.size) (e:=gf) (fr:=fr) news 0 cur w l mid r U br aj (by omega) hm w_
 refine⟨aA,?_,m2⟩
 obtain⟨ad,ag⟩:=xf w rfl
 rcases q8 with⟨fQ,rfl⟩|rfl<;>simp[Builtin.append_,run_underlying aY,run_underlying hu,jR ay,ad,ag,oE,Addr.add_lit,m1]
theorem LS {P:Program} {T bz ty e:TypeId} {pb:TypeDesc} {i:TypeInfo} {z:Value} (aY:P.underlying T=some (.slice e)) (hu:P.underlying bz=some pb) (q8:A2 pb) (ay:P.info? e=some i) (bG:i.zero=some z)
  {x:Value} {m:Nat} {news:List Value} (xf:Src P w i.size x m news) {base:Option Addr} {n cap:Nat} {nX:List Value} (hold:Src P w i.size (.slice base n cap) n nX) (oE:¬n+m≤cap)
  (aV:n+m≤9223372036854775807) (A3:(n+m)*i.bytes≤140737488355328):
  (Builtin.append_ #[T,bz] ty #[.slice base n cap,x]).run P w= .ok (.slice (some ⟨w.heap.size,0,none⟩) (n+m) (grownCap w (n+m) cap e))
   (w.drew.alloc (.cells (nX.toArray++news.toArray++Builtin.zeroCells z.cells (grownCap w (n+m) cap e-(n+m))) e)):=by
 have ad:=(xf w rfl).1
 have ag:=(xf w.drew rfl).2
 have aF:=(hold w.drew rfl).2
 have alL:=growslice_fits (need:=n+m) (old:=cap) (by omega) A3
 have hE:¬(281474976710656<Builtin.nextslicecap (n+m) cap*i.bytes):=by omega
 have ss:∀k (w:World),(askRoom k).run P w= .ok () w:=by
  intro k w
  unfold askRoom
  split<;>rfl
 have A4:¬(9223372036854775807<(n:Int)+(m:Int)∧i.bytes=0):=by omega
 rcases q8 with⟨fQ,rfl⟩|rfl<;>
  ·simp[Builtin.append_,run_underlying aY,run_underlying hu,jR ay,qY ay,ad,oE,hE,Question.forced,ss]
   rw[if_neg A4,aF]
   simp[ag,qZ ay bG,newRow,grownCap]
   have aT:(nX++news).toArray=nX.toArray++news.toArray:=by simp
   rw[aT,Array.append_assoc]
def xg (C:bS) (e bz:TypeId):Bool:=match(C.T bz).k,(C.T e).k with
 | .slice fQ,_=>fQ==e
 | .str,.int .u8=>true
 |_,_=>false
def lI (C:bS) (s:an) (T bz:TypeId) (x y:I):Option (I×an):=
 match(C.T T).k with
 | .slice e=>if(C.T e).ok=true∧(C.T e).zero.wd=(C.T e).sz∧(flat (C.T e).zero).isSome=true∧xg C e bz=true then
   match(match x with| .bk=>some (I.aL (C.T e).sz [],s)| .h a q=>ch s (.h a q)|_=>none)with
   |some (.aL sz xs,s1)=>if sz=(C.T e).sz then
     match(match kq x.owner y with
      | .bk=>some ([],s1)
      | .slice cf=>some (cf,s1)
      | .str l=>some (l.map na,s1)
      | .h a q=>match ch s1 (.h a q)with
        |some (.aL _ cf,s2)=>some (cf,s2)
        |_=>none
      |_=>none)with
     |some (cf,s2)=>if(∀d∈cf,d.wd=(C.T e).sz)∧(xs.length+cf.length)*(C.T e).bytes≤140737488355328∧xs.length+cf.length≤9223372036854775807 then some (.aL sz (xs++cf),s2)else none
     |none=>none
    else none
   |_=>none
   else none
 |_=>none
theorem aW.append {xs cf:List I} {b5 c2:List Value} {bN dc aG:Nat→Prop} (ad:aW w F xs b5 bN) (ag:aW w F cf c2 dc) (aT:∀b,bN b→aG b) (aX:∀b,dc b→aG b) (aS:∀b,bN b→¬dc b):aW w F (xs++cf) (b5++c2) aG:=by
 induction xs generalizing b5 bN aG with
 |nil=>rw[aW]at ad;subst ad;exact aW.mono (fun _ h=>h) _ _ _ _ aX ag
 |cons x xs ih=>
  rw[aW]at ad
  obtain⟨LU,LV,hc,gm,rfl,g1,g2,g3,g4,g5⟩:=ad
  rw[List.cons_append,aW]
  refine⟨LU,LV++c2,hc,fun b=>gm b∨dc b,by simp,g1,ih g2 (fun b h=>.inl h) (fun b h=>.inr h) (fun b h=>aS b (g4 b h)),fun b h=>aT b (g3 b h),?_,?_⟩
  ·rintro b (h|h)
   ·exact aT b (g4 b h)
   ·exact aX b h
  ·rintro b h (bb|bb)
   ·exact g5 b h bb
   ·exact aS b (g3 b h) bb
theorem A5 {P:Program} {size m cap:Nat} {b o:Nat} {news:List Value} (jo:hl w b o news) (aO:news.length=m*size):Src P w size (.slice (some ⟨b,o,none⟩) m cap) m news:=by
 intro aA hw
 refine⟨rfl,?_⟩
 refine run_firstCells_some aA size m ⟨b,o,none⟩ m cap news aO (fun j v b6=> ?_)
 rw[Addr.add_lit]
 have:=jo j v b6
 simpa [World.cell?,hw]using this
theorem EM {P:Program} {size cap:Nat}:Src P w size (.slice none 0 cap) 0 []:=by
 intro aA _
 exact⟨rfl,by simp[Builtin.firstCells]⟩
theorem A6 {P:Program} {size cap:Nat} (a:Option Addr):Src P w size (.slice a 0 cap) 0 []:=by
 cases a with
 |none=>exact EM
 |some a=>
  intro aA _
  exact⟨rfl,run_firstCells_some aA size 0 a 0 cap [] (by simp) (fun j v b6=>by simp at b6)⟩
theorem LW {P:Program} (l:List UInt8):Src P w 1 (.string ⟨⟨l⟩⟩) l.length (l.map fun b=>.int .u8 (b.toNat:Int)):=by
 intro aA _
 refine⟨rfl,?_⟩
 have:(⟨⟨l⟩⟩:ByteArray).extract 0 l.length=⟨⟨l⟩⟩:=by
  apply ByteArray.ext
  simp[ByteArray.data_extract]
 simp[Builtin.firstCells,this]
theorem aW.q9 {sz:Nat} {xs:List I} {cs:List Value} {aG:Nat→Prop} (h:aW w F xs cs aG) (hw:∀d∈xs,d.wd=sz):cs.length=xs.length*sz:=by
 rw[aW.length _ _ _ h,qT _ hw]
theorem bw.turn (h:bw w0 F0 X F S s au w) {aA:World} {b:Nat} (U:∀c,c≠b→aA.heap[c]? =w.heap[c]?) (aa:aA.heap.size=w.heap.size) (ad:aA.os=w.os) (ag:aA.tape=w.tape) (aF:Out aA w)
  (bl:¬F b) (bI:∀u,¬S u b) (bm:X b∨w0.heap.size≤b):bw w0 F0 X F S s au aA where
 gF:=h.gF
 gS:=h.gS
 eT:=fun c aj=>by rw[aa];exact h.eT c aj
 eg:=fun t c aj=>by rw[aa];exact h.eg t c aj
 fa:=h.fa
 eN:=h.eN
 dp:=h.dp
 cN:=fun t=>aB.frame (Sx:=S) (fun c aj=>U c (by rintro rfl;exact bl aj)) (fun _ h=>h) (fun x c aj=>U c (by rintro rfl;exact bI x aj)) h.cN _ _ _ (fun c aj=>U c (by rintro rfl;exact bI t aj)) (h.cN t)
 old:=fun c d_ jQ=>by
  rw[U c ?_]
  ·exact h.old c d_ jQ
  ·rintro rfl
   rcases bm with bm|bm
   ·exact jQ bm
   ·omega
 size:=by rw[aa];exact h.size
 os:=ad.trans h.os
 tape:=ag.trans h.tape
 output:=aF.trans h.output
 gn:=h.gn
theorem LX (bc:C.en) (h:bw w0 F0 X F S s au w) {T bz ty:TypeId} {x y:I} {ht h6:Value} (ai:aB w F s au x ht (fun _=>False)) (hy:aB w F s au y h6 (fun _=>False))
  (he:lI C s T bz x y=some (av,s1)):Good C w0 F0 X au w (Builtin.append_ #[T,bz] ty #[ht,h6]) av s1:=by
 unfold lI at he
 split at he
 ·rename_i e ax
  obtain⟨A7,d,A8,aT,aX,aS,bQ,cp,bK,bH⟩:=bc.info (fh ax (by simp))
  rw[ax]at bH
  have:=kJ bH;subst this
  split at he
  ·rename_i q3
   obtain⟨nW,oF,pc,oG⟩:=q3
   obtain⟨i,A9,z,f1,f2,f3,f4,f5,f6,f7⟩:=bc.info nW
   obtain⟨ez,mb⟩:=Option.isSome_iff_exists.1 pc
   have pd:=f5 ez mb
   have nY:ez.length=(C.T e).sz:=by
    have:=ak.length _ _ _ ((ak.flat (w:=w) (F:=F) _).1 (C.T e).zero ez (fun _=>False) (Nat.le_refl _) mb)
    rw[this,oF]
   obtain⟨pb,hu,q8⟩:∃pb,C.P.underlying bz=some pb∧A2 pb:=by
    unfold xg at oG
    split at oG
    ·rename_i fQ ld
     obtain⟨_,bf,_,_,_,_,_,_,g6,g7⟩:=bc.info (fh ld (by simp))
     rw[ld]at g7
     exact⟨bf,g6,.inl ⟨_,kJ g7⟩⟩
    ·rename_i ld _
     obtain⟨_,bf,_,_,_,_,_,_,g6,g7⟩:=bc.info (fh ld (by simp))
     rw[ld]at g7
     exact⟨bf,g6,.inr (oz g7)⟩
    ·cases oG
   split at he
   ·rename_i sz xs EN q_
    split at he
    ·rename_i dJ
     subst dJ
     split at he
     ·rename_i cf xh nf
      split at he
      ·rename_i LY
       obtain⟨su,A3,p0⟩:=LY
       simp only[Option.some.injEq,Prod.mk.injEq]at he
       obtain⟨rfl,rfl⟩:=he
       obtain⟨hc,a0,Sn,a3,a4,a5,oC,oD,alM,a9,p1⟩:∃hc,bw w0 F0 X F hc EN au w∧∃Sn,ak w F (.aL (C.T e).sz xs) [ht] Sn∧(∀b,Sn b→b<w.heap.size)∧(∀b,Sn b→¬F b)∧(∀u b,Sn b→¬hc u b)∧
         (∀b,Sn b→X b∨w0.heap.size≤b)∧(∀u b,hc u b→S u b)∧(∀b,Sn b→∃u,S u b)∧aB w F EN au (kq x.owner y) h6 (fun _=>False):=by
        split at q_
        ·simp only[Option.some.injEq,Prod.mk.injEq,I.aL.injEq,true_and]at q_
         obtain⟨rfl,rfl⟩:=q_
         have:=o_ ai;subst this
         exact⟨S,h,fun _=>False,by rw[ak];exact .inl ⟨rfl,_,rfl⟩,fun _ h=>h.elim,fun _ h=>h.elim,fun _ _ h=>h.elim,fun _ h=>h.elim,fun _ _ h=>h,fun _ h=>h.elim,hy⟩
        ·obtain⟨bN,g0,g1,g2,Sn,g3,g4,g5,g6,g7,g8,g9,g10⟩:=nR h rfl ai q_
         rw[gp g2]at g3
         exact⟨bN,g0,Sn,g3,g4,g5,g6,g7,g8,g9,g10 _ _ _ hy⟩
        ·cases q_
       obtain⟨gm,js,mI,news,kP,h8,lJ,cq,cr,cw,kb,cm⟩:∃gm,bw w0 F0 X F gm xh au w∧∃mI news,aW w F cf news mI∧Src C.P w i.size h6 cf.length news∧(∀b,mI b→b<w.heap.size)∧(∀b,mI b→¬F b)∧(∀u b,mI b→¬gm u b)∧
         (∀b,mI b→X b∨w0.heap.size≤b)∧(∀u b,gm u b→hc u b)∧(∀b,mI b→∃u,hc u b):=by
        split at nf
        ·rename_i ra
         simp only[Option.some.injEq,Prod.mk.injEq]at nf
         obtain⟨rfl,rfl⟩:=nf
         rw[ra]at p1
         have:=o_ p1;subst this
         exact⟨hc,a0,fun _=>False,[],by rw[aW],EM,fun _ h=>h.elim,fun _ h=>h.elim,fun _ _ h=>h.elim,fun _ h=>h.elim,fun _ _ h=>h,fun _ h=>h.elim⟩
        ·rename_i fT ra
         simp only[Option.some.injEq,Prod.mk.injEq]at nf
         obtain⟨rfl,rfl⟩:=nf
         rw[ra]at p1
         rcases xc p1 with⟨rfl,sr,alN,rfl,_,q4⟩|⟨b,o,cap,dI,LZ,rfl,bV,b7,eh,dd,eO,ey⟩
         ·exact⟨hc,a0,fun _=>False,[],by rw[aW],A6 sr,fun _ h=>h.elim,fun _ h=>h.elim,fun _ _ h=>h.elim,fun _ h=>h.elim,fun _ _ h=>h,fun _ h=>h.elim⟩
         ·exact⟨hc,a0,fun _=>False,dI,ey,A5 eO (by rw[f2];exact aW.q9 ey su),fun _ h=>h.elim,fun _ h=>h.elim,fun _ _ h=>h.elim,fun _ h=>h.elim,fun _ _ h=>h,fun _ h=>h.elim⟩
        ·rename_i l ra
         simp only[Option.some.injEq,Prod.mk.injEq]at nf
         obtain⟨rfl,rfl⟩:=nf
         rw[ra]at p1
         have:=lE p1;subst this
         have L0:l≠[]→i.size=1:=by
          intro aO
          cases l with
          |nil=>exact(aO rfl).elim
          |cons b l=>rw[f2,←su (na b) (by simp)];rfl
         by_cases aO:l=[]
         ·subst aO
          refine⟨hc,a0,fun _=>False,[],by simp only[List.map_nil];rw[aW],?_,fun _ h=>h.elim,fun _ h=>h.elim,fun _ _ h=>h.elim,fun _ h=>h.elim,fun _ _ h=>h,fun _ h=>h.elim⟩
          intro aA _
          exact⟨rfl,by simp[Builtin.firstCells,ByteArray.extract];rfl⟩
         ·refine⟨hc,a0,fun _=>False,_,EG l _,?_,fun _ h=>h.elim,fun _ h=>h.elim,fun _ _ h=>h.elim,fun _ h=>h.elim,fun _ _ h=>h,fun _ h=>h.elim⟩
          rw[L0 aO,List.length_map]
          exact LW l
        ·rename_i a q ra
         split at nf
         ·rename_i alO fT s2 aY
          simp only[Option.some.injEq,Prod.mk.injEq]at nf
          obtain⟨rfl,rfl⟩:=nf
          rw[ra]at p1
          obtain⟨dc,g0,g1,g2,mI,g3,g4,g5,g6,g7,g8,g9,g10⟩:=nR a0 rfl p1 aY
          rw[gp g2,ak]at g3
          rcases g3 with⟨rfl,L1,kQ⟩|⟨b,cap,cur,gf,fr,aG,kQ,bV,b7,eh,dd,eO,ey,h9,gh,lH,mH⟩
          ·simp at kQ;subst kQ
           exact⟨dc,g0,fun _=>False,[],by rw[aW],(A6 L1),fun _ h=>h.elim,fun _ h=>h.elim,fun _ _ h=>h.elim,fun _ h=>h.elim,g8,fun _ h=>h.elim⟩
          ·simp at kQ;subst kQ
           refine⟨dc,g0,aG,_,gh,A5 (sf b7 _) ?_,fun c aj=>g4 c (lH c aj),fun c aj=>g5 c (lH c aj),fun u c aj=>g6 u c (lH c aj),fun c aj=>g7 c (lH c aj),g8,fun c aj=>g9 c (lH c aj)⟩
           rw[f2];exact aW.q9 gh su
         ·cases nf
        ·cases nf
       have p2:news.length=cf.length*(C.T e).sz:=aW.q9 kP su
       have ng:∀c,Sn c→¬mI c:=fun c ad ag=>by obtain⟨u,hu⟩:=cm c ag;exact oC u c ad hu
       have lA:∀u c,Sn c→¬gm u c:=fun u c ad ag=>oC u c ad (kb u c ag)
       have grow:∀(base:Option Addr) (cap:Nat) (nX:List Value) (Sx:Nat→Prop),ht= .slice base xs.length cap→Src C.P w i.size (.slice base xs.length cap) xs.length nX→aW w F xs nX Sx→(∀d∈xs,d.wd=(C.T e).sz)→(∀c,Sx c→Sn c)→¬xs.length+cf.length≤cap→
         Good C w0 F0 X au w (Builtin.append_ #[T,bz] ty #[ht,h6]) (.aL (C.T e).sz (xs++cf)) xh:=by
        intro base cap nX Sx AV hold EO EP eE oE
        subst AV
        have aH:=LS (ty:=ty) bK hu q8 f1 f4 h8 hold oE p0 (by rw[f3];exact A3)
        have uN:=grownCap_ge w (xs.length+cf.length) cap e
        have uO:=grownCap_le_maxLen w (xs.length+cf.length) cap e (by unfold maxLen;omega)
        have uQ:=aW.q9 EO EP
        have L2:aW w F (xs++cf) (nX++news) (fun c=>Sx c∨mI c):=aW.append EO kP (fun _ h=>.inl h) (fun _ h=>.inr h) (fun c ad ag=>ng c (eE c ad) ag)
        have L3:(nX++news).length=(xs++cf).length*(C.T e).sz:=by simp[uQ,p2,Nat.add_mul]
        have kr:=js.uK (aA:=w.drew.alloc (.cells (nX.toArray++news.toArray++Builtin.zeroCells z.cells (grownCap w (xs.length+cf.length) cap e-(xs.length+cf.length))) e))
         (sz:=(C.T e).sz) (cap:=grownCap w (xs.length+cf.length) cap e) (xs:=xs++cf) (e:=e) (fr:=(0,0)) (Sn:=fun c=>Sx c∨mI c) rfl rfl rfl ⟨rfl,fun _=>Nat.le_succ _⟩
         (fun o _ ⟨_,ag⟩=>absurd ag (Nat.not_lt_zero _)) (by simpa using uN) uO
         (by
          simp only[Array.size_append,List.size_toArray,size_zeroCells,pd,uQ,p2,nY,←Nat.add_mul]
          congr 1;omega)
         (by
          intro d ah
          rcases List.mem_append.1 ah with ah|ah
          ·exact EP d ah
          ·exact su d ah)
         (by
          simp only[Array.toList_append]
          rw[List.take_left' L3]
          exact L2)
         (by rintro c (aj|aj);exact a4 c (eE c aj);exact lJ c aj) (by rintro c (aj|aj);exact a5 c (eE c aj);exact cq c aj) (by rintro u c (aj|aj);exact lA u c (eE c aj);exact cr u c aj) (by rintro c (aj|aj);exact oD c (eE c aj);exact cw c aj)
        refine⟨_,_,F,gm,aH,kr.1,?_⟩
        have:=kr.2
        simpa using this
       rw[ak]at a3
       rcases a3 with⟨rfl,xi,kQ⟩|⟨b,cap,cur,gf,fr,aG,kQ,bV,b7,eh,dd,eO,ey,h9,gh,lH,mH⟩
       ·simp at kQ;subst kQ
        by_cases ER:cf=[]
        ·subst ER
         have A_:news=[]:=by simpa using p2
         subst A_
         refine⟨.slice xi 0 0,w,F,gm,?_,js,.inr ⟨rfl,rfl,fun _=>False,by simp only[bU,hp];rw[ak];exact .inl ⟨rfl,_,rfl⟩,fun _ h=>h.elim,fun _ h=>h.elim,fun _ _ h=>h.elim,fun _ h=>h.elim⟩⟩
         obtain⟨ad,ag⟩:=h8 w rfl
         cases xi<;>rcases q8 with⟨fQ,rfl⟩|rfl<;>simp at ad ag<;>simp[Builtin.append_,run_underlying bK,run_underlying hu,jR f1,ad,ag,storeCells]
        ·exact grow xi 0 [] (fun _=>False) rfl (A6 xi) (by rw[aW]) (by simp) (fun _ h=>h.elim) (by
          cases cf with
          |nil=>exact(ER rfl).elim
          |cons y cf=>simp)
       ·simp at kQ;subst kQ
        by_cases oE:xs.length+cf.length≤cap
        ·
         have uQ:=aW.q9 gh h9
         have hlen:cur.toList.length=cap*(C.T e).sz:=by simp[ey]
         have hle:(xs.length+cf.length)*(C.T e).sz≤cap*(C.T e).sz:=Nat.mul_le_mul_right _ oE
         rw[Nat.add_mul]at hle
         have kF:cur.toList=cur.toList.take (xs.length*(C.T e).sz)++((cur.toList.drop (xs.length*(C.T e).sz)).take news.length++(cur.toList.drop (xs.length*(C.T e).sz)).drop news.length):=by
          rw[List.take_append_drop,List.take_append_drop]
         obtain⟨aA,m1,m2,m3,m4,m5,m6,m7⟩:=LR (ty:=ty) (n:=xs.length) (m:=cf.length) (cap:=cap) bK hu q8 f1 h8 b7 eh kF (by rw[f2];exact uQ) (by simp[hlen,p2];omega) (aW.q1 _ _ _ kP) oE
         have L4:=js.turn m3 m4 m5 m6 m7 (a5 b bV) (fun u hu=>lA u b bV hu) (oD b bV)
         have oy:∀c,F c→aA.heap[c]? =w.heap[c]? :=fun c aj=>m3 c (by rintro rfl;exact a5 _ bV aj)
         refine⟨_,aA,F,gm,m1,L4,.inr ⟨rfl,rfl,fun c=>Sn c∨mI c,?_,?_,?_,?_,?_⟩⟩
         ·simp only[bU,hp]
          rw[ak]
          have ES:(cur.toList.take (xs.length*(C.T e).sz)++(news++(cur.toList.drop (xs.length*(C.T e).sz)).drop news.length)).toArray.size=cur.size:=by
           have:cur.size=cur.toList.length:=by simp
           rw[this]
           conv=>rhs;rw[kF]
           simp[hlen,p2];omega
          refine .inr ⟨b,cap,_,gf,fr,fun c=>aG c∨mI c,by simp,.inl bV,m2,by rw[ES];exact eh,by simpa using oE,eO,by rw[ES];exact ey,?_,?_,?_,?_⟩
          ·intro d ah
           rcases List.mem_append.1 ah with ah|ah
           ·exact h9 d ah
           ·exact su d ah
          ·have sl:=aW.frame oy _ _ _ (fun c aj=>m3 c (by rintro rfl;exact mH aj)) gh
           have qX:=aW.frame oy _ _ _ (fun c aj=>m3 c (by rintro rfl;exact ng _ bV aj)) kP
           have:((cur.toList.take (xs.length*(C.T e).sz)++(news++(cur.toList.drop (xs.length*(C.T e).sz)).drop news.length)).toArray.toList.take ((xs++cf).length*(C.T e).sz))=cur.toList.take (xs.length*(C.T e).sz)++news:=by
            simp only[]
            rw[←List.append_assoc]
            exact List.take_left' (by rw[List.length_append,uQ,p2,List.length_append,Nat.add_mul])
           rw[this]
           exact aW.append sl qX (fun _ h=>.inl h) (fun _ h=>.inr h) (fun c ad ag=>ng c (lH c ad) ag)
          ·rintro c (aj|aj)
           ·exact .inl (lH c aj)
           ·exact .inr aj
          ·rintro(aj|aj)
           ·exact mH aj
           ·exact ng b bV aj
         ·rw[m4];rintro c (aj|aj);exact a4 c aj;exact lJ c aj
         ·rintro c (aj|aj);exact a5 c aj;exact cq c aj
         ·rintro u c (aj|aj);exact lA u c aj;exact cr u c aj
         ·rintro c (aj|aj);exact oD c aj;exact cw c aj
        ·exact grow (some ⟨b,0,none⟩) cap _ aG rfl (A5 (sf b7 _) (by rw[f2];exact aW.q9 gh h9)) gh h9 lH oE
      ·cases he
     ·cases he
    ·cases he
   ·cases he
  ·cases he
 ·cases he
end
section
variable {C:bS} {w0 w aA:World} {F0 X F:Nat→Prop} {S:Nat→Nat→Prop} {s s1:an} {au:Nat→Value} {av:I}
theorem bw.L5 (h:bw w0 F0 X F S s au w) {x:Nat} {q:List Nat} {d bf:I} {b:Nat} (ah:I.sub q (s x)=some d) (ao:d.plain=false) (Ba:bf.tree=true) (ad:∀v,hQ d v→hQ bf v) (aa:∀v,ck d v→ck bf v)
  (ag:∀vs,bf≠.tuple vs) (j9:bf.wd=d.wd) (U:∀cc a eM,cL w q (s x) (bU (au x)) none=some (d,cc,a)→ak w F d cc eM→eM b∧ak aA F bf cc eM) (mX:∀c,c≠b→aA.heap[c]? =w.heap[c]?) (dJ:aA.heap.size=w.heap.size) (AH:aA.os=w.os)
  (AJ:aA.tape=w.tape) (qV:Out aA w):∃aG,bw w0 F0 X F aG (c7 (hR x s) x (I.put q bf (s x))) au aA:=by
 have aY:=hq ah (.inl ao)
 have ai:=h.cN x
 rw[aB.b9 aY]at ai
 obtain⟨cc,a,dE,eM,g0,g1,g2,g3,g4,g5⟩:=ctx q (s x) (bU (au x)) (S x) none d ai.2 ah
 obtain⟨qW,aI⟩:=U cc a eM g0 g4
 have rb:S x b:=g2 b qW
 have oy:∀c,F c→aA.heap[c]? =w.heap[c]? :=fun c aj=>mX c (by rintro rfl;exact h.fa x _ rb aj)
 have sj:∀c,dE c→c≠b:=fun c aj e=>g3 c aj (e▸qW)
 have jO:ak aA F (I.put q bf (s x)) (bU (au x)) (fun c=>dE c∨eM c):=by
  rcases g5 with⟨l,r,aT,aX,aS⟩|⟨js,cur,e,fr,l,r,aT,aX,aS,bQ,cp,bK⟩
  ·rw[aT]
   exact aS aA bf cc eM oy (fun c aj=>mX c (sj c aj)) j9 aI (fun c aj ox=>g3 c ox aj)
  ·refine bK aA bf cc eM oy (fun c aj _=>mX c (sj c aj)) ?_ j9 aI (fun c aj ox=>g3 c ox aj)
   rw[mX js (sj js aX),aS,←cp]
 have uu:ck (I.put q bf (s x)) (au x)∧(I.put q bf (s x)).tree=true:=by
  cases q with
  |nil=>
   simp only[I.sub,Option.some.injEq]at ah
   simp only[I.put]
   exact⟨aa _ (ah▸ai.1),Ba⟩
  |cons k q=>
   refine⟨uq ai.1 ah ad (fun _=>ag) j9,?_⟩
   rcases pV k q bf (s x)with⟨aq,gs,aT,e⟩|⟨aq,gs,aT,e⟩|⟨sz,xs,cf,aT,e⟩|⟨y,z,aT,e⟩|e<;>rw[e]<;>first|rfl|exact aY
 let aw:=c7 (hR x s) x (I.put q bf (s x))
 have hr:∀y,y≠x→(aw y).tree=true→aw y=s y∧au y=au y:=fun y hy aY=>by
  have e:aw y=cI.bR x (s y):=jd _ _ hy
  rw[e]at aY⊢
  exact⟨(w4 aY).2,rfl⟩
 have lD:(aw x).plain=false→(s x).plain=false∧∀v,ck (s x) v→ck (aw x) v:=by
  intro _
  refine⟨?_,fun v aI=> ?_⟩
  ·cases ur:(s x).plain with
   |false=>rfl
   |true=>rw[I.Au _ _ _ ur ah]at ao;cases ao
  ·simp only[aw,l7]
   cases q with
   |nil=>
    simp only[I.sub,Option.some.injEq]at ah
    simp only[I.put]
    exact aa _ (ah▸aI)
   |cons k q=>exact uq aI ah ad (fun _=>ag) j9
 have both:∀c,(dE c∨eM c)→S x c:=fun c aj=>aj.elim (g1 c) (g2 c)
 refine⟨fR S x (fun c=>dE c∨eM c),?_⟩
 constructor
 case gF=>exact h.gF
 case gS=>exact h.gS
 case eT=>exact fun b U=>by rw[dJ];exact h.eT b U
 case eg=>
  intro u c U
  rw[dJ]
  simp only[fR]at U
  split at U
  ·exact h.eg x c (both c U)
  ·exact h.eg u c U
 case fa=>
  intro u c U
  simp only[fR]at U
  split at U
  ·exact h.fa x c (both c U)
  ·exact h.fa u c U
 case eN=>
  intro u y c dr U hy
  simp only[fR]at U hy
  split at U
  ·rename_i hu
   rw[if_neg (fun e=>dr (hu.trans e.symm))]at hy
   exact h.eN x y c (fun e=>dr (hu.trans e)) (both c U) hy
  ·rename_i hu
   split at hy
   ·exact h.eN u x c hu U (both c hy)
   ·exact h.eN u y c dr U hy
 case dp=>
  intro u c U
  simp only[fR]at U
  split at U
  ·exact h.dp x c (both c U)
  ·exact h.dp u c U
 case cN=>
  intro u
  by_cases hu:u=x
  ·subst hu
   rw[l7,uk]
   exact(aB.b9 uu.2).2 ⟨uu.1,jO⟩
  ·rw[jd _ _ hu,um _ _ hu]
   have dr:∀y c,y≠x→S y c→aA.heap[c]? =w.heap[c]? :=fun y c hy aj=>mX c (by rintro rfl;exact h.eN y x c hy aj rb)
   refine(aB.bR hr rfl lD (fun y ga d2 hy hf uv=> ?_) oy _).1 _ _ _ (Nat.le_refl _) (fun c aj=>dr u c hu aj) (h.cN u)
   have uw:=h.cN y
   rw[aB.b9 (hq hf uv)]at uw
   exact w3 ga _ _ _ none d2 uw.2 hf (fun c aj=>dr y c hy aj)
 case old=>
  intro c d_ jQ
  rw[mX c ?_]
  ·exact h.old c d_ jQ
  ·rintro rfl
   rcases h.dp x c rb with bm|bm
   ·exact jQ bm
   ·omega
 case size=>rw[dJ];exact h.size
 case os=>exact AH.trans h.os
 case tape=>exact AJ.trans h.tape
 case output=>exact qV.trans h.output
 case gn=>exact h.gn
def ET (P:Program) (t:TypeId):Bool:=match P.info? t with
 |some i=>match i.zero with
  |some (.bool false)=>true
  |_=>false
 |none=>false
def xj (C:bS) (T:TypeId):Bool:=match(C.T T).k with
 | .map nZ p3=>match(C.T nZ).k with
   | .str=>ET C.P p3
   |_=>false
 |_=>false
def nh (C:bS) (s:an) (T:TypeId) (x i:I):Option I:=match x,i with
 | .h y q,.str k=>match I.sub q (s y)with
   |some (.dq (.mp m))=>if xj C T=true then some (.bool (pQ k m))else none
   |_=>none
 |_,_=>none
def mc (C:bS) (s:an) (T:TypeId) (x i v:I):Option an:=match x,i,v with
 | .h y q,.str k,.bool b=>match I.sub q (s y)with
   |some (.dq (.mp m))=>if xj C T=true then some (c7 (hR y s) y (I.put q (.dq (.mp (ow k b m))) (s y)))else none
   |_=>none
 |_,_,_=>none
theorem EU (bc:C.en) {T:TypeId} (h:xj C T=true):∃nZ p3,C.P.underlying T=some (.map nZ p3)∧C.P.underlying nZ=some .string∧∀w,(zeroValue p3).run C.P w= .ok (.bool false) w:=by
 unfold xj at h
 split at h
 ·rename_i nZ p3 ax
  split at h
  ·rename_i ad
   obtain⟨i,d,z,aT,aX,aS,bQ,cp,bK,bH⟩:=bc.info (fh ax (by simp))
   obtain⟨o6,bf,o7,f1,f2,f3,f4,f5,f6,f7⟩:=bc.info (fh ad (by simp))
   rw[ax]at bH
   rw[ad]at f7
   have:=oz f7;subst this
   refine⟨nZ,p3,?_,f6,fun w=> ?_⟩
   ·rw[bK];cases d<;>simp[kH]at bH
    rw[bH.1,bH.2]
   ·unfold ET at h
    split at h
    ·rename_i i2 g1
     split at h
     ·rename_i g2;exact qZ g1 g2 w
     ·cases h
    ·cases h
  ·cases h
 ·cases h
theorem Bb (a b:ByteArray):(a==b)=true↔a=b:=by
 constructor
 ·intro h
  exact ByteArray.ext (eq_of_beq (show(a.data==b.data)=true from h))
 ·rintro rfl
  show(a.data==a.data)=true
  simp
theorem Bc (k:List UInt8) (b:Bool):∀(es:List MapEntry) (m:List (List UInt8×Bool)) (i:Nat),es.map (fun e=>(e.key,e.val))=m.map (fun e=>(.string ⟨⟨e.1⟩⟩,.bool e.2))→
  (Instr.findNow .string (.string ⟨⟨k⟩⟩) es i=some none∧pQ k m=false∧ow k b m=m++[(k,b)])∨
  ∃j e,es[j]? =some e∧e.key= .string ⟨⟨k⟩⟩∧Instr.findNow .string (.string ⟨⟨k⟩⟩) es i=some (some (i+j,.bool (pQ k m)))∧ow k b m=m.set j (k,b)
 |[],m,i,h=>by
  have:m=[]:=by simpa using h.symm
  subst this
  exact .inl ⟨rfl,rfl,rfl⟩
 |e::es,[],i,h=>by simp at h
 |e::es,(dj,e8)::m,i,h=>by
  simp only[List.map_cons,List.cons.injEq,Prod.mk.injEq]at h
  obtain⟨⟨ad,ag⟩,aF⟩:=h
  by_cases ax:dj=k
  ·subst ax
   refine .inr ⟨0,e,rfl,ad,?_,by simp[ow]⟩
   have:(((⟨⟨dj⟩⟩:ByteArray)==⟨⟨dj⟩⟩))=true:=(Bb _ _).2 rfl
   simp only[Instr.findNow,ad,ag,Instr.sameNow,pQ,this,if_true,Nat.add_zero]
  ·have aV:((⟨⟨k⟩⟩:ByteArray)==⟨⟨dj⟩⟩)=false:=by
    refine Bool.eq_false_iff.2 fun e=>ax ?_
    have:=(Bb _ _).1 e
    simp only[ByteArray.mk.injEq,Array.mk.injEq]at this
    exact this.symm
   rcases Bc k b es m (i+1) aF with⟨g1,g2,g3⟩|⟨j,fQ,g1,g2,g3,g4⟩
   ·refine .inl ⟨?_,?_,?_⟩
    ·simp only[Instr.findNow,ad,Instr.sameNow,aV];exact g1
    ·simp[pQ,ax,g2]
    ·simp[ow,ax,g3]
   ·refine .inr ⟨j+1,fQ,g1,g2,?_,?_⟩
    ·simp only[Instr.findNow,ad,Instr.sameNow,aV]
     rw[g3];simp[pQ,ax,Nat.add_assoc,Nat.add_comm 1 j]
    ·simp[ow,ax,g4]
theorem xk {P:Program} {nZ:TypeId} (ax:P.underlying nZ=some .string) (e:Bool) (k:ByteArray) (w:World):(Instr.checkKey e 10000 nZ (.string k)).run P w= .ok () w:=by
 unfold Instr.checkKey
 simp[run_underlying ax]
theorem EV (h:bw w0 F0 X F S s au w) {y:Nat} {q:List Nat} {m:List (List UInt8×Bool)} {v:Value} (aI:aB w F s au (.h y q) v (fun _=>False)) (ah:I.sub q (s y)=some (.dq (.mp m))):
  ∃r ms l6,v= .map (some r)∧w.heap[r]? =some (.map ms l6)∧ms.toList.map (fun e=>(e.key,e.val))=m.map (fun e=>(.string ⟨⟨e.1⟩⟩,.bool e.2))∧
   ∃a,cL w q (s y) (bU (au y)) none=some (.dq (.mp m),[.map (some r)],a):=by
 rw[aB]at aI
 obtain⟨cc,a,g1,g2,g3⟩:=aI _ ah rfl
 have ad:Value.f_ v=true:=g3
 rw[gp ad]at g2
 have ai:=h.cN y
 rw[aB.b9 (hq ah (.inl rfl))]at ai
 obtain⟨ff,cz,dE,eM,k0,bV,b7,eh,dd,eO⟩:=ctx q (s y) (bU (au y)) (S y) none _ ai.2 ah
 rw[k0]at g1
 simp only[Option.some.injEq,Prod.mk.injEq,true_and]at g1
 obtain⟨rfl,rfl⟩:=g1
 rw[ak]at dd
 obtain⟨r,ms,l6,aT,aX,aS,bQ⟩:=dd
 rw[aT]at g2 k0
 exact⟨r,ms,l6,by simpa using g2,aS,bQ,cz,k0⟩
theorem L6 (bc:C.en) (h:bw w0 F0 X F S s au w) {T:TypeId} {x i:I} {ht mY:Value} (ai:aB w F s au x ht (fun _=>False)) (ay:aB w F s au i mY (fun _=>False)) (he:nh C s T x i=some av):
  Good C w0 F0 X au w (Instr.lookup T ht mY false) av s:=by
 unfold nh at he
 split at he
 ·rename_i y q k
  split at he
  ·rename_i m ah
   split at he
   ·rename_i lb
    simp only[Option.some.injEq]at he;subst he
    obtain⟨nZ,p3,t1,t2,t3⟩:=EU bc lb
    obtain⟨r,ms,l6,rfl,aX,aS,_⟩:=EV h ai ah
    have:=lE ay;subst this
    refine Good.same h (v:=.bool (pQ k m)) ?_ rfl (of_bool _)
    rcases Bc k true ms.toList m 0 aS with⟨g1,g2,_⟩|⟨j,e,_,_,g1,_⟩
    ·simp[Instr.lookup,run_underlying t1,getObj,Sem.run,aX,xk t2,Instr.findKey,run_underlying t2,g1,t3,g2]
    ·simp[Instr.lookup,run_underlying t1,getObj,Sem.run,aX,xk t2,Instr.findKey,run_underlying t2,g1]
   ·cases he
  ·cases he
 ·cases he
theorem L7 (bc:C.en) (h:bw w0 F0 X F S s au w) {T:TypeId} {x i v:I} {ht mY EW:Value} (ai:aB w F s au x ht (fun _=>False)) (ay:aB w F s au i mY (fun _=>False)) (aI:aB w F s au v EW (fun _=>False)) {s2:an}
  (he:mc C s T x i v=some s2):∃aA aG,(Instr.mapUpdate T ht mY EW).run C.P w= .ok () aA∧bw w0 F0 X F aG s2 au aA:=by
 unfold mc at he
 split at he
 ·rename_i y q k b
  split at he
  ·rename_i m ah
   split at he
   ·rename_i lb
    simp only[Option.some.injEq]at he;subst he
    obtain⟨nZ,p3,t1,t2,t3⟩:=EU bc lb
    obtain⟨r,ms,l6,rfl,aX,aS,a0,j_⟩:=EV h ai ah
    have:=lE ay;subst this
    have:=pY aI;subst this
    have key:∀(xl:Array MapEntry) (Bd:Nat),xl.toList.map (fun e=>(e.key,e.val))=(ow k b m).map (fun e=>(.string ⟨⟨e.1⟩⟩,.bool e.2))→
      ∃aG,bw w0 F0 X F aG (c7 (hR y s) y (I.put q (.dq (.mp (ow k b m))) (s y))) au {w with heap:=w.heap.setIfInBounds r (.map xl Bd)}:=by
     intro xl Bd hm
     have aH:r<w.heap.size:=(Array.getElem?_eq_some_iff.1 aX).1
     refine bw.L5 (b:=r) h ah rfl rfl (fun v aI=>aI) (fun v aI=>aI) (fun vs e=>by cases e) rfl ?_ (fun c aj=> ?_) (by simp) rfl rfl ⟨rfl,fun _=>Nat.le_refl _⟩
     ·intro cc a eM br gg
      rw[j_]at br
      simp only[Option.some.injEq,Prod.mk.injEq,true_and]at br
      obtain⟨rfl,_⟩:=br
      rw[ak]at gg⊢
      obtain⟨jr,p4,alP,f1,f2,f3,f4⟩:=gg
      simp only[List.cons.injEq,Value.map.injEq,Option.some.injEq,and_true]at f1
      subst f1
      exact⟨f2,r,xl,Bd,rfl,f2,by simp[aH],hm⟩
     ·simp[Ne.symm aj]
    rcases Bc k b ms.toList m 0 aS with⟨g1,_,g2⟩|⟨j,e,g0,ge,g1,g2⟩
    ·obtain⟨aG,bV⟩:=key (ms.push {key:=.string ⟨⟨k⟩⟩,val:=.bool b,born:=l6}) (l6+1) (by rw[g2];simp[aS])
     exact⟨_,aG,by simp[Instr.mapUpdate,run_underlying t1,getObj,setObj,Sem.run,aX,xk t2,Instr.findKey,run_underlying t2,g1],bV⟩
    ·rw[Nat.zero_add]at g1
     obtain⟨aG,bV⟩:=key (ms.modify j fun e=>{e with key:=.string ⟨⟨k⟩⟩,val:=.bool b}) l6 (by
      rw[g2,List.map_set,←aS]
      apply List.ext_getElem?
      intro n
      by_cases aV:n=j
      ·subst aV
       have:n<ms.toList.length:=(List.getElem?_eq_some_iff.1 g0).1
       rw[List.getElem?_set_self (by simpa using this)]
       simp[g0]
      ·simp[List.getElem?_set_ne (Ne.symm aV),Ne.symm aV])
     have L8:ms[j]? =some e:=by simpa using g0
     exact⟨_,aG,by simp[Instr.mapUpdate,run_underlying t1,getObj,setObj,Sem.run,aX,xk t2,Instr.findKey,run_underlying t2,g1,L8,ge,Instr.keyThatStays,Instr.sameBits,(Bb ⟨⟨k⟩⟩ ⟨⟨k⟩⟩).2 rfl],bV⟩
   ·cases he
  ·cases he
 ·cases he
theorem L9 (h:bw w0 F0 X F S s au w) (t:TypeId):Good C w0 F0 X au w (Instr.makeMap t none) (.dq (.mp [])) s:=by
 have hold:∀b,b<w.heap.size→(w.alloc (.map #[] 0)).heap[b]? =w.heap[b]? :=by
  intro b U
  show(w.heap.push _)[b]? =_
  rw[Array.getElem?_push,if_neg (by omega)]
 refine⟨.map (some w.heap.size),w.alloc (.map #[] 0),F,S,?_,h.grow hold (by simp) rfl rfl ⟨rfl,fun _=>Nat.le_refl _⟩,.inr ⟨rfl,rfl,fun b=>b=w.heap.size,?_,?_,?_,?_,?_⟩⟩
 ·simp[Instr.makeMap,newObj,Sem.run]
 ·rw[ak]
  refine⟨w.heap.size,#[],0,rfl,rfl,?_,rfl⟩
  show(w.heap.push _)[_]? =_
  simp
 ·rintro b rfl;simp
 ·rintro b rfl o9;exact Nat.lt_irrefl _ (h.eT _ o9)
 ·rintro u b rfl hu;exact Nat.lt_irrefl _ (h.eg _ _ hu)
 ·rintro b rfl;exact .inr h.size
end
end Go.cI
