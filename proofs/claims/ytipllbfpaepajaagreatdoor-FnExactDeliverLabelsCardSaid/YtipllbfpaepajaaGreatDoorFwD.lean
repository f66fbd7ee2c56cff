/- Part of a proof that a law returns true for every input. No condition. -/
import Derived.Test.YtipllbfpaepajaaGreatDoorFwC
import Derived.Test.YtipllbfpaepajaaGreatDoorFwA
import Derived.Laws.IdiomStrings
import Derived.Laws.Strings
import Derived.LaidEql
import Derived.WideLaws
import Derived.Laws.StructEq
namespace Go.ca
section
variable {C:bt} {w0 w:World} {F0 X F:Nat→Prop} {S:Nat→Nat→Prop} {s s1:aj} {ao:Nat→Value} {av:I}
theorem kn {k:IntKind} {n:Int} {v:Value} {aF:Nat→Prop} (h:ay w F s ao (.int k n) v aF):v= .int k n:=by
 have aS:=(ay.bM rfl).1 h
 rw[an,eU aS.1]at aS
 simpa using aS.2
theorem oz {b:Bool} {v:Value} {aF:Nat→Prop} (h:ay w F s ao (.bool b) v aF):v= .bool b:=by
 have aS:=(ay.bM rfl).1 h
 rw[an,eU aS.1]at aS
 simpa using aS.2
theorem jQ {b:List UInt8} {v:Value} {aF:Nat→Prop} (h:ay w F s ao (.str b) v aF):v= .string ⟨⟨b⟩⟩:=by
 have aS:=(ay.bM rfl).1 h
 rw[an,eU aS.1]at aS
 simpa using aS.2
theorem BB {v:Value} {aF:Nat→Prop} (h:ay w F s ao .ct v aF):v= .pointer none:=by
 have aS:=(ay.bM rfl).1 h
 rw[an,eU aS.1]at aS
 simpa using aS.2
theorem nN {v:Value} {aF:Nat→Prop} (h:ay w F s ao .bD v aF):v= .slice none 0 0:=by
 have aS:=(ay.bM rfl).1 h
 rw[an,eU aS.1]at aS
 simpa using aS.2
theorem BC {v:Value} {aF:Nat→Prop} (h:ay w F s ao .dk v aF):∃b,v= .bool b:=by
 have aS:=(ay.bM rfl).1 h
 rw[an,eU aS.1]at aS
 simpa using aS.2
theorem of_int (k:IntKind) (n:Int):ay w F s ao (.int k n) (.int k n) (fun _=>False):=(ay.bM rfl).2 ⟨rfl,by rw[an];rfl⟩
theorem of_bool (b:Bool):ay w F s ao (.bool b) (.bool b) (fun _=>False):=(ay.bM rfl).2 ⟨rfl,by rw[an];rfl⟩
theorem ma (b:List UInt8):ay w F s ao (.str b) (.string ⟨⟨b⟩⟩) (fun _=>False):=(ay.bM rfl).2 ⟨rfl,by rw[an];rfl⟩
theorem x7 (b:Bool):ay w F s ao .dk (.bool b) (fun _=>False):=(ay.bM rfl).2 ⟨rfl,by rw[an];exact⟨b,rfl⟩⟩
def gD (op:BinOp) (k:IntKind) (a:Int) (cB:IntKind) (b:Int):Option I:=
 match op with
 | .shl=>if b<0 then none else some (.int k (k.wrap (a*2^(min b.toNat k.bits))))
 | .shr=>if b<0 then none else some (.int k (a.fdiv (2^(min b.toNat k.bits))))
 | .add=>if k=cB then some (.int k (k.wrap (a+b)))else none
 | .sub=>if k=cB then some (.int k (k.wrap (a-b)))else none
 | .mul=>if k=cB then some (.int k (k.wrap (a*b)))else none
 | .quo=>if k=cB∧b≠0 then some (.int k (k.wrap (a.tdiv b)))else none
 | .rem=>if k=cB∧b≠0 then some (.int k (a.tmod b))else none
 | .eql=>if k=cB then some (.bool (a==b))else none
 | .neq=>if k=cB then some (.bool (a !=b))else none
 | .lss=>if k=cB then some (.bool (decide (a<b)))else none
 | .leq=>if k=cB then some (.bool (decide (a≤b)))else none
 | .gtr=>if k=cB then some (.bool (decide (b<a)))else none
 | .geq=>if k=cB then some (.bool (decide (b≤a)))else none
 | .and=>if k=cB then some (.int k (bitsOf .and k a b))else none
 | .or=>if k=cB then some (.int k (bitsOf .or k a b))else none
 | .xor=>if k=cB then some (.int k (bitsOf .xor k a b))else none
 | .andNot=>if k=cB then some (.int k (bitsOf .andNot k a b))else none
def kR (op:BinOp) (a b:List UInt8):Option I:=
 match op with
 | .add=>if a.length+b.length≤9223372036854775807 then some (.str (a++b))else none
 | .eql=>some (.bool (a==b))
 | .neq=>some (.bool !(a==b))
 | .lss=>some (.bool (Op.bytesLess a b))
 | .leq=>some (.bool (Op.bytesLess a b||a==b))
 | .gtr=>some (.bool !(Op.bytesLess a b||a==b))
 | .geq=>some (.bool !(Op.bytesLess a b))
 |_=>none
def ho (s:aj):I→Option (Option Bool)
 | .bD=>some (some true)
 | .slice xs=>some (if xs=[]then none else some false)
 | .h x q=>match I.sub q (s x)with
   |some (.aE _ xs)=>some (if xs=[]then none else some false)
   |_=>none
 |_=>none
def i1 (s:aj):I→Option Bool
 | .ct=>some true
 | .ref _=>some false
 | .h x q=>match I.sub q (s x)with
   |some (.a_ _)=>some false
   |_=>none
 |_=>none
def mb (neg:Bool):Option Bool→I
 |some b=>.bool (b !=neg)
 |none=>.dk
def structEq (P:Program) (T:TypeId):Bool:= !P.stoodInHeld T&& !P.eqGuardType P.depth T&&(P.fieldsOf T).toList.all fun f=>decide (f.name≠ "_")
def lB (C:bt):List (TypeId×Nat)→Nat→List I→List I→Option Bool
 |[],_,[],[]=>some true
 |(hn,off)::ag,n,d::ds,e::es=>if off=n then(match(C.T hn).k,d,e with
  | .int k,.int bz a,.int bK b=>if bz=k∧bK=k then(lB C ag (n+1) ds es).map fun r=>a==b&&r else none
  | .bool,.bool a,.bool b=>(lB C ag (n+1) ds es).map fun r=>a==b&&r
  | .str,.str a,.str b=>(lB C ag (n+1) ds es).map fun r=>a==b&&r
  |_,_,_=>none)else none
 |_,_,_,_=>none
def bB (C:bt) (s:aj) (op:BinOp) (T:TypeId) (x y:I):Option I:=
 match x,y with
 | .int k a,.int cB b=>gD op k a cB b
 | .str a,.str b=>kR op a b
 | .bool a,.bool b=>match op,(C.T T).k with
   | .eql,.bool=>some (.bool (a==b))
   | .neq,.bool=>some (.bool !(a==b))
   |_,_=>none
 | .agg ds,.agg es=>match op,(C.T T).k with
   | .eql,.struct ag=>if structEq C.P T=true then(lB C ag 0 ds es).map fun b=>.bool b else none
   | .neq,.struct ag=>if structEq C.P T=true then(lB C ag 0 ds es).map fun b=>.bool !b else none
   |_,_=>none
 |x,.bD=>match op,(C.T T).k with
  | .eql,.slice _=>(ho s x).map (mb false)
  | .neq,.slice _=>(ho s x).map (mb true)
  |_,_=>none
 |x,.ct=>match op,(C.T T).k with
  | .eql,.ptr _=>(i1 s x).map fun b=>.bool b
  | .neq,.ptr _=>(i1 s x).map fun b=>.bool !b
  |_,_=>none
 |_,_=>none
theorem H7 {P:Program} {op:BinOp} {T:TypeId} {k cB:IntKind} {a b:Int} (he:gD op k a cB b=some av) (w:World):
  ∃v,(binOp op T (.int k a) (.int cB b)).run P w= .ok v w∧ay w F s ao av v (fun _=>False):=by
 unfold gD at he
 cases op<;>simp only at he<;>split at he<;>first|(cases he;done)|skip
 all_goals
  rename_i ai
  simp only[Option.some.injEq]at he
  subst he
 all_goals first
  |(subst ai;simp only[binOp_add,binOp_sub,binOp_mul,binOp_eql,binOp_neq,binOp_lss,binOp_leq,binOp_gtr,binOp_geq,binOp_and,binOp_or,binOp_xor,binOp_andNot,Op.intArith,Op.intBits,Sem.run_pure,Result.ok.injEq,and_true,exists_eq_left']
    first|exact of_int _ _|exact of_bool _)
  |(obtain⟨rfl,bm⟩:=ai
    simp only[binOp_quo,binOp_rem,Op.intDiv,bm,if_false,Sem.run_pure,Result.ok.injEq,and_true,exists_eq_left']
    exact of_int _ _)
  |(simp only[binOp_shl,binOp_shr,Op.shift,ai,if_false,Sem.run_pure,Result.ok.injEq,and_true,exists_eq_left']
    exact of_int _ _)
theorem sU (a:List UInt8):(⟨⟨a⟩⟩:ByteArray).toList=a:=ByteArray.toList_eq _
theorem H8 (a b:List UInt8):(⟨⟨a⟩⟩:ByteArray)++(⟨⟨b⟩⟩:ByteArray)=⟨⟨a++b⟩⟩:=by
 apply ByteArray.ext
 simp[ByteArray.data_append]
theorem H9 {P:Program} {op:BinOp} {T:TypeId} {a b:List UInt8} (he:kR op a b=some av) (w:World):
  ∃v,(binOp op T (.string ⟨⟨a⟩⟩) (.string ⟨⟨b⟩⟩)).run P w= .ok v w∧ay w F s ao av v (fun _=>False):=by
 have R:∀op,binOp op T (.string ⟨⟨a⟩⟩) (.string ⟨⟨b⟩⟩)=Op.stringOp op ⟨⟨a⟩⟩ ⟨⟨b⟩⟩:=by intro op;cases op<;>rfl
 rw[R]
 unfold kR at he
 cases op<;>simp only[Option.some.injEq]at he<;>first|(cases he;done)|skip
 case add=>
  split at he
  ·rename_i hl
   simp only[Option.some.injEq]at he;subst he
   have U:((ByteArray.size ⟨⟨a⟩⟩+ByteArray.size ⟨⟨b⟩⟩:Nat):Int)≤9223372036854775807:=by
    show((a.length+b.length:Nat):Int)≤_
    omega
   refine⟨.string ⟨⟨a++b⟩⟩,?_,ma _⟩
   simp only[Op.stringOp,IntKind.max_i64]
   rw[if_neg (by omega),H8]
   rfl
  ·cases he
 all_goals
  subst he
  simp only[Op.stringOp,sU,Sem.run_pure,Result.ok.injEq,and_true,exists_eq_left']
  exact of_bool _
theorem x8 (h:bb w0 F0 X F S s ao w) {v:Value} {y:Nat} {q:List Nat} (aG:ay w F s ao (.h y q) v (fun _=>False)) {sz:Nat} {xs:List I} (ae:I.sub q (s y)=some (.aE sz xs)):
  (xs=[]∧∃a,v= .slice a 0 0)∨∃b cap cur e fr,v= .slice (some ⟨b,0,none⟩) xs.length cap∧w.heap[b]? =some (.cells cur e fr)∧ou fr cur.size∧xs.length≤cap∧cap≤maxLen∧cur.size=cap*sz∧(∀d∈xs,d.wd=sz)∧
   ∃aF,aN w F xs (cur.toList.take (xs.length*sz)) aF∧(∀c,aF c→S y c)∧S y b:=by
 rw[ay]at aG
 obtain⟨bR,a,g1,g2,g3⟩:=aG _ ae rfl
 have U:Value.eO v=true:=g3
 rw[eU U]at g2;subst g2
 have aq:=h.cj y
 rw[ay.bM (fE ae (.inl rfl))]at aq
 obtain⟨ed,bU,cQ,dz,k0,bz,bK,df,cx,dB⟩:=ctx q (s y) (bx (ao y)) (S y) none _ aq.2 ae
 rw[k0]at g1
 simp only[Option.some.injEq,Prod.mk.injEq,true_and]at g1
 obtain⟨rfl,rfl⟩:=g1
 rw[an]at cx
 rcases cx with⟨rfl,a2,ad⟩|⟨b,cap,cur,aJ,fr,cu,aK,b0,b_,bw,bn,gC,iw,ix,kS,hx,eJ⟩
 ·simp at ad;exact .inl ⟨rfl,_,ad⟩
 ·simp at aK
  exact .inr ⟨b,cap,cur,aJ,fr,aK,b_,bw,bn,gC,iw,ix,cu,kS,fun c ai=>bK _ (hx c ai),bK _ b0⟩
theorem BD (h:bb w0 F0 X F S s ao w) {v:Value} {y:Nat} {q:List Nat} (aG:ay w F s ao (.h y q) v (fun _=>False)) {d:I} (ae:I.sub q (s y)=some (.a_ d)):
  ∃b cur e fr,v= .pointer (some ⟨b,0,none⟩)∧w.heap[b]? =some (.cells cur e fr):=by
 rw[ay]at aG
 obtain⟨bR,a,g1,g2,g3⟩:=aG _ ae rfl
 have U:Value.eO v=true:=g3
 rw[eU U]at g2;subst g2
 have aq:=h.cj y
 rw[ay.bM (fE ae (.inl rfl))]at aq
 obtain⟨ed,bU,cQ,dz,k0,bz,bK,df,cx,dB⟩:=ctx q (s y) (bx (ao y)) (S y) none _ aq.2 ae
 rw[k0]at g1
 simp only[Option.some.injEq,Prod.mk.injEq,true_and]at g1
 obtain⟨rfl,rfl⟩:=g1
 rw[an]at cx
 obtain⟨b,cur,aJ,fr,cu,aK,b0,b_,_⟩:=cx
 simp at aK
 exact⟨b,cur,aJ,fr,aK,b_⟩
theorem BE {P:Program} {T e:TypeId} (aO:P.underlying T=some (.slice e)) (w:World):∀d,(Op.equalIn (d+1) T (.slice none 0 0) (.slice none 0 0)).run P w= .ok true w∧
  ∀a n c,(Op.equalIn (d+1) T (.slice (some a) n c) (.slice none 0 0)).run P w= .ok false w:=by
 intro d
 refine⟨by simp[Op.equalIn,run_underlying aO],fun a n c=>by simp[Op.equalIn,run_underlying aO]⟩
theorem BF {P:Program} {T e:TypeId} (aO:P.underlying T=some (.pointer e)) (w:World):∀d,(Op.equalIn (d+1) T (.pointer none) (.pointer none)).run P w= .ok true w∧
  ∀a,(Op.equalIn (d+1) T (.pointer (some a)) (.pointer none)).run P w= .ok false w:=by
 intro d
 refine⟨by simp[Op.equalIn,run_underlying aO],fun a=>by simp[Op.equalIn,run_underlying aO]⟩
theorem BG {P:Program} {T:TypeId} (aO:P.underlying T=some .bool) (w:World):∀d a b,(Op.equalIn (d+1) T (.bool a) (.bool b)).run P w= .ok (a==b) w:=by
 intro d a b
 simp[Op.equalIn,run_underlying aO]
theorem BH (h:bb w0 F0 X F S s ao w) {x:I} {v:Value} (aG:ay w F s ao x v (fun _=>False)) {T e:TypeId} {r:Option Bool} (aD:ho s x=some r) (aO:C.P.underlying T=some (.slice e)):
  ∃b,(Op.equal T v (.slice none 0 0)).run C.P w= .ok b w∧(∀dQ,r=some dQ→dQ=b)∧Value.eO v=true∧∃a n c,v= .slice a n c:=by
 have aH:=fun a n c=>(BE aO w 9999).2 a n c
 have eY:=(BE aO w 9999).1
 cases x with
 |bD=>
  have:=nN aG;subst this
  simp[ho]at aD;subst aD
  exact⟨true,eY,by simp,rfl,_,_,_,rfl⟩
 |slice xs=>
  have aS:=(ay.bM rfl).1 aG
  rw[an,eU aS.1]at aS
  simp only[ho,Option.some.injEq]at aD
  obtain⟨_,⟨rfl,a,c,ad,_,pF⟩|⟨b,o,cap,cU,sz,ad,aB⟩⟩:=aS
  ·simp at ad aD;subst ad;subst aD
   cases a with
   |none=>
    have:=pF rfl;subst this
    exact⟨true,eY,by simp,rfl,_,_,_,rfl⟩
   |some a=>exact⟨false,aH _ _ _,by simp,rfl,_,_,_,rfl⟩
  ·simp at ad;subst ad
   refine⟨false,aH _ _ _,?_,rfl,_,_,_,rfl⟩
   subst aD
   split<;>simp
 |h y q=>
  simp only[ho]at aD
  split at aD
  ·rename_i sz xs ae
   simp only[Option.some.injEq]at aD
   rcases x8 h aG ae with⟨rfl,a,rfl⟩|⟨b,cap,cur,aJ,fr,rfl,_⟩
   ·simp at aD;subst aD
    cases a with
    |none=>exact⟨true,eY,by simp,rfl,_,_,_,rfl⟩
    |some a=>exact⟨false,aH _ _ _,by simp,rfl,_,_,_,rfl⟩
   ·refine⟨false,aH _ _ _,?_,rfl,_,_,_,rfl⟩
    subst aD
    split<;>simp
  ·cases aD
 |_=>simp[ho]at aD
theorem BI (h:bb w0 F0 X F S s ao w) {x:I} {v:Value} (aG:ay w F s ao x v (fun _=>False)) {T e:TypeId} {r:Bool} (aD:i1 s x=some r) (aO:C.P.underlying T=some (.pointer e)):
  (Op.equal T v (.pointer none)).run C.P w= .ok r w∧∃a,v= .pointer a:=by
 have aH:=fun a=>(BF aO w 9999).2 a
 have eY:=(BF aO w 9999).1
 cases x with
 |ct=>
  have:=BB aG;subst this
  simp[i1]at aD;subst aD
  exact⟨eY,_,rfl⟩
 |ref d=>
  have aS:=(ay.bM rfl).1 aG
  rw[an,eU aS.1]at aS
  simp[i1]at aD;subst aD
  obtain⟨_,b,o,cU,ad,_⟩:=aS
  simp at ad;subst ad
  exact⟨aH _,_,rfl⟩
 |h y q=>
  simp only[i1]at aD
  split at aD
  ·rename_i d ae
   simp only[Option.some.injEq]at aD;subst aD
   obtain⟨b,cur,e,fr,rfl,_⟩:=BD h aG ae
   exact⟨aH _,_,rfl⟩
  ·cases aD
 |_=>simp[i1]at aD
theorem H_ (aU:C.dn):∀(ag:List (TypeId×Nat)) (gs:List Field) (n:Nat) (ds es:List I) (r:Bool) (e4 l2 bJ c2:List Value) (xs bG:Array Value) (bo cu:Nat→Prop),
  gs.map (fun g=>(g.type,g.offset))=ag→(gs.all fun f=>decide (f.name≠ "_"))=true→lB C ag n ds es=some r→aN w F ds bJ bo→aN w F es c2 cu→xs.toList=e4++bJ→e4.length=n→bG.toList=l2++c2→l2.length=n→
  ∀m,(Op.eqFields (m+1) xs bG gs).run C.P w= .ok r w:=by
 intro ag
 induction ag with
 |nil=>
  intro gs n ds es r e4 l2 bJ c2 xs bG bo cu hg aW he ab ad aq hl hy x9 m
  have:gs=[]:=by simpa using hg
  subst this
  cases ds<;>cases es<;>simp[lB]at he
  subst he
  simp[Op.eqFields]
 |cons p ag ih=>
  obtain⟨hn,off⟩:=p
  intro gs n ds es r e4 l2 bJ c2 xs bG bo cu hg aW he ab ad aq hl hy x9 m
  cases gs with
  |nil=>simp at hg
  |cons g gs=>
   simp only[List.map_cons,List.cons.injEq,Prod.mk.injEq]at hg
   obtain⟨⟨rfl,rfl⟩,hg⟩:=hg
   simp only[List.all_cons,Bool.and_eq_true,decide_eq_true_eq]at aW
   cases ds with
   |nil=>simp[lB]at he
   |cons d ds=>
   cases es with
   |nil=>simp[lB]at he
   |cons e es=>
   simp only[lB]at he
   split at he
   ·rename_i mM
    rw[aN]at ab ad
    obtain⟨ah,a2,vc,x_,rfl,ee,e7,fX,BJ,en⟩:=ab
    obtain⟨jR,gQ,abe,Ia,rfl,e_,eB,gR,gS,oA⟩:=ad
    have step:∀(x y:Value) (z:Bool),(C.T g.type).flat=true→ah=[x]→jR=[y]→(∀m,(Op.equalIn (m+1) g.type x y).run C.P w= .ok z w)→∀fl,lB C ag (n+1) ds es=some fl→
      (Op.eqFields (m+1) xs bG (g::gs)).run C.P w= .ok (z&&fl) w:=by
     intro x y z gP Ib Ic heq fl c1
     subst Ib;subst Ic
     have Ie:xs[g.offset]? =some x:=by
      rw[←Array.getElem?_toList,aq,mM,←hl,List.getElem?_append_right (Nat.le_refl _)];simp
     have Ig:bG[g.offset]? =some y:=by
      rw[←Array.getElem?_toList,hy,mM,←x9,List.getElem?_append_right (Nat.le_refl _)];simp
     have aA:=ih gs (n+1) ds es fl (e4++[x]) (l2++[y]) a2 gQ xs bG x_ Ia hg aW.2 c1 e7 eB (by rw[aq];simp) (by simp[hl]) (by rw[hy];simp) (by simp[x9]) m
     unfold Op.eqFields
     rw[if_pos aW.1]
     simp only[part,Sem.run_bind,x4 aU gP,Result.andThen_ok,Bool.false_eq_true,if_false,Ie,Ig,Sem.run_pure,heq]
     cases z
     ·simp
     ·simpa using aA
    split at he
    ·rename_i k bz a bK b al
     split at he
     ·rename_i Ih
      obtain⟨rfl,rfl⟩:=Ih
      rw[an]at ee e_
      simp only[Option.map_eq_some_iff]at he
      obtain⟨fl,c1,rfl⟩:=he
      obtain⟨i,sV,BK,aH,aJ,aK,b0,b_,bw,bn⟩:=aU.info (eg al (by simp))
      rw[al]at bn
      have pG:=sQ bn
      subst pG
      exact step _ _ _ (by simp[eC.flat,al]) ee e_ (fun m=>run_equalIn_int w m g.type _ _ a b bw) fl c1
     ·cases he
    ·rename_i a b al
     rw[an]at ee e_
     simp only[Option.map_eq_some_iff]at he
     obtain⟨fl,c1,rfl⟩:=he
     obtain⟨i,sV,BK,aH,aJ,aK,b0,b_,bw,bn⟩:=aU.info (eg al (by simp))
     rw[al]at bn
     have pG:=xZ bn
     subst pG
     exact step _ _ _ (by simp[eC.flat,al]) ee e_ (fun m=>run_equalIn_bool' w m g.type a b bw) fl c1
    ·rename_i a b al
     rw[an]at ee e_
     simp only[Option.map_eq_some_iff]at he
     obtain⟨fl,c1,rfl⟩:=he
     obtain⟨i,sV,BK,aH,aJ,aK,b0,b_,bw,bn⟩:=aU.info (eg al (by simp))
     rw[al]at bn
     have pG:=mK bn
     subst pG
     refine step _ _ (a==b) (by simp[eC.flat,al]) ee e_ (fun m=> ?_) fl c1
     rw[run_equalIn_string w m g.type _ _ bw,sU,sU]
    ·cases he
   ·cases he
theorem BL (aU:C.dn) {T:TypeId} {ag:List (TypeId×Nat)} (al:(C.T T).k= .struct ag) {ds es:List I} {fF gr:Value} {bo cu:Nat→Prop} {r:Bool} (aq:ay w F s ao (.agg ds) fF bo) (hy:ay w F s ao (.agg es) gr cu)
  (cf:structEq C.P T=true) (he:lB C ag 0 ds es=some r) (op:BinOp) (sW sX:Operand):
  (eqGuard op T sW sX fF gr).run C.P w= .ok () w∧(Op.equal T fF gr).run C.P w= .ok r w:=by
 obtain⟨i,d,z,aH,aJ,aK,b0,b_,bw,bn⟩:=aU.info (eg al (by simp))
 rw[al]at bn
 obtain⟨gs,rfl,gC⟩:=sP bn
 have sY:C.P.fieldsOf T=gs:=by simp[Program.fieldsOf,bw]
 simp only[structEq,Bool.and_eq_true,Bool.not_eq_true',sY]at cf
 obtain⟨⟨e_,eB⟩,gR⟩:=cf
 obtain⟨⟨xs,rfl⟩,qR⟩:=(ay.bM rfl).1 aq
 obtain⟨⟨bG,rfl⟩,py⟩:=(ay.bM rfl).1 hy
 rw[an]at qR py
 constructor
 ·cases op<;>simp[eqGuard,eB]
 ·show(Op.equalIn (9999+1) T _ _).run C.P w=_
  rw[run_equalIn_struct w 9999 T xs bG (by rw[sY];exact bw) e_,sY]
  exact H_ aU ag gs.toList 0 ds es r [] [] _ _ xs bG bo cu gC gR he qR py rfl rfl rfl rfl 9998
theorem Ii (aU:C.dn) (h:bb w0 F0 X F S s ao w) {op:BinOp} {T:TypeId} {x y:I} {fF gr:Value} (sW sX:Operand) (aq:ay w F s ao x fF (fun _=>False)) (hy:ay w F s ao y gr (fun _=>False))
  (he:bB C s op T x y=some av):Good C w0 F0 X ao w (do eqGuard op T sW sX fF gr;binOp op T fF gr) av s:=by
 unfold bB at he
 split at he
 ·have:=kn aq;subst this
  have:=kn hy;subst this
  obtain⟨v,ab,ad⟩:=H7 (P:=C.P) (T:=T) he w
  refine Good.same h (v:=v) ?_ ?_ ad
  ·rw[eqGuard_at_int];exact ab
  ·revert he;unfold gD;cases op<;>simp only<;>split<;>simp<;>(rintro rfl;rfl)
 ·have:=jQ aq;subst this
  have:=jQ hy;subst this
  obtain⟨v,ab,ad⟩:=H9 (P:=C.P) (T:=T) he w
  refine Good.same h (v:=v) ?_ ?_ ad
  ·rw[eqGuard_at_string];exact ab
  ·revert he;unfold kR;cases op<;>simp only<;>(try split)<;>simp<;>(try (rintro rfl;rfl))
 ·have:=oz aq;subst this
  have:=oz hy;subst this
  split at he
  ·rename_i al
   simp only[Option.some.injEq]at he;subst he
   obtain⟨i,d,z,aH,aJ,aK,b0,b_,bw,bn⟩:=aU.info (eg al (by simp))
   rw[al]at bn
   have:=xZ bn;subst this
   refine Good.same h ?_ rfl (of_bool _)
   rw[eqGuard_at_bool]
   simp[binOp,Op.equal,Op.maxDepth,BG bw w 9999]
  ·rename_i al
   simp only[Option.some.injEq]at he;subst he
   obtain⟨i,d,z,aH,aJ,aK,b0,b_,bw,bn⟩:=aU.info (eg al (by simp))
   rw[al]at bn
   have:=xZ bn;subst this
   refine Good.same h ?_ rfl (of_bool _)
   rw[eqGuard_at_bool]
   simp[binOp,Op.equal,Op.maxDepth,BG bw w 9999]
  ·cases he
 ·split at he
  ·rename_i ag al
   split at he
   ·rename_i cf
    simp only[Option.map_eq_some_iff]at he
    obtain⟨r,aD,rfl⟩:=he
    obtain⟨g1,g2⟩:=BL aU al aq hy cf aD .eql sW sX
    obtain⟨⟨xs,rfl⟩,_⟩:=(ay.bM rfl).1 aq
    obtain⟨⟨bG,rfl⟩,_⟩:=(ay.bM rfl).1 hy
    exact Good.same h (by simp[g1,binOp,g2]) rfl (of_bool _)
   ·cases he
  ·rename_i ag al
   split at he
   ·rename_i cf
    simp only[Option.map_eq_some_iff]at he
    obtain⟨r,aD,rfl⟩:=he
    obtain⟨g1,g2⟩:=BL aU al aq hy cf aD .neq sW sX
    obtain⟨⟨xs,rfl⟩,_⟩:=(ay.bM rfl).1 aq
    obtain⟨⟨bG,rfl⟩,_⟩:=(ay.bM rfl).1 hy
    exact Good.same h (by simp[g1,binOp,g2]) rfl (of_bool _)
   ·cases he
  ·cases he
 ·have:=nN hy;subst this
  split at he
  ·rename_i e al
   simp only[Option.map_eq_some_iff]at he
   obtain⟨r,aD,rfl⟩:=he
   obtain⟨i,d,z,aH,aJ,aK,b0,b_,bw,bn⟩:=aU.info (eg al (by simp))
   rw[al]at bn
   have:=iW bn;subst this
   obtain⟨b,ab,ad,aB,a0,cp,c0,rfl⟩:=BH h aq aD bw
   refine Good.same h (v:=.bool b) ?_ ?_ ?_
   ·rw[eqGuard_at_slice]
    simp[binOp,ab]
   ·cases r<;>rfl
   ·cases r with
    |none=>exact x7 b
    |some dQ=>have:=ad dQ rfl;subst this;simp only[mb,Bool.bne_false];exact of_bool _
  ·rename_i e al
   simp only[Option.map_eq_some_iff]at he
   obtain⟨r,aD,rfl⟩:=he
   obtain⟨i,d,z,aH,aJ,aK,b0,b_,bw,bn⟩:=aU.info (eg al (by simp))
   rw[al]at bn
   have:=iW bn;subst this
   obtain⟨b,ab,ad,aB,a0,cp,c0,rfl⟩:=BH h aq aD bw
   refine Good.same h (v:=.bool !b) ?_ ?_ ?_
   ·rw[eqGuard_at_slice]
    simp[binOp,ab]
   ·cases r<;>rfl
   ·cases r with
    |none=>exact x7 _
    |some dQ=>have:=ad dQ rfl;subst this;simp only[mb,Bool.bne_true];exact of_bool _
  ·cases he
 ·have:=BB hy;subst this
  split at he
  ·rename_i e al
   simp only[Option.map_eq_some_iff]at he
   obtain⟨r,aD,rfl⟩:=he
   obtain⟨i,d,z,aH,aJ,aK,b0,b_,bw,bn⟩:=aU.info (eg al (by simp))
   rw[al]at bn
   have:=Bp bn;subst this
   obtain⟨ab,a0,rfl⟩:=BI h aq aD bw
   refine Good.same h (v:=.bool r) ?_ rfl (of_bool _)
   rw[eqGuard_at_pointer]
   simp[binOp,ab]
  ·rename_i e al
   simp only[Option.map_eq_some_iff]at he
   obtain⟨r,aD,rfl⟩:=he
   obtain⟨i,d,z,aH,aJ,aK,b0,b_,bw,bn⟩:=aU.info (eg al (by simp))
   rw[al]at bn
   have:=Bp bn;subst this
   obtain⟨ab,a0,rfl⟩:=BI h aq aD bw
   refine Good.same h (v:=.bool !r) ?_ rfl (of_bool _)
   rw[eqGuard_at_pointer]
   simp[binOp,ab]
  ·cases he
 ·cases he
end
section
variable {C:bt} {w0 w:World} {F0 X F:Nat→Prop} {S:Nat→Nat→Prop} {s s1:aj} {ao:Nat→Value} {av:I}
def un (op:UnOp) (x:I):Option I:=
 match op,x with
 | .not,.bool b=>some (.bool !b)
 | .not,.dk=>some .dk
 | .neg,.int k n=>some (.int k (k.wrap (0-n)))
 |_,_=>none
theorem Ij (h:bb w0 F0 X F S s ao w) {op:UnOp} {x:I} {v:Value} (aG:ay w F s ao x v (fun _=>False)) (he:un op x=some av):Good C w0 F0 X ao w (Op.unary op v) av s:=by
 unfold un at he
 split at he<;>first|(cases he;done)|(simp only[Option.some.injEq]at he;subst he)
 ·have:=oz aG;subst this
  exact Good.same h rfl rfl (of_bool _)
 ·obtain⟨b,rfl⟩:=BC aG
  exact Good.same h rfl rfl (x7 _)
 ·have:=kn aG;subst this
  exact Good.same h rfl rfl (of_int _ _)
def ew (s:aj) (x:I):Option I:=
 match x with
 | .ref d=>some (.ref d)
 | .fn f c=>some (.fn f c)
 | .h y q=>match I.sub q (s y)with
   |some (.a_ _)=>some (.h y q)
   |_=>none
 |_=>none
theorem Ik {d:I} {v:Value} {aF:Nat→Prop} (h:ay w F s ao (.ref d) v aF):∃b o cU,v= .pointer (some ⟨b,o,none⟩)∧F b∧fA w b o cU∧an w F d cU (fun _=>False):=by
 have aS:=(ay.bM rfl).1 h
 rw[an,eU aS.1]at aS
 obtain⟨_,b,o,cU,ab,ad,aB,aR⟩:=aS
 simp at ab;subst ab
 exact⟨b,o,cU,rfl,ad,aB,aR⟩
theorem Il (h:bb w0 F0 X F S s ao w) {x:I} {v:Value} (aG:ay w F s ao x v (fun _=>False)) (he:ew s x=some av):
  av=x∧x.plain=true∧((∃a,v= .pointer (some a))∨∃f c,v= .func (.func f) #[] c):=by
 unfold ew at he
 split at he
 ·simp only[Option.some.injEq]at he;subst he
  obtain⟨b,o,cU,rfl,_⟩:=Ik aG
  exact⟨rfl,rfl,.inl ⟨_,rfl⟩⟩
 ·simp only[Option.some.injEq]at he;subst he
  rw[ay]at aG
  obtain⟨arr,rfl,_⟩:=aG
  exact⟨rfl,rfl,.inr ⟨_,_,rfl⟩⟩
 ·split at he
  ·rename_i d ae
   simp only[Option.some.injEq]at he;subst he
   obtain⟨b,cur,e,fr,rfl,_⟩:=BD h aG ae
   exact⟨rfl,rfl,.inl ⟨_,rfl⟩⟩
  ·cases he
 ·cases he
def ex (s:aj) (x:I) (k:Nat):Option I:=
 match x with
 | .tuple ds=>match ds[k]? with
   |some d=>if d.plain=true then some d else none
   |none=>none
 | .h y q=>match I.sub q (s y)with
   |some (.tuple ds)=>match ds[k]? with
    |some d=>if I.ef ds=true then none else some (if d.plain then d else .h y (q++[k]))
    |none=>none
   |_=>none
 |_=>none
theorem BM:∀(vs:List Value) (k:Nat) (x:Value) (ds:List I),vs[k]? =some x→vs.length=ds.length→(∀(j:Nat) (d:I) (y:Value),ds[j]? =some d→vs[j]? =some y→(fD y).length=d.wd)→
  ∃l r,vs.flatMap fD=l++(fD x++r)∧l.length=I.cO (ds.take k)
 |[],k,x,ds,h,_,_=>by simp at h
 |v::vs,0,x,ds,h,hl,hw=>by
  simp at h;subst h
  exact⟨[],vs.flatMap fD,by simp,by simp[I.cO]⟩
 |v::vs,k+1,x,d::ds,h,hl,hw=>by
  obtain⟨l,r,aH,aJ⟩:=BM vs k x ds (by simpa using h) (by simpa using hl) (fun j d y ab ad=>hw (j+1) d y (by simpa using ab) (by simpa using ad))
  refine⟨fD v++l,r,by simp[aH],?_⟩
  have:=hw 0 d v (by simp) (by simp)
  simp[I.cO,aJ,this]
 |v::vs,k+1,x,[],h,hl,hw=>by simp at hl
theorem Im {d:I} {v:Value} (h:fY d v) (_hd:∀vs,d≠.tuple vs):bx v=fD v:=by
 cases d with
 |agg ag=>obtain⟨arr,rfl⟩:=h;rfl
 |_=>
  have ab:Value.eO v=true:=h
  cases v<;>first|rfl|(simp[Value.eO]at ab)
theorem Io {d:I} {v:Value} (h:fY d v) (ae:∀vs,d≠.tuple vs):cA d v:=by
 cases d with
 |tuple vs=>exact(ae _ rfl).elim
 |_=>exact h
theorem Ip (h:bb w0 F0 X F S s ao w) {x:I} {v:Value} {k:Nat} (aG:ay w F s ao x v (fun _=>False)) (he:ex s x k=some av):Good C w0 F0 X ao w (Instr.extract v k) av s:=by
 have pick:∀(ds:List I) (d:I) (arr:Array Value),ds[k]? =some d→(arr.size=ds.length∧∀(k:Nat) (d:I) (x:Value),ds[k]? =some d→arr[k]? =some x→fY d x∧(∀vs,d≠.tuple vs)∧(fD x).length=d.wd)→
   ∃x,arr[k]? =some x∧cA d x∧((bx (.tuple arr)).drop (I.cO (ds.take k))).take d.wd=bx x:=by
  intro ds d arr ae ⟨bp,h5⟩
  have c_:k<arr.size:=by rw[bp];exact(List.getElem?_eq_some_iff.1 ae).1
  have aq:arr[k]? =some arr[k]:=Array.getElem?_eq_getElem c_
  obtain⟨g1,g2,g3⟩:=h5 k d _ ae aq
  obtain⟨l,r,aH,aJ⟩:=BM arr.toList k arr[k] ds (by simp[c_]) (by simpa using bp) (fun j d y ab ad=>(h5 j d y ab (by simpa using ad)).2.2)
  refine⟨_,aq,Io g1 g2,?_⟩
  rw[Im g1 g2]
  simp only[bx]
  rw[aH]
  exact pq l _ r _ _ aJ g3
 unfold ex at he
 split at he
 ·rename_i ds
  split at he
  ·rename_i d ae
   split at he
   ·rename_i ak
    simp only[Option.some.injEq]at he;subst he
    have aS:=(ay.bM rfl).1 aG
    obtain⟨⟨arr,rfl,bp⟩,eP⟩:=aS
    obtain⟨x,aq,U,ai⟩:=pick ds d arr ae bp
    have aD:(Instr.extract (.tuple arr) k).run C.P w= .ok x w:=by simp[Instr.extract,aq]
    rw[an]at eP
    obtain⟨bJ,eb,c2,bo,fC,e,ft,ee,e7,fX,en,jN⟩:=aN.pick ds _ _ k d eP ae
    rw[e,pq bJ eb c2 _ _ ft (an.length _ _ _ en)]at ai
    by_cases aO:d.tree=true
    ·exact Good.same h aD ak ((ay.bM aO).2 ⟨U,by rw[←ai];exact an.plain _ _ _ _ ak en⟩)
    ·cases d<;>first|exact(aO rfl).elim|(rw[an]at en;exact en.elim)|exact Good.same h aD rfl (by rw[ay];trivial)|(have ba:=an.plain _ _ _ (fun _=>False) ak en;rw[ai,eU (by exact U)]at ba;exact Good.same h aD rfl (ay.mN _ _ rfl ba))
   ·cases he
  ·cases he
 ·rename_i y q
  split at he
  ·rename_i ds ae
   split at he
   ·rename_i d al
    split at he
    ·cases he
    ·rename_i fi
     simp only[Option.some.injEq]at he
     have fi:(I.tuple ds).plain=false:=by simpa [I.plain]using fi
     rw[ay]at aG
     obtain⟨bR,a,g1,g2,g3⟩:=aG _ ae fi
     obtain⟨arr,rfl,bp⟩:=g3
     obtain⟨x,aq,U,ai⟩:=pick ds d arr al bp
     have aD:(Instr.extract (.tuple arr) k).run C.P w= .ok x w:=by simp[Instr.extract,aq]
     have hy:=h.cj y
     rw[ay.bM (fE ae (.inl fi))]at hy
     obtain⟨ed,bU,cQ,dz,k0,bz,bK,df,cx,dB⟩:=ctx q (s y) (bx (ao y)) (S y) none _ hy.2 ae
     rw[k0]at g1
     simp only[Option.some.injEq,Prod.mk.injEq,true_and]at g1
     obtain⟨rfl,rfl⟩:=g1
     rw[g2]at ai
     split at he
     ·rename_i ak
      subst he
      rw[an]at cx
      obtain⟨bJ,eb,c2,bo,fC,e,ft,ee,e7,fX,en,jN⟩:=aN.pick ds _ _ k d cx al
      rw[e,pq bJ eb c2 _ _ ft (an.length _ _ _ en)]at ai
      by_cases aO:d.tree=true
      ·exact Good.same h aD ak ((ay.bM aO).2 ⟨U,by rw[←ai];exact an.plain _ _ _ _ ak en⟩)
      ·cases d<;>first|exact(aO rfl).elim|(rw[an]at en;exact en.elim)|exact Good.same h aD rfl (by rw[ay];trivial)|(have ba:=an.plain _ _ _ (fun _=>False) ak en;rw[ai,eU (by exact U)]at ba;exact Good.same h aD rfl (ay.mN _ _ rfl ba))
     ·subst he
      refine Good.same h aD rfl ?_
      rw[ay]
      intro d2 e8 sL
      rw[sO w q _ _ _ _ _ _ [k] k0]
      rw[sN _ _ _ _ ae]at e8
      simp only[I.sub,al,Option.some.injEq]at e8
      subst e8
      simp only[cg,al]
      exact⟨_,_,rfl,ai.symm,U⟩
   ·cases he
  ·cases he
 ·cases he
def jS (C:bt) (s:aj) (T:TypeId) (x:I) (k:Nat):Option I:=
 match(C.T T).k with
 | .struct ag=>match ag[k]? with
   |some (hn,off)=>match x with
    | .agg ds=>match ds[k]? with
      |some d=>if I.cO (ds.take k)=off∧fits C hn d=true∧d.plain=true∧d.tree=true then some d else none
      |none=>none
    | .h y q=>match I.sub q (s y)with
      |some (.agg ds)=>match ds[k]? with
       |some d=>if I.cO (ds.take k)=off∧fits C hn d=true∧I.ef ds=false∧d.tree=true then some (if d.plain then d else .h y (q++[k]))else none
       |none=>none
      |_=>none
    |_=>none
   |none=>none
 |_=>none
theorem Iq (aU:C.dn) (h:bb w0 F0 X F S s ao w) {T:TypeId} {x:I} {v:Value} {k:Nat} (aG:ay w F s ao x v (fun _=>False)) (he:jS C s T x k=some av):Good C w0 F0 X ao w (Instr.field T v k) av s:=by
 have key:∀(ag:List (TypeId×Nat)) (hn:TypeId) (off:Nat),(C.T T).k= .struct ag→ag[k]? =some (hn,off)→∀(ds:List I) (d:I) (arr:Array Value) (aF:Nat→Prop),ds[k]? =some d→I.cO (ds.take k)=off→fits C hn d=true→aN w F ds arr.toList aF→
   ∃x fC,(Instr.field T (.agg arr) k).run C.P w= .ok x w∧cA d x∧an w F d (bx x) fC∧(arr.toList.drop off).take d.wd=bx x:=by
  intro ag hn off al bk ds d arr aF ae mM fP eP
  obtain⟨i,sV,z,aH,aJ,aK,b0,b_,bw,bn⟩:=aU.info (eg al (by simp))
  rw[al]at bn
  obtain⟨gs,rfl,gC⟩:=sP bn
  obtain⟨g,g1,rfl,rfl⟩:∃g,gs[k]? =some g∧g.type=hn∧g.offset=off:=by
   rw[←gC,List.getElem?_map]at bk
   simp only[Option.map_eq_some_iff,Prod.mk.injEq]at bk
   obtain⟨g,ab,ad,aB⟩:=bk
   exact⟨g,by simpa using ab,ad,aB⟩
  obtain⟨bJ,eb,c2,bo,fC,e,ft,ee,e7,fX,en,jN⟩:=aN.pick ds _ _ k d eP ae
  obtain⟨x,aD,BN,kl⟩:=HV (w:=w) aU e (ft.trans mM) en fP
  refine⟨x,fC,?_,kl,by rw[BN];exact en,?_⟩
  ·simp[Instr.field,run_underlying bw,g1,asAgg,aD]
  ·rw[e,BN,←mM];exact pq bJ eb c2 _ _ ft (an.length _ _ _ en)
 have BO:∀(d:I) (x:Value) (fC:Nat→Prop),d.plain=true→cA d x→an w F d (bx x) fC→ay w F s ao d x (fun _=>False):=by
  intro d x fC ak U eP
  by_cases aO:d.tree=true
  ·exact(ay.bM aO).2 ⟨U,an.plain _ _ _ _ ak eP⟩
  ·cases d<;>first|exact(aO rfl).elim|(rw[an]at eP;exact eP.elim)|(rw[ay];trivial)|(have ba:=an.plain _ _ _ (fun _=>False) ak eP;rw[eU (by exact U)]at ba;exact ay.mN _ _ rfl ba)
 unfold jS at he
 split at he
 ·rename_i ag al
  split at he
  ·rename_i hn off bk
   split at he
   ·rename_i ds
    split at he
    ·rename_i d ae
     split at he
     ·rename_i ai
      simp only[Option.some.injEq]at he;subst he
      obtain⟨⟨arr,rfl⟩,eP⟩:=(ay.bM rfl).1 aG
      rw[an]at eP
      obtain⟨x,fC,aD,U,ya,_⟩:=key ag hn off al bk ds d arr _ ae ai.1 ai.2.1 eP
      exact Good.same h aD ai.2.2.1 (BO d x fC ai.2.2.1 U ya)
     ·cases he
    ·cases he
   ·rename_i y q
    split at he
    ·rename_i ds ae
     split at he
     ·rename_i d ox
      split at he
      ·rename_i ai
       simp only[Option.some.injEq]at he
       have fi:(I.agg ds).plain=false:=by simpa [I.plain]using ai.2.2.1
       rw[ay]at aG
       obtain⟨bR,a,g1,g2,g3⟩:=aG _ ae fi
       obtain⟨arr,rfl⟩:=g3
       have hy:=h.cj y
       rw[ay.bM (fE ae (.inl fi))]at hy
       obtain⟨ed,bU,cQ,dz,k0,bz,bK,df,cx,dB⟩:=ctx q (s y) (bx (ao y)) (S y) none _ hy.2 ae
       rw[k0]at g1
       simp only[Option.some.injEq,Prod.mk.injEq,true_and]at g1
       obtain⟨rfl,rfl⟩:=g1
       rw[an,←g2]at cx
       obtain⟨x,fC,aD,U,ya,hS⟩:=key ag hn off al bk ds d arr _ ox ai.1 ai.2.1 cx
       by_cases ak:d.plain=true
       ·rw[if_pos ak]at he;subst he
        exact Good.same h aD ak (BO d x fC ak U ya)
       ·rw[if_neg ak]at he;subst he
        refine Good.same h aD rfl ?_
        rw[ay]
        intro d2 e8 sL
        rw[sO w q _ _ _ _ _ _ [k] k0]
        rw[sN _ _ _ _ ae]at e8
        simp only[I.sub,ox,Option.some.injEq]at e8
        subst e8
        simp only[cg,ox]
        refine⟨_,_,rfl,?_,U⟩
        rw[ai.1,←g2];exact hS.symm
      ·cases he
     ·cases he
    ·cases he
   ·cases he
  ·cases he
 ·cases he
end
section
variable {C:bt} {w0 w:World} {F0 X F:Nat→Prop} {S:Nat→Nat→Prop} {s s1:aj} {ao:Nat→Value} {av:I}
def idx (C:bt) (T:TypeId) (x i:I):Option I:=
 match(C.T T).k,x,i with
 | .str,.str l,.int _ n=>if 0≤n then(match l[n.toNat]? with|some b=>some (.int .u8 b.toNat)|none=>none)else none
 |_,_,_=>none
theorem Ir (l:List UInt8) (n:Nat):(⟨⟨l⟩⟩:ByteArray)[n]? =l[n]? :=by
 by_cases h:n<l.length
 ·have aS:n<(⟨⟨l⟩⟩:ByteArray).size:=h
  rw[List.getElem?_eq_getElem h,getElem?_pos (⟨⟨l⟩⟩:ByteArray) n aS]
  rfl
 ·have aS:¬n<(⟨⟨l⟩⟩:ByteArray).size:=h
  rw[List.getElem?_eq_none (by omega),getElem?_neg (⟨⟨l⟩⟩:ByteArray) n aS]
theorem Is (aU:C.dn) (h:bb w0 F0 X F S s ao w) {T:TypeId} {x i:I} {v lA:Value} (aG:ay w F s ao x v (fun _=>False)) (aA:ay w F s ao i lA (fun _=>False)) (he:idx C T x i=some av):
  Good C w0 F0 X ao w (Instr.index T v lA) av s:=by
 unfold idx at he
 split at he
 ·rename_i l k n al
  have:=jQ aG;subst this
  have:=kn aA;subst this
  obtain⟨i,d,z,aH,aJ,aK,b0,b_,bw,bn⟩:=aU.info (eg al (by simp))
  rw[al]at bn
  have:=mK bn;subst this
  split at he
  ·rename_i aW
   split at he
   ·rename_i b R
    simp only[Option.some.injEq]at he;subst he
    refine Good.same h ?_ rfl (of_int _ _)
    simp[Instr.index,asIntOf,run_underlying bw,aW,Ir,R]
   ·cases he
  ·cases he
 ·cases he
def lenOf (s:aj):I→Option Nat
 | .str l=>some l.length
 | .bD=>some 0
 | .slice xs=>some xs.length
 | .h y q=>match I.sub q (s y)with
   |some (.aE _ xs)=>some xs.length
   |_=>none
 |_=>none
def jT (C:bt) (s:aj) (T:TypeId) (x:I):Option I:=
 match(C.T T).k,x with
 | .str,.str l=>some (.int .i64 l.length)
 | .slice _,.bD=>some (.int .i64 0)
 | .slice _,.slice xs=>some (.int .i64 xs.length)
 | .slice _,.h y q=>match I.sub q (s y)with
   |some (.aE _ xs)=>some (.int .i64 xs.length)
   |_=>none
 |_,_=>none
theorem vd {xs:List I} {v:Value} {aF:Nat→Prop} (h:ay w F s ao (.slice xs) v aF):(xs=[]∧∃a c,v= .slice a 0 c∧c≤maxLen∧(a=none→c=0))∨
  ∃b o cap cU sz,v= .slice (some ⟨b,o,none⟩) xs.length cap∧F b∧xs.length≤cap∧cap≤maxLen∧(∀d∈xs,d.wd=sz)∧fA w b o cU∧aN w F xs cU (fun _=>False):=by
 have aS:=(ay.bM rfl).1 h
 rw[an,eU aS.1]at aS
 obtain⟨_,⟨rfl,a,c,ad,aB⟩|⟨b,o,cap,cU,sz,ad,aB⟩⟩:=aS
 ·simp at ad;exact .inl ⟨rfl,a,c,ad,aB⟩
 ·simp at ad;exact .inr ⟨b,o,cap,cU,sz,ad,aB⟩
theorem It (aU:C.dn) (h:bb w0 F0 X F S s ao w) {T ty:TypeId} {x:I} {v:Value} (aG:ay w F s ao x v (fun _=>False)) (he:jT C s T x=some av):
  Good C w0 F0 X ao w (Builtin.len_ #[T] ty #[v]) av s:=by
 unfold jT at he
 split at he
 ·rename_i l al
  have:=jQ aG;subst this
  obtain⟨i,d,z,aH,aJ,aK,b0,b_,bw,bn⟩:=aU.info (eg al (by simp))
  rw[al]at bn
  have:=mK bn;subst this
  simp only[Option.some.injEq]at he;subst he
  refine Good.same h ?_ rfl (of_int _ _)
  simp[Builtin.len_,run_underlying bw,goInt]
  rfl
 ·rename_i e al
  have:=nN aG;subst this
  obtain⟨i,d,z,aH,aJ,aK,b0,b_,bw,bn⟩:=aU.info (eg al (by simp))
  rw[al]at bn
  have:=iW bn;subst this
  simp only[Option.some.injEq]at he;subst he
  refine Good.same h ?_ rfl (of_int _ _)
  simp[Builtin.len_,run_underlying bw,goInt]
 ·rename_i e xs al
  obtain⟨i,d,z,aH,aJ,aK,b0,b_,bw,bn⟩:=aU.info (eg al (by simp))
  rw[al]at bn
  have:=iW bn;subst this
  simp only[Option.some.injEq]at he;subst he
  refine Good.same h ?_ rfl (of_int _ _)
  rcases vd aG with⟨rfl,a,c,rfl,_⟩|⟨b,o,cap,cU,sz,rfl,_⟩<;>simp[Builtin.len_,run_underlying bw,goInt]
 ·rename_i e y q al
  split at he
  ·rename_i sz xs ae
   obtain⟨i,d,z,aH,aJ,aK,b0,b_,bw,bn⟩:=aU.info (eg al (by simp))
   rw[al]at bn
   have:=iW bn;subst this
   simp only[Option.some.injEq]at he;subst he
   refine Good.same h ?_ rfl (of_int _ _)
   rcases x8 h aG ae with⟨rfl,_,rfl⟩|⟨b,cap,cur,aJ,fr,rfl,_⟩<;>simp[Builtin.len_,run_underlying bw,goInt]
  ·cases he
 ·cases he
def bytesOf:List I→Option (List UInt8)
 |[]=>some []
 | .int .u8 n::r=>if 0≤n∧n<256 then(bytesOf r).map (UInt8.ofNat n.toNat::·)else none
 |_=>none
def h8 (b:UInt8):I:=.int .u8 b.toNat
theorem Iu (l:List UInt8):bytesOf (l.map h8)=some l:=by
 induction l with
 |nil=>rfl
 |cons b l ih=>
  have R:b.toNat<256:=b.toNat_lt
  simp only[List.map_cons,h8,bytesOf,Int.toNat_natCast]
  rw[if_pos (by omega),ih]
  simp
theorem yb:∀(xs:List I) (l:List UInt8) (cs:List Value) (aF:Nat→Prop),bytesOf xs=some l→aN w F xs cs aF→cs=l.map (fun b=>.int .u8 (b.toNat:Int))∧xs.length=l.length
 |[],l,cs,aF,h,aD=>by simp[bytesOf]at h;subst h;rw[aN]at aD;subst aD;exact⟨rfl,rfl⟩
 |x::xs,l,cs,aF,h,aD=>by
  unfold bytesOf at h
  split at h
  ·rename_i e;cases e
  ·rename_i n r e
   simp only[List.cons.injEq]at e
   obtain⟨rfl,rfl⟩:=e
   split at h
   ·rename_i aW
    simp only[Option.map_eq_some_iff]at h
    obtain⟨c6,ab,rfl⟩:=h
    rw[aN]at aD
    obtain⟨bJ,c2,bo,cu,rfl,ad,aB,_⟩:=aD
    obtain⟨rfl,aR⟩:=yb xs c6 c2 cu ab aB
    rw[an]at ad;subst ad
    refine⟨?_,by simp[aR]⟩
    simp only[List.map_cons,List.cons_append,List.nil_append,List.cons.injEq,and_true,Value.int.injEq,true_and]
    simp only[UInt8.toNat_ofNat']
    omega
   ·cases h
  ·cases h
theorem bb.sZ (h:bb w0 F0 X F S s ao w) {aw:World} {sz cap:Nat} {xs:List I} {cur:Array Value} {e:TypeId} {fr:Nat×Nat} {Sn:Nat→Prop}
  (hw:aw.heap=w.heap.push (.cells cur e fr)) (ab:aw.os=w.os) (ad:aw.tape=w.tape) (aB:Out aw w)
  (bk:ou fr cur.size) (hle:xs.length≤cap) (hm:cap≤maxLen) (cV:cur.size=cap*sz) (h4:∀d∈xs,d.wd=sz) (aG:aN w F xs (cur.toList.take (xs.length*sz)) Sn)
  (c_:∀b,Sn b→b<w.heap.size) (a1:∀b,Sn b→¬F b) (bg:∀u b,Sn b→¬S u b) (bm:∀b,Sn b→X b∨w0.heap.size≤b):
  bb w0 F0 X F S s ao aw∧iV w0 X F S s ao aw (.aE sz xs) (.slice (some ⟨w.heap.size,0,none⟩) xs.length cap):=by
 have hold:∀b,b<w.heap.size→aw.heap[b]? =w.heap[b]? :=by
  intro b R
  rw[hw,Array.getElem?_push,if_neg (by omega)]
 have abf:aw.heap.size=w.heap.size+1:=by rw[hw];simp
 refine⟨h.grow hold (by omega) ab ad aB,.inr ⟨rfl,rfl,fun b=>b=w.heap.size∨Sn b,?_,?_,?_,?_,?_⟩⟩
 ·simp only[bx,fD]
  rw[an]
  refine .inr ⟨w.heap.size,cap,cur,e,fr,Sn,rfl,.inl rfl,?_,bk,hle,hm,cV,h4,?_,fun c ai=>.inr ai,fun ai=>Nat.lt_irrefl _ (c_ _ ai)⟩
  ·rw[hw];simp
  ·exact aN.frame (fun b R=>hold b (h.dH b R)) _ _ _ (fun b R=>hold b (c_ b R)) aG
 ·rintro b (rfl|R)
  ·omega
  ·have:=c_ b R;omega
 ·rintro b (rfl|R) nM
  ·exact Nat.lt_irrefl _ (h.dH _ nM)
  ·exact a1 b R nM
 ·rintro u b (rfl|R) hu
  ·exact Nat.lt_irrefl _ (h.de _ _ hu)
  ·exact bg u b R hu
 ·rintro b (rfl|R)
  ·exact .inr h.size
  ·exact bm b R
def ei (C:bt) (s:aj) (A B:TypeId) (x:I):Option I:=
 if(C.T A).ok=true then
 match(C.T B).k,x with
 | .int k,.int _ n=>some (.int k (k.wrap n))
 | .str,.str l=>match(C.T A).k with
   | .str=>some (.str l)
   |_=>none
 | .str,x=>match(C.T A).k with
   | .slice e=>match(C.T e).k with
     | .int .u8=>match x with
       | .bD=>some (.str [])
       | .slice xs=>(bytesOf xs).map .str
       | .h y q=>match I.sub q (s y)with
         |some (.aE 1 xs)=>(bytesOf xs).map .str
         |_=>none
       |_=>none
     |_=>none
   |_=>none
 | .slice e,.str l=>match(C.T A).k,(C.T e).k with
   | .str,.int .u8=>if l.length≤9223372036854775807 then some (.aE 1 (l.map h8))else none
   |_,_=>none
 |_,_=>none
 else none
theorem BP (l:List UInt8) (aF:Nat→Prop):aN w F (l.map h8) (l.map fun b=>.int .u8 (b.toNat:Int)) aF:=by
 induction l generalizing aF with
 |nil=>simp only[List.map_nil];rw[aN]
 |cons b l ih=>
  simp only[List.map_cons]
  rw[aN]
  exact⟨[.int .u8 (b.toNat:Int)],_,fun _=>False,fun _=>False,rfl,by rw[h8,an],ih _,fun _ h=>h.elim,fun _ h=>h.elim,fun _ h=>h.elim⟩
theorem Iv (aU:C.dn) (h:bb w0 F0 X F S s ao w) {A B:TypeId} {x:I} {v:Value} (aG:ay w F s ao x v (fun _=>False)) (he:ei C s A B x=some av):
  Good C w0 F0 X ao w (convert A B v) av s:=by
 unfold ei at he
 split at he
 ·rename_i dS
  obtain⟨eI,abg,abh,ah,a2,a3,a4,a5,mO,mP⟩:=aU.info dS
  split at he
  ·rename_i k cB n al
   have:=kn aG;subst this
   obtain⟨i,d,z,aH,aJ,aK,b0,b_,bw,bn⟩:=aU.info (eg al (by simp))
   rw[al]at bn
   have:=sQ bn;subst this
   simp only[Option.some.injEq]at he;subst he
   refine Good.same h ?_ rfl (of_int _ _)
   simp[convert,run_underlying mO,run_underlying bw,Conv.intToInt]
  ·rename_i l al
   have:=jQ aG;subst this
   obtain⟨i,d,z,aH,aJ,aK,b0,b_,bw,bn⟩:=aU.info (eg al (by simp))
   rw[al]at bn
   have:=mK bn;subst this
   split at he
   ·rename_i s0
    rw[s0]at mP
    have:=mK mP;subst this
    simp only[Option.some.injEq]at he;subst he
    refine Good.same h ?_ rfl (ma _)
    simp[convert,run_underlying mO,run_underlying bw]
   ·cases he
  ·rename_i x al _
   obtain⟨i,d,z,aH,aJ,aK,b0,b_,bw,bn⟩:=aU.info (eg al (by simp))
   rw[al]at bn
   have:=mK bn;subst this
   split at he
   ·rename_i e s0
    rw[s0]at mP
    have:=iW mP;subst this
    split at he
    ·rename_i s3
     obtain⟨nK,aY,mL,f1,f2,f3,f4,f5,f6,f7⟩:=aU.info (eg s3 (by simp))
     rw[s3]at f7
     have:=sQ f7;subst this
     have fin:∀(l:List UInt8) (b o cap:Nat),fA w b o (l.map fun b=>.int .u8 (b.toNat:Int))→(convert A B (.slice (some ⟨b,o,none⟩) l.length cap)).run C.P w= .ok (.string ⟨⟨l⟩⟩) w:=by
      intro l b o cap ht
      refine run_convert_bytes_back w A B e ⟨b,o,none⟩ cap l mO f6 bw (fun j b2=> ?_)
      rw[Addr.add_lit]
      exact ht j _ (by simp[b2])
     have nil:(convert A B (.slice none 0 0)).run C.P w= .ok (.string ⟨⟨[]⟩⟩) w:=by
      simp[convert,run_underlying mO,run_underlying bw,run_underlying f6,Conv.bytesToString]
      rfl
     split at he
     ·have:=nN aG;subst this
      simp only[Option.some.injEq]at he;subst he
      exact Good.same h nil rfl (ma _)
     ·rename_i xs _
      simp only[Option.map_eq_some_iff]at he
      obtain⟨l,hl,rfl⟩:=he
      rcases vd aG with⟨rfl,a,c,rfl,_,pF⟩|⟨b,o,cap,cU,sz,rfl,ab,ad,aB,aR,ba,bu⟩
      ·simp[bytesOf]at hl;subst hl
       cases a with
       |none=>
        have:=pF rfl;subst this
        exact Good.same h nil rfl (ma _)
       |some a=>
        refine Good.same h ?_ rfl (ma _)
        exact run_convert_bytes_back w A B e a c [] mO f6 bw (fun j b2=>by simp at b2)
      ·obtain⟨rfl,bE⟩:=yb xs l cU _ hl bu
       rw[bE]
       exact Good.same h (fin l b o cap ba) rfl (ma _)
     ·rename_i y q
      split at he
      ·rename_i xs ae
       simp only[Option.map_eq_some_iff]at he
       obtain⟨l,hl,rfl⟩:=he
       rcases x8 h aG ae with⟨rfl,a,rfl⟩|⟨b,cap,cur,aJ,fr,rfl,ab,ad,aB,aR,ba,bu,aF,bE,_⟩
       ·simp[bytesOf]at hl;subst hl
        cases a with
        |none=>exact Good.same h nil rfl (ma _)
        |some a=>
         refine Good.same h ?_ rfl (ma _)
         exact run_convert_bytes_back w A B e a 0 [] mO f6 bw (fun j b2=>by simp at b2)
       ·obtain⟨cK,eR⟩:=yb xs l _ _ hl bE
        rw[eR]
        refine Good.same h (fin l b 0 cap ?_) rfl (ma _)
        rw[←cK]
        exact qM ab _
      ·cases he
     ·cases he
    ·cases he
   ·cases he
  ·rename_i e l al
   have:=jQ aG;subst this
   obtain⟨i,d,z,aH,aJ,aK,b0,b_,bw,bn⟩:=aU.info (eg al (by simp))
   rw[al]at bn
   have:=iW bn;subst this
   split at he
   ·rename_i s0 s3
    rw[s0]at mP
    have:=mK mP;subst this
    obtain⟨nK,aY,mL,f1,f2,f3,f4,f5,f6,f7⟩:=aU.info (eg s3 (by simp))
    rw[s3]at f7
    have:=sQ f7;subst this
    split at he
    ·rename_i hl
     simp only[Option.some.injEq]at he;subst he
     have U:(⟨⟨l⟩⟩:ByteArray).size=l.length:=rfl
     have s4:=grownCap_ge w l.length 0 e
     have Iw:=grownCap_le_maxLen w l.length 0 e (by unfold maxLen;omega)
     have BQ:(bytesRow ⟨⟨l⟩⟩ (grownCap w l.length 0 e)).toList=l.map (fun b=>Value.int .u8 (b.toNat:Int))++List.replicate (grownCap w l.length 0 e-l.length) (.int .u8 0):=by
      simp[bytesRow,U]
     have cV:(bytesRow ⟨⟨l⟩⟩ (grownCap w l.length 0 e)).size=grownCap w l.length 0 e*1:=by
      have:(bytesRow ⟨⟨l⟩⟩ (grownCap w l.length 0 e)).size=(bytesRow ⟨⟨l⟩⟩ (grownCap w l.length 0 e)).toList.length:=by simp
      rw[this,BQ];simp;omega
     have pD:=run_bytes_of_string w A B e ⟨⟨l⟩⟩ mO bw f6
     rw[U]at pD
     have iy:=h.sZ (aw:=w.drew.alloc (.cells (bytesRow ⟨⟨l⟩⟩ (grownCap w l.length 0 e)) e ((bytesRow ⟨⟨l⟩⟩ (grownCap w l.length 0 e)).size,(bytesRow ⟨⟨l⟩⟩ (grownCap w l.length 0 e)).size+1)))
      (sz:=1) (cap:=grownCap w l.length 0 e) (xs:=l.map h8) (cur:=bytesRow ⟨⟨l⟩⟩ (grownCap w l.length 0 e)) (e:=e) (Sn:=fun _=>False) rfl rfl rfl ⟨rfl,fun _=>Nat.le_succ _⟩
      (fun o bL ⟨ab,_⟩=>by simp only at ab;omega) (by simpa using s4) Iw cV (by intro d ae;obtain⟨b,_,rfl⟩:=List.mem_map.1 ae;rfl)
      (by rw[BQ,List.take_left' (by simp)];exact BP l _) (fun _ h=>h.elim) (fun _ h=>h.elim) (fun _ _ h=>h.elim) (fun _ h=>h.elim)
     simp only[List.length_map]at iy
     exact⟨_,_,F,S,pD,iy.1,iy.2⟩
    ·cases he
   ·cases he
  ·cases he
 ·cases he
end
section
variable {C:bt} {w0 w:World} {F0 X F:Nat→Prop} {S:Nat→Nat→Prop} {s s1:aj} {ao:Nat→Value} {av:I}
def fN (d:Nat):Option I→Option Nat
 |none=>some d
 |some (.int _ n)=>if 0≤n then some n.toNat else none
 |some _=>none
def cF (C:bt) (s:aj) (T:TypeId) (x:I) (cb aA:Option I):Option (I×aj):=
 match(C.T T).k,x with
 | .str,.str l=>match fN 0 cb,fN l.length aA with
   |some a,some b=>if a≤b∧b≤l.length then some (.str ((l.take b).drop a),s)else none
   |_,_=>none
 | .slice e,.bD=>match fN 0 cb,fN 0 aA with
   |some 0,some 0=>if(C.T e).ok=true then some (.bD,s)else none
   |_,_=>none
 | .slice e,.slice xs=>match fN 0 cb,fN xs.length aA with
   |some a,some b=>if a≤b∧b≤xs.length∧(C.T e).ok=true∧(∀d∈xs,d.wd=(C.T e).sz)then some (.slice ((xs.take b).drop a),s)else none
   |_,_=>none
 | .slice e,.h y q=>match I.sub q (s y)with
   |some (.aE sz xs)=>match fN 0 cb,fN xs.length aA with
    |some 0,some b=>if b≤xs.length∧(C.T e).ok=true then(match bV s (.h y q)with|some (_,s1)=>some (.aE sz (xs.take b),s1)|none=>none)else none
    |_,_=>none
   |_=>none
 |_,_=>none
def nO (w:World) (F:Nat→Prop) (s:aj) (ao:Nat→Value):Option I→Option Value→Prop
 |none,none=>True
 |some d,some v=>ay w F s ao d v (fun _=>False)
 |_,_=>False
theorem BR {d:Nat} {o:Option I} {v:Option Value} (bL:nO w F s ao o v) {a:Nat} (h:fN d o=some a):(o=none∧v=none∧a=d)∨∃k,v=some (.int k a):=by
 cases o with
 |none=>
  cases v with
  |none=>simp[fN]at h;exact .inl ⟨rfl,rfl,h.symm⟩
  |some v=>simp[nO]at bL
 |some x=>
  cases v with
  |none=>simp[nO]at bL
  |some v=>
   simp only[nO]at bL
   cases x with
   |int k n=>
    have:=kn bL;subst this
    simp only[fN]at h
    split at h
    ·rename_i aW
     simp only[Option.some.injEq]at h;subst h
     obtain⟨m,rfl⟩:=Int.eq_ofNat_of_zero_le aW
     exact .inr ⟨k,rfl⟩
    ·cases h
   |_=>simp[fN]at h
theorem qS {P:Program} {isS:Bool} {len cap a b:Nat} {cb aA:Option I} {pH pI:Option Value} (lC:nO w F s ao cb pH) (lD:nO w F s ao aA pI) (bT:fN 0 cb=some a) (R:fN len aA=some b) (jM:a≤b) (Ix:b≤cap) (_hlc:len≤cap):
  (Instr.sliceBounds isS len cap pH pI none).run P w= .ok (a,b,cap) w:=by
 rcases BR lC bT with⟨_,rfl,rfl⟩|⟨k,rfl⟩<;>rcases BR lD R with⟨_,rfl,rfl⟩|⟨cB,rfl⟩<;>
  simp[Instr.sliceBounds,Instr.sliceBound,asIntOf,jM,Ix]
theorem qT (aU:C.dn) {T:TypeId} (al:(C.T T).flat=true) (v:Value) (cb aA dm:Option Value) (w:World):(Instr.sliceAt T v cb aA dm).run C.P w=(Instr.slice T v cb aA dm).run C.P w:=by
 obtain⟨i,d,z,aH,aJ,aK,b0,b_,bw,bn⟩:=aU.info (Bs al)
 have cI:∀n e,d≠.array n e:=by
  clear bw
  unfold eC.flat at al
  generalize (C.T T).k=iY at*
  cases iY<;>cases d<;>simp[iU]at bn al⊢
 cases d<;>first|exact(cI _ _ rfl).elim|simp[Instr.sliceAt,run_underlying bw]
theorem qU {x:eC} {k:kP} (h:x.k=k) (al:k≠.other) (U:∀ag,k≠.struct ag) (R:∀e,k≠.dR e:=by simp):x.flat=true:=by
 unfold eC.flat;rw[h];cases k<;>first|rfl|exact(al rfl).elim|exact(R _ rfl).elim|exact(U _ rfl).elim
theorem aN.split:∀(n:Nat) (xs:List I) (cs:List Value) (aF:Nat→Prop),aN w F xs cs aF→∃bJ c2 bo cu,cs=bJ++c2∧aN w F (xs.take n) bJ bo∧aN w F (xs.drop n) c2 cu∧(∀b,bo b→aF b)∧(∀b,cu b→aF b)∧(∀b,bo b→¬cu b)
 |0,xs,cs,aF,h=>⟨[],cs,fun _=>False,aF,rfl,by rw[List.take_zero,aN],h,fun _ h=>h.elim,fun _ h=>h,fun _ h=>h.elim⟩
 |n+1,[],cs,aF,h=>by rw[aN]at h;subst h;exact⟨[],[],fun _=>False,fun _=>False,rfl,by rw[List.take_nil,aN],by rw[List.drop_nil,aN],fun _ h=>h.elim,fun _ h=>h.elim,fun _ h=>h.elim⟩
 |n+1,x::xs,cs,aF,h=>by
  rw[aN]at h
  obtain⟨bJ,c2,fs,eS,rfl,ab,ad,aB,aR,ba⟩:=h
  obtain⟨d1,d2,bo,cu,rfl,g1,g2,g3,g4,g5⟩:=aN.split n xs c2 eS ad
  refine⟨bJ++d1,d2,fun b=>fs b∨bo b,cu,by simp,?_,g2,?_,fun b R=>aR _ (g4 _ R),?_⟩
  ·rw[List.take_succ_cons,aN]
   exact⟨bJ,d1,fs,bo,rfl,ab,g1,fun _ h=>.inl h,fun _ h=>.inr h,fun b R ai=>ba b R (g3 b ai)⟩
  ·rintro b (R|R)
   ·exact aB b R
   ·exact aR b (g3 b R)
  ·rintro b (R|R) ai
   ·exact ba b R (g4 b ai)
   ·exact g5 b R ai
theorem Iy (aU:C.dn) (h:bb w0 F0 X F S s ao w) {T:TypeId} {x:I} {v:Value} {cb aA:Option I} {pH pI:Option Value} (aq:x.plain=true) (aG:ay w F s ao x v (fun _=>False)) (lC:nO w F s ao cb pH) (lD:nO w F s ao aA pI)
  (he:cF C s T x cb aA=some (av,s1)):Good C w0 F0 X ao w (Instr.sliceAt T v pH pI none) av s1:=by
 unfold cF at he
 split at he
 ·rename_i l al
  have:=jQ aG;subst this
  obtain⟨i,d,z,aH,aJ,aK,b0,b_,bw,bn⟩:=aU.info (eg al (by simp))
  rw[al]at bn
  have:=mK bn;subst this
  split at he
  ·rename_i a b bT R
   split at he
   ·rename_i jM
    simp only[Option.some.injEq,Prod.mk.injEq]at he
    obtain⟨rfl,rfl⟩:=he
    refine Good.same h ?_ rfl (ma _)
    rw[qT aU (qU al (by simp) (by simp))]
    have cV:(⟨⟨l⟩⟩:ByteArray).size=l.length:=rfl
    have lE:=qS (P:=C.P) (isS:=false) (len:=l.length) (cap:=l.length) lC lD bT R jM.1 jM.2 (Nat.le_refl _)
    have Iz:(⟨⟨l⟩⟩:ByteArray).extract a b=⟨⟨(l.take b).drop a⟩⟩:=by
     apply ByteArray.ext
     simp[ByteArray.data_extract,List.drop_take]
    simp[Instr.slice,run_underlying bw,cV,lE,Iz]
   ·cases he
  ·cases he
 ·rename_i e al
  have:=nN aG;subst this
  obtain⟨i,d,z,aH,aJ,aK,b0,b_,bw,bn⟩:=aU.info (eg al (by simp))
  rw[al]at bn
  have:=iW bn;subst this
  split at he
  ·rename_i bT R
   split at he
   ·rename_i mc
    obtain⟨nK,aY,mL,f1,f2,f3,f4,f5,f6,f7⟩:=aU.info mc
    simp only[Option.some.injEq,Prod.mk.injEq]at he
    obtain⟨rfl,rfl⟩:=he
    have lE:=qS (P:=C.P) (isS:=true) (len:=0) (cap:=0) lC lD bT R (Nat.le_refl _) (Nat.le_refl _) (Nat.le_refl _)
    refine Good.same h (v:=.slice none 0 0) ?_ rfl aG
    rw[qT aU (qU al (by simp) (by simp))]
    simp[Instr.slice,run_underlying bw,lE,hR f1,f2]
   ·cases he
  ·cases he
 ·rename_i e xs al
  obtain⟨i,d,z,aH,aJ,aK,b0,b_,bw,bn⟩:=aU.info (eg al (by simp))
  rw[al]at bn
  have:=iW bn;subst this
  split at he
  ·rename_i a b bT R
   split at he
   ·rename_i jM
    obtain⟨IA,BS,mc,h4⟩:=jM
    obtain⟨nK,aY,mL,f1,f2,f3,f4,f5,f6,f7⟩:=aU.info mc
    simp only[Option.some.injEq,Prod.mk.injEq]at he
    obtain⟨rfl,rfl⟩:=he
    rcases vd aG with⟨rfl,qV,c,rfl,s5,pF⟩|⟨hz,o,cap,cU,sz,rfl,ab,ad,aB,aR,ba,bu⟩
    ·have fG:b=0:=by simpa using BS
     subst fG
     have IB:a=0:=by omega
     subst IB
     have lE:=qS (P:=C.P) (isS:=true) (len:=0) (cap:=c) lC lD bT R (Nat.le_refl _) (Nat.zero_le _) (Nat.zero_le _)
     refine Good.same h (v:=.slice qV 0 c) ?_ rfl ((ay.bM rfl).2 ⟨rfl,by rw[an];exact .inl ⟨rfl,qV,c,rfl,s5,pF⟩⟩)
     rw[qT aU (qU al (by simp) (by simp))]
     cases qV with
     |none=>
      have:=pF rfl;subst this
      simp[Instr.slice,run_underlying bw,lE,hR f1,f2]
     |some qV=>simp[Instr.slice,run_underlying bw,lE,hR f1,f2,Addr.add]
    ·have lE:=qS (P:=C.P) (isS:=true) (len:=xs.length) (cap:=cap) lC lD bT R IA (Nat.le_trans BS ad) ad
     obtain⟨bJ,c2,bo,cu,rfl,g1,g2,g3,g4,g5⟩:=aN.split b xs cU _ bu
     obtain⟨d1,d2,abj,BT,rfl,bz,bK,df,cx,dB⟩:=aN.split a (xs.take b) bJ _ g1
     have yc:d1.length=a*(C.T e).sz:=by
      rw[aN.length _ _ _ bz,pt _ (fun d ae=>h4 d (List.mem_of_mem_take (List.mem_of_mem_take ae))),List.length_take,List.length_take]
      congr 1;omega
     have hlen:((xs.take b).drop a).length=b-a:=by simp;omega
     have ht:fA w hz (o+a*(C.T e).sz) d2:=by
      rw[←yc]
      have:fA w hz o (d1++(d2++c2)):=by simpa using ba
      exact this.x1
     have ve:aN w F ((xs.take b).drop a) d2 (fun _=>False):=aN.mono (fun _ h=>h) _ _ _ _ (fun b R=>(g3 _ (cx _ R)).elim) bK
     have mem:∀d∈(xs.take b).drop a,d.wd=sz:=fun d ae=>aR d (List.mem_of_mem_take (List.mem_of_mem_drop ae))
     have run:(Instr.sliceAt T (.slice (some ⟨hz,o,none⟩) xs.length cap) pH pI none).run C.P w= .ok (.slice (if cap=a then some ⟨hz,o,none⟩else some ⟨hz,o+a*(C.T e).sz,none⟩) (b-a) (cap-a)) w:=by
      rw[qT aU (qU al (by simp) (by simp))]
      simp[Instr.slice,run_underlying bw,lE,hR f1,f2,Addr.add_lit]
     refine⟨_,w,F,S,run,h,.inl ⟨rfl,(ay.bM rfl).2 ⟨rfl,?_⟩⟩⟩
     simp only[bx,fD]
     rw[an]
     by_cases BU:cap=a
     ·have IC:b=a:=by omega
      subst IC
      have s6:(xs.take b).drop b=[]:=by simp
      rw[if_pos BU]
      rw[s6]at ve⊢
      rw[aN]at ve
      subst ve
      exact .inr ⟨hz,o,cap-b,[],sz,by simp,ab,Nat.zero_le _,by omega,by simp,fun j c b2=>by simp at b2,by rw[aN]⟩
     ·rw[if_neg BU]
      exact .inr ⟨hz,_,cap-a,d2,sz,by rw[hlen],ab,by rw[hlen];omega,by omega,mem,ht,ve⟩
   ·cases he
  ·cases he
 ·rename_i e y q al
  split at he
  ·rename_i sz xs ae
   split at he
   ·rename_i b bT R
    split at he
    ·rename_i vf
     split at he
     ·rename_i sV s2 aO
      simp only[Option.some.injEq,Prod.mk.injEq]at he
      obtain⟨rfl,rfl⟩:=he
      obtain⟨i,d,z,aH,aJ,aK,b0,b_,bw,bn⟩:=aU.info (eg al (by simp))
      rw[al]at bn
      have:=iW bn;subst this
      obtain⟨nK,aY,mL,f1,f2,f3,f4,f5,f6,f7⟩:=aU.info vf.2
      have pG:sV= .aE sz xs:=by
       simp only[bV,ae,I.plain]at aO
       simp at aO
       exact aO.1.symm
      subst pG
      obtain⟨bo,g0,g1,g2,Sn,g3,g4,g5,g6,g7,g8⟩:=l7 h rfl aG aO
      rw[eU g2,an]at g3
      rcases g3 with⟨rfl,a0,i6⟩|⟨hz,cap,cur,eY,fr,aF,i6,bz,bK,df,cx,dB,dZ,gu,gZ,hT,kT⟩
      ·simp at i6;subst i6
       have fG:b=0:=by simpa using vf.1
       subst fG
       have lE:=qS (P:=C.P) (isS:=true) (len:=0) (cap:=0) lC lD bT R (Nat.le_refl _) (Nat.le_refl _) (Nat.le_refl _)
       refine⟨.slice a0 0 0,w,F,bo,?_,g0,.inr ⟨rfl,rfl,fun _=>False,by simp only[bx,fD];rw[an];exact .inl ⟨rfl,_,rfl⟩,fun _ h=>h.elim,fun _ h=>h.elim,fun _ _ h=>h.elim,fun _ h=>h.elim⟩⟩
       rw[qT aU (qU al (by simp) (by simp))]
       cases a0<;>simp[Instr.slice,run_underlying bw,lE,hR f1,f2]
      ·simp at i6;subst i6
       have lE:=qS (P:=C.P) (isS:=true) (len:=xs.length) (cap:=cap) lC lD bT R (Nat.zero_le _) (Nat.le_trans vf.1 cx) cx
       have hlen:(xs.take b).length=b:=by simp;omega
       have run:(Instr.sliceAt T (.slice (some ⟨hz,0,none⟩) xs.length cap) pH pI none).run C.P w= .ok (.slice (some ⟨hz,0,none⟩) b cap) w:=by
        rw[qT aU (qU al (by simp) (by simp))]
        simp[Instr.slice,run_underlying bw,lE,hR f1,f2,Addr.add_lit]
       refine⟨_,w,F,bo,run,g0,.inr ⟨rfl,rfl,Sn,?_,g4,g5,g6,g7⟩⟩
       simp only[bx,fD]
       rw[an]
       obtain⟨bJ,c2,fs,eS,ai,m1,m2,m3,m4,m5⟩:=aN.split b xs _ _ gZ
       refine .inr ⟨hz,cap,cur,eY,fr,aF,by rw[hlen],bz,bK,df,by omega,dB,dZ,fun d ae=>gu d (List.mem_of_mem_take ae),?_,hT,kT⟩
       have yc:bJ.length=b*sz:=by
        rw[aN.length _ _ _ m1,pt _ (fun d ae=>gu d (List.mem_of_mem_take ae)),hlen]
       have:cur.toList.take ((xs.take b).length*sz)=bJ:=by
        rw[hlen]
        have ad:b*sz≤xs.length*sz:=Nat.mul_le_mul_right _ vf.1
        have:(cur.toList.take (xs.length*sz)).take (b*sz)=bJ:=by rw[ai,List.take_left' yc]
        rwa [List.take_take,Nat.min_eq_left ad]at this
       rw[this]
       exact aN.mono (fun _ h=>h) _ _ _ _ m3 m1
     ·cases he
    ·cases he
   ·cases he
  ·cases he
 ·cases he
end
section
variable {C:bt} {w0 w:World} {F0 X F:Nat→Prop} {S:Nat→Nat→Prop} {s s1:aj} {ao:Nat→Value} {av:I}
def Src (P:Program) (w:World) (size:Nat) (x:Value) (m:Nat) (news:List Value):Prop:=
 ∀aw:World,aw.heap=w.heap→(Builtin.lenOf x).run P aw= .ok m aw∧(Builtin.firstCells size m x).run P aw= .ok news.toArray aw
def yd (d:TypeDesc):Prop:=(∃e,d= .slice e)∨d= .string
theorem ID {P:Program} {T bc ty e:TypeId} {nP:TypeDesc} {i:TypeInfo} (aO:P.underlying T=some (.slice e)) (hu:P.underlying bc=some nP) (pJ:yd nP) (aA:P.info? e=some i)
  {x:Value} {m:Nat} {news:List Value} (vg:Src P w i.size x m news) {b n cap:Nat} {cur:Array Value} {eY:TypeId} {fr:Nat×Nat} {l mid r:List Value} (R:w.heap[b]? =some (.cells cur eY fr)) (bk:ou fr cur.size)
  (ai:cur.toList=l++(mid++r)) (hl:l.length=n*i.size) (hm:mid.length=news.length) (va:∀v∈news,Value.eO v=true) (mQ:n+m≤cap):
  ∃aw,(Builtin.append_ #[T,bc] ty #[.slice (some ⟨b,0,none⟩) n cap,x]).run P w= .ok (.slice (some ⟨b,0,none⟩) (n+m) cap) aw∧aw.heap[b]? =some (.cells (l++(news++r)).toArray eY fr)∧
   (∀c,c≠b→aw.heap[c]? =w.heap[c]?)∧aw.heap.size=w.heap.size∧aw.os=w.os∧aw.tape=w.tape∧Out aw w:=by
 obtain⟨aw,m1,m2⟩:=x5 (P:=P) (b:=b) (o:=n*i.size) (e:=eY) (fr:=fr) news 0 cur w l mid r R bk ai (by omega) hm va
 refine⟨aw,?_,m2⟩
 obtain⟨ab,ad⟩:=vg w rfl
 rcases pJ with⟨eG,rfl⟩|rfl<;>simp[Builtin.append_,run_underlying aO,run_underlying hu,hR aA,ab,ad,mQ,Addr.add_lit,m1]
theorem IE {P:Program} {T bc ty e:TypeId} {nP:TypeDesc} {i:TypeInfo} {z:Value} (aO:P.underlying T=some (.slice e)) (hu:P.underlying bc=some nP) (pJ:yd nP) (aA:P.info? e=some i) (bp:i.zero=some z)
  {x:Value} {m:Nat} {news:List Value} (vg:Src P w i.size x m news) {base:Option Addr} {n cap:Nat} {me:List Value} (hold:Src P w i.size (.slice base n cap) n me) (mQ:¬n+m≤cap)
  (aW:n+m≤9223372036854775807) (ye:(n+m)*i.bytes≤140737488355328):
  (Builtin.append_ #[T,bc] ty #[.slice base n cap,x]).run P w= .ok (.slice (some ⟨w.heap.size,0,none⟩) (n+m) (grownCap w (n+m) cap e))
   (w.drew.alloc (.cells (me.toArray++news.toArray++Builtin.zeroCells z.cells (grownCap w (n+m) cap e-(n+m))) e)):=by
 have ab:=(vg w rfl).1
 have ad:=(vg w.drew rfl).2
 have aB:=(hold w.drew rfl).2
 have abk:=growslice_fits (need:=n+m) (old:=cap) (by omega) ye
 have fP:¬(281474976710656<Builtin.nextslicecap (n+m) cap*i.bytes):=by omega
 have qW:∀k (w:World),(askRoom k).run P w= .ok () w:=by
  intro k w
  unfold askRoom
  split<;>rfl
 have yf:¬(9223372036854775807<(n:Int)+(m:Int)∧i.bytes=0):=by omega
 rcases pJ with⟨eG,rfl⟩|rfl<;>
  ·simp[Builtin.append_,run_underlying aO,run_underlying hu,hR aA,pz aA,ab,mQ,fP,Question.forced,qW]
   rw[if_neg yf,aB]
   simp[ad,pA aA bp,newRow,grownCap]
   have aH:(me++news).toArray=me.toArray++news.toArray:=by simp
   rw[aH,Array.append_assoc]
def vh (C:bt) (e bc:TypeId):Bool:=match(C.T bc).k,(C.T e).k with
 | .slice eG,_=>eG==e
 | .str,.int .u8=>true
 |_,_=>false
def jU (C:bt) (s:aj) (T bc:TypeId) (x y:I):Option (I×aj):=
 match(C.T T).k with
 | .slice e=>if(C.T e).ok=true∧(C.T e).zero.wd=(C.T e).sz∧(flat (C.T e).zero).isSome=true∧vh C e bc=true then
   match(match x with| .bD=>some (I.aE (C.T e).sz [],s)| .h a q=>bV s (.h a q)|_=>none)with
   |some (.aE sz xs,s1)=>if sz=(C.T e).sz then
     match(match iv x.owner y with
      | .bD=>some ([],s1)
      | .slice bG=>some (bG,s1)
      | .str l=>some (l.map h8,s1)
      | .h a q=>match bV s1 (.h a q)with
        |some (.aE _ bG,s2)=>some (bG,s2)
        |_=>none
      |_=>none)with
     |some (bG,s2)=>if(∀d∈bG,d.wd=(C.T e).sz)∧(xs.length+bG.length)*(C.T e).bytes≤140737488355328∧xs.length+bG.length≤9223372036854775807 then some (.aE sz (xs++bG),s2)else none
     |none=>none
    else none
   |_=>none
   else none
 |_=>none
theorem aN.append {xs bG:List I} {bJ c2:List Value} {bo cu aF:Nat→Prop} (ab:aN w F xs bJ bo) (ad:aN w F bG c2 cu) (aH:∀b,bo b→aF b) (aJ:∀b,cu b→aF b) (aK:∀b,bo b→¬cu b):aN w F (xs++bG) (bJ++c2) aF:=by
 induction xs generalizing bJ bo aF with
 |nil=>rw[aN]at ab;subst ab;exact aN.mono (fun _ h=>h) _ _ _ _ aJ ad
 |cons x xs ih=>
  rw[aN]at ab
  obtain⟨IF,IG,fs,eS,rfl,g1,g2,g3,g4,g5⟩:=ab
  rw[List.cons_append,aN]
  refine⟨IF,IG++c2,fs,fun b=>eS b∨cu b,by simp,g1,ih g2 (fun b h=>.inl h) (fun b h=>.inr h) (fun b h=>aK b (g4 b h)),fun b h=>aH b (g3 b h),?_,?_⟩
  ·rintro b (h|h)
   ·exact aH b (g4 b h)
   ·exact aJ b h
  ·rintro b h (aS|aS)
   ·exact g5 b h aS
   ·exact aK b (g3 b h) aS
theorem yg {P:Program} {size m cap:Nat} {b o:Nat} {news:List Value} (ht:fA w b o news) (hl:news.length=m*size):Src P w size (.slice (some ⟨b,o,none⟩) m cap) m news:=by
 intro aw hw
 refine⟨rfl,?_⟩
 refine run_firstCells_some aw size m ⟨b,o,none⟩ m cap news hl (fun j v b2=> ?_)
 rw[Addr.add_lit]
 have:=ht j v b2
 simpa [World.cell?,hw]using this
theorem BV {P:Program} {size cap:Nat}:Src P w size (.slice none 0 cap) 0 []:=by
 intro aw _
 exact⟨rfl,by simp[Builtin.firstCells]⟩
theorem yh {P:Program} {size cap:Nat} (a:Option Addr):Src P w size (.slice a 0 cap) 0 []:=by
 cases a with
 |none=>exact BV
 |some a=>
  intro aw _
  exact⟨rfl,run_firstCells_some aw size 0 a 0 cap [] (by simp) (fun j v b2=>by simp at b2)⟩
theorem IH {P:Program} (l:List UInt8):Src P w 1 (.string ⟨⟨l⟩⟩) l.length (l.map fun b=>.int .u8 (b.toNat:Int)):=by
 intro aw _
 refine⟨rfl,?_⟩
 have:(⟨⟨l⟩⟩:ByteArray).extract 0 l.length=⟨⟨l⟩⟩:=by
  apply ByteArray.ext
  simp[ByteArray.data_extract]
 simp[Builtin.firstCells,this]
theorem aN.pK {sz:Nat} {xs:List I} {cs:List Value} {aF:Nat→Prop} (h:aN w F xs cs aF) (hw:∀d∈xs,d.wd=sz):cs.length=xs.length*sz:=by
 rw[aN.length _ _ _ h,pt _ hw]
theorem bb.turn (h:bb w0 F0 X F S s ao w) {aw:World} {b:Nat} (R:∀c,c≠b→aw.heap[c]? =w.heap[c]?) (U:aw.heap.size=w.heap.size) (ab:aw.os=w.os) (ad:aw.tape=w.tape) (aB:Out aw w)
  (a1:¬F b) (bg:∀u,¬S u b) (bm:X b∨w0.heap.size≤b):bb w0 F0 X F S s ao aw where
 e3:=h.e3
 fh:=h.fh
 dH:=fun c ai=>by rw[U];exact h.dH c ai
 de:=fun t c ai=>by rw[U];exact h.de t c ai
 dY:=h.dY
 dA:=h.dA
 cE:=h.cE
 cj:=fun t=>ay.frame (Sx:=S) (fun c ai=>R c (by rintro rfl;exact a1 ai)) (fun _ h=>h) (fun x c ai=>R c (by rintro rfl;exact bg x ai)) h.cj _ _ _ (fun c ai=>R c (by rintro rfl;exact bg t ai)) (h.cj t)
 old:=fun c c_ hQ=>by
  rw[R c ?_]
  ·exact h.old c c_ hQ
  ·rintro rfl
   rcases bm with bm|bm
   ·exact hQ bm
   ·omega
 size:=by rw[U];exact h.size
 os:=ab.trans h.os
 tape:=ad.trans h.tape
 output:=aB.trans h.output
 eT:=h.eT
theorem II (aU:C.dn) (h:bb w0 F0 X F S s ao w) {T bc ty:TypeId} {x y:I} {fF gr:Value} (aq:ay w F s ao x fF (fun _=>False)) (hy:ay w F s ao y gr (fun _=>False))
  (he:jU C s T bc x y=some (av,s1)):Good C w0 F0 X ao w (Builtin.append_ #[T,bc] ty #[fF,gr]) av s1:=by
 unfold jU at he
 split at he
 ·rename_i e al
  obtain⟨yi,d,yj,aH,aJ,aK,b0,b_,bw,bn⟩:=aU.info (eg al (by simp))
  rw[al]at bn
  have:=iW bn;subst this
  split at he
  ·rename_i pE
   obtain⟨mc,mR,nQ,mS⟩:=pE
   obtain⟨i,yk,z,f1,f2,f3,f4,f5,f6,f7⟩:=aU.info mc
   obtain⟨du,ko⟩:=Option.isSome_iff_exists.1 nQ
   have nR:=f5 du ko
   have mf:du.length=(C.T e).sz:=by
    have:=an.length _ _ _ ((an.flat (w:=w) (F:=F) _).1 (C.T e).zero du (fun _=>False) (Nat.le_refl _) ko)
    rw[this,mR]
   obtain⟨nP,hu,pJ⟩:∃nP,C.P.underlying bc=some nP∧yd nP:=by
    unfold vh at mS
    split at mS
    ·rename_i eG jv
     obtain⟨_,aY,_,_,_,_,_,_,g6,g7⟩:=aU.info (eg jv (by simp))
     rw[jv]at g7
     exact⟨aY,g6,.inl ⟨_,iW g7⟩⟩
    ·rename_i jv _
     obtain⟨_,aY,_,_,_,_,_,_,g6,g7⟩:=aU.info (eg jv (by simp))
     rw[jv]at g7
     exact⟨aY,g6,.inr (mK g7)⟩
    ·cases mS
   split at he
   ·rename_i sz xs BW pL
    split at he
    ·rename_i cV
     subst cV
     split at he
     ·rename_i bG vi lF
      split at he
      ·rename_i IJ
       obtain⟨qX,ye,oB⟩:=IJ
       simp only[Option.some.injEq,Prod.mk.injEq]at he
       obtain⟨rfl,rfl⟩:=he
       obtain⟨fs,a0,Sn,a3,a4,a5,mO,mP,abl,a9,oC⟩:∃fs,bb w0 F0 X F fs BW ao w∧∃Sn,an w F (.aE (C.T e).sz xs) [fF] Sn∧(∀b,Sn b→b<w.heap.size)∧(∀b,Sn b→¬F b)∧(∀u b,Sn b→¬fs u b)∧
         (∀b,Sn b→X b∨w0.heap.size≤b)∧(∀u b,fs u b→S u b)∧(∀b,Sn b→∃u,S u b)∧ay w F BW ao (iv x.owner y) gr (fun _=>False):=by
        split at pL
        ·simp only[Option.some.injEq,Prod.mk.injEq,I.aE.injEq,true_and]at pL
         obtain⟨rfl,rfl⟩:=pL
         have:=nN aq;subst this
         exact⟨S,h,fun _=>False,by rw[an];exact .inl ⟨rfl,_,rfl⟩,fun _ h=>h.elim,fun _ h=>h.elim,fun _ _ h=>h.elim,fun _ h=>h.elim,fun _ _ h=>h,fun _ h=>h.elim,hy⟩
        ·obtain⟨bo,g0,g1,g2,Sn,g3,g4,g5,g6,g7,g8,g9,g10⟩:=l7 h rfl aq pL
         rw[eU g2]at g3
         exact⟨bo,g0,Sn,g3,g4,g5,g6,g7,g8,g9,g10 _ _ _ hy⟩
        ·cases pL
       obtain⟨eS,hz,kU,news,jR,gQ,jw,cY,h9,fH,vj,ey⟩:∃eS,bb w0 F0 X F eS vi ao w∧∃kU news,aN w F bG news kU∧Src C.P w i.size gr bG.length news∧(∀b,kU b→b<w.heap.size)∧(∀b,kU b→¬F b)∧(∀u b,kU b→¬eS u b)∧
         (∀b,kU b→X b∨w0.heap.size≤b)∧(∀u b,eS u b→fs u b)∧(∀b,kU b→∃u,fs u b):=by
        split at lF
        ·rename_i pM
         simp only[Option.some.injEq,Prod.mk.injEq]at lF
         obtain⟨rfl,rfl⟩:=lF
         rw[pM]at oC
         have:=nN oC;subst this
         exact⟨fs,a0,fun _=>False,[],by rw[aN],BV,fun _ h=>h.elim,fun _ h=>h.elim,fun _ _ h=>h.elim,fun _ h=>h.elim,fun _ _ h=>h,fun _ h=>h.elim⟩
        ·rename_i eK pM
         simp only[Option.some.injEq,Prod.mk.injEq]at lF
         obtain⟨rfl,rfl⟩:=lF
         rw[pM]at oC
         rcases vd oC with⟨rfl,qV,abm,rfl,_,pF⟩|⟨b,o,cap,cU,IK,rfl,bz,bK,df,cx,dB,dZ⟩
         ·exact⟨fs,a0,fun _=>False,[],by rw[aN],yh qV,fun _ h=>h.elim,fun _ h=>h.elim,fun _ _ h=>h.elim,fun _ h=>h.elim,fun _ _ h=>h,fun _ h=>h.elim⟩
         ·exact⟨fs,a0,fun _=>False,cU,dZ,yg dB (by rw[f2];exact aN.pK dZ qX),fun _ h=>h.elim,fun _ h=>h.elim,fun _ _ h=>h.elim,fun _ h=>h.elim,fun _ _ h=>h,fun _ h=>h.elim⟩
        ·rename_i l pM
         simp only[Option.some.injEq,Prod.mk.injEq]at lF
         obtain⟨rfl,rfl⟩:=lF
         rw[pM]at oC
         have:=jQ oC;subst this
         have IL:l≠[]→i.size=1:=by
          intro hl
          cases l with
          |nil=>exact(hl rfl).elim
          |cons b l=>rw[f2,←qX (h8 b) (by simp)];rfl
         by_cases hl:l=[]
         ·subst hl
          refine⟨fs,a0,fun _=>False,[],by simp only[List.map_nil];rw[aN],?_,fun _ h=>h.elim,fun _ h=>h.elim,fun _ _ h=>h.elim,fun _ h=>h.elim,fun _ _ h=>h,fun _ h=>h.elim⟩
          intro aw _
          exact⟨rfl,by simp[Builtin.firstCells,ByteArray.extract];rfl⟩
         ·refine⟨fs,a0,fun _=>False,_,BP l _,?_,fun _ h=>h.elim,fun _ h=>h.elim,fun _ _ h=>h.elim,fun _ h=>h.elim,fun _ _ h=>h,fun _ h=>h.elim⟩
          rw[IL hl,List.length_map]
          exact IH l
        ·rename_i a q pM
         split at lF
         ·rename_i abn eK s2 aO
          simp only[Option.some.injEq,Prod.mk.injEq]at lF
          obtain⟨rfl,rfl⟩:=lF
          rw[pM]at oC
          obtain⟨cu,g0,g1,g2,kU,g3,g4,g5,g6,g7,g8,g9,g10⟩:=l7 a0 rfl oC aO
          rw[eU g2,an]at g3
          rcases g3 with⟨rfl,IM,i6⟩|⟨b,cap,cur,eY,fr,aF,i6,bz,bK,df,cx,dB,dZ,gu,gZ,hT,kT⟩
          ·simp at i6;subst i6
           exact⟨cu,g0,fun _=>False,[],by rw[aN],(yh IM),fun _ h=>h.elim,fun _ h=>h.elim,fun _ _ h=>h.elim,fun _ h=>h.elim,g8,fun _ h=>h.elim⟩
          ·simp at i6;subst i6
           refine⟨cu,g0,aF,_,gZ,yg (qM bK _) ?_,fun c ai=>g4 c (hT c ai),fun c ai=>g5 c (hT c ai),fun u c ai=>g6 u c (hT c ai),fun c ai=>g7 c (hT c ai),g8,fun c ai=>g9 c (hT c ai)⟩
           rw[f2];exact aN.pK gZ qX
         ·cases lF
        ·cases lF
       have oD:news.length=bG.length*(C.T e).sz:=aN.pK jR qX
       have lG:∀c,Sn c→¬kU c:=fun c ab ad=>by obtain⟨u,hu⟩:=ey c ad;exact mO u c ab hu
       have jM:∀u c,Sn c→¬eS u c:=fun u c ab ad=>mO u c ab (vj u c ad)
       have grow:∀(base:Option Addr) (cap:Nat) (me:List Value) (Sx:Nat→Prop),fF= .slice base xs.length cap→Src C.P w i.size (.slice base xs.length cap) xs.length me→aN w F xs me Sx→(∀d∈xs,d.wd=(C.T e).sz)→(∀c,Sx c→Sn c)→¬xs.length+bG.length≤cap→
         Good C w0 F0 X ao w (Builtin.append_ #[T,bc] ty #[fF,gr]) (.aE (C.T e).sz (xs++bG)) vi:=by
        intro base cap me Sx x6 hold BX BZ dx mQ
        subst x6
        have aD:=IE (ty:=ty) bw hu pJ f1 f4 gQ hold mQ oB (by rw[f3];exact ye)
        have s4:=grownCap_ge w (xs.length+bG.length) cap e
        have s5:=grownCap_le_maxLen w (xs.length+bG.length) cap e (by unfold maxLen;omega)
        have s7:=aN.pK BX BZ
        have IP:aN w F (xs++bG) (me++news) (fun c=>Sx c∨kU c):=aN.append BX jR (fun _ h=>.inl h) (fun _ h=>.inr h) (fun c ab ad=>lG c (dx c ab) ad)
        have IQ:(me++news).length=(xs++bG).length*(C.T e).sz:=by simp[s7,oD,Nat.add_mul]
        have iy:=hz.sZ (aw:=w.drew.alloc (.cells (me.toArray++news.toArray++Builtin.zeroCells z.cells (grownCap w (xs.length+bG.length) cap e-(xs.length+bG.length))) e))
         (sz:=(C.T e).sz) (cap:=grownCap w (xs.length+bG.length) cap e) (xs:=xs++bG) (e:=e) (fr:=(0,0)) (Sn:=fun c=>Sx c∨kU c) rfl rfl rfl ⟨rfl,fun _=>Nat.le_succ _⟩
         (fun o _ ⟨_,ad⟩=>absurd ad (Nat.not_lt_zero _)) (by simpa using s4) s5
         (by
          simp only[Array.size_append,List.size_toArray,size_zeroCells,nR,s7,oD,mf,←Nat.add_mul]
          congr 1;omega)
         (by
          intro d ae
          rcases List.mem_append.1 ae with ae|ae
          ·exact BZ d ae
          ·exact qX d ae)
         (by
          simp only[Array.toList_append]
          rw[List.take_left' IQ]
          exact IP)
         (by rintro c (ai|ai);exact a4 c (dx c ai);exact jw c ai) (by rintro c (ai|ai);exact a5 c (dx c ai);exact cY c ai) (by rintro u c (ai|ai);exact jM u c (dx c ai);exact h9 u c ai) (by rintro c (ai|ai);exact mP c (dx c ai);exact fH c ai)
        refine⟨_,_,F,eS,aD,iy.1,?_⟩
        have:=iy.2
        simpa using this
       rw[an]at a3
       rcases a3 with⟨rfl,vk,i6⟩|⟨b,cap,cur,eY,fr,aF,i6,bz,bK,df,cx,dB,dZ,gu,gZ,hT,kT⟩
       ·simp at i6;subst i6
        by_cases B0:bG=[]
        ·subst B0
         have yl:news=[]:=by simpa using oD
         subst yl
         refine⟨.slice vk 0 0,w,F,eS,?_,hz,.inr ⟨rfl,rfl,fun _=>False,by simp only[bx,fD];rw[an];exact .inl ⟨rfl,_,rfl⟩,fun _ h=>h.elim,fun _ h=>h.elim,fun _ _ h=>h.elim,fun _ h=>h.elim⟩⟩
         obtain⟨ab,ad⟩:=gQ w rfl
         cases vk<;>rcases pJ with⟨eG,rfl⟩|rfl<;>simp at ab ad<;>simp[Builtin.append_,run_underlying bw,run_underlying hu,hR f1,ab,ad,storeCells]
        ·exact grow vk 0 [] (fun _=>False) rfl (yh vk) (by rw[aN]) (by simp) (fun _ h=>h.elim) (by
          cases bG with
          |nil=>exact(B0 rfl).elim
          |cons y bG=>simp)
       ·simp at i6;subst i6
        by_cases mQ:xs.length+bG.length≤cap
        ·
         have s7:=aN.pK gZ gu
         have hlen:cur.toList.length=cap*(C.T e).sz:=by simp[dZ]
         have hle:(xs.length+bG.length)*(C.T e).sz≤cap*(C.T e).sz:=Nat.mul_le_mul_right _ mQ
         rw[Nat.add_mul]at hle
         have iS:cur.toList=cur.toList.take (xs.length*(C.T e).sz)++((cur.toList.drop (xs.length*(C.T e).sz)).take news.length++(cur.toList.drop (xs.length*(C.T e).sz)).drop news.length):=by
          rw[List.take_append_drop,List.take_append_drop]
         obtain⟨aw,m1,m2,m3,m4,m5,m6,m7⟩:=ID (ty:=ty) (n:=xs.length) (m:=bG.length) (cap:=cap) bw hu pJ f1 gQ bK df iS (by rw[f2];exact s7) (by simp[hlen,oD];omega) (aN.pC _ _ _ jR) mQ
         have IU:=hz.turn m3 m4 m5 m6 m7 (a5 b bz) (fun u hu=>jM u b bz hu) (mP b bz)
         have mJ:∀c,F c→aw.heap[c]? =w.heap[c]? :=fun c ai=>m3 c (by rintro rfl;exact a5 _ bz ai)
         refine⟨_,aw,F,eS,m1,IU,.inr ⟨rfl,rfl,fun c=>Sn c∨kU c,?_,?_,?_,?_,?_⟩⟩
         ·simp only[bx,fD]
          rw[an]
          have B1:(cur.toList.take (xs.length*(C.T e).sz)++(news++(cur.toList.drop (xs.length*(C.T e).sz)).drop news.length)).toArray.size=cur.size:=by
           have:cur.size=cur.toList.length:=by simp
           rw[this]
           conv=>rhs;rw[iS]
           simp[hlen,oD];omega
          refine .inr ⟨b,cap,_,eY,fr,fun c=>aF c∨kU c,by simp,.inl bz,m2,by rw[B1];exact df,by simpa using mQ,dB,by rw[B1];exact dZ,?_,?_,?_,?_⟩
          ·intro d ae
           rcases List.mem_append.1 ae with ae|ae
           ·exact gu d ae
           ·exact qX d ae
          ·have qR:=aN.frame mJ _ _ _ (fun c ai=>m3 c (by rintro rfl;exact kT ai)) gZ
           have py:=aN.frame mJ _ _ _ (fun c ai=>m3 c (by rintro rfl;exact lG _ bz ai)) jR
           have:((cur.toList.take (xs.length*(C.T e).sz)++(news++(cur.toList.drop (xs.length*(C.T e).sz)).drop news.length)).toArray.toList.take ((xs++bG).length*(C.T e).sz))=cur.toList.take (xs.length*(C.T e).sz)++news:=by
            simp only[]
            rw[←List.append_assoc]
            exact List.take_left' (by rw[List.length_append,s7,oD,List.length_append,Nat.add_mul])
           rw[this]
           exact aN.append qR py (fun _ h=>.inl h) (fun _ h=>.inr h) (fun c ab ad=>lG c (hT c ab) ad)
          ·rintro c (ai|ai)
           ·exact .inl (hT c ai)
           ·exact .inr ai
          ·rintro(ai|ai)
           ·exact kT ai
           ·exact lG b bz ai
         ·rw[m4];rintro c (ai|ai);exact a4 c ai;exact jw c ai
         ·rintro c (ai|ai);exact a5 c ai;exact cY c ai
         ·rintro u c (ai|ai);exact jM u c ai;exact h9 u c ai
         ·rintro c (ai|ai);exact mP c ai;exact fH c ai
        ·exact grow (some ⟨b,0,none⟩) cap _ aF rfl (yg (qM bK _) (by rw[f2];exact aN.pK gZ gu)) gZ gu hT mQ
      ·cases he
     ·cases he
    ·cases he
   ·cases he
  ·cases he
 ·cases he
end
section
variable {C:bt} {w0 w aw:World} {F0 X F:Nat→Prop} {S:Nat→Nat→Prop} {s s1:aj} {ao:Nat→Value} {av:I}
theorem bb.IV (h:bb w0 F0 X F S s ao w) {x:Nat} {q:List Nat} {d aY:I} {b:Nat} (ae:I.sub q (s x)=some d) (ak:d.plain=false) (ym:aY.tree=true) (ab:∀v,fY d v→fY aY v) (U:∀v,cA d v→cA aY v)
  (ad:∀vs,aY≠.tuple vs) (h4:aY.wd=d.wd) (R:∀bR a dz,cg w q (s x) (bx (ao x)) none=some (d,bR,a)→an w F d bR dz→dz b∧an aw F aY bR dz) (lz:∀c,c≠b→aw.heap[c]? =w.heap[c]?) (cV:aw.heap.size=w.heap.size) (xV:aw.os=w.os)
  (xW:aw.tape=w.tape) (pw:Out aw w):∃aF,bb w0 F0 X F aF (cm (fO x s) x (I.put q aY (s x))) ao aw:=by
 have aO:=fE ae (.inl ak)
 have aq:=h.cj x
 rw[ay.bM aO]at aq
 obtain⟨bR,a,cQ,dz,g0,g1,g2,g3,g4,g5⟩:=ctx q (s x) (bx (ao x)) (S x) none d aq.2 ae
 obtain⟨px,aG⟩:=R bR a dz g0 g4
 have pN:S x b:=g2 b px
 have mJ:∀c,F c→aw.heap[c]? =w.heap[c]? :=fun c ai=>lz c (by rintro rfl;exact h.dY x _ pN ai)
 have qP:∀c,cQ c→c≠b:=fun c ai e=>g3 c ai (e▸px)
 have hO:an aw F (I.put q aY (s x)) (bx (ao x)) (fun c=>cQ c∨dz c):=by
  rcases g5 with⟨l,r,aH,aJ,aK⟩|⟨hz,cur,e,fr,l,r,aH,aJ,aK,b0,b_,bw⟩
  ·rw[aH]
   exact aK aw aY bR dz mJ (fun c ai=>lz c (qP c ai)) h4 aG (fun c ai mI=>g3 c mI ai)
  ·refine bw aw aY bR dz mJ (fun c ai _=>lz c (qP c ai)) ?_ h4 aG (fun c ai mI=>g3 c mI ai)
   rw[lz hz (qP hz aJ),aK,←b_]
 have sK:cA (I.put q aY (s x)) (ao x)∧(I.put q aY (s x)).tree=true:=by
  cases q with
  |nil=>
   simp only[I.sub,Option.some.injEq]at ae
   simp only[I.put]
   exact⟨U _ (ae▸aq.1),ym⟩
  |cons k q=>
   refine⟨sI aq.1 ae ab (fun _=>ad) h4,?_⟩
   rcases ow k q aY (s x)with⟨ag,gs,aH,e⟩|⟨ag,gs,aH,e⟩|⟨sz,xs,bG,aH,e⟩|⟨y,z,aH,e⟩|e<;>rw[e]<;>first|rfl|exact aO
 let ar:=cm (fO x s) x (I.put q aY (s x))
 have e2:∀y,y≠x→(ar y).tree=true→ar y=s y∧ao y=ao y:=fun y hy aO=>by
  have e:ar y=ca.bs x (s y):=hk _ _ hy
  rw[e]at aO⊢
  exact⟨(u4 aO).2,rfl⟩
 have jP:(ar x).plain=false→(s x).plain=false∧∀v,cA (s x) v→cA (ar x) v:=by
  intro _
  refine⟨?_,fun v aG=> ?_⟩
  ·cases sJ:(s x).plain with
   |false=>rfl
   |true=>rw[I.xJ _ _ _ sJ ae]at ak;cases ak
  ·simp only[ar,kk]
   cases q with
   |nil=>
    simp only[I.sub,Option.some.injEq]at ae
    simp only[I.put]
    exact U _ (ae▸aG)
   |cons k q=>exact sI aG ae ab (fun _=>ad) h4
 have both:∀c,(cQ c∨dz c)→S x c:=fun c ai=>ai.elim (g1 c) (g2 c)
 refine⟨eH S x (fun c=>cQ c∨dz c),?_⟩
 constructor
 case e3=>exact h.e3
 case fh=>exact h.fh
 case dH=>exact fun b R=>by rw[cV];exact h.dH b R
 case de=>
  intro u c R
  rw[cV]
  simp only[eH]at R
  split at R
  ·exact h.de x c (both c R)
  ·exact h.de u c R
 case dY=>
  intro u c R
  simp only[eH]at R
  split at R
  ·exact h.dY x c (both c R)
  ·exact h.dY u c R
 case dA=>
  intro u y c cI R hy
  simp only[eH]at R hy
  split at R
  ·rename_i hu
   rw[if_neg (fun e=>cI (hu.trans e.symm))]at hy
   exact h.dA x y c (fun e=>cI (hu.trans e)) (both c R) hy
  ·rename_i hu
   split at hy
   ·exact h.dA u x c hu R (both c hy)
   ·exact h.dA u y c cI R hy
 case cE=>
  intro u c R
  simp only[eH]at R
  split at R
  ·exact h.cE x c (both c R)
  ·exact h.cE u c R
 case cj=>
  intro u
  by_cases hu:u=x
  ·subst hu
   rw[kk,sF]
   exact(ay.bM sK.2).2 ⟨sK.1,hO⟩
  ·rw[hk _ _ hu,sG _ _ hu]
   have cI:∀y c,y≠x→S y c→aw.heap[c]? =w.heap[c]? :=fun y c hy ai=>lz c (by rintro rfl;exact h.dA y x c hy ai pN)
   refine(ay.bs e2 rfl jP (fun y eB d2 hy e8 sL=> ?_) mJ _).1 _ _ _ (Nat.le_refl _) (fun c ai=>cI u c hu ai) (h.cj u)
   have sM:=h.cj y
   rw[ay.bM (fE e8 sL)]at sM
   exact u3 eB _ _ _ none d2 sM.2 e8 (fun c ai=>cI y c hy ai)
 case old=>
  intro c c_ hQ
  rw[lz c ?_]
  ·exact h.old c c_ hQ
  ·rintro rfl
   rcases h.cE x c pN with bm|bm
   ·exact hQ bm
   ·omega
 case size=>rw[cV];exact h.size
 case os=>exact xV.trans h.os
 case tape=>exact xW.trans h.tape
 case output=>exact pw.trans h.output
 case eT=>exact h.eT
def B2 (P:Program) (t:TypeId):Bool:=match P.info? t with
 |some i=>match i.zero with
  |some (.bool false)=>true
  |_=>false
 |none=>false
def vl (C:bt) (T:TypeId):Bool:=match(C.T T).k with
 | .map mg oE=>match(C.T mg).k with
   | .str=>B2 C.P oE
   |_=>false
 |_=>false
def lH (C:bt) (s:aj) (T:TypeId) (x i:I):Option I:=match x,i with
 | .h y q,.str k=>match I.sub q (s y)with
   |some (.cH (.mp m))=>if vl C T=true then some (.bool (oq k m))else none
   |_=>none
 |_,_=>none
def kp (C:bt) (s:aj) (T:TypeId) (x i v:I):Option aj:=match x,i,v with
 | .h y q,.str k,.bool b=>match I.sub q (s y)with
   |some (.cH (.mp m))=>if vl C T=true then some (cm (fO y s) y (I.put q (.cH (.mp (mG k b m))) (s y)))else none
   |_=>none
 |_,_,_=>none
theorem B3 (aU:C.dn) {T:TypeId} (h:vl C T=true):∃mg oE,C.P.underlying T=some (.map mg oE)∧C.P.underlying mg=some .string∧∀w,(zeroValue oE).run C.P w= .ok (.bool false) w:=by
 unfold vl at h
 split at h
 ·rename_i mg oE al
  split at h
  ·rename_i ab
   obtain⟨i,d,z,aH,aJ,aK,b0,b_,bw,bn⟩:=aU.info (eg al (by simp))
   obtain⟨nK,aY,mL,f1,f2,f3,f4,f5,f6,f7⟩:=aU.info (eg ab (by simp))
   rw[al]at bn
   rw[ab]at f7
   have:=mK f7;subst this
   refine⟨mg,oE,?_,f6,fun w=> ?_⟩
   ·rw[bw];cases d<;>simp[iU]at bn
    rw[bn.1,bn.2]
   ·unfold B2 at h
    split at h
    ·rename_i i2 g1
     split at h
     ·rename_i g2;exact pA g1 g2 w
     ·cases h
    ·cases h
  ·cases h
 ·cases h
theorem yn (a b:ByteArray):(a==b)=true↔a=b:=by
 constructor
 ·intro h
  exact ByteArray.ext (eq_of_beq (show(a.data==b.data)=true from h))
 ·rintro rfl
  show(a.data==a.data)=true
  simp
theorem yo (k:List UInt8) (b:Bool):∀(es:List MapEntry) (m:List (List UInt8×Bool)) (i:Nat),es.map (fun e=>(e.key,e.val))=m.map (fun e=>(.string ⟨⟨e.1⟩⟩,.bool e.2))→
  (Instr.findNow .string (.string ⟨⟨k⟩⟩) es i=some none∧oq k m=false∧mG k b m=m++[(k,b)])∨
  ∃j e,es[j]? =some e∧e.key= .string ⟨⟨k⟩⟩∧Instr.findNow .string (.string ⟨⟨k⟩⟩) es i=some (some (i+j,.bool (oq k m)))∧mG k b m=m.set j (k,b)
 |[],m,i,h=>by
  have:m=[]:=by simpa using h.symm
  subst this
  exact .inl ⟨rfl,rfl,rfl⟩
 |e::es,[],i,h=>by simp at h
 |e::es,(cB,dQ)::m,i,h=>by
  simp only[List.map_cons,List.cons.injEq,Prod.mk.injEq]at h
  obtain⟨⟨ab,ad⟩,aB⟩:=h
  by_cases al:cB=k
  ·subst al
   refine .inr ⟨0,e,rfl,ab,?_,by simp[mG]⟩
   have:(((⟨⟨cB⟩⟩:ByteArray)==⟨⟨cB⟩⟩))=true:=(yn _ _).2 rfl
   simp only[Instr.findNow,ab,ad,Instr.sameNow,oq,this,if_true,Nat.add_zero]
  ·have aW:((⟨⟨k⟩⟩:ByteArray)==⟨⟨cB⟩⟩)=false:=by
    refine Bool.eq_false_iff.2 fun e=>al ?_
    have:=(yn _ _).1 e
    simp only[ByteArray.mk.injEq,Array.mk.injEq]at this
    exact this.symm
   rcases yo k b es m (i+1) aB with⟨g1,g2,g3⟩|⟨j,eG,g1,g2,g3,g4⟩
   ·refine .inl ⟨?_,?_,?_⟩
    ·simp only[Instr.findNow,ab,Instr.sameNow,aW];exact g1
    ·simp[oq,al,g2]
    ·simp[mG,al,g3]
   ·refine .inr ⟨j+1,eG,g1,g2,?_,?_⟩
    ·simp only[Instr.findNow,ab,Instr.sameNow,aW]
     rw[g3];simp[oq,al,Nat.add_assoc,Nat.add_comm 1 j]
    ·simp[mG,al,g4]
theorem vm {P:Program} {mg:TypeId} (al:P.underlying mg=some .string) (e:Bool) (k:ByteArray) (w:World):(Instr.checkKey e 10000 mg (.string k)).run P w= .ok () w:=by
 unfold Instr.checkKey
 simp[run_underlying al]
theorem B4 (h:bb w0 F0 X F S s ao w) {y:Nat} {q:List Nat} {m:List (List UInt8×Bool)} {v:Value} (aG:ay w F s ao (.h y q) v (fun _=>False)) (ae:I.sub q (s y)=some (.cH (.mp m))):
  ∃r ms kj,v= .map (some r)∧w.heap[r]? =some (.map ms kj)∧ms.toList.map (fun e=>(e.key,e.val))=m.map (fun e=>(.string ⟨⟨e.1⟩⟩,.bool e.2))∧
   ∃a,cg w q (s y) (bx (ao y)) none=some (.cH (.mp m),[.map (some r)],a):=by
 rw[ay]at aG
 obtain⟨bR,a,g1,g2,g3⟩:=aG _ ae rfl
 have ab:Value.eO v=true:=g3
 rw[eU ab]at g2
 have aq:=h.cj y
 rw[ay.bM (fE ae (.inl rfl))]at aq
 obtain⟨ed,bU,cQ,dz,k0,bz,bK,df,cx,dB⟩:=ctx q (s y) (bx (ao y)) (S y) none _ aq.2 ae
 rw[k0]at g1
 simp only[Option.some.injEq,Prod.mk.injEq,true_and]at g1
 obtain⟨rfl,rfl⟩:=g1
 rw[an]at cx
 obtain⟨r,ms,kj,aH,aJ,aK,b0⟩:=cx
 rw[aH]at g2 k0
 exact⟨r,ms,kj,by simpa using g2,aK,b0,bU,k0⟩
theorem IW (aU:C.dn) (h:bb w0 F0 X F S s ao w) {T:TypeId} {x i:I} {fF lA:Value} (aq:ay w F s ao x fF (fun _=>False)) (aA:ay w F s ao i lA (fun _=>False)) (he:lH C s T x i=some av):
  Good C w0 F0 X ao w (Instr.lookup T fF lA false) av s:=by
 unfold lH at he
 split at he
 ·rename_i y q k
  split at he
  ·rename_i m ae
   split at he
   ·rename_i ju
    simp only[Option.some.injEq]at he;subst he
    obtain⟨mg,oE,t1,t2,t3⟩:=B3 aU ju
    obtain⟨r,ms,kj,rfl,aJ,aK,_⟩:=B4 h aq ae
    have:=jQ aA;subst this
    refine Good.same h (v:=.bool (oq k m)) ?_ rfl (of_bool _)
    rcases yo k true ms.toList m 0 aK with⟨g1,g2,_⟩|⟨j,e,_,_,g1,_⟩
    ·simp[Instr.lookup,run_underlying t1,getObj,Sem.run,aJ,vm t2,Instr.findKey,run_underlying t2,g1,t3,g2]
    ·simp[Instr.lookup,run_underlying t1,getObj,Sem.run,aJ,vm t2,Instr.findKey,run_underlying t2,g1]
   ·cases he
  ·cases he
 ·cases he
theorem IX (aU:C.dn) (h:bb w0 F0 X F S s ao w) {T:TypeId} {x i v:I} {fF lA B5:Value} (aq:ay w F s ao x fF (fun _=>False)) (aA:ay w F s ao i lA (fun _=>False)) (aG:ay w F s ao v B5 (fun _=>False)) {s2:aj}
  (he:kp C s T x i v=some s2):∃aw aF,(Instr.mapUpdate T fF lA B5).run C.P w= .ok () aw∧bb w0 F0 X F aF s2 ao aw:=by
 unfold kp at he
 split at he
 ·rename_i y q k b
  split at he
  ·rename_i m ae
   split at he
   ·rename_i ju
    simp only[Option.some.injEq]at he;subst he
    obtain⟨mg,oE,t1,t2,t3⟩:=B3 aU ju
    obtain⟨r,ms,kj,rfl,aJ,aK,a0,h6⟩:=B4 h aq ae
    have:=jQ aA;subst this
    have:=oz aG;subst this
    have key:∀(vn:Array MapEntry) (yp:Nat),vn.toList.map (fun e=>(e.key,e.val))=(mG k b m).map (fun e=>(.string ⟨⟨e.1⟩⟩,.bool e.2))→
      ∃aF,bb w0 F0 X F aF (cm (fO y s) y (I.put q (.cH (.mp (mG k b m))) (s y))) ao {w with heap:=w.heap.setIfInBounds r (.map vn yp)}:=by
     intro vn yp hm
     have aD:r<w.heap.size:=(Array.getElem?_eq_some_iff.1 aJ).1
     refine bb.IV (b:=r) h ae rfl rfl (fun v aG=>aG) (fun v aG=>aG) (fun vs e=>by cases e) rfl ?_ (fun c ai=> ?_) (by simp) rfl rfl ⟨rfl,fun _=>Nat.le_refl _⟩
     ·intro bR a dz bk eP
      rw[h6]at bk
      simp only[Option.some.injEq,Prod.mk.injEq,true_and]at bk
      obtain⟨rfl,_⟩:=bk
      rw[an]at eP⊢
      obtain⟨fl,oF,abo,f1,f2,f3,f4⟩:=eP
      simp only[List.cons.injEq,Value.map.injEq,Option.some.injEq,and_true]at f1
      subst f1
      exact⟨f2,r,vn,yp,rfl,f2,by simp[aD],hm⟩
     ·simp[Ne.symm ai]
    rcases yo k b ms.toList m 0 aK with⟨g1,_,g2⟩|⟨j,e,g0,ge,g1,g2⟩
    ·obtain⟨aF,bz⟩:=key (ms.push {key:=.string ⟨⟨k⟩⟩,val:=.bool b,born:=kj}) (kj+1) (by rw[g2];simp[aK])
     exact⟨_,aF,by simp[Instr.mapUpdate,run_underlying t1,getObj,setObj,Sem.run,aJ,vm t2,Instr.findKey,run_underlying t2,g1],bz⟩
    ·rw[Nat.zero_add]at g1
     obtain⟨aF,bz⟩:=key (ms.modify j fun e=>{e with key:=.string ⟨⟨k⟩⟩,val:=.bool b}) kj (by
      rw[g2,List.map_set,←aK]
      apply List.ext_getElem?
      intro n
      by_cases aW:n=j
      ·subst aW
       have:n<ms.toList.length:=(List.getElem?_eq_some_iff.1 g0).1
       rw[List.getElem?_set_self (by simpa using this)]
       simp[g0]
      ·simp[List.getElem?_set_ne (Ne.symm aW),Ne.symm aW])
     have IY:ms[j]? =some e:=by simpa using g0
     exact⟨_,aF,by simp[Instr.mapUpdate,run_underlying t1,getObj,setObj,Sem.run,aJ,vm t2,Instr.findKey,run_underlying t2,g1,IY,ge,Instr.keyThatStays,Instr.sameBits,(yn ⟨⟨k⟩⟩ ⟨⟨k⟩⟩).2 rfl],bz⟩
   ·cases he
  ·cases he
 ·cases he
theorem IZ (h:bb w0 F0 X F S s ao w) (t:TypeId):Good C w0 F0 X ao w (Instr.makeMap t none) (.cH (.mp [])) s:=by
 have hold:∀b,b<w.heap.size→(w.alloc (.map #[] 0)).heap[b]? =w.heap[b]? :=by
  intro b R
  show(w.heap.push _)[b]? =_
  rw[Array.getElem?_push,if_neg (by omega)]
 refine⟨.map (some w.heap.size),w.alloc (.map #[] 0),F,S,?_,h.grow hold (by simp) rfl rfl ⟨rfl,fun _=>Nat.le_refl _⟩,.inr ⟨rfl,rfl,fun b=>b=w.heap.size,?_,?_,?_,?_,?_⟩⟩
 ·simp[Instr.makeMap,newObj,Sem.run]
 ·rw[an]
  refine⟨w.heap.size,#[],0,rfl,rfl,?_,rfl⟩
  show(w.heap.push _)[_]? =_
  simp
 ·rintro b rfl;simp
 ·rintro b rfl nM;exact Nat.lt_irrefl _ (h.dH _ nM)
 ·rintro u b rfl hu;exact Nat.lt_irrefl _ (h.de _ _ hu)
 ·rintro b rfl;exact .inr h.size
end
end Go.ca
