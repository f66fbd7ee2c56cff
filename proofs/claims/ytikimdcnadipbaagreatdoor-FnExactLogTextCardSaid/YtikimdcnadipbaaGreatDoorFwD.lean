/- Part of a proof that a law returns true for every input. No condition. -/
import Derived.Test.YtikimdcnadipbaaGreatDoorFwC
import Derived.Test.YtikimdcnadipbaaGreatDoorFwA
import Derived.Laws.IdiomStrings
import Derived.Laws.Strings
import Derived.LaidEql
import Derived.WideLaws
import Derived.Laws.StructEq
namespace Go.bZ
section
variable {C:bm} {w0 w:World} {F0 X F:Nat→Prop} {S:Nat→Nat→Prop} {s s1:ag} {an:Nat→Value} {av:I}
theorem jN {k:IntKind} {n:Int} {v:Value} {aE:Nat→Prop} (h:au w F s an (.int k n) v aE):v= .int k n:=by
 have aT:=(au.bB rfl).1 h
 rw[ak,eC aT.1]at aT
 simpa using aT.2
theorem nT {b:Bool} {v:Value} {aE:Nat→Prop} (h:au w F s an (.bool b) v aE):v= .bool b:=by
 have aT:=(au.bB rfl).1 h
 rw[ak,eC aT.1]at aT
 simpa using aT.2
theorem iM {b:List UInt8} {v:Value} {aE:Nat→Prop} (h:au w F s an (.str b) v aE):v= .string ⟨⟨b⟩⟩:=by
 have aT:=(au.bB rfl).1 h
 rw[ak,eC aT.1]at aT
 simpa using aT.2
theorem AD {v:Value} {aE:Nat→Prop} (h:au w F s an .cw v aE):v= .pointer none:=by
 have aT:=(au.bB rfl).1 h
 rw[ak,eC aT.1]at aT
 simpa using aT.2
theorem mV {v:Value} {aE:Nat→Prop} (h:au w F s an .bu v aE):v= .slice none 0 0:=by
 have aT:=(au.bB rfl).1 h
 rw[ak,eC aT.1]at aT
 simpa using aT.2
theorem AE {v:Value} {aE:Nat→Prop} (h:au w F s an .di v aE):∃b,v= .bool b:=by
 have aT:=(au.bB rfl).1 h
 rw[ak,eC aT.1]at aT
 simpa using aT.2
theorem of_int (k:IntKind) (n:Int):au w F s an (.int k n) (.int k n) (fun _=>False):=(au.bB rfl).2 ⟨rfl,by rw[ak];rfl⟩
theorem of_bool (b:Bool):au w F s an (.bool b) (.bool b) (fun _=>False):=(au.bB rfl).2 ⟨rfl,by rw[ak];rfl⟩
theorem kJ (b:List UInt8):au w F s an (.str b) (.string ⟨⟨b⟩⟩) (fun _=>False):=(au.bB rfl).2 ⟨rfl,by rw[ak];rfl⟩
theorem xf (b:Bool):au w F s an .di (.bool b) (fun _=>False):=(au.bB rfl).2 ⟨rfl,by rw[ak];exact⟨b,rfl⟩⟩
def fC (op:BinOp) (k:IntKind) (a:Int) (cr:IntKind) (b:Int):Option I:=
 match op with
 | .shl=>if b<0 then none else some (.int k (k.wrap (a*2^(min b.toNat k.bits))))
 | .shr=>if b<0 then none else some (.int k (a.fdiv (2^(min b.toNat k.bits))))
 | .add=>if k=cr then some (.int k (k.wrap (a+b)))else none
 | .sub=>if k=cr then some (.int k (k.wrap (a-b)))else none
 | .mul=>if k=cr then some (.int k (k.wrap (a*b)))else none
 | .quo=>if k=cr∧b≠0 then some (.int k (k.wrap (a.tdiv b)))else none
 | .rem=>if k=cr∧b≠0 then some (.int k (a.tmod b))else none
 | .eql=>if k=cr then some (.bool (a==b))else none
 | .neq=>if k=cr then some (.bool (a !=b))else none
 | .lss=>if k=cr then some (.bool (decide (a<b)))else none
 | .leq=>if k=cr then some (.bool (decide (a≤b)))else none
 | .gtr=>if k=cr then some (.bool (decide (b<a)))else none
 | .geq=>if k=cr then some (.bool (decide (b≤a)))else none
 | .and=>if k=cr then some (.int k (bitsOf .and k a b))else none
 | .or=>if k=cr then some (.int k (bitsOf .or k a b))else none
 | .xor=>if k=cr then some (.int k (bitsOf .xor k a b))else none
 | .andNot=>if k=cr then some (.int k (bitsOf .andNot k a b))else none
def kk (op:BinOp) (a b:List UInt8):Option I:=
 match op with
 | .add=>if a.length+b.length≤9223372036854775807 then some (.str (a++b))else none
 | .eql=>some (.bool (a==b))
 | .neq=>some (.bool !(a==b))
 | .lss=>some (.bool (Op.bytesLess a b))
 | .leq=>some (.bool (Op.bytesLess a b||a==b))
 | .gtr=>some (.bool !(Op.bytesLess a b||a==b))
 | .geq=>some (.bool !(Op.bytesLess a b))
 |_=>none
def im (s:ag):I→Option (Option Bool)
 | .bu=>some (some true)
 | .slice xs=>some (if xs=[]then none else some false)
 | .h x q=>match I.sub q (s x)with
   |some (.aG _ xs)=>some (if xs=[]then none else some false)
   |_=>none
 |_=>none
def iq (s:ag):I→Option Bool
 | .cw=>some true
 | .ref _=>some false
 | .h x q=>match I.sub q (s x)with
   |some (.bG _)=>some false
   |_=>none
 |_=>none
def r4 (neg:Bool):Option Bool→I
 |some b=>.bool (b !=neg)
 |none=>.di
def structEq (P:Program) (T:TypeId):Bool:= !P.stoodInHeld T&& !P.eqGuardType P.depth T&&(P.fieldsOf T).toList.all fun f=>decide (f.name≠ "_")
def kK (C:bm):List (TypeId×Nat)→Nat→List I→List I→Option Bool
 |[],_,[],[]=>some true
 |(gL,off)::aj,n,d::ds,e::es=>if off=n then(match(C.T gL).k,d,e with
  | .int k,.int bg a,.int bw b=>if bg=k∧bw=k then(kK C aj (n+1) ds es).map fun r=>a==b&&r else none
  | .bool,.bool a,.bool b=>(kK C aj (n+1) ds es).map fun r=>a==b&&r
  | .str,.str a,.str b=>(kK C aj (n+1) ds es).map fun r=>a==b&&r
  |_,_,_=>none)else none
 |_,_,_,_=>none
def bC (C:bm) (s:ag) (op:BinOp) (T:TypeId) (x y:I):Option I:=
 match x,y with
 | .int k a,.int cr b=>fC op k a cr b
 | .str a,.str b=>kk op a b
 | .bool a,.bool b=>match op,(C.T T).k with
   | .eql,.bool=>some (.bool (a==b))
   | .neq,.bool=>some (.bool !(a==b))
   |_,_=>none
 | .agg ds,.agg es=>match op,(C.T T).k with
   | .eql,.struct aj=>if structEq C.P T=true then(kK C aj 0 ds es).map fun b=>.bool b else none
   | .neq,.struct aj=>if structEq C.P T=true then(kK C aj 0 ds es).map fun b=>.bool !b else none
   |_,_=>none
 |x,.bu=>match op,(C.T T).k with
  | .eql,.slice _=>(im s x).map (r4 false)
  | .neq,.slice _=>(im s x).map (r4 true)
  |_,_=>none
 |x,.cw=>match op,(C.T T).k with
  | .eql,.ptr _=>(iq s x).map fun b=>.bool b
  | .neq,.ptr _=>(iq s x).map fun b=>.bool !b
  |_,_=>none
 |_,_=>none
theorem GV {P:Program} {op:BinOp} {T:TypeId} {k cr:IntKind} {a b:Int} (he:fC op k a cr b=some av) (w:World):
  ∃v,(binOp op T (.int k a) (.int cr b)).run P w= .ok v w∧au w F s an av v (fun _=>False):=by
 unfold fC at he
 cases op<;>simp only at he<;>split at he<;>first|(cases he;done)|skip
 all_goals
  rename_i af
  simp only[Option.some.injEq]at he
  subst he
 all_goals first
  |(subst af;simp only[binOp_add,binOp_sub,binOp_mul,binOp_eql,binOp_neq,binOp_lss,binOp_leq,binOp_gtr,binOp_geq,binOp_and,binOp_or,binOp_xor,binOp_andNot,Op.intArith,Op.intBits,Sem.run_pure,Result.ok.injEq,and_true,exists_eq_left']
    first|exact of_int _ _|exact of_bool _)
  |(obtain⟨rfl,bl⟩:=af
    simp only[binOp_quo,binOp_rem,Op.intDiv,bl,if_false,Sem.run_pure,Result.ok.injEq,and_true,exists_eq_left']
    exact of_int _ _)
  |(simp only[binOp_shl,binOp_shr,Op.shift,af,if_false,Sem.run_pure,Result.ok.injEq,and_true,exists_eq_left']
    exact of_int _ _)
theorem r5 (a:List UInt8):(⟨⟨a⟩⟩:ByteArray).toList=a:=ByteArray.toList_eq _
theorem GW (a b:List UInt8):(⟨⟨a⟩⟩:ByteArray)++(⟨⟨b⟩⟩:ByteArray)=⟨⟨a++b⟩⟩:=by
 apply ByteArray.ext
 simp[ByteArray.data_append]
theorem GX {P:Program} {op:BinOp} {T:TypeId} {a b:List UInt8} (he:kk op a b=some av) (w:World):
  ∃v,(binOp op T (.string ⟨⟨a⟩⟩) (.string ⟨⟨b⟩⟩)).run P w= .ok v w∧au w F s an av v (fun _=>False):=by
 have J:∀op,binOp op T (.string ⟨⟨a⟩⟩) (.string ⟨⟨b⟩⟩)=Op.stringOp op ⟨⟨a⟩⟩ ⟨⟨b⟩⟩:=by intro op;cases op<;>rfl
 rw[J]
 unfold kk at he
 cases op<;>simp only[Option.some.injEq]at he<;>first|(cases he;done)|skip
 case add=>
  split at he
  ·rename_i aI
   simp only[Option.some.injEq]at he;subst he
   have U:((ByteArray.size ⟨⟨a⟩⟩+ByteArray.size ⟨⟨b⟩⟩:Nat):Int)≤9223372036854775807:=by
    show((a.length+b.length:Nat):Int)≤_
    omega
   refine⟨.string ⟨⟨a++b⟩⟩,?_,kJ _⟩
   simp only[Op.stringOp,IntKind.max_i64]
   rw[if_neg (by omega),GW]
   rfl
  ·cases he
 all_goals
  subst he
  simp only[Op.stringOp,r5,Sem.run_pure,Result.ok.injEq,and_true,exists_eq_left']
  exact of_bool _
theorem xg (h:a1 w0 F0 X F S s an w) {v:Value} {y:Nat} {q:List Nat} (aD:au w F s an (.h y q) v (fun _=>False)) {sz:Nat} {xs:List I} (ae:I.sub q (s y)=some (.aG sz xs)):
  (xs=[]∧∃a,v= .slice a 0 0)∨∃b cap cur e fr,v= .slice (some ⟨b,0,none⟩) xs.length cap∧w.heap[b]? =some (.cells cur e fr)∧nO fr cur.size∧xs.length≤cap∧cap≤maxLen∧cur.size=cap*sz∧(∀d∈xs,d.wd=sz)∧
   ∃aE,aL w F xs (cur.toList.take (xs.length*sz)) aE∧(∀c,aE c→S y c)∧S y b:=by
 rw[au]at aD
 obtain⟨bK,a,g1,g2,g3⟩:=aD _ ae rfl
 have U:Value.ep v=true:=g3
 rw[eC U]at g2;subst g2
 have ai:=h.b2 y
 rw[au.bB (fg ae (.inl rfl))]at ai
 obtain⟨dO,bU,cK,dx,k0,bg,bw,cM,cc,c8⟩:=ctx q (s y) (bs (an y)) (S y) none _ ai.2 ae
 rw[k0]at g1
 simp only[Option.some.injEq,Prod.mk.injEq,true_and]at g1
 obtain⟨rfl,rfl⟩:=g1
 rw[ak]at cc
 rcases cc with⟨rfl,a2,ab⟩|⟨b,cap,cur,aJ,fr,cx,aN,bt,bN,bh,ba,gz,fi,gT,hp,jj,fH⟩
 ·simp at ab;exact .inl ⟨rfl,_,ab⟩
 ·simp at aN
  exact .inr ⟨b,cap,cur,aJ,fr,aN,bN,bh,ba,gz,fi,gT,cx,hp,fun c af=>bw _ (jj c af),bw _ bt⟩
theorem AF (h:a1 w0 F0 X F S s an w) {v:Value} {y:Nat} {q:List Nat} (aD:au w F s an (.h y q) v (fun _=>False)) {d:I} (ae:I.sub q (s y)=some (.bG d)):
  ∃b cur e fr,v= .pointer (some ⟨b,0,none⟩)∧w.heap[b]? =some (.cells cur e fr):=by
 rw[au]at aD
 obtain⟨bK,a,g1,g2,g3⟩:=aD _ ae rfl
 have U:Value.ep v=true:=g3
 rw[eC U]at g2;subst g2
 have ai:=h.b2 y
 rw[au.bB (fg ae (.inl rfl))]at ai
 obtain⟨dO,bU,cK,dx,k0,bg,bw,cM,cc,c8⟩:=ctx q (s y) (bs (an y)) (S y) none _ ai.2 ae
 rw[k0]at g1
 simp only[Option.some.injEq,Prod.mk.injEq,true_and]at g1
 obtain⟨rfl,rfl⟩:=g1
 rw[ak]at cc
 obtain⟨b,cur,aJ,fr,cx,aN,bt,bN,_⟩:=cc
 simp at aN
 exact⟨b,cur,aJ,fr,aN,bN⟩
theorem AG {P:Program} {T e:TypeId} (aK:P.underlying T=some (.slice e)) (w:World):∀d,(Op.equalIn (d+1) T (.slice none 0 0) (.slice none 0 0)).run P w= .ok true w∧
  ∀a n c,(Op.equalIn (d+1) T (.slice (some a) n c) (.slice none 0 0)).run P w= .ok false w:=by
 intro d
 refine⟨by simp[Op.equalIn,run_underlying aK],fun a n c=>by simp[Op.equalIn,run_underlying aK]⟩
theorem AH {P:Program} {T e:TypeId} (aK:P.underlying T=some (.pointer e)) (w:World):∀d,(Op.equalIn (d+1) T (.pointer none) (.pointer none)).run P w= .ok true w∧
  ∀a,(Op.equalIn (d+1) T (.pointer (some a)) (.pointer none)).run P w= .ok false w:=by
 intro d
 refine⟨by simp[Op.equalIn,run_underlying aK],fun a=>by simp[Op.equalIn,run_underlying aK]⟩
theorem AJ {P:Program} {T:TypeId} (aK:P.underlying T=some .bool) (w:World):∀d a b,(Op.equalIn (d+1) T (.bool a) (.bool b)).run P w= .ok (a==b) w:=by
 intro d a b
 simp[Op.equalIn,run_underlying aK]
theorem AK (h:a1 w0 F0 X F S s an w) {x:I} {v:Value} (aD:au w F s an x v (fun _=>False)) {T e:TypeId} {r:Option Bool} (aC:im s x=some r) (aK:C.P.underlying T=some (.slice e)):
  ∃b,(Op.equal T v (.slice none 0 0)).run C.P w= .ok b w∧(∀dK,r=some dK→dK=b)∧Value.ep v=true∧∃a n c,v= .slice a n c:=by
 have aF:=fun a n c=>(AG aK w 9999).2 a n c
 have eG:=(AG aK w 9999).1
 cases x with
 |bu=>
  have:=mV aD;subst this
  simp[im]at aC;subst aC
  exact⟨true,eG,by simp,rfl,_,_,_,rfl⟩
 |slice xs=>
  have aT:=(au.bB rfl).1 aD
  rw[ak,eC aT.1]at aT
  simp only[im,Option.some.injEq]at aC
  obtain⟨_,⟨rfl,a,c,ab,_,o1⟩|⟨b,o,cap,cN,sz,ab,aB⟩⟩:=aT
  ·simp at ab aC;subst ab;subst aC
   cases a with
   |none=>
    have:=o1 rfl;subst this
    exact⟨true,eG,by simp,rfl,_,_,_,rfl⟩
   |some a=>exact⟨false,aF _ _ _,by simp,rfl,_,_,_,rfl⟩
  ·simp at ab;subst ab
   refine⟨false,aF _ _ _,?_,rfl,_,_,_,rfl⟩
   subst aC
   split<;>simp
 |h y q=>
  simp only[im]at aC
  split at aC
  ·rename_i sz xs ae
   simp only[Option.some.injEq]at aC
   rcases xg h aD ae with⟨rfl,a,rfl⟩|⟨b,cap,cur,aJ,fr,rfl,_⟩
   ·simp at aC;subst aC
    cases a with
    |none=>exact⟨true,eG,by simp,rfl,_,_,_,rfl⟩
    |some a=>exact⟨false,aF _ _ _,by simp,rfl,_,_,_,rfl⟩
   ·refine⟨false,aF _ _ _,?_,rfl,_,_,_,rfl⟩
    subst aC
    split<;>simp
  ·cases aC
 |_=>simp[im]at aC
theorem AL (h:a1 w0 F0 X F S s an w) {x:I} {v:Value} (aD:au w F s an x v (fun _=>False)) {T e:TypeId} {r:Bool} (aC:iq s x=some r) (aK:C.P.underlying T=some (.pointer e)):
  (Op.equal T v (.pointer none)).run C.P w= .ok r w∧∃a,v= .pointer a:=by
 have aF:=fun a=>(AH aK w 9999).2 a
 have eG:=(AH aK w 9999).1
 cases x with
 |cw=>
  have:=AD aD;subst this
  simp[iq]at aC;subst aC
  exact⟨eG,_,rfl⟩
 |ref d=>
  have aT:=(au.bB rfl).1 aD
  rw[ak,eC aT.1]at aT
  simp[iq]at aC;subst aC
  obtain⟨_,b,o,cN,ab,_⟩:=aT
  simp at ab;subst ab
  exact⟨aF _,_,rfl⟩
 |h y q=>
  simp only[iq]at aC
  split at aC
  ·rename_i d ae
   simp only[Option.some.injEq]at aC;subst aC
   obtain⟨b,cur,e,fr,rfl,_⟩:=AF h aD ae
   exact⟨aF _,_,rfl⟩
  ·cases aC
 |_=>simp[iq]at aC
theorem GY (aV:C.db):∀(aj:List (TypeId×Nat)) (gs:List Field) (n:Nat) (ds es:List I) (r:Bool) (eR l2 bD c2:List Value) (xs bA:Array Value) (bk cx:Nat→Prop),
  gs.map (fun g=>(g.type,g.offset))=aj→(gs.all fun f=>decide (f.name≠ "_"))=true→kK C aj n ds es=some r→aL w F ds bD bk→aL w F es c2 cx→xs.toList=eR++bD→eR.length=n→bA.toList=l2++c2→l2.length=n→
  ∀m,(Op.eqFields (m+1) xs bA gs).run C.P w= .ok r w:=by
 intro aj
 induction aj with
 |nil=>
  intro gs n ds es r eR l2 bD c2 xs bA bk cx hg aQ he aa ab ai aI hy xh m
  have:gs=[]:=by simpa using hg
  subst this
  cases ds<;>cases es<;>simp[kK]at he
  subst he
  simp[Op.eqFields]
 |cons p aj ih=>
  obtain⟨gL,off⟩:=p
  intro gs n ds es r eR l2 bD c2 xs bA bk cx hg aQ he aa ab ai aI hy xh m
  cases gs with
  |nil=>simp at hg
  |cons g gs=>
   simp only[List.map_cons,List.cons.injEq,Prod.mk.injEq]at hg
   obtain⟨⟨rfl,rfl⟩,hg⟩:=hg
   simp only[List.all_cons,Bool.and_eq_true,decide_eq_true_eq]at aQ
   cases ds with
   |nil=>simp[kK]at he
   |cons d ds=>
   cases es with
   |nil=>simp[kK]at he
   |cons e es=>
   simp only[kK]at he
   split at he
   ·rename_i l3
    rw[aL]at aa ab
    obtain⟨aA,a2,uj,GZ,rfl,d_,eW,fA,AM,dU⟩:=aa
    obtain⟨jk,gr,X8,G0,rfl,fj,er,gM,gN,nU⟩:=ab
    have step:∀(x y:Value) (z:Bool),(C.T g.type).flat=true→aA=[x]→jk=[y]→(∀m,(Op.equalIn (m+1) g.type x y).run C.P w= .ok z w)→∀gU,kK C aj (n+1) ds es=some gU→
      (Op.eqFields (m+1) xs bA (g::gs)).run C.P w= .ok (z&&gU) w:=by
     intro x y z gq G1 G2 heq gU cW
     subst G1;subst G2
     have G3:xs[g.offset]? =some x:=by
      rw[←Array.getElem?_toList,ai,l3,←aI,List.getElem?_append_right (Nat.le_refl _)];simp
     have G4:bA[g.offset]? =some y:=by
      rw[←Array.getElem?_toList,hy,l3,←xh,List.getElem?_append_right (Nat.le_refl _)];simp
     have ay:=ih gs (n+1) ds es gU (eR++[x]) (l2++[y]) a2 gr xs bA GZ G0 hg aQ.2 cW eW er (by rw[ai];simp) (by simp[aI]) (by rw[hy];simp) (by simp[xh]) m
     unfold Op.eqFields
     rw[if_pos aQ.1]
     simp only[part,Sem.run_bind,xb aV gq,Result.andThen_ok,Bool.false_eq_true,if_false,G3,G4,Sem.run_pure,heq]
     cases z
     ·simp
     ·simpa using ay
    split at he
    ·rename_i k bg a bw b al
     split at he
     ·rename_i G5
      obtain⟨rfl,rfl⟩:=G5
      rw[ak]at d_ fj
      simp only[Option.map_eq_some_iff]at he
      obtain⟨gU,cW,rfl⟩:=he
      obtain⟨i,r6,AN,aF,aJ,aN,bt,bN,bh,ba⟩:=aV.info (dQ al (by simp))
      rw[al]at ba
      have o2:=r0 ba
      subst o2
      exact step _ _ _ (by simp[ee.flat,al]) d_ fj (fun m=>run_equalIn_int w m g.type _ _ a b bh) gU cW
     ·cases he
    ·rename_i a b al
     rw[ak]at d_ fj
     simp only[Option.map_eq_some_iff]at he
     obtain⟨gU,cW,rfl⟩:=he
     obtain⟨i,r6,AN,aF,aJ,aN,bt,bN,bh,ba⟩:=aV.info (dQ al (by simp))
     rw[al]at ba
     have o2:=w7 ba
     subst o2
     exact step _ _ _ (by simp[ee.flat,al]) d_ fj (fun m=>run_equalIn_bool' w m g.type a b bh) gU cW
    ·rename_i a b al
     rw[ak]at d_ fj
     simp only[Option.map_eq_some_iff]at he
     obtain⟨gU,cW,rfl⟩:=he
     obtain⟨i,r6,AN,aF,aJ,aN,bt,bN,bh,ba⟩:=aV.info (dQ al (by simp))
     rw[al]at ba
     have o2:=l1 ba
     subst o2
     refine step _ _ (a==b) (by simp[ee.flat,al]) d_ fj (fun m=> ?_) gU cW
     rw[run_equalIn_string w m g.type _ _ bh,r5,r5]
    ·cases he
   ·cases he
theorem AO (aV:C.db) {T:TypeId} {aj:List (TypeId×Nat)} (al:(C.T T).k= .struct aj) {ds es:List I} {fh fP:Value} {bk cx:Nat→Prop} {r:Bool} (ai:au w F s an (.agg ds) fh bk) (hy:au w F s an (.agg es) fP cx)
  (b6:structEq C.P T=true) (he:kK C aj 0 ds es=some r) (op:BinOp) (r7 r8:Operand):
  (eqGuard op T r7 r8 fh fP).run C.P w= .ok () w∧(Op.equal T fh fP).run C.P w= .ok r w:=by
 obtain⟨i,d,z,aF,aJ,aN,bt,bN,bh,ba⟩:=aV.info (dQ al (by simp))
 rw[al]at ba
 obtain⟨gs,rfl,gz⟩:=rZ ba
 have r9:C.P.fieldsOf T=gs:=by simp[Program.fieldsOf,bh]
 simp only[structEq,Bool.and_eq_true,Bool.not_eq_true',r9]at b6
 obtain⟨⟨fj,er⟩,gM⟩:=b6
 obtain⟨⟨xs,rfl⟩,p7⟩:=(au.bB rfl).1 ai
 obtain⟨⟨bA,rfl⟩,oV⟩:=(au.bB rfl).1 hy
 rw[ak]at p7 oV
 constructor
 ·cases op<;>simp[eqGuard,er]
 ·show(Op.equalIn (9999+1) T _ _).run C.P w=_
  rw[run_equalIn_struct w 9999 T xs bA (by rw[r9];exact bh) fj,r9]
  exact GY aV aj gs.toList 0 ds es r [] [] _ _ xs bA bk cx gz gM he p7 oV rfl rfl rfl rfl 9998
theorem G6 (aV:C.db) (h:a1 w0 F0 X F S s an w) {op:BinOp} {T:TypeId} {x y:I} {fh fP:Value} (r7 r8:Operand) (ai:au w F s an x fh (fun _=>False)) (hy:au w F s an y fP (fun _=>False))
  (he:bC C s op T x y=some av):Good C w0 F0 X an w (do eqGuard op T r7 r8 fh fP;binOp op T fh fP) av s:=by
 unfold bC at he
 split at he
 ·have:=jN ai;subst this
  have:=jN hy;subst this
  obtain⟨v,aa,ab⟩:=GV (P:=C.P) (T:=T) he w
  refine Good.same h (v:=v) ?_ ?_ ab
  ·rw[eqGuard_at_int];exact aa
  ·revert he;unfold fC;cases op<;>simp only<;>split<;>simp<;>(rintro rfl;rfl)
 ·have:=iM ai;subst this
  have:=iM hy;subst this
  obtain⟨v,aa,ab⟩:=GX (P:=C.P) (T:=T) he w
  refine Good.same h (v:=v) ?_ ?_ ab
  ·rw[eqGuard_at_string];exact aa
  ·revert he;unfold kk;cases op<;>simp only<;>(try split)<;>simp<;>(try (rintro rfl;rfl))
 ·have:=nT ai;subst this
  have:=nT hy;subst this
  split at he
  ·rename_i al
   simp only[Option.some.injEq]at he;subst he
   obtain⟨i,d,z,aF,aJ,aN,bt,bN,bh,ba⟩:=aV.info (dQ al (by simp))
   rw[al]at ba
   have:=w7 ba;subst this
   refine Good.same h ?_ rfl (of_bool _)
   rw[eqGuard_at_bool]
   simp[binOp,Op.equal,Op.maxDepth,AJ bh w 9999]
  ·rename_i al
   simp only[Option.some.injEq]at he;subst he
   obtain⟨i,d,z,aF,aJ,aN,bt,bN,bh,ba⟩:=aV.info (dQ al (by simp))
   rw[al]at ba
   have:=w7 ba;subst this
   refine Good.same h ?_ rfl (of_bool _)
   rw[eqGuard_at_bool]
   simp[binOp,Op.equal,Op.maxDepth,AJ bh w 9999]
  ·cases he
 ·split at he
  ·rename_i aj al
   split at he
   ·rename_i b6
    simp only[Option.map_eq_some_iff]at he
    obtain⟨r,aC,rfl⟩:=he
    obtain⟨g1,g2⟩:=AO aV al ai hy b6 aC .eql r7 r8
    obtain⟨⟨xs,rfl⟩,_⟩:=(au.bB rfl).1 ai
    obtain⟨⟨bA,rfl⟩,_⟩:=(au.bB rfl).1 hy
    exact Good.same h (by simp[g1,binOp,g2]) rfl (of_bool _)
   ·cases he
  ·rename_i aj al
   split at he
   ·rename_i b6
    simp only[Option.map_eq_some_iff]at he
    obtain⟨r,aC,rfl⟩:=he
    obtain⟨g1,g2⟩:=AO aV al ai hy b6 aC .neq r7 r8
    obtain⟨⟨xs,rfl⟩,_⟩:=(au.bB rfl).1 ai
    obtain⟨⟨bA,rfl⟩,_⟩:=(au.bB rfl).1 hy
    exact Good.same h (by simp[g1,binOp,g2]) rfl (of_bool _)
   ·cases he
  ·cases he
 ·have:=mV hy;subst this
  split at he
  ·rename_i e al
   simp only[Option.map_eq_some_iff]at he
   obtain⟨r,aC,rfl⟩:=he
   obtain⟨i,d,z,aF,aJ,aN,bt,bN,bh,ba⟩:=aV.info (dQ al (by simp))
   rw[al]at ba
   have:=ig ba;subst this
   obtain⟨b,aa,ab,aB,a0,cS,c0,rfl⟩:=AK h ai aC bh
   refine Good.same h (v:=.bool b) ?_ ?_ ?_
   ·rw[eqGuard_at_slice]
    simp[binOp,aa]
   ·cases r<;>rfl
   ·cases r with
    |none=>exact xf b
    |some dK=>have:=ab dK rfl;subst this;simp only[r4,Bool.bne_false];exact of_bool _
  ·rename_i e al
   simp only[Option.map_eq_some_iff]at he
   obtain⟨r,aC,rfl⟩:=he
   obtain⟨i,d,z,aF,aJ,aN,bt,bN,bh,ba⟩:=aV.info (dQ al (by simp))
   rw[al]at ba
   have:=ig ba;subst this
   obtain⟨b,aa,ab,aB,a0,cS,c0,rfl⟩:=AK h ai aC bh
   refine Good.same h (v:=.bool !b) ?_ ?_ ?_
   ·rw[eqGuard_at_slice]
    simp[binOp,aa]
   ·cases r<;>rfl
   ·cases r with
    |none=>exact xf _
    |some dK=>have:=ab dK rfl;subst this;simp only[r4,Bool.bne_true];exact of_bool _
  ·cases he
 ·have:=AD hy;subst this
  split at he
  ·rename_i e al
   simp only[Option.map_eq_some_iff]at he
   obtain⟨r,aC,rfl⟩:=he
   obtain⟨i,d,z,aF,aJ,aN,bt,bN,bh,ba⟩:=aV.info (dQ al (by simp))
   rw[al]at ba
   have:=At ba;subst this
   obtain⟨aa,a0,rfl⟩:=AL h ai aC bh
   refine Good.same h (v:=.bool r) ?_ rfl (of_bool _)
   rw[eqGuard_at_pointer]
   simp[binOp,aa]
  ·rename_i e al
   simp only[Option.map_eq_some_iff]at he
   obtain⟨r,aC,rfl⟩:=he
   obtain⟨i,d,z,aF,aJ,aN,bt,bN,bh,ba⟩:=aV.info (dQ al (by simp))
   rw[al]at ba
   have:=At ba;subst this
   obtain⟨aa,a0,rfl⟩:=AL h ai aC bh
   refine Good.same h (v:=.bool !r) ?_ rfl (of_bool _)
   rw[eqGuard_at_pointer]
   simp[binOp,aa]
  ·cases he
 ·cases he
end
section
variable {C:bm} {w0 w:World} {F0 X F:Nat→Prop} {S:Nat→Nat→Prop} {s s1:ag} {an:Nat→Value} {av:I}
def un (op:UnOp) (x:I):Option I:=
 match op,x with
 | .not,.bool b=>some (.bool !b)
 | .not,.di=>some .di
 | .neg,.int k n=>some (.int k (k.wrap (0-n)))
 |_,_=>none
theorem G7 (h:a1 w0 F0 X F S s an w) {op:UnOp} {x:I} {v:Value} (aD:au w F s an x v (fun _=>False)) (he:un op x=some av):Good C w0 F0 X an w (Op.unary op v) av s:=by
 unfold un at he
 split at he<;>first|(cases he;done)|(simp only[Option.some.injEq]at he;subst he)
 ·have:=nT aD;subst this
  exact Good.same h rfl rfl (of_bool _)
 ·obtain⟨b,rfl⟩:=AE aD
  exact Good.same h rfl rfl (xf _)
 ·have:=jN aD;subst this
  exact Good.same h rfl rfl (of_int _ _)
def ek (s:ag) (x:I):Option I:=
 match x with
 | .ref d=>some (.ref d)
 | .fn f c=>some (.fn f c)
 | .h y q=>match I.sub q (s y)with
   |some (.bG _)=>some (.h y q)
   |_=>none
 |_=>none
theorem G8 {d:I} {v:Value} {aE:Nat→Prop} (h:au w F s an (.ref d) v aE):∃b o cN,v= .pointer (some ⟨b,o,none⟩)∧F b∧fc w b o cN∧ak w F d cN (fun _=>False):=by
 have aT:=(au.bB rfl).1 h
 rw[ak,eC aT.1]at aT
 obtain⟨_,b,o,cN,aa,ab,aB,aP⟩:=aT
 simp at aa;subst aa
 exact⟨b,o,cN,rfl,ab,aB,aP⟩
theorem G9 (h:a1 w0 F0 X F S s an w) {x:I} {v:Value} (aD:au w F s an x v (fun _=>False)) (he:ek s x=some av):
  av=x∧x.plain=true∧((∃a,v= .pointer (some a))∨∃f c,v= .func (.func f) #[] c):=by
 unfold ek at he
 split at he
 ·simp only[Option.some.injEq]at he;subst he
  obtain⟨b,o,cN,rfl,_⟩:=G8 aD
  exact⟨rfl,rfl,.inl ⟨_,rfl⟩⟩
 ·simp only[Option.some.injEq]at he;subst he
  rw[au]at aD
  obtain⟨arr,rfl,_⟩:=aD
  exact⟨rfl,rfl,.inr ⟨_,_,rfl⟩⟩
 ·split at he
  ·rename_i d ae
   simp only[Option.some.injEq]at he;subst he
   obtain⟨b,cur,e,fr,rfl,_⟩:=AF h aD ae
   exact⟨rfl,rfl,.inl ⟨_,rfl⟩⟩
  ·cases he
 ·cases he
def ex (s:ag) (x:I) (k:Nat):Option I:=
 match x with
 | .tuple ds=>match ds[k]? with
   |some d=>if d.plain=true then some d else none
   |none=>none
 | .h y q=>match I.sub q (s y)with
   |some (.tuple ds)=>match ds[k]? with
    |some d=>if I.dV ds=true then none else some (if d.plain then d else .h y (q++[k]))
    |none=>none
   |_=>none
 |_=>none
theorem AP:∀(vs:List Value) (k:Nat) (x:Value) (ds:List I),vs[k]? =some x→vs.length=ds.length→(∀(j:Nat) (d:I) (y:Value),ds[j]? =some d→vs[j]? =some y→(ff y).length=d.wd)→
  ∃l r,vs.flatMap ff=l++(ff x++r)∧l.length=I.cI (ds.take k)
 |[],k,x,ds,h,_,_=>by simp at h
 |v::vs,0,x,ds,h,aI,hw=>by
  simp at h;subst h
  exact⟨[],vs.flatMap ff,by simp,by simp[I.cI]⟩
 |v::vs,k+1,x,d::ds,h,aI,hw=>by
  obtain⟨l,r,aF,aJ⟩:=AP vs k x ds (by simpa using h) (by simpa using aI) (fun j d y aa ab=>hw (j+1) d y (by simpa using aa) (by simpa using ab))
  refine⟨ff v++l,r,by simp[aF],?_⟩
  have:=hw 0 d v (by simp) (by simp)
  simp[I.cI,aJ,this]
 |v::vs,k+1,x,[],h,aI,hw=>by simp at aI
theorem G_ {d:I} {v:Value} (h:fB d v) (_hd:∀vs,d≠.tuple vs):bs v=ff v:=by
 cases d with
 |agg aj=>obtain⟨arr,rfl⟩:=h;rfl
 |_=>
  have aa:Value.ep v=true:=h
  cases v<;>first|rfl|(simp[Value.ep]at aa)
theorem Ha {d:I} {v:Value} (h:fB d v) (ae:∀vs,d≠.tuple vs):cA d v:=by
 cases d with
 |tuple vs=>exact(ae _ rfl).elim
 |_=>exact h
theorem Hb (h:a1 w0 F0 X F S s an w) {x:I} {v:Value} {k:Nat} (aD:au w F s an x v (fun _=>False)) (he:ex s x k=some av):Good C w0 F0 X an w (Instr.extract v k) av s:=by
 have pick:∀(ds:List I) (d:I) (arr:Array Value),ds[k]? =some d→(arr.size=ds.length∧∀(k:Nat) (d:I) (x:Value),ds[k]? =some d→arr[k]? =some x→fB d x∧(∀vs,d≠.tuple vs)∧(ff x).length=d.wd)→
   ∃x,arr[k]? =some x∧cA d x∧((bs (.tuple arr)).drop (I.cI (ds.take k))).take d.wd=bs x:=by
  intro ds d arr ae ⟨bd,gR⟩
  have cJ:k<arr.size:=by rw[bd];exact(List.getElem?_eq_some_iff.1 ae).1
  have ai:arr[k]? =some arr[k]:=Array.getElem?_eq_getElem cJ
  obtain⟨g1,g2,g3⟩:=gR k d _ ae ai
  obtain⟨l,r,aF,aJ⟩:=AP arr.toList k arr[k] ds (by simp[cJ]) (by simpa using bd) (fun j d y aa ab=>(gR j d y aa (by simpa using ab)).2.2)
  refine⟨_,ai,Ha g1 g2,?_⟩
  rw[G_ g1 g2]
  simp only[bs]
  rw[aF]
  exact oP l _ r _ _ aJ g3
 unfold ex at he
 split at he
 ·rename_i ds
  split at he
  ·rename_i d ae
   split at he
   ·rename_i ah
    simp only[Option.some.injEq]at he;subst he
    have aT:=(au.bB rfl).1 aD
    obtain⟨⟨arr,rfl,bd⟩,eu⟩:=aT
    obtain⟨x,ai,U,af⟩:=pick ds d arr ae bd
    have aC:(Instr.extract (.tuple arr) k).run C.P w= .ok x w:=by simp[Instr.extract,ai]
    rw[ak]at eu
    obtain⟨bD,dN,c2,bk,fe,e,e6,d_,eW,fA,dU,jh⟩:=aL.pick ds _ _ k d eu ae
    rw[e,oP bD dN c2 _ _ e6 (ak.length _ _ _ dU)]at af
    by_cases aK:d.tree=true
    ·exact Good.same h aC ah ((au.bB aK).2 ⟨U,by rw[←af];exact ak.plain _ _ _ _ ah dU⟩)
    ·cases d<;>first|exact(aK rfl).elim|(rw[ak]at dU;exact dU.elim)|exact Good.same h aC rfl (by rw[au];trivial)|(have bb:=ak.plain _ _ _ (fun _=>False) ah dU;rw[af,eC (by exact U)]at bb;exact Good.same h aC rfl (au.l4 _ _ rfl bb))
   ·cases he
  ·cases he
 ·rename_i y q
  split at he
  ·rename_i ds ae
   split at he
   ·rename_i d al
    split at he
    ·cases he
    ·rename_i e0
     simp only[Option.some.injEq]at he
     have e0:(I.tuple ds).plain=false:=by simpa [I.plain]using e0
     rw[au]at aD
     obtain⟨bK,a,g1,g2,g3⟩:=aD _ ae e0
     obtain⟨arr,rfl,bd⟩:=g3
     obtain⟨x,ai,U,af⟩:=pick ds d arr al bd
     have aC:(Instr.extract (.tuple arr) k).run C.P w= .ok x w:=by simp[Instr.extract,ai]
     have hy:=h.b2 y
     rw[au.bB (fg ae (.inl e0))]at hy
     obtain⟨dO,bU,cK,dx,k0,bg,bw,cM,cc,c8⟩:=ctx q (s y) (bs (an y)) (S y) none _ hy.2 ae
     rw[k0]at g1
     simp only[Option.some.injEq,Prod.mk.injEq,true_and]at g1
     obtain⟨rfl,rfl⟩:=g1
     rw[g2]at af
     split at he
     ·rename_i ah
      subst he
      rw[ak]at cc
      obtain⟨bD,dN,c2,bk,fe,e,e6,d_,eW,fA,dU,jh⟩:=aL.pick ds _ _ k d cc al
      rw[e,oP bD dN c2 _ _ e6 (ak.length _ _ _ dU)]at af
      by_cases aK:d.tree=true
      ·exact Good.same h aC ah ((au.bB aK).2 ⟨U,by rw[←af];exact ak.plain _ _ _ _ ah dU⟩)
      ·cases d<;>first|exact(aK rfl).elim|(rw[ak]at dU;exact dU.elim)|exact Good.same h aC rfl (by rw[au];trivial)|(have bb:=ak.plain _ _ _ (fun _=>False) ah dU;rw[af,eC (by exact U)]at bb;exact Good.same h aC rfl (au.l4 _ _ rfl bb))
     ·subst he
      refine Good.same h aC rfl ?_
      rw[au]
      intro d2 e7 rV
      rw[rY w q _ _ _ _ _ _ [k] k0]
      rw[rX _ _ _ _ ae]at e7
      simp only[I.sub,al,Option.some.injEq]at e7
      subst e7
      simp only[b_,al]
      exact⟨_,_,rfl,af.symm,U⟩
   ·cases he
  ·cases he
 ·cases he
def jl (C:bm) (s:ag) (T:TypeId) (x:I) (k:Nat):Option I:=
 match(C.T T).k with
 | .struct aj=>match aj[k]? with
   |some (gL,off)=>match x with
    | .agg ds=>match ds[k]? with
      |some d=>if I.cI (ds.take k)=off∧fits C gL d=true∧d.plain=true∧d.tree=true then some d else none
      |none=>none
    | .h y q=>match I.sub q (s y)with
      |some (.agg ds)=>match ds[k]? with
       |some d=>if I.cI (ds.take k)=off∧fits C gL d=true∧I.dV ds=false∧d.tree=true then some (if d.plain then d else .h y (q++[k]))else none
       |none=>none
      |_=>none
    |_=>none
   |none=>none
 |_=>none
theorem Hc (aV:C.db) (h:a1 w0 F0 X F S s an w) {T:TypeId} {x:I} {v:Value} {k:Nat} (aD:au w F s an x v (fun _=>False)) (he:jl C s T x k=some av):Good C w0 F0 X an w (Instr.field T v k) av s:=by
 have key:∀(aj:List (TypeId×Nat)) (gL:TypeId) (off:Nat),(C.T T).k= .struct aj→aj[k]? =some (gL,off)→∀(ds:List I) (d:I) (arr:Array Value) (aE:Nat→Prop),ds[k]? =some d→I.cI (ds.take k)=off→fits C gL d=true→aL w F ds arr.toList aE→
   ∃x fe,(Instr.field T (.agg arr) k).run C.P w= .ok x w∧cA d x∧ak w F d (bs x) fe∧(arr.toList.drop off).take d.wd=bs x:=by
  intro aj gL off al bc ds d arr aE ae l3 ft eu
  obtain⟨i,r6,z,aF,aJ,aN,bt,bN,bh,ba⟩:=aV.info (dQ al (by simp))
  rw[al]at ba
  obtain⟨gs,rfl,gz⟩:=rZ ba
  obtain⟨g,g1,rfl,rfl⟩:∃g,gs[k]? =some g∧g.type=gL∧g.offset=off:=by
   rw[←gz,List.getElem?_map]at bc
   simp only[Option.map_eq_some_iff,Prod.mk.injEq]at bc
   obtain⟨g,aa,ab,aB⟩:=bc
   exact⟨g,by simpa using aa,ab,aB⟩
  obtain⟨bD,dN,c2,bk,fe,e,e6,d_,eW,fA,dU,jh⟩:=aL.pick ds _ _ k d eu ae
  obtain⟨x,aC,AQ,jM⟩:=GJ (w:=w) aV e (e6.trans l3) dU ft
  refine⟨x,fe,?_,jM,by rw[AQ];exact dU,?_⟩
  ·simp[Instr.field,run_underlying bh,g1,asAgg,aC]
  ·rw[e,AQ,←l3];exact oP bD dN c2 _ _ e6 (ak.length _ _ _ dU)
 have AR:∀(d:I) (x:Value) (fe:Nat→Prop),d.plain=true→cA d x→ak w F d (bs x) fe→au w F s an d x (fun _=>False):=by
  intro d x fe ah U eu
  by_cases aK:d.tree=true
  ·exact(au.bB aK).2 ⟨U,ak.plain _ _ _ _ ah eu⟩
  ·cases d<;>first|exact(aK rfl).elim|(rw[ak]at eu;exact eu.elim)|(rw[au];trivial)|(have bb:=ak.plain _ _ _ (fun _=>False) ah eu;rw[eC (by exact U)]at bb;exact au.l4 _ _ rfl bb)
 unfold jl at he
 split at he
 ·rename_i aj al
  split at he
  ·rename_i gL off bc
   split at he
   ·rename_i ds
    split at he
    ·rename_i d ae
     split at he
     ·rename_i af
      simp only[Option.some.injEq]at he;subst he
      obtain⟨⟨arr,rfl⟩,eu⟩:=(au.bB rfl).1 aD
      rw[ak]at eu
      obtain⟨x,fe,aC,U,xi,_⟩:=key aj gL off al bc ds d arr _ ae af.1 af.2.1 eu
      exact Good.same h aC af.2.2.1 (AR d x fe af.2.2.1 U xi)
     ·cases he
    ·cases he
   ·rename_i y q
    split at he
    ·rename_i ds ae
     split at he
     ·rename_i d nR
      split at he
      ·rename_i af
       simp only[Option.some.injEq]at he
       have e0:(I.agg ds).plain=false:=by simpa [I.plain]using af.2.2.1
       rw[au]at aD
       obtain⟨bK,a,g1,g2,g3⟩:=aD _ ae e0
       obtain⟨arr,rfl⟩:=g3
       have hy:=h.b2 y
       rw[au.bB (fg ae (.inl e0))]at hy
       obtain⟨dO,bU,cK,dx,k0,bg,bw,cM,cc,c8⟩:=ctx q (s y) (bs (an y)) (S y) none _ hy.2 ae
       rw[k0]at g1
       simp only[Option.some.injEq,Prod.mk.injEq,true_and]at g1
       obtain⟨rfl,rfl⟩:=g1
       rw[ak,←g2]at cc
       obtain⟨x,fe,aC,U,xi,fO⟩:=key aj gL off al bc ds d arr _ nR af.1 af.2.1 cc
       by_cases ah:d.plain=true
       ·rw[if_pos ah]at he;subst he
        exact Good.same h aC ah (AR d x fe ah U xi)
       ·rw[if_neg ah]at he;subst he
        refine Good.same h aC rfl ?_
        rw[au]
        intro d2 e7 rV
        rw[rY w q _ _ _ _ _ _ [k] k0]
        rw[rX _ _ _ _ ae]at e7
        simp only[I.sub,nR,Option.some.injEq]at e7
        subst e7
        simp only[b_,nR]
        refine⟨_,_,rfl,?_,U⟩
        rw[af.1,←g2];exact fO.symm
      ·cases he
     ·cases he
    ·cases he
   ·cases he
  ·cases he
 ·cases he
end
section
variable {C:bm} {w0 w:World} {F0 X F:Nat→Prop} {S:Nat→Nat→Prop} {s s1:ag} {an:Nat→Value} {av:I}
def idx (C:bm) (T:TypeId) (x i:I):Option I:=
 match(C.T T).k,x,i with
 | .str,.str l,.int _ n=>if 0≤n then(match l[n.toNat]? with|some b=>some (.int .u8 b.toNat)|none=>none)else none
 |_,_,_=>none
theorem Hd (l:List UInt8) (n:Nat):(⟨⟨l⟩⟩:ByteArray)[n]? =l[n]? :=by
 by_cases h:n<l.length
 ·have aT:n<(⟨⟨l⟩⟩:ByteArray).size:=h
  rw[List.getElem?_eq_getElem h,getElem?_pos (⟨⟨l⟩⟩:ByteArray) n aT]
  rfl
 ·have aT:¬n<(⟨⟨l⟩⟩:ByteArray).size:=h
  rw[List.getElem?_eq_none (by omega),getElem?_neg (⟨⟨l⟩⟩:ByteArray) n aT]
theorem He (aV:C.db) (h:a1 w0 F0 X F S s an w) {T:TypeId} {x i:I} {v kI:Value} (aD:au w F s an x v (fun _=>False)) (ay:au w F s an i kI (fun _=>False)) (he:idx C T x i=some av):
  Good C w0 F0 X an w (Instr.index T v kI) av s:=by
 unfold idx at he
 split at he
 ·rename_i l k n al
  have:=iM aD;subst this
  have:=jN ay;subst this
  obtain⟨i,d,z,aF,aJ,aN,bt,bN,bh,ba⟩:=aV.info (dQ al (by simp))
  rw[al]at ba
  have:=l1 ba;subst this
  split at he
  ·rename_i aQ
   split at he
   ·rename_i b J
    simp only[Option.some.injEq]at he;subst he
    refine Good.same h ?_ rfl (of_int _ _)
    simp[Instr.index,asIntOf,run_underlying bh,aQ,Hd,J]
   ·cases he
  ·cases he
 ·cases he
def lenOf (s:ag):I→Option Nat
 | .str l=>some l.length
 | .bu=>some 0
 | .slice xs=>some xs.length
 | .h y q=>match I.sub q (s y)with
   |some (.aG _ xs)=>some xs.length
   |_=>none
 |_=>none
def jm (C:bm) (s:ag) (T:TypeId) (x:I):Option I:=
 match(C.T T).k,x with
 | .str,.str l=>some (.int .i64 l.length)
 | .slice _,.bu=>some (.int .i64 0)
 | .slice _,.slice xs=>some (.int .i64 xs.length)
 | .slice _,.h y q=>match I.sub q (s y)with
   |some (.aG _ xs)=>some (.int .i64 xs.length)
   |_=>none
 |_,_=>none
theorem uk {xs:List I} {v:Value} {aE:Nat→Prop} (h:au w F s an (.slice xs) v aE):(xs=[]∧∃a c,v= .slice a 0 c∧c≤maxLen∧(a=none→c=0))∨
  ∃b o cap cN sz,v= .slice (some ⟨b,o,none⟩) xs.length cap∧F b∧xs.length≤cap∧cap≤maxLen∧(∀d∈xs,d.wd=sz)∧fc w b o cN∧aL w F xs cN (fun _=>False):=by
 have aT:=(au.bB rfl).1 h
 rw[ak,eC aT.1]at aT
 obtain⟨_,⟨rfl,a,c,ab,aB⟩|⟨b,o,cap,cN,sz,ab,aB⟩⟩:=aT
 ·simp at ab;exact .inl ⟨rfl,a,c,ab,aB⟩
 ·simp at ab;exact .inr ⟨b,o,cap,cN,sz,ab,aB⟩
theorem Hf (aV:C.db) (h:a1 w0 F0 X F S s an w) {T ty:TypeId} {x:I} {v:Value} (aD:au w F s an x v (fun _=>False)) (he:jm C s T x=some av):
  Good C w0 F0 X an w (Builtin.len_ #[T] ty #[v]) av s:=by
 unfold jm at he
 split at he
 ·rename_i l al
  have:=iM aD;subst this
  obtain⟨i,d,z,aF,aJ,aN,bt,bN,bh,ba⟩:=aV.info (dQ al (by simp))
  rw[al]at ba
  have:=l1 ba;subst this
  simp only[Option.some.injEq]at he;subst he
  refine Good.same h ?_ rfl (of_int _ _)
  simp[Builtin.len_,run_underlying bh,goInt]
  rfl
 ·rename_i e al
  have:=mV aD;subst this
  obtain⟨i,d,z,aF,aJ,aN,bt,bN,bh,ba⟩:=aV.info (dQ al (by simp))
  rw[al]at ba
  have:=ig ba;subst this
  simp only[Option.some.injEq]at he;subst he
  refine Good.same h ?_ rfl (of_int _ _)
  simp[Builtin.len_,run_underlying bh,goInt]
 ·rename_i e xs al
  obtain⟨i,d,z,aF,aJ,aN,bt,bN,bh,ba⟩:=aV.info (dQ al (by simp))
  rw[al]at ba
  have:=ig ba;subst this
  simp only[Option.some.injEq]at he;subst he
  refine Good.same h ?_ rfl (of_int _ _)
  rcases uk aD with⟨rfl,a,c,rfl,_⟩|⟨b,o,cap,cN,sz,rfl,_⟩<;>simp[Builtin.len_,run_underlying bh,goInt]
 ·rename_i e y q al
  split at he
  ·rename_i sz xs ae
   obtain⟨i,d,z,aF,aJ,aN,bt,bN,bh,ba⟩:=aV.info (dQ al (by simp))
   rw[al]at ba
   have:=ig ba;subst this
   simp only[Option.some.injEq]at he;subst he
   refine Good.same h ?_ rfl (of_int _ _)
   rcases xg h aD ae with⟨rfl,_,rfl⟩|⟨b,cap,cur,aJ,fr,rfl,_⟩<;>simp[Builtin.len_,run_underlying bh,goInt]
  ·cases he
 ·cases he
def bytesOf:List I→Option (List UInt8)
 |[]=>some []
 | .int .u8 n::r=>if 0≤n∧n<256 then(bytesOf r).map (UInt8.ofNat n.toNat::·)else none
 |_=>none
def ea (b:UInt8):I:=.int .u8 b.toNat
theorem Hg (l:List UInt8):bytesOf (l.map ea)=some l:=by
 induction l with
 |nil=>rfl
 |cons b l ih=>
  have J:b.toNat<256:=b.toNat_lt
  simp only[List.map_cons,ea,bytesOf,Int.toNat_natCast]
  rw[if_pos (by omega),ih]
  simp
theorem xj:∀(xs:List I) (l:List UInt8) (cs:List Value) (aE:Nat→Prop),bytesOf xs=some l→aL w F xs cs aE→cs=l.map (fun b=>.int .u8 (b.toNat:Int))∧xs.length=l.length
 |[],l,cs,aE,h,aC=>by simp[bytesOf]at h;subst h;rw[aL]at aC;subst aC;exact⟨rfl,rfl⟩
 |x::xs,l,cs,aE,h,aC=>by
  unfold bytesOf at h
  split at h
  ·rename_i e;cases e
  ·rename_i n r e
   simp only[List.cons.injEq]at e
   obtain⟨rfl,rfl⟩:=e
   split at h
   ·rename_i aQ
    simp only[Option.map_eq_some_iff]at h
    obtain⟨cX,aa,rfl⟩:=h
    rw[aL]at aC
    obtain⟨bD,c2,bk,cx,rfl,ab,aB,_⟩:=aC
    obtain⟨rfl,aP⟩:=xj xs cX c2 cx aa aB
    rw[ak]at ab;subst ab
    refine⟨?_,by simp[aP]⟩
    simp only[List.map_cons,List.cons_append,List.nil_append,List.cons.injEq,and_true,Value.int.injEq,true_and]
    simp only[UInt8.toNat_ofNat']
    omega
   ·cases h
  ·cases h
theorem a1.r_ (h:a1 w0 F0 X F S s an w) {ar:World} {sz cap:Nat} {xs:List I} {cur:Array Value} {e:TypeId} {fr:Nat×Nat} {Sn:Nat→Prop}
  (hw:ar.heap=w.heap.push (.cells cur e fr)) (aa:ar.os=w.os) (ab:ar.tape=w.tape) (aB:Out ar w)
  (bc:nO fr cur.size) (hle:xs.length≤cap) (hm:cap≤maxLen) (cO:cur.size=cap*sz) (hC:∀d∈xs,d.wd=sz) (aD:aL w F xs (cur.toList.take (xs.length*sz)) Sn)
  (cJ:∀b,Sn b→b<w.heap.size) (aW:∀b,Sn b→¬F b) (a_:∀u b,Sn b→¬S u b) (bl:∀b,Sn b→X b∨w0.heap.size≤b):
  a1 w0 F0 X F S s an ar∧ie w0 X F S s an ar (.aG sz xs) (.slice (some ⟨w.heap.size,0,none⟩) xs.length cap):=by
 have hold:∀b,b<w.heap.size→ar.heap[b]? =w.heap[b]? :=by
  intro b J
  rw[hw,Array.getElem?_push,if_neg (by omega)]
 have o3:ar.heap.size=w.heap.size+1:=by rw[hw];simp
 refine⟨h.grow hold (by omega) aa ab aB,.inr ⟨rfl,rfl,fun b=>b=w.heap.size∨Sn b,?_,?_,?_,?_,?_⟩⟩
 ·simp only[bs,ff]
  rw[ak]
  refine .inr ⟨w.heap.size,cap,cur,e,fr,Sn,rfl,.inl rfl,?_,bc,hle,hm,cO,hC,?_,fun c af=>.inr af,fun af=>Nat.lt_irrefl _ (cJ _ af)⟩
  ·rw[hw];simp
  ·exact aL.frame (fun b J=>hold b (h.de b J)) _ _ _ (fun b J=>hold b (cJ b J)) aD
 ·rintro b (rfl|J)
  ·omega
  ·have:=cJ b J;omega
 ·rintro b (rfl|J) mU
  ·exact Nat.lt_irrefl _ (h.de _ mU)
  ·exact aW b J mU
 ·rintro u b (rfl|J) hu
  ·exact Nat.lt_irrefl _ (h.cV _ _ hu)
  ·exact a_ u b J hu
 ·rintro b (rfl|J)
  ·exact .inr h.size
  ·exact bl b J
def dR (C:bm) (s:ag) (A B:TypeId) (x:I):Option I:=
 if(C.T A).ok=true then
 match(C.T B).k,x with
 | .int k,.int _ n=>some (.int k (k.wrap n))
 | .str,.str l=>match(C.T A).k with
   | .str=>some (.str l)
   |_=>none
 | .str,x=>match(C.T A).k with
   | .slice e=>match(C.T e).k with
     | .int .u8=>match x with
       | .bu=>some (.str [])
       | .slice xs=>(bytesOf xs).map .str
       | .h y q=>match I.sub q (s y)with
         |some (.aG 1 xs)=>(bytesOf xs).map .str
         |_=>none
       |_=>none
     |_=>none
   |_=>none
 | .slice e,.str l=>match(C.T A).k,(C.T e).k with
   | .str,.int .u8=>if l.length≤9223372036854775807 then some (.aG 1 (l.map ea))else none
   |_,_=>none
 |_,_=>none
 else none
theorem AU (l:List UInt8) (aE:Nat→Prop):aL w F (l.map ea) (l.map fun b=>.int .u8 (b.toNat:Int)) aE:=by
 induction l generalizing aE with
 |nil=>simp only[List.map_nil];rw[aL]
 |cons b l ih=>
  simp only[List.map_cons]
  rw[aL]
  exact⟨[.int .u8 (b.toNat:Int)],_,fun _=>False,fun _=>False,rfl,by rw[ea,ak],ih _,fun _ h=>h.elim,fun _ h=>h.elim,fun _ h=>h.elim⟩
theorem Hh (aV:C.db) (h:a1 w0 F0 X F S s an w) {A B:TypeId} {x:I} {v:Value} (aD:au w F s an x v (fun _=>False)) (he:dR C s A B x=some av):
  Good C w0 F0 X an w (convert A B v) av s:=by
 unfold dR at he
 split at he
 ·rename_i fY
  obtain⟨ej,X9,X_,aA,a2,a3,a4,a5,l5,l6⟩:=aV.info fY
  split at he
  ·rename_i k cr n al
   have:=jN aD;subst this
   obtain⟨i,d,z,aF,aJ,aN,bt,bN,bh,ba⟩:=aV.info (dQ al (by simp))
   rw[al]at ba
   have:=r0 ba;subst this
   simp only[Option.some.injEq]at he;subst he
   refine Good.same h ?_ rfl (of_int _ _)
   simp[convert,run_underlying l5,run_underlying bh,Conv.intToInt]
  ·rename_i l al
   have:=iM aD;subst this
   obtain⟨i,d,z,aF,aJ,aN,bt,bN,bh,ba⟩:=aV.info (dQ al (by simp))
   rw[al]at ba
   have:=l1 ba;subst this
   split at he
   ·rename_i sa
    rw[sa]at l6
    have:=l1 l6;subst this
    simp only[Option.some.injEq]at he;subst he
    refine Good.same h ?_ rfl (kJ _)
    simp[convert,run_underlying l5,run_underlying bh]
   ·cases he
  ·rename_i x al _
   obtain⟨i,d,z,aF,aJ,aN,bt,bN,bh,ba⟩:=aV.info (dQ al (by simp))
   rw[al]at ba
   have:=l1 ba;subst this
   split at he
   ·rename_i e sa
    rw[sa]at l6
    have:=ig l6;subst this
    split at he
    ·rename_i sb
     obtain⟨mQ,aX,mR,f1,f2,f3,f4,f5,f6,f7⟩:=aV.info (dQ sb (by simp))
     rw[sb]at f7
     have:=r0 f7;subst this
     have fin:∀(l:List UInt8) (b o cap:Nat),fc w b o (l.map fun b=>.int .u8 (b.toNat:Int))→(convert A B (.slice (some ⟨b,o,none⟩) l.length cap)).run C.P w= .ok (.string ⟨⟨l⟩⟩) w:=by
      intro l b o cap gQ
      refine run_convert_bytes_back w A B e ⟨b,o,none⟩ cap l l5 f6 bh (fun j bE=> ?_)
      rw[Addr.add_lit]
      exact gQ j _ (by simp[bE])
     have nil:(convert A B (.slice none 0 0)).run C.P w= .ok (.string ⟨⟨[]⟩⟩) w:=by
      simp[convert,run_underlying l5,run_underlying bh,run_underlying f6,Conv.bytesToString]
      rfl
     split at he
     ·have:=mV aD;subst this
      simp only[Option.some.injEq]at he;subst he
      exact Good.same h nil rfl (kJ _)
     ·rename_i xs _
      simp only[Option.map_eq_some_iff]at he
      obtain⟨l,aI,rfl⟩:=he
      rcases uk aD with⟨rfl,a,c,rfl,_,o1⟩|⟨b,o,cap,cN,sz,rfl,aa,ab,aB,aP,bb,bQ⟩
      ·simp[bytesOf]at aI;subst aI
       cases a with
       |none=>
        have:=o1 rfl;subst this
        exact Good.same h nil rfl (kJ _)
       |some a=>
        refine Good.same h ?_ rfl (kJ _)
        exact run_convert_bytes_back w A B e a c [] l5 f6 bh (fun j bE=>by simp at bE)
      ·obtain⟨rfl,bT⟩:=xj xs l cN _ aI bQ
       rw[bT]
       exact Good.same h (fin l b o cap bb) rfl (kJ _)
     ·rename_i y q
      split at he
      ·rename_i xs ae
       simp only[Option.map_eq_some_iff]at he
       obtain⟨l,aI,rfl⟩:=he
       rcases xg h aD ae with⟨rfl,a,rfl⟩|⟨b,cap,cur,aJ,fr,rfl,aa,ab,aB,aP,bb,bQ,aE,bT,_⟩
       ·simp[bytesOf]at aI;subst aI
        cases a with
        |none=>exact Good.same h nil rfl (kJ _)
        |some a=>
         refine Good.same h ?_ rfl (kJ _)
         exact run_convert_bytes_back w A B e a 0 [] l5 f6 bh (fun j bE=>by simp at bE)
       ·obtain⟨dt,eF⟩:=xj xs l _ _ aI bT
        rw[eF]
        refine Good.same h (fin l b 0 cap ?_) rfl (kJ _)
        rw[←dt]
        exact p2 aa _
      ·cases he
     ·cases he
    ·cases he
   ·cases he
  ·rename_i e l al
   have:=iM aD;subst this
   obtain⟨i,d,z,aF,aJ,aN,bt,bN,bh,ba⟩:=aV.info (dQ al (by simp))
   rw[al]at ba
   have:=ig ba;subst this
   split at he
   ·rename_i sa sb
    rw[sa]at l6
    have:=l1 l6;subst this
    obtain⟨mQ,aX,mR,f1,f2,f3,f4,f5,f6,f7⟩:=aV.info (dQ sb (by simp))
    rw[sb]at f7
    have:=r0 f7;subst this
    split at he
    ·rename_i aI
     simp only[Option.some.injEq]at he;subst he
     have U:(⟨⟨l⟩⟩:ByteArray).size=l.length:=rfl
     have sc:=grownCap_ge w l.length 0 e
     have Hi:=grownCap_le_maxLen w l.length 0 e (by unfold maxLen;omega)
     have AV:(bytesRow ⟨⟨l⟩⟩ (grownCap w l.length 0 e)).toList=l.map (fun b=>Value.int .u8 (b.toNat:Int))++List.replicate (grownCap w l.length 0 e-l.length) (.int .u8 0):=by
      simp[bytesRow,U]
     have cO:(bytesRow ⟨⟨l⟩⟩ (grownCap w l.length 0 e)).size=grownCap w l.length 0 e*1:=by
      have:(bytesRow ⟨⟨l⟩⟩ (grownCap w l.length 0 e)).size=(bytesRow ⟨⟨l⟩⟩ (grownCap w l.length 0 e)).toList.length:=by simp
      rw[this,AV];simp;omega
     have oZ:=run_bytes_of_string w A B e ⟨⟨l⟩⟩ l5 bh f6
     rw[U]at oZ
     have hq:=h.r_ (ar:=w.drew.alloc (.cells (bytesRow ⟨⟨l⟩⟩ (grownCap w l.length 0 e)) e ((bytesRow ⟨⟨l⟩⟩ (grownCap w l.length 0 e)).size,(bytesRow ⟨⟨l⟩⟩ (grownCap w l.length 0 e)).size+1)))
      (sz:=1) (cap:=grownCap w l.length 0 e) (xs:=l.map ea) (cur:=bytesRow ⟨⟨l⟩⟩ (grownCap w l.length 0 e)) (e:=e) (Sn:=fun _=>False) rfl rfl rfl ⟨rfl,fun _=>Nat.le_succ _⟩
      (fun o bH ⟨aa,_⟩=>by simp only at aa;omega) (by simpa using sc) Hi cO (by intro d ae;obtain⟨b,_,rfl⟩:=List.mem_map.1 ae;rfl)
      (by rw[AV,List.take_left' (by simp)];exact AU l _) (fun _ h=>h.elim) (fun _ h=>h.elim) (fun _ _ h=>h.elim) (fun _ h=>h.elim)
     simp only[List.length_map]at hq
     exact⟨_,_,F,S,oZ,hq.1,hq.2⟩
    ·cases he
   ·cases he
  ·cases he
 ·cases he
end
section
variable {C:bm} {w0 w:World} {F0 X F:Nat→Prop} {S:Nat→Nat→Prop} {s s1:ag} {an:Nat→Value} {av:I}
def dM (d:Nat):Option I→Option Nat
 |none=>some d
 |some (.int _ n)=>if 0≤n then some n.toNat else none
 |some _=>none
def cD (C:bm) (s:ag) (T:TypeId) (x:I) (b5 ay:Option I):Option (I×ag):=
 match(C.T T).k,x with
 | .str,.str l=>match dM 0 b5,dM l.length ay with
   |some a,some b=>if a≤b∧b≤l.length then some (.str ((l.take b).drop a),s)else none
   |_,_=>none
 | .slice e,.bu=>match dM 0 b5,dM 0 ay with
   |some 0,some 0=>if(C.T e).ok=true then some (.bu,s)else none
   |_,_=>none
 | .slice e,.slice xs=>match dM 0 b5,dM xs.length ay with
   |some a,some b=>if a≤b∧b≤xs.length∧(C.T e).ok=true∧(∀d∈xs,d.wd=(C.T e).sz)then some (.slice ((xs.take b).drop a),s)else none
   |_,_=>none
 | .slice e,.h y q=>match I.sub q (s y)with
   |some (.aG sz xs)=>match dM 0 b5,dM xs.length ay with
    |some 0,some b=>if b≤xs.length∧(C.T e).ok=true then(match bM s (.h y q)with|some (_,s1)=>some (.aG sz (xs.take b),s1)|none=>none)else none
    |_,_=>none
   |_=>none
 |_,_=>none
def mW (w:World) (F:Nat→Prop) (s:ag) (an:Nat→Value):Option I→Option Value→Prop
 |none,none=>True
 |some d,some v=>au w F s an d v (fun _=>False)
 |_,_=>False
theorem AW {d:Nat} {o:Option I} {v:Option Value} (bH:mW w F s an o v) {a:Nat} (h:dM d o=some a):(o=none∧v=none∧a=d)∨∃k,v=some (.int k a):=by
 cases o with
 |none=>
  cases v with
  |none=>simp[dM]at h;exact .inl ⟨rfl,rfl,h.symm⟩
  |some v=>simp[mW]at bH
 |some x=>
  cases v with
  |none=>simp[mW]at bH
  |some v=>
   simp only[mW]at bH
   cases x with
   |int k n=>
    have:=jN bH;subst this
    simp only[dM]at h
    split at h
    ·rename_i aQ
     simp only[Option.some.injEq]at h;subst h
     obtain⟨m,rfl⟩:=Int.eq_ofNat_of_zero_le aQ
     exact .inr ⟨k,rfl⟩
    ·cases h
   |_=>simp[dM]at h
theorem p8 {P:Program} {isS:Bool} {len cap a b:Nat} {b5 ay:Option I} {o4 o5:Option Value} (kL:mW w F s an b5 o4) (kM:mW w F s an ay o5) (br:dM 0 b5=some a) (J:dM len ay=some b) (jg:a≤b) (Hj:b≤cap) (_hlc:len≤cap):
  (Instr.sliceBounds isS len cap o4 o5 none).run P w= .ok (a,b,cap) w:=by
 rcases AW kL br with⟨_,rfl,rfl⟩|⟨k,rfl⟩<;>rcases AW kM J with⟨_,rfl,rfl⟩|⟨cr,rfl⟩<;>
  simp[Instr.sliceBounds,Instr.sliceBound,asIntOf,jg,Hj]
theorem p9 (aV:C.db) {T:TypeId} (al:(C.T T).flat=true) (v:Value) (b5 ay da:Option Value) (w:World):(Instr.sliceAt T v b5 ay da).run C.P w=(Instr.slice T v b5 ay da).run C.P w:=by
 obtain⟨i,d,z,aF,aJ,aN,bt,bN,bh,ba⟩:=aV.info (Aw al)
 have cj:∀n e,d≠.array n e:=by
  clear bh
  unfold ee.flat at al
  generalize (C.T T).k=ik at*
  cases ik<;>cases d<;>simp[ic]at ba al⊢
 cases d<;>first|exact(cj _ _ rfl).elim|simp[Instr.sliceAt,run_underlying bh]
theorem p_ {x:ee} {k:ki} (h:x.k=k) (al:k≠.other) (U:∀aj,k≠.struct aj) (J:∀e,k≠.dP e:=by simp):x.flat=true:=by
 unfold ee.flat;rw[h];cases k<;>first|rfl|exact(al rfl).elim|exact(J _ rfl).elim|exact(U _ rfl).elim
theorem aL.split:∀(n:Nat) (xs:List I) (cs:List Value) (aE:Nat→Prop),aL w F xs cs aE→∃bD c2 bk cx,cs=bD++c2∧aL w F (xs.take n) bD bk∧aL w F (xs.drop n) c2 cx∧(∀b,bk b→aE b)∧(∀b,cx b→aE b)∧(∀b,bk b→¬cx b)
 |0,xs,cs,aE,h=>⟨[],cs,fun _=>False,aE,rfl,by rw[List.take_zero,aL],h,fun _ h=>h.elim,fun _ h=>h,fun _ h=>h.elim⟩
 |n+1,[],cs,aE,h=>by rw[aL]at h;subst h;exact⟨[],[],fun _=>False,fun _=>False,rfl,by rw[List.take_nil,aL],by rw[List.drop_nil,aL],fun _ h=>h.elim,fun _ h=>h.elim,fun _ h=>h.elim⟩
 |n+1,x::xs,cs,aE,h=>by
  rw[aL]at h
  obtain⟨bD,c2,e5,ez,rfl,aa,ab,aB,aP,bb⟩:=h
  obtain⟨d1,d2,bk,cx,rfl,g1,g2,g3,g4,g5⟩:=aL.split n xs c2 ez ab
  refine⟨bD++d1,d2,fun b=>e5 b∨bk b,cx,by simp,?_,g2,?_,fun b J=>aP _ (g4 _ J),?_⟩
  ·rw[List.take_succ_cons,aL]
   exact⟨bD,d1,e5,bk,rfl,aa,g1,fun _ h=>.inl h,fun _ h=>.inr h,fun b J af=>bb b J (g3 b af)⟩
  ·rintro b (J|J)
   ·exact aB b J
   ·exact aP b (g3 b J)
  ·rintro b (J|J) af
   ·exact bb b J (g4 b af)
   ·exact g5 b J af
theorem Hk (aV:C.db) (h:a1 w0 F0 X F S s an w) {T:TypeId} {x:I} {v:Value} {b5 ay:Option I} {o4 o5:Option Value} (ai:x.plain=true) (aD:au w F s an x v (fun _=>False)) (kL:mW w F s an b5 o4) (kM:mW w F s an ay o5)
  (he:cD C s T x b5 ay=some (av,s1)):Good C w0 F0 X an w (Instr.sliceAt T v o4 o5 none) av s1:=by
 unfold cD at he
 split at he
 ·rename_i l al
  have:=iM aD;subst this
  obtain⟨i,d,z,aF,aJ,aN,bt,bN,bh,ba⟩:=aV.info (dQ al (by simp))
  rw[al]at ba
  have:=l1 ba;subst this
  split at he
  ·rename_i a b br J
   split at he
   ·rename_i jg
    simp only[Option.some.injEq,Prod.mk.injEq]at he
    obtain⟨rfl,rfl⟩:=he
    refine Good.same h ?_ rfl (kJ _)
    rw[p9 aV (p_ al (by simp) (by simp))]
    have cO:(⟨⟨l⟩⟩:ByteArray).size=l.length:=rfl
    have kN:=p8 (P:=C.P) (isS:=false) (len:=l.length) (cap:=l.length) kL kM br J jg.1 jg.2 (Nat.le_refl _)
    have Hl:(⟨⟨l⟩⟩:ByteArray).extract a b=⟨⟨(l.take b).drop a⟩⟩:=by
     apply ByteArray.ext
     simp[ByteArray.data_extract,List.drop_take]
    simp[Instr.slice,run_underlying bh,cO,kN,Hl]
   ·cases he
  ·cases he
 ·rename_i e al
  have:=mV aD;subst this
  obtain⟨i,d,z,aF,aJ,aN,bt,bN,bh,ba⟩:=aV.info (dQ al (by simp))
  rw[al]at ba
  have:=ig ba;subst this
  split at he
  ·rename_i br J
   split at he
   ·rename_i lx
    obtain⟨mQ,aX,mR,f1,f2,f3,f4,f5,f6,f7⟩:=aV.info lx
    simp only[Option.some.injEq,Prod.mk.injEq]at he
    obtain⟨rfl,rfl⟩:=he
    have kN:=p8 (P:=C.P) (isS:=true) (len:=0) (cap:=0) kL kM br J (Nat.le_refl _) (Nat.le_refl _) (Nat.le_refl _)
    refine Good.same h (v:=.slice none 0 0) ?_ rfl aD
    rw[p9 aV (p_ al (by simp) (by simp))]
    simp[Instr.slice,run_underlying bh,kN,ho f1,f2]
   ·cases he
  ·cases he
 ·rename_i e xs al
  obtain⟨i,d,z,aF,aJ,aN,bt,bN,bh,ba⟩:=aV.info (dQ al (by simp))
  rw[al]at ba
  have:=ig ba;subst this
  split at he
  ·rename_i a b br J
   split at he
   ·rename_i jg
    obtain⟨Hm,AX,lx,hC⟩:=jg
    obtain⟨mQ,aX,mR,f1,f2,f3,f4,f5,f6,f7⟩:=aV.info lx
    simp only[Option.some.injEq,Prod.mk.injEq]at he
    obtain⟨rfl,rfl⟩:=he
    rcases uk aD with⟨rfl,qa,c,rfl,mX,o1⟩|⟨gV,o,cap,cN,sz,rfl,aa,ab,aB,aP,bb,bQ⟩
    ·have fk:b=0:=by simpa using AX
     subst fk
     have Hn:a=0:=by omega
     subst Hn
     have kN:=p8 (P:=C.P) (isS:=true) (len:=0) (cap:=c) kL kM br J (Nat.le_refl _) (Nat.zero_le _) (Nat.zero_le _)
     refine Good.same h (v:=.slice qa 0 c) ?_ rfl ((au.bB rfl).2 ⟨rfl,by rw[ak];exact .inl ⟨rfl,qa,c,rfl,mX,o1⟩⟩)
     rw[p9 aV (p_ al (by simp) (by simp))]
     cases qa with
     |none=>
      have:=o1 rfl;subst this
      simp[Instr.slice,run_underlying bh,kN,ho f1,f2]
     |some qa=>simp[Instr.slice,run_underlying bh,kN,ho f1,f2,Addr.add]
    ·have kN:=p8 (P:=C.P) (isS:=true) (len:=xs.length) (cap:=cap) kL kM br J Hm (Nat.le_trans AX ab) ab
     obtain⟨bD,c2,bk,cx,rfl,g1,g2,g3,g4,g5⟩:=aL.split b xs cN _ bQ
     obtain⟨d1,d2,Ya,AY,rfl,bg,bw,cM,cc,c8⟩:=aL.split a (xs.take b) bD _ g1
     have xk:d1.length=a*(C.T e).sz:=by
      rw[aL.length _ _ _ bg,oR _ (fun d ae=>hC d (List.mem_of_mem_take (List.mem_of_mem_take ae))),List.length_take,List.length_take]
      congr 1;omega
     have hlen:((xs.take b).drop a).length=b-a:=by simp;omega
     have gQ:fc w gV (o+a*(C.T e).sz) d2:=by
      rw[←xk]
      have:fc w gV o (d1++(d2++c2)):=by simpa using bb
      exact this.w9
     have um:aL w F ((xs.take b).drop a) d2 (fun _=>False):=aL.mono (fun _ h=>h) _ _ _ _ (fun b J=>(g3 _ (cc _ J)).elim) bw
     have mem:∀d∈(xs.take b).drop a,d.wd=sz:=fun d ae=>aP d (List.mem_of_mem_take (List.mem_of_mem_drop ae))
     have run:(Instr.sliceAt T (.slice (some ⟨gV,o,none⟩) xs.length cap) o4 o5 none).run C.P w= .ok (.slice (if cap=a then some ⟨gV,o,none⟩else some ⟨gV,o+a*(C.T e).sz,none⟩) (b-a) (cap-a)) w:=by
      rw[p9 aV (p_ al (by simp) (by simp))]
      simp[Instr.slice,run_underlying bh,kN,ho f1,f2,Addr.add_lit]
     refine⟨_,w,F,S,run,h,.inl ⟨rfl,(au.bB rfl).2 ⟨rfl,?_⟩⟩⟩
     simp only[bs,ff]
     rw[ak]
     by_cases AZ:cap=a
     ·have Ho:b=a:=by omega
      subst Ho
      have sd:(xs.take b).drop b=[]:=by simp
      rw[if_pos AZ]
      rw[sd]at um⊢
      rw[aL]at um
      subst um
      exact .inr ⟨gV,o,cap-b,[],sz,by simp,aa,Nat.zero_le _,by omega,by simp,fun j c bE=>by simp at bE,by rw[aL]⟩
     ·rw[if_neg AZ]
      exact .inr ⟨gV,_,cap-a,d2,sz,by rw[hlen],aa,by rw[hlen];omega,by omega,mem,gQ,um⟩
   ·cases he
  ·cases he
 ·rename_i e y q al
  split at he
  ·rename_i sz xs ae
   split at he
   ·rename_i b br J
    split at he
    ·rename_i uo
     split at he
     ·rename_i r6 s2 aK
      simp only[Option.some.injEq,Prod.mk.injEq]at he
      obtain⟨rfl,rfl⟩:=he
      obtain⟨i,d,z,aF,aJ,aN,bt,bN,bh,ba⟩:=aV.info (dQ al (by simp))
      rw[al]at ba
      have:=ig ba;subst this
      obtain⟨mQ,aX,mR,f1,f2,f3,f4,f5,f6,f7⟩:=aV.info uo.2
      have o2:r6= .aG sz xs:=by
       simp only[bM,ae,I.plain]at aK
       simp at aK
       exact aK.1.symm
      subst o2
      obtain⟨bk,g0,g1,g2,Sn,g3,g4,g5,g6,g7,g8⟩:=lq h rfl aD aK
      rw[eC g2,ak]at g3
      rcases g3 with⟨rfl,a0,ir⟩|⟨gV,cap,cur,eG,fr,aE,ir,bg,bw,cM,cc,c8,dj,fD,gW,jn,jo⟩
      ·simp at ir;subst ir
       have fk:b=0:=by simpa using uo.1
       subst fk
       have kN:=p8 (P:=C.P) (isS:=true) (len:=0) (cap:=0) kL kM br J (Nat.le_refl _) (Nat.le_refl _) (Nat.le_refl _)
       refine⟨.slice a0 0 0,w,F,bk,?_,g0,.inr ⟨rfl,rfl,fun _=>False,by simp only[bs,ff];rw[ak];exact .inl ⟨rfl,_,rfl⟩,fun _ h=>h.elim,fun _ h=>h.elim,fun _ _ h=>h.elim,fun _ h=>h.elim⟩⟩
       rw[p9 aV (p_ al (by simp) (by simp))]
       cases a0<;>simp[Instr.slice,run_underlying bh,kN,ho f1,f2]
      ·simp at ir;subst ir
       have kN:=p8 (P:=C.P) (isS:=true) (len:=xs.length) (cap:=cap) kL kM br J (Nat.zero_le _) (Nat.le_trans uo.1 cc) cc
       have hlen:(xs.take b).length=b:=by simp;omega
       have run:(Instr.sliceAt T (.slice (some ⟨gV,0,none⟩) xs.length cap) o4 o5 none).run C.P w= .ok (.slice (some ⟨gV,0,none⟩) b cap) w:=by
        rw[p9 aV (p_ al (by simp) (by simp))]
        simp[Instr.slice,run_underlying bh,kN,ho f1,f2,Addr.add_lit]
       refine⟨_,w,F,bk,run,g0,.inr ⟨rfl,rfl,Sn,?_,g4,g5,g6,g7⟩⟩
       simp only[bs,ff]
       rw[ak]
       obtain⟨bD,c2,e5,ez,af,m1,m2,m3,m4,m5⟩:=aL.split b xs _ _ gW
       refine .inr ⟨gV,cap,cur,eG,fr,aE,by rw[hlen],bg,bw,cM,by omega,c8,dj,fun d ae=>fD d (List.mem_of_mem_take ae),?_,jn,jo⟩
       have xk:bD.length=b*sz:=by
        rw[aL.length _ _ _ m1,oR _ (fun d ae=>fD d (List.mem_of_mem_take ae)),hlen]
       have:cur.toList.take ((xs.take b).length*sz)=bD:=by
        rw[hlen]
        have ab:b*sz≤xs.length*sz:=Nat.mul_le_mul_right _ uo.1
        have:(cur.toList.take (xs.length*sz)).take (b*sz)=bD:=by rw[af,List.take_left' xk]
        rwa [List.take_take,Nat.min_eq_left ab]at this
       rw[this]
       exact aL.mono (fun _ h=>h) _ _ _ _ m3 m1
     ·cases he
    ·cases he
   ·cases he
  ·cases he
 ·cases he
end
section
variable {C:bm} {w0 w:World} {F0 X F:Nat→Prop} {S:Nat→Nat→Prop} {s s1:ag} {an:Nat→Value} {av:I}
def Src (P:Program) (w:World) (size:Nat) (x:Value) (m:Nat) (news:List Value):Prop:=
 ∀ar:World,ar.heap=w.heap→(Builtin.lenOf x).run P ar= .ok m ar∧(Builtin.firstCells size m x).run P ar= .ok news.toArray ar
def xl (d:TypeDesc):Prop:=(∃e,d= .slice e)∨d= .string
theorem Hp {P:Program} {T a6 ty e:TypeId} {mY:TypeDesc} {i:TypeInfo} (aK:P.underlying T=some (.slice e)) (hu:P.underlying a6=some mY) (o6:xl mY) (ay:P.info? e=some i)
  {x:Value} {m:Nat} {news:List Value} (uq:Src P w i.size x m news) {b n cap:Nat} {cur:Array Value} {eG:TypeId} {fr:Nat×Nat} {l mid r:List Value} (J:w.heap[b]? =some (.cells cur eG fr)) (bc:nO fr cur.size)
  (af:cur.toList=l++(mid++r)) (aI:l.length=n*i.size) (hm:mid.length=news.length) (ug:∀v∈news,Value.ep v=true) (kO:n+m≤cap):
  ∃ar,(Builtin.append_ #[T,a6] ty #[.slice (some ⟨b,0,none⟩) n cap,x]).run P w= .ok (.slice (some ⟨b,0,none⟩) (n+m) cap) ar∧ar.heap[b]? =some (.cells (l++(news++r)).toArray eG fr)∧
   (∀c,c≠b→ar.heap[c]? =w.heap[c]?)∧ar.heap.size=w.heap.size∧ar.os=w.os∧ar.tape=w.tape∧Out ar w:=by
 obtain⟨ar,m1,m2⟩:=xc (P:=P) (b:=b) (o:=n*i.size) (e:=eG) (fr:=fr) news 0 cur w l mid r J bc af (by omega) hm ug
 refine⟨ar,?_,m2⟩
 obtain⟨aa,ab⟩:=uq w rfl
 rcases o6 with⟨eA,rfl⟩|rfl<;>simp[Builtin.append_,run_underlying aK,run_underlying hu,ho ay,aa,ab,kO,Addr.add_lit,m1]
theorem Hq {P:Program} {T a6 ty e:TypeId} {mY:TypeDesc} {i:TypeInfo} {z:Value} (aK:P.underlying T=some (.slice e)) (hu:P.underlying a6=some mY) (o6:xl mY) (ay:P.info? e=some i) (bd:i.zero=some z)
  {x:Value} {m:Nat} {news:List Value} (uq:Src P w i.size x m news) {base:Option Addr} {n cap:Nat} {ly:List Value} (hold:Src P w i.size (.slice base n cap) n ly) (kO:¬n+m≤cap)
  (aQ:n+m≤9223372036854775807) (nV:(n+m)*i.bytes≤140737488355328):
  (Builtin.append_ #[T,a6] ty #[.slice base n cap,x]).run P w= .ok (.slice (some ⟨w.heap.size,0,none⟩) (n+m) (grownCap w (n+m) cap e))
   (w.drew.alloc (.cells (ly.toArray++news.toArray++Builtin.zeroCells z.cells (grownCap w (n+m) cap e-(n+m))) e)):=by
 have aa:=(uq w rfl).1
 have ab:=(uq w.drew rfl).2
 have aB:=(hold w.drew rfl).2
 have Yb:=growslice_fits (need:=n+m) (old:=cap) (by omega) nV
 have ft:¬(281474976710656<Builtin.nextslicecap (n+m) cap*i.bytes):=by omega
 have qb:∀k (w:World),(askRoom k).run P w= .ok () w:=by
  intro k w
  unfold askRoom
  split<;>rfl
 have xm:¬(9223372036854775807<(n:Int)+(m:Int)∧i.bytes=0):=by omega
 rcases o6 with⟨eA,rfl⟩|rfl<;>
  ·simp[Builtin.append_,run_underlying aK,run_underlying hu,ho ay,oW ay,aa,kO,ft,Question.forced,qb]
   rw[if_neg xm,aB]
   simp[ab,oX ay bd,newRow,grownCap]
   have aF:(ly++news).toArray=ly.toArray++news.toArray:=by simp
   rw[aF,Array.append_assoc]
def ur (C:bm) (e a6:TypeId):Bool:=match(C.T a6).k,(C.T e).k with
 | .slice eA,_=>eA==e
 | .str,.int .u8=>true
 |_,_=>false
def jq (C:bm) (s:ag) (T a6:TypeId) (x y:I):Option (I×ag):=
 match(C.T T).k with
 | .slice e=>if(C.T e).ok=true∧(C.T e).zero.wd=(C.T e).sz∧(flat (C.T e).zero).isSome=true∧ur C e a6=true then
   match(match x with| .bu=>some (I.aG (C.T e).sz [],s)| .h a q=>bM s (.h a q)|_=>none)with
   |some (.aG sz xs,s1)=>if sz=(C.T e).sz then
     match(match hQ x.owner y with
      | .bu=>some ([],s1)
      | .slice bA=>some (bA,s1)
      | .str l=>some (l.map ea,s1)
      | .h a q=>match bM s1 (.h a q)with
        |some (.aG _ bA,s2)=>some (bA,s2)
        |_=>none
      |_=>none)with
     |some (bA,s2)=>if(∀d∈bA,d.wd=(C.T e).sz)∧(xs.length+bA.length)*(C.T e).bytes≤140737488355328∧xs.length+bA.length≤9223372036854775807 then some (.aG sz (xs++bA),s2)else none
     |none=>none
    else none
   |_=>none
   else none
 |_=>none
theorem aL.append {xs bA:List I} {bD c2:List Value} {bk cx aE:Nat→Prop} (aa:aL w F xs bD bk) (ab:aL w F bA c2 cx) (aF:∀b,bk b→aE b) (aJ:∀b,cx b→aE b) (aN:∀b,bk b→¬cx b):aL w F (xs++bA) (bD++c2) aE:=by
 induction xs generalizing bD bk aE with
 |nil=>rw[aL]at aa;subst aa;exact aL.mono (fun _ h=>h) _ _ _ _ aJ ab
 |cons x xs ih=>
  rw[aL]at aa
  obtain⟨Hr,Hs,e5,ez,rfl,g1,g2,g3,g4,g5⟩:=aa
  rw[List.cons_append,aL]
  refine⟨Hr,Hs++c2,e5,fun b=>ez b∨cx b,by simp,g1,ih g2 (fun b h=>.inl h) (fun b h=>.inr h) (fun b h=>aN b (g4 b h)),fun b h=>aF b (g3 b h),?_,?_⟩
  ·rintro b (h|h)
   ·exact aF b (g4 b h)
   ·exact aJ b h
  ·rintro b h (aT|aT)
   ·exact g5 b h aT
   ·exact aN b (g3 b h) aT
theorem xn {P:Program} {size m cap:Nat} {b o:Nat} {news:List Value} (gQ:fc w b o news) (aI:news.length=m*size):Src P w size (.slice (some ⟨b,o,none⟩) m cap) m news:=by
 intro ar hw
 refine⟨rfl,?_⟩
 refine run_firstCells_some ar size m ⟨b,o,none⟩ m cap news aI (fun j v bE=> ?_)
 rw[Addr.add_lit]
 have:=gQ j v bE
 simpa [World.cell?,hw]using this
theorem A0 {P:Program} {size cap:Nat}:Src P w size (.slice none 0 cap) 0 []:=by
 intro ar _
 exact⟨rfl,by simp[Builtin.firstCells]⟩
theorem xo {P:Program} {size cap:Nat} (a:Option Addr):Src P w size (.slice a 0 cap) 0 []:=by
 cases a with
 |none=>exact A0
 |some a=>
  intro ar _
  exact⟨rfl,run_firstCells_some ar size 0 a 0 cap [] (by simp) (fun j v bE=>by simp at bE)⟩
theorem Ht {P:Program} (l:List UInt8):Src P w 1 (.string ⟨⟨l⟩⟩) l.length (l.map fun b=>.int .u8 (b.toNat:Int)):=by
 intro ar _
 refine⟨rfl,?_⟩
 have:(⟨⟨l⟩⟩:ByteArray).extract 0 l.length=⟨⟨l⟩⟩:=by
  apply ByteArray.ext
  simp[ByteArray.data_extract]
 simp[Builtin.firstCells,this]
theorem aL.o7 {sz:Nat} {xs:List I} {cs:List Value} {aE:Nat→Prop} (h:aL w F xs cs aE) (hw:∀d∈xs,d.wd=sz):cs.length=xs.length*sz:=by
 rw[aL.length _ _ _ h,oR _ hw]
theorem a1.turn (h:a1 w0 F0 X F S s an w) {ar:World} {b:Nat} (J:∀c,c≠b→ar.heap[c]? =w.heap[c]?) (U:ar.heap.size=w.heap.size) (aa:ar.os=w.os) (ab:ar.tape=w.tape) (aB:Out ar w)
  (aW:¬F b) (a_:∀u,¬S u b) (bl:X b∨w0.heap.size≤b):a1 w0 F0 X F S s an ar where
 eB:=h.eB
 eQ:=h.eQ
 de:=fun c af=>by rw[U];exact h.de c af
 cV:=fun t c af=>by rw[U];exact h.cV t c af
 dy:=h.dy
 dm:=h.dm
 cp:=h.cp
 b2:=fun t=>au.frame (Sx:=S) (fun c af=>J c (by rintro rfl;exact aW af)) (fun _ h=>h) (fun x c af=>J c (by rintro rfl;exact a_ x af)) h.b2 _ _ _ (fun c af=>J c (by rintro rfl;exact a_ t af)) (h.b2 t)
 old:=fun c cJ gn=>by
  rw[J c ?_]
  ·exact h.old c cJ gn
  ·rintro rfl
   rcases bl with bl|bl
   ·exact gn bl
   ·omega
 size:=by rw[U];exact h.size
 os:=aa.trans h.os
 tape:=ab.trans h.tape
 output:=aB.trans h.output
 dW:=h.dW
theorem Hu (aV:C.db) (h:a1 w0 F0 X F S s an w) {T a6 ty:TypeId} {x y:I} {fh fP:Value} (ai:au w F s an x fh (fun _=>False)) (hy:au w F s an y fP (fun _=>False))
  (he:jq C s T a6 x y=some (av,s1)):Good C w0 F0 X an w (Builtin.append_ #[T,a6] ty #[fh,fP]) av s1:=by
 unfold jq at he
 split at he
 ·rename_i e al
  obtain⟨xp,d,xq,aF,aJ,aN,bt,bN,bh,ba⟩:=aV.info (dQ al (by simp))
  rw[al]at ba
  have:=ig ba;subst this
  split at he
  ·rename_i o0
   obtain⟨lx,l7,mZ,l8⟩:=o0
   obtain⟨i,xr,z,f1,f2,f3,f4,f5,f6,f7⟩:=aV.info lx
   obtain⟨dn,jO⟩:=Option.isSome_iff_exists.1 mZ
   have na:=f5 dn jO
   have lz:dn.length=(C.T e).sz:=by
    have:=ak.length _ _ _ ((ak.flat (w:=w) (F:=F) _).1 (C.T e).zero dn (fun _=>False) (Nat.le_refl _) jO)
    rw[this,l7]
   obtain⟨mY,hu,o6⟩:∃mY,C.P.underlying a6=some mY∧xl mY:=by
    unfold ur at l8
    split at l8
    ·rename_i eA iu
     obtain⟨_,aX,_,_,_,_,_,_,g6,g7⟩:=aV.info (dQ iu (by simp))
     rw[iu]at g7
     exact⟨aX,g6,.inl ⟨_,ig g7⟩⟩
    ·rename_i iu _
     obtain⟨_,aX,_,_,_,_,_,_,g6,g7⟩:=aV.info (dQ iu (by simp))
     rw[iu]at g7
     exact⟨aX,g6,.inr (l1 g7)⟩
    ·cases l8
   split at he
   ·rename_i sz xs A1 o8
    split at he
    ·rename_i cO
     subst cO
     split at he
     ·rename_i bA uu kP
      split at he
      ·rename_i Hv
       obtain⟨qc,nV,nW⟩:=Hv
       simp only[Option.some.injEq,Prod.mk.injEq]at he
       obtain⟨rfl,rfl⟩:=he
       obtain⟨e5,a0,Sn,a3,a4,a5,l5,l6,Yc,a9,nX⟩:∃e5,a1 w0 F0 X F e5 A1 an w∧∃Sn,ak w F (.aG (C.T e).sz xs) [fh] Sn∧(∀b,Sn b→b<w.heap.size)∧(∀b,Sn b→¬F b)∧(∀u b,Sn b→¬e5 u b)∧
         (∀b,Sn b→X b∨w0.heap.size≤b)∧(∀u b,e5 u b→S u b)∧(∀b,Sn b→∃u,S u b)∧au w F A1 an (hQ x.owner y) fP (fun _=>False):=by
        split at o8
        ·simp only[Option.some.injEq,Prod.mk.injEq,I.aG.injEq,true_and]at o8
         obtain⟨rfl,rfl⟩:=o8
         have:=mV ai;subst this
         exact⟨S,h,fun _=>False,by rw[ak];exact .inl ⟨rfl,_,rfl⟩,fun _ h=>h.elim,fun _ h=>h.elim,fun _ _ h=>h.elim,fun _ h=>h.elim,fun _ _ h=>h,fun _ h=>h.elim,hy⟩
        ·obtain⟨bk,g0,g1,g2,Sn,g3,g4,g5,g6,g7,g8,g9,g10⟩:=lq h rfl ai o8
         rw[eC g2]at g3
         exact⟨bk,g0,Sn,g3,g4,g5,g6,g7,g8,g9,g10 _ _ _ hy⟩
        ·cases o8
       obtain⟨ez,gV,kl,news,jk,gr,gX,ck,hS,cP,se,dc⟩:∃ez,a1 w0 F0 X F ez uu an w∧∃kl news,aL w F bA news kl∧Src C.P w i.size fP bA.length news∧(∀b,kl b→b<w.heap.size)∧(∀b,kl b→¬F b)∧(∀u b,kl b→¬ez u b)∧
         (∀b,kl b→X b∨w0.heap.size≤b)∧(∀u b,ez u b→e5 u b)∧(∀b,kl b→∃u,e5 u b):=by
        split at kP
        ·rename_i o9
         simp only[Option.some.injEq,Prod.mk.injEq]at kP
         obtain⟨rfl,rfl⟩:=kP
         rw[o9]at nX
         have:=mV nX;subst this
         exact⟨e5,a0,fun _=>False,[],by rw[aL],A0,fun _ h=>h.elim,fun _ h=>h.elim,fun _ _ h=>h.elim,fun _ h=>h.elim,fun _ _ h=>h,fun _ h=>h.elim⟩
        ·rename_i el o9
         simp only[Option.some.injEq,Prod.mk.injEq]at kP
         obtain⟨rfl,rfl⟩:=kP
         rw[o9]at nX
         rcases uk nX with⟨rfl,qa,A2,rfl,_,o1⟩|⟨b,o,cap,cN,Hw,rfl,bg,bw,cM,cc,c8,dj⟩
         ·exact⟨e5,a0,fun _=>False,[],by rw[aL],xo qa,fun _ h=>h.elim,fun _ h=>h.elim,fun _ _ h=>h.elim,fun _ h=>h.elim,fun _ _ h=>h,fun _ h=>h.elim⟩
         ·exact⟨e5,a0,fun _=>False,cN,dj,xn c8 (by rw[f2];exact aL.o7 dj qc),fun _ h=>h.elim,fun _ h=>h.elim,fun _ _ h=>h.elim,fun _ h=>h.elim,fun _ _ h=>h,fun _ h=>h.elim⟩
        ·rename_i l o9
         simp only[Option.some.injEq,Prod.mk.injEq]at kP
         obtain⟨rfl,rfl⟩:=kP
         rw[o9]at nX
         have:=iM nX;subst this
         have Hx:l≠[]→i.size=1:=by
          intro aI
          cases l with
          |nil=>exact(aI rfl).elim
          |cons b l=>rw[f2,←qc (ea b) (by simp)];rfl
         by_cases aI:l=[]
         ·subst aI
          refine⟨e5,a0,fun _=>False,[],by simp only[List.map_nil];rw[aL],?_,fun _ h=>h.elim,fun _ h=>h.elim,fun _ _ h=>h.elim,fun _ h=>h.elim,fun _ _ h=>h,fun _ h=>h.elim⟩
          intro ar _
          exact⟨rfl,by simp[Builtin.firstCells,ByteArray.extract];rfl⟩
         ·refine⟨e5,a0,fun _=>False,_,AU l _,?_,fun _ h=>h.elim,fun _ h=>h.elim,fun _ _ h=>h.elim,fun _ h=>h.elim,fun _ _ h=>h,fun _ h=>h.elim⟩
          rw[Hx aI,List.length_map]
          exact Ht l
        ·rename_i a q o9
         split at kP
         ·rename_i Yd el s2 aK
          simp only[Option.some.injEq,Prod.mk.injEq]at kP
          obtain⟨rfl,rfl⟩:=kP
          rw[o9]at nX
          obtain⟨cx,g0,g1,g2,kl,g3,g4,g5,g6,g7,g8,g9,g10⟩:=lq a0 rfl nX aK
          rw[eC g2,ak]at g3
          rcases g3 with⟨rfl,Hy,ir⟩|⟨b,cap,cur,eG,fr,aE,ir,bg,bw,cM,cc,c8,dj,fD,gW,jn,jo⟩
          ·simp at ir;subst ir
           exact⟨cx,g0,fun _=>False,[],by rw[aL],(xo Hy),fun _ h=>h.elim,fun _ h=>h.elim,fun _ _ h=>h.elim,fun _ h=>h.elim,g8,fun _ h=>h.elim⟩
          ·simp at ir;subst ir
           refine⟨cx,g0,aE,_,gW,xn (p2 bw _) ?_,fun c af=>g4 c (jn c af),fun c af=>g5 c (jn c af),fun u c af=>g6 u c (jn c af),fun c af=>g7 c (jn c af),g8,fun c af=>g9 c (jn c af)⟩
           rw[f2];exact aL.o7 gW qc
         ·cases kP
        ·cases kP
       have nY:news.length=bA.length*(C.T e).sz:=aL.o7 jk qc
       have kQ:∀c,Sn c→¬kl c:=fun c aa ab=>by obtain⟨u,hu⟩:=dc c ab;exact l5 u c aa hu
       have jg:∀u c,Sn c→¬ez u c:=fun u c aa ab=>l5 u c aa (se u c ab)
       have grow:∀(base:Option Addr) (cap:Nat) (ly:List Value) (Sx:Nat→Prop),fh= .slice base xs.length cap→Src C.P w i.size (.slice base xs.length cap) xs.length ly→aL w F xs ly Sx→(∀d∈xs,d.wd=(C.T e).sz)→(∀c,Sx c→Sn c)→¬xs.length+bA.length≤cap→
         Good C w0 F0 X an w (Builtin.append_ #[T,a6] ty #[fh,fP]) (.aG (C.T e).sz (xs++bA)) uu:=by
        intro base cap ly Sx xd hold A3 A4 du kO
        subst xd
        have aC:=Hq (ty:=ty) bh hu o6 f1 f4 gr hold kO nW (by rw[f3];exact nV)
        have sc:=grownCap_ge w (xs.length+bA.length) cap e
        have mX:=grownCap_le_maxLen w (xs.length+bA.length) cap e (by unfold maxLen;omega)
        have sf:=aL.o7 A3 A4
        have Hz:aL w F (xs++bA) (ly++news) (fun c=>Sx c∨kl c):=aL.append A3 jk (fun _ h=>.inl h) (fun _ h=>.inr h) (fun c aa ab=>kQ c (du c aa) ab)
        have HA:(ly++news).length=(xs++bA).length*(C.T e).sz:=by simp[sf,nY,Nat.add_mul]
        have hq:=gV.r_ (ar:=w.drew.alloc (.cells (ly.toArray++news.toArray++Builtin.zeroCells z.cells (grownCap w (xs.length+bA.length) cap e-(xs.length+bA.length))) e))
         (sz:=(C.T e).sz) (cap:=grownCap w (xs.length+bA.length) cap e) (xs:=xs++bA) (e:=e) (fr:=(0,0)) (Sn:=fun c=>Sx c∨kl c) rfl rfl rfl ⟨rfl,fun _=>Nat.le_succ _⟩
         (fun o _ ⟨_,ab⟩=>absurd ab (Nat.not_lt_zero _)) (by simpa using sc) mX
         (by
          simp only[Array.size_append,List.size_toArray,size_zeroCells,na,sf,nY,lz,←Nat.add_mul]
          congr 1;omega)
         (by
          intro d ae
          rcases List.mem_append.1 ae with ae|ae
          ·exact A4 d ae
          ·exact qc d ae)
         (by
          simp only[Array.toList_append]
          rw[List.take_left' HA]
          exact Hz)
         (by rintro c (af|af);exact a4 c (du c af);exact gX c af) (by rintro c (af|af);exact a5 c (du c af);exact ck c af) (by rintro u c (af|af);exact jg u c (du c af);exact hS u c af) (by rintro c (af|af);exact l6 c (du c af);exact cP c af)
        refine⟨_,_,F,ez,aC,hq.1,?_⟩
        have:=hq.2
        simpa using this
       rw[ak]at a3
       rcases a3 with⟨rfl,uv,ir⟩|⟨b,cap,cur,eG,fr,aE,ir,bg,bw,cM,cc,c8,dj,fD,gW,jn,jo⟩
       ·simp at ir;subst ir
        by_cases A5:bA=[]
        ·subst A5
         have xt:news=[]:=by simpa using nY
         subst xt
         refine⟨.slice uv 0 0,w,F,ez,?_,gV,.inr ⟨rfl,rfl,fun _=>False,by simp only[bs,ff];rw[ak];exact .inl ⟨rfl,_,rfl⟩,fun _ h=>h.elim,fun _ h=>h.elim,fun _ _ h=>h.elim,fun _ h=>h.elim⟩⟩
         obtain⟨aa,ab⟩:=gr w rfl
         cases uv<;>rcases o6 with⟨eA,rfl⟩|rfl<;>simp at aa ab<;>simp[Builtin.append_,run_underlying bh,run_underlying hu,ho f1,aa,ab,storeCells]
        ·exact grow uv 0 [] (fun _=>False) rfl (xo uv) (by rw[aL]) (by simp) (fun _ h=>h.elim) (by
          cases bA with
          |nil=>exact(A5 rfl).elim
          |cons y bA=>simp)
       ·simp at ir;subst ir
        by_cases kO:xs.length+bA.length≤cap
        ·
         have sf:=aL.o7 gW fD
         have hlen:cur.toList.length=cap*(C.T e).sz:=by simp[dj]
         have hle:(xs.length+bA.length)*(C.T e).sz≤cap*(C.T e).sz:=Nat.mul_le_mul_right _ kO
         rw[Nat.add_mul]at hle
         have ia:cur.toList=cur.toList.take (xs.length*(C.T e).sz)++((cur.toList.drop (xs.length*(C.T e).sz)).take news.length++(cur.toList.drop (xs.length*(C.T e).sz)).drop news.length):=by
          rw[List.take_append_drop,List.take_append_drop]
         obtain⟨ar,m1,m2,m3,m4,m5,m6,m7⟩:=Hp (ty:=ty) (n:=xs.length) (m:=bA.length) (cap:=cap) bh hu o6 f1 gr bw cM ia (by rw[f2];exact sf) (by simp[hlen,nY];omega) (aL.oY _ _ _ jk) kO
         have HB:=gV.turn m3 m4 m5 m6 m7 (a5 b bg) (fun u hu=>jg u b bg hu) (l6 b bg)
         have l0:∀c,F c→ar.heap[c]? =w.heap[c]? :=fun c af=>m3 c (by rintro rfl;exact a5 _ bg af)
         refine⟨_,ar,F,ez,m1,HB,.inr ⟨rfl,rfl,fun c=>Sn c∨kl c,?_,?_,?_,?_,?_⟩⟩
         ·simp only[bs,ff]
          rw[ak]
          have A6:(cur.toList.take (xs.length*(C.T e).sz)++(news++(cur.toList.drop (xs.length*(C.T e).sz)).drop news.length)).toArray.size=cur.size:=by
           have:cur.size=cur.toList.length:=by simp
           rw[this]
           conv=>rhs;rw[ia]
           simp[hlen,nY];omega
          refine .inr ⟨b,cap,_,eG,fr,fun c=>aE c∨kl c,by simp,.inl bg,m2,by rw[A6];exact cM,by simpa using kO,c8,by rw[A6];exact dj,?_,?_,?_,?_⟩
          ·intro d ae
           rcases List.mem_append.1 ae with ae|ae
           ·exact fD d ae
           ·exact qc d ae
          ·have p7:=aL.frame l0 _ _ _ (fun c af=>m3 c (by rintro rfl;exact jo af)) gW
           have oV:=aL.frame l0 _ _ _ (fun c af=>m3 c (by rintro rfl;exact kQ _ bg af)) jk
           have:((cur.toList.take (xs.length*(C.T e).sz)++(news++(cur.toList.drop (xs.length*(C.T e).sz)).drop news.length)).toArray.toList.take ((xs++bA).length*(C.T e).sz))=cur.toList.take (xs.length*(C.T e).sz)++news:=by
            simp only[]
            rw[←List.append_assoc]
            exact List.take_left' (by rw[List.length_append,sf,nY,List.length_append,Nat.add_mul])
           rw[this]
           exact aL.append p7 oV (fun _ h=>.inl h) (fun _ h=>.inr h) (fun c aa ab=>kQ c (jn c aa) ab)
          ·rintro c (af|af)
           ·exact .inl (jn c af)
           ·exact .inr af
          ·rintro(af|af)
           ·exact jo af
           ·exact kQ b bg af
         ·rw[m4];rintro c (af|af);exact a4 c af;exact gX c af
         ·rintro c (af|af);exact a5 c af;exact ck c af
         ·rintro u c (af|af);exact jg u c af;exact hS u c af
         ·rintro c (af|af);exact l6 c af;exact cP c af
        ·exact grow (some ⟨b,0,none⟩) cap _ aE rfl (xn (p2 bw _) (by rw[f2];exact aL.o7 gW fD)) gW fD jn kO
      ·cases he
     ·cases he
    ·cases he
   ·cases he
  ·cases he
 ·cases he
end
section
variable {C:bm} {w0 w ar:World} {F0 X F:Nat→Prop} {S:Nat→Nat→Prop} {s s1:ag} {an:Nat→Value} {av:I}
theorem a1.HC (h:a1 w0 F0 X F S s an w) {x:Nat} {q:List Nat} {d aX:I} {b:Nat} (ae:I.sub q (s x)=some d) (ah:d.plain=false) (xu:aX.tree=true) (aa:∀v,fB d v→fB aX v) (U:∀v,cA d v→cA aX v)
  (ab:∀vs,aX≠.tuple vs) (hC:aX.wd=d.wd) (J:∀bK a dx,b_ w q (s x) (bs (an x)) none=some (d,bK,a)→ak w F d bK dx→dx b∧ak ar F aX bK dx) (kH:∀c,c≠b→ar.heap[c]? =w.heap[c]?) (cO:ar.heap.size=w.heap.size) (w3:ar.os=w.os)
  (w4:ar.tape=w.tape) (oT:Out ar w):∃aE,a1 w0 F0 X F aE (cf (fq x s) x (I.put q aX (s x))) an ar:=by
 have aK:=fg ae (.inl ah)
 have ai:=h.b2 x
 rw[au.bB aK]at ai
 obtain⟨bK,a,cK,dx,g0,g1,g2,g3,g4,g5⟩:=ctx q (s x) (bs (an x)) (S x) none d ai.2 ae
 obtain⟨oU,aD⟩:=J bK a dx g0 g4
 have o_:S x b:=g2 b oU
 have l0:∀c,F c→ar.heap[c]? =w.heap[c]? :=fun c af=>kH c (by rintro rfl;exact h.dy x _ o_ af)
 have p5:∀c,cK c→c≠b:=fun c af e=>g3 c af (e▸oU)
 have hj:ak ar F (I.put q aX (s x)) (bs (an x)) (fun c=>cK c∨dx c):=by
  rcases g5 with⟨l,r,aF,aJ,aN⟩|⟨gV,cur,e,fr,l,r,aF,aJ,aN,bt,bN,bh⟩
  ·rw[aF]
   exact aN ar aX bK dx l0 (fun c af=>kH c (p5 c af)) hC aD (fun c af lZ=>g3 c lZ af)
  ·refine bh ar aX bK dx l0 (fun c af _=>kH c (p5 c af)) ?_ hC aD (fun c af lZ=>g3 c lZ af)
   rw[kH gV (p5 gV aJ),aN,←bN]
 have rU:cA (I.put q aX (s x)) (an x)∧(I.put q aX (s x)).tree=true:=by
  cases q with
  |nil=>
   simp only[I.sub,Option.some.injEq]at ae
   simp only[I.put]
   exact⟨U _ (ae▸ai.1),xu⟩
  |cons k q=>
   refine⟨rS ai.1 ae aa (fun _=>ab) hC,?_⟩
   rcases nQ k q aX (s x)with⟨aj,gs,aF,e⟩|⟨aj,gs,aF,e⟩|⟨sz,xs,bA,aF,e⟩|⟨y,z,aF,e⟩|e<;>rw[e]<;>first|rfl|exact aK
 let ao:=cf (fq x s) x (I.put q aX (s x))
 have eP:∀y,y≠x→(ao y).tree=true→ao y=s y∧an y=an y:=fun y hy aK=>by
  have e:ao y=bZ.bo x (s y):=gJ _ _ hy
  rw[e]at aK⊢
  exact⟨(tZ aK).2,rfl⟩
 have hl:(ao x).plain=false→(s x).plain=false∧∀v,cA (s x) v→cA (ao x) v:=by
  intro _
  refine⟨?_,fun v aD=> ?_⟩
  ·cases rT:(s x).plain with
   |false=>rfl
   |true=>rw[I.wT _ _ _ rT ae]at ah;cases ah
  ·simp only[ao,jL]
   cases q with
   |nil=>
    simp only[I.sub,Option.some.injEq]at ae
    simp only[I.put]
    exact U _ (ae▸aD)
   |cons k q=>exact rS aD ae aa (fun _=>ab) hC
 have both:∀c,(cK c∨dx c)→S x c:=fun c af=>af.elim (g1 c) (g2 c)
 refine⟨ei S x (fun c=>cK c∨dx c),?_⟩
 constructor
 case eB=>exact h.eB
 case eQ=>exact h.eQ
 case de=>exact fun b J=>by rw[cO];exact h.de b J
 case cV=>
  intro u c J
  rw[cO]
  simp only[ei]at J
  split at J
  ·exact h.cV x c (both c J)
  ·exact h.cV u c J
 case dy=>
  intro u c J
  simp only[ei]at J
  split at J
  ·exact h.dy x c (both c J)
  ·exact h.dy u c J
 case dm=>
  intro u y c cj J hy
  simp only[ei]at J hy
  split at J
  ·rename_i hu
   rw[if_neg (fun e=>cj (hu.trans e.symm))]at hy
   exact h.dm x y c (fun e=>cj (hu.trans e)) (both c J) hy
  ·rename_i hu
   split at hy
   ·exact h.dm u x c hu J (both c hy)
   ·exact h.dm u y c cj J hy
 case cp=>
  intro u c J
  simp only[ei]at J
  split at J
  ·exact h.cp x c (both c J)
  ·exact h.cp u c J
 case b2=>
  intro u
  by_cases hu:u=x
  ·subst hu
   rw[jL,rP]
   exact(au.bB rU.2).2 ⟨rU.1,hj⟩
  ·rw[gJ _ _ hu,rQ _ _ hu]
   have cj:∀y c,y≠x→S y c→ar.heap[c]? =w.heap[c]? :=fun y c hy af=>kH c (by rintro rfl;exact h.dm y x c hy af o_)
   refine(au.bo eP rfl hl (fun y er d2 hy e7 rV=> ?_) l0 _).1 _ _ _ (Nat.le_refl _) (fun c af=>cj u c hu af) (h.b2 u)
   have rW:=h.b2 y
   rw[au.bB (fg e7 rV)]at rW
   exact tY er _ _ _ none d2 rW.2 e7 (fun c af=>cj y c hy af)
 case old=>
  intro c cJ gn
  rw[kH c ?_]
  ·exact h.old c cJ gn
  ·rintro rfl
   rcases h.cp x c o_ with bl|bl
   ·exact gn bl
   ·omega
 case size=>rw[cO];exact h.size
 case os=>exact w3.trans h.os
 case tape=>exact w4.trans h.tape
 case output=>exact oT.trans h.output
 case dW=>exact h.dW
def A7 (P:Program) (t:TypeId):Bool:=match P.info? t with
 |some i=>match i.zero with
  |some (.bool false)=>true
  |_=>false
 |none=>false
def uw (C:bm) (T:TypeId):Bool:=match(C.T T).k with
 | .map lA nZ=>match(C.T lA).k with
   | .str=>A7 C.P nZ
   |_=>false
 |_=>false
def kR (C:bm) (s:ag) (T:TypeId) (x i:I):Option I:=match x,i with
 | .h y q,.str k=>match I.sub q (s y)with
   |some (.b9 (.mp m))=>if uw C T=true then some (.bool (nL k m))else none
   |_=>none
 |_,_=>none
def jP (C:bm) (s:ag) (T:TypeId) (x i v:I):Option ag:=match x,i,v with
 | .h y q,.str k,.bool b=>match I.sub q (s y)with
   |some (.b9 (.mp m))=>if uw C T=true then some (cf (fq y s) y (I.put q (.b9 (.mp (lX k b m))) (s y)))else none
   |_=>none
 |_,_,_=>none
theorem A8 (aV:C.db) {T:TypeId} (h:uw C T=true):∃lA nZ,C.P.underlying T=some (.map lA nZ)∧C.P.underlying lA=some .string∧∀w,(zeroValue nZ).run C.P w= .ok (.bool false) w:=by
 unfold uw at h
 split at h
 ·rename_i lA nZ al
  split at h
  ·rename_i aa
   obtain⟨i,d,z,aF,aJ,aN,bt,bN,bh,ba⟩:=aV.info (dQ al (by simp))
   obtain⟨mQ,aX,mR,f1,f2,f3,f4,f5,f6,f7⟩:=aV.info (dQ aa (by simp))
   rw[al]at ba
   rw[aa]at f7
   have:=l1 f7;subst this
   refine⟨lA,nZ,?_,f6,fun w=> ?_⟩
   ·rw[bh];cases d<;>simp[ic]at ba
    rw[ba.1,ba.2]
   ·unfold A7 at h
    split at h
    ·rename_i i2 g1
     split at h
     ·rename_i g2;exact oX g1 g2 w
     ·cases h
    ·cases h
  ·cases h
 ·cases h
theorem xv (a b:ByteArray):(a==b)=true↔a=b:=by
 constructor
 ·intro h
  exact ByteArray.ext (eq_of_beq (show(a.data==b.data)=true from h))
 ·rintro rfl
  show(a.data==a.data)=true
  simp
theorem xw (k:List UInt8) (b:Bool):∀(es:List MapEntry) (m:List (List UInt8×Bool)) (i:Nat),es.map (fun e=>(e.key,e.val))=m.map (fun e=>(.string ⟨⟨e.1⟩⟩,.bool e.2))→
  (Instr.findNow .string (.string ⟨⟨k⟩⟩) es i=some none∧nL k m=false∧lX k b m=m++[(k,b)])∨
  ∃j e,es[j]? =some e∧e.key= .string ⟨⟨k⟩⟩∧Instr.findNow .string (.string ⟨⟨k⟩⟩) es i=some (some (i+j,.bool (nL k m)))∧lX k b m=m.set j (k,b)
 |[],m,i,h=>by
  have:m=[]:=by simpa using h.symm
  subst this
  exact .inl ⟨rfl,rfl,rfl⟩
 |e::es,[],i,h=>by simp at h
 |e::es,(cr,dK)::m,i,h=>by
  simp only[List.map_cons,List.cons.injEq,Prod.mk.injEq]at h
  obtain⟨⟨aa,ab⟩,aB⟩:=h
  by_cases al:cr=k
  ·subst al
   refine .inr ⟨0,e,rfl,aa,?_,by simp[lX]⟩
   have:(((⟨⟨cr⟩⟩:ByteArray)==⟨⟨cr⟩⟩))=true:=(xv _ _).2 rfl
   simp only[Instr.findNow,aa,ab,Instr.sameNow,nL,this,if_true,Nat.add_zero]
  ·have aQ:((⟨⟨k⟩⟩:ByteArray)==⟨⟨cr⟩⟩)=false:=by
    refine Bool.eq_false_iff.2 fun e=>al ?_
    have:=(xv _ _).1 e
    simp only[ByteArray.mk.injEq,Array.mk.injEq]at this
    exact this.symm
   rcases xw k b es m (i+1) aB with⟨g1,g2,g3⟩|⟨j,eA,g1,g2,g3,g4⟩
   ·refine .inl ⟨?_,?_,?_⟩
    ·simp only[Instr.findNow,aa,Instr.sameNow,aQ];exact g1
    ·simp[nL,al,g2]
    ·simp[lX,al,g3]
   ·refine .inr ⟨j+1,eA,g1,g2,?_,?_⟩
    ·simp only[Instr.findNow,aa,Instr.sameNow,aQ]
     rw[g3];simp[nL,al,Nat.add_assoc,Nat.add_comm 1 j]
    ·simp[lX,al,g4]
theorem ux {P:Program} {lA:TypeId} (al:P.underlying lA=some .string) (e:Bool) (k:ByteArray) (w:World):(Instr.checkKey e 10000 lA (.string k)).run P w= .ok () w:=by
 unfold Instr.checkKey
 simp[run_underlying al]
theorem A9 (h:a1 w0 F0 X F S s an w) {y:Nat} {q:List Nat} {m:List (List UInt8×Bool)} {v:Value} (aD:au w F s an (.h y q) v (fun _=>False)) (ae:I.sub q (s y)=some (.b9 (.mp m))):
  ∃r ms jK,v= .map (some r)∧w.heap[r]? =some (.map ms jK)∧ms.toList.map (fun e=>(e.key,e.val))=m.map (fun e=>(.string ⟨⟨e.1⟩⟩,.bool e.2))∧
   ∃a,b_ w q (s y) (bs (an y)) none=some (.b9 (.mp m),[.map (some r)],a):=by
 rw[au]at aD
 obtain⟨bK,a,g1,g2,g3⟩:=aD _ ae rfl
 have aa:Value.ep v=true:=g3
 rw[eC aa]at g2
 have ai:=h.b2 y
 rw[au.bB (fg ae (.inl rfl))]at ai
 obtain⟨dO,bU,cK,dx,k0,bg,bw,cM,cc,c8⟩:=ctx q (s y) (bs (an y)) (S y) none _ ai.2 ae
 rw[k0]at g1
 simp only[Option.some.injEq,Prod.mk.injEq,true_and]at g1
 obtain⟨rfl,rfl⟩:=g1
 rw[ak]at cc
 obtain⟨r,ms,jK,aF,aJ,aN,bt⟩:=cc
 rw[aF]at g2 k0
 exact⟨r,ms,jK,by simpa using g2,aN,bt,bU,k0⟩
theorem HD (aV:C.db) (h:a1 w0 F0 X F S s an w) {T:TypeId} {x i:I} {fh kI:Value} (ai:au w F s an x fh (fun _=>False)) (ay:au w F s an i kI (fun _=>False)) (he:kR C s T x i=some av):
  Good C w0 F0 X an w (Instr.lookup T fh kI false) av s:=by
 unfold kR at he
 split at he
 ·rename_i y q k
  split at he
  ·rename_i m ae
   split at he
   ·rename_i iL
    simp only[Option.some.injEq]at he;subst he
    obtain⟨lA,nZ,t1,t2,t3⟩:=A8 aV iL
    obtain⟨r,ms,jK,rfl,aJ,aN,_⟩:=A9 h ai ae
    have:=iM ay;subst this
    refine Good.same h (v:=.bool (nL k m)) ?_ rfl (of_bool _)
    rcases xw k true ms.toList m 0 aN with⟨g1,g2,_⟩|⟨j,e,_,_,g1,_⟩
    ·simp[Instr.lookup,run_underlying t1,getObj,Sem.run,aJ,ux t2,Instr.findKey,run_underlying t2,g1,t3,g2]
    ·simp[Instr.lookup,run_underlying t1,getObj,Sem.run,aJ,ux t2,Instr.findKey,run_underlying t2,g1]
   ·cases he
  ·cases he
 ·cases he
theorem HE (aV:C.db) (h:a1 w0 F0 X F S s an w) {T:TypeId} {x i v:I} {fh kI A_:Value} (ai:au w F s an x fh (fun _=>False)) (ay:au w F s an i kI (fun _=>False)) (aD:au w F s an v A_ (fun _=>False)) {s2:ag}
  (he:jP C s T x i v=some s2):∃ar aE,(Instr.mapUpdate T fh kI A_).run C.P w= .ok () ar∧a1 w0 F0 X F aE s2 an ar:=by
 unfold jP at he
 split at he
 ·rename_i y q k b
  split at he
  ·rename_i m ae
   split at he
   ·rename_i iL
    simp only[Option.some.injEq]at he;subst he
    obtain⟨lA,nZ,t1,t2,t3⟩:=A8 aV iL
    obtain⟨r,ms,jK,rfl,aJ,aN,a0,hD⟩:=A9 h ai ae
    have:=iM ay;subst this
    have:=nT aD;subst this
    have key:∀(uy:Array MapEntry) (xx:Nat),uy.toList.map (fun e=>(e.key,e.val))=(lX k b m).map (fun e=>(.string ⟨⟨e.1⟩⟩,.bool e.2))→
      ∃aE,a1 w0 F0 X F aE (cf (fq y s) y (I.put q (.b9 (.mp (lX k b m))) (s y))) an {w with heap:=w.heap.setIfInBounds r (.map uy xx)}:=by
     intro uy xx hm
     have aC:r<w.heap.size:=(Array.getElem?_eq_some_iff.1 aJ).1
     refine a1.HC (b:=r) h ae rfl rfl (fun v aD=>aD) (fun v aD=>aD) (fun vs e=>by cases e) rfl ?_ (fun c af=> ?_) (by simp) rfl rfl ⟨rfl,fun _=>Nat.le_refl _⟩
     ·intro bK a dx bc eu
      rw[hD]at bc
      simp only[Option.some.injEq,Prod.mk.injEq,true_and]at bc
      obtain⟨rfl,_⟩:=bc
      rw[ak]at eu⊢
      obtain⟨gU,n0,Ye,f1,f2,f3,f4⟩:=eu
      simp only[List.cons.injEq,Value.map.injEq,Option.some.injEq,and_true]at f1
      subst f1
      exact⟨f2,r,uy,xx,rfl,f2,by simp[aC],hm⟩
     ·simp[Ne.symm af]
    rcases xw k b ms.toList m 0 aN with⟨g1,_,g2⟩|⟨j,e,g0,ge,g1,g2⟩
    ·obtain⟨aE,bg⟩:=key (ms.push {key:=.string ⟨⟨k⟩⟩,val:=.bool b,born:=jK}) (jK+1) (by rw[g2];simp[aN])
     exact⟨_,aE,by simp[Instr.mapUpdate,run_underlying t1,getObj,setObj,Sem.run,aJ,ux t2,Instr.findKey,run_underlying t2,g1],bg⟩
    ·rw[Nat.zero_add]at g1
     obtain⟨aE,bg⟩:=key (ms.modify j fun e=>{e with key:=.string ⟨⟨k⟩⟩,val:=.bool b}) jK (by
      rw[g2,List.map_set,←aN]
      apply List.ext_getElem?
      intro n
      by_cases aQ:n=j
      ·subst aQ
       have:n<ms.toList.length:=(List.getElem?_eq_some_iff.1 g0).1
       rw[List.getElem?_set_self (by simpa using this)]
       simp[g0]
      ·simp[List.getElem?_set_ne (Ne.symm aQ),Ne.symm aQ])
     have HF:ms[j]? =some e:=by simpa using g0
     exact⟨_,aE,by simp[Instr.mapUpdate,run_underlying t1,getObj,setObj,Sem.run,aJ,ux t2,Instr.findKey,run_underlying t2,g1,HF,ge,Instr.keyThatStays,Instr.sameBits,(xv ⟨⟨k⟩⟩ ⟨⟨k⟩⟩).2 rfl],bg⟩
   ·cases he
  ·cases he
 ·cases he
theorem HG (h:a1 w0 F0 X F S s an w) (t:TypeId):Good C w0 F0 X an w (Instr.makeMap t none) (.b9 (.mp [])) s:=by
 have hold:∀b,b<w.heap.size→(w.alloc (.map #[] 0)).heap[b]? =w.heap[b]? :=by
  intro b J
  show(w.heap.push _)[b]? =_
  rw[Array.getElem?_push,if_neg (by omega)]
 refine⟨.map (some w.heap.size),w.alloc (.map #[] 0),F,S,?_,h.grow hold (by simp) rfl rfl ⟨rfl,fun _=>Nat.le_refl _⟩,.inr ⟨rfl,rfl,fun b=>b=w.heap.size,?_,?_,?_,?_,?_⟩⟩
 ·simp[Instr.makeMap,newObj,Sem.run]
 ·rw[ak]
  refine⟨w.heap.size,#[],0,rfl,rfl,?_,rfl⟩
  show(w.heap.push _)[_]? =_
  simp
 ·rintro b rfl;simp
 ·rintro b rfl mU;exact Nat.lt_irrefl _ (h.de _ mU)
 ·rintro u b rfl hu;exact Nat.lt_irrefl _ (h.cV _ _ hu)
 ·rintro b rfl;exact .inr h.size
end
end Go.bZ
