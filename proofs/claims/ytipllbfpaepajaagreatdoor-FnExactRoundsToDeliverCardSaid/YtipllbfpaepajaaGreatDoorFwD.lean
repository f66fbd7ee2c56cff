/- Part of a proof that a law returns true for every input. No condition. -/
import Derived.Test.YtipllbfpaepajaaGreatDoorFwC
import Derived.Test.YtipllbfpaepajaaGreatDoorFwA
import Derived.Laws.IdiomStrings
import Derived.Laws.Strings
import Derived.LaidEql
import Derived.WideLaws
import Derived.Laws.StructEq
namespace Go.b9
section
variable {C:bq} {w0 w:World} {F0 X F:Nat→Prop} {S:Nat→Nat→Prop} {s s1:aj} {an:Nat→Value} {av:I}
theorem jV {k:IntKind} {n:Int} {v:Value} {aD:Nat→Prop} (h:ax w F s an (.int k n) v aD):v= .int k n:=by
 have aQ:=(ax.bJ rfl).1 h
 rw[al,eO aQ.1]at aQ
 simpa using aQ.2
theorem nY {b:Bool} {v:Value} {aD:Nat→Prop} (h:ax w F s an (.bool b) v aD):v= .bool b:=by
 have aQ:=(ax.bJ rfl).1 h
 rw[al,eO aQ.1]at aQ
 simpa using aQ.2
theorem jo {b:List UInt8} {v:Value} {aD:Nat→Prop} (h:ax w F s an (.str b) v aD):v= .string ⟨⟨b⟩⟩:=by
 have aQ:=(ax.bJ rfl).1 h
 rw[al,eO aQ.1]at aQ
 simpa using aQ.2
theorem AU {v:Value} {aD:Nat→Prop} (h:ax w F s an .cn v aD):v= .pointer none:=by
 have aQ:=(ax.bJ rfl).1 h
 rw[al,eO aQ.1]at aQ
 simpa using aQ.2
theorem nh {v:Value} {aD:Nat→Prop} (h:ax w F s an .bH v aD):v= .slice none 0 0:=by
 have aQ:=(ax.bJ rfl).1 h
 rw[al,eO aQ.1]at aQ
 simpa using aQ.2
theorem AV {v:Value} {aD:Nat→Prop} (h:ax w F s an .dd v aD):∃b,v= .bool b:=by
 have aQ:=(ax.bJ rfl).1 h
 rw[al,eO aQ.1]at aQ
 simpa using aQ.2
theorem of_int (k:IntKind) (n:Int):ax w F s an (.int k n) (.int k n) (fun _=>False):=(ax.bJ rfl).2 ⟨rfl,by rw[al];rfl⟩
theorem of_bool (b:Bool):ax w F s an (.bool b) (.bool b) (fun _=>False):=(ax.bJ rfl).2 ⟨rfl,by rw[al];rfl⟩
theorem lz (b:List UInt8):ax w F s an (.str b) (.string ⟨⟨b⟩⟩) (fun _=>False):=(ax.bJ rfl).2 ⟨rfl,by rw[al];rfl⟩
theorem xn (b:Bool):ax w F s an .dd (.bool b) (fun _=>False):=(ax.bJ rfl).2 ⟨rfl,by rw[al];exact⟨b,rfl⟩⟩
def hJ (op:BinOp) (k:IntKind) (a:Int) (cy:IntKind) (b:Int):Option I:=
 match op with
 | .shl=>if b<0 then none else some (.int k (k.wrap (a*2^(min b.toNat k.bits))))
 | .shr=>if b<0 then none else some (.int k (a.fdiv (2^(min b.toNat k.bits))))
 | .add=>if k=cy then some (.int k (k.wrap (a+b)))else none
 | .sub=>if k=cy then some (.int k (k.wrap (a-b)))else none
 | .mul=>if k=cy then some (.int k (k.wrap (a*b)))else none
 | .quo=>if k=cy∧b≠0 then some (.int k (k.wrap (a.tdiv b)))else none
 | .rem=>if k=cy∧b≠0 then some (.int k (a.tmod b))else none
 | .eql=>if k=cy then some (.bool (a==b))else none
 | .neq=>if k=cy then some (.bool (a !=b))else none
 | .lss=>if k=cy then some (.bool (decide (a<b)))else none
 | .leq=>if k=cy then some (.bool (decide (a≤b)))else none
 | .gtr=>if k=cy then some (.bool (decide (b<a)))else none
 | .geq=>if k=cy then some (.bool (decide (b≤a)))else none
 | .and=>if k=cy then some (.int k (bitsOf .and k a b))else none
 | .or=>if k=cy then some (.int k (bitsOf .or k a b))else none
 | .xor=>if k=cy then some (.int k (bitsOf .xor k a b))else none
 | .andNot=>if k=cy then some (.int k (bitsOf .andNot k a b))else none
def km (op:BinOp) (a b:List UInt8):Option I:=
 match op with
 | .add=>if a.length+b.length≤9223372036854775807 then some (.str (a++b))else none
 | .eql=>some (.bool (a==b))
 | .neq=>some (.bool !(a==b))
 | .lss=>some (.bool (Op.bytesLess a b))
 | .leq=>some (.bool (Op.bytesLess a b||a==b))
 | .gtr=>some (.bool !(Op.bytesLess a b||a==b))
 | .geq=>some (.bool !(Op.bytesLess a b))
 |_=>none
def iB (s:aj):I→Option (Option Bool)
 | .bH=>some (some true)
 | .slice xs=>some (if xs=[]then none else some false)
 | .h x q=>match I.sub q (s x)with
   |some (.aK _ xs)=>some (if xs=[]then none else some false)
   |_=>none
 |_=>none
def iC (s:aj):I→Option Bool
 | .cn=>some true
 | .ref _=>some false
 | .h x q=>match I.sub q (s x)with
   |some (.a1 _)=>some false
   |_=>none
 |_=>none
def sn (neg:Bool):Option Bool→I
 |some b=>.bool (b !=neg)
 |none=>.dd
def structEq (P:Program) (T:TypeId):Bool:= !P.stoodInHeld T&& !P.eqGuardType P.depth T&&(P.fieldsOf T).toList.all fun f=>decide (f.name≠ "_")
def kN (C:bq):List (TypeId×Nat)→Nat→List I→List I→Option Bool
 |[],_,[],[]=>some true
 |(gS,off)::af,n,d::ds,e::es=>if off=n then(match(C.T gS).k,d,e with
  | .int k,.int bx a,.int bF b=>if bx=k∧bF=k then(kN C af (n+1) ds es).map fun r=>a==b&&r else none
  | .bool,.bool a,.bool b=>(kN C af (n+1) ds es).map fun r=>a==b&&r
  | .str,.str a,.str b=>(kN C af (n+1) ds es).map fun r=>a==b&&r
  |_,_,_=>none)else none
 |_,_,_,_=>none
def bG (C:bq) (s:aj) (op:BinOp) (T:TypeId) (x y:I):Option I:=
 match x,y with
 | .int k a,.int cy b=>hJ op k a cy b
 | .str a,.str b=>km op a b
 | .bool a,.bool b=>match op,(C.T T).k with
   | .eql,.bool=>some (.bool (a==b))
   | .neq,.bool=>some (.bool !(a==b))
   |_,_=>none
 | .agg ds,.agg es=>match op,(C.T T).k with
   | .eql,.struct af=>if structEq C.P T=true then(kN C af 0 ds es).map fun b=>.bool b else none
   | .neq,.struct af=>if structEq C.P T=true then(kN C af 0 ds es).map fun b=>.bool !b else none
   |_,_=>none
 |x,.bH=>match op,(C.T T).k with
  | .eql,.slice _=>(iB s x).map (sn false)
  | .neq,.slice _=>(iB s x).map (sn true)
  |_,_=>none
 |x,.cn=>match op,(C.T T).k with
  | .eql,.ptr _=>(iC s x).map fun b=>.bool b
  | .neq,.ptr _=>(iC s x).map fun b=>.bool !b
  |_,_=>none
 |_,_=>none
theorem G3 {P:Program} {op:BinOp} {T:TypeId} {k cy:IntKind} {a b:Int} (he:hJ op k a cy b=some av) (w:World):
  ∃v,(binOp op T (.int k a) (.int cy b)).run P w= .ok v w∧ax w F s an av v (fun _=>False):=by
 unfold hJ at he
 cases op<;>simp only at he<;>split at he<;>first|(cases he;done)|skip
 all_goals
  rename_i ai
  simp only[Option.some.injEq]at he
  subst he
 all_goals first
  |(subst ai;simp only[binOp_add,binOp_sub,binOp_mul,binOp_eql,binOp_neq,binOp_lss,binOp_leq,binOp_gtr,binOp_geq,binOp_and,binOp_or,binOp_xor,binOp_andNot,Op.intArith,Op.intBits,Sem.run_pure,Result.ok.injEq,and_true,exists_eq_left']
    first|exact of_int _ _|exact of_bool _)
  |(obtain⟨rfl,bz⟩:=ai
    simp only[binOp_quo,binOp_rem,Op.intDiv,bz,if_false,Sem.run_pure,Result.ok.injEq,and_true,exists_eq_left']
    exact of_int _ _)
  |(simp only[binOp_shl,binOp_shr,Op.shift,ai,if_false,Sem.run_pure,Result.ok.injEq,and_true,exists_eq_left']
    exact of_int _ _)
theorem so (a:List UInt8):(⟨⟨a⟩⟩:ByteArray).toList=a:=ByteArray.toList_eq _
theorem G4 (a b:List UInt8):(⟨⟨a⟩⟩:ByteArray)++(⟨⟨b⟩⟩:ByteArray)=⟨⟨a++b⟩⟩:=by
 apply ByteArray.ext
 simp[ByteArray.data_append]
theorem G5 {P:Program} {op:BinOp} {T:TypeId} {a b:List UInt8} (he:km op a b=some av) (w:World):
  ∃v,(binOp op T (.string ⟨⟨a⟩⟩) (.string ⟨⟨b⟩⟩)).run P w= .ok v w∧ax w F s an av v (fun _=>False):=by
 have R:∀op,binOp op T (.string ⟨⟨a⟩⟩) (.string ⟨⟨b⟩⟩)=Op.stringOp op ⟨⟨a⟩⟩ ⟨⟨b⟩⟩:=by intro op;cases op<;>rfl
 rw[R]
 unfold km at he
 cases op<;>simp only[Option.some.injEq]at he<;>first|(cases he;done)|skip
 case add=>
  split at he
  ·rename_i aJ
   simp only[Option.some.injEq]at he;subst he
   have U:((ByteArray.size ⟨⟨a⟩⟩+ByteArray.size ⟨⟨b⟩⟩:Nat):Int)≤9223372036854775807:=by
    show((a.length+b.length:Nat):Int)≤_
    omega
   refine⟨.string ⟨⟨a++b⟩⟩,?_,lz _⟩
   simp only[Op.stringOp,IntKind.max_i64]
   rw[if_neg (by omega),G4]
   rfl
  ·cases he
 all_goals
  subst he
  simp only[Op.stringOp,so,Sem.run_pure,Result.ok.injEq,and_true,exists_eq_left']
  exact of_bool _
theorem xo (h:a7 w0 F0 X F S s an w) {v:Value} {y:Nat} {q:List Nat} (aE:ax w F s an (.h y q) v (fun _=>False)) {sz:Nat} {xs:List I} (ae:I.sub q (s y)=some (.aK sz xs)):
  (xs=[]∧∃a,v= .slice a 0 0)∨∃b cap cur e fr,v= .slice (some ⟨b,0,none⟩) xs.length cap∧w.heap[b]? =some (.cells cur e fr)∧nT fr cur.size∧xs.length≤cap∧cap≤maxLen∧cur.size=cap*sz∧(∀d∈xs,d.wd=sz)∧
   ∃aD,aM w F xs (cur.toList.take (xs.length*sz)) aD∧(∀c,aD c→S y c)∧S y b:=by
 rw[ax]at aE
 obtain⟨bP,a,g1,g2,g3⟩:=aE _ ae rfl
 have U:Value.eF v=true:=g3
 rw[eO U]at g2;subst g2
 have ao:=h.cd y
 rw[ax.bJ (fm ae (.inl rfl))]at ao
 obtain⟨dU,b2,cL,dp,k0,bx,bF,c7,ct,dr⟩:=ctx q (s y) (bw (an y)) (S y) none _ ao.2 ae
 rw[k0]at g1
 simp only[Option.some.injEq,Prod.mk.injEq,true_and]at g1
 obtain⟨rfl,rfl⟩:=g1
 rw[al]at ct
 rcases ct with⟨rfl,a2,ad⟩|⟨b,cap,cur,aI,fr,cp,aL,bX,b7,bs,bj,gX,h2,jW,qm,nZ,fK⟩
 ·simp at ad;exact .inl ⟨rfl,_,ad⟩
 ·simp at aL
  exact .inr ⟨b,cap,cur,aI,fr,aL,b7,bs,bj,gX,h2,jW,cp,qm,fun c ai=>bF _ (nZ c ai),bF _ bX⟩
theorem AW (h:a7 w0 F0 X F S s an w) {v:Value} {y:Nat} {q:List Nat} (aE:ax w F s an (.h y q) v (fun _=>False)) {d:I} (ae:I.sub q (s y)=some (.a1 d)):
  ∃b cur e fr,v= .pointer (some ⟨b,0,none⟩)∧w.heap[b]? =some (.cells cur e fr):=by
 rw[ax]at aE
 obtain⟨bP,a,g1,g2,g3⟩:=aE _ ae rfl
 have U:Value.eF v=true:=g3
 rw[eO U]at g2;subst g2
 have ao:=h.cd y
 rw[ax.bJ (fm ae (.inl rfl))]at ao
 obtain⟨dU,b2,cL,dp,k0,bx,bF,c7,ct,dr⟩:=ctx q (s y) (bw (an y)) (S y) none _ ao.2 ae
 rw[k0]at g1
 simp only[Option.some.injEq,Prod.mk.injEq,true_and]at g1
 obtain⟨rfl,rfl⟩:=g1
 rw[al]at ct
 obtain⟨b,cur,aI,fr,cp,aL,bX,b7,_⟩:=ct
 simp at aL
 exact⟨b,cur,aI,fr,aL,b7⟩
theorem AX {P:Program} {T e:TypeId} (aN:P.underlying T=some (.slice e)) (w:World):∀d,(Op.equalIn (d+1) T (.slice none 0 0) (.slice none 0 0)).run P w= .ok true w∧
  ∀a n c,(Op.equalIn (d+1) T (.slice (some a) n c) (.slice none 0 0)).run P w= .ok false w:=by
 intro d
 refine⟨by simp[Op.equalIn,run_underlying aN],fun a n c=>by simp[Op.equalIn,run_underlying aN]⟩
theorem AY {P:Program} {T e:TypeId} (aN:P.underlying T=some (.pointer e)) (w:World):∀d,(Op.equalIn (d+1) T (.pointer none) (.pointer none)).run P w= .ok true w∧
  ∀a,(Op.equalIn (d+1) T (.pointer (some a)) (.pointer none)).run P w= .ok false w:=by
 intro d
 refine⟨by simp[Op.equalIn,run_underlying aN],fun a=>by simp[Op.equalIn,run_underlying aN]⟩
theorem AZ {P:Program} {T:TypeId} (aN:P.underlying T=some .bool) (w:World):∀d a b,(Op.equalIn (d+1) T (.bool a) (.bool b)).run P w= .ok (a==b) w:=by
 intro d a b
 simp[Op.equalIn,run_underlying aN]
theorem A0 (h:a7 w0 F0 X F S s an w) {x:I} {v:Value} (aE:ax w F s an x v (fun _=>False)) {T e:TypeId} {r:Option Bool} (aC:iB s x=some r) (aN:C.P.underlying T=some (.slice e)):
  ∃b,(Op.equal T v (.slice none 0 0)).run C.P w= .ok b w∧(∀dG,r=some dG→dG=b)∧Value.eF v=true∧∃a n c,v= .slice a n c:=by
 have aF:=fun a n c=>(AX aN w 9999).2 a n c
 have eS:=(AX aN w 9999).1
 cases x with
 |bH=>
  have:=nh aE;subst this
  simp[iB]at aC;subst aC
  exact⟨true,eS,by simp,rfl,_,_,_,rfl⟩
 |slice xs=>
  have aQ:=(ax.bJ rfl).1 aE
  rw[al,eO aQ.1]at aQ
  simp only[iB,Option.some.injEq]at aC
  obtain⟨_,⟨rfl,a,c,ad,_,pc⟩|⟨b,o,cap,cO,sz,ad,aB⟩⟩:=aQ
  ·simp at ad aC;subst ad;subst aC
   cases a with
   |none=>
    have:=pc rfl;subst this
    exact⟨true,eS,by simp,rfl,_,_,_,rfl⟩
   |some a=>exact⟨false,aF _ _ _,by simp,rfl,_,_,_,rfl⟩
  ·simp at ad;subst ad
   refine⟨false,aF _ _ _,?_,rfl,_,_,_,rfl⟩
   subst aC
   split<;>simp
 |h y q=>
  simp only[iB]at aC
  split at aC
  ·rename_i sz xs ae
   simp only[Option.some.injEq]at aC
   rcases xo h aE ae with⟨rfl,a,rfl⟩|⟨b,cap,cur,aI,fr,rfl,_⟩
   ·simp at aC;subst aC
    cases a with
    |none=>exact⟨true,eS,by simp,rfl,_,_,_,rfl⟩
    |some a=>exact⟨false,aF _ _ _,by simp,rfl,_,_,_,rfl⟩
   ·refine⟨false,aF _ _ _,?_,rfl,_,_,_,rfl⟩
    subst aC
    split<;>simp
  ·cases aC
 |_=>simp[iB]at aC
theorem A1 (h:a7 w0 F0 X F S s an w) {x:I} {v:Value} (aE:ax w F s an x v (fun _=>False)) {T e:TypeId} {r:Bool} (aC:iC s x=some r) (aN:C.P.underlying T=some (.pointer e)):
  (Op.equal T v (.pointer none)).run C.P w= .ok r w∧∃a,v= .pointer a:=by
 have aF:=fun a=>(AY aN w 9999).2 a
 have eS:=(AY aN w 9999).1
 cases x with
 |cn=>
  have:=AU aE;subst this
  simp[iC]at aC;subst aC
  exact⟨eS,_,rfl⟩
 |ref d=>
  have aQ:=(ax.bJ rfl).1 aE
  rw[al,eO aQ.1]at aQ
  simp[iC]at aC;subst aC
  obtain⟨_,b,o,cO,ad,_⟩:=aQ
  simp at ad;subst ad
  exact⟨aF _,_,rfl⟩
 |h y q=>
  simp only[iC]at aC
  split at aC
  ·rename_i d ae
   simp only[Option.some.injEq]at aC;subst aC
   obtain⟨b,cur,e,fr,rfl,_⟩:=AW h aE ae
   exact⟨aF _,_,rfl⟩
  ·cases aC
 |_=>simp[iC]at aC
theorem G6 (aT:C.db):∀(af:List (TypeId×Nat)) (gs:List Field) (n:Nat) (ds es:List I) (r:Bool) (eV l2 bN c2:List Value) (xs bD:Array Value) (bk cp:Nat→Prop),
  gs.map (fun g=>(g.type,g.offset))=af→(gs.all fun f=>decide (f.name≠ "_"))=true→kN C af n ds es=some r→aM w F ds bN bk→aM w F es c2 cp→xs.toList=eV++bN→eV.length=n→bD.toList=l2++c2→l2.length=n→
  ∀m,(Op.eqFields (m+1) xs bD gs).run C.P w= .ok r w:=by
 intro af
 induction af with
 |nil=>
  intro gs n ds es r eV l2 bN c2 xs bD bk cp hg aW he aa ad ao aJ hy xp m
  have:gs=[]:=by simpa using hg
  subst this
  cases ds<;>cases es<;>simp[kN]at he
  subst he
  simp[Op.eqFields]
 |cons p af ih=>
  obtain⟨gS,off⟩:=p
  intro gs n ds es r eV l2 bN c2 xs bD bk cp hg aW he aa ad ao aJ hy xp m
  cases gs with
  |nil=>simp at hg
  |cons g gs=>
   simp only[List.map_cons,List.cons.injEq,Prod.mk.injEq]at hg
   obtain⟨⟨rfl,rfl⟩,hg⟩:=hg
   simp only[List.all_cons,Bool.and_eq_true,decide_eq_true_eq]at aW
   cases ds with
   |nil=>simp[kN]at he
   |cons d ds=>
   cases es with
   |nil=>simp[kN]at he
   |cons e es=>
   simp only[kN]at he
   split at he
   ·rename_i l9
    rw[aM]at aa ad
    obtain⟨ah,a2,uA,xq,rfl,dV,eY,fH,A2,ee⟩:=aa
    obtain⟨jq,gu,YH,G7,rfl,e0,ep,gv,gw,n0⟩:=ad
    have step:∀(x y:Value) (z:Bool),(C.T g.type).flat=true→ah=[x]→jq=[y]→(∀m,(Op.equalIn (m+1) g.type x y).run C.P w= .ok z w)→∀gZ,kN C af (n+1) ds es=some gZ→
      (Op.eqFields (m+1) xs bD (g::gs)).run C.P w= .ok (z&&gZ) w:=by
     intro x y z gr G8 G9 heq gZ cU
     subst G8;subst G9
     have G_:xs[g.offset]? =some x:=by
      rw[←Array.getElem?_toList,ao,l9,←aJ,List.getElem?_append_right (Nat.le_refl _)];simp
     have Ha:bD[g.offset]? =some y:=by
      rw[←Array.getElem?_toList,hy,l9,←xp,List.getElem?_append_right (Nat.le_refl _)];simp
     have aA:=ih gs (n+1) ds es gZ (eV++[x]) (l2++[y]) a2 gu xs bD xq G7 hg aW.2 cU eY ep (by rw[ao];simp) (by simp[aJ]) (by rw[hy];simp) (by simp[xp]) m
     unfold Op.eqFields
     rw[if_pos aW.1]
     simp only[part,Sem.run_bind,xk aT gr,Result.andThen_ok,Bool.false_eq_true,if_false,G_,Ha,Sem.run_pure,heq]
     cases z
     ·simp
     ·simpa using aA
    split at he
    ·rename_i k bx a bF b ar
     split at he
     ·rename_i Hb
      obtain⟨rfl,rfl⟩:=Hb
      rw[al]at dV e0
      simp only[Option.map_eq_some_iff]at he
      obtain⟨gZ,cU,rfl⟩:=he
      obtain⟨i,sq,A3,aF,aI,aL,bX,b7,bs,bj⟩:=aT.info (dX ar (by simp))
      rw[ar]at bj
      have pd:=si bj
      subst pd
      exact step _ _ _ (by simp[ez.flat,ar]) dV e0 (fun m=>run_equalIn_int w m g.type _ _ a b bs) gZ cU
     ·cases he
    ·rename_i a b ar
     rw[al]at dV e0
     simp only[Option.map_eq_some_iff]at he
     obtain⟨gZ,cU,rfl⟩:=he
     obtain⟨i,sq,A3,aF,aI,aL,bX,b7,bs,bj⟩:=aT.info (dX ar (by simp))
     rw[ar]at bj
     have pd:=xf bj
     subst pd
     exact step _ _ _ (by simp[ez.flat,ar]) dV e0 (fun m=>run_equalIn_bool' w m g.type a b bs) gZ cU
    ·rename_i a b ar
     rw[al]at dV e0
     simp only[Option.map_eq_some_iff]at he
     obtain⟨gZ,cU,rfl⟩:=he
     obtain⟨i,sq,A3,aF,aI,aL,bX,b7,bs,bj⟩:=aT.info (dX ar (by simp))
     rw[ar]at bj
     have pd:=l8 bj
     subst pd
     refine step _ _ (a==b) (by simp[ez.flat,ar]) dV e0 (fun m=> ?_) gZ cU
     rw[run_equalIn_string w m g.type _ _ bs,so,so]
    ·cases he
   ·cases he
theorem A4 (aT:C.db) {T:TypeId} {af:List (TypeId×Nat)} (ar:(C.T T).k= .struct af) {ds es:List I} {fq fU:Value} {bk cp:Nat→Prop} {r:Bool} (ao:ax w F s an (.agg ds) fq bk) (hy:ax w F s an (.agg es) fU cp)
  (ca:structEq C.P T=true) (he:kN C af 0 ds es=some r) (op:BinOp) (sr ss:Operand):
  (eqGuard op T sr ss fq fU).run C.P w= .ok () w∧(Op.equal T fq fU).run C.P w= .ok r w:=by
 obtain⟨i,d,z,aF,aI,aL,bX,b7,bs,bj⟩:=aT.info (dX ar (by simp))
 rw[ar]at bj
 obtain⟨gs,rfl,gX⟩:=sg bj
 have su:C.P.fieldsOf T=gs:=by simp[Program.fieldsOf,bs]
 simp only[structEq,Bool.and_eq_true,Bool.not_eq_true',su]at ca
 obtain⟨⟨e0,ep⟩,gv⟩:=ca
 obtain⟨⟨xs,rfl⟩,qn⟩:=(ax.bJ rfl).1 ao
 obtain⟨⟨bD,rfl⟩,o6⟩:=(ax.bJ rfl).1 hy
 rw[al]at qn o6
 constructor
 ·cases op<;>simp[eqGuard,ep]
 ·show(Op.equalIn (9999+1) T _ _).run C.P w=_
  rw[run_equalIn_struct w 9999 T xs bD (by rw[su];exact bs) e0,su]
  exact G6 aT af gs.toList 0 ds es r [] [] _ _ xs bD bk cp gX gv he qn o6 rfl rfl rfl rfl 9998
theorem Hc (aT:C.db) (h:a7 w0 F0 X F S s an w) {op:BinOp} {T:TypeId} {x y:I} {fq fU:Value} (sr ss:Operand) (ao:ax w F s an x fq (fun _=>False)) (hy:ax w F s an y fU (fun _=>False))
  (he:bG C s op T x y=some av):Good C w0 F0 X an w (do eqGuard op T sr ss fq fU;binOp op T fq fU) av s:=by
 unfold bG at he
 split at he
 ·have:=jV ao;subst this
  have:=jV hy;subst this
  obtain⟨v,aa,ad⟩:=G3 (P:=C.P) (T:=T) he w
  refine Good.same h (v:=v) ?_ ?_ ad
  ·rw[eqGuard_at_int];exact aa
  ·revert he;unfold hJ;cases op<;>simp only<;>split<;>simp<;>(rintro rfl;rfl)
 ·have:=jo ao;subst this
  have:=jo hy;subst this
  obtain⟨v,aa,ad⟩:=G5 (P:=C.P) (T:=T) he w
  refine Good.same h (v:=v) ?_ ?_ ad
  ·rw[eqGuard_at_string];exact aa
  ·revert he;unfold km;cases op<;>simp only<;>(try split)<;>simp<;>(try (rintro rfl;rfl))
 ·have:=nY ao;subst this
  have:=nY hy;subst this
  split at he
  ·rename_i ar
   simp only[Option.some.injEq]at he;subst he
   obtain⟨i,d,z,aF,aI,aL,bX,b7,bs,bj⟩:=aT.info (dX ar (by simp))
   rw[ar]at bj
   have:=xf bj;subst this
   refine Good.same h ?_ rfl (of_bool _)
   rw[eqGuard_at_bool]
   simp[binOp,Op.equal,Op.maxDepth,AZ bs w 9999]
  ·rename_i ar
   simp only[Option.some.injEq]at he;subst he
   obtain⟨i,d,z,aF,aI,aL,bX,b7,bs,bj⟩:=aT.info (dX ar (by simp))
   rw[ar]at bj
   have:=xf bj;subst this
   refine Good.same h ?_ rfl (of_bool _)
   rw[eqGuard_at_bool]
   simp[binOp,Op.equal,Op.maxDepth,AZ bs w 9999]
  ·cases he
 ·split at he
  ·rename_i af ar
   split at he
   ·rename_i ca
    simp only[Option.map_eq_some_iff]at he
    obtain⟨r,aC,rfl⟩:=he
    obtain⟨g1,g2⟩:=A4 aT ar ao hy ca aC .eql sr ss
    obtain⟨⟨xs,rfl⟩,_⟩:=(ax.bJ rfl).1 ao
    obtain⟨⟨bD,rfl⟩,_⟩:=(ax.bJ rfl).1 hy
    exact Good.same h (by simp[g1,binOp,g2]) rfl (of_bool _)
   ·cases he
  ·rename_i af ar
   split at he
   ·rename_i ca
    simp only[Option.map_eq_some_iff]at he
    obtain⟨r,aC,rfl⟩:=he
    obtain⟨g1,g2⟩:=A4 aT ar ao hy ca aC .neq sr ss
    obtain⟨⟨xs,rfl⟩,_⟩:=(ax.bJ rfl).1 ao
    obtain⟨⟨bD,rfl⟩,_⟩:=(ax.bJ rfl).1 hy
    exact Good.same h (by simp[g1,binOp,g2]) rfl (of_bool _)
   ·cases he
  ·cases he
 ·have:=nh hy;subst this
  split at he
  ·rename_i e ar
   simp only[Option.map_eq_some_iff]at he
   obtain⟨r,aC,rfl⟩:=he
   obtain⟨i,d,z,aF,aI,aL,bX,b7,bs,bj⟩:=aT.info (dX ar (by simp))
   rw[ar]at bj
   have:=ix bj;subst this
   obtain⟨b,aa,ad,aB,a0,cu,c0,rfl⟩:=A0 h ao aC bs
   refine Good.same h (v:=.bool b) ?_ ?_ ?_
   ·rw[eqGuard_at_slice]
    simp[binOp,aa]
   ·cases r<;>rfl
   ·cases r with
    |none=>exact xn b
    |some dG=>have:=ad dG rfl;subst this;simp only[sn,Bool.bne_false];exact of_bool _
  ·rename_i e ar
   simp only[Option.map_eq_some_iff]at he
   obtain⟨r,aC,rfl⟩:=he
   obtain⟨i,d,z,aF,aI,aL,bX,b7,bs,bj⟩:=aT.info (dX ar (by simp))
   rw[ar]at bj
   have:=ix bj;subst this
   obtain⟨b,aa,ad,aB,a0,cu,c0,rfl⟩:=A0 h ao aC bs
   refine Good.same h (v:=.bool !b) ?_ ?_ ?_
   ·rw[eqGuard_at_slice]
    simp[binOp,aa]
   ·cases r<;>rfl
   ·cases r with
    |none=>exact xn _
    |some dG=>have:=ad dG rfl;subst this;simp only[sn,Bool.bne_true];exact of_bool _
  ·cases he
 ·have:=AU hy;subst this
  split at he
  ·rename_i e ar
   simp only[Option.map_eq_some_iff]at he
   obtain⟨r,aC,rfl⟩:=he
   obtain⟨i,d,z,aF,aI,aL,bX,b7,bs,bj⟩:=aT.info (dX ar (by simp))
   rw[ar]at bj
   have:=AG bj;subst this
   obtain⟨aa,a0,rfl⟩:=A1 h ao aC bs
   refine Good.same h (v:=.bool r) ?_ rfl (of_bool _)
   rw[eqGuard_at_pointer]
   simp[binOp,aa]
  ·rename_i e ar
   simp only[Option.map_eq_some_iff]at he
   obtain⟨r,aC,rfl⟩:=he
   obtain⟨i,d,z,aF,aI,aL,bX,b7,bs,bj⟩:=aT.info (dX ar (by simp))
   rw[ar]at bj
   have:=AG bj;subst this
   obtain⟨aa,a0,rfl⟩:=A1 h ao aC bs
   refine Good.same h (v:=.bool !r) ?_ rfl (of_bool _)
   rw[eqGuard_at_pointer]
   simp[binOp,aa]
  ·cases he
 ·cases he
end
section
variable {C:bq} {w0 w:World} {F0 X F:Nat→Prop} {S:Nat→Nat→Prop} {s s1:aj} {an:Nat→Value} {av:I}
def un (op:UnOp) (x:I):Option I:=
 match op,x with
 | .not,.bool b=>some (.bool !b)
 | .not,.dd=>some .dd
 | .neg,.int k n=>some (.int k (k.wrap (0-n)))
 |_,_=>none
theorem Hd (h:a7 w0 F0 X F S s an w) {op:UnOp} {x:I} {v:Value} (aE:ax w F s an x v (fun _=>False)) (he:un op x=some av):Good C w0 F0 X an w (Op.unary op v) av s:=by
 unfold un at he
 split at he<;>first|(cases he;done)|(simp only[Option.some.injEq]at he;subst he)
 ·have:=nY aE;subst this
  exact Good.same h rfl rfl (of_bool _)
 ·obtain⟨b,rfl⟩:=AV aE
  exact Good.same h rfl rfl (xn _)
 ·have:=jV aE;subst this
  exact Good.same h rfl rfl (of_int _ _)
def el (s:aj) (x:I):Option I:=
 match x with
 | .ref d=>some (.ref d)
 | .fn f c=>some (.fn f c)
 | .h y q=>match I.sub q (s y)with
   |some (.a1 _)=>some (.h y q)
   |_=>none
 |_=>none
theorem He {d:I} {v:Value} {aD:Nat→Prop} (h:ax w F s an (.ref d) v aD):∃b o cO,v= .pointer (some ⟨b,o,none⟩)∧F b∧fi w b o cO∧al w F d cO (fun _=>False):=by
 have aQ:=(ax.bJ rfl).1 h
 rw[al,eO aQ.1]at aQ
 obtain⟨_,b,o,cO,aa,ad,aB,aO⟩:=aQ
 simp at aa;subst aa
 exact⟨b,o,cO,rfl,ad,aB,aO⟩
theorem Hf (h:a7 w0 F0 X F S s an w) {x:I} {v:Value} (aE:ax w F s an x v (fun _=>False)) (he:el s x=some av):
  av=x∧x.plain=true∧((∃a,v= .pointer (some a))∨∃f c,v= .func (.func f) #[] c):=by
 unfold el at he
 split at he
 ·simp only[Option.some.injEq]at he;subst he
  obtain⟨b,o,cO,rfl,_⟩:=He aE
  exact⟨rfl,rfl,.inl ⟨_,rfl⟩⟩
 ·simp only[Option.some.injEq]at he;subst he
  rw[ax]at aE
  obtain⟨arr,rfl,_⟩:=aE
  exact⟨rfl,rfl,.inr ⟨_,_,rfl⟩⟩
 ·split at he
  ·rename_i d ae
   simp only[Option.some.injEq]at he;subst he
   obtain⟨b,cur,e,fr,rfl,_⟩:=AW h aE ae
   exact⟨rfl,rfl,.inl ⟨_,rfl⟩⟩
  ·cases he
 ·cases he
def ex (s:aj) (x:I) (k:Nat):Option I:=
 match x with
 | .tuple ds=>match ds[k]? with
   |some d=>if d.plain=true then some d else none
   |none=>none
 | .h y q=>match I.sub q (s y)with
   |some (.tuple ds)=>match ds[k]? with
    |some d=>if I.dW ds=true then none else some (if d.plain then d else .h y (q++[k]))
    |none=>none
   |_=>none
 |_=>none
theorem A5:∀(vs:List Value) (k:Nat) (x:Value) (ds:List I),vs[k]? =some x→vs.length=ds.length→(∀(j:Nat) (d:I) (y:Value),ds[j]? =some d→vs[j]? =some y→(fl y).length=d.wd)→
  ∃l r,vs.flatMap fl=l++(fl x++r)∧l.length=I.cH (ds.take k)
 |[],k,x,ds,h,_,_=>by simp at h
 |v::vs,0,x,ds,h,aJ,hw=>by
  simp at h;subst h
  exact⟨[],vs.flatMap fl,by simp,by simp[I.cH]⟩
 |v::vs,k+1,x,d::ds,h,aJ,hw=>by
  obtain⟨l,r,aF,aI⟩:=A5 vs k x ds (by simpa using h) (by simpa using aJ) (fun j d y aa ad=>hw (j+1) d y (by simpa using aa) (by simpa using ad))
  refine⟨fl v++l,r,by simp[aF],?_⟩
  have:=hw 0 d v (by simp) (by simp)
  simp[I.cH,aI,this]
 |v::vs,k+1,x,[],h,aJ,hw=>by simp at aJ
theorem Hg {d:I} {v:Value} (h:fI d v) (_hd:∀vs,d≠.tuple vs):bw v=fl v:=by
 cases d with
 |agg af=>obtain⟨arr,rfl⟩:=h;rfl
 |_=>
  have aa:Value.eF v=true:=h
  cases v<;>first|rfl|(simp[Value.eF]at aa)
theorem Hh {d:I} {v:Value} (h:fI d v) (ae:∀vs,d≠.tuple vs):cx d v:=by
 cases d with
 |tuple vs=>exact(ae _ rfl).elim
 |_=>exact h
theorem Hi (h:a7 w0 F0 X F S s an w) {x:I} {v:Value} {k:Nat} (aE:ax w F s an x v (fun _=>False)) (he:ex s x k=some av):Good C w0 F0 X an w (Instr.extract v k) av s:=by
 have pick:∀(ds:List I) (d:I) (arr:Array Value),ds[k]? =some d→(arr.size=ds.length∧∀(k:Nat) (d:I) (x:Value),ds[k]? =some d→arr[k]? =some x→fI d x∧(∀vs,d≠.tuple vs)∧(fl x).length=d.wd)→
   ∃x,arr[k]? =some x∧cx d x∧((bw (.tuple arr)).drop (I.cH (ds.take k))).take d.wd=bw x:=by
  intro ds d arr ae ⟨bl,hH⟩
  have cY:k<arr.size:=by rw[bl];exact(List.getElem?_eq_some_iff.1 ae).1
  have ao:arr[k]? =some arr[k]:=Array.getElem?_eq_getElem cY
  obtain⟨g1,g2,g3⟩:=hH k d _ ae ao
  obtain⟨l,r,aF,aI⟩:=A5 arr.toList k arr[k] ds (by simp[cY]) (by simpa using bl) (fun j d y aa ad=>(hH j d y aa (by simpa using ad)).2.2)
  refine⟨_,ao,Hh g1 g2,?_⟩
  rw[Hg g1 g2]
  simp only[bw]
  rw[aF]
  exact o0 l _ r _ _ aI g3
 unfold ex at he
 split at he
 ·rename_i ds
  split at he
  ·rename_i d ae
   split at he
   ·rename_i ak
    simp only[Option.some.injEq]at he;subst he
    have aQ:=(ax.bJ rfl).1 aE
    obtain⟨⟨arr,rfl,bl⟩,eG⟩:=aQ
    obtain⟨x,ao,U,ai⟩:=pick ds d arr ae bl
    have aC:(Instr.extract (.tuple arr) k).run C.P w= .ok x w:=by simp[Instr.extract,ao]
    rw[al]at eG
    obtain⟨bN,dT,c2,bk,fk,e,fa,dV,eY,fH,ee,jl⟩:=aM.pick ds _ _ k d eG ae
    rw[e,o0 bN dT c2 _ _ fa (al.length _ _ _ ee)]at ai
    by_cases aN:d.tree=true
    ·exact Good.same h aC ak ((ax.bJ aN).2 ⟨U,by rw[←ai];exact al.plain _ _ _ _ ak ee⟩)
    ·cases d<;>first|exact(aN rfl).elim|(rw[al]at ee;exact ee.elim)|exact Good.same h aC rfl (by rw[ax];trivial)|(have a6:=al.plain _ _ _ (fun _=>False) ak ee;rw[ai,eO (by exact U)]at a6;exact Good.same h aC rfl (ax.l_ _ _ rfl a6))
   ·cases he
  ·cases he
 ·rename_i y q
  split at he
  ·rename_i ds ae
   split at he
   ·rename_i d ar
    split at he
    ·cases he
    ·rename_i e5
     simp only[Option.some.injEq]at he
     have e5:(I.tuple ds).plain=false:=by simpa [I.plain]using e5
     rw[ax]at aE
     obtain⟨bP,a,g1,g2,g3⟩:=aE _ ae e5
     obtain⟨arr,rfl,bl⟩:=g3
     obtain⟨x,ao,U,ai⟩:=pick ds d arr ar bl
     have aC:(Instr.extract (.tuple arr) k).run C.P w= .ok x w:=by simp[Instr.extract,ao]
     have hy:=h.cd y
     rw[ax.bJ (fm ae (.inl e5))]at hy
     obtain⟨dU,b2,cL,dp,k0,bx,bF,c7,ct,dr⟩:=ctx q (s y) (bw (an y)) (S y) none _ hy.2 ae
     rw[k0]at g1
     simp only[Option.some.injEq,Prod.mk.injEq,true_and]at g1
     obtain⟨rfl,rfl⟩:=g1
     rw[g2]at ai
     split at he
     ·rename_i ak
      subst he
      rw[al]at ct
      obtain⟨bN,dT,c2,bk,fk,e,fa,dV,eY,fH,ee,jl⟩:=aM.pick ds _ _ k d ct ar
      rw[e,o0 bN dT c2 _ _ fa (al.length _ _ _ ee)]at ai
      by_cases aN:d.tree=true
      ·exact Good.same h aC ak ((ax.bJ aN).2 ⟨U,by rw[←ai];exact al.plain _ _ _ _ ak ee⟩)
      ·cases d<;>first|exact(aN rfl).elim|(rw[al]at ee;exact ee.elim)|exact Good.same h aC rfl (by rw[ax];trivial)|(have a6:=al.plain _ _ _ (fun _=>False) ak ee;rw[ai,eO (by exact U)]at a6;exact Good.same h aC rfl (ax.l_ _ _ rfl a6))
     ·subst he
      refine Good.same h aC rfl ?_
      rw[ax]
      intro d2 eZ sc
      rw[sf w q _ _ _ _ _ _ [k] k0]
      rw[se _ _ _ _ ae]at eZ
      simp only[I.sub,ar,Option.some.injEq]at eZ
      subst eZ
      simp only[cb,ar]
      exact⟨_,_,rfl,ai.symm,U⟩
   ·cases he
  ·cases he
 ·cases he
def jr (C:bq) (s:aj) (T:TypeId) (x:I) (k:Nat):Option I:=
 match(C.T T).k with
 | .struct af=>match af[k]? with
   |some (gS,off)=>match x with
    | .agg ds=>match ds[k]? with
      |some d=>if I.cH (ds.take k)=off∧fits C gS d=true∧d.plain=true∧d.tree=true then some d else none
      |none=>none
    | .h y q=>match I.sub q (s y)with
      |some (.agg ds)=>match ds[k]? with
       |some d=>if I.cH (ds.take k)=off∧fits C gS d=true∧I.dW ds=false∧d.tree=true then some (if d.plain then d else .h y (q++[k]))else none
       |none=>none
      |_=>none
    |_=>none
   |none=>none
 |_=>none
theorem Hj (aT:C.db) (h:a7 w0 F0 X F S s an w) {T:TypeId} {x:I} {v:Value} {k:Nat} (aE:ax w F s an x v (fun _=>False)) (he:jr C s T x k=some av):Good C w0 F0 X an w (Instr.field T v k) av s:=by
 have key:∀(af:List (TypeId×Nat)) (gS:TypeId) (off:Nat),(C.T T).k= .struct af→af[k]? =some (gS,off)→∀(ds:List I) (d:I) (arr:Array Value) (aD:Nat→Prop),ds[k]? =some d→I.cH (ds.take k)=off→fits C gS d=true→aM w F ds arr.toList aD→
   ∃x fk,(Instr.field T (.agg arr) k).run C.P w= .ok x w∧cx d x∧al w F d (bw x) fk∧(arr.toList.drop off).take d.wd=bw x:=by
  intro af gS off ar bh ds d arr aD ae l9 fB eG
  obtain⟨i,sq,z,aF,aI,aL,bX,b7,bs,bj⟩:=aT.info (dX ar (by simp))
  rw[ar]at bj
  obtain⟨gs,rfl,gX⟩:=sg bj
  obtain⟨g,g1,rfl,rfl⟩:∃g,gs[k]? =some g∧g.type=gS∧g.offset=off:=by
   rw[←gX,List.getElem?_map]at bh
   simp only[Option.map_eq_some_iff,Prod.mk.injEq]at bh
   obtain⟨g,aa,ad,aB⟩:=bh
   exact⟨g,by simpa using aa,ad,aB⟩
  obtain⟨bN,dT,c2,bk,fk,e,fa,dV,eY,fH,ee,jl⟩:=aM.pick ds _ _ k d eG ae
  obtain⟨x,aC,A6,jT⟩:=GR (w:=w) aT e (fa.trans l9) ee fB
  refine⟨x,fk,?_,jT,by rw[A6];exact ee,?_⟩
  ·simp[Instr.field,run_underlying bs,g1,asAgg,aC]
  ·rw[e,A6,←l9];exact o0 bN dT c2 _ _ fa (al.length _ _ _ ee)
 have A7:∀(d:I) (x:Value) (fk:Nat→Prop),d.plain=true→cx d x→al w F d (bw x) fk→ax w F s an d x (fun _=>False):=by
  intro d x fk ak U eG
  by_cases aN:d.tree=true
  ·exact(ax.bJ aN).2 ⟨U,al.plain _ _ _ _ ak eG⟩
  ·cases d<;>first|exact(aN rfl).elim|(rw[al]at eG;exact eG.elim)|(rw[ax];trivial)|(have a6:=al.plain _ _ _ (fun _=>False) ak eG;rw[eO (by exact U)]at a6;exact ax.l_ _ _ rfl a6)
 unfold jr at he
 split at he
 ·rename_i af ar
  split at he
  ·rename_i gS off bh
   split at he
   ·rename_i ds
    split at he
    ·rename_i d ae
     split at he
     ·rename_i ai
      simp only[Option.some.injEq]at he;subst he
      obtain⟨⟨arr,rfl⟩,eG⟩:=(ax.bJ rfl).1 aE
      rw[al]at eG
      obtain⟨x,fk,aC,U,xr,_⟩:=key af gS off ar bh ds d arr _ ae ai.1 ai.2.1 eG
      exact Good.same h aC ai.2.2.1 (A7 d x fk ai.2.2.1 U xr)
     ·cases he
    ·cases he
   ·rename_i y q
    split at he
    ·rename_i ds ae
     split at he
     ·rename_i d nW
      split at he
      ·rename_i ai
       simp only[Option.some.injEq]at he
       have e5:(I.agg ds).plain=false:=by simpa [I.plain]using ai.2.2.1
       rw[ax]at aE
       obtain⟨bP,a,g1,g2,g3⟩:=aE _ ae e5
       obtain⟨arr,rfl⟩:=g3
       have hy:=h.cd y
       rw[ax.bJ (fm ae (.inl e5))]at hy
       obtain⟨dU,b2,cL,dp,k0,bx,bF,c7,ct,dr⟩:=ctx q (s y) (bw (an y)) (S y) none _ hy.2 ae
       rw[k0]at g1
       simp only[Option.some.injEq,Prod.mk.injEq,true_and]at g1
       obtain⟨rfl,rfl⟩:=g1
       rw[al,←g2]at ct
       obtain⟨x,fk,aC,U,xr,hx⟩:=key af gS off ar bh ds d arr _ nW ai.1 ai.2.1 ct
       by_cases ak:d.plain=true
       ·rw[if_pos ak]at he;subst he
        exact Good.same h aC ak (A7 d x fk ak U xr)
       ·rw[if_neg ak]at he;subst he
        refine Good.same h aC rfl ?_
        rw[ax]
        intro d2 eZ sc
        rw[sf w q _ _ _ _ _ _ [k] k0]
        rw[se _ _ _ _ ae]at eZ
        simp only[I.sub,nW,Option.some.injEq]at eZ
        subst eZ
        simp only[cb,nW]
        refine⟨_,_,rfl,?_,U⟩
        rw[ai.1,←g2];exact hx.symm
      ·cases he
     ·cases he
    ·cases he
   ·cases he
  ·cases he
 ·cases he
end
section
variable {C:bq} {w0 w:World} {F0 X F:Nat→Prop} {S:Nat→Nat→Prop} {s s1:aj} {an:Nat→Value} {av:I}
def idx (C:bq) (T:TypeId) (x i:I):Option I:=
 match(C.T T).k,x,i with
 | .str,.str l,.int _ n=>if 0≤n then(match l[n.toNat]? with|some b=>some (.int .u8 b.toNat)|none=>none)else none
 |_,_,_=>none
theorem Hk (l:List UInt8) (n:Nat):(⟨⟨l⟩⟩:ByteArray)[n]? =l[n]? :=by
 by_cases h:n<l.length
 ·have aQ:n<(⟨⟨l⟩⟩:ByteArray).size:=h
  rw[List.getElem?_eq_getElem h,getElem?_pos (⟨⟨l⟩⟩:ByteArray) n aQ]
  rfl
 ·have aQ:¬n<(⟨⟨l⟩⟩:ByteArray).size:=h
  rw[List.getElem?_eq_none (by omega),getElem?_neg (⟨⟨l⟩⟩:ByteArray) n aQ]
theorem Hl (aT:C.db) (h:a7 w0 F0 X F S s an w) {T:TypeId} {x i:I} {v kM:Value} (aE:ax w F s an x v (fun _=>False)) (aA:ax w F s an i kM (fun _=>False)) (he:idx C T x i=some av):
  Good C w0 F0 X an w (Instr.index T v kM) av s:=by
 unfold idx at he
 split at he
 ·rename_i l k n ar
  have:=jo aE;subst this
  have:=jV aA;subst this
  obtain⟨i,d,z,aF,aI,aL,bX,b7,bs,bj⟩:=aT.info (dX ar (by simp))
  rw[ar]at bj
  have:=l8 bj;subst this
  split at he
  ·rename_i aW
   split at he
   ·rename_i b R
    simp only[Option.some.injEq]at he;subst he
    refine Good.same h ?_ rfl (of_int _ _)
    simp[Instr.index,asIntOf,run_underlying bs,aW,Hk,R]
   ·cases he
  ·cases he
 ·cases he
def lenOf (s:aj):I→Option Nat
 | .str l=>some l.length
 | .bH=>some 0
 | .slice xs=>some xs.length
 | .h y q=>match I.sub q (s y)with
   |some (.aK _ xs)=>some xs.length
   |_=>none
 |_=>none
def js (C:bq) (s:aj) (T:TypeId) (x:I):Option I:=
 match(C.T T).k,x with
 | .str,.str l=>some (.int .i64 l.length)
 | .slice _,.bH=>some (.int .i64 0)
 | .slice _,.slice xs=>some (.int .i64 xs.length)
 | .slice _,.h y q=>match I.sub q (s y)with
   |some (.aK _ xs)=>some (.int .i64 xs.length)
   |_=>none
 |_,_=>none
theorem uB {xs:List I} {v:Value} {aD:Nat→Prop} (h:ax w F s an (.slice xs) v aD):(xs=[]∧∃a c,v= .slice a 0 c∧c≤maxLen∧(a=none→c=0))∨
  ∃b o cap cO sz,v= .slice (some ⟨b,o,none⟩) xs.length cap∧F b∧xs.length≤cap∧cap≤maxLen∧(∀d∈xs,d.wd=sz)∧fi w b o cO∧aM w F xs cO (fun _=>False):=by
 have aQ:=(ax.bJ rfl).1 h
 rw[al,eO aQ.1]at aQ
 obtain⟨_,⟨rfl,a,c,ad,aB⟩|⟨b,o,cap,cO,sz,ad,aB⟩⟩:=aQ
 ·simp at ad;exact .inl ⟨rfl,a,c,ad,aB⟩
 ·simp at ad;exact .inr ⟨b,o,cap,cO,sz,ad,aB⟩
theorem Hm (aT:C.db) (h:a7 w0 F0 X F S s an w) {T ty:TypeId} {x:I} {v:Value} (aE:ax w F s an x v (fun _=>False)) (he:js C s T x=some av):
  Good C w0 F0 X an w (Builtin.len_ #[T] ty #[v]) av s:=by
 unfold js at he
 split at he
 ·rename_i l ar
  have:=jo aE;subst this
  obtain⟨i,d,z,aF,aI,aL,bX,b7,bs,bj⟩:=aT.info (dX ar (by simp))
  rw[ar]at bj
  have:=l8 bj;subst this
  simp only[Option.some.injEq]at he;subst he
  refine Good.same h ?_ rfl (of_int _ _)
  simp[Builtin.len_,run_underlying bs,goInt]
  rfl
 ·rename_i e ar
  have:=nh aE;subst this
  obtain⟨i,d,z,aF,aI,aL,bX,b7,bs,bj⟩:=aT.info (dX ar (by simp))
  rw[ar]at bj
  have:=ix bj;subst this
  simp only[Option.some.injEq]at he;subst he
  refine Good.same h ?_ rfl (of_int _ _)
  simp[Builtin.len_,run_underlying bs,goInt]
 ·rename_i e xs ar
  obtain⟨i,d,z,aF,aI,aL,bX,b7,bs,bj⟩:=aT.info (dX ar (by simp))
  rw[ar]at bj
  have:=ix bj;subst this
  simp only[Option.some.injEq]at he;subst he
  refine Good.same h ?_ rfl (of_int _ _)
  rcases uB aE with⟨rfl,a,c,rfl,_⟩|⟨b,o,cap,cO,sz,rfl,_⟩<;>simp[Builtin.len_,run_underlying bs,goInt]
 ·rename_i e y q ar
  split at he
  ·rename_i sz xs ae
   obtain⟨i,d,z,aF,aI,aL,bX,b7,bs,bj⟩:=aT.info (dX ar (by simp))
   rw[ar]at bj
   have:=ix bj;subst this
   simp only[Option.some.injEq]at he;subst he
   refine Good.same h ?_ rfl (of_int _ _)
   rcases xo h aE ae with⟨rfl,_,rfl⟩|⟨b,cap,cur,aI,fr,rfl,_⟩<;>simp[Builtin.len_,run_underlying bs,goInt]
  ·cases he
 ·cases he
def bytesOf:List I→Option (List UInt8)
 |[]=>some []
 | .int .u8 n::r=>if 0≤n∧n<256 then(bytesOf r).map (UInt8.ofNat n.toNat::·)else none
 |_=>none
def kO (b:UInt8):I:=.int .u8 b.toNat
theorem xt:∀(xs:List I) (l:List UInt8) (cs:List Value) (aD:Nat→Prop),bytesOf xs=some l→aM w F xs cs aD→cs=l.map (fun b=>.int .u8 (b.toNat:Int))∧xs.length=l.length
 |[],l,cs,aD,h,aC=>by simp[bytesOf]at h;subst h;rw[aM]at aC;subst aC;exact⟨rfl,rfl⟩
 |x::xs,l,cs,aD,h,aC=>by
  unfold bytesOf at h
  split at h
  ·rename_i e;cases e
  ·rename_i n r e
   simp only[List.cons.injEq]at e
   obtain⟨rfl,rfl⟩:=e
   split at h
   ·rename_i aW
    simp only[Option.map_eq_some_iff]at h
    obtain⟨cV,aa,rfl⟩:=h
    rw[aM]at aC
    obtain⟨bN,c2,bk,cp,rfl,ad,aB,_⟩:=aC
    obtain⟨rfl,aO⟩:=xt xs cV c2 cp aa aB
    rw[al]at ad;subst ad
    refine⟨?_,by simp[aO]⟩
    simp only[List.map_cons,List.cons_append,List.nil_append,List.cons.injEq,and_true,Value.int.injEq,true_and]
    simp only[UInt8.toNat_ofNat']
    omega
   ·cases h
  ·cases h
theorem a7.sv (h:a7 w0 F0 X F S s an w) {aw:World} {sz cap:Nat} {xs:List I} {cur:Array Value} {e:TypeId} {fr:Nat×Nat} {Sn:Nat→Prop}
  (hw:aw.heap=w.heap.push (.cells cur e fr)) (aa:aw.os=w.os) (ad:aw.tape=w.tape) (aB:Out aw w)
  (bh:nT fr cur.size) (hle:xs.length≤cap) (hm:cap≤maxLen) (cP:cur.size=cap*sz) (hG:∀d∈xs,d.wd=sz) (aE:aM w F xs (cur.toList.take (xs.length*sz)) Sn)
  (cY:∀b,Sn b→b<w.heap.size) (aX:∀b,Sn b→¬F b) (bd:∀u b,Sn b→¬S u b) (bz:∀b,Sn b→X b∨w0.heap.size≤b):
  a7 w0 F0 X F S s an aw∧iw w0 X F S s an aw (.aK sz xs) (.slice (some ⟨w.heap.size,0,none⟩) xs.length cap):=by
 have hold:∀b,b<w.heap.size→aw.heap[b]? =w.heap[b]? :=by
  intro b R
  rw[hw,Array.getElem?_push,if_neg (by omega)]
 have YI:aw.heap.size=w.heap.size+1:=by rw[hw];simp
 refine⟨h.grow hold (by omega) aa ad aB,.inr ⟨rfl,rfl,fun b=>b=w.heap.size∨Sn b,?_,?_,?_,?_,?_⟩⟩
 ·simp only[bw,fl]
  rw[al]
  refine .inr ⟨w.heap.size,cap,cur,e,fr,Sn,rfl,.inl rfl,?_,bh,hle,hm,cP,hG,?_,fun c ai=>.inr ai,fun ai=>Nat.lt_irrefl _ (cY _ ai)⟩
  ·rw[hw];simp
  ·exact aM.frame (fun b R=>hold b (h.dw b R)) _ _ _ (fun b R=>hold b (cY b R)) aE
 ·rintro b (rfl|R)
  ·omega
  ·have:=cY b R;omega
 ·rintro b (rfl|R) ng
  ·exact Nat.lt_irrefl _ (h.dw _ ng)
  ·exact aX b R ng
 ·rintro u b (rfl|R) hu
  ·exact Nat.lt_irrefl _ (h.c6 _ _ hu)
  ·exact bd u b R hu
 ·rintro b (rfl|R)
  ·exact .inr h.size
  ·exact bz b R
def eP (C:bq) (s:aj) (A B:TypeId) (x:I):Option I:=
 if(C.T A).ok=true then
 match(C.T B).k,x with
 | .int k,.int _ n=>some (.int k (k.wrap n))
 | .str,.str l=>match(C.T A).k with
   | .str=>some (.str l)
   |_=>none
 | .str,x=>match(C.T A).k with
   | .slice e=>match(C.T e).k with
     | .int .u8=>match x with
       | .bH=>some (.str [])
       | .slice xs=>(bytesOf xs).map .str
       | .h y q=>match I.sub q (s y)with
         |some (.aK 1 xs)=>(bytesOf xs).map .str
         |_=>none
       |_=>none
     |_=>none
   |_=>none
 | .slice e,.str l=>match(C.T A).k,(C.T e).k with
   | .str,.int .u8=>if l.length≤9223372036854775807 then some (.aK 1 (l.map kO))else none
   |_,_=>none
 |_,_=>none
 else none
theorem A8 (l:List UInt8) (aD:Nat→Prop):aM w F (l.map kO) (l.map fun b=>.int .u8 (b.toNat:Int)) aD:=by
 induction l generalizing aD with
 |nil=>simp only[List.map_nil];rw[aM]
 |cons b l ih=>
  simp only[List.map_cons]
  rw[aM]
  exact⟨[.int .u8 (b.toNat:Int)],_,fun _=>False,fun _=>False,rfl,by rw[kO,al],ih _,fun _ h=>h.elim,fun _ h=>h.elim,fun _ h=>h.elim⟩
theorem Hn (aT:C.db) (h:a7 w0 F0 X F S s an w) {A B:TypeId} {x:I} {v:Value} (aE:ax w F s an x v (fun _=>False)) (he:eP C s A B x=some av):
  Good C w0 F0 X an w (convert A B v) av s:=by
 unfold eP at he
 split at he
 ·rename_i er
  obtain⟨eA,YJ,YK,ah,a2,a3,a4,a5,ma,mb⟩:=aT.info er
  split at he
  ·rename_i k cy n ar
   have:=jV aE;subst this
   obtain⟨i,d,z,aF,aI,aL,bX,b7,bs,bj⟩:=aT.info (dX ar (by simp))
   rw[ar]at bj
   have:=si bj;subst this
   simp only[Option.some.injEq]at he;subst he
   refine Good.same h ?_ rfl (of_int _ _)
   simp[convert,run_underlying ma,run_underlying bs,Conv.intToInt]
  ·rename_i l ar
   have:=jo aE;subst this
   obtain⟨i,d,z,aF,aI,aL,bX,b7,bs,bj⟩:=aT.info (dX ar (by simp))
   rw[ar]at bj
   have:=l8 bj;subst this
   split at he
   ·rename_i sw
    rw[sw]at mb
    have:=l8 mb;subst this
    simp only[Option.some.injEq]at he;subst he
    refine Good.same h ?_ rfl (lz _)
    simp[convert,run_underlying ma,run_underlying bs]
   ·cases he
  ·rename_i x ar _
   obtain⟨i,d,z,aF,aI,aL,bX,b7,bs,bj⟩:=aT.info (dX ar (by simp))
   rw[ar]at bj
   have:=l8 bj;subst this
   split at he
   ·rename_i e sw
    rw[sw]at mb
    have:=ix mb;subst this
    split at he
    ·rename_i sx
     obtain⟨nc,aV,nd,f1,f2,f3,f4,f5,f6,f7⟩:=aT.info (dX sx (by simp))
     rw[sx]at f7
     have:=si f7;subst this
     have fin:∀(l:List UInt8) (b o cap:Nat),fi w b o (l.map fun b=>.int .u8 (b.toNat:Int))→(convert A B (.slice (some ⟨b,o,none⟩) l.length cap)).run C.P w= .ok (.string ⟨⟨l⟩⟩) w:=by
      intro l b o cap gW
      refine run_convert_bytes_back w A B e ⟨b,o,none⟩ cap l ma f6 bs (fun j bY=> ?_)
      rw[Addr.add_lit]
      exact gW j _ (by simp[bY])
     have nil:(convert A B (.slice none 0 0)).run C.P w= .ok (.string ⟨⟨[]⟩⟩) w:=by
      simp[convert,run_underlying ma,run_underlying bs,run_underlying f6,Conv.bytesToString]
      rfl
     split at he
     ·have:=nh aE;subst this
      simp only[Option.some.injEq]at he;subst he
      exact Good.same h nil rfl (lz _)
     ·rename_i xs _
      simp only[Option.map_eq_some_iff]at he
      obtain⟨l,aJ,rfl⟩:=he
      rcases uB aE with⟨rfl,a,c,rfl,_,pc⟩|⟨b,o,cap,cO,sz,rfl,aa,ad,aB,aO,a6,bp⟩
      ·simp[bytesOf]at aJ;subst aJ
       cases a with
       |none=>
        have:=pc rfl;subst this
        exact Good.same h nil rfl (lz _)
       |some a=>
        refine Good.same h ?_ rfl (lz _)
        exact run_convert_bytes_back w A B e a c [] ma f6 bs (fun j bY=>by simp at bY)
      ·obtain⟨rfl,bB⟩:=xt xs l cO _ aJ bp
       rw[bB]
       exact Good.same h (fin l b o cap a6) rfl (lz _)
     ·rename_i y q
      split at he
      ·rename_i xs ae
       simp only[Option.map_eq_some_iff]at he
       obtain⟨l,aJ,rfl⟩:=he
       rcases xo h aE ae with⟨rfl,a,rfl⟩|⟨b,cap,cur,aI,fr,rfl,aa,ad,aB,aO,a6,bp,aD,bB,_⟩
       ·simp[bytesOf]at aJ;subst aJ
        cases a with
        |none=>exact Good.same h nil rfl (lz _)
        |some a=>
         refine Good.same h ?_ rfl (lz _)
         exact run_convert_bytes_back w A B e a 0 [] ma f6 bs (fun j bY=>by simp at bY)
       ·obtain⟨cE,eL⟩:=xt xs l _ _ aJ bB
        rw[eL]
        refine Good.same h (fin l b 0 cap ?_) rfl (lz _)
        rw[←cE]
        exact qh aa _
      ·cases he
     ·cases he
    ·cases he
   ·cases he
  ·rename_i e l ar
   have:=jo aE;subst this
   obtain⟨i,d,z,aF,aI,aL,bX,b7,bs,bj⟩:=aT.info (dX ar (by simp))
   rw[ar]at bj
   have:=ix bj;subst this
   split at he
   ·rename_i sw sx
    rw[sw]at mb
    have:=l8 mb;subst this
    obtain⟨nc,aV,nd,f1,f2,f3,f4,f5,f6,f7⟩:=aT.info (dX sx (by simp))
    rw[sx]at f7
    have:=si f7;subst this
    split at he
    ·rename_i aJ
     simp only[Option.some.injEq]at he;subst he
     have U:(⟨⟨l⟩⟩:ByteArray).size=l.length:=rfl
     have sy:=grownCap_ge w l.length 0 e
     have Ho:=grownCap_le_maxLen w l.length 0 e (by unfold maxLen;omega)
     have A9:(bytesRow ⟨⟨l⟩⟩ (grownCap w l.length 0 e)).toList=l.map (fun b=>Value.int .u8 (b.toNat:Int))++List.replicate (grownCap w l.length 0 e-l.length) (.int .u8 0):=by
      simp[bytesRow,U]
     have cP:(bytesRow ⟨⟨l⟩⟩ (grownCap w l.length 0 e)).size=grownCap w l.length 0 e*1:=by
      have:(bytesRow ⟨⟨l⟩⟩ (grownCap w l.length 0 e)).size=(bytesRow ⟨⟨l⟩⟩ (grownCap w l.length 0 e)).toList.length:=by simp
      rw[this,A9];simp;omega
     have pa:=run_bytes_of_string w A B e ⟨⟨l⟩⟩ ma bs f6
     rw[U]at pa
     have h3:=h.sv (aw:=w.drew.alloc (.cells (bytesRow ⟨⟨l⟩⟩ (grownCap w l.length 0 e)) e ((bytesRow ⟨⟨l⟩⟩ (grownCap w l.length 0 e)).size,(bytesRow ⟨⟨l⟩⟩ (grownCap w l.length 0 e)).size+1)))
      (sz:=1) (cap:=grownCap w l.length 0 e) (xs:=l.map kO) (cur:=bytesRow ⟨⟨l⟩⟩ (grownCap w l.length 0 e)) (e:=e) (Sn:=fun _=>False) rfl rfl rfl ⟨rfl,fun _=>Nat.le_succ _⟩
      (fun o bI ⟨aa,_⟩=>by simp only at aa;omega) (by simpa using sy) Ho cP (by intro d ae;obtain⟨b,_,rfl⟩:=List.mem_map.1 ae;rfl)
      (by rw[A9,List.take_left' (by simp)];exact A8 l _) (fun _ h=>h.elim) (fun _ h=>h.elim) (fun _ _ h=>h.elim) (fun _ h=>h.elim)
     simp only[List.length_map]at h3
     exact⟨_,_,F,S,pa,h3.1,h3.2⟩
    ·cases he
   ·cases he
  ·cases he
 ·cases he
end
section
variable {C:bq} {w0 w:World} {F0 X F:Nat→Prop} {S:Nat→Nat→Prop} {s s1:aj} {an:Nat→Value} {av:I}
def fy (d:Nat):Option I→Option Nat
 |none=>some d
 |some (.int _ n)=>if 0≤n then some n.toNat else none
 |some _=>none
def cC (C:bq) (s:aj) (T:TypeId) (x:I) (b_ aA:Option I):Option (I×aj):=
 match(C.T T).k,x with
 | .str,.str l=>match fy 0 b_,fy l.length aA with
   |some a,some b=>if a≤b∧b≤l.length then some (.str ((l.take b).drop a),s)else none
   |_,_=>none
 | .slice e,.bH=>match fy 0 b_,fy 0 aA with
   |some 0,some 0=>if(C.T e).ok=true then some (.bH,s)else none
   |_,_=>none
 | .slice e,.slice xs=>match fy 0 b_,fy xs.length aA with
   |some a,some b=>if a≤b∧b≤xs.length∧(C.T e).ok=true∧(∀d∈xs,d.wd=(C.T e).sz)then some (.slice ((xs.take b).drop a),s)else none
   |_,_=>none
 | .slice e,.h y q=>match I.sub q (s y)with
   |some (.aK sz xs)=>match fy 0 b_,fy xs.length aA with
    |some 0,some b=>if b≤xs.length∧(C.T e).ok=true then(match bR s (.h y q)with|some (_,s1)=>some (.aK sz (xs.take b),s1)|none=>none)else none
    |_,_=>none
   |_=>none
 |_,_=>none
def ni (w:World) (F:Nat→Prop) (s:aj) (an:Nat→Value):Option I→Option Value→Prop
 |none,none=>True
 |some d,some v=>ax w F s an d v (fun _=>False)
 |_,_=>False
theorem A_ {d:Nat} {o:Option I} {v:Option Value} (bI:ni w F s an o v) {a:Nat} (h:fy d o=some a):(o=none∧v=none∧a=d)∨∃k,v=some (.int k a):=by
 cases o with
 |none=>
  cases v with
  |none=>simp[fy]at h;exact .inl ⟨rfl,rfl,h.symm⟩
  |some v=>simp[ni]at bI
 |some x=>
  cases v with
  |none=>simp[ni]at bI
  |some v=>
   simp only[ni]at bI
   cases x with
   |int k n=>
    have:=jV bI;subst this
    simp only[fy]at h
    split at h
    ·rename_i aW
     simp only[Option.some.injEq]at h;subst h
     obtain⟨m,rfl⟩:=Int.eq_ofNat_of_zero_le aW
     exact .inr ⟨k,rfl⟩
    ·cases h
   |_=>simp[fy]at h
theorem qo {P:Program} {isS:Bool} {len cap a b:Nat} {b_ aA:Option I} {pe pf:Option Value} (kP:ni w F s an b_ pe) (kQ:ni w F s an aA pf) (bQ:fy 0 b_=some a) (R:fy len aA=some b) (jk:a≤b) (Hp:b≤cap) (_hlc:len≤cap):
  (Instr.sliceBounds isS len cap pe pf none).run P w= .ok (a,b,cap) w:=by
 rcases A_ kP bQ with⟨_,rfl,rfl⟩|⟨k,rfl⟩<;>rcases A_ kQ R with⟨_,rfl,rfl⟩|⟨cy,rfl⟩<;>
  simp[Instr.sliceBounds,Instr.sliceBound,asIntOf,jk,Hp]
theorem qp (aT:C.db) {T:TypeId} (ar:(C.T T).flat=true) (v:Value) (b_ aA da:Option Value) (w:World):(Instr.sliceAt T v b_ aA da).run C.P w=(Instr.slice T v b_ aA da).run C.P w:=by
 obtain⟨i,d,z,aF,aI,aL,bX,b7,bs,bj⟩:=aT.info (AK ar)
 have cB:∀n e,d≠.array n e:=by
  clear bs
  unfold ez.flat at ar
  generalize (C.T T).k=iz at*
  cases iz<;>cases d<;>simp[iv]at bj ar⊢
 cases d<;>first|exact(cB _ _ rfl).elim|simp[Instr.sliceAt,run_underlying bs]
theorem qq {x:ez} {k:kk} (h:x.k=k) (ar:k≠.other) (U:∀af,k≠.struct af) (R:∀e,k≠.dH e:=by simp):x.flat=true:=by
 unfold ez.flat;rw[h];cases k<;>first|rfl|exact(ar rfl).elim|exact(R _ rfl).elim|exact(U _ rfl).elim
theorem aM.split:∀(n:Nat) (xs:List I) (cs:List Value) (aD:Nat→Prop),aM w F xs cs aD→∃bN c2 bk cp,cs=bN++c2∧aM w F (xs.take n) bN bk∧aM w F (xs.drop n) c2 cp∧(∀b,bk b→aD b)∧(∀b,cp b→aD b)∧(∀b,bk b→¬cp b)
 |0,xs,cs,aD,h=>⟨[],cs,fun _=>False,aD,rfl,by rw[List.take_zero,aM],h,fun _ h=>h.elim,fun _ h=>h,fun _ h=>h.elim⟩
 |n+1,[],cs,aD,h=>by rw[aM]at h;subst h;exact⟨[],[],fun _=>False,fun _=>False,rfl,by rw[List.take_nil,aM],by rw[List.drop_nil,aM],fun _ h=>h.elim,fun _ h=>h.elim,fun _ h=>h.elim⟩
 |n+1,x::xs,cs,aD,h=>by
  rw[aM]at h
  obtain⟨bN,c2,e_,eM,rfl,aa,ad,aB,aO,a6⟩:=h
  obtain⟨d1,d2,bk,cp,rfl,g1,g2,g3,g4,g5⟩:=aM.split n xs c2 eM ad
  refine⟨bN++d1,d2,fun b=>e_ b∨bk b,cp,by simp,?_,g2,?_,fun b R=>aO _ (g4 _ R),?_⟩
  ·rw[List.take_succ_cons,aM]
   exact⟨bN,d1,e_,bk,rfl,aa,g1,fun _ h=>.inl h,fun _ h=>.inr h,fun b R ai=>a6 b R (g3 b ai)⟩
  ·rintro b (R|R)
   ·exact aB b R
   ·exact aO b (g3 b R)
  ·rintro b (R|R) ai
   ·exact a6 b R (g4 b ai)
   ·exact g5 b R ai
theorem Hq (aT:C.db) (h:a7 w0 F0 X F S s an w) {T:TypeId} {x:I} {v:Value} {b_ aA:Option I} {pe pf:Option Value} (ao:x.plain=true) (aE:ax w F s an x v (fun _=>False)) (kP:ni w F s an b_ pe) (kQ:ni w F s an aA pf)
  (he:cC C s T x b_ aA=some (av,s1)):Good C w0 F0 X an w (Instr.sliceAt T v pe pf none) av s1:=by
 unfold cC at he
 split at he
 ·rename_i l ar
  have:=jo aE;subst this
  obtain⟨i,d,z,aF,aI,aL,bX,b7,bs,bj⟩:=aT.info (dX ar (by simp))
  rw[ar]at bj
  have:=l8 bj;subst this
  split at he
  ·rename_i a b bQ R
   split at he
   ·rename_i jk
    simp only[Option.some.injEq,Prod.mk.injEq]at he
    obtain⟨rfl,rfl⟩:=he
    refine Good.same h ?_ rfl (lz _)
    rw[qp aT (qq ar (by simp) (by simp))]
    have cP:(⟨⟨l⟩⟩:ByteArray).size=l.length:=rfl
    have kR:=qo (P:=C.P) (isS:=false) (len:=l.length) (cap:=l.length) kP kQ bQ R jk.1 jk.2 (Nat.le_refl _)
    have Hr:(⟨⟨l⟩⟩:ByteArray).extract a b=⟨⟨(l.take b).drop a⟩⟩:=by
     apply ByteArray.ext
     simp[ByteArray.data_extract,List.drop_take]
    simp[Instr.slice,run_underlying bs,cP,kR,Hr]
   ·cases he
  ·cases he
 ·rename_i e ar
  have:=nh aE;subst this
  obtain⟨i,d,z,aF,aI,aL,bX,b7,bs,bj⟩:=aT.info (dX ar (by simp))
  rw[ar]at bj
  have:=ix bj;subst this
  split at he
  ·rename_i bQ R
   split at he
   ·rename_i lA
    obtain⟨nc,aV,nd,f1,f2,f3,f4,f5,f6,f7⟩:=aT.info lA
    simp only[Option.some.injEq,Prod.mk.injEq]at he
    obtain⟨rfl,rfl⟩:=he
    have kR:=qo (P:=C.P) (isS:=true) (len:=0) (cap:=0) kP kQ bQ R (Nat.le_refl _) (Nat.le_refl _) (Nat.le_refl _)
    refine Good.same h (v:=.slice none 0 0) ?_ rfl aE
    rw[qp aT (qq ar (by simp) (by simp))]
    simp[Instr.slice,run_underlying bs,kR,hv f1,f2]
   ·cases he
  ·cases he
 ·rename_i e xs ar
  obtain⟨i,d,z,aF,aI,aL,bX,b7,bs,bj⟩:=aT.info (dX ar (by simp))
  rw[ar]at bj
  have:=ix bj;subst this
  split at he
  ·rename_i a b bQ R
   split at he
   ·rename_i jk
    obtain⟨Hs,Ba,lA,hG⟩:=jk
    obtain⟨nc,aV,nd,f1,f2,f3,f4,f5,f6,f7⟩:=aT.info lA
    simp only[Option.some.injEq,Prod.mk.injEq]at he
    obtain⟨rfl,rfl⟩:=he
    rcases uB aE with⟨rfl,qs,c,rfl,sA,pc⟩|⟨g_,o,cap,cO,sz,rfl,aa,ad,aB,aO,a6,bp⟩
    ·have fs:b=0:=by simpa using Ba
     subst fs
     have Ht:a=0:=by omega
     subst Ht
     have kR:=qo (P:=C.P) (isS:=true) (len:=0) (cap:=c) kP kQ bQ R (Nat.le_refl _) (Nat.zero_le _) (Nat.zero_le _)
     refine Good.same h (v:=.slice qs 0 c) ?_ rfl ((ax.bJ rfl).2 ⟨rfl,by rw[al];exact .inl ⟨rfl,qs,c,rfl,sA,pc⟩⟩)
     rw[qp aT (qq ar (by simp) (by simp))]
     cases qs with
     |none=>
      have:=pc rfl;subst this
      simp[Instr.slice,run_underlying bs,kR,hv f1,f2]
     |some qs=>simp[Instr.slice,run_underlying bs,kR,hv f1,f2,Addr.add]
    ·have kR:=qo (P:=C.P) (isS:=true) (len:=xs.length) (cap:=cap) kP kQ bQ R Hs (Nat.le_trans Ba ad) ad
     obtain⟨bN,c2,bk,cp,rfl,g1,g2,g3,g4,g5⟩:=aM.split b xs cO _ bp
     obtain⟨d1,d2,YL,Bb,rfl,bx,bF,c7,ct,dr⟩:=aM.split a (xs.take b) bN _ g1
     have xu:d1.length=a*(C.T e).sz:=by
      rw[aM.length _ _ _ bx,o2 _ (fun d ae=>hG d (List.mem_of_mem_take (List.mem_of_mem_take ae))),List.length_take,List.length_take]
      congr 1;omega
     have hlen:((xs.take b).drop a).length=b-a:=by simp;omega
     have gW:fi w g_ (o+a*(C.T e).sz) d2:=by
      rw[←xu]
      have:fi w g_ o (d1++(d2++c2)):=by simpa using a6
      exact this.xh
     have uC:aM w F ((xs.take b).drop a) d2 (fun _=>False):=aM.mono (fun _ h=>h) _ _ _ _ (fun b R=>(g3 _ (ct _ R)).elim) bF
     have mem:∀d∈(xs.take b).drop a,d.wd=sz:=fun d ae=>aO d (List.mem_of_mem_take (List.mem_of_mem_drop ae))
     have run:(Instr.sliceAt T (.slice (some ⟨g_,o,none⟩) xs.length cap) pe pf none).run C.P w= .ok (.slice (if cap=a then some ⟨g_,o,none⟩else some ⟨g_,o+a*(C.T e).sz,none⟩) (b-a) (cap-a)) w:=by
      rw[qp aT (qq ar (by simp) (by simp))]
      simp[Instr.slice,run_underlying bs,kR,hv f1,f2,Addr.add_lit]
     refine⟨_,w,F,S,run,h,.inl ⟨rfl,(ax.bJ rfl).2 ⟨rfl,?_⟩⟩⟩
     simp only[bw,fl]
     rw[al]
     by_cases Bc:cap=a
     ·have Hu:b=a:=by omega
      subst Hu
      have sB:(xs.take b).drop b=[]:=by simp
      rw[if_pos Bc]
      rw[sB]at uC⊢
      rw[aM]at uC
      subst uC
      exact .inr ⟨g_,o,cap-b,[],sz,by simp,aa,Nat.zero_le _,by omega,by simp,fun j c bY=>by simp at bY,by rw[aM]⟩
     ·rw[if_neg Bc]
      exact .inr ⟨g_,_,cap-a,d2,sz,by rw[hlen],aa,by rw[hlen];omega,by omega,mem,gW,uC⟩
   ·cases he
  ·cases he
 ·rename_i e y q ar
  split at he
  ·rename_i sz xs ae
   split at he
   ·rename_i b bQ R
    split at he
    ·rename_i uD
     split at he
     ·rename_i sq s2 aN
      simp only[Option.some.injEq,Prod.mk.injEq]at he
      obtain⟨rfl,rfl⟩:=he
      obtain⟨i,d,z,aF,aI,aL,bX,b7,bs,bj⟩:=aT.info (dX ar (by simp))
      rw[ar]at bj
      have:=ix bj;subst this
      obtain⟨nc,aV,nd,f1,f2,f3,f4,f5,f6,f7⟩:=aT.info uD.2
      have pd:sq= .aK sz xs:=by
       simp only[bR,ae,I.plain]at aN
       simp at aN
       exact aN.1.symm
      subst pd
      obtain⟨bk,g0,g1,g2,Sn,g3,g4,g5,g6,g7,g8⟩:=lu h rfl aE aN
      rw[eO g2,al]at g3
      rcases g3 with⟨rfl,a0,iD⟩|⟨g_,cap,cur,eS,fr,aD,iD,bx,bF,c7,ct,dr,eH,fV,gH,hz,kn⟩
      ·simp at iD;subst iD
       have fs:b=0:=by simpa using uD.1
       subst fs
       have kR:=qo (P:=C.P) (isS:=true) (len:=0) (cap:=0) kP kQ bQ R (Nat.le_refl _) (Nat.le_refl _) (Nat.le_refl _)
       refine⟨.slice a0 0 0,w,F,bk,?_,g0,.inr ⟨rfl,rfl,fun _=>False,by simp only[bw,fl];rw[al];exact .inl ⟨rfl,_,rfl⟩,fun _ h=>h.elim,fun _ h=>h.elim,fun _ _ h=>h.elim,fun _ h=>h.elim⟩⟩
       rw[qp aT (qq ar (by simp) (by simp))]
       cases a0<;>simp[Instr.slice,run_underlying bs,kR,hv f1,f2]
      ·simp at iD;subst iD
       have kR:=qo (P:=C.P) (isS:=true) (len:=xs.length) (cap:=cap) kP kQ bQ R (Nat.zero_le _) (Nat.le_trans uD.1 ct) ct
       have hlen:(xs.take b).length=b:=by simp;omega
       have run:(Instr.sliceAt T (.slice (some ⟨g_,0,none⟩) xs.length cap) pe pf none).run C.P w= .ok (.slice (some ⟨g_,0,none⟩) b cap) w:=by
        rw[qp aT (qq ar (by simp) (by simp))]
        simp[Instr.slice,run_underlying bs,kR,hv f1,f2,Addr.add_lit]
       refine⟨_,w,F,bk,run,g0,.inr ⟨rfl,rfl,Sn,?_,g4,g5,g6,g7⟩⟩
       simp only[bw,fl]
       rw[al]
       obtain⟨bN,c2,e_,eM,ai,m1,m2,m3,m4,m5⟩:=aM.split b xs _ _ gH
       refine .inr ⟨g_,cap,cur,eS,fr,aD,by rw[hlen],bx,bF,c7,by omega,dr,eH,fun d ae=>fV d (List.mem_of_mem_take ae),?_,hz,kn⟩
       have xu:bN.length=b*sz:=by
        rw[aM.length _ _ _ m1,o2 _ (fun d ae=>fV d (List.mem_of_mem_take ae)),hlen]
       have:cur.toList.take ((xs.take b).length*sz)=bN:=by
        rw[hlen]
        have ad:b*sz≤xs.length*sz:=Nat.mul_le_mul_right _ uD.1
        have:(cur.toList.take (xs.length*sz)).take (b*sz)=bN:=by rw[ai,List.take_left' xu]
        rwa [List.take_take,Nat.min_eq_left ad]at this
       rw[this]
       exact aM.mono (fun _ h=>h) _ _ _ _ m3 m1
     ·cases he
    ·cases he
   ·cases he
  ·cases he
 ·cases he
end
section
variable {C:bq} {w0 w:World} {F0 X F:Nat→Prop} {S:Nat→Nat→Prop} {s s1:aj} {an:Nat→Value} {av:I}
def Src (P:Program) (w:World) (size:Nat) (x:Value) (m:Nat) (news:List Value):Prop:=
 ∀aw:World,aw.heap=w.heap→(Builtin.lenOf x).run P aw= .ok m aw∧(Builtin.firstCells size m x).run P aw= .ok news.toArray aw
def xv (d:TypeDesc):Prop:=(∃e,d= .slice e)∨d= .string
theorem Hv {P:Program} {T a8 ty e:TypeId} {nj:TypeDesc} {i:TypeInfo} (aN:P.underlying T=some (.slice e)) (hu:P.underlying a8=some nj) (pg:xv nj) (aA:P.info? e=some i)
  {x:Value} {m:Nat} {news:List Value} (uE:Src P w i.size x m news) {b n cap:Nat} {cur:Array Value} {eS:TypeId} {fr:Nat×Nat} {l mid r:List Value} (R:w.heap[b]? =some (.cells cur eS fr)) (bh:nT fr cur.size)
  (ai:cur.toList=l++(mid++r)) (aJ:l.length=n*i.size) (hm:mid.length=news.length) (uy:∀v∈news,Value.eF v=true) (mc:n+m≤cap):
  ∃aw,(Builtin.append_ #[T,a8] ty #[.slice (some ⟨b,0,none⟩) n cap,x]).run P w= .ok (.slice (some ⟨b,0,none⟩) (n+m) cap) aw∧aw.heap[b]? =some (.cells (l++(news++r)).toArray eS fr)∧
   (∀c,c≠b→aw.heap[c]? =w.heap[c]?)∧aw.heap.size=w.heap.size∧aw.os=w.os∧aw.tape=w.tape∧Out aw w:=by
 obtain⟨aw,m1,m2⟩:=xl (P:=P) (b:=b) (o:=n*i.size) (e:=eS) (fr:=fr) news 0 cur w l mid r R bh ai (by omega) hm uy
 refine⟨aw,?_,m2⟩
 obtain⟨aa,ad⟩:=uE w rfl
 rcases pg with⟨ew,rfl⟩|rfl<;>simp[Builtin.append_,run_underlying aN,run_underlying hu,hv aA,aa,ad,mc,Addr.add_lit,m1]
theorem Hw {P:Program} {T a8 ty e:TypeId} {nj:TypeDesc} {i:TypeInfo} {z:Value} (aN:P.underlying T=some (.slice e)) (hu:P.underlying a8=some nj) (pg:xv nj) (aA:P.info? e=some i) (bl:i.zero=some z)
  {x:Value} {m:Nat} {news:List Value} (uE:Src P w i.size x m news) {base:Option Addr} {n cap:Nat} {lB:List Value} (hold:Src P w i.size (.slice base n cap) n lB) (mc:¬n+m≤cap)
  (aW:n+m≤9223372036854775807) (xw:(n+m)*i.bytes≤140737488355328):
  (Builtin.append_ #[T,a8] ty #[.slice base n cap,x]).run P w= .ok (.slice (some ⟨w.heap.size,0,none⟩) (n+m) (grownCap w (n+m) cap e))
   (w.drew.alloc (.cells (lB.toArray++news.toArray++Builtin.zeroCells z.cells (grownCap w (n+m) cap e-(n+m))) e)):=by
 have aa:=(uE w rfl).1
 have ad:=(uE w.drew rfl).2
 have aB:=(hold w.drew rfl).2
 have YM:=growslice_fits (need:=n+m) (old:=cap) (by omega) xw
 have fB:¬(281474976710656<Builtin.nextslicecap (n+m) cap*i.bytes):=by omega
 have qt:∀k (w:World),(askRoom k).run P w= .ok () w:=by
  intro k w
  unfold askRoom
  split<;>rfl
 have xx:¬(9223372036854775807<(n:Int)+(m:Int)∧i.bytes=0):=by omega
 rcases pg with⟨ew,rfl⟩|rfl<;>
  ·simp[Builtin.append_,run_underlying aN,run_underlying hu,hv aA,o7 aA,aa,mc,fB,Question.forced,qt]
   rw[if_neg xx,aB]
   simp[ad,o8 aA bl,newRow,grownCap]
   have aF:(lB++news).toArray=lB.toArray++news.toArray:=by simp
   rw[aF,Array.append_assoc]
def uF (C:bq) (e a8:TypeId):Bool:=match(C.T a8).k,(C.T e).k with
 | .slice ew,_=>ew==e
 | .str,.int .u8=>true
 |_,_=>false
def jt (C:bq) (s:aj) (T a8:TypeId) (x y:I):Option (I×aj):=
 match(C.T T).k with
 | .slice e=>if(C.T e).ok=true∧(C.T e).zero.wd=(C.T e).sz∧(flat (C.T e).zero).isSome=true∧uF C e a8=true then
   match(match x with| .bH=>some (I.aK (C.T e).sz [],s)| .h a q=>bR s (.h a q)|_=>none)with
   |some (.aK sz xs,s1)=>if sz=(C.T e).sz then
     match(match h1 x.owner y with
      | .bH=>some ([],s1)
      | .slice bD=>some (bD,s1)
      | .str l=>some (l.map kO,s1)
      | .h a q=>match bR s1 (.h a q)with
        |some (.aK _ bD,s2)=>some (bD,s2)
        |_=>none
      |_=>none)with
     |some (bD,s2)=>if(∀d∈bD,d.wd=(C.T e).sz)∧(xs.length+bD.length)*(C.T e).bytes≤140737488355328∧xs.length+bD.length≤9223372036854775807 then some (.aK sz (xs++bD),s2)else none
     |none=>none
    else none
   |_=>none
   else none
 |_=>none
theorem aM.append {xs bD:List I} {bN c2:List Value} {bk cp aD:Nat→Prop} (aa:aM w F xs bN bk) (ad:aM w F bD c2 cp) (aF:∀b,bk b→aD b) (aI:∀b,cp b→aD b) (aL:∀b,bk b→¬cp b):aM w F (xs++bD) (bN++c2) aD:=by
 induction xs generalizing bN bk aD with
 |nil=>rw[aM]at aa;subst aa;exact aM.mono (fun _ h=>h) _ _ _ _ aI ad
 |cons x xs ih=>
  rw[aM]at aa
  obtain⟨Hx,Hy,e_,eM,rfl,g1,g2,g3,g4,g5⟩:=aa
  rw[List.cons_append,aM]
  refine⟨Hx,Hy++c2,e_,fun b=>eM b∨cp b,by simp,g1,ih g2 (fun b h=>.inl h) (fun b h=>.inr h) (fun b h=>aL b (g4 b h)),fun b h=>aF b (g3 b h),?_,?_⟩
  ·rintro b (h|h)
   ·exact aF b (g4 b h)
   ·exact aI b h
  ·rintro b h (aQ|aQ)
   ·exact g5 b h aQ
   ·exact aL b (g3 b h) aQ
theorem xy {P:Program} {size m cap:Nat} {b o:Nat} {news:List Value} (gW:fi w b o news) (aJ:news.length=m*size):Src P w size (.slice (some ⟨b,o,none⟩) m cap) m news:=by
 intro aw hw
 refine⟨rfl,?_⟩
 refine run_firstCells_some aw size m ⟨b,o,none⟩ m cap news aJ (fun j v bY=> ?_)
 rw[Addr.add_lit]
 have:=gW j v bY
 simpa [World.cell?,hw]using this
theorem Bd {P:Program} {size cap:Nat}:Src P w size (.slice none 0 cap) 0 []:=by
 intro aw _
 exact⟨rfl,by simp[Builtin.firstCells]⟩
theorem xz {P:Program} {size cap:Nat} (a:Option Addr):Src P w size (.slice a 0 cap) 0 []:=by
 cases a with
 |none=>exact Bd
 |some a=>
  intro aw _
  exact⟨rfl,run_firstCells_some aw size 0 a 0 cap [] (by simp) (fun j v bY=>by simp at bY)⟩
theorem Hz {P:Program} (l:List UInt8):Src P w 1 (.string ⟨⟨l⟩⟩) l.length (l.map fun b=>.int .u8 (b.toNat:Int)):=by
 intro aw _
 refine⟨rfl,?_⟩
 have:(⟨⟨l⟩⟩:ByteArray).extract 0 l.length=⟨⟨l⟩⟩:=by
  apply ByteArray.ext
  simp[ByteArray.data_extract]
 simp[Builtin.firstCells,this]
theorem aM.ph {sz:Nat} {xs:List I} {cs:List Value} {aD:Nat→Prop} (h:aM w F xs cs aD) (hw:∀d∈xs,d.wd=sz):cs.length=xs.length*sz:=by
 rw[aM.length _ _ _ h,o2 _ hw]
theorem a7.turn (h:a7 w0 F0 X F S s an w) {aw:World} {b:Nat} (R:∀c,c≠b→aw.heap[c]? =w.heap[c]?) (U:aw.heap.size=w.heap.size) (aa:aw.os=w.os) (ad:aw.tape=w.tape) (aB:Out aw w)
  (aX:¬F b) (bd:∀u,¬S u b) (bz:X b∨w0.heap.size≤b):a7 w0 F0 X F S s an aw where
 eU:=h.eU
 e4:=h.e4
 dw:=fun c ai=>by rw[U];exact h.dw c ai
 c6:=fun t c ai=>by rw[U];exact h.c6 t c ai
 dP:=h.dP
 dq:=h.dq
 cz:=h.cz
 cd:=fun t=>ax.frame (Sx:=S) (fun c ai=>R c (by rintro rfl;exact aX ai)) (fun _ h=>h) (fun x c ai=>R c (by rintro rfl;exact bd x ai)) h.cd _ _ _ (fun c ai=>R c (by rintro rfl;exact bd t ai)) (h.cd t)
 old:=fun c cY ht=>by
  rw[R c ?_]
  ·exact h.old c cY ht
  ·rintro rfl
   rcases bz with bz|bz
   ·exact ht bz
   ·omega
 size:=by rw[U];exact h.size
 os:=aa.trans h.os
 tape:=ad.trans h.tape
 output:=aB.trans h.output
 eN:=h.eN
theorem HA (aT:C.db) (h:a7 w0 F0 X F S s an w) {T a8 ty:TypeId} {x y:I} {fq fU:Value} (ao:ax w F s an x fq (fun _=>False)) (hy:ax w F s an y fU (fun _=>False))
  (he:jt C s T a8 x y=some (av,s1)):Good C w0 F0 X an w (Builtin.append_ #[T,a8] ty #[fq,fU]) av s1:=by
 unfold jt at he
 split at he
 ·rename_i e ar
  obtain⟨xA,d,xB,aF,aI,aL,bX,b7,bs,bj⟩:=aT.info (dX ar (by simp))
  rw[ar]at bj
  have:=ix bj;subst this
  split at he
  ·rename_i pb
   obtain⟨lA,me,nk,mf⟩:=pb
   obtain⟨i,xC,z,f1,f2,f3,f4,f5,f6,f7⟩:=aT.info lA
   obtain⟨de,jX⟩:=Option.isSome_iff_exists.1 nk
   have nm:=f5 de jX
   have lC:de.length=(C.T e).sz:=by
    have:=al.length _ _ _ ((al.flat (w:=w) (F:=F) _).1 (C.T e).zero de (fun _=>False) (Nat.le_refl _) jX)
    rw[this,me]
   obtain⟨nj,hu,pg⟩:∃nj,C.P.underlying a8=some nj∧xv nj:=by
    unfold uF at mf
    split at mf
    ·rename_i ew iX
     obtain⟨_,aV,_,_,_,_,_,_,g6,g7⟩:=aT.info (dX iX (by simp))
     rw[iX]at g7
     exact⟨aV,g6,.inl ⟨_,ix g7⟩⟩
    ·rename_i iX _
     obtain⟨_,aV,_,_,_,_,_,_,g6,g7⟩:=aT.info (dX iX (by simp))
     rw[iX]at g7
     exact⟨aV,g6,.inr (l8 g7)⟩
    ·cases mf
   split at he
   ·rename_i sz xs Be pj
    split at he
    ·rename_i cP
     subst cP
     split at he
     ·rename_i bD uG kS
      split at he
      ·rename_i HB
       obtain⟨qu,xw,n1⟩:=HB
       simp only[Option.some.injEq,Prod.mk.injEq]at he
       obtain⟨rfl,rfl⟩:=he
       obtain⟨e_,a0,Sn,a3,a4,a5,ma,mb,YN,a9,n2⟩:∃e_,a7 w0 F0 X F e_ Be an w∧∃Sn,al w F (.aK (C.T e).sz xs) [fq] Sn∧(∀b,Sn b→b<w.heap.size)∧(∀b,Sn b→¬F b)∧(∀u b,Sn b→¬e_ u b)∧
         (∀b,Sn b→X b∨w0.heap.size≤b)∧(∀u b,e_ u b→S u b)∧(∀b,Sn b→∃u,S u b)∧ax w F Be an (h1 x.owner y) fU (fun _=>False):=by
        split at pj
        ·simp only[Option.some.injEq,Prod.mk.injEq,I.aK.injEq,true_and]at pj
         obtain⟨rfl,rfl⟩:=pj
         have:=nh ao;subst this
         exact⟨S,h,fun _=>False,by rw[al];exact .inl ⟨rfl,_,rfl⟩,fun _ h=>h.elim,fun _ h=>h.elim,fun _ _ h=>h.elim,fun _ h=>h.elim,fun _ _ h=>h,fun _ h=>h.elim,hy⟩
        ·obtain⟨bk,g0,g1,g2,Sn,g3,g4,g5,g6,g7,g8,g9,g10⟩:=lu h rfl ao pj
         rw[eO g2]at g3
         exact⟨bk,g0,Sn,g3,g4,g5,g6,g7,g8,g9,g10 _ _ _ hy⟩
        ·cases pj
       obtain⟨eM,g_,ko,news,jq,gu,iY,dI,hK,ft,uH,e6⟩:∃eM,a7 w0 F0 X F eM uG an w∧∃ko news,aM w F bD news ko∧Src C.P w i.size fU bD.length news∧(∀b,ko b→b<w.heap.size)∧(∀b,ko b→¬F b)∧(∀u b,ko b→¬eM u b)∧
         (∀b,ko b→X b∨w0.heap.size≤b)∧(∀u b,eM u b→e_ u b)∧(∀b,ko b→∃u,e_ u b):=by
        split at kS
        ·rename_i pk
         simp only[Option.some.injEq,Prod.mk.injEq]at kS
         obtain⟨rfl,rfl⟩:=kS
         rw[pk]at n2
         have:=nh n2;subst this
         exact⟨e_,a0,fun _=>False,[],by rw[aM],Bd,fun _ h=>h.elim,fun _ h=>h.elim,fun _ _ h=>h.elim,fun _ h=>h.elim,fun _ _ h=>h,fun _ h=>h.elim⟩
        ·rename_i eB pk
         simp only[Option.some.injEq,Prod.mk.injEq]at kS
         obtain⟨rfl,rfl⟩:=kS
         rw[pk]at n2
         rcases uB n2 with⟨rfl,qs,YO,rfl,_,pc⟩|⟨b,o,cap,cO,HC,rfl,bx,bF,c7,ct,dr,eH⟩
         ·exact⟨e_,a0,fun _=>False,[],by rw[aM],xz qs,fun _ h=>h.elim,fun _ h=>h.elim,fun _ _ h=>h.elim,fun _ h=>h.elim,fun _ _ h=>h,fun _ h=>h.elim⟩
         ·exact⟨e_,a0,fun _=>False,cO,eH,xy dr (by rw[f2];exact aM.ph eH qu),fun _ h=>h.elim,fun _ h=>h.elim,fun _ _ h=>h.elim,fun _ h=>h.elim,fun _ _ h=>h,fun _ h=>h.elim⟩
        ·rename_i l pk
         simp only[Option.some.injEq,Prod.mk.injEq]at kS
         obtain⟨rfl,rfl⟩:=kS
         rw[pk]at n2
         have:=jo n2;subst this
         have HD:l≠[]→i.size=1:=by
          intro aJ
          cases l with
          |nil=>exact(aJ rfl).elim
          |cons b l=>rw[f2,←qu (kO b) (by simp)];rfl
         by_cases aJ:l=[]
         ·subst aJ
          refine⟨e_,a0,fun _=>False,[],by simp only[List.map_nil];rw[aM],?_,fun _ h=>h.elim,fun _ h=>h.elim,fun _ _ h=>h.elim,fun _ h=>h.elim,fun _ _ h=>h,fun _ h=>h.elim⟩
          intro aw _
          exact⟨rfl,by simp[Builtin.firstCells,ByteArray.extract];rfl⟩
         ·refine⟨e_,a0,fun _=>False,_,A8 l _,?_,fun _ h=>h.elim,fun _ h=>h.elim,fun _ _ h=>h.elim,fun _ h=>h.elim,fun _ _ h=>h,fun _ h=>h.elim⟩
          rw[HD aJ,List.length_map]
          exact Hz l
        ·rename_i a q pk
         split at kS
         ·rename_i YP eB s2 aN
          simp only[Option.some.injEq,Prod.mk.injEq]at kS
          obtain⟨rfl,rfl⟩:=kS
          rw[pk]at n2
          obtain⟨cp,g0,g1,g2,ko,g3,g4,g5,g6,g7,g8,g9,g10⟩:=lu a0 rfl n2 aN
          rw[eO g2,al]at g3
          rcases g3 with⟨rfl,HE,iD⟩|⟨b,cap,cur,eS,fr,aD,iD,bx,bF,c7,ct,dr,eH,fV,gH,hz,kn⟩
          ·simp at iD;subst iD
           exact⟨cp,g0,fun _=>False,[],by rw[aM],(xz HE),fun _ h=>h.elim,fun _ h=>h.elim,fun _ _ h=>h.elim,fun _ h=>h.elim,g8,fun _ h=>h.elim⟩
          ·simp at iD;subst iD
           refine⟨cp,g0,aD,_,gH,xy (qh bF _) ?_,fun c ai=>g4 c (hz c ai),fun c ai=>g5 c (hz c ai),fun u c ai=>g6 u c (hz c ai),fun c ai=>g7 c (hz c ai),g8,fun c ai=>g9 c (hz c ai)⟩
           rw[f2];exact aM.ph gH qu
         ·cases kS
        ·cases kS
       have n3:news.length=bD.length*(C.T e).sz:=aM.ph jq qu
       have kT:∀c,Sn c→¬ko c:=fun c aa ad=>by obtain⟨u,hu⟩:=e6 c ad;exact ma u c aa hu
       have jk:∀u c,Sn c→¬eM u c:=fun u c aa ad=>ma u c aa (uH u c ad)
       have grow:∀(base:Option Addr) (cap:Nat) (lB:List Value) (Sx:Nat→Prop),fq= .slice base xs.length cap→Src C.P w i.size (.slice base xs.length cap) xs.length lB→aM w F xs lB Sx→(∀d∈xs,d.wd=(C.T e).sz)→(∀c,Sx c→Sn c)→¬xs.length+bD.length≤cap→
         Good C w0 F0 X an w (Builtin.append_ #[T,a8] ty #[fq,fU]) (.aK (C.T e).sz (xs++bD)) uG:=by
        intro base cap lB Sx xm hold Bf Bg dj mc
        subst xm
        have aC:=Hw (ty:=ty) bs hu pg f1 f4 gu hold mc n1 (by rw[f3];exact xw)
        have sy:=grownCap_ge w (xs.length+bD.length) cap e
        have sA:=grownCap_le_maxLen w (xs.length+bD.length) cap e (by unfold maxLen;omega)
        have sC:=aM.ph Bf Bg
        have HF:aM w F (xs++bD) (lB++news) (fun c=>Sx c∨ko c):=aM.append Bf jq (fun _ h=>.inl h) (fun _ h=>.inr h) (fun c aa ad=>kT c (dj c aa) ad)
        have HG:(lB++news).length=(xs++bD).length*(C.T e).sz:=by simp[sC,n3,Nat.add_mul]
        have h3:=g_.sv (aw:=w.drew.alloc (.cells (lB.toArray++news.toArray++Builtin.zeroCells z.cells (grownCap w (xs.length+bD.length) cap e-(xs.length+bD.length))) e))
         (sz:=(C.T e).sz) (cap:=grownCap w (xs.length+bD.length) cap e) (xs:=xs++bD) (e:=e) (fr:=(0,0)) (Sn:=fun c=>Sx c∨ko c) rfl rfl rfl ⟨rfl,fun _=>Nat.le_succ _⟩
         (fun o _ ⟨_,ad⟩=>absurd ad (Nat.not_lt_zero _)) (by simpa using sy) sA
         (by
          simp only[Array.size_append,List.size_toArray,size_zeroCells,nm,sC,n3,lC,←Nat.add_mul]
          congr 1;omega)
         (by
          intro d ae
          rcases List.mem_append.1 ae with ae|ae
          ·exact Bg d ae
          ·exact qu d ae)
         (by
          simp only[Array.toList_append]
          rw[List.take_left' HG]
          exact HF)
         (by rintro c (ai|ai);exact a4 c (dj c ai);exact iY c ai) (by rintro c (ai|ai);exact a5 c (dj c ai);exact dI c ai) (by rintro u c (ai|ai);exact jk u c (dj c ai);exact hK u c ai) (by rintro c (ai|ai);exact mb c (dj c ai);exact ft c ai)
        refine⟨_,_,F,eM,aC,h3.1,?_⟩
        have:=h3.2
        simpa using this
       rw[al]at a3
       rcases a3 with⟨rfl,uI,iD⟩|⟨b,cap,cur,eS,fr,aD,iD,bx,bF,c7,ct,dr,eH,fV,gH,hz,kn⟩
       ·simp at iD;subst iD
        by_cases Bh:bD=[]
        ·subst Bh
         have xD:news=[]:=by simpa using n3
         subst xD
         refine⟨.slice uI 0 0,w,F,eM,?_,g_,.inr ⟨rfl,rfl,fun _=>False,by simp only[bw,fl];rw[al];exact .inl ⟨rfl,_,rfl⟩,fun _ h=>h.elim,fun _ h=>h.elim,fun _ _ h=>h.elim,fun _ h=>h.elim⟩⟩
         obtain⟨aa,ad⟩:=gu w rfl
         cases uI<;>rcases pg with⟨ew,rfl⟩|rfl<;>simp at aa ad<;>simp[Builtin.append_,run_underlying bs,run_underlying hu,hv f1,aa,ad,storeCells]
        ·exact grow uI 0 [] (fun _=>False) rfl (xz uI) (by rw[aM]) (by simp) (fun _ h=>h.elim) (by
          cases bD with
          |nil=>exact(Bh rfl).elim
          |cons y bD=>simp)
       ·simp at iD;subst iD
        by_cases mc:xs.length+bD.length≤cap
        ·
         have sC:=aM.ph gH fV
         have hlen:cur.toList.length=cap*(C.T e).sz:=by simp[eH]
         have hle:(xs.length+bD.length)*(C.T e).sz≤cap*(C.T e).sz:=Nat.mul_le_mul_right _ mc
         rw[Nat.add_mul]at hle
         have ir:cur.toList=cur.toList.take (xs.length*(C.T e).sz)++((cur.toList.drop (xs.length*(C.T e).sz)).take news.length++(cur.toList.drop (xs.length*(C.T e).sz)).drop news.length):=by
          rw[List.take_append_drop,List.take_append_drop]
         obtain⟨aw,m1,m2,m3,m4,m5,m6,m7⟩:=Hv (ty:=ty) (n:=xs.length) (m:=bD.length) (cap:=cap) bs hu pg f1 gu bF c7 ir (by rw[f2];exact sC) (by simp[hlen,n3];omega) (aM.o_ _ _ _ jq) mc
         have HH:=g_.turn m3 m4 m5 m6 m7 (a5 b bx) (fun u hu=>jk u b bx hu) (mb b bx)
         have l7:∀c,F c→aw.heap[c]? =w.heap[c]? :=fun c ai=>m3 c (by rintro rfl;exact a5 _ bx ai)
         refine⟨_,aw,F,eM,m1,HH,.inr ⟨rfl,rfl,fun c=>Sn c∨ko c,?_,?_,?_,?_,?_⟩⟩
         ·simp only[bw,fl]
          rw[al]
          have Bi:(cur.toList.take (xs.length*(C.T e).sz)++(news++(cur.toList.drop (xs.length*(C.T e).sz)).drop news.length)).toArray.size=cur.size:=by
           have:cur.size=cur.toList.length:=by simp
           rw[this]
           conv=>rhs;rw[ir]
           simp[hlen,n3];omega
          refine .inr ⟨b,cap,_,eS,fr,fun c=>aD c∨ko c,by simp,.inl bx,m2,by rw[Bi];exact c7,by simpa using mc,dr,by rw[Bi];exact eH,?_,?_,?_,?_⟩
          ·intro d ae
           rcases List.mem_append.1 ae with ae|ae
           ·exact fV d ae
           ·exact qu d ae
          ·have qn:=aM.frame l7 _ _ _ (fun c ai=>m3 c (by rintro rfl;exact kn ai)) gH
           have o6:=aM.frame l7 _ _ _ (fun c ai=>m3 c (by rintro rfl;exact kT _ bx ai)) jq
           have:((cur.toList.take (xs.length*(C.T e).sz)++(news++(cur.toList.drop (xs.length*(C.T e).sz)).drop news.length)).toArray.toList.take ((xs++bD).length*(C.T e).sz))=cur.toList.take (xs.length*(C.T e).sz)++news:=by
            simp only[]
            rw[←List.append_assoc]
            exact List.take_left' (by rw[List.length_append,sC,n3,List.length_append,Nat.add_mul])
           rw[this]
           exact aM.append qn o6 (fun _ h=>.inl h) (fun _ h=>.inr h) (fun c aa ad=>kT c (hz c aa) ad)
          ·rintro c (ai|ai)
           ·exact .inl (hz c ai)
           ·exact .inr ai
          ·rintro(ai|ai)
           ·exact kn ai
           ·exact kT b bx ai
         ·rw[m4];rintro c (ai|ai);exact a4 c ai;exact iY c ai
         ·rintro c (ai|ai);exact a5 c ai;exact dI c ai
         ·rintro u c (ai|ai);exact jk u c ai;exact hK u c ai
         ·rintro c (ai|ai);exact mb c ai;exact ft c ai
        ·exact grow (some ⟨b,0,none⟩) cap _ aD rfl (xy (qh bF _) (by rw[f2];exact aM.ph gH fV)) gH fV hz mc
      ·cases he
     ·cases he
    ·cases he
   ·cases he
  ·cases he
 ·cases he
end
section
variable {C:bq} {w0 w aw:World} {F0 X F:Nat→Prop} {S:Nat→Nat→Prop} {s s1:aj} {an:Nat→Value} {av:I}
theorem a7.HI (h:a7 w0 F0 X F S s an w) {x:Nat} {q:List Nat} {d aV:I} {b:Nat} (ae:I.sub q (s x)=some d) (ak:d.plain=false) (xE:aV.tree=true) (aa:∀v,fI d v→fI aV v) (U:∀v,cx d v→cx aV v)
  (ad:∀vs,aV≠.tuple vs) (hG:aV.wd=d.wd) (R:∀bP a dp,cb w q (s x) (bw (an x)) none=some (d,bP,a)→al w F d bP dp→dp b∧al aw F aV bP dp) (kL:∀c,c≠b→aw.heap[c]? =w.heap[c]?) (cP:aw.heap.size=w.heap.size) (xb:aw.os=w.os)
  (xc:aw.tape=w.tape) (o4:Out aw w):∃aD,a7 w0 F0 X F aD (cg (fz x s) x (I.put q aV (s x))) an aw:=by
 have aN:=fm ae (.inl ak)
 have ao:=h.cd x
 rw[ax.bJ aN]at ao
 obtain⟨bP,a,cL,dp,g0,g1,g2,g3,g4,g5⟩:=ctx q (s x) (bw (an x)) (S x) none d ao.2 ae
 obtain⟨o5,aE⟩:=R bP a dp g0 g4
 have pn:S x b:=g2 b o5
 have l7:∀c,F c→aw.heap[c]? =w.heap[c]? :=fun c ai=>kL c (by rintro rfl;exact h.dP x _ pn ai)
 have qk:∀c,cL c→c≠b:=fun c ai e=>g3 c ai (e▸o5)
 have hr:al aw F (I.put q aV (s x)) (bw (an x)) (fun c=>cL c∨dp c):=by
  rcases g5 with⟨l,r,aF,aI,aL⟩|⟨g_,cur,e,fr,l,r,aF,aI,aL,bX,b7,bs⟩
  ·rw[aF]
   exact aL aw aV bP dp l7 (fun c ai=>kL c (qk c ai)) hG aE (fun c ai l6=>g3 c l6 ai)
  ·refine bs aw aV bP dp l7 (fun c ai _=>kL c (qk c ai)) ?_ hG aE (fun c ai l6=>g3 c l6 ai)
   rw[kL g_ (qk g_ aI),aL,←b7]
 have sb:cx (I.put q aV (s x)) (an x)∧(I.put q aV (s x)).tree=true:=by
  cases q with
  |nil=>
   simp only[I.sub,Option.some.injEq]at ae
   simp only[I.put]
   exact⟨U _ (ae▸ao.1),xE⟩
  |cons k q=>
   refine⟨r_ ao.1 ae aa (fun _=>ad) hG,?_⟩
   rcases nV k q aV (s x)with⟨af,gs,aF,e⟩|⟨af,gs,aF,e⟩|⟨sz,xs,bD,aF,e⟩|⟨y,z,aF,e⟩|e<;>rw[e]<;>first|rfl|exact aN
 let aq:=cg (fz x s) x (I.put q aV (s x))
 have fo:∀y,y≠x→(aq y).tree=true→aq y=s y∧an y=an y:=fun y hy aN=>by
  have e:aq y=b9.bn x (s y):=gR _ _ hy
  rw[e]at aN⊢
  exact⟨(uq aN).2,rfl⟩
 have jn:(aq x).plain=false→(s x).plain=false∧∀v,cx (s x) v→cx (aq x) v:=by
  intro _
  refine⟨?_,fun v aE=> ?_⟩
  ·cases sa:(s x).plain with
   |false=>rfl
   |true=>rw[I.wZ _ _ _ sa ae]at ak;cases ak
  ·simp only[aq,jS]
   cases q with
   |nil=>
    simp only[I.sub,Option.some.injEq]at ae
    simp only[I.put]
    exact U _ (ae▸aE)
   |cons k q=>exact r_ aE ae aa (fun _=>ad) hG
 have both:∀c,(cL c∨dp c)→S x c:=fun c ai=>ai.elim (g1 c) (g2 c)
 refine⟨ey S x (fun c=>cL c∨dp c),?_⟩
 constructor
 case eU=>exact h.eU
 case e4=>exact h.e4
 case dw=>exact fun b R=>by rw[cP];exact h.dw b R
 case c6=>
  intro u c R
  rw[cP]
  simp only[ey]at R
  split at R
  ·exact h.c6 x c (both c R)
  ·exact h.c6 u c R
 case dP=>
  intro u c R
  simp only[ey]at R
  split at R
  ·exact h.dP x c (both c R)
  ·exact h.dP u c R
 case dq=>
  intro u y c cB R hy
  simp only[ey]at R hy
  split at R
  ·rename_i hu
   rw[if_neg (fun e=>cB (hu.trans e.symm))]at hy
   exact h.dq x y c (fun e=>cB (hu.trans e)) (both c R) hy
  ·rename_i hu
   split at hy
   ·exact h.dq u x c hu R (both c hy)
   ·exact h.dq u y c cB R hy
 case cz=>
  intro u c R
  simp only[ey]at R
  split at R
  ·exact h.cz x c (both c R)
  ·exact h.cz u c R
 case cd=>
  intro u
  by_cases hu:u=x
  ·subst hu
   rw[jS,r7]
   exact(ax.bJ sb.2).2 ⟨sb.1,hr⟩
  ·rw[gR _ _ hu,r8 _ _ hu]
   have cB:∀y c,y≠x→S y c→aw.heap[c]? =w.heap[c]? :=fun y c hy ai=>kL c (by rintro rfl;exact h.dq y x c hy ai pn)
   refine(ax.bn fo rfl jn (fun y ep d2 hy eZ sc=> ?_) l7 _).1 _ _ _ (Nat.le_refl _) (fun c ai=>cB u c hu ai) (h.cd u)
   have sd:=h.cd y
   rw[ax.bJ (fm eZ sc)]at sd
   exact uo ep _ _ _ none d2 sd.2 eZ (fun c ai=>cB y c hy ai)
 case old=>
  intro c cY ht
  rw[kL c ?_]
  ·exact h.old c cY ht
  ·rintro rfl
   rcases h.cz x c pn with bz|bz
   ·exact ht bz
   ·omega
 case size=>rw[cP];exact h.size
 case os=>exact xb.trans h.os
 case tape=>exact xc.trans h.tape
 case output=>exact o4.trans h.output
 case eN=>exact h.eN
def Bj (P:Program) (t:TypeId):Bool:=match P.info? t with
 |some i=>match i.zero with
  |some (.bool false)=>true
  |_=>false
 |none=>false
def uJ (C:bq) (T:TypeId):Bool:=match(C.T T).k with
 | .map lD n4=>match(C.T lD).k with
   | .str=>Bj C.P n4
   |_=>false
 |_=>false
def kU (C:bq) (s:aj) (T:TypeId) (x i:I):Option I:=match x,i with
 | .h y q,.str k=>match I.sub q (s y)with
   |some (.cA (.mp m))=>if uJ C T=true then some (.bool (nR k m))else none
   |_=>none
 |_,_=>none
def jY (C:bq) (s:aj) (T:TypeId) (x i v:I):Option aj:=match x,i,v with
 | .h y q,.str k,.bool b=>match I.sub q (s y)with
   |some (.cA (.mp m))=>if uJ C T=true then some (cg (fz y s) y (I.put q (.cA (.mp (l4 k b m))) (s y)))else none
   |_=>none
 |_,_,_=>none
theorem Bk (aT:C.db) {T:TypeId} (h:uJ C T=true):∃lD n4,C.P.underlying T=some (.map lD n4)∧C.P.underlying lD=some .string∧∀w,(zeroValue n4).run C.P w= .ok (.bool false) w:=by
 unfold uJ at h
 split at h
 ·rename_i lD n4 ar
  split at h
  ·rename_i aa
   obtain⟨i,d,z,aF,aI,aL,bX,b7,bs,bj⟩:=aT.info (dX ar (by simp))
   obtain⟨nc,aV,nd,f1,f2,f3,f4,f5,f6,f7⟩:=aT.info (dX aa (by simp))
   rw[ar]at bj
   rw[aa]at f7
   have:=l8 f7;subst this
   refine⟨lD,n4,?_,f6,fun w=> ?_⟩
   ·rw[bs];cases d<;>simp[iv]at bj
    rw[bj.1,bj.2]
   ·unfold Bj at h
    split at h
    ·rename_i i2 g1
     split at h
     ·rename_i g2;exact o8 g1 g2 w
     ·cases h
    ·cases h
  ·cases h
 ·cases h
theorem xF (a b:ByteArray):(a==b)=true↔a=b:=by
 constructor
 ·intro h
  exact ByteArray.ext (eq_of_beq (show(a.data==b.data)=true from h))
 ·rintro rfl
  show(a.data==a.data)=true
  simp
theorem xG (k:List UInt8) (b:Bool):∀(es:List MapEntry) (m:List (List UInt8×Bool)) (i:Nat),es.map (fun e=>(e.key,e.val))=m.map (fun e=>(.string ⟨⟨e.1⟩⟩,.bool e.2))→
  (Instr.findNow .string (.string ⟨⟨k⟩⟩) es i=some none∧nR k m=false∧l4 k b m=m++[(k,b)])∨
  ∃j e,es[j]? =some e∧e.key= .string ⟨⟨k⟩⟩∧Instr.findNow .string (.string ⟨⟨k⟩⟩) es i=some (some (i+j,.bool (nR k m)))∧l4 k b m=m.set j (k,b)
 |[],m,i,h=>by
  have:m=[]:=by simpa using h.symm
  subst this
  exact .inl ⟨rfl,rfl,rfl⟩
 |e::es,[],i,h=>by simp at h
 |e::es,(cy,dG)::m,i,h=>by
  simp only[List.map_cons,List.cons.injEq,Prod.mk.injEq]at h
  obtain⟨⟨aa,ad⟩,aB⟩:=h
  by_cases ar:cy=k
  ·subst ar
   refine .inr ⟨0,e,rfl,aa,?_,by simp[l4]⟩
   have:(((⟨⟨cy⟩⟩:ByteArray)==⟨⟨cy⟩⟩))=true:=(xF _ _).2 rfl
   simp only[Instr.findNow,aa,ad,Instr.sameNow,nR,this,if_true,Nat.add_zero]
  ·have aW:((⟨⟨k⟩⟩:ByteArray)==⟨⟨cy⟩⟩)=false:=by
    refine Bool.eq_false_iff.2 fun e=>ar ?_
    have:=(xF _ _).1 e
    simp only[ByteArray.mk.injEq,Array.mk.injEq]at this
    exact this.symm
   rcases xG k b es m (i+1) aB with⟨g1,g2,g3⟩|⟨j,ew,g1,g2,g3,g4⟩
   ·refine .inl ⟨?_,?_,?_⟩
    ·simp only[Instr.findNow,aa,Instr.sameNow,aW];exact g1
    ·simp[nR,ar,g2]
    ·simp[l4,ar,g3]
   ·refine .inr ⟨j+1,ew,g1,g2,?_,?_⟩
    ·simp only[Instr.findNow,aa,Instr.sameNow,aW]
     rw[g3];simp[nR,ar,Nat.add_assoc,Nat.add_comm 1 j]
    ·simp[l4,ar,g4]
theorem uK {P:Program} {lD:TypeId} (ar:P.underlying lD=some .string) (e:Bool) (k:ByteArray) (w:World):(Instr.checkKey e 10000 lD (.string k)).run P w= .ok () w:=by
 unfold Instr.checkKey
 simp[run_underlying ar]
theorem Bl (h:a7 w0 F0 X F S s an w) {y:Nat} {q:List Nat} {m:List (List UInt8×Bool)} {v:Value} (aE:ax w F s an (.h y q) v (fun _=>False)) (ae:I.sub q (s y)=some (.cA (.mp m))):
  ∃r ms jR,v= .map (some r)∧w.heap[r]? =some (.map ms jR)∧ms.toList.map (fun e=>(e.key,e.val))=m.map (fun e=>(.string ⟨⟨e.1⟩⟩,.bool e.2))∧
   ∃a,cb w q (s y) (bw (an y)) none=some (.cA (.mp m),[.map (some r)],a):=by
 rw[ax]at aE
 obtain⟨bP,a,g1,g2,g3⟩:=aE _ ae rfl
 have aa:Value.eF v=true:=g3
 rw[eO aa]at g2
 have ao:=h.cd y
 rw[ax.bJ (fm ae (.inl rfl))]at ao
 obtain⟨dU,b2,cL,dp,k0,bx,bF,c7,ct,dr⟩:=ctx q (s y) (bw (an y)) (S y) none _ ao.2 ae
 rw[k0]at g1
 simp only[Option.some.injEq,Prod.mk.injEq,true_and]at g1
 obtain⟨rfl,rfl⟩:=g1
 rw[al]at ct
 obtain⟨r,ms,jR,aF,aI,aL,bX⟩:=ct
 rw[aF]at g2 k0
 exact⟨r,ms,jR,by simpa using g2,aL,bX,b2,k0⟩
theorem HJ (aT:C.db) (h:a7 w0 F0 X F S s an w) {T:TypeId} {x i:I} {fq kM:Value} (ao:ax w F s an x fq (fun _=>False)) (aA:ax w F s an i kM (fun _=>False)) (he:kU C s T x i=some av):
  Good C w0 F0 X an w (Instr.lookup T fq kM false) av s:=by
 unfold kU at he
 split at he
 ·rename_i y q k
  split at he
  ·rename_i m ae
   split at he
   ·rename_i iW
    simp only[Option.some.injEq]at he;subst he
    obtain⟨lD,n4,t1,t2,t3⟩:=Bk aT iW
    obtain⟨r,ms,jR,rfl,aI,aL,_⟩:=Bl h ao ae
    have:=jo aA;subst this
    refine Good.same h (v:=.bool (nR k m)) ?_ rfl (of_bool _)
    rcases xG k true ms.toList m 0 aL with⟨g1,g2,_⟩|⟨j,e,_,_,g1,_⟩
    ·simp[Instr.lookup,run_underlying t1,getObj,Sem.run,aI,uK t2,Instr.findKey,run_underlying t2,g1,t3,g2]
    ·simp[Instr.lookup,run_underlying t1,getObj,Sem.run,aI,uK t2,Instr.findKey,run_underlying t2,g1]
   ·cases he
  ·cases he
 ·cases he
theorem HK (aT:C.db) (h:a7 w0 F0 X F S s an w) {T:TypeId} {x i v:I} {fq kM Bm:Value} (ao:ax w F s an x fq (fun _=>False)) (aA:ax w F s an i kM (fun _=>False)) (aE:ax w F s an v Bm (fun _=>False)) {s2:aj}
  (he:jY C s T x i v=some s2):∃aw aD,(Instr.mapUpdate T fq kM Bm).run C.P w= .ok () aw∧a7 w0 F0 X F aD s2 an aw:=by
 unfold jY at he
 split at he
 ·rename_i y q k b
  split at he
  ·rename_i m ae
   split at he
   ·rename_i iW
    simp only[Option.some.injEq]at he;subst he
    obtain⟨lD,n4,t1,t2,t3⟩:=Bk aT iW
    obtain⟨r,ms,jR,rfl,aI,aL,a0,hI⟩:=Bl h ao ae
    have:=jo aA;subst this
    have:=nY aE;subst this
    have key:∀(uL:Array MapEntry) (xH:Nat),uL.toList.map (fun e=>(e.key,e.val))=(l4 k b m).map (fun e=>(.string ⟨⟨e.1⟩⟩,.bool e.2))→
      ∃aD,a7 w0 F0 X F aD (cg (fz y s) y (I.put q (.cA (.mp (l4 k b m))) (s y))) an {w with heap:=w.heap.setIfInBounds r (.map uL xH)}:=by
     intro uL xH hm
     have aC:r<w.heap.size:=(Array.getElem?_eq_some_iff.1 aI).1
     refine a7.HI (b:=r) h ae rfl rfl (fun v aE=>aE) (fun v aE=>aE) (fun vs e=>by cases e) rfl ?_ (fun c ai=> ?_) (by simp) rfl rfl ⟨rfl,fun _=>Nat.le_refl _⟩
     ·intro bP a dp bh eG
      rw[hI]at bh
      simp only[Option.some.injEq,Prod.mk.injEq,true_and]at bh
      obtain⟨rfl,_⟩:=bh
      rw[al]at eG⊢
      obtain⟨gZ,n5,YQ,f1,f2,f3,f4⟩:=eG
      simp only[List.cons.injEq,Value.map.injEq,Option.some.injEq,and_true]at f1
      subst f1
      exact⟨f2,r,uL,xH,rfl,f2,by simp[aC],hm⟩
     ·simp[Ne.symm ai]
    rcases xG k b ms.toList m 0 aL with⟨g1,_,g2⟩|⟨j,e,g0,ge,g1,g2⟩
    ·obtain⟨aD,bx⟩:=key (ms.push {key:=.string ⟨⟨k⟩⟩,val:=.bool b,born:=jR}) (jR+1) (by rw[g2];simp[aL])
     exact⟨_,aD,by simp[Instr.mapUpdate,run_underlying t1,getObj,setObj,Sem.run,aI,uK t2,Instr.findKey,run_underlying t2,g1],bx⟩
    ·rw[Nat.zero_add]at g1
     obtain⟨aD,bx⟩:=key (ms.modify j fun e=>{e with key:=.string ⟨⟨k⟩⟩,val:=.bool b}) jR (by
      rw[g2,List.map_set,←aL]
      apply List.ext_getElem?
      intro n
      by_cases aW:n=j
      ·subst aW
       have:n<ms.toList.length:=(List.getElem?_eq_some_iff.1 g0).1
       rw[List.getElem?_set_self (by simpa using this)]
       simp[g0]
      ·simp[List.getElem?_set_ne (Ne.symm aW),Ne.symm aW])
     have HL:ms[j]? =some e:=by simpa using g0
     exact⟨_,aD,by simp[Instr.mapUpdate,run_underlying t1,getObj,setObj,Sem.run,aI,uK t2,Instr.findKey,run_underlying t2,g1,HL,ge,Instr.keyThatStays,Instr.sameBits,(xF ⟨⟨k⟩⟩ ⟨⟨k⟩⟩).2 rfl],bx⟩
   ·cases he
  ·cases he
 ·cases he
theorem HM (h:a7 w0 F0 X F S s an w) (t:TypeId):Good C w0 F0 X an w (Instr.makeMap t none) (.cA (.mp [])) s:=by
 have hold:∀b,b<w.heap.size→(w.alloc (.map #[] 0)).heap[b]? =w.heap[b]? :=by
  intro b R
  show(w.heap.push _)[b]? =_
  rw[Array.getElem?_push,if_neg (by omega)]
 refine⟨.map (some w.heap.size),w.alloc (.map #[] 0),F,S,?_,h.grow hold (by simp) rfl rfl ⟨rfl,fun _=>Nat.le_refl _⟩,.inr ⟨rfl,rfl,fun b=>b=w.heap.size,?_,?_,?_,?_,?_⟩⟩
 ·simp[Instr.makeMap,newObj,Sem.run]
 ·rw[al]
  refine⟨w.heap.size,#[],0,rfl,rfl,?_,rfl⟩
  show(w.heap.push _)[_]? =_
  simp
 ·rintro b rfl;simp
 ·rintro b rfl ng;exact Nat.lt_irrefl _ (h.dw _ ng)
 ·rintro u b rfl hu;exact Nat.lt_irrefl _ (h.c6 _ _ hu)
 ·rintro b rfl;exact .inr h.size
end
end Go.b9
