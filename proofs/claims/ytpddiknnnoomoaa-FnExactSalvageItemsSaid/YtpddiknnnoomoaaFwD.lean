/- Part of a proof that a law returns true for every input. No condition. -/
import Derived.Test.YtpddiknnnoomoaaFwC
import Derived.Test.YtpddiknnnoomoaaFwA
import Derived.Laws.IdiomStrings
import Derived.Laws.Strings
import Derived.LaidEql
import Derived.WideLaws
import Derived.Laws.StructEq
namespace Go.bV
section
variable {C:bq} {w0 w:World} {F0 X F:Nat→Prop} {S:Nat→Nat→Prop} {s s1:af} {ak:Nat→Value} {av:j}
theorem jn {k:IntKind} {n:Int} {v:Value} {ay:Nat→Prop} (h:ar w F s ak (.int k n) v ay):v= .int k n:=by
 have a5:=(ar.bx rfl).1 h
 rw[al,el a5.1]at a5
 simpa using a5.2
theorem mq {b:Bool} {v:Value} {ay:Nat→Prop} (h:ar w F s ak (.bool b) v ay):v= .bool b:=by
 have a5:=(ar.bx rfl).1 h
 rw[al,el a5.1]at a5
 simpa using a5.2
theorem iH {b:List UInt8} {v:Value} {ay:Nat→Prop} (h:ar w F s ak (.str b) v ay):v= .string ⟨⟨b⟩⟩:=by
 have a5:=(ar.bx rfl).1 h
 rw[al,el a5.1]at a5
 simpa using a5.2
theorem xH {v:Value} {ay:Nat→Prop} (h:ar w F s ak .ck v ay):v= .pointer none:=by
 have a5:=(ar.bx rfl).1 h
 rw[al,el a5.1]at a5
 simpa using a5.2
theorem lE {v:Value} {ay:Nat→Prop} (h:ar w F s ak .bG v ay):v= .slice none 0 0:=by
 have a5:=(ar.bx rfl).1 h
 rw[al,el a5.1]at a5
 simpa using a5.2
theorem xI {v:Value} {ay:Nat→Prop} (h:ar w F s ak .c1 v ay):∃b,v= .bool b:=by
 have a5:=(ar.bx rfl).1 h
 rw[al,el a5.1]at a5
 simpa using a5.2
theorem of_int (k:IntKind) (n:Int):ar w F s ak (.int k n) (.int k n) (fun _=>False):=(ar.bx rfl).2 ⟨rfl,by rw[al];rfl⟩
theorem of_bool (b:Bool):ar w F s ak (.bool b) (.bool b) (fun _=>False):=(ar.bx rfl).2 ⟨rfl,by rw[al];rfl⟩
theorem j4 (b:List UInt8):ar w F s ak (.str b) (.string ⟨⟨b⟩⟩) (fun _=>False):=(ar.bx rfl).2 ⟨rfl,by rw[al];rfl⟩
theorem uo (b:Bool):ar w F s ak .c1 (.bool b) (fun _=>False):=(ar.bx rfl).2 ⟨rfl,by rw[al];exact⟨b,rfl⟩⟩
def eU (op:BinOp) (k:IntKind) (a:Int) (bY:IntKind) (b:Int):Option j:=
 match op with
 | .shl=>if b<0 then none else some (.int k (k.wrap (a*2^(min b.toNat k.bits))))
 | .shr=>if b<0 then none else some (.int k (a.fdiv (2^(min b.toNat k.bits))))
 | .add=>if k=bY then some (.int k (k.wrap (a+b)))else none
 | .sub=>if k=bY then some (.int k (k.wrap (a-b)))else none
 | .mul=>if k=bY then some (.int k (k.wrap (a*b)))else none
 | .quo=>if k=bY∧b≠0 then some (.int k (k.wrap (a.tdiv b)))else none
 | .rem=>if k=bY∧b≠0 then some (.int k (a.tmod b))else none
 | .eql=>if k=bY then some (.bool (a==b))else none
 | .neq=>if k=bY then some (.bool (a !=b))else none
 | .lss=>if k=bY then some (.bool (decide (a<b)))else none
 | .leq=>if k=bY then some (.bool (decide (a≤b)))else none
 | .gtr=>if k=bY then some (.bool (decide (b<a)))else none
 | .geq=>if k=bY then some (.bool (decide (b≤a)))else none
 | .and=>if k=bY then some (.int k (bitsOf .and k a b))else none
 | .or=>if k=bY then some (.int k (bitsOf .or k a b))else none
 | .xor=>if k=bY then some (.int k (bitsOf .xor k a b))else none
 | .andNot=>if k=bY then some (.int k (bitsOf .andNot k a b))else none
def i1 (op:BinOp) (a b:List UInt8):Option j:=
 match op with
 | .add=>if a.length+b.length≤9223372036854775807 then some (.str (a++b))else none
 | .eql=>some (.bool (a==b))
 | .neq=>some (.bool !(a==b))
 | .lss=>some (.bool (Op.bytesLess a b))
 | .leq=>some (.bool (Op.bytesLess a b||a==b))
 | .gtr=>some (.bool !(Op.bytesLess a b||a==b))
 | .geq=>some (.bool !(Op.bytesLess a b))
 |_=>none
def hj (s:af):j→Option (Option Bool)
 | .bG=>some (some true)
 | .slice xs=>some (if xs=[]then none else some false)
 | .h x q=>match j.sub q (s x)with
   |some (.aK _ xs)=>some (if xs=[]then none else some false)
   |_=>none
 |_=>none
def hk (s:af):j→Option Bool
 | .ck=>some true
 | .ref _=>some false
 | .h x q=>match j.sub q (s x)with
   |some (.bc _)=>some false
   |_=>none
 |_=>none
def qn (neg:Bool):Option Bool→j
 |some b=>.bool (b !=neg)
 |none=>.c1
def structEq (P:Program) (T:TypeId):Bool:= !P.stoodInHeld T&& !P.eqGuardType P.depth T&&(P.fieldsOf T).toList.all fun f=>decide (f.name≠ "_")
def jo (C:bq):List (TypeId×Nat)→Nat→List j→List j→Option Bool
 |[],_,[],[]=>some true
 |(gb,off)::ag,n,d::ds,e::es=>if off=n then(match(C.T gb).k,d,e with
  | .int k,.int bn a,.int bp b=>if bn=k∧bp=k then(jo C ag (n+1) ds es).map fun r=>a==b&&r else none
  | .bool,.bool a,.bool b=>(jo C ag (n+1) ds es).map fun r=>a==b&&r
  | .str,.str a,.str b=>(jo C ag (n+1) ds es).map fun r=>a==b&&r
  |_,_,_=>none)else none
 |_,_,_,_=>none
def bP (C:bq) (s:af) (op:BinOp) (T:TypeId) (x y:j):Option j:=
 match x,y with
 | .int k a,.int bY b=>eU op k a bY b
 | .str a,.str b=>i1 op a b
 | .bool a,.bool b=>match op,(C.T T).k with
   | .eql,.bool=>some (.bool (a==b))
   | .neq,.bool=>some (.bool !(a==b))
   |_,_=>none
 | .agg ds,.agg es=>match op,(C.T T).k with
   | .eql,.struct ag=>if structEq C.P T=true then(jo C ag 0 ds es).map fun b=>.bool b else none
   | .neq,.struct ag=>if structEq C.P T=true then(jo C ag 0 ds es).map fun b=>.bool !b else none
   |_,_=>none
 |x,.bG=>match op,(C.T T).k with
  | .eql,.slice _=>(hj s x).map (qn false)
  | .neq,.slice _=>(hj s x).map (qn true)
  |_,_=>none
 |x,.ck=>match op,(C.T T).k with
  | .eql,.ptr _=>(hk s x).map fun b=>.bool b
  | .neq,.ptr _=>(hk s x).map fun b=>.bool !b
  |_,_=>none
 |_,_=>none
theorem C3 {P:Program} {op:BinOp} {T:TypeId} {k bY:IntKind} {a b:Int} (he:eU op k a bY b=some av) (w:World):
  ∃v,(binOp op T (.int k a) (.int bY b)).run P w= .ok v w∧ar w F s ak av v (fun _=>False):=by
 unfold eU at he
 cases op<;>simp only at he<;>split at he<;>first|(cases he;done)|skip
 all_goals
  rename_i ae
  simp only[Option.some.injEq]at he
  subst he
 all_goals first
  |(subst ae;simp only[binOp_add,binOp_sub,binOp_mul,binOp_eql,binOp_neq,binOp_lss,binOp_leq,binOp_gtr,binOp_geq,binOp_and,binOp_or,binOp_xor,binOp_andNot,Op.intArith,Op.intBits,Sem.run_pure,Result.ok.injEq,and_true,exists_eq_left']
    first|exact of_int _ _|exact of_bool _)
  |(obtain⟨rfl,bI⟩:=ae
    simp only[binOp_quo,binOp_rem,Op.intDiv,bI,if_false,Sem.run_pure,Result.ok.injEq,and_true,exists_eq_left']
    exact of_int _ _)
  |(simp only[binOp_shl,binOp_shr,Op.shift,ae,if_false,Sem.run_pure,Result.ok.injEq,and_true,exists_eq_left']
    exact of_int _ _)
theorem qo (a:List UInt8):(⟨⟨a⟩⟩:ByteArray).toList=a:=ByteArray.toList_eq _
theorem C4 (a b:List UInt8):(⟨⟨a⟩⟩:ByteArray)++(⟨⟨b⟩⟩:ByteArray)=⟨⟨a++b⟩⟩:=by
 apply ByteArray.ext
 simp[ByteArray.data_append]
theorem C5 {P:Program} {op:BinOp} {T:TypeId} {a b:List UInt8} (he:i1 op a b=some av) (w:World):
  ∃v,(binOp op T (.string ⟨⟨a⟩⟩) (.string ⟨⟨b⟩⟩)).run P w= .ok v w∧ar w F s ak av v (fun _=>False):=by
 have I:∀op,binOp op T (.string ⟨⟨a⟩⟩) (.string ⟨⟨b⟩⟩)=Op.stringOp op ⟨⟨a⟩⟩ ⟨⟨b⟩⟩:=by intro op;cases op<;>rfl
 rw[I]
 unfold i1 at he
 cases op<;>simp only[Option.some.injEq]at he<;>first|(cases he;done)|skip
 case add=>
  split at he
  ·rename_i hl
   simp only[Option.some.injEq]at he;subst he
   have R:((ByteArray.size ⟨⟨a⟩⟩+ByteArray.size ⟨⟨b⟩⟩:Nat):Int)≤9223372036854775807:=by
    show((a.length+b.length:Nat):Int)≤_
    omega
   refine⟨.string ⟨⟨a++b⟩⟩,?_,j4 _⟩
   simp only[Op.stringOp,IntKind.max_i64]
   rw[if_neg (by omega),C4]
   rfl
  ·cases he
 all_goals
  subst he
  simp only[Op.stringOp,qo,Sem.run_pure,Result.ok.injEq,and_true,exists_eq_left']
  exact of_bool _
theorem uq (h:aY w0 F0 X F S s ak w) {v:Value} {y:Nat} {q:List Nat} (aC:ar w F s ak (.h y q) v (fun _=>False)) {sz:Nat} {xs:List j} (ab:j.sub q (s y)=some (.aK sz xs)):
  (xs=[]∧∃a,v= .slice a 0 0)∨∃b cap cur e fr,v= .slice (some ⟨b,0,none⟩) xs.length cap∧w.heap[b]? =some (.cells cur e fr)∧hb fr cur.size∧xs.length≤cap∧cap≤maxLen∧cur.size=cap*sz∧(∀d∈xs,d.wd=sz)∧
   ∃ay,aH w F xs (cur.toList.take (xs.length*sz)) ay∧(∀c,ay c→S y c)∧S y b:=by
 rw[ar]at aC
 obtain⟨bE,a,aD,aO,bg⟩:=aC _ ab rfl
 have R:Value.ea v=true:=bg
 rw[el R]at aO;subst aO
 have ao:=h.b0 y
 rw[ar.bx (e2 ab (.inl rfl))]at ao
 obtain⟨dz,bM,cD,dd,k0,bn,bp,cy,b_,c4⟩:=ctx q (s y) (bd (ak y)) (S y) none _ ao.2 ab
 rw[k0]at aD
 simp only[Option.some.injEq,Prod.mk.injEq,true_and]at aD
 obtain⟨rfl,rfl⟩:=aD
 rw[al]at b_
 rcases b_ with⟨rfl,cj,aa⟩|⟨b,cap,cur,aL,fr,cc,bb,b2,b9,bl,bf,iE,h3,j5,ns,jq,e7⟩
 ·simp at aa;exact .inl ⟨rfl,_,aa⟩
 ·simp at bb
  exact .inr ⟨b,cap,cur,aL,fr,bb,b9,bl.low,bf,iE,h3,j5,cc,ns,fun c ae=>bp _ (jq c ae),bp _ b2⟩
theorem xJ (h:aY w0 F0 X F S s ak w) {v:Value} {y:Nat} {q:List Nat} (aC:ar w F s ak (.h y q) v (fun _=>False)) {d:j} (ab:j.sub q (s y)=some (.bc d)):
  ∃b cur e fr,v= .pointer (some ⟨b,0,none⟩)∧w.heap[b]? =some (.cells cur e fr):=by
 rw[ar]at aC
 obtain⟨bE,a,aD,aO,bg⟩:=aC _ ab rfl
 have R:Value.ea v=true:=bg
 rw[el R]at aO;subst aO
 have ao:=h.b0 y
 rw[ar.bx (e2 ab (.inl rfl))]at ao
 obtain⟨dz,bM,cD,dd,k0,bn,bp,cy,b_,c4⟩:=ctx q (s y) (bd (ak y)) (S y) none _ ao.2 ab
 rw[k0]at aD
 simp only[Option.some.injEq,Prod.mk.injEq,true_and]at aD
 obtain⟨rfl,rfl⟩:=aD
 rw[al]at b_
 obtain⟨b,cur,aL,fr,cc,bb,b2,b9,_⟩:=b_
 simp at bb
 exact⟨b,cur,aL,fr,bb,b9⟩
theorem xK {P:Program} {T e:TypeId} (aG:P.underlying T=some (.slice e)) (w:World):∀d,(Op.equalIn (d+1) T (.slice none 0 0) (.slice none 0 0)).run P w= .ok true w∧
  ∀a n c,(Op.equalIn (d+1) T (.slice (some a) n c) (.slice none 0 0)).run P w= .ok false w:=by
 intro d
 refine⟨by simp[Op.equalIn,run_underlying aG],fun a n c=>by simp[Op.equalIn,run_underlying aG]⟩
theorem xL {P:Program} {T e:TypeId} (aG:P.underlying T=some (.pointer e)) (w:World):∀d,(Op.equalIn (d+1) T (.pointer none) (.pointer none)).run P w= .ok true w∧
  ∀a,(Op.equalIn (d+1) T (.pointer (some a)) (.pointer none)).run P w= .ok false w:=by
 intro d
 refine⟨by simp[Op.equalIn,run_underlying aG],fun a=>by simp[Op.equalIn,run_underlying aG]⟩
theorem xM {P:Program} {T:TypeId} (aG:P.underlying T=some .bool) (w:World):∀d a b,(Op.equalIn (d+1) T (.bool a) (.bool b)).run P w= .ok (a==b) w:=by
 intro d a b
 simp[Op.equalIn,run_underlying aG]
theorem xN (h:aY w0 F0 X F S s ak w) {x:j} {v:Value} (aC:ar w F s ak x v (fun _=>False)) {T e:TypeId} {r:Option Bool} (aA:hj s x=some r) (aG:C.P.underlying T=some (.slice e)):
  ∃b,(Op.equal T v (.slice none 0 0)).run C.P w= .ok b w∧(∀dp,r=some dp→dp=b)∧Value.ea v=true∧∃a n c,v= .slice a n c:=by
 have aE:=fun a n c=>(xK aG w 9999).2 a n c
 have eD:=(xK aG w 9999).1
 cases x with
 |bG=>
  have:=lE aC;subst this
  simp[hj]at aA;subst aA
  exact⟨true,eD,by simp,rfl,_,_,_,rfl⟩
 |slice xs=>
  have a5:=(ar.bx rfl).1 aC
  rw[al,el a5.1]at a5
  simp only[hj,Option.some.injEq]at aA
  obtain⟨_,⟨rfl,a,c,aa,_,nt⟩|⟨b,o,cap,c2,sz,aa,aw⟩⟩:=a5
  ·simp at aa aA;subst aa;subst aA
   cases a with
   |none=>
    have:=nt rfl;subst this
    exact⟨true,eD,by simp,rfl,_,_,_,rfl⟩
   |some a=>exact⟨false,aE _ _ _,by simp,rfl,_,_,_,rfl⟩
  ·simp at aa;subst aa
   refine⟨false,aE _ _ _,?_,rfl,_,_,_,rfl⟩
   subst aA
   split<;>simp
 |h y q=>
  simp only[hj]at aA
  split at aA
  ·rename_i sz xs ab
   simp only[Option.some.injEq]at aA
   rcases uq h aC ab with⟨rfl,a,rfl⟩|⟨b,cap,cur,aL,fr,rfl,_⟩
   ·simp at aA;subst aA
    cases a with
    |none=>exact⟨true,eD,by simp,rfl,_,_,_,rfl⟩
    |some a=>exact⟨false,aE _ _ _,by simp,rfl,_,_,_,rfl⟩
   ·refine⟨false,aE _ _ _,?_,rfl,_,_,_,rfl⟩
    subst aA
    split<;>simp
  ·cases aA
 |_=>simp[hj]at aA
theorem xO (h:aY w0 F0 X F S s ak w) {x:j} {v:Value} (aC:ar w F s ak x v (fun _=>False)) {T e:TypeId} {r:Bool} (aA:hk s x=some r) (aG:C.P.underlying T=some (.pointer e)):
  (Op.equal T v (.pointer none)).run C.P w= .ok r w∧∃a,v= .pointer a:=by
 have aE:=fun a=>(xL aG w 9999).2 a
 have eD:=(xL aG w 9999).1
 cases x with
 |ck=>
  have:=xH aC;subst this
  simp[hk]at aA;subst aA
  exact⟨eD,_,rfl⟩
 |ref d=>
  have a5:=(ar.bx rfl).1 aC
  rw[al,el a5.1]at a5
  simp[hk]at aA;subst aA
  obtain⟨_,b,o,c2,aa,_⟩:=a5
  simp at aa;subst aa
  exact⟨aE _,_,rfl⟩
 |h y q=>
  simp only[hk]at aA
  split at aA
  ·rename_i d ab
   simp only[Option.some.injEq]at aA;subst aA
   obtain⟨b,cur,e,fr,rfl,_⟩:=xJ h aC ab
   exact⟨aE _,_,rfl⟩
  ·cases aA
 |_=>simp[hk]at aA
theorem C6 (aQ:C.cY):∀(ag:List (TypeId×Nat)) (gs:List Field) (n:Nat) (ds es:List j) (r:Bool) (et l2 bz bA:List Value) (xs ys:Array Value) (bh cc:Nat→Prop),
  gs.map (fun g=>(g.type,g.offset))=ag→(gs.all fun f=>decide (f.name≠ "_"))=true→jo C ag n ds es=some r→aH w F ds bz bh→aH w F es bA cc→xs.toList=et++bz→et.length=n→ys.toList=l2++bA→l2.length=n→
  ∀m,(Op.eqFields (m+1) xs ys gs).run C.P w= .ok r w:=by
 intro ag
 induction ag with
 |nil=>
  intro gs n ds es r et l2 bz bA xs ys bh cc aZ aV he U aa ao hl aW ur m
  have:gs=[]:=by simpa using aZ
  subst this
  cases ds<;>cases es<;>simp[jo]at he
  subst he
  simp[Op.eqFields]
 |cons p ag ih=>
  obtain⟨gb,off⟩:=p
  intro gs n ds es r et l2 bz bA xs ys bh cc aZ aV he U aa ao hl aW ur m
  cases gs with
  |nil=>simp at aZ
  |cons g gs=>
   simp only[List.map_cons,List.cons.injEq,Prod.mk.injEq]at aZ
   obtain⟨⟨rfl,rfl⟩,aZ⟩:=aZ
   simp only[List.all_cons,Bool.and_eq_true,decide_eq_true_eq]at aV
   cases ds with
   |nil=>simp[jo]at he
   |cons d ds=>
   cases es with
   |nil=>simp[jo]at he
   |cons e es=>
   simp only[jo]at he
   split at he
   ·rename_i kJ
    rw[aH]at U aa
    obtain⟨aF,cj,sa,C7,rfl,dw,dU,eB,sb,dH⟩:=U
    obtain⟨h4,fP,Ps,C8,rfl,fj,ek,gd,fQ,mr⟩:=aa
    have step:∀(x y:Value) (z:Bool),(C.T g.type).flat=true→aF=[x]→h4=[y]→(∀m,(Op.equalIn (m+1) g.type x y).run C.P w= .ok z w)→∀fy,jo C ag (n+1) ds es=some fy→
      (Op.eqFields (m+1) xs ys (g::gs)).run C.P w= .ok (z&&fy) w:=by
     intro x y z fO C9 C_ heq fy cQ
     subst C9;subst C_
     have Da:xs[g.offset]? =some x:=by
      rw[←Array.getElem?_toList,ao,kJ,←hl,List.getElem?_append_right (Nat.le_refl _)];simp
     have Db:ys[g.offset]? =some y:=by
      rw[←Array.getElem?_toList,aW,kJ,←ur,List.getElem?_append_right (Nat.le_refl _)];simp
     have az:=ih gs (n+1) ds es fy (et++[x]) (l2++[y]) cj fP xs ys C7 C8 aZ aV.2 cQ dU ek (by rw[ao];simp) (by simp[hl]) (by rw[aW];simp) (by simp[ur]) m
     unfold Op.eqFields
     rw[if_pos aV.1]
     simp only[part,Sem.run_bind,uj aQ fO,Result.andThen_ok,Bool.false_eq_true,if_false,Da,Db,Sem.run_pure,heq]
     cases z
     ·simp
     ·simpa using az
    split at he
    ·rename_i k bn a bp b ai
     split at he
     ·rename_i sc
      obtain⟨rfl,rfl⟩:=sc
      rw[al]at dw fj
      simp only[Option.map_eq_some_iff]at he
      obtain⟨fy,cQ,rfl⟩:=he
      obtain⟨i,qp,xP,aE,aL,bb,b2,b9,bl,bf⟩:=aQ.info (dB ai (by simp))
      rw[ai]at bf
      have nu:=qj bf
      subst nu
      exact step _ _ _ (by simp[dR.flat,ai]) dw fj (fun m=>run_equalIn_int w m g.type _ _ a b bl) fy cQ
     ·cases he
    ·rename_i a b ai
     rw[al]at dw fj
     simp only[Option.map_eq_some_iff]at he
     obtain⟨fy,cQ,rfl⟩:=he
     obtain⟨i,qp,xP,aE,aL,bb,b2,b9,bl,bf⟩:=aQ.info (dB ai (by simp))
     rw[ai]at bf
     have nu:=ue bf
     subst nu
     exact step _ _ _ (by simp[dR.flat,ai]) dw fj (fun m=>run_equalIn_bool' w m g.type a b bl) fy cQ
    ·rename_i a b ai
     rw[al]at dw fj
     simp only[Option.map_eq_some_iff]at he
     obtain⟨fy,cQ,rfl⟩:=he
     obtain⟨i,qp,xP,aE,aL,bb,b2,b9,bl,bf⟩:=aQ.info (dB ai (by simp))
     rw[ai]at bf
     have nu:=kI bf
     subst nu
     refine step _ _ (a==b) (by simp[dR.flat,ai]) dw fj (fun m=> ?_) fy cQ
     rw[run_equalIn_string w m g.type _ _ bl,qo,qo]
    ·cases he
   ·cases he
theorem xQ (aQ:C.cY) {T:TypeId} {ag:List (TypeId×Nat)} (ai:(C.T T).k= .struct ag) {ds es:List j} {e5 fw:Value} {bh cc:Nat→Prop} {r:Bool} (ao:ar w F s ak (.agg ds) e5 bh) (aW:ar w F s ak (.agg es) fw cc)
  (bN:structEq C.P T=true) (he:jo C ag 0 ds es=some r) (op:BinOp) (qq qs:Operand):
  (eqGuard op T qq qs e5 fw).run C.P w= .ok () w∧(Op.equal T e5 fw).run C.P w= .ok r w:=by
 obtain⟨i,d,z,aE,aL,bb,b2,b9,bl,bf⟩:=aQ.info (dB ai (by simp))
 rw[ai]at bf
 obtain⟨gs,rfl,iE⟩:=qi bf
 have qt:C.P.fieldsOf T=gs:=by simp[Program.fieldsOf,bl]
 simp only[structEq,Bool.and_eq_true,Bool.not_eq_true',qt]at bN
 obtain⟨⟨fj,ek⟩,gd⟩:=bN
 obtain⟨⟨xs,rfl⟩,oq⟩:=(ar.bx rfl).1 ao
 obtain⟨⟨ys,rfl⟩,ni⟩:=(ar.bx rfl).1 aW
 rw[al]at oq ni
 constructor
 ·cases op<;>simp[eqGuard,ek]
 ·show(Op.equalIn (9999+1) T _ _).run C.P w=_
  rw[run_equalIn_struct w 9999 T xs ys (by rw[qt];exact bl) fj,qt]
  exact C6 aQ ag gs.toList 0 ds es r [] [] _ _ xs ys bh cc iE gd he oq ni rfl rfl rfl rfl 9998
theorem Dc (aQ:C.cY) (h:aY w0 F0 X F S s ak w) {op:BinOp} {T:TypeId} {x y:j} {e5 fw:Value} (qq qs:Operand) (ao:ar w F s ak x e5 (fun _=>False)) (aW:ar w F s ak y fw (fun _=>False))
  (he:bP C s op T x y=some av):Good C w0 F0 X ak w (do eqGuard op T qq qs e5 fw;binOp op T e5 fw) av s:=by
 unfold bP at he
 split at he
 ·have:=jn ao;subst this
  have:=jn aW;subst this
  obtain⟨v,U,aa⟩:=C3 (P:=C.P) (T:=T) he w
  refine Good.same h (v:=v) ?_ ?_ aa
  ·rw[eqGuard_at_int];exact U
  ·revert he;unfold eU;cases op<;>simp only<;>split<;>simp<;>(rintro rfl;rfl)
 ·have:=iH ao;subst this
  have:=iH aW;subst this
  obtain⟨v,U,aa⟩:=C5 (P:=C.P) (T:=T) he w
  refine Good.same h (v:=v) ?_ ?_ aa
  ·rw[eqGuard_at_string];exact U
  ·revert he;unfold i1;cases op<;>simp only<;>(try split)<;>simp<;>(try (rintro rfl;rfl))
 ·have:=mq ao;subst this
  have:=mq aW;subst this
  split at he
  ·rename_i ai
   simp only[Option.some.injEq]at he;subst he
   obtain⟨i,d,z,aE,aL,bb,b2,b9,bl,bf⟩:=aQ.info (dB ai (by simp))
   rw[ai]at bf
   have:=ue bf;subst this
   refine Good.same h ?_ rfl (of_bool _)
   rw[eqGuard_at_bool]
   simp[binOp,Op.equal,Op.maxDepth,xM bl w 9999]
  ·rename_i ai
   simp only[Option.some.injEq]at he;subst he
   obtain⟨i,d,z,aE,aL,bb,b2,b9,bl,bf⟩:=aQ.info (dB ai (by simp))
   rw[ai]at bf
   have:=ue bf;subst this
   refine Good.same h ?_ rfl (of_bool _)
   rw[eqGuard_at_bool]
   simp[binOp,Op.equal,Op.maxDepth,xM bl w 9999]
  ·cases he
 ·split at he
  ·rename_i ag ai
   split at he
   ·rename_i bN
    simp only[Option.map_eq_some_iff]at he
    obtain⟨r,aA,rfl⟩:=he
    obtain⟨aD,aO⟩:=xQ aQ ai ao aW bN aA .eql qq qs
    obtain⟨⟨xs,rfl⟩,_⟩:=(ar.bx rfl).1 ao
    obtain⟨⟨ys,rfl⟩,_⟩:=(ar.bx rfl).1 aW
    exact Good.same h (by simp[aD,binOp,aO]) rfl (of_bool _)
   ·cases he
  ·rename_i ag ai
   split at he
   ·rename_i bN
    simp only[Option.map_eq_some_iff]at he
    obtain⟨r,aA,rfl⟩:=he
    obtain⟨aD,aO⟩:=xQ aQ ai ao aW bN aA .neq qq qs
    obtain⟨⟨xs,rfl⟩,_⟩:=(ar.bx rfl).1 ao
    obtain⟨⟨ys,rfl⟩,_⟩:=(ar.bx rfl).1 aW
    exact Good.same h (by simp[aD,binOp,aO]) rfl (of_bool _)
   ·cases he
  ·cases he
 ·have:=lE aW;subst this
  split at he
  ·rename_i e ai
   simp only[Option.map_eq_some_iff]at he
   obtain⟨r,aA,rfl⟩:=he
   obtain⟨i,d,z,aE,aL,bb,b2,b9,bl,bf⟩:=aQ.info (dB ai (by simp))
   rw[ai]at bf
   have:=hh bf;subst this
   obtain⟨b,U,aa,aw,a0,fc,mh,rfl⟩:=xN h ao aA bl
   refine Good.same h (v:=.bool b) ?_ ?_ ?_
   ·rw[eqGuard_at_slice]
    simp[binOp,U]
   ·cases r<;>rfl
   ·cases r with
    |none=>exact uo b
    |some dp=>have:=aa dp rfl;subst this;simp only[qn,Bool.bne_false];exact of_bool _
  ·rename_i e ai
   simp only[Option.map_eq_some_iff]at he
   obtain⟨r,aA,rfl⟩:=he
   obtain⟨i,d,z,aE,aL,bb,b2,b9,bl,bf⟩:=aQ.info (dB ai (by simp))
   rw[ai]at bf
   have:=hh bf;subst this
   obtain⟨b,U,aa,aw,a0,fc,mh,rfl⟩:=xN h ao aA bl
   refine Good.same h (v:=.bool !b) ?_ ?_ ?_
   ·rw[eqGuard_at_slice]
    simp[binOp,U]
   ·cases r<;>rfl
   ·cases r with
    |none=>exact uo _
    |some dp=>have:=aa dp rfl;subst this;simp only[qn,Bool.bne_true];exact of_bool _
  ·cases he
 ·have:=xH aW;subst this
  split at he
  ·rename_i e ai
   simp only[Option.map_eq_some_iff]at he
   obtain⟨r,aA,rfl⟩:=he
   obtain⟨i,d,z,aE,aL,bb,b2,b9,bl,bf⟩:=aQ.info (dB ai (by simp))
   rw[ai]at bf
   have:=xy bf;subst this
   obtain⟨U,a0,rfl⟩:=xO h ao aA bl
   refine Good.same h (v:=.bool r) ?_ rfl (of_bool _)
   rw[eqGuard_at_pointer]
   simp[binOp,U]
  ·rename_i e ai
   simp only[Option.map_eq_some_iff]at he
   obtain⟨r,aA,rfl⟩:=he
   obtain⟨i,d,z,aE,aL,bb,b2,b9,bl,bf⟩:=aQ.info (dB ai (by simp))
   rw[ai]at bf
   have:=xy bf;subst this
   obtain⟨U,a0,rfl⟩:=xO h ao aA bl
   refine Good.same h (v:=.bool !r) ?_ rfl (of_bool _)
   rw[eqGuard_at_pointer]
   simp[binOp,U]
  ·cases he
 ·cases he
end
section
variable {C:bq} {w0 w:World} {F0 X F:Nat→Prop} {S:Nat→Nat→Prop} {s s1:af} {ak:Nat→Value} {av:j}
def un (op:UnOp) (x:j):Option j:=
 match op,x with
 | .not,.bool b=>some (.bool !b)
 | .not,.c1=>some .c1
 | .neg,.int k n=>some (.int k (k.wrap (0-n)))
 |_,_=>none
theorem Dd (h:aY w0 F0 X F S s ak w) {op:UnOp} {x:j} {v:Value} (aC:ar w F s ak x v (fun _=>False)) (he:un op x=some av):Good C w0 F0 X ak w (Op.unary op v) av s:=by
 unfold un at he
 split at he<;>first|(cases he;done)|(simp only[Option.some.injEq]at he;subst he)
 ·have:=mq aC;subst this
  exact Good.same h rfl rfl (of_bool _)
 ·obtain⟨b,rfl⟩:=xI aC
  exact Good.same h rfl rfl (uo _)
 ·have:=jn aC;subst this
  exact Good.same h rfl rfl (of_int _ _)
def ed (s:af) (x:j):Option j:=
 match x with
 | .ref d=>some (.ref d)
 | .fn f c=>some (.fn f c)
 | .h y q=>match j.sub q (s y)with
   |some (.bc _)=>some (.h y q)
   |_=>none
 |_=>none
theorem De {d:j} {v:Value} {ay:Nat→Prop} (h:ar w F s ak (.ref d) v ay):∃b o c2,v= .pointer (some ⟨b,o,none⟩)∧F b∧e8 w b o c2∧al w F d c2 (fun _=>False):=by
 have a5:=(ar.bx rfl).1 h
 rw[al,el a5.1]at a5
 obtain⟨_,b,o,c2,U,aa,aw,aN⟩:=a5
 simp at U;subst U
 exact⟨b,o,c2,rfl,aa,aw,aN⟩
theorem Df (h:aY w0 F0 X F S s ak w) {x:j} {v:Value} (aC:ar w F s ak x v (fun _=>False)) (he:ed s x=some av):
  av=x∧x.plain=true∧((∃a,v= .pointer (some a))∨∃f c,v= .func (.func f) #[] c):=by
 unfold ed at he
 split at he
 ·simp only[Option.some.injEq]at he;subst he
  obtain⟨b,o,c2,rfl,_⟩:=De aC
  exact⟨rfl,rfl,.inl ⟨_,rfl⟩⟩
 ·simp only[Option.some.injEq]at he;subst he
  rw[ar]at aC
  obtain⟨arr,rfl,_⟩:=aC
  exact⟨rfl,rfl,.inr ⟨_,_,rfl⟩⟩
 ·split at he
  ·rename_i d ab
   simp only[Option.some.injEq]at he;subst he
   obtain⟨b,cur,e,fr,rfl,_⟩:=xJ h aC ab
   exact⟨rfl,rfl,.inl ⟨_,rfl⟩⟩
  ·cases he
 ·cases he
def ex (s:af) (x:j) (k:Nat):Option j:=
 match x with
 | .tuple ds=>match ds[k]? with
   |some d=>if d.plain=true then some d else none
   |none=>none
 | .h y q=>match j.sub q (s y)with
   |some (.tuple ds)=>match ds[k]? with
    |some d=>if j.dA ds=true then none else some (if d.plain then d else .h y (q++[k]))
    |none=>none
   |_=>none
 |_=>none
theorem xR:∀(vs:List Value) (k:Nat) (x:Value) (ds:List j),vs[k]? =some x→vs.length=ds.length→(∀(ad:Nat) (d:j) (y:Value),ds[ad]? =some d→vs[ad]? =some y→(e9 y).length=d.wd)→
  ∃l r,vs.flatMap e9=l++(e9 x++r)∧l.length=j.cz (ds.take k)
 |[],k,x,ds,h,_,_=>by simp at h
 |v::vs,0,x,ds,h,hl,hw=>by
  simp at h;subst h
  exact⟨[],vs.flatMap e9,by simp,by simp[j.cz]⟩
 |v::vs,k+1,x,d::ds,h,hl,hw=>by
  obtain⟨l,r,aE,aL⟩:=xR vs k x ds (by simpa using h) (by simpa using hl) (fun ad d y U aa=>hw (ad+1) d y (by simpa using U) (by simpa using aa))
  refine⟨e9 v++l,r,by simp[aE],?_⟩
  have:=hw 0 d v (by simp) (by simp)
  simp[j.cz,aL,this]
 |v::vs,k+1,x,[],h,hl,hw=>by simp at hl
theorem Dg {d:j} {v:Value} (h:fh d v) (_hd:∀vs,d≠.tuple vs):bd v=e9 v:=by
 cases d with
 |agg ag=>obtain⟨arr,rfl⟩:=h;rfl
 |_=>
  have U:Value.ea v=true:=h
  cases v<;>first|rfl|(simp[Value.ea]at U)
theorem Dh {d:j} {v:Value} (h:fh d v) (ab:∀vs,d≠.tuple vs):cl d v:=by
 cases d with
 |tuple vs=>exact(ab _ rfl).elim
 |_=>exact h
theorem Di (h:aY w0 F0 X F S s ak w) {x:j} {v:Value} {k:Nat} (aC:ar w F s ak x v (fun _=>False)) (he:ex s x k=some av):Good C w0 F0 X ak w (Instr.extract v k) av s:=by
 have pick:∀(ds:List j) (d:j) (arr:Array Value),ds[k]? =some d→(arr.size=ds.length∧∀(k:Nat) (d:j) (x:Value),ds[k]? =some d→arr[k]? =some x→fh d x∧(∀vs,d≠.tuple vs)∧(e9 x).length=d.wd)→
   ∃x,arr[k]? =some x∧cl d x∧((bd (.tuple arr)).drop (j.cz (ds.take k))).take d.wd=bd x:=by
  intro ds d arr ab ⟨bj,jj⟩
  have cv:k<arr.size:=by rw[bj];exact(List.getElem?_eq_some_iff.1 ab).1
  have ao:arr[k]? =some arr[k]:=Array.getElem?_eq_getElem cv
  obtain⟨aD,aO,bg⟩:=jj k d _ ab ao
  obtain⟨l,r,aE,aL⟩:=xR arr.toList k arr[k] ds (by simp[cv]) (by simpa using bj) (fun ad d y U aa=>(jj ad d y U (by simpa using aa)).2.2)
  refine⟨_,ao,Dh aD aO,?_⟩
  rw[Dg aD aO]
  simp only[bd]
  rw[aE]
  exact nb l _ r _ _ aL bg
 unfold ex at he
 split at he
 ·rename_i ds
  split at he
  ·rename_i d ab
   split at he
   ·rename_i an
    simp only[Option.some.injEq]at he;subst he
    have a5:=(ar.bx rfl).1 aC
    obtain⟨⟨arr,rfl,bj⟩,dN⟩:=a5
    obtain⟨x,ao,R,ae⟩:=pick ds d arr ab bj
    have aA:(Instr.extract (.tuple arr) k).run C.P w= .ok x w:=by simp[Instr.extract,ao]
    rw[al]at dN
    obtain⟨bz,dy,bA,bh,e1,e,eT,dw,dU,eB,dH,hX⟩:=aH.pick ds _ _ k d dN ab
    rw[e,nb bz dy bA _ _ eT (al.length _ _ _ dH)]at ae
    by_cases aG:d.tree=true
    ·exact Good.same h aA an ((ar.bx aG).2 ⟨R,by rw[←ae];exact al.plain _ _ _ _ an dH⟩)
    ·cases d<;>first|exact(aG rfl).elim|(rw[al]at dH;exact dH.elim)|exact Good.same h aA rfl (by rw[ar];trivial)|(have a2:=al.plain _ _ _ (fun _=>False) an dH;rw[ae,el (by exact R)]at a2;exact Good.same h aA rfl (ar.kK _ _ rfl a2))
   ·cases he
  ·cases he
 ·rename_i y q
  split at he
  ·rename_i ds ab
   split at he
   ·rename_i d ai
    split at he
    ·cases he
    ·rename_i eJ
     simp only[Option.some.injEq]at he
     have eJ:(j.tuple ds).plain=false:=by simpa [j.plain]using eJ
     rw[ar]at aC
     obtain⟨bE,a,aD,aO,bg⟩:=aC _ ab eJ
     obtain⟨arr,rfl,bj⟩:=bg
     obtain⟨x,ao,R,ae⟩:=pick ds d arr ai bj
     have aA:(Instr.extract (.tuple arr) k).run C.P w= .ok x w:=by simp[Instr.extract,ao]
     have aW:=h.b0 y
     rw[ar.bx (e2 ab (.inl eJ))]at aW
     obtain⟨dz,bM,cD,dd,k0,bn,bp,cy,b_,c4⟩:=ctx q (s y) (bd (ak y)) (S y) none _ aW.2 ab
     rw[k0]at aD
     simp only[Option.some.injEq,Prod.mk.injEq,true_and]at aD
     obtain⟨rfl,rfl⟩:=aD
     rw[aO]at ae
     split at he
     ·rename_i an
      subst he
      rw[al]at b_
      obtain⟨bz,dy,bA,bh,e1,e,eT,dw,dU,eB,dH,hX⟩:=aH.pick ds _ _ k d b_ ai
      rw[e,nb bz dy bA _ _ eT (al.length _ _ _ dH)]at ae
      by_cases aG:d.tree=true
      ·exact Good.same h aA an ((ar.bx aG).2 ⟨R,by rw[←ae];exact al.plain _ _ _ _ an dH⟩)
      ·cases d<;>first|exact(aG rfl).elim|(rw[al]at dH;exact dH.elim)|exact Good.same h aA rfl (by rw[ar];trivial)|(have a2:=al.plain _ _ _ (fun _=>False) an dH;rw[ae,el (by exact R)]at a2;exact Good.same h aA rfl (ar.kK _ _ rfl a2))
     ·subst he
      refine Good.same h aA rfl ?_
      rw[ar]
      intro d2 fa qe
      rw[qh w q _ _ _ _ _ _ [k] k0]
      rw[qg _ _ _ _ ab]at fa
      simp only[j.sub,ai,Option.some.injEq]at fa
      subst fa
      simp only[bX,ai]
      exact⟨_,_,rfl,ae.symm,R⟩
   ·cases he
  ·cases he
 ·cases he
def h5 (C:bq) (s:af) (T:TypeId) (x:j) (k:Nat):Option j:=
 match(C.T T).k with
 | .struct ag=>match ag[k]? with
   |some (gb,off)=>match x with
    | .agg ds=>match ds[k]? with
      |some d=>if j.cz (ds.take k)=off∧fits C gb d=true∧d.plain=true∧d.tree=true then some d else none
      |none=>none
    | .h y q=>match j.sub q (s y)with
      |some (.agg ds)=>match ds[k]? with
       |some d=>if j.cz (ds.take k)=off∧fits C gb d=true∧j.dA ds=false∧d.tree=true then some (if d.plain then d else .h y (q++[k]))else none
       |none=>none
      |_=>none
    |_=>none
   |none=>none
 |_=>none
theorem Dj (aQ:C.cY) (h:aY w0 F0 X F S s ak w) {T:TypeId} {x:j} {v:Value} {k:Nat} (aC:ar w F s ak x v (fun _=>False)) (he:h5 C s T x k=some av):Good C w0 F0 X ak w (Instr.field T v k) av s:=by
 have key:∀(ag:List (TypeId×Nat)) (gb:TypeId) (off:Nat),(C.T T).k= .struct ag→ag[k]? =some (gb,off)→∀(ds:List j) (d:j) (arr:Array Value) (ay:Nat→Prop),ds[k]? =some d→j.cz (ds.take k)=off→fits C gb d=true→aH w F ds arr.toList ay→
   ∃x e1,(Instr.field T (.agg arr) k).run C.P w= .ok x w∧cl d x∧al w F d (bd x) e1∧(arr.toList.drop off).take d.wd=bd x:=by
  intro ag gb off ai bk ds d arr ay ab kJ fb dN
  obtain⟨i,qp,z,aE,aL,bb,b2,b9,bl,bf⟩:=aQ.info (dB ai (by simp))
  rw[ai]at bf
  obtain⟨gs,rfl,iE⟩:=qi bf
  obtain⟨g,aD,rfl,rfl⟩:∃g,gs[k]? =some g∧g.type=gb∧g.offset=off:=by
   rw[←iE,List.getElem?_map]at bk
   simp only[Option.map_eq_some_iff,Prod.mk.injEq]at bk
   obtain⟨g,U,aa,aw⟩:=bk
   exact⟨g,by simpa using U,aa,aw⟩
  obtain⟨bz,dy,bA,bh,e1,e,eT,dw,dU,eB,dH,hX⟩:=aH.pick ds _ _ k d dN ab
  obtain⟨x,aA,xS,iF⟩:=CT (w:=w) aQ e (eT.trans kJ) dH fb
  refine⟨x,e1,?_,iF,by rw[xS];exact dH,?_⟩
  ·simp[Instr.field,run_underlying bl,aD,asAgg,aA]
  ·rw[e,xS,←kJ];exact nb bz dy bA _ _ eT (al.length _ _ _ dH)
 have xT:∀(d:j) (x:Value) (e1:Nat→Prop),d.plain=true→cl d x→al w F d (bd x) e1→ar w F s ak d x (fun _=>False):=by
  intro d x e1 an R dN
  by_cases aG:d.tree=true
  ·exact(ar.bx aG).2 ⟨R,al.plain _ _ _ _ an dN⟩
  ·cases d<;>first|exact(aG rfl).elim|(rw[al]at dN;exact dN.elim)|(rw[ar];trivial)|(have a2:=al.plain _ _ _ (fun _=>False) an dN;rw[el (by exact R)]at a2;exact ar.kK _ _ rfl a2)
 unfold h5 at he
 split at he
 ·rename_i ag ai
  split at he
  ·rename_i gb off bk
   split at he
   ·rename_i ds
    split at he
    ·rename_i d ab
     split at he
     ·rename_i ae
      simp only[Option.some.injEq]at he;subst he
      obtain⟨⟨arr,rfl⟩,dN⟩:=(ar.bx rfl).1 aC
      rw[al]at dN
      obtain⟨x,e1,aA,R,uu,_⟩:=key ag gb off ai bk ds d arr _ ab ae.1 ae.2.1 dN
      exact Good.same h aA ae.2.2.1 (xT d x e1 ae.2.2.1 R uu)
     ·cases he
    ·cases he
   ·rename_i y q
    split at he
    ·rename_i ds ab
     split at he
     ·rename_i d mm
      split at he
      ·rename_i ae
       simp only[Option.some.injEq]at he
       have eJ:(j.agg ds).plain=false:=by simpa [j.plain]using ae.2.2.1
       rw[ar]at aC
       obtain⟨bE,a,aD,aO,bg⟩:=aC _ ab eJ
       obtain⟨arr,rfl⟩:=bg
       have aW:=h.b0 y
       rw[ar.bx (e2 ab (.inl eJ))]at aW
       obtain⟨dz,bM,cD,dd,k0,bn,bp,cy,b_,c4⟩:=ctx q (s y) (bd (ak y)) (S y) none _ aW.2 ab
       rw[k0]at aD
       simp only[Option.some.injEq,Prod.mk.injEq,true_and]at aD
       obtain⟨rfl,rfl⟩:=aD
       rw[al,←aO]at b_
       obtain⟨x,e1,aA,R,uu,e3⟩:=key ag gb off ai bk ds d arr _ mm ae.1 ae.2.1 b_
       by_cases an:d.plain=true
       ·rw[if_pos an]at he;subst he
        exact Good.same h aA an (xT d x e1 an R uu)
       ·rw[if_neg an]at he;subst he
        refine Good.same h aA rfl ?_
        rw[ar]
        intro d2 fa qe
        rw[qh w q _ _ _ _ _ _ [k] k0]
        rw[qg _ _ _ _ ab]at fa
        simp only[j.sub,mm,Option.some.injEq]at fa
        subst fa
        simp only[bX,mm]
        refine⟨_,_,rfl,?_,R⟩
        rw[ae.1,←aO];exact e3.symm
      ·cases he
     ·cases he
    ·cases he
   ·cases he
  ·cases he
 ·cases he
end
section
variable {C:bq} {w0 w:World} {F0 X F:Nat→Prop} {S:Nat→Nat→Prop} {s s1:af} {ak:Nat→Value} {av:j}
def idx (C:bq) (T:TypeId) (x i:j):Option j:=
 match(C.T T).k,x,i with
 | .str,.str l,.int _ n=>if 0≤n then(match l[n.toNat]? with|some b=>some (.int .u8 b.toNat)|none=>none)else none
 |_,_,_=>none
theorem Dk (l:List UInt8) (n:Nat):(⟨⟨l⟩⟩:ByteArray)[n]? =l[n]? :=by
 by_cases h:n<l.length
 ·have a5:n<(⟨⟨l⟩⟩:ByteArray).size:=h
  rw[List.getElem?_eq_getElem h,getElem?_pos (⟨⟨l⟩⟩:ByteArray) n a5]
  rfl
 ·have a5:¬n<(⟨⟨l⟩⟩:ByteArray).size:=h
  rw[List.getElem?_eq_none (by omega),getElem?_neg (⟨⟨l⟩⟩:ByteArray) n a5]
theorem Dl (aQ:C.cY) (h:aY w0 F0 X F S s ak w) {T:TypeId} {x i:j} {v jl:Value} (aC:ar w F s ak x v (fun _=>False)) (az:ar w F s ak i jl (fun _=>False)) (he:idx C T x i=some av):
  Good C w0 F0 X ak w (Instr.index T v jl) av s:=by
 unfold idx at he
 split at he
 ·rename_i l k n ai
  have:=iH aC;subst this
  have:=jn az;subst this
  obtain⟨i,d,z,aE,aL,bb,b2,b9,bl,bf⟩:=aQ.info (dB ai (by simp))
  rw[ai]at bf
  have:=kI bf;subst this
  split at he
  ·rename_i aV
   split at he
   ·rename_i b I
    simp only[Option.some.injEq]at he;subst he
    refine Good.same h ?_ rfl (of_int _ _)
    simp[Instr.index,asIntOf,run_underlying bl,aV,Dk,I]
   ·cases he
  ·cases he
 ·cases he
def lenOf (s:af):j→Option Nat
 | .str l=>some l.length
 | .bG=>some 0
 | .slice xs=>some xs.length
 | .h y q=>match j.sub q (s y)with
   |some (.aK _ xs)=>some xs.length
   |_=>none
 |_=>none
def h6 (C:bq) (s:af) (T:TypeId) (x:j):Option j:=
 match(C.T T).k,x with
 | .str,.str l=>some (.int .i64 l.length)
 | .slice _,.bG=>some (.int .i64 0)
 | .slice _,.slice xs=>some (.int .i64 xs.length)
 | .slice _,.h y q=>match j.sub q (s y)with
   |some (.aK _ xs)=>some (.int .i64 xs.length)
   |_=>none
 |_,_=>none
theorem sd {xs:List j} {v:Value} {ay:Nat→Prop} (h:ar w F s ak (.slice xs) v ay):(xs=[]∧∃a c,v= .slice a 0 c∧c≤maxLen∧(a=none→c=0))∨
  ∃b o cap c2 sz,v= .slice (some ⟨b,o,none⟩) xs.length cap∧F b∧xs.length≤cap∧cap≤maxLen∧(∀d∈xs,d.wd=sz)∧e8 w b o c2∧aH w F xs c2 (fun _=>False):=by
 have a5:=(ar.bx rfl).1 h
 rw[al,el a5.1]at a5
 obtain⟨_,⟨rfl,a,c,aa,aw⟩|⟨b,o,cap,c2,sz,aa,aw⟩⟩:=a5
 ·simp at aa;exact .inl ⟨rfl,a,c,aa,aw⟩
 ·simp at aa;exact .inr ⟨b,o,cap,c2,sz,aa,aw⟩
theorem Dm (aQ:C.cY) (h:aY w0 F0 X F S s ak w) {T ty:TypeId} {x:j} {v:Value} (aC:ar w F s ak x v (fun _=>False)) (he:h6 C s T x=some av):
  Good C w0 F0 X ak w (Builtin.len_ #[T] ty #[v]) av s:=by
 unfold h6 at he
 split at he
 ·rename_i l ai
  have:=iH aC;subst this
  obtain⟨i,d,z,aE,aL,bb,b2,b9,bl,bf⟩:=aQ.info (dB ai (by simp))
  rw[ai]at bf
  have:=kI bf;subst this
  simp only[Option.some.injEq]at he;subst he
  refine Good.same h ?_ rfl (of_int _ _)
  simp[Builtin.len_,run_underlying bl,goInt]
  rfl
 ·rename_i e ai
  have:=lE aC;subst this
  obtain⟨i,d,z,aE,aL,bb,b2,b9,bl,bf⟩:=aQ.info (dB ai (by simp))
  rw[ai]at bf
  have:=hh bf;subst this
  simp only[Option.some.injEq]at he;subst he
  refine Good.same h ?_ rfl (of_int _ _)
  simp[Builtin.len_,run_underlying bl,goInt]
 ·rename_i e xs ai
  obtain⟨i,d,z,aE,aL,bb,b2,b9,bl,bf⟩:=aQ.info (dB ai (by simp))
  rw[ai]at bf
  have:=hh bf;subst this
  simp only[Option.some.injEq]at he;subst he
  refine Good.same h ?_ rfl (of_int _ _)
  rcases sd aC with⟨rfl,a,c,rfl,_⟩|⟨b,o,cap,c2,sz,rfl,_⟩<;>simp[Builtin.len_,run_underlying bl,goInt]
 ·rename_i e y q ai
  split at he
  ·rename_i sz xs ab
   obtain⟨i,d,z,aE,aL,bb,b2,b9,bl,bf⟩:=aQ.info (dB ai (by simp))
   rw[ai]at bf
   have:=hh bf;subst this
   simp only[Option.some.injEq]at he;subst he
   refine Good.same h ?_ rfl (of_int _ _)
   rcases uq h aC ab with⟨rfl,_,rfl⟩|⟨b,cap,cur,aL,fr,rfl,_⟩<;>simp[Builtin.len_,run_underlying bl,goInt]
  ·cases he
 ·cases he
def bytesOf:List j→Option (List UInt8)
 |[]=>some []
 | .int .u8 n::r=>if 0≤n∧n<256 then(bytesOf r).map (UInt8.ofNat n.toNat::·)else none
 |_=>none
def gP (b:UInt8):j:=.int .u8 b.toNat
theorem Dn (l:List UInt8):bytesOf (l.map gP)=some l:=by
 induction l with
 |nil=>rfl
 |cons b l ih=>
  have I:b.toNat<256:=b.toNat_lt
  simp only[List.map_cons,gP,bytesOf,Int.toNat_natCast]
  rw[if_pos (by omega),ih]
  simp
theorem uv:∀(xs:List j) (l:List UInt8) (cs:List Value) (ay:Nat→Prop),bytesOf xs=some l→aH w F xs cs ay→cs=l.map (fun b=>.int .u8 (b.toNat:Int))∧xs.length=l.length
 |[],l,cs,ay,h,aA=>by simp[bytesOf]at h;subst h;rw[aH]at aA;subst aA;exact⟨rfl,rfl⟩
 |x::xs,l,cs,ay,h,aA=>by
  unfold bytesOf at h
  split at h
  ·rename_i e;cases e
  ·rename_i n r e
   simp only[List.cons.injEq]at e
   obtain⟨rfl,rfl⟩:=e
   split at h
   ·rename_i aV
    simp only[Option.map_eq_some_iff]at h
    obtain⟨cR,U,rfl⟩:=h
    rw[aH]at aA
    obtain⟨bz,bA,bh,cc,rfl,aa,aw,_⟩:=aA
    obtain⟨rfl,aN⟩:=uv xs cR bA cc U aw
    rw[al]at aa;subst aa
    refine⟨?_,by simp[aN]⟩
    simp only[List.map_cons,List.cons_append,List.nil_append,List.cons.injEq,and_true,Value.int.injEq,true_and]
    simp only[UInt8.toNat_ofNat']
    omega
   ·cases h
  ·cases h
theorem aY.qu (h:aY w0 F0 X F S s ak w) {aq:World} {sz cap:Nat} {xs:List j} {cur:Array Value} {e:TypeId} {fr:Nat×Nat} {Sn:Nat→Prop}
  (hw:aq.heap=w.heap.push (.cells cur e fr)) (U:aq.os=w.os) (aa:aq.tape=w.tape) (aw:Out aq w)
  (bk:hb fr (cur.size+(sz-1))) (hle:xs.length≤cap) (hm:cap≤maxLen) (cp:cur.size=cap*sz) (gM:∀d∈xs,d.wd=sz) (aC:aH w F xs (cur.toList.take (xs.length*sz)) Sn)
  (cv:∀b,Sn b→b<w.heap.size) (aR:∀b,Sn b→¬F b) (ba:∀u b,Sn b→¬S u b) (bI:∀b,Sn b→X b∨w0.heap.size≤b):
  aY w0 F0 X F S s ak aq∧hg w0 X F S s ak aq (.aK sz xs) (.slice (some ⟨w.heap.size,0,none⟩) xs.length cap):=by
 have hold:∀b,b<w.heap.size→aq.heap[b]? =w.heap[b]? :=by
  intro b I
  rw[hw,Array.getElem?_push,if_neg (by omega)]
 have Pt:aq.heap.size=w.heap.size+1:=by rw[hw];simp
 refine⟨h.grow hold (by omega) U aa aw,.inr ⟨rfl,rfl,fun b=>b=w.heap.size∨Sn b,?_,?_,?_,?_,?_⟩⟩
 ·simp only[bd,e9]
  rw[al]
  refine .inr ⟨w.heap.size,cap,cur,e,fr,Sn,rfl,.inl rfl,?_,bk,hle,hm,cp,gM,?_,fun c ae=>.inr ae,fun ae=>Nat.lt_irrefl _ (cv _ ae)⟩
  ·rw[hw];simp
  ·exact aH.frame (fun b I=>hold b (h.c_ b I)) _ _ _ (fun b I=>hold b (cv b I)) aC
 ·rintro b (rfl|I)
  ·omega
  ·have:=cv b I;omega
 ·rintro b (rfl|I) lD
  ·exact Nat.lt_irrefl _ (h.c_ _ lD)
  ·exact aR b I lD
 ·rintro u b (rfl|I) hu
  ·exact Nat.lt_irrefl _ (h.cP _ _ hu)
  ·exact ba u b I hu
 ·rintro b (rfl|I)
  ·exact .inr h.size
  ·exact bI b I
def dD (C:bq) (s:af) (A B:TypeId) (x:j):Option j:=
 if(C.T A).ok=true then
 match(C.T B).k,x with
 | .int k,.int _ n=>some (.int k (k.wrap n))
 | .str,.str l=>match(C.T A).k with
   | .str=>some (.str l)
   |_=>none
 | .str,x=>match(C.T A).k with
   | .slice e=>match(C.T e).k with
     | .int .u8=>match x with
       | .bG=>some (.str [])
       | .slice xs=>(bytesOf xs).map .str
       | .h y q=>match j.sub q (s y)with
         |some (.aK 1 xs)=>(bytesOf xs).map .str
         |_=>none
       |_=>none
     |_=>none
   |_=>none
 | .slice e,.str l=>match(C.T A).k,(C.T e).k with
   | .str,.int .u8=>if l.length≤9223372036854775807 then some (.aK 1 (l.map gP))else none
   |_,_=>none
 |_,_=>none
 else none
theorem xU (l:List UInt8) (ay:Nat→Prop):aH w F (l.map gP) (l.map fun b=>.int .u8 (b.toNat:Int)) ay:=by
 induction l generalizing ay with
 |nil=>simp only[List.map_nil];rw[aH]
 |cons b l ih=>
  simp only[List.map_cons]
  rw[aH]
  exact⟨[.int .u8 (b.toNat:Int)],_,fun _=>False,fun _=>False,rfl,by rw[gP,al],ih _,fun _ h=>h.elim,fun _ h=>h.elim,fun _ h=>h.elim⟩
theorem Dp (aQ:C.cY) (h:aY w0 F0 X F S s ak w) {A B:TypeId} {x:j} {v:Value} (aC:ar w F s ak x v (fun _=>False)) (he:dD C s A B x=some av):
  Good C w0 F0 X ak w (convert A B v) av s:=by
 unfold dD at he
 split at he
 ·rename_i fF
  obtain⟨dK,Pu,Pv,aF,cj,a3,a4,qv,kM,kN⟩:=aQ.info fF
  split at he
  ·rename_i k bY n ai
   have:=jn aC;subst this
   obtain⟨i,d,z,aE,aL,bb,b2,b9,bl,bf⟩:=aQ.info (dB ai (by simp))
   rw[ai]at bf
   have:=qj bf;subst this
   simp only[Option.some.injEq]at he;subst he
   refine Good.same h ?_ rfl (of_int _ _)
   simp[convert,run_underlying kM,run_underlying bl,Conv.intToInt]
  ·rename_i l ai
   have:=iH aC;subst this
   obtain⟨i,d,z,aE,aL,bb,b2,b9,bl,bf⟩:=aQ.info (dB ai (by simp))
   rw[ai]at bf
   have:=kI bf;subst this
   split at he
   ·rename_i qw
    rw[qw]at kN
    have:=kI kN;subst this
    simp only[Option.some.injEq]at he;subst he
    refine Good.same h ?_ rfl (j4 _)
    simp[convert,run_underlying kM,run_underlying bl]
   ·cases he
  ·rename_i x ai _
   obtain⟨i,d,z,aE,aL,bb,b2,b9,bl,bf⟩:=aQ.info (dB ai (by simp))
   rw[ai]at bf
   have:=kI bf;subst this
   split at he
   ·rename_i e qw
    rw[qw]at kN
    have:=hh kN;subst this
    split at he
    ·rename_i qx
     obtain⟨lz,aT,lA,f1,f2,f3,f4,f5,f6,f7⟩:=aQ.info (dB qx (by simp))
     rw[qx]at f7
     have:=qj f7;subst this
     have fin:∀(l:List UInt8) (b o cap:Nat),e8 w b o (l.map fun b=>.int .u8 (b.toNat:Int))→(convert A B (.slice (some ⟨b,o,none⟩) l.length cap)).run C.P w= .ok (.string ⟨⟨l⟩⟩) w:=by
      intro l b o cap gj
      refine run_convert_bytes_back w A B e ⟨b,o,none⟩ cap l kM f6 bl (fun ad aS=> ?_)
      rw[Addr.add_lit]
      exact gj ad _ (by simp[aS])
     have nil:(convert A B (.slice none 0 0)).run C.P w= .ok (.string ⟨⟨[]⟩⟩) w:=by
      simp[convert,run_underlying kM,run_underlying bl,run_underlying f6,Conv.bytesToString]
      rfl
     split at he
     ·have:=lE aC;subst this
      simp only[Option.some.injEq]at he;subst he
      exact Good.same h nil rfl (j4 _)
     ·rename_i xs _
      simp only[Option.map_eq_some_iff]at he
      obtain⟨l,hl,rfl⟩:=he
      rcases sd aC with⟨rfl,a,c,rfl,_,nt⟩|⟨b,o,cap,c2,sz,rfl,U,aa,aw,aN,a2,bJ⟩
      ·simp[bytesOf]at hl;subst hl
       cases a with
       |none=>
        have:=nt rfl;subst this
        exact Good.same h nil rfl (j4 _)
       |some a=>
        refine Good.same h ?_ rfl (j4 _)
        exact run_convert_bytes_back w A B e a c [] kM f6 bl (fun ad aS=>by simp at aS)
      ·obtain⟨rfl,bO⟩:=uv xs l c2 _ hl bJ
       rw[bO]
       exact Good.same h (fin l b o cap a2) rfl (j4 _)
     ·rename_i y q
      split at he
      ·rename_i xs ab
       simp only[Option.map_eq_some_iff]at he
       obtain⟨l,hl,rfl⟩:=he
       rcases uq h aC ab with⟨rfl,a,rfl⟩|⟨b,cap,cur,aL,fr,rfl,U,aa,aw,aN,a2,bJ,ay,bO,_⟩
       ·simp[bytesOf]at hl;subst hl
        cases a with
        |none=>exact Good.same h nil rfl (j4 _)
        |some a=>
         refine Good.same h ?_ rfl (j4 _)
         exact run_convert_bytes_back w A B e a 0 [] kM f6 bl (fun ad aS=>by simp at aS)
       ·obtain⟨dg,eR⟩:=uv xs l _ _ hl bO
        rw[eR]
        refine Good.same h (fin l b 0 cap ?_) rfl (j4 _)
        rw[←dg]
        exact oh U _
      ·cases he
     ·cases he
    ·cases he
   ·cases he
  ·rename_i e l ai
   have:=iH aC;subst this
   obtain⟨i,d,z,aE,aL,bb,b2,b9,bl,bf⟩:=aQ.info (dB ai (by simp))
   rw[ai]at bf
   have:=hh bf;subst this
   split at he
   ·rename_i qw qx
    rw[qw]at kN
    have:=kI kN;subst this
    obtain⟨lz,aT,lA,f1,f2,f3,f4,f5,f6,f7⟩:=aQ.info (dB qx (by simp))
    rw[qx]at f7
    have:=qj f7;subst this
    split at he
    ·rename_i hl
     simp only[Option.some.injEq]at he;subst he
     have R:(⟨⟨l⟩⟩:ByteArray).size=l.length:=rfl
     have qy:=grownCap_ge w l.length 0 e
     have Dq:=grownCap_le_maxLen w l.length 0 e (by unfold maxLen;omega)
     have xV:(bytesRow ⟨⟨l⟩⟩ (grownCap w l.length 0 e)).toList=l.map (fun b=>Value.int .u8 (b.toNat:Int))++List.replicate (grownCap w l.length 0 e-l.length) (.int .u8 0):=by
      simp[bytesRow,R]
     have cp:(bytesRow ⟨⟨l⟩⟩ (grownCap w l.length 0 e)).size=grownCap w l.length 0 e*1:=by
      have:(bytesRow ⟨⟨l⟩⟩ (grownCap w l.length 0 e)).size=(bytesRow ⟨⟨l⟩⟩ (grownCap w l.length 0 e)).toList.length:=by simp
      rw[this,xV];simp;omega
     have jm:=run_bytes_of_string w A B e ⟨⟨l⟩⟩ kM bl f6
     rw[R]at jm
     have g1:=h.qu (aq:=w.drew.alloc (.cells (bytesRow ⟨⟨l⟩⟩ (grownCap w l.length 0 e)) e ((bytesRow ⟨⟨l⟩⟩ (grownCap w l.length 0 e)).size,(bytesRow ⟨⟨l⟩⟩ (grownCap w l.length 0 e)).size+1)))
      (sz:=1) (cap:=grownCap w l.length 0 e) (xs:=l.map gP) (cur:=bytesRow ⟨⟨l⟩⟩ (grownCap w l.length 0 e)) (e:=e) (Sn:=fun _=>False) rfl rfl rfl ⟨rfl,fun _=>Nat.le_succ _⟩
      (fun o bs ⟨U,_⟩=>by simp only at U;omega) (by simpa using qy) Dq cp (by intro d ab;obtain⟨b,_,rfl⟩:=List.mem_map.1 ab;rfl)
      (by rw[xV,List.take_left' (by simp)];exact xU l _) (fun _ h=>h.elim) (fun _ h=>h.elim) (fun _ _ h=>h.elim) (fun _ h=>h.elim)
     simp only[List.length_map]at g1
     exact⟨_,_,F,S,jm,g1.1,g1.2⟩
    ·cases he
   ·cases he
  ·cases he
 ·cases he
end
section
variable {C:bq} {w0 w:World} {F0 X F:Nat→Prop} {S:Nat→Nat→Prop} {s s1:af} {ak:Nat→Value} {av:j}
def fu (d:Nat):Option j→Option Nat
 |none=>some d
 |some (.int _ n)=>if 0≤n then some n.toNat else none
 |some _=>none
def cU (C:bq) (s:af) (T:TypeId) (x:j) (bw az:Option j):Option (j×af):=
 match(C.T T).k,x with
 | .str,.str l=>match fu 0 bw,fu l.length az with
   |some a,some b=>if a≤b∧b≤l.length then some (.str ((l.take b).drop a),s)else none
   |_,_=>none
 | .slice e,.bG=>match fu 0 bw,fu 0 az with
   |some 0,some 0=>if(C.T e).ok=true then some (.bG,s)else none
   |_,_=>none
 | .slice e,.slice xs=>match fu 0 bw,fu xs.length az with
   |some a,some b=>if a≤b∧b≤xs.length∧(C.T e).ok=true∧(∀d∈xs,d.wd=(C.T e).sz)then some (.slice ((xs.take b).drop a),s)else none
   |_,_=>none
 | .slice e,.h y q=>match j.sub q (s y)with
   |some (.aK sz xs)=>match fu 0 bw,fu xs.length az with
    |some 0,some b=>if b≤xs.length∧(C.T e).ok=true then(match bL s (.h y q)with|some (_,s1)=>some (.aK sz (xs.take b),s1)|none=>none)else none
    |_,_=>none
   |_=>none
 |_,_=>none
def lF (w:World) (F:Nat→Prop) (s:af) (ak:Nat→Value):Option j→Option Value→Prop
 |none,none=>True
 |some d,some v=>ar w F s ak d v (fun _=>False)
 |_,_=>False
theorem xW {d:Nat} {o:Option j} {v:Option Value} (bs:lF w F s ak o v) {a:Nat} (h:fu d o=some a):(o=none∧v=none∧a=d)∨∃k,v=some (.int k a):=by
 cases o with
 |none=>
  cases v with
  |none=>simp[fu]at h;exact .inl ⟨rfl,rfl,h.symm⟩
  |some v=>simp[lF]at bs
 |some x=>
  cases v with
  |none=>simp[lF]at bs
  |some v=>
   simp only[lF]at bs
   cases x with
   |int k n=>
    have:=jn bs;subst this
    simp only[fu]at h
    split at h
    ·rename_i aV
     simp only[Option.some.injEq]at h;subst h
     obtain⟨m,rfl⟩:=Int.eq_ofNat_of_zero_le aV
     exact .inr ⟨k,rfl⟩
    ·cases h
   |_=>simp[fu]at h
theorem ot {P:Program} {isS:Bool} {len cap a b:Nat} {bw az:Option j} {nv nw:Option Value} (hn:lF w F s ak bw nv) (ho:lF w F s ak az nw) (bU:fu 0 bw=some a) (I:fu len az=some b) (hW:a≤b) (Dr:b≤cap) (_hlc:len≤cap):
  (Instr.sliceBounds isS len cap nv nw none).run P w= .ok (a,b,cap) w:=by
 rcases xW hn bU with⟨_,rfl,rfl⟩|⟨k,rfl⟩<;>rcases xW ho I with⟨_,rfl,rfl⟩|⟨bY,rfl⟩<;>
  simp[Instr.sliceBounds,Instr.sliceBound,asIntOf,hW,Dr]
theorem ou (aQ:C.cY) {T:TypeId} (ai:(C.T T).flat=true) (v:Value) (bw az e0:Option Value) (w:World):(Instr.sliceAt T v bw az e0).run C.P w=(Instr.slice T v bw az e0).run C.P w:=by
 obtain⟨i,d,z,aE,aL,bb,b2,b9,bl,bf⟩:=aQ.info (xB ai)
 have cg:∀n e,d≠.array n e:=by
  clear bl
  unfold dR.flat at ai
  generalize (C.T T).k=h2 at*
  cases h2<;>cases d<;>simp[hf]at bf ai⊢
 cases d<;>first|exact(cg _ _ rfl).elim|simp[Instr.sliceAt,run_underlying bl]
theorem ov {x:dR} {k:jk} (h:x.k=k) (ai:k≠.other) (R:∀ag,k≠.struct ag) (I:∀e,k≠.cL e:=by simp):x.flat=true:=by
 unfold dR.flat;rw[h];cases k<;>first|rfl|exact(ai rfl).elim|exact(I _ rfl).elim|exact(R _ rfl).elim
theorem aH.split:∀(n:Nat) (xs:List j) (cs:List Value) (ay:Nat→Prop),aH w F xs cs ay→∃bz bA bh cc,cs=bz++bA∧aH w F (xs.take n) bz bh∧aH w F (xs.drop n) bA cc∧(∀b,bh b→ay b)∧(∀b,cc b→ay b)∧(∀b,bh b→¬cc b)
 |0,xs,cs,ay,h=>⟨[],cs,fun _=>False,ay,rfl,by rw[List.take_zero,aH],h,fun _ h=>h.elim,fun _ h=>h,fun _ h=>h.elim⟩
 |n+1,[],cs,ay,h=>by rw[aH]at h;subst h;exact⟨[],[],fun _=>False,fun _=>False,rfl,by rw[List.take_nil,aH],by rw[List.drop_nil,aH],fun _ h=>h.elim,fun _ h=>h.elim,fun _ h=>h.elim⟩
 |n+1,x::xs,cs,ay,h=>by
  rw[aH]at h
  obtain⟨bz,bA,eS,ei,rfl,U,aa,aw,aN,a2⟩:=h
  obtain⟨d1,d2,bh,cc,rfl,aD,aO,bg,b6,cJ⟩:=aH.split n xs bA ei aa
  refine⟨bz++d1,d2,fun b=>eS b∨bh b,cc,by simp,?_,aO,?_,fun b I=>aN _ (b6 _ I),?_⟩
  ·rw[List.take_succ_cons,aH]
   exact⟨bz,d1,eS,bh,rfl,U,aD,fun _ h=>.inl h,fun _ h=>.inr h,fun b I ae=>a2 b I (bg b ae)⟩
  ·rintro b (I|I)
   ·exact aw b I
   ·exact aN b (bg b I)
  ·rintro b (I|I) ae
   ·exact a2 b I (b6 b ae)
   ·exact cJ b I ae
theorem Ds (aQ:C.cY) (h:aY w0 F0 X F S s ak w) {T:TypeId} {x:j} {v:Value} {bw az:Option j} {nv nw:Option Value} (ao:x.plain=true) (aC:ar w F s ak x v (fun _=>False)) (hn:lF w F s ak bw nv) (ho:lF w F s ak az nw)
  (he:cU C s T x bw az=some (av,s1)):Good C w0 F0 X ak w (Instr.sliceAt T v nv nw none) av s1:=by
 unfold cU at he
 split at he
 ·rename_i l ai
  have:=iH aC;subst this
  obtain⟨i,d,z,aE,aL,bb,b2,b9,bl,bf⟩:=aQ.info (dB ai (by simp))
  rw[ai]at bf
  have:=kI bf;subst this
  split at he
  ·rename_i a b bU I
   split at he
   ·rename_i hW
    simp only[Option.some.injEq,Prod.mk.injEq]at he
    obtain⟨rfl,rfl⟩:=he
    refine Good.same h ?_ rfl (j4 _)
    rw[ou aQ (ov ai (by simp) (by simp))]
    have cp:(⟨⟨l⟩⟩:ByteArray).size=l.length:=rfl
    have jr:=ot (P:=C.P) (isS:=false) (len:=l.length) (cap:=l.length) hn ho bU I hW.1 hW.2 (Nat.le_refl _)
    have Dt:(⟨⟨l⟩⟩:ByteArray).extract a b=⟨⟨(l.take b).drop a⟩⟩:=by
     apply ByteArray.ext
     simp[ByteArray.data_extract,List.drop_take]
    simp[Instr.slice,run_underlying bl,cp,jr,Dt]
   ·cases he
  ·cases he
 ·rename_i e ai
  have:=lE aC;subst this
  obtain⟨i,d,z,aE,aL,bb,b2,b9,bl,bf⟩:=aQ.info (dB ai (by simp))
  rw[ai]at bf
  have:=hh bf;subst this
  split at he
  ·rename_i bU I
   split at he
   ·rename_i j6
    obtain⟨lz,aT,lA,f1,f2,f3,f4,f5,f6,f7⟩:=aQ.info j6
    simp only[Option.some.injEq,Prod.mk.injEq]at he
    obtain⟨rfl,rfl⟩:=he
    have jr:=ot (P:=C.P) (isS:=true) (len:=0) (cap:=0) hn ho bU I (Nat.le_refl _) (Nat.le_refl _) (Nat.le_refl _)
    refine Good.same h (v:=.slice none 0 0) ?_ rfl aC
    rw[ou aQ (ov ai (by simp) (by simp))]
    simp[Instr.slice,run_underlying bl,jr,gE f1,f2]
   ·cases he
  ·cases he
 ·rename_i e xs ai
  obtain⟨i,d,z,aE,aL,bb,b2,b9,bl,bf⟩:=aQ.info (dB ai (by simp))
  rw[ai]at bf
  have:=hh bf;subst this
  split at he
  ·rename_i a b bU I
   split at he
   ·rename_i hW
    obtain⟨Du,xX,j6,gM⟩:=hW
    obtain⟨lz,aT,lA,f1,f2,f3,f4,f5,f6,f7⟩:=aQ.info j6
    simp only[Option.some.injEq,Prod.mk.injEq]at he
    obtain⟨rfl,rfl⟩:=he
    rcases sd aC with⟨rfl,ow,c,rfl,qz,nt⟩|⟨gF,o,cap,c2,sz,rfl,U,aa,aw,aN,a2,bJ⟩
    ·have eL:b=0:=by simpa using xX
     subst eL
     have Dv:a=0:=by omega
     subst Dv
     have jr:=ot (P:=C.P) (isS:=true) (len:=0) (cap:=c) hn ho bU I (Nat.le_refl _) (Nat.zero_le _) (Nat.zero_le _)
     refine Good.same h (v:=.slice ow 0 c) ?_ rfl ((ar.bx rfl).2 ⟨rfl,by rw[al];exact .inl ⟨rfl,ow,c,rfl,qz,nt⟩⟩)
     rw[ou aQ (ov ai (by simp) (by simp))]
     cases ow with
     |none=>
      have:=nt rfl;subst this
      simp[Instr.slice,run_underlying bl,jr,gE f1,f2]
     |some ow=>simp[Instr.slice,run_underlying bl,jr,gE f1,f2,Addr.add]
    ·have jr:=ot (P:=C.P) (isS:=true) (len:=xs.length) (cap:=cap) hn ho bU I Du (Nat.le_trans xX aa) aa
     obtain⟨bz,bA,bh,cc,rfl,aD,aO,bg,b6,cJ⟩:=aH.split b xs c2 _ bJ
     obtain⟨d1,d2,Dw,uw,rfl,bn,bp,cy,b_,c4⟩:=aH.split a (xs.take b) bz _ aD
     have ux:d1.length=a*(C.T e).sz:=by
      rw[aH.length _ _ _ bn,nd _ (fun d ab=>gM d (List.mem_of_mem_take (List.mem_of_mem_take ab))),List.length_take,List.length_take]
      congr 1;omega
     have hlen:((xs.take b).drop a).length=b-a:=by simp;omega
     have gj:e8 w gF (o+a*(C.T e).sz) d2:=by
      rw[←ux]
      have:e8 w gF o (d1++(d2++bA)):=by simpa using a2
      exact this.ug
     have se:aH w F ((xs.take b).drop a) d2 (fun _=>False):=aH.mono (fun _ h=>h) _ _ _ _ (fun b I=>(bg _ (b_ _ I)).elim) bp
     have mem:∀d∈(xs.take b).drop a,d.wd=sz:=fun d ab=>aN d (List.mem_of_mem_take (List.mem_of_mem_drop ab))
     have run:(Instr.sliceAt T (.slice (some ⟨gF,o,none⟩) xs.length cap) nv nw none).run C.P w= .ok (.slice (if cap=a then some ⟨gF,o,none⟩else some ⟨gF,o+a*(C.T e).sz,none⟩) (b-a) (cap-a)) w:=by
      rw[ou aQ (ov ai (by simp) (by simp))]
      simp[Instr.slice,run_underlying bl,jr,gE f1,f2,Addr.add_lit]
     refine⟨_,w,F,S,run,h,.inl ⟨rfl,(ar.bx rfl).2 ⟨rfl,?_⟩⟩⟩
     simp only[bd,e9]
     rw[al]
     by_cases xY:cap=a
     ·have Dx:b=a:=by omega
      subst Dx
      have mu:(xs.take b).drop b=[]:=by simp
      rw[if_pos xY]
      rw[mu]at se⊢
      rw[aH]at se
      subst se
      exact .inr ⟨gF,o,cap-b,[],sz,by simp,U,Nat.zero_le _,by omega,by simp,fun ad c aS=>by simp at aS,by rw[aH]⟩
     ·rw[if_neg xY]
      exact .inr ⟨gF,_,cap-a,d2,sz,by rw[hlen],U,by rw[hlen];omega,by omega,mem,gj,se⟩
   ·cases he
  ·cases he
 ·rename_i e y q ai
  split at he
  ·rename_i sz xs ab
   split at he
   ·rename_i b bU I
    split at he
    ·rename_i sf
     split at he
     ·rename_i qp s2 aG
      simp only[Option.some.injEq,Prod.mk.injEq]at he
      obtain⟨rfl,rfl⟩:=he
      obtain⟨i,d,z,aE,aL,bb,b2,b9,bl,bf⟩:=aQ.info (dB ai (by simp))
      rw[ai]at bf
      have:=hh bf;subst this
      obtain⟨lz,aT,lA,f1,f2,f3,f4,f5,f6,f7⟩:=aQ.info sf.2
      have nu:qp= .aK sz xs:=by
       simp only[bL,ab,j.plain]at aG
       simp at aG
       exact aG.1.symm
      subst nu
      obtain⟨bh,dI,aD,aO,Sn,bg,b6,cJ,ec,ew,fE⟩:=jZ h rfl aC aG
      rw[el aO,al]at bg
      rcases bg with⟨rfl,a0,fz⟩|⟨gF,cap,cur,eD,fr,ay,fz,bn,bp,cy,b_,c4,cZ,eM,dr,gl,hp⟩
      ·simp at fz;subst fz
       have eL:b=0:=by simpa using sf.1
       subst eL
       have jr:=ot (P:=C.P) (isS:=true) (len:=0) (cap:=0) hn ho bU I (Nat.le_refl _) (Nat.le_refl _) (Nat.le_refl _)
       refine⟨.slice a0 0 0,w,F,bh,?_,dI,.inr ⟨rfl,rfl,fun _=>False,by simp only[bd,e9];rw[al];exact .inl ⟨rfl,_,rfl⟩,fun _ h=>h.elim,fun _ h=>h.elim,fun _ _ h=>h.elim,fun _ h=>h.elim⟩⟩
       rw[ou aQ (ov ai (by simp) (by simp))]
       cases a0<;>simp[Instr.slice,run_underlying bl,jr,gE f1,f2]
      ·simp at fz;subst fz
       have jr:=ot (P:=C.P) (isS:=true) (len:=xs.length) (cap:=cap) hn ho bU I (Nat.zero_le _) (Nat.le_trans sf.1 b_) b_
       have hlen:(xs.take b).length=b:=by simp;omega
       have run:(Instr.sliceAt T (.slice (some ⟨gF,0,none⟩) xs.length cap) nv nw none).run C.P w= .ok (.slice (some ⟨gF,0,none⟩) b cap) w:=by
        rw[ou aQ (ov ai (by simp) (by simp))]
        simp[Instr.slice,run_underlying bl,jr,gE f1,f2,Addr.add_lit]
       refine⟨_,w,F,bh,run,dI,.inr ⟨rfl,rfl,Sn,?_,b6,cJ,ec,ew⟩⟩
       simp only[bd,e9]
       rw[al]
       obtain⟨bz,bA,eS,ei,ae,ey,fi,fW,j2,kL⟩:=aH.split b xs _ _ dr
       refine .inr ⟨gF,cap,cur,eD,fr,ay,by rw[hlen],bn,bp,cy,by omega,c4,cZ,fun d ab=>eM d (List.mem_of_mem_take ab),?_,gl,hp⟩
       have ux:bz.length=b*sz:=by
        rw[aH.length _ _ _ ey,nd _ (fun d ab=>eM d (List.mem_of_mem_take ab)),hlen]
       have:cur.toList.take ((xs.take b).length*sz)=bz:=by
        rw[hlen]
        have aa:b*sz≤xs.length*sz:=Nat.mul_le_mul_right _ sf.1
        have:(cur.toList.take (xs.length*sz)).take (b*sz)=bz:=by rw[ae,List.take_left' ux]
        rwa [List.take_take,Nat.min_eq_left aa]at this
       rw[this]
       exact aH.mono (fun _ h=>h) _ _ _ _ fW ey
     ·cases he
    ·cases he
   ·cases he
  ·cases he
 ·cases he
end
section
variable {C:bq} {w0 w:World} {F0 X F:Nat→Prop} {S:Nat→Nat→Prop} {s s1:af} {ak:Nat→Value} {av:j}
def Src (P:Program) (w:World) (size:Nat) (x:Value) (m:Nat) (news:List Value):Prop:=
 ∀aq:World,aq.heap=w.heap→(Builtin.lenOf x).run P aq= .ok m aq∧(Builtin.firstCells size m x).run P aq= .ok news.toArray aq
def uy (d:TypeDesc):Prop:=(∃e,d= .slice e)∨d= .string
theorem Dy {P:Program} {T a6 ty e:TypeId} {lG:TypeDesc} {i:TypeInfo} (aG:P.underlying T=some (.slice e)) (hu:P.underlying a6=some lG) (nx:uy lG) (az:P.info? e=some i)
  {x:Value} {m:Nat} {news:List Value} (kO:Src P w i.size x m news) {b n cap:Nat} {cur:Array Value} {eD:TypeId} {fr:Nat×Nat} {l mid r:List Value} (I:w.heap[b]? =some (.cells cur eD fr)) (bk:hb fr cur.size)
  (ae:cur.toList=l++(mid++r)) (hl:l.length=n*i.size) (hm:mid.length=news.length) (r9:∀v∈news,Value.ea v=true) (gQ:n+m≤cap):
  ∃aq,(Builtin.append_ #[T,a6] ty #[.slice (some ⟨b,0,none⟩) n cap,x]).run P w= .ok (.slice (some ⟨b,0,none⟩) (n+m) cap) aq∧aq.heap[b]? =some (.cells (l++(news++r)).toArray eD fr)∧
   (∀c,c≠b→aq.heap[c]? =w.heap[c]?)∧aq.heap.size=w.heap.size∧aq.os=w.os∧aq.tape=w.tape∧Out aq w:=by
 obtain⟨aq,ey,fi⟩:=uk (P:=P) (b:=b) (o:=n*i.size) (e:=eD) (fr:=fr) news 0 cur w l mid r I bk ae (by omega) hm r9
 refine⟨aq,?_,fi⟩
 obtain⟨U,aa⟩:=kO w rfl
 rcases nx with⟨ej,rfl⟩|rfl<;>simp[Builtin.append_,run_underlying aG,run_underlying hu,gE az,U,aa,gQ,Addr.add_lit,ey]
theorem Dz {P:Program} {T a6 ty e:TypeId} {lG:TypeDesc} {i:TypeInfo} {z:Value} (aG:P.underlying T=some (.slice e)) (hu:P.underlying a6=some lG) (nx:uy lG) (az:P.info? e=some i) (bj:i.zero=some z)
  {x:Value} {m:Nat} {news:List Value} (kO:Src P w i.size x m news) {base:Option Addr} {n cap:Nat} {j7:List Value} (hold:Src P w i.size (.slice base n cap) n j7) (gQ:¬n+m≤cap)
  (aV:n+m≤9223372036854775807) (uz:(n+m)*i.bytes≤140737488355328):
  (Builtin.append_ #[T,a6] ty #[.slice base n cap,x]).run P w= .ok (.slice (some ⟨w.heap.size,0,none⟩) (n+m) (grownCap w (n+m) cap e))
   (w.drew.alloc (.cells (j7.toArray++news.toArray++Builtin.zeroCells z.cells (grownCap w (n+m) cap e-(n+m))) e)):=by
 have U:=(kO w rfl).1
 have aa:=(kO w.drew rfl).2
 have aw:=(hold w.drew rfl).2
 have mv:=growslice_fits (need:=n+m) (old:=cap) (by omega) uz
 have fb:¬(281474976710656<Builtin.nextslicecap (n+m) cap*i.bytes):=by omega
 have ox:∀k (w:World),(askRoom k).run P w= .ok () w:=by
  intro k w
  unfold askRoom
  split<;>rfl
 have uA:¬(9223372036854775807<(n:Int)+(m:Int)∧i.bytes=0):=by omega
 rcases nx with⟨ej,rfl⟩|rfl<;>
  ·simp[Builtin.append_,run_underlying aG,run_underlying hu,gE az,nj az,U,gQ,fb,Question.forced,ox]
   rw[if_neg uA,aw]
   simp[aa,nk az bj,newRow,grownCap]
   have aE:(j7++news).toArray=j7.toArray++news.toArray:=by simp
   rw[aE,Array.append_assoc]
def sg (C:bq) (e a6:TypeId):Bool:=match(C.T a6).k,(C.T e).k with
 | .slice ej,_=>ej==e
 | .str,.int .u8=>true
 |_,_=>false
def h7 (C:bq) (s:af) (T a6:TypeId) (x y:j):Option (j×af):=
 match(C.T T).k with
 | .slice e=>if(C.T e).ok=true∧(C.T e).zero.wd=(C.T e).sz∧(flat (C.T e).zero).isSome=true∧sg C e a6=true then
   match(match x with| .bG=>some (j.aK (C.T e).sz [],s)| .h a q=>bL s (.h a q)|_=>none)with
   |some (.aK sz xs,s1)=>if sz=(C.T e).sz then
     match(match g0 x.owner y with
      | .bG=>some ([],s1)
      | .slice ys=>some (ys,s1)
      | .str l=>some (l.map gP,s1)
      | .h a q=>match bL s1 (.h a q)with
        |some (.aK _ ys,s2)=>some (ys,s2)
        |_=>none
      |_=>none)with
     |some (ys,s2)=>if(∀d∈ys,d.wd=(C.T e).sz)∧(xs.length+ys.length)*(C.T e).bytes≤140737488355328∧xs.length+ys.length≤9223372036854775807 then some (.aK sz (xs++ys),s2)else none
     |none=>none
    else none
   |_=>none
   else none
 |_=>none
theorem aH.append {xs ys:List j} {bz bA:List Value} {bh cc ay:Nat→Prop} (U:aH w F xs bz bh) (aa:aH w F ys bA cc) (aE:∀b,bh b→ay b) (aL:∀b,cc b→ay b) (bb:∀b,bh b→¬cc b):aH w F (xs++ys) (bz++bA) ay:=by
 induction xs generalizing bz bh ay with
 |nil=>rw[aH]at U;subst U;exact aH.mono (fun _ h=>h) _ _ _ _ aL aa
 |cons x xs ih=>
  rw[aH]at U
  obtain⟨DA,qA,eS,ei,rfl,aD,aO,bg,b6,cJ⟩:=U
  rw[List.cons_append,aH]
  refine⟨DA,qA++bA,eS,fun b=>ei b∨cc b,by simp,aD,ih aO (fun b h=>.inl h) (fun b h=>.inr h) (fun b h=>bb b (b6 b h)),fun b h=>aE b (bg b h),?_,?_⟩
  ·rintro b (h|h)
   ·exact aE b (b6 b h)
   ·exact aL b h
  ·rintro b h (a5|a5)
   ·exact cJ b h a5
   ·exact bb b (bg b h) a5
theorem uB {P:Program} {size m cap:Nat} {b o:Nat} {news:List Value} (gj:e8 w b o news) (hl:news.length=m*size):Src P w size (.slice (some ⟨b,o,none⟩) m cap) m news:=by
 intro aq hw
 refine⟨rfl,?_⟩
 refine run_firstCells_some aq size m ⟨b,o,none⟩ m cap news hl (fun ad v aS=> ?_)
 rw[Addr.add_lit]
 have:=gj ad v aS
 simpa [World.cell?,hw]using this
theorem xZ {P:Program} {size cap:Nat}:Src P w size (.slice none 0 cap) 0 []:=by
 intro aq _
 exact⟨rfl,by simp[Builtin.firstCells]⟩
theorem uC {P:Program} {size cap:Nat} (a:Option Addr):Src P w size (.slice a 0 cap) 0 []:=by
 cases a with
 |none=>exact xZ
 |some a=>
  intro aq _
  exact⟨rfl,run_firstCells_some aq size 0 a 0 cap [] (by simp) (fun ad v aS=>by simp at aS)⟩
theorem DB {P:Program} (l:List UInt8):Src P w 1 (.string ⟨⟨l⟩⟩) l.length (l.map fun b=>.int .u8 (b.toNat:Int)):=by
 intro aq _
 refine⟨rfl,?_⟩
 have:(⟨⟨l⟩⟩:ByteArray).extract 0 l.length=⟨⟨l⟩⟩:=by
  apply ByteArray.ext
  simp[ByteArray.data_extract]
 simp[Builtin.firstCells,this]
theorem aH.ny {sz:Nat} {xs:List j} {cs:List Value} {ay:Nat→Prop} (h:aH w F xs cs ay) (hw:∀d∈xs,d.wd=sz):cs.length=xs.length*sz:=by
 rw[aH.length _ _ _ h,nd _ hw]
theorem aY.turn (h:aY w0 F0 X F S s ak w) {aq:World} {b:Nat} (I:∀c,c≠b→aq.heap[c]? =w.heap[c]?) (R:aq.heap.size=w.heap.size) (U:aq.os=w.os) (aa:aq.tape=w.tape) (aw:Out aq w)
  (aR:¬F b) (ba:∀u,¬S u b) (bI:X b∨w0.heap.size≤b):aY w0 F0 X F S s ak aq where
 ep:=h.ep
 eC:=h.eC
 c_:=fun c ae=>by rw[R];exact h.c_ c ae
 cP:=fun t c ae=>by rw[R];exact h.cP t c ae
 dj:=h.dj
 c8:=h.c8
 cf:=h.cf
 b0:=fun t=>ar.frame (Sx:=S) (fun c ae=>I c (by rintro rfl;exact aR ae)) (fun _ h=>h) (fun x c ae=>I c (by rintro rfl;exact ba x ae)) h.b0 _ _ _ (fun c ae=>I c (by rintro rfl;exact ba t ae)) (h.b0 t)
 old:=fun c cv ga=>by
  rw[I c ?_]
  ·exact h.old c cv ga
  ·rintro rfl
   rcases bI with bI|bI
   ·exact ga bI
   ·omega
 size:=by rw[R];exact h.size
 os:=U.trans h.os
 tape:=aa.trans h.tape
 output:=aw.trans h.output
 er:=h.er
theorem DC (aQ:C.cY) (h:aY w0 F0 X F S s ak w) {T a6 ty:TypeId} {x y:j} {e5 fw:Value} (ao:ar w F s ak x e5 (fun _=>False)) (aW:ar w F s ak y fw (fun _=>False))
  (he:h7 C s T a6 x y=some (av,s1)):Good C w0 F0 X ak w (Builtin.append_ #[T,a6] ty #[e5,fw]) av s1:=by
 unfold h7 at he
 split at he
 ·rename_i e ai
  obtain⟨uD,d,uE,aE,aL,bb,b2,b9,bl,bf⟩:=aQ.info (dB ai (by simp))
  rw[ai]at bf
  have:=hh bf;subst this
  split at he
  ·rename_i np
   obtain⟨j6,kP,lH,kQ⟩:=np
   obtain⟨i,uF,z,f1,f2,f3,f4,f5,f6,f7⟩:=aQ.info j6
   obtain⟨c9,iI⟩:=Option.isSome_iff_exists.1 lH
   have lI:=f5 c9 iI
   have j8:c9.length=(C.T e).sz:=by
    have:=al.length _ _ _ ((al.flat (w:=w) (F:=F) _).1 (C.T e).zero c9 (fun _=>False) (Nat.le_refl _) iI)
    rw[this,kP]
   obtain⟨lG,hu,nx⟩:∃lG,C.P.underlying a6=some lG∧uy lG:=by
    unfold sg at kQ
    split at kQ
    ·rename_i ej hG
     obtain⟨_,aT,_,_,_,_,_,_,ec,ew⟩:=aQ.info (dB hG (by simp))
     rw[hG]at ew
     exact⟨aT,ec,.inl ⟨_,hh ew⟩⟩
    ·rename_i hG _
     obtain⟨_,aT,_,_,_,_,_,_,ec,ew⟩:=aQ.info (dB hG (by simp))
     rw[hG]at ew
     exact⟨aT,ec,.inr (kI ew)⟩
    ·cases kQ
   split at he
   ·rename_i sz xs x0 nz
    split at he
    ·rename_i cp
     subst cp
     split at he
     ·rename_i ys si js
      split at he
      ·rename_i x1
       obtain⟨oy,uz,uG⟩:=x1
       simp only[Option.some.injEq,Prod.mk.injEq]at he
       obtain⟨rfl,rfl⟩:=he
       obtain⟨eS,a0,Sn,a3,a4,qv,kM,kN,Pw,a9,mw⟩:∃eS,aY w0 F0 X F eS x0 ak w∧∃Sn,al w F (.aK (C.T e).sz xs) [e5] Sn∧(∀b,Sn b→b<w.heap.size)∧(∀b,Sn b→¬F b)∧(∀u b,Sn b→¬eS u b)∧
         (∀b,Sn b→X b∨w0.heap.size≤b)∧(∀u b,eS u b→S u b)∧(∀b,Sn b→∃u,S u b)∧ar w F x0 ak (g0 x.owner y) fw (fun _=>False):=by
        split at nz
        ·simp only[Option.some.injEq,Prod.mk.injEq,j.aK.injEq,true_and]at nz
         obtain⟨rfl,rfl⟩:=nz
         have:=lE ao;subst this
         exact⟨S,h,fun _=>False,by rw[al];exact .inl ⟨rfl,_,rfl⟩,fun _ h=>h.elim,fun _ h=>h.elim,fun _ _ h=>h.elim,fun _ h=>h.elim,fun _ _ h=>h,fun _ h=>h.elim,aW⟩
        ·obtain⟨bh,dI,aD,aO,Sn,bg,b6,cJ,ec,ew,fE,iJ,sj⟩:=jZ h rfl ao nz
         rw[el aO]at bg
         exact⟨bh,dI,Sn,bg,b6,cJ,ec,ew,fE,iJ,sj _ _ _ aW⟩
        ·cases nz
       obtain⟨ei,gF,i2,news,h4,fP,kR,dL,jt,kS,uH,h8⟩:∃ei,aY w0 F0 X F ei si ak w∧∃i2 news,aH w F ys news i2∧Src C.P w i.size fw ys.length news∧(∀b,i2 b→b<w.heap.size)∧(∀b,i2 b→¬F b)∧(∀u b,i2 b→¬ei u b)∧
         (∀b,i2 b→X b∨w0.heap.size≤b)∧(∀u b,ei u b→eS u b)∧(∀b,i2 b→∃u,eS u b):=by
        split at js
        ·rename_i nA
         simp only[Option.some.injEq,Prod.mk.injEq]at js
         obtain⟨rfl,rfl⟩:=js
         rw[nA]at mw
         have:=lE mw;subst this
         exact⟨eS,a0,fun _=>False,[],by rw[aH],xZ,fun _ h=>h.elim,fun _ h=>h.elim,fun _ _ h=>h.elim,fun _ h=>h.elim,fun _ _ h=>h,fun _ h=>h.elim⟩
        ·rename_i eu nA
         simp only[Option.some.injEq,Prod.mk.injEq]at js
         obtain⟨rfl,rfl⟩:=js
         rw[nA]at mw
         rcases sd mw with⟨rfl,ow,Px,rfl,_,nt⟩|⟨b,o,cap,c2,DD,rfl,bn,bp,cy,b_,c4,cZ⟩
         ·exact⟨eS,a0,fun _=>False,[],by rw[aH],uC ow,fun _ h=>h.elim,fun _ h=>h.elim,fun _ _ h=>h.elim,fun _ h=>h.elim,fun _ _ h=>h,fun _ h=>h.elim⟩
         ·exact⟨eS,a0,fun _=>False,c2,cZ,uB c4 (by rw[f2];exact aH.ny cZ oy),fun _ h=>h.elim,fun _ h=>h.elim,fun _ _ h=>h.elim,fun _ h=>h.elim,fun _ _ h=>h,fun _ h=>h.elim⟩
        ·rename_i l nA
         simp only[Option.some.injEq,Prod.mk.injEq]at js
         obtain⟨rfl,rfl⟩:=js
         rw[nA]at mw
         have:=iH mw;subst this
         have DE:l≠[]→i.size=1:=by
          intro hl
          cases l with
          |nil=>exact(hl rfl).elim
          |cons b l=>rw[f2,←oy (gP b) (by simp)];rfl
         by_cases hl:l=[]
         ·subst hl
          refine⟨eS,a0,fun _=>False,[],by simp only[List.map_nil];rw[aH],?_,fun _ h=>h.elim,fun _ h=>h.elim,fun _ _ h=>h.elim,fun _ h=>h.elim,fun _ _ h=>h,fun _ h=>h.elim⟩
          intro aq _
          exact⟨rfl,by simp[Builtin.firstCells,ByteArray.extract];rfl⟩
         ·refine⟨eS,a0,fun _=>False,_,xU l _,?_,fun _ h=>h.elim,fun _ h=>h.elim,fun _ _ h=>h.elim,fun _ h=>h.elim,fun _ _ h=>h,fun _ h=>h.elim⟩
          rw[DE hl,List.length_map]
          exact DB l
        ·rename_i a q nA
         split at js
         ·rename_i Py eu s2 aG
          simp only[Option.some.injEq,Prod.mk.injEq]at js
          obtain⟨rfl,rfl⟩:=js
          rw[nA]at mw
          obtain⟨cc,dI,aD,aO,i2,bg,b6,cJ,ec,ew,fE,iJ,sj⟩:=jZ a0 rfl mw aG
          rw[el aO,al]at bg
          rcases bg with⟨rfl,DF,fz⟩|⟨b,cap,cur,eD,fr,ay,fz,bn,bp,cy,b_,c4,cZ,eM,dr,gl,hp⟩
          ·simp at fz;subst fz
           exact⟨cc,dI,fun _=>False,[],by rw[aH],(uC DF),fun _ h=>h.elim,fun _ h=>h.elim,fun _ _ h=>h.elim,fun _ h=>h.elim,fE,fun _ h=>h.elim⟩
          ·simp at fz;subst fz
           refine⟨cc,dI,ay,_,dr,uB (oh bp _) ?_,fun c ae=>b6 c (gl c ae),fun c ae=>cJ c (gl c ae),fun u c ae=>ec u c (gl c ae),fun c ae=>ew c (gl c ae),fE,fun c ae=>iJ c (gl c ae)⟩
           rw[f2];exact aH.ny dr oy
         ·cases js
        ·cases js
       have kT:news.length=ys.length*(C.T e).sz:=aH.ny h4 oy
       have ju:∀c,Sn c→¬i2 c:=fun c U aa=>by obtain⟨u,hu⟩:=h8 c aa;exact kM u c U hu
       have hW:∀u c,Sn c→¬ei u c:=fun u c U aa=>kM u c U (uH u c aa)
       have grow:∀(base:Option Addr) (cap:Nat) (j7:List Value) (Sx:Nat→Prop),e5= .slice base xs.length cap→Src C.P w i.size (.slice base xs.length cap) xs.length j7→aH w F xs j7 Sx→(∀d∈xs,d.wd=(C.T e).sz)→(∀c,Sx c→Sn c)→¬xs.length+ys.length≤cap→
         Good C w0 F0 X ak w (Builtin.append_ #[T,a6] ty #[e5,fw]) (.aK (C.T e).sz (xs++ys)) si:=by
        intro base cap j7 Sx um hold x2 x3 c3 gQ
        subst um
        have aA:=Dz (ty:=ty) bl hu nx f1 f4 fP hold gQ uG (by rw[f3];exact uz)
        have qy:=grownCap_ge w (xs.length+ys.length) cap e
        have qz:=grownCap_le_maxLen w (xs.length+ys.length) cap e (by unfold maxLen;omega)
        have qB:=aH.ny x2 x3
        have DG:aH w F (xs++ys) (j7++news) (fun c=>Sx c∨i2 c):=aH.append x2 h4 (fun _ h=>.inl h) (fun _ h=>.inr h) (fun c U aa=>ju c (c3 c U) aa)
        have DH:(j7++news).length=(xs++ys).length*(C.T e).sz:=by simp[qB,kT,Nat.add_mul]
        have g1:=gF.qu (aq:=w.drew.alloc (.cells (j7.toArray++news.toArray++Builtin.zeroCells z.cells (grownCap w (xs.length+ys.length) cap e-(xs.length+ys.length))) e))
         (sz:=(C.T e).sz) (cap:=grownCap w (xs.length+ys.length) cap e) (xs:=xs++ys) (e:=e) (fr:=(0,0)) (Sn:=fun c=>Sx c∨i2 c) rfl rfl rfl ⟨rfl,fun _=>Nat.le_succ _⟩
         (fun o _ ⟨_,aa⟩=>absurd aa (Nat.not_lt_zero _)) (by simpa using qy) qz
         (by
          simp only[Array.size_append,List.size_toArray,size_zeroCells,lI,qB,kT,j8,←Nat.add_mul]
          congr 1;omega)
         (by
          intro d ab
          rcases List.mem_append.1 ab with ab|ab
          ·exact x3 d ab
          ·exact oy d ab)
         (by
          simp only[Array.toList_append]
          rw[List.take_left' DH]
          exact DG)
         (by rintro c (ae|ae);exact a4 c (c3 c ae);exact kR c ae) (by rintro c (ae|ae);exact qv c (c3 c ae);exact dL c ae) (by rintro u c (ae|ae);exact hW u c (c3 c ae);exact jt u c ae) (by rintro c (ae|ae);exact kN c (c3 c ae);exact kS c ae)
        refine⟨_,_,F,ei,aA,g1.1,?_⟩
        have:=g1.2
        simpa using this
       rw[al]at a3
       rcases a3 with⟨rfl,qC,fz⟩|⟨b,cap,cur,eD,fr,ay,fz,bn,bp,cy,b_,c4,cZ,eM,dr,gl,hp⟩
       ·simp at fz;subst fz
        by_cases x4:ys=[]
        ·subst x4
         have uI:news=[]:=by simpa using kT
         subst uI
         refine⟨.slice qC 0 0,w,F,ei,?_,gF,.inr ⟨rfl,rfl,fun _=>False,by simp only[bd,e9];rw[al];exact .inl ⟨rfl,_,rfl⟩,fun _ h=>h.elim,fun _ h=>h.elim,fun _ _ h=>h.elim,fun _ h=>h.elim⟩⟩
         obtain⟨U,aa⟩:=fP w rfl
         cases qC<;>rcases nx with⟨ej,rfl⟩|rfl<;>simp at U aa<;>simp[Builtin.append_,run_underlying bl,run_underlying hu,gE f1,U,aa,storeCells]
        ·exact grow qC 0 [] (fun _=>False) rfl (uC qC) (by rw[aH]) (by simp) (fun _ h=>h.elim) (by
          cases ys with
          |nil=>exact(x4 rfl).elim
          |cons y ys=>simp)
       ·simp at fz;subst fz
        by_cases gQ:xs.length+ys.length≤cap
        ·
         have qB:=aH.ny dr eM
         have hlen:cur.toList.length=cap*(C.T e).sz:=by simp[cZ]
         have hle:(xs.length+ys.length)*(C.T e).sz≤cap*(C.T e).sz:=Nat.mul_le_mul_right _ gQ
         rw[Nat.add_mul]at hle
         have hc:cur.toList=cur.toList.take (xs.length*(C.T e).sz)++((cur.toList.drop (xs.length*(C.T e).sz)).take news.length++(cur.toList.drop (xs.length*(C.T e).sz)).drop news.length):=by
          rw[List.take_append_drop,List.take_append_drop]
         obtain⟨aq,ey,fi,fW,j2,kL,e6,lC⟩:=Dy (ty:=ty) (n:=xs.length) (m:=ys.length) (cap:=cap) bl hu nx f1 fP bp cy.low hc (by rw[f2];exact qB) (by simp[hlen,kT];omega) (aH.nn _ _ _ h4) gQ
         have DI:=gF.turn fW j2 kL e6 lC (qv b bn) (fun u hu=>hW u b bn hu) (kN b bn)
         have kH:∀c,F c→aq.heap[c]? =w.heap[c]? :=fun c ae=>fW c (by rintro rfl;exact qv _ bn ae)
         refine⟨_,aq,F,ei,ey,DI,.inr ⟨rfl,rfl,fun c=>Sn c∨i2 c,?_,?_,?_,?_,?_⟩⟩
         ·simp only[bd,e9]
          rw[al]
          have x5:(cur.toList.take (xs.length*(C.T e).sz)++(news++(cur.toList.drop (xs.length*(C.T e).sz)).drop news.length)).toArray.size=cur.size:=by
           have:cur.size=cur.toList.length:=by simp
           rw[this]
           conv=>rhs;rw[hc]
           simp[hlen,kT];omega
          refine .inr ⟨b,cap,_,eD,fr,fun c=>ay c∨i2 c,by simp,.inl bn,fi,by rw[x5];exact cy,by simpa using gQ,c4,by rw[x5];exact cZ,?_,?_,?_,?_⟩
          ·intro d ab
           rcases List.mem_append.1 ab with ab|ab
           ·exact eM d ab
           ·exact oy d ab
          ·have oq:=aH.frame kH _ _ _ (fun c ae=>fW c (by rintro rfl;exact hp ae)) dr
           have ni:=aH.frame kH _ _ _ (fun c ae=>fW c (by rintro rfl;exact ju _ bn ae)) h4
           have:((cur.toList.take (xs.length*(C.T e).sz)++(news++(cur.toList.drop (xs.length*(C.T e).sz)).drop news.length)).toArray.toList.take ((xs++ys).length*(C.T e).sz))=cur.toList.take (xs.length*(C.T e).sz)++news:=by
            simp only[]
            rw[←List.append_assoc]
            exact List.take_left' (by rw[List.length_append,qB,kT,List.length_append,Nat.add_mul])
           rw[this]
           exact aH.append oq ni (fun _ h=>.inl h) (fun _ h=>.inr h) (fun c U aa=>ju c (gl c U) aa)
          ·rintro c (ae|ae)
           ·exact .inl (gl c ae)
           ·exact .inr ae
          ·rintro(ae|ae)
           ·exact hp ae
           ·exact ju b bn ae
         ·rw[j2];rintro c (ae|ae);exact a4 c ae;exact kR c ae
         ·rintro c (ae|ae);exact qv c ae;exact dL c ae
         ·rintro u c (ae|ae);exact hW u c ae;exact jt u c ae
         ·rintro c (ae|ae);exact kN c ae;exact kS c ae
        ·exact grow (some ⟨b,0,none⟩) cap _ ay rfl (uB (oh bp _) (by rw[f2];exact aH.ny dr eM)) dr eM gl gQ
      ·cases he
     ·cases he
    ·cases he
   ·cases he
  ·cases he
 ·cases he
end
section
variable {C:bq} {w0 w aq:World} {F0 X F:Nat→Prop} {S:Nat→Nat→Prop} {s s1:af} {ak:Nat→Value} {av:j}
theorem aY.DJ (h:aY w0 F0 X F S s ak w) {x:Nat} {q:List Nat} {d aT:j} {b:Nat} (ab:j.sub q (s x)=some d) (an:d.plain=false) (DK:aT.tree=true) (U:∀v,fh d v→fh aT v) (R:∀v,cl d v→cl aT v)
  (aa:∀vs,aT≠.tuple vs) (gM:aT.wd=d.wd) (I:∀bE a dd,bX w q (s x) (bd (ak x)) none=some (d,bE,a)→al w F d bE dd→dd b∧al aq F aT bE dd) (iC:∀c,c≠b→aq.heap[c]? =w.heap[c]?) (cp:aq.heap.size=w.heap.size) (ua:aq.os=w.os)
  (ub:aq.tape=w.tape) (ng:Out aq w):∃ay,aY w0 F0 X F ay (bZ (e_ x s) x (j.put q aT (s x))) ak aq:=by
 have aG:=e2 ab (.inl an)
 have ao:=h.b0 x
 rw[ar.bx aG]at ao
 obtain⟨bE,a,cD,dd,dI,aD,aO,bg,b6,cJ⟩:=ctx q (s x) (bd (ak x)) (S x) none d ao.2 ab
 obtain⟨nh,aC⟩:=I bE a dd dI b6
 have nB:S x b:=aO b nh
 have kH:∀c,F c→aq.heap[c]? =w.heap[c]? :=fun c ae=>iC c (by rintro rfl;exact h.dj x _ nB ae)
 have ml:∀c,cD c→c≠b:=fun c ae e=>bg c ae (e▸nh)
 have gB:al aq F (j.put q aT (s x)) (bd (ak x)) (fun c=>cD c∨dd c):=by
  rcases cJ with⟨l,r,aE,aL,bb⟩|⟨gF,cur,e,fr,l,r,aE,aL,bb,b2,b9,bl⟩
  ·rw[aE]
   exact bb aq aT bE dd kH (fun c ae=>iC c (ml c ae)) gM aC (fun c ae kG=>bg c kG ae)
  ·refine bl aq aT bE dd kH (fun c ae _=>iC c (ml c ae)) ?_ gM aC (fun c ae kG=>bg c kG ae)
   rw[iC gF (ml gF aL),bb,←b9]
 have qd:cl (j.put q aT (s x)) (ak x)∧(j.put q aT (s x)).tree=true:=by
  cases q with
  |nil=>
   simp only[j.sub,Option.some.injEq]at ab
   simp only[j.put]
   exact⟨R _ (ab▸ao.1),DK⟩
  |cons k q=>
   refine⟨qb ao.1 ab U (fun _=>aa) gM,?_⟩
   rcases mj k q aT (s x)with⟨ag,gs,aE,e⟩|⟨ag,gs,aE,e⟩|⟨sz,xs,ys,aE,e⟩|⟨y,z,aE,e⟩|e<;>rw[e]<;>first|rfl|exact aG
 let aj:=bZ (e_ x s) x (j.put q aT (s x))
 have ev:∀y,y≠x→(aj y).tree=true→aj y=s y∧ak y=ak y:=fun y aW aG=>by
  have e:aj y=bV.bo x (s y):=f_ _ _ aW
  rw[e]at aG⊢
  exact⟨(r2 aG).2,rfl⟩
 have h0:(aj x).plain=false→(s x).plain=false∧∀v,cl (s x) v→cl (aj x) v:=by
  intro _
  refine⟨?_,fun v aC=> ?_⟩
  ·cases qc:(s x).plain with
   |false=>rfl
   |true=>rw[j.tV _ _ _ qc ab]at an;cases an
  ·simp only[aj,iA]
   cases q with
   |nil=>
    simp only[j.sub,Option.some.injEq]at ab
    simp only[j.put]
    exact R _ (ab▸aC)
   |cons k q=>exact qb aC ab U (fun _=>aa) gM
 have both:∀c,(cD c∨dd c)→S x c:=fun c ae=>ae.elim (aD c) (aO c)
 refine⟨dV S x (fun c=>cD c∨dd c),?_⟩
 constructor
 case ep=>exact h.ep
 case eC=>exact h.eC
 case c_=>exact fun b I=>by rw[cp];exact h.c_ b I
 case cP=>
  intro u c I
  rw[cp]
  simp only[dV]at I
  split at I
  ·exact h.cP x c (both c I)
  ·exact h.cP u c I
 case dj=>
  intro u c I
  simp only[dV]at I
  split at I
  ·exact h.dj x c (both c I)
  ·exact h.dj u c I
 case c8=>
  intro u y c cg I aW
  simp only[dV]at I aW
  split at I
  ·rename_i hu
   rw[if_neg (fun e=>cg (hu.trans e.symm))]at aW
   exact h.c8 x y c (fun e=>cg (hu.trans e)) (both c I) aW
  ·rename_i hu
   split at aW
   ·exact h.c8 u x c hu I (both c aW)
   ·exact h.c8 u y c cg I aW
 case cf=>
  intro u c I
  simp only[dV]at I
  split at I
  ·exact h.cf x c (both c I)
  ·exact h.cf u c I
 case b0=>
  intro u
  by_cases hu:u=x
  ·subst hu
   rw[iA,p9]
   exact(ar.bx qd.2).2 ⟨qd.1,gB⟩
  ·rw[f_ _ _ hu,p_ _ _ hu]
   have cg:∀y c,y≠x→S y c→aq.heap[c]? =w.heap[c]? :=fun y c aW ae=>iC c (by rintro rfl;exact h.c8 y x c aW ae nB)
   refine(ar.bo ev rfl h0 (fun y ek d2 aW fa qe=> ?_) kH _).1 _ _ _ (Nat.le_refl _) (fun c ae=>cg u c hu ae) (h.b0 u)
   have qf:=h.b0 y
   rw[ar.bx (e2 fa qe)]at qf
   exact r1 ek _ _ _ none d2 qf.2 fa (fun c ae=>cg y c aW ae)
 case old=>
  intro c cv ga
  rw[iC c ?_]
  ·exact h.old c cv ga
  ·rintro rfl
   rcases h.cf x c nB with bI|bI
   ·exact ga bI
   ·omega
 case size=>rw[cp];exact h.size
 case os=>exact ua.trans h.os
 case tape=>exact ub.trans h.tape
 case output=>exact ng.trans h.output
 case er=>exact h.er
def x6 (P:Program) (t:TypeId):Bool:=match P.info? t with
 |some i=>match i.zero with
  |some (.bool false)=>true
  |_=>false
 |none=>false
def sk (C:bq) (T:TypeId):Bool:=match(C.T T).k with
 | .map j9 eN=>match(C.T j9).k with
   | .str=>x6 C.P eN
   |_=>false
 |_=>false
def jv (C:bq) (s:af) (T:TypeId) (x i:j):Option j:=match x,i with
 | .h y q,.str k=>match j.sub q (s y)with
   |some (.cr (.mp m))=>if sk C T=true then some (.bool (mf k m))else none
   |_=>none
 |_,_=>none
def iK (C:bq) (s:af) (T:TypeId) (x i v:j):Option af:=match x,i,v with
 | .h y q,.str k,.bool b=>match j.sub q (s y)with
   |some (.cr (.mp m))=>if sk C T=true then some (bZ (e_ y s) y (j.put q (.cr (.mp (kE k b m))) (s y)))else none
   |_=>none
 |_,_,_=>none
theorem x7 (aQ:C.cY) {T:TypeId} (h:sk C T=true):∃j9 eN,C.P.underlying T=some (.map j9 eN)∧C.P.underlying j9=some .string∧∀w,(zeroValue eN).run C.P w= .ok (.bool false) w:=by
 unfold sk at h
 split at h
 ·rename_i j9 eN ai
  split at h
  ·rename_i U
   obtain⟨i,d,z,aE,aL,bb,b2,b9,bl,bf⟩:=aQ.info (dB ai (by simp))
   obtain⟨lz,aT,lA,f1,f2,f3,f4,f5,f6,f7⟩:=aQ.info (dB U (by simp))
   rw[ai]at bf
   rw[U]at f7
   have:=kI f7;subst this
   refine⟨j9,eN,?_,f6,fun w=> ?_⟩
   ·rw[bl];cases d<;>simp[hf]at bf
    rw[bf.1,bf.2]
   ·unfold x6 at h
    split at h
    ·rename_i jW aD
     split at h
     ·rename_i aO;exact nk aD aO w
     ·cases h
    ·cases h
  ·cases h
 ·cases h
theorem uJ (a b:ByteArray):(a==b)=true↔a=b:=by
 constructor
 ·intro h
  exact ByteArray.ext (eq_of_beq (show(a.data==b.data)=true from h))
 ·rintro rfl
  show(a.data==a.data)=true
  simp
theorem uK (k:List UInt8) (b:Bool):∀(es:List MapEntry) (m:List (List UInt8×Bool)) (i:Nat),es.map (fun e=>(e.key,e.val))=m.map (fun e=>(.string ⟨⟨e.1⟩⟩,.bool e.2))→
  (Instr.findNow .string (.string ⟨⟨k⟩⟩) es i=some none∧mf k m=false∧kE k b m=m++[(k,b)])∨
  ∃ad e,es[ad]? =some e∧e.key= .string ⟨⟨k⟩⟩∧Instr.findNow .string (.string ⟨⟨k⟩⟩) es i=some (some (i+ad,.bool (mf k m)))∧kE k b m=m.set ad (k,b)
 |[],m,i,h=>by
  have:m=[]:=by simpa using h.symm
  subst this
  exact .inl ⟨rfl,rfl,rfl⟩
 |e::es,[],i,h=>by simp at h
 |e::es,(bY,dp)::m,i,h=>by
  simp only[List.map_cons,List.cons.injEq,Prod.mk.injEq]at h
  obtain⟨⟨U,aa⟩,aw⟩:=h
  by_cases ai:bY=k
  ·subst ai
   refine .inr ⟨0,e,rfl,U,?_,by simp[kE]⟩
   have:(((⟨⟨bY⟩⟩:ByteArray)==⟨⟨bY⟩⟩))=true:=(uJ _ _).2 rfl
   simp only[Instr.findNow,U,aa,Instr.sameNow,mf,this,if_true,Nat.add_zero]
  ·have aV:((⟨⟨k⟩⟩:ByteArray)==⟨⟨bY⟩⟩)=false:=by
    refine Bool.eq_false_iff.2 fun e=>ai ?_
    have:=(uJ _ _).1 e
    simp only[ByteArray.mk.injEq,Array.mk.injEq]at this
    exact this.symm
   rcases uK k b es m (i+1) aw with⟨aD,aO,bg⟩|⟨ad,ej,aD,aO,bg,b6⟩
   ·refine .inl ⟨?_,?_,?_⟩
    ·simp only[Instr.findNow,U,Instr.sameNow,aV];exact aD
    ·simp[mf,ai,aO]
    ·simp[kE,ai,bg]
   ·refine .inr ⟨ad+1,ej,aD,aO,?_,?_⟩
    ·simp only[Instr.findNow,U,Instr.sameNow,aV]
     rw[bg];simp[mf,ai,Nat.add_assoc,Nat.add_comm 1 ad]
    ·simp[kE,ai,b6]
theorem sl {P:Program} {j9:TypeId} (ai:P.underlying j9=some .string) (e:Bool) (k:ByteArray) (w:World):(Instr.checkKey e 10000 j9 (.string k)).run P w= .ok () w:=by
 unfold Instr.checkKey
 simp[run_underlying ai]
theorem x8 (h:aY w0 F0 X F S s ak w) {y:Nat} {q:List Nat} {m:List (List UInt8×Bool)} {v:Value} (aC:ar w F s ak (.h y q) v (fun _=>False)) (ab:j.sub q (s y)=some (.cr (.mp m))):
  ∃r ms iz,v= .map (some r)∧w.heap[r]? =some (.map ms iz)∧ms.toList.map (fun e=>(e.key,e.val))=m.map (fun e=>(.string ⟨⟨e.1⟩⟩,.bool e.2))∧
   ∃a,bX w q (s y) (bd (ak y)) none=some (.cr (.mp m),[.map (some r)],a):=by
 rw[ar]at aC
 obtain⟨bE,a,aD,aO,bg⟩:=aC _ ab rfl
 have U:Value.ea v=true:=bg
 rw[el U]at aO
 have ao:=h.b0 y
 rw[ar.bx (e2 ab (.inl rfl))]at ao
 obtain⟨dz,bM,cD,dd,k0,bn,bp,cy,b_,c4⟩:=ctx q (s y) (bd (ak y)) (S y) none _ ao.2 ab
 rw[k0]at aD
 simp only[Option.some.injEq,Prod.mk.injEq,true_and]at aD
 obtain⟨rfl,rfl⟩:=aD
 rw[al]at b_
 obtain⟨r,ms,iz,aE,aL,bb,b2⟩:=b_
 rw[aE]at aO k0
 exact⟨r,ms,iz,by simpa using aO,bb,b2,bM,k0⟩
theorem DL (aQ:C.cY) (h:aY w0 F0 X F S s ak w) {T:TypeId} {x i:j} {e5 jl:Value} (ao:ar w F s ak x e5 (fun _=>False)) (az:ar w F s ak i jl (fun _=>False)) (he:jv C s T x i=some av):
  Good C w0 F0 X ak w (Instr.lookup T e5 jl false) av s:=by
 unfold jv at he
 split at he
 ·rename_i y q k
  split at he
  ·rename_i m ab
   split at he
   ·rename_i hE
    simp only[Option.some.injEq]at he;subst he
    obtain⟨j9,eN,t1,t2,t3⟩:=x7 aQ hE
    obtain⟨r,ms,iz,rfl,aL,bb,_⟩:=x8 h ao ab
    have:=iH az;subst this
    refine Good.same h (v:=.bool (mf k m)) ?_ rfl (of_bool _)
    rcases uK k true ms.toList m 0 bb with⟨aD,aO,_⟩|⟨ad,e,_,_,aD,_⟩
    ·simp[Instr.lookup,run_underlying t1,getObj,Sem.run,aL,sl t2,Instr.findKey,run_underlying t2,aD,t3,aO]
    ·simp[Instr.lookup,run_underlying t1,getObj,Sem.run,aL,sl t2,Instr.findKey,run_underlying t2,aD]
   ·cases he
  ·cases he
 ·cases he
theorem DM (aQ:C.cY) (h:aY w0 F0 X F S s ak w) {T:TypeId} {x i v:j} {e5 jl x9:Value} (ao:ar w F s ak x e5 (fun _=>False)) (az:ar w F s ak i jl (fun _=>False)) (aC:ar w F s ak v x9 (fun _=>False)) {s2:af}
  (he:iK C s T x i v=some s2):∃aq ay,(Instr.mapUpdate T e5 jl x9).run C.P w= .ok () aq∧aY w0 F0 X F ay s2 ak aq:=by
 unfold iK at he
 split at he
 ·rename_i y q k b
  split at he
  ·rename_i m ab
   split at he
   ·rename_i hE
    simp only[Option.some.injEq]at he;subst he
    obtain⟨j9,eN,t1,t2,t3⟩:=x7 aQ hE
    obtain⟨r,ms,iz,rfl,aL,bb,a0,gN⟩:=x8 h ao ab
    have:=iH az;subst this
    have:=mq aC;subst this
    have key:∀(sm:Array MapEntry) (uL:Nat),sm.toList.map (fun e=>(e.key,e.val))=(kE k b m).map (fun e=>(.string ⟨⟨e.1⟩⟩,.bool e.2))→
      ∃ay,aY w0 F0 X F ay (bZ (e_ y s) y (j.put q (.cr (.mp (kE k b m))) (s y))) ak {w with heap:=w.heap.setIfInBounds r (.map sm uL)}:=by
     intro sm uL hm
     have aA:r<w.heap.size:=(Array.getElem?_eq_some_iff.1 aL).1
     refine aY.DJ (b:=r) h ab rfl rfl (fun v aC=>aC) (fun v aC=>aC) (fun vs e=>by cases e) rfl ?_ (fun c ae=> ?_) (by simp) rfl rfl ⟨rfl,fun _=>Nat.le_refl _⟩
     ·intro bE a dd bk dN
      rw[gN]at bk
      simp only[Option.some.injEq,Prod.mk.injEq,true_and]at bk
      obtain⟨rfl,_⟩:=bk
      rw[al]at dN⊢
      obtain⟨fy,mx,Pz,f1,f2,f3,f4⟩:=dN
      simp only[List.cons.injEq,Value.map.injEq,Option.some.injEq,and_true]at f1
      subst f1
      exact⟨f2,r,sm,uL,rfl,f2,by simp[aA],hm⟩
     ·simp[Ne.symm ae]
    rcases uK k b ms.toList m 0 bb with⟨aD,_,aO⟩|⟨ad,e,dI,ge,aD,aO⟩
    ·obtain⟨ay,bn⟩:=key (ms.push {key:=.string ⟨⟨k⟩⟩,val:=.bool b,born:=iz}) (iz+1) (by rw[aO];simp[bb])
     exact⟨_,ay,by simp[Instr.mapUpdate,run_underlying t1,getObj,setObj,Sem.run,aL,sl t2,Instr.findKey,run_underlying t2,aD],bn⟩
    ·rw[Nat.zero_add]at aD
     obtain⟨ay,bn⟩:=key (ms.modify ad fun e=>{e with key:=.string ⟨⟨k⟩⟩,val:=.bool b}) iz (by
      rw[aO,List.map_set,←bb]
      apply List.ext_getElem?
      intro n
      by_cases aV:n=ad
      ·subst aV
       have:n<ms.toList.length:=(List.getElem?_eq_some_iff.1 dI).1
       rw[List.getElem?_set_self (by simpa using this)]
       simp[dI]
      ·simp[List.getElem?_set_ne (Ne.symm aV),Ne.symm aV])
     have DN:ms[ad]? =some e:=by simpa using dI
     exact⟨_,ay,by simp[Instr.mapUpdate,run_underlying t1,getObj,setObj,Sem.run,aL,sl t2,Instr.findKey,run_underlying t2,aD,DN,ge,Instr.keyThatStays,Instr.sameBits,(uJ ⟨⟨k⟩⟩ ⟨⟨k⟩⟩).2 rfl],bn⟩
   ·cases he
  ·cases he
 ·cases he
theorem DO (h:aY w0 F0 X F S s ak w) (t:TypeId):Good C w0 F0 X ak w (Instr.makeMap t none) (.cr (.mp [])) s:=by
 have hold:∀b,b<w.heap.size→(w.alloc (.map #[] 0)).heap[b]? =w.heap[b]? :=by
  intro b I
  show(w.heap.push _)[b]? =_
  rw[Array.getElem?_push,if_neg (by omega)]
 refine⟨.map (some w.heap.size),w.alloc (.map #[] 0),F,S,?_,h.grow hold (by simp) rfl rfl ⟨rfl,fun _=>Nat.le_refl _⟩,.inr ⟨rfl,rfl,fun b=>b=w.heap.size,?_,?_,?_,?_,?_⟩⟩
 ·simp[Instr.makeMap,newObj,Sem.run]
 ·rw[al]
  refine⟨w.heap.size,#[],0,rfl,rfl,?_,rfl⟩
  show(w.heap.push _)[_]? =_
  simp
 ·rintro b rfl;simp
 ·rintro b rfl lD;exact Nat.lt_irrefl _ (h.c_ _ lD)
 ·rintro u b rfl hu;exact Nat.lt_irrefl _ (h.cP _ _ hu)
 ·rintro b rfl;exact .inr h.size
end
end Go.bV
