/- Part of a proof that a law returns true for every input. No condition. -/
import Derived.Test.YtocllehpepigpaaGreatFwC
import Derived.Test.YtocllehpepigpaaGreatFwA
import Derived.Laws.IdiomStrings
import Derived.Laws.Strings
import Derived.LaidEql
import Derived.WideLaws
import Derived.Laws.StructEq
namespace Go.cZ
section
variable {C:cw} {w0 w:World} {F0 X F:Nat→Prop} {S:Nat→Nat→Prop} {s s1:ar} {aA:Nat→Value} {av:I}
theorem ob {k:IntKind} {n:Int} {v:Value} {aR:Nat→Prop} (h:aL w F s aA (.int k n) v aR):v= .int k n:=by
 have bL:=(aL.cV rfl).1 h
 rw[ax,hp bL.1]at bL
 simpa using bL.2
theorem rF {b:Bool} {v:Value} {aR:Nat→Prop} (h:aL w F s aA (.bool b) v aR):v= .bool b:=by
 have bL:=(aL.cV rfl).1 h
 rw[ax,hp bL.1]at bL
 simpa using bL.2
theorem oc {b:List UInt8} {v:Value} {aR:Nat→Prop} (h:aL w F s aA (.str b) v aR):v= .string ⟨⟨b⟩⟩:=by
 have bL:=(aL.cV rfl).1 h
 rw[ax,hp bL.1]at bL
 simpa using bL.2
theorem Jy {v:Value} {aR:Nat→Prop} (h:aL w F s aA .dI v aR):v= .pointer none:=by
 have bL:=(aL.cV rfl).1 h
 rw[ax,hp bL.1]at bL
 simpa using bL.2
theorem qJ {v:Value} {aR:Nat→Prop} (h:aL w F s aA .bk v aR):v= .slice none 0 0:=by
 have bL:=(aL.cV rfl).1 h
 rw[ax,hp bL.1]at bL
 simpa using bL.2
theorem Jz {v:Value} {aR:Nat→Prop} (h:aL w F s aA .fb v aR):∃b,v= .bool b:=by
 have bL:=(aL.cV rfl).1 h
 rw[ax,hp bL.1]at bL
 simpa using bL.2
theorem of_int (k:IntKind) (n:Int):aL w F s aA (.int k n) (.int k n) (fun _=>False):=(aL.cV rfl).2 ⟨rfl,by rw[ax];rfl⟩
theorem of_bool (b:Bool):aL w F s aA (.bool b) (.bool b) (fun _=>False):=(aL.cV rfl).2 ⟨rfl,by rw[ax];rfl⟩
theorem o3 (b:List UInt8):aL w F s aA (.str b) (.string ⟨⟨b⟩⟩) (fun _=>False):=(aL.cV rfl).2 ⟨rfl,by rw[ax];rfl⟩
theorem Fo (b:Bool):aL w F s aA .fb (.bool b) (fun _=>False):=(aL.cV rfl).2 ⟨rfl,by rw[ax];exact⟨b,rfl⟩⟩
def jt (op:BinOp) (k:IntKind) (a:Int) (cW:IntKind) (b:Int):Option I:=
 match op with
 | .shl=>if b<0 then none else some (.int k (k.wrap (a*2^(min b.toNat k.bits))))
 | .shr=>if b<0 then none else some (.int k (a.fdiv (2^(min b.toNat k.bits))))
 | .add=>if k=cW then some (.int k (k.wrap (a+b)))else none
 | .sub=>if k=cW then some (.int k (k.wrap (a-b)))else none
 | .mul=>if k=cW then some (.int k (k.wrap (a*b)))else none
 | .quo=>if k=cW∧b≠0 then some (.int k (k.wrap (a.tdiv b)))else none
 | .rem=>if k=cW∧b≠0 then some (.int k (a.tmod b))else none
 | .eql=>if k=cW then some (.bool (a==b))else none
 | .neq=>if k=cW then some (.bool (a !=b))else none
 | .lss=>if k=cW then some (.bool (decide (a<b)))else none
 | .leq=>if k=cW then some (.bool (decide (a≤b)))else none
 | .gtr=>if k=cW then some (.bool (decide (b<a)))else none
 | .geq=>if k=cW then some (.bool (decide (b≤a)))else none
 | .and=>if k=cW then some (.int k (bitsOf .and k a b))else none
 | .or=>if k=cW then some (.int k (bitsOf .or k a b))else none
 | .xor=>if k=cW then some (.int k (bitsOf .xor k a b))else none
 | .andNot=>if k=cW then some (.int k (bitsOf .andNot k a b))else none
def nB (op:BinOp) (a b:List UInt8):Option I:=
 match op with
 | .add=>if a.length+b.length≤9223372036854775807 then some (.str (a++b))else none
 | .eql=>some (.bool (a==b))
 | .neq=>some (.bool !(a==b))
 | .lss=>some (.bool (Op.bytesLess a b))
 | .leq=>some (.bool (Op.bytesLess a b||a==b))
 | .gtr=>some (.bool !(Op.bytesLess a b||a==b))
 | .geq=>some (.bool !(Op.bytesLess a b))
 |_=>none
def j5 (s:ar):I→Option (Option Bool)
 | .bk=>some (some true)
 | .slice xs=>some (if xs=[]then none else some false)
 | .h x q=>match I.sub q (s x)with
   |some (.an _ xs)=>some (if xs=[]then none else some false)
   |_=>none
 |_=>none
def lH (s:ar):I→Option Bool
 | .dI=>some true
 | .ref _=>some false
 | .h x q=>match I.sub q (s x)with
   |some (.bd _)=>some false
   |_=>none
 |_=>none
def o4 (neg:Bool):Option Bool→I
 |some b=>.bool (b !=neg)
 |none=>.fb
def structEq (P:Program) (T:TypeId):Bool:= !P.stoodInHeld T&& !P.eqGuardType P.depth T&&(P.fieldsOf T).toList.all fun f=>decide (f.name≠ "_")
def od (C:cw):List (TypeId×Nat)→Nat→List I→List I→Option Bool
 |[],_,[],[]=>some true
 |(j3,off)::ay,n,d::ds,e::es=>if off=n then(match(C.T j3).k,d,e with
  | .int k,.int b8 a,.int cy b=>if b8=k∧cy=k then(od C ay (n+1) ds es).map fun r=>a==b&&r else none
  | .bool,.bool a,.bool b=>(od C ay (n+1) ds es).map fun r=>a==b&&r
  | .str,.str a,.str b=>(od C ay (n+1) ds es).map fun r=>a==b&&r
  |_,_,_=>none)else none
 |_,_,_,_=>none
def ck (C:cw) (s:ar) (op:BinOp) (T:TypeId) (x y:I):Option I:=
 match x,y with
 | .int k a,.int cW b=>jt op k a cW b
 | .str a,.str b=>nB op a b
 | .bool a,.bool b=>match op,(C.T T).k with
   | .eql,.bool=>some (.bool (a==b))
   | .neq,.bool=>some (.bool !(a==b))
   |_,_=>none
 | .agg ds,.agg es=>match op,(C.T T).k with
   | .eql,.struct ay=>if structEq C.P T=true then(od C ay 0 ds es).map fun b=>.bool b else none
   | .neq,.struct ay=>if structEq C.P T=true then(od C ay 0 ds es).map fun b=>.bool !b else none
   |_,_=>none
 |x,.bk=>match op,(C.T T).k with
  | .eql,.slice _=>(j5 s x).map (o4 false)
  | .neq,.slice _=>(j5 s x).map (o4 true)
  |_,_=>none
 |x,.dI=>match op,(C.T T).k with
  | .eql,.ptr _=>(lH s x).map fun b=>.bool b
  | .neq,.ptr _=>(lH s x).map fun b=>.bool !b
  |_,_=>none
 |_,_=>none
theorem RR {P:Program} {op:BinOp} {T:TypeId} {k cW:IntKind} {a b:Int} (he:jt op k a cW b=some av) (w:World):
  ∃v,(binOp op T (.int k a) (.int cW b)).run P w= .ok v w∧aL w F s aA av v (fun _=>False):=by
 unfold jt at he
 cases op<;>simp only at he<;>split at he<;>first|(cases he;done)|skip
 all_goals
  rename_i aq
  simp only[Option.some.injEq]at he
  subst he
 all_goals first
  |(subst aq;simp only[binOp_add,binOp_sub,binOp_mul,binOp_eql,binOp_neq,binOp_lss,binOp_leq,binOp_gtr,binOp_geq,binOp_and,binOp_or,binOp_xor,binOp_andNot,Op.intArith,Op.intBits,Sem.run_pure,Result.ok.injEq,and_true,exists_eq_left']
    first|exact of_int _ _|exact of_bool _)
  |(obtain⟨rfl,bf⟩:=aq
    simp only[binOp_quo,binOp_rem,Op.intDiv,bf,if_false,Sem.run_pure,Result.ok.injEq,and_true,exists_eq_left']
    exact of_int _ _)
  |(simp only[binOp_shl,binOp_shr,Op.shift,aq,if_false,Sem.run_pure,Result.ok.injEq,and_true,exists_eq_left']
    exact of_int _ _)
theorem xI (a:List UInt8):(⟨⟨a⟩⟩:ByteArray).toList=a:=ByteArray.toList_eq _
theorem RS (a b:List UInt8):(⟨⟨a⟩⟩:ByteArray)++(⟨⟨b⟩⟩:ByteArray)=⟨⟨a++b⟩⟩:=by
 apply ByteArray.ext
 simp[ByteArray.data_append]
theorem RT {P:Program} {op:BinOp} {T:TypeId} {a b:List UInt8} (he:nB op a b=some av) (w:World):
  ∃v,(binOp op T (.string ⟨⟨a⟩⟩) (.string ⟨⟨b⟩⟩)).run P w= .ok v w∧aL w F s aA av v (fun _=>False):=by
 have ae:∀op,binOp op T (.string ⟨⟨a⟩⟩) (.string ⟨⟨b⟩⟩)=Op.stringOp op ⟨⟨a⟩⟩ ⟨⟨b⟩⟩:=by intro op;cases op<;>rfl
 rw[ae]
 unfold nB at he
 cases op<;>simp only[Option.some.injEq]at he<;>first|(cases he;done)|skip
 case add=>
  split at he
  ·rename_i hl
   simp only[Option.some.injEq]at he;subst he
   have ag:((ByteArray.size ⟨⟨a⟩⟩+ByteArray.size ⟨⟨b⟩⟩:Nat):Int)≤9223372036854775807:=by
    show((a.length+b.length:Nat):Int)≤_
    omega
   refine⟨.string ⟨⟨a++b⟩⟩,?_,o3 _⟩
   simp only[Op.stringOp,IntKind.max_i64]
   rw[if_neg (by omega),RS]
   rfl
  ·cases he
 all_goals
  subst he
  simp only[Op.stringOp,xI,Sem.run_pure,Result.ok.injEq,and_true,exists_eq_left']
  exact of_bool _
theorem Fp (h:bQ w0 F0 X F S s aA w) {v:Value} {y:Nat} {q:List Nat} (aM:aL w F s aA (.h y q) v (fun _=>False)) {sz:Nat} {xs:List I} (aj:I.sub q (s y)=some (.an sz xs)):
  (xs=[]∧∃a,v= .slice a 0 0)∨∃b cap cur e fr,v= .slice (some ⟨b,0,none⟩) xs.length cap∧w.heap[b]? =some (.cells cur e fr)∧oV fr cur.size∧xs.length≤cap∧cap≤maxLen∧cur.size=cap*sz∧(∀d∈xs,d.wd=sz)∧
   ∃aR,bc w F xs (cur.toList.take (xs.length*sz)) aR∧(∀c,aR c→S y c)∧S y b:=by
 rw[aL]at aM
 obtain⟨c3,a,g1,g2,g3⟩:=aM _ aj rfl
 have ag:Value.gC v=true:=g3
 rw[hp ag]at g2;subst g2
 have aw:=h.dF y
 rw[aL.cV (ig aj (.inl rfl))]at aw
 obtain⟨gp,c4,eF,fE,k0,b8,cy,e_,ed,fF⟩:=ctx q (s y) (cC (aA y)) (S y) none _ aw.2 aj
 rw[k0]at g1
 simp only[Option.some.injEq,Prod.mk.injEq,true_and]at g1
 obtain⟨rfl,rfl⟩:=g1
 rw[ax]at ed
 rcases ed with⟨rfl,a2,ah⟩|⟨b,cap,cur,aZ,fr,dU,aQ,cF,cR,ch,b3,hq,lh,mu,l4,eo,dS⟩
 ·simp at ah;exact .inl ⟨rfl,_,ah⟩
 ·simp at aQ
  exact .inr ⟨b,cap,cur,aZ,fr,aQ,cR,ch,b3,hq,lh,mu,dU,l4,fun c aq=>cy _ (eo c aq),cy _ cF⟩
theorem JA (h:bQ w0 F0 X F S s aA w) {v:Value} {y:Nat} {q:List Nat} (aM:aL w F s aA (.h y q) v (fun _=>False)) {d:I} (aj:I.sub q (s y)=some (.bd d)):
  ∃b cur e fr,v= .pointer (some ⟨b,0,none⟩)∧w.heap[b]? =some (.cells cur e fr):=by
 rw[aL]at aM
 obtain⟨c3,a,g1,g2,g3⟩:=aM _ aj rfl
 have ag:Value.gC v=true:=g3
 rw[hp ag]at g2;subst g2
 have aw:=h.dF y
 rw[aL.cV (ig aj (.inl rfl))]at aw
 obtain⟨gp,c4,eF,fE,k0,b8,cy,e_,ed,fF⟩:=ctx q (s y) (cC (aA y)) (S y) none _ aw.2 aj
 rw[k0]at g1
 simp only[Option.some.injEq,Prod.mk.injEq,true_and]at g1
 obtain⟨rfl,rfl⟩:=g1
 rw[ax]at ed
 obtain⟨b,cur,aZ,fr,dU,aQ,cF,cR,_⟩:=ed
 simp at aQ
 exact⟨b,cur,aZ,fr,aQ,cR⟩
theorem JB {P:Program} {T e:TypeId} (ba:P.underlying T=some (.slice e)) (w:World):∀d,(Op.equalIn (d+1) T (.slice none 0 0) (.slice none 0 0)).run P w= .ok true w∧
  ∀a n c,(Op.equalIn (d+1) T (.slice (some a) n c) (.slice none 0 0)).run P w= .ok false w:=by
 intro d
 refine⟨by simp[Op.equalIn,run_underlying ba],fun a n c=>by simp[Op.equalIn,run_underlying ba]⟩
theorem JC {P:Program} {T e:TypeId} (ba:P.underlying T=some (.pointer e)) (w:World):∀d,(Op.equalIn (d+1) T (.pointer none) (.pointer none)).run P w= .ok true w∧
  ∀a,(Op.equalIn (d+1) T (.pointer (some a)) (.pointer none)).run P w= .ok false w:=by
 intro d
 refine⟨by simp[Op.equalIn,run_underlying ba],fun a=>by simp[Op.equalIn,run_underlying ba]⟩
theorem JD {P:Program} {T:TypeId} (ba:P.underlying T=some .bool) (w:World):∀d a b,(Op.equalIn (d+1) T (.bool a) (.bool b)).run P w= .ok (a==b) w:=by
 intro d a b
 simp[Op.equalIn,run_underlying ba]
theorem JE (h:bQ w0 F0 X F S s aA w) {x:I} {v:Value} (aM:aL w F s aA x v (fun _=>False)) {T e:TypeId} {r:Option Bool} (aX:j5 s x=some r) (ba:C.P.underlying T=some (.slice e)):
  ∃b,(Op.equal T v (.slice none 0 0)).run C.P w= .ok b w∧(∀fZ,r=some fZ→fZ=b)∧Value.gC v=true∧∃a n c,v= .slice a n c:=by
 have aS:=fun a n c=>(JB ba w 9999).2 a n c
 have gT:=(JB ba w 9999).1
 cases x with
 |bk=>
  have:=qJ aM;subst this
  simp[j5]at aX;subst aX
  exact⟨true,gT,by simp,rfl,_,_,_,rfl⟩
 |slice xs=>
  have bL:=(aL.cV rfl).1 aM
  rw[ax,hp bL.1]at bL
  simp only[j5,Option.some.injEq]at aX
  obtain⟨_,⟨rfl,a,c,ah,_,sR⟩|⟨b,o,cap,eR,sz,ah,aC⟩⟩:=bL
  ·simp at ah aX;subst ah;subst aX
   cases a with
   |none=>
    have:=sR rfl;subst this
    exact⟨true,gT,by simp,rfl,_,_,_,rfl⟩
   |some a=>exact⟨false,aS _ _ _,by simp,rfl,_,_,_,rfl⟩
  ·simp at ah;subst ah
   refine⟨false,aS _ _ _,?_,rfl,_,_,_,rfl⟩
   subst aX
   split<;>simp
 |h y q=>
  simp only[j5]at aX
  split at aX
  ·rename_i sz xs aj
   simp only[Option.some.injEq]at aX
   rcases Fp h aM aj with⟨rfl,a,rfl⟩|⟨b,cap,cur,aZ,fr,rfl,_⟩
   ·simp at aX;subst aX
    cases a with
    |none=>exact⟨true,gT,by simp,rfl,_,_,_,rfl⟩
    |some a=>exact⟨false,aS _ _ _,by simp,rfl,_,_,_,rfl⟩
   ·refine⟨false,aS _ _ _,?_,rfl,_,_,_,rfl⟩
    subst aX
    split<;>simp
  ·cases aX
 |_=>simp[j5]at aX
theorem JF (h:bQ w0 F0 X F S s aA w) {x:I} {v:Value} (aM:aL w F s aA x v (fun _=>False)) {T e:TypeId} {r:Bool} (aX:lH s x=some r) (ba:C.P.underlying T=some (.pointer e)):
  (Op.equal T v (.pointer none)).run C.P w= .ok r w∧∃a,v= .pointer a:=by
 have aS:=fun a=>(JC ba w 9999).2 a
 have gT:=(JC ba w 9999).1
 cases x with
 |dI=>
  have:=Jy aM;subst this
  simp[lH]at aX;subst aX
  exact⟨gT,_,rfl⟩
 |ref d=>
  have bL:=(aL.cV rfl).1 aM
  rw[ax,hp bL.1]at bL
  simp[lH]at aX;subst aX
  obtain⟨_,b,o,eR,ah,_⟩:=bL
  simp at ah;subst ah
  exact⟨aS _,_,rfl⟩
 |h y q=>
  simp only[lH]at aX
  split at aX
  ·rename_i d aj
   simp only[Option.some.injEq]at aX;subst aX
   obtain⟨b,cur,e,fr,rfl,_⟩:=JA h aM aj
   exact⟨aS _,_,rfl⟩
  ·cases aX
 |_=>simp[lH]at aX
theorem RU (bu:C.Ok):∀(ay:List (TypeId×Nat)) (gs:List Field) (n:Nat) (ds es:List I) (r:Bool) (gH l2 cB cu:List Value) (xs ys:Array Value) (cq dU:Nat→Prop),
  gs.map (fun g=>(g.type,g.offset))=ay→(gs.all fun f=>decide (f.name≠ "_"))=true→od C ay n ds es=some r→bc w F ds cB cq→bc w F es cu dU→xs.toList=gH++cB→gH.length=n→ys.toList=l2++cu→l2.length=n→
  ∀m,(Op.eqFields (m+1) xs ys gs).run C.P w= .ok r w:=by
 intro ay
 induction ay with
 |nil=>
  intro gs n ds es r gH l2 cB cu xs ys cq dU b9 a6 he h1 ah aw hl bt Fq m
  have:gs=[]:=by simpa using b9
  subst this
  cases ds<;>cases es<;>simp[od]at he
  subst he
  simp[Op.eqFields]
 |cons p ay ih=>
  obtain⟨j3,off⟩:=p
  intro gs n ds es r gH l2 cB cu xs ys cq dU b9 a6 he h1 ah aw hl bt Fq m
  cases gs with
  |nil=>simp at b9
  |cons g gs=>
   simp only[List.map_cons,List.cons.injEq,Prod.mk.injEq]at b9
   obtain⟨⟨rfl,rfl⟩,b9⟩:=b9
   simp only[List.all_cons,Bool.and_eq_true,decide_eq_true_eq]at a6
   cases ds with
   |nil=>simp[od]at he
   |cons d ds=>
   cases es with
   |nil=>simp[od]at he
   |cons e es=>
   simp only[od]at he
   split at he
   ·rename_i pT
    rw[bc]at h1 ah
    obtain⟨R,a2,A2,RV,rfl,fQ,hC,ie,JG,gD⟩:=h1
    obtain⟨kW,iP,aDp,RW,rfl,hd,gF,h7,iy,oe⟩:=ah
    have step:∀(x y:Value) (z:Bool),(C.T g.type).flat=true→R=[x]→kW=[y]→(∀m,(Op.equalIn (m+1) g.type x y).run C.P w= .ok z w)→∀gU,od C ay (n+1) ds es=some gU→
      (Op.eqFields (m+1) xs ys (g::gs)).run C.P w= .ok (z&&gU) w:=by
     intro x y z jK RX RY heq gU eV
     subst RX;subst RY
     have RZ:xs[g.offset]? =some x:=by
      rw[←Array.getElem?_toList,aw,pT,←hl,List.getElem?_append_right (Nat.le_refl _)];simp
     have R0:ys[g.offset]? =some y:=by
      rw[←Array.getElem?_toList,bt,pT,←Fq,List.getElem?_append_right (Nat.le_refl _)];simp
     have ao:=ih gs (n+1) ds es gU (gH++[x]) (l2++[y]) a2 iP xs ys RV RW b9 a6.2 eV hC gF (by rw[aw];simp) (by simp[hl]) (by rw[bt];simp) (by simp[Fq]) m
     unfold Op.eqFields
     rw[if_pos a6.1]
     simp only[part,Sem.run_bind,Fl bu jK,Result.andThen_ok,Bool.false_eq_true,if_false,RZ,R0,Sem.run_pure,heq]
     cases z
     ·simp
     ·simpa using ao
    split at he
    ·rename_i k b8 a cy b hk
     split at he
     ·rename_i R1
      obtain⟨rfl,rfl⟩:=R1
      rw[ax]at fQ hd
      simp only[Option.map_eq_some_iff]at he
      obtain⟨gU,eV,rfl⟩:=he
      obtain⟨i,xJ,JH,aS,aZ,aQ,cF,cR,ch,b3⟩:=bu.info (gr hk (by simp))
      rw[hk]at b3
      have sS:=xE b3
      subst sS
      exact step _ _ _ (by simp[gS.flat,hk]) fQ hd (fun m=>run_equalIn_int w m g.type _ _ a b ch) gU eV
     ·cases he
    ·rename_i a b hk
     rw[ax]at fQ hd
     simp only[Option.map_eq_some_iff]at he
     obtain⟨gU,eV,rfl⟩:=he
     obtain⟨i,xJ,JH,aS,aZ,aQ,cF,cR,ch,b3⟩:=bu.info (gr hk (by simp))
     rw[hk]at b3
     have sS:=Fg b3
     subst sS
     exact step _ _ _ (by simp[gS.flat,hk]) fQ hd (fun m=>run_equalIn_bool' w m g.type a b ch) gU eV
    ·rename_i a b hk
     rw[ax]at fQ hd
     simp only[Option.map_eq_some_iff]at he
     obtain⟨gU,eV,rfl⟩:=he
     obtain⟨i,xJ,JH,aS,aZ,aQ,cF,cR,ch,b3⟩:=bu.info (gr hk (by simp))
     rw[hk]at b3
     have sS:=pS b3
     subst sS
     refine step _ _ (a==b) (by simp[gS.flat,hk]) fQ hd (fun m=> ?_) gU eV
     rw[run_equalIn_string w m g.type _ _ ch,xI,xI]
    ·cases he
   ·cases he
theorem JI (bu:C.Ok) {T:TypeId} {ay:List (TypeId×Nat)} (hk:(C.T T).k= .struct ay) {ds es:List I} {ij ja:Value} {cq dU:Nat→Prop} {r:Bool} (aw:aL w F s aA (.agg ds) ij cq) (bt:aL w F s aA (.agg es) ja dU)
  (c6:structEq C.P T=true) (he:od C ay 0 ds es=some r) (op:BinOp) (xK xL:Operand):
  (eqGuard op T xK xL ij ja).run C.P w= .ok () w∧(Op.equal T ij ja).run C.P w= .ok r w:=by
 obtain⟨i,d,z,aS,aZ,aQ,cF,cR,ch,b3⟩:=bu.info (gr hk (by simp))
 rw[hk]at b3
 obtain⟨gs,rfl,hq⟩:=xD b3
 have xM:C.P.fieldsOf T=gs:=by simp[Program.fieldsOf,ch]
 simp only[structEq,Bool.and_eq_true,Bool.not_eq_true',xM]at c6
 obtain⟨⟨hd,gF⟩,h7⟩:=c6
 obtain⟨⟨xs,rfl⟩,rG⟩:=(aL.cV rfl).1 aw
 obtain⟨⟨ys,rfl⟩,sN⟩:=(aL.cV rfl).1 bt
 rw[ax]at rG sN
 constructor
 ·cases op<;>simp[eqGuard,gF]
 ·show(Op.equalIn (9999+1) T _ _).run C.P w=_
  rw[run_equalIn_struct w 9999 T xs ys (by rw[xM];exact ch) hd,xM]
  exact RU bu ay gs.toList 0 ds es r [] [] _ _ xs ys cq dU hq h7 he rG sN rfl rfl rfl rfl 9998
theorem R2 (bu:C.Ok) (h:bQ w0 F0 X F S s aA w) {op:BinOp} {T:TypeId} {x y:I} {ij ja:Value} (xK xL:Operand) (aw:aL w F s aA x ij (fun _=>False)) (bt:aL w F s aA y ja (fun _=>False))
  (he:ck C s op T x y=some av):Good C w0 F0 X aA w (do eqGuard op T xK xL ij ja;binOp op T ij ja) av s:=by
 unfold ck at he
 split at he
 ·have:=ob aw;subst this
  have:=ob bt;subst this
  obtain⟨v,h1,ah⟩:=RR (P:=C.P) (T:=T) he w
  refine Good.same h (v:=v) ?_ ?_ ah
  ·rw[eqGuard_at_int];exact h1
  ·revert he;unfold jt;cases op<;>simp only<;>split<;>simp<;>(rintro rfl;rfl)
 ·have:=oc aw;subst this
  have:=oc bt;subst this
  obtain⟨v,h1,ah⟩:=RT (P:=C.P) (T:=T) he w
  refine Good.same h (v:=v) ?_ ?_ ah
  ·rw[eqGuard_at_string];exact h1
  ·revert he;unfold nB;cases op<;>simp only<;>(try split)<;>simp<;>(try (rintro rfl;rfl))
 ·have:=rF aw;subst this
  have:=rF bt;subst this
  split at he
  ·rename_i hk
   simp only[Option.some.injEq]at he;subst he
   obtain⟨i,d,z,aS,aZ,aQ,cF,cR,ch,b3⟩:=bu.info (gr hk (by simp))
   rw[hk]at b3
   have:=Fg b3;subst this
   refine Good.same h ?_ rfl (of_bool _)
   rw[eqGuard_at_bool]
   simp[binOp,Op.equal,Op.maxDepth,JD ch w 9999]
  ·rename_i hk
   simp only[Option.some.injEq]at he;subst he
   obtain⟨i,d,z,aS,aZ,aQ,cF,cR,ch,b3⟩:=bu.info (gr hk (by simp))
   rw[hk]at b3
   have:=Fg b3;subst this
   refine Good.same h ?_ rfl (of_bool _)
   rw[eqGuard_at_bool]
   simp[binOp,Op.equal,Op.maxDepth,JD ch w 9999]
  ·cases he
 ·split at he
  ·rename_i ay hk
   split at he
   ·rename_i c6
    simp only[Option.map_eq_some_iff]at he
    obtain⟨r,aX,rfl⟩:=he
    obtain⟨g1,g2⟩:=JI bu hk aw bt c6 aX .eql xK xL
    obtain⟨⟨xs,rfl⟩,_⟩:=(aL.cV rfl).1 aw
    obtain⟨⟨ys,rfl⟩,_⟩:=(aL.cV rfl).1 bt
    exact Good.same h (by simp[g1,binOp,g2]) rfl (of_bool _)
   ·cases he
  ·rename_i ay hk
   split at he
   ·rename_i c6
    simp only[Option.map_eq_some_iff]at he
    obtain⟨r,aX,rfl⟩:=he
    obtain⟨g1,g2⟩:=JI bu hk aw bt c6 aX .neq xK xL
    obtain⟨⟨xs,rfl⟩,_⟩:=(aL.cV rfl).1 aw
    obtain⟨⟨ys,rfl⟩,_⟩:=(aL.cV rfl).1 bt
    exact Good.same h (by simp[g1,binOp,g2]) rfl (of_bool _)
   ·cases he
  ·cases he
 ·have:=qJ bt;subst this
  split at he
  ·rename_i e hk
   simp only[Option.map_eq_some_iff]at he
   obtain⟨r,aX,rfl⟩:=he
   obtain⟨i,d,z,aS,aZ,aQ,cF,cR,ch,b3⟩:=bu.info (gr hk (by simp))
   rw[hk]at b3
   have:=lG b3;subst this
   obtain⟨b,h1,ah,aC,a0,bN,ny,rfl⟩:=JE h aw aX ch
   refine Good.same h (v:=.bool b) ?_ ?_ ?_
   ·rw[eqGuard_at_slice]
    simp[binOp,h1]
   ·cases r<;>rfl
   ·cases r with
    |none=>exact Fo b
    |some fZ=>have:=ah fZ rfl;subst this;simp only[o4,Bool.bne_false];exact of_bool _
  ·rename_i e hk
   simp only[Option.map_eq_some_iff]at he
   obtain⟨r,aX,rfl⟩:=he
   obtain⟨i,d,z,aS,aZ,aQ,cF,cR,ch,b3⟩:=bu.info (gr hk (by simp))
   rw[hk]at b3
   have:=lG b3;subst this
   obtain⟨b,h1,ah,aC,a0,bN,ny,rfl⟩:=JE h aw aX ch
   refine Good.same h (v:=.bool !b) ?_ ?_ ?_
   ·rw[eqGuard_at_slice]
    simp[binOp,h1]
   ·cases r<;>rfl
   ·cases r with
    |none=>exact Fo _
    |some fZ=>have:=ah fZ rfl;subst this;simp only[o4,Bool.bne_true];exact of_bool _
  ·cases he
 ·have:=Jy bt;subst this
  split at he
  ·rename_i e hk
   simp only[Option.map_eq_some_iff]at he
   obtain⟨r,aX,rfl⟩:=he
   obtain⟨i,d,z,aS,aZ,aQ,cF,cR,ch,b3⟩:=bu.info (gr hk (by simp))
   rw[hk]at b3
   have:=Jp b3;subst this
   obtain⟨h1,a0,rfl⟩:=JF h aw aX ch
   refine Good.same h (v:=.bool r) ?_ rfl (of_bool _)
   rw[eqGuard_at_pointer]
   simp[binOp,h1]
  ·rename_i e hk
   simp only[Option.map_eq_some_iff]at he
   obtain⟨r,aX,rfl⟩:=he
   obtain⟨i,d,z,aS,aZ,aQ,cF,cR,ch,b3⟩:=bu.info (gr hk (by simp))
   rw[hk]at b3
   have:=Jp b3;subst this
   obtain⟨h1,a0,rfl⟩:=JF h aw aX ch
   refine Good.same h (v:=.bool !r) ?_ rfl (of_bool _)
   rw[eqGuard_at_pointer]
   simp[binOp,h1]
  ·cases he
 ·cases he
end
section
variable {C:cw} {w0 w:World} {F0 X F:Nat→Prop} {S:Nat→Nat→Prop} {s s1:ar} {aA:Nat→Value} {av:I}
def un (op:UnOp) (x:I):Option I:=
 match op,x with
 | .not,.bool b=>some (.bool !b)
 | .not,.fb=>some .fb
 | .neg,.int k n=>some (.int k (k.wrap (0-n)))
 |_,_=>none
theorem R3 (h:bQ w0 F0 X F S s aA w) {op:UnOp} {x:I} {v:Value} (aM:aL w F s aA x v (fun _=>False)) (he:un op x=some av):Good C w0 F0 X aA w (Op.unary op v) av s:=by
 unfold un at he
 split at he<;>first|(cases he;done)|(simp only[Option.some.injEq]at he;subst he)
 ·have:=rF aM;subst this
  exact Good.same h rfl rfl (of_bool _)
 ·obtain⟨b,rfl⟩:=Jz aM
  exact Good.same h rfl rfl (Fo _)
 ·have:=ob aM;subst this
  exact Good.same h rfl rfl (of_int _ _)
def ga (s:ar) (x:I):Option I:=
 match x with
 | .ref d=>some (.ref d)
 | .fn f c=>some (.fn f c)
 | .h y q=>match I.sub q (s y)with
   |some (.bd _)=>some (.h y q)
   |_=>none
 |_=>none
theorem R4 {d:I} {v:Value} {aR:Nat→Prop} (h:aL w F s aA (.ref d) v aR):∃b o eR,v= .pointer (some ⟨b,o,none⟩)∧F b∧Rd w b o eR∧ax w F d eR (fun _=>False):=by
 have bL:=(aL.cV rfl).1 h
 rw[ax,hp bL.1]at bL
 obtain⟨_,b,o,eR,h1,ah,aC,a8⟩:=bL
 simp at h1;subst h1
 exact⟨b,o,eR,rfl,ah,aC,a8⟩
theorem R5 (h:bQ w0 F0 X F S s aA w) {x:I} {v:Value} (aM:aL w F s aA x v (fun _=>False)) (he:ga s x=some av):
  av=x∧x.plain=true∧((∃a,v= .pointer (some a))∨∃f c,v= .func (.func f) #[] c):=by
 unfold ga at he
 split at he
 ·simp only[Option.some.injEq]at he;subst he
  obtain⟨b,o,eR,rfl,_⟩:=R4 aM
  exact⟨rfl,rfl,.inl ⟨_,rfl⟩⟩
 ·simp only[Option.some.injEq]at he;subst he
  rw[aL]at aM
  obtain⟨arr,rfl,_⟩:=aM
  exact⟨rfl,rfl,.inr ⟨_,_,rfl⟩⟩
 ·split at he
  ·rename_i d aj
   simp only[Option.some.injEq]at he;subst he
   obtain⟨b,cur,e,fr,rfl,_⟩:=JA h aM aj
   exact⟨rfl,rfl,.inl ⟨_,rfl⟩⟩
  ·cases he
 ·cases he
def ex (s:ar) (x:I) (k:Nat):Option I:=
 match x with
 | .tuple ds=>match ds[k]? with
   |some d=>if d.plain=true then some d else none
   |none=>none
 | .h y q=>match I.sub q (s y)with
   |some (.tuple ds)=>match ds[k]? with
    |some d=>if I.dX ds=true then none else some (if d.plain then d else .h y (q++[k]))
    |none=>none
   |_=>none
 |_=>none
theorem JJ:∀(vs:List Value) (k:Nat) (x:Value) (ds:List I),vs[k]? =some x→vs.length=ds.length→(∀(j:Nat) (d:I) (y:Value),ds[j]? =some d→vs[j]? =some y→(h6 y).length=d.wd)→
  ∃l r,vs.flatMap h6=l++(h6 x++r)∧l.length=I.eC (ds.take k)
 |[],k,x,ds,h,_,_=>by simp at h
 |v::vs,0,x,ds,h,hl,hw=>by
  simp at h;subst h
  exact⟨[],vs.flatMap h6,by simp,by simp[I.eC]⟩
 |v::vs,k+1,x,d::ds,h,hl,hw=>by
  obtain⟨l,r,aS,aZ⟩:=JJ vs k x ds (by simpa using h) (by simpa using hl) (fun j d y h1 ah=>hw (j+1) d y (by simpa using h1) (by simpa using ah))
  refine⟨h6 v++l,r,by simp[aS],?_⟩
  have:=hw 0 d v (by simp) (by simp)
  simp[I.eC,aZ,this]
 |v::vs,k+1,x,[],h,hl,hw=>by simp at hl
theorem R6 {d:I} {v:Value} (h:iO d v) (_hd:∀vs,d≠.tuple vs):cC v=h6 v:=by
 cases d with
 |agg ay=>obtain⟨arr,rfl⟩:=h;rfl
 |_=>
  have h1:Value.gC v=true:=h
  cases v<;>first|rfl|(simp[Value.gC]at h1)
theorem R7 {d:I} {v:Value} (h:iO d v) (aj:∀vs,d≠.tuple vs):ei d v:=by
 cases d with
 |tuple vs=>exact(aj _ rfl).elim
 |_=>exact h
theorem R8 (h:bQ w0 F0 X F S s aA w) {x:I} {v:Value} {k:Nat} (aM:aL w F s aA x v (fun _=>False)) (he:ex s x k=some av):Good C w0 F0 X aA w (Instr.extract v k) av s:=by
 have pick:∀(ds:List I) (d:I) (arr:Array Value),ds[k]? =some d→(arr.size=ds.length∧∀(k:Nat) (d:I) (x:Value),ds[k]? =some d→arr[k]? =some x→iO d x∧(∀vs,d≠.tuple vs)∧(h6 x).length=d.wd)→
   ∃x,arr[k]? =some x∧ei d x∧((cC (.tuple arr)).drop (I.eC (ds.take k))).take d.wd=cC x:=by
  intro ds d arr aj ⟨cf,kR⟩
  have e7:k<arr.size:=by rw[cf];exact(List.getElem?_eq_some_iff.1 aj).1
  have aw:arr[k]? =some arr[k]:=Array.getElem?_eq_getElem e7
  obtain⟨g1,g2,g3⟩:=kR k d _ aj aw
  obtain⟨l,r,aS,aZ⟩:=JJ arr.toList k arr[k] ds (by simp[e7]) (by simpa using cf) (fun j d y h1 ah=>(kR j d y h1 (by simpa using ah)).2.2)
  refine⟨_,aw,R7 g1 g2,?_⟩
  rw[R6 g1 g2]
  simp only[cC]
  rw[aS]
  exact sH l _ r _ _ aZ g3
 unfold ex at he
 split at he
 ·rename_i ds
  split at he
  ·rename_i d aj
   split at he
   ·rename_i au
    simp only[Option.some.injEq]at he;subst he
    have bL:=(aL.cV rfl).1 aM
    obtain⟨⟨arr,rfl,cf⟩,gv⟩:=bL
    obtain⟨x,aw,ag,aq⟩:=pick ds d arr aj cf
    have aX:(Instr.extract (.tuple arr) k).run C.P w= .ok x w:=by simp[Instr.extract,aw]
    rw[ax]at gv
    obtain⟨cB,gn,cu,cq,ic,e,h5,fQ,hC,ie,gD,mn⟩:=bc.pick ds _ _ k d gv aj
    rw[e,sH cB gn cu _ _ h5 (ax.length _ _ _ gD)]at aq
    by_cases ba:d.tree=true
    ·exact Good.same h aX au ((aL.cV ba).2 ⟨ag,by rw[←aq];exact ax.plain _ _ _ _ au gD⟩)
    ·cases d<;>first|exact(ba rfl).elim|(rw[ax]at gD;exact gD.elim)|exact Good.same h aX rfl (by rw[aL];trivial)|(have bK:=ax.plain _ _ _ (fun _=>False) au gD;rw[aq,hp (by exact ag)]at bK;exact Good.same h aX rfl (aL.pU _ _ rfl bK))
   ·cases he
  ·cases he
 ·rename_i y q
  split at he
  ·rename_i ds aj
   split at he
   ·rename_i d hk
    split at he
    ·cases he
    ·rename_i gq
     simp only[Option.some.injEq]at he
     have gq:(I.tuple ds).plain=false:=by simpa [I.plain]using gq
     rw[aL]at aM
     obtain⟨c3,a,g1,g2,g3⟩:=aM _ aj gq
     obtain⟨arr,rfl,cf⟩:=g3
     obtain⟨x,aw,ag,aq⟩:=pick ds d arr hk cf
     have aX:(Instr.extract (.tuple arr) k).run C.P w= .ok x w:=by simp[Instr.extract,aw]
     have bt:=h.dF y
     rw[aL.cV (ig aj (.inl gq))]at bt
     obtain⟨gp,c4,eF,fE,k0,b8,cy,e_,ed,fF⟩:=ctx q (s y) (cC (aA y)) (S y) none _ bt.2 aj
     rw[k0]at g1
     simp only[Option.some.injEq,Prod.mk.injEq,true_and]at g1
     obtain⟨rfl,rfl⟩:=g1
     rw[g2]at aq
     split at he
     ·rename_i au
      subst he
      rw[ax]at ed
      obtain⟨cB,gn,cu,cq,ic,e,h5,fQ,hC,ie,gD,mn⟩:=bc.pick ds _ _ k d ed hk
      rw[e,sH cB gn cu _ _ h5 (ax.length _ _ _ gD)]at aq
      by_cases ba:d.tree=true
      ·exact Good.same h aX au ((aL.cV ba).2 ⟨ag,by rw[←aq];exact ax.plain _ _ _ _ au gD⟩)
      ·cases d<;>first|exact(ba rfl).elim|(rw[ax]at gD;exact gD.elim)|exact Good.same h aX rfl (by rw[aL];trivial)|(have bK:=ax.plain _ _ _ (fun _=>False) au gD;rw[aq,hp (by exact ag)]at bK;exact Good.same h aX rfl (aL.pU _ _ rfl bK))
     ·subst he
      refine Good.same h aX rfl ?_
      rw[aL]
      intro d2 iv va
      rw[xC w q _ _ _ _ _ _ [k] k0]
      rw[xB _ _ _ _ aj]at iv
      simp only[I.sub,hk,Option.some.injEq]at iv
      subst iv
      simp only[dB,hk]
      exact⟨_,_,rfl,aq.symm,ag⟩
   ·cases he
  ·cases he
 ·cases he
def mv (C:cw) (s:ar) (T:TypeId) (x:I) (k:Nat):Option I:=
 match(C.T T).k with
 | .struct ay=>match ay[k]? with
   |some (j3,off)=>match x with
    | .agg ds=>match ds[k]? with
      |some d=>if I.eC (ds.take k)=off∧fits C j3 d=true∧d.plain=true∧d.tree=true then some d else none
      |none=>none
    | .h y q=>match I.sub q (s y)with
      |some (.agg ds)=>match ds[k]? with
       |some d=>if I.eC (ds.take k)=off∧fits C j3 d=true∧I.dX ds=false∧d.tree=true then some (if d.plain then d else .h y (q++[k]))else none
       |none=>none
      |_=>none
    |_=>none
   |none=>none
 |_=>none
theorem R9 (bu:C.Ok) (h:bQ w0 F0 X F S s aA w) {T:TypeId} {x:I} {v:Value} {k:Nat} (aM:aL w F s aA x v (fun _=>False)) (he:mv C s T x k=some av):Good C w0 F0 X aA w (Instr.field T v k) av s:=by
 have key:∀(ay:List (TypeId×Nat)) (j3:TypeId) (off:Nat),(C.T T).k= .struct ay→ay[k]? =some (j3,off)→∀(ds:List I) (d:I) (arr:Array Value) (aR:Nat→Prop),ds[k]? =some d→I.eC (ds.take k)=off→fits C j3 d=true→bc w F ds arr.toList aR→
   ∃x ic,(Instr.field T (.agg arr) k).run C.P w= .ok x w∧ei d x∧ax w F d (cC x) ic∧(arr.toList.drop off).take d.wd=cC x:=by
  intro ay j3 off hk bC ds d arr aR aj pT iw gv
  obtain⟨i,xJ,z,aS,aZ,aQ,cF,cR,ch,b3⟩:=bu.info (gr hk (by simp))
  rw[hk]at b3
  obtain⟨gs,rfl,hq⟩:=xD b3
  obtain⟨g,g1,rfl,rfl⟩:∃g,gs[k]? =some g∧g.type=j3∧g.offset=off:=by
   rw[←hq,List.getElem?_map]at bC
   simp only[Option.map_eq_some_iff,Prod.mk.injEq]at bC
   obtain⟨g,h1,ah,aC⟩:=bC
   exact⟨g,by simpa using h1,ah,aC⟩
  obtain⟨cB,gn,cu,cq,ic,e,h5,fQ,hC,ie,gD,mn⟩:=bc.pick ds _ _ k d gv aj
  obtain⟨x,aX,JK,oa⟩:=RG (w:=w) bu e (h5.trans pT) gD iw
  refine⟨x,ic,?_,oa,by rw[JK];exact gD,?_⟩
  ·simp[Instr.field,run_underlying ch,g1,asAgg,aX]
  ·rw[e,JK,←pT];exact sH cB gn cu _ _ h5 (ax.length _ _ _ gD)
 have JL:∀(d:I) (x:Value) (ic:Nat→Prop),d.plain=true→ei d x→ax w F d (cC x) ic→aL w F s aA d x (fun _=>False):=by
  intro d x ic au ag gv
  by_cases ba:d.tree=true
  ·exact(aL.cV ba).2 ⟨ag,ax.plain _ _ _ _ au gv⟩
  ·cases d<;>first|exact(ba rfl).elim|(rw[ax]at gv;exact gv.elim)|(rw[aL];trivial)|(have bK:=ax.plain _ _ _ (fun _=>False) au gv;rw[hp (by exact ag)]at bK;exact aL.pU _ _ rfl bK)
 unfold mv at he
 split at he
 ·rename_i ay hk
  split at he
  ·rename_i j3 off bC
   split at he
   ·rename_i ds
    split at he
    ·rename_i d aj
     split at he
     ·rename_i aq
      simp only[Option.some.injEq]at he;subst he
      obtain⟨⟨arr,rfl⟩,gv⟩:=(aL.cV rfl).1 aM
      rw[ax]at gv
      obtain⟨x,ic,aX,ag,rH,_⟩:=key ay j3 off hk bC ds d arr _ aj aq.1 aq.2.1 gv
      exact Good.same h aX aq.2.2.1 (JL d x ic aq.2.2.1 ag rH)
     ·cases he
    ·cases he
   ·rename_i y q
    split at he
    ·rename_i ds aj
     split at he
     ·rename_i d oZ
      split at he
      ·rename_i aq
       simp only[Option.some.injEq]at he
       have gq:(I.agg ds).plain=false:=by simpa [I.plain]using aq.2.2.1
       rw[aL]at aM
       obtain⟨c3,a,g1,g2,g3⟩:=aM _ aj gq
       obtain⟨arr,rfl⟩:=g3
       have bt:=h.dF y
       rw[aL.cV (ig aj (.inl gq))]at bt
       obtain⟨gp,c4,eF,fE,k0,b8,cy,e_,ed,fF⟩:=ctx q (s y) (cC (aA y)) (S y) none _ bt.2 aj
       rw[k0]at g1
       simp only[Option.some.injEq,Prod.mk.injEq,true_and]at g1
       obtain⟨rfl,rfl⟩:=g1
       rw[ax,←g2]at ed
       obtain⟨x,ic,aX,ag,rH,hb⟩:=key ay j3 off hk bC ds d arr _ oZ aq.1 aq.2.1 ed
       by_cases au:d.plain=true
       ·rw[if_pos au]at he;subst he
        exact Good.same h aX au (JL d x ic au ag rH)
       ·rw[if_neg au]at he;subst he
        refine Good.same h aX rfl ?_
        rw[aL]
        intro d2 iv va
        rw[xC w q _ _ _ _ _ _ [k] k0]
        rw[xB _ _ _ _ aj]at iv
        simp only[I.sub,oZ,Option.some.injEq]at iv
        subst iv
        simp only[dB,oZ]
        refine⟨_,_,rfl,?_,ag⟩
        rw[aq.1,←g2];exact hb.symm
      ·cases he
     ·cases he
    ·cases he
   ·cases he
  ·cases he
 ·cases he
end
section
variable {C:cw} {w0 w:World} {F0 X F:Nat→Prop} {S:Nat→Nat→Prop} {s s1:ar} {aA:Nat→Value} {av:I}
def idx (C:cw) (T:TypeId) (x i:I):Option I:=
 match(C.T T).k,x,i with
 | .str,.str l,.int _ n=>if 0≤n then(match l[n.toNat]? with|some b=>some (.int .u8 b.toNat)|none=>none)else none
 |_,_,_=>none
theorem R_ (l:List UInt8) (n:Nat):(⟨⟨l⟩⟩:ByteArray)[n]? =l[n]? :=by
 by_cases h:n<l.length
 ·have bL:n<(⟨⟨l⟩⟩:ByteArray).size:=h
  rw[List.getElem?_eq_getElem h,getElem?_pos (⟨⟨l⟩⟩:ByteArray) n bL]
  rfl
 ·have bL:¬n<(⟨⟨l⟩⟩:ByteArray).size:=h
  rw[List.getElem?_eq_none (by omega),getElem?_neg (⟨⟨l⟩⟩:ByteArray) n bL]
theorem Sa (bu:C.Ok) (h:bQ w0 F0 X F S s aA w) {T:TypeId} {x i:I} {v n_:Value} (aM:aL w F s aA x v (fun _=>False)) (ao:aL w F s aA i n_ (fun _=>False)) (he:idx C T x i=some av):
  Good C w0 F0 X aA w (Instr.index T v n_) av s:=by
 unfold idx at he
 split at he
 ·rename_i l k n hk
  have:=oc aM;subst this
  have:=ob ao;subst this
  obtain⟨i,d,z,aS,aZ,aQ,cF,cR,ch,b3⟩:=bu.info (gr hk (by simp))
  rw[hk]at b3
  have:=pS b3;subst this
  split at he
  ·rename_i a6
   split at he
   ·rename_i b ae
    simp only[Option.some.injEq]at he;subst he
    refine Good.same h ?_ rfl (of_int _ _)
    simp[Instr.index,asIntOf,run_underlying ch,a6,R_,ae]
   ·cases he
  ·cases he
 ·cases he
def lenOf (s:ar):I→Option Nat
 | .str l=>some l.length
 | .bk=>some 0
 | .slice xs=>some xs.length
 | .h y q=>match I.sub q (s y)with
   |some (.an _ xs)=>some xs.length
   |_=>none
 |_=>none
def mw (C:cw) (s:ar) (T:TypeId) (x:I):Option I:=
 match(C.T T).k,x with
 | .str,.str l=>some (.int .i64 l.length)
 | .slice _,.bk=>some (.int .i64 0)
 | .slice _,.slice xs=>some (.int .i64 xs.length)
 | .slice _,.h y q=>match I.sub q (s y)with
   |some (.an _ xs)=>some (.int .i64 xs.length)
   |_=>none
 |_,_=>none
theorem A3 {xs:List I} {v:Value} {aR:Nat→Prop} (h:aL w F s aA (.slice xs) v aR):(xs=[]∧∃a c,v= .slice a 0 c∧c≤maxLen∧(a=none→c=0))∨
  ∃b o cap eR sz,v= .slice (some ⟨b,o,none⟩) xs.length cap∧F b∧xs.length≤cap∧cap≤maxLen∧(∀d∈xs,d.wd=sz)∧Rd w b o eR∧bc w F xs eR (fun _=>False):=by
 have bL:=(aL.cV rfl).1 h
 rw[ax,hp bL.1]at bL
 obtain⟨_,⟨rfl,a,c,ah,aC⟩|⟨b,o,cap,eR,sz,ah,aC⟩⟩:=bL
 ·simp at ah;exact .inl ⟨rfl,a,c,ah,aC⟩
 ·simp at ah;exact .inr ⟨b,o,cap,eR,sz,ah,aC⟩
theorem Sb (bu:C.Ok) (h:bQ w0 F0 X F S s aA w) {T ty:TypeId} {x:I} {v:Value} (aM:aL w F s aA x v (fun _=>False)) (he:mw C s T x=some av):
  Good C w0 F0 X aA w (Builtin.len_ #[T] ty #[v]) av s:=by
 unfold mw at he
 split at he
 ·rename_i l hk
  have:=oc aM;subst this
  obtain⟨i,d,z,aS,aZ,aQ,cF,cR,ch,b3⟩:=bu.info (gr hk (by simp))
  rw[hk]at b3
  have:=pS b3;subst this
  simp only[Option.some.injEq]at he;subst he
  refine Good.same h ?_ rfl (of_int _ _)
  simp[Builtin.len_,run_underlying ch,goInt]
  rfl
 ·rename_i e hk
  have:=qJ aM;subst this
  obtain⟨i,d,z,aS,aZ,aQ,cF,cR,ch,b3⟩:=bu.info (gr hk (by simp))
  rw[hk]at b3
  have:=lG b3;subst this
  simp only[Option.some.injEq]at he;subst he
  refine Good.same h ?_ rfl (of_int _ _)
  simp[Builtin.len_,run_underlying ch,goInt]
 ·rename_i e xs hk
  obtain⟨i,d,z,aS,aZ,aQ,cF,cR,ch,b3⟩:=bu.info (gr hk (by simp))
  rw[hk]at b3
  have:=lG b3;subst this
  simp only[Option.some.injEq]at he;subst he
  refine Good.same h ?_ rfl (of_int _ _)
  rcases A3 aM with⟨rfl,a,c,rfl,_⟩|⟨b,o,cap,eR,sz,rfl,_⟩<;>simp[Builtin.len_,run_underlying ch,goInt]
 ·rename_i e y q hk
  split at he
  ·rename_i sz xs aj
   obtain⟨i,d,z,aS,aZ,aQ,cF,cR,ch,b3⟩:=bu.info (gr hk (by simp))
   rw[hk]at b3
   have:=lG b3;subst this
   simp only[Option.some.injEq]at he;subst he
   refine Good.same h ?_ rfl (of_int _ _)
   rcases Fp h aM aj with⟨rfl,_,rfl⟩|⟨b,cap,cur,aZ,fr,rfl,_⟩<;>simp[Builtin.len_,run_underlying ch,goInt]
  ·cases he
 ·cases he
def bytesOf:List I→Option (List UInt8)
 |[]=>some []
 | .int .u8 n::r=>if 0≤n∧n<256 then(bytesOf r).map (UInt8.ofNat n.toNat::·)else none
 |_=>none
def kX (b:UInt8):I:=.int .u8 b.toNat
theorem Sc (l:List UInt8):bytesOf (l.map kX)=some l:=by
 induction l with
 |nil=>rfl
 |cons b l ih=>
  have ae:b.toNat<256:=b.toNat_lt
  simp only[List.map_cons,kX,bytesOf,Int.toNat_natCast]
  rw[if_pos (by omega),ih]
  simp
theorem Fs:∀(xs:List I) (l:List UInt8) (cs:List Value) (aR:Nat→Prop),bytesOf xs=some l→bc w F xs cs aR→cs=l.map (fun b=>.int .u8 (b.toNat:Int))∧xs.length=l.length
 |[],l,cs,aR,h,aX=>by simp[bytesOf]at h;subst h;rw[bc]at aX;subst aX;exact⟨rfl,rfl⟩
 |x::xs,l,cs,aR,h,aX=>by
  unfold bytesOf at h
  split at h
  ·rename_i e;cases e
  ·rename_i n r e
   simp only[List.cons.injEq]at e
   obtain⟨rfl,rfl⟩:=e
   split at h
   ·rename_i a6
    simp only[Option.map_eq_some_iff]at h
    obtain⟨eu,h1,rfl⟩:=h
    rw[bc]at aX
    obtain⟨cB,cu,cq,dU,rfl,ah,aC,_⟩:=aX
    obtain⟨rfl,a8⟩:=Fs xs eu cu dU h1 aC
    rw[ax]at ah;subst ah
    refine⟨?_,by simp[a8]⟩
    simp only[List.map_cons,List.cons_append,List.nil_append,List.cons.injEq,and_true,Value.int.injEq,true_and]
    simp only[UInt8.toNat_ofNat']
    omega
   ·cases h
  ·cases h
theorem bQ.xN (h:bQ w0 F0 X F S s aA w) {aG:World} {sz cap:Nat} {xs:List I} {cur:Array Value} {e:TypeId} {fr:Nat×Nat} {Sn:Nat→Prop}
  (hw:aG.heap=w.heap.push (.cells cur e fr)) (h1:aG.os=w.os) (ah:aG.tape=w.tape) (aC:Out aG w)
  (bC:oV fr cur.size) (hle:xs.length≤cap) (hm:cap≤maxLen) (dR:cur.size=cap*sz) (kQ:∀d∈xs,d.wd=sz) (aM:bc w F xs (cur.toList.take (xs.length*sz)) Sn)
  (e7:∀b,Sn b→b<w.heap.size) (bI:∀b,Sn b→¬F b) (b1:∀u b,Sn b→¬S u b) (bf:∀b,Sn b→X b∨w0.heap.size≤b):
  bQ w0 F0 X F S s aA aG∧lF w0 X F S s aA aG (.an sz xs) (.slice (some ⟨w.heap.size,0,none⟩) xs.length cap):=by
 have hold:∀b,b<w.heap.size→aG.heap[b]? =w.heap[b]? :=by
  intro b ae
  rw[hw,Array.getElem?_push,if_neg (by omega)]
 have aDq:aG.heap.size=w.heap.size+1:=by rw[hw];simp
 refine⟨h.grow hold (by omega) h1 ah aC,.inr ⟨rfl,rfl,fun b=>b=w.heap.size∨Sn b,?_,?_,?_,?_,?_⟩⟩
 ·simp only[cC,h6]
  rw[ax]
  refine .inr ⟨w.heap.size,cap,cur,e,fr,Sn,rfl,.inl rfl,?_,bC,hle,hm,dR,kQ,?_,fun c aq=>.inr aq,fun aq=>Nat.lt_irrefl _ (e7 _ aq)⟩
  ·rw[hw];simp
  ·exact bc.frame (fun b ae=>hold b (h.fm b ae)) _ _ _ (fun b ae=>hold b (e7 b ae)) aM
 ·rintro b (rfl|ae)
  ·omega
  ·have:=e7 b ae;omega
 ·rintro b (rfl|ae) qI
  ·exact Nat.lt_irrefl _ (h.fm _ qI)
  ·exact bI b ae qI
 ·rintro u b (rfl|ae) hu
  ·exact Nat.lt_irrefl _ (h.eD _ _ hu)
  ·exact b1 u b ae hu
 ·rintro b (rfl|ae)
  ·exact .inr h.size
  ·exact bf b ae
def gw (C:cw) (s:ar) (A B:TypeId) (x:I):Option I:=
 if(C.T A).ok=true then
 match(C.T B).k,x with
 | .int k,.int _ n=>some (.int k (k.wrap n))
 | .str,.str l=>match(C.T A).k with
   | .str=>some (.str l)
   |_=>none
 | .str,x=>match(C.T A).k with
   | .slice e=>match(C.T e).k with
     | .int .u8=>match x with
       | .bk=>some (.str [])
       | .slice xs=>(bytesOf xs).map .str
       | .h y q=>match I.sub q (s y)with
         |some (.an 1 xs)=>(bytesOf xs).map .str
         |_=>none
       |_=>none
     |_=>none
   |_=>none
 | .slice e,.str l=>match(C.T A).k,(C.T e).k with
   | .str,.int .u8=>if l.length≤9223372036854775807 then some (.an 1 (l.map kX))else none
   |_,_=>none
 |_,_=>none
 else none
theorem JM (l:List UInt8) (aR:Nat→Prop):bc w F (l.map kX) (l.map fun b=>.int .u8 (b.toNat:Int)) aR:=by
 induction l generalizing aR with
 |nil=>simp only[List.map_nil];rw[bc]
 |cons b l ih=>
  simp only[List.map_cons]
  rw[bc]
  exact⟨[.int .u8 (b.toNat:Int)],_,fun _=>False,fun _=>False,rfl,by rw[kX,ax],ih _,fun _ h=>h.elim,fun _ h=>h.elim,fun _ h=>h.elim⟩
theorem Sd (bu:C.Ok) (h:bQ w0 F0 X F S s aA w) {A B:TypeId} {x:I} {v:Value} (aM:aL w F s aA x v (fun _=>False)) (he:gw C s A B x=some av):
  Good C w0 F0 X aA w (convert A B v) av s:=by
 unfold gw at he
 split at he
 ·rename_i iQ
  obtain⟨fc,aDr,aDs,R,a2,a3,a4,a5,pV,pW⟩:=bu.info iQ
  split at he
  ·rename_i k cW n hk
   have:=ob aM;subst this
   obtain⟨i,d,z,aS,aZ,aQ,cF,cR,ch,b3⟩:=bu.info (gr hk (by simp))
   rw[hk]at b3
   have:=xE b3;subst this
   simp only[Option.some.injEq]at he;subst he
   refine Good.same h ?_ rfl (of_int _ _)
   simp[convert,run_underlying pV,run_underlying ch,Conv.intToInt]
  ·rename_i l hk
   have:=oc aM;subst this
   obtain⟨i,d,z,aS,aZ,aQ,cF,cR,ch,b3⟩:=bu.info (gr hk (by simp))
   rw[hk]at b3
   have:=pS b3;subst this
   split at he
   ·rename_i xO
    rw[xO]at pW
    have:=pS pW;subst this
    simp only[Option.some.injEq]at he;subst he
    refine Good.same h ?_ rfl (o3 _)
    simp[convert,run_underlying pV,run_underlying ch]
   ·cases he
  ·rename_i x hk _
   obtain⟨i,d,z,aS,aZ,aQ,cF,cR,ch,b3⟩:=bu.info (gr hk (by simp))
   rw[hk]at b3
   have:=pS b3;subst this
   split at he
   ·rename_i e xO
    rw[xO]at pW
    have:=lG pW;subst this
    split at he
    ·rename_i xP
     obtain⟨qF,bp,qG,f1,f2,f3,f4,f5,f6,f7⟩:=bu.info (gr xP (by simp))
     rw[xP]at f7
     have:=xE f7;subst this
     have fin:∀(l:List UInt8) (b o cap:Nat),Rd w b o (l.map fun b=>.int .u8 (b.toNat:Int))→(convert A B (.slice (some ⟨b,o,none⟩) l.length cap)).run C.P w= .ok (.string ⟨⟨l⟩⟩) w:=by
      intro l b o cap kg
      refine run_convert_bytes_back w A B e ⟨b,o,none⟩ cap l pV f6 ch (fun j b_=> ?_)
      rw[Addr.add_lit]
      exact kg j _ (by simp[b_])
     have nil:(convert A B (.slice none 0 0)).run C.P w= .ok (.string ⟨⟨[]⟩⟩) w:=by
      simp[convert,run_underlying pV,run_underlying ch,run_underlying f6,Conv.bytesToString]
      rfl
     split at he
     ·have:=qJ aM;subst this
      simp only[Option.some.injEq]at he;subst he
      exact Good.same h nil rfl (o3 _)
     ·rename_i xs _
      simp only[Option.map_eq_some_iff]at he
      obtain⟨l,hl,rfl⟩:=he
      rcases A3 aM with⟨rfl,a,c,rfl,_,sR⟩|⟨b,o,cap,eR,sz,rfl,h1,ah,aC,a8,bK,cU⟩
      ·simp[bytesOf]at hl;subst hl
       cases a with
       |none=>
        have:=sR rfl;subst this
        exact Good.same h nil rfl (o3 _)
       |some a=>
        refine Good.same h ?_ rfl (o3 _)
        exact run_convert_bytes_back w A B e a c [] pV f6 ch (fun j b_=>by simp at b_)
      ·obtain⟨rfl,cJ⟩:=Fs xs l eR _ hl cU
       rw[cJ]
       exact Good.same h (fin l b o cap bK) rfl (o3 _)
     ·rename_i y q
      split at he
      ·rename_i xs aj
       simp only[Option.map_eq_some_iff]at he
       obtain⟨l,hl,rfl⟩:=he
       rcases Fp h aM aj with⟨rfl,a,rfl⟩|⟨b,cap,cur,aZ,fr,rfl,h1,ah,aC,a8,bK,cU,aR,cJ,_⟩
       ·simp[bytesOf]at hl;subst hl
        cases a with
        |none=>exact Good.same h nil rfl (o3 _)
        |some a=>
         refine Good.same h ?_ rfl (o3 _)
         exact run_convert_bytes_back w A B e a 0 [] pV f6 ch (fun j b_=>by simp at b_)
       ·obtain⟨fw,hR⟩:=Fs xs l _ _ hl cJ
        rw[hR]
        refine Good.same h (fin l b 0 cap ?_) rfl (o3 _)
        rw[←fw]
        exact u5 h1 _
      ·cases he
     ·cases he
    ·cases he
   ·cases he
  ·rename_i e l hk
   have:=oc aM;subst this
   obtain⟨i,d,z,aS,aZ,aQ,cF,cR,ch,b3⟩:=bu.info (gr hk (by simp))
   rw[hk]at b3
   have:=lG b3;subst this
   split at he
   ·rename_i xO xP
    rw[xO]at pW
    have:=pS pW;subst this
    obtain⟨qF,bp,qG,f1,f2,f3,f4,f5,f6,f7⟩:=bu.info (gr xP (by simp))
    rw[xP]at f7
    have:=xE f7;subst this
    split at he
    ·rename_i hl
     simp only[Option.some.injEq]at he;subst he
     have ag:(⟨⟨l⟩⟩:ByteArray).size=l.length:=rfl
     have xQ:=grownCap_ge w l.length 0 e
     have Se:=grownCap_le_maxLen w l.length 0 e (by unfold maxLen;omega)
     have JN:(bytesRow ⟨⟨l⟩⟩ (grownCap w l.length 0 e)).toList=l.map (fun b=>Value.int .u8 (b.toNat:Int))++List.replicate (grownCap w l.length 0 e-l.length) (.int .u8 0):=by
      simp[bytesRow,ag]
     have dR:(bytesRow ⟨⟨l⟩⟩ (grownCap w l.length 0 e)).size=grownCap w l.length 0 e*1:=by
      have:(bytesRow ⟨⟨l⟩⟩ (grownCap w l.length 0 e)).size=(bytesRow ⟨⟨l⟩⟩ (grownCap w l.length 0 e)).toList.length:=by simp
      rw[this,JN];simp;omega
     have sP:=run_bytes_of_string w A B e ⟨⟨l⟩⟩ pV ch f6
     rw[ag]at sP
     have kx:=h.xN (aG:=w.drew.alloc (.cells (bytesRow ⟨⟨l⟩⟩ (grownCap w l.length 0 e)) e ((bytesRow ⟨⟨l⟩⟩ (grownCap w l.length 0 e)).size,(bytesRow ⟨⟨l⟩⟩ (grownCap w l.length 0 e)).size+1)))
      (sz:=1) (cap:=grownCap w l.length 0 e) (xs:=l.map kX) (cur:=bytesRow ⟨⟨l⟩⟩ (grownCap w l.length 0 e)) (e:=e) (Sn:=fun _=>False) rfl rfl rfl ⟨rfl,fun _=>Nat.le_succ _⟩
      (fun o cr ⟨h1,_⟩=>by simp only at h1;omega) (by simpa using xQ) Se dR (by intro d aj;obtain⟨b,_,rfl⟩:=List.mem_map.1 aj;rfl)
      (by rw[JN,List.take_left' (by simp)];exact JM l _) (fun _ h=>h.elim) (fun _ h=>h.elim) (fun _ _ h=>h.elim) (fun _ h=>h.elim)
     simp only[List.length_map]at kx
     exact⟨_,_,F,S,sP,kx.1,kx.2⟩
    ·cases he
   ·cases he
  ·cases he
 ·cases he
end
section
variable {C:cw} {w0 w:World} {F0 X F:Nat→Prop} {S:Nat→Nat→Prop} {s s1:ar} {aA:Nat→Value} {av:I}
def i7 (d:Nat):Option I→Option Nat
 |none=>some d
 |some (.int _ n)=>if 0≤n then some n.toNat else none
 |some _=>none
def fG (C:cw) (s:ar) (T:TypeId) (x:I) (dv ao:Option I):Option (I×ar):=
 match(C.T T).k,x with
 | .str,.str l=>match i7 0 dv,i7 l.length ao with
   |some a,some b=>if a≤b∧b≤l.length then some (.str ((l.take b).drop a),s)else none
   |_,_=>none
 | .slice e,.bk=>match i7 0 dv,i7 0 ao with
   |some 0,some 0=>if(C.T e).ok=true then some (.bk,s)else none
   |_,_=>none
 | .slice e,.slice xs=>match i7 0 dv,i7 xs.length ao with
   |some a,some b=>if a≤b∧b≤xs.length∧(C.T e).ok=true∧(∀d∈xs,d.wd=(C.T e).sz)then some (.slice ((xs.take b).drop a),s)else none
   |_,_=>none
 | .slice e,.h y q=>match I.sub q (s y)with
   |some (.an sz xs)=>match i7 0 dv,i7 xs.length ao with
    |some 0,some b=>if b≤xs.length∧(C.T e).ok=true then(match c7 s (.h y q)with|some (_,s1)=>some (.an sz (xs.take b),s1)|none=>none)else none
    |_,_=>none
   |_=>none
 |_,_=>none
def qK (w:World) (F:Nat→Prop) (s:ar) (aA:Nat→Value):Option I→Option Value→Prop
 |none,none=>True
 |some d,some v=>aL w F s aA d v (fun _=>False)
 |_,_=>False
theorem JO {d:Nat} {o:Option I} {v:Option Value} (cr:qK w F s aA o v) {a:Nat} (h:i7 d o=some a):(o=none∧v=none∧a=d)∨∃k,v=some (.int k a):=by
 cases o with
 |none=>
  cases v with
  |none=>simp[i7]at h;exact .inl ⟨rfl,rfl,h.symm⟩
  |some v=>simp[qK]at cr
 |some x=>
  cases v with
  |none=>simp[qK]at cr
  |some v=>
   simp only[qK]at cr
   cases x with
   |int k n=>
    have:=ob cr;subst this
    simp only[i7]at h
    split at h
    ·rename_i a6
     simp only[Option.some.injEq]at h;subst h
     obtain⟨m,rfl⟩:=Int.eq_ofNat_of_zero_le a6
     exact .inr ⟨k,rfl⟩
    ·cases h
   |_=>simp[i7]at h
theorem ve {P:Program} {isS:Bool} {len cap a b:Nat} {dv ao:Option I} {sT sU:Option Value} (og:qK w F s aA dv sT) (oh:qK w F s aA ao sU) (cE:i7 0 dv=some a) (ae:i7 len ao=some b) (mm:a≤b) (Sf:b≤cap) (_hlc:len≤cap):
  (Instr.sliceBounds isS len cap sT sU none).run P w= .ok (a,b,cap) w:=by
 rcases JO og cE with⟨_,rfl,rfl⟩|⟨k,rfl⟩<;>rcases JO oh ae with⟨_,rfl,rfl⟩|⟨cW,rfl⟩<;>
  simp[Instr.sliceBounds,Instr.sliceBound,asIntOf,mm,Sf]
theorem vf (bu:C.Ok) {T:TypeId} (hk:(C.T T).flat=true) (v:Value) (dv ao hj:Option Value) (w:World):(Instr.sliceAt T v dv ao hj).run C.P w=(Instr.slice T v dv ao hj).run C.P w:=by
 obtain⟨i,d,z,aS,aZ,aQ,cF,cR,ch,b3⟩:=bu.info (Js hk)
 have df:∀n e,d≠.array n e:=by
  clear ch
  unfold gS.flat at hk
  generalize (C.T T).k=mr at*
  cases mr<;>cases d<;>simp[lE]at b3 hk⊢
 cases d<;>first|exact(df _ _ rfl).elim|simp[Instr.sliceAt,run_underlying ch]
theorem vg {x:gS} {k:n9} (h:x.k=k) (hk:k≠.other) (ag:∀ay,k≠.struct ay) (ae:∀e,k≠.e0 e:=by simp):x.flat=true:=by
 unfold gS.flat;rw[h];cases k<;>first|rfl|exact(hk rfl).elim|exact(ae _ rfl).elim|exact(ag _ rfl).elim
theorem bc.split:∀(n:Nat) (xs:List I) (cs:List Value) (aR:Nat→Prop),bc w F xs cs aR→∃cB cu cq dU,cs=cB++cu∧bc w F (xs.take n) cB cq∧bc w F (xs.drop n) cu dU∧(∀b,cq b→aR b)∧(∀b,dU b→aR b)∧(∀b,cq b→¬dU b)
 |0,xs,cs,aR,h=>⟨[],cs,fun _=>False,aR,rfl,by rw[List.take_zero,bc],h,fun _ h=>h.elim,fun _ h=>h,fun _ h=>h.elim⟩
 |n+1,[],cs,aR,h=>by rw[bc]at h;subst h;exact⟨[],[],fun _=>False,fun _=>False,rfl,by rw[List.take_nil,bc],by rw[List.drop_nil,bc],fun _ h=>h.elim,fun _ h=>h.elim,fun _ h=>h.elim⟩
 |n+1,x::xs,cs,aR,h=>by
  rw[bc]at h
  obtain⟨cB,cu,h4,hn,rfl,h1,ah,aC,a8,bK⟩:=h
  obtain⟨d1,d2,cq,dU,rfl,g1,g2,g3,g4,g5⟩:=bc.split n xs cu hn ah
  refine⟨cB++d1,d2,fun b=>h4 b∨cq b,dU,by simp,?_,g2,?_,fun b ae=>a8 _ (g4 _ ae),?_⟩
  ·rw[List.take_succ_cons,bc]
   exact⟨cB,d1,h4,cq,rfl,h1,g1,fun _ h=>.inl h,fun _ h=>.inr h,fun b ae aq=>bK b ae (g3 b aq)⟩
  ·rintro b (ae|ae)
   ·exact aC b ae
   ·exact a8 b (g3 b ae)
  ·rintro b (ae|ae) aq
   ·exact bK b ae (g4 b aq)
   ·exact g5 b ae aq
theorem Sg (bu:C.Ok) (h:bQ w0 F0 X F S s aA w) {T:TypeId} {x:I} {v:Value} {dv ao:Option I} {sT sU:Option Value} (aw:x.plain=true) (aM:aL w F s aA x v (fun _=>False)) (og:qK w F s aA dv sT) (oh:qK w F s aA ao sU)
  (he:fG C s T x dv ao=some (av,s1)):Good C w0 F0 X aA w (Instr.sliceAt T v sT sU none) av s1:=by
 unfold fG at he
 split at he
 ·rename_i l hk
  have:=oc aM;subst this
  obtain⟨i,d,z,aS,aZ,aQ,cF,cR,ch,b3⟩:=bu.info (gr hk (by simp))
  rw[hk]at b3
  have:=pS b3;subst this
  split at he
  ·rename_i a b cE ae
   split at he
   ·rename_i mm
    simp only[Option.some.injEq,Prod.mk.injEq]at he
    obtain⟨rfl,rfl⟩:=he
    refine Good.same h ?_ rfl (o3 _)
    rw[vf bu (vg hk (by simp) (by simp))]
    have dR:(⟨⟨l⟩⟩:ByteArray).size=l.length:=rfl
    have oi:=ve (P:=C.P) (isS:=false) (len:=l.length) (cap:=l.length) og oh cE ae mm.1 mm.2 (Nat.le_refl _)
    have Sh:(⟨⟨l⟩⟩:ByteArray).extract a b=⟨⟨(l.take b).drop a⟩⟩:=by
     apply ByteArray.ext
     simp[ByteArray.data_extract,List.drop_take]
    simp[Instr.slice,run_underlying ch,dR,oi,Sh]
   ·cases he
  ·cases he
 ·rename_i e hk
  have:=qJ aM;subst this
  obtain⟨i,d,z,aS,aZ,aQ,cF,cR,ch,b3⟩:=bu.info (gr hk (by simp))
  rw[hk]at b3
  have:=lG b3;subst this
  split at he
  ·rename_i cE ae
   split at he
   ·rename_i o5
    obtain⟨qF,bp,qG,f1,f2,f3,f4,f5,f6,f7⟩:=bu.info o5
    simp only[Option.some.injEq,Prod.mk.injEq]at he
    obtain⟨rfl,rfl⟩:=he
    have oi:=ve (P:=C.P) (isS:=true) (len:=0) (cap:=0) og oh cE ae (Nat.le_refl _) (Nat.le_refl _) (Nat.le_refl _)
    refine Good.same h (v:=.slice none 0 0) ?_ rfl aM
    rw[vf bu (vg hk (by simp) (by simp))]
    simp[Instr.slice,run_underlying ch,oi,kh f1,f2]
   ·cases he
  ·cases he
 ·rename_i e xs hk
  obtain⟨i,d,z,aS,aZ,aQ,cF,cR,ch,b3⟩:=bu.info (gr hk (by simp))
  rw[hk]at b3
  have:=lG b3;subst this
  split at he
  ·rename_i a b cE ae
   split at he
   ·rename_i mm
    obtain⟨Si,JP,o5,kQ⟩:=mm
    obtain⟨qF,bp,qG,f1,f2,f3,f4,f5,f6,f7⟩:=bu.info o5
    simp only[Option.some.injEq,Prod.mk.injEq]at he
    obtain⟨rfl,rfl⟩:=he
    rcases A3 aM with⟨rfl,vh,c,rfl,xR,sR⟩|⟨jR,o,cap,eR,sz,rfl,h1,ah,aC,a8,bK,cU⟩
    ·have ik:b=0:=by simpa using JP
     subst ik
     have Sj:a=0:=by omega
     subst Sj
     have oi:=ve (P:=C.P) (isS:=true) (len:=0) (cap:=c) og oh cE ae (Nat.le_refl _) (Nat.zero_le _) (Nat.zero_le _)
     refine Good.same h (v:=.slice vh 0 c) ?_ rfl ((aL.cV rfl).2 ⟨rfl,by rw[ax];exact .inl ⟨rfl,vh,c,rfl,xR,sR⟩⟩)
     rw[vf bu (vg hk (by simp) (by simp))]
     cases vh with
     |none=>
      have:=sR rfl;subst this
      simp[Instr.slice,run_underlying ch,oi,kh f1,f2]
     |some vh=>simp[Instr.slice,run_underlying ch,oi,kh f1,f2,Addr.add]
    ·have oi:=ve (P:=C.P) (isS:=true) (len:=xs.length) (cap:=cap) og oh cE ae Si (Nat.le_trans JP ah) ah
     obtain⟨cB,cu,cq,dU,rfl,g1,g2,g3,g4,g5⟩:=bc.split b xs eR _ cU
     obtain⟨d1,d2,aDt,JQ,rfl,b8,cy,e_,ed,fF⟩:=bc.split a (xs.take b) cB _ g1
     have Ft:d1.length=a*(C.T e).sz:=by
      rw[bc.length _ _ _ b8,sJ _ (fun d aj=>kQ d (List.mem_of_mem_take (List.mem_of_mem_take aj))),List.length_take,List.length_take]
      congr 1;omega
     have hlen:((xs.take b).drop a).length=b-a:=by simp;omega
     have kg:Rd w jR (o+a*(C.T e).sz) d2:=by
      rw[←Ft]
      have:Rd w jR o (d1++(d2++cu)):=by simpa using bK
      exact this.Fi
     have A4:bc w F ((xs.take b).drop a) d2 (fun _=>False):=bc.mono (fun _ h=>h) _ _ _ _ (fun b ae=>(g3 _ (ed _ ae)).elim) cy
     have mem:∀d∈(xs.take b).drop a,d.wd=sz:=fun d aj=>a8 d (List.mem_of_mem_take (List.mem_of_mem_drop aj))
     have run:(Instr.sliceAt T (.slice (some ⟨jR,o,none⟩) xs.length cap) sT sU none).run C.P w= .ok (.slice (if cap=a then some ⟨jR,o,none⟩else some ⟨jR,o+a*(C.T e).sz,none⟩) (b-a) (cap-a)) w:=by
      rw[vf bu (vg hk (by simp) (by simp))]
      simp[Instr.slice,run_underlying ch,oi,kh f1,f2,Addr.add_lit]
     refine⟨_,w,F,S,run,h,.inl ⟨rfl,(aL.cV rfl).2 ⟨rfl,?_⟩⟩⟩
     simp only[cC,h6]
     rw[ax]
     by_cases JR:cap=a
     ·have Sk:b=a:=by omega
      subst Sk
      have xS:(xs.take b).drop b=[]:=by simp
      rw[if_pos JR]
      rw[xS]at A4⊢
      rw[bc]at A4
      subst A4
      exact .inr ⟨jR,o,cap-b,[],sz,by simp,h1,Nat.zero_le _,by omega,by simp,fun j c b_=>by simp at b_,by rw[bc]⟩
     ·rw[if_neg JR]
      exact .inr ⟨jR,_,cap-a,d2,sz,by rw[hlen],h1,by rw[hlen];omega,by omega,mem,kg,A4⟩
   ·cases he
  ·cases he
 ·rename_i e y q hk
  split at he
  ·rename_i sz xs aj
   split at he
   ·rename_i b cE ae
    split at he
    ·rename_i A5
     split at he
     ·rename_i xJ s2 ba
      simp only[Option.some.injEq,Prod.mk.injEq]at he
      obtain⟨rfl,rfl⟩:=he
      obtain⟨i,d,z,aS,aZ,aQ,cF,cR,ch,b3⟩:=bu.info (gr hk (by simp))
      rw[hk]at b3
      have:=lG b3;subst this
      obtain⟨qF,bp,qG,f1,f2,f3,f4,f5,f6,f7⟩:=bu.info A5.2
      have sS:xJ= .an sz xs:=by
       simp only[c7,aj,I.plain]at ba
       simp at ba
       exact ba.1.symm
      subst sS
      obtain⟨cq,g0,g1,g2,Sn,g3,g4,g5,g6,g7,g8⟩:=oY h rfl aM ba
      rw[hp g2,ax]at g3
      rcases g3 with⟨rfl,a0,lI⟩|⟨jR,cap,cur,gT,fr,aR,lI,b8,cy,e_,ed,fF,dr,jb,fV,mx,k10⟩
      ·simp at lI;subst lI
       have ik:b=0:=by simpa using A5.1
       subst ik
       have oi:=ve (P:=C.P) (isS:=true) (len:=0) (cap:=0) og oh cE ae (Nat.le_refl _) (Nat.le_refl _) (Nat.le_refl _)
       refine⟨.slice a0 0 0,w,F,cq,?_,g0,.inr ⟨rfl,rfl,fun _=>False,by simp only[cC,h6];rw[ax];exact .inl ⟨rfl,_,rfl⟩,fun _ h=>h.elim,fun _ h=>h.elim,fun _ _ h=>h.elim,fun _ h=>h.elim⟩⟩
       rw[vf bu (vg hk (by simp) (by simp))]
       cases a0<;>simp[Instr.slice,run_underlying ch,oi,kh f1,f2]
      ·simp at lI;subst lI
       have oi:=ve (P:=C.P) (isS:=true) (len:=xs.length) (cap:=cap) og oh cE ae (Nat.zero_le _) (Nat.le_trans A5.1 ed) ed
       have hlen:(xs.take b).length=b:=by simp;omega
       have run:(Instr.sliceAt T (.slice (some ⟨jR,0,none⟩) xs.length cap) sT sU none).run C.P w= .ok (.slice (some ⟨jR,0,none⟩) b cap) w:=by
        rw[vf bu (vg hk (by simp) (by simp))]
        simp[Instr.slice,run_underlying ch,oi,kh f1,f2,Addr.add_lit]
       refine⟨_,w,F,cq,run,g0,.inr ⟨rfl,rfl,Sn,?_,g4,g5,g6,g7⟩⟩
       simp only[cC,h6]
       rw[ax]
       obtain⟨cB,cu,h4,hn,aq,m1,m2,m3,m4,m5⟩:=bc.split b xs _ _ fV
       refine .inr ⟨jR,cap,cur,gT,fr,aR,by rw[hlen],b8,cy,e_,by omega,fF,dr,fun d aj=>jb d (List.mem_of_mem_take aj),?_,mx,k10⟩
       have Ft:cB.length=b*sz:=by
        rw[bc.length _ _ _ m1,sJ _ (fun d aj=>jb d (List.mem_of_mem_take aj)),hlen]
       have:cur.toList.take ((xs.take b).length*sz)=cB:=by
        rw[hlen]
        have ah:b*sz≤xs.length*sz:=Nat.mul_le_mul_right _ A5.1
        have:(cur.toList.take (xs.length*sz)).take (b*sz)=cB:=by rw[aq,List.take_left' Ft]
        rwa [List.take_take,Nat.min_eq_left ah]at this
       rw[this]
       exact bc.mono (fun _ h=>h) _ _ _ _ m3 m1
     ·cases he
    ·cases he
   ·cases he
  ·cases he
 ·cases he
end
section
variable {C:cw} {w0 w:World} {F0 X F:Nat→Prop} {S:Nat→Nat→Prop} {s s1:ar} {aA:Nat→Value} {av:I}
def Src (P:Program) (w:World) (size:Nat) (x:Value) (m:Nat) (news:List Value):Prop:=
 ∀aG:World,aG.heap=w.heap→(Builtin.lenOf x).run P aG= .ok m aG∧(Builtin.firstCells size m x).run P aG= .ok news.toArray aG
def Fu (d:TypeDesc):Prop:=(∃e,d= .slice e)∨d= .string
theorem Sl {P:Program} {T bZ ty e:TypeId} {qL:TypeDesc} {i:TypeInfo} (ba:P.underlying T=some (.slice e)) (hu:P.underlying bZ=some qL) (sV:Fu qL) (ao:P.info? e=some i)
  {x:Value} {m:Nat} {news:List Value} (A6:Src P w i.size x m news) {b n cap:Nat} {cur:Array Value} {gT:TypeId} {fr:Nat×Nat} {l mid r:List Value} (ae:w.heap[b]? =some (.cells cur gT fr)) (bC:oV fr cur.size)
  (aq:cur.toList=l++(mid++r)) (hl:l.length=n*i.size) (hm:mid.length=news.length) (vc:∀v∈news,Value.gC v=true) (pX:n+m≤cap):
  ∃aG,(Builtin.append_ #[T,bZ] ty #[.slice (some ⟨b,0,none⟩) n cap,x]).run P w= .ok (.slice (some ⟨b,0,none⟩) (n+m) cap) aG∧aG.heap[b]? =some (.cells (l++(news++r)).toArray gT fr)∧
   (∀c,c≠b→aG.heap[c]? =w.heap[c]?)∧aG.heap.size=w.heap.size∧aG.os=w.os∧aG.tape=w.tape∧Out aG w:=by
 obtain⟨aG,m1,m2⟩:=A1 (P:=P) (b:=b) (o:=n*i.size) (e:=gT) (fr:=fr) news 0 cur w l mid r ae bC aq (by omega) hm vc
 refine⟨aG,?_,m2⟩
 obtain⟨h1,ah⟩:=A6 w rfl
 rcases sV with⟨gE,rfl⟩|rfl<;>simp[Builtin.append_,run_underlying ba,run_underlying hu,kh ao,h1,ah,pX,Addr.add_lit,m1]
theorem Sm {P:Program} {T bZ ty e:TypeId} {qL:TypeDesc} {i:TypeInfo} {z:Value} (ba:P.underlying T=some (.slice e)) (hu:P.underlying bZ=some qL) (sV:Fu qL) (ao:P.info? e=some i) (cf:i.zero=some z)
  {x:Value} {m:Nat} {news:List Value} (A6:Src P w i.size x m news) {base:Option Addr} {n cap:Nat} {o6:List Value} (hold:Src P w i.size (.slice base n cap) n o6) (pX:¬n+m≤cap)
  (a6:n+m≤9223372036854775807) (Fv:(n+m)*i.bytes≤140737488355328):
  (Builtin.append_ #[T,bZ] ty #[.slice base n cap,x]).run P w= .ok (.slice (some ⟨w.heap.size,0,none⟩) (n+m) (grownCap w (n+m) cap e))
   (w.drew.alloc (.cells (o6.toArray++news.toArray++Builtin.zeroCells z.cells (grownCap w (n+m) cap e-(n+m))) e)):=by
 have h1:=(A6 w rfl).1
 have ah:=(A6 w.drew rfl).2
 have aC:=(hold w.drew rfl).2
 have Fw:=growslice_fits (need:=n+m) (old:=cap) (by omega) Fv
 have iw:¬(281474976710656<Builtin.nextslicecap (n+m) cap*i.bytes):=by omega
 have vi:∀k (w:World),(askRoom k).run P w= .ok () w:=by
  intro k w
  unfold askRoom
  split<;>rfl
 have Fx:¬(9223372036854775807<(n:Int)+(m:Int)∧i.bytes=0):=by omega
 rcases sV with⟨gE,rfl⟩|rfl<;>
  ·simp[Builtin.append_,run_underlying ba,run_underlying hu,kh ao,sO ao,h1,pX,iw,Question.forced,vi]
   rw[if_neg Fx,aC]
   simp[ah,rC ao cf,newRow,grownCap]
   have aS:(o6++news).toArray=o6.toArray++news.toArray:=by simp
   rw[aS,Array.append_assoc]
def A7 (C:cw) (e bZ:TypeId):Bool:=match(C.T bZ).k,(C.T e).k with
 | .slice gE,_=>gE==e
 | .str,.int .u8=>true
 |_,_=>false
def my (C:cw) (s:ar) (T bZ:TypeId) (x y:I):Option (I×ar):=
 match(C.T T).k with
 | .slice e=>if(C.T e).ok=true∧(C.T e).zero.wd=(C.T e).sz∧(flat (C.T e).zero).isSome=true∧A7 C e bZ=true then
   match(match x with| .bk=>some (I.an (C.T e).sz [],s)| .h a q=>c7 s (.h a q)|_=>none)with
   |some (.an sz xs,s1)=>if sz=(C.T e).sz then
     match(match kV x.owner y with
      | .bk=>some ([],s1)
      | .slice ys=>some (ys,s1)
      | .str l=>some (l.map kX,s1)
      | .h a q=>match c7 s1 (.h a q)with
        |some (.an _ ys,s2)=>some (ys,s2)
        |_=>none
      |_=>none)with
     |some (ys,s2)=>if(∀d∈ys,d.wd=(C.T e).sz)∧(xs.length+ys.length)*(C.T e).bytes≤140737488355328∧xs.length+ys.length≤9223372036854775807 then some (.an sz (xs++ys),s2)else none
     |none=>none
    else none
   |_=>none
   else none
 |_=>none
theorem bc.append {xs ys:List I} {cB cu:List Value} {cq dU aR:Nat→Prop} (h1:bc w F xs cB cq) (ah:bc w F ys cu dU) (aS:∀b,cq b→aR b) (aZ:∀b,dU b→aR b) (aQ:∀b,cq b→¬dU b):bc w F (xs++ys) (cB++cu) aR:=by
 induction xs generalizing cB cq aR with
 |nil=>rw[bc]at h1;subst h1;exact bc.mono (fun _ h=>h) _ _ _ _ aZ ah
 |cons x xs ih=>
  rw[bc]at h1
  obtain⟨Sp,Sq,h4,hn,rfl,g1,g2,g3,g4,g5⟩:=h1
  rw[List.cons_append,bc]
  refine⟨Sp,Sq++cu,h4,fun b=>hn b∨dU b,by simp,g1,ih g2 (fun b h=>.inl h) (fun b h=>.inr h) (fun b h=>aQ b (g4 b h)),fun b h=>aS b (g3 b h),?_,?_⟩
  ·rintro b (h|h)
   ·exact aS b (g4 b h)
   ·exact aZ b h
  ·rintro b h (bL|bL)
   ·exact g5 b h bL
   ·exact aQ b (g3 b h) bL
theorem Fy {P:Program} {size m cap:Nat} {b o:Nat} {news:List Value} (kg:Rd w b o news) (hl:news.length=m*size):Src P w size (.slice (some ⟨b,o,none⟩) m cap) m news:=by
 intro aG hw
 refine⟨rfl,?_⟩
 refine run_firstCells_some aG size m ⟨b,o,none⟩ m cap news hl (fun j v b_=> ?_)
 rw[Addr.add_lit]
 have:=kg j v b_
 simpa [World.cell?,hw]using this
theorem JS {P:Program} {size cap:Nat}:Src P w size (.slice none 0 cap) 0 []:=by
 intro aG _
 exact⟨rfl,by simp[Builtin.firstCells]⟩
theorem Fz {P:Program} {size cap:Nat} (a:Option Addr):Src P w size (.slice a 0 cap) 0 []:=by
 cases a with
 |none=>exact JS
 |some a=>
  intro aG _
  exact⟨rfl,run_firstCells_some aG size 0 a 0 cap [] (by simp) (fun j v b_=>by simp at b_)⟩
theorem Sr {P:Program} (l:List UInt8):Src P w 1 (.string ⟨⟨l⟩⟩) l.length (l.map fun b=>.int .u8 (b.toNat:Int)):=by
 intro aG _
 refine⟨rfl,?_⟩
 have:(⟨⟨l⟩⟩:ByteArray).extract 0 l.length=⟨⟨l⟩⟩:=by
  apply ByteArray.ext
  simp[ByteArray.data_extract]
 simp[Builtin.firstCells,this]
theorem bc.sW {sz:Nat} {xs:List I} {cs:List Value} {aR:Nat→Prop} (h:bc w F xs cs aR) (hw:∀d∈xs,d.wd=sz):cs.length=xs.length*sz:=by
 rw[bc.length _ _ _ h,sJ _ hw]
theorem bQ.turn (h:bQ w0 F0 X F S s aA w) {aG:World} {b:Nat} (ae:∀c,c≠b→aG.heap[c]? =w.heap[c]?) (ag:aG.heap.size=w.heap.size) (h1:aG.os=w.os) (ah:aG.tape=w.tape) (aC:Out aG w)
  (bI:¬F b) (b1:∀u,¬S u b) (bf:X b∨w0.heap.size≤b):bQ w0 F0 X F S s aA aG where
 ho:=h.ho
 hO:=h.hO
 fm:=fun c aq=>by rw[ag];exact h.fm c aq
 eD:=fun t c aq=>by rw[ag];exact h.eD t c aq
 fz:=h.fz
 fs:=h.fs
 dZ:=h.dZ
 dF:=fun t=>aL.frame (Sx:=S) (fun c aq=>ae c (by rintro rfl;exact bI aq)) (fun _ h=>h) (fun x c aq=>ae c (by rintro rfl;exact b1 x aq)) h.dF _ _ _ (fun c aq=>ae c (by rintro rfl;exact b1 t aq)) (h.dF t)
 old:=fun c e7 j2=>by
  rw[ae c ?_]
  ·exact h.old c e7 j2
  ·rintro rfl
   rcases bf with bf|bf
   ·exact j2 bf
   ·omega
 size:=by rw[ag];exact h.size
 os:=h1.trans h.os
 tape:=ah.trans h.tape
 output:=aC.trans h.output
 hD:=h.hD
theorem Ss (bu:C.Ok) (h:bQ w0 F0 X F S s aA w) {T bZ ty:TypeId} {x y:I} {ij ja:Value} (aw:aL w F s aA x ij (fun _=>False)) (bt:aL w F s aA y ja (fun _=>False))
  (he:my C s T bZ x y=some (av,s1)):Good C w0 F0 X aA w (Builtin.append_ #[T,bZ] ty #[ij,ja]) av s1:=by
 unfold my at he
 split at he
 ·rename_i e hk
  obtain⟨FA,d,FB,aS,aZ,aQ,cF,cR,ch,b3⟩:=bu.info (gr hk (by simp))
  rw[hk]at b3
  have:=lG b3;subst this
  split at he
  ·rename_i sQ
   obtain⟨o5,pY,qM,pZ⟩:=sQ
   obtain⟨i,FC,z,f1,f2,f3,f4,f5,f6,f7⟩:=bu.info o5
   obtain⟨ft,l5⟩:=Option.isSome_iff_exists.1 qM
   have qN:=f5 ft l5
   have o7:ft.length=(C.T e).sz:=by
    have:=ax.length _ _ _ ((ax.flat (w:=w) (F:=F) _).1 (C.T e).zero ft (fun _=>False) (Nat.le_refl _) l5)
    rw[this,pY]
   obtain⟨qL,hu,sV⟩:∃qL,C.P.underlying bZ=some qL∧Fu qL:=by
    unfold A7 at pZ
    split at pZ
    ·rename_i gE lj
     obtain⟨_,bp,_,_,_,_,_,_,g6,g7⟩:=bu.info (gr lj (by simp))
     rw[lj]at g7
     exact⟨bp,g6,.inl ⟨_,lG g7⟩⟩
    ·rename_i lj _
     obtain⟨_,bp,_,_,_,_,_,_,g6,g7⟩:=bu.info (gr lj (by simp))
     rw[lj]at g7
     exact⟨bp,g6,.inr (pS g7)⟩
    ·cases pZ
   split at he
   ·rename_i sz xs FD p0
    split at he
    ·rename_i dR
     subst dR
     split at he
     ·rename_i ys xT oj
      split at he
      ·rename_i St
       obtain⟨vj,Fv,FE⟩:=St
       simp only[Option.some.injEq,Prod.mk.injEq]at he
       obtain⟨rfl,rfl⟩:=he
       obtain⟨h4,a0,Sn,a3,a4,a5,pV,pW,aDu,a9,rI⟩:∃h4,bQ w0 F0 X F h4 FD aA w∧∃Sn,ax w F (.an (C.T e).sz xs) [ij] Sn∧(∀b,Sn b→b<w.heap.size)∧(∀b,Sn b→¬F b)∧(∀u b,Sn b→¬h4 u b)∧
         (∀b,Sn b→X b∨w0.heap.size≤b)∧(∀u b,h4 u b→S u b)∧(∀b,Sn b→∃u,S u b)∧aL w F FD aA (kV x.owner y) ja (fun _=>False):=by
        split at p0
        ·simp only[Option.some.injEq,Prod.mk.injEq,I.an.injEq,true_and]at p0
         obtain⟨rfl,rfl⟩:=p0
         have:=qJ aw;subst this
         exact⟨S,h,fun _=>False,by rw[ax];exact .inl ⟨rfl,_,rfl⟩,fun _ h=>h.elim,fun _ h=>h.elim,fun _ _ h=>h.elim,fun _ h=>h.elim,fun _ _ h=>h,fun _ h=>h.elim,bt⟩
        ·obtain⟨cq,g0,g1,g2,Sn,g3,g4,g5,g6,g7,g8,g9,g10⟩:=oY h rfl aw p0
         rw[hp g2]at g3
         exact⟨cq,g0,Sn,g3,g4,g5,g6,g7,g8,g9,g10 _ _ _ bt⟩
        ·cases p0
       obtain⟨hn,jR,nC,news,kW,iP,lJ,b4,cN,ep,o8,cH⟩:∃hn,bQ w0 F0 X F hn xT aA w∧∃nC news,bc w F ys news nC∧Src C.P w i.size ja ys.length news∧(∀b,nC b→b<w.heap.size)∧(∀b,nC b→¬F b)∧(∀u b,nC b→¬hn u b)∧
         (∀b,nC b→X b∨w0.heap.size≤b)∧(∀u b,hn u b→h4 u b)∧(∀b,nC b→∃u,h4 u b):=by
        split at oj
        ·rename_i sX
         simp only[Option.some.injEq,Prod.mk.injEq]at oj
         obtain⟨rfl,rfl⟩:=oj
         rw[sX]at rI
         have:=qJ rI;subst this
         exact⟨h4,a0,fun _=>False,[],by rw[bc],JS,fun _ h=>h.elim,fun _ h=>h.elim,fun _ _ h=>h.elim,fun _ h=>h.elim,fun _ _ h=>h,fun _ h=>h.elim⟩
        ·rename_i eG sX
         simp only[Option.some.injEq,Prod.mk.injEq]at oj
         obtain⟨rfl,rfl⟩:=oj
         rw[sX]at rI
         rcases A3 rI with⟨rfl,vh,aDv,rfl,_,sR⟩|⟨b,o,cap,eR,Su,rfl,b8,cy,e_,ed,fF,dr⟩
         ·exact⟨h4,a0,fun _=>False,[],by rw[bc],Fz vh,fun _ h=>h.elim,fun _ h=>h.elim,fun _ _ h=>h.elim,fun _ h=>h.elim,fun _ _ h=>h,fun _ h=>h.elim⟩
         ·exact⟨h4,a0,fun _=>False,eR,dr,Fy fF (by rw[f2];exact bc.sW dr vj),fun _ h=>h.elim,fun _ h=>h.elim,fun _ _ h=>h.elim,fun _ h=>h.elim,fun _ _ h=>h,fun _ h=>h.elim⟩
        ·rename_i l sX
         simp only[Option.some.injEq,Prod.mk.injEq]at oj
         obtain⟨rfl,rfl⟩:=oj
         rw[sX]at rI
         have:=oc rI;subst this
         have A8:l≠[]→i.size=1:=by
          intro hl
          cases l with
          |nil=>exact(hl rfl).elim
          |cons b l=>rw[f2,←vj (kX b) (by simp)];rfl
         by_cases hl:l=[]
         ·subst hl
          refine⟨h4,a0,fun _=>False,[],by simp only[List.map_nil];rw[bc],?_,fun _ h=>h.elim,fun _ h=>h.elim,fun _ _ h=>h.elim,fun _ h=>h.elim,fun _ _ h=>h,fun _ h=>h.elim⟩
          intro aG _
          exact⟨rfl,by simp[Builtin.firstCells,ByteArray.extract];rfl⟩
         ·refine⟨h4,a0,fun _=>False,_,JM l _,?_,fun _ h=>h.elim,fun _ h=>h.elim,fun _ _ h=>h.elim,fun _ h=>h.elim,fun _ _ h=>h,fun _ h=>h.elim⟩
          rw[A8 hl,List.length_map]
          exact Sr l
        ·rename_i a q sX
         split at oj
         ·rename_i aDw eG s2 ba
          simp only[Option.some.injEq,Prod.mk.injEq]at oj
          obtain⟨rfl,rfl⟩:=oj
          rw[sX]at rI
          obtain⟨dU,g0,g1,g2,nC,g3,g4,g5,g6,g7,g8,g9,g10⟩:=oY a0 rfl rI ba
          rw[hp g2,ax]at g3
          rcases g3 with⟨rfl,Sv,lI⟩|⟨b,cap,cur,gT,fr,aR,lI,b8,cy,e_,ed,fF,dr,jb,fV,mx,k10⟩
          ·simp at lI;subst lI
           exact⟨dU,g0,fun _=>False,[],by rw[bc],(Fz Sv),fun _ h=>h.elim,fun _ h=>h.elim,fun _ _ h=>h.elim,fun _ h=>h.elim,g8,fun _ h=>h.elim⟩
          ·simp at lI;subst lI
           refine⟨dU,g0,aR,_,fV,Fy (u5 cy _) ?_,fun c aq=>g4 c (mx c aq),fun c aq=>g5 c (mx c aq),fun u c aq=>g6 u c (mx c aq),fun c aq=>g7 c (mx c aq),g8,fun c aq=>g9 c (mx c aq)⟩
           rw[f2];exact bc.sW fV vj
         ·cases oj
        ·cases oj
       have rJ:news.length=ys.length*(C.T e).sz:=bc.sW kW vj
       have om:∀c,Sn c→¬nC c:=fun c h1 ah=>by obtain⟨u,hu⟩:=cH c ah;exact pV u c h1 hu
       have mm:∀u c,Sn c→¬hn u c:=fun u c h1 ah=>pV u c h1 (o8 u c ah)
       have grow:∀(base:Option Addr) (cap:Nat) (o6:List Value) (Sx:Nat→Prop),ij= .slice base xs.length cap→Src C.P w i.size (.slice base xs.length cap) xs.length o6→bc w F xs o6 Sx→(∀d∈xs,d.wd=(C.T e).sz)→(∀c,Sx c→Sn c)→¬xs.length+ys.length≤cap→
         Good C w0 F0 X aA w (Builtin.append_ #[T,bZ] ty #[ij,ja]) (.an (C.T e).sz (xs++ys)) xT:=by
        intro base cap o6 Sx Fm hold JT JU fy pX
        subst Fm
        have aX:=Sm (ty:=ty) ch hu sV f1 f4 iP hold pX FE (by rw[f3];exact Fv)
        have xQ:=grownCap_ge w (xs.length+ys.length) cap e
        have xR:=grownCap_le_maxLen w (xs.length+ys.length) cap e (by unfold maxLen;omega)
        have xU:=bc.sW JT JU
        have Sw:bc w F (xs++ys) (o6++news) (fun c=>Sx c∨nC c):=bc.append JT kW (fun _ h=>.inl h) (fun _ h=>.inr h) (fun c h1 ah=>om c (fy c h1) ah)
        have Sy:(o6++news).length=(xs++ys).length*(C.T e).sz:=by simp[xU,rJ,Nat.add_mul]
        have kx:=jR.xN (aG:=w.drew.alloc (.cells (o6.toArray++news.toArray++Builtin.zeroCells z.cells (grownCap w (xs.length+ys.length) cap e-(xs.length+ys.length))) e))
         (sz:=(C.T e).sz) (cap:=grownCap w (xs.length+ys.length) cap e) (xs:=xs++ys) (e:=e) (fr:=(0,0)) (Sn:=fun c=>Sx c∨nC c) rfl rfl rfl ⟨rfl,fun _=>Nat.le_succ _⟩
         (fun o _ ⟨_,ah⟩=>absurd ah (Nat.not_lt_zero _)) (by simpa using xQ) xR
         (by
          simp only[Array.size_append,List.size_toArray,size_zeroCells,qN,xU,rJ,o7,←Nat.add_mul]
          congr 1;omega)
         (by
          intro d aj
          rcases List.mem_append.1 aj with aj|aj
          ·exact JU d aj
          ·exact vj d aj)
         (by
          simp only[Array.toList_append]
          rw[List.take_left' Sy]
          exact Sw)
         (by rintro c (aq|aq);exact a4 c (fy c aq);exact lJ c aq) (by rintro c (aq|aq);exact a5 c (fy c aq);exact b4 c aq) (by rintro u c (aq|aq);exact mm u c (fy c aq);exact cN u c aq) (by rintro c (aq|aq);exact pW c (fy c aq);exact ep c aq)
        refine⟨_,_,F,hn,aX,kx.1,?_⟩
        have:=kx.2
        simpa using this
       rw[ax]at a3
       rcases a3 with⟨rfl,A9,lI⟩|⟨b,cap,cur,gT,fr,aR,lI,b8,cy,e_,ed,fF,dr,jb,fV,mx,k10⟩
       ·simp at lI;subst lI
        by_cases JV:ys=[]
        ·subst JV
         have FF:news=[]:=by simpa using rJ
         subst FF
         refine⟨.slice A9 0 0,w,F,hn,?_,jR,.inr ⟨rfl,rfl,fun _=>False,by simp only[cC,h6];rw[ax];exact .inl ⟨rfl,_,rfl⟩,fun _ h=>h.elim,fun _ h=>h.elim,fun _ _ h=>h.elim,fun _ h=>h.elim⟩⟩
         obtain⟨h1,ah⟩:=iP w rfl
         cases A9<;>rcases sV with⟨gE,rfl⟩|rfl<;>simp at h1 ah<;>simp[Builtin.append_,run_underlying ch,run_underlying hu,kh f1,h1,ah,storeCells]
        ·exact grow A9 0 [] (fun _=>False) rfl (Fz A9) (by rw[bc]) (by simp) (fun _ h=>h.elim) (by
          cases ys with
          |nil=>exact(JV rfl).elim
          |cons y ys=>simp)
       ·simp at lI;subst lI
        by_cases pX:xs.length+ys.length≤cap
        ·
         have xU:=bc.sW fV jb
         have hlen:cur.toList.length=cap*(C.T e).sz:=by simp[dr]
         have hle:(xs.length+ys.length)*(C.T e).sz≤cap*(C.T e).sz:=Nat.mul_le_mul_right _ pX
         rw[Nat.add_mul]at hle
         have lC:cur.toList=cur.toList.take (xs.length*(C.T e).sz)++((cur.toList.drop (xs.length*(C.T e).sz)).take news.length++(cur.toList.drop (xs.length*(C.T e).sz)).drop news.length):=by
          rw[List.take_append_drop,List.take_append_drop]
         obtain⟨aG,m1,m2,m3,m4,m5,m6,m7⟩:=Sl (ty:=ty) (n:=xs.length) (m:=ys.length) (cap:=cap) ch hu sV f1 iP cy e_ lC (by rw[f2];exact xU) (by simp[hlen,rJ];omega) (bc.rD _ _ _ kW) pX
         have Sz:=jR.turn m3 m4 m5 m6 m7 (a5 b b8) (fun u hu=>mm u b b8 hu) (pW b b8)
         have pR:∀c,F c→aG.heap[c]? =w.heap[c]? :=fun c aq=>m3 c (by rintro rfl;exact a5 _ b8 aq)
         refine⟨_,aG,F,hn,m1,Sz,.inr ⟨rfl,rfl,fun c=>Sn c∨nC c,?_,?_,?_,?_,?_⟩⟩
         ·simp only[cC,h6]
          rw[ax]
          have JW:(cur.toList.take (xs.length*(C.T e).sz)++(news++(cur.toList.drop (xs.length*(C.T e).sz)).drop news.length)).toArray.size=cur.size:=by
           have:cur.size=cur.toList.length:=by simp
           rw[this]
           conv=>rhs;rw[lC]
           simp[hlen,rJ];omega
          refine .inr ⟨b,cap,_,gT,fr,fun c=>aR c∨nC c,by simp,.inl b8,m2,by rw[JW];exact e_,by simpa using pX,fF,by rw[JW];exact dr,?_,?_,?_,?_⟩
          ·intro d aj
           rcases List.mem_append.1 aj with aj|aj
           ·exact jb d aj
           ·exact vj d aj
          ·have rG:=bc.frame pR _ _ _ (fun c aq=>m3 c (by rintro rfl;exact k10 aq)) fV
           have sN:=bc.frame pR _ _ _ (fun c aq=>m3 c (by rintro rfl;exact om _ b8 aq)) kW
           have:((cur.toList.take (xs.length*(C.T e).sz)++(news++(cur.toList.drop (xs.length*(C.T e).sz)).drop news.length)).toArray.toList.take ((xs++ys).length*(C.T e).sz))=cur.toList.take (xs.length*(C.T e).sz)++news:=by
            simp only[]
            rw[←List.append_assoc]
            exact List.take_left' (by rw[List.length_append,xU,rJ,List.length_append,Nat.add_mul])
           rw[this]
           exact bc.append rG sN (fun _ h=>.inl h) (fun _ h=>.inr h) (fun c h1 ah=>om c (mx c h1) ah)
          ·rintro c (aq|aq)
           ·exact .inl (mx c aq)
           ·exact .inr aq
          ·rintro(aq|aq)
           ·exact k10 aq
           ·exact om b b8 aq
         ·rw[m4];rintro c (aq|aq);exact a4 c aq;exact lJ c aq
         ·rintro c (aq|aq);exact a5 c aq;exact b4 c aq
         ·rintro u c (aq|aq);exact mm u c aq;exact cN u c aq
         ·rintro c (aq|aq);exact pW c aq;exact ep c aq
        ·exact grow (some ⟨b,0,none⟩) cap _ aR rfl (Fy (u5 cy _) (by rw[f2];exact bc.sW fV jb)) fV jb mx pX
      ·cases he
     ·cases he
    ·cases he
   ·cases he
  ·cases he
 ·cases he
end
section
variable {C:cw} {w0 w aG:World} {F0 X F:Nat→Prop} {S:Nat→Nat→Prop} {s s1:ar} {aA:Nat→Value} {av:I}
theorem bQ.SA (h:bQ w0 F0 X F S s aA w) {x:Nat} {q:List Nat} {d bp:I} {b:Nat} (aj:I.sub q (s x)=some d) (au:d.plain=false) (SB:bp.tree=true) (h1:∀v,iO d v→iO bp v) (ag:∀v,ei d v→ei bp v)
  (ah:∀vs,bp≠.tuple vs) (kQ:bp.wd=d.wd) (ae:∀c3 a fE,dB w q (s x) (cC (aA x)) none=some (d,c3,a)→ax w F d c3 fE→fE b∧ax aG F bp c3 fE) (l3:∀c,c≠b→aG.heap[c]? =w.heap[c]?) (dR:aG.heap.size=w.heap.size) (E_:aG.os=w.os)
  (Fa:aG.tape=w.tape) (sL:Out aG w):∃aR,bQ w0 F0 X F aR (du (iu x s) x (I.put q bp (s x))) aA aG:=by
 have ba:=ig aj (.inl au)
 have aw:=h.dF x
 rw[aL.cV ba]at aw
 obtain⟨c3,a,eF,fE,g0,g1,g2,g3,g4,g5⟩:=ctx q (s x) (cC (aA x)) (S x) none d aw.2 aj
 obtain⟨sM,aM⟩:=ae c3 a fE g0 g4
 have sY:S x b:=g2 b sM
 have pR:∀c,F c→aG.heap[c]? =w.heap[c]? :=fun c aq=>l3 c (by rintro rfl;exact h.fz x _ sY aq)
 have rB:∀c,eF c→c≠b:=fun c aq e=>g3 c aq (e▸sM)
 have j0:ax aG F (I.put q bp (s x)) (cC (aA x)) (fun c=>eF c∨fE c):=by
  rcases g5 with⟨l,r,aS,aZ,aQ⟩|⟨jR,cur,e,fr,l,r,aS,aZ,aQ,cF,cR,ch⟩
  ·rw[aS]
   exact aQ aG bp c3 fE pR (fun c aq=>l3 c (rB c aq)) kQ aM (fun c aq n5=>g3 c n5 aq)
  ·refine ch aG bp c3 fE pR (fun c aq _=>l3 c (rB c aq)) ?_ kQ aM (fun c aq n5=>g3 c n5 aq)
   rw[l3 jR (rB jR aZ),aQ,←cR]
 have xz:ei (I.put q bp (s x)) (aA x)∧(I.put q bp (s x)).tree=true:=by
  cases q with
  |nil=>
   simp only[I.sub,Option.some.injEq]at aj
   simp only[I.put]
   exact⟨ag _ (aj▸aw.1),SB⟩
  |cons k q=>
   refine⟨xx aw.1 aj h1 (fun _=>ah) kQ,?_⟩
   rcases rA k q bp (s x)with⟨ay,gs,aS,e⟩|⟨ay,gs,aS,e⟩|⟨sz,xs,ys,aS,e⟩|⟨y,z,aS,e⟩|e<;>rw[e]<;>first|rfl|exact ba
 let az:=du (iu x s) x (I.put q bp (s x))
 have hN:∀y,y≠x→(az y).tree=true→az y=s y∧aA y=aA y:=fun y bt ba=>by
  have e:az y=cZ.cv x (s y):=jH _ _ bt
  rw[e]at ba⊢
  exact⟨(AR ba).2,rfl⟩
 have mo:(az x).plain=false→(s x).plain=false∧∀v,ei (s x) v→ei (az x) v:=by
  intro _
  refine⟨?_,fun v aM=> ?_⟩
  ·cases xy:(s x).plain with
   |false=>rfl
   |true=>rw[I.E4 _ _ _ xy aj]at au;cases au
  ·simp only[az,l0]
   cases q with
   |nil=>
    simp only[I.sub,Option.some.injEq]at aj
    simp only[I.put]
    exact ag _ (aj▸aM)
   |cons k q=>exact xx aM aj h1 (fun _=>ah) kQ
 have both:∀c,(eF c∨fE c)→S x c:=fun c aq=>aq.elim (g1 c) (g2 c)
 refine⟨f_ S x (fun c=>eF c∨fE c),?_⟩
 constructor
 case ho=>exact h.ho
 case hO=>exact h.hO
 case fm=>exact fun b ae=>by rw[dR];exact h.fm b ae
 case eD=>
  intro u c ae
  rw[dR]
  simp only[f_]at ae
  split at ae
  ·exact h.eD x c (both c ae)
  ·exact h.eD u c ae
 case fz=>
  intro u c ae
  simp only[f_]at ae
  split at ae
  ·exact h.fz x c (both c ae)
  ·exact h.fz u c ae
 case fs=>
  intro u y c df ae bt
  simp only[f_]at ae bt
  split at ae
  ·rename_i hu
   rw[if_neg (fun e=>df (hu.trans e.symm))]at bt
   exact h.fs x y c (fun e=>df (hu.trans e)) (both c ae) bt
  ·rename_i hu
   split at bt
   ·exact h.fs u x c hu ae (both c bt)
   ·exact h.fs u y c df ae bt
 case dZ=>
  intro u c ae
  simp only[f_]at ae
  split at ae
  ·exact h.dZ x c (both c ae)
  ·exact h.dZ u c ae
 case dF=>
  intro u
  by_cases hu:u=x
  ·subst hu
   rw[l0,xv]
   exact(aL.cV xz.2).2 ⟨xz.1,j0⟩
  ·rw[jH _ _ hu,xw _ _ hu]
   have df:∀y c,y≠x→S y c→aG.heap[c]? =w.heap[c]? :=fun y c bt aq=>l3 c (by rintro rfl;exact h.fs y x c bt aq sY)
   refine(aL.cv hN rfl mo (fun y gF d2 bt iv va=> ?_) pR _).1 _ _ _ (Nat.le_refl _) (fun c aq=>df u c hu aq) (h.dF u)
   have xA:=h.dF y
   rw[aL.cV (ig iv va)]at xA
   exact AQ gF _ _ _ none d2 xA.2 iv (fun c aq=>df y c bt aq)
 case old=>
  intro c e7 j2
  rw[l3 c ?_]
  ·exact h.old c e7 j2
  ·rintro rfl
   rcases h.dZ x c sY with bf|bf
   ·exact j2 bf
   ·omega
 case size=>rw[dR];exact h.size
 case os=>exact E_.trans h.os
 case tape=>exact Fa.trans h.tape
 case output=>exact sL.trans h.output
 case hD=>exact h.hD
def JX (P:Program) (t:TypeId):Bool:=match P.info? t with
 |some i=>match i.zero with
  |some (.bool false)=>true
  |_=>false
 |none=>false
def A_ (C:cw) (T:TypeId):Bool:=match(C.T T).k with
 | .map o9 kY=>match(C.T o9).k with
   | .str=>JX C.P kY
   |_=>false
 |_=>false
def oo (C:cw) (s:ar) (T:TypeId) (x i:I):Option I:=match x,i with
 | .h y q,.str k=>match I.sub q (s y)with
   |some (.en (.mp m))=>if A_ C T=true then some (.bool (rv k m))else none
   |_=>none
 |_,_=>none
def mY (C:cw) (s:ar) (T:TypeId) (x i v:I):Option ar:=match x,i,v with
 | .h y q,.str k,.bool b=>match I.sub q (s y)with
   |some (.en (.mp m))=>if A_ C T=true then some (du (iu y s) y (I.put q (.en (.mp (pQ k b m))) (s y)))else none
   |_=>none
 |_,_,_=>none
theorem JY (bu:C.Ok) {T:TypeId} (h:A_ C T=true):∃o9 kY,C.P.underlying T=some (.map o9 kY)∧C.P.underlying o9=some .string∧∀w,(zeroValue kY).run C.P w= .ok (.bool false) w:=by
 unfold A_ at h
 split at h
 ·rename_i o9 kY hk
  split at h
  ·rename_i h1
   obtain⟨i,d,z,aS,aZ,aQ,cF,cR,ch,b3⟩:=bu.info (gr hk (by simp))
   obtain⟨qF,bp,qG,f1,f2,f3,f4,f5,f6,f7⟩:=bu.info (gr h1 (by simp))
   rw[hk]at b3
   rw[h1]at f7
   have:=pS f7;subst this
   refine⟨o9,kY,?_,f6,fun w=> ?_⟩
   ·rw[ch];cases d<;>simp[lE]at b3
    rw[b3.1,b3.2]
   ·unfold JX at h
    split at h
    ·rename_i i2 g1
     split at h
     ·rename_i g2;exact rC g1 g2 w
     ·cases h
    ·cases h
  ·cases h
 ·cases h
theorem FG (a b:ByteArray):(a==b)=true↔a=b:=by
 constructor
 ·intro h
  exact ByteArray.ext (eq_of_beq (show(a.data==b.data)=true from h))
 ·rintro rfl
  show(a.data==a.data)=true
  simp
theorem FH (k:List UInt8) (b:Bool):∀(es:List MapEntry) (m:List (List UInt8×Bool)) (i:Nat),es.map (fun e=>(e.key,e.val))=m.map (fun e=>(.string ⟨⟨e.1⟩⟩,.bool e.2))→
  (Instr.findNow .string (.string ⟨⟨k⟩⟩) es i=some none∧rv k m=false∧pQ k b m=m++[(k,b)])∨
  ∃j e,es[j]? =some e∧e.key= .string ⟨⟨k⟩⟩∧Instr.findNow .string (.string ⟨⟨k⟩⟩) es i=some (some (i+j,.bool (rv k m)))∧pQ k b m=m.set j (k,b)
 |[],m,i,h=>by
  have:m=[]:=by simpa using h.symm
  subst this
  exact .inl ⟨rfl,rfl,rfl⟩
 |e::es,[],i,h=>by simp at h
 |e::es,(cW,fZ)::m,i,h=>by
  simp only[List.map_cons,List.cons.injEq,Prod.mk.injEq]at h
  obtain⟨⟨h1,ah⟩,aC⟩:=h
  by_cases hk:cW=k
  ·subst hk
   refine .inr ⟨0,e,rfl,h1,?_,by simp[pQ]⟩
   have:(((⟨⟨cW⟩⟩:ByteArray)==⟨⟨cW⟩⟩))=true:=(FG _ _).2 rfl
   simp only[Instr.findNow,h1,ah,Instr.sameNow,rv,this,if_true,Nat.add_zero]
  ·have a6:((⟨⟨k⟩⟩:ByteArray)==⟨⟨cW⟩⟩)=false:=by
    refine Bool.eq_false_iff.2 fun e=>hk ?_
    have:=(FG _ _).1 e
    simp only[ByteArray.mk.injEq,Array.mk.injEq]at this
    exact this.symm
   rcases FH k b es m (i+1) aC with⟨g1,g2,g3⟩|⟨j,gE,g1,g2,g3,g4⟩
   ·refine .inl ⟨?_,?_,?_⟩
    ·simp only[Instr.findNow,h1,Instr.sameNow,a6];exact g1
    ·simp[rv,hk,g2]
    ·simp[pQ,hk,g3]
   ·refine .inr ⟨j+1,gE,g1,g2,?_,?_⟩
    ·simp only[Instr.findNow,h1,Instr.sameNow,a6]
     rw[g3];simp[rv,hk,Nat.add_assoc,Nat.add_comm 1 j]
    ·simp[pQ,hk,g4]
theorem Ba {P:Program} {o9:TypeId} (hk:P.underlying o9=some .string) (e:Bool) (k:ByteArray) (w:World):(Instr.checkKey e 10000 o9 (.string k)).run P w= .ok () w:=by
 unfold Instr.checkKey
 simp[run_underlying hk]
theorem JZ (h:bQ w0 F0 X F S s aA w) {y:Nat} {q:List Nat} {m:List (List UInt8×Bool)} {v:Value} (aM:aL w F s aA (.h y q) v (fun _=>False)) (aj:I.sub q (s y)=some (.en (.mp m))):
  ∃r ms mV,v= .map (some r)∧w.heap[r]? =some (.map ms mV)∧ms.toList.map (fun e=>(e.key,e.val))=m.map (fun e=>(.string ⟨⟨e.1⟩⟩,.bool e.2))∧
   ∃a,dB w q (s y) (cC (aA y)) none=some (.en (.mp m),[.map (some r)],a):=by
 rw[aL]at aM
 obtain⟨c3,a,g1,g2,g3⟩:=aM _ aj rfl
 have h1:Value.gC v=true:=g3
 rw[hp h1]at g2
 have aw:=h.dF y
 rw[aL.cV (ig aj (.inl rfl))]at aw
 obtain⟨gp,c4,eF,fE,k0,b8,cy,e_,ed,fF⟩:=ctx q (s y) (cC (aA y)) (S y) none _ aw.2 aj
 rw[k0]at g1
 simp only[Option.some.injEq,Prod.mk.injEq,true_and]at g1
 obtain⟨rfl,rfl⟩:=g1
 rw[ax]at ed
 obtain⟨r,ms,mV,aS,aZ,aQ,cF⟩:=ed
 rw[aS]at g2 k0
 exact⟨r,ms,mV,by simpa using g2,aQ,cF,c4,k0⟩
theorem SC (bu:C.Ok) (h:bQ w0 F0 X F S s aA w) {T:TypeId} {x i:I} {ij n_:Value} (aw:aL w F s aA x ij (fun _=>False)) (ao:aL w F s aA i n_ (fun _=>False)) (he:oo C s T x i=some av):
  Good C w0 F0 X aA w (Instr.lookup T ij n_ false) av s:=by
 unfold oo at he
 split at he
 ·rename_i y q k
  split at he
  ·rename_i m aj
   split at he
   ·rename_i jJ
    simp only[Option.some.injEq]at he;subst he
    obtain⟨o9,kY,t1,t2,t3⟩:=JY bu jJ
    obtain⟨r,ms,mV,rfl,aZ,aQ,_⟩:=JZ h aw aj
    have:=oc ao;subst this
    refine Good.same h (v:=.bool (rv k m)) ?_ rfl (of_bool _)
    rcases FH k true ms.toList m 0 aQ with⟨g1,g2,_⟩|⟨j,e,_,_,g1,_⟩
    ·simp[Instr.lookup,run_underlying t1,getObj,Sem.run,aZ,Ba t2,Instr.findKey,run_underlying t2,g1,t3,g2]
    ·simp[Instr.lookup,run_underlying t1,getObj,Sem.run,aZ,Ba t2,Instr.findKey,run_underlying t2,g1]
   ·cases he
  ·cases he
 ·cases he
theorem SD (bu:C.Ok) (h:bQ w0 F0 X F S s aA w) {T:TypeId} {x i v:I} {ij n_ J0:Value} (aw:aL w F s aA x ij (fun _=>False)) (ao:aL w F s aA i n_ (fun _=>False)) (aM:aL w F s aA v J0 (fun _=>False)) {s2:ar}
  (he:mY C s T x i v=some s2):∃aG aR,(Instr.mapUpdate T ij n_ J0).run C.P w= .ok () aG∧bQ w0 F0 X F aR s2 aA aG:=by
 unfold mY at he
 split at he
 ·rename_i y q k b
  split at he
  ·rename_i m aj
   split at he
   ·rename_i jJ
    simp only[Option.some.injEq]at he;subst he
    obtain⟨o9,kY,t1,t2,t3⟩:=JY bu jJ
    obtain⟨r,ms,mV,rfl,aZ,aQ,a0,kS⟩:=JZ h aw aj
    have:=oc ao;subst this
    have:=rF aM;subst this
    have key:∀(Bb:Array MapEntry) (FI:Nat),Bb.toList.map (fun e=>(e.key,e.val))=(pQ k b m).map (fun e=>(.string ⟨⟨e.1⟩⟩,.bool e.2))→
      ∃aR,bQ w0 F0 X F aR (du (iu y s) y (I.put q (.en (.mp (pQ k b m))) (s y))) aA {w with heap:=w.heap.setIfInBounds r (.map Bb FI)}:=by
     intro Bb FI hm
     have aX:r<w.heap.size:=(Array.getElem?_eq_some_iff.1 aZ).1
     refine bQ.SA (b:=r) h aj rfl rfl (fun v aM=>aM) (fun v aM=>aM) (fun vs e=>by cases e) rfl ?_ (fun c aq=> ?_) (by simp) rfl rfl ⟨rfl,fun _=>Nat.le_refl _⟩
     ·intro c3 a fE bC gv
      rw[kS]at bC
      simp only[Option.some.injEq,Prod.mk.injEq,true_and]at bC
      obtain⟨rfl,_⟩:=bC
      rw[ax]at gv⊢
      obtain⟨gU,rK,aDx,f1,f2,f3,f4⟩:=gv
      simp only[List.cons.injEq,Value.map.injEq,Option.some.injEq,and_true]at f1
      subst f1
      exact⟨f2,r,Bb,FI,rfl,f2,by simp[aX],hm⟩
     ·simp[Ne.symm aq]
    rcases FH k b ms.toList m 0 aQ with⟨g1,_,g2⟩|⟨j,e,g0,ge,g1,g2⟩
    ·obtain⟨aR,b8⟩:=key (ms.push {key:=.string ⟨⟨k⟩⟩,val:=.bool b,born:=mV}) (mV+1) (by rw[g2];simp[aQ])
     exact⟨_,aR,by simp[Instr.mapUpdate,run_underlying t1,getObj,setObj,Sem.run,aZ,Ba t2,Instr.findKey,run_underlying t2,g1],b8⟩
    ·rw[Nat.zero_add]at g1
     obtain⟨aR,b8⟩:=key (ms.modify j fun e=>{e with key:=.string ⟨⟨k⟩⟩,val:=.bool b}) mV (by
      rw[g2,List.map_set,←aQ]
      apply List.ext_getElem?
      intro n
      by_cases a6:n=j
      ·subst a6
       have:n<ms.toList.length:=(List.getElem?_eq_some_iff.1 g0).1
       rw[List.getElem?_set_self (by simpa using this)]
       simp[g0]
      ·simp[List.getElem?_set_ne (Ne.symm a6),Ne.symm a6])
     have SE:ms[j]? =some e:=by simpa using g0
     exact⟨_,aR,by simp[Instr.mapUpdate,run_underlying t1,getObj,setObj,Sem.run,aZ,Ba t2,Instr.findKey,run_underlying t2,g1,SE,ge,Instr.keyThatStays,Instr.sameBits,(FG ⟨⟨k⟩⟩ ⟨⟨k⟩⟩).2 rfl],b8⟩
   ·cases he
  ·cases he
 ·cases he
theorem SF (h:bQ w0 F0 X F S s aA w) (t:TypeId):Good C w0 F0 X aA w (Instr.makeMap t none) (.en (.mp [])) s:=by
 have hold:∀b,b<w.heap.size→(w.alloc (.map #[] 0)).heap[b]? =w.heap[b]? :=by
  intro b ae
  show(w.heap.push _)[b]? =_
  rw[Array.getElem?_push,if_neg (by omega)]
 refine⟨.map (some w.heap.size),w.alloc (.map #[] 0),F,S,?_,h.grow hold (by simp) rfl rfl ⟨rfl,fun _=>Nat.le_refl _⟩,.inr ⟨rfl,rfl,fun b=>b=w.heap.size,?_,?_,?_,?_,?_⟩⟩
 ·simp[Instr.makeMap,newObj,Sem.run]
 ·rw[ax]
  refine⟨w.heap.size,#[],0,rfl,rfl,?_,rfl⟩
  show(w.heap.push _)[_]? =_
  simp
 ·rintro b rfl;simp
 ·rintro b rfl qI;exact Nat.lt_irrefl _ (h.fm _ qI)
 ·rintro u b rfl hu;exact Nat.lt_irrefl _ (h.eD _ _ hu)
 ·rintro b rfl;exact .inr h.size
end
end Go.cZ
