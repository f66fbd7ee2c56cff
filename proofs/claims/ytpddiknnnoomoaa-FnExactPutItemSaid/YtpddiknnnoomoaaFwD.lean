/- Part of a proof that a law returns true for every input. No condition. -/
import Derived.Test.YtpddiknnnoomoaaFwC
import Derived.Test.YtpddiknnnoomoaaFwA
import Derived.Laws.IdiomStrings
import Derived.Laws.Strings
import Derived.LaidEql
import Derived.WideLaws
import Derived.Laws.StructEq
namespace Go.bZ
section
variable {C:bo} {w0 w:World} {F0 X F:Nat→Prop} {S:Nat→Nat→Prop} {s s1:ag} {ak:Nat→Value} {av:j}
theorem j1 {k:IntKind} {n:Int} {v:Value} {az:Nat→Prop} (h:ar w F s ak (.int k n) v az):v= .int k n:=by
 have a2:=(ar.bx rfl).1 h
 rw[ai,ek a2.1]at a2
 simpa using a2.2
theorem nc {b:Bool} {v:Value} {az:Nat→Prop} (h:ar w F s ak (.bool b) v az):v= .bool b:=by
 have a2:=(ar.bx rfl).1 h
 rw[ai,ek a2.1]at a2
 simpa using a2.2
theorem jg {b:List UInt8} {v:Value} {az:Nat→Prop} (h:ar w F s ak (.str b) v az):v= .string ⟨⟨b⟩⟩:=by
 have a2:=(ar.bx rfl).1 h
 rw[ai,ek a2.1]at a2
 simpa using a2.2
theorem yo {v:Value} {az:Nat→Prop} (h:ar w F s ak .cw v az):v= .pointer none:=by
 have a2:=(ar.bx rfl).1 h
 rw[ai,ek a2.1]at a2
 simpa using a2.2
theorem mr {v:Value} {az:Nat→Prop} (h:ar w F s ak .bt v az):v= .slice none 0 0:=by
 have a2:=(ar.bx rfl).1 h
 rw[ai,ek a2.1]at a2
 simpa using a2.2
theorem yp {v:Value} {az:Nat→Prop} (h:ar w F s ak .c2 v az):∃b,v= .bool b:=by
 have a2:=(ar.bx rfl).1 h
 rw[ai,ek a2.1]at a2
 simpa using a2.2
theorem of_int (k:IntKind) (n:Int):ar w F s ak (.int k n) (.int k n) (fun _=>False):=(ar.bx rfl).2 ⟨rfl,by rw[ai];rfl⟩
theorem of_bool (b:Bool):ar w F s ak (.bool b) (.bool b) (fun _=>False):=(ar.bx rfl).2 ⟨rfl,by rw[ai];rfl⟩
theorem kK (b:List UInt8):ar w F s ak (.str b) (.string ⟨⟨b⟩⟩) (fun _=>False):=(ar.bx rfl).2 ⟨rfl,by rw[ai];rfl⟩
theorem vd (b:Bool):ar w F s ak .c2 (.bool b) (fun _=>False):=(ar.bx rfl).2 ⟨rfl,by rw[ai];exact⟨b,rfl⟩⟩
def e2 (op:BinOp) (k:IntKind) (a:Int) (b3:IntKind) (b:Int):Option j:=
 match op with
 | .shl=>if b<0 then none else some (.int k (k.wrap (a*2^(min b.toNat k.bits))))
 | .shr=>if b<0 then none else some (.int k (a.fdiv (2^(min b.toNat k.bits))))
 | .add=>if k=b3 then some (.int k (k.wrap (a+b)))else none
 | .sub=>if k=b3 then some (.int k (k.wrap (a-b)))else none
 | .mul=>if k=b3 then some (.int k (k.wrap (a*b)))else none
 | .quo=>if k=b3∧b≠0 then some (.int k (k.wrap (a.tdiv b)))else none
 | .rem=>if k=b3∧b≠0 then some (.int k (a.tmod b))else none
 | .eql=>if k=b3 then some (.bool (a==b))else none
 | .neq=>if k=b3 then some (.bool (a !=b))else none
 | .lss=>if k=b3 then some (.bool (decide (a<b)))else none
 | .leq=>if k=b3 then some (.bool (decide (a≤b)))else none
 | .gtr=>if k=b3 then some (.bool (decide (b<a)))else none
 | .geq=>if k=b3 then some (.bool (decide (b≤a)))else none
 | .and=>if k=b3 then some (.int k (bitsOf .and k a b))else none
 | .or=>if k=b3 then some (.int k (bitsOf .or k a b))else none
 | .xor=>if k=b3 then some (.int k (bitsOf .xor k a b))else none
 | .andNot=>if k=b3 then some (.int k (bitsOf .andNot k a b))else none
def jI (op:BinOp) (a b:List UInt8):Option j:=
 match op with
 | .add=>if a.length+b.length≤9223372036854775807 then some (.str (a++b))else none
 | .eql=>some (.bool (a==b))
 | .neq=>some (.bool !(a==b))
 | .lss=>some (.bool (Op.bytesLess a b))
 | .leq=>some (.bool (Op.bytesLess a b||a==b))
 | .gtr=>some (.bool !(Op.bytesLess a b||a==b))
 | .geq=>some (.bool !(Op.bytesLess a b))
 |_=>none
def gE (s:ag):j→Option (Option Bool)
 | .bt=>some (some true)
 | .slice xs=>some (if xs=[]then none else some false)
 | .h x q=>match j.sub q (s x)with
   |some (.aH _ xs)=>some (if xs=[]then none else some false)
   |_=>none
 |_=>none
def hV (s:ag):j→Option Bool
 | .cw=>some true
 | .ref _=>some false
 | .h x q=>match j.sub q (s x)with
   |some (.bm _)=>some false
   |_=>none
 |_=>none
def kL (neg:Bool):Option Bool→j
 |some b=>.bool (b !=neg)
 |none=>.c2
def structEq (P:Program) (T:TypeId):Bool:= !P.stoodInHeld T&& !P.eqGuardType P.depth T&&(P.fieldsOf T).toList.all fun f=>decide (f.name≠ "_")
def j2 (C:bo):List (TypeId×Nat)→Nat→List j→List j→Option Bool
 |[],_,[],[]=>some true
 |(gD,off)::ah,n,d::ds,e::es=>if off=n then(match(C.T gD).k,d,e with
  | .int k,.int bb a,.int bq b=>if bb=k∧bq=k then(j2 C ah (n+1) ds es).map fun r=>a==b&&r else none
  | .bool,.bool a,.bool b=>(j2 C ah (n+1) ds es).map fun r=>a==b&&r
  | .str,.str a,.str b=>(j2 C ah (n+1) ds es).map fun r=>a==b&&r
  |_,_,_=>none)else none
 |_,_,_,_=>none
def bV (C:bo) (s:ag) (op:BinOp) (T:TypeId) (x y:j):Option j:=
 match x,y with
 | .int k a,.int b3 b=>e2 op k a b3 b
 | .str a,.str b=>jI op a b
 | .bool a,.bool b=>match op,(C.T T).k with
   | .eql,.bool=>some (.bool (a==b))
   | .neq,.bool=>some (.bool !(a==b))
   |_,_=>none
 | .agg ds,.agg es=>match op,(C.T T).k with
   | .eql,.struct ah=>if structEq C.P T=true then(j2 C ah 0 ds es).map fun b=>.bool b else none
   | .neq,.struct ah=>if structEq C.P T=true then(j2 C ah 0 ds es).map fun b=>.bool !b else none
   |_,_=>none
 |x,.bt=>match op,(C.T T).k with
  | .eql,.slice _=>(gE s x).map (kL false)
  | .neq,.slice _=>(gE s x).map (kL true)
  |_,_=>none
 |x,.cw=>match op,(C.T T).k with
  | .eql,.ptr _=>(hV s x).map fun b=>.bool b
  | .neq,.ptr _=>(hV s x).map fun b=>.bool !b
  |_,_=>none
 |_,_=>none
theorem D5 {P:Program} {op:BinOp} {T:TypeId} {k b3:IntKind} {a b:Int} (he:e2 op k a b3 b=some av) (w:World):
  ∃v,(binOp op T (.int k a) (.int b3 b)).run P w= .ok v w∧ar w F s ak av v (fun _=>False):=by
 unfold e2 at he
 cases op<;>simp only at he<;>split at he<;>first|(cases he;done)|skip
 all_goals
  rename_i ae
  simp only[Option.some.injEq]at he
  subst he
 all_goals first
  |(subst ae;simp only[binOp_add,binOp_sub,binOp_mul,binOp_eql,binOp_neq,binOp_lss,binOp_leq,binOp_gtr,binOp_geq,binOp_and,binOp_or,binOp_xor,binOp_andNot,Op.intArith,Op.intBits,Sem.run_pure,Result.ok.injEq,and_true,exists_eq_left']
    first|exact of_int _ _|exact of_bool _)
  |(obtain⟨rfl,bu⟩:=ae
    simp only[binOp_quo,binOp_rem,Op.intDiv,bu,if_false,Sem.run_pure,Result.ok.injEq,and_true,exists_eq_left']
    exact of_int _ _)
  |(simp only[binOp_shl,binOp_shr,Op.shift,ae,if_false,Sem.run_pure,Result.ok.injEq,and_true,exists_eq_left']
    exact of_int _ _)
theorem q8 (a:List UInt8):(⟨⟨a⟩⟩:ByteArray).toList=a:=ByteArray.toList_eq _
theorem D6 (a b:List UInt8):(⟨⟨a⟩⟩:ByteArray)++(⟨⟨b⟩⟩:ByteArray)=⟨⟨a++b⟩⟩:=by
 apply ByteArray.ext
 simp[ByteArray.data_append]
theorem D7 {P:Program} {op:BinOp} {T:TypeId} {a b:List UInt8} (he:jI op a b=some av) (w:World):
  ∃v,(binOp op T (.string ⟨⟨a⟩⟩) (.string ⟨⟨b⟩⟩)).run P w= .ok v w∧ar w F s ak av v (fun _=>False):=by
 have I:∀op,binOp op T (.string ⟨⟨a⟩⟩) (.string ⟨⟨b⟩⟩)=Op.stringOp op ⟨⟨a⟩⟩ ⟨⟨b⟩⟩:=by intro op;cases op<;>rfl
 rw[I]
 unfold jI at he
 cases op<;>simp only[Option.some.injEq]at he<;>first|(cases he;done)|skip
 case add=>
  split at he
  ·rename_i hl
   simp only[Option.some.injEq]at he;subst he
   have R:((ByteArray.size ⟨⟨a⟩⟩+ByteArray.size ⟨⟨b⟩⟩:Nat):Int)≤9223372036854775807:=by
    show((a.length+b.length:Nat):Int)≤_
    omega
   refine⟨.string ⟨⟨a++b⟩⟩,?_,kK _⟩
   simp only[Op.stringOp,IntKind.max_i64]
   rw[if_neg (by omega),D6]
   rfl
  ·cases he
 all_goals
  subst he
  simp only[Op.stringOp,q8,Sem.run_pure,Result.ok.injEq,and_true,exists_eq_left']
  exact of_bool _
theorem ve (h:aX w0 F0 X F S s ak w) {v:Value} {y:Nat} {q:List Nat} (aC:ar w F s ak (.h y q) v (fun _=>False)) {sz:Nat} {xs:List j} (ab:j.sub q (s y)=some (.aH sz xs)):
  (xs=[]∧∃a,v= .slice a 0 0)∨∃b cap cur e fr,v= .slice (some ⟨b,0,none⟩) xs.length cap∧w.heap[b]? =some (.cells cur e fr)∧hM fr cur.size∧xs.length≤cap∧cap≤maxLen∧cur.size=cap*sz∧(∀d∈xs,d.wd=sz)∧
   ∃az,aJ w F xs (cur.toList.take (xs.length*sz)) az∧(∀c,az c→S y c)∧S y b:=by
 rw[ar]at aC
 obtain⟨bG,a,aE,aO,bg⟩:=aC _ ab rfl
 have R:Value.dZ v=true:=bg
 rw[ek R]at aO;subst aO
 have ao:=h.b5 y
 rw[ar.bx (fa ab (.inl rfl))]at ao
 obtain⟨dC,bM,cI,df,k0,bb,bq,cD,b1,cZ⟩:=ctx q (s y) (ba (ak y)) (S y) none _ ao.2 ab
 rw[k0]at aE
 simp only[Option.some.injEq,Prod.mk.injEq,true_and]at aE
 obtain⟨rfl,rfl⟩:=aE
 rw[ai]at b1
 rcases b1 with⟨rfl,cn,aa⟩|⟨b,cap,cur,aL,fr,ch,a1,b2,cb,bp,bk,ie,hW,jJ,oa,kM,fF⟩
 ·simp at aa;exact .inl ⟨rfl,_,aa⟩
 ·simp at a1
  exact .inr ⟨b,cap,cur,aL,fr,a1,cb,bp.low,bk,ie,hW,jJ,ch,oa,fun c ae=>bq _ (kM c ae),bq _ b2⟩
theorem yq (h:aX w0 F0 X F S s ak w) {v:Value} {y:Nat} {q:List Nat} (aC:ar w F s ak (.h y q) v (fun _=>False)) {d:j} (ab:j.sub q (s y)=some (.bm d)):
  ∃b cur e fr,v= .pointer (some ⟨b,0,none⟩)∧w.heap[b]? =some (.cells cur e fr):=by
 rw[ar]at aC
 obtain⟨bG,a,aE,aO,bg⟩:=aC _ ab rfl
 have R:Value.dZ v=true:=bg
 rw[ek R]at aO;subst aO
 have ao:=h.b5 y
 rw[ar.bx (fa ab (.inl rfl))]at ao
 obtain⟨dC,bM,cI,df,k0,bb,bq,cD,b1,cZ⟩:=ctx q (s y) (ba (ak y)) (S y) none _ ao.2 ab
 rw[k0]at aE
 simp only[Option.some.injEq,Prod.mk.injEq,true_and]at aE
 obtain⟨rfl,rfl⟩:=aE
 rw[ai]at b1
 obtain⟨b,cur,aL,fr,ch,a1,b2,cb,_⟩:=b1
 simp at a1
 exact⟨b,cur,aL,fr,a1,cb⟩
theorem yr {P:Program} {T e:TypeId} (aM:P.underlying T=some (.slice e)) (w:World):∀d,(Op.equalIn (d+1) T (.slice none 0 0) (.slice none 0 0)).run P w= .ok true w∧
  ∀a n c,(Op.equalIn (d+1) T (.slice (some a) n c) (.slice none 0 0)).run P w= .ok false w:=by
 intro d
 refine⟨by simp[Op.equalIn,run_underlying aM],fun a n c=>by simp[Op.equalIn,run_underlying aM]⟩
theorem yt {P:Program} {T e:TypeId} (aM:P.underlying T=some (.pointer e)) (w:World):∀d,(Op.equalIn (d+1) T (.pointer none) (.pointer none)).run P w= .ok true w∧
  ∀a,(Op.equalIn (d+1) T (.pointer (some a)) (.pointer none)).run P w= .ok false w:=by
 intro d
 refine⟨by simp[Op.equalIn,run_underlying aM],fun a=>by simp[Op.equalIn,run_underlying aM]⟩
theorem yu {P:Program} {T:TypeId} (aM:P.underlying T=some .bool) (w:World):∀d a b,(Op.equalIn (d+1) T (.bool a) (.bool b)).run P w= .ok (a==b) w:=by
 intro d a b
 simp[Op.equalIn,run_underlying aM]
theorem yv (h:aX w0 F0 X F S s ak w) {x:j} {v:Value} (aC:ar w F s ak x v (fun _=>False)) {T e:TypeId} {r:Option Bool} (aB:gE s x=some r) (aM:C.P.underlying T=some (.slice e)):
  ∃b,(Op.equal T v (.slice none 0 0)).run C.P w= .ok b w∧(∀dr,r=some dr→dr=b)∧Value.dZ v=true∧∃a n c,v= .slice a n c:=by
 have aG:=fun a n c=>(yr aM w 9999).2 a n c
 have eu:=(yr aM w 9999).1
 cases x with
 |bt=>
  have:=mr aC;subst this
  simp[gE]at aB;subst aB
  exact⟨true,eu,by simp,rfl,_,_,_,rfl⟩
 |slice xs=>
  have a2:=(ar.bx rfl).1 aC
  rw[ai,ek a2.1]at a2
  simp only[gE,Option.some.injEq]at aB
  obtain⟨_,⟨rfl,a,c,aa,_,ob⟩|⟨b,o,cap,cO,sz,aa,aw⟩⟩:=a2
  ·simp at aa aB;subst aa;subst aB
   cases a with
   |none=>
    have:=ob rfl;subst this
    exact⟨true,eu,by simp,rfl,_,_,_,rfl⟩
   |some a=>exact⟨false,aG _ _ _,by simp,rfl,_,_,_,rfl⟩
  ·simp at aa;subst aa
   refine⟨false,aG _ _ _,?_,rfl,_,_,_,rfl⟩
   subst aB
   split<;>simp
 |h y q=>
  simp only[gE]at aB
  split at aB
  ·rename_i sz xs ab
   simp only[Option.some.injEq]at aB
   rcases ve h aC ab with⟨rfl,a,rfl⟩|⟨b,cap,cur,aL,fr,rfl,_⟩
   ·simp at aB;subst aB
    cases a with
    |none=>exact⟨true,eu,by simp,rfl,_,_,_,rfl⟩
    |some a=>exact⟨false,aG _ _ _,by simp,rfl,_,_,_,rfl⟩
   ·refine⟨false,aG _ _ _,?_,rfl,_,_,_,rfl⟩
    subst aB
    split<;>simp
  ·cases aB
 |_=>simp[gE]at aB
theorem yw (h:aX w0 F0 X F S s ak w) {x:j} {v:Value} (aC:ar w F s ak x v (fun _=>False)) {T e:TypeId} {r:Bool} (aB:hV s x=some r) (aM:C.P.underlying T=some (.pointer e)):
  (Op.equal T v (.pointer none)).run C.P w= .ok r w∧∃a,v= .pointer a:=by
 have aG:=fun a=>(yt aM w 9999).2 a
 have eu:=(yt aM w 9999).1
 cases x with
 |cw=>
  have:=yo aC;subst this
  simp[hV]at aB;subst aB
  exact⟨eu,_,rfl⟩
 |ref d=>
  have a2:=(ar.bx rfl).1 aC
  rw[ai,ek a2.1]at a2
  simp[hV]at aB;subst aB
  obtain⟨_,b,o,cO,aa,_⟩:=a2
  simp at aa;subst aa
  exact⟨aG _,_,rfl⟩
 |h y q=>
  simp only[hV]at aB
  split at aB
  ·rename_i d ab
   simp only[Option.some.injEq]at aB;subst aB
   obtain⟨b,cur,e,fr,rfl,_⟩:=yq h aC ab
   exact⟨aG _,_,rfl⟩
  ·cases aB
 |_=>simp[hV]at aB
theorem D8 (aQ:C.c5):∀(ah:List (TypeId×Nat)) (gs:List Field) (n:Nat) (ds es:List j) (r:Bool) (ed l2 bB bF:List Value) (xs ys:Array Value) (bj ch:Nat→Prop),
  gs.map (fun g=>(g.type,g.offset))=ah→(gs.all fun f=>decide (f.name≠ "_"))=true→j2 C ah n ds es=some r→aJ w F ds bB bj→aJ w F es bF ch→xs.toList=ed++bB→ed.length=n→ys.toList=l2++bF→l2.length=n→
  ∀m,(Op.eqFields (m+1) xs ys gs).run C.P w= .ok r w:=by
 intro ah
 induction ah with
 |nil=>
  intro gs n ds es r ed l2 bB bF xs ys bj ch aY aR he U aa ao hl aT vf m
  have:gs=[]:=by simpa using aY
  subst this
  cases ds<;>cases es<;>simp[j2]at he
  subst he
  simp[Op.eqFields]
 |cons p ah ih=>
  obtain⟨gD,off⟩:=p
  intro gs n ds es r ed l2 bB bF xs ys bj ch aY aR he U aa ao hl aT vf m
  cases gs with
  |nil=>simp at aY
  |cons g gs=>
   simp only[List.map_cons,List.cons.injEq,Prod.mk.injEq]at aY
   obtain⟨⟨rfl,rfl⟩,aY⟩:=aY
   simp only[List.all_cons,Bool.and_eq_true,decide_eq_true_eq]at aR
   cases ds with
   |nil=>simp[j2]at he
   |cons d ds=>
   cases es with
   |nil=>simp[j2]at he
   |cons e es=>
   simp only[j2]at he
   split at he
   ·rename_i lx
    rw[aJ]at U aa
    obtain⟨aA,cn,sY,D9,rfl,dD,eK,fo,yx,dK⟩:=U
    obtain⟨iM,gd,Rp,D_,rfl,fe,ej,gp,gf,nd⟩:=aa
    have step:∀(x y:Value) (z:Bool),(C.T g.type).flat=true→aA=[x]→iM=[y]→(∀m,(Op.equalIn (m+1) g.type x y).run C.P w= .ok z w)→∀fq,j2 C ah (n+1) ds es=some fq→
      (Op.eqFields (m+1) xs ys (g::gs)).run C.P w= .ok (z&&fq) w:=by
     intro x y z gb vg Ea heq fq cU
     subst vg;subst Ea
     have Eb:xs[g.offset]? =some x:=by
      rw[←Array.getElem?_toList,ao,lx,←hl,List.getElem?_append_right (Nat.le_refl _)];simp
     have Ec:ys[g.offset]? =some y:=by
      rw[←Array.getElem?_toList,aT,lx,←vf,List.getElem?_append_right (Nat.le_refl _)];simp
     have ay:=ih gs (n+1) ds es fq (ed++[x]) (l2++[y]) cn gd xs ys D9 D_ aY aR.2 cU eK ej (by rw[ao];simp) (by simp[hl]) (by rw[aT];simp) (by simp[vf]) m
     unfold Op.eqFields
     rw[if_pos aR.1]
     simp only[part,Sem.run_bind,va aQ gb,Result.andThen_ok,Bool.false_eq_true,if_false,Eb,Ec,Sem.run_pure,heq]
     cases z
     ·simp
     ·simpa using ay
    split at he
    ·rename_i k bb a bq b al
     split at he
     ·rename_i sZ
      obtain⟨rfl,rfl⟩:=sZ
      rw[ai]at dD fe
      simp only[Option.map_eq_some_iff]at he
      obtain⟨fq,cU,rfl⟩:=he
      obtain⟨i,q9,yy,aG,aL,a1,b2,cb,bp,bk⟩:=aQ.info (dF al (by simp))
      rw[al]at bk
      have oc:=q4 bk
      subst oc
      exact step _ _ _ (by simp[dR.flat,al]) dD fe (fun m=>run_equalIn_int w m g.type _ _ a b bp) fq cU
     ·cases he
    ·rename_i a b al
     rw[ai]at dD fe
     simp only[Option.map_eq_some_iff]at he
     obtain⟨fq,cU,rfl⟩:=he
     obtain⟨i,q9,yy,aG,aL,a1,b2,cb,bp,bk⟩:=aQ.info (dF al (by simp))
     rw[al]at bk
     have oc:=u5 bk
     subst oc
     exact step _ _ _ (by simp[dR.flat,al]) dD fe (fun m=>run_equalIn_bool' w m g.type a b bp) fq cU
    ·rename_i a b al
     rw[ai]at dD fe
     simp only[Option.map_eq_some_iff]at he
     obtain⟨fq,cU,rfl⟩:=he
     obtain⟨i,q9,yy,aG,aL,a1,b2,cb,bp,bk⟩:=aQ.info (dF al (by simp))
     rw[al]at bk
     have oc:=lv bk
     subst oc
     refine step _ _ (a==b) (by simp[dR.flat,al]) dD fe (fun m=> ?_) fq cU
     rw[run_equalIn_string w m g.type _ _ bp,q8,q8]
    ·cases he
   ·cases he
theorem yz (aQ:C.c5) {T:TypeId} {ah:List (TypeId×Nat)} (al:(C.T T).k= .struct ah) {ds es:List j} {fb fE:Value} {bj ch:Nat→Prop} {r:Bool} (ao:ar w F s ak (.agg ds) fb bj) (aT:ar w F s ak (.agg es) fE ch)
  (bX:structEq C.P T=true) (he:j2 C ah 0 ds es=some r) (op:BinOp) (q_ ra:Operand):
  (eqGuard op T q_ ra fb fE).run C.P w= .ok () w∧(Op.equal T fb fE).run C.P w= .ok r w:=by
 obtain⟨i,d,z,aG,aL,a1,b2,cb,bp,bk⟩:=aQ.info (dF al (by simp))
 rw[al]at bk
 obtain⟨gs,rfl,ie⟩:=q3 bk
 have rb:C.P.fieldsOf T=gs:=by simp[Program.fieldsOf,bp]
 simp only[structEq,Bool.and_eq_true,Bool.not_eq_true',rb]at bX
 obtain⟨⟨fe,ej⟩,gp⟩:=bX
 obtain⟨⟨xs,rfl⟩,pq⟩:=(ar.bx rfl).1 ao
 obtain⟨⟨ys,rfl⟩,n4⟩:=(ar.bx rfl).1 aT
 rw[ai]at pq n4
 constructor
 ·cases op<;>simp[eqGuard,ej]
 ·show(Op.equalIn (9999+1) T _ _).run C.P w=_
  rw[run_equalIn_struct w 9999 T xs ys (by rw[rb];exact bp) fe,rb]
  exact D8 aQ ah gs.toList 0 ds es r [] [] _ _ xs ys bj ch ie gp he pq n4 rfl rfl rfl rfl 9998
theorem Ed (aQ:C.c5) (h:aX w0 F0 X F S s ak w) {op:BinOp} {T:TypeId} {x y:j} {fb fE:Value} (q_ ra:Operand) (ao:ar w F s ak x fb (fun _=>False)) (aT:ar w F s ak y fE (fun _=>False))
  (he:bV C s op T x y=some av):Good C w0 F0 X ak w (do eqGuard op T q_ ra fb fE;binOp op T fb fE) av s:=by
 unfold bV at he
 split at he
 ·have:=j1 ao;subst this
  have:=j1 aT;subst this
  obtain⟨v,U,aa⟩:=D5 (P:=C.P) (T:=T) he w
  refine Good.same h (v:=v) ?_ ?_ aa
  ·rw[eqGuard_at_int];exact U
  ·revert he;unfold e2;cases op<;>simp only<;>split<;>simp<;>(rintro rfl;rfl)
 ·have:=jg ao;subst this
  have:=jg aT;subst this
  obtain⟨v,U,aa⟩:=D7 (P:=C.P) (T:=T) he w
  refine Good.same h (v:=v) ?_ ?_ aa
  ·rw[eqGuard_at_string];exact U
  ·revert he;unfold jI;cases op<;>simp only<;>(try split)<;>simp<;>(try (rintro rfl;rfl))
 ·have:=nc ao;subst this
  have:=nc aT;subst this
  split at he
  ·rename_i al
   simp only[Option.some.injEq]at he;subst he
   obtain⟨i,d,z,aG,aL,a1,b2,cb,bp,bk⟩:=aQ.info (dF al (by simp))
   rw[al]at bk
   have:=u5 bk;subst this
   refine Good.same h ?_ rfl (of_bool _)
   rw[eqGuard_at_bool]
   simp[binOp,Op.equal,Op.maxDepth,yu bp w 9999]
  ·rename_i al
   simp only[Option.some.injEq]at he;subst he
   obtain⟨i,d,z,aG,aL,a1,b2,cb,bp,bk⟩:=aQ.info (dF al (by simp))
   rw[al]at bk
   have:=u5 bk;subst this
   refine Good.same h ?_ rfl (of_bool _)
   rw[eqGuard_at_bool]
   simp[binOp,Op.equal,Op.maxDepth,yu bp w 9999]
  ·cases he
 ·split at he
  ·rename_i ah al
   split at he
   ·rename_i bX
    simp only[Option.map_eq_some_iff]at he
    obtain⟨r,aB,rfl⟩:=he
    obtain⟨aE,aO⟩:=yz aQ al ao aT bX aB .eql q_ ra
    obtain⟨⟨xs,rfl⟩,_⟩:=(ar.bx rfl).1 ao
    obtain⟨⟨ys,rfl⟩,_⟩:=(ar.bx rfl).1 aT
    exact Good.same h (by simp[aE,binOp,aO]) rfl (of_bool _)
   ·cases he
  ·rename_i ah al
   split at he
   ·rename_i bX
    simp only[Option.map_eq_some_iff]at he
    obtain⟨r,aB,rfl⟩:=he
    obtain⟨aE,aO⟩:=yz aQ al ao aT bX aB .neq q_ ra
    obtain⟨⟨xs,rfl⟩,_⟩:=(ar.bx rfl).1 ao
    obtain⟨⟨ys,rfl⟩,_⟩:=(ar.bx rfl).1 aT
    exact Good.same h (by simp[aE,binOp,aO]) rfl (of_bool _)
   ·cases he
  ·cases he
 ·have:=mr aT;subst this
  split at he
  ·rename_i e al
   simp only[Option.map_eq_some_iff]at he
   obtain⟨r,aB,rfl⟩:=he
   obtain⟨i,d,z,aG,aL,a1,b2,cb,bp,bk⟩:=aQ.info (dF al (by simp))
   rw[al]at bk
   have:=hS bk;subst this
   obtain⟨b,U,aa,aw,a0,eM,kC,rfl⟩:=yv h ao aB bp
   refine Good.same h (v:=.bool b) ?_ ?_ ?_
   ·rw[eqGuard_at_slice]
    simp[binOp,U]
   ·cases r<;>rfl
   ·cases r with
    |none=>exact vd b
    |some dr=>have:=aa dr rfl;subst this;simp only[kL,Bool.bne_false];exact of_bool _
  ·rename_i e al
   simp only[Option.map_eq_some_iff]at he
   obtain⟨r,aB,rfl⟩:=he
   obtain⟨i,d,z,aG,aL,a1,b2,cb,bp,bk⟩:=aQ.info (dF al (by simp))
   rw[al]at bk
   have:=hS bk;subst this
   obtain⟨b,U,aa,aw,a0,eM,kC,rfl⟩:=yv h ao aB bp
   refine Good.same h (v:=.bool !b) ?_ ?_ ?_
   ·rw[eqGuard_at_slice]
    simp[binOp,U]
   ·cases r<;>rfl
   ·cases r with
    |none=>exact vd _
    |some dr=>have:=aa dr rfl;subst this;simp only[kL,Bool.bne_true];exact of_bool _
  ·cases he
 ·have:=yo aT;subst this
  split at he
  ·rename_i e al
   simp only[Option.map_eq_some_iff]at he
   obtain⟨r,aB,rfl⟩:=he
   obtain⟨i,d,z,aG,aL,a1,b2,cb,bp,bk⟩:=aQ.info (dF al (by simp))
   rw[al]at bk
   have:=yf bk;subst this
   obtain⟨U,a0,rfl⟩:=yw h ao aB bp
   refine Good.same h (v:=.bool r) ?_ rfl (of_bool _)
   rw[eqGuard_at_pointer]
   simp[binOp,U]
  ·rename_i e al
   simp only[Option.map_eq_some_iff]at he
   obtain⟨r,aB,rfl⟩:=he
   obtain⟨i,d,z,aG,aL,a1,b2,cb,bp,bk⟩:=aQ.info (dF al (by simp))
   rw[al]at bk
   have:=yf bk;subst this
   obtain⟨U,a0,rfl⟩:=yw h ao aB bp
   refine Good.same h (v:=.bool !r) ?_ rfl (of_bool _)
   rw[eqGuard_at_pointer]
   simp[binOp,U]
  ·cases he
 ·cases he
end
section
variable {C:bo} {w0 w:World} {F0 X F:Nat→Prop} {S:Nat→Nat→Prop} {s s1:ag} {ak:Nat→Value} {av:j}
def un (op:UnOp) (x:j):Option j:=
 match op,x with
 | .not,.bool b=>some (.bool !b)
 | .not,.c2=>some .c2
 | .neg,.int k n=>some (.int k (k.wrap (0-n)))
 |_,_=>none
theorem Ee (h:aX w0 F0 X F S s ak w) {op:UnOp} {x:j} {v:Value} (aC:ar w F s ak x v (fun _=>False)) (he:un op x=some av):Good C w0 F0 X ak w (Op.unary op v) av s:=by
 unfold un at he
 split at he<;>first|(cases he;done)|(simp only[Option.some.injEq]at he;subst he)
 ·have:=nc aC;subst this
  exact Good.same h rfl rfl (of_bool _)
 ·obtain⟨b,rfl⟩:=yp aC
  exact Good.same h rfl rfl (vd _)
 ·have:=j1 aC;subst this
  exact Good.same h rfl rfl (of_int _ _)
def eH (s:ag) (x:j):Option j:=
 match x with
 | .ref d=>some (.ref d)
 | .fn f c=>some (.fn f c)
 | .h y q=>match j.sub q (s y)with
   |some (.bm _)=>some (.h y q)
   |_=>none
 |_=>none
theorem Ef {d:j} {v:Value} {az:Nat→Prop} (h:ar w F s ak (.ref d) v az):∃b o cO,v= .pointer (some ⟨b,o,none⟩)∧F b∧e8 w b o cO∧ai w F d cO (fun _=>False):=by
 have a2:=(ar.bx rfl).1 h
 rw[ai,ek a2.1]at a2
 obtain⟨_,b,o,cO,U,aa,aw,aN⟩:=a2
 simp at U;subst U
 exact⟨b,o,cO,rfl,aa,aw,aN⟩
theorem Eg (h:aX w0 F0 X F S s ak w) {x:j} {v:Value} (aC:ar w F s ak x v (fun _=>False)) (he:eH s x=some av):
  av=x∧x.plain=true∧((∃a,v= .pointer (some a))∨∃f c,v= .func (.func f) #[] c):=by
 unfold eH at he
 split at he
 ·simp only[Option.some.injEq]at he;subst he
  obtain⟨b,o,cO,rfl,_⟩:=Ef aC
  exact⟨rfl,rfl,.inl ⟨_,rfl⟩⟩
 ·simp only[Option.some.injEq]at he;subst he
  rw[ar]at aC
  obtain⟨arr,rfl,_⟩:=aC
  exact⟨rfl,rfl,.inr ⟨_,_,rfl⟩⟩
 ·split at he
  ·rename_i d ab
   simp only[Option.some.injEq]at he;subst he
   obtain⟨b,cur,e,fr,rfl,_⟩:=yq h aC ab
   exact⟨rfl,rfl,.inl ⟨_,rfl⟩⟩
  ·cases he
 ·cases he
def ex (s:ag) (x:j) (k:Nat):Option j:=
 match x with
 | .tuple ds=>match ds[k]? with
   |some d=>if d.plain=true then some d else none
   |none=>none
 | .h y q=>match j.sub q (s y)with
   |some (.tuple ds)=>match ds[k]? with
    |some d=>if j.dE ds=true then none else some (if d.plain then d else .h y (q++[k]))
    |none=>none
   |_=>none
 |_=>none
theorem yA:∀(vs:List Value) (k:Nat) (x:Value) (ds:List j),vs[k]? =some x→vs.length=ds.length→(∀(ad:Nat) (d:j) (y:Value),ds[ad]? =some d→vs[ad]? =some y→(e_ y).length=d.wd)→
  ∃l r,vs.flatMap e_=l++(e_ x++r)∧l.length=j.cF (ds.take k)
 |[],k,x,ds,h,_,_=>by simp at h
 |v::vs,0,x,ds,h,hl,hw=>by
  simp at h;subst h
  exact⟨[],vs.flatMap e_,by simp,by simp[j.cF]⟩
 |v::vs,k+1,x,d::ds,h,hl,hw=>by
  obtain⟨l,r,aG,aL⟩:=yA vs k x ds (by simpa using h) (by simpa using hl) (fun ad d y U aa=>hw (ad+1) d y (by simpa using U) (by simpa using aa))
  refine⟨e_ v++l,r,by simp[aG],?_⟩
  have:=hw 0 d v (by simp) (by simp)
  simp[j.cF,aL,this]
 |v::vs,k+1,x,[],h,hl,hw=>by simp at hl
theorem Eh {d:j} {v:Value} (h:fp d v) (_hd:∀vs,d≠.tuple vs):ba v=e_ v:=by
 cases d with
 |agg ah=>obtain⟨arr,rfl⟩:=h;rfl
 |_=>
  have U:Value.dZ v=true:=h
  cases v<;>first|rfl|(simp[Value.dZ]at U)
theorem Ei {d:j} {v:Value} (h:fp d v) (ab:∀vs,d≠.tuple vs):ct d v:=by
 cases d with
 |tuple vs=>exact(ab _ rfl).elim
 |_=>exact h
theorem Ej (h:aX w0 F0 X F S s ak w) {x:j} {v:Value} {k:Nat} (aC:ar w F s ak x v (fun _=>False)) (he:ex s x k=some av):Good C w0 F0 X ak w (Instr.extract v k) av s:=by
 have pick:∀(ds:List j) (d:j) (arr:Array Value),ds[k]? =some d→(arr.size=ds.length∧∀(k:Nat) (d:j) (x:Value),ds[k]? =some d→arr[k]? =some x→fp d x∧(∀vs,d≠.tuple vs)∧(e_ x).length=d.wd)→
   ∃x,arr[k]? =some x∧ct d x∧((ba (.tuple arr)).drop (j.cF (ds.take k))).take d.wd=ba x:=by
  intro ds d arr ab ⟨bf,jX⟩
  have cC:k<arr.size:=by rw[bf];exact(List.getElem?_eq_some_iff.1 ab).1
  have ao:arr[k]? =some arr[k]:=Array.getElem?_eq_getElem cC
  obtain⟨aE,aO,bg⟩:=jX k d _ ab ao
  obtain⟨l,r,aG,aL⟩:=yA arr.toList k arr[k] ds (by simp[cC]) (by simpa using bf) (fun ad d y U aa=>(jX ad d y U (by simpa using aa)).2.2)
  refine⟨_,ao,Ei aE aO,?_⟩
  rw[Eh aE aO]
  simp only[ba]
  rw[aG]
  exact nY l _ r _ _ aL bg
 unfold ex at he
 split at he
 ·rename_i ds
  split at he
  ·rename_i d ab
   split at he
   ·rename_i an
    simp only[Option.some.injEq]at he;subst he
    have a2:=(ar.bx rfl).1 aC
    obtain⟨⟨arr,rfl,bf⟩,dP⟩:=a2
    obtain⟨x,ao,R,ae⟩:=pick ds d arr ab bf
    have aB:(Instr.extract (.tuple arr) k).run C.P w= .ok x w:=by simp[Instr.extract,ao]
    rw[ai]at dP
    obtain⟨bB,dB,bF,bj,e9,e,e1,dD,eK,fo,dK,iG⟩:=aJ.pick ds _ _ k d dP ab
    rw[e,nY bB dB bF _ _ e1 (ai.length _ _ _ dK)]at ae
    by_cases aM:d.tree=true
    ·exact Good.same h aB an ((ar.bx aM).2 ⟨R,by rw[←ae];exact ai.plain _ _ _ _ an dK⟩)
    ·cases d<;>first|exact(aM rfl).elim|(rw[ai]at dK;exact dK.elim)|exact Good.same h aB rfl (by rw[ar];trivial)|(have a8:=ai.plain _ _ _ (fun _=>False) an dK;rw[ae,ek (by exact R)]at a8;exact Good.same h aB rfl (ar.ly _ _ rfl a8))
   ·cases he
  ·cases he
 ·rename_i y q
  split at he
  ·rename_i ds ab
   split at he
   ·rename_i d al
    split at he
    ·cases he
    ·rename_i eE
     simp only[Option.some.injEq]at he
     have eE:(j.tuple ds).plain=false:=by simpa [j.plain]using eE
     rw[ar]at aC
     obtain⟨bG,a,aE,aO,bg⟩:=aC _ ab eE
     obtain⟨arr,rfl,bf⟩:=bg
     obtain⟨x,ao,R,ae⟩:=pick ds d arr al bf
     have aB:(Instr.extract (.tuple arr) k).run C.P w= .ok x w:=by simp[Instr.extract,ao]
     have aT:=h.b5 y
     rw[ar.bx (fa ab (.inl eE))]at aT
     obtain⟨dC,bM,cI,df,k0,bb,bq,cD,b1,cZ⟩:=ctx q (s y) (ba (ak y)) (S y) none _ aT.2 ab
     rw[k0]at aE
     simp only[Option.some.injEq,Prod.mk.injEq,true_and]at aE
     obtain⟨rfl,rfl⟩:=aE
     rw[aO]at ae
     split at he
     ·rename_i an
      subst he
      rw[ai]at b1
      obtain⟨bB,dB,bF,bj,e9,e,e1,dD,eK,fo,dK,iG⟩:=aJ.pick ds _ _ k d b1 al
      rw[e,nY bB dB bF _ _ e1 (ai.length _ _ _ dK)]at ae
      by_cases aM:d.tree=true
      ·exact Good.same h aB an ((ar.bx aM).2 ⟨R,by rw[←ae];exact ai.plain _ _ _ _ an dK⟩)
      ·cases d<;>first|exact(aM rfl).elim|(rw[ai]at dK;exact dK.elim)|exact Good.same h aB rfl (by rw[ar];trivial)|(have a8:=ai.plain _ _ _ (fun _=>False) an dK;rw[ae,ek (by exact R)]at a8;exact Good.same h aB rfl (ar.ly _ _ rfl a8))
     ·subst he
      refine Good.same h aB rfl ?_
      rw[ar]
      intro d2 fg qZ
      rw[q2 w q _ _ _ _ _ _ [k] k0]
      rw[q1 _ _ _ _ ab]at fg
      simp only[j.sub,al,Option.some.injEq]at fg
      subst fg
      simp only[b0,al]
      exact⟨_,_,rfl,ae.symm,R⟩
   ·cases he
  ·cases he
 ·cases he
def iN (C:bo) (s:ag) (T:TypeId) (x:j) (k:Nat):Option j:=
 match(C.T T).k with
 | .struct ah=>match ah[k]? with
   |some (gD,off)=>match x with
    | .agg ds=>match ds[k]? with
      |some d=>if j.cF (ds.take k)=off∧fits C gD d=true∧d.plain=true∧d.tree=true then some d else none
      |none=>none
    | .h y q=>match j.sub q (s y)with
      |some (.agg ds)=>match ds[k]? with
       |some d=>if j.cF (ds.take k)=off∧fits C gD d=true∧j.dE ds=false∧d.tree=true then some (if d.plain then d else .h y (q++[k]))else none
       |none=>none
      |_=>none
    |_=>none
   |none=>none
 |_=>none
theorem Ek (aQ:C.c5) (h:aX w0 F0 X F S s ak w) {T:TypeId} {x:j} {v:Value} {k:Nat} (aC:ar w F s ak x v (fun _=>False)) (he:iN C s T x k=some av):Good C w0 F0 X ak w (Instr.field T v k) av s:=by
 have key:∀(ah:List (TypeId×Nat)) (gD:TypeId) (off:Nat),(C.T T).k= .struct ah→ah[k]? =some (gD,off)→∀(ds:List j) (d:j) (arr:Array Value) (az:Nat→Prop),ds[k]? =some d→j.cF (ds.take k)=off→fits C gD d=true→aJ w F ds arr.toList az→
   ∃x e9,(Instr.field T (.agg arr) k).run C.P w= .ok x w∧ct d x∧ai w F d (ba x) e9∧(arr.toList.drop off).take d.wd=ba x:=by
  intro ah gD off al bc ds d arr az ab lx fh dP
  obtain⟨i,q9,z,aG,aL,a1,b2,cb,bp,bk⟩:=aQ.info (dF al (by simp))
  rw[al]at bk
  obtain⟨gs,rfl,ie⟩:=q3 bk
  obtain⟨g,aE,rfl,rfl⟩:∃g,gs[k]? =some g∧g.type=gD∧g.offset=off:=by
   rw[←ie,List.getElem?_map]at bc
   simp only[Option.map_eq_some_iff,Prod.mk.injEq]at bc
   obtain⟨g,U,aa,aw⟩:=bc
   exact⟨g,by simpa using U,aa,aw⟩
  obtain⟨bB,dB,bF,bj,e9,e,e1,dD,eK,fo,dK,iG⟩:=aJ.pick ds _ _ k d dP ab
  obtain⟨x,aB,yB,je⟩:=DV (w:=w) aQ e (e1.trans lx) dK fh
  refine⟨x,e9,?_,je,by rw[yB];exact dK,?_⟩
  ·simp[Instr.field,run_underlying bp,aE,asAgg,aB]
  ·rw[e,yB,←lx];exact nY bB dB bF _ _ e1 (ai.length _ _ _ dK)
 have yC:∀(d:j) (x:Value) (e9:Nat→Prop),d.plain=true→ct d x→ai w F d (ba x) e9→ar w F s ak d x (fun _=>False):=by
  intro d x e9 an R dP
  by_cases aM:d.tree=true
  ·exact(ar.bx aM).2 ⟨R,ai.plain _ _ _ _ an dP⟩
  ·cases d<;>first|exact(aM rfl).elim|(rw[ai]at dP;exact dP.elim)|(rw[ar];trivial)|(have a8:=ai.plain _ _ _ (fun _=>False) an dP;rw[ek (by exact R)]at a8;exact ar.ly _ _ rfl a8)
 unfold iN at he
 split at he
 ·rename_i ah al
  split at he
  ·rename_i gD off bc
   split at he
   ·rename_i ds
    split at he
    ·rename_i d ab
     split at he
     ·rename_i ae
      simp only[Option.some.injEq]at he;subst he
      obtain⟨⟨arr,rfl⟩,dP⟩:=(ar.bx rfl).1 aC
      rw[ai]at dP
      obtain⟨x,e9,aB,R,vh,_⟩:=key ah gD off al bc ds d arr _ ab ae.1 ae.2.1 dP
      exact Good.same h aB ae.2.2.1 (yC d x e9 ae.2.2.1 R vh)
     ·cases he
    ·cases he
   ·rename_i y q
    split at he
    ·rename_i ds ab
     split at he
     ·rename_i d m9
      split at he
      ·rename_i ae
       simp only[Option.some.injEq]at he
       have eE:(j.agg ds).plain=false:=by simpa [j.plain]using ae.2.2.1
       rw[ar]at aC
       obtain⟨bG,a,aE,aO,bg⟩:=aC _ ab eE
       obtain⟨arr,rfl⟩:=bg
       have aT:=h.b5 y
       rw[ar.bx (fa ab (.inl eE))]at aT
       obtain⟨dC,bM,cI,df,k0,bb,bq,cD,b1,cZ⟩:=ctx q (s y) (ba (ak y)) (S y) none _ aT.2 ab
       rw[k0]at aE
       simp only[Option.some.injEq,Prod.mk.injEq,true_and]at aE
       obtain⟨rfl,rfl⟩:=aE
       rw[ai,←aO]at b1
       obtain⟨x,e9,aB,R,vh,eQ⟩:=key ah gD off al bc ds d arr _ m9 ae.1 ae.2.1 b1
       by_cases an:d.plain=true
       ·rw[if_pos an]at he;subst he
        exact Good.same h aB an (yC d x e9 an R vh)
       ·rw[if_neg an]at he;subst he
        refine Good.same h aB rfl ?_
        rw[ar]
        intro d2 fg qZ
        rw[q2 w q _ _ _ _ _ _ [k] k0]
        rw[q1 _ _ _ _ ab]at fg
        simp only[j.sub,m9,Option.some.injEq]at fg
        subst fg
        simp only[b0,m9]
        refine⟨_,_,rfl,?_,R⟩
        rw[ae.1,←aO];exact eQ.symm
      ·cases he
     ·cases he
    ·cases he
   ·cases he
  ·cases he
 ·cases he
end
section
variable {C:bo} {w0 w:World} {F0 X F:Nat→Prop} {S:Nat→Nat→Prop} {s s1:ag} {ak:Nat→Value} {av:j}
def idx (C:bo) (T:TypeId) (x i:j):Option j:=
 match(C.T T).k,x,i with
 | .str,.str l,.int _ n=>if 0≤n then(match l[n.toNat]? with|some b=>some (.int .u8 b.toNat)|none=>none)else none
 |_,_,_=>none
theorem El (l:List UInt8) (n:Nat):(⟨⟨l⟩⟩:ByteArray)[n]? =l[n]? :=by
 by_cases h:n<l.length
 ·have a2:n<(⟨⟨l⟩⟩:ByteArray).size:=h
  rw[List.getElem?_eq_getElem h,getElem?_pos (⟨⟨l⟩⟩:ByteArray) n a2]
  rfl
 ·have a2:¬n<(⟨⟨l⟩⟩:ByteArray).size:=h
  rw[List.getElem?_eq_none (by omega),getElem?_neg (⟨⟨l⟩⟩:ByteArray) n a2]
theorem Em (aQ:C.c5) (h:aX w0 F0 X F S s ak w) {T:TypeId} {x i:j} {v jZ:Value} (aC:ar w F s ak x v (fun _=>False)) (ay:ar w F s ak i jZ (fun _=>False)) (he:idx C T x i=some av):
  Good C w0 F0 X ak w (Instr.index T v jZ) av s:=by
 unfold idx at he
 split at he
 ·rename_i l k n al
  have:=jg aC;subst this
  have:=j1 ay;subst this
  obtain⟨i,d,z,aG,aL,a1,b2,cb,bp,bk⟩:=aQ.info (dF al (by simp))
  rw[al]at bk
  have:=lv bk;subst this
  split at he
  ·rename_i aR
   split at he
   ·rename_i b I
    simp only[Option.some.injEq]at he;subst he
    refine Good.same h ?_ rfl (of_int _ _)
    simp[Instr.index,asIntOf,run_underlying bp,aR,El,I]
   ·cases he
  ·cases he
 ·cases he
def lenOf (s:ag):j→Option Nat
 | .str l=>some l.length
 | .bt=>some 0
 | .slice xs=>some xs.length
 | .h y q=>match j.sub q (s y)with
   |some (.aH _ xs)=>some xs.length
   |_=>none
 |_=>none
def iO (C:bo) (s:ag) (T:TypeId) (x:j):Option j:=
 match(C.T T).k,x with
 | .str,.str l=>some (.int .i64 l.length)
 | .slice _,.bt=>some (.int .i64 0)
 | .slice _,.slice xs=>some (.int .i64 xs.length)
 | .slice _,.h y q=>match j.sub q (s y)with
   |some (.aH _ xs)=>some (.int .i64 xs.length)
   |_=>none
 |_,_=>none
theorem s0 {xs:List j} {v:Value} {az:Nat→Prop} (h:ar w F s ak (.slice xs) v az):(xs=[]∧∃a c,v= .slice a 0 c∧c≤maxLen∧(a=none→c=0))∨
  ∃b o cap cO sz,v= .slice (some ⟨b,o,none⟩) xs.length cap∧F b∧xs.length≤cap∧cap≤maxLen∧(∀d∈xs,d.wd=sz)∧e8 w b o cO∧aJ w F xs cO (fun _=>False):=by
 have a2:=(ar.bx rfl).1 h
 rw[ai,ek a2.1]at a2
 obtain⟨_,⟨rfl,a,c,aa,aw⟩|⟨b,o,cap,cO,sz,aa,aw⟩⟩:=a2
 ·simp at aa;exact .inl ⟨rfl,a,c,aa,aw⟩
 ·simp at aa;exact .inr ⟨b,o,cap,cO,sz,aa,aw⟩
theorem En (aQ:C.c5) (h:aX w0 F0 X F S s ak w) {T ty:TypeId} {x:j} {v:Value} (aC:ar w F s ak x v (fun _=>False)) (he:iO C s T x=some av):
  Good C w0 F0 X ak w (Builtin.len_ #[T] ty #[v]) av s:=by
 unfold iO at he
 split at he
 ·rename_i l al
  have:=jg aC;subst this
  obtain⟨i,d,z,aG,aL,a1,b2,cb,bp,bk⟩:=aQ.info (dF al (by simp))
  rw[al]at bk
  have:=lv bk;subst this
  simp only[Option.some.injEq]at he;subst he
  refine Good.same h ?_ rfl (of_int _ _)
  simp[Builtin.len_,run_underlying bp,goInt]
  rfl
 ·rename_i e al
  have:=mr aC;subst this
  obtain⟨i,d,z,aG,aL,a1,b2,cb,bp,bk⟩:=aQ.info (dF al (by simp))
  rw[al]at bk
  have:=hS bk;subst this
  simp only[Option.some.injEq]at he;subst he
  refine Good.same h ?_ rfl (of_int _ _)
  simp[Builtin.len_,run_underlying bp,goInt]
 ·rename_i e xs al
  obtain⟨i,d,z,aG,aL,a1,b2,cb,bp,bk⟩:=aQ.info (dF al (by simp))
  rw[al]at bk
  have:=hS bk;subst this
  simp only[Option.some.injEq]at he;subst he
  refine Good.same h ?_ rfl (of_int _ _)
  rcases s0 aC with⟨rfl,a,c,rfl,_⟩|⟨b,o,cap,cO,sz,rfl,_⟩<;>simp[Builtin.len_,run_underlying bp,goInt]
 ·rename_i e y q al
  split at he
  ·rename_i sz xs ab
   obtain⟨i,d,z,aG,aL,a1,b2,cb,bp,bk⟩:=aQ.info (dF al (by simp))
   rw[al]at bk
   have:=hS bk;subst this
   simp only[Option.some.injEq]at he;subst he
   refine Good.same h ?_ rfl (of_int _ _)
   rcases ve h aC ab with⟨rfl,_,rfl⟩|⟨b,cap,cur,aL,fr,rfl,_⟩<;>simp[Builtin.len_,run_underlying bp,goInt]
  ·cases he
 ·cases he
def bytesOf:List j→Option (List UInt8)
 |[]=>some []
 | .int .u8 n::r=>if 0≤n∧n<256 then(bytesOf r).map (UInt8.ofNat n.toNat::·)else none
 |_=>none
def ha (b:UInt8):j:=.int .u8 b.toNat
theorem Eo (l:List UInt8):bytesOf (l.map ha)=some l:=by
 induction l with
 |nil=>rfl
 |cons b l ih=>
  have I:b.toNat<256:=b.toNat_lt
  simp only[List.map_cons,ha,bytesOf,Int.toNat_natCast]
  rw[if_pos (by omega),ih]
  simp
theorem vi:∀(xs:List j) (l:List UInt8) (cs:List Value) (az:Nat→Prop),bytesOf xs=some l→aJ w F xs cs az→cs=l.map (fun b=>.int .u8 (b.toNat:Int))∧xs.length=l.length
 |[],l,cs,az,h,aB=>by simp[bytesOf]at h;subst h;rw[aJ]at aB;subst aB;exact⟨rfl,rfl⟩
 |x::xs,l,cs,az,h,aB=>by
  unfold bytesOf at h
  split at h
  ·rename_i e;cases e
  ·rename_i n r e
   simp only[List.cons.injEq]at e
   obtain⟨rfl,rfl⟩:=e
   split at h
   ·rename_i aR
    simp only[Option.map_eq_some_iff]at h
    obtain⟨cM,U,rfl⟩:=h
    rw[aJ]at aB
    obtain⟨bB,bF,bj,ch,rfl,aa,aw,_⟩:=aB
    obtain⟨rfl,aN⟩:=vi xs cM bF ch U aw
    rw[ai]at aa;subst aa
    refine⟨?_,by simp[aN]⟩
    simp only[List.map_cons,List.cons_append,List.nil_append,List.cons.injEq,and_true,Value.int.injEq,true_and]
    simp only[UInt8.toNat_ofNat']
    omega
   ·cases h
  ·cases h
theorem aX.re (h:aX w0 F0 X F S s ak w) {aq:World} {sz cap:Nat} {xs:List j} {cur:Array Value} {e:TypeId} {fr:Nat×Nat} {Sn:Nat→Prop}
  (hw:aq.heap=w.heap.push (.cells cur e fr)) (U:aq.os=w.os) (aa:aq.tape=w.tape) (aw:Out aq w)
  (bc:hM fr (cur.size+(sz-1))) (hle:xs.length≤cap) (hm:cap≤maxLen) (cm:cur.size=cap*sz) (g9:∀d∈xs,d.wd=sz) (aC:aJ w F xs (cur.toList.take (xs.length*sz)) Sn)
  (cC:∀b,Sn b→b<w.heap.size) (aS:∀b,Sn b→¬F b) (a_:∀u b,Sn b→¬S u b) (bu:∀b,Sn b→X b∨w0.heap.size≤b):
  aX w0 F0 X F S s ak aq∧hQ w0 X F S s ak aq (.aH sz xs) (.slice (some ⟨w.heap.size,0,none⟩) xs.length cap):=by
 have hold:∀b,b<w.heap.size→aq.heap[b]? =w.heap[b]? :=by
  intro b I
  rw[hw,Array.getElem?_push,if_neg (by omega)]
 have Rq:aq.heap.size=w.heap.size+1:=by rw[hw];simp
 refine⟨h.grow hold (by omega) U aa aw,.inr ⟨rfl,rfl,fun b=>b=w.heap.size∨Sn b,?_,?_,?_,?_,?_⟩⟩
 ·simp only[ba,e_]
  rw[ai]
  refine .inr ⟨w.heap.size,cap,cur,e,fr,Sn,rfl,.inl rfl,?_,bc,hle,hm,cm,g9,?_,fun c ae=>.inr ae,fun ae=>Nat.lt_irrefl _ (cC _ ae)⟩
  ·rw[hw];simp
  ·exact aJ.frame (fun b I=>hold b (h.db b I)) _ _ _ (fun b I=>hold b (cC b I)) aC
 ·rintro b (rfl|I)
  ·omega
  ·have:=cC b I;omega
 ·rintro b (rfl|I) mq
  ·exact Nat.lt_irrefl _ (h.db _ mq)
  ·exact aS b I mq
 ·rintro u b (rfl|I) hu
  ·exact Nat.lt_irrefl _ (h.cT _ _ hu)
  ·exact a_ u b I hu
 ·rintro b (rfl|I)
  ·exact .inr h.size
  ·exact bu b I
def dH (C:bo) (s:ag) (A B:TypeId) (x:j):Option j:=
 if(C.T A).ok=true then
 match(C.T B).k,x with
 | .int k,.int _ n=>some (.int k (k.wrap n))
 | .str,.str l=>match(C.T A).k with
   | .str=>some (.str l)
   |_=>none
 | .str,x=>match(C.T A).k with
   | .slice e=>match(C.T e).k with
     | .int .u8=>match x with
       | .bt=>some (.str [])
       | .slice xs=>(bytesOf xs).map .str
       | .h y q=>match j.sub q (s y)with
         |some (.aH 1 xs)=>(bytesOf xs).map .str
         |_=>none
       |_=>none
     |_=>none
   |_=>none
 | .slice e,.str l=>match(C.T A).k,(C.T e).k with
   | .str,.int .u8=>if l.length≤9223372036854775807 then some (.aH 1 (l.map ha))else none
   |_,_=>none
 |_,_=>none
 else none
theorem yD (l:List UInt8) (az:Nat→Prop):aJ w F (l.map ha) (l.map fun b=>.int .u8 (b.toNat:Int)) az:=by
 induction l generalizing az with
 |nil=>simp only[List.map_nil];rw[aJ]
 |cons b l ih=>
  simp only[List.map_cons]
  rw[aJ]
  exact⟨[.int .u8 (b.toNat:Int)],_,fun _=>False,fun _=>False,rfl,by rw[ha,ai],ih _,fun _ h=>h.elim,fun _ h=>h.elim,fun _ h=>h.elim⟩
theorem Ep (aQ:C.c5) (h:aX w0 F0 X F S s ak w) {A B:TypeId} {x:j} {v:Value} (aC:ar w F s ak x v (fun _=>False)) (he:dH C s A B x=some av):
  Good C w0 F0 X ak w (convert A B v) av s:=by
 unfold dH at he
 split at he
 ·rename_i fR
  obtain⟨dx,Rr,Rs,aA,cn,a3,a4,rf,lA,lB⟩:=aQ.info fR
  split at he
  ·rename_i k b3 n al
   have:=j1 aC;subst this
   obtain⟨i,d,z,aG,aL,a1,b2,cb,bp,bk⟩:=aQ.info (dF al (by simp))
   rw[al]at bk
   have:=q4 bk;subst this
   simp only[Option.some.injEq]at he;subst he
   refine Good.same h ?_ rfl (of_int _ _)
   simp[convert,run_underlying lA,run_underlying bp,Conv.intToInt]
  ·rename_i l al
   have:=jg aC;subst this
   obtain⟨i,d,z,aG,aL,a1,b2,cb,bp,bk⟩:=aQ.info (dF al (by simp))
   rw[al]at bk
   have:=lv bk;subst this
   split at he
   ·rename_i rh
    rw[rh]at lB
    have:=lv lB;subst this
    simp only[Option.some.injEq]at he;subst he
    refine Good.same h ?_ rfl (kK _)
    simp[convert,run_underlying lA,run_underlying bp]
   ·cases he
  ·rename_i x al _
   obtain⟨i,d,z,aG,aL,a1,b2,cb,bp,bk⟩:=aQ.info (dF al (by simp))
   rw[al]at bk
   have:=lv bk;subst this
   split at he
   ·rename_i e rh
    rw[rh]at lB
    have:=hS lB;subst this
    split at he
    ·rename_i ri
     obtain⟨ml,aV,mm,f1,f2,f3,f4,f5,f6,f7⟩:=aQ.info (dF ri (by simp))
     rw[ri]at f7
     have:=q4 f7;subst this
     have fin:∀(l:List UInt8) (b o cap:Nat),e8 w b o (l.map fun b=>.int .u8 (b.toNat:Int))→(convert A B (.slice (some ⟨b,o,none⟩) l.length cap)).run C.P w= .ok (.string ⟨⟨l⟩⟩) w:=by
      intro l b o cap gK
      refine run_convert_bytes_back w A B e ⟨b,o,none⟩ cap l lA f6 bp (fun ad aU=> ?_)
      rw[Addr.add_lit]
      exact gK ad _ (by simp[aU])
     have nil:(convert A B (.slice none 0 0)).run C.P w= .ok (.string ⟨⟨[]⟩⟩) w:=by
      simp[convert,run_underlying lA,run_underlying bp,run_underlying f6,Conv.bytesToString]
      rfl
     split at he
     ·have:=mr aC;subst this
      simp only[Option.some.injEq]at he;subst he
      exact Good.same h nil rfl (kK _)
     ·rename_i xs _
      simp only[Option.map_eq_some_iff]at he
      obtain⟨l,hl,rfl⟩:=he
      rcases s0 aC with⟨rfl,a,c,rfl,_,ob⟩|⟨b,o,cap,cO,sz,rfl,U,aa,aw,aN,a8,bI⟩
      ·simp[bytesOf]at hl;subst hl
       cases a with
       |none=>
        have:=ob rfl;subst this
        exact Good.same h nil rfl (kK _)
       |some a=>
        refine Good.same h ?_ rfl (kK _)
        exact run_convert_bytes_back w A B e a c [] lA f6 bp (fun ad aU=>by simp at aU)
      ·obtain⟨rfl,bO⟩:=vi xs l cO _ hl bI
       rw[bO]
       exact Good.same h (fin l b o cap a8) rfl (kK _)
     ·rename_i y q
      split at he
      ·rename_i xs ab
       simp only[Option.map_eq_some_iff]at he
       obtain⟨l,hl,rfl⟩:=he
       rcases ve h aC ab with⟨rfl,a,rfl⟩|⟨b,cap,cur,aL,fr,rfl,U,aa,aw,aN,a8,bI,az,bO,_⟩
       ·simp[bytesOf]at hl;subst hl
        cases a with
        |none=>exact Good.same h nil rfl (kK _)
        |some a=>
         refine Good.same h ?_ rfl (kK _)
         exact run_convert_bytes_back w A B e a 0 [] lA f6 bp (fun ad aU=>by simp at aU)
       ·obtain⟨di,eY⟩:=vi xs l _ _ hl bO
        rw[eY]
        refine Good.same h (fin l b 0 cap ?_) rfl (kK _)
        rw[←di]
        exact pg U _
      ·cases he
     ·cases he
    ·cases he
   ·cases he
  ·rename_i e l al
   have:=jg aC;subst this
   obtain⟨i,d,z,aG,aL,a1,b2,cb,bp,bk⟩:=aQ.info (dF al (by simp))
   rw[al]at bk
   have:=hS bk;subst this
   split at he
   ·rename_i rh ri
    rw[rh]at lB
    have:=lv lB;subst this
    obtain⟨ml,aV,mm,f1,f2,f3,f4,f5,f6,f7⟩:=aQ.info (dF ri (by simp))
    rw[ri]at f7
    have:=q4 f7;subst this
    split at he
    ·rename_i hl
     simp only[Option.some.injEq]at he;subst he
     have R:(⟨⟨l⟩⟩:ByteArray).size=l.length:=rfl
     have rj:=grownCap_ge w l.length 0 e
     have Er:=grownCap_le_maxLen w l.length 0 e (by unfold maxLen;omega)
     have yE:(bytesRow ⟨⟨l⟩⟩ (grownCap w l.length 0 e)).toList=l.map (fun b=>Value.int .u8 (b.toNat:Int))++List.replicate (grownCap w l.length 0 e-l.length) (.int .u8 0):=by
      simp[bytesRow,R]
     have cm:(bytesRow ⟨⟨l⟩⟩ (grownCap w l.length 0 e)).size=grownCap w l.length 0 e*1:=by
      have:(bytesRow ⟨⟨l⟩⟩ (grownCap w l.length 0 e)).size=(bytesRow ⟨⟨l⟩⟩ (grownCap w l.length 0 e)).toList.length:=by simp
      rw[this,yE];simp;omega
     have j0:=run_bytes_of_string w A B e ⟨⟨l⟩⟩ lA bp f6
     rw[R]at j0
     have hv:=h.re (aq:=w.drew.alloc (.cells (bytesRow ⟨⟨l⟩⟩ (grownCap w l.length 0 e)) e ((bytesRow ⟨⟨l⟩⟩ (grownCap w l.length 0 e)).size,(bytesRow ⟨⟨l⟩⟩ (grownCap w l.length 0 e)).size+1)))
      (sz:=1) (cap:=grownCap w l.length 0 e) (xs:=l.map ha) (cur:=bytesRow ⟨⟨l⟩⟩ (grownCap w l.length 0 e)) (e:=e) (Sn:=fun _=>False) rfl rfl rfl ⟨rfl,fun _=>Nat.le_succ _⟩
      (fun o bs ⟨U,_⟩=>by simp only at U;omega) (by simpa using rj) Er cm (by intro d ab;obtain⟨b,_,rfl⟩:=List.mem_map.1 ab;rfl)
      (by rw[yE,List.take_left' (by simp)];exact yD l _) (fun _ h=>h.elim) (fun _ h=>h.elim) (fun _ _ h=>h.elim) (fun _ h=>h.elim)
     simp only[List.length_map]at hv
     exact⟨_,_,F,S,j0,hv.1,hv.2⟩
    ·cases he
   ·cases he
  ·cases he
 ·cases he
end
section
variable {C:bo} {w0 w:World} {F0 X F:Nat→Prop} {S:Nat→Nat→Prop} {s s1:ag} {ak:Nat→Value} {av:j}
def fB (d:Nat):Option j→Option Nat
 |none=>some d
 |some (.int _ n)=>if 0≤n then some n.toNat else none
 |some _=>none
def de (C:bo) (s:ag) (T:TypeId) (x:j) (bC ay:Option j):Option (j×ag):=
 match(C.T T).k,x with
 | .str,.str l=>match fB 0 bC,fB l.length ay with
   |some a,some b=>if a≤b∧b≤l.length then some (.str ((l.take b).drop a),s)else none
   |_,_=>none
 | .slice e,.bt=>match fB 0 bC,fB 0 ay with
   |some 0,some 0=>if(C.T e).ok=true then some (.bt,s)else none
   |_,_=>none
 | .slice e,.slice xs=>match fB 0 bC,fB xs.length ay with
   |some a,some b=>if a≤b∧b≤xs.length∧(C.T e).ok=true∧(∀d∈xs,d.wd=(C.T e).sz)then some (.slice ((xs.take b).drop a),s)else none
   |_,_=>none
 | .slice e,.h y q=>match j.sub q (s y)with
   |some (.aH sz xs)=>match fB 0 bC,fB xs.length ay with
    |some 0,some b=>if b≤xs.length∧(C.T e).ok=true then(match bK s (.h y q)with|some (_,s1)=>some (.aH sz (xs.take b),s1)|none=>none)else none
    |_,_=>none
   |_=>none
 |_,_=>none
def mu (w:World) (F:Nat→Prop) (s:ag) (ak:Nat→Value):Option j→Option Value→Prop
 |none,none=>True
 |some d,some v=>ar w F s ak d v (fun _=>False)
 |_,_=>False
theorem yF {d:Nat} {o:Option j} {v:Option Value} (bs:mu w F s ak o v) {a:Nat} (h:fB d o=some a):(o=none∧v=none∧a=d)∨∃k,v=some (.int k a):=by
 cases o with
 |none=>
  cases v with
  |none=>simp[fB]at h;exact .inl ⟨rfl,rfl,h.symm⟩
  |some v=>simp[mu]at bs
 |some x=>
  cases v with
  |none=>simp[mu]at bs
  |some v=>
   simp only[mu]at bs
   cases x with
   |int k n=>
    have:=j1 bs;subst this
    simp only[fB]at h
    split at h
    ·rename_i aR
     simp only[Option.some.injEq]at h;subst h
     obtain⟨m,rfl⟩:=Int.eq_ofNat_of_zero_le aR
     exact .inr ⟨k,rfl⟩
    ·cases h
   |_=>simp[fB]at h
theorem pr {P:Program} {isS:Bool} {len cap a b:Nat} {bC ay:Option j} {od oe:Option Value} (hX:mu w F s ak bC od) (hY:mu w F s ak ay oe) (bN:fB 0 bC=some a) (I:fB len ay=some b) (fC:a≤b) (Es:b≤cap) (_hlc:len≤cap):
  (Instr.sliceBounds isS len cap od oe none).run P w= .ok (a,b,cap) w:=by
 rcases yF hX bN with⟨_,rfl,rfl⟩|⟨k,rfl⟩<;>rcases yF hY I with⟨_,rfl,rfl⟩|⟨b3,rfl⟩<;>
  simp[Instr.sliceBounds,Instr.sliceBound,asIntOf,fC,Es]
theorem pt (aQ:C.c5) {T:TypeId} (al:(C.T T).flat=true) (v:Value) (bC ay e7:Option Value) (w:World):(Instr.sliceAt T v bC ay e7).run C.P w=(Instr.slice T v bC ay e7).run C.P w:=by
 obtain⟨i,d,z,aG,aL,a1,b2,cb,bp,bk⟩:=aQ.info (yi al)
 have cr:∀n e,d≠.array n e:=by
  clear bp
  unfold dR.flat at al
  generalize (C.T T).k=iL at*
  cases iL<;>cases d<;>simp[hP]at bk al⊢
 cases d<;>first|exact(cr _ _ rfl).elim|simp[Instr.sliceAt,run_underlying bp]
theorem pv {x:dR} {k:jY} (h:x.k=k) (al:k≠.other) (R:∀ah,k≠.struct ah) (I:∀e,k≠.dO e:=by simp):x.flat=true:=by
 unfold dR.flat;rw[h];cases k<;>first|rfl|exact(al rfl).elim|exact(I _ rfl).elim|exact(R _ rfl).elim
theorem aJ.split:∀(n:Nat) (xs:List j) (cs:List Value) (az:Nat→Prop),aJ w F xs cs az→∃bB bF bj ch,cs=bB++bF∧aJ w F (xs.take n) bB bj∧aJ w F (xs.drop n) bF ch∧(∀b,bj b→az b)∧(∀b,ch b→az b)∧(∀b,bj b→¬ch b)
 |0,xs,cs,az,h=>⟨[],cs,fun _=>False,az,rfl,by rw[List.take_zero,aJ],h,fun _ h=>h.elim,fun _ h=>h,fun _ h=>h.elim⟩
 |n+1,[],cs,az,h=>by rw[aJ]at h;subst h;exact⟨[],[],fun _=>False,fun _=>False,rfl,by rw[List.take_nil,aJ],by rw[List.drop_nil,aJ],fun _ h=>h.elim,fun _ h=>h.elim,fun _ h=>h.elim⟩
 |n+1,x::xs,cs,az,h=>by
  rw[aJ]at h
  obtain⟨bB,bF,e0,eh,rfl,U,aa,aw,aN,a8⟩:=h
  obtain⟨d1,d2,bj,ch,rfl,aE,aO,bg,cd,cQ⟩:=aJ.split n xs bF eh aa
  refine⟨bB++d1,d2,fun b=>e0 b∨bj b,ch,by simp,?_,aO,?_,fun b I=>aN _ (cd _ I),?_⟩
  ·rw[List.take_succ_cons,aJ]
   exact⟨bB,d1,e0,bj,rfl,U,aE,fun _ h=>.inl h,fun _ h=>.inr h,fun b I ae=>a8 b I (bg b ae)⟩
  ·rintro b (I|I)
   ·exact aw b I
   ·exact aN b (bg b I)
  ·rintro b (I|I) ae
   ·exact a8 b I (cd b ae)
   ·exact cQ b I ae
theorem Et (aQ:C.c5) (h:aX w0 F0 X F S s ak w) {T:TypeId} {x:j} {v:Value} {bC ay:Option j} {od oe:Option Value} (ao:x.plain=true) (aC:ar w F s ak x v (fun _=>False)) (hX:mu w F s ak bC od) (hY:mu w F s ak ay oe)
  (he:de C s T x bC ay=some (av,s1)):Good C w0 F0 X ak w (Instr.sliceAt T v od oe none) av s1:=by
 unfold de at he
 split at he
 ·rename_i l al
  have:=jg aC;subst this
  obtain⟨i,d,z,aG,aL,a1,b2,cb,bp,bk⟩:=aQ.info (dF al (by simp))
  rw[al]at bk
  have:=lv bk;subst this
  split at he
  ·rename_i a b bN I
   split at he
   ·rename_i fC
    simp only[Option.some.injEq,Prod.mk.injEq]at he
    obtain⟨rfl,rfl⟩:=he
    refine Good.same h ?_ rfl (kK _)
    rw[pt aQ (pv al (by simp) (by simp))]
    have cm:(⟨⟨l⟩⟩:ByteArray).size=l.length:=rfl
    have j3:=pr (P:=C.P) (isS:=false) (len:=l.length) (cap:=l.length) hX hY bN I fC.1 fC.2 (Nat.le_refl _)
    have Eu:(⟨⟨l⟩⟩:ByteArray).extract a b=⟨⟨(l.take b).drop a⟩⟩:=by
     apply ByteArray.ext
     simp[ByteArray.data_extract,List.drop_take]
    simp[Instr.slice,run_underlying bp,cm,j3,Eu]
   ·cases he
  ·cases he
 ·rename_i e al
  have:=mr aC;subst this
  obtain⟨i,d,z,aG,aL,a1,b2,cb,bp,bk⟩:=aQ.info (dF al (by simp))
  rw[al]at bk
  have:=hS bk;subst this
  split at he
  ·rename_i bN I
   split at he
   ·rename_i kN
    obtain⟨ml,aV,mm,f1,f2,f3,f4,f5,f6,f7⟩:=aQ.info kN
    simp only[Option.some.injEq,Prod.mk.injEq]at he
    obtain⟨rfl,rfl⟩:=he
    have j3:=pr (P:=C.P) (isS:=true) (len:=0) (cap:=0) hX hY bN I (Nat.le_refl _) (Nat.le_refl _) (Nat.le_refl _)
    refine Good.same h (v:=.slice none 0 0) ?_ rfl aC
    rw[pt aQ (pv al (by simp) (by simp))]
    simp[Instr.slice,run_underlying bp,j3,g1 f1,f2]
   ·cases he
  ·cases he
 ·rename_i e xs al
  obtain⟨i,d,z,aG,aL,a1,b2,cb,bp,bk⟩:=aQ.info (dF al (by simp))
  rw[al]at bk
  have:=hS bk;subst this
  split at he
  ·rename_i a b bN I
   split at he
   ·rename_i fC
    obtain⟨Ev,yG,kN,g9⟩:=fC
    obtain⟨ml,aV,mm,f1,f2,f3,f4,f5,f6,f7⟩:=aQ.info kN
    simp only[Option.some.injEq,Prod.mk.injEq]at he
    obtain⟨rfl,rfl⟩:=he
    rcases s0 aC with⟨rfl,pw,c,rfl,rk,ob⟩|⟨gq,o,cap,cO,sz,rfl,U,aa,aw,aN,a8,bI⟩
    ·have eS:b=0:=by simpa using yG
     subst eS
     have Ew:a=0:=by omega
     subst Ew
     have j3:=pr (P:=C.P) (isS:=true) (len:=0) (cap:=c) hX hY bN I (Nat.le_refl _) (Nat.zero_le _) (Nat.zero_le _)
     refine Good.same h (v:=.slice pw 0 c) ?_ rfl ((ar.bx rfl).2 ⟨rfl,by rw[ai];exact .inl ⟨rfl,pw,c,rfl,rk,ob⟩⟩)
     rw[pt aQ (pv al (by simp) (by simp))]
     cases pw with
     |none=>
      have:=ob rfl;subst this
      simp[Instr.slice,run_underlying bp,j3,g1 f1,f2]
     |some pw=>simp[Instr.slice,run_underlying bp,j3,g1 f1,f2,Addr.add]
    ·have j3:=pr (P:=C.P) (isS:=true) (len:=xs.length) (cap:=cap) hX hY bN I Ev (Nat.le_trans yG aa) aa
     obtain⟨bB,bF,bj,ch,rfl,aE,aO,bg,cd,cQ⟩:=aJ.split b xs cO _ bI
     obtain⟨d1,d2,Ex,vj,rfl,bb,bq,cD,b1,cZ⟩:=aJ.split a (xs.take b) bB _ aE
     have vk:d1.length=a*(C.T e).sz:=by
      rw[aJ.length _ _ _ bb,n0 _ (fun d ab=>g9 d (List.mem_of_mem_take (List.mem_of_mem_take ab))),List.length_take,List.length_take]
      congr 1;omega
     have hlen:((xs.take b).drop a).length=b-a:=by simp;omega
     have gK:e8 w gq (o+a*(C.T e).sz) d2:=by
      rw[←vk]
      have:e8 w gq o (d1++(d2++bF)):=by simpa using a8
      exact this.u7
     have s3:aJ w F ((xs.take b).drop a) d2 (fun _=>False):=aJ.mono (fun _ h=>h) _ _ _ _ (fun b I=>(bg _ (b1 _ I)).elim) bq
     have mem:∀d∈(xs.take b).drop a,d.wd=sz:=fun d ab=>aN d (List.mem_of_mem_take (List.mem_of_mem_drop ab))
     have run:(Instr.sliceAt T (.slice (some ⟨gq,o,none⟩) xs.length cap) od oe none).run C.P w= .ok (.slice (if cap=a then some ⟨gq,o,none⟩else some ⟨gq,o+a*(C.T e).sz,none⟩) (b-a) (cap-a)) w:=by
      rw[pt aQ (pv al (by simp) (by simp))]
      simp[Instr.slice,run_underlying bp,j3,g1 f1,f2,Addr.add_lit]
     refine⟨_,w,F,S,run,h,.inl ⟨rfl,(ar.bx rfl).2 ⟨rfl,?_⟩⟩⟩
     simp only[ba,e_]
     rw[ai]
     by_cases yH:cap=a
     ·have Ey:b=a:=by omega
      subst Ey
      have nf:(xs.take b).drop b=[]:=by simp
      rw[if_pos yH]
      rw[nf]at s3⊢
      rw[aJ]at s3
      subst s3
      exact .inr ⟨gq,o,cap-b,[],sz,by simp,U,Nat.zero_le _,by omega,by simp,fun ad c aU=>by simp at aU,by rw[aJ]⟩
     ·rw[if_neg yH]
      exact .inr ⟨gq,_,cap-a,d2,sz,by rw[hlen],U,by rw[hlen];omega,by omega,mem,gK,s3⟩
   ·cases he
  ·cases he
 ·rename_i e y q al
  split at he
  ·rename_i sz xs ab
   split at he
   ·rename_i b bN I
    split at he
    ·rename_i ng
     split at he
     ·rename_i q9 s2 aM
      simp only[Option.some.injEq,Prod.mk.injEq]at he
      obtain⟨rfl,rfl⟩:=he
      obtain⟨i,d,z,aG,aL,a1,b2,cb,bp,bk⟩:=aQ.info (dF al (by simp))
      rw[al]at bk
      have:=hS bk;subst this
      obtain⟨ml,aV,mm,f1,f2,f3,f4,f5,f6,f7⟩:=aQ.info ng.2
      have oc:q9= .aH sz xs:=by
       simp only[bK,ab,j.plain]at aM
       simp at aM
       exact aM.1.symm
      subst oc
      obtain⟨bj,dL,aE,aO,Sn,bg,cd,cQ,d_,eF,fQ⟩:=kF h rfl aC aM
      rw[ek aO,ai]at bg
      rcases bg with⟨rfl,a0,fG⟩|⟨gq,cap,cur,eu,fr,az,fG,bb,bq,cD,b1,cZ,cY,eT,fH,gM,hZ⟩
      ·simp at fG;subst fG
       have eS:b=0:=by simpa using ng.1
       subst eS
       have j3:=pr (P:=C.P) (isS:=true) (len:=0) (cap:=0) hX hY bN I (Nat.le_refl _) (Nat.le_refl _) (Nat.le_refl _)
       refine⟨.slice a0 0 0,w,F,bj,?_,dL,.inr ⟨rfl,rfl,fun _=>False,by simp only[ba,e_];rw[ai];exact .inl ⟨rfl,_,rfl⟩,fun _ h=>h.elim,fun _ h=>h.elim,fun _ _ h=>h.elim,fun _ h=>h.elim⟩⟩
       rw[pt aQ (pv al (by simp) (by simp))]
       cases a0<;>simp[Instr.slice,run_underlying bp,j3,g1 f1,f2]
      ·simp at fG;subst fG
       have j3:=pr (P:=C.P) (isS:=true) (len:=xs.length) (cap:=cap) hX hY bN I (Nat.zero_le _) (Nat.le_trans ng.1 b1) b1
       have hlen:(xs.take b).length=b:=by simp;omega
       have run:(Instr.sliceAt T (.slice (some ⟨gq,0,none⟩) xs.length cap) od oe none).run C.P w= .ok (.slice (some ⟨gq,0,none⟩) b cap) w:=by
        rw[pt aQ (pv al (by simp) (by simp))]
        simp[Instr.slice,run_underlying bp,j3,g1 f1,f2,Addr.add_lit]
       refine⟨_,w,F,bj,run,dL,.inr ⟨rfl,rfl,Sn,?_,cd,cQ,d_,eF⟩⟩
       simp only[ba,e_]
       rw[ai]
       obtain⟨bB,bF,e0,eh,ae,eb,fc,gn,kI,lz⟩:=aJ.split b xs _ _ fH
       refine .inr ⟨gq,cap,cur,eu,fr,az,by rw[hlen],bb,bq,cD,by omega,cZ,cY,fun d ab=>eT d (List.mem_of_mem_take ab),?_,gM,hZ⟩
       have vk:bB.length=b*sz:=by
        rw[aJ.length _ _ _ eb,n0 _ (fun d ab=>eT d (List.mem_of_mem_take ab)),hlen]
       have:cur.toList.take ((xs.take b).length*sz)=bB:=by
        rw[hlen]
        have aa:b*sz≤xs.length*sz:=Nat.mul_le_mul_right _ ng.1
        have:(cur.toList.take (xs.length*sz)).take (b*sz)=bB:=by rw[ae,List.take_left' vk]
        rwa [List.take_take,Nat.min_eq_left aa]at this
       rw[this]
       exact aJ.mono (fun _ h=>h) _ _ _ _ gn eb
     ·cases he
    ·cases he
   ·cases he
  ·cases he
 ·cases he
end
section
variable {C:bo} {w0 w:World} {F0 X F:Nat→Prop} {S:Nat→Nat→Prop} {s s1:ag} {ak:Nat→Value} {av:j}
def Src (P:Program) (w:World) (size:Nat) (x:Value) (m:Nat) (news:List Value):Prop:=
 ∀aq:World,aq.heap=w.heap→(Builtin.lenOf x).run P aq= .ok m aq∧(Builtin.firstCells size m x).run P aq= .ok news.toArray aq
def vl (d:TypeDesc):Prop:=(∃e,d= .slice e)∨d= .string
theorem Ez {P:Program} {T a5 ty e:TypeId} {mv:TypeDesc} {i:TypeInfo} (aM:P.underlying T=some (.slice e)) (hu:P.underlying a5=some mv) (og:vl mv) (ay:P.info? e=some i)
  {x:Value} {m:Nat} {news:List Value} (lC:Src P w i.size x m news) {b n cap:Nat} {cur:Array Value} {eu:TypeId} {fr:Nat×Nat} {l mid r:List Value} (I:w.heap[b]? =some (.cells cur eu fr)) (bc:hM fr cur.size)
  (ae:cur.toList=l++(mid++r)) (hl:l.length=n*i.size) (hm:mid.length=news.length) (sX:∀v∈news,Value.dZ v=true) (hb:n+m≤cap):
  ∃aq,(Builtin.append_ #[T,a5] ty #[.slice (some ⟨b,0,none⟩) n cap,x]).run P w= .ok (.slice (some ⟨b,0,none⟩) (n+m) cap) aq∧aq.heap[b]? =some (.cells (l++(news++r)).toArray eu fr)∧
   (∀c,c≠b→aq.heap[c]? =w.heap[c]?)∧aq.heap.size=w.heap.size∧aq.os=w.os∧aq.tape=w.tape∧Out aq w:=by
 obtain⟨aq,eb,fc⟩:=vb (P:=P) (b:=b) (o:=n*i.size) (e:=eu) (fr:=fr) news 0 cur w l mid r I bc ae (by omega) hm sX
 refine⟨aq,?_,fc⟩
 obtain⟨U,aa⟩:=lC w rfl
 rcases og with⟨ei,rfl⟩|rfl<;>simp[Builtin.append_,run_underlying aM,run_underlying hu,g1 ay,U,aa,hb,Addr.add_lit,eb]
theorem EA {P:Program} {T a5 ty e:TypeId} {mv:TypeDesc} {i:TypeInfo} {z:Value} (aM:P.underlying T=some (.slice e)) (hu:P.underlying a5=some mv) (og:vl mv) (ay:P.info? e=some i) (bf:i.zero=some z)
  {x:Value} {m:Nat} {news:List Value} (lC:Src P w i.size x m news) {base:Option Addr} {n cap:Nat} {kO:List Value} (hold:Src P w i.size (.slice base n cap) n kO) (hb:¬n+m≤cap)
  (aR:n+m≤9223372036854775807) (vm:(n+m)*i.bytes≤140737488355328):
  (Builtin.append_ #[T,a5] ty #[.slice base n cap,x]).run P w= .ok (.slice (some ⟨w.heap.size,0,none⟩) (n+m) (grownCap w (n+m) cap e))
   (w.drew.alloc (.cells (kO.toArray++news.toArray++Builtin.zeroCells z.cells (grownCap w (n+m) cap e-(n+m))) e)):=by
 have U:=(lC w rfl).1
 have aa:=(lC w.drew rfl).2
 have aw:=(hold w.drew rfl).2
 have nh:=growslice_fits (need:=n+m) (old:=cap) (by omega) vm
 have fh:¬(281474976710656<Builtin.nextslicecap (n+m) cap*i.bytes):=by omega
 have px:∀k (w:World),(askRoom k).run P w= .ok () w:=by
  intro k w
  unfold askRoom
  split<;>rfl
 have vn:¬(9223372036854775807<(n:Int)+(m:Int)∧i.bytes=0):=by omega
 rcases og with⟨ei,rfl⟩|rfl<;>
  ·simp[Builtin.append_,run_underlying aM,run_underlying hu,g1 ay,n5 ay,U,hb,fh,Question.forced,px]
   rw[if_neg vn,aw]
   simp[aa,n6 ay bf,newRow,grownCap]
   have aG:(kO++news).toArray=kO.toArray++news.toArray:=by simp
   rw[aG,Array.append_assoc]
def s4 (C:bo) (e a5:TypeId):Bool:=match(C.T a5).k,(C.T e).k with
 | .slice ei,_=>ei==e
 | .str,.int .u8=>true
 |_,_=>false
def iP (C:bo) (s:ag) (T a5:TypeId) (x y:j):Option (j×ag):=
 match(C.T T).k with
 | .slice e=>if(C.T e).ok=true∧(C.T e).zero.wd=(C.T e).sz∧(flat (C.T e).zero).isSome=true∧s4 C e a5=true then
   match(match x with| .bt=>some (j.aH (C.T e).sz [],s)| .h a q=>bK s (.h a q)|_=>none)with
   |some (.aH sz xs,s1)=>if sz=(C.T e).sz then
     match(match hs x.owner y with
      | .bt=>some ([],s1)
      | .slice ys=>some (ys,s1)
      | .str l=>some (l.map ha,s1)
      | .h a q=>match bK s1 (.h a q)with
        |some (.aH _ ys,s2)=>some (ys,s2)
        |_=>none
      |_=>none)with
     |some (ys,s2)=>if(∀d∈ys,d.wd=(C.T e).sz)∧(xs.length+ys.length)*(C.T e).bytes≤140737488355328∧xs.length+ys.length≤9223372036854775807 then some (.aH sz (xs++ys),s2)else none
     |none=>none
    else none
   |_=>none
   else none
 |_=>none
theorem aJ.append {xs ys:List j} {bB bF:List Value} {bj ch az:Nat→Prop} (U:aJ w F xs bB bj) (aa:aJ w F ys bF ch) (aG:∀b,bj b→az b) (aL:∀b,ch b→az b) (a1:∀b,bj b→¬ch b):aJ w F (xs++ys) (bB++bF) az:=by
 induction xs generalizing bB bj az with
 |nil=>rw[aJ]at U;subst U;exact aJ.mono (fun _ h=>h) _ _ _ _ aL aa
 |cons x xs ih=>
  rw[aJ]at U
  obtain⟨EB,rl,e0,eh,rfl,aE,aO,bg,cd,cQ⟩:=U
  rw[List.cons_append,aJ]
  refine⟨EB,rl++bF,e0,fun b=>eh b∨ch b,by simp,aE,ih aO (fun b h=>.inl h) (fun b h=>.inr h) (fun b h=>a1 b (cd b h)),fun b h=>aG b (bg b h),?_,?_⟩
  ·rintro b (h|h)
   ·exact aG b (cd b h)
   ·exact aL b h
  ·rintro b h (a2|a2)
   ·exact cQ b h a2
   ·exact a1 b (bg b h) a2
theorem vo {P:Program} {size m cap:Nat} {b o:Nat} {news:List Value} (gK:e8 w b o news) (hl:news.length=m*size):Src P w size (.slice (some ⟨b,o,none⟩) m cap) m news:=by
 intro aq hw
 refine⟨rfl,?_⟩
 refine run_firstCells_some aq size m ⟨b,o,none⟩ m cap news hl (fun ad v aU=> ?_)
 rw[Addr.add_lit]
 have:=gK ad v aU
 simpa [World.cell?,hw]using this
theorem yI {P:Program} {size cap:Nat}:Src P w size (.slice none 0 cap) 0 []:=by
 intro aq _
 exact⟨rfl,by simp[Builtin.firstCells]⟩
theorem vp {P:Program} {size cap:Nat} (a:Option Addr):Src P w size (.slice a 0 cap) 0 []:=by
 cases a with
 |none=>exact yI
 |some a=>
  intro aq _
  exact⟨rfl,run_firstCells_some aq size 0 a 0 cap [] (by simp) (fun ad v aU=>by simp at aU)⟩
theorem EC {P:Program} (l:List UInt8):Src P w 1 (.string ⟨⟨l⟩⟩) l.length (l.map fun b=>.int .u8 (b.toNat:Int)):=by
 intro aq _
 refine⟨rfl,?_⟩
 have:(⟨⟨l⟩⟩:ByteArray).extract 0 l.length=⟨⟨l⟩⟩:=by
  apply ByteArray.ext
  simp[ByteArray.data_extract]
 simp[Builtin.firstCells,this]
theorem aJ.oh {sz:Nat} {xs:List j} {cs:List Value} {az:Nat→Prop} (h:aJ w F xs cs az) (hw:∀d∈xs,d.wd=sz):cs.length=xs.length*sz:=by
 rw[aJ.length _ _ _ h,n0 _ hw]
theorem aX.turn (h:aX w0 F0 X F S s ak w) {aq:World} {b:Nat} (I:∀c,c≠b→aq.heap[c]? =w.heap[c]?) (R:aq.heap.size=w.heap.size) (U:aq.os=w.os) (aa:aq.tape=w.tape) (aw:Out aq w)
  (aS:¬F b) (a_:∀u,¬S u b) (bu:X b∨w0.heap.size≤b):aX w0 F0 X F S s ak aq where
 er:=h.er
 eL:=h.eL
 db:=fun c ae=>by rw[R];exact h.db c ae
 cT:=fun t c ae=>by rw[R];exact h.cT t c ae
 dp:=h.dp
 c8:=h.c8
 cl:=h.cl
 b5:=fun t=>ar.frame (Sx:=S) (fun c ae=>I c (by rintro rfl;exact aS ae)) (fun _ h=>h) (fun x c ae=>I c (by rintro rfl;exact a_ x ae)) h.b5 _ _ _ (fun c ae=>I c (by rintro rfl;exact a_ t ae)) (h.b5 t)
 old:=fun c cC gC=>by
  rw[I c ?_]
  ·exact h.old c cC gC
  ·rintro rfl
   rcases bu with bu|bu
   ·exact gC bu
   ·omega
 size:=by rw[R];exact h.size
 os:=U.trans h.os
 tape:=aa.trans h.tape
 output:=aw.trans h.output
 et:=h.et
theorem ED (aQ:C.c5) (h:aX w0 F0 X F S s ak w) {T a5 ty:TypeId} {x y:j} {fb fE:Value} (ao:ar w F s ak x fb (fun _=>False)) (aT:ar w F s ak y fE (fun _=>False))
  (he:iP C s T a5 x y=some (av,s1)):Good C w0 F0 X ak w (Builtin.append_ #[T,a5] ty #[fb,fE]) av s1:=by
 unfold iP at he
 split at he
 ·rename_i e al
  obtain⟨vq,d,vr,aG,aL,a1,b2,cb,bp,bk⟩:=aQ.info (dF al (by simp))
  rw[al]at bk
  have:=hS bk;subst this
  split at he
  ·rename_i n8
   obtain⟨kN,lD,mw,lE⟩:=n8
   obtain⟨i,vt,z,f1,f2,f3,f4,f5,f6,f7⟩:=aQ.info kN
   obtain⟨c9,jh⟩:=Option.isSome_iff_exists.1 mw
   have mx:=f5 c9 jh
   have kP:c9.length=(C.T e).sz:=by
    have:=ai.length _ _ _ ((ai.flat (w:=w) (F:=F) _).1 (C.T e).zero c9 (fun _=>False) (Nat.le_refl _) jh)
    rw[this,lD]
   obtain⟨mv,hu,og⟩:∃mv,C.P.underlying a5=some mv∧vl mv:=by
    unfold s4 at lE
    split at lE
    ·rename_i ei ig
     obtain⟨_,aV,_,_,_,_,_,_,d_,eF⟩:=aQ.info (dF ig (by simp))
     rw[ig]at eF
     exact⟨aV,d_,.inl ⟨_,hS eF⟩⟩
    ·rename_i ig _
     obtain⟨_,aV,_,_,_,_,_,_,d_,eF⟩:=aQ.info (dF ig (by simp))
     rw[ig]at eF
     exact⟨aV,d_,.inr (lv eF)⟩
    ·cases lE
   split at he
   ·rename_i sz xs yJ oi
    split at he
    ·rename_i cm
     subst cm
     split at he
     ·rename_i ys s5 j4
      split at he
      ·rename_i yK
       obtain⟨py,vm,vu⟩:=yK
       simp only[Option.some.injEq,Prod.mk.injEq]at he
       obtain⟨rfl,rfl⟩:=he
       obtain⟨e0,a0,Sn,a3,a4,rf,lA,lB,Rt,a9,ni⟩:∃e0,aX w0 F0 X F e0 yJ ak w∧∃Sn,ai w F (.aH (C.T e).sz xs) [fb] Sn∧(∀b,Sn b→b<w.heap.size)∧(∀b,Sn b→¬F b)∧(∀u b,Sn b→¬e0 u b)∧
         (∀b,Sn b→X b∨w0.heap.size≤b)∧(∀u b,e0 u b→S u b)∧(∀b,Sn b→∃u,S u b)∧ar w F yJ ak (hs x.owner y) fE (fun _=>False):=by
        split at oi
        ·simp only[Option.some.injEq,Prod.mk.injEq,j.aH.injEq,true_and]at oi
         obtain⟨rfl,rfl⟩:=oi
         have:=mr ao;subst this
         exact⟨S,h,fun _=>False,by rw[ai];exact .inl ⟨rfl,_,rfl⟩,fun _ h=>h.elim,fun _ h=>h.elim,fun _ _ h=>h.elim,fun _ h=>h.elim,fun _ _ h=>h,fun _ h=>h.elim,aT⟩
        ·obtain⟨bj,dL,aE,aO,Sn,bg,cd,cQ,d_,eF,fQ,ji,s6⟩:=kF h rfl ao oi
         rw[ek aO]at bg
         exact⟨bj,dL,Sn,bg,cd,cQ,d_,eF,fQ,ji,s6 _ _ _ aT⟩
        ·cases oi
       obtain⟨eh,gq,jK,news,iM,gd,kQ,dy,jj,jk,vv,hc⟩:∃eh,aX w0 F0 X F eh s5 ak w∧∃jK news,aJ w F ys news jK∧Src C.P w i.size fE ys.length news∧(∀b,jK b→b<w.heap.size)∧(∀b,jK b→¬F b)∧(∀u b,jK b→¬eh u b)∧
         (∀b,jK b→X b∨w0.heap.size≤b)∧(∀u b,eh u b→e0 u b)∧(∀b,jK b→∃u,e0 u b):=by
        split at j4
        ·rename_i oj
         simp only[Option.some.injEq,Prod.mk.injEq]at j4
         obtain⟨rfl,rfl⟩:=j4
         rw[oj]at ni
         have:=mr ni;subst this
         exact⟨e0,a0,fun _=>False,[],by rw[aJ],yI,fun _ h=>h.elim,fun _ h=>h.elim,fun _ _ h=>h.elim,fun _ h=>h.elim,fun _ _ h=>h,fun _ h=>h.elim⟩
        ·rename_i ev oj
         simp only[Option.some.injEq,Prod.mk.injEq]at j4
         obtain⟨rfl,rfl⟩:=j4
         rw[oj]at ni
         rcases s0 ni with⟨rfl,pw,Ru,rfl,_,ob⟩|⟨b,o,cap,cO,EE,rfl,bb,bq,cD,b1,cZ,cY⟩
         ·exact⟨e0,a0,fun _=>False,[],by rw[aJ],vp pw,fun _ h=>h.elim,fun _ h=>h.elim,fun _ _ h=>h.elim,fun _ h=>h.elim,fun _ _ h=>h,fun _ h=>h.elim⟩
         ·exact⟨e0,a0,fun _=>False,cO,cY,vo cZ (by rw[f2];exact aJ.oh cY py),fun _ h=>h.elim,fun _ h=>h.elim,fun _ _ h=>h.elim,fun _ h=>h.elim,fun _ _ h=>h,fun _ h=>h.elim⟩
        ·rename_i l oj
         simp only[Option.some.injEq,Prod.mk.injEq]at j4
         obtain⟨rfl,rfl⟩:=j4
         rw[oj]at ni
         have:=jg ni;subst this
         have EF:l≠[]→i.size=1:=by
          intro hl
          cases l with
          |nil=>exact(hl rfl).elim
          |cons b l=>rw[f2,←py (ha b) (by simp)];rfl
         by_cases hl:l=[]
         ·subst hl
          refine⟨e0,a0,fun _=>False,[],by simp only[List.map_nil];rw[aJ],?_,fun _ h=>h.elim,fun _ h=>h.elim,fun _ _ h=>h.elim,fun _ h=>h.elim,fun _ _ h=>h,fun _ h=>h.elim⟩
          intro aq _
          exact⟨rfl,by simp[Builtin.firstCells,ByteArray.extract];rfl⟩
         ·refine⟨e0,a0,fun _=>False,_,yD l _,?_,fun _ h=>h.elim,fun _ h=>h.elim,fun _ _ h=>h.elim,fun _ h=>h.elim,fun _ _ h=>h,fun _ h=>h.elim⟩
          rw[EF hl,List.length_map]
          exact EC l
        ·rename_i a q oj
         split at j4
         ·rename_i Rv ev s2 aM
          simp only[Option.some.injEq,Prod.mk.injEq]at j4
          obtain⟨rfl,rfl⟩:=j4
          rw[oj]at ni
          obtain⟨ch,dL,aE,aO,jK,bg,cd,cQ,d_,eF,fQ,ji,s6⟩:=kF a0 rfl ni aM
          rw[ek aO,ai]at bg
          rcases bg with⟨rfl,EG,fG⟩|⟨b,cap,cur,eu,fr,az,fG,bb,bq,cD,b1,cZ,cY,eT,fH,gM,hZ⟩
          ·simp at fG;subst fG
           exact⟨ch,dL,fun _=>False,[],by rw[aJ],(vp EG),fun _ h=>h.elim,fun _ h=>h.elim,fun _ _ h=>h.elim,fun _ h=>h.elim,fQ,fun _ h=>h.elim⟩
          ·simp at fG;subst fG
           refine⟨ch,dL,az,_,fH,vo (pg bq _) ?_,fun c ae=>cd c (gM c ae),fun c ae=>cQ c (gM c ae),fun u c ae=>d_ u c (gM c ae),fun c ae=>eF c (gM c ae),fQ,fun c ae=>ji c (gM c ae)⟩
           rw[f2];exact aJ.oh fH py
         ·cases j4
        ·cases j4
       have nj:news.length=ys.length*(C.T e).sz:=aJ.oh iM py
       have j5:∀c,Sn c→¬jK c:=fun c U aa=>by obtain⟨u,hu⟩:=hc c aa;exact lA u c U hu
       have fC:∀u c,Sn c→¬eh u c:=fun u c U aa=>lA u c U (vv u c aa)
       have grow:∀(base:Option Addr) (cap:Nat) (kO:List Value) (Sx:Nat→Prop),fb= .slice base xs.length cap→Src C.P w i.size (.slice base xs.length cap) xs.length kO→aJ w F xs kO Sx→(∀d∈xs,d.wd=(C.T e).sz)→(∀c,Sx c→Sn c)→¬xs.length+ys.length≤cap→
         Good C w0 F0 X ak w (Builtin.append_ #[T,a5] ty #[fb,fE]) (.aH (C.T e).sz (xs++ys)) s5:=by
        intro base cap kO Sx vc hold yL yM da hb
        subst vc
        have aB:=EA (ty:=ty) bp hu og f1 f4 gd hold hb vu (by rw[f3];exact vm)
        have rj:=grownCap_ge w (xs.length+ys.length) cap e
        have rk:=grownCap_le_maxLen w (xs.length+ys.length) cap e (by unfold maxLen;omega)
        have rm:=aJ.oh yL yM
        have EH:aJ w F (xs++ys) (kO++news) (fun c=>Sx c∨jK c):=aJ.append yL iM (fun _ h=>.inl h) (fun _ h=>.inr h) (fun c U aa=>j5 c (da c U) aa)
        have EI:(kO++news).length=(xs++ys).length*(C.T e).sz:=by simp[rm,nj,Nat.add_mul]
        have hv:=gq.re (aq:=w.drew.alloc (.cells (kO.toArray++news.toArray++Builtin.zeroCells z.cells (grownCap w (xs.length+ys.length) cap e-(xs.length+ys.length))) e))
         (sz:=(C.T e).sz) (cap:=grownCap w (xs.length+ys.length) cap e) (xs:=xs++ys) (e:=e) (fr:=(0,0)) (Sn:=fun c=>Sx c∨jK c) rfl rfl rfl ⟨rfl,fun _=>Nat.le_succ _⟩
         (fun o _ ⟨_,aa⟩=>absurd aa (Nat.not_lt_zero _)) (by simpa using rj) rk
         (by
          simp only[Array.size_append,List.size_toArray,size_zeroCells,mx,rm,nj,kP,←Nat.add_mul]
          congr 1;omega)
         (by
          intro d ab
          rcases List.mem_append.1 ab with ab|ab
          ·exact yM d ab
          ·exact py d ab)
         (by
          simp only[Array.toList_append]
          rw[List.take_left' EI]
          exact EH)
         (by rintro c (ae|ae);exact a4 c (da c ae);exact kQ c ae) (by rintro c (ae|ae);exact rf c (da c ae);exact dy c ae) (by rintro u c (ae|ae);exact fC u c (da c ae);exact jj u c ae) (by rintro c (ae|ae);exact lB c (da c ae);exact jk c ae)
        refine⟨_,_,F,eh,aB,hv.1,?_⟩
        have:=hv.2
        simpa using this
       rw[ai]at a3
       rcases a3 with⟨rfl,rn,fG⟩|⟨b,cap,cur,eu,fr,az,fG,bb,bq,cD,b1,cZ,cY,eT,fH,gM,hZ⟩
       ·simp at fG;subst fG
        by_cases yN:ys=[]
        ·subst yN
         have vw:news=[]:=by simpa using nj
         subst vw
         refine⟨.slice rn 0 0,w,F,eh,?_,gq,.inr ⟨rfl,rfl,fun _=>False,by simp only[ba,e_];rw[ai];exact .inl ⟨rfl,_,rfl⟩,fun _ h=>h.elim,fun _ h=>h.elim,fun _ _ h=>h.elim,fun _ h=>h.elim⟩⟩
         obtain⟨U,aa⟩:=gd w rfl
         cases rn<;>rcases og with⟨ei,rfl⟩|rfl<;>simp at U aa<;>simp[Builtin.append_,run_underlying bp,run_underlying hu,g1 f1,U,aa,storeCells]
        ·exact grow rn 0 [] (fun _=>False) rfl (vp rn) (by rw[aJ]) (by simp) (fun _ h=>h.elim) (by
          cases ys with
          |nil=>exact(yN rfl).elim
          |cons y ys=>simp)
       ·simp at fG;subst fG
        by_cases hb:xs.length+ys.length≤cap
        ·
         have rm:=aJ.oh fH eT
         have hlen:cur.toList.length=cap*(C.T e).sz:=by simp[cY]
         have hle:(xs.length+ys.length)*(C.T e).sz≤cap*(C.T e).sz:=Nat.mul_le_mul_right _ hb
         rw[Nat.add_mul]at hle
         have hN:cur.toList=cur.toList.take (xs.length*(C.T e).sz)++((cur.toList.drop (xs.length*(C.T e).sz)).take news.length++(cur.toList.drop (xs.length*(C.T e).sz)).drop news.length):=by
          rw[List.take_append_drop,List.take_append_drop]
         obtain⟨aq,eb,fc,gn,kI,lz,eG,mo⟩:=Ez (ty:=ty) (n:=xs.length) (m:=ys.length) (cap:=cap) bp hu og f1 gd bq cD.low hN (by rw[f2];exact rm) (by simp[hlen,nj];omega) (aJ.n7 _ _ _ iM) hb
         have EJ:=gq.turn gn kI lz eG mo (rf b bb) (fun u hu=>fC u b bb hu) (lB b bb)
         have lu:∀c,F c→aq.heap[c]? =w.heap[c]? :=fun c ae=>gn c (by rintro rfl;exact rf _ bb ae)
         refine⟨_,aq,F,eh,eb,EJ,.inr ⟨rfl,rfl,fun c=>Sn c∨jK c,?_,?_,?_,?_,?_⟩⟩
         ·simp only[ba,e_]
          rw[ai]
          have yO:(cur.toList.take (xs.length*(C.T e).sz)++(news++(cur.toList.drop (xs.length*(C.T e).sz)).drop news.length)).toArray.size=cur.size:=by
           have:cur.size=cur.toList.length:=by simp
           rw[this]
           conv=>rhs;rw[hN]
           simp[hlen,nj];omega
          refine .inr ⟨b,cap,_,eu,fr,fun c=>az c∨jK c,by simp,.inl bb,fc,by rw[yO];exact cD,by simpa using hb,cZ,by rw[yO];exact cY,?_,?_,?_,?_⟩
          ·intro d ab
           rcases List.mem_append.1 ab with ab|ab
           ·exact eT d ab
           ·exact py d ab
          ·have pq:=aJ.frame lu _ _ _ (fun c ae=>gn c (by rintro rfl;exact hZ ae)) fH
           have n4:=aJ.frame lu _ _ _ (fun c ae=>gn c (by rintro rfl;exact j5 _ bb ae)) iM
           have:((cur.toList.take (xs.length*(C.T e).sz)++(news++(cur.toList.drop (xs.length*(C.T e).sz)).drop news.length)).toArray.toList.take ((xs++ys).length*(C.T e).sz))=cur.toList.take (xs.length*(C.T e).sz)++news:=by
            simp only[]
            rw[←List.append_assoc]
            exact List.take_left' (by rw[List.length_append,rm,nj,List.length_append,Nat.add_mul])
           rw[this]
           exact aJ.append pq n4 (fun _ h=>.inl h) (fun _ h=>.inr h) (fun c U aa=>j5 c (gM c U) aa)
          ·rintro c (ae|ae)
           ·exact .inl (gM c ae)
           ·exact .inr ae
          ·rintro(ae|ae)
           ·exact hZ ae
           ·exact j5 b bb ae
         ·rw[kI];rintro c (ae|ae);exact a4 c ae;exact kQ c ae
         ·rintro c (ae|ae);exact rf c ae;exact dy c ae
         ·rintro u c (ae|ae);exact fC u c ae;exact jj u c ae
         ·rintro c (ae|ae);exact lB c ae;exact jk c ae
        ·exact grow (some ⟨b,0,none⟩) cap _ az rfl (vo (pg bq _) (by rw[f2];exact aJ.oh fH eT)) fH eT gM hb
      ·cases he
     ·cases he
    ·cases he
   ·cases he
  ·cases he
 ·cases he
end
section
variable {C:bo} {w0 w aq:World} {F0 X F:Nat→Prop} {S:Nat→Nat→Prop} {s s1:ag} {ak:Nat→Value} {av:j}
theorem aX.EK (h:aX w0 F0 X F S s ak w) {x:Nat} {q:List Nat} {d aV:j} {b:Nat} (ab:j.sub q (s x)=some d) (an:d.plain=false) (EL:aV.tree=true) (U:∀v,fp d v→fp aV v) (R:∀v,ct d v→ct aV v)
  (aa:∀vs,aV≠.tuple vs) (g9:aV.wd=d.wd) (I:∀bG a df,b0 w q (s x) (ba (ak x)) none=some (d,bG,a)→ai w F d bG df→df b∧ai aq F aV bG df) (jd:∀c,c≠b→aq.heap[c]? =w.heap[c]?) (cm:aq.heap.size=w.heap.size) (u1:aq.os=w.os)
  (u2:aq.tape=w.tape) (n2:Out aq w):∃az,aX w0 F0 X F az (b4 (ff x s) x (j.put q aV (s x))) ak aq:=by
 have aM:=fa ab (.inl an)
 have ao:=h.b5 x
 rw[ar.bx aM]at ao
 obtain⟨bG,a,cI,df,dL,aE,aO,bg,cd,cQ⟩:=ctx q (s x) (ba (ak x)) (S x) none d ao.2 ab
 obtain⟨n3,aC⟩:=I bG a df dL cd
 have om:S x b:=aO b n3
 have lu:∀c,F c→aq.heap[c]? =w.heap[c]? :=fun c ae=>jd c (by rintro rfl;exact h.dp x _ om ae)
 have m8:∀c,cI c→c≠b:=fun c ae e=>bg c ae (e▸n3)
 have gY:ai aq F (j.put q aV (s x)) (ba (ak x)) (fun c=>cI c∨df c):=by
  rcases cQ with⟨l,r,aG,aL,a1⟩|⟨gq,cur,e,fr,l,r,aG,aL,a1,b2,cb,bp⟩
  ·rw[aG]
   exact a1 aq aV bG df lu (fun c ae=>jd c (m8 c ae)) g9 aC (fun c ae lr=>bg c lr ae)
  ·refine bp aq aV bG df lu (fun c ae _=>jd c (m8 c ae)) ?_ g9 aC (fun c ae lr=>bg c lr ae)
   rw[jd gq (m8 gq aL),a1,←cb]
 have qY:ct (j.put q aV (s x)) (ak x)∧(j.put q aV (s x)).tree=true:=by
  cases q with
  |nil=>
   simp only[j.sub,Option.some.injEq]at ab
   simp only[j.put]
   exact⟨R _ (ab▸ao.1),EL⟩
  |cons k q=>
   refine⟨qW ao.1 ab U (fun _=>aa) g9,?_⟩
   rcases m7 k q aV (s x)with⟨ah,gs,aG,e⟩|⟨ah,gs,aG,e⟩|⟨sz,xs,ys,aG,e⟩|⟨y,z,aG,e⟩|e<;>rw[e]<;>first|rfl|exact aM
 let aj:=b4 (ff x s) x (j.put q aV (s x))
 have eD:∀y,y≠x→(aj y).tree=true→aj y=s y∧ak y=ak y:=fun y aT aM=>by
  have e:aj y=bZ.bn x (s y):=gB _ _ aT
  rw[e]at aM⊢
  exact⟨(sQ aM).2,rfl⟩
 have iJ:(aj x).plain=false→(s x).plain=false∧∀v,ct (s x) v→ct (aj x) v:=by
  intro _
  refine⟨?_,fun v aC=> ?_⟩
  ·cases qX:(s x).plain with
   |false=>rfl
   |true=>rw[j.uV _ _ _ qX ab]at an;cases an
  ·simp only[aj,jb]
   cases q with
   |nil=>
    simp only[j.sub,Option.some.injEq]at ab
    simp only[j.put]
    exact R _ (ab▸aC)
   |cons k q=>exact qW aC ab U (fun _=>aa) g9
 have both:∀c,(cI c∨df c)→S x c:=fun c ae=>ae.elim (aE c) (aO c)
 refine⟨dV S x (fun c=>cI c∨df c),?_⟩
 constructor
 case er=>exact h.er
 case eL=>exact h.eL
 case db=>exact fun b I=>by rw[cm];exact h.db b I
 case cT=>
  intro u c I
  rw[cm]
  simp only[dV]at I
  split at I
  ·exact h.cT x c (both c I)
  ·exact h.cT u c I
 case dp=>
  intro u c I
  simp only[dV]at I
  split at I
  ·exact h.dp x c (both c I)
  ·exact h.dp u c I
 case c8=>
  intro u y c cr I aT
  simp only[dV]at I aT
  split at I
  ·rename_i hu
   rw[if_neg (fun e=>cr (hu.trans e.symm))]at aT
   exact h.c8 x y c (fun e=>cr (hu.trans e)) (both c I) aT
  ·rename_i hu
   split at aT
   ·exact h.c8 u x c hu I (both c aT)
   ·exact h.c8 u y c cr I aT
 case cl=>
  intro u c I
  simp only[dV]at I
  split at I
  ·exact h.cl x c (both c I)
  ·exact h.cl u c I
 case b5=>
  intro u
  by_cases hu:u=x
  ·subst hu
   rw[jb,qT]
   exact(ar.bx qY.2).2 ⟨qY.1,gY⟩
  ·rw[gB _ _ hu,qU _ _ hu]
   have cr:∀y c,y≠x→S y c→aq.heap[c]? =w.heap[c]? :=fun y c aT ae=>jd c (by rintro rfl;exact h.c8 y x c aT ae om)
   refine(ar.bn eD rfl iJ (fun y ej d2 aT fg qZ=> ?_) lu _).1 _ _ _ (Nat.le_refl _) (fun c ae=>cr u c hu ae) (h.b5 u)
   have q0:=h.b5 y
   rw[ar.bx (fa fg qZ)]at q0
   exact sP ej _ _ _ none d2 q0.2 fg (fun c ae=>cr y c aT ae)
 case old=>
  intro c cC gC
  rw[jd c ?_]
  ·exact h.old c cC gC
  ·rintro rfl
   rcases h.cl x c om with bu|bu
   ·exact gC bu
   ·omega
 case size=>rw[cm];exact h.size
 case os=>exact u1.trans h.os
 case tape=>exact u2.trans h.tape
 case output=>exact n2.trans h.output
 case et=>exact h.et
def yP (P:Program) (t:TypeId):Bool:=match P.info? t with
 |some i=>match i.zero with
  |some (.bool false)=>true
  |_=>false
 |none=>false
def s7 (C:bo) (T:TypeId):Bool:=match(C.T T).k with
 | .map kR eU=>match(C.T kR).k with
   | .str=>yP C.P eU
   |_=>false
 |_=>false
def j6 (C:bo) (s:ag) (T:TypeId) (x i:j):Option j:=match x,i with
 | .h y q,.str k=>match j.sub q (s y)with
   |some (.cx (.mp m))=>if s7 C T=true then some (.bool (m4 k m))else none
   |_=>none
 |_,_=>none
def jl (C:bo) (s:ag) (T:TypeId) (x i v:j):Option ag:=match x,i,v with
 | .h y q,.str k,.bool b=>match j.sub q (s y)with
   |some (.cx (.mp m))=>if s7 C T=true then some (b4 (ff y s) y (j.put q (.cx (.mp (lp k b m))) (s y)))else none
   |_=>none
 |_,_,_=>none
theorem yQ (aQ:C.c5) {T:TypeId} (h:s7 C T=true):∃kR eU,C.P.underlying T=some (.map kR eU)∧C.P.underlying kR=some .string∧∀w,(zeroValue eU).run C.P w= .ok (.bool false) w:=by
 unfold s7 at h
 split at h
 ·rename_i kR eU al
  split at h
  ·rename_i U
   obtain⟨i,d,z,aG,aL,a1,b2,cb,bp,bk⟩:=aQ.info (dF al (by simp))
   obtain⟨ml,aV,mm,f1,f2,f3,f4,f5,f6,f7⟩:=aQ.info (dF U (by simp))
   rw[al]at bk
   rw[U]at f7
   have:=lv f7;subst this
   refine⟨kR,eU,?_,f6,fun w=> ?_⟩
   ·rw[bp];cases d<;>simp[hP]at bk
    rw[bk.1,bk.2]
   ·unfold yP at h
    split at h
    ·rename_i kB aE
     split at h
     ·rename_i aO;exact n6 aE aO w
     ·cases h
    ·cases h
  ·cases h
 ·cases h
theorem vx (a b:ByteArray):(a==b)=true↔a=b:=by
 constructor
 ·intro h
  exact ByteArray.ext (eq_of_beq (show(a.data==b.data)=true from h))
 ·rintro rfl
  show(a.data==a.data)=true
  simp
theorem vy (k:List UInt8) (b:Bool):∀(es:List MapEntry) (m:List (List UInt8×Bool)) (i:Nat),es.map (fun e=>(e.key,e.val))=m.map (fun e=>(.string ⟨⟨e.1⟩⟩,.bool e.2))→
  (Instr.findNow .string (.string ⟨⟨k⟩⟩) es i=some none∧m4 k m=false∧lp k b m=m++[(k,b)])∨
  ∃ad e,es[ad]? =some e∧e.key= .string ⟨⟨k⟩⟩∧Instr.findNow .string (.string ⟨⟨k⟩⟩) es i=some (some (i+ad,.bool (m4 k m)))∧lp k b m=m.set ad (k,b)
 |[],m,i,h=>by
  have:m=[]:=by simpa using h.symm
  subst this
  exact .inl ⟨rfl,rfl,rfl⟩
 |e::es,[],i,h=>by simp at h
 |e::es,(b3,dr)::m,i,h=>by
  simp only[List.map_cons,List.cons.injEq,Prod.mk.injEq]at h
  obtain⟨⟨U,aa⟩,aw⟩:=h
  by_cases al:b3=k
  ·subst al
   refine .inr ⟨0,e,rfl,U,?_,by simp[lp]⟩
   have:(((⟨⟨b3⟩⟩:ByteArray)==⟨⟨b3⟩⟩))=true:=(vx _ _).2 rfl
   simp only[Instr.findNow,U,aa,Instr.sameNow,m4,this,if_true,Nat.add_zero]
  ·have aR:((⟨⟨k⟩⟩:ByteArray)==⟨⟨b3⟩⟩)=false:=by
    refine Bool.eq_false_iff.2 fun e=>al ?_
    have:=(vx _ _).1 e
    simp only[ByteArray.mk.injEq,Array.mk.injEq]at this
    exact this.symm
   rcases vy k b es m (i+1) aw with⟨aE,aO,bg⟩|⟨ad,ei,aE,aO,bg,cd⟩
   ·refine .inl ⟨?_,?_,?_⟩
    ·simp only[Instr.findNow,U,Instr.sameNow,aR];exact aE
    ·simp[m4,al,aO]
    ·simp[lp,al,bg]
   ·refine .inr ⟨ad+1,ei,aE,aO,?_,?_⟩
    ·simp only[Instr.findNow,U,Instr.sameNow,aR]
     rw[bg];simp[m4,al,Nat.add_assoc,Nat.add_comm 1 ad]
    ·simp[lp,al,cd]
theorem s8 {P:Program} {kR:TypeId} (al:P.underlying kR=some .string) (e:Bool) (k:ByteArray) (w:World):(Instr.checkKey e 10000 kR (.string k)).run P w= .ok () w:=by
 unfold Instr.checkKey
 simp[run_underlying al]
theorem yR (h:aX w0 F0 X F S s ak w) {y:Nat} {q:List Nat} {m:List (List UInt8×Bool)} {v:Value} (aC:ar w F s ak (.h y q) v (fun _=>False)) (ab:j.sub q (s y)=some (.cx (.mp m))):
  ∃r ms ja,v= .map (some r)∧w.heap[r]? =some (.map ms ja)∧ms.toList.map (fun e=>(e.key,e.val))=m.map (fun e=>(.string ⟨⟨e.1⟩⟩,.bool e.2))∧
   ∃a,b0 w q (s y) (ba (ak y)) none=some (.cx (.mp m),[.map (some r)],a):=by
 rw[ar]at aC
 obtain⟨bG,a,aE,aO,bg⟩:=aC _ ab rfl
 have U:Value.dZ v=true:=bg
 rw[ek U]at aO
 have ao:=h.b5 y
 rw[ar.bx (fa ab (.inl rfl))]at ao
 obtain⟨dC,bM,cI,df,k0,bb,bq,cD,b1,cZ⟩:=ctx q (s y) (ba (ak y)) (S y) none _ ao.2 ab
 rw[k0]at aE
 simp only[Option.some.injEq,Prod.mk.injEq,true_and]at aE
 obtain⟨rfl,rfl⟩:=aE
 rw[ai]at b1
 obtain⟨r,ms,ja,aG,aL,a1,b2⟩:=b1
 rw[aG]at aO k0
 exact⟨r,ms,ja,by simpa using aO,a1,b2,bM,k0⟩
theorem EM (aQ:C.c5) (h:aX w0 F0 X F S s ak w) {T:TypeId} {x i:j} {fb jZ:Value} (ao:ar w F s ak x fb (fun _=>False)) (ay:ar w F s ak i jZ (fun _=>False)) (he:j6 C s T x i=some av):
  Good C w0 F0 X ak w (Instr.lookup T fb jZ false) av s:=by
 unfold j6 at he
 split at he
 ·rename_i y q k
  split at he
  ·rename_i m ab
   split at he
   ·rename_i ib
    simp only[Option.some.injEq]at he;subst he
    obtain⟨kR,eU,t1,t2,t3⟩:=yQ aQ ib
    obtain⟨r,ms,ja,rfl,aL,a1,_⟩:=yR h ao ab
    have:=jg ay;subst this
    refine Good.same h (v:=.bool (m4 k m)) ?_ rfl (of_bool _)
    rcases vy k true ms.toList m 0 a1 with⟨aE,aO,_⟩|⟨ad,e,_,_,aE,_⟩
    ·simp[Instr.lookup,run_underlying t1,getObj,Sem.run,aL,s8 t2,Instr.findKey,run_underlying t2,aE,t3,aO]
    ·simp[Instr.lookup,run_underlying t1,getObj,Sem.run,aL,s8 t2,Instr.findKey,run_underlying t2,aE]
   ·cases he
  ·cases he
 ·cases he
theorem EN (aQ:C.c5) (h:aX w0 F0 X F S s ak w) {T:TypeId} {x i v:j} {fb jZ yS:Value} (ao:ar w F s ak x fb (fun _=>False)) (ay:ar w F s ak i jZ (fun _=>False)) (aC:ar w F s ak v yS (fun _=>False)) {s2:ag}
  (he:jl C s T x i v=some s2):∃aq az,(Instr.mapUpdate T fb jZ yS).run C.P w= .ok () aq∧aX w0 F0 X F az s2 ak aq:=by
 unfold jl at he
 split at he
 ·rename_i y q k b
  split at he
  ·rename_i m ab
   split at he
   ·rename_i ib
    simp only[Option.some.injEq]at he;subst he
    obtain⟨kR,eU,t1,t2,t3⟩:=yQ aQ ib
    obtain⟨r,ms,ja,rfl,aL,a1,a0,g_⟩:=yR h ao ab
    have:=jg ay;subst this
    have:=nc aC;subst this
    have key:∀(s9:Array MapEntry) (vz:Nat),s9.toList.map (fun e=>(e.key,e.val))=(lp k b m).map (fun e=>(.string ⟨⟨e.1⟩⟩,.bool e.2))→
      ∃az,aX w0 F0 X F az (b4 (ff y s) y (j.put q (.cx (.mp (lp k b m))) (s y))) ak {w with heap:=w.heap.setIfInBounds r (.map s9 vz)}:=by
     intro s9 vz hm
     have aB:r<w.heap.size:=(Array.getElem?_eq_some_iff.1 aL).1
     refine aX.EK (b:=r) h ab rfl rfl (fun v aC=>aC) (fun v aC=>aC) (fun vs e=>by cases e) rfl ?_ (fun c ae=> ?_) (by simp) rfl rfl ⟨rfl,fun _=>Nat.le_refl _⟩
     ·intro bG a df bc dP
      rw[g_]at bc
      simp only[Option.some.injEq,Prod.mk.injEq,true_and]at bc
      obtain⟨rfl,_⟩:=bc
      rw[ai]at dP⊢
      obtain⟨fq,nk,Rw,f1,f2,f3,f4⟩:=dP
      simp only[List.cons.injEq,Value.map.injEq,Option.some.injEq,and_true]at f1
      subst f1
      exact⟨f2,r,s9,vz,rfl,f2,by simp[aB],hm⟩
     ·simp[Ne.symm ae]
    rcases vy k b ms.toList m 0 a1 with⟨aE,_,aO⟩|⟨ad,e,dL,ge,aE,aO⟩
    ·obtain⟨az,bb⟩:=key (ms.push {key:=.string ⟨⟨k⟩⟩,val:=.bool b,born:=ja}) (ja+1) (by rw[aO];simp[a1])
     exact⟨_,az,by simp[Instr.mapUpdate,run_underlying t1,getObj,setObj,Sem.run,aL,s8 t2,Instr.findKey,run_underlying t2,aE],bb⟩
    ·rw[Nat.zero_add]at aE
     obtain⟨az,bb⟩:=key (ms.modify ad fun e=>{e with key:=.string ⟨⟨k⟩⟩,val:=.bool b}) ja (by
      rw[aO,List.map_set,←a1]
      apply List.ext_getElem?
      intro n
      by_cases aR:n=ad
      ·subst aR
       have:n<ms.toList.length:=(List.getElem?_eq_some_iff.1 dL).1
       rw[List.getElem?_set_self (by simpa using this)]
       simp[dL]
      ·simp[List.getElem?_set_ne (Ne.symm aR),Ne.symm aR])
     have EO:ms[ad]? =some e:=by simpa using dL
     exact⟨_,az,by simp[Instr.mapUpdate,run_underlying t1,getObj,setObj,Sem.run,aL,s8 t2,Instr.findKey,run_underlying t2,aE,EO,ge,Instr.keyThatStays,Instr.sameBits,(vx ⟨⟨k⟩⟩ ⟨⟨k⟩⟩).2 rfl],bb⟩
   ·cases he
  ·cases he
 ·cases he
theorem EP (h:aX w0 F0 X F S s ak w) (t:TypeId):Good C w0 F0 X ak w (Instr.makeMap t none) (.cx (.mp [])) s:=by
 have hold:∀b,b<w.heap.size→(w.alloc (.map #[] 0)).heap[b]? =w.heap[b]? :=by
  intro b I
  show(w.heap.push _)[b]? =_
  rw[Array.getElem?_push,if_neg (by omega)]
 refine⟨.map (some w.heap.size),w.alloc (.map #[] 0),F,S,?_,h.grow hold (by simp) rfl rfl ⟨rfl,fun _=>Nat.le_refl _⟩,.inr ⟨rfl,rfl,fun b=>b=w.heap.size,?_,?_,?_,?_,?_⟩⟩
 ·simp[Instr.makeMap,newObj,Sem.run]
 ·rw[ai]
  refine⟨w.heap.size,#[],0,rfl,rfl,?_,rfl⟩
  show(w.heap.push _)[_]? =_
  simp
 ·rintro b rfl;simp
 ·rintro b rfl mq;exact Nat.lt_irrefl _ (h.db _ mq)
 ·rintro u b rfl hu;exact Nat.lt_irrefl _ (h.cT _ _ hu)
 ·rintro b rfl;exact .inr h.size
end
end Go.bZ
