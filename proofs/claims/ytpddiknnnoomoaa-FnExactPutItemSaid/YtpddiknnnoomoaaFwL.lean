/- Part of a proof that a law returns true for every input. No condition. -/
import Derived.Test.YtpddiknnnoomoaaFwK
namespace Go.bZ
theorem w5 {α:Type} {h:Decidable True} (t e:α): @ite α True h t e=t:=if_pos trivial
theorem w6 {α:Type} {h:Decidable False} (t e:α): @ite α False h t e=e:=if_neg id
theorem w7 {α:Type} [BEq α] [ReflBEq α] (a:α):(a==a)=true:=BEq.rfl
theorem BC {α:Type} (a b:α):(a≠b)=¬(a=b):=rfl
theorem BD:j.owner .hole=none∧(∀b,j.owner (.bool b)=none)∧j.owner .c2=none∧(∀k n,j.owner (.int k n)=none)∧(∀x,j.owner (.str x)=none)∧j.owner .cw=none∧j.owner .bt=none∧(∀x,j.owner (.slice x)=none)∧(∀n x,j.owner (.aH n x)=none)∧
  (∀x,j.owner (.ref x)=none)∧(∀x,j.owner (.bm x)=none)∧(∀x,j.owner (.agg x)=none)∧(∀x,j.owner (.tuple x)=none)∧(∀f c,j.owner (.fn f c)=none)∧(∀x q,j.owner (.h x q)=some x):=
 ⟨rfl,fun _=>rfl,rfl,fun _ _=>rfl,fun _=>rfl,rfl,rfl,fun _=>rfl,fun _ _=>rfl,fun _=>rfl,fun _=>rfl,fun _=>rfl,fun _=>rfl,fun _ _=>rfl,fun _ _=>rfl⟩
theorem BE:(¬False)=True:=not_false_eq_true
theorem BF:(¬True)=False:=not_true_eq_false
theorem BG:∀a b:Nat,(some a=some b)=(a=b):=fun _ _=>propext ⟨fun h=>Option.some.inj h,fun h=>congrArg some h⟩
theorem BH:(∀n,num n []=[])∧(∀n a as,num n (a::as)=(n,a)::num (n+1) as):=⟨fun _=>rfl,fun _ _ _=>rfl⟩
theorem BI:∀s1:ag,gR (some s1)=some (.hole,s1):=fun _=>rfl
theorem BJ {k b3:IntKind} {b m:Int} (h:¬b<0) (hm:2^(min b.toNat k.bits)=m):∀a,e2 .shl k a b3 b=some (.int k (k.wrap (a*m))):=fun _=>hm▸HF h
theorem IL {k b3:IntKind} {b m:Int} (h:¬b<0) (hm:2^(min b.toNat k.bits)=m):∀a,e2 .shr k a b3 b=some (.int k (a.fdiv m)):=fun _=>hm▸HG h
theorem w8:(∀t o,ga t (.cx o)= .h t [])∧(∀(l:List (Nat×j)) t o,fin (J l) (some t) (.cx o)=J ((t,.cx o)::ki t l))∧(∀o,j.plain (.cx o)=false)∧(∀t o,bJ t (.cx o)= .cx o)∧(∀t o,bn t (.cx o)= .cx o)∧
  (∀o,j.bT (.cx o)= .hole)∧(∀o,j.wd (.cx o)=1)∧(∀o,j.dS (.cx o)=true)∧(∀a b,nr (.cx a) (.cx b)=true)∧(∀s x q d o,bH.fI s ⟨.h x q,true,d,.cx o⟩=b4 (ia x s) x (j.put q (.cx o) (s x)))∧(∀o,j.R (.cx o)=[])∧(∀o,j.tree (.cx o)=true)∧(∀a b n m z,dR.ok ⟨.map a b,n,m,z⟩=true)∧(∀a b n m z,dR.flat ⟨.map a b,n,m,z⟩=true):=
 ⟨fun _ _=>rfl,fun l t o=>by simp only[fin,j.plain,Bool.false_eq_true,if_false,pQ,hB],fun _=>rfl,fun _ _=>by unfold bJ;rfl,fun _ _=>by unfold bn;rfl,fun _=>by simp only[j.bT],fun _=>by simp only[j.wd],fun _=>rfl,fun _ _=>rfl,fun _ _ _ _ _=>by simp[bH.fI],fun _=>by simp only[j.R],fun _=>rfl,fun _ _ _ _ _=>rfl,fun _ _ _ _ _=>rfl⟩
def bA:=PLift.up (And.intro w8<|And.intro BH<|And.intro BI<|And.intro BG<|And.intro BD<|And.intro BE<|And.intro BF<|And.intro @w5 (And.intro @w6 (And.intro @w7 (And.intro @BC H0.down))))
def c_:=PLift.up (And.intro w8<|And.intro BH<|And.intro BI<|And.intro BG<|And.intro BD<|And.intro BE<|And.intro BF<|And.intro @w5 (And.intro @w6 (And.intro @w7 (And.intro @BC hG.down))))
def b_:=PLift.up (And.intro w8<|And.intro @w7<|And.intro @w5 (And.intro @w6 H2.down))
def oP (l:List Nat):List Nat:=l.foldr (fun x acc=>if acc.contains x then acc else x::acc) []
theorem BK {x:Nat}:∀{l:List Nat},x∈oP l↔x∈l
 |[]=>Iff.rfl
 |y::l=>by
  have ih:=BK (x:=x) (l:=l)
  have e:oP (y::l)=if(oP l).contains y then oP l else y::oP l:=rfl
  rw[e]
  split
  ·rename_i h
   have a2:y∈oP l:=by simpa using h
   constructor
   ·intro ao;exact List.mem_cons_of_mem _ (ih.1 ao)
   ·intro ao
    rcases List.mem_cons.1 ao with rfl|ao
    ·exact a2
    ·exact ih.2 ao
  ·simp only[List.mem_cons,ih]
def w9:List (List Nat)→List (List Nat)→List (List Nat)
 |done,[]=>done
 |done,a::r=>w9 (done++[oP (a++a.flatMap fun e=>(done[e]?).getD [])]) r
def IM (cg:List (List Nat)):List (List Nat):=w9 [] cg
def w_ (c d:List (List Nat)):Prop:=c.length=d.length∧∀(i x:Nat),x∈(c[i]?).getD []↔x∈(d[i]?).getD []
theorem BL:∀(r c d:List (List Nat)),w_ c d→w_ (w9 c r) (rV d r)
 |[],c,d,h=>h
 |a::r,c,d,h=>by
  refine BL r _ _ ⟨by simp[h.1],fun i x=> ?_⟩
  rcases Nat.lt_trichotomy i c.length with ay|ay|ay
  ·rw[List.getElem?_append_left ay,List.getElem?_append_left (by rw[←h.1];exact ay)]
   exact h.2 i x
  ·rw[List.getElem?_append_right (by omega),List.getElem?_append_right (by rw[←h.1];omega),ay,Nat.sub_self,h.1,Nat.sub_self]
   simp only[List.getElem?_cons_zero,Option.getD_some,BK,List.mem_append,List.mem_flatMap]
   constructor
   ·rintro(ao|⟨e,he,ao⟩)
    ·exact .inl ao
    ·exact .inr ⟨e,he,(h.2 e x).1 ao⟩
   ·rintro(ao|⟨e,he,ao⟩)
    ·exact .inl ao
    ·exact .inr ⟨e,he,(h.2 e x).2 ao⟩
  ·rw[List.getElem?_eq_none (by simp;omega),List.getElem?_eq_none (by simp[←h.1];omega)]
theorem BM {c d:List (List Nat)} (h:w_ c d):∀(ah:List dk) (ad:Nat) (es:List (Nat×dk)),hC c ad es ah=hC d ad es ah
 |[],_,_=>rfl
 |f::ah,ad,es=>by
  simp only[hC]
  rw[BM h ah]
  congr 2
  funext e
  congr 1
  rw[Bool.eq_iff_iff]
  simp only[List.contains_iff_mem]
  exact h.2 ad e.1
theorem hh {cg:List (List Nat)} {ad:Nat} {es:List (Nat×dk)} {ah:List dk} (h:hC (IM cg) ad es ah=true):hC (lS cg) ad es ah=true:=by
 exact(BM (BL cg [] [] ⟨rfl,fun _ _=>Iff.rfl⟩) ah ad es).symm.trans h
abbrev ro (d:Nat) (a6:dI):bh:=⟨some d,a6,none⟩
abbrev aD (d x:Nat):bh:=ro d (.cA (.t x))
abbrev bw (d x:Nat):bh:=ro d (.fs (.t x))
abbrev dX (d T x:Nat):bh:=ro d (.cR T (.t x))
abbrev fV (d T x k:Nat):bh:=ro d (.dG T (.t x) k)
abbrev iw (d T x i:Nat):bh:=ro d (.dx T (.t x) (.t i))
abbrev nJ (d T x i:Nat):bh:=ro d (.idx T (.t x) (.t i))
abbrev fk (d T x:Nat):bh:=ro d (.len T (.t x))
abbrev ey (d:Nat) (o:BinOp) (T x y:Nat):bh:=ro d (.bV o T (.t x) (.t y))
abbrev cH (d:Nat) (o:BinOp) (T x:Nat) (n:Int):bh:=ro d (.bV o T (.t x) (.c (.int .i64 n)))
abbrev tF (d:Nat) (n:Int):bh:=ro d (.cA (.c (.int .i64 n)))
abbrev cK (d:Nat) (n:Int):bh:=ro d (.fs (.c (.int .i64 n)))
abbrev dJ (d:Nat) (b:Bool):bh:=ro d (.fs (.c (.bool b)))
abbrev jt (d:Nat):bh:=ro d (.fs (.c .bt))
abbrev xa (d T:Nat):bh:=ro d (.eR T)
abbrev gi (d g a:Nat):bh:=ro d (.call (.f g) [.t a])
abbrev hH (d g a b:Nat):bh:=ro d (.call (.f g) [.t a,.t b])
abbrev IP (d g a b c:Nat):bh:=ro d (.call (.f g) [.t a,.t b,.t c])
abbrev ix (d x k:Nat):bh:=ro d (.ex (.t x) k)
abbrev h5 (d x:Nat):bh:=ro d (.un .not (.t x))
abbrev r4 (d T x:Nat):bh:=ro d (.c0 T 1 [(0,.t x)])
abbrev tG (d T a5 x y:Nat):bh:=ro d (.app T a5 (.t x) (.t y))
abbrev nK (T x y:Nat):bh:=⟨none,.ea T (.t x) (.t y),none⟩
abbrev km (d A B x:Nat):bh:=ro d (.dH A B (.t x))
theorem b8.BN {C:bo} (aQ:C.c5) {f:FuncId} {fn:Func} {c:Code} {c3:af} {fx:List Nat} {as outs:List j} {r:j} (dt:List ResultVar) (l:List (Nat×j)) (bc:C.P.funcs[f]? =some fn) (I:fn.body=some c)
  (h3:(fn.name== "runtime.NumGoroutine")=false) (R:cB ⟨fn.ntmps,fx⟩ c=some c3.strip) (aR:as.length≤fn.ntmps) (dP:fn.results.toList=dt) (hl:num 0 as=l)
  (h:∀Q:Exit→ag→Prop,(∀s,dN (Ends C fx dt r outs) s→Q .ret s)→(∀s,dN (Ends C fx dt r outs) s→Q .normal s)→bW C c3 Q (J l)) (an:c3.plain=true:=by kernel_rfl):b8 C f as r outs:=by
 subst dP hl
 exact b8.HN aQ bc I h3 R aR h an
theorem mK.BN {C:bo} (aQ:C.c5) {f:FuncId} {fn:Func} {c:Code} {c3:af} {fx:List Nat} {as outs:List j} {r:j} {k m:Nat} (dt:List ResultVar) (l:List (Nat×j)) (bc:C.P.funcs[f]? =some fn) (I:fn.body=some c)
  (h3:(fn.name== "runtime.NumGoroutine")=false) (R:cB ⟨fn.ntmps,fx⟩ c=some c3.strip) (aR:as.length≤fn.ntmps) (al:c3.lQ (w4 C f fx as.length m k)) (dP:fn.results.toList=dt) (hl:num 0 as=l)
  (h:∀Q:Exit→ag→Prop,(∀s,dN (Ends C fx dt r outs) s→Q .ret s)→(∀s,dN (Ends C fx dt r outs) s→Q .normal s)→bW C c3 Q (J l)):mK C f m k as r outs:=by
 subst dP hl
 exact mK.of_wp aQ bc I h3 R aR al h
theorem iy {b:Bool} (h:(!b)=true):b=false:=by cases b<;>first|rfl|cases h
theorem fl {b:Bool} (h:(!b)=false):b=true:=by cases b<;>first|rfl|cases h
def nL (p:List Nat) (ros:List bh):List bh:=p.map fun i=>ros.getD i ⟨none,.bad,none⟩
def kn (cg:List (List Nat)) (b a:Nat):List (List Nat):=cg.set b (a::(cg[b]?).getD [])
def qk (p:List Nat) (cg:List (List Nat)):List (List Nat):=p.map fun i=>((cg[i]?).getD []).map fun e=>p.idxOf e
theorem r5 {p:List Nat} {i:Nat} (h:i∈p):p[p.idxOf i]? =some i:=by
 have hl:=List.idxOf_lt_length_of_mem h
 rw[List.getElem?_eq_getElem hl,List.getElem_idxOf hl]
theorem IQ {p:List Nat} {i ad:Nat} (ay:i∈p) (aU:ad∈p) (h:p.idxOf i=p.idxOf ad):i=ad:=by
 have a:=r5 ay
 rw[h,r5 aU]at a
 exact(Option.some.inj a).symm
theorem BO {C:bo} {ros:List bh} {p:List Nat} (an:∀i∈p,i<ros.length):∀(l:List Nat) (s:ag) (K:ag→Prop),(∀i∈l,i∈p)→fK C (nL p ros) s (l.map p.idxOf) K→fK C ros s l K
 |[],_,_,_,h=>h
 |i::l,s,K,hl,h=>by
  have ay:=hl i (by simp)
  have aG:(nL p ros)[p.idxOf i]? =some (ros.getD i ⟨none,.bad,none⟩):=by
   rw[nL,List.getElem?_map,r5 ay];rfl
  have aL:ros[i]? =some (ros.getD i ⟨none,.bad,none⟩):=by
   rw[List.getD_eq_getElem?_getD,List.getElem?_eq_getElem (an i ay)];rfl
  rw[List.map_cons,fK,aG]at h
  rw[fK,aL]
  exact tl h fun s1 U=>BO an l s1 K (fun ad aU=>hl ad (by simp[aU])) U
theorem IU {cg:List (List Nat)} {p l:List Nat} (aR:p.Nodup) (hm:∀i,i∈p↔i<cg.length) (h:kZ cg l):kZ (qk p cg) (l.map p.idxOf):=by
 obtain⟨U,aa,aw⟩:=h
 have ql:∀i∈l,i∈p:=fun i ay=>(hm i).2 ((aa i).1 ay)
 refine⟨?_,fun ad=> ?_,?_⟩
 ·rw[List.Nodup,List.pairwise_map]
  exact List.Pairwise.imp_of_mem (fun bN I fC e=>fC (IQ (ql _ bN) (ql _ I) e)) U
 ·rw[qk,List.length_map,List.mem_map]
  constructor
  ·rintro⟨i,ay,rfl⟩
   exact List.idxOf_lt_length_of_mem (ql i ay)
  ·intro aU
   have xb:p[ad]∈p:=List.getElem_mem aU
   refine⟨p[ad],(aa _).2 ((hm _).1 xb),?_⟩
   have e:=r5 xb
   have cC:=List.idxOf_lt_length_of_mem xb
   rw[List.getElem?_eq_getElem cC]at e
   exact(List.getElem_inj aR).1 (Option.some.inj e)
 ·intro u ad v hu e he
  obtain⟨pJ,w0,rfl,rfl,hw⟩:=List.map_eq_append_iff.1 hu
  obtain⟨i,v0,rfl,rfl,rfl⟩:=List.map_eq_cons_iff.1 hw
  have ay:i∈p:=ql i (by simp)
  rw[qk,List.getElem?_map,r5 ay]at he
  simp only[Option.map_some,Option.getD_some,List.mem_map]at he
  obtain⟨eu,IV,rfl⟩:=he
  exact List.mem_map_of_mem (aw pJ i v0 rfl eu IV)
theorem BP {cg:List (List Nat)} {l u v:List Nat} {a b:Nat} (h:kZ cg l) (hl:l=u++a::v) (I:b∈v) (fC:a≠b):kZ (kn cg b a) l:=by
 obtain⟨U,aa,aw⟩:=h
 refine⟨U,fun i=>by rw[aa,kn,List.length_set],fun oq i v2 hu e he=> ?_⟩
 by_cases BQ:i=b
 ·subst BQ
  have cC:i<cg.length:=(aa i).1 (by rw[hl];simp[I])
  rw[kn,List.getElem?_set_self cC]at he
  simp only[Option.getD_some,List.mem_cons]at he
  rcases he with rfl|he
  ·have e:=hl.symm.trans hu
   rcases List.append_eq_append_iff.1 e with⟨c,nn,hT⟩|⟨c,nn,hT⟩
   ·cases c with
    |nil=>simp at hT;exact absurd hT.1 fC
    |cons x c=>simp at hT;rw[nn,hT.1];simp
   ·cases c with
    |nil=>simp at hT;exact absurd hT.1.symm fC
    |cons x c=>
     simp at hT
     exfalso
     rw[hl,nn,←hT.1]at U
     have:=(List.nodup_append.1 U).2.2 i (by simp) i (by simp[I])
     exact this rfl
  ·exact aw oq i v2 hu e he
 ·rw[kn,List.getElem?_set_ne (fun e=>BQ e.symm)]at he
  exact aw oq i v2 hu e he
theorem IW {cg:List (List Nat)} {l:List Nat} {a b:Nat} (h:kZ cg l) (bN:a<cg.length) (I:b<cg.length) (fC:a≠b):kZ (kn cg b a) l∨kZ (kn cg a b) l:=by
 obtain⟨u,v,hl⟩:=List.append_of_mem ((h.2.1 a).2 bN)
 have ng:=(h.2.1 b).2 I
 rw[hl]at ng
 simp only[List.mem_append,List.mem_cons]at ng
 rcases ng with IX|rfl|IY
 ·obtain⟨nm,oq,rfl⟩:=List.append_of_mem IX
  exact .inr (BP h (u:=nm) (v:=oq++a::v) (by rw[hl];simp) (by simp) (fun e=>fC e.symm))
 ·exact absurd rfl fC
 ·exact .inl (BP h hl IY fC)
theorem IZ {C:bo} {ros:List bh} {cg:List (List Nat)} {s:ag} {K:ag→Prop} (a b:Nat) (p:List Nat) (hlen:cg.length=ros.length) (ae:(decide (a<cg.length)&&decide (b<cg.length)&&decide (a≠b)&&decide p.Nodup&&(List.range cg.length).all (fun i=>p.contains i)&&p.all (fun i=>decide (i<cg.length)))=true)
  (U:bz C s ros (some []) (fun acc s=>hC (lS (kn cg b a)) 0 [] (acc.getD []).reverse=true∧K s))
  (aa:bz C s (nL p ros) (some []) (fun acc s=>hC (lS (qk p (kn cg a b))) 0 [] (acc.getD []).reverse=true∧K s)):∀l,kZ cg l→fK C ros s l K:=by
 simp only[Bool.and_eq_true,decide_eq_true_eq,List.all_eq_true]at ae
 obtain⟨⟨⟨⟨⟨bN,I⟩,fC⟩,aR⟩,eE⟩,BR⟩:=ae
 intro l hl
 have BS:∀i ad,(kn cg i ad).length=cg.length:=fun i ad=>by rw[kn,List.length_set]
 rcases IW hl bN I fC with h|h
 ·exact wH ((BS _ _).trans hlen) U l h
 ·have hm:∀i,i∈p↔i<cg.length:=by
   intro i
   refine⟨BR i,fun ay=> ?_⟩
   simpa using eE i (List.mem_range.2 ay)
  have ql:=IU aR (fun i=>by rw[hm,BS]) h
  refine BO (fun i ay=>by rw[←hlen];exact BR i ay) l s K (fun i ay=>(hm i).2 ((hl.2.1 i).1 ay)) ?_
  exact wH (by rw[qk,nL,List.length_map,List.length_map]) aa _ ql
theorem BT {C:bo} {Q:Exit→ag→Prop} {l:List (Nat×j)} {ros:List bh} {cg:List (List Nat)} {k:List Nat} {c:af} (a b:Nat) (p:List Nat) (hlen:cg.length=ros.length) (ae:(decide (a<cg.length)&&decide (b<cg.length)&&decide (a≠b)&&decide p.Nodup&&(List.range cg.length).all (fun i=>p.contains i)&&p.all (fun i=>decide (i<cg.length)))=true)
  (cM:List (Nat×j)) (U:∀P:List (Nat×j)→Prop,P cM→bz C (J l) ros (some []) (fun acc s=>hC (lS (kn cg b a)) 0 [] (acc.getD []).reverse=true∧P (fL k s)))
  (aa:∀P:List (Nat×j)→Prop,P cM→bz C (J l) (nL p ros) (some []) (fun acc s=>hC (lS (qk p (kn cg a b))) 0 [] (acc.getD []).reverse=true∧P (fL k s))) (al:bW C c Q (J cM)):
  bW C (.seq (.iW ros cg (some k)) c) Q (J l):=
 IZ (K:=fun s=>dN (bW C c Q) (J (fL k s))) a b p hlen ae (U (fun l=>dN (bW C c Q) (J l)) (.inl al)) (aa (fun l=>dN (bW C c Q) (J l)) (.inl al))
section
variable {C:bo} {s:ag} {l:List (Nat×j)} {Q:Exit→ag→Prop}
theorem bU {fx:List Nat} {dt:List ResultVar} {r:j} (ds:List j) (aa:r=A0 ds:=by cases sL (by assumption);rfl) (U:dt.map (mC C s)=ds.map some:=by rfl) (aw:(dt.map gF).Nodup:=by decide):Ends C fx dt r [] s:=
 A1 ds U aa aw HO
theorem bY {jr:ag→Prop} {a b:af} (r6:∀s,jr s→Q .ret s) (h:∀cW:Exit→ag→Prop,(∀s,dN (bW C b Q) s→cW .normal s)→(∀s,jr s→cW .ret s)→(∀i s,Q (.exit i) s→cW (.exit i) s)→bW C a cW s):bW C (.seq a b) Q s:=
 HJ fun cW n q x=>h cW n (fun s R=>q s (r6 s R)) x
theorem ez {jr:ag→Prop} {id:Nat} {b:af} (r6:∀s,jr s→Q .ret s) (h:∀cW:Exit→ag→Prop,(∀s,Q .normal s→cW .normal s)→(∀s,jr s→cW .ret s)→(∀s,Q .normal s→cW (.exit id) s)→(∀i s,i≠id→Q (.exit i) s→cW (.exit i) s)→bW C b cW s):bW C (.block id b) Q s:=
 HL fun cW n q b x=>h cW n (fun s R=>q s (r6 s R)) b x
theorem iz {jr:ag→Prop} {b:af} (r6:∀s,jr s→Q .ret s) (h:∀cW:Exit→ag→Prop,(∀s,dN (gG C b Q) s→cW .normal s)→(∀s,jr s→cW .ret s)→(∀i s,Q (.exit i) s→cW (.exit i) s)→bW C b cW s):gG C b Q s:=
 HM fun cW n q x=>h cW n (fun s R=>q s (r6 s R)) x
theorem cz {β:Type} {c:au} {t e:af} {b:Bool} {x y:Option β} {r:β} (h:cond b x y=some r) (U:b=true→x=some r→bW C t Q s) (aa:b=false→y=some r→bW C e Q s) (ae:ax s c= .bool b:=by rfl):bW C (.cond c t e) Q s:=by
 rcases iF h with⟨rfl,h⟩|⟨rfl,h⟩
 ·exact nD ae (U rfl h)
 ·exact oJ ae (aa rfl h)
end
end Go.bZ
