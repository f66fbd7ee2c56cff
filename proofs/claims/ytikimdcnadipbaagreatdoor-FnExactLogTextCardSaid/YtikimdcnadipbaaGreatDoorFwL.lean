/- Part of a proof that a law returns true for every input. No condition. -/
import Derived.Test.YtikimdcnadipbaaGreatDoorFwK
namespace Go.bZ
theorem yL {α:Type} {h:Decidable True} (t e:α): @ite α True h t e=t:=if_pos trivial
theorem yM {α:Type} {h:Decidable False} (t e:α): @ite α False h t e=e:=if_neg id
theorem yN {α:Type} [BEq α] [ReflBEq α] (a:α):(a==a)=true:=BEq.rfl
theorem DQ {α:Type} (a b:α):(a≠b)=¬(a=b):=rfl
theorem DR:I.owner .hole=none∧(∀b,I.owner (.bool b)=none)∧I.owner .di=none∧(∀k n,I.owner (.int k n)=none)∧(∀x,I.owner (.str x)=none)∧I.owner .cw=none∧I.owner .bu=none∧(∀x,I.owner (.slice x)=none)∧(∀n x,I.owner (.aG n x)=none)∧
  (∀x,I.owner (.ref x)=none)∧(∀x,I.owner (.bG x)=none)∧(∀x,I.owner (.agg x)=none)∧(∀x,I.owner (.tuple x)=none)∧(∀f c,I.owner (.fn f c)=none)∧(∀x q,I.owner (.h x q)=some x):=
 ⟨rfl,fun _=>rfl,rfl,fun _ _=>rfl,fun _=>rfl,rfl,rfl,fun _=>rfl,fun _ _=>rfl,fun _=>rfl,fun _=>rfl,fun _=>rfl,fun _=>rfl,fun _ _=>rfl,fun _ _=>rfl⟩
theorem DS:(¬False)=True:=not_false_eq_true
theorem DT:(¬True)=False:=not_true_eq_false
theorem DU:∀a b:Nat,(some a=some b)=(a=b):=fun _ _=>propext ⟨fun h=>Option.some.inj h,fun h=>congrArg some h⟩
theorem DV:(∀n,num n []=[])∧(∀n a as,num n (a::as)=(n,a)::num (n+1) as):=⟨fun _=>rfl,fun _ _ _=>rfl⟩
theorem DW:∀s1:ag,hr (some s1)=some (.hole,s1):=fun _=>rfl
theorem DX {k cr:IntKind} {b m:Int} (h:¬b<0) (hm:2^(min b.toNat k.bits)=m):∀a,fC .shl k a cr b=some (.int k (k.wrap (a*m))):=fun _=>hm▸Ku h
theorem yO:(∀t o,gp t (.b9 o)= .h t [])∧(∀(l:List (Nat×I)) t o,fin (R l) (some t) (.b9 o)=R ((t,.b9 o)::k3 t l))∧(∀o,I.plain (.b9 o)=false)∧(∀t o,bP t (.b9 o)= .b9 o)∧(∀t o,bo t (.b9 o)= .b9 o)∧
  (∀o,I.b0 (.b9 o)= .hole)∧(∀o,I.wd (.b9 o)=1)∧(∀o,I.eI (.b9 o)=true)∧(∀a b,n4 (.b9 a) (.b9 b)=true)∧(∀s x q d o,bO.fR s ⟨.h x q,true,d,.b9 o⟩=cf (iK x s) x (I.put q (.b9 o) (s x)))∧(∀o,I.U (.b9 o)=[])∧(∀o,I.tree (.b9 o)=true)∧(∀a b n m z,ee.ok ⟨.map a b,n,m,z⟩=true)∧(∀a b n m z,ee.flat ⟨.map a b,n,m,z⟩=true):=
 ⟨fun _ _=>rfl,fun l t o=>by simp only[fin,I.plain,Bool.false_eq_true,if_false,qt,hZ],fun _=>rfl,fun _ _=>by unfold bP;rfl,fun _ _=>by unfold bo;rfl,fun _=>by simp only[I.b0],fun _=>by simp only[I.wd],fun _=>rfl,fun _ _=>rfl,fun _ _ _ _ _=>by simp[bO.fR],fun _=>by simp only[I.U],fun _=>rfl,fun _ _ _ _ _=>rfl,fun _ _ _ _ _=>rfl⟩
def bf:=PLift.up (And.intro yO<|And.intro DV<|And.intro DW<|And.intro DU<|And.intro DR<|And.intro DS<|And.intro DT<|And.intro @yL (And.intro @yM (And.intro @yN (And.intro @DQ KR.down))))
def mr:=PLift.up (And.intro yO<|And.intro DV<|And.intro DW<|And.intro DU<|And.intro DR<|And.intro DS<|And.intro DT<|And.intro @yL (And.intro @yM (And.intro @yN (And.intro @DQ sU.down))))
def cm:=PLift.up (And.intro yO<|And.intro @yN<|And.intro @yL (And.intro @yM KS.down))
def pA (l:List Nat):List Nat:=l.foldr (fun x acc=>if acc.contains x then acc else x::acc) []
theorem DY {x:Nat}:∀{l:List Nat},x∈pA l↔x∈l
 |[]=>Iff.rfl
 |y::l=>by
  have ih:=DY (x:=x) (l:=l)
  have e:pA (y::l)=if(pA l).contains y then pA l else y::pA l:=rfl
  rw[e]
  split
  ·rename_i h
   have aT:y∈pA l:=by simpa using h
   constructor
   ·intro ai;exact List.mem_cons_of_mem _ (ih.1 ai)
   ·intro ai
    rcases List.mem_cons.1 ai with rfl|ai
    ·exact aT
    ·exact ih.2 ai
  ·simp only[List.mem_cons,ih]
def yP:List (List Nat)→List (List Nat)→List (List Nat)
 |done,[]=>done
 |done,a::r=>yP (done++[pA (a++a.flatMap fun e=>(done[e]?).getD [])]) r
def Ls (eS:List (List Nat)):List (List Nat):=yP [] eS
def yQ (c d:List (List Nat)):Prop:=c.length=d.length∧∀(i x:Nat),x∈(c[i]?).getD []↔x∈(d[i]?).getD []
theorem DZ:∀(r c d:List (List Nat)),yQ c d→yQ (yP c r) (sN d r)
 |[],c,d,h=>h
 |a::r,c,d,h=>by
  refine DZ r _ _ ⟨by simp[h.1],fun i x=> ?_⟩
  rcases Nat.lt_trichotomy i c.length with ay|ay|ay
  ·rw[List.getElem?_append_left ay,List.getElem?_append_left (by rw[←h.1];exact ay)]
   exact h.2 i x
  ·rw[List.getElem?_append_right (by omega),List.getElem?_append_right (by rw[←h.1];omega),ay,Nat.sub_self,h.1,Nat.sub_self]
   simp only[List.getElem?_cons_zero,Option.getD_some,DY,List.mem_append,List.mem_flatMap]
   constructor
   ·rintro(ai|⟨e,he,ai⟩)
    ·exact .inl ai
    ·exact .inr ⟨e,he,(h.2 e x).1 ai⟩
   ·rintro(ai|⟨e,he,ai⟩)
    ·exact .inl ai
    ·exact .inr ⟨e,he,(h.2 e x).2 ai⟩
  ·rw[List.getElem?_eq_none (by simp;omega),List.getElem?_eq_none (by simp[←h.1];omega)]
theorem D0 {c d:List (List Nat)} (h:yQ c d):∀(aj:List dG) (j:Nat) (es:List (Nat×dG)),jW c j es aj=jW d j es aj
 |[],_,_=>rfl
 |f::aj,j,es=>by
  simp only[jW]
  rw[D0 h aj]
  congr 2
  funext e
  congr 1
  rw[Bool.eq_iff_iff]
  simp only[List.contains_iff_mem]
  exact h.2 j e.1
theorem u3 {eS:List (List Nat)} {j:Nat} {es:List (Nat×dG)} {aj:List dG} (h:jW (Ls eS) j es aj=true):jW (qx eS) j es aj=true:=by
 exact(D0 (DZ eS [] [] ⟨rfl,fun _ _=>Iff.rfl⟩) aj j es).symm.trans h
abbrev ro (d:Nat) (a7:dS):bn:=⟨some d,a7,none⟩
abbrev aq (d x:Nat):bn:=ro d (.cg (.t x))
abbrev aS (d x:Nat):bn:=ro d (.df (.t x))
abbrev ew (d T x:Nat):bn:=ro d (.c7 T (.t x))
abbrev fI (d T x k:Nat):bn:=ro d (.dX T (.t x) k)
abbrev iB (d T x i:Nat):bn:=ro d (.ej T (.t x) (.t i))
abbrev mu (d T x i:Nat):bn:=ro d (.idx T (.t x) (.t i))
abbrev dp (d T x:Nat):bn:=ro d (.len T (.t x))
abbrev s0 (d x:Nat):bn:=ro d (.ek (.t x))
abbrev cR (d:Nat) (o:BinOp) (T x y:Nat):bn:=ro d (.bC o T (.t x) (.t y))
abbrev b7 (d:Nat) (o:BinOp) (T x:Nat) (n:Int):bn:=ro d (.bC o T (.t x) (.c (.int .i64 n)))
abbrev oq (d:Nat) (n:Int):bn:=ro d (.cg (.c (.int .i64 n)))
abbrev dk (d:Nat) (n:Int):bn:=ro d (.df (.c (.int .i64 n)))
abbrev cC (d:Nat) (b:Bool):bn:=ro d (.df (.c (.bool b)))
abbrev jz (d:Nat):bn:=ro d (.df (.c .bu))
abbrev u4 (d T:Nat):bn:=ro d (.e1 T)
abbrev eY (d g a:Nat):bn:=ro d (.call (.f g) [.t a])
abbrev fw (d g a b:Nat):bn:=ro d (.call (.f g) [.t a,.t b])
abbrev gE (d x k:Nat):bn:=ro d (.ex (.t x) k)
abbrev h1 (d x:Nat):bn:=ro d (.un .not (.t x))
abbrev q2 (d T x:Nat):bn:=ro d (.cF T 1 [(0,.t x)])
abbrev pB (d T a6 x y:Nat):bn:=ro d (.app T a6 (.t x) (.t y))
abbrev mv (T x y:Nat):bn:=⟨none,.et T (.t x) (.t y),none⟩
abbrev s3 (d A B x:Nat):bn:=ro d (.dR A B (.t x))
theorem bj.D1 {C:bm} (aV:C.db) {f:FuncId} {fn:Func} {c:Code} {dF:ad} {fx:List Nat} {as outs:List I} {r:I} (eg:List ResultVar) (l:List (Nat×I)) (bc:C.P.funcs[f]? =some fn) (J:fn.body=some c)
  (iz:(fn.name== "runtime.NumGoroutine")=false) (U:bR ⟨fn.ntmps,fx⟩ c=some dF.strip) (aQ:as.length≤fn.ntmps) (eu:fn.results.toList=eg) (aI:num 0 as=l)
  (h:∀Q:Exit→ag→Prop,(∀s,eo (Ends C fx eg r outs) s→Q .ret s)→(∀s,eo (Ends C fx eg r outs) s→Q .normal s)→ca C dF Q (R l)) (ah:dF.plain=true:=by kernel_rfl):bj C f as r outs:=by
 subst eu aI
 exact bj.KA aV bc J iz U aQ h ah
theorem nq.D1 {C:bm} (aV:C.db) {f:FuncId} {fn:Func} {c:Code} {dF:ad} {fx:List Nat} {as outs:List I} {r:I} {k m:Nat} (eg:List ResultVar) (l:List (Nat×I)) (bc:C.P.funcs[f]? =some fn) (J:fn.body=some c)
  (iz:(fn.name== "runtime.NumGoroutine")=false) (U:bR ⟨fn.ntmps,fx⟩ c=some dF.strip) (aQ:as.length≤fn.ntmps) (al:dF.mi (yJ C f fx as.length m k)) (eu:fn.results.toList=eg) (aI:num 0 as=l)
  (h:∀Q:Exit→ag→Prop,(∀s,eo (Ends C fx eg r outs) s→Q .ret s)→(∀s,eo (Ends C fx eg r outs) s→Q .normal s)→ca C dF Q (R l)):nq C f m k as r outs:=by
 subst eu aI
 exact nq.of_wp aV bc J iz U aQ al h
theorem pC {b:Bool} (h:(!b)=true):b=false:=by cases b<;>first|rfl|cases h
theorem mw {b:Bool} (h:(!b)=false):b=true:=by cases b<;>first|rfl|cases h
section
variable {C:bm} {s:ag} {l:List (Nat×I)} {Q:Exit→ag→Prop}
theorem bq {fx:List Nat} {eg:List ResultVar} {r:I} (ds:List I) (ab:r=Dc ds:=by cases wJ (by assumption);rfl) (aa:eg.map (ni C s)=ds.map some:=by rfl) (aB:(eg.map hY).Nodup:=by decide):Ends C fx eg r [] s:=
 KB ds aa ab aB KC
theorem bz {jU:ag→Prop} {a b:ad} (s4:∀s,jU s→Q .ret s) (h:∀cZ:Exit→ag→Prop,(∀s,eo (ca C b Q) s→cZ .normal s)→(∀s,jU s→cZ .ret s)→(∀i s,Q (.exit i) s→cZ (.exit i) s)→ca C a cZ s):ca C (.seq a b) Q s:=
 Kx fun cZ n q x=>h cZ n (fun s U=>q s (s4 s U)) x
theorem dd {jU:ag→Prop} {id:Nat} {b:ad} (s4:∀s,jU s→Q .ret s) (h:∀cZ:Exit→ag→Prop,(∀s,Q .normal s→cZ .normal s)→(∀s,jU s→cZ .ret s)→(∀s,Q .normal s→cZ (.exit id) s)→(∀i s,i≠id→Q (.exit i) s→cZ (.exit i) s)→ca C b cZ s):ca C (.block id b) Q s:=
 Ky fun cZ n q b x=>h cZ n (fun s U=>q s (s4 s U)) b x
theorem gd {jU:ag→Prop} {b:ad} (s4:∀s,jU s→Q .ret s) (h:∀cZ:Exit→ag→Prop,(∀s,eo (e_ C b Q) s→cZ .normal s)→(∀s,jU s→cZ .ret s)→(∀i s,Q (.exit i) s→cZ (.exit i) s)→ca C b cZ s):e_ C b Q s:=
 Kz fun cZ n q x=>h cZ n (fun s U=>q s (s4 s U)) x
theorem b8 {β:Type} {c:aw} {t e:ad} {b:Bool} {x y:Option β} {r:β} (h:cond b x y=some r) (aa:b=true→x=some r→ca C t Q s) (ab:b=false→y=some r→ca C e Q s) (af:az s c= .bool b:=by rfl):ca C (.cond c t e) Q s:=by
 rcases gH h with⟨rfl,h⟩|⟨rfl,h⟩
 ·exact mj af (aa rfl h)
 ·exact sQ af (ab rfl h)
end
end Go.bZ
