/- Part of a proof that a law returns true for every input. No condition. -/
import Derived.Test.YtocllehpepigpaaGreatFwK
namespace Go.cZ
theorem Ha {α:Type} {h:Decidable True} (t e:α): @ite α True h t e=t:=if_pos trivial
theorem Hb {α:Type} {h:Decidable False} (t e:α): @ite α False h t e=e:=if_neg id
theorem Hc {α:Type} [BEq α] [ReflBEq α] (a:α):(a==a)=true:=BEq.rfl
theorem MO {α:Type} (a b:α):(a≠b)=¬(a=b):=rfl
theorem MP:I.owner .hole=none∧(∀b,I.owner (.bool b)=none)∧I.owner .fb=none∧(∀k n,I.owner (.int k n)=none)∧(∀x,I.owner (.str x)=none)∧I.owner .dI=none∧I.owner .bk=none∧(∀x,I.owner (.slice x)=none)∧(∀n x,I.owner (.an n x)=none)∧
  (∀x,I.owner (.ref x)=none)∧(∀x,I.owner (.bd x)=none)∧(∀x,I.owner (.agg x)=none)∧(∀x,I.owner (.tuple x)=none)∧(∀f c,I.owner (.fn f c)=none)∧(∀x q,I.owner (.h x q)=some x):=
 ⟨rfl,fun _=>rfl,rfl,fun _ _=>rfl,fun _=>rfl,rfl,rfl,fun _=>rfl,fun _ _=>rfl,fun _=>rfl,fun _=>rfl,fun _=>rfl,fun _=>rfl,fun _ _=>rfl,fun _ _=>rfl⟩
theorem MQ:(¬False)=True:=not_false_eq_true
theorem MR:(¬True)=False:=not_true_eq_false
theorem MS:∀a b:Nat,(some a=some b)=(a=b):=fun _ _=>propext ⟨fun h=>Option.some.inj h,fun h=>congrArg some h⟩
theorem MT:(∀n,num n []=[])∧(∀n a as,num n (a::as)=(n,a)::num (n+1) as):=⟨fun _=>rfl,fun _ _ _=>rfl⟩
theorem MU:∀s1:ar,dz (some s1)=some (.hole,s1):=fun _=>rfl
theorem Hd:(∀t o,js t (.en o)= .h t [])∧(∀(l:List (Nat×I)) t o,fin (ab l) (some t) (.en o)=ab ((t,.en o)::oB t l))∧(∀o,I.plain (.en o)=false)∧(∀t o,c5 t (.en o)= .en o)∧(∀t o,cv t (.en o)= .en o)∧
  (∀o,I.dq (.en o)= .hole)∧(∀o,I.wd (.en o)=1)∧(∀o,I.gW (.en o)=true)∧(∀a b,rO (.en a) (.en b)=true)∧(∀s x q d o,c2.jc s ⟨.h x q,true,d,.en o⟩=du (lZ x s) x (I.put q (.en o) (s x)))∧(∀o,I.ag (.en o)=[])∧(∀o,I.tree (.en o)=true)∧(∀a b n m z,gS.ok ⟨.map a b,n,m,z⟩=true)∧(∀a b n m z,gS.flat ⟨.map a b,n,m,z⟩=true):=
 ⟨fun _ _=>rfl,fun l t o=>by simp only[fin,I.plain,Bool.false_eq_true,if_false,vB,k2],fun _=>rfl,fun _ _=>by unfold c5;rfl,fun _ _=>by unfold cv;rfl,fun _=>by simp only[I.dq],fun _=>by simp only[I.wd],fun _=>rfl,fun _ _=>rfl,fun _ _ _ _ _=>by simp[c2.jc],fun _=>by simp only[I.ag],fun _=>rfl,fun _ _ _ _ _=>rfl,fun _ _ _ _ _=>rfl⟩
def aO:=PLift.up (And.intro Hd<|And.intro MT<|And.intro MU<|And.intro MS<|And.intro MP<|And.intro MQ<|And.intro MR<|And.intro @Ha (And.intro @Hb (And.intro @Hc (And.intro @MO Vu.down))))
def cD:=PLift.up (And.intro Hd<|And.intro MT<|And.intro MU<|And.intro MS<|And.intro MP<|And.intro MQ<|And.intro MR<|And.intro @Ha (And.intro @Hb (And.intro @Hc (And.intro @MO Vv.down))))
def bb:=PLift.up (And.intro Hd<|And.intro @Hc<|And.intro @Ha (And.intro @Hb Vw.down))
def tu (l:List Nat):List Nat:=l.foldr (fun x acc=>if acc.contains x then acc else x::acc) []
theorem MV {x:Nat}:∀{l:List Nat},x∈tu l↔x∈l
 |[]=>Iff.rfl
 |y::l=>by
  have ih:=MV (x:=x) (l:=l)
  have e:tu (y::l)=if(tu l).contains y then tu l else y::tu l:=rfl
  rw[e]
  split
  ·rename_i h
   have bL:y∈tu l:=by simpa using h
   constructor
   ·intro aw;exact List.mem_cons_of_mem _ (ih.1 aw)
   ·intro aw
    rcases List.mem_cons.1 aw with rfl|aw
    ·exact bL
    ·exact ih.2 aw
  ·simp only[List.mem_cons,ih]
def He:List (List Nat)→List (List Nat)→List (List Nat)
 |done,[]=>done
 |done,a::r=>He (done++[tu (a++a.flatMap fun e=>(done[e]?).getD [])]) r
def WG (g_:List (List Nat)):List (List Nat):=He [] g_
def Hf (c d:List (List Nat)):Prop:=c.length=d.length∧∀(i x:Nat),x∈(c[i]?).getD []↔x∈(d[i]?).getD []
theorem MW:∀(r c d:List (List Nat)),Hf c d→Hf (He c r) (yq d r)
 |[],c,d,h=>h
 |a::r,c,d,h=>by
  refine MW r _ _ ⟨by simp[h.1],fun i x=> ?_⟩
  rcases Nat.lt_trichotomy i c.length with ao|ao|ao
  ·rw[List.getElem?_append_left ao,List.getElem?_append_left (by rw[←h.1];exact ao)]
   exact h.2 i x
  ·rw[List.getElem?_append_right (by omega),List.getElem?_append_right (by rw[←h.1];omega),ao,Nat.sub_self,h.1,Nat.sub_self]
   simp only[List.getElem?_cons_zero,Option.getD_some,MV,List.mem_append,List.mem_flatMap]
   constructor
   ·rintro(aw|⟨e,he,aw⟩)
    ·exact .inl aw
    ·exact .inr ⟨e,he,(h.2 e x).1 aw⟩
   ·rintro(aw|⟨e,he,aw⟩)
    ·exact .inl aw
    ·exact .inr ⟨e,he,(h.2 e x).2 aw⟩
  ·rw[List.getElem?_eq_none (by simp;omega),List.getElem?_eq_none (by simp[←h.1];omega)]
theorem MX {c d:List (List Nat)} (h:Hf c d):∀(ay:List fR) (j:Nat) (es:List (Nat×fR)),mE c j es ay=mE d j es ay
 |[],_,_=>rfl
 |f::ay,j,es=>by
  simp only[mE]
  rw[MX h ay]
  congr 2
  funext e
  congr 1
  rw[Bool.eq_iff_iff]
  simp only[List.contains_iff_mem]
  exact h.2 j e.1
theorem fa {g_:List (List Nat)} {j:Nat} {es:List (Nat×fR)} {ay:List fR} (h:mE (WG g_) j es ay=true):mE (tk g_) j es ay=true:=by
 exact(MX (MW g_ [] [] ⟨rfl,fun _ _=>Iff.rfl⟩) ay j es).symm.trans h
abbrev ro (d:Nat) (b0:gb):cj:=⟨some d,b0,none⟩
abbrev ad (d x:Nat):cj:=ro d (.ct (.t x))
abbrev aJ (d x:Nat):cj:=ro d (.iR (.t x))
abbrev aP (d T x:Nat):cj:=ro d (.ld T (.t x))
abbrev a1 (d T x k:Nat):cj:=ro d (.c1 T (.t x) k)
abbrev cn (d T x i:Nat):cj:=ro d (.fc T (.t x) (.t i))
abbrev MY (d T x i:Nat):cj:=ro d (.idx T (.t x) (.t i))
abbrev bX (d T x:Nat):cj:=ro d (.len T (.t x))
abbrev gQ (d x:Nat):cj:=ro d (.ga (.t x))
abbrev bP (d:Nat) (o:BinOp) (T x y:Nat):cj:=ro d (.ck o T (.t x) (.t y))
abbrev a_ (d:Nat) (o:BinOp) (T x:Nat) (n:Int):cj:=ro d (.ck o T (.t x) (.c (.int .i64 n)))
abbrev lu (d:Nat) (n:Int):cj:=ro d (.ct (.c (.int .i64 n)))
abbrev a7 (d:Nat) (n:Int):cj:=ro d (.iR (.c (.int .i64 n)))
abbrev bx (d:Nat) (b:Bool):cj:=ro d (.iR (.c (.bool b)))
abbrev j_ (d:Nat):cj:=ro d (.iR (.c .bk))
abbrev iF (d T:Nat):cj:=ro d (.hc T)
abbrev dQ (d g a:Nat):cj:=ro d (.call (.f g) [.t a])
abbrev dD (d g a b:Nat):cj:=ro d (.call (.f g) [.t a,.t b])
abbrev MZ (d g a b c:Nat):cj:=ro d (.call (.f g) [.t a,.t b,.t c])
abbrev qc (d x k:Nat):cj:=ro d (.ex (.t x) k)
abbrev eH (d x:Nat):cj:=ro d (.un .not (.t x))
abbrev BX (d T x:Nat):cj:=ro d (.dG T 1 [(0,.t x)])
abbrev yE (d T bZ x y:Nat):cj:=ro d (.app T bZ (.t x) (.t y))
abbrev dW (T x y:Nat):cj:=⟨none,.gu T (.t x) (.t y),none⟩
abbrev M0 (d A B x:Nat):cj:=ro d (.gw A B (.t x))
theorem bl.Hg {C:cw} (bu:C.Ok) {f:FuncId} {fn:Func} {c:Code} {dJ:J} {fx:List Nat} {as outs:List I} {r:I} (fC:List ResultVar) (l:List (Nat×I)) (bC:C.P.funcs[f]? =some fn) (ae:fn.body=some c)
  (k1:(fn.name== "runtime.NumGoroutine")=false) (ag:bn ⟨fn.ntmps,fx⟩ c=some dJ.strip) (a6:as.length≤fn.ntmps) (gv:fn.results.toList=fC) (hl:num 0 as=l)
  (h:∀Q:Exit→ar→Prop,(∀s,ev (Ends C fx fC r outs) s→Q .ret s)→(∀s,ev (Ends C fx fC r outs) s→Q .normal s)→dc C dJ Q (ab l)) (au:dJ.plain=true:=by kernel_rfl):bl C f as r outs:=by
 subst gv hl
 exact bl.Vf bu bC ae k1 ag a6 h au
theorem mI.Hg {C:cw} (bu:C.Ok) {f:FuncId} {fn:Func} {c:Code} {dJ:J} {fx:List Nat} {as outs:List I} {r:I} {k m:Nat} (fC:List ResultVar) (l:List (Nat×I)) (bC:C.P.funcs[f]? =some fn) (ae:fn.body=some c)
  (k1:(fn.name== "runtime.NumGoroutine")=false) (ag:bn ⟨fn.ntmps,fx⟩ c=some dJ.strip) (a6:as.length≤fn.ntmps) (hk:dJ.ng (BU C f fx as.length m k)) (gv:fn.results.toList=fC) (hl:num 0 as=l)
  (h:∀Q:Exit→ar→Prop,(∀s,ev (Ends C fx fC r outs) s→Q .ret s)→(∀s,ev (Ends C fx fC r outs) s→Q .normal s)→dc C dJ Q (ab l)):mI C f m k as r outs:=by
 subst gv hl
 exact mI.of_wp bu bC ae k1 ag a6 hk h
theorem bl.WH {C:cw} (bu:C.Ok) {f:FuncId} {fn:Func} {c:Code} {dJ:J} {fx:List Nat} {as outs:List I} {r:I} (fC:List ResultVar) (l:List (Nat×I)) (bC:C.P.funcs[f]? =some fn) (ae:fn.body=some c)
  (k1:(fn.name== "runtime.NumGoroutine")=false) (ag:bn ⟨fn.ntmps,fx⟩ c=some dJ.strip) (a6:as.length≤fn.ntmps) (hk:dJ.ng (yB C)) (gv:fn.results.toList=fC) (hl:num 0 as=l)
  (h:∀Q:Exit→ar→Prop,(∀s,ev (Ends C fx fC r outs) s→Q .ret s)→(∀s,ev (Ends C fx fC r outs) s→Q .normal s)→dc C dJ Q (ab l)):bl C f as r outs:=by
 subst gv hl
 exact bl.WD bu bC ae k1 ag a6 hk h
theorem fk {b:Bool} (h:(!b)=true):b=false:=by cases b<;>first|rfl|cases h
theorem bV {b:Bool} (h:(!b)=false):b=true:=by cases b<;>first|rfl|cases h
section
variable {C:cw} {s:ar} {l:List (Nat×I)} {Q:Exit→ar→Prop}
theorem aH {fx:List Nat} {fC:List ResultVar} {r:I} (ds:List I) (ah:r=LS ds:=by cases h2 (by assumption);rfl) (h1:fC.map (qS C s)=ds.map some:=by rfl) (aC:(fC.map j7).Nodup:=by decide):Ends C fx fC r [] s:=
 l_ ds h1 ah aC Vg
theorem aI {nc:ar→Prop} {a b:J} (yF:∀s,nc s→Q .ret s) (h:∀eM:Exit→ar→Prop,(∀s,ev (dc C b Q) s→eM .normal s)→(∀s,nc s→eM .ret s)→(∀i s,Q (.exit i) s→eM (.exit i) s)→dc C a eM s):dc C (.seq a b) Q s:=
 Vb fun eM n q x=>h eM n (fun s ag=>q s (yF s ag)) x
theorem bH {nc:ar→Prop} {id:Nat} {b:J} (yF:∀s,nc s→Q .ret s) (h:∀eM:Exit→ar→Prop,(∀s,Q .normal s→eM .normal s)→(∀s,nc s→eM .ret s)→(∀s,Q .normal s→eM (.exit id) s)→(∀i s,i≠id→Q (.exit i) s→eM (.exit i) s)→dc C b eM s):dc C (.block id b) Q s:=
 Vd fun eM n q b x=>h eM n (fun s ag=>q s (yF s ag)) b x
theorem dE {nc:ar→Prop} {b:J} (yF:∀s,nc s→Q .ret s) (h:∀eM:Exit→ar→Prop,(∀s,ev (dp C b Q) s→eM .normal s)→(∀s,nc s→eM .ret s)→(∀i s,Q (.exit i) s→eM (.exit i) s)→dc C b eM s):dp C b Q s:=
 Ve fun eM n q x=>h eM n (fun s ag=>q s (yF s ag)) x
theorem aT {β:Type} {c:aK} {t e:J} {b:Bool} {x y:Option β} {r:β} (h:cond b x y=some r) (h1:b=true→x=some r→dc C t Q s) (ah:b=false→y=some r→dc C e Q s) (aq:aN s c= .bool b:=by rfl):dc C (.cond c t e) Q s:=by
 rcases e9 h with⟨rfl,h⟩|⟨rfl,h⟩
 ·exact jg aq (h1 rfl h)
 ·exact qV aq (ah rfl h)
end
end Go.cZ
