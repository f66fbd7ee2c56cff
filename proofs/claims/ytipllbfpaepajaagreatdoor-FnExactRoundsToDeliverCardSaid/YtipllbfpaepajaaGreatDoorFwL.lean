/- Part of a proof that a law returns true for every input. No condition. -/
import Derived.Test.YtipllbfpaepajaaGreatDoorFwK
namespace Go.b9
theorem yY {α:Type} {h:Decidable True} (t e:α): @ite α True h t e=t:=if_pos trivial
theorem yZ {α:Type} {h:Decidable False} (t e:α): @ite α False h t e=e:=if_neg id
theorem y0 {α:Type} [BEq α] [ReflBEq α] (a:α):(a==a)=true:=BEq.rfl
theorem DW {α:Type} (a b:α):(a≠b)=¬(a=b):=rfl
theorem DX:I.owner .hole=none∧(∀b,I.owner (.bool b)=none)∧I.owner .dd=none∧(∀k n,I.owner (.int k n)=none)∧(∀x,I.owner (.str x)=none)∧I.owner .cn=none∧I.owner .bH=none∧(∀x,I.owner (.slice x)=none)∧(∀n x,I.owner (.aK n x)=none)∧
  (∀x,I.owner (.ref x)=none)∧(∀x,I.owner (.a1 x)=none)∧(∀x,I.owner (.agg x)=none)∧(∀x,I.owner (.tuple x)=none)∧(∀f c,I.owner (.fn f c)=none)∧(∀x q,I.owner (.h x q)=some x):=
 ⟨rfl,fun _=>rfl,rfl,fun _ _=>rfl,fun _=>rfl,rfl,rfl,fun _=>rfl,fun _ _=>rfl,fun _=>rfl,fun _=>rfl,fun _=>rfl,fun _=>rfl,fun _ _=>rfl,fun _ _=>rfl⟩
theorem DY:(¬False)=True:=not_false_eq_true
theorem DZ:(¬True)=False:=not_true_eq_false
theorem D0:∀a b:Nat,(some a=some b)=(a=b):=fun _ _=>propext ⟨fun h=>Option.some.inj h,fun h=>congrArg some h⟩
theorem D1:(∀n,num n []=[])∧(∀n a as,num n (a::as)=(n,a)::num (n+1) as):=⟨fun _=>rfl,fun _ _ _=>rfl⟩
theorem D2:∀s1:aj,hj (some s1)=some (.hole,s1):=fun _=>rfl
theorem y1:(∀t o,gp t (.cA o)= .h t [])∧(∀(l:List (Nat×I)) t o,fin (J l) (some t) (.cA o)=J ((t,.cA o)::k5 t l))∧(∀o,I.plain (.cA o)=false)∧(∀t o,bT t (.cA o)= .cA o)∧(∀t o,bn t (.cA o)= .cA o)∧
  (∀o,I.b6 (.cA o)= .hole)∧(∀o,I.wd (.cA o)=1)∧(∀o,I.et (.cA o)=true)∧(∀a b,n8 (.cA a) (.cA b)=true)∧(∀s x q d o,bS.fW s ⟨.h x q,true,d,.cA o⟩=cg (iV x s) x (I.put q (.cA o) (s x)))∧(∀o,I.U (.cA o)=[])∧(∀o,I.tree (.cA o)=true)∧(∀a b n m z,ez.ok ⟨.map a b,n,m,z⟩=true)∧(∀a b n m z,ez.flat ⟨.map a b,n,m,z⟩=true):=
 ⟨fun _ _=>rfl,fun l t o=>by simp only[fin,I.plain,Bool.false_eq_true,if_false,qK,h7],fun _=>rfl,fun _ _=>by unfold bT;rfl,fun _ _=>by unfold bn;rfl,fun _=>by simp only[I.b6],fun _=>by simp only[I.wd],fun _=>rfl,fun _ _=>rfl,fun _ _ _ _ _=>by simp[bS.fW],fun _=>by simp only[I.U],fun _=>rfl,fun _ _ _ _ _=>rfl,fun _ _ _ _ _=>rfl⟩
def bf:=PLift.up (And.intro y1<|And.intro D1<|And.intro D2<|And.intro D0<|And.intro DX<|And.intro DY<|And.intro DZ<|And.intro @yY (And.intro @yZ (And.intro @y0 (And.intro @DW KS.down))))
def jB:=PLift.up (And.intro y1<|And.intro D1<|And.intro D2<|And.intro D0<|And.intro DX<|And.intro DY<|And.intro DZ<|And.intro @yY (And.intro @yZ (And.intro @y0 (And.intro @DW tb.down))))
def b5:=PLift.up (And.intro y1<|And.intro @y0<|And.intro @yY (And.intro @yZ KT.down))
def pM (l:List Nat):List Nat:=l.foldr (fun x acc=>if acc.contains x then acc else x::acc) []
theorem D3 {x:Nat}:∀{l:List Nat},x∈pM l↔x∈l
 |[]=>Iff.rfl
 |y::l=>by
  have ih:=D3 (x:=x) (l:=l)
  have e:pM (y::l)=if(pM l).contains y then pM l else y::pM l:=rfl
  rw[e]
  split
  ·rename_i h
   have aQ:y∈pM l:=by simpa using h
   constructor
   ·intro ao;exact List.mem_cons_of_mem _ (ih.1 ao)
   ·intro ao
    rcases List.mem_cons.1 ao with rfl|ao
    ·exact aQ
    ·exact ih.2 ao
  ·simp only[List.mem_cons,ih]
def y2:List (List Nat)→List (List Nat)→List (List Nat)
 |done,[]=>done
 |done,a::r=>y2 (done++[pM (a++a.flatMap fun e=>(done[e]?).getD [])]) r
def Lu (eC:List (List Nat)):List (List Nat):=y2 [] eC
def y3 (c d:List (List Nat)):Prop:=c.length=d.length∧∀(i x:Nat),x∈(c[i]?).getD []↔x∈(d[i]?).getD []
theorem D4:∀(r c d:List (List Nat)),y3 c d→y3 (y2 c r) (s7 d r)
 |[],c,d,h=>h
 |a::r,c,d,h=>by
  refine D4 r _ _ ⟨by simp[h.1],fun i x=> ?_⟩
  rcases Nat.lt_trichotomy i c.length with aA|aA|aA
  ·rw[List.getElem?_append_left aA,List.getElem?_append_left (by rw[←h.1];exact aA)]
   exact h.2 i x
  ·rw[List.getElem?_append_right (by omega),List.getElem?_append_right (by rw[←h.1];omega),aA,Nat.sub_self,h.1,Nat.sub_self]
   simp only[List.getElem?_cons_zero,Option.getD_some,D3,List.mem_append,List.mem_flatMap]
   constructor
   ·rintro(ao|⟨e,he,ao⟩)
    ·exact .inl ao
    ·exact .inr ⟨e,he,(h.2 e x).1 ao⟩
   ·rintro(ao|⟨e,he,ao⟩)
    ·exact .inl ao
    ·exact .inr ⟨e,he,(h.2 e x).2 ao⟩
  ·rw[List.getElem?_eq_none (by simp;omega),List.getElem?_eq_none (by simp[←h.1];omega)]
theorem D5 {c d:List (List Nat)} (h:y3 c d):∀(af:List dz) (j:Nat) (es:List (Nat×dz)),jA c j es af=jA d j es af
 |[],_,_=>rfl
 |f::af,j,es=>by
  simp only[jA]
  rw[D5 h af]
  congr 2
  funext e
  congr 1
  rw[Bool.eq_iff_iff]
  simp only[List.contains_iff_mem]
  exact h.2 j e.1
theorem mB {eC:List (List Nat)} {j:Nat} {es:List (Nat×dz)} {af:List dz} (h:jA (Lu eC) j es af=true):jA (pD eC) j es af=true:=by
 exact(D5 (D4 eC [] [] ⟨rfl,fun _ _=>Iff.rfl⟩) af j es).symm.trans h
abbrev ro (d:Nat) (a_:dZ):bm:=⟨some d,a_,none⟩
abbrev ag (d x:Nat):bm:=ro d (.b8 (.t x))
abbrev aP (d x:Nat):bm:=ro d (.d_ (.t x))
abbrev du (d T x:Nat):bm:=ro d (.c8 T (.t x))
abbrev dR (d T x k:Nat):bm:=ro d (.ek T (.t x) k)
abbrev gz (d T x i:Nat):bm:=ro d (.eA T (.t x) (.t i))
abbrev oB (d T x i:Nat):bm:=ro d (.idx T (.t x) (.t i))
abbrev cS (d T x:Nat):bm:=ro d (.len T (.t x))
abbrev dS (d x:Nat):bm:=ro d (.el (.t x))
abbrev cT (d:Nat) (o:BinOp) (T x y:Nat):bm:=ro d (.bG o T (.t x) (.t y))
abbrev bW (d:Nat) (o:BinOp) (T x:Nat) (n:Int):bm:=ro d (.bG o T (.t x) (.c (.int .i64 n)))
abbrev rf (d:Nat) (n:Int):bm:=ro d (.b8 (.c (.int .i64 n)))
abbrev ck (d:Nat) (n:Int):bm:=ro d (.d_ (.c (.int .i64 n)))
abbrev cJ (d:Nat) (b:Bool):bm:=ro d (.d_ (.c (.bool b)))
abbrev ja (d:Nat):bm:=ro d (.d_ (.c .bH))
abbrev gA (d g a:Nat):bm:=ro d (.call (.f g) [.t a])
abbrev ea (d g a b:Nat):bm:=ro d (.call (.f g) [.t a,.t b])
abbrev D6 (d g a b c:Nat):bm:=ro d (.call (.f g) [.t a,.t b,.t c])
abbrev fN (d x k:Nat):bm:=ro d (.ex (.t x) k)
abbrev h8 (d x:Nat):bm:=ro d (.un .not (.t x))
abbrev vh (d T x:Nat):bm:=ro d (.df T 1 [(0,.t x)])
abbrev vi (d T a8 x y:Nat):bm:=ro d (.app T a8 (.t x) (.t y))
abbrev jC (T x y:Nat):bm:=⟨none,.dY T (.t x) (.t y),none⟩
abbrev Lv (d A B x:Nat):bm:=ro d (.eP A B (.t x))
theorem br.D7 {C:bq} (aT:C.db) {f:FuncId} {fn:Func} {c:Code} {dD:ab} {fx:List Nat} {as outs:List I} {r:I} (dK:List ResultVar) (l:List (Nat×I)) (bh:C.P.funcs[f]? =some fn) (R:fn.body=some c)
  (iI:(fn.name== "runtime.NumGoroutine")=false) (U:bV ⟨fn.ntmps,fx⟩ c=some dD.strip) (aW:as.length≤fn.ntmps) (eG:fn.results.toList=dK) (aJ:num 0 as=l)
  (h:∀Q:Exit→aj→Prop,(∀s,eD (Ends C fx dK r outs) s→Q .ret s)→(∀s,eD (Ends C fx dK r outs) s→Q .normal s)→b3 C dD Q (J l)) (ak:dD.plain=true:=by kernel_rfl):br C f as r outs:=by
 subst eG aJ
 exact br.KG aT bh R iI U aW h ak
theorem nz.D7 {C:bq} (aT:C.db) {f:FuncId} {fn:Func} {c:Code} {dD:ab} {fx:List Nat} {as outs:List I} {r:I} {k m:Nat} (dK:List ResultVar) (l:List (Nat×I)) (bh:C.P.funcs[f]? =some fn) (R:fn.body=some c)
  (iI:(fn.name== "runtime.NumGoroutine")=false) (U:bV ⟨fn.ntmps,fx⟩ c=some dD.strip) (aW:as.length≤fn.ntmps) (ar:dD.mr (yW C f fx as.length m k)) (eG:fn.results.toList=dK) (aJ:num 0 as=l)
  (h:∀Q:Exit→aj→Prop,(∀s,eD (Ends C fx dK r outs) s→Q .ret s)→(∀s,eD (Ends C fx dK r outs) s→Q .normal s)→b3 C dD Q (J l)):nz C f m k as r outs:=by
 subst eG aJ
 exact nz.of_wp aT bh R iI U aW ar h
theorem pN {b:Bool} (h:(!b)=true):b=false:=by cases b<;>first|rfl|cases h
theorem mC {b:Bool} (h:(!b)=false):b=true:=by cases b<;>first|rfl|cases h
section
variable {C:bq} {s:aj} {l:List (Nat×I)} {Q:Exit→aj→Prop}
theorem bt {fx:List Nat} {dK:List ResultVar} {r:I} (ds:List I) (ad:r=Dp ds:=by cases gd (by assumption);rfl) (aa:dK.map (nv C s)=ds.map some:=by rfl) (aB:(dK.map gT).Nodup:=by decide):Ends C fx dK r [] s:=
 k7 ds aa ad aB KH
theorem bu {j3:aj→Prop} {a b:ab} (te:∀s,j3 s→Q .ret s) (h:∀cX:Exit→aj→Prop,(∀s,eD (b3 C b Q) s→cX .normal s)→(∀s,j3 s→cX .ret s)→(∀i s,Q (.exit i) s→cX (.exit i) s)→b3 C a cX s):b3 C (.seq a b) Q s:=
 KD fun cX n q x=>h cX n (fun s U=>q s (te s U)) x
theorem c_ {j3:aj→Prop} {id:Nat} {b:ab} (te:∀s,j3 s→Q .ret s) (h:∀cX:Exit→aj→Prop,(∀s,Q .normal s→cX .normal s)→(∀s,j3 s→cX .ret s)→(∀s,Q .normal s→cX (.exit id) s)→(∀i s,i≠id→Q (.exit i) s→cX (.exit i) s)→b3 C b cX s):b3 C (.block id b) Q s:=
 KE fun cX n q b x=>h cX n (fun s U=>q s (te s U)) b x
theorem gN {j3:aj→Prop} {b:ab} (te:∀s,j3 s→Q .ret s) (h:∀cX:Exit→aj→Prop,(∀s,eD (fE C b Q) s→cX .normal s)→(∀s,j3 s→cX .ret s)→(∀i s,Q (.exit i) s→cX (.exit i) s)→b3 C b cX s):fE C b Q s:=
 KF fun cX n q x=>h cX n (fun s U=>q s (te s U)) x
theorem bL {β:Type} {c:ay} {t e:ab} {b:Bool} {x y:Option β} {r:β} (h:cond b x y=some r) (aa:b=true→x=some r→b3 C t Q s) (ad:b=false→y=some r→b3 C e Q s) (ai:az s c= .bool b:=by rfl):b3 C (.cond c t e) Q s:=by
 rcases iq h with⟨rfl,h⟩|⟨rfl,h⟩
 ·exact k6 ai (aa rfl h)
 ·exact s_ ai (ad rfl h)
end
end Go.b9
