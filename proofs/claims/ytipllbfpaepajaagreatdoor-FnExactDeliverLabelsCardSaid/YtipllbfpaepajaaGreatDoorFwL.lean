/- Part of a proof that a law returns true for every input. No condition. -/
import Derived.Test.YtipllbfpaepajaaGreatDoorFwK
namespace Go.ca
theorem zD {α:Type} {h:Decidable True} (t e:α): @ite α True h t e=t:=if_pos trivial
theorem zE {α:Type} {h:Decidable False} (t e:α): @ite α False h t e=e:=if_neg id
theorem zF {α:Type} [BEq α] [ReflBEq α] (a:α):(a==a)=true:=BEq.rfl
theorem EL {α:Type} (a b:α):(a≠b)=¬(a=b):=rfl
theorem EM:I.owner .hole=none∧(∀b,I.owner (.bool b)=none)∧I.owner .dk=none∧(∀k n,I.owner (.int k n)=none)∧(∀x,I.owner (.str x)=none)∧I.owner .ct=none∧I.owner .bD=none∧(∀x,I.owner (.slice x)=none)∧(∀n x,I.owner (.aE n x)=none)∧
  (∀x,I.owner (.ref x)=none)∧(∀x,I.owner (.a_ x)=none)∧(∀x,I.owner (.agg x)=none)∧(∀x,I.owner (.tuple x)=none)∧(∀f c,I.owner (.fn f c)=none)∧(∀x q,I.owner (.h x q)=some x):=
 ⟨rfl,fun _=>rfl,rfl,fun _ _=>rfl,fun _=>rfl,rfl,rfl,fun _=>rfl,fun _ _=>rfl,fun _=>rfl,fun _=>rfl,fun _=>rfl,fun _=>rfl,fun _ _=>rfl,fun _ _=>rfl⟩
theorem EN:(¬False)=True:=not_false_eq_true
theorem EO:(¬True)=False:=not_true_eq_false
theorem EP:∀a b:Nat,(some a=some b)=(a=b):=fun _ _=>propext ⟨fun h=>Option.some.inj h,fun h=>congrArg some h⟩
theorem ER:(∀n,num n []=[])∧(∀n a as,num n (a::as)=(n,a)::num (n+1) as):=⟨fun _=>rfl,fun _ _ _=>rfl⟩
theorem ES:∀s1:aj,gx (some s1)=some (.hole,s1):=fun _=>rfl
theorem zG:(∀t o,gO t (.cH o)= .h t [])∧(∀(l:List (Nat×I)) t o,fin (J l) (some t) (.cH o)=J ((t,.cH o)::lR t l))∧(∀o,I.plain (.cH o)=false)∧(∀t o,bY t (.cH o)= .cH o)∧(∀t o,bs t (.cH o)= .cH o)∧
  (∀o,I.b8 (.cH o)= .hole)∧(∀o,I.wd (.cH o)=1)∧(∀o,I.eD (.cH o)=true)∧(∀a b,oI (.cH a) (.cH b)=true)∧(∀s x q d o,bW.gv s ⟨.h x q,true,d,.cH o⟩=cm (jt x s) x (I.put q (.cH o) (s x)))∧(∀o,I.U (.cH o)=[])∧(∀o,I.tree (.cH o)=true)∧(∀a b n m z,eC.ok ⟨.map a b,n,m,z⟩=true)∧(∀a b n m z,eC.flat ⟨.map a b,n,m,z⟩=true):=
 ⟨fun _ _=>rfl,fun l t o=>by simp only[fin,I.plain,Bool.false_eq_true,if_false,re,iC],fun _=>rfl,fun _ _=>by unfold bY;rfl,fun _ _=>by unfold bs;rfl,fun _=>by simp only[I.b8],fun _=>by simp only[I.wd],fun _=>rfl,fun _ _=>rfl,fun _ _ _ _ _=>by simp[bW.gv],fun _=>by simp only[I.U],fun _=>rfl,fun _ _ _ _ _=>rfl,fun _ _ _ _ _=>rfl⟩
def aV:=PLift.up (And.intro zG<|And.intro ER<|And.intro ES<|And.intro EP<|And.intro EM<|And.intro EN<|And.intro EO<|And.intro @zD (And.intro @zE (And.intro @zF (And.intro @EL LY.down))))
def hV:=PLift.up (And.intro zG<|And.intro ER<|And.intro ES<|And.intro EP<|And.intro EM<|And.intro EN<|And.intro EO<|And.intro @zD (And.intro @zE (And.intro @zF (And.intro @EL tH.down))))
def bO:=PLift.up (And.intro zG<|And.intro @zF<|And.intro @zD (And.intro @zE LZ.down))
def p9 (l:List Nat):List Nat:=l.foldr (fun x acc=>if acc.contains x then acc else x::acc) []
theorem ET {x:Nat}:∀{l:List Nat},x∈p9 l↔x∈l
 |[]=>Iff.rfl
 |y::l=>by
  have ih:=ET (x:=x) (l:=l)
  have e:p9 (y::l)=if(p9 l).contains y then p9 l else y::p9 l:=rfl
  rw[e]
  split
  ·rename_i h
   have aS:y∈p9 l:=by simpa using h
   constructor
   ·intro aq;exact List.mem_cons_of_mem _ (ih.1 aq)
   ·intro aq
    rcases List.mem_cons.1 aq with rfl|aq
    ·exact aS
    ·exact ih.2 aq
  ·simp only[List.mem_cons,ih]
def zH:List (List Nat)→List (List Nat)→List (List Nat)
 |done,[]=>done
 |done,a::r=>zH (done++[p9 (a++a.flatMap fun e=>(done[e]?).getD [])]) r
def MB (eL:List (List Nat)):List (List Nat):=zH [] eL
def zI (c d:List (List Nat)):Prop:=c.length=d.length∧∀(i x:Nat),x∈(c[i]?).getD []↔x∈(d[i]?).getD []
theorem EU:∀(r c d:List (List Nat)),zI c d→zI (zH c r) (tD d r)
 |[],c,d,h=>h
 |a::r,c,d,h=>by
  refine EU r _ _ ⟨by simp[h.1],fun i x=> ?_⟩
  rcases Nat.lt_trichotomy i c.length with aA|aA|aA
  ·rw[List.getElem?_append_left aA,List.getElem?_append_left (by rw[←h.1];exact aA)]
   exact h.2 i x
  ·rw[List.getElem?_append_right (by omega),List.getElem?_append_right (by rw[←h.1];omega),aA,Nat.sub_self,h.1,Nat.sub_self]
   simp only[List.getElem?_cons_zero,Option.getD_some,ET,List.mem_append,List.mem_flatMap]
   constructor
   ·rintro(aq|⟨e,he,aq⟩)
    ·exact .inl aq
    ·exact .inr ⟨e,he,(h.2 e x).1 aq⟩
   ·rintro(aq|⟨e,he,aq⟩)
    ·exact .inl aq
    ·exact .inr ⟨e,he,(h.2 e x).2 aq⟩
  ·rw[List.getElem?_eq_none (by simp;omega),List.getElem?_eq_none (by simp[←h.1];omega)]
theorem EV {c d:List (List Nat)} (h:zI c d):∀(ag:List dK) (j:Nat) (es:List (Nat×dK)),j1 c j es ag=j1 d j es ag
 |[],_,_=>rfl
 |f::ag,j,es=>by
  simp only[j1]
  rw[EV h ag]
  congr 2
  funext e
  congr 1
  rw[Bool.eq_iff_iff]
  simp only[List.contains_iff_mem]
  exact h.2 j e.1
theorem lb {eL:List (List Nat)} {j:Nat} {es:List (Nat×dK)} {ag:List dK} (h:j1 (MB eL) j es ag=true):j1 (p1 eL) j es ag=true:=by
 exact(EV (EU eL [] [] ⟨rfl,fun _ _=>Iff.rfl⟩) ag j es).symm.trans h
abbrev ro (d:Nat) (bd:ej):br:=⟨some d,bd,none⟩
abbrev af (d x:Nat):br:=ro d (.bZ (.t x))
abbrev aM (d x:Nat):br:=ro d (.dM (.t x))
abbrev dp (d T x:Nat):br:=ro d (.dh T (.t x))
abbrev dD (d T x k:Nat):br:=ro d (.ev T (.t x) k)
abbrev gi (d T x i:Nat):br:=ro d (.eI T (.t x) (.t i))
abbrev o2 (d T x i:Nat):br:=ro d (.idx T (.t x) (.t i))
abbrev cS (d T x:Nat):br:=ro d (.len T (.t x))
abbrev dE (d x:Nat):br:=ro d (.ew (.t x))
abbrev cM (d:Nat) (o:BinOp) (T x y:Nat):br:=ro d (.bB o T (.t x) (.t y))
abbrev bI (d:Nat) (o:BinOp) (T x:Nat) (n:Int):br:=ro d (.bB o T (.t x) (.c (.int .i64 n)))
abbrev rP (d:Nat) (n:Int):br:=ro d (.bZ (.c (.int .i64 n)))
abbrev cc (d:Nat) (n:Int):br:=ro d (.dM (.c (.int .i64 n)))
abbrev cC (d:Nat) (b:Bool):br:=ro d (.dM (.c (.bool b)))
abbrev hq (d:Nat):br:=ro d (.dM (.c .bD))
abbrev fS (d g a:Nat):br:=ro d (.call (.f g) [.t a])
abbrev dr (d g a b:Nat):br:=ro d (.call (.f g) [.t a,.t b])
abbrev EW (d g a b c:Nat):br:=ro d (.call (.f g) [.t a,.t b,.t c])
abbrev fo (d x k:Nat):br:=ro d (.ex (.t x) k)
abbrev hW (d x:Nat):br:=ro d (.un .not (.t x))
abbrev tL (d T x:Nat):br:=ro d (.cX T 1 [(0,.t x)])
abbrev rQ (d T bc x y:Nat):br:=ro d (.app T bc (.t x) (.t y))
abbrev jg (T x y:Nat):br:=⟨none,.eh T (.t x) (.t y),none⟩
abbrev zJ (d A B x:Nat):br:=ro d (.ei A B (.t x))
theorem bq.EX {C:bt} (aU:C.dn) {f:FuncId} {fn:Func} {c:Code} {dN:aa} {fx:List Nat} {as outs:List I} {r:I} (dU:List ResultVar) (l:List (Nat×I)) (bk:C.P.funcs[f]? =some fn) (R:fn.body=some c)
  (jc:(fn.name== "runtime.NumGoroutine")=false) (U:bS ⟨fn.ntmps,fx⟩ c=some dN.strip) (aW:as.length≤fn.ntmps) (eP:fn.results.toList=dU) (hl:num 0 as=l)
  (h:∀Q:Exit→aj→Prop,(∀s,eM (Ends C fx dU r outs) s→Q .ret s)→(∀s,eM (Ends C fx dU r outs) s→Q .normal s)→b1 C dN Q (J l)) (ak:dN.plain=true:=by kernel_rfl):bq C f as r outs:=by
 subst eP hl
 exact bq.LM aU bk R jc U aW h ak
theorem n2.EX {C:bt} (aU:C.dn) {f:FuncId} {fn:Func} {c:Code} {dN:aa} {fx:List Nat} {as outs:List I} {r:I} {k m:Nat} (dU:List ResultVar) (l:List (Nat×I)) (bk:C.P.funcs[f]? =some fn) (R:fn.body=some c)
  (jc:(fn.name== "runtime.NumGoroutine")=false) (U:bS ⟨fn.ntmps,fx⟩ c=some dN.strip) (aW:as.length≤fn.ntmps) (al:dN.nc (zB C f fx as.length m k)) (eP:fn.results.toList=dU) (hl:num 0 as=l)
  (h:∀Q:Exit→aj→Prop,(∀s,eM (Ends C fx dU r outs) s→Q .ret s)→(∀s,eM (Ends C fx dU r outs) s→Q .normal s)→b1 C dN Q (J l)):n2 C f m k as r outs:=by
 subst eP hl
 exact n2.of_wp aU bk R jc U aW al h
theorem p_ {b:Bool} (h:(!b)=true):b=false:=by cases b<;>first|rfl|cases h
theorem ni {b:Bool} (h:(!b)=false):b=true:=by cases b<;>first|rfl|cases h
section
variable {C:bt} {s:aj} {l:List (Nat×I)} {Q:Exit→aj→Prop}
theorem bl {fx:List Nat} {dU:List ResultVar} {r:I} (ds:List I) (ad:r=D7 ds:=by cases fM (by assumption);rfl) (ab:dU.map (nZ C s)=ds.map some:=by rfl) (aB:(dU.map hp).Nodup:=by decide):Ends C fx dU r [] s:=
 ky ds ab ad aB LN
theorem bh {kv:aj→Prop} {a b:aa} (tM:∀s,kv s→Q .ret s) (h:∀c8:Exit→aj→Prop,(∀s,eM (b1 C b Q) s→c8 .normal s)→(∀s,kv s→c8 .ret s)→(∀i s,Q (.exit i) s→c8 (.exit i) s)→b1 C a c8 s):b1 C (.seq a b) Q s:=
 LI fun c8 n q x=>h c8 n (fun s U=>q s (tM s U)) x
theorem cT {kv:aj→Prop} {id:Nat} {b:aa} (tM:∀s,kv s→Q .ret s) (h:∀c8:Exit→aj→Prop,(∀s,Q .normal s→c8 .normal s)→(∀s,kv s→c8 .ret s)→(∀s,Q .normal s→c8 (.exit id) s)→(∀i s,i≠id→Q (.exit i) s→c8 (.exit i) s)→b1 C b c8 s):b1 C (.block id b) Q s:=
 LK fun c8 n q b x=>h c8 n (fun s U=>q s (tM s U)) b x
theorem gj {kv:aj→Prop} {b:aa} (tM:∀s,kv s→Q .ret s) (h:∀c8:Exit→aj→Prop,(∀s,eM (fc C b Q) s→c8 .normal s)→(∀s,kv s→c8 .ret s)→(∀i s,Q (.exit i) s→c8 (.exit i) s)→b1 C b c8 s):fc C b Q s:=
 LL fun c8 n q x=>h c8 n (fun s U=>q s (tM s U)) x
theorem bA {β:Type} {c:ax} {t e:aa} {b:Bool} {x y:Option β} {r:β} (h:cond b x y=some r) (ab:b=true→x=some r→b1 C t Q s) (ad:b=false→y=some r→b1 C e Q s) (ai:az s c= .bool b:=by rfl):b1 C (.cond c t e) Q s:=by
 rcases h3 h with⟨rfl,h⟩|⟨rfl,h⟩
 ·exact k3 ai (ab rfl h)
 ·exact rM ai (ad rfl h)
end
end Go.ca
