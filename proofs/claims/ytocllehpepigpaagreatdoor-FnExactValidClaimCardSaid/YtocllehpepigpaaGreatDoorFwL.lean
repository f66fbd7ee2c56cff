/- Part of a proof that a law returns true for every input. No condition. -/
import Derived.Test.YtocllehpepigpaaGreatDoorFwK
namespace Go.cI
theorem Cw {α:Type} {h:Decidable True} (t e:α): @ite α True h t e=t:=if_pos trivial
theorem Cx {α:Type} {h:Decidable False} (t e:α): @ite α False h t e=e:=if_neg id
theorem Cy {α:Type} [BEq α] [ReflBEq α] (a:α):(a==a)=true:=BEq.rfl
theorem Hy {α:Type} (a b:α):(a≠b)=¬(a=b):=rfl
theorem Hz:I.owner .hole=none∧(∀b,I.owner (.bool b)=none)∧I.owner .et=none∧(∀k n,I.owner (.int k n)=none)∧(∀x,I.owner (.str x)=none)∧I.owner .cS=none∧I.owner .bk=none∧(∀x,I.owner (.slice x)=none)∧(∀n x,I.owner (.aL n x)=none)∧
  (∀x,I.owner (.ref x)=none)∧(∀x,I.owner (.bM x)=none)∧(∀x,I.owner (.agg x)=none)∧(∀x,I.owner (.tuple x)=none)∧(∀f c,I.owner (.fn f c)=none)∧(∀x q,I.owner (.h x q)=some x):=
 ⟨rfl,fun _=>rfl,rfl,fun _ _=>rfl,fun _=>rfl,rfl,rfl,fun _=>rfl,fun _ _=>rfl,fun _=>rfl,fun _=>rfl,fun _=>rfl,fun _=>rfl,fun _ _=>rfl,fun _ _=>rfl⟩
theorem HA:(¬False)=True:=not_false_eq_true
theorem HB:(¬True)=False:=not_true_eq_false
theorem HC:∀a b:Nat,(some a=some b)=(a=b):=fun _ _=>propext ⟨fun h=>Option.some.inj h,fun h=>congrArg some h⟩
theorem HD:(∀n,num n []=[])∧(∀n a as,num n (a::as)=(n,a)::num (n+1) as):=⟨fun _=>rfl,fun _ _ _=>rfl⟩
theorem HE:∀s1:an,gw (some s1)=some (.hole,s1):=fun _=>rfl
theorem Cz:(∀t o,iG t (.dq o)= .h t [])∧(∀(l:List (Nat×I)) t o,fin (R l) (some t) (.dq o)=R ((t,.dq o)::ns t l))∧(∀o,I.plain (.dq o)=false)∧(∀t o,cl t (.dq o)= .dq o)∧(∀t o,bR t (.dq o)= .dq o)∧
  (∀o,I.cG (.dq o)= .hole)∧(∀o,I.wd (.dq o)=1)∧(∀o,I.hz (.dq o)=true)∧(∀a b,xt (.dq a) (.dq b)=true)∧(∀s x q d o,cR.kd s ⟨.h x q,true,d,.dq o⟩=c7 (mD x s) x (I.put q (.dq o) (s x)))∧(∀o,I.aa (.dq o)=[])∧(∀o,I.tree (.dq o)=true)∧(∀a b n m z,fS.ok ⟨.map a b,n,m,z⟩=true)∧(∀a b n m z,fS.flat ⟨.map a b,n,m,z⟩=true):=
 ⟨fun _ _=>rfl,fun l t o=>by simp only[fin,I.plain,Bool.false_eq_true,if_false,sM,kx],fun _=>rfl,fun _ _=>by unfold cl;rfl,fun _ _=>by unfold bR;rfl,fun _=>by simp only[I.cG],fun _=>by simp only[I.wd],fun _=>rfl,fun _ _=>rfl,fun _ _ _ _ _=>by simp[cR.kd],fun _=>by simp only[I.aa],fun _=>rfl,fun _ _ _ _ _=>rfl,fun _ _ _ _ _=>rfl⟩
def aZ:=PLift.up (And.intro Cz<|And.intro HD<|And.intro HE<|And.intro HC<|And.intro Hz<|And.intro HA<|And.intro HB<|And.intro @Cw (And.intro @Cx (And.intro @Cy (And.intro @Hy Pd.down))))
def b3:=PLift.up (And.intro Cz<|And.intro HD<|And.intro HE<|And.intro HC<|And.intro Hz<|And.intro HA<|And.intro HB<|And.intro @Cw (And.intro @Cx (And.intro @Cy (And.intro @Hy vo.down))))
def bn:=PLift.up (And.intro Cz<|And.intro @Cy<|And.intro @Cw (And.intro @Cx Pe.down))
def rE (l:List Nat):List Nat:=l.foldr (fun x acc=>if acc.contains x then acc else x::acc) []
theorem HF {x:Nat}:∀{l:List Nat},x∈rE l↔x∈l
 |[]=>Iff.rfl
 |y::l=>by
  have ih:=HF (x:=x) (l:=l)
  have e:rE (y::l)=if(rE l).contains y then rE l else y::rE l:=rfl
  rw[e]
  split
  ·rename_i h
   have bb:y∈rE l:=by simpa using h
   constructor
   ·intro ai;exact List.mem_cons_of_mem _ (ih.1 ai)
   ·intro ai
    rcases List.mem_cons.1 ai with rfl|ai
    ·exact bb
    ·exact ih.2 ai
  ·simp only[List.mem_cons,ih]
def CA:List (List Nat)→List (List Nat)→List (List Nat)
 |done,[]=>done
 |done,a::r=>CA (done++[rE (a++a.flatMap fun e=>(done[e]?).getD [])]) r
def PR (gG:List (List Nat)):List (List Nat):=CA [] gG
def CB (c d:List (List Nat)):Prop:=c.length=d.length∧∀(i x:Nat),x∈(c[i]?).getD []↔x∈(d[i]?).getD []
theorem HG:∀(r c d:List (List Nat)),CB c d→CB (CA c r) (vj d r)
 |[],c,d,h=>h
 |a::r,c,d,h=>by
  refine HG r _ _ ⟨by simp[h.1],fun i x=> ?_⟩
  rcases Nat.lt_trichotomy i c.length with ay|ay|ay
  ·rw[List.getElem?_append_left ay,List.getElem?_append_left (by rw[←h.1];exact ay)]
   exact h.2 i x
  ·rw[List.getElem?_append_right (by omega),List.getElem?_append_right (by rw[←h.1];omega),ay,Nat.sub_self,h.1,Nat.sub_self]
   simp only[List.getElem?_cons_zero,Option.getD_some,HF,List.mem_append,List.mem_flatMap]
   constructor
   ·rintro(ai|⟨e,he,ai⟩)
    ·exact .inl ai
    ·exact .inr ⟨e,he,(h.2 e x).1 ai⟩
   ·rintro(ai|⟨e,he,ai⟩)
    ·exact .inl ai
    ·exact .inr ⟨e,he,(h.2 e x).2 ai⟩
  ·rw[List.getElem?_eq_none (by simp;omega),List.getElem?_eq_none (by simp[←h.1];omega)]
theorem HH {c d:List (List Nat)} (h:CB c d):∀(aq:List eU) (j:Nat) (es:List (Nat×eU)),ml c j es aq=ml d j es aq
 |[],_,_=>rfl
 |f::aq,j,es=>by
  simp only[ml]
  rw[HH h aq]
  congr 2
  funext e
  congr 1
  rw[Bool.eq_iff_iff]
  simp only[List.contains_iff_mem]
  exact h.2 j e.1
theorem fb {gG:List (List Nat)} {j:Nat} {es:List (Nat×eU)} {aq:List eU} (h:ml (PR gG) j es aq=true):ml (sQ gG) j es aq=true:=by
 exact(HH (HG gG [] [] ⟨rfl,fun _ _=>Iff.rfl⟩) aq j es).symm.trans h
abbrev ro (d:Nat) (bA:fj):bO:=⟨some d,bA,none⟩
abbrev af (d x:Nat):bO:=ro d (.bg (.t x))
abbrev aQ (d x:Nat):bO:=ro d (.fk (.t x))
abbrev ba (d T x:Nat):bO:=ro d (.bY T (.t x))
abbrev bE (d T x k:Nat):bO:=ro d (.cH T (.t x) k)
abbrev dG (d T x i:Nat):bO:=ro d (.dO T (.t x) (.t i))
abbrev pw (d T x i:Nat):bO:=ro d (.idx T (.t x) (.t i))
abbrev b4 (d T x:Nat):bO:=ro d (.len T (.t x))
abbrev iK (d x:Nat):bO:=ro d (.eo (.t x))
abbrev b2 (d:Nat) (o:BinOp) (T x y:Nat):bO:=ro d (.bx o T (.t x) (.t y))
abbrev bu (d:Nat) (o:BinOp) (T x:Nat) (n:Int):bO:=ro d (.bx o T (.t x) (.c (.int .i64 n)))
abbrev oa (d:Nat) (n:Int):bO:=ro d (.bg (.c (.int .i64 n)))
abbrev bT (d:Nat) (n:Int):bO:=ro d (.fk (.c (.int .i64 n)))
abbrev bd (d:Nat) (b:Bool):bO:=ro d (.fk (.c (.bool b)))
abbrev jB (d:Nat):bO:=ro d (.fk (.c .bk))
abbrev ln (d T:Nat):bO:=ro d (.gU T)
abbrev dP (d g a:Nat):bO:=ro d (.call (.f g) [.t a])
abbrev ed (d g a b:Nat):bO:=ro d (.call (.f g) [.t a,.t b])
abbrev iY (d x k:Nat):bO:=ro d (.ex (.t x) k)
abbrev fp (d x:Nat):bO:=ro d (.un .not (.t x))
abbrev xQ (d T x:Nat):bO:=ro d (.dT T 1 [(0,.t x)])
abbrev xR (d T bz x y:Nat):bO:=ro d (.app T bz (.t x) (.t y))
abbrev fH (T x y:Nat):bO:=⟨none,.gd T (.t x) (.t y),none⟩
abbrev PS (d A B x:Nat):bO:=ro d (.gr A B (.t x))
theorem bh.HI {C:bS} (bc:C.en) {f:FuncId} {fn:Func} {c:Code} {e4:J} {fx:List Nat} {as outs:List I} {r:I} (fN:List ResultVar) (l:List (Nat×I)) (br:C.P.funcs[f]? =some fn) (U:fn.body=some c)
  (kU:(fn.name== "runtime.NumGoroutine")=false) (aa:bt ⟨fn.ntmps,fx⟩ c=some e4.strip) (aV:as.length≤fn.ntmps) (gg:fn.results.toList=fN) (aO:num 0 as=l)
  (h:∀Q:Exit→an→Prop,(∀s,fU (Ends C fx fN r outs) s→Q .ret s)→(∀s,fU (Ends C fx fN r outs) s→Q .normal s)→cK C e4 Q (R l)) (ao:e4.plain=true:=by kernel_rfl):bh C f as r outs:=by
 subst gg aO
 exact bh.O1 bc br U kU aa aV h ao
theorem pr.HI {C:bS} (bc:C.en) {f:FuncId} {fn:Func} {c:Code} {e4:J} {fx:List Nat} {as outs:List I} {r:I} {k m:Nat} (fN:List ResultVar) (l:List (Nat×I)) (br:C.P.funcs[f]? =some fn) (U:fn.body=some c)
  (kU:(fn.name== "runtime.NumGoroutine")=false) (aa:bt ⟨fn.ntmps,fx⟩ c=some e4.strip) (aV:as.length≤fn.ntmps) (ax:e4.oQ (Cu C f fx as.length m k)) (gg:fn.results.toList=fN) (aO:num 0 as=l)
  (h:∀Q:Exit→an→Prop,(∀s,fU (Ends C fx fN r outs) s→Q .ret s)→(∀s,fU (Ends C fx fN r outs) s→Q .normal s)→cK C e4 Q (R l)):pr C f m k as r outs:=by
 subst gg aO
 exact pr.of_wp bc br U kU aa aV ax h
theorem cZ {b:Bool} (h:(!b)=true):b=false:=by cases b<;>first|rfl|cases h
theorem aR {b:Bool} (h:(!b)=false):b=true:=by cases b<;>first|rfl|cases h
section
variable {C:bS} {s:an} {l:List (Nat×I)} {Q:Exit→an→Prop}
theorem aK {fx:List Nat} {fN:List ResultVar} {r:I} (ds:List I) (ag:r=G2 ds:=by cases Aj (by assumption);rfl) (ad:fN.map (po C s)=ds.map some:=by rfl) (aF:(fN.map kv).Nodup:=by decide):Ends C fx fN r [] s:=
 O2 ds ad ag aF O3
theorem aU {mi:an→Prop} {a b:J} (vr:∀s,mi s→Q .ret s) (h:∀dZ:Exit→an→Prop,(∀s,fU (cK C b Q) s→dZ .normal s)→(∀s,mi s→dZ .ret s)→(∀i s,Q (.exit i) s→dZ (.exit i) s)→cK C a dZ s):cK C (.seq a b) Q s:=
 OY fun dZ n q x=>h dZ n (fun s aa=>q s (vr s aa)) x
theorem cg {mi:an→Prop} {id:Nat} {b:J} (vr:∀s,mi s→Q .ret s) (h:∀dZ:Exit→an→Prop,(∀s,Q .normal s→dZ .normal s)→(∀s,mi s→dZ .ret s)→(∀s,Q .normal s→dZ (.exit id) s)→(∀i s,i≠id→Q (.exit i) s→dZ (.exit i) s)→cK C b dZ s):cK C (.block id b) Q s:=
 OZ fun dZ n q b x=>h dZ n (fun s aa=>q s (vr s aa)) b x
theorem eI {mi:an→Prop} {b:J} (vr:∀s,mi s→Q .ret s) (h:∀dZ:Exit→an→Prop,(∀s,fU (ei C b Q) s→dZ .normal s)→(∀s,mi s→dZ .ret s)→(∀i s,Q (.exit i) s→dZ (.exit i) s)→cK C b dZ s):ei C b Q s:=
 O0 fun dZ n q x=>h dZ n (fun s aa=>q s (vr s aa)) x
theorem a_ {β:Type} {c:aC} {t e:J} {b:Bool} {x y:Option β} {r:β} (h:cond b x y=some r) (ad:b=true→x=some r→cK C t Q s) (ag:b=false→y=some r→cK C e Q s) (aj:aE s c= .bool b:=by rfl):cK C (.cond c t e) Q s:=by
 rcases dA h with⟨rfl,h⟩|⟨rfl,h⟩
 ·exact fC aj (ad rfl h)
 ·exact lk aj (ag rfl h)
end
end Go.cI
