/- Part of a proof that a law returns true for every input. No condition. -/
import Derived.Test.YtpddiknnnoomoaaFwK
namespace Go.bV
theorem wj {α:Type} {h:Decidable True} (t e:α): @ite α True h t e=t:=if_pos trivial
theorem wk {α:Type} {h:Decidable False} (t e:α): @ite α False h t e=e:=if_neg id
theorem wm {α:Type} [BEq α] [ReflBEq α] (a:α):(a==a)=true:=BEq.rfl
theorem AN {α:Type} (a b:α):(a≠b)=¬(a=b):=rfl
theorem AO:j.owner .hole=none∧(∀b,j.owner (.bool b)=none)∧j.owner .c1=none∧(∀k n,j.owner (.int k n)=none)∧(∀x,j.owner (.str x)=none)∧j.owner .ck=none∧j.owner .bG=none∧(∀x,j.owner (.slice x)=none)∧(∀n x,j.owner (.aK n x)=none)∧
  (∀x,j.owner (.ref x)=none)∧(∀x,j.owner (.bc x)=none)∧(∀x,j.owner (.agg x)=none)∧(∀x,j.owner (.tuple x)=none)∧(∀f c,j.owner (.fn f c)=none)∧(∀x q,j.owner (.h x q)=some x):=
 ⟨rfl,fun _=>rfl,rfl,fun _ _=>rfl,fun _=>rfl,rfl,rfl,fun _=>rfl,fun _ _=>rfl,fun _=>rfl,fun _=>rfl,fun _=>rfl,fun _=>rfl,fun _ _=>rfl,fun _ _=>rfl⟩
theorem AP:(¬False)=True:=not_false_eq_true
theorem AQ:(¬True)=False:=not_true_eq_false
theorem AR:∀a b:Nat,(some a=some b)=(a=b):=fun _ _=>propext ⟨fun h=>Option.some.inj h,fun h=>congrArg some h⟩
theorem AS:(∀n,num n []=[])∧(∀n a as,num n (a::as)=(n,a)::num (n+1) as):=⟨fun _=>rfl,fun _ _ _=>rfl⟩
theorem AU:∀s1:af,hK (some s1)=some (.hole,s1):=fun _=>rfl
theorem AV {k bY:IntKind} {b m:Int} (h:¬b<0) (hm:2^(min b.toNat k.bits)=m):∀a,eU .shl k a bY b=some (.int k (k.wrap (a*m))):=fun _=>hm▸Gy h
theorem Ht {k bY:IntKind} {b m:Int} (h:¬b<0) (hm:2^(min b.toNat k.bits)=m):∀a,eU .shr k a bY b=some (.int k (a.fdiv m)):=fun _=>hm▸Gz h
theorem wo:(∀t o,fN t (.cr o)= .h t [])∧(∀(l:List (Nat×j)) t o,fin (J l) (some t) (.cr o)=J ((t,.cr o)::jH t l))∧(∀o,j.plain (.cr o)=false)∧(∀t o,bK t (.cr o)= .cr o)∧(∀t o,bo t (.cr o)= .cr o)∧
  (∀o,j.bT (.cr o)= .hole)∧(∀o,j.wd (.cr o)=1)∧(∀o,j.dS (.cr o)=true)∧(∀a b,mz (.cr a) (.cr b)=true)∧(∀s x q d o,bH.fA s ⟨.h x q,true,d,.cr o⟩=bZ (hD x s) x (j.put q (.cr o) (s x)))∧(∀o,j.R (.cr o)=[])∧(∀o,j.tree (.cr o)=true)∧(∀a b n m z,dR.ok ⟨.map a b,n,m,z⟩=true)∧(∀a b n m z,dR.flat ⟨.map a b,n,m,z⟩=true):=
 ⟨fun _ _=>rfl,fun l t o=>by simp only[fin,j.plain,Bool.false_eq_true,if_false,oP,g5],fun _=>rfl,fun _ _=>by unfold bK;rfl,fun _ _=>by unfold bo;rfl,fun _=>by simp only[j.bT],fun _=>by simp only[j.wd],fun _=>rfl,fun _ _=>rfl,fun _ _ _ _ _=>by simp[bH.fA],fun _=>by simp only[j.R],fun _=>rfl,fun _ _ _ _ _=>rfl,fun _ _ _ _ _=>rfl⟩
def bt:=PLift.up (And.intro wo<|And.intro AS<|And.intro AU<|And.intro AR<|And.intro AO<|And.intro AP<|And.intro AQ<|And.intro @wj (And.intro @wk (And.intro @wm (And.intro @AN GN.down))))
def gI:=PLift.up (And.intro wo<|And.intro AS<|And.intro AU<|And.intro AR<|And.intro AO<|And.intro AP<|And.intro AQ<|And.intro @wj (And.intro @wk (And.intro @wm (And.intro @AN g6.down))))
def b8:=PLift.up (And.intro wo<|And.intro @wm<|And.intro @wj (And.intro @wk GO.down))
def nZ (l:List Nat):List Nat:=l.foldr (fun x acc=>if acc.contains x then acc else x::acc) []
theorem AW {x:Nat}:∀{l:List Nat},x∈nZ l↔x∈l
 |[]=>Iff.rfl
 |y::l=>by
  have ih:=AW (x:=x) (l:=l)
  have e:nZ (y::l)=if(nZ l).contains y then nZ l else y::nZ l:=rfl
  rw[e]
  split
  ·rename_i h
   have a5:y∈nZ l:=by simpa using h
   constructor
   ·intro ao;exact List.mem_cons_of_mem _ (ih.1 ao)
   ·intro ao
    rcases List.mem_cons.1 ao with rfl|ao
    ·exact a5
    ·exact ih.2 ao
  ·simp only[List.mem_cons,ih]
def wq:List (List Nat)→List (List Nat)→List (List Nat)
 |done,[]=>done
 |done,a::r=>wq (done++[nZ (a++a.flatMap fun e=>(done[e]?).getD [])]) r
def Hu (dY:List (List Nat)):List (List Nat):=wq [] dY
def wt (c d:List (List Nat)):Prop:=c.length=d.length∧∀(i x:Nat),x∈(c[i]?).getD []↔x∈(d[i]?).getD []
theorem AX:∀(r c d:List (List Nat)),wt c d→wt (wq c r) (q5 d r)
 |[],c,d,h=>h
 |a::r,c,d,h=>by
  refine AX r _ _ ⟨by simp[h.1],fun i x=> ?_⟩
  rcases Nat.lt_trichotomy i c.length with az|az|az
  ·rw[List.getElem?_append_left az,List.getElem?_append_left (by rw[←h.1];exact az)]
   exact h.2 i x
  ·rw[List.getElem?_append_right (by omega),List.getElem?_append_right (by rw[←h.1];omega),az,Nat.sub_self,h.1,Nat.sub_self]
   simp only[List.getElem?_cons_zero,Option.getD_some,AW,List.mem_append,List.mem_flatMap]
   constructor
   ·rintro(ao|⟨e,he,ao⟩)
    ·exact .inl ao
    ·exact .inr ⟨e,he,(h.2 e x).1 ao⟩
   ·rintro(ao|⟨e,he,ao⟩)
    ·exact .inl ao
    ·exact .inr ⟨e,he,(h.2 e x).2 ao⟩
  ·rw[List.getElem?_eq_none (by simp;omega),List.getElem?_eq_none (by simp[←h.1];omega)]
theorem AY {c d:List (List Nat)} (h:wt c d):∀(ag:List dm) (ad:Nat) (es:List (Nat×dm)),ij c ad es ag=ij d ad es ag
 |[],_,_=>rfl
 |f::ag,ad,es=>by
  simp only[ij]
  rw[AY h ag]
  congr 2
  funext e
  congr 1
  rw[Bool.eq_iff_iff]
  simp only[List.contains_iff_mem]
  exact h.2 ad e.1
theorem jb {dY:List (List Nat)} {ad:Nat} {es:List (Nat×dm)} {ag:List dm} (h:ij (Hu dY) ad es ag=true):ij (nQ dY) ad es ag=true:=by
 exact(AY (AX dY [] [] ⟨rfl,fun _ _=>Iff.rfl⟩) ag ad es).symm.trans h
abbrev ro (d:Nat) (a7:dE):bm:=⟨some d,a7,none⟩
abbrev aB (d x:Nat):bm:=ro d (.cq (.t x))
abbrev bu (d x:Nat):bm:=ro d (.fk (.t x))
abbrev eY (d T x:Nat):bm:=ro d (.cM T (.t x))
abbrev fl (d T x k:Nat):bm:=ro d (.dC T (.t x) k)
abbrev lV (d T x i:Nat):bm:=ro d (.dK T (.t x) (.t i))
abbrev kl (d T x i:Nat):bm:=ro d (.idx T (.t x) (.t i))
abbrev fD (d T x:Nat):bm:=ro d (.len T (.t x))
abbrev km (d x:Nat):bm:=ro d (.ed (.t x))
abbrev dM (d:Nat) (o:BinOp) (T x y:Nat):bm:=ro d (.bP o T (.t x) (.t y))
abbrev cF (d:Nat) (o:BinOp) (T x:Nat) (n:Int):bm:=ro d (.bP o T (.t x) (.c (.int .i64 n)))
abbrev wu (d:Nat) (n:Int):bm:=ro d (.cq (.c (.int .i64 n)))
abbrev cV (d:Nat) (n:Int):bm:=ro d (.fk (.c (.int .i64 n)))
abbrev dO (d:Nat) (b:Bool):bm:=ro d (.fk (.c (.bool b)))
abbrev pz (d:Nat):bm:=ro d (.fk (.c .bG))
abbrev pA (d T:Nat):bm:=ro d (.eK T)
abbrev hz (d g a:Nat):bm:=ro d (.call (.f g) [.t a])
abbrev kn (d g a b:Nat):bm:=ro d (.call (.f g) [.t a,.t b])
abbrev Hv (d g a b c:Nat):bm:=ro d (.call (.f g) [.t a,.t b,.t c])
abbrev g7 (d x k:Nat):bm:=ro d (.ex (.t x) k)
abbrev im (d x:Nat):bm:=ro d (.un .not (.t x))
abbrev rb (d T x:Nat):bm:=ro d (.c0 T 1 [(0,.t x)])
abbrev wv (d T a6 x y:Nat):bm:=ro d (.app T a6 (.t x) (.t y))
abbrev hA (T x y:Nat):bm:=⟨none,.dW T (.t x) (.t y),none⟩
abbrev hN (d A B x:Nat):bm:=ro d (.dD A B (.t x))
theorem cb.AZ {C:bq} (aQ:C.cY) {f:FuncId} {fn:Func} {c:Code} {cX:ah} {fx:List Nat} {as outs:List j} {r:j} (dt:List ResultVar) (l:List (Nat×j)) (bk:C.P.funcs[f]? =some fn) (I:fn.body=some c)
  (ht:(fn.name== "runtime.NumGoroutine")=false) (R:cB ⟨fn.ntmps,fx⟩ c=some cX.strip) (aV:as.length≤fn.ntmps) (dN:fn.results.toList=dt) (hl:num 0 as=l)
  (h:∀Q:Exit→af→Prop,(∀s,dZ (Ends C fx dt r outs) s→Q .ret s)→(∀s,dZ (Ends C fx dt r outs) s→Q .normal s)→b7 C cX Q (J l)) (an:cX.plain=true:=by kernel_rfl):cb C f as r outs:=by
 subst dN hl
 exact cb.GG aQ bk I ht R aV h an
theorem lS.AZ {C:bq} (aQ:C.cY) {f:FuncId} {fn:Func} {c:Code} {cX:ah} {fx:List Nat} {as outs:List j} {r:j} {k m:Nat} (dt:List ResultVar) (l:List (Nat×j)) (bk:C.P.funcs[f]? =some fn) (I:fn.body=some c)
  (ht:(fn.name== "runtime.NumGoroutine")=false) (R:cB ⟨fn.ntmps,fx⟩ c=some cX.strip) (aV:as.length≤fn.ntmps) (ai:cX.k7 (wg C f fx as.length m k)) (dN:fn.results.toList=dt) (hl:num 0 as=l)
  (h:∀Q:Exit→af→Prop,(∀s,dZ (Ends C fx dt r outs) s→Q .ret s)→(∀s,dZ (Ends C fx dt r outs) s→Q .normal s)→b7 C cX Q (J l)):lS C f m k as r outs:=by
 subst dN hl
 exact lS.of_wp aQ bk I ht R aV ai h
theorem pB {b:Bool} (h:(!b)=true):b=false:=by cases b<;>first|rfl|cases h
theorem wx {b:Bool} (h:(!b)=false):b=true:=by cases b<;>first|rfl|cases h
section
variable {C:bq} {s:af} {l:List (Nat×j)} {Q:Exit→af→Prop}
theorem cA {fx:List Nat} {dt:List ResultVar} {r:j} (ds:List j) (aa:r=Ag ds:=by cases mc (by assumption);rfl) (U:dt.map (lP C s)=ds.map some:=by rfl) (aw:(dt.map gf).Nodup:=by decide):Ends C fx dt r [] s:=
 sN ds U aa aw GH
theorem ch {iP:af→Prop} {a b:ah} (g8:∀s,iP s→Q .ret s) (h:∀cT:Exit→af→Prop,(∀s,dZ (b7 C b Q) s→cT .normal s)→(∀s,iP s→cT .ret s)→(∀i s,Q (.exit i) s→cT (.exit i) s)→b7 C a cT s):b7 C (.seq a b) Q s:=
 GC fun cT n q x=>h cT n (fun s R=>q s (g8 s R)) x
theorem eZ {iP:af→Prop} {id:Nat} {b:ah} (g8:∀s,iP s→Q .ret s) (h:∀cT:Exit→af→Prop,(∀s,Q .normal s→cT .normal s)→(∀s,iP s→cT .ret s)→(∀s,Q .normal s→cT (.exit id) s)→(∀i s,i≠id→Q (.exit i) s→cT (.exit i) s)→b7 C b cT s):b7 C (.block id b) Q s:=
 GD fun cT n q b x=>h cT n (fun s R=>q s (g8 s R)) b x
theorem iq {iP:af→Prop} {b:ah} (g8:∀s,iP s→Q .ret s) (h:∀cT:Exit→af→Prop,(∀s,dZ (gv C b Q) s→cT .normal s)→(∀s,iP s→cT .ret s)→(∀i s,Q (.exit i) s→cT (.exit i) s)→b7 C b cT s):gv C b Q s:=
 GF fun cT n q x=>h cT n (fun s R=>q s (g8 s R)) x
theorem cN {β:Type} {c:au} {t e:ah} {b:Bool} {x y:Option β} {r:β} (h:cond b x y=some r) (U:b=true→x=some r→b7 C t Q s) (aa:b=false→y=some r→b7 C e Q s) (ae:ax s c= .bool b:=by rfl):b7 C (.cond c t e) Q s:=by
 rcases jV h with⟨rfl,h⟩|⟨rfl,h⟩
 ·exact q8 ae (U rfl h)
 ·exact sM ae (aa rfl h)
end
end Go.bV
