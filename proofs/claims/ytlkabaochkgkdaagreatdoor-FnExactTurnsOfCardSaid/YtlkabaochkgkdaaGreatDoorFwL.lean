/- Part of a proof that a law returns true for every input. No condition. -/
import Derived.Test.YtlkabaochkgkdaaGreatDoorFwK
namespace Go.c_
theorem I1 {α:Type} {h:Decidable True} (t e:α): @ite α True h t e=t:=if_pos trivial
theorem I2 {α:Type} {h:Decidable False} (t e:α): @ite α False h t e=e:=if_neg id
theorem I3 {α:Type} [BEq α] [ReflBEq α] (a:α):(a==a)=true:=BEq.rfl
theorem OO {α:Type} (a b:α):(a≠b)=¬(a=b):=rfl
theorem OP:I.owner .hole=none/\(∀b,I.owner (.bool b)=none)/\I.owner .fs=none/\(∀k n,I.owner (.int k n)=none)/\(∀x,I.owner (.str x)=none)/\I.owner .dS=none/\I.owner .bz=none/\(∀x,I.owner (.slice x)=none)/\(∀n x,I.owner (.ao n x)=none)/\
  (∀x,I.owner (.ref x)=none)/\(∀x,I.owner (.bh x)=none)/\(∀x,I.owner (.agg x)=none)/\(∀x,I.owner (.tuple x)=none)/\(∀f c,I.owner (.fn f c)=none)/\(∀x q,I.owner (.h x q)=some x):=
 ⟨rfl,λ_=>rfl,rfl,λ_ _=>rfl,λ_=>rfl,rfl,rfl,λ_=>rfl,λ_ _=>rfl,λ_=>rfl,λ_=>rfl,λ_=>rfl,λ_=>rfl,λ_ _=>rfl,λ_ _=>rfl⟩
theorem OQ:(¬False)=True:=not_false_eq_true
theorem OR:(¬True)=False:=not_true_eq_false
theorem OS:∀a b:Nat,(some a=some b)=(a=b):=λ_ _=>propext ⟨λh=>Option.some.inj h,λh=>congrArg some h⟩
theorem OT:(∀n,num n []=[])/\(∀n a as,num n (a::as)=(n,a)::num (n+1) as):=⟨λ_=>rfl,λ_ _ _=>rfl⟩
theorem OU:∀s1:ar,dp (some s1)=some (.hole,s1):=λ_=>rfl
theorem I4:(∀t o,jP t (.eD o)= .h t [])/\(∀(l:List (Nat×I)) t o,fin (ab l) (some t) (.eD o)=ab ((t,.eD o)::o8 t l))/\(∀o,I.plain (.eD o)=false)/\(∀t o,da t (.eD o)= .eD o)/\(∀t o,ct t (.eD o)= .eD o)/\
  (∀o,I.dz (.eD o)= .hole)/\(∀o,I.wd (.eD o)=1)/\(∀o,I.hf (.eD o)=true)/\(∀a b,sM (.eD a) (.eD b)=true)/\(∀s x q d o,cZ.jC s ⟨.h x q,true,d,.eD o⟩=dD (mD x s) x (I.put q (.eD o) (s x)))/\(∀o,I.ae (.eD o)=[])/\(∀o,I.tree (.eD o)=true)/\(∀a b n m z,hb.ok ⟨.map a b,n,m,z⟩=true)/\(∀a b n m z,hb.flat ⟨.map a b,n,m,z⟩=true):=
 ⟨λ_ _=>rfl,λl t o=>by simp only[fin,I.plain,Bool.false_eq_true,if_false,wP,lH],λ_=>rfl,λ_ _=>by unfold da;rfl,λ_ _=>by unfold ct;rfl,λ_=>by simp only[I.dz],λ_=>by simp only[I.wd],λ_=>rfl,λ_ _=>rfl,λ_ _ _ _ _=>by simp[cZ.jC],λ_=>by simp only[I.ae],λ_=>rfl,λ_ _ _ _ _=>rfl,λ_ _ _ _ _=>rfl⟩
def aM:=PLift.up (And.intro I4<|And.intro OT<|And.intro OU<|And.intro OS<|And.intro OP<|And.intro OQ<|And.intro OR<|And.intro @I1 (And.intro @I2 (And.intro @I3 (And.intro @OO Xu.down))))
def dY:=PLift.up (And.intro I4<|And.intro OT<|And.intro OU<|And.intro OS<|And.intro OP<|And.intro OQ<|And.intro OR<|And.intro @I1 (And.intro @I2 (And.intro @I3 (And.intro @OO zC.down))))
def bf:=PLift.up (And.intro I4<|And.intro @I3<|And.intro @I1 (And.intro @I2 Xv.down))
def uG (l:List Nat):List Nat:=l.foldr (λx acc=>if acc.contains x then acc else x::acc) []
theorem OV {x:Nat}:∀{l:List Nat},x∈uG l↔x∈l
 |[]=>Iff.rfl
 |y::l=>by
  have ih:=OV (x:=x) (l:=l);have e:uG (y::l)=if(uG l).contains y then uG l else y::uG l:=rfl;rw[e];split
  .rename_i h;have bt:y∈uG l:=by simpa using h
   constructor
   .intro aw;exact List.mem_cons_of_mem _ (ih.1 aw)
   .intro aw;rcases List.mem_cons.1 aw with rfl|aw
    .exact bt
    .exact ih.2 aw
  .simp only[List.mem_cons,ih]
def I5:List (List Nat)->List (List Nat)->List (List Nat)
 |done,[]=>done
 |done,a::r=>I5 (done++[uG (a++a.flatMap λe=>(done[e]?).getD [])]) r
def YB (h5:List (List Nat)):List (List Nat):=I5 [] h5
def I6 (c d:List (List Nat)):Prop:=c.length=d.length/\∀(i x:Nat),x∈(c[i]?).getD []↔x∈(d[i]?).getD []
theorem OW:∀(r c d:List (List Nat)),I6 c d->I6 (I5 c r) (zy d r)
 |[],c,d,h=>h
 |a::r,c,d,h=>by
  refine OW r _ _ ⟨by simp[h.1],λi x=>?_⟩;rcases Nat.lt_trichotomy i c.length with an|an|an
  .rw[List.getElem?_append_left an,List.getElem?_append_left (by rw[<-h.1];exact an)];exact h.2 i x
  .rw[List.getElem?_append_right (by omega),List.getElem?_append_right (by rw[<-h.1];omega),an,Nat.sub_self,h.1,Nat.sub_self];simp only[List.getElem?_cons_zero,Option.getD_some,OV,List.mem_append,List.mem_flatMap];constructor
   .rintro(aw|⟨e,he,aw⟩)
    .exact .inl aw
    .exact .inr ⟨e,he,(h.2 e x).1 aw⟩
   .rintro(aw|⟨e,he,aw⟩)
    .exact .inl aw
    .exact .inr ⟨e,he,(h.2 e x).2 aw⟩
  .rw[List.getElem?_eq_none (by simp;omega),List.getElem?_eq_none (by simp[<-h.1];omega)]
theorem OX {c d:List (List Nat)} (h:I6 c d):∀(az:List fS) (j:Nat) (es:List (Nat×fS)),nU c j es az=nU d j es az
 |[],_,_=>rfl
 |f::az,j,es=>by
  simp only[nU];rw[OX h az];congr 2;funext e;congr 1;rw[Bool.eq_iff_iff];simp only[List.contains_iff_mem];exact h.2 j e.1
theorem ht {h5:List (List Nat)} {j:Nat} {es:List (Nat×fS)} {az:List fS} (h:nU (YB h5) j es az=true):nU (wT h5) j es az=true:=by
 exact(OX (OW h5 [] [] ⟨rfl,λ_ _=>Iff.rfl⟩) az j es).symm.trans h
abbrev ro (d:Nat) (b0:gr):cb:=⟨some d,b0,none⟩
abbrev aa (d x:Nat):cb:=ro d (.bS (.t x))
abbrev aA (d x:Nat):cb:=ro d (.gz (.t x))
abbrev aV (d T x:Nat):cb:=ro d (.cp T (.t x))
abbrev bc (d T x k:Nat):cb:=ro d (.cY T (.t x) k)
abbrev cq (d T x i:Nat):cb:=ro d (.fp T (.t x) (.t i))
abbrev s8 (d T x i:Nat):cb:=ro d (.idx T (.t x) (.t i))
abbrev bM (d T x:Nat):cb:=ro d (.len T (.t x))
abbrev jc (d x:Nat):cb:=ro d (.gg (.t x))
abbrev bG (d:Nat) (o:BinOp) (T x y:Nat):cb:=ro d (.bV o T (.t x) (.t y))
abbrev aZ (d:Nat) (o:BinOp) (T x:Nat) (n:Int):cb:=ro d (.bV o T (.t x) (.c (.int .i64 n)))
abbrev lK (d:Nat) (n:Int):cb:=ro d (.bS (.c (.int .i64 n)))
abbrev a_ (d:Nat) (n:Int):cb:=ro d (.gz (.c (.int .i64 n)))
abbrev br (d:Nat) (b:Bool):cb:=ro d (.gz (.c (.bool b)))
abbrev il (d:Nat):cb:=ro d (.gz (.c .bz))
abbrev jJ (d T:Nat):cb:=ro d (.hx T)
abbrev dJ (d g a:Nat):cb:=ro d (.call (.f g) [.t a])
abbrev dB (d g a b:Nat):cb:=ro d (.call (.f g) [.t a,.t b])
abbrev OY (d g a b c:Nat):cb:=ro d (.call (.f g) [.t a,.t b,.t c])
abbrev iY (d x k:Nat):cb:=ro d (.ex (.t x) k)
abbrev eF (d x:Nat):cb:=ro d (.un .not (.t x))
abbrev zI (d T x:Nat):cb:=ro d (.eQ T 1 [(0,.t x)])
abbrev CY (d T bZ x y:Nat):cb:=ro d (.app T bZ (.t x) (.t y))
abbrev dZ (T x y:Nat):cb:=⟨none,.gH T (.t x) (.t y),none⟩
abbrev I7 (d A B x:Nat):cb:=ro d (.gI A B (.t x))
theorem bk.I8 {C:cl} (bx:C.fc) {f:FuncId} {fn:Func} {c:Code} {dT:J} {fx:List Nat} {as outs:List I} {r:I} (fM:List ResultVar) (l:List (Nat×I)) (bw:C.P.funcs[f]? =some fn) (ad:fn.body=some c)
  (kP:(fn.name== "runtime.NumGoroutine")=false) (ae:bq ⟨fn.ntmps,fx⟩ c=some dT.strip) (a7:as.length<=fn.ntmps) (hc:fn.results.toList=fM) (hl:num 0 as=l)
  (h:∀Q:Exit->ar->Prop,(∀s,eK (Ends C fx fM r outs) s->Q .ret s)->(∀s,eK (Ends C fx fM r outs) s->Q .normal s)->dc C dT Q (ab l)) (au:dT.plain=true:=by kernel_rfl):bk C f as r outs:=by
 subst hc hl;exact bk.Xh bx bw ad kP ae a7 h au
theorem nj.I8 {C:cl} (bx:C.fc) {f:FuncId} {fn:Func} {c:Code} {dT:J} {fx:List Nat} {as outs:List I} {r:I} {k m:Nat} (fM:List ResultVar) (l:List (Nat×I)) (bw:C.P.funcs[f]? =some fn) (ad:fn.body=some c)
  (kP:(fn.name== "runtime.NumGoroutine")=false) (ae:bq ⟨fn.ntmps,fx⟩ c=some dT.strip) (a7:as.length<=fn.ntmps) (ay:dT.nS (CV C f fx as.length m k)) (hc:fn.results.toList=fM) (hl:num 0 as=l)
  (h:∀Q:Exit->ar->Prop,(∀s,eK (Ends C fx fM r outs) s->Q .ret s)->(∀s,eK (Ends C fx fM r outs) s->Q .normal s)->dc C dT Q (ab l)):nj C f m k as r outs:=by
 subst hc hl;exact nj.of_wp bx bw ad kP ae a7 ay h
theorem bk.YC {C:cl} (bx:C.fc) {f:FuncId} {fn:Func} {c:Code} {dT:J} {fx:List Nat} {as outs:List I} {r:I} (fM:List ResultVar) (l:List (Nat×I)) (bw:C.P.funcs[f]? =some fn) (ad:fn.body=some c)
  (kP:(fn.name== "runtime.NumGoroutine")=false) (ae:bq ⟨fn.ntmps,fx⟩ c=some dT.strip) (a7:as.length<=fn.ntmps) (ay:dT.nS (zH C)) (hc:fn.results.toList=fM) (hl:num 0 as=l)
  (h:∀Q:Exit->ar->Prop,(∀s,eK (Ends C fx fM r outs) s->Q .ret s)->(∀s,eK (Ends C fx fM r outs) s->Q .normal s)->dc C dT Q (ab l)):bk C f as r outs:=by
 subst hc hl;exact bk.Yz bx bw ad kP ae a7 ay h
theorem gk {b:Bool} (h:(!b)=true):b=false:=by cases b<;>first|rfl|cases h
theorem bY {b:Bool} (h:(!b)=false):b=true:=by cases b<;>first|rfl|cases h
section
variable {C:cl} {s:ar} {l:List (Nat×I)} {Q:Exit->ar->Prop}
theorem aG {fx:List Nat} {fM:List ResultVar} {r:I} (ds:List I) (ah:r=NQ ds:=by cases jO (by assumption);rfl) (ag:fM.map (rK C s)=ds.map some:=by rfl) (aN:(fM.map kt).Nodup:=by decide):Ends C fx fM r [] s:=
 pa ds ag ah aN Xi
theorem aH {nO:ar->Prop} {a b:J} (zJ:∀s,nO s->Q .ret s) (h:∀eR:Exit->ar->Prop,(∀s,eK (dc C b Q) s->eR .normal s)->(∀s,nO s->eR .ret s)->(∀i s,Q (.exit i) s->eR (.exit i) s)->dc C a eR s):dc C (.seq a b) Q s:=
 Xe λeR n q x=>h eR n (λs ae=>q s (zJ s ae)) x
theorem bB {nO:ar->Prop} {id:Nat} {b:J} (zJ:∀s,nO s->Q .ret s) (h:∀eR:Exit->ar->Prop,(∀s,Q .normal s->eR .normal s)->(∀s,nO s->eR .ret s)->(∀s,Q .normal s->eR (.exit id) s)->(∀i s,i≠id->Q (.exit i) s->eR (.exit i) s)->dc C b eR s):dc C (.block id b) Q s:=
 Xf λeR n q b x=>h eR n (λs ae=>q s (zJ s ae)) b x
theorem dK {nO:ar->Prop} {b:J} (zJ:∀s,nO s->Q .ret s) (h:∀eR:Exit->ar->Prop,(∀s,eK (du C b Q) s->eR .normal s)->(∀s,nO s->eR .ret s)->(∀i s,Q (.exit i) s->eR (.exit i) s)->dc C b eR s):du C b Q s:=
 Xg λeR n q x=>h eR n (λs ae=>q s (zJ s ae)) x
theorem aR {β:Type} {c:aI} {t e:J} {b:Bool} {x y:Option β} {r:β} (h:cond b x y=some r) (ag:b=true->x=some r->dc C t Q s) (ah:b=false->y=some r->dc C e Q s) (aq:aP s c= .bool b:=by rfl):dc C (.cond c t e) Q s:=by
 rcases eS h with⟨rfl,h⟩|⟨rfl,h⟩
 .exact iW aq (ag rfl h)
 .exact rN aq (ah rfl h)
end
end Go.c_
