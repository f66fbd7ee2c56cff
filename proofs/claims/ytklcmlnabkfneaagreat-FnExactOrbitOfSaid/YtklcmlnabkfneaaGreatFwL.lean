/- Part of a proof that a law returns true for every input. No condition. -/
import Derived.Test.YtklcmlnabkfneaaGreatFwK
namespace Go.de
open List Option Go.IntKind Nat Or
theorem Gh {α:Type} {h:Decidable True} (t e:α): @ite α True h t e=t:=if_pos trivial
theorem Gi {α:Type} {h:Decidable False} (t e:α): @ite α False h t e=e:=if_neg id
theorem Gj {α:Type} [BEq α] [ReflBEq α] (a:α):(a==a)=true:=BEq.rfl
theorem Oc {α:Type} (a b:α):(a≠b)=¬(a=b):=rfl
theorem Od:I.owner .hole=none/\(∀b,I.owner (.bool b)=none)/\I.owner .fm=none/\(∀k n,I.owner (.int k n)=none)/\(∀x,I.owner (.str x)=none)/\I.owner .dC=none/\I.owner .bd=none/\(∀x,I.owner (.slice x)=none)/\(∀n x,I.owner (.ag n x)=none)/\
  (∀x,I.owner (.ref x)=none)/\(∀x,I.owner (.bf x)=none)/\(∀x,I.owner (.agg x)=none)/\(∀x,I.owner (.tuple x)=none)/\(∀f c,I.owner (.fn f c)=none)/\(∀x q,I.owner (.h x q)=some x):=
 ⟨rfl,λ_=>rfl,rfl,λ_ _=>rfl,λ_=>rfl,rfl,rfl,λ_=>rfl,λ_ _=>rfl,λ_=>rfl,λ_=>rfl,λ_=>rfl,λ_=>rfl,λ_ _=>rfl,λ_ _=>rfl⟩
theorem Oe:(¬False)=True:=not_false_eq_true
theorem Of:(¬True)=False:=not_true_eq_false
theorem Og:∀a b:Nat,(some a=some b)=(a=b):=λ_ _=>propext ⟨λh=>some.inj h,λh=>congrArg some h⟩
theorem Oh:(∀n,num n []=[])/\(∀n a as,num n (a::as)=(n,a)::num (n+1) as):=⟨λ_=>rfl,λ_ _ _=>rfl⟩
theorem Oi:∀s1:aw,cJ (some s1)=some (.hole,s1):=λ_=>rfl
theorem Gk:(∀t o,pI t (.dS o)= .h t [])/\(∀(l:alV) t o,fin (ay l) (some t) (.dS o)=ay ((t,.dS o)::q0 t l))/\(∀o,I.plain (.dS o)=false)/\(∀t o,cR t (.dS o)= .dS o)/\(∀t o,cb t (.dS o)= .dS o)/\
  (∀o,I.c_ (.dS o)= .hole)/\(∀o,I.wd (.dS o)=1)/\(∀o,I.gv (.dS o)=true)/\(∀a b,r5 (.dS a) (.dS b)=true)/\(∀s x q d o,cD.iP s ⟨.h x q,true,d,.dS o⟩=dq (lQ x s) x (I.put q (.dS o) (s x)))/\(∀o,I.ad (.dS o)=[])/\(∀o,I.tree (.dS o)=true)/\(∀a b n m z,gp.ok ⟨.map a b,n,m,z⟩=true)/\(∀a b n m z,gp.flat ⟨.map a b,n,m,z⟩=true):=
 ⟨λ_ _=>rfl,λl t o=>by simp only[fin,I.plain,Bool.false_eq_true,if_false,FH,x7],λ_=>rfl,λ_ _=>by unfold cR;rfl,λ_ _=>by unfold cb;rfl,λ_=>by simp only[I.c_],λ_=>by simp only[I.wd],λ_=>rfl,λ_ _=>rfl,λ_ _ _ _ _=>by simp[cD.iP],λ_=>by simp only[I.ad],λ_=>rfl,λ_ _ _ _ _=>rfl,λ_ _ _ _ _=>rfl⟩
def W1:=PLift.up (af Gk<|af Oh<|af Oi<|af Og<|af Od<|af Oe<|af Of<|af @Gh (af @Gi (af @Gj (af @Oc VO.down))))
def W2:=PLift.up (af Gk<|af Oh<|af Oi<|af Og<|af Od<|af Oe<|af Of<|af @Gh (af @Gi (af @Gj (af @Oc VP.down))))
def W3:=PLift.up (af Gk<|af @Gj<|af @Gh (af @Gi VQ.down))
def tH (l:alR):alR:=l.foldr (λx acc=>if acc.contains x then acc else x::acc) []
theorem Oj {x:Nat}:∀{l:alR},x∈tH l↔x∈l
 |[]=>Iff.rfl
 |y::l=>by
  have ih:=Oj (x:=x) (l:=l);have e:tH (y::l)=if(tH l).contains y then tH l else y::tH l:=rfl;rw[e];split
  .rename_i h;have bC:y∈tH l:=by simpa using h
   constructor
   .intro au;exact mem_cons_of_mem _ (ih.1 au)
   .intro au;rcases mem_cons.1 au with rfl|au
    .exact bC
    .exact ih.2 au
  .simp only[mem_cons,ih]
def Gl:alP->alP->alP
 |done,[]=>done
 |done,a::r=>Gl (done++[tH (a++a.flatMap λe=>(done[e]?).getD [])]) r
def W4 (eX:alP):alP:=Gl [] eX
def Gm (c d:alP):Prop:=c.length=d.length/\∀(i x:Nat),x∈(c[i]?).getD []↔x∈(d[i]?).getD []
theorem Ol:∀(r c d:alP),Gm c d->Gm (Gl c r) (x_ d r)
 |[],c,d,h=>h
 |a::r,c,d,h=>by
  refine Ol r _ _ ⟨by simp[h.1],λi x=>?_⟩;rcases Nat.lt_trichotomy i c.length with ao|ao|ao
  .rw[getElem?_append_left ao,getElem?_append_left (by rw[<-h.1];exact ao)];exact h.2 i x
  .rw[getElem?_append_right (by omega),getElem?_append_right (by rw[<-h.1];omega),ao,Nat.sub_self,h.1,Nat.sub_self];simp only[getElem?_cons_zero,getD_some,Oj,mem_append,mem_flatMap];constructor
   .rintro(au|⟨e,he,au⟩)
    .exact .inl au
    .exact .inr ⟨e,he,(h.2 e x).1 au⟩
   .rintro(au|⟨e,he,au⟩)
    .exact .inl au
    .exact .inr ⟨e,he,(h.2 e x).2 au⟩
  .rw[getElem?_eq_none (by simp;omega),getElem?_eq_none (by simp[<-h.1];omega)]
theorem Om {c d:alP} (h:Gm c d):∀(aE:List fs) (j:Nat) (es:List (Nat×fs)),kR c j es aE=kR d j es aE
 |[],_,_=>rfl
 |f::aE,j,es=>by
  simp only[kR];rw[Om h aE];congr 2;funext e;congr 1;rw[Bool.eq_iff_iff];simp only[contains_iff_mem];exact h.2 j e.1
theorem ky {eX:alP} {j:Nat} {es:List (Nat×fs)} {aE:List fs} (h:kR (W4 eX) j es aE=true):kR (oW eX) j es aE=true:=by
 exact(Om (Ol eX [] [] ⟨rfl,λ_ _=>Iff.rfl⟩) aE j es).symm.trans h
abbrev ro (d:Nat) (bV:ed):ch:=⟨some d,bV,none⟩
abbrev cT (d x:Nat):ch:=ro d (.hB (.t x))
abbrev e6 (d x:Nat):ch:=ro d (.lx (.t x))
abbrev eZ (d T x:Nat):ch:=ro d (.fk T (.t x))
abbrev hh (d T x k:Nat):ch:=ro d (.ho T (.t x) k)
abbrev tI (d T x i:Nat):ch:=ro d (.jL T (.t x) (.t i))
abbrev yq (d T x:Nat):ch:=ro d (.len T (.t x))
abbrev W5 (d x:Nat):ch:=ro d (.kK (.t x))
abbrev sk (d:Nat) (o:BinOp) (T x y:Nat):ch:=ro d (.eU o T (.t x) (.t y))
abbrev hi (d:Nat) (o:BinOp) (T x:Nat) (n:Int):ch:=ro d (.eU o T (.t x) (.c (.int .i64 n)))
abbrev On (d:Nat) (n:Int):ch:=ro d (.hB (.c (.int .i64 n)))
abbrev iA (d:Nat) (n:Int):ch:=ro d (.lx (.c (.int .i64 n)))
abbrev lG (d:Nat) (b:Bool):ch:=ro d (.lx (.c (.bool b)))
abbrev Gn (d:Nat):ch:=ro d (.lx (.c .bd))
abbrev yr (d T:Nat):ch:=ro d (.kq T)
abbrev mU (d g a:Nat):ch:=ro d (.call (.f g) [.t a])
abbrev kV (d g a b:Nat):ch:=ro d (.call (.f g) [.t a,.t b])
abbrev vl (d x k:Nat):ch:=ro d (.ex (.t x) k)
abbrev sl (d x:Nat):ch:=ro d (.un .not (.t x))
abbrev Oo (d T x:Nat):ch:=ro d (.fa T 1 [(0,.t x)])
abbrev W6 (d T c8 x y:Nat):ch:=ro d (.app T c8 (.t x) (.t y))
abbrev sm (T x y:Nat):ch:=⟨none,.iV T (.t x) (.t y),none⟩
abbrev Oq (d A B x:Nat):ch:=ro d (.iX A B (.t x))
theorem aY.Gp {C:ca} (bn:C.Ok) {f:FuncId} {fn:Func} {c:Code} {dj:aI} {fx:alR} {as outs:alW} {r:I} (eL:List ResultVar) (l:alV) (bo:C.P.funcs[f]? =some fn) (R:fn.body=some c)
  (kP:(fn.name== "runtime.NumGoroutine")=false) (ad:e5 ⟨fn.ntmps,fx⟩ c=some dj.strip) (aS:as.length<=fn.ntmps) (fw:fn.results.toList=eL) (hl:num 0 as=l)
  (h:∀Q:Exit->aw->Prop,(∀s,dK (Ends C fx eL r outs) s->Q .ret s)->(∀s,dK (Ends C fx eL r outs) s->Q .normal s)->a_ C dj Q (ay l)) (aq:dj.plain=true:=by kernel_rfl):aY C f as r outs:=by
 subst fw hl;exact aY.Vt bn bo R kP ad aS h aq
theorem mq.Gp {C:ca} (bn:C.Ok) {f:FuncId} {fn:Func} {c:Code} {dj:aI} {fx:alR} {as outs:alW} {r:I} {k m:Nat} (eL:List ResultVar) (l:alV) (bo:C.P.funcs[f]? =some fn) (R:fn.body=some c)
  (kP:(fn.name== "runtime.NumGoroutine")=false) (ad:e5 ⟨fn.ntmps,fx⟩ c=some dj.strip) (aS:as.length<=fn.ntmps) (ax:dj.mQ (BQ C f fx as.length m k)) (fw:fn.results.toList=eL) (hl:num 0 as=l)
  (h:∀Q:Exit->aw->Prop,(∀s,dK (Ends C fx eL r outs) s->Q .ret s)->(∀s,dK (Ends C fx eL r outs) s->Q .normal s)->a_ C dj Q (ay l)):mq C f m k as r outs:=by
 subst fw hl;exact mq.of_wp bn bo R kP ad aS ax h
theorem aY.W7 {C:ca} (bn:C.Ok) {f:FuncId} {fn:Func} {c:Code} {dj:aI} {fx:alR} {as outs:alW} {r:I} (eL:List ResultVar) (l:alV) (bo:C.P.funcs[f]? =some fn) (R:fn.body=some c)
  (kP:(fn.name== "runtime.NumGoroutine")=false) (ad:e5 ⟨fn.ntmps,fx⟩ c=some dj.strip) (aS:as.length<=fn.ntmps) (ax:dj.mQ (yn C)) (fw:fn.results.toList=eL) (hl:num 0 as=l)
  (h:∀Q:Exit->aw->Prop,(∀s,dK (Ends C fx eL r outs) s->Q .ret s)->(∀s,dK (Ends C fx eL r outs) s->Q .normal s)->a_ C dj Q (ay l)):aY C f as r outs:=by
 subst fw hl;exact aY.WZ bn bo R kP ad aS ax h
theorem gd {b:Bool} (h:(!b)=true):b=false:=by cases b<;>first|rfl|cases h
theorem bS {b:Bool} (h:(!b)=false):b=true:=by cases b<;>first|rfl|cases h
section
variable {C:ca} {s:aw} {l:alV} {Q:Exit->aw->Prop}
theorem Gq {fx:alR} {eL:List ResultVar} {r:I} (ds:alW) (ae:r=BD ds:=by cases fC (by assumption);rfl) (ab:eL.map (oU C s)=ds.map some:=by rfl) (az:(eL.map jg).Nodup:=by decide):Ends C fx eL r [] s:=
 jU ds ab ae az Vu
theorem dY {fx:alR} {eL:List ResultVar} {r:I} (k:∀s,dK (Ends C fx eL r []) s->Q .ret s) (ds:alW) (ae:r=BD ds:=by cases fC (by assumption);rfl) (ab:eL.map (oU C s)=ds.map some:=by rfl) (az:(eL.map jg).Nodup:=by decide):a_ C .ret Q s:=
 jh (k _ (.inl (Gq ds ae ab az)))
theorem aD {gF:aw->Prop} {a b:aI} (yt:∀s,gF s->Q .ret s) (h:∀ep:Exit->aw->Prop,(∀s,dK (a_ C b Q) s->ep .normal s)->(∀s,gF s->ep .ret s)->(∀i s,Q (.exit i) s->ep (.exit i) s)->a_ C a ep s):a_ C (.seq a b) Q s:=
 Vp λep n q x=>h ep n (λs ad=>q s (yt s ad)) x
theorem bc {gF:aw->Prop} {id:Nat} {b:aI} (yt:∀s,gF s->Q .ret s) (h:∀ep:Exit->aw->Prop,(∀s,Q .normal s->ep .normal s)->(∀s,gF s->ep .ret s)->(∀s,Q .normal s->ep (.exit id) s)->(∀i s,i≠id->Q (.exit i) s->ep (.exit i) s)->a_ C b ep s):a_ C (.block id b) Q s:=
 Vr λep n q b x=>h ep n (λs ad=>q s (yt s ad)) b x
theorem cN {gF:aw->Prop} {b:aI} (yt:∀s,gF s->Q .ret s) (h:∀ep:Exit->aw->Prop,(∀s,dK (cy C b Q) s->ep .normal s)->(∀s,gF s->ep .ret s)->(∀i s,Q (.exit i) s->ep (.exit i) s)->a_ C b ep s):cy C b Q s:=
 Vs λep n q x=>h ep n (λs ad=>q s (yt s ad)) x
theorem c4 {β:Type} {f:Nat->Option β} {v:β} {b:aI} {cn:alV} (h:lim f=some v) (k:∀n,f n=some v->cy C b Q (ay cn)) (hw:cn.map (·.2)=cn.map (λp=>s p.1):=by rfl):a_ C (.loop b) Q s:=
 let⟨n,aS⟩:=pE h
 q3 (.inr ⟨cn,bQ hw,k n aS⟩)
theorem aL {β:Type} {c:bk} {t e:aI} {b:Bool} {x y:Option β} {r:β} (h:cond b x y=some r) (ab:b=true->x=some r->a_ C t Q s) (ae:b=false->y=some r->a_ C e Q s) (an:bu s c= .bool b:=by rfl):a_ C (.cond c t e) Q s:=by
 rcases ez h with⟨rfl,h⟩|⟨rfl,h⟩
 .exact iz an (ab rfl h)
 .exact p4 an (ae rfl h)
end
def aI.mr:aI->alP->aI×alP
 | .fN r _,k::kc=>(.fN r (some k),kc)
 | .j7 r a _,k::kc=>(.j7 r a (some k),kc)
 | .seq a b,kc=>(.seq (a.mr kc).1 (b.mr (a.mr kc).2).1,(b.mr (a.mr kc).2).2)
 | .cond c a b,kc=>(.cond c (a.mr kc).1 (b.mr (a.mr kc).2).1,(b.mr (a.mr kc).2).2)
 | .block i a,kc=>(.block i (a.mr kc).1,(a.mr kc).2)
 | .loop a,kc=>(.loop (a.mr kc).1,(a.mr kc).2)
 |c,kc=>(c,kc)
def bH (n:Nat) (k:alR) (f:Func) (kc:alP):aI:=(((e5 ⟨n,k⟩ (f.body.getD .skip)).getD .skip).mr kc).1
def bI (x:aI) {c:aI} (h:x=c:=by
    conv=>lhs;reduce):aI:=c
end Go.de
