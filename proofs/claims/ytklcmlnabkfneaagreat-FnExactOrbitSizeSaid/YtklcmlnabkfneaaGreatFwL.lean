/- Part of a proof that a law returns true for every input. No condition. -/
import Derived.Test.YtklcmlnabkfneaaGreatFwK
namespace Go.cU
open List Option Go.IntKind Nat Or
theorem Ex {α:Type} {h:Decidable True} (t e:α): @ite α True h t e=t:=if_pos trivial
theorem Ey {α:Type} {h:Decidable False} (t e:α): @ite α False h t e=e:=if_neg id
theorem Ez {α:Type} [BEq α] [ReflBEq α] (a:α):(a==a)=true:=BEq.rfl
theorem L4 {α:Type} (a b:α):(a≠b)=¬(a=b):=rfl
theorem L5:I.owner .hole=none/\(∀b,I.owner (.bool b)=none)/\I.owner .e7=none/\(∀k n,I.owner (.int k n)=none)/\(∀x,I.owner (.str x)=none)/\I.owner .di=none/\I.owner .a_=none/\(∀x,I.owner (.slice x)=none)/\(∀n x,I.owner (.al n x)=none)/\
  (∀x,I.owner (.ref x)=none)/\(∀x,I.owner (.bb x)=none)/\(∀x,I.owner (.agg x)=none)/\(∀x,I.owner (.tuple x)=none)/\(∀f c,I.owner (.fn f c)=none)/\(∀x q,I.owner (.h x q)=some x):=
 ⟨rfl,λ_=>rfl,rfl,λ_ _=>rfl,λ_=>rfl,rfl,rfl,λ_=>rfl,λ_ _=>rfl,λ_=>rfl,λ_=>rfl,λ_=>rfl,λ_=>rfl,λ_ _=>rfl,λ_ _=>rfl⟩
theorem L6:(¬False)=True:=not_false_eq_true
theorem L7:(¬True)=False:=not_true_eq_false
theorem L8:∀a b:Nat,(some a=some b)=(a=b):=λ_ _=>propext ⟨λh=>some.inj h,λh=>congrArg some h⟩
theorem L9:(∀n,num n []=[])/\(∀n a as,num n (a::as)=(n,a)::num (n+1) as):=⟨λ_=>rfl,λ_ _ _=>rfl⟩
theorem L_:∀s1:ax,cZ (some s1)=some (.hole,s1):=λ_=>rfl
theorem EA:(∀t o,pR t (.dz o)= .h t [])/\(∀(l:aiE) t o,fin (az l) (some t) (.dz o)=az ((t,.dz o)::p6 t l))/\(∀o,I.plain (.dz o)=false)/\(∀t o,cr t (.dz o)= .dz o)/\(∀t o,bT t (.dz o)= .dz o)/\
  (∀o,I.cN (.dz o)= .hole)/\(∀o,I.wd (.dz o)=1)/\(∀o,I.fS (.dz o)=true)/\(∀a b,q4 (.dz a) (.dz b)=true)/\(∀s x q d o,cf.ia s ⟨.h x q,true,d,.dz o⟩=de (k5 x s) x (I.put q (.dz o) (s x)))/\(∀o,I.U (.dz o)=[])/\(∀o,I.tree (.dz o)=true)/\(∀a b n m z,fZ.ok ⟨.map a b,n,m,z⟩=true)/\(∀a b n m z,fZ.flat ⟨.map a b,n,m,z⟩=true):=
 ⟨λ_ _=>rfl,λl t o=>by simp only[fin,I.plain,Bool.false_eq_true,if_false,D0,zQ],λ_=>rfl,λ_ _=>by unfold cr;rfl,λ_ _=>by unfold bT;rfl,λ_=>by simp only[I.cN],λ_=>by simp only[I.wd],λ_=>rfl,λ_ _=>rfl,λ_ _ _ _ _=>by simp[cf.ia],λ_=>by simp only[I.U],λ_=>rfl,λ_ _ _ _ _=>rfl,λ_ _ _ _ _=>rfl⟩
def Ur:=PLift.up (af EA<|af L9<|af L_<|af L8<|af L5<|af L6<|af L7<|af @Ex (af @Ey (af @Ez (af @L4 Th.down))))
def Us:=PLift.up (af EA<|af L9<|af L_<|af L8<|af L5<|af L6<|af L7<|af @Ex (af @Ey (af @Ez (af @L4 Ti.down))))
def Ut:=PLift.up (af EA<|af @Ez<|af @Ex (af @Ey Tj.down))
def sF (l:aiA):aiA:=l.foldr (λx acc=>if acc.contains x then acc else x::acc) []
theorem Ma {x:Nat}:∀{l:aiA},x∈sF l↔x∈l
 |[]=>Iff.rfl
 |y::l=>by
  have ih:=Ma (x:=x) (l:=l);have e:sF (y::l)=if(sF l).contains y then sF l else y::sF l:=rfl;rw[e];split
  .rename_i h;have bq:y∈sF l:=by simpa using h
   constructor
   .intro ar;exact mem_cons_of_mem _ (ih.1 ar)
   .intro ar;rcases mem_cons.1 ar with rfl|ar
    .exact bq
    .exact ih.2 ar
  .simp only[mem_cons,ih]
def EB:aiy->aiy->aiy
 |done,[]=>done
 |done,a::r=>EB (done++[sF (a++a.flatMap λe=>(done[e]?).getD [])]) r
def Uu (ew:aiy):aiy:=EB [] ew
def EC (c d:aiy):Prop:=c.length=d.length/\∀(i x:Nat),x∈(c[i]?).getD []↔x∈(d[i]?).getD []
theorem Mb:∀(r c d:aiy),EC c d->EC (EB c r) (wC d r)
 |[],c,d,h=>h
 |a::r,c,d,h=>by
  refine Mb r _ _ ⟨by simp[h.1],λi x=>?_⟩;rcases Nat.lt_trichotomy i c.length with ak|ak|ak
  .rw[getElem?_append_left ak,getElem?_append_left (by rw[<-h.1];exact ak)];exact h.2 i x
  .rw[getElem?_append_right (by omega),getElem?_append_right (by rw[<-h.1];omega),ak,Nat.sub_self,h.1,Nat.sub_self];simp only[getElem?_cons_zero,getD_some,Ma,mem_append,mem_flatMap];constructor
   .rintro(ar|⟨e,he,ar⟩)
    .exact .inl ar
    .exact .inr ⟨e,he,(h.2 e x).1 ar⟩
   .rintro(ar|⟨e,he,ar⟩)
    .exact .inl ar
    .exact .inr ⟨e,he,(h.2 e x).2 ar⟩
  .rw[getElem?_eq_none (by simp;omega),getElem?_eq_none (by simp[<-h.1];omega)]
theorem Mc {c d:aiy} (h:EC c d):∀(ay:List fa) (j:Nat) (es:List (Nat×fa)),ki c j es ay=ki d j es ay
 |[],_,_=>rfl
 |f::ay,j,es=>by
  simp only[ki];rw[Mc h ay];congr 2;funext e;congr 1;rw[Bool.eq_iff_iff];simp only[contains_iff_mem];exact h.2 j e.1
theorem jZ {ew:aiy} {j:Nat} {es:List (Nat×fa)} {ay:List fa} (h:ki (Uu ew) j es ay=true):ki (n5 ew) j es ay=true:=by
 exact(Mc (Mb ew [] [] ⟨rfl,λ_ _=>Iff.rfl⟩) ay j es).symm.trans h
abbrev ro (d:Nat) (bC:dI):bZ:=⟨some d,bC,none⟩
abbrev eM (d x:Nat):bZ:=ro d (.iK (.t x))
abbrev hL (d x:Nat):bZ:=ro d (.l4 (.t x))
abbrev fK (d T x:Nat):bZ:=ro d (.eR T (.t x))
abbrev hM (d T x k:Nat):bZ:=ro d (.gK T (.t x) k)
abbrev sG (d T x i:Nat):bZ:=ro d (.jk T (.t x) (.t i))
abbrev wY (d T x:Nat):bZ:=ro d (.len T (.t x))
abbrev Uv (d x:Nat):bZ:=ro d (.kb (.t x))
abbrev wZ (d:Nat) (o:BinOp) (T x y:Nat):bZ:=ro d (.eL o T (.t x) (.t y))
abbrev iw (d:Nat) (o:BinOp) (T x:Nat) (n:Int):bZ:=ro d (.eL o T (.t x) (.c (.int .i64 n)))
abbrev Md (d:Nat) (n:Int):bZ:=ro d (.iK (.c (.int .i64 n)))
abbrev jq (d:Nat) (n:Int):bZ:=ro d (.l4 (.c (.int .i64 n)))
abbrev Al (d:Nat) (b:Bool):bZ:=ro d (.l4 (.c (.bool b)))
abbrev ED (d:Nat):bZ:=ro d (.l4 (.c .a_))
abbrev Am (d T:Nat):bZ:=ro d (.jS T)
abbrev ud (d g a:Nat):bZ:=ro d (.call (.f g) [.t a])
abbrev An (d g a b:Nat):bZ:=ro d (.call (.f g) [.t a,.t b])
abbrev Ao (d x:Nat):bZ:=ro d (.un .not (.t x))
abbrev Uw (d T x:Nat):bZ:=ro d (.eI T 1 [(0,.t x)])
abbrev Ux (d T cL x y:Nat):bZ:=ro d (.app T cL (.t x) (.t y))
abbrev sH (T x y:Nat):bZ:=⟨none,.ik T (.t x) (.t y),none⟩
theorem aW.EE {C:bY} (bh:C.Ok) {f:FuncId} {fn:Func} {c:Code} {cW:aI} {fx:aiA} {as outs:aiF} {r:I} (en:List ResultVar) (l:aiE) (bn:C.P.funcs[f]? =some fn) (R:fn.body=some c)
  (kg:(fn.name== "runtime.NumGoroutine")=false) (U:eB ⟨fn.ntmps,fx⟩ c=some cW.strip) (aP:as.length<=fn.ntmps) (e_:fn.results.toList=en) (aO:num 0 as=l)
  (h:∀Q:Exit->ax->Prop,(∀s,dm (Ends C fx en r outs) s->Q .ret s)->(∀s,dm (Ends C fx en r outs) s->Q .normal s)->a1 C cW Q (az l)) (au:cW.plain=true:=by kernel_rfl):aW C f as r outs:=by
 subst e_ aO;exact aW.S3 bh bn R kg U aP h au
theorem lK.EE {C:bY} (bh:C.Ok) {f:FuncId} {fn:Func} {c:Code} {cW:aI} {fx:aiA} {as outs:aiF} {r:I} {k m:Nat} (en:List ResultVar) (l:aiE) (bn:C.P.funcs[f]? =some fn) (R:fn.body=some c)
  (kg:(fn.name== "runtime.NumGoroutine")=false) (U:eB ⟨fn.ntmps,fx⟩ c=some cW.strip) (aP:as.length<=fn.ntmps) (aw:cW.l7 (Ai C f fx as.length m k)) (e_:fn.results.toList=en) (aO:num 0 as=l)
  (h:∀Q:Exit->ax->Prop,(∀s,dm (Ends C fx en r outs) s->Q .ret s)->(∀s,dm (Ends C fx en r outs) s->Q .normal s)->a1 C cW Q (az l)):lK C f m k as r outs:=by
 subst e_ aO;exact lK.of_wp bh bn R kg U aP aw h
theorem aW.Uy {C:bY} (bh:C.Ok) {f:FuncId} {fn:Func} {c:Code} {cW:aI} {fx:aiA} {as outs:aiF} {r:I} (en:List ResultVar) (l:aiE) (bn:C.P.funcs[f]? =some fn) (R:fn.body=some c)
  (kg:(fn.name== "runtime.NumGoroutine")=false) (U:eB ⟨fn.ntmps,fx⟩ c=some cW.strip) (aP:as.length<=fn.ntmps) (aw:cW.l7 (wV C)) (e_:fn.results.toList=en) (aO:num 0 as=l)
  (h:∀Q:Exit->ax->Prop,(∀s,dm (Ends C fx en r outs) s->Q .ret s)->(∀s,dm (Ends C fx en r outs) s->Q .normal s)->a1 C cW Q (az l)):aW C f as r outs:=by
 subst e_ aO;exact aW.Up bh bn R kg U aP aw h
theorem fL {b:Bool} (h:(!b)=true):b=false:=by cases b<;>first|rfl|cases h
theorem bz {b:Bool} (h:(!b)=false):b=true:=by cases b<;>first|rfl|cases h
section
variable {C:bY} {s:ax} {l:aiE} {Q:Exit->ax->Prop}
theorem Me {fx:aiA} {en:List ResultVar} {r:I} (ds:aiF) (ad:r=zZ ds:=by cases mj (by assumption);rfl) (ab:en.map (n2 C s)=ds.map some:=by rfl) (aA:(en.map iL).Nodup:=by decide):Ends C fx en r [] s:=
 tX ds ab ad aA S4
theorem dC {fx:aiA} {en:List ResultVar} {r:I} (k:∀s,dm (Ends C fx en r []) s->Q .ret s) (ds:aiF) (ad:r=zZ ds:=by cases mj (by assumption);rfl) (ab:en.map (n2 C s)=ds.map some:=by rfl) (aA:(en.map iL).Nodup:=by decide):a1 C .ret Q s:=
 sx (k _ (.inl (Me ds ad ab aA)))
theorem aF {gd:ax->Prop} {a b:aI} (w1:∀s,gd s->Q .ret s) (h:∀dT:Exit->ax->Prop,(∀s,dm (a1 C b Q) s->dT .normal s)->(∀s,gd s->dT .ret s)->(∀i s,Q (.exit i) s->dT (.exit i) s)->a1 C a dT s):a1 C (.seq a b) Q s:=
 SZ λdT n q x=>h dT n (λs U=>q s (w1 s U)) x
theorem bj {gd:ax->Prop} {id:Nat} {b:aI} (w1:∀s,gd s->Q .ret s) (h:∀dT:Exit->ax->Prop,(∀s,Q .normal s->dT .normal s)->(∀s,gd s->dT .ret s)->(∀s,Q .normal s->dT (.exit id) s)->(∀i s,i≠id->Q (.exit i) s->dT (.exit i) s)->a1 C b dT s):a1 C (.block id b) Q s:=
 S1 λdT n q b x=>h dT n (λs U=>q s (w1 s U)) b x
theorem cR {gd:ax->Prop} {b:aI} (w1:∀s,gd s->Q .ret s) (h:∀dT:Exit->ax->Prop,(∀s,dm (cz C b Q) s->dT .normal s)->(∀s,gd s->dT .ret s)->(∀i s,Q (.exit i) s->dT (.exit i) s)->a1 C b dT s):cz C b Q s:=
 S2 λdT n q x=>h dT n (λs U=>q s (w1 s U)) x
theorem c5 {β:Type} {f:Nat->Option β} {v:β} {b:aI} {b3:aiE} (h:lim f=some v) (k:∀n,f n=some v->cz C b Q (az b3)) (hw:b3.map (·.2)=b3.map (λp=>s p.1):=by rfl):a1 C (.loop b) Q s:=
 let⟨n,aP⟩:=oL h
 p9 (.inr ⟨b3,bJ hw,k n aP⟩)
theorem aM {β:Type} {c:bg} {t e:aI} {b:Bool} {x y:Option β} {r:β} (h:cond b x y=some r) (ab:b=true->x=some r->a1 C t Q s) (ad:b=false->y=some r->a1 C e Q s) (aj:bp s c= .bool b:=by rfl):a1 C (.cond c t e) Q s:=by
 rcases ed h with⟨rfl,h⟩|⟨rfl,h⟩
 .exact h3 aj (ab rfl h)
 .exact o8 aj (ad rfl h)
end
def aI.lL:aI->aiy->aI×aiy
 | .fB r _,k::jG=>(.fB r (some k),jG)
 | .jC r a _,k::jG=>(.jC r a (some k),jG)
 | .seq a b,jG=>(.seq (a.lL jG).1 (b.lL (a.lL jG).2).1,(b.lL (a.lL jG).2).2)
 | .cond c a b,jG=>(.cond c (a.lL jG).1 (b.lL (a.lL jG).2).1,(b.lL (a.lL jG).2).2)
 | .block i a,jG=>(.block i (a.lL jG).1,(a.lL jG).2)
 | .loop a,jG=>(.loop (a.lL jG).1,(a.lL jG).2)
 |c,jG=>(c,jG)
def bD (n:Nat) (k:aiA) (f:Func) (jG:aiy):aI:=(((eB ⟨n,k⟩ (f.body.getD .skip)).getD .skip).lL jG).1
def bE (x:aI) {c:aI} (h:x=c:=by
    conv=>lhs;reduce):aI:=c
end Go.cU
