/- Part of a proof that a law returns true for every input. No condition. -/
import Derived.Test.YtndfcecbamffaaaGreatFwK
namespace Go.c3
open List Option Go.IntKind Nat Or
theorem qW {α:Type} {xs:List α} {n:Nat} {x:α} (h:bG xs (n:Int)=some x):xs[n]? =some x:=by simpa using cB h
theorem EF {α:Type} {h:Decidable True} (t e:α): @ite α True h t e=t:=if_pos trivial
theorem EG {α:Type} {h:Decidable False} (t e:α): @ite α False h t e=e:=if_neg id
theorem EH {α:Type} [BEq α] [ReflBEq α] (a:α):(a==a)=true:=BEq.rfl
theorem LL {α:Type} (a b:α):(a≠b)=¬(a=b):=rfl
theorem LM:I.owner .hole=none/\(∀b,I.owner (.bool b)=none)/\I.owner .eM=none/\(∀k n,I.owner (.int k n)=none)/\(∀x,I.owner (.str x)=none)/\I.owner .db=none/\I.owner .aN=none/\(∀x,I.owner (.slice x)=none)/\(∀n x,I.owner (.ag n x)=none)/\
  (∀x,I.owner (.ref x)=none)/\(∀x,I.owner (.aK x)=none)/\(∀x,I.owner (.agg x)=none)/\(∀x,I.owner (.tuple x)=none)/\(∀f c,I.owner (.fn f c)=none)/\(∀x q,I.owner (.h x q)=some x):=
 ⟨rfl,λ_=>rfl,rfl,λ_ _=>rfl,λ_=>rfl,rfl,rfl,λ_=>rfl,λ_ _=>rfl,λ_=>rfl,λ_=>rfl,λ_=>rfl,λ_=>rfl,λ_ _=>rfl,λ_ _=>rfl⟩
theorem LN:(¬False)=True:=not_false_eq_true
theorem LO:(¬True)=False:=not_true_eq_false
theorem LP:∀a b:Nat,(some a=some b)=(a=b):=λ_ _=>propext ⟨λh=>some.inj h,λh=>congrArg some h⟩
theorem LQ:(∀n,num n []=[])/\(∀n a as,num n (a::as)=(n,a)::num (n+1) as):=⟨λ_=>rfl,λ_ _ _=>rfl⟩
theorem LR:∀s1:ak,dj (some s1)=some (.hole,s1):=λ_=>rfl
theorem EI:(∀t o,nR t (.dm o)= .h t [])/\(∀(l:afg) t o,fin (ar l) (some t) (.dm o)=ar ((t,.dm o)::qL t l))/\(∀o,I.plain (.dm o)=false)/\(∀t o,cv t (.dm o)= .dm o)/\(∀t o,b5 t (.dm o)= .dm o)/\
  (∀o,I.ct (.dm o)= .hole)/\(∀o,I.wd (.dm o)=1)/\(∀o,I.fY (.dm o)=true)/\(∀a b,rN (.dm a) (.dm b)=true)/\(∀s x q d o,cn.ig s ⟨.h x q,true,d,.dm o⟩=cg (lf x s) x (I.put q (.dm o) (s x)))/\(∀o,I.aa (.dm o)=[])/\(∀o,I.tree (.dm o)=true)/\(∀a b n m z,fW.ok ⟨.map a b,n,m,z⟩=true)/\(∀a b n m z,fW.flat ⟨.map a b,n,m,z⟩=true):=
 ⟨λ_ _=>rfl,λl t o=>by simp only[fin,I.plain,Bool.false_eq_true,if_false,D4,xq],λ_=>rfl,λ_ _=>by unfold cv;rfl,λ_ _=>by unfold b5;rfl,λ_=>by simp only[I.ct],λ_=>by simp only[I.wd],λ_=>rfl,λ_ _=>rfl,λ_ _ _ _ _=>by simp[cn.ig],λ_=>by simp only[I.aa],λ_=>rfl,λ_ _ _ _ _=>rfl,λ_ _ _ _ _=>rfl⟩
def TZ:=PLift.up (ad EI<|ad LQ<|ad LR<|ad LP<|ad LM<|ad LN<|ad LO<|ad @EF (ad @EG (ad @EH (ad @LL Te.down))))
def T0:=PLift.up (ad EI<|ad LQ<|ad LR<|ad LP<|ad LM<|ad LN<|ad LO<|ad @EF (ad @EG (ad @EH (ad @LL Tf.down))))
def T1:=PLift.up (ad EI<|ad @EH<|ad @EF (ad @EG Tg.down))
def tm (l:afc):afc:=l.foldr (λx acc=>if acc.contains x then acc else x::acc) []
theorem LS {x:Nat}:∀{l:afc},x∈tm l↔x∈l
 |[]=>Iff.rfl
 |y::l=>by
  have ih:=LS (x:=x) (l:=l);have e:tm (y::l)=if(tm l).contains y then tm l else y::tm l:=rfl;rw[e];split
  .rename_i h;have bB:y∈tm l:=by simpa using h
   constructor
   .intro al;exact mem_cons_of_mem _ (ih.1 al)
   .intro al;rcases mem_cons.1 al with rfl|al
    .exact bB
    .exact ih.2 al
  .simp only[mem_cons,ih]
def EJ:afa->afa->afa
 |done,[]=>done
 |done,a::r=>EJ (done++[tm (a++a.flatMap λe=>(done[e]?).getD [])]) r
def T2 (eJ:afa):afa:=EJ [] eJ
def EK (c d:afa):Prop:=c.length=d.length/\∀(i x:Nat),x∈(c[i]?).getD []↔x∈(d[i]?).getD []
theorem LU:∀(r c d:afa),EK c d->EK (EJ c r) (xv d r)
 |[],c,d,h=>h
 |a::r,c,d,h=>by
  refine LU r _ _ ⟨by simp[h.1],λi x=>?_⟩;rcases Nat.lt_trichotomy i c.length with aC|aC|aC
  .rw[getElem?_append_left aC,getElem?_append_left (by rw[<-h.1];exact aC)];exact h.2 i x
  .rw[getElem?_append_right (by omega),getElem?_append_right (by rw[<-h.1];omega),aC,Nat.sub_self,h.1,Nat.sub_self];simp only[getElem?_cons_zero,getD_some,LS,mem_append,mem_flatMap];constructor
   .rintro(al|⟨e,he,al⟩)
    .exact .inl al
    .exact .inr ⟨e,he,(h.2 e x).1 al⟩
   .rintro(al|⟨e,he,al⟩)
    .exact .inl al
    .exact .inr ⟨e,he,(h.2 e x).2 al⟩
  .rw[getElem?_eq_none (by simp;omega),getElem?_eq_none (by simp[<-h.1];omega)]
theorem LV {c d:afa} (h:EK c d):∀(ay:List eU) (j:Nat) (es:List (Nat×eU)),kC c j es ay=kC d j es ay
 |[],_,_=>rfl
 |f::ay,j,es=>by
  simp only[kC];rw[LV h ay];congr 2;funext e;congr 1;rw[Bool.eq_iff_iff];simp only[contains_iff_mem];exact h.2 j e.1
theorem mD {eJ:afa} {j:Nat} {es:List (Nat×eU)} {ay:List eU} (h:kC (T2 eJ) j es ay=true):kC (pR eJ) j es ay=true:=by
 exact(LV (LU eJ [] [] ⟨rfl,λ_ _=>Iff.rfl⟩) ay j es).symm.trans h
abbrev ro (d:Nat) (bq:di):bJ:=⟨some d,bq,none⟩
abbrev b0 (d x:Nat):bJ:=ro d (.eP (.t x))
abbrev en (d x:Nat):bJ:=ro d (.lP (.t x))
abbrev cU (d T x:Nat):bJ:=ro d (.ff T (.t x))
abbrev fy (d T x k:Nat):bJ:=ro d (.hN T (.t x) k)
abbrev lX (d T x i:Nat):bJ:=ro d (.jA T (.t x) (.t i))
abbrev oe (d T x:Nat):bJ:=ro d (.len T (.t x))
abbrev uZ (d x:Nat):bJ:=ro d (.iT (.t x))
abbrev mE (d:Nat) (o:BinOp) (T x y:Nat):bJ:=ro d (.eh o T (.t x) (.t y))
abbrev h6 (d:Nat) (o:BinOp) (T x:Nat) (n:Int):bJ:=ro d (.eh o T (.t x) (.c (.int .i64 n)))
abbrev xN (d:Nat) (n:Int):bJ:=ro d (.eP (.c (.int .i64 n)))
abbrev u0 (d:Nat) (n:Int):bJ:=ro d (.lP (.c (.int .i64 n)))
abbrev je (d:Nat) (b:Bool):bJ:=ro d (.lP (.c (.bool b)))
abbrev xO (d:Nat):bJ:=ro d (.lP (.c .aN))
abbrev mF (d T:Nat):bJ:=ro d (.lM T)
abbrev ki (d g a:Nat):bJ:=ro d (.call (.f g) [.t a])
abbrev k1 (d g a b:Nat):bJ:=ro d (.call (.f g) [.t a,.t b])
abbrev T3 (d g a b c:Nat):bJ:=ro d (.call (.f g) [.t a,.t b,.t c])
abbrev u1 (d x k:Nat):bJ:=ro d (.ex (.t x) k)
abbrev rZ (d x:Nat):bJ:=ro d (.un .not (.t x))
abbrev xP (d T x:Nat):bJ:=ro d (.eu T 1 [(0,.t x)])
abbrev Av (d T bP x y:Nat):bJ:=ro d (.app T bP (.t x) (.t y))
abbrev kH (T x y:Nat):bJ:=⟨none,.gT T (.t x) (.t y),none⟩
abbrev LW (d A B x:Nat):bJ:=ro d (.iB A B (.t x))
theorem bk.LX {C:bH} (a9:C.dL) {f:FuncId} {fn:Func} {c:Code} {dO:aM} {fx:afc} {as outs:afh} {r:I} (dU:List ResultVar) (l:afg) (a8:C.P.funcs[f]? =some fn) (U:fn.body=some c)
  (jt:(fn.name== "runtime.NumGoroutine")=false) (aa:fp ⟨fn.ntmps,fx⟩ c=some dO.strip) (a4:as.length<=fn.ntmps) (fF:fn.results.toList=dU) (hl:num 0 as=l)
  (h:∀Q:Exit->ak->Prop,(∀s,dG (Ends C fx dU r outs) s->Q .ret s)->(∀s,dG (Ends C fx dU r outs) s->Q .normal s)->bj C dO Q (ar l)) (au:dO.plain=true:=by kernel_rfl):bk C f as r outs:=by
 subst fF hl;exact bk.SX a9 a8 U jt aa a4 h au
theorem qT.LX {C:bH} (a9:C.dL) {f:FuncId} {fn:Func} {c:Code} {dO:aM} {fx:afc} {as outs:afh} {r:I} {k m:Nat} (dU:List ResultVar) (l:afg) (a8:C.P.funcs[f]? =some fn) (U:fn.body=some c)
  (jt:(fn.name== "runtime.NumGoroutine")=false) (aa:fp ⟨fn.ntmps,fx⟩ c=some dO.strip) (a4:as.length<=fn.ntmps) (aj:dO.lS (EE C f fx as.length m k)) (fF:fn.results.toList=dU) (hl:num 0 as=l)
  (h:∀Q:Exit->ak->Prop,(∀s,dG (Ends C fx dU r outs) s->Q .ret s)->(∀s,dG (Ends C fx dU r outs) s->Q .normal s)->bj C dO Q (ar l)):qT C f m k as r outs:=by
 subst fF hl;exact qT.of_wp a9 a8 U jt aa a4 aj h
theorem iZ {b:Bool} (h:(!b)=true):b=false:=by cases b<;>first|rfl|cases h
theorem dp {b:Bool} (h:(!b)=false):b=true:=by cases b<;>first|rfl|cases h
theorem T4 {α:Type} {sz:Nat} {o:Bool×α->I} {u:α->I} (h:(o∘λx=>(false,x))=u) (e:List α):ev (.ag sz (e.map u)) (.ag sz ((e.map λx=>(false,x)).map o)):=by
 rw[List.map_map,h];exact .refl _
section
variable {C:bH} {s:ak} {l:afg} {Q:Exit->ak->Prop}
theorem u2 {fx:afc} {dU:List ResultVar} {r:I} (ds:afh) (af:r=Ai ds:=by cases kM (by assumption);rfl) (ae:dU.map (oZ C s)=ds.map some:=by rfl) (aF:(dU.map iV).Nodup:=by decide):Ends C fx dU r [] s:=
 pS ds ae af aF SY
theorem cC {fx:afc} {dU:List ResultVar} {r:I} (k:∀s,dG (Ends C fx dU r []) s->Q .ret s) (ds:afh) (af:r=Ai ds:=by cases kM (by assumption);rfl) (ae:dU.map (oZ C s)=ds.map some:=by rfl) (aF:(dU.map iV).Nodup:=by decide):bj C .ret Q s:=
 lW (k _ (.inl (u2 ds af ae aF)))
theorem aU {R:ak->Prop} {a b:aM} (lr:∀s,R s->Q .ret s) (h:∀dN:Exit->ak->Prop,(∀s,dG (bj C b Q) s->dN .normal s)->(∀s,R s->dN .ret s)->(∀i s,Q (.exit i) s->dN (.exit i) s)->bj C a dN s):bj C (.seq a b) Q s:=
 SU λdN n q x=>h dN n (λs aa=>q s (lr s aa)) x
theorem bM {R:ak->Prop} {id:Nat} {b:aM} (lr:∀s,R s->Q .ret s) (h:∀dN:Exit->ak->Prop,(∀s,Q .normal s->dN .normal s)->(∀s,R s->dN .ret s)->(∀s,Q .normal s->dN (.exit id) s)->(∀i s,i≠id->Q (.exit i) s->dN (.exit i) s)->bj C b dN s):bj C (.block id b) Q s:=
 SV λdN n q b x=>h dN n (λs aa=>q s (lr s aa)) b x
theorem dy {R:ak->Prop} {b:aM} (lr:∀s,R s->Q .ret s) (h:∀dN:Exit->ak->Prop,(∀s,dG (da C b Q) s->dN .normal s)->(∀s,R s->dN .ret s)->(∀i s,Q (.exit i) s->dN (.exit i) s)->bj C b dN s):da C b Q s:=
 SW λdN n q x=>h dN n (λs aa=>q s (lr s aa)) x
theorem eV {β:Type} {f:Nat->Option β} {v:β} {b:aM} {b2:afg} (h:cA f=some v) (k:∀n,f n=some v->da C b Q (ar b2)) (hw:b2.map (·.2)=b2.map (λp=>s p.1):=by rfl):bj C (.loop b) Q s:=
 let⟨n,a4⟩:=jl h
 kE (.inr ⟨b2,cp hw,k n a4⟩)
theorem a_ {β:Type} {c:a6} {t e:aM} {b:Bool} {x y:Option β} {r:β} (h:cond b x y=some r) (ae:b=true->x=some r->bj C t Q s) (af:b=false->y=some r->bj C e Q s) (an:a7 s c= .bool b:=by rfl):bj C (.cond c t e) Q s:=by
 rcases fG h with⟨rfl,h⟩|⟨rfl,h⟩
 .exact iX an (ae rfl h)
 .exact oa an (af rfl h)
end
def aM.lY:aM->afa->aM×afa
 | .eI r _,k::jJ=>(.eI r (some k),jJ)
 | .jb r a _,k::jJ=>(.jb r a (some k),jJ)
 | .seq a b,jJ=>(.seq (a.lY jJ).1 (b.lY (a.lY jJ).2).1,(b.lY (a.lY jJ).2).2)
 | .cond c a b,jJ=>(.cond c (a.lY jJ).1 (b.lY (a.lY jJ).2).1,(b.lY (a.lY jJ).2).2)
 | .block i a,jJ=>(.block i (a.lY jJ).1,(a.lY jJ).2)
 | .loop a,jJ=>(.loop (a.lY jJ).1,(a.lY jJ).2)
 |c,jJ=>(c,jJ)
def cl (n:Nat) (k:afc) (f:Func) (jJ:afa):aM:=(((fp ⟨n,k⟩ (f.body.getD .skip)).getD .skip).lY jJ).1
def cm (x:aM) {c:aM} (h:x=c:=by
    conv=>lhs;reduce):aM:=c
end Go.c3
