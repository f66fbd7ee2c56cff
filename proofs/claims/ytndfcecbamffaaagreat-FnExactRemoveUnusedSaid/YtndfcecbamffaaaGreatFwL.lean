/- Part of a proof that a law returns true for every input. No condition. -/
import Derived.Test.YtndfcecbamffaaaGreatFwK
namespace Go.cW
open List Option Go.IntKind Nat Or
theorem Dx {α:Type} {h:Decidable True} (t e:α): @ite α True h t e=t:=if_pos trivial
theorem Dy {α:Type} {h:Decidable False} (t e:α): @ite α False h t e=e:=if_neg id
theorem Dz {α:Type} [BEq α] [ReflBEq α] (a:α):(a==a)=true:=BEq.rfl
theorem KG {α:Type} (a b:α):(a≠b)=¬(a=b):=rfl
theorem KH:j.owner .hole=none/\(∀b,j.owner (.bool b)=none)/\j.owner .eF=none/\(∀k n,j.owner (.int k n)=none)/\(∀x,j.owner (.str x)=none)/\j.owner .c8=none/\j.owner .aJ=none/\(∀x,j.owner (.slice x)=none)/\(∀n x,j.owner (.ad n x)=none)/\
  (∀x,j.owner (.ref x)=none)/\(∀x,j.owner (.aD x)=none)/\(∀x,j.owner (.agg x)=none)/\(∀x,j.owner (.tuple x)=none)/\(∀f c,j.owner (.fn f c)=none)/\(∀x q,j.owner (.h x q)=some x):=
 ⟨rfl,λ_=>rfl,rfl,λ_ _=>rfl,λ_=>rfl,rfl,rfl,λ_=>rfl,λ_ _=>rfl,λ_=>rfl,λ_=>rfl,λ_=>rfl,λ_=>rfl,λ_ _=>rfl,λ_ _=>rfl⟩
theorem KI:(¬False)=True:=not_false_eq_true
theorem KJ:(¬True)=False:=not_true_eq_false
theorem KK:∀a b:Nat,(some a=some b)=(a=b):=λ_ _=>propext ⟨λh=>some.inj h,λh=>congrArg some h⟩
theorem KL:(∀n,num n []=[])/\(∀n a as,num n (a::as)=(n,a)::num (n+1) as):=⟨λ_=>rfl,λ_ _ _=>rfl⟩
theorem KM:∀s1:ah,dg (some s1)=some (.hole,s1):=λ_=>rfl
theorem DA:(∀t o,mT t (.dc o)= .h t [])/\(∀(l:abM) t o,fin (an l) (some t) (.dc o)=an ((t,.dc o)::p8 t l))/\(∀o,j.plain (.dc o)=false)/\(∀t o,ch t (.dc o)= .dc o)/\(∀t o,bV t (.dc o)= .dc o)/\
  (∀o,j.cf (.dc o)= .hole)/\(∀o,j.wd (.dc o)=1)/\(∀o,j.fv (.dc o)=true)/\(∀a b,qO (.dc a) (.dc b)=true)/\(∀s x q d o,b_.hy s ⟨.h x q,true,d,.dc o⟩=ck (kr x s) x (j.put q (.dc o) (s x)))/\(∀o,j.I (.dc o)=[])/\(∀o,j.tree (.dc o)=true)/\(∀a b n m z,fu.ok ⟨.map a b,n,m,z⟩=true)/\(∀a b n m z,fu.flat ⟨.map a b,n,m,z⟩=true):=
 ⟨λ_ _=>rfl,λl t o=>by simp only[fin,j.plain,Bool.false_eq_true,if_false,CV,wV],λ_=>rfl,λ_ _=>by unfold ch;rfl,λ_ _=>by unfold bV;rfl,λ_=>by simp only[j.cf],λ_=>by simp only[j.wd],λ_=>rfl,λ_ _=>rfl,λ_ _ _ _ _=>by simp[b_.hy],λ_=>by simp only[j.I],λ_=>rfl,λ_ _ _ _ _=>rfl,λ_ _ _ _ _=>rfl⟩
def SN:=PLift.up (aa DA<|aa KL<|aa KM<|aa KK<|aa KH<|aa KI<|aa KJ<|aa @Dx (aa @Dy (aa @Dz (aa @KG R2.down))))
def SO:=PLift.up (aa DA<|aa KL<|aa KM<|aa KK<|aa KH<|aa KI<|aa KJ<|aa @Dx (aa @Dy (aa @Dz (aa @KG R3.down))))
def SP:=PLift.up (aa DA<|aa @Dz<|aa @Dx (aa @Dy R4.down))
def sE (l:abI):abI:=l.foldr (λx acc=>if acc.contains x then acc else x::acc) []
theorem KN {x:Nat}:∀{l:abI},x∈sE l↔x∈l
 |[]=>Iff.rfl
 |y::l=>by
  have ih:=KN (x:=x) (l:=l);have e:sE (y::l)=if(sE l).contains y then sE l else y::sE l:=rfl;rw[e];split
  .rename_i h;have bz:y∈sE l:=by simpa using h
   constructor
   .intro ag;exact mem_cons_of_mem _ (ih.1 ag)
   .intro ag;rcases mem_cons.1 ag with rfl|ag
    .exact bz
    .exact ih.2 ag
  .simp only[mem_cons,ih]
def DB:abG->abG->abG
 |done,[]=>done
 |done,a::r=>DB (done++[sE (a++a.flatMap λe=>(done[e]?).getD [])]) r
def SQ (eo:abG):abG:=DB [] eo
def DC (c d:abG):Prop:=c.length=d.length/\∀(i x:Nat),x∈(c[i]?).getD []↔x∈(d[i]?).getD []
theorem KO:∀(r c d:abG),DC c d->DC (DB c r) (wZ d r)
 |[],c,d,h=>h
 |a::r,c,d,h=>by
  refine KO r _ _ ⟨by simp[h.1],λi x=>?_⟩;rcases Nat.lt_trichotomy i c.length with aw|aw|aw
  .rw[getElem?_append_left aw,getElem?_append_left (by rw[<-h.1];exact aw)];exact h.2 i x
  .rw[getElem?_append_right (by omega),getElem?_append_right (by rw[<-h.1];omega),aw,Nat.sub_self,h.1,Nat.sub_self];simp only[getElem?_cons_zero,getD_some,KN,mem_append,mem_flatMap];constructor
   .rintro(ag|⟨e,he,ag⟩)
    .exact .inl ag
    .exact .inr ⟨e,he,(h.2 e x).1 ag⟩
   .rintro(ag|⟨e,he,ag⟩)
    .exact .inl ag
    .exact .inr ⟨e,he,(h.2 e x).2 ag⟩
  .rw[getElem?_eq_none (by simp;omega),getElem?_eq_none (by simp[<-h.1];omega)]
theorem KP {c d:abG} (h:DC c d):∀(ar:List ez) (au:Nat) (es:List (Nat×ez)),jX c au es ar=jX d au es ar
 |[],_,_=>rfl
 |f::ar,au,es=>by
  simp only[jX];rw[KP h ar];congr 2;funext e;congr 1;rw[Bool.eq_iff_iff];simp only[contains_iff_mem];exact h.2 au e.1
theorem n9 {eo:abG} {au:Nat} {es:List (Nat×ez)} {ar:List ez} (h:jX (SQ eo) au es ar=true):jX (o7 eo) au es ar=true:=by
 exact(KP (KO eo [] [] ⟨rfl,λ_ _=>Iff.rfl⟩) ar au es).symm.trans h
abbrev ro (d:Nat) (bp:c9):bG:=⟨some d,bp,none⟩
abbrev cu (d x:Nat):bG:=ro d (.fT (.t x))
abbrev fo (d x:Nat):bG:=ro d (.k1 (.t x))
abbrev c3 (d T x:Nat):bG:=ro d (.e0 T (.t x))
abbrev fW (d T x k:Nat):bG:=ro d (.hb T (.t x) k)
abbrev mj (d T x i:Nat):bG:=ro d (.iP T (.t x) (.t i))
abbrev ml (d T x:Nat):bG:=ro d (.len T (.t x))
abbrev xc (d x:Nat):bG:=ro d (.h1 (.t x))
abbrev lP (d:Nat) (o:BinOp) (T x y:Nat):bG:=ro d (.el o T (.t x) (.t y))
abbrev iI (d:Nat) (o:BinOp) (T x:Nat) (n:Int):bG:=ro d (.el o T (.t x) (.c (.int .i64 n)))
abbrev sF (d:Nat) (n:Int):bG:=ro d (.fT (.c (.int .i64 n)))
abbrev sG (d:Nat) (n:Int):bG:=ro d (.k1 (.c (.int .i64 n)))
abbrev iJ (d:Nat) (b:Bool):bG:=ro d (.k1 (.c (.bool b)))
abbrev zA (d:Nat):bG:=ro d (.k1 (.c .aJ))
abbrev lQ (d T:Nat):bG:=ro d (.kW T)
abbrev kh (d g a:Nat):bG:=ro d (.call (.f g) [.t a])
abbrev k_ (d g a b:Nat):bG:=ro d (.call (.f g) [.t a,.t b])
abbrev uv (d x k:Nat):bG:=ro d (.ex (.t x) k)
abbrev uw (d x:Nat):bG:=ro d (.un .not (.t x))
abbrev zB (d T x:Nat):bG:=ro d (.ef T 1 [(0,.t x)])
abbrev DD (d T bM x y:Nat):bG:=ro d (.app T bM (.t x) (.t y))
abbrev lR (T x y:Nat):bG:=⟨none,.gp T (.t x) (.t y),none⟩
abbrev KQ (d A B x:Nat):bG:=ro d (.hJ A B (.t x))
theorem bx.KR {C:bI} (a_:C.Ok) {f:FuncId} {fn:Func} {c:Code} {dO:aP} {fx:abI} {as outs:abN} {r:j} (dM:List ResultVar) (l:abM) (a6:C.P.funcs[f]? =some fn) (J:fn.body=some c)
  (je:(fn.name== "runtime.NumGoroutine")=false) (I:fm ⟨fn.ntmps,fx⟩ c=some dO.strip) (a7:as.length<=fn.ntmps) (eJ:fn.results.toList=dM) (hl:num 0 as=l)
  (h:∀Q:Exit->ah->Prop,(∀s,eg (Ends C fx dM r outs) s->Q .ret s)->(∀s,eg (Ends C fx dM r outs) s->Q .normal s)->bk C dO Q (an l)) (al:dO.plain=true:=by kernel_rfl):bx C f as r outs:=by
 subst eJ hl;exact bx.RI a_ a6 J je I a7 h al
theorem qa.KR {C:bI} (a_:C.Ok) {f:FuncId} {fn:Func} {c:Code} {dO:aP} {fx:abI} {as outs:abN} {r:j} {k m:Nat} (dM:List ResultVar) (l:abM) (a6:C.P.funcs[f]? =some fn) (J:fn.body=some c)
  (je:(fn.name== "runtime.NumGoroutine")=false) (I:fm ⟨fn.ntmps,fx⟩ c=some dO.strip) (a7:as.length<=fn.ntmps) (ak:dO.nf (Dw C f fx as.length m k)) (eJ:fn.results.toList=dM) (hl:num 0 as=l)
  (h:∀Q:Exit->ah->Prop,(∀s,eg (Ends C fx dM r outs) s->Q .ret s)->(∀s,eg (Ends C fx dM r outs) s->Q .normal s)->bk C dO Q (an l)):qa C f m k as r outs:=by
 subst eJ hl;exact qa.of_wp a_ a6 J je I a7 ak h
theorem h4 {b:Bool} (h:(!b)=true):b=false:=by cases b<;>first|rfl|cases h
theorem da {b:Bool} (h:(!b)=false):b=true:=by cases b<;>first|rfl|cases h
theorem SR {α:Type} {sz:Nat} {o:Bool×α->j} {u:α->j} (h:(o∘λx=>(false,x))=u) (e:List α):dW (.ad sz (e.map u)) (.ad sz ((e.map λx=>(false,x)).map o)):=by
 rw[List.map_map,h];exact .refl _
section
variable {C:bI} {s:ah} {l:abM} {Q:Exit->ah->Prop}
theorem zC {fx:abI} {dM:List ResultVar} {r:j} (ds:abN) (U:r=zo ds:=by cases j4 (by assumption);rfl) (R:dM.map (n3 C s)=ds.map some:=by rfl) (aA:(dM.map h2).Nodup:=by decide):Ends C fx dM r [] s:=
 qY ds R U aA RJ
theorem ep {fx:abI} {dM:List ResultVar} {r:j} (k:∀s,eg (Ends C fx dM r []) s->Q .ret s) (ds:abN) (U:r=zo ds:=by cases j4 (by assumption);rfl) (R:dM.map (n3 C s)=ds.map some:=by rfl) (aA:(dM.map h2).Nodup:=by decide):bk C .ret Q s:=
 o9 (k _ (.inl (zC ds U R aA)))
theorem aR {ke:ah->Prop} {a b:aP} (kA:∀s,ke s->Q .ret s) (h:∀dE:Exit->ah->Prop,(∀s,eg (bk C b Q) s->dE .normal s)->(∀s,ke s->dE .ret s)->(∀i s,Q (.exit i) s->dE (.exit i) s)->bk C a dE s):bk C (.seq a b) Q s:=
 RF λdE n q x=>h dE n (λs I=>q s (kA s I)) x
theorem bP {ke:ah->Prop} {id:Nat} {b:aP} (kA:∀s,ke s->Q .ret s) (h:∀dE:Exit->ah->Prop,(∀s,Q .normal s->dE .normal s)->(∀s,ke s->dE .ret s)->(∀s,Q .normal s->dE (.exit id) s)->(∀i s,i≠id->Q (.exit i) s->dE (.exit i) s)->bk C b dE s):bk C (.block id b) Q s:=
 RG λdE n q b x=>h dE n (λs I=>q s (kA s I)) b x
theorem dx {ke:ah->Prop} {b:aP} (kA:∀s,ke s->Q .ret s) (h:∀dE:Exit->ah->Prop,(∀s,eg (c_ C b Q) s->dE .normal s)->(∀s,ke s->dE .ret s)->(∀i s,Q (.exit i) s->dE (.exit i) s)->bk C b dE s):c_ C b Q s:=
 RH λdE n q x=>h dE n (λs I=>q s (kA s I)) x
theorem eL {β:Type} {f:Nat->Option β} {v:β} {b:aP} {bW:abM} (h:lim f=some v) (k:∀n,f n=some v->c_ C b Q (an bW)) (hw:bW.map (·.2)=bW.map (λp=>s p.1):=by rfl):bk C (.loop b) Q s:=
 let⟨n,a7⟩:=lB h
 lN (.inr ⟨bW,cr hw,k n a7⟩)
theorem bo {β:Type} {c:aZ} {t e:aP} {b:Bool} {x y:Option β} {r:β} (h:cond b x y=some r) (R:b=true->x=some r->bk C t Q s) (U:b=false->y=some r->bk C e Q s) (aj:aX s c= .bool b:=by rfl):bk C (.cond c t e) Q s:=by
 rcases gi h with⟨rfl,h⟩|⟨rfl,h⟩
 .exact jg aj (R rfl h)
 .exact o8 aj (U rfl h)
end
def aP.la:aP->abG->aP×abG
 | .eK r _,k::i0=>(.eK r (some k),i0)
 | .ie r a _,k::i0=>(.ie r a (some k),i0)
 | .seq a b,i0=>(.seq (a.la i0).1 (b.la (a.la i0).2).1,(b.la (a.la i0).2).2)
 | .cond c a b,i0=>(.cond c (a.la i0).1 (b.la (a.la i0).2).1,(b.la (a.la i0).2).2)
 | .block i a,i0=>(.block i (a.la i0).1,(a.la i0).2)
 | .loop a,i0=>(.loop (a.la i0).1,(a.la i0).2)
 |c,i0=>(c,i0)
def cI (n:Nat) (k:abI) (f:Func) (i0:abG):aP:=(((fm ⟨n,k⟩ (f.body.getD .skip)).getD .skip).la i0).1
def cJ (x:aP) {c:aP} (h:x=c:=by
    conv=>lhs;reduce):aP:=c
end Go.cW
