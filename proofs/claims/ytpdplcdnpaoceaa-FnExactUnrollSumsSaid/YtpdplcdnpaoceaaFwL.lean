/- Part of a proof that a law returns true for every input. No condition. -/
import Derived.Test.YtpdplcdnpaoceaaFwK
namespace Go.cV
open List Option Go.IntKind Nat Or
theorem wI {α:Type} {xs:List α} {n:Nat} {x:α} (h:ca xs (n:Int)=some x):xs[n]? =some x:=by simpa using c7 h
theorem Al {α:Type} {h:Decidable True} (t e:α): @ite α True h t e=t:=if_pos trivial
theorem Am {α:Type} {h:Decidable False} (t e:α): @ite α False h t e=e:=if_neg id
theorem An {α:Type} [BEq α] [ReflBEq α] (a:α):(a==a)=true:=BEq.rfl
theorem F9 {α:Type} (a b:α):(a≠b)=¬(a=b):=rfl
theorem F_:j.owner .hole=none/\(∀b,j.owner (.bool b)=none)/\j.owner .dV=none/\(∀k n,j.owner (.int k n)=none)/\(∀x,j.owner (.str x)=none)/\j.owner .cW=none/\j.owner .aK=none/\(∀x,j.owner (.slice x)=none)/\(∀n x,j.owner (.aq n x)=none)/\
  (∀x,j.owner (.ref x)=none)/\(∀x,j.owner (.aS x)=none)/\(∀x,j.owner (.agg x)=none)/\(∀x,j.owner (.tuple x)=none)/\(∀f c,j.owner (.fn f c)=none)/\(∀x q,j.owner (.h x q)=some x):=
 ⟨rfl,λ_=>rfl,rfl,λ_ _=>rfl,λ_=>rfl,rfl,rfl,λ_=>rfl,λ_ _=>rfl,λ_=>rfl,λ_=>rfl,λ_=>rfl,λ_=>rfl,λ_ _=>rfl,λ_ _=>rfl⟩
theorem Ga:(¬False)=True:=not_false_eq_true
theorem Gb:(¬True)=False:=not_true_eq_false
theorem Gc:∀a b:Nat,(some a=some b)=(a=b):=λ_ _=>propext ⟨λh=>some.inj h,λh=>congrArg some h⟩
theorem Gd:(∀n,num n []=[])/\(∀n a as,num n (a::as)=(n,a)::num (n+1) as):=⟨λ_=>rfl,λ_ _ _=>rfl⟩
theorem Ge:∀s1:af,dc (some s1)=some (.hole,s1):=λ_=>rfl
theorem Ao:(∀t o,mh t (.cY o)= .h t [])/\(∀(l:Vq) t o,fin (ao l) (some t) (.cY o)=ao ((t,.cY o)::nr t l))/\(∀o,j.plain (.cY o)=false)/\(∀t o,b9 t (.cY o)= .cY o)/\(∀t o,bQ t (.cY o)= .cY o)/\
  (∀o,j.cj (.cY o)= .hole)/\(∀o,j.wd (.cY o)=1)/\(∀o,j.eZ (.cY o)=true)/\(∀a b,n5 (.cY a) (.cY b)=true)/\(∀s x q d o,bY.gT s ⟨.h x q,true,d,.cY o⟩=cA (ji x s) x (j.put q (.cY o) (s x)))/\(∀o,j.R (.cY o)=[])/\(∀o,j.tree (.cY o)=true)/\(∀a b n m z,e4.ok ⟨.map a b,n,m,z⟩=true)/\(∀a b n m z,e4.flat ⟨.map a b,n,m,z⟩=true):=
 ⟨λ_ _=>rfl,λl t o=>by simp only[fin,j.plain,Bool.false_eq_true,if_false,wq,r2],λ_=>rfl,λ_ _=>by unfold b9;rfl,λ_ _=>by unfold bQ;rfl,λ_=>by simp only[j.cj],λ_=>by simp only[j.wd],λ_=>rfl,λ_ _=>rfl,λ_ _ _ _ _=>by simp[bY.gT],λ_=>by simp only[j.R],λ_=>rfl,λ_ _ _ _ _=>rfl,λ_ _ _ _ _=>rfl⟩
def NO:=PLift.up (ab Ao<|ab Gd<|ab Ge<|ab Gc<|ab F_<|ab Ga<|ab Gb<|ab @Al (ab @Am (ab @An (ab @F9 M0.down))))
def NP:=PLift.up (ab Ao<|ab Gd<|ab Ge<|ab Gc<|ab F_<|ab Ga<|ab Gb<|ab @Al (ab @Am (ab @An (ab @F9 M1.down))))
def NQ:=PLift.up (ab Ao<|ab @An<|ab @Al (ab @Am M3.down))
def qU (l:Vm):Vm:=l.foldr (λx acc=>if acc.contains x then acc else x::acc) []
theorem Gf {x:Nat}:∀{l:Vm},x∈qU l↔x∈l
 |[]=>Iff.rfl
 |y::l=>by
  have ih:=Gf (x:=x) (l:=l);have e:qU (y::l)=if(qU l).contains y then qU l else y::qU l:=rfl;rw[e];split
  .rename_i h;have bl:y∈qU l:=by simpa using h
   constructor
   .intro ae;exact mem_cons_of_mem _ (ih.1 ae)
   .intro ae;rcases mem_cons.1 ae with rfl|ae
    .exact bl
    .exact ih.2 ae
  .simp only[mem_cons,ih]
def Ap:Vk->Vk->Vk
 |done,[]=>done
 |done,a::r=>Ap (done++[qU (a++a.flatMap λe=>(done[e]?).getD [])]) r
def NR (dR:Vk):Vk:=Ap [] dR
def Aq (c d:Vk):Prop:=c.length=d.length/\∀(i x:Nat),x∈(c[i]?).getD []↔x∈(d[i]?).getD []
theorem Gg:∀(r c d:Vk),Aq c d->Aq (Ap c r) (ua d r)
 |[],c,d,h=>h
 |a::r,c,d,h=>by
  refine Gg r _ _ ⟨by simp[h.1],λi x=>?_⟩;rcases Nat.lt_trichotomy i c.length with ay|ay|ay
  .rw[getElem?_append_left ay,getElem?_append_left (by rw[<-h.1];exact ay)];exact h.2 i x
  .rw[getElem?_append_right (by omega),getElem?_append_right (by rw[<-h.1];omega),ay,Nat.sub_self,h.1,Nat.sub_self];simp only[getElem?_cons_zero,getD_some,Gf,mem_append,mem_flatMap];constructor
   .rintro(ae|⟨e,he,ae⟩)
    .exact .inl ae
    .exact .inr ⟨e,he,(h.2 e x).1 ae⟩
   .rintro(ae|⟨e,he,ae⟩)
    .exact .inl ae
    .exact .inr ⟨e,he,(h.2 e x).2 ae⟩
  .rw[getElem?_eq_none (by simp;omega),getElem?_eq_none (by simp[<-h.1];omega)]
theorem Gh {c d:Vk} (h:Aq c d):∀(al:List eo) (aD:Nat) (es:List (Nat×eo)),i9 c aD es al=i9 d aD es al
 |[],_,_=>rfl
 |f::al,aD,es=>by
  simp only[i9];rw[Gh h al];congr 2;funext e;congr 1;rw[Bool.eq_iff_iff];simp only[contains_iff_mem];exact h.2 aD e.1
theorem oi {dR:Vk} {aD:Nat} {es:List (Nat×eo)} {al:List eo} (h:i9 (NR dR) aD es al=true):i9 (nt dR) aD es al=true:=by
 exact(Gh (Gg dR [] [] ⟨rfl,λ_ _=>Iff.rfl⟩) al aD es).symm.trans h
abbrev ro (d:Nat) (bb:cZ):bE:=⟨some d,bb,none⟩
abbrev dm (d x:Nat):bE:=ro d (.g5 (.t x))
abbrev iO (d x:Nat):bE:=ro d (.j6 (.t x))
abbrev fe (d T x:Nat):bE:=ro d (.ey T (.t x))
abbrev gZ (d T x k:Nat):bE:=ro d (.gQ T (.t x) k)
abbrev uu (d T x i:Nat):bE:=ro d (.hJ T (.t x) (.t i))
abbrev oj (d T x:Nat):bE:=ro d (.len T (.t x))
abbrev uv (d x:Nat):bE:=ro d (.ht (.t x))
abbrev r_ (d:Nat) (o:BinOp) (T x y:Nat):bE:=ro d (.eb o T (.t x) (.t y))
abbrev jO (d:Nat) (o:BinOp) (T x:Nat) (n:Int):bE:=ro d (.eb o T (.t x) (.c (.int .i64 n)))
abbrev Gi (d:Nat) (n:Int):bE:=ro d (.g5 (.c (.int .i64 n)))
abbrev uw (d:Nat) (n:Int):bE:=ro d (.j6 (.c (.int .i64 n)))
abbrev om (d:Nat) (b:Bool):bE:=ro d (.j6 (.c (.bool b)))
abbrev Gj (d:Nat):bE:=ro d (.j6 (.c .aK))
abbrev qV (d T:Nat):bE:=ro d (.j1 T)
abbrev nA (d g a:Nat):bE:=ro d (.call (.f g) [.t a])
abbrev Ar (d g a b:Nat):bE:=ro d (.call (.f g) [.t a,.t b])
abbrev wJ (d x:Nat):bE:=ro d (.un .not (.t x))
abbrev As (d T x:Nat):bE:=ro d (.e6 T 1 [(0,.t x)])
abbrev NS (d T bR x y:Nat):bE:=ro d (.app T bR (.t x) (.t y))
abbrev mP (T x y:Nat):bE:=⟨none,.ie T (.t x) (.t y),none⟩
abbrev Gk (d A B x:Nat):bE:=ro d (.hg A B (.t x))
theorem bq.Gl {C:bI} (a4:C.dx) {f:FuncId} {fn:Func} {c:Code} {dP:aM} {fx:Vm} {as outs:Vr} {r:j} (dA:List ResultVar) (l:Vq) (bd:C.P.funcs[f]? =some fn) (J:fn.body=some c)
  (iM:(fn.name== "runtime.NumGoroutine")=false) (R:e_ ⟨fn.ntmps,fx⟩ c=some dP.strip) (a2:as.length<=fn.ntmps) (eX:fn.results.toList=dA) (hl:num 0 as=l)
  (h:∀Q:Exit->af->Prop,(∀s,dr (Ends C fx dA r outs) s->Q .ret s)->(∀s,dr (Ends C fx dA r outs) s->Q .normal s)->bh C dP Q (ao l)) (ag:dP.plain=true:=by kernel_rfl):bq C f as r outs:=by
 subst eX hl;exact bq.MJ a4 bd J iM R a2 h ag
theorem og.Gl {C:bI} (a4:C.dx) {f:FuncId} {fn:Func} {c:Code} {dP:aM} {fx:Vm} {as outs:Vr} {r:j} {k m:Nat} (dA:List ResultVar) (l:Vq) (bd:C.P.funcs[f]? =some fn) (J:fn.body=some c)
  (iM:(fn.name== "runtime.NumGoroutine")=false) (R:e_ ⟨fn.ntmps,fx⟩ c=some dP.strip) (a2:as.length<=fn.ntmps) (ak:dP.k1 (Aj C f fx as.length m k)) (eX:fn.results.toList=dA) (hl:num 0 as=l)
  (h:∀Q:Exit->af->Prop,(∀s,dr (Ends C fx dA r outs) s->Q .ret s)->(∀s,dr (Ends C fx dA r outs) s->Q .normal s)->bh C dP Q (ao l)):og C f m k as r outs:=by
 subst eX hl;exact og.of_wp a4 bd J iM R a2 ak h
theorem l1 {b:Bool} (h:(!b)=true):b=false:=by cases b<;>first|rfl|cases h
theorem fS {b:Bool} (h:(!b)=false):b=true:=by cases b<;>first|rfl|cases h
section
variable {C:bI} {s:af} {l:Vq} {Q:Exit->af->Prop}
theorem sa {fx:Vm} {dA:List ResultVar} {r:j} (ds:Vr) (aa:r=wA ds:=by cases hb (by assumption);rfl) (U:dA.map (mG C s)=ds.map some:=by rfl) (ax:(dA.map hA).Nodup:=by decide):Ends C fx dA r [] s:=
 lY ds U aa ax MK
theorem ez {fx:Vm} {dA:List ResultVar} {r:j} (k:∀s,dr (Ends C fx dA r []) s->Q .ret s) (ds:Vr) (aa:r=wA ds:=by cases hb (by assumption);rfl) (U:dA.map (mG C s)=ds.map some:=by rfl) (ax:(dA.map hA).Nodup:=by decide):bh C .ret Q s:=
 jH (k _ (.inl (sa ds aa U ax)))
theorem a1 {kB:af->Prop} {a b:aM} (ux:∀s,kB s->Q .ret s) (h:∀dj:Exit->af->Prop,(∀s,dr (bh C b Q) s->dj .normal s)->(∀s,kB s->dj .ret s)->(∀i s,Q (.exit i) s->dj (.exit i) s)->bh C a dj s):bh C (.seq a b) Q s:=
 MG λdj n q x=>h dj n (λs R=>q s (ux s R)) x
theorem cd {kB:af->Prop} {id:Nat} {b:aM} (ux:∀s,kB s->Q .ret s) (h:∀dj:Exit->af->Prop,(∀s,Q .normal s->dj .normal s)->(∀s,kB s->dj .ret s)->(∀s,Q .normal s->dj (.exit id) s)->(∀i s,i≠id->Q (.exit i) s->dj (.exit i) s)->bh C b dj s):bh C (.block id b) Q s:=
 MH λdj n q b x=>h dj n (λs R=>q s (ux s R)) b x
theorem eA {kB:af->Prop} {b:aM} (ux:∀s,kB s->Q .ret s) (h:∀dj:Exit->af->Prop,(∀s,dr (dK C b Q) s->dj .normal s)->(∀s,kB s->dj .ret s)->(∀i s,Q (.exit i) s->dj (.exit i) s)->bh C b dj s):dK C b Q s:=
 MI λdj n q x=>h dj n (λs R=>q s (ux s R)) x
theorem fa {β:Type} {f:Nat->Option β} {v:β} {b:aM} {b0:Vq} (h:cX f=some v) (k:∀n,f n=some v->dK C b Q (ao b0)) (hw:b0.map (·.2)=b0.map (λp=>s p.1):=by rfl):bh C (.loop b) Q s:=
 let⟨n,a2⟩:=pV h
 qL (.inr ⟨b0,dd hw,k n a2⟩)
theorem bn {β:Type} {c:aT} {t e:aM} {b:Bool} {x y:Option β} {r:β} (h:cond b x y=some r) (U:b=true->x=some r->bh C t Q s) (aa:b=false->y=some r->bh C e Q s) (ai:a6 s c= .bool b:=by rfl):bh C (.cond c t e) Q s:=by
 rcases g3 h with⟨rfl,h⟩|⟨rfl,h⟩
 .exact js ai (U rfl h)
 .exact qK ai (aa rfl h)
end
def aM.kf:aM->Vk->aM×Vk
 | .eT r _,k::iu=>(.eT r (some k),iu)
 | .im r a _,k::iu=>(.im r a (some k),iu)
 | .seq a b,iu=>(.seq (a.kf iu).1 (b.kf (a.kf iu).2).1,(b.kf (a.kf iu).2).2)
 | .cond c a b,iu=>(.cond c (a.kf iu).1 (b.kf (a.kf iu).2).1,(b.kf (a.kf iu).2).2)
 | .block i a,iu=>(.block i (a.kf iu).1,(a.kf iu).2)
 | .loop a,iu=>(.loop (a.kf iu).1,(a.kf iu).2)
 |c,iu=>(c,iu)
def cC (n:Nat) (k:Vm) (f:Func) (iu:Vk):aM:=(((e_ ⟨n,k⟩ (f.body.getD .skip)).getD .skip).kf iu).1
def cD (x:aM) {c:aM} (h:x=c:=by
    conv=>lhs;reduce):aM:=c
end Go.cV
