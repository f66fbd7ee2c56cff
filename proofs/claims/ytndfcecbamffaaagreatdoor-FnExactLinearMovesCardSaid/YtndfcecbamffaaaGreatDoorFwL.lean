/- Part of a proof that a law returns true for every input. No condition. -/
import Derived.Test.YtndfcecbamffaaaGreatDoorFwK
namespace Go.cG
open List Option Go.IntKind Nat Or
theorem Dq {α:Type} {h:Decidable True} (t e:α): @ite α True h t e=t:=if_pos trivial
theorem Dr {α:Type} {h:Decidable False} (t e:α): @ite α False h t e=e:=if_neg id
theorem Ds {α:Type} [BEq α] [ReflBEq α] (a:α):(a==a)=true:=BEq.rfl
theorem Kv {α:Type} (a b:α):(a≠b)=¬(a=b):=rfl
theorem Kw:j.owner .hole=none/\(∀b,j.owner (.bool b)=none)/\j.owner .eT=none/\(∀k n,j.owner (.int k n)=none)/\(∀x,j.owner (.str x)=none)/\j.owner .c6=none/\j.owner .bc=none/\(∀x,j.owner (.slice x)=none)/\(∀n x,j.owner (.ao n x)=none)/\
  (∀x,j.owner (.ref x)=none)/\(∀x,j.owner (.aV x)=none)/\(∀x,j.owner (.agg x)=none)/\(∀x,j.owner (.tuple x)=none)/\(∀f c,j.owner (.fn f c)=none)/\(∀x q,j.owner (.h x q)=some x):=
 ⟨rfl,λ_=>rfl,rfl,λ_ _=>rfl,λ_=>rfl,rfl,rfl,λ_=>rfl,λ_ _=>rfl,λ_=>rfl,λ_=>rfl,λ_=>rfl,λ_=>rfl,λ_ _=>rfl,λ_ _=>rfl⟩
theorem Kx:(¬False)=True:=not_false_eq_true
theorem Ky:(¬True)=False:=not_true_eq_false
theorem Kz:∀a b:Nat,(some a=some b)=(a=b):=λ_ _=>propext ⟨λh=>some.inj h,λh=>congrArg some h⟩
theorem KA:(∀n,num n []=[])/\(∀n a as,num n (a::as)=(n,a)::num (n+1) as):=⟨λ_=>rfl,λ_ _ _=>rfl⟩
theorem KB:∀s1:ag,db (some s1)=some (.hole,s1):=λ_=>rfl
theorem Dt:(∀t o,kC t (.b3 o)= .h t [])/\(∀(l:aci) t o,fin (ah l) (some t) (.b3 o)=ah ((t,.b3 o)::ov t l))/\(∀o,j.plain (.b3 o)=false)/\(∀t o,cj t (.b3 o)= .b3 o)/\(∀t o,bU t (.b3 o)= .b3 o)/\
  (∀o,j.cv (.b3 o)= .hole)/\(∀o,j.wd (.b3 o)=1)/\(∀o,j.fh (.b3 o)=true)/\(∀a b,pg (.b3 a) (.b3 b)=true)/\(∀s x q d o,bX.ho s ⟨.h x q,true,d,.b3 o⟩=cw (jP x s) x (j.put q (.b3 o) (s x)))/\(∀o,j.J (.b3 o)=[])/\(∀o,j.tree (.b3 o)=true)/\(∀a b n m z,fv.ok ⟨.map a b,n,m,z⟩=true)/\(∀a b n m z,fv.flat ⟨.map a b,n,m,z⟩=true):=
 ⟨λ_ _=>rfl,λl t o=>by simp only[fin,j.plain,Bool.false_eq_true,if_false,sE,po],λ_=>rfl,λ_ _=>by unfold cj;rfl,λ_ _=>by unfold bU;rfl,λ_=>by simp only[j.cv],λ_=>by simp only[j.wd],λ_=>rfl,λ_ _=>rfl,λ_ _ _ _ _=>by simp[bX.ho],λ_=>by simp only[j.J],λ_=>rfl,λ_ _ _ _ _=>rfl,λ_ _ _ _ _=>rfl⟩
def Su:=PLift.up (ab Dt<|ab KA<|ab KB<|ab Kz<|ab Kw<|ab Kx<|ab Ky<|ab @Dq (ab @Dr (ab @Ds (ab @Kv RX.down))))
def Sv:=PLift.up (ab Dt<|ab KA<|ab KB<|ab Kz<|ab Kw<|ab Kx<|ab Ky<|ab @Dq (ab @Dr (ab @Ds (ab @Kv RY.down))))
def Sw:=PLift.up (ab Dt<|ab @Ds<|ab @Dq (ab @Dr RZ.down))
def sU (l:ace):ace:=l.foldr (λx acc=>if acc.contains x then acc else x::acc) []
theorem KC {x:Nat}:∀{l:ace},x∈sU l↔x∈l
 |[]=>Iff.rfl
 |y::l=>by
  have ih:=KC (x:=x) (l:=l);have e:sU (y::l)=if(sU l).contains y then sU l else y::sU l:=rfl;rw[e];split
  .rename_i h;have bC:y∈sU l:=by simpa using h
   constructor
   .intro ae;exact mem_cons_of_mem _ (ih.1 ae)
   .intro ae;rcases mem_cons.1 ae with rfl|ae
    .exact bC
    .exact ih.2 ae
  .simp only[mem_cons,ih]
def Du:acb->acb->acb
 |done,[]=>done
 |done,a::r=>Du (done++[sU (a++a.flatMap λe=>(done[e]?).getD [])]) r
def Sy (ey:acb):acb:=Du [] ey
def Dv (c d:acb):Prop:=c.length=d.length/\∀(i x:Nat),x∈(c[i]?).getD []↔x∈(d[i]?).getD []
theorem KD:∀(r c d:acb),Dv c d->Dv (Du c r) (wZ d r)
 |[],c,d,h=>h
 |a::r,c,d,h=>by
  refine KD r _ _ ⟨by simp[h.1],λi x=>?_⟩;rcases Nat.lt_trichotomy i c.length with ax|ax|ax
  .rw[getElem?_append_left ax,getElem?_append_left (by rw[<-h.1];exact ax)];exact h.2 i x
  .rw[getElem?_append_right (by omega),getElem?_append_right (by rw[<-h.1];omega),ax,Nat.sub_self,h.1,Nat.sub_self];simp only[getElem?_cons_zero,getD_some,KC,mem_append,mem_flatMap];constructor
   .rintro(ae|⟨e,he,ae⟩)
    .exact .inl ae
    .exact .inr ⟨e,he,(h.2 e x).1 ae⟩
   .rintro(ae|⟨e,he,ae⟩)
    .exact .inl ae
    .exact .inr ⟨e,he,(h.2 e x).2 ae⟩
  .rw[getElem?_eq_none (by simp;omega),getElem?_eq_none (by simp[<-h.1];omega)]
theorem KE {c d:acb} (h:Dv c d):∀(ar:List eF) (aB:Nat) (es:List (Nat×eF)),kd c aB es ar=kd d aB es ar
 |[],_,_=>rfl
 |f::ar,aB,es=>by
  simp only[kd];rw[KE h ar];congr 2;funext e;congr 1;rw[Bool.eq_iff_iff];simp only[contains_iff_mem];exact h.2 aB e.1
theorem pD {ey:acb} {aB:Nat} {es:List (Nat×eF)} {ar:List eF} (h:kd (Sy ey) aB es ar=true):kd (pv ey) aB es ar=true:=by
 exact(KE (KD ey [] [] ⟨rfl,λ_ _=>Iff.rfl⟩) ar aB es).symm.trans h
abbrev ro (d:Nat) (bq:de):bn:=⟨some d,bq,none⟩
abbrev bF (d x:Nat):bn:=ro d (.gm (.t x))
abbrev dA (d x:Nat):bn:=ro d (.il (.t x))
abbrev eW (d T x:Nat):bn:=ro d (.dU T (.t x))
abbrev hC (d T x k:Nat):bn:=ro d (.gB T (.t x) k)
abbrev sV (d T x i:Nat):bn:=ro d (.hT T (.t x) (.t i))
abbrev kg (d T x:Nat):bn:=ro d (.len T (.t x))
abbrev mW (d x:Nat):bn:=ro d (.ig (.t x))
abbrev mw (d:Nat) (o:BinOp) (T x y:Nat):bn:=ro d (.dI o T (.t x) (.t y))
abbrev gf (d:Nat) (o:BinOp) (T x:Nat) (n:Int):bn:=ro d (.dI o T (.t x) (.c (.int .i64 n)))
abbrev Sz (d:Nat) (n:Int):bn:=ro d (.gm (.c (.int .i64 n)))
abbrev zz (d:Nat) (n:Int):bn:=ro d (.il (.c (.int .i64 n)))
abbrev lg (d:Nat) (b:Bool):bn:=ro d (.il (.c (.bool b)))
abbrev xe (d:Nat):bn:=ro d (.il (.c .bc))
abbrev uL (d T:Nat):bn:=ro d (.lC T)
abbrev mx (d g a:Nat):bn:=ro d (.call (.f g) [.t a])
abbrev nU (d g a b:Nat):bn:=ro d (.call (.f g) [.t a,.t b])
abbrev KF (d x k:Nat):bn:=ro d (.ex (.t x) k)
abbrev sW (d x:Nat):bn:=ro d (.un .not (.t x))
abbrev xf (d T x:Nat):bn:=ro d (.eD T 1 [(0,.t x)])
abbrev sX (d T bV x y:Nat):bn:=ro d (.app T bV (.t x) (.t y))
abbrev sY (T x y:Nat):bn:=⟨none,.iV T (.t x) (.t y),none⟩
abbrev zA (d A B x:Nat):bn:=ro d (.hV A B (.t x))
theorem bb.KG {C:bz} (a1:C.du) {f:FuncId} {fn:Func} {c:Code} {df:aI} {fx:ace} {as outs:acj} {r:j} (dw:List ResultVar) (l:aci) (bf:C.P.funcs[f]? =some fn) (I:fn.body=some c)
  (i7:(fn.name== "runtime.NumGoroutine")=false) (J:eI ⟨fn.ntmps,fx⟩ c=some df.strip) (aO:as.length<=fn.ntmps) (eO:fn.results.toList=dw) (hl:num 0 as=l)
  (h:∀Q:Exit->ag->Prop,(∀s,c1 (Ends C fx dw r outs) s->Q .ret s)->(∀s,c1 (Ends C fx dw r outs) s->Q .normal s)->bw C df Q (ah l)) (ai:df.plain=true:=by kernel_rfl):bb C f as r outs:=by
 subst eO hl;exact bb.RL a1 bf I i7 J aO h ai
theorem ql.KG {C:bz} (a1:C.du) {f:FuncId} {fn:Func} {c:Code} {df:aI} {fx:ace} {as outs:acj} {r:j} {k m:Nat} (dw:List ResultVar) (l:aci) (bf:C.P.funcs[f]? =some fn) (I:fn.body=some c)
  (i7:(fn.name== "runtime.NumGoroutine")=false) (J:eI ⟨fn.ntmps,fx⟩ c=some df.strip) (aO:as.length<=fn.ntmps) (ak:df.kc (Dp C f fx as.length m k)) (eO:fn.results.toList=dw) (hl:num 0 as=l)
  (h:∀Q:Exit->ag->Prop,(∀s,c1 (Ends C fx dw r outs) s->Q .ret s)->(∀s,c1 (Ends C fx dw r outs) s->Q .normal s)->bw C df Q (ah l)):ql C f m k as r outs:=by
 subst eO hl;exact ql.of_wp a1 bf I i7 J aO ak h
theorem mX {b:Bool} (h:(!b)=true):b=false:=by cases b<;>first|rfl|cases h
theorem fN {b:Bool} (h:(!b)=false):b=true:=by cases b<;>first|rfl|cases h
section
variable {C:bz} {s:ag} {l:aci} {Q:Exit->ag->Prop}
theorem xg {fx:ace} {dw:List ResultVar} {r:j} (ds:acj) (U:r=zl ds:=by cases fP (by assumption);rfl) (R:dw.map (ou C s)=ds.map some:=by rfl) (aw:(dw.map ir).Nodup:=by decide):Ends C fx dw r [] s:=
 lf ds R U aw RM
theorem cR {fx:ace} {dw:List ResultVar} {r:j} (k:∀s,c1 (Ends C fx dw r []) s->Q .ret s) (ds:acj) (U:r=zl ds:=by cases fP (by assumption);rfl) (R:dw.map (ou C s)=ds.map some:=by rfl) (aw:(dw.map ir).Nodup:=by decide):bw C .ret Q s:=
 ld (k _ (.inl (xg ds U R aw)))
theorem aU {kJ:ag->Prop} {a b:aI} (xh:∀s,kJ s->Q .ret s) (h:∀dy:Exit->ag->Prop,(∀s,c1 (bw C b Q) s->dy .normal s)->(∀s,kJ s->dy .ret s)->(∀i s,Q (.exit i) s->dy (.exit i) s)->bw C a dy s):bw C (.seq a b) Q s:=
 RI λdy n q x=>h dy n (λs J=>q s (xh s J)) x
theorem b7 {kJ:ag->Prop} {id:Nat} {b:aI} (xh:∀s,kJ s->Q .ret s) (h:∀dy:Exit->ag->Prop,(∀s,Q .normal s->dy .normal s)->(∀s,kJ s->dy .ret s)->(∀s,Q .normal s->dy (.exit id) s)->(∀i s,i≠id->Q (.exit i) s->dy (.exit i) s)->bw C b dy s):bw C (.block id b) Q s:=
 RJ λdy n q b x=>h dy n (λs J=>q s (xh s J)) b x
theorem ep {kJ:ag->Prop} {b:aI} (xh:∀s,kJ s->Q .ret s) (h:∀dy:Exit->ag->Prop,(∀s,c1 (dK C b Q) s->dy .normal s)->(∀s,kJ s->dy .ret s)->(∀i s,Q (.exit i) s->dy (.exit i) s)->bw C b dy s):dK C b Q s:=
 RK λdy n q x=>h dy n (λs J=>q s (xh s J)) x
theorem eN {β:Type} {f:Nat->Option β} {v:β} {b:aI} {bR:aci} (h:cL f=some v) (k:∀n,f n=some v->dK C b Q (ah bR)) (hw:bR.map (·.2)=bR.map (λp=>s p.1):=by rfl):bw C (.loop b) Q s:=
 let⟨n,aO⟩:=qP h
 w5 (.inr ⟨bR,cY hw,k n aO⟩)
theorem ba {β:Type} {c:aR} {t e:aI} {b:Bool} {x y:Option β} {r:β} (h:cond b x y=some r) (R:b=true->x=some r->bw C t Q s) (U:b=false->y=some r->bw C e Q s) (aj:a7 s c= .bool b:=by rfl):bw C (.cond c t e) Q s:=by
 rcases gr h with⟨rfl,h⟩|⟨rfl,h⟩
 .exact kM aj (R rfl h)
 .exact w4 aj (U rfl h)
end
def aI.lR:aI->acb->aI×acb
 | .dJ r _,k::jc=>(.dJ r (some k),jc)
 | .iZ r a _,k::jc=>(.iZ r a (some k),jc)
 | .seq a b,jc=>(.seq (a.lR jc).1 (b.lR (a.lR jc).2).1,(b.lR (a.lR jc).2).2)
 | .cond c a b,jc=>(.cond c (a.lR jc).1 (b.lR (a.lR jc).2).1,(b.lR (a.lR jc).2).2)
 | .block i a,jc=>(.block i (a.lR jc).1,(a.lR jc).2)
 | .loop a,jc=>(.loop (a.lR jc).1,(a.lR jc).2)
 |c,jc=>(c,jc)
def cE (n:Nat) (k:ace) (f:Func) (jc:acb):aI:=(((eI ⟨n,k⟩ (f.body.getD .skip)).getD .skip).lR jc).1
def cF (x:aI) {c:aI} (h:x=c:=by
    conv=>lhs;reduce):aI:=c
end Go.cG
