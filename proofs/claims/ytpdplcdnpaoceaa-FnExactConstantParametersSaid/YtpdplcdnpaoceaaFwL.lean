/- Part of a proof that a law returns true for every input. No condition. -/
import Derived.Test.YtpdplcdnpaoceaaFwK
namespace Go.cM
open List Option Go.IntKind Nat Or
theorem oH {α:Type} {xs:List α} {n:Nat} {x:α} (h:bR xs (n:Int)=some x):xs[n]? =some x:=by simpa using c2 h
theorem AW {α:Type} {h:Decidable True} (t e:α): @ite α True h t e=t:=if_pos trivial
theorem AX {α:Type} {h:Decidable False} (t e:α): @ite α False h t e=e:=if_neg id
theorem AY {α:Type} [BEq α] [ReflBEq α] (a:α):(a==a)=true:=BEq.rfl
theorem G2 {α:Type} (a b:α):(a≠b)=¬(a=b):=rfl
theorem G3:I.owner .hole=none/\(∀b,I.owner (.bool b)=none)/\I.owner .dR=none/\(∀k n,I.owner (.int k n)=none)/\(∀x,I.owner (.str x)=none)/\I.owner .cJ=none/\I.owner .a5=none/\(∀x,I.owner (.slice x)=none)/\(∀n x,I.owner (.aw n x)=none)/\
  (∀x,I.owner (.ref x)=none)/\(∀x,I.owner (.bh x)=none)/\(∀x,I.owner (.agg x)=none)/\(∀x,I.owner (.tuple x)=none)/\(∀f c,I.owner (.fn f c)=none)/\(∀x q,I.owner (.h x q)=some x):=
 ⟨rfl,λ_=>rfl,rfl,λ_ _=>rfl,λ_=>rfl,rfl,rfl,λ_=>rfl,λ_ _=>rfl,λ_=>rfl,λ_=>rfl,λ_=>rfl,λ_=>rfl,λ_ _=>rfl,λ_ _=>rfl⟩
theorem G4:(¬False)=True:=not_false_eq_true
theorem G5:(¬True)=False:=not_true_eq_false
theorem G6:∀a b:Nat,(some a=some b)=(a=b):=λ_ _=>propext ⟨λh=>some.inj h,λh=>congrArg some h⟩
theorem G7:(∀n,num n []=[])/\(∀n a as,num n (a::as)=(n,a)::num (n+1) as):=⟨λ_=>rfl,λ_ _ _=>rfl⟩
theorem G8:∀s1:ah,da (some s1)=some (.hole,s1):=λ_=>rfl
theorem AZ:(∀t o,nb t (.cS o)= .h t [])/\(∀(l:Xx) t o,fin (au l) (some t) (.cS o)=au ((t,.cS o)::ow t l))/\(∀o,I.plain (.cS o)=false)/\(∀t o,b8 t (.cS o)= .cS o)/\(∀t o,bH t (.cS o)= .cS o)/\
  (∀o,I.cj (.cS o)= .hole)/\(∀o,I.wd (.cS o)=1)/\(∀o,I.eW (.cS o)=true)/\(∀a b,pj (.cS a) (.cS b)=true)/\(∀s x q d o,bZ.g8 s ⟨.h x q,true,d,.cS o⟩=cl (jR x s) x (I.put q (.cS o) (s x)))/\(∀o,I.aa (.cS o)=[])/\(∀o,I.tree (.cS o)=true)/\(∀a b n m z,eU.ok ⟨.map a b,n,m,z⟩=true)/\(∀a b n m z,eU.flat ⟨.map a b,n,m,z⟩=true):=
 ⟨λ_ _=>rfl,λl t o=>by simp only[fin,I.plain,Bool.false_eq_true,if_false,Ag,uf],λ_=>rfl,λ_ _=>by unfold b8;rfl,λ_ _=>by unfold bH;rfl,λ_=>by simp only[I.cj],λ_=>by simp only[I.wd],λ_=>rfl,λ_ _=>rfl,λ_ _ _ _ _=>by simp[bZ.g8],λ_=>by simp only[I.aa],λ_=>rfl,λ_ _ _ _ _=>rfl,λ_ _ _ _ _=>rfl⟩
def OD:=PLift.up (ae AZ<|ae G7<|ae G8<|ae G6<|ae G3<|ae G4<|ae G5<|ae @AW (ae @AX (ae @AY (ae @G2 NN.down))))
def OE:=PLift.up (ae AZ<|ae G7<|ae G8<|ae G6<|ae G3<|ae G4<|ae G5<|ae @AW (ae @AX (ae @AY (ae @G2 NO.down))))
def OG:=PLift.up (ae AZ<|ae @AY<|ae @AW (ae @AX NP.down))
def qS (l:Xt):Xt:=l.foldr (λx acc=>if acc.contains x then acc else x::acc) []
theorem G9 {x:Nat}:∀{l:Xt},x∈qS l↔x∈l
 |[]=>Iff.rfl
 |y::l=>by
  have ih:=G9 (x:=x) (l:=l);have e:qS (y::l)=if(qS l).contains y then qS l else y::qS l:=rfl;rw[e];split
  .rename_i h;have bj:y∈qS l:=by simpa using h
   constructor
   .intro an;exact mem_cons_of_mem _ (ih.1 an)
   .intro an;rcases mem_cons.1 an with rfl|an
    .exact bj
    .exact ih.2 an
  .simp only[mem_cons,ih]
def A0:Xr->Xr->Xr
 |done,[]=>done
 |done,a::r=>A0 (done++[qS (a++a.flatMap λe=>(done[e]?).getD [])]) r
def OH (eE:Xr):Xr:=A0 [] eE
def A1 (c d:Xr):Prop:=c.length=d.length/\∀(i x:Nat),x∈(c[i]?).getD []↔x∈(d[i]?).getD []
theorem G_:∀(r c d:Xr),A1 c d->A1 (A0 c r) (uk d r)
 |[],c,d,h=>h
 |a::r,c,d,h=>by
  refine G_ r _ _ ⟨by simp[h.1],λi x=>?_⟩;rcases Nat.lt_trichotomy i c.length with aE|aE|aE
  .rw[getElem?_append_left aE,getElem?_append_left (by rw[<-h.1];exact aE)];exact h.2 i x
  .rw[getElem?_append_right (by omega),getElem?_append_right (by rw[<-h.1];omega),aE,Nat.sub_self,h.1,Nat.sub_self];simp only[getElem?_cons_zero,getD_some,G9,mem_append,mem_flatMap];constructor
   .rintro(an|⟨e,he,an⟩)
    .exact .inl an
    .exact .inr ⟨e,he,(h.2 e x).1 an⟩
   .rintro(an|⟨e,he,an⟩)
    .exact .inl an
    .exact .inr ⟨e,he,(h.2 e x).2 an⟩
  .rw[getElem?_eq_none (by simp;omega),getElem?_eq_none (by simp[<-h.1];omega)]
theorem Ha {c d:Xr} (h:A1 c d):∀(ar:List ee) (j:Nat) (es:List (Nat×ee)),j3 c j es ar=j3 d j es ar
 |[],_,_=>rfl
 |f::ar,j,es=>by
  simp only[j3];rw[Ha h ar];congr 2;funext e;congr 1;rw[Bool.eq_iff_iff];simp only[contains_iff_mem];exact h.2 j e.1
theorem pG {eE:Xr} {j:Nat} {es:List (Nat×ee)} {ar:List ee} (h:j3 (OH eE) j es ar=true):j3 (pv eE) j es ar=true:=by
 exact(Ha (G_ eE [] [] ⟨rfl,λ_ _=>Iff.rfl⟩) ar j es).symm.trans h
abbrev ro (d:Nat) (a9:cU):bW:=⟨some d,a9,none⟩
abbrev dg (d x:Nat):bW:=ro d (.fc (.t x))
abbrev ho (d x:Nat):bW:=ro d (.ko (.t x))
abbrev hO (d T x:Nat):bW:=ro d (.ew T (.t x))
abbrev kZ (d T x k:Nat):bW:=ro d (.gO T (.t x) k)
abbrev wX (d T x i:Nat):bW:=ro d (.h_ T (.t x) (.t i))
abbrev uB (d T x:Nat):bW:=ro d (.len T (.t x))
abbrev r8 (d x:Nat):bW:=ro d (.hC (.t x))
abbrev r9 (d:Nat) (o:BinOp) (T x y:Nat):bW:=ro d (.dE o T (.t x) (.t y))
abbrev ma (d:Nat) (o:BinOp) (T x:Nat) (n:Int):bW:=ro d (.dE o T (.t x) (.c (.int .i64 n)))
abbrev OI (d:Nat) (n:Int):bW:=ro d (.ko (.c (.int .i64 n)))
abbrev nH (d:Nat) (b:Bool):bW:=ro d (.ko (.c (.bool b)))
abbrev A2 (d:Nat):bW:=ro d (.ko (.c .a5))
abbrev pH (d g a:Nat):bW:=ro d (.call (.f g) [.t a])
abbrev wY (d g a b:Nat):bW:=ro d (.call (.f g) [.t a,.t b])
abbrev OJ (d g a b c:Nat):bW:=ro d (.call (.f g) [.t a,.t b,.t c])
abbrev wZ (d x:Nat):bW:=ro d (.un .not (.t x))
abbrev OK (d T x:Nat):bW:=ro d (.ek T 1 [(0,.t x)])
abbrev OL (T x y:Nat):bW:=⟨none,.iC T (.t x) (.t y),none⟩
abbrev Hb (d A B x:Nat):bW:=ro d (.hi A B (.t x))
theorem bb.Hc {C:bA} (a0:C.dm) {f:FuncId} {fn:Func} {c:Code} {dt:aL} {fx:Xt} {as outs:Xy} {r:I} (dr:List ResultVar) (l:Xx) (bk:C.P.funcs[f]? =some fn) (U:fn.body=some c)
  (jF:(fn.name== "runtime.NumGoroutine")=false) (aa:eN ⟨fn.ntmps,fx⟩ c=some dt.strip) (aU:as.length<=fn.ntmps) (e7:fn.results.toList=dr) (hl:num 0 as=l)
  (h:∀Q:Exit->ah->Prop,(∀s,dC (Ends C fx dr r outs) s->Q .ret s)->(∀s,dC (Ends C fx dr r outs) s->Q .normal s)->bc C dt Q (au l)) (ao:dt.plain=true:=by kernel_rfl):bb C f as r outs:=by
 subst e7 hl;exact bb.Nt a0 bk U jF aa aU h ao
theorem oC.Hc {C:bA} (a0:C.dm) {f:FuncId} {fn:Func} {c:Code} {dt:aL} {fx:Xt} {as outs:Xy} {r:I} {k m:Nat} (dr:List ResultVar) (l:Xx) (bk:C.P.funcs[f]? =some fn) (U:fn.body=some c)
  (jF:(fn.name== "runtime.NumGoroutine")=false) (aa:eN ⟨fn.ntmps,fx⟩ c=some dt.strip) (aU:as.length<=fn.ntmps) (ai:dt.l5 (AV C f fx as.length m k)) (e7:fn.results.toList=dr) (hl:num 0 as=l)
  (h:∀Q:Exit->ah->Prop,(∀s,dC (Ends C fx dr r outs) s->Q .ret s)->(∀s,dC (Ends C fx dr r outs) s->Q .normal s)->bc C dt Q (au l)):oC C f m k as r outs:=by
 subst e7 hl;exact oC.of_wp a0 bk U jF aa aU ai h
theorem mb {b:Bool} (h:(!b)=true):b=false:=by cases b<;>first|rfl|cases h
theorem fQ {b:Bool} (h:(!b)=false):b=true:=by cases b<;>first|rfl|cases h
section
variable {C:bA} {s:ah} {l:Xx} {Q:Exit->ah->Prop}
theorem r_ {fx:Xt} {dr:List ResultVar} {r:I} (ds:Xy) (ad:r=wN ds:=by cases ki (by assumption);rfl) (ab:dr.map (mN C s)=ds.map some:=by rfl) (aB:(dr.map hE).Nodup:=by decide):Ends C fx dr r [] s:=
 pz ds ab ad aB Nu
theorem ct {fx:Xt} {dr:List ResultVar} {r:I} (k:∀s,dC (Ends C fx dr r []) s->Q .ret s) (ds:Xy) (ad:r=wN ds:=by cases ki (by assumption);rfl) (ab:dr.map (mN C s)=ds.map some:=by rfl) (aB:(dr.map hE).Nodup:=by decide):bc C .ret Q s:=
 lj (k _ (.inl (r_ ds ad ab aB)))
theorem aT {R:ah->Prop} {a b:aL} (uC:∀s,R s->Q .ret s) (h:∀de:Exit->ah->Prop,(∀s,dC (bc C b Q) s->de .normal s)->(∀s,R s->de .ret s)->(∀i s,Q (.exit i) s->de (.exit i) s)->bc C a de s):bc C (.seq a b) Q s:=
 Nq λde n q x=>h de n (λs aa=>q s (uC s aa)) x
theorem b_ {R:ah->Prop} {id:Nat} {b:aL} (uC:∀s,R s->Q .ret s) (h:∀de:Exit->ah->Prop,(∀s,Q .normal s->de .normal s)->(∀s,R s->de .ret s)->(∀s,Q .normal s->de (.exit id) s)->(∀i s,i≠id->Q (.exit i) s->de (.exit i) s)->bc C b de s):bc C (.block id b) Q s:=
 Nr λde n q b x=>h de n (λs aa=>q s (uC s aa)) b x
theorem ef {R:ah->Prop} {b:aL} (uC:∀s,R s->Q .ret s) (h:∀de:Exit->ah->Prop,(∀s,dC (dy C b Q) s->de .normal s)->(∀s,R s->de .ret s)->(∀i s,Q (.exit i) s->de (.exit i) s)->bc C b de s):dy C b Q s:=
 Ns λde n q x=>h de n (λs aa=>q s (uC s aa)) x
theorem eP {β:Type} {f:Nat->Option β} {v:β} {b:aL} {bU:Xx} (h:cC f=some v) (k:∀n,f n=some v->dy C b Q (au bU)) (hw:bU.map (·.2)=bU.map (λp=>s p.1):=by rfl):bc C (.loop b) Q s:=
 let⟨n,aU⟩:=mo h
 qI (.inr ⟨bU,cL hw,k n aU⟩)
theorem a8 {β:Type} {c:aX} {t e:aL} {b:Bool} {x y:Option β} {r:β} (h:cond b x y=some r) (ab:b=true->x=some r->bc C t Q s) (ad:b=false->y=some r->bc C e Q s) (aj:a6 s c= .bool b:=by rfl):bc C (.cond c t e) Q s:=by
 rcases e8 h with⟨rfl,h⟩|⟨rfl,h⟩
 .exact iV aj (ab rfl h)
 .exact nB aj (ad rfl h)
end
def aL.kv:aL->Xr->aL×Xr
 | .eM r _,k::im=>(.eM r (some k),im)
 | .jl r a _,k::im=>(.jl r a (some k),im)
 | .seq a b,im=>(.seq (a.kv im).1 (b.kv (a.kv im).2).1,(b.kv (a.kv im).2).2)
 | .cond c a b,im=>(.cond c (a.kv im).1 (b.kv (a.kv im).2).1,(b.kv (a.kv im).2).2)
 | .block i a,im=>(.block i (a.kv im).1,(a.kv im).2)
 | .loop a,im=>(.loop (a.kv im).1,(a.kv im).2)
 |c,im=>(c,im)
def cg (n:Nat) (k:Xt) (f:Func) (im:Xr):aL:=(((eN ⟨n,k⟩ (f.body.getD .skip)).getD .skip).kv im).1
def ch (x:aL) {c:aL} (h:x=c:=by
    conv=>lhs;reduce):aL:=c
end Go.cM
