/- Part of a proof that a law returns true for every input. No condition. -/
import Derived.Test.YteloniioljdceaaGreatDoorFwK
namespace Go.ca
open List Option Nat Or
theorem o6 {α:Type} {xs:List α} {n:Nat} {x:α} (h:cj xs (n:Int)=some x):xs[n]? =some x:=by simpa using gZ h
theorem x_ {α:Type} {h:Decidable True} (t e:α): @ite α True h t e=t:=if_pos trivial
theorem ya {α:Type} {h:Decidable False} (t e:α): @ite α False h t e=e:=if_neg id
theorem yb {α:Type} [BEq α] [ReflBEq α] (a:α):(a==a)=true:=BEq.rfl
theorem DA {α:Type} (a b:α):(a≠b)=¬(a=b):=rfl
theorem DB:I.owner .hole=none/\(∀b,I.owner (.bool b)=none)/\I.owner .dB=none/\(∀k n,I.owner (.int k n)=none)/\(∀x,I.owner (.str x)=none)/\I.owner .cu=none/\I.owner .bz=none/\(∀x,I.owner (.slice x)=none)/\(∀n x,I.owner (.aE n x)=none)/\
  (∀x,I.owner (.ref x)=none)/\(∀x,I.owner (.bC x)=none)/\(∀x,I.owner (.agg x)=none)/\(∀x,I.owner (.tuple x)=none)/\(∀f c,I.owner (.fn f c)=none)/\(∀x q,I.owner (.h x q)=some x):=
 ⟨rfl,λ_=>rfl,rfl,λ_ _=>rfl,λ_=>rfl,rfl,rfl,λ_=>rfl,λ_ _=>rfl,λ_=>rfl,λ_=>rfl,λ_=>rfl,λ_=>rfl,λ_ _=>rfl,λ_ _=>rfl⟩
theorem DC:(¬False)=True:=not_false_eq_true
theorem DD:(¬True)=False:=not_true_eq_false
theorem DE:∀a b:Nat,(some a=some b)=(a=b):=λ_ _=>propext ⟨λh=>some.inj h,λh=>congrArg some h⟩
theorem DF:(∀n,num n []=[])/\(∀n a as,num n (a::as)=(n,a)::num (n+1) as):=⟨λ_=>rfl,λ_ _ _=>rfl⟩
theorem DG:∀s1:aj,cO (some s1)=some (.hole,s1):=λ_=>rfl
theorem DH {k b5:IntKind} {b m:Int} (h:¬b<0) (hm:2^(min b.toNat k.bits)=m):∀a,fl .shl k a b5 b=some (.int k (k.wrap (a*m))):=λ_=>hm▸J9 h
theorem yc:(∀t o,mr t (.cf o)= .h t [])/\(∀(l:RK) t o,fin (au l) (some t) (.cf o)=au ((t,.cf o)::mG t l))/\(∀o,I.plain (.cf o)=false)/\(∀t o,bG t (.cf o)= .cf o)/\(∀t o,bm t (.cf o)= .cf o)/\
  (∀o,I.bU (.cf o)= .hole)/\(∀o,I.wd (.cf o)=1)/\(∀o,I.ed (.cf o)=true)/\(∀a b,nH (.cf a) (.cf b)=true)/\(∀s x q d o,bB.fv s ⟨.h x q,true,d,.cf o⟩=cd (im x s) x (I.put q (.cf o) (s x)))/\(∀o,I.R (.cf o)=[])/\(∀o,I.tree (.cf o)=true)/\(∀a b n m z,ea.ok ⟨.map a b,n,m,z⟩=true)/\(∀a b n m z,ea.flat ⟨.map a b,n,m,z⟩=true):=
 ⟨λ_ _=>rfl,λl t o=>by simp only[fin,I.plain,Bool.false_eq_true,if_false,xL,uo],λ_=>rfl,λ_ _=>by unfold bG;rfl,λ_ _=>by unfold bm;rfl,λ_=>by simp only[I.bU],λ_=>by simp only[I.wd],λ_=>rfl,λ_ _=>rfl,λ_ _ _ _ _=>by simp[bB.fv],λ_=>by simp only[I.R],λ_=>rfl,λ_ _ _ _ _=>rfl,λ_ _ _ _ _=>rfl⟩
def K9:=PLift.up (ai yc<|ai DF<|ai DG<|ai DE<|ai DB<|ai DC<|ai DD<|ai @x_ (ai @ya (ai @yb (ai @DA o4.down))))
def K_:=PLift.up (ai yc<|ai DF<|ai DG<|ai DE<|ai DB<|ai DC<|ai DD<|ai @x_ (ai @ya (ai @yb (ai @DA gF.down))))
def La:=PLift.up (ai yc<|ai @yb<|ai @x_ (ai @ya Kj.down))
def o7 (l:RG):RG:=l.foldr (λx acc=>if acc.contains x then acc else x::acc) []
theorem DI {x:Nat}:∀{l:RG},x∈o7 l↔x∈l
 |[]=>Iff.rfl
 |y::l=>by
  have ih:=DI (x:=x) (l:=l);have e:o7 (y::l)=if(o7 l).contains y then o7 l else y::o7 l:=rfl;rw[e];split
  .rename_i h;have aN:y∈o7 l:=by simpa using h
   constructor
   .intro ak;exact mem_cons_of_mem _ (ih.1 ak)
   .intro ak;rcases mem_cons.1 ak with rfl|ak
    .exact aN
    .exact ih.2 ak
  .simp only[mem_cons,ih]
def yd:RE->RE->RE
 |done,[]=>done
 |done,a::r=>yd (done++[o7 (a++a.flatMap λe=>(done[e]?).getD [])]) r
def Lb (dn:RE):RE:=yd [] dn
def ye (c d:RE):Prop:=c.length=d.length/\∀(i x:Nat),x∈(c[i]?).getD []↔x∈(d[i]?).getD []
theorem DJ:∀(r c d:RE),ye c d->ye (yd c r) (r7 d r)
 |[],c,d,h=>h
 |a::r,c,d,h=>by
  refine DJ r _ _ ⟨by simp[h.1],λi x=>?_⟩;rcases Nat.lt_trichotomy i c.length with aC|aC|aC
  .rw[getElem?_append_left aC,getElem?_append_left (by rw[<-h.1];exact aC)];exact h.2 i x
  .rw[getElem?_append_right (by omega),getElem?_append_right (by rw[<-h.1];omega),aC,Nat.sub_self,h.1,Nat.sub_self];simp only[getElem?_cons_zero,getD_some,DI,mem_append,mem_flatMap];constructor
   .rintro(ak|⟨e,he,ak⟩)
    .exact .inl ak
    .exact .inr ⟨e,he,(h.2 e x).1 ak⟩
   .rintro(ak|⟨e,he,ak⟩)
    .exact .inl ak
    .exact .inr ⟨e,he,(h.2 e x).2 ak⟩
  .rw[getElem?_eq_none (by simp;omega),getElem?_eq_none (by simp[<-h.1];omega)]
theorem DK {c d:RE} (h:ye c d):∀(al:List dp) (j:Nat) (es:List (Nat×dp)),h8 c j es al=h8 d j es al
 |[],_,_=>rfl
 |f::al,j,es=>by
  simp only[h8];rw[DK h al];congr 2;funext e;congr 1;rw[Bool.eq_iff_iff];simp only[contains_iff_mem];exact h.2 j e.1
theorem sk {dn:RE} {j:Nat} {es:List (Nat×dp)} {al:List dp} (h:h8 (Lb dn) j es al=true):h8 (mJ dn) j es al=true:=by
 exact(DK (DJ dn [] [] ⟨rfl,λ_ _=>Iff.rfl⟩) al j es).symm.trans h
abbrev ro (d:Nat) (a6:cw):bs:=⟨some d,a6,none⟩
abbrev cb (d x:Nat):bs:=ro d (.jk (.t x))
abbrev dz (d x:Nat):bs:=ro d (.fI (.t x))
abbrev i6 (d T x:Nat):bs:=ro d (.eL T (.t x))
abbrev n6 (d T x k:Nat):bs:=ro d (.hC T (.t x) k)
abbrev Lc (d T x i:Nat):bs:=ro d (.fE T (.t x) (.t i))
abbrev uG (d T x:Nat):bs:=ro d (.len T (.t x))
abbrev uH (d x:Nat):bs:=ro d (.hG (.t x))
abbrev n7 (d:Nat) (o:BinOp) (T x y:Nat):bs:=ro d (.cW o T (.t x) (.t y))
abbrev iC (d:Nat) (o:BinOp) (T x:Nat) (n:Int):bs:=ro d (.cW o T (.t x) (.c (.int .i64 n)))
abbrev DL (d:Nat) (n:Int):bs:=ro d (.fI (.c (.int .i64 n)))
abbrev ju (d:Nat) (b:Bool):bs:=ro d (.fI (.c (.bool b)))
abbrev uI (d:Nat):bs:=ro d (.fI (.c .bz))
abbrev DM (d T:Nat):bs:=ro d (.iR T)
abbrev lf (d g a:Nat):bs:=ro d (.call (.f g) [.t a])
abbrev yf (d g a b:Nat):bs:=ro d (.call (.f g) [.t a,.t b])
abbrev mN (d x k:Nat):bs:=ro d (.ex (.t x) k)
abbrev uJ (d x:Nat):bs:=ro d (.un .not (.t x))
abbrev yg (d T x:Nat):bs:=ro d (.dH T 1 [(0,.t x)])
abbrev yh (d T bQ x y:Nat):bs:=ro d (.app T bQ (.t x) (.t y))
abbrev uK (T x y:Nat):bs:=⟨none,.gS T (.t x) (.t y),none⟩
abbrev uL (d A B x:Nat):bs:=ro d (.fG A B (.t x))
theorem bf.DN {C:bl} (aS:C.cS) {f:FuncId} {fn:Func} {c:Code} {c_:aK} {fx:RG} {as outs:RL} {r:I} (cT:List ResultVar) (l:RK) (bq:C.P.funcs[f]? =some fn) (J:fn.body=some c)
  (h7:(fn.name== "runtime.NumGoroutine")=false) (R:el ⟨fn.ntmps,fx⟩ c=some c_.strip) (aT:as.length<=fn.ntmps) (eC:fn.results.toList=cT) (hl:num 0 as=l)
  (h:∀Q:Exit->aj->Prop,(∀s,dY (Ends C fx cT r outs) s->Q .ret s)->(∀s,dY (Ends C fx cT r outs) s->Q .normal s)->bd C c_ Q (au l)) (af:c_.plain=true:=by kernel_rfl):bf C f as r outs:=by
 subst eC hl;exact bf.Ke aS bq J h7 R aT h af
theorem mK.DN {C:bl} (aS:C.cS) {f:FuncId} {fn:Func} {c:Code} {c_:aK} {fx:RG} {as outs:RL} {r:I} {k m:Nat} (cT:List ResultVar) (l:RK) (bq:C.P.funcs[f]? =some fn) (J:fn.body=some c)
  (h7:(fn.name== "runtime.NumGoroutine")=false) (R:el ⟨fn.ntmps,fx⟩ c=some c_.strip) (aT:as.length<=fn.ntmps) (ag:c_.lU (x9 C f fx as.length m k)) (eC:fn.results.toList=cT) (hl:num 0 as=l)
  (h:∀Q:Exit->aj->Prop,(∀s,dY (Ends C fx cT r outs) s->Q .ret s)->(∀s,dY (Ends C fx cT r outs) s->Q .normal s)->bd C c_ Q (au l)):mK C f m k as r outs:=by
 subst eC hl;exact mK.of_wp aS bq J h7 R aT ag h
theorem lZ {b:Bool} (h:(!b)=true):b=false:=by cases b<;>first|rfl|cases h
theorem gh {b:Bool} (h:(!b)=false):b=true:=by cases b<;>first|rfl|cases h
section
variable {C:bl} {s:aj} {l:RK} {Q:Exit->aj->Prop}
theorem l0 {fx:RG} {cT:List ResultVar} {r:I} (ds:RL) (ab:r=uz ds:=by cases jc (by assumption);rfl) (U:cT.map (k9 C s)=ds.map some:=by rfl) (ay:(cT.map fW).Nodup:=by decide):Ends C fx cT r [] s:=
 C2 ds U ab ay Kf
theorem cR {fx:RG} {cT:List ResultVar} {r:I} (k:∀s,dY (Ends C fx cT r []) s->Q .ret s) (ds:RL) (ab:r=uz ds:=by cases jc (by assumption);rfl) (U:cT.map (k9 C s)=ds.map some:=by rfl) (ay:(cT.map fW).Nodup:=by decide):bd C .ret Q s:=
 ld (k _ (.inl (l0 ds ab U ay)))
theorem bo {h3:aj->Prop} {a b:aK} (sl:∀s,h3 s->Q .ret s) (h:∀cG:Exit->aj->Prop,(∀s,dY (bd C b Q) s->cG .normal s)->(∀s,h3 s->cG .ret s)->(∀i s,Q (.exit i) s->cG (.exit i) s)->bd C a cG s):bd C (.seq a b) Q s:=
 Kb λcG n q x=>h cG n (λs R=>q s (sl s R)) x
theorem dd {h3:aj->Prop} {id:Nat} {b:aK} (sl:∀s,h3 s->Q .ret s) (h:∀cG:Exit->aj->Prop,(∀s,Q .normal s->cG .normal s)->(∀s,h3 s->cG .ret s)->(∀s,Q .normal s->cG (.exit id) s)->(∀i s,i≠id->Q (.exit i) s->cG (.exit i) s)->bd C b cG s):bd C (.block id b) Q s:=
 Kc λcG n q b x=>h cG n (λs R=>q s (sl s R)) b x
theorem gi {h3:aj->Prop} {b:aK} (sl:∀s,h3 s->Q .ret s) (h:∀cG:Exit->aj->Prop,(∀s,dY (e1 C b Q) s->cG .normal s)->(∀s,h3 s->cG .ret s)->(∀i s,Q (.exit i) s->cG (.exit i) s)->bd C b cG s):e1 C b Q s:=
 Kd λcG n q x=>h cG n (λs R=>q s (sl s R)) x
theorem gr {β:Type} {f:Nat->Option β} {v:β} {b:aK} {bH:RK} (h:eg f=some v) (k:∀n,f n=some v->e1 C b Q (au bH)) (hw:bH.map (·.2)=bH.map (λp=>s p.1):=by rfl):bd C (.loop b) Q s:=
 let⟨n,aT⟩:=z1 h
 CT (.inr ⟨bH,cU hw,k n aT⟩)
theorem bR {β:Type} {c:aR} {t e:aK} {b:Bool} {x y:Option β} {r:β} (h:cond b x y=some r) (U:b=true->x=some r->bd C t Q s) (ab:b=false->y=some r->bd C e Q s) (ae:aP s c= .bool b:=by rfl):bd C (.cond c t e) Q s:=by
 rcases fP h with⟨rfl,h⟩|⟨rfl,h⟩
 .exact jS ae (U rfl h)
 .exact sd ae (ab rfl h)
end
def aK.i7:aK->RE->aK×RE
 | .dX r _,k::gG=>(.dX r (some k),gG)
 | .hj r a _,k::gG=>(.hj r a (some k),gG)
 | .seq a b,gG=>(.seq (a.i7 gG).1 (b.i7 (a.i7 gG).2).1,(b.i7 (a.i7 gG).2).2)
 | .cond c a b,gG=>(.cond c (a.i7 gG).1 (b.i7 (a.i7 gG).2).1,(b.i7 (a.i7 gG).2).2)
 | .block i a,gG=>(.block i (a.i7 gG).1,(a.i7 gG).2)
 | .loop a,gG=>(.loop (a.i7 gG).1,(a.i7 gG).2)
 |c,gG=>(c,gG)
def dq (n:Nat) (k:RG) (f:Func) (gG:RE):aK:=(((el ⟨n,k⟩ (f.body.getD .skip)).getD .skip).i7 gG).1
def dr (x:aK) {c:aK} (h:x=c:=by
    conv=>lhs;reduce):aK:=c
end Go.ca
