/- Part of a proof that a law returns true for every input. No condition. -/
import Derived.Test.YtcmimclaknmnbaaGreatDoorFwK
namespace Go.cC
open List Option Go.IntKind Nat Or
theorem Io {α:Type} {h:Decidable True} (t e:α): @ite α True h t e=t:=if_pos trivial
theorem Ip {α:Type} {h:Decidable False} (t e:α): @ite α False h t e=e:=if_neg id
theorem Iq {α:Type} [BEq α] [ReflBEq α] (a:α):(a==a)=true:=BEq.rfl
theorem Qw {α:Type} (a b:α):(a≠b)=¬(a=b):=rfl
theorem Qx:I.owner .hole=none/\(∀b,I.owner (.bool b)=none)/\I.owner .fj=none/\(∀k n,I.owner (.int k n)=none)/\(∀x,I.owner (.str x)=none)/\I.owner .dq=none/\I.owner .bd=none/\(∀x,I.owner (.slice x)=none)/\(∀n x,I.owner (.ah n x)=none)/\
  (∀x,I.owner (.ref x)=none)/\(∀x,I.owner (.aV x)=none)/\(∀x,I.owner (.agg x)=none)/\(∀x,I.owner (.tuple x)=none)/\(∀f c,I.owner (.fn f c)=none)/\(∀x q,I.owner (.h x q)=some x):=
 ⟨rfl,λ_=>rfl,rfl,λ_ _=>rfl,λ_=>rfl,rfl,rfl,λ_=>rfl,λ_ _=>rfl,λ_=>rfl,λ_=>rfl,λ_=>rfl,λ_=>rfl,λ_ _=>rfl,λ_ _=>rfl⟩
theorem Qy:(¬False)=True:=not_false_eq_true
theorem Qz:(¬True)=False:=not_true_eq_false
theorem QA:∀a b:Nat,(some a=some b)=(a=b):=λ_ _=>propext ⟨λh=>some.inj h,λh=>congrArg some h⟩
theorem QB:(∀n,num n []=[])/\(∀n a as,num n (a::as)=(n,a)::num (n+1) as):=⟨λ_=>rfl,λ_ _ _=>rfl⟩
theorem QC:∀s1:an,dj (some s1)=some (.hole,s1):=λ_=>rfl
theorem Ir:(∀t o,mi t (.cc o)= .h t [])/\(∀(l:anY) t o,fin (aj l) (some t) (.cc o)=aj ((t,.cc o)::qC t l))/\(∀o,I.plain (.cc o)=false)/\(∀t o,cu t (.cc o)= .cc o)/\(∀t o,b4 t (.cc o)= .cc o)/\
  (∀o,I.cJ (.cc o)= .hole)/\(∀o,I.wd (.cc o)=1)/\(∀o,I.ga (.cc o)=true)/\(∀a b,rH (.cc a) (.cc b)=true)/\(∀s x q d o,b6.im s ⟨.h x q,true,d,.cc o⟩=cK (k8 x s) x (I.put q (.cc o) (s x)))/\(∀o,I.U (.cc o)=[])/\(∀o,I.tree (.cc o)=true)/\(∀a b n m z,gr.ok ⟨.map a b,n,m,z⟩=true)/\(∀a b n m z,gr.flat ⟨.map a b,n,m,z⟩=true):=
 ⟨λ_ _=>rfl,λl t o=>by simp only[fin,I.plain,Bool.false_eq_true,if_false,vF,rL],λ_=>rfl,λ_ _=>by unfold cu;rfl,λ_ _=>by unfold b4;rfl,λ_=>by simp only[I.cJ],λ_=>by simp only[I.wd],λ_=>rfl,λ_ _=>rfl,λ_ _ _ _ _=>by simp[b6.im],λ_=>by simp only[I.U],λ_=>rfl,λ_ _ _ _ _=>rfl,λ_ _ _ _ _=>rfl⟩
def aam:=PLift.up (ad Ir<|ad QB<|ad QC<|ad QA<|ad Qx<|ad Qy<|ad Qz<|ad @Io (ad @Ip (ad @Iq (ad @Qw ZN.down))))
def aan:=PLift.up (ad Ir<|ad QB<|ad QC<|ad QA<|ad Qx<|ad Qy<|ad Qz<|ad @Io (ad @Ip (ad @Iq (ad @Qw AW.down))))
def aao:=PLift.up (ad Ir<|ad @Iq<|ad @Io (ad @Ip ZO.down))
def vT (l:anU):anU:=l.foldr (λx acc=>if acc.contains x then acc else x::acc) []
theorem QD {x:Nat}:∀{l:anU},x∈vT l↔x∈l
 |[]=>Iff.rfl
 |y::l=>by
  have ih:=QD (x:=x) (l:=l);have e:vT (y::l)=if(vT l).contains y then vT l else y::vT l:=rfl;rw[e];split
  .rename_i h;have bn:y∈vT l:=by simpa using h
   constructor
   .intro ag;exact mem_cons_of_mem _ (ih.1 ag)
   .intro ag;rcases mem_cons.1 ag with rfl|ag
    .exact bn
    .exact ih.2 ag
  .simp only[mem_cons,ih]
def Is:anS->anS->anS
 |done,[]=>done
 |done,a::r=>Is (done++[vT (a++a.flatMap λe=>(done[e]?).getD [])]) r
def aap (e6:anS):anS:=Is [] e6
def It (c d:anS):Prop:=c.length=d.length/\∀(i x:Nat),x∈(c[i]?).getD []↔x∈(d[i]?).getD []
theorem QE:∀(r c d:anS),It c d->It (Is c r) (AM d r)
 |[],c,d,h=>h
 |a::r,c,d,h=>by
  refine QE r _ _ ⟨by simp[h.1],λi x=>?_⟩;rcases Nat.lt_trichotomy i c.length with ak|ak|ak
  .rw[getElem?_append_left ak,getElem?_append_left (by rw[<-h.1];exact ak)];exact h.2 i x
  .rw[getElem?_append_right (by omega),getElem?_append_right (by rw[<-h.1];omega),ak,Nat.sub_self,h.1,Nat.sub_self];simp only[getElem?_cons_zero,getD_some,QD,mem_append,mem_flatMap];constructor
   .rintro(ag|⟨e,he,ag⟩)
    .exact .inl ag
    .exact .inr ⟨e,he,(h.2 e x).1 ag⟩
   .rintro(ag|⟨e,he,ag⟩)
    .exact .inl ag
    .exact .inr ⟨e,he,(h.2 e x).2 ag⟩
  .rw[getElem?_eq_none (by simp;omega),getElem?_eq_none (by simp[<-h.1];omega)]
theorem QF {c d:anS} (h:It c d):∀(aC:List e7) (j:Nat) (es:List (Nat×e7)),lO c j es aC=lO d j es aC
 |[],_,_=>rfl
 |f::aC,j,es=>by
  simp only[lO];rw[QF h aC];congr 2;funext e;congr 1;rw[Bool.eq_iff_iff];simp only[contains_iff_mem];exact h.2 j e.1
theorem pV {e6:anS} {j:Nat} {es:List (Nat×e7)} {aC:List e7} (h:lO (aap e6) j es aC=true):lO (rP e6) j es aC=true:=by
 exact(QF (QE e6 [] [] ⟨rfl,λ_ _=>Iff.rfl⟩) aC j es).symm.trans h
abbrev ro (d:Nat) (bz:dK):bt:=⟨some d,bz,none⟩
abbrev bj (d x:Nat):bt:=ro d (.fC (.t x))
abbrev cT (d x:Nat):bt:=ro d (.iB (.t x))
abbrev eX (d T x:Nat):bt:=ro d (.ld T (.t x))
abbrev iD (d T x k:Nat):bt:=ro d (.hq T (.t x) k)
abbrev vU (d T x i:Nat):bt:=ro d (.jb T (.t x) (.t i))
abbrev lR (d T x:Nat):bt:=ro d (.len T (.t x))
abbrev o_ (d x:Nat):bt:=ro d (.jx (.t x))
abbrev mX (d:Nat) (o:BinOp) (T x y:Nat):bt:=ro d (.ef o T (.t x) (.t y))
abbrev gl (d:Nat) (o:BinOp) (T x:Nat) (n:Int):bt:=ro d (.ef o T (.t x) (.c (.int .i64 n)))
abbrev aaq (d:Nat) (n:Int):bt:=ro d (.fC (.c (.int .i64 n)))
abbrev sS (d:Nat) (n:Int):bt:=ro d (.iB (.c (.int .i64 n)))
abbrev g_ (d:Nat) (b:Bool):bt:=ro d (.iB (.c (.bool b)))
abbrev sT (d:Nat):bt:=ro d (.iB (.c .bd))
abbrev vV (d T:Nat):bt:=ro d (.nw T)
abbrev jZ (d g a:Nat):bt:=ro d (.call (.f g) [.t a])
abbrev iE (d g a b:Nat):bt:=ro d (.call (.f g) [.t a,.t b])
abbrev nJ (d x k:Nat):bt:=ro d (.ex (.t x) k)
abbrev pa (d x:Nat):bt:=ro d (.un .not (.t x))
abbrev A4 (d T x:Nat):bt:=ro d (.ei T 1 [(0,.t x)])
abbrev vW (d T b5 x y:Nat):bt:=ro d (.app T b5 (.t x) (.t y))
abbrev ud (T x y:Nat):bt:=⟨none,.ki T (.t x) (.t y),none⟩
abbrev D2 (d A B x:Nat):bt:=ro d (.je A B (.t x))
theorem aY.QG {C:bx} (bb:C.Ok) {f:FuncId} {fn:Func} {c:Code} {dM:aH} {fx:anU} {as outs:anZ} {r:I} (dY:List ResultVar) (l:anY) (bc:C.P.funcs[f]? =some fn) (R:fn.body=some c)
  (jV:(fn.name== "runtime.NumGoroutine")=false) (U:fh ⟨fn.ntmps,fx⟩ c=some dM.strip) (aN:as.length<=fn.ntmps) (eC:fn.results.toList=dY) (hl:num 0 as=l)
  (h:∀Q:Exit->an->Prop,(∀s,di (Ends C fx dY r outs) s->Q .ret s)->(∀s,di (Ends C fx dY r outs) s->Q .normal s)->bh C dM Q (aj l)) (al:dM.plain=true:=by kernel_rfl):aY C f as r outs:=by
 subst eC hl;exact aY.ZA bb bc R jV U aN h al
theorem sP.QG {C:bx} (bb:C.Ok) {f:FuncId} {fn:Func} {c:Code} {dM:aH} {fx:anU} {as outs:anZ} {r:I} {k m:Nat} (dY:List ResultVar) (l:anY) (bc:C.P.funcs[f]? =some fn) (R:fn.body=some c)
  (jV:(fn.name== "runtime.NumGoroutine")=false) (U:fh ⟨fn.ntmps,fx⟩ c=some dM.strip) (aN:as.length<=fn.ntmps) (hk:dM.lN (Im C f fx as.length m k)) (eC:fn.results.toList=dY) (hl:num 0 as=l)
  (h:∀Q:Exit->an->Prop,(∀s,di (Ends C fx dY r outs) s->Q .ret s)->(∀s,di (Ends C fx dY r outs) s->Q .normal s)->bh C dM Q (aj l)):sP C f m k as r outs:=by
 subst eC hl;exact sP.of_wp bb bc R jV U aN hk h
theorem nK {b:Bool} (h:(!b)=true):b=false:=by cases b<;>first|rfl|cases h
theorem gu {b:Bool} (h:(!b)=false):b=true:=by cases b<;>first|rfl|cases h
theorem QH {α:Type} {sz:Nat} {o:Bool×α->I} {u:α->I} (h:(o∘λx=>(false,x))=u) (e:List α):eP (.ah sz (e.map u)) (.ah sz ((e.map λx=>(false,x)).map o)):=by
 rw[List.map_map,h];exact .refl _
section
variable {C:bx} {s:an} {l:anY} {Q:Exit->an->Prop}
theorem lS {fx:anU} {dY:List ResultVar} {r:I} (ds:anZ) (ab:r=DH ds:=by cases gh (by assumption);rfl) (h1:dY.map (qB C s)=ds.map some:=by rfl) (ay:(dY.map jE).Nodup:=by decide):Ends C fx dY r [] s:=
 mw ds h1 ab ay ZB
theorem cE {fx:anU} {dY:List ResultVar} {r:I} (k:∀s,di (Ends C fx dY r []) s->Q .ret s) (ds:anZ) (ab:r=DH ds:=by cases gh (by assumption);rfl) (h1:dY.map (qB C s)=ds.map some:=by rfl) (ay:(dY.map jE).Nodup:=by decide):bh C .ret Q s:=
 hT (k _ (.inl (lS ds ab h1 ay)))
theorem aK {er:an->Prop} {a b:aH} (A5:∀s,er s->Q .ret s) (h:∀ee:Exit->an->Prop,(∀s,di (bh C b Q) s->ee .normal s)->(∀s,er s->ee .ret s)->(∀i s,Q (.exit i) s->ee (.exit i) s)->bh C a ee s):bh C (.seq a b) Q s:=
 Zw λee n q x=>h ee n (λs U=>q s (A5 s U)) x
theorem bA {er:an->Prop} {id:Nat} {b:aH} (A5:∀s,er s->Q .ret s) (h:∀ee:Exit->an->Prop,(∀s,Q .normal s->ee .normal s)->(∀s,er s->ee .ret s)->(∀s,Q .normal s->ee (.exit id) s)->(∀i s,i≠id->Q (.exit i) s->ee (.exit i) s)->bh C b ee s):bh C (.block id b) Q s:=
 Zy λee n q b x=>h ee n (λs U=>q s (A5 s U)) b x
theorem db {er:an->Prop} {b:aH} (A5:∀s,er s->Q .ret s) (h:∀ee:Exit->an->Prop,(∀s,di (cU C b Q) s->ee .normal s)->(∀s,er s->ee .ret s)->(∀i s,Q (.exit i) s->ee (.exit i) s)->bh C b ee s):cU C b Q s:=
 Zz λee n q x=>h ee n (λs U=>q s (A5 s U)) x
theorem dH {β:Type} {f:Nat->Option β} {v:β} {b:aH} {bV:anY} (h:lim f=some v) (k:∀n,f n=some v->cU C b Q (aj bV)) (hw:bV.map (·.2)=bV.map (λp=>s p.1):=by rfl):bh C (.loop b) Q s:=
 let⟨n,aN⟩:=oR h
 rQ (.inr ⟨bV,b9 hw,k n aN⟩)
theorem aU {β:Type} {c:aX} {t e:aH} {b:Bool} {x y:Option β} {r:β} (h:cond b x y=some r) (h1:b=true->x=some r->bh C t Q s) (ab:b=false->y=some r->bh C e Q s) (ai:a6 s c= .bool b:=by rfl):bh C (.cond c t e) Q s:=by
 rcases fH h with⟨rfl,h⟩|⟨rfl,h⟩
 .exact ka ai (h1 rfl h)
 .exact sO ai (ab rfl h)
end
def aH.nL:aH->anS->aH×anS
 | .ew r _,k::ks=>(.ew r (some k),ks)
 | .kp r a _,k::ks=>(.kp r a (some k),ks)
 | .seq a b,ks=>(.seq (a.nL ks).1 (b.nL (a.nL ks).2).1,(b.nL (a.nL ks).2).2)
 | .cond c a b,ks=>(.cond c (a.nL ks).1 (b.nL (a.nL ks).2).1,(b.nL (a.nL ks).2).2)
 | .block i a,ks=>(.block i (a.nL ks).1,(a.nL ks).2)
 | .loop a,ks=>(.loop (a.nL ks).1,(a.nL ks).2)
 |c,ks=>(c,ks)
def cj (n:Nat) (k:anU) (f:Func) (ks:anS):aH:=(((fh ⟨n,k⟩ (f.body.getD .skip)).getD .skip).nL ks).1
def ck (x:aH) {c:aH} (h:x=c:=by
    conv=>lhs;reduce):aH:=c
end Go.cC
