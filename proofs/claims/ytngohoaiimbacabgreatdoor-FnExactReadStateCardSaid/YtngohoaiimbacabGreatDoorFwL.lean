/- Part of a proof that a law returns true for every input. No condition. -/
import Derived.Test.YtngohoaiimbacabGreatDoorFwK
namespace Go.c_
open List Option Go.IntKind Nat Or
theorem rJ {α:Type} {xs:List α} {n:Nat} {x:α} (h:bh xs (n:Int)=some x):xs[n]? =some x:=by simpa using cq h
theorem E8 {α:Type} {h:Decidable True} (t e:α): @ite α True h t e=t:=if_pos trivial
theorem E9 {α:Type} {h:Decidable False} (t e:α): @ite α False h t e=e:=if_neg id
theorem E_ {α:Type} [BEq α] [ReflBEq α] (a:α):(a==a)=true:=BEq.rfl
theorem MR {α:Type} (a b:α):(a≠b)=¬(a=b):=rfl
theorem MS:I.owner .hole=none/\(∀b,I.owner (.bool b)=none)/\I.owner .fw=none/\(∀k n,I.owner (.int k n)=none)/\(∀x,I.owner (.str x)=none)/\I.owner .dr=none/\I.owner .bf=none/\(∀x,I.owner (.slice x)=none)/\(∀n x,I.owner (.ao n x)=none)/\
  (∀x,I.owner (.ref x)=none)/\(∀x,I.owner (.a1 x)=none)/\(∀x,I.owner (.agg x)=none)/\(∀x,I.owner (.tuple x)=none)/\(∀f c,I.owner (.fn f c)=none)/\(∀x q,I.owner (.h x q)=some x):=
 ⟨rfl,λ_=>rfl,rfl,λ_ _=>rfl,λ_=>rfl,rfl,rfl,λ_=>rfl,λ_ _=>rfl,λ_=>rfl,λ_=>rfl,λ_=>rfl,λ_=>rfl,λ_ _=>rfl,λ_ _=>rfl⟩
theorem MT:(¬False)=True:=not_false_eq_true
theorem MU:(¬True)=False:=not_true_eq_false
theorem MV:∀a b:Nat,(some a=some b)=(a=b):=λ_ _=>propext ⟨λh=>some.inj h,λh=>congrArg some h⟩
theorem MW:(∀n,num n []=[])/\(∀n a as,num n (a::as)=(n,a)::num (n+1) as):=⟨λ_=>rfl,λ_ _ _=>rfl⟩
theorem MX:∀s1:aw,cP (some s1)=some (.hole,s1):=λ_=>rfl
theorem Fa:(∀t o,o4 t (.dK o)= .h t [])/\(∀(l:ahA) t o,fin (ax l) (some t) (.dK o)=ax ((t,.dK o)::qm t l))/\(∀o,I.plain (.dK o)=false)/\(∀t o,cE t (.dK o)= .dK o)/\(∀t o,b6 t (.dK o)= .dK o)/\
  (∀o,I.cS (.dK o)= .hole)/\(∀o,I.wd (.dK o)=1)/\(∀o,I.gi (.dK o)=true)/\(∀a b,rj (.dK a) (.dK b)=true)/\(∀s x q d o,ct.ir s ⟨.h x q,true,d,.dK o⟩=da (lK x s) x (I.put q (.dK o) (s x)))/\(∀o,I.U (.dK o)=[])/\(∀o,I.tree (.dK o)=true)/\(∀a b n m z,gg.ok ⟨.map a b,n,m,z⟩=true)/\(∀a b n m z,gg.flat ⟨.map a b,n,m,z⟩=true):=
 ⟨λ_ _=>rfl,λl t o=>by simp only[fin,I.plain,Bool.false_eq_true,if_false,Eu,xh],λ_=>rfl,λ_ _=>by unfold cE;rfl,λ_ _=>by unfold b6;rfl,λ_=>by simp only[I.cS],λ_=>by simp only[I.wd],λ_=>rfl,λ_ _=>rfl,λ_ _ _ _ _=>by simp[ct.ir],λ_=>by simp only[I.U],λ_=>rfl,λ_ _ _ _ _=>rfl,λ_ _ _ _ _=>rfl⟩
def Ve:=PLift.up (af Fa<|af MW<|af MX<|af MV<|af MS<|af MT<|af MU<|af @E8 (af @E9 (af @E_ (af @MR T4.down))))
def Vf:=PLift.up (af Fa<|af MW<|af MX<|af MV<|af MS<|af MT<|af MU<|af @E8 (af @E9 (af @E_ (af @MR xq.down))))
def Vg:=PLift.up (af Fa<|af @E_<|af @E8 (af @E9 T5.down))
def s9 (l:ahw):ahw:=l.foldr (λx acc=>if acc.contains x then acc else x::acc) []
theorem MY {x:Nat}:∀{l:ahw},x∈s9 l↔x∈l
 |[]=>Iff.rfl
 |y::l=>by
  have ih:=MY (x:=x) (l:=l);have e:s9 (y::l)=if(s9 l).contains y then s9 l else y::s9 l:=rfl;rw[e];split
  .rename_i h;have bc:y∈s9 l:=by simpa using h
   constructor
   .intro ar;exact mem_cons_of_mem _ (ih.1 ar)
   .intro ar;rcases mem_cons.1 ar with rfl|ar
    .exact bc
    .exact ih.2 ar
  .simp only[mem_cons,ih]
def Fb:ahu->ahu->ahu
 |done,[]=>done
 |done,a::r=>Fb (done++[s9 (a++a.flatMap λe=>(done[e]?).getD [])]) r
def Vh (ew:ahu):ahu:=Fb [] ew
def Fe (c d:ahu):Prop:=c.length=d.length/\∀(i x:Nat),x∈(c[i]?).getD []↔x∈(d[i]?).getD []
theorem MZ:∀(r c d:ahu),Fe c d->Fe (Fb c r) (xk d r)
 |[],c,d,h=>h
 |a::r,c,d,h=>by
  refine MZ r _ _ ⟨by simp[h.1],λi x=>?_⟩;rcases Nat.lt_trichotomy i c.length with ak|ak|ak
  .rw[getElem?_append_left ak,getElem?_append_left (by rw[<-h.1];exact ak)];exact h.2 i x
  .rw[getElem?_append_right (by omega),getElem?_append_right (by rw[<-h.1];omega),ak,Nat.sub_self,h.1,Nat.sub_self];simp only[getElem?_cons_zero,getD_some,MY,mem_append,mem_flatMap];constructor
   .rintro(ar|⟨e,he,ar⟩)
    .exact .inl ar
    .exact .inr ⟨e,he,(h.2 e x).1 ar⟩
   .rintro(ar|⟨e,he,ar⟩)
    .exact .inl ar
    .exact .inr ⟨e,he,(h.2 e x).2 ar⟩
  .rw[getElem?_eq_none (by simp;omega),getElem?_eq_none (by simp[<-h.1];omega)]
theorem M0 {c d:ahu} (h:Fe c d):∀(az:List e8) (j:Nat) (es:List (Nat×e8)),kf c j es az=kf d j es az
 |[],_,_=>rfl
 |f::az,j,es=>by
  simp only[kf];rw[M0 h az];congr 2;funext e;congr 1;rw[Bool.eq_iff_iff];simp only[contains_iff_mem];exact h.2 j e.1
theorem jI {ew:ahu} {j:Nat} {es:List (Nat×e8)} {az:List e8} (h:kf (Vh ew) j es az=true):kf (nO ew) j es az=true:=by
 exact(M0 (MZ ew [] [] ⟨rfl,λ_ _=>Iff.rfl⟩) az j es).symm.trans h
abbrev ro (d:Nat) (bG:dQ):b7:=⟨some d,bG,none⟩
abbrev bT (d x:Nat):b7:=ro d (.gC (.t x))
abbrev dw (d x:Nat):b7:=ro d (.kc (.t x))
abbrev dM (d T x:Nat):b7:=ro d (.e3 T (.t x))
abbrev ga (d T x k:Nat):b7:=ro d (.gW T (.t x) k)
abbrev pw (d T x i:Nat):b7:=ro d (.iz T (.t x) (.t i))
abbrev px (d T x:Nat):b7:=ro d (.len T (.t x))
abbrev Vi (d x:Nat):b7:=ro d (.kz (.t x))
abbrev nd (d:Nat) (o:BinOp) (T x y:Nat):b7:=ro d (.el o T (.t x) (.t y))
abbrev gl (d:Nat) (o:BinOp) (T x:Nat) (n:Int):b7:=ro d (.el o T (.t x) (.c (.int .i64 n)))
abbrev Ff (d:Nat) (n:Int):b7:=ro d (.gC (.c (.int .i64 n)))
abbrev hX (d:Nat) (n:Int):b7:=ro d (.kc (.c (.int .i64 n)))
abbrev hz (d:Nat) (b:Bool):b7:=ro d (.kc (.c (.bool b)))
abbrev mG (d:Nat):b7:=ro d (.kc (.c .bf))
abbrev uZ (d T:Nat):b7:=ro d (.ka T)
abbrev kI (d g a:Nat):b7:=ro d (.call (.f g) [.t a])
abbrev lu (d g a b:Nat):b7:=ro d (.call (.f g) [.t a,.t b])
abbrev mH (d x k:Nat):b7:=ro d (.ex (.t x) k)
abbrev nR (d x:Nat):b7:=ro d (.un .not (.t x))
abbrev AH (d T x:Nat):b7:=ro d (.f_ T 1 [(0,.t x)])
abbrev Fg (d T cQ x y:Nat):b7:=ro d (.app T cQ (.t x) (.t y))
abbrev qu (T x y:Nat):b7:=⟨none,.iA T (.t x) (.t y),none⟩
abbrev M1 (d A B x:Nat):b7:=ro d (.iD A B (.t x))
theorem aX.Fh {C:bW} (bk:C.eF) {f:FuncId} {fn:Func} {c:Code} {cX:aG} {fx:ahw} {as outs:ahB} {r:I} (eC:List ResultVar) (l:ahA) (bd:C.P.funcs[f]? =some fn) (R:fn.body=some c)
  (jX:(fn.name== "runtime.NumGoroutine")=false) (U:eQ ⟨fn.ntmps,fx⟩ c=some cX.strip) (aU:as.length<=fn.ntmps) (gp:fn.results.toList=eC) (hl:num 0 as=l)
  (h:∀Q:Exit->aw->Prop,(∀s,dR (Ends C fx eC r outs) s->Q .ret s)->(∀s,dR (Ends C fx eC r outs) s->Q .normal s)->a_ C cX Q (ax l)) (an:cX.plain=true:=by kernel_rfl):aX C f as r outs:=by
 subst gp hl;exact aX.TN bk bd R jX U aU h an
theorem mf.Fh {C:bW} (bk:C.eF) {f:FuncId} {fn:Func} {c:Code} {cX:aG} {fx:ahw} {as outs:ahB} {r:I} {k m:Nat} (eC:List ResultVar) (l:ahA) (bd:C.P.funcs[f]? =some fn) (R:fn.body=some c)
  (jX:(fn.name== "runtime.NumGoroutine")=false) (U:eQ ⟨fn.ntmps,fx⟩ c=some cX.strip) (aU:as.length<=fn.ntmps) (aq:cX.mC (AD C f fx as.length m k)) (gp:fn.results.toList=eC) (hl:num 0 as=l)
  (h:∀Q:Exit->aw->Prop,(∀s,dR (Ends C fx eC r outs) s->Q .ret s)->(∀s,dR (Ends C fx eC r outs) s->Q .normal s)->a_ C cX Q (ax l)):mf C f m k as r outs:=by
 subst gp hl;exact mf.of_wp bk bd R jX U aU aq h
theorem aX.Vj {C:bW} (bk:C.eF) {f:FuncId} {fn:Func} {c:Code} {cX:aG} {fx:ahw} {as outs:ahB} {r:I} (eC:List ResultVar) (l:ahA) (bd:C.P.funcs[f]? =some fn) (R:fn.body=some c)
  (jX:(fn.name== "runtime.NumGoroutine")=false) (U:eQ ⟨fn.ntmps,fx⟩ c=some cX.strip) (aU:as.length<=fn.ntmps) (aq:cX.mC (xy C)) (gp:fn.results.toList=eC) (hl:num 0 as=l)
  (h:∀Q:Exit->aw->Prop,(∀s,dR (Ends C fx eC r outs) s->Q .ret s)->(∀s,dR (Ends C fx eC r outs) s->Q .normal s)->a_ C cX Q (ax l)):aX C f as r outs:=by
 subst gp hl;exact aX.Vc bk bd R jX U aU aq h
theorem gb {b:Bool} (h:(!b)=true):b=false:=by cases b<;>first|rfl|cases h
theorem bC {b:Bool} (h:(!b)=false):b=true:=by cases b<;>first|rfl|cases h
section
variable {C:bW} {s:aw} {l:ahA} {Q:Exit->aw->Prop}
theorem kZ {fx:ahw} {eC:List ResultVar} {r:I} (ds:ahB) (ad:r=Ap ds:=by cases h7 (by assumption);rfl) (ab:eC.map (ow C s)=ds.map some:=by rfl) (aC:(eC.map iZ).Nodup:=by decide):Ends C fx eC r [] s:=
 nP ds ab ad aC TO
theorem dk {fx:ahw} {eC:List ResultVar} {r:I} (k:∀s,dR (Ends C fx eC r []) s->Q .ret s) (ds:ahB) (ad:r=Ap ds:=by cases h7 (by assumption);rfl) (ab:eC.map (ow C s)=ds.map some:=by rfl) (aC:(eC.map iZ).Nodup:=by decide):a_ C .ret Q s:=
 hV (k _ (.inl (kZ ds ad ab aC)))
theorem aE {jS:aw->Prop} {a b:aG} (xA:∀s,jS s->Q .ret s) (h:∀ed:Exit->aw->Prop,(∀s,dR (a_ C b Q) s->ed .normal s)->(∀s,jS s->ed .ret s)->(∀i s,Q (.exit i) s->ed (.exit i) s)->a_ C a ed s):a_ C (.seq a b) Q s:=
 TK λed n q x=>h ed n (λs U=>q s (xA s U)) x
theorem bo {jS:aw->Prop} {id:Nat} {b:aG} (xA:∀s,jS s->Q .ret s) (h:∀ed:Exit->aw->Prop,(∀s,Q .normal s->ed .normal s)->(∀s,jS s->ed .ret s)->(∀s,Q .normal s->ed (.exit id) s)->(∀i s,i≠id->Q (.exit i) s->ed (.exit i) s)->a_ C b ed s):a_ C (.block id b) Q s:=
 TL λed n q b x=>h ed n (λs U=>q s (xA s U)) b x
theorem c6 {jS:aw->Prop} {b:aG} (xA:∀s,jS s->Q .ret s) (h:∀ed:Exit->aw->Prop,(∀s,dR (cR C b Q) s->ed .normal s)->(∀s,jS s->ed .ret s)->(∀i s,Q (.exit i) s->ed (.exit i) s)->a_ C b ed s):cR C b Q s:=
 TM λed n q x=>h ed n (λs U=>q s (xA s U)) x
theorem dp {β:Type} {f:Nat->Option β} {v:β} {b:aG} {cd:ahA} (h:ca f=some v) (k:∀n,f n=some v->cR C b Q (ax cd)) (hw:cd.map (·.2)=cd.map (λp=>s p.1):=by rfl):a_ C (.loop b) Q s:=
 let⟨n,aU⟩:=p6 h
 ry (.inr ⟨cd,bL hw,k n aU⟩)
theorem aL {β:Type} {c:bb} {t e:aG} {b:Bool} {x y:Option β} {r:β} (h:cond b x y=some r) (ab:b=true->x=some r->a_ C t Q s) (ad:b=false->y=some r->a_ C e Q s) (ai:bj s c= .bool b:=by rfl):a_ C (.cond c t e) Q s:=by
 rcases eg h with⟨rfl,h⟩|⟨rfl,h⟩
 .exact hU ai (ab rfl h)
 .exact qo ai (ad rfl h)
end
def aG.mg:aG->ahu->aG×ahu
 | .fq r _,k::jZ=>(.fq r (some k),jZ)
 | .iY r a _,k::jZ=>(.iY r a (some k),jZ)
 | .seq a b,jZ=>(.seq (a.mg jZ).1 (b.mg (a.mg jZ).2).1,(b.mg (a.mg jZ).2).2)
 | .cond c a b,jZ=>(.cond c (a.mg jZ).1 (b.mg (a.mg jZ).2).1,(b.mg (a.mg jZ).2).2)
 | .block i a,jZ=>(.block i (a.mg jZ).1,(a.mg jZ).2)
 | .loop a,jZ=>(.loop (a.mg jZ).1,(a.mg jZ).2)
 |c,jZ=>(c,jZ)
def bH (n:Nat) (k:ahw) (f:Func) (jZ:ahu):aG:=(((eQ ⟨n,k⟩ (f.body.getD .skip)).getD .skip).mg jZ).1
def bI (x:aG) {c:aG} (h:x=c:=by
    conv=>lhs;reduce):aG:=c
end Go.c_
