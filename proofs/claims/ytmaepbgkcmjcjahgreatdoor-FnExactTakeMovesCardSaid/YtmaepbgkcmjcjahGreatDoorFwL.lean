/- Part of a proof that a law returns true for every input. No condition. -/
import Derived.Test.YtmaepbgkcmjcjahGreatDoorFwK
namespace Go.ei
open List Option Go.IntKind Nat Or
theorem OS {α:Type} {h:Decidable True} (t e:α): @ite α True h t e=t:=if_pos trivial
theorem OT {α:Type} {h:Decidable False} (t e:α): @ite α False h t e=e:=if_neg id
theorem OU {α:Type} [BEq α] [ReflBEq α] (a:α):(a==a)=true:=BEq.rfl
theorem Yf {α:Type} (a b:α):(a≠b)=¬(a=b):=rfl
theorem Yg:I.owner .hole=none/\(∀b,I.owner (.bool b)=none)/\I.owner .gu=none/\(∀k n,I.owner (.int k n)=none)/\(∀x,I.owner (.str x)=none)/\I.owner .ez=none/\I.owner .bd=none/\(∀x,I.owner (.slice x)=none)/\(∀n x,I.owner (.ae n x)=none)/\
  (∀x,I.owner (.ref x)=none)/\(∀x,I.owner (.aM x)=none)/\(∀x,I.owner (.agg x)=none)/\(∀x,I.owner (.tuple x)=none)/\(∀f c,I.owner (.fn f c)=none)/\(∀x q,I.owner (.h x q)=some x):=
 ⟨rfl,λ_=>rfl,rfl,λ_ _=>rfl,λ_=>rfl,rfl,rfl,λ_=>rfl,λ_ _=>rfl,λ_=>rfl,λ_=>rfl,λ_=>rfl,λ_=>rfl,λ_ _=>rfl,λ_ _=>rfl⟩
theorem Yh:(¬False)=True:=not_false_eq_true
theorem Yi:(¬True)=False:=not_true_eq_false
theorem Yj:∀a b:Nat,(some a=some b)=(a=b):=λ_ _=>propext ⟨λh=>some.inj h,λh=>congrArg some h⟩
theorem Yk:(∀n,num n []=[])/\(∀n a as,num n (a::as)=(n,a)::num (n+1) as):=⟨λ_=>rfl,λ_ _ _=>rfl⟩
theorem Yl:∀s1:al,dk (some s1)=some (.hole,s1):=λ_=>rfl
theorem OV:(∀t o,uh t (.ck o)= .h t [])/\(∀(l:azj) t o,fin (ar l) (some t) (.ck o)=ar ((t,.ck o)::vY t l))/\(∀o,I.plain (.ck o)=false)/\(∀t o,dL t (.ck o)= .ck o)/\(∀t o,cW t (.ck o)= .ck o)/\
  (∀o,I.ee (.ck o)= .hole)/\(∀o,I.wd (.ck o)=1)/\(∀o,I.hQ (.ck o)=true)/\(∀a b,xP (.ck a) (.ck b)=true)/\(∀s x q d o,dE.kO s ⟨.h x q,true,d,.ck o⟩=el (oU x s) x (I.put q (.ck o) (s x)))/\(∀o,I.aa (.ck o)=[])/\(∀o,I.tree (.ck o)=true)/\(∀a b n m z,hP.ok ⟨.map a b,n,m,z⟩=true)/\(∀a b n m z,hP.flat ⟨.map a b,n,m,z⟩=true):=
 ⟨λ_ _=>rfl,λl t o=>by simp only[fin,I.plain,Bool.false_eq_true,if_false,N7,Fv],λ_=>rfl,λ_ _=>by unfold dL;rfl,λ_ _=>by unfold cW;rfl,λ_=>by simp only[I.ee],λ_=>by simp only[I.wd],λ_=>rfl,λ_ _=>rfl,λ_ _ _ _ _=>by simp[dE.kO],λ_=>by simp only[I.aa],λ_=>rfl,λ_ _ _ _ _=>rfl,λ_ _ _ _ _=>rfl⟩
def ahQ:=PLift.up (R OV<|R Yk<|R Yl<|R Yj<|R Yg<|R Yh<|R Yi<|R @OS (R @OT (R @OU (R @Yf agF.down))))
def ahR:=PLift.up (R OV<|R Yk<|R Yl<|R Yj<|R Yg<|R Yh<|R Yi<|R @OS (R @OT (R @OU (R @Yf FI.down))))
def ahS:=PLift.up (R OV<|R @OU<|R @OS (R @OT agG.down))
def zL (l:azf):azf:=l.foldr (λx acc=>if acc.contains x then acc else x::acc) []
theorem Ym {x:Nat}:∀{l:azf},x∈zL l↔x∈l
 |[]=>Iff.rfl
 |y::l=>by
  have ih:=Ym (x:=x) (l:=l);have e:zL (y::l)=if(zL l).contains y then zL l else y::zL l:=rfl;rw[e];split
  .rename_i h;have bF:y∈zL l:=by simpa using h
   constructor
   .intro aq;exact mem_cons_of_mem _ (ih.1 aq)
   .intro aq;rcases mem_cons.1 aq with rfl|aq
    .exact bF
    .exact ih.2 aq
  .simp only[mem_cons,ih]
def OW:azd->azd->azd
 |done,[]=>done
 |done,a::r=>OW (done++[zL (a++a.flatMap λe=>(done[e]?).getD [])]) r
def ahT (de:azd):azd:=OW [] de
def OX (c d:azd):Prop:=c.length=d.length/\∀(i x:Nat),x∈(c[i]?).getD []↔x∈(d[i]?).getD []
theorem Yn:∀(r c d:azd),OX c d->OX (OW c r) (Fz d r)
 |[],c,d,h=>h
 |a::r,c,d,h=>by
  refine Yn r _ _ ⟨by simp[h.1],λi x=>?_⟩;rcases Nat.lt_trichotomy i c.length with ai|ai|ai
  .rw[getElem?_append_left ai,getElem?_append_left (by rw[<-h.1];exact ai)];exact h.2 i x
  .rw[getElem?_append_right (by omega),getElem?_append_right (by rw[<-h.1];omega),ai,Nat.sub_self,h.1,Nat.sub_self];simp only[getElem?_cons_zero,getD_some,Ym,mem_append,mem_flatMap];constructor
   .rintro(aq|⟨e,he,aq⟩)
    .exact .inl aq
    .exact .inr ⟨e,he,(h.2 e x).1 aq⟩
   .rintro(aq|⟨e,he,aq⟩)
    .exact .inl aq
    .exact .inr ⟨e,he,(h.2 e x).2 aq⟩
  .rw[getElem?_eq_none (by simp;omega),getElem?_eq_none (by simp[<-h.1];omega)]
theorem Yo {c d:azd} (h:OX c d):∀(aG:List fL) (j:Nat) (es:List (Nat×fL)),kF c j es aG=kF d j es aG
 |[],_,_=>rfl
 |f::aG,j,es=>by
  simp only[kF];rw[Yo h aG];congr 2;funext e;congr 1;rw[Bool.eq_iff_iff];simp only[contains_iff_mem];exact h.2 j e.1
theorem hY {de:azd} {j:Nat} {es:List (Nat×fL)} {aG:List fL} (h:kF (ahT de) j es aG=true):kF (nG de) j es aG=true:=by
 exact(Yo (Yn de [] [] ⟨rfl,λ_ _=>Iff.rfl⟩) aG j es).symm.trans h
abbrev ro (d:Nat) (b3:e0):cC:=⟨some d,b3,none⟩
abbrev aJ (d x:Nat):cC:=ro d (.ga (.t x))
abbrev b7 (d x:Nat):cC:=ro d (.hX (.t x))
abbrev cr (d T x:Nat):cC:=ro d (.fV T (.t x))
abbrev dT (d T x k:Nat):cC:=ro d (.h2 T (.t x) k)
abbrev ho (d T x i:Nat):cC:=ro d (.kM T (.t x) (.t i))
abbrev j4 (d T x:Nat):cC:=ro d (.len T (.t x))
abbrev nH (d x:Nat):cC:=ro d (.mC (.t x))
abbrev i1 (d:Nat) (o:BinOp) (T x y:Nat):cC:=ro d (.eP o T (.t x) (.t y))
abbrev dC (d:Nat) (o:BinOp) (T x:Nat) (n:Int):cC:=ro d (.eP o T (.t x) (.c (.int .i64 n)))
abbrev yb (d:Nat) (n:Int):cC:=ro d (.ga (.c (.int .i64 n)))
abbrev im (d:Nat) (n:Int):cC:=ro d (.hX (.c (.int .i64 n)))
abbrev iC (d:Nat) (b:Bool):cC:=ro d (.hX (.c (.bool b)))
abbrev qb (d:Nat):cC:=ro d (.hX (.c .bd))
abbrev oz (d T:Nat):cC:=ro d (.mU T)
abbrev gJ (d g a:Nat):cC:=ro d (.call (.f g) [.t a])
abbrev hp (d g a b:Nat):cC:=ro d (.call (.f g) [.t a,.t b])
abbrev FQ (d g a b c:Nat):cC:=ro d (.call (.f g) [.t a,.t b,.t c])
abbrev FR (d g a b c e:Nat):cC:=ro d (.call (.f g) [.t a,.t b,.t c,.t e])
abbrev i6 (d x k:Nat):cC:=ro d (.ex (.t x) k)
abbrev oA (d x:Nat):cC:=ro d (.un .not (.t x))
abbrev uL (d T x:Nat):cC:=ro d (.d_ T 1 [(0,.t x)])
abbrev yc (d T ea x y:Nat):cC:=ro d (.app T ea (.t x) (.t y))
abbrev j5 (T x y:Nat):cC:=⟨none,.k1 T (.t x) (.t y),none⟩
abbrev JJ (d A B x:Nat):cC:=ro d (.k3 A B (.t x))
theorem aX.OY {C:cy} (bU:C.fK) {f:FuncId} {fn:Func} {c:Code} {ej:aA} {fx:azf} {as outs:azk} {r:I} (fs:List ResultVar) (l:azj) (bH:C.P.funcs[f]? =some fn) (ab:fn.body=some c)
  (mH:(fn.name== "runtime.NumGoroutine")=false) (aa:gb ⟨fn.ntmps,fx⟩ c=some ej.strip) (aV:as.length<=fn.ntmps) (ie:fn.results.toList=fs) (hl:num 0 as=l)
  (h:∀Q:Exit->al->Prop,(∀s,eS (Ends C fx fs r outs) s->Q .ret s)->(∀s,eS (Ends C fx fs r outs) s->Q .normal s)->bn C ej Q (ar l)) (ax:ej.plain=true:=by kernel_rfl):aX C f as r outs:=by
 subst ie hl;exact aX.agt bU bH ab mH aa aV h ax
theorem pI.OY {C:cy} (bU:C.fK) {f:FuncId} {fn:Func} {c:Code} {ej:aA} {fx:azf} {as outs:azk} {r:I} {k m:Nat} (fs:List ResultVar) (l:azj) (bH:C.P.funcs[f]? =some fn) (ab:fn.body=some c)
  (mH:(fn.name== "runtime.NumGoroutine")=false) (aa:gb ⟨fn.ntmps,fx⟩ c=some ej.strip) (aV:as.length<=fn.ntmps) (aw:ej.p8 (JF C f fx as.length m k)) (ie:fn.results.toList=fs) (hl:num 0 as=l)
  (h:∀Q:Exit->al->Prop,(∀s,eS (Ends C fx fs r outs) s->Q .ret s)->(∀s,eS (Ends C fx fs r outs) s->Q .normal s)->bn C ej Q (ar l)):pI C f m k as r outs:=by
 subst ie hl;exact pI.of_wp bU bH ab mH aa aV aw h
theorem aX.ahU {C:cy} (bU:C.fK) {f:FuncId} {fn:Func} {c:Code} {ej:aA} {fx:azf} {as outs:azk} {r:I} (fs:List ResultVar) (l:azj) (bH:C.P.funcs[f]? =some fn) (ab:fn.body=some c)
  (mH:(fn.name== "runtime.NumGoroutine")=false) (aa:gb ⟨fn.ntmps,fx⟩ c=some ej.strip) (aV:as.length<=fn.ntmps) (aw:ej.p8 (FO C)) (ie:fn.results.toList=fs) (hl:num 0 as=l)
  (h:∀Q:Exit->al->Prop,(∀s,eS (Ends C fx fs r outs) s->Q .ret s)->(∀s,eS (Ends C fx fs r outs) s->Q .normal s)->bn C ej Q (ar l)):aX C f as r outs:=by
 subst ie hl;exact aX.ahO bU bH ab mH aa aV aw h
theorem fM {b:Bool} (h:(!b)=true):b=false:=by cases b<;>first|rfl|cases h
theorem bN {b:Bool} (h:(!b)=false):b=true:=by cases b<;>first|rfl|cases h
def wg (p:azf) (ros:List cC):List cC:=p.map λi=>ros.getD i ⟨none,.bad,none⟩
def qc (de:azd) (b a:Nat):azd:=de.set b (a::(de[b]?).getD [])
def zM (p:azf) (de:azd):azd:=p.map λi=>((de[i]?).getD []).map λe=>p.idxOf e
theorem FT {p:azf} {i:Nat} (h:i∈p):p[p.idxOf i]? =some i:=by
 have hl:=idxOf_lt_length_of_mem h;rw[getElem?_eq_getElem hl,getElem_idxOf hl]
theorem ahV {p:azf} {i j:Nat} (ai:i∈p) (bG:j∈p) (h:p.idxOf i=p.idxOf j):i=j:=by
 have a:=FT ai;rw[h,FT bG]at a;exact(some.inj a).symm
theorem Yp {C:cy} {ros:List cC} {p:azf} (ax:∀i∈p,i<ros.length):∀(l:azf) (s:al) (K:al->Prop),(∀i∈l,i∈p)->kP C (wg p ros) s (l.map p.idxOf) K->kP C ros s l K
 |[],_,_,_,h=>h
 |i::l,s,K,hl,h=>by
  have ai:=hl i (by simp);have aR:(wg p ros)[p.idxOf i]? =some (ros.getD i ⟨none,.bad,none⟩):=by
   rw[wg,getElem?_map,FT ai];rfl
  have aW:ros[i]? =some (ros.getD i ⟨none,.bad,none⟩):=by
   rw[getD_eq_getElem?_getD,getElem?_eq_getElem (ax i ai)];rfl
  rw[map_cons,kP,aR]at h;rw[kP,aW];exact Jb h λs1 ad=>Yp ax l s1 K (λj bG=>hl j (by simp[bG])) ad
theorem ahW {de:azd} {p l:azf} (aV:p.Nodup) (hm:∀i,i∈p↔i<de.length) (h:s9 de l):s9 (zM p de) (l.map p.idxOf):=by
 obtain⟨ad,ag,aD⟩:=h;have Cb:∀i∈l,i∈p:=λi ai=>(hm i).2 ((ag i).1 ai);refine⟨?_,λj=>?_,?_⟩
 .rw[Nodup,pairwise_map];exact Pairwise.imp_of_mem (λbo ab kK e=>kK (ahV (Cb _ bo) (Cb _ ab) e)) ad
 .rw[zM,length_map,mem_map];constructor
  .rintro⟨i,ai,rfl⟩;exact idxOf_lt_length_of_mem (Cb i ai)
  .intro bG;have uM:p[j]∈p:=getElem_mem bG;refine⟨p[j],(ag _).2 ((hm _).1 uM),?_⟩;have e:=FT uM;have eN:=idxOf_lt_length_of_mem uM;rw[getElem?_eq_getElem eN]at e;exact(getElem_inj aV).1 (some.inj e)
 .intro u j v hu e he;obtain⟨BS,w0,rfl,rfl,hw⟩:=map_eq_append_iff.1 hu;obtain⟨i,v0,rfl,rfl,rfl⟩:=map_eq_cons_iff.1 hw;have ai:i∈p:=Cb i (by simp);rw[zM,getElem?_map,FT ai]at he;simp only[map_some,getD_some,mem_map]at he;obtain⟨gi,ahX,rfl⟩:=he;exact List.mem_map_of_mem (aD BS i v0 rfl gi ahX)
theorem Yq {de:azd} {l u v:azf} {a b:Nat} (h:s9 de l) (hl:l=u++a::v) (ab:b∈v) (kK:a≠b):s9 (qc de b a) l:=by
 obtain⟨ad,ag,aD⟩:=h;refine⟨ad,λi=>by rw[ag,qc,length_set],λrT i v2 hu e he=>?_⟩;by_cases Yr:i=b
 .subst Yr;have eN:i<de.length:=(ag i).1 (by rw[hl];simp[ab]);rw[qc,getElem?_set_self eN]at he;simp only[getD_some,mem_cons]at he;rcases he with rfl|he
  .have e:=hl.symm.trans hu;rcases append_eq_append_iff.1 e with⟨c,nB,lo⟩|⟨c,nB,lo⟩
   .cases c with
    |nil=>simp at lo;exact absurd lo.1 kK
    |cons x c=>simp at lo;rw[nB,lo.1];simp
   .cases c with
    |nil=>simp at lo;exact absurd lo.1.symm kK
    |cons x c=>
     simp at lo;exfalso;rw[hl,nB,<-lo.1]at ad;have:=(nodup_append.1 ad).2.2 i (by simp) i (by simp[ab]);exact this rfl
  .exact aD rT i v2 hu e he
 .rw[qc,getElem?_set_ne (λe=>Yr e.symm)]at he;exact aD rT i v2 hu e he
theorem ahY {de:azd} {l:azf} {a b:Nat} (h:s9 de l) (bo:a<de.length) (ab:b<de.length) (kK:a≠b):s9 (qc de b a) l\/s9 (qc de a b) l:=by
 obtain⟨u,v,hl⟩:=append_of_mem ((h.2.1 a).2 bo);have xG:=(h.2.1 b).2 ab;rw[hl]at xG;simp only[mem_append,mem_cons]at xG;rcases xG with ahZ|rfl|ah0
 .obtain⟨v7,rT,rfl⟩:=append_of_mem ahZ;exact .inr (Yq h (u:=v7) (v:=rT++a::v) (by rw[hl];simp) (by simp) (λe=>kK e.symm))
 .exact absurd rfl kK
 .exact .inl (Yq h hl ah0 kK)
theorem Ys {C:cy} {ros:List cC} {de:azd} {s:al} {K:al->Prop} (a b:Nat) (p:azf) (hlen:de.length=ros.length) (au:(decide (a<de.length)&&decide (b<de.length)&&decide (a≠b)&&decide p.Nodup&&(range de.length).all (λi=>p.contains i)&&p.all (λi=>decide (i<de.length)))=true)
  (ad:dF C s ros (some []) (λacc s=>kF (nG (qc de b a)) 0 [] (acc.getD []).reverse=true/\K s))
  (ag:dF C s (wg p ros) (some []) (λacc s=>kF (nG (zM p (qc de a b))) 0 [] (acc.getD []).reverse=true/\K s)):∀l,s9 de l->kP C ros s l K:=by
 simp only[Bool.and_eq_true,decide_eq_true_eq,List.all_eq_true]at au;obtain⟨⟨⟨⟨⟨bo,ab⟩,kK⟩,aV⟩,fO⟩,Yt⟩:=au;intro l hl;have wh:∀i j,(qc de i j).length=de.length:=λi j=>by rw[qc,length_set]
 rcases ahY hl bo ab kK with h|h
 .exact Jk ((wh _ _).trans hlen) ad l h
 .have hm:∀i,i∈p↔i<de.length:=by
   intro i;refine⟨Yt i,λai=>?_⟩;simpa using fO i (mem_range.2 ai)
  have Cb:=ahW aV (λi=>by rw[hm,wh]) h;refine Yp (λi ai=>by rw[<-hlen];exact Yt i ai) l s K (λi ai=>(hm i).2 ((hl.2.1 i).1 ai)) ?_;exact Jk (by rw[zM,wg,length_map,length_map]) ag _ Cb
theorem ah1 {C:cy} {Q:Exit->al->Prop} {l:azj} {ros:List cC} {de:azd} {k:azf} (a b:Nat) (p:azf) (hlen:de.length=ros.length) (au:(decide (a<de.length)&&decide (b<de.length)&&decide (a≠b)&&decide p.Nodup&&(range de.length).all (λi=>p.contains i)&&p.all (λi=>decide (i<de.length)))=true)
  (cK:azj) (ad:∀P:azj->Prop,P cK->dF C (ar l) ros (some []) (λacc s=>kF (nG (qc de b a)) 0 [] (acc.getD []).reverse=true/\P (gW k s)))
  (ag:∀P:azj->Prop,P cK->dF C (ar l) (wg p ros) (some []) (λacc s=>kF (nG (zM p (qc de a b))) 0 [] (acc.getD []).reverse=true/\P (gW k s))) (aw:Q .normal (ar cK)):
  bn C (.jX ros de (some k)) Q (ar l):=
 Ys (K:=λs=>Q .normal (ar (gW k s))) a b p hlen au (ad (λl=>Q .normal (ar l)) aw) (ag (λl=>Q .normal (ar l)) aw)
theorem ah2 {C:cy} {Q:Exit->al->Prop} {l:azj} {ros:List cC} {de:azd} {k:azf} {c:aA} (a b:Nat) (p:azf) (hlen:de.length=ros.length) (au:(decide (a<de.length)&&decide (b<de.length)&&decide (a≠b)&&decide p.Nodup&&(range de.length).all (λi=>p.contains i)&&p.all (λi=>decide (i<de.length)))=true)
  (cK:azj) (ad:∀P:azj->Prop,P cK->dF C (ar l) ros (some []) (λacc s=>kF (nG (qc de b a)) 0 [] (acc.getD []).reverse=true/\P (gW k s)))
  (ag:∀P:azj->Prop,P cK->dF C (ar l) (wg p ros) (some []) (λacc s=>kF (nG (zM p (qc de a b))) 0 [] (acc.getD []).reverse=true/\P (gW k s))) (aw:bn C c Q (ar cK)):
  bn C (.seq (.jX ros de (some k)) c) Q (ar l):=
 Ys (K:=λs=>eS (bn C c Q) (ar (gW k s))) a b p hlen au (ad (λl=>eS (bn C c Q) (ar l)) (.inl aw)) (ag (λl=>eS (bn C c Q) (ar l)) (.inl aw))
section
variable {C:cy} {s:al} {l:azj} {Q:Exit->al->Prop}
theorem qd {fx:azf} {fs:List ResultVar} {r:I} (ds:azk) (ag:r=FE ds:=by cases eC (by assumption);rfl) (ad:fs.map (rS C s)=ds.map some:=by rfl) (aD:(fs.map k5).Nodup:=by decide):Ends C fx fs r [] s:=
 hx ds ad ag aD agu
theorem cP {fx:azf} {fs:List ResultVar} {r:I} (k:∀s,eS (Ends C fx fs r []) s->Q .ret s) (ds:azk) (ag:r=FE ds:=by cases eC (by assumption);rfl) (ad:fs.map (rS C s)=ds.map some:=by rfl) (aD:(fs.map k5).Nodup:=by decide):bn C .ret Q s:=
 ha (k _ (.inl (qd ds ag ad aD)))
theorem ay {kk:al->Prop} {a b:aA} (FU:∀s,kk s->Q .ret s) (h:∀fl:Exit->al->Prop,(∀s,eS (bn C b Q) s->fl .normal s)->(∀s,kk s->fl .ret s)->(∀i s,Q (.exit i) s->fl (.exit i) s)->bn C a fl s):bn C (.seq a b) Q s:=
 agp λfl n q x=>h fl n (λs aa=>q s (FU s aa)) x
theorem bk {kk:al->Prop} {id:Nat} {b:aA} (FU:∀s,kk s->Q .ret s) (h:∀fl:Exit->al->Prop,(∀s,Q .normal s->fl .normal s)->(∀s,kk s->fl .ret s)->(∀s,Q .normal s->fl (.exit id) s)->(∀i s,i≠id->Q (.exit i) s->fl (.exit i) s)->bn C b fl s):bn C (.block id b) Q s:=
 agr λfl n q b x=>h fl n (λs aa=>q s (FU s aa)) b x
theorem c6 {kk:al->Prop} {b:aA} (FU:∀s,kk s->Q .ret s) (h:∀fl:Exit->al->Prop,(∀s,eS (cN C b Q) s->fl .normal s)->(∀s,kk s->fl .ret s)->(∀i s,Q (.exit i) s->fl (.exit i) s)->bn C b fl s):cN C b Q s:=
 ags λfl n q x=>h fl n (λs aa=>q s (FU s aa)) x
theorem dz {β:Type} {f:Nat->Option β} {v:β} {b:aA} {cK:azj} (h:b5 f=some v) (k:∀n,f n=some v->cN C b Q (ar cK)) (hw:cK.map (·.2)=cK.map (λp=>s p.1):=by rfl):bn C (.loop b) Q s:=
 let⟨n,aV⟩:=lO h
 pH (.inr ⟨cK,bE hw,k n aV⟩)
theorem aC {β:Type} {c:bB} {t e:aA} {b:Bool} {x y:Option β} {r:β} (h:cond b x y=some r) (ad:b=true->x=some r->bn C t Q s) (ag:b=false->y=some r->bn C e Q s) (au:bx s c= .bool b:=by rfl):bn C (.cond c t e) Q s:=by
 rcases dH h with⟨rfl,h⟩|⟨rfl,h⟩
 .exact il au (ad rfl h)
 .exact ot au (ag rfl h)
end
def aA.pJ:aA->azd->aA×azd
 | .ew r _,k::mI=>(.ew r (some k),mI)
 | .jX r a _,k::mI=>(.jX r a (some k),mI)
 | .seq a b,mI=>(.seq (a.pJ mI).1 (b.pJ (a.pJ mI).2).1,(b.pJ (a.pJ mI).2).2)
 | .cond c a b,mI=>(.cond c (a.pJ mI).1 (b.pJ (a.pJ mI).2).1,(b.pJ (a.pJ mI).2).2)
 | .block i a,mI=>(.block i (a.pJ mI).1,(a.pJ mI).2)
 | .loop a,mI=>(.loop (a.pJ mI).1,(a.pJ mI).2)
 |c,mI=>(c,mI)
def bQ (n:Nat) (k:azf) (f:Func) (mI:azd):aA:=(((gb ⟨n,k⟩ (f.body.getD .skip)).getD .skip).pJ mI).1
def bR (x:aA) {c:aA} (h:x=c:=by
    conv=>lhs;reduce):aA:=c
end Go.ei
