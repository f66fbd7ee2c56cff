/- Part of a proof that a law returns true for every input. No condition. -/
import Derived.Test.YtmaepbgkcmjcjaiGreatDoorFwK
namespace Go.eg
open List Option Nat
theorem Oi {α:Type} {h:Decidable True} (t e:α): @ite α True h t e=t:=if_pos trivial
theorem Oj {α:Type} {h:Decidable False} (t e:α): @ite α False h t e=e:=if_neg id
theorem Ok {α:Type} [BEq α] [ReflBEq α] (a:α):(a==a)=true:=BEq.rfl
theorem Xo {α:Type} (a b:α):(a≠b)=¬(a=b):=rfl
theorem Xp:I.owner .hole=none/\(∀b,I.owner (.bool b)=none)/\I.owner .gA=none/\(∀k n,I.owner (.int k n)=none)/\(∀x,I.owner (.str x)=none)/\I.owner .eh=none/\I.owner .a8=none/\(∀x,I.owner (.slice x)=none)/\(∀n x,I.owner (.ak n x)=none)/\
  (∀x,I.owner (.ref x)=none)/\(∀x,I.owner (.aQ x)=none)/\(∀x,I.owner (.agg x)=none)/\(∀x,I.owner (.tuple x)=none)/\(∀f c,I.owner (.fn f c)=none)/\(∀x q,I.owner (.h x q)=some x):=
 ⟨rfl,λ_=>rfl,rfl,λ_ _=>rfl,λ_=>rfl,rfl,rfl,λ_=>rfl,λ_ _=>rfl,λ_=>rfl,λ_=>rfl,λ_=>rfl,λ_=>rfl,λ_ _=>rfl,λ_ _=>rfl⟩
theorem Xq:(¬False)=True:=not_false_eq_true
theorem Xr:(¬True)=False:=not_true_eq_false
theorem Xs:∀a b:Nat,(some a=some b)=(a=b):=λ_ _=>propext ⟨λh=>some.inj h,λh=>congrArg some h⟩
theorem Xt:(∀n,num n []=[])/\(∀n a as,num n (a::as)=(n,a)::num (n+1) as):=⟨λ_=>rfl,λ_ _ _=>rfl⟩
theorem Xu:∀s1:al,dW (some s1)=some (.hole,s1):=λ_=>rfl
theorem Xv {k da:IntKind} {b m:Int} (h:¬b<0) (hm:2^(min b.toNat k.bits)=m):∀a,j3 .shl k a da b=some (.int k (k.wrap (a*m))):=λ_=>hm▸afX h
theorem Ol:(∀t o,vw t (.b9 o)= .h t [])/\(∀(l:azj) t o,fin (aq l) (some t) (.b9 o)=aq ((t,.b9 o)::vK t l))/\(∀o,I.plain (.b9 o)=false)/\(∀t o,dw t (.b9 o)= .b9 o)/\(∀t o,cG t (.b9 o)= .b9 o)/\
  (∀o,I.dR (.b9 o)= .hole)/\(∀o,I.wd (.b9 o)=1)/\(∀o,I.hD (.b9 o)=true)/\(∀a b,xz (.b9 a) (.b9 b)=true)/\(∀s x q d o,dt.kH s ⟨.h x q,true,d,.b9 o⟩=et (oA x s) x (I.put q (.b9 o) (s x)))/\(∀o,I.aa (.b9 o)=[])/\(∀o,I.tree (.b9 o)=true)/\(∀a b n m z,hB.ok ⟨.map a b,n,m,z⟩=true)/\(∀a b n m z,hB.flat ⟨.map a b,n,m,z⟩=true):=
 ⟨λ_ _=>rfl,λl t o=>by simp only[fin,I.plain,Bool.false_eq_true,if_false,NC,Ix],λ_=>rfl,λ_ _=>by unfold dw;rfl,λ_ _=>by unfold cG;rfl,λ_=>by simp only[I.dR],λ_=>by simp only[I.wd],λ_=>rfl,λ_ _=>rfl,λ_ _ _ _ _=>by simp[dt.kH],λ_=>by simp only[I.aa],λ_=>rfl,λ_ _ _ _ _=>rfl,λ_ _ _ _ _=>rfl⟩
def ahx:=PLift.up (R Ol<|R Xt<|R Xu<|R Xs<|R Xp<|R Xq<|R Xr<|R @Oi (R @Oj (R @Ok (R @Xo agk.down))))
def ahy:=PLift.up (R Ol<|R Xt<|R Xu<|R Xs<|R Xp<|R Xq<|R Xr<|R @Oi (R @Oj (R @Ok (R @Xo E9.down))))
def ahz:=PLift.up (R Ol<|R @Ok<|R @Oi (R @Oj agl.down))
def zr (l:azf):azf:=l.foldr (λx acc=>if acc.contains x then acc else x::acc) []
theorem Xw {x:Nat}:∀{l:azf},x∈zr l↔x∈l
 |[]=>Iff.rfl
 |y::l=>by
  have ih:=Xw (x:=x) (l:=l);have e:zr (y::l)=if(zr l).contains y then zr l else y::zr l:=rfl;rw[e];split
  .rename_i h;have bD:y∈zr l:=by simpa using h
   constructor
   .intro an;exact mem_cons_of_mem _ (ih.1 an)
   .intro an;rcases mem_cons.1 an with rfl|an
    .exact bD
    .exact ih.2 an
  .simp only[mem_cons,ih]
def Om:azd->azd->azd
 |done,[]=>done
 |done,a::r=>Om (done++[zr (a++a.flatMap λe=>(done[e]?).getD [])]) r
def ahA (c7:azd):azd:=Om [] c7
def On (c d:azd):Prop:=c.length=d.length/\∀(i x:Nat),x∈(c[i]?).getD []↔x∈(d[i]?).getD []
theorem Xx:∀(r c d:azd),On c d->On (Om c r) (EZ d r)
 |[],c,d,h=>h
 |a::r,c,d,h=>by
  refine Xx r _ _ ⟨by simp[h.1],λi x=>?_⟩;rcases Nat.lt_trichotomy i c.length with ai|ai|ai
  .rw[getElem?_append_left ai,getElem?_append_left (by rw[<-h.1];exact ai)];exact h.2 i x
  .rw[getElem?_append_right (by omega),getElem?_append_right (by rw[<-h.1];omega),ai,Nat.sub_self,h.1,Nat.sub_self];simp only[getElem?_cons_zero,getD_some,Xw,mem_append,mem_flatMap];constructor
   .rintro(an|⟨e,he,an⟩)
    .exact .inl an
    .exact .inr ⟨e,he,(h.2 e x).1 an⟩
   .rintro(an|⟨e,he,an⟩)
    .exact .inl an
    .exact .inr ⟨e,he,(h.2 e x).2 an⟩
  .rw[getElem?_eq_none (by simp;omega),getElem?_eq_none (by simp[<-h.1];omega)]
theorem Xy {c d:azd} (h:On c d):∀(aE:List fJ) (j:Nat) (es:List (Nat×fJ)),kl c j es aE=kl d j es aE
 |[],_,_=>rfl
 |f::aE,j,es=>by
  simp only[kl];rw[Xy h aE];congr 2;funext e;congr 1;rw[Bool.eq_iff_iff];simp only[contains_iff_mem];exact h.2 j e.1
theorem hE {c7:azd} {j:Nat} {es:List (Nat×fJ)} {aE:List fJ} (h:kl (ahA c7) j es aE=true):kl (nn c7) j es aE=true:=by
 exact(Xy (Xx c7 [] [] ⟨rfl,λ_ _=>Iff.rfl⟩) aE j es).symm.trans h
abbrev ro (d:Nat) (bU:eS):cq:=⟨some d,bU,none⟩
abbrev aP (d x:Nat):cq:=ro d (.hV (.t x))
abbrev cc (d x:Nat):cq:=ro d (.h4 (.t x))
abbrev cm (d T x:Nat):cq:=ro d (.fL T (.t x))
abbrev dF (d T x k:Nat):cq:=ro d (.hP T (.t x) k)
abbrev gS (d T x i:Nat):cq:=ro d (.kF T (.t x) (.t i))
abbrev ia (d T x:Nat):cq:=ro d (.len T (.t x))
abbrev np (d x:Nat):cq:=ro d (.ml (.t x))
abbrev hX (d:Nat) (o:BinOp) (T x y:Nat):cq:=ro d (.eG o T (.t x) (.t y))
abbrev du (d:Nat) (o:BinOp) (T x:Nat) (n:Int):cq:=ro d (.eG o T (.t x) (.c (.int .i64 n)))
abbrev xV (d:Nat) (n:Int):cq:=ro d (.hV (.c (.int .i64 n)))
abbrev hY (d:Nat) (n:Int):cq:=ro d (.h4 (.c (.int .i64 n)))
abbrev nF (d:Nat) (b:Bool):cq:=ro d (.h4 (.c (.bool b)))
abbrev pS (d:Nat):cq:=ro d (.h4 (.c .a8))
abbrev oJ (d T:Nat):cq:=ro d (.mL T)
abbrev hK (d g a:Nat):cq:=ro d (.call (.f g) [.t a])
abbrev kO (d g a b:Nat):cq:=ro d (.call (.f g) [.t a,.t b])
abbrev Xz (d g a b c:Nat):cq:=ro d (.call (.f g) [.t a,.t b,.t c])
abbrev Fg (d g a b c e:Nat):cq:=ro d (.call (.f g) [.t a,.t b,.t c,.t e])
abbrev kP (d x k:Nat):cq:=ro d (.ex (.t x) k)
abbrev rb (d x:Nat):cq:=ro d (.un .not (.t x))
abbrev vQ (d T x:Nat):cq:=ro d (.dS T 1 [(0,.t x)])
abbrev xW (d T dN x y:Nat):cq:=ro d (.app T dN (.t x) (.t y))
abbrev j8 (T x y:Nat):cq:=⟨none,.kV T (.t x) (.t y),none⟩
abbrev XA (d A B x:Nat):cq:=ro d (.kW A B (.t x))
theorem aV.Oo {C:cl} (bO:C.fH) {f:FuncId} {fn:Func} {c:Code} {dY:aB} {fx:azf} {as outs:azk} {r:I} (fO:List ResultVar) (l:azj) (bH:C.P.funcs[f]? =some fn) (ab:fn.body=some c)
  (mr:(fn.name== "runtime.NumGoroutine")=false) (aa:fZ ⟨fn.ntmps,fx⟩ c=some dY.strip) (aR:as.length<=fn.ntmps) (hT:fn.results.toList=fO) (aC:num 0 as=l)
  (h:∀Q:Exit->al->Prop,(∀s,eI (Ends C fx fO r outs) s->Q .ret s)->(∀s,eI (Ends C fx fO r outs) s->Q .normal s)->bj C dY Q (aq l)) (ay:dY.plain=true:=by kernel_rfl):aV C f as r outs:=by
 subst hT aC;exact aV.af4 bO bH ab mr aa aR h ay
theorem pk.Oo {C:cl} (bO:C.fH) {f:FuncId} {fn:Func} {c:Code} {dY:aB} {fx:azf} {as outs:azk} {r:I} {k m:Nat} (fO:List ResultVar) (l:azj) (bH:C.P.funcs[f]? =some fn) (ab:fn.body=some c)
  (mr:(fn.name== "runtime.NumGoroutine")=false) (aa:fZ ⟨fn.ntmps,fx⟩ c=some dY.strip) (aR:as.length<=fn.ntmps) (ax:dY.pN (I2 C f fx as.length m k)) (hT:fn.results.toList=fO) (aC:num 0 as=l)
  (h:∀Q:Exit->al->Prop,(∀s,eI (Ends C fx fO r outs) s->Q .ret s)->(∀s,eI (Ends C fx fO r outs) s->Q .normal s)->bj C dY Q (aq l)):pk C f m k as r outs:=by
 subst hT aC;exact pk.of_wp bO bH ab mr aa aR ax h
theorem aV.ahB {C:cl} (bO:C.fH) {f:FuncId} {fn:Func} {c:Code} {dY:aB} {fx:azf} {as outs:azk} {r:I} (fO:List ResultVar) (l:azj) (bH:C.P.funcs[f]? =some fn) (ab:fn.body=some c)
  (mr:(fn.name== "runtime.NumGoroutine")=false) (aa:fZ ⟨fn.ntmps,fx⟩ c=some dY.strip) (aR:as.length<=fn.ntmps) (ax:dY.pN (Fe C)) (hT:fn.results.toList=fO) (aC:num 0 as=l)
  (h:∀Q:Exit->al->Prop,(∀s,eI (Ends C fx fO r outs) s->Q .ret s)->(∀s,eI (Ends C fx fO r outs) s->Q .normal s)->bj C dY Q (aq l)):aV C f as r outs:=by
 subst hT aC;exact aV.ahv bO bH ab mr aa aR ax h
theorem hf {b:Bool} (h:(!b)=true):b=false:=by cases b<;>first|rfl|cases h
theorem b6 {b:Bool} (h:(!b)=false):b=true:=by cases b<;>first|rfl|cases h
def vR (p:azf) (ros:List cq):List cq:=p.map λi=>ros.getD i ⟨none,.bad,none⟩
def pT (c7:azd) (b a:Nat):azd:=c7.set b (a::(c7[b]?).getD [])
def zs (p:azf) (c7:azd):azd:=p.map λi=>((c7[i]?).getD []).map λe=>p.idxOf e
theorem Fh {p:azf} {i:Nat} (h:i∈p):p[p.idxOf i]? =some i:=by
 have aC:=idxOf_lt_length_of_mem h;rw[getElem?_eq_getElem aC,getElem_idxOf aC]
theorem ahC {p:azf} {i j:Nat} (ai:i∈p) (bJ:j∈p) (h:p.idxOf i=p.idxOf j):i=j:=by
 have a:=Fh ai;rw[h,Fh bJ]at a;exact(some.inj a).symm
theorem XB {C:cl} {ros:List cq} {p:azf} (ay:∀i∈p,i<ros.length):∀(l:azf) (s:al) (K:al->Prop),(∀i∈l,i∈p)->kI C (vR p ros) s (l.map p.idxOf) K->kI C ros s l K
 |[],_,_,_,h=>h
 |i::l,s,K,aC,h=>by
  have ai:=aC i (by simp);have aO:(vR p ros)[p.idxOf i]? =some (ros.getD i ⟨none,.bad,none⟩):=by
   rw[vR,getElem?_map,Fh ai];rfl
  have aU:ros[i]? =some (ros.getD i ⟨none,.bad,none⟩):=by
   rw[getD_eq_getElem?_getD,getElem?_eq_getElem (ay i ai)];rfl
  rw[map_cons,kI,aO]at h;rw[kI,aU];exact Is h λs1 ad=>XB ay l s1 K (λj bJ=>aC j (by simp[bJ])) ad
theorem ahD {c7:azd} {p l:azf} (aR:p.Nodup) (hm:∀i,i∈p↔i<c7.length) (h:sG c7 l):sG (zs p c7) (l.map p.idxOf):=by
 obtain⟨ad,ae,aJ⟩:=h;have BJ:∀i∈l,i∈p:=λi ai=>(hm i).2 ((ae i).1 ai);refine⟨?_,λj=>?_,?_⟩
 .rw[Nodup,pairwise_map];exact Pairwise.imp_of_mem (λbl ab kC e=>kC (ahC (BJ _ bl) (BJ _ ab) e)) ad
 .rw[zs,length_map,mem_map];constructor
  .rintro⟨i,ai,rfl⟩;exact idxOf_lt_length_of_mem (BJ i ai)
  .intro bJ;have ui:p[j]∈p:=getElem_mem bJ;refine⟨p[j],(ae _).2 ((hm _).1 ui),?_⟩;have e:=Fh ui;have er:=idxOf_lt_length_of_mem ui;rw[getElem?_eq_getElem er]at e;exact(getElem_inj aR).1 (some.inj e)
 .intro u j v hu e he;obtain⟨Bo,w0,rfl,rfl,hw⟩:=map_eq_append_iff.1 hu;obtain⟨i,v0,rfl,rfl,rfl⟩:=map_eq_cons_iff.1 hw;have ai:i∈p:=BJ i (by simp);rw[zs,getElem?_map,Fh ai]at he;simp only[map_some,getD_some,mem_map]at he;obtain⟨fT,ahE,rfl⟩:=he;exact List.mem_map_of_mem (aJ Bo i v0 rfl fT ahE)
theorem XC {c7:azd} {l u v:azf} {a b:Nat} (h:sG c7 l) (aC:l=u++a::v) (ab:b∈v) (kC:a≠b):sG (pT c7 b a) l:=by
 obtain⟨ad,ae,aJ⟩:=h;refine⟨ad,λi=>by rw[ae,pT,length_set],λra i v2 hu e he=>?_⟩;by_cases XD:i=b
 .subst XD;have er:i<c7.length:=(ae i).1 (by rw[aC];simp[ab]);rw[pT,getElem?_set_self er]at he;simp only[getD_some,mem_cons]at he;rcases he with rfl|he
  .have e:=aC.symm.trans hu;rcases append_eq_append_iff.1 e with⟨c,ni,ld⟩|⟨c,ni,ld⟩
   .cases c with
    |nil=>simp at ld;exact absurd ld.1 kC
    |cons x c=>simp at ld;rw[ni,ld.1];simp
   .cases c with
    |nil=>simp at ld;exact absurd ld.1.symm kC
    |cons x c=>
     simp at ld;exfalso;rw[aC,ni,<-ld.1]at ad;have:=(nodup_append.1 ad).2.2 i (by simp) i (by simp[ab]);exact this rfl
  .exact aJ ra i v2 hu e he
 .rw[pT,getElem?_set_ne (λe=>XD e.symm)]at he;exact aJ ra i v2 hu e he
theorem ahF {c7:azd} {l:azf} {a b:Nat} (h:sG c7 l) (bl:a<c7.length) (ab:b<c7.length) (kC:a≠b):sG (pT c7 b a) l\/sG (pT c7 a b) l:=by
 obtain⟨u,v,aC⟩:=append_of_mem ((h.2.1 a).2 bl);have xt:=(h.2.1 b).2 ab;rw[aC]at xt;simp only[mem_append,mem_cons]at xt;rcases xt with ahG|rfl|ahH
 .obtain⟨vN,ra,rfl⟩:=append_of_mem ahG;exact .inr (XC h (u:=vN) (v:=ra++a::v) (by rw[aC];simp) (by simp) (λe=>kC e.symm))
 .exact absurd rfl kC
 .exact .inl (XC h aC ahH kC)
theorem XE {C:cl} {ros:List cq} {c7:azd} {s:al} {K:al->Prop} (a b:Nat) (p:azf) (hlen:c7.length=ros.length) (ar:(decide (a<c7.length)&&decide (b<c7.length)&&decide (a≠b)&&decide p.Nodup&&(range c7.length).all (λi=>p.contains i)&&p.all (λi=>decide (i<c7.length)))=true)
  (ad:dE C s ros (some []) (λacc s=>kl (nn (pT c7 b a)) 0 [] (acc.getD []).reverse=true/\K s))
  (ae:dE C s (vR p ros) (some []) (λacc s=>kl (nn (zs p (pT c7 a b))) 0 [] (acc.getD []).reverse=true/\K s)):∀l,sG c7 l->kI C ros s l K:=by
 simp only[Bool.and_eq_true,decide_eq_true_eq,List.all_eq_true]at ar;obtain⟨⟨⟨⟨⟨bl,ab⟩,kC⟩,aR⟩,fI⟩,XF⟩:=ar;intro l aC;have xX:∀i j,(pT c7 i j).length=c7.length:=λi j=>by rw[pT,length_set]
 rcases ahF aC bl ab kC with h|h
 .exact IE ((xX _ _).trans hlen) ad l h
 .have hm:∀i,i∈p↔i<c7.length:=by
   intro i;refine⟨XF i,λai=>?_⟩;simpa using fI i (mem_range.2 ai)
  have BJ:=ahD aR (λi=>by rw[hm,xX]) h;refine XB (λi ai=>by rw[<-hlen];exact XF i ai) l s K (λi ai=>(hm i).2 ((aC.2.1 i).1 ai)) ?_;exact IE (by rw[zs,vR,length_map,length_map]) ae _ BJ
theorem ahI {C:cl} {Q:Exit->al->Prop} {l:azj} {ros:List cq} {c7:azd} {k:azf} (a b:Nat) (p:azf) (hlen:c7.length=ros.length) (ar:(decide (a<c7.length)&&decide (b<c7.length)&&decide (a≠b)&&decide p.Nodup&&(range c7.length).all (λi=>p.contains i)&&p.all (λi=>decide (i<c7.length)))=true)
  (c_:azj) (ad:∀P:azj->Prop,P c_->dE C (aq l) ros (some []) (λacc s=>kl (nn (pT c7 b a)) 0 [] (acc.getD []).reverse=true/\P (ho k s)))
  (ae:∀P:azj->Prop,P c_->dE C (aq l) (vR p ros) (some []) (λacc s=>kl (nn (zs p (pT c7 a b))) 0 [] (acc.getD []).reverse=true/\P (ho k s))) (ax:Q .normal (aq c_)):
  bj C (.jL ros c7 (some k)) Q (aq l):=
 XE (K:=λs=>Q .normal (aq (ho k s))) a b p hlen ar (ad (λl=>Q .normal (aq l)) ax) (ae (λl=>Q .normal (aq l)) ax)
theorem ahJ {C:cl} {Q:Exit->al->Prop} {l:azj} {ros:List cq} {c7:azd} {k:azf} {c:aB} (a b:Nat) (p:azf) (hlen:c7.length=ros.length) (ar:(decide (a<c7.length)&&decide (b<c7.length)&&decide (a≠b)&&decide p.Nodup&&(range c7.length).all (λi=>p.contains i)&&p.all (λi=>decide (i<c7.length)))=true)
  (c_:azj) (ad:∀P:azj->Prop,P c_->dE C (aq l) ros (some []) (λacc s=>kl (nn (pT c7 b a)) 0 [] (acc.getD []).reverse=true/\P (ho k s)))
  (ae:∀P:azj->Prop,P c_->dE C (aq l) (vR p ros) (some []) (λacc s=>kl (nn (zs p (pT c7 a b))) 0 [] (acc.getD []).reverse=true/\P (ho k s))) (ax:bj C c Q (aq c_)):
  bj C (.seq (.jL ros c7 (some k)) c) Q (aq l):=
 XE (K:=λs=>eI (bj C c Q) (aq (ho k s))) a b p hlen ar (ad (λl=>eI (bj C c Q) (aq l)) (.inl ax)) (ae (λl=>eI (bj C c Q) (aq l)) (.inl ax))
section
variable {C:cl} {s:al} {l:azj} {Q:Exit->al->Prop}
theorem aw {fx:azf} {fO:List ResultVar} {r:I} (ds:azk) (ae:r=NT ds:=by cases gk (by assumption);rfl) (ad:fO.map (ua C s)=ds.map some:=by rfl) (aJ:(fO.map lH).Nodup:=by decide):Ends C fx fO r [] s:=
 km ds ad ae aJ af5
theorem az {j5:al->Prop} {a b:aB} (Fi:∀s,j5 s->Q .ret s) (h:∀e4:Exit->al->Prop,(∀s,eI (bj C b Q) s->e4 .normal s)->(∀s,j5 s->e4 .ret s)->(∀i s,Q (.exit i) s->e4 (.exit i) s)->bj C a e4 s):bj C (.seq a b) Q s:=
 af0 λe4 n q x=>h e4 n (λs aa=>q s (Fi s aa)) x
theorem bc {j5:al->Prop} {id:Nat} {b:aB} (Fi:∀s,j5 s->Q .ret s) (h:∀e4:Exit->al->Prop,(∀s,Q .normal s->e4 .normal s)->(∀s,j5 s->e4 .ret s)->(∀s,Q .normal s->e4 (.exit id) s)->(∀i s,i≠id->Q (.exit i) s->e4 (.exit i) s)->bj C b e4 s):bj C (.block id b) Q s:=
 af2 λe4 n q b x=>h e4 n (λs aa=>q s (Fi s aa)) b x
theorem cX {j5:al->Prop} {b:aB} (Fi:∀s,j5 s->Q .ret s) (h:∀e4:Exit->al->Prop,(∀s,eI (cF C b Q) s->e4 .normal s)->(∀s,j5 s->e4 .ret s)->(∀i s,Q (.exit i) s->e4 (.exit i) s)->bj C b e4 s):cF C b Q s:=
 af3 λe4 n q x=>h e4 n (λs aa=>q s (Fi s aa)) x
theorem aD {β:Type} {c:bE} {t e:aB} {b:Bool} {x y:Option β} {r:β} (h:cond b x y=some r) (ad:b=true->x=some r->bj C t Q s) (ae:b=false->y=some r->bj C e Q s) (ar:bt s c= .bool b:=by rfl):bj C (.cond c t e) Q s:=by
 rcases dc h with⟨rfl,h⟩|⟨rfl,h⟩
 .exact iU ar (ad rfl h)
 .exact n4 ar (ae rfl h)
end
def aB.pn:aB->azd->aB×azd
 | .en r _,k::mv=>(.en r (some k),mv)
 | .jL r a _,k::mv=>(.jL r a (some k),mv)
 | .seq a b,mv=>(.seq (a.pn mv).1 (b.pn (a.pn mv).2).1,(b.pn (a.pn mv).2).2)
 | .cond c a b,mv=>(.cond c (a.pn mv).1 (b.pn (a.pn mv).2).1,(b.pn (a.pn mv).2).2)
 | .block i a,mv=>(.block i (a.pn mv).1,(a.pn mv).2)
 | .loop a,mv=>(.loop (a.pn mv).1,(a.pn mv).2)
 |c,mv=>(c,mv)
def bF (n:Nat) (k:azf) (f:Func) (mv:azd):aB:=(((fZ ⟨n,k⟩ (f.body.getD .skip)).getD .skip).pn mv).1
def bG (x:aB) {c:aB} (h:x=c:=by
    conv=>lhs;reduce):aB:=c
end Go.eg
