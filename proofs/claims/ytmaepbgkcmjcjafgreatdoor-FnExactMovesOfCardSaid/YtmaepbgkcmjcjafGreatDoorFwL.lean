/- Part of a proof that a law returns true for every input. No condition. -/
import Derived.Test.YtmaepbgkcmjcjafGreatDoorFwK
namespace Go.eg
open List Option Go.IntKind Nat
theorem N_ {α:Type} {h:Decidable True} (t e:α): @ite α True h t e=t:=if_pos trivial
theorem Oa {α:Type} {h:Decidable False} (t e:α): @ite α False h t e=e:=if_neg id
theorem Ob {α:Type} [BEq α] [ReflBEq α] (a:α):(a==a)=true:=BEq.rfl
theorem Xh {α:Type} (a b:α):(a≠b)=¬(a=b):=rfl
theorem Xi:I.owner .hole=none/\(∀b,I.owner (.bool b)=none)/\I.owner .gn=none/\(∀k n,I.owner (.int k n)=none)/\(∀x,I.owner (.str x)=none)/\I.owner .er=none/\I.owner .bg=none/\(∀x,I.owner (.slice x)=none)/\(∀n x,I.owner (.ag n x)=none)/\
  (∀x,I.owner (.ref x)=none)/\(∀x,I.owner (.aS x)=none)/\(∀x,I.owner (.agg x)=none)/\(∀x,I.owner (.tuple x)=none)/\(∀f c,I.owner (.fn f c)=none)/\(∀x q,I.owner (.h x q)=some x):=
 ⟨rfl,λ_=>rfl,rfl,λ_ _=>rfl,λ_=>rfl,rfl,rfl,λ_=>rfl,λ_ _=>rfl,λ_=>rfl,λ_=>rfl,λ_=>rfl,λ_=>rfl,λ_ _=>rfl,λ_ _=>rfl⟩
theorem Xj:(¬False)=True:=not_false_eq_true
theorem Xk:(¬True)=False:=not_true_eq_false
theorem Xl:∀a b:Nat,(some a=some b)=(a=b):=λ_ _=>propext ⟨λh=>some.inj h,λh=>congrArg some h⟩
theorem Xm:(∀n,num n []=[])/\(∀n a as,num n (a::as)=(n,a)::num (n+1) as):=⟨λ_=>rfl,λ_ _ _=>rfl⟩
theorem Xn:∀s1:ak,db (some s1)=some (.hole,s1):=λ_=>rfl
theorem Oc:(∀t o,tA t (.cc o)= .h t [])/\(∀(l:ayj) t o,fin (aq l) (some t) (.cc o)=aq ((t,.cc o)::vo t l))/\(∀o,I.plain (.cc o)=false)/\(∀t o,dy t (.cc o)= .cc o)/\(∀t o,cJ t (.cc o)= .cc o)/\
  (∀o,I.dY (.cc o)= .hole)/\(∀o,I.wd (.cc o)=1)/\(∀o,I.hH (.cc o)=true)/\(∀a b,xe (.cc a) (.cc b)=true)/\(∀s x q d o,dp.kG s ⟨.h x q,true,d,.cc o⟩=ei (oB x s) x (I.put q (.cc o) (s x)))/\(∀o,I.ab (.cc o)=[])/\(∀o,I.tree (.cc o)=true)/\(∀a b n m z,hG.ok ⟨.map a b,n,m,z⟩=true)/\(∀a b n m z,hG.flat ⟨.map a b,n,m,z⟩=true):=
 ⟨λ_ _=>rfl,λl t o=>by simp only[fin,I.plain,Bool.false_eq_true,if_false,Nq,EG],λ_=>rfl,λ_ _=>by unfold dy;rfl,λ_ _=>by unfold cJ;rfl,λ_=>by simp only[I.dY],λ_=>by simp only[I.wd],λ_=>rfl,λ_ _=>rfl,λ_ _ _ _ _=>by simp[dp.kG],λ_=>by simp only[I.ab],λ_=>rfl,λ_ _ _ _ _=>rfl,λ_ _ _ _ _=>rfl⟩
def ahi:=PLift.up (U Oc<|U Xm<|U Xn<|U Xl<|U Xi<|U Xj<|U Xk<|U @N_ (U @Oa (U @Ob (U @Xh af7.down))))
def ahj:=PLift.up (U Oc<|U Xm<|U Xn<|U Xl<|U Xi<|U Xj<|U Xk<|U @N_ (U @Oa (U @Ob (U @Xh ET.down))))
def ahk:=PLift.up (U Oc<|U @Ob<|U @N_ (U @Oa af8.down))
def y9 (l:ayf):ayf:=l.foldr (λx acc=>if acc.contains x then acc else x::acc) []
theorem Xo {x:Nat}:∀{l:ayf},x∈y9 l↔x∈l
 |[]=>Iff.rfl
 |y::l=>by
  have ih:=Xo (x:=x) (l:=l);have e:y9 (y::l)=if(y9 l).contains y then y9 l else y::y9 l:=rfl;rw[e];split
  .rename_i h;have bC:y∈y9 l:=by simpa using h
   constructor
   .intro ao;exact mem_cons_of_mem _ (ih.1 ao)
   .intro ao;rcases mem_cons.1 ao with rfl|ao
    .exact bC
    .exact ih.2 ao
  .simp only[mem_cons,ih]
def Od:ayd->ayd->ayd
 |done,[]=>done
 |done,a::r=>Od (done++[y9 (a++a.flatMap λe=>(done[e]?).getD [])]) r
def ahl (cY:ayd):ayd:=Od [] cY
def Oe (c d:ayd):Prop:=c.length=d.length/\∀(i x:Nat),x∈(c[i]?).getD []↔x∈(d[i]?).getD []
theorem Xp:∀(r c d:ayd),Oe c d->Oe (Od c r) (EK d r)
 |[],c,d,h=>h
 |a::r,c,d,h=>by
  refine Xp r _ _ ⟨by simp[h.1],λi x=>?_⟩;rcases Nat.lt_trichotomy i c.length with aj|aj|aj
  .rw[getElem?_append_left aj,getElem?_append_left (by rw[<-h.1];exact aj)];exact h.2 i x
  .rw[getElem?_append_right (by omega),getElem?_append_right (by rw[<-h.1];omega),aj,Nat.sub_self,h.1,Nat.sub_self];simp only[getElem?_cons_zero,getD_some,Xo,mem_append,mem_flatMap];constructor
   .rintro(ao|⟨e,he,ao⟩)
    .exact .inl ao
    .exact .inr ⟨e,he,(h.2 e x).1 ao⟩
   .rintro(ao|⟨e,he,ao⟩)
    .exact .inl ao
    .exact .inr ⟨e,he,(h.2 e x).2 ao⟩
  .rw[getElem?_eq_none (by simp;omega),getElem?_eq_none (by simp[<-h.1];omega)]
theorem Xq {c d:ayd} (h:Oe c d):∀(aF:List fM) (j:Nat) (es:List (Nat×fM)),kp c j es aF=kp d j es aF
 |[],_,_=>rfl
 |f::aF,j,es=>by
  simp only[kp];rw[Xq h aF];congr 2;funext e;congr 1;rw[Bool.eq_iff_iff];simp only[contains_iff_mem];exact h.2 j e.1
theorem hY {cY:ayd} {j:Nat} {es:List (Nat×fM)} {aF:List fM} (h:kp (ahl cY) j es aF=true):kp (nq cY) j es aF=true:=by
 exact(Xq (Xp cY [] [] ⟨rfl,λ_ _=>Iff.rfl⟩) aF j es).symm.trans h
abbrev ro (d:Nat) (bX:e2):cu:=⟨some d,bX,none⟩
abbrev aM (d x:Nat):cu:=ro d (.gM (.t x))
abbrev b5 (d x:Nat):cu:=ro d (.hO (.t x))
abbrev cg (d T x:Nat):cu:=ro d (.fS T (.t x))
abbrev dN (d T x k:Nat):cu:=ro d (.hU T (.t x) k)
abbrev hh (d T x i:Nat):cu:=ro d (.kD T (.t x) (.t i))
abbrev j6 (d T x:Nat):cu:=ro d (.len T (.t x))
abbrev ns (d x:Nat):cu:=ro d (.mm (.t x))
abbrev iV (d:Nat) (o:BinOp) (T x y:Nat):cu:=ro d (.eL o T (.t x) (.t y))
abbrev du (d:Nat) (o:BinOp) (T x:Nat) (n:Int):cu:=ro d (.eL o T (.t x) (.c (.int .i64 n)))
abbrev xE (d:Nat) (n:Int):cu:=ro d (.gM (.c (.int .i64 n)))
abbrev ia (d:Nat) (n:Int):cu:=ro d (.hO (.c (.int .i64 n)))
abbrev jo (d:Nat) (b:Bool):cu:=ro d (.hO (.c (.bool b)))
abbrev pR (d:Nat):cu:=ro d (.hO (.c .bg))
abbrev oa (d T:Nat):cu:=ro d (.mL T)
abbrev hi (d g a:Nat):cu:=ro d (.call (.f g) [.t a])
abbrev hB (d g a b:Nat):cu:=ro d (.call (.f g) [.t a,.t b])
abbrev Xr (d g a b c:Nat):cu:=ro d (.call (.f g) [.t a,.t b,.t c])
abbrev E0 (d g a b c e:Nat):cu:=ro d (.call (.f g) [.t a,.t b,.t c,.t e])
abbrev jc (d x k:Nat):cu:=ro d (.ex (.t x) k)
abbrev oM (d x:Nat):cu:=ro d (.un .not (.t x))
abbrev tX (d T x:Nat):cu:=ro d (.dW T 1 [(0,.t x)])
abbrev xF (d T dU x y:Nat):cu:=ro d (.app T dU (.t x) (.t y))
abbrev jQ (T x y:Nat):cu:=⟨none,.kR T (.t x) (.t y),none⟩
abbrev I3 (d A B x:Nat):cu:=ro d (.kT A B (.t x))
theorem aW.Of {C:cm} (bP:C.fH) {f:FuncId} {fn:Func} {c:Code} {ee:aC} {fx:ayf} {as outs:ayk} {r:I} (fQ:List ResultVar) (l:ayj) (bD:C.P.funcs[f]? =some fn) (aa:fn.body=some c)
  (mu:(fn.name== "runtime.NumGoroutine")=false) (ab:fW ⟨fn.ntmps,fx⟩ c=some ee.strip) (aV:as.length<=fn.ntmps) (h6:fn.results.toList=fQ) (hl:num 0 as=l)
  (h:∀Q:Exit->ak->Prop,(∀s,eS (Ends C fx fQ r outs) s->Q .ret s)->(∀s,eS (Ends C fx fQ r outs) s->Q .normal s)->bn C ee Q (aq l)) (ax:ee.plain=true:=by kernel_rfl):aW C f as r outs:=by
 subst h6 hl;exact aW.afT bP bD aa mu ab aV h ax
theorem pn.Of {C:cm} (bP:C.fH) {f:FuncId} {fn:Func} {c:Code} {ee:aC} {fx:ayf} {as outs:ayk} {r:I} {k m:Nat} (fQ:List ResultVar) (l:ayj) (bD:C.P.funcs[f]? =some fn) (aa:fn.body=some c)
  (mu:(fn.name== "runtime.NumGoroutine")=false) (ab:fW ⟨fn.ntmps,fx⟩ c=some ee.strip) (aV:as.length<=fn.ntmps) (au:ee.pN (IZ C f fx as.length m k)) (h6:fn.results.toList=fQ) (hl:num 0 as=l)
  (h:∀Q:Exit->ak->Prop,(∀s,eS (Ends C fx fQ r outs) s->Q .ret s)->(∀s,eS (Ends C fx fQ r outs) s->Q .normal s)->bn C ee Q (aq l)):pn C f m k as r outs:=by
 subst h6 hl;exact pn.of_wp bP bD aa mu ab aV au h
theorem aW.ahm {C:cm} (bP:C.fH) {f:FuncId} {fn:Func} {c:Code} {ee:aC} {fx:ayf} {as outs:ayk} {r:I} (fQ:List ResultVar) (l:ayj) (bD:C.P.funcs[f]? =some fn) (aa:fn.body=some c)
  (mu:(fn.name== "runtime.NumGoroutine")=false) (ab:fW ⟨fn.ntmps,fx⟩ c=some ee.strip) (aV:as.length<=fn.ntmps) (au:ee.pN (EX C)) (h6:fn.results.toList=fQ) (hl:num 0 as=l)
  (h:∀Q:Exit->ak->Prop,(∀s,eS (Ends C fx fQ r outs) s->Q .ret s)->(∀s,eS (Ends C fx fQ r outs) s->Q .normal s)->bn C ee Q (aq l)):aW C f as r outs:=by
 subst h6 hl;exact aW.ahg bP bD aa mu ab aV au h
theorem hj {b:Bool} (h:(!b)=true):b=false:=by cases b<;>first|rfl|cases h
theorem b_ {b:Bool} (h:(!b)=false):b=true:=by cases b<;>first|rfl|cases h
def vx (p:ayf) (ros:List cu):List cu:=p.map λi=>ros.getD i ⟨none,.bad,none⟩
def pS (cY:ayd) (b a:Nat):ayd:=cY.set b (a::(cY[b]?).getD [])
def y_ (p:ayf) (cY:ayd):ayd:=p.map λi=>((cY[i]?).getD []).map λe=>p.idxOf e
theorem E1 {p:ayf} {i:Nat} (h:i∈p):p[p.idxOf i]? =some i:=by
 have hl:=idxOf_lt_length_of_mem h;rw[getElem?_eq_getElem hl,getElem_idxOf hl]
theorem ahn {p:ayf} {i j:Nat} (aj:i∈p) (bF:j∈p) (h:p.idxOf i=p.idxOf j):i=j:=by
 have a:=E1 aj;rw[h,E1 bF]at a;exact(some.inj a).symm
theorem Xs {C:cm} {ros:List cu} {p:ayf} (ax:∀i∈p,i<ros.length):∀(l:ayf) (s:ak) (K:ak->Prop),(∀i∈l,i∈p)->kH C (vx p ros) s (l.map p.idxOf) K->kH C ros s l K
 |[],_,_,_,h=>h
 |i::l,s,K,hl,h=>by
  have aj:=hl i (by simp);have aP:(vx p ros)[p.idxOf i]? =some (ros.getD i ⟨none,.bad,none⟩):=by
   rw[vx,getElem?_map,E1 aj];rfl
  have aY:ros[i]? =some (ros.getD i ⟨none,.bad,none⟩):=by
   rw[getD_eq_getElem?_getD,getElem?_eq_getElem (ax i aj)];rfl
  rw[map_cons,kH,aP]at h;rw[kH,aY];exact Iq h λs1 ad=>Xs ax l s1 K (λj bF=>hl j (by simp[bF])) ad
theorem aho {cY:ayd} {p l:ayf} (aV:p.Nodup) (hm:∀i,i∈p↔i<cY.length) (h:sx cY l):sx (y_ p cY) (l.map p.idxOf):=by
 obtain⟨ad,af,aG⟩:=h;have Bq:∀i∈l,i∈p:=λi aj=>(hm i).2 ((af i).1 aj);refine⟨?_,λj=>?_,?_⟩
 .rw[Nodup,pairwise_map];exact Pairwise.imp_of_mem (λbr aa kB e=>kB (ahn (Bq _ br) (Bq _ aa) e)) ad
 .rw[y_,length_map,mem_map];constructor
  .rintro⟨i,aj,rfl⟩;exact idxOf_lt_length_of_mem (Bq i aj)
  .intro bF;have tY:p[j]∈p:=getElem_mem bF;refine⟨p[j],(af _).2 ((hm _).1 tY),?_⟩;have e:=E1 tY;have eI:=idxOf_lt_length_of_mem tY;rw[getElem?_eq_getElem eI]at e;exact(getElem_inj aV).1 (some.inj e)
 .intro u j v hu e he;obtain⟨A6,w0,rfl,rfl,hw⟩:=map_eq_append_iff.1 hu;obtain⟨i,v0,rfl,rfl,rfl⟩:=map_eq_cons_iff.1 hw;have aj:i∈p:=Bq i (by simp);rw[y_,getElem?_map,E1 aj]at he;simp only[map_some,getD_some,mem_map]at he;obtain⟨gb,ahp,rfl⟩:=he;exact List.mem_map_of_mem (aG A6 i v0 rfl gb ahp)
theorem Xt {cY:ayd} {l u v:ayf} {a b:Nat} (h:sx cY l) (hl:l=u++a::v) (aa:b∈v) (kB:a≠b):sx (pS cY b a) l:=by
 obtain⟨ad,af,aG⟩:=h;refine⟨ad,λi=>by rw[af,pS,length_set],λxq i v2 hu e he=>?_⟩;by_cases Xu:i=b
 .subst Xu;have eI:i<cY.length:=(af i).1 (by rw[hl];simp[aa]);rw[pS,getElem?_set_self eI]at he;simp only[getD_some,mem_cons]at he;rcases he with rfl|he
  .have e:=hl.symm.trans hu;rcases append_eq_append_iff.1 e with⟨c,nj,lf⟩|⟨c,nj,lf⟩
   .cases c with
    |nil=>simp at lf;exact absurd lf.1 kB
    |cons x c=>simp at lf;rw[nj,lf.1];simp
   .cases c with
    |nil=>simp at lf;exact absurd lf.1.symm kB
    |cons x c=>
     simp at lf;exfalso;rw[hl,nj,<-lf.1]at ad;have:=(nodup_append.1 ad).2.2 i (by simp) i (by simp[aa]);exact this rfl
  .exact aG xq i v2 hu e he
 .rw[pS,getElem?_set_ne (λe=>Xu e.symm)]at he;exact aG xq i v2 hu e he
theorem ahq {cY:ayd} {l:ayf} {a b:Nat} (h:sx cY l) (br:a<cY.length) (aa:b<cY.length) (kB:a≠b):sx (pS cY b a) l\/sx (pS cY a b) l:=by
 obtain⟨u,v,hl⟩:=append_of_mem ((h.2.1 a).2 br);have w7:=(h.2.1 b).2 aa;rw[hl]at w7;simp only[mem_append,mem_cons]at w7;rcases w7 with ahr|rfl|ahs
 .obtain⟨vq,xq,rfl⟩:=append_of_mem ahr;exact .inr (Xt h (u:=vq) (v:=xq++a::v) (by rw[hl];simp) (by simp) (λe=>kB e.symm))
 .exact absurd rfl kB
 .exact .inl (Xt h hl ahs kB)
theorem Xv {C:cm} {ros:List cu} {cY:ayd} {s:ak} {K:ak->Prop} (a b:Nat) (p:ayf) (hlen:cY.length=ros.length) (ar:(decide (a<cY.length)&&decide (b<cY.length)&&decide (a≠b)&&decide p.Nodup&&(range cY.length).all (λi=>p.contains i)&&p.all (λi=>decide (i<cY.length)))=true)
  (ad:dJ C s ros (some []) (λacc s=>kp (nq (pS cY b a)) 0 [] (acc.getD []).reverse=true/\K s))
  (af:dJ C s (vx p ros) (some []) (λacc s=>kp (nq (y_ p (pS cY a b))) 0 [] (acc.getD []).reverse=true/\K s)):∀l,sx cY l->kH C ros s l K:=by
 simp only[Bool.and_eq_true,decide_eq_true_eq,List.all_eq_true]at ar;obtain⟨⟨⟨⟨⟨br,aa⟩,kB⟩,aV⟩,fI⟩,Xw⟩:=ar;intro l hl;have xG:∀i j,(pS cY i j).length=cY.length:=λi j=>by rw[pS,length_set]
 rcases ahq hl br aa kB with h|h
 .exact IA ((xG _ _).trans hlen) ad l h
 .have hm:∀i,i∈p↔i<cY.length:=by
   intro i;refine⟨Xw i,λaj=>?_⟩;simpa using fI i (mem_range.2 aj)
  have Bq:=aho aV (λi=>by rw[hm,xG]) h;refine Xs (λi aj=>by rw[<-hlen];exact Xw i aj) l s K (λi aj=>(hm i).2 ((hl.2.1 i).1 aj)) ?_;exact IA (by rw[y_,vx,length_map,length_map]) af _ Bq
theorem aht {C:cm} {Q:Exit->ak->Prop} {l:ayj} {ros:List cu} {cY:ayd} {k:ayf} (a b:Nat) (p:ayf) (hlen:cY.length=ros.length) (ar:(decide (a<cY.length)&&decide (b<cY.length)&&decide (a≠b)&&decide p.Nodup&&(range cY.length).all (λi=>p.contains i)&&p.all (λi=>decide (i<cY.length)))=true)
  (c6:ayj) (ad:∀P:ayj->Prop,P c6->dJ C (aq l) ros (some []) (λacc s=>kp (nq (pS cY b a)) 0 [] (acc.getD []).reverse=true/\P (hs k s)))
  (af:∀P:ayj->Prop,P c6->dJ C (aq l) (vx p ros) (some []) (λacc s=>kp (nq (y_ p (pS cY a b))) 0 [] (acc.getD []).reverse=true/\P (hs k s))) (au:Q .normal (aq c6)):
  bn C (.jM ros cY (some k)) Q (aq l):=
 Xv (K:=λs=>Q .normal (aq (hs k s))) a b p hlen ar (ad (λl=>Q .normal (aq l)) au) (af (λl=>Q .normal (aq l)) au)
theorem ahu {C:cm} {Q:Exit->ak->Prop} {l:ayj} {ros:List cu} {cY:ayd} {k:ayf} {c:aC} (a b:Nat) (p:ayf) (hlen:cY.length=ros.length) (ar:(decide (a<cY.length)&&decide (b<cY.length)&&decide (a≠b)&&decide p.Nodup&&(range cY.length).all (λi=>p.contains i)&&p.all (λi=>decide (i<cY.length)))=true)
  (c6:ayj) (ad:∀P:ayj->Prop,P c6->dJ C (aq l) ros (some []) (λacc s=>kp (nq (pS cY b a)) 0 [] (acc.getD []).reverse=true/\P (hs k s)))
  (af:∀P:ayj->Prop,P c6->dJ C (aq l) (vx p ros) (some []) (λacc s=>kp (nq (y_ p (pS cY a b))) 0 [] (acc.getD []).reverse=true/\P (hs k s))) (au:bn C c Q (aq c6)):
  bn C (.seq (.jM ros cY (some k)) c) Q (aq l):=
 Xv (K:=λs=>eS (bn C c Q) (aq (hs k s))) a b p hlen ar (ad (λl=>eS (bn C c Q) (aq l)) (.inl au)) (af (λl=>eS (bn C c Q) (aq l)) (.inl au))
section
variable {C:cm} {s:ak} {l:ayj} {Q:Exit->ak->Prop}
theorem az {fx:ayf} {fQ:List ResultVar} {r:I} (ds:ayk) (af:r=NM ds:=by cases eZ (by assumption);rfl) (ad:fQ.map (tP C s)=ds.map some:=by rfl) (aG:(fQ.map lL).Nodup:=by decide):Ends C fx fQ r [] s:=
 hI ds ad af aG afU
theorem ay {j4:ak->Prop} {a b:aC} (E2:∀s,j4 s->Q .ret s) (h:∀fk:Exit->ak->Prop,(∀s,eS (bn C b Q) s->fk .normal s)->(∀s,j4 s->fk .ret s)->(∀i s,Q (.exit i) s->fk (.exit i) s)->bn C a fk s):bn C (.seq a b) Q s:=
 afP λfk n q x=>h fk n (λs ab=>q s (E2 s ab)) x
theorem bj {j4:ak->Prop} {id:Nat} {b:aC} (E2:∀s,j4 s->Q .ret s) (h:∀fk:Exit->ak->Prop,(∀s,Q .normal s->fk .normal s)->(∀s,j4 s->fk .ret s)->(∀s,Q .normal s->fk (.exit id) s)->(∀i s,i≠id->Q (.exit i) s->fk (.exit i) s)->bn C b fk s):bn C (.block id b) Q s:=
 afR λfk n q b x=>h fk n (λs ab=>q s (E2 s ab)) b x
theorem cR {j4:ak->Prop} {b:aC} (E2:∀s,j4 s->Q .ret s) (h:∀fk:Exit->ak->Prop,(∀s,eS (cD C b Q) s->fk .normal s)->(∀s,j4 s->fk .ret s)->(∀i s,Q (.exit i) s->fk (.exit i) s)->bn C b fk s):cD C b Q s:=
 afS λfk n q x=>h fk n (λs ab=>q s (E2 s ab)) x
theorem aE {β:Type} {c:bz} {t e:aC} {b:Bool} {x y:Option β} {r:β} (h:cond b x y=some r) (ad:b=true->x=some r->bn C t Q s) (af:b=false->y=some r->bn C e Q s) (ar:bu s c= .bool b:=by rfl):bn C (.cond c t e) Q s:=by
 rcases dH h with⟨rfl,h⟩|⟨rfl,h⟩
 .exact iT ar (ad rfl h)
 .exact n8 ar (af rfl h)
end
def aC.po:aC->ayd->aC×ayd
 | .ez r _,k::mx=>(.ez r (some k),mx)
 | .jM r a _,k::mx=>(.jM r a (some k),mx)
 | .seq a b,mx=>(.seq (a.po mx).1 (b.po (a.po mx).2).1,(b.po (a.po mx).2).2)
 | .cond c a b,mx=>(.cond c (a.po mx).1 (b.po (a.po mx).2).1,(b.po (a.po mx).2).2)
 | .block i a,mx=>(.block i (a.po mx).1,(a.po mx).2)
 | .loop a,mx=>(.loop (a.po mx).1,(a.po mx).2)
 |c,mx=>(c,mx)
def bK (n:Nat) (k:ayf) (f:Func) (mx:ayd):aC:=(((fW ⟨n,k⟩ (f.body.getD .skip)).getD .skip).po mx).1
def bL (x:aC) {c:aC} (h:x=c:=by
    conv=>lhs;reduce):aC:=c
end Go.eg
