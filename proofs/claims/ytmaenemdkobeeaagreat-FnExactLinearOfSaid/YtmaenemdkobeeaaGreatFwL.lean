/- Part of a proof that a law returns true for every input. No condition. -/
import Derived.Test.YtmaenemdkobeeaaGreatFwK
namespace Go.ek
open List Option Go.IntKind Nat Or
theorem sJ {α:Type} {xs:List α} {n:Nat} {x:α} (h:a_ xs (n:Int)=some x):xs[n]? =some x:=by simpa using cu h
theorem KK {α:Type} {h:Decidable True} (t e:α): @ite α True h t e=t:=if_pos trivial
theorem KL {α:Type} {h:Decidable False} (t e:α): @ite α False h t e=e:=if_neg id
theorem KM {α:Type} [BEq α] [ReflBEq α] (a:α):(a==a)=true:=BEq.rfl
theorem Tn {α:Type} (a b:α):(a≠b)=¬(a=b):=rfl
theorem To:J.owner .hole=none/\(∀b,J.owner (.bool b)=none)/\J.owner .fW=none/\(∀k n,J.owner (.int k n)=none)/\(∀x,J.owner (.str x)=none)/\J.owner .eh=none/\J.owner .au=none/\(∀x,J.owner (.slice x)=none)/\(∀n x,J.owner (.af n x)=none)/\
  (∀x,J.owner (.ref x)=none)/\(∀x,J.owner (.aG x)=none)/\(∀x,J.owner (.agg x)=none)/\(∀x,J.owner (.tuple x)=none)/\(∀f c,J.owner (.fn f c)=none)/\(∀x q,J.owner (.h x q)=some x):=
 ⟨rfl,λ_=>rfl,rfl,λ_ _=>rfl,λ_=>rfl,rfl,rfl,λ_=>rfl,λ_ _=>rfl,λ_=>rfl,λ_=>rfl,λ_=>rfl,λ_=>rfl,λ_ _=>rfl,λ_ _=>rfl⟩
theorem Tp:(¬False)=True:=not_false_eq_true
theorem Tq:(¬True)=False:=not_true_eq_false
theorem Tr:∀a b:Nat,(some a=some b)=(a=b):=λ_ _=>propext ⟨λh=>some.inj h,λh=>congrArg some h⟩
theorem Ts:(∀n,num n []=[])/\(∀n a as,num n (a::as)=(n,a)::num (n+1) as):=⟨λ_=>rfl,λ_ _ _=>rfl⟩
theorem Tt:∀s1:az,dN (some s1)=some (.hole,s1):=λ_=>rfl
theorem KN:(∀t o,sd t (.eM o)= .h t [])/\(∀(l:arL) t o,fin (aq l) (some t) (.eM o)=aq ((t,.eM o)::tC t l))/\(∀o,J.plain (.eM o)=false)/\(∀t o,dg t (.eM o)= .eM o)/\(∀t o,cB t (.eM o)= .eM o)/\
  (∀o,J.dS (.eM o)= .hole)/\(∀o,J.wd (.eM o)=1)/\(∀o,J.hv (.eM o)=true)/\(∀a b,uV (.eM a) (.eM b)=true)/\(∀s x q d o,c8.jR s ⟨.h x q,true,d,.eM o⟩=dY (nk x s) x (J.put q (.eM o) (s x)))/\(∀o,J.ad (.eM o)=[])/\(∀o,J.tree (.eM o)=true)/\(∀a b n m z,hr.ok ⟨.map a b,n,m,z⟩=true)/\(∀a b n m z,hr.flat ⟨.map a b,n,m,z⟩=true):=
 ⟨λ_ _=>rfl,λl t o=>by simp only[fin,J.plain,Bool.false_eq_true,if_false,J2,Bw],λ_=>rfl,λ_ _=>by unfold dg;rfl,λ_ _=>by unfold cB;rfl,λ_=>by simp only[J.dS],λ_=>by simp only[J.wd],λ_=>rfl,λ_ _=>rfl,λ_ _ _ _ _=>by simp[c8.jR],λ_=>by simp only[J.ad],λ_=>rfl,λ_ _ _ _ _=>rfl,λ_ _ _ _ _=>rfl⟩
def ab9:=PLift.up (aa KN<|aa Ts<|aa Tt<|aa Tr<|aa To<|aa Tp<|aa Tq<|aa @KK (aa @KL (aa @KM (aa @Tn aaW.down))))
def ab_:=PLift.up (aa KN<|aa Ts<|aa Tt<|aa Tr<|aa To<|aa Tp<|aa Tq<|aa @KK (aa @KL (aa @KM (aa @Tn aaX.down))))
def aca:=PLift.up (aa KN<|aa @KM<|aa @KK (aa @KL aaY.down))
def wZ (l:arH):arH:=l.foldr (λx acc=>if acc.contains x then acc else x::acc) []
theorem Tu {x:Nat}:∀{l:arH},x∈wZ l↔x∈l
 |[]=>Iff.rfl
 |y::l=>by
  have ih:=Tu (x:=x) (l:=l);have e:wZ (y::l)=if(wZ l).contains y then wZ l else y::wZ l:=rfl;rw[e];split
  .rename_i h;have bM:y∈wZ l:=by simpa using h
   constructor
   .intro ay;exact mem_cons_of_mem _ (ih.1 ay)
   .intro ay;rcases mem_cons.1 ay with rfl|ay
    .exact bM
    .exact ih.2 ay
  .simp only[mem_cons,ih]
def KO:arF->arF->arF
 |done,[]=>done
 |done,a::r=>KO (done++[wZ (a++a.flatMap λe=>(done[e]?).getD [])]) r
def acb (cK:arF):arF:=KO [] cK
def KP (c d:arF):Prop:=c.length=d.length/\∀(i x:Nat),x∈(c[i]?).getD []↔x∈(d[i]?).getD []
theorem Tv:∀(r c d:arF),KP c d->KP (KO c r) (BB d r)
 |[],c,d,h=>h
 |a::r,c,d,h=>by
  refine Tv r _ _ ⟨by simp[h.1],λi x=>?_⟩;rcases Nat.lt_trichotomy i c.length with al|al|al
  .rw[getElem?_append_left al,getElem?_append_left (by rw[<-h.1];exact al)];exact h.2 i x
  .rw[getElem?_append_right (by omega),getElem?_append_right (by rw[<-h.1];omega),al,Nat.sub_self,h.1,Nat.sub_self];simp only[getElem?_cons_zero,getD_some,Tu,mem_append,mem_flatMap];constructor
   .rintro(ay|⟨e,he,ay⟩)
    .exact .inl ay
    .exact .inr ⟨e,he,(h.2 e x).1 ay⟩
   .rintro(ay|⟨e,he,ay⟩)
    .exact .inl ay
    .exact .inr ⟨e,he,(h.2 e x).2 ay⟩
  .rw[getElem?_eq_none (by simp;omega),getElem?_eq_none (by simp[<-h.1];omega)]
theorem Tw {c d:arF} (h:KP c d):∀(aH:List f_) (j:Nat) (es:List (Nat×f_)),jq c j es aH=jq d j es aH
 |[],_,_=>rfl
 |f::aH,j,es=>by
  simp only[jq];rw[Tw h aH];congr 2;funext e;congr 1;rw[Bool.eq_iff_iff];simp only[contains_iff_mem];exact h.2 j e.1
theorem hc {cK:arF} {j:Nat} {es:List (Nat×f_)} {aH:List f_} (h:jq (acb cK) j es aH=true):jq (lH cK) j es aH=true:=by
 exact(Tw (Tv cK [] [] ⟨rfl,λ_ _=>Iff.rfl⟩) aH j es).symm.trans h
abbrev ro (d:Nat) (bO:eP):cn:=⟨some d,bO,none⟩
abbrev cg (d x:Nat):cn:=ro d (.hF (.t x))
abbrev eU (d x:Nat):cn:=ro d (.mY (.t x))
abbrev dU (d T x:Nat):cn:=ro d (.fo T (.t x))
abbrev eQ (d T x k:Nat):cn:=ro d (.gQ T (.t x) k)
abbrev rD (d T x i:Nat):cn:=ro d (.j0 T (.t x) (.t i))
abbrev mD (d T x:Nat):cn:=ro d (.len T (.t x))
abbrev mE (d x:Nat):cn:=ro d (.j6 (.t x))
abbrev nz (d:Nat) (o:BinOp) (T x y:Nat):cn:=ro d (.ff o T (.t x) (.t y))
abbrev g2 (d:Nat) (o:BinOp) (T x:Nat) (n:Int):cn:=ro d (.ff o T (.t x) (.c (.int .i64 n)))
abbrev BM (d:Nat) (n:Int):cn:=ro d (.hF (.c (.int .i64 n)))
abbrev i2 (d:Nat) (n:Int):cn:=ro d (.mY (.c (.int .i64 n)))
abbrev pr (d:Nat) (b:Bool):cn:=ro d (.mY (.c (.bool b)))
abbrev yS (d:Nat):cn:=ro d (.mY (.c .au))
abbrev w1 (d T:Nat):cn:=ro d (.lz T)
abbrev n_ (d g a:Nat):cn:=ro d (.call (.f g) [.t a])
abbrev sK (d g a b:Nat):cn:=ro d (.call (.f g) [.t a,.t b])
abbrev acd (d g a b c e:Nat):cn:=ro d (.call (.f g) [.t a,.t b,.t c,.t e])
abbrev Tx (d x k:Nat):cn:=ro d (.ex (.t x) k)
abbrev sL (d x:Nat):cn:=ro d (.un .not (.t x))
abbrev KQ (d T x:Nat):cn:=ro d (.dz T 1 [(0,.t x)])
abbrev KR (d T cC x y:Nat):cn:=ro d (.app T cC (.t x) (.t y))
abbrev m6 (T x y:Nat):cn:=⟨none,.j2 T (.t x) (.t y),none⟩
abbrev Ty (d A B x:Nat):cn:=ro d (.j7 A B (.t x))
theorem ba.KS {C:ch} (bB:C.fI) {f:FuncId} {fn:Func} {c:Code} {cR:aN} {fx:arH} {as outs:arM} {r:J} (fD:List ResultVar) (l:arL) (bo:C.P.funcs[f]? =some fn) (ab:fn.body=some c)
  (lg:(fn.name== "runtime.NumGoroutine")=false) (ad:fY ⟨fn.ntmps,fx⟩ c=some cR.strip) (aZ:as.length<=fn.ntmps) (hN:fn.results.toList=fD) (hl:num 0 as=l)
  (h:∀Q:Exit->az->Prop,(∀s,eB (Ends C fx fD r outs) s->Q .ret s)->(∀s,eB (Ends C fx fD r outs) s->Q .normal s)->a6 C cR Q (aq l)) (aw:cR.plain=true:=by kernel_rfl):ba C f as r outs:=by
 subst hN hl;exact ba.aaB bB bo ab lg ad aZ h aw
theorem n9.KS {C:ch} (bB:C.fI) {f:FuncId} {fn:Func} {c:Code} {cR:aN} {fx:arH} {as outs:arM} {r:J} {k m:Nat} (fD:List ResultVar) (l:arL) (bo:C.P.funcs[f]? =some fn) (ab:fn.body=some c)
  (lg:(fn.name== "runtime.NumGoroutine")=false) (ad:fY ⟨fn.ntmps,fx⟩ c=some cR.strip) (aZ:as.length<=fn.ntmps) (ao:cR.oK (Fx C f fx as.length m k)) (hN:fn.results.toList=fD) (hl:num 0 as=l)
  (h:∀Q:Exit->az->Prop,(∀s,eB (Ends C fx fD r outs) s->Q .ret s)->(∀s,eB (Ends C fx fD r outs) s->Q .normal s)->a6 C cR Q (aq l)):n9 C f m k as r outs:=by
 subst hN hl;exact n9.of_wp bB bo ab lg ad aZ ao h
theorem ba.ace {C:ch} (bB:C.fI) {f:FuncId} {fn:Func} {c:Code} {cR:aN} {fx:arH} {as outs:arM} {r:J} (fD:List ResultVar) (l:arL) (bo:C.P.funcs[f]? =some fn) (ab:fn.body=some c)
  (lg:(fn.name== "runtime.NumGoroutine")=false) (ad:fY ⟨fn.ntmps,fx⟩ c=some cR.strip) (aZ:as.length<=fn.ntmps) (ao:cR.oK (BL C)) (hN:fn.results.toList=fD) (hl:num 0 as=l)
  (h:∀Q:Exit->az->Prop,(∀s,eB (Ends C fx fD r outs) s->Q .ret s)->(∀s,eB (Ends C fx fD r outs) s->Q .normal s)->a6 C cR Q (aq l)):ba C f as r outs:=by
 subst hN hl;exact ba.ab7 bB bo ab lg ad aZ ao h
theorem hz {b:Bool} (h:(!b)=true):b=false:=by cases b<;>first|rfl|cases h
theorem bV {b:Bool} (h:(!b)=false):b=true:=by cases b<;>first|rfl|cases h
theorem acf {α:Type} {sz:Nat} {o:Bool×α->J} {u:α->J} (h:(o∘λx=>(false,x))=u) (e:List α):fJ (.af sz (e.map u)) (.af sz ((e.map λx=>(false,x)).map o)):=by
 rw[List.map_map,h];exact .refl _
def tF (p:arH) (ros:List cn):List cn:=p.map λi=>ros.getD i ⟨none,.bad,none⟩
def oO (cK:arF) (b a:Nat):arF:=cK.set b (a::(cK[b]?).getD [])
def w2 (p:arH) (cK:arF):arF:=p.map λi=>((cK[i]?).getD []).map λe=>p.idxOf e
theorem BN {p:arH} {i:Nat} (h:i∈p):p[p.idxOf i]? =some i:=by
 have hl:=idxOf_lt_length_of_mem h;rw[getElem?_eq_getElem hl,getElem_idxOf hl]
theorem acg {p:arH} {i j:Nat} (al:i∈p) (bP:j∈p) (h:p.idxOf i=p.idxOf j):i=j:=by
 have a:=BN al;rw[h,BN bP]at a;exact(some.inj a).symm
theorem Tz {C:ch} {ros:List cn} {p:arH} (aw:∀i∈p,i<ros.length):∀(l:arH) (s:az) (K:az->Prop),(∀i∈l,i∈p)->jS C (tF p ros) s (l.map p.idxOf) K->jS C ros s l K
 |[],_,_,_,h=>h
 |i::l,s,K,hl,h=>by
  have al:=hl i (by simp);have aW:(tF p ros)[p.idxOf i]? =some (ros.getD i ⟨none,.bad,none⟩):=by
   rw[tF,getElem?_map,BN al];rfl
  have a8:ros[i]? =some (ros.getD i ⟨none,.bad,none⟩):=by
   rw[getD_eq_getElem?_getD,getElem?_eq_getElem (aw i al)];rfl
  rw[map_cons,jS,aW]at h;rw[jS,a8];exact E0 h λs1 ae=>Tz aw l s1 K (λj bP=>hl j (by simp[bP])) ae
theorem ach {cK:arF} {p l:arH} (aZ:p.Nodup) (hm:∀i,i∈p↔i<cK.length) (h:rm cK l):rm (w2 p cK) (l.map p.idxOf):=by
 obtain⟨ae,ag,aK⟩:=h;have yT:∀i∈l,i∈p:=λi al=>(hm i).2 ((ag i).1 al);refine⟨?_,λj=>?_,?_⟩
 .rw[Nodup,pairwise_map];exact Pairwise.imp_of_mem (λb6 ab jK e=>jK (acg (yT _ b6) (yT _ ab) e)) ae
 .rw[w2,length_map,mem_map];constructor
  .rintro⟨i,al,rfl⟩;exact idxOf_lt_length_of_mem (yT i al)
  .intro bP;have KT:p[j]∈p:=getElem_mem bP;refine⟨p[j],(ag _).2 ((hm _).1 KT),?_⟩;have e:=BN KT;have e2:=idxOf_lt_length_of_mem KT;rw[getElem?_eq_getElem e2]at e;exact(getElem_inj aZ).1 (some.inj e)
 .intro u j v hu e he;obtain⟨wG,w0,rfl,rfl,hw⟩:=map_eq_append_iff.1 hu;obtain⟨i,v0,rfl,rfl,rfl⟩:=map_eq_cons_iff.1 hw;have al:i∈p:=yT i (by simp);rw[w2,getElem?_map,BN al]at he;simp only[map_some,getD_some,mem_map]at he;obtain⟨fS,aci,rfl⟩:=he;exact List.mem_map_of_mem (aK wG i v0 rfl fS aci)
theorem TA {cK:arF} {l u v:arH} {a b:Nat} (h:rm cK l) (hl:l=u++a::v) (ab:b∈v) (jK:a≠b):rm (oO cK b a) l:=by
 obtain⟨ae,ag,aK⟩:=h;refine⟨ae,λi=>by rw[ag,oO,length_set],λsq i v2 hu e he=>?_⟩;by_cases TB:i=b
 .subst TB;have e2:i<cK.length:=(ag i).1 (by rw[hl];simp[ab]);rw[oO,getElem?_set_self e2]at he;simp only[getD_some,mem_cons]at he;rcases he with rfl|he
  .have e:=hl.symm.trans hu;rcases append_eq_append_iff.1 e with⟨c,k_,jM⟩|⟨c,k_,jM⟩
   .cases c with
    |nil=>simp at jM;exact absurd jM.1 jK
    |cons x c=>simp at jM;rw[k_,jM.1];simp
   .cases c with
    |nil=>simp at jM;exact absurd jM.1.symm jK
    |cons x c=>
     simp at jM;exfalso;rw[hl,k_,<-jM.1]at ae;have:=(nodup_append.1 ae).2.2 i (by simp) i (by simp[ab]);exact this rfl
  .exact aK sq i v2 hu e he
 .rw[oO,getElem?_set_ne (λe=>TB e.symm)]at he;exact aK sq i v2 hu e he
theorem acj {cK:arF} {l:arH} {a b:Nat} (h:rm cK l) (b6:a<cK.length) (ab:b<cK.length) (jK:a≠b):rm (oO cK b a) l\/rm (oO cK a b) l:=by
 obtain⟨u,v,hl⟩:=append_of_mem ((h.2.1 a).2 b6);have uO:=(h.2.1 b).2 ab;rw[hl]at uO;simp only[mem_append,mem_cons]at uO;rcases uO with ack|rfl|acm
 .obtain⟨so,sq,rfl⟩:=append_of_mem ack;exact .inr (TA h (u:=so) (v:=sq++a::v) (by rw[hl];simp) (by simp) (λe=>jK e.symm))
 .exact absurd rfl jK
 .exact .inl (TA h hl acm jK)
theorem TC {C:ch} {ros:List cn} {cK:arF} {s:az} {K:az->Prop} (a b:Nat) (p:arH) (hlen:cK.length=ros.length) (ax:(decide (a<cK.length)&&decide (b<cK.length)&&decide (a≠b)&&decide p.Nodup&&(range cK.length).all (λi=>p.contains i)&&p.all (λi=>decide (i<cK.length)))=true)
  (ae:dk C s ros (some []) (λacc s=>jq (lH (oO cK b a)) 0 [] (acc.getD []).reverse=true/\K s))
  (ag:dk C s (tF p ros) (some []) (λacc s=>jq (lH (w2 p (oO cK a b))) 0 [] (acc.getD []).reverse=true/\K s)):∀l,rm cK l->jS C ros s l K:=by
 simp only[Bool.and_eq_true,decide_eq_true_eq,List.all_eq_true]at ax;obtain⟨⟨⟨⟨⟨b6,ab⟩,jK⟩,aZ⟩,ew⟩,FA⟩:=ax;intro l hl;have TD:∀i j,(oO cK i j).length=cK.length:=λi j=>by rw[oO,length_set]
 rcases acj hl b6 ab jK with h|h
 .exact BC ((TD _ _).trans hlen) ae l h
 .have hm:∀i,i∈p↔i<cK.length:=by
   intro i;refine⟨FA i,λal=>?_⟩;simpa using ew i (mem_range.2 al)
  have yT:=ach aZ (λi=>by rw[hm,TD]) h;refine Tz (λi al=>by rw[<-hlen];exact FA i al) l s K (λi al=>(hm i).2 ((hl.2.1 i).1 al)) ?_;exact BC (by rw[w2,tF,length_map,length_map]) ag _ yT
theorem acn {C:ch} {Q:Exit->az->Prop} {l:arL} {ros:List cn} {cK:arF} {k:arH} (a b:Nat) (p:arH) (hlen:cK.length=ros.length) (ax:(decide (a<cK.length)&&decide (b<cK.length)&&decide (a≠b)&&decide p.Nodup&&(range cK.length).all (λi=>p.contains i)&&p.all (λi=>decide (i<cK.length)))=true)
  (cb:arL) (ae:∀P:arL->Prop,P cb->dk C (aq l) ros (some []) (λacc s=>jq (lH (oO cK b a)) 0 [] (acc.getD []).reverse=true/\P (gz k s)))
  (ag:∀P:arL->Prop,P cb->dk C (aq l) (tF p ros) (some []) (λacc s=>jq (lH (w2 p (oO cK a b))) 0 [] (acc.getD []).reverse=true/\P (gz k s))) (ao:Q .normal (aq cb)):
  a6 C (.jC ros cK (some k)) Q (aq l):=
 TC (K:=λs=>Q .normal (aq (gz k s))) a b p hlen ax (ae (λl=>Q .normal (aq l)) ao) (ag (λl=>Q .normal (aq l)) ao)
theorem aco {C:ch} {Q:Exit->az->Prop} {l:arL} {ros:List cn} {cK:arF} {k:arH} {c:aN} (a b:Nat) (p:arH) (hlen:cK.length=ros.length) (ax:(decide (a<cK.length)&&decide (b<cK.length)&&decide (a≠b)&&decide p.Nodup&&(range cK.length).all (λi=>p.contains i)&&p.all (λi=>decide (i<cK.length)))=true)
  (cb:arL) (ae:∀P:arL->Prop,P cb->dk C (aq l) ros (some []) (λacc s=>jq (lH (oO cK b a)) 0 [] (acc.getD []).reverse=true/\P (gz k s)))
  (ag:∀P:arL->Prop,P cb->dk C (aq l) (tF p ros) (some []) (λacc s=>jq (lH (w2 p (oO cK a b))) 0 [] (acc.getD []).reverse=true/\P (gz k s))) (ao:a6 C c Q (aq cb)):
  a6 C (.seq (.jC ros cK (some k)) c) Q (aq l):=
 TC (K:=λs=>eB (a6 C c Q) (aq (gz k s))) a b p hlen ax (ae (λl=>eB (a6 C c Q) (aq l)) (.inl ao)) (ag (λl=>eB (a6 C c Q) (aq l)) (.inl ao))
section
variable {C:ch} {s:az} {l:arL} {Q:Exit->az->Prop}
theorem oP {fx:arH} {fD:List ResultVar} {r:J} (ds:arM) (ag:r=Fa ds:=by cases gU (by assumption);rfl) (ae:fD.map (rq C s)=ds.map some:=by rfl) (aK:(fD.map km).Nodup:=by decide):Ends C fx fD r [] s:=
 lj ds ae ag aK aaC
theorem dV {fx:arH} {fD:List ResultVar} {r:J} (k:∀s,eB (Ends C fx fD r []) s->Q .ret s) (ds:arM) (ag:r=Fa ds:=by cases gU (by assumption);rfl) (ae:fD.map (rq C s)=ds.map some:=by rfl) (aK:(fD.map km).Nodup:=by decide):a6 C .ret Q s:=
 jr (k _ (.inl (oP ds ag ae aK)))
theorem aA {oF:az->Prop} {a b:aN} (BO:∀s,oF s->Q .ret s) (h:∀fg:Exit->az->Prop,(∀s,eB (a6 C b Q) s->fg .normal s)->(∀s,oF s->fg .ret s)->(∀i s,Q (.exit i) s->fg (.exit i) s)->a6 C a fg s):a6 C (.seq a b) Q s:=
 aay λfg n q x=>h fg n (λs ad=>q s (BO s ad)) x
theorem bh {oF:az->Prop} {id:Nat} {b:aN} (BO:∀s,oF s->Q .ret s) (h:∀fg:Exit->az->Prop,(∀s,Q .normal s->fg .normal s)->(∀s,oF s->fg .ret s)->(∀s,Q .normal s->fg (.exit id) s)->(∀i s,i≠id->Q (.exit i) s->fg (.exit i) s)->a6 C b fg s):a6 C (.block id b) Q s:=
 aaz λfg n q b x=>h fg n (λs ad=>q s (BO s ad)) b x
theorem cV {oF:az->Prop} {b:aN} (BO:∀s,oF s->Q .ret s) (h:∀fg:Exit->az->Prop,(∀s,eB (cL C b Q) s->fg .normal s)->(∀s,oF s->fg .ret s)->(∀i s,Q (.exit i) s->fg (.exit i) s)->a6 C b fg s):cL C b Q s:=
 aaA λfg n q x=>h fg n (λs ad=>q s (BO s ad)) x
theorem dy {β:Type} {f:Nat->Option β} {v:β} {b:aN} {cb:arL} (h:bU f=some v) (k:∀n,f n=some v->cL C b Q (aq cb)) (hw:cb.map (·.2)=cb.map (λp=>s p.1):=by rfl):a6 C (.loop b) Q s:=
 let⟨n,aZ⟩:=mo h
 oM (.inr ⟨cb,bx hw,k n aZ⟩)
theorem aO {β:Type} {c:bl} {t e:aN} {b:Bool} {x y:Option β} {r:β} (h:cond b x y=some r) (ae:b=true->x=some r->a6 C t Q s) (ag:b=false->y=some r->a6 C e Q s) (ax:bs s c= .bool b:=by rfl):a6 C (.cond c t e) Q s:=by
 rcases dH h with⟨rfl,h⟩|⟨rfl,h⟩
 .exact iE ax (ae rfl h)
 .exact m3 ax (ag rfl h)
end
def aN.oa:aN->arF->aN×arF
 | .fK r _,k::ln=>(.fK r (some k),ln)
 | .jC r a _,k::ln=>(.jC r a (some k),ln)
 | .seq a b,ln=>(.seq (a.oa ln).1 (b.oa (a.oa ln).2).1,(b.oa (a.oa ln).2).2)
 | .cond c a b,ln=>(.cond c (a.oa ln).1 (b.oa (a.oa ln).2).1,(b.oa (a.oa ln).2).2)
 | .block i a,ln=>(.block i (a.oa ln).1,(a.oa ln).2)
 | .loop a,ln=>(.loop (a.oa ln).1,(a.oa ln).2)
 |c,ln=>(c,ln)
def bJ (n:Nat) (k:arH) (f:Func) (ln:arF):aN:=(((fY ⟨n,k⟩ (f.body.getD .skip)).getD .skip).oa ln).1
def bK (x:aN) {c:aN} (h:x=c:=by
    conv=>lhs;reduce):aN:=c
end Go.ek
