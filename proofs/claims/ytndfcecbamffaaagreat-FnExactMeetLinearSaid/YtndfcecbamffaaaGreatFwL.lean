/- Part of a proof that a law returns true for every input. No condition. -/
import Derived.Test.YtndfcecbamffaaaGreatFwK
namespace Go.dD
open List Option Go.IntKind Nat Or
theorem s9 {α:Type} {xs:List α} {n:Nat} {x:α} (h:bZ xs (n:Int)=some x):xs[n]? =some x:=by simpa using da h
theorem Ga {α:Type} {h:Decidable True} (t e:α): @ite α True h t e=t:=if_pos trivial
theorem Gb {α:Type} {h:Decidable False} (t e:α): @ite α False h t e=e:=if_neg id
theorem Gc {α:Type} [BEq α] [ReflBEq α] (a:α):(a==a)=true:=BEq.rfl
theorem Ni {α:Type} (a b:α):(a≠b)=¬(a=b):=rfl
theorem Nj:I.owner .hole=none/\(∀b,I.owner (.bool b)=none)/\I.owner .fo=none/\(∀k n,I.owner (.int k n)=none)/\(∀x,I.owner (.str x)=none)/\I.owner .dM=none/\I.owner .ah=none/\(∀x,I.owner (.slice x)=none)/\(∀n x,I.owner (.ad n x)=none)/\
  (∀x,I.owner (.ref x)=none)/\(∀x,I.owner (.ai x)=none)/\(∀x,I.owner (.agg x)=none)/\(∀x,I.owner (.tuple x)=none)/\(∀f c,I.owner (.fn f c)=none)/\(∀x q,I.owner (.h x q)=some x):=
 ⟨rfl,λ_=>rfl,rfl,λ_ _=>rfl,λ_=>rfl,rfl,rfl,λ_=>rfl,λ_ _=>rfl,λ_=>rfl,λ_=>rfl,λ_=>rfl,λ_=>rfl,λ_ _=>rfl,λ_ _=>rfl⟩
theorem Nk:(¬False)=True:=not_false_eq_true
theorem Nl:(¬True)=False:=not_true_eq_false
theorem Nm:∀a b:Nat,(some a=some b)=(a=b):=λ_ _=>propext ⟨λh=>some.inj h,λh=>congrArg some h⟩
theorem Nn:(∀n,num n []=[])/\(∀n a as,num n (a::as)=(n,a)::num (n+1) as):=⟨λ_=>rfl,λ_ _ _=>rfl⟩
theorem Np:∀s1:ao,du (some s1)=some (.hole,s1):=λ_=>rfl
theorem Gd:(∀t o,qz t (.dN o)= .h t [])/\(∀(l:ahH) t o,fin (an l) (some t) (.dN o)=an ((t,.dN o)::pZ t l))/\(∀o,I.plain (.dN o)=false)/\(∀t o,cT t (.dN o)= .dN o)/\(∀t o,cp t (.dN o)= .dN o)/\
  (∀o,I.cZ (.dN o)= .hole)/\(∀o,I.wd (.dN o)=1)/\(∀o,I.gE (.dN o)=true)/\(∀a b,sO (.dN a) (.dN b)=true)/\(∀s x q d o,cJ.je s ⟨.h x q,true,d,.dN o⟩=cY (kR x s) x (I.put q (.dN o) (s x)))/\(∀o,I.ae (.dN o)=[])/\(∀o,I.tree (.dN o)=true)/\(∀a b n m z,gD.ok ⟨.map a b,n,m,z⟩=true)/\(∀a b n m z,gD.flat ⟨.map a b,n,m,z⟩=true):=
 ⟨λ_ _=>rfl,λl t o=>by simp only[fin,I.plain,Bool.false_eq_true,if_false,yO,pY],λ_=>rfl,λ_ _=>by unfold cT;rfl,λ_ _=>by unfold cp;rfl,λ_=>by simp only[I.cZ],λ_=>by simp only[I.wd],λ_=>rfl,λ_ _=>rfl,λ_ _ _ _ _=>by simp[cJ.je],λ_=>by simp only[I.ae],λ_=>rfl,λ_ _ _ _ _=>rfl,λ_ _ _ _ _=>rfl⟩
def Wd:=PLift.up (ab Gd<|ab Nn<|ab Np<|ab Nm<|ab Nj<|ab Nk<|ab Nl<|ab @Ga (ab @Gb (ab @Gc (ab @Ni Vw.down))))
def We:=PLift.up (ab Gd<|ab Nn<|ab Np<|ab Nm<|ab Nj<|ab Nk<|ab Nl<|ab @Ga (ab @Gb (ab @Gc (ab @Ni Vx.down))))
def Wf:=PLift.up (ab Gd<|ab @Gc<|ab @Ga (ab @Gb Vy.down))
def uO (l:ahC):ahC:=l.foldr (λx acc=>if acc.contains x then acc else x::acc) []
theorem Nq {x:Nat}:∀{l:ahC},x∈uO l↔x∈l
 |[]=>Iff.rfl
 |y::l=>by
  have ih:=Nq (x:=x) (l:=l);have e:uO (y::l)=if(uO l).contains y then uO l else y::uO l:=rfl;rw[e];split
  .rename_i h;have bO:y∈uO l:=by simpa using h
   constructor
   .intro aA;exact mem_cons_of_mem _ (ih.1 aA)
   .intro aA;rcases mem_cons.1 aA with rfl|aA
    .exact bO
    .exact ih.2 aA
  .simp only[mem_cons,ih]
def Ge:ahA->ahA->ahA
 |done,[]=>done
 |done,a::r=>Ge (done++[uO (a++a.flatMap λe=>(done[e]?).getD [])]) r
def Wg (bT:ahA):ahA:=Ge [] bT
def Gf (c d:ahA):Prop:=c.length=d.length/\∀(i x:Nat),x∈(c[i]?).getD []↔x∈(d[i]?).getD []
theorem Nr:∀(r c d:ahA),Gf c d->Gf (Ge c r) (yT d r)
 |[],c,d,h=>h
 |a::r,c,d,h=>by
  refine Nr r _ _ ⟨by simp[h.1],λi x=>?_⟩;rcases Nat.lt_trichotomy i c.length with aq|aq|aq
  .rw[getElem?_append_left aq,getElem?_append_left (by rw[<-h.1];exact aq)];exact h.2 i x
  .rw[getElem?_append_right (by omega),getElem?_append_right (by rw[<-h.1];omega),aq,Nat.sub_self,h.1,Nat.sub_self];simp only[getElem?_cons_zero,getD_some,Nq,mem_append,mem_flatMap];constructor
   .rintro(aA|⟨e,he,aA⟩)
    .exact .inl aA
    .exact .inr ⟨e,he,(h.2 e x).1 aA⟩
   .rintro(aA|⟨e,he,aA⟩)
    .exact .inl aA
    .exact .inr ⟨e,he,(h.2 e x).2 aA⟩
  .rw[getElem?_eq_none (by simp;omega),getElem?_eq_none (by simp[<-h.1];omega)]
theorem Ns {c d:ahA} (h:Gf c d):∀(aG:List fh) (az:Nat) (es:List (Nat×fh)),iK c az es aG=iK d az es aG
 |[],_,_=>rfl
 |f::aG,az,es=>by
  simp only[iK];rw[Ns h aG];congr 2;funext e;congr 1;rw[Bool.eq_iff_iff];simp only[contains_iff_mem];exact h.2 az e.1
theorem gJ {bT:ahA} {az:Nat} {es:List (Nat×fh)} {aG:List fh} (h:iK (Wg bT) az es aG=true):iK (kD bT) az es aG=true:=by
 exact(Ns (Nr bT [] [] ⟨rfl,λ_ _=>Iff.rfl⟩) aG az es).symm.trans h
abbrev ro (d:Nat) (bE:dU):bW:=⟨some d,bE,none⟩
abbrev bG (d x:Nat):bW:=ro d (.gI (.t x))
abbrev ep (d x:Nat):bW:=ro d (.lW (.t x))
abbrev b5 (d T x:Nat):bW:=ro d (.e_ T (.t x))
abbrev c_ (d T x k:Nat):bW:=ro d (.gZ T (.t x) k)
abbrev o4 (d T x i:Nat):bW:=ro d (.jr T (.t x) (.t i))
abbrev kp (d T x:Nat):bW:=ro d (.len T (.t x))
abbrev m6 (d x:Nat):bW:=ro d (.jL (.t x))
abbrev kq (d:Nat) (o:BinOp) (T x y:Nat):bW:=ro d (.fa o T (.t x) (.t y))
abbrev hJ (d:Nat) (o:BinOp) (T x:Nat) (n:Int):bW:=ro d (.fa o T (.t x) (.c (.int .i64 n)))
abbrev uP (d:Nat) (n:Int):bW:=ro d (.gI (.c (.int .i64 n)))
abbrev qX (d:Nat) (n:Int):bW:=ro d (.lW (.c (.int .i64 n)))
abbrev ji (d:Nat) (b:Bool):bW:=ro d (.lW (.c (.bool b)))
abbrev uQ (d:Nat):bW:=ro d (.lW (.c .ah))
abbrev hL (d T:Nat):bW:=ro d (.mT T)
abbrev gK (d g a:Nat):bW:=ro d (.call (.f g) [.t a])
abbrev kH (d g a b:Nat):bW:=ro d (.call (.f g) [.t a,.t b])
abbrev wq (d g a b c:Nat):bW:=ro d (.call (.f g) [.t a,.t b,.t c])
abbrev wt (d x k:Nat):bW:=ro d (.ex (.t x) k)
abbrev s_ (d x:Nat):bW:=ro d (.un .not (.t x))
abbrev o5 (d T x:Nat):bW:=ro d (.c5 T 1 [(0,.t x)])
abbrev oa (d T cb x y:Nat):bW:=ro d (.app T cb (.t x) (.t y))
abbrev gn (T x y:Nat):bW:=⟨none,.kT T (.t x) (.t y),none⟩
abbrev Nt (d A B x:Nat):bW:=ro d (.jv A B (.t x))
theorem bt.Nu {C:bV} (bx:C.eN) {f:FuncId} {fn:Func} {c:Code} {e1:aT} {fx:ahC} {as outs:ahI} {r:I} (eU:List ResultVar) (l:ahH) (bS:C.P.funcs[f]? =some fn) (U:fn.body=some c)
  (lh:(fn.name== "runtime.NumGoroutine")=false) (ae:ft ⟨fn.ntmps,fx⟩ c=some e1.strip) (ba:as.length<=fn.ntmps) (gR:fn.results.toList=eU) (hl:num 0 as=l)
  (h:∀Q:Exit->ao->Prop,(∀s,eK (Ends C fx eU r outs) s->Q .ret s)->(∀s,eK (Ends C fx eU r outs) s->Q .normal s)->bp C e1 Q (an l)) (aw:e1.plain=true:=by kernel_rfl):bt C f as r outs:=by
 subst gR hl;exact bt.Vc bx bS U lh ae ba h aw
theorem rW.Nu {C:bV} (bx:C.eN) {f:FuncId} {fn:Func} {c:Code} {e1:aT} {fx:ahC} {as outs:ahI} {r:I} {k m:Nat} (eU:List ResultVar) (l:ahH) (bS:C.P.funcs[f]? =some fn) (U:fn.body=some c)
  (lh:(fn.name== "runtime.NumGoroutine")=false) (ae:ft ⟨fn.ntmps,fx⟩ c=some e1.strip) (ba:as.length<=fn.ntmps) (au:e1.n5 (F_ C f fx as.length m k)) (gR:fn.results.toList=eU) (hl:num 0 as=l)
  (h:∀Q:Exit->ao->Prop,(∀s,eK (Ends C fx eU r outs) s->Q .ret s)->(∀s,eK (Ends C fx eU r outs) s->Q .normal s)->bp C e1 Q (an l)):rW C f m k as r outs:=by
 subst gR hl;exact rW.of_wp bx bS U lh ae ba au h
theorem h1 {b:Bool} (h:(!b)=true):b=false:=by cases b<;>first|rfl|cases h
theorem cg {b:Bool} (h:(!b)=false):b=true:=by cases b<;>first|rfl|cases h
theorem BS {α:Type} {sz:Nat} {o:Bool×α->I} {u:α->I} (h:(o∘λx=>(false,x))=u) (e:List α):eT (.ad sz (e.map u)) (.ad sz ((e.map λx=>(false,x)).map o)):=by
 rw[List.map_map,h];exact .refl _
def ta (p:ahC) (ros:List bW):List bW:=p.map λi=>ros.getD i ⟨none,.bad,none⟩
def o6 (bT:ahA) (b a:Nat):ahA:=bT.set b (a::(bT[b]?).getD [])
def wu (p:ahC) (bT:ahA):ahA:=p.map λi=>((bT[i]?).getD []).map λe=>p.idxOf e
theorem zb {p:ahC} {i:Nat} (h:i∈p):p[p.idxOf i]? =some i:=by
 have hl:=idxOf_lt_length_of_mem h;rw[getElem?_eq_getElem hl,getElem_idxOf hl]
theorem Wh {p:ahC} {i az:Nat} (aq:i∈p) (ch:az∈p) (h:p.idxOf i=p.idxOf az):i=az:=by
 have a:=zb aq;rw[h,zb ch]at a;exact(some.inj a).symm
theorem Nv {C:bV} {ros:List bW} {p:ahC} (aw:∀i∈p,i<ros.length):∀(l:ahC) (s:ao) (K:ao->Prop),(∀i∈l,i∈p)->g2 C (ta p ros) s (l.map p.idxOf) K->g2 C ros s l K
 |[],_,_,_,h=>h
 |i::l,s,K,hl,h=>by
  have aq:=hl i (by simp);have a1:(ta p ros)[p.idxOf i]? =some (ros.getD i ⟨none,.bad,none⟩):=by
   rw[ta,getElem?_map,zb aq];rfl
  have bc:ros[i]? =some (ros.getD i ⟨none,.bad,none⟩):=by
   rw[getD_eq_getElem?_getD,getElem?_eq_getElem (aw i aq)];rfl
  rw[map_cons,g2,a1]at h;rw[g2,bc];exact yK h λs1 af=>Nv aw l s1 K (λaz ch=>hl az (by simp[ch])) af
theorem Wi {bT:ahA} {p l:ahC} (ba:p.Nodup) (hm:∀i,i∈p↔i<bT.length) (h:oX bT l):oX (wu p bT) (l.map p.idxOf):=by
 obtain⟨af,ag,aJ⟩:=h;have wv:∀i∈l,i∈p:=λi aq=>(hm i).2 ((ag i).1 aq);refine⟨?_,λaz=>?_,?_⟩
 .rw[Nodup,pairwise_map];exact Pairwise.imp_of_mem (λbY U iY e=>iY (Wh (wv _ bY) (wv _ U) e)) af
 .rw[wu,length_map,mem_map];constructor
  .rintro⟨i,aq,rfl⟩;exact idxOf_lt_length_of_mem (wv i aq)
  .intro ch;have Gg:p[az]∈p:=getElem_mem ch;refine⟨p[az],(ag _).2 ((hm _).1 Gg),?_⟩;have e:=zb Gg;have en:=idxOf_lt_length_of_mem Gg;rw[getElem?_eq_getElem en]at e;exact(getElem_inj ba).1 (some.inj e)
 .intro u az v hu e he;obtain⟨uC,w0,rfl,rfl,hw⟩:=map_eq_append_iff.1 hu;obtain⟨i,v0,rfl,rfl,rfl⟩:=map_eq_cons_iff.1 hw;have aq:i∈p:=wv i (by simp);rw[wu,getElem?_map,zb aq]at he;simp only[map_some,getD_some,mem_map]at he;obtain⟨fV,Wj,rfl⟩:=he;exact List.mem_map_of_mem (aJ uC i v0 rfl fV Wj)
theorem Nw {bT:ahA} {l u v:ahC} {a b:Nat} (h:oX bT l) (hl:l=u++a::v) (U:b∈v) (iY:a≠b):oX (o6 bT b a) l:=by
 obtain⟨af,ag,aJ⟩:=h;refine⟨af,λi=>by rw[ag,o6,length_set],λoQ i v2 hu e he=>?_⟩;by_cases Nx:i=b
 .subst Nx;have en:i<bT.length:=(ag i).1 (by rw[hl];simp[U]);rw[o6,getElem?_set_self en]at he;simp only[getD_some,mem_cons]at he;rcases he with rfl|he
  .have e:=hl.symm.trans hu;rcases append_eq_append_iff.1 e with⟨c,sL,lT⟩|⟨c,sL,lT⟩
   .cases c with
    |nil=>simp at lT;exact absurd lT.1 iY
    |cons x c=>simp at lT;rw[sL,lT.1];simp
   .cases c with
    |nil=>simp at lT;exact absurd lT.1.symm iY
    |cons x c=>
     simp at lT;exfalso;rw[hl,sL,<-lT.1]at af;have:=(nodup_append.1 af).2.2 i (by simp) i (by simp[U]);exact this rfl
  .exact aJ oQ i v2 hu e he
 .rw[o6,getElem?_set_ne (λe=>Nx e.symm)]at he;exact aJ oQ i v2 hu e he
theorem Wk {bT:ahA} {l:ahC} {a b:Nat} (h:oX bT l) (bY:a<bT.length) (U:b<bT.length) (iY:a≠b):oX (o6 bT b a) l\/oX (o6 bT a b) l:=by
 obtain⟨u,v,hl⟩:=append_of_mem ((h.2.1 a).2 bY);have sG:=(h.2.1 b).2 U;rw[hl]at sG;simp only[mem_append,mem_cons]at sG;rcases sG with Wl|rfl|Wm
 .obtain⟨rK,oQ,rfl⟩:=append_of_mem Wl;exact .inr (Nw h (u:=rK) (v:=oQ++a::v) (by rw[hl];simp) (by simp) (λe=>iY e.symm))
 .exact absurd rfl iY
 .exact .inl (Nw h hl Wm iY)
theorem Wn {C:bV} {ros:List bW} {bT:ahA} {s:ao} {K:ao->Prop} (a b:Nat) (p:ahC) (hlen:bT.length=ros.length) (aC:(decide (a<bT.length)&&decide (b<bT.length)&&decide (a≠b)&&decide p.Nodup&&(range bT.length).all (λi=>p.contains i)&&p.all (λi=>decide (i<bT.length)))=true)
  (af:cS C s ros (some []) (λacc s=>iK (kD (o6 bT b a)) 0 [] (acc.getD []).reverse=true/\K s))
  (ag:cS C s (ta p ros) (some []) (λacc s=>iK (kD (wu p (o6 bT a b))) 0 [] (acc.getD []).reverse=true/\K s)):∀l,oX bT l->g2 C ros s l K:=by
 simp only[Bool.and_eq_true,decide_eq_true_eq,List.all_eq_true]at aC;obtain⟨⟨⟨⟨⟨bY,U⟩,iY⟩,ba⟩,hc⟩,Ny⟩:=aC;intro l hl;have Nz:∀i az,(o6 bT i az).length=bT.length:=λi az=>by rw[o6,length_set]
 rcases Wk hl bY U iY with h|h
 .exact yU ((Nz _ _).trans hlen) af l h
 .have hm:∀i,i∈p↔i<bT.length:=by
   intro i;refine⟨Ny i,λaq=>?_⟩;simpa using hc i (mem_range.2 aq)
  have wv:=Wi ba (λi=>by rw[hm,Nz]) h;refine Nv (λi aq=>by rw[<-hlen];exact Ny i aq) l s K (λi aq=>(hm i).2 ((hl.2.1 i).1 aq)) ?_;exact yU (by rw[wu,ta,length_map,length_map]) ag _ wv
theorem NA {C:bV} {Q:Exit->ao->Prop} {l:ahH} {ros:List bW} {bT:ahA} {k:ahC} {c:aT} (a b:Nat) (p:ahC) (hlen:bT.length=ros.length) (aC:(decide (a<bT.length)&&decide (b<bT.length)&&decide (a≠b)&&decide p.Nodup&&(range bT.length).all (λi=>p.contains i)&&p.all (λi=>decide (i<bT.length)))=true)
  (bR:ahH) (af:∀P:ahH->Prop,P bR->cS C (an l) ros (some []) (λacc s=>iK (kD (o6 bT b a)) 0 [] (acc.getD []).reverse=true/\P (eD k s)))
  (ag:∀P:ahH->Prop,P bR->cS C (an l) (ta p ros) (some []) (λacc s=>iK (kD (wu p (o6 bT a b))) 0 [] (acc.getD []).reverse=true/\P (eD k s))) (au:bp C c Q (an bR)):
  bp C (.seq (.h9 ros bT (some k)) c) Q (an l):=
 Wn (K:=λs=>eK (bp C c Q) (an (eD k s))) a b p hlen aC (af (λl=>eK (bp C c Q) (an l)) (.inl au)) (ag (λl=>eK (bp C c Q) (an l)) (.inl au))
section
variable {C:bV} {s:ao} {l:ahH} {Q:Exit->ao->Prop}
theorem uR {fx:ahC} {eU:List ResultVar} {r:I} (ds:ahI) (ag:r=BC ds:=by cases gB (by assumption);rfl) (af:eU.map (pW C s)=ds.map some:=by rfl) (aJ:(eU.map jQ).Nodup:=by decide):Ends C fx eU r [] s:=
 mA ds af ag aJ Vd
theorem dX {fx:ahC} {eU:List ResultVar} {r:I} (k:∀s,eK (Ends C fx eU r []) s->Q .ret s) (ds:ahI) (ag:r=BC ds:=by cases gB (by assumption);rfl) (af:eU.map (pW C s)=ds.map some:=by rfl) (aJ:(eU.map jQ).Nodup:=by decide):bp C .ret Q s:=
 ko (k _ (.inl (uR ds ag af aJ)))
theorem aR {R:ao->Prop} {a b:aT} (zc:∀s,R s->Q .ret s) (h:∀eC:Exit->ao->Prop,(∀s,eK (bp C b Q) s->eC .normal s)->(∀s,R s->eC .ret s)->(∀i s,Q (.exit i) s->eC (.exit i) s)->bp C a eC s):bp C (.seq a b) Q s:=
 U_ λeC n q x=>h eC n (λs ae=>q s (zc s ae)) x
theorem bI {R:ao->Prop} {id:Nat} {b:aT} (zc:∀s,R s->Q .ret s) (h:∀eC:Exit->ao->Prop,(∀s,Q .normal s->eC .normal s)->(∀s,R s->eC .ret s)->(∀s,Q .normal s->eC (.exit id) s)->(∀i s,i≠id->Q (.exit i) s->eC (.exit i) s)->bp C b eC s):bp C (.block id b) Q s:=
 Va λeC n q b x=>h eC n (λs ae=>q s (zc s ae)) b x
theorem dn {R:ao->Prop} {b:aT} (zc:∀s,R s->Q .ret s) (h:∀eC:Exit->ao->Prop,(∀s,eK (dc C b Q) s->eC .normal s)->(∀s,R s->eC .ret s)->(∀i s,Q (.exit i) s->eC (.exit i) s)->bp C b eC s):dc C b Q s:=
 Vb λeC n q x=>h eC n (λs ae=>q s (zc s ae)) x
theorem ew {β:Type} {f:Nat->Option β} {v:β} {b:aT} {bR:ahH} (h:cm f=some v) (k:∀n,f n=some v->dc C b Q (an bR)) (hw:bR.map (·.2)=bR.map (λp=>s p.1):=by rfl):bp C (.loop b) Q s:=
 let⟨n,ba⟩:=ki h
 kW (.inr ⟨bR,cH hw,k n ba⟩)
theorem bg {β:Type} {c:bn} {t e:aT} {b:Bool} {x y:Option β} {r:β} (h:cond b x y=some r) (af:b=true->x=some r->bp C t Q s) (ag:b=false->y=some r->bp C e Q s) (aC:br s c= .bool b:=by rfl):bp C (.cond c t e) Q s:=by
 rcases gN h with⟨rfl,h⟩|⟨rfl,h⟩
 .exact jy aC (af rfl h)
 .exact rT aC (ag rfl h)
end
def aT.m7:aT->ahA->aT×ahA
 | .e0 r _,k::fc=>(.e0 r (some k),fc)
 | .h9 r a _,k::fc=>(.h9 r a (some k),fc)
 | .seq a b,fc=>(.seq (a.m7 fc).1 (b.m7 (a.m7 fc).2).1,(b.m7 (a.m7 fc).2).2)
 | .cond c a b,fc=>(.cond c (a.m7 fc).1 (b.m7 (a.m7 fc).2).1,(b.m7 (a.m7 fc).2).2)
 | .block i a,fc=>(.block i (a.m7 fc).1,(a.m7 fc).2)
 | .loop a,fc=>(.loop (a.m7 fc).1,(a.m7 fc).2)
 |c,fc=>(c,fc)
def cA (n:Nat) (k:ahC) (f:Func) (fc:ahA):aT:=(((ft ⟨n,k⟩ (f.body.getD .skip)).getD .skip).m7 fc).1
def cB (x:aT) {c:aT} (h:x=c:=by
    conv=>lhs;reduce):aT:=c
end Go.dD
