/- Part of a proof that a law returns true for every input. No condition. -/
import Derived.Test.YtmaepbgkcmjcjagGreatDoorFwK
namespace Go.ef
open List Option Go.IntKind Nat
theorem Nj {α:Type} {h:Decidable True} (t e:α): @ite α True h t e=t:=if_pos trivial
theorem Nk {α:Type} {h:Decidable False} (t e:α): @ite α False h t e=e:=if_neg id
theorem Nl {α:Type} [BEq α] [ReflBEq α] (a:α):(a==a)=true:=BEq.rfl
theorem VZ {α:Type} (a b:α):(a≠b)=¬(a=b):=rfl
theorem V0:I.owner .hole=none/\(∀b,I.owner (.bool b)=none)/\I.owner .gw=none/\(∀k n,I.owner (.int k n)=none)/\(∀x,I.owner (.str x)=none)/\I.owner .en=none/\I.owner .a8=none/\(∀x,I.owner (.slice x)=none)/\(∀n x,I.owner (.aj n x)=none)/\
  (∀x,I.owner (.ref x)=none)/\(∀x,I.owner (.aM x)=none)/\(∀x,I.owner (.agg x)=none)/\(∀x,I.owner (.tuple x)=none)/\(∀f c,I.owner (.fn f c)=none)/\(∀x q,I.owner (.h x q)=some x):=
 ⟨rfl,λ_=>rfl,rfl,λ_ _=>rfl,λ_=>rfl,rfl,rfl,λ_=>rfl,λ_ _=>rfl,λ_=>rfl,λ_=>rfl,λ_=>rfl,λ_=>rfl,λ_ _=>rfl,λ_ _=>rfl⟩
theorem V1:(¬False)=True:=not_false_eq_true
theorem V2:(¬True)=False:=not_true_eq_false
theorem V3:∀a b:Nat,(some a=some b)=(a=b):=λ_ _=>propext ⟨λh=>some.inj h,λh=>congrArg some h⟩
theorem V4:(∀n,num n []=[])/\(∀n a as,num n (a::as)=(n,a)::num (n+1) as):=⟨λ_=>rfl,λ_ _ _=>rfl⟩
theorem V5:∀s1:ak,dV (some s1)=some (.hole,s1):=λ_=>rfl
theorem Nn:(∀t o,uT t (.b4 o)= .h t [])/\(∀(l:axh) t o,fin (aq l) (some t) (.b4 o)=aq ((t,.b4 o)::u6 t l))/\(∀o,I.plain (.b4 o)=false)/\(∀t o,dq t (.b4 o)= .b4 o)/\(∀t o,cK t (.b4 o)= .b4 o)/\
  (∀o,I.dN (.b4 o)= .hole)/\(∀o,I.wd (.b4 o)=1)/\(∀o,I.hB (.b4 o)=true)/\(∀a b,wU (.b4 a) (.b4 b)=true)/\(∀s x q d o,dm.kv s ⟨.h x q,true,d,.b4 o⟩=et (om x s) x (I.put q (.b4 o) (s x)))/\(∀o,I.aa (.b4 o)=[])/\(∀o,I.tree (.b4 o)=true)/\(∀a b n m z,hA.ok ⟨.map a b,n,m,z⟩=true)/\(∀a b n m z,hA.flat ⟨.map a b,n,m,z⟩=true):=
 ⟨λ_ _=>rfl,λl t o=>by simp only[fin,I.plain,Bool.false_eq_true,if_false,MA,HL],λ_=>rfl,λ_ _=>by unfold dq;rfl,λ_ _=>by unfold cK;rfl,λ_=>by simp only[I.dN],λ_=>by simp only[I.wd],λ_=>rfl,λ_ _=>rfl,λ_ _ _ _ _=>by simp[dm.kv],λ_=>by simp only[I.aa],λ_=>rfl,λ_ _ _ _ _=>rfl,λ_ _ _ _ _=>rfl⟩
def af0:=PLift.up (R Nn<|R V4<|R V5<|R V3<|R V0<|R V1<|R V2<|R @Nj (R @Nk (R @Nl (R @VZ aeO.down))))
def af1:=PLift.up (R Nn<|R V4<|R V5<|R V3<|R V0<|R V1<|R V2<|R @Nj (R @Nk (R @Nl (R @VZ El.down))))
def af2:=PLift.up (R Nn<|R @Nl<|R @Nj (R @Nk aeP.down))
def yT (l:axd):axd:=l.foldr (λx acc=>if acc.contains x then acc else x::acc) []
theorem V6 {x:Nat}:∀{l:axd},x∈yT l↔x∈l
 |[]=>Iff.rfl
 |y::l=>by
  have ih:=V6 (x:=x) (l:=l);have e:yT (y::l)=if(yT l).contains y then yT l else y::yT l:=rfl;rw[e];split
  .rename_i h;have bB:y∈yT l:=by simpa using h
   constructor
   .intro an;exact mem_cons_of_mem _ (ih.1 an)
   .intro an;rcases mem_cons.1 an with rfl|an
    .exact bB
    .exact ih.2 an
  .simp only[mem_cons,ih]
def Np:axb->axb->axb
 |done,[]=>done
 |done,a::r=>Np (done++[yT (a++a.flatMap λe=>(done[e]?).getD [])]) r
def af3 (cT:axb):axb:=Np [] cT
def Nq (c d:axb):Prop:=c.length=d.length/\∀(i x:Nat),x∈(c[i]?).getD []↔x∈(d[i]?).getD []
theorem V7:∀(r c d:axb),Nq c d->Nq (Np c r) (Ec d r)
 |[],c,d,h=>h
 |a::r,c,d,h=>by
  refine V7 r _ _ ⟨by simp[h.1],λi x=>?_⟩;rcases Nat.lt_trichotomy i c.length with ag|ag|ag
  .rw[getElem?_append_left ag,getElem?_append_left (by rw[<-h.1];exact ag)];exact h.2 i x
  .rw[getElem?_append_right (by omega),getElem?_append_right (by rw[<-h.1];omega),ag,Nat.sub_self,h.1,Nat.sub_self];simp only[getElem?_cons_zero,getD_some,V6,mem_append,mem_flatMap];constructor
   .rintro(an|⟨e,he,an⟩)
    .exact .inl an
    .exact .inr ⟨e,he,(h.2 e x).1 an⟩
   .rintro(an|⟨e,he,an⟩)
    .exact .inl an
    .exact .inr ⟨e,he,(h.2 e x).2 an⟩
  .rw[getElem?_eq_none (by simp;omega),getElem?_eq_none (by simp[<-h.1];omega)]
theorem V8 {c d:axb} (h:Nq c d):∀(aD:List fJ) (j:Nat) (es:List (Nat×fJ)),ka c j es aD=ka d j es aD
 |[],_,_=>rfl
 |f::aD,j,es=>by
  simp only[ka];rw[V8 h aD];congr 2;funext e;congr 1;rw[Bool.eq_iff_iff];simp only[contains_iff_mem];exact h.2 j e.1
theorem hF {cT:axb} {j:Nat} {es:List (Nat×fJ)} {aD:List fJ} (h:ka (af3 cT) j es aD=true):ka (ni cT) j es aD=true:=by
 exact(V8 (V7 cT [] [] ⟨rfl,λ_ _=>Iff.rfl⟩) aD j es).symm.trans h
abbrev ro (d:Nat) (bS:eT):cm:=⟨some d,bS,none⟩
abbrev aP (d x:Nat):cm:=ro d (.hS (.t x))
abbrev ck (d x:Nat):cm:=ro d (.h2 (.t x))
abbrev cp (d T x:Nat):cm:=ro d (.fO T (.t x))
abbrev dG (d T x k:Nat):cm:=ro d (.hK T (.t x) k)
abbrev ha (d T x i:Nat):cm:=ro d (.ks T (.t x) (.t i))
abbrev jS (d T x:Nat):cm:=ro d (.len T (.t x))
abbrev nj (d x:Nat):cm:=ro d (.mf (.t x))
abbrev ji (d:Nat) (o:BinOp) (T x y:Nat):cm:=ro d (.eN o T (.t x) (.t y))
abbrev dD (d:Nat) (o:BinOp) (T x:Nat) (n:Int):cm:=ro d (.eN o T (.t x) (.c (.int .i64 n)))
abbrev xd (d:Nat) (n:Int):cm:=ro d (.hS (.c (.int .i64 n)))
abbrev jj (d:Nat) (n:Int):cm:=ro d (.h2 (.c (.int .i64 n)))
abbrev nB (d:Nat) (b:Bool):cm:=ro d (.h2 (.c (.bool b)))
abbrev pD (d:Nat):cm:=ro d (.h2 (.c .a8))
abbrev ox (d T:Nat):cm:=ro d (.mE T)
abbrev il (d g a:Nat):cm:=ro d (.call (.f g) [.t a])
abbrev kP (d g a b:Nat):cm:=ro d (.call (.f g) [.t a,.t b])
abbrev V9 (d g a b c:Nat):cm:=ro d (.call (.f g) [.t a,.t b,.t c])
abbrev Es (d g a b c e:Nat):cm:=ro d (.call (.f g) [.t a,.t b,.t c,.t e])
abbrev kD (d x k:Nat):cm:=ro d (.ex (.t x) k)
abbrev qZ (d x:Nat):cm:=ro d (.un .not (.t x))
abbrev ve (d T x:Nat):cm:=ro d (.dO T 1 [(0,.t x)])
abbrev xe (d T dI x y:Nat):cm:=ro d (.app T dI (.t x) (.t y))
abbrev jT (T x y:Nat):cm:=⟨none,.kI T (.t x) (.t y),none⟩
abbrev V_ (d A B x:Nat):cm:=ro d (.kL A B (.t x))
theorem aV.Nr {C:cj} (bK:C.fz) {f:FuncId} {fn:Func} {c:Code} {dU:aB} {fx:axd} {as outs:axi} {r:I} (fI:List ResultVar) (l:axh) (bF:C.P.funcs[f]? =some fn) (ab:fn.body=some c)
  (ml:(fn.name== "runtime.NumGoroutine")=false) (aa:fV ⟨fn.ntmps,fx⟩ c=some dU.strip) (aS:as.length<=fn.ntmps) (hQ:fn.results.toList=fI) (aC:num 0 as=l)
  (h:∀Q:Exit->ak->Prop,(∀s,eJ (Ends C fx fI r outs) s->Q .ret s)->(∀s,eJ (Ends C fx fI r outs) s->Q .normal s)->bk C dU Q (aq l)) (ax:dU.plain=true:=by kernel_rfl):aV C f as r outs:=by
 subst hQ aC;exact aV.aew bK bF ab ml aa aS h ax
theorem o6.Nr {C:cj} (bK:C.fz) {f:FuncId} {fn:Func} {c:Code} {dU:aB} {fx:axd} {as outs:axi} {r:I} {k m:Nat} (fI:List ResultVar) (l:axh) (bF:C.P.funcs[f]? =some fn) (ab:fn.body=some c)
  (ml:(fn.name== "runtime.NumGoroutine")=false) (aa:fV ⟨fn.ntmps,fx⟩ c=some dU.strip) (aS:as.length<=fn.ntmps) (au:dU.py (H9 C f fx as.length m k)) (hQ:fn.results.toList=fI) (aC:num 0 as=l)
  (h:∀Q:Exit->ak->Prop,(∀s,eJ (Ends C fx fI r outs) s->Q .ret s)->(∀s,eJ (Ends C fx fI r outs) s->Q .normal s)->bk C dU Q (aq l)):o6 C f m k as r outs:=by
 subst hQ aC;exact o6.of_wp bK bF ab ml aa aS au h
theorem aV.af4 {C:cj} (bK:C.fz) {f:FuncId} {fn:Func} {c:Code} {dU:aB} {fx:axd} {as outs:axi} {r:I} (fI:List ResultVar) (l:axh) (bF:C.P.funcs[f]? =some fn) (ab:fn.body=some c)
  (ml:(fn.name== "runtime.NumGoroutine")=false) (aa:fV ⟨fn.ntmps,fx⟩ c=some dU.strip) (aS:as.length<=fn.ntmps) (au:dU.py (Ep C)) (hQ:fn.results.toList=fI) (aC:num 0 as=l)
  (h:∀Q:Exit->ak->Prop,(∀s,eJ (Ends C fx fI r outs) s->Q .ret s)->(∀s,eJ (Ends C fx fI r outs) s->Q .normal s)->bk C dU Q (aq l)):aV C f as r outs:=by
 subst hQ aC;exact aV.afY bK bF ab ml aa aS au h
theorem hb {b:Bool} (h:(!b)=true):b=false:=by cases b<;>first|rfl|cases h
theorem b1 {b:Bool} (h:(!b)=false):b=true:=by cases b<;>first|rfl|cases h
def vf (p:axd) (ros:List cm):List cm:=p.map λi=>ros.getD i ⟨none,.bad,none⟩
def pE (cT:axb) (b a:Nat):axb:=cT.set b (a::(cT[b]?).getD [])
def yU (p:axd) (cT:axb):axb:=p.map λi=>((cT[i]?).getD []).map λe=>p.idxOf e
theorem Et {p:axd} {i:Nat} (h:i∈p):p[p.idxOf i]? =some i:=by
 have aC:=idxOf_lt_length_of_mem h;rw[getElem?_eq_getElem aC,getElem_idxOf aC]
theorem af5 {p:axd} {i j:Nat} (ag:i∈p) (bE:j∈p) (h:p.idxOf i=p.idxOf j):i=j:=by
 have a:=Et ag;rw[h,Et bE]at a;exact(some.inj a).symm
theorem Wa {C:cj} {ros:List cm} {p:axd} (ax:∀i∈p,i<ros.length):∀(l:axd) (s:ak) (K:ak->Prop),(∀i∈l,i∈p)->kx C (vf p ros) s (l.map p.idxOf) K->kx C ros s l K
 |[],_,_,_,h=>h
 |i::l,s,K,aC,h=>by
  have ag:=aC i (by simp);have aN:(vf p ros)[p.idxOf i]? =some (ros.getD i ⟨none,.bad,none⟩):=by
   rw[vf,getElem?_map,Et ag];rfl
  have aU:ros[i]? =some (ros.getD i ⟨none,.bad,none⟩):=by
   rw[getD_eq_getElem?_getD,getElem?_eq_getElem (ax i ag)];rfl
  rw[map_cons,kx,aN]at h;rw[kx,aU];exact HG h λs1 ad=>Wa ax l s1 K (λj bE=>aC j (by simp[bE])) ad
theorem af6 {cT:axb} {p l:axd} (aS:p.Nodup) (hm:∀i,i∈p↔i<cT.length) (h:sd cT l):sd (yU p cT) (l.map p.idxOf):=by
 obtain⟨ad,ae,aI⟩:=h;have A7:∀i∈l,i∈p:=λi ag=>(hm i).2 ((ae i).1 ag);refine⟨?_,λj=>?_,?_⟩
 .rw[Nodup,pairwise_map];exact Pairwise.imp_of_mem (λbl ab kp e=>kp (af5 (A7 _ bl) (A7 _ ab) e)) ad
 .rw[yU,length_map,mem_map];constructor
  .rintro⟨i,ag,rfl⟩;exact idxOf_lt_length_of_mem (A7 i ag)
  .intro bE;have tK:p[j]∈p:=getElem_mem bE;refine⟨p[j],(ae _).2 ((hm _).1 tK),?_⟩;have e:=Et tK;have eB:=idxOf_lt_length_of_mem tK;rw[getElem?_eq_getElem eB]at e;exact(getElem_inj aS).1 (some.inj e)
 .intro u j v hu e he;obtain⟨AM,w0,rfl,rfl,hw⟩:=map_eq_append_iff.1 hu;obtain⟨i,v0,rfl,rfl,rfl⟩:=map_eq_cons_iff.1 hw;have ag:i∈p:=A7 i (by simp);rw[yU,getElem?_map,Et ag]at he;simp only[map_some,getD_some,mem_map]at he;obtain⟨ga,af7,rfl⟩:=he;exact List.mem_map_of_mem (aI AM i v0 rfl ga af7)
theorem Wb {cT:axb} {l u v:axd} {a b:Nat} (h:sd cT l) (aC:l=u++a::v) (ab:b∈v) (kp:a≠b):sd (pE cT b a) l:=by
 obtain⟨ad,ae,aI⟩:=h;refine⟨ad,λi=>by rw[ae,pE,length_set],λw5 i v2 hu e he=>?_⟩;by_cases Wc:i=b
 .subst Wc;have eB:i<cT.length:=(ae i).1 (by rw[aC];simp[ab]);rw[pE,getElem?_set_self eB]at he;simp only[getD_some,mem_cons]at he;rcases he with rfl|he
  .have e:=aC.symm.trans hu;rcases append_eq_append_iff.1 e with⟨c,nd,k4⟩|⟨c,nd,k4⟩
   .cases c with
    |nil=>simp at k4;exact absurd k4.1 kp
    |cons x c=>simp at k4;rw[nd,k4.1];simp
   .cases c with
    |nil=>simp at k4;exact absurd k4.1.symm kp
    |cons x c=>
     simp at k4;exfalso;rw[aC,nd,<-k4.1]at ad;have:=(nodup_append.1 ad).2.2 i (by simp) i (by simp[ab]);exact this rfl
  .exact aI w5 i v2 hu e he
 .rw[pE,getElem?_set_ne (λe=>Wc e.symm)]at he;exact aI w5 i v2 hu e he
theorem af8 {cT:axb} {l:axd} {a b:Nat} (h:sd cT l) (bl:a<cT.length) (ab:b<cT.length) (kp:a≠b):sd (pE cT b a) l\/sd (pE cT a b) l:=by
 obtain⟨u,v,aC⟩:=append_of_mem ((h.2.1 a).2 bl);have wN:=(h.2.1 b).2 ab;rw[aC]at wN;simp only[mem_append,mem_cons]at wN;rcases wN with af9|rfl|af_
 .obtain⟨u_,w5,rfl⟩:=append_of_mem af9;exact .inr (Wb h (u:=u_) (v:=w5++a::v) (by rw[aC];simp) (by simp) (λe=>kp e.symm))
 .exact absurd rfl kp
 .exact .inl (Wb h aC af_ kp)
theorem Wd {C:cj} {ros:List cm} {cT:axb} {s:ak} {K:ak->Prop} (a b:Nat) (p:axd) (hlen:cT.length=ros.length) (ar:(decide (a<cT.length)&&decide (b<cT.length)&&decide (a≠b)&&decide p.Nodup&&(range cT.length).all (λi=>p.contains i)&&p.all (λi=>decide (i<cT.length)))=true)
  (ad:dA C s ros (some []) (λacc s=>ka (ni (pE cT b a)) 0 [] (acc.getD []).reverse=true/\K s))
  (ae:dA C s (vf p ros) (some []) (λacc s=>ka (ni (yU p (pE cT a b))) 0 [] (acc.getD []).reverse=true/\K s)):∀l,sd cT l->kx C ros s l K:=by
 simp only[Bool.and_eq_true,decide_eq_true_eq,List.all_eq_true]at ar;obtain⟨⟨⟨⟨⟨bl,ab⟩,kp⟩,aS⟩,fA⟩,We⟩:=ar;intro l aC;have xf:∀i j,(pE cT i j).length=cT.length:=λi j=>by rw[pE,length_set]
 rcases af8 aC bl ab kp with h|h
 .exact HS ((xf _ _).trans hlen) ad l h
 .have hm:∀i,i∈p↔i<cT.length:=by
   intro i;refine⟨We i,λag=>?_⟩;simpa using fA i (mem_range.2 ag)
  have A7:=af6 aS (λi=>by rw[hm,xf]) h;refine Wa (λi ag=>by rw[<-hlen];exact We i ag) l s K (λi ag=>(hm i).2 ((aC.2.1 i).1 ag)) ?_;exact HS (by rw[yU,vf,length_map,length_map]) ae _ A7
theorem aga {C:cj} {Q:Exit->ak->Prop} {l:axh} {ros:List cm} {cT:axb} {k:axd} (a b:Nat) (p:axd) (hlen:cT.length=ros.length) (ar:(decide (a<cT.length)&&decide (b<cT.length)&&decide (a≠b)&&decide p.Nodup&&(range cT.length).all (λi=>p.contains i)&&p.all (λi=>decide (i<cT.length)))=true)
  (cW:axh) (ad:∀P:axh->Prop,P cW->dA C (aq l) ros (some []) (λacc s=>ka (ni (pE cT b a)) 0 [] (acc.getD []).reverse=true/\P (hk k s)))
  (ae:∀P:axh->Prop,P cW->dA C (aq l) (vf p ros) (some []) (λacc s=>ka (ni (yU p (pE cT a b))) 0 [] (acc.getD []).reverse=true/\P (hk k s))) (au:Q .normal (aq cW)):
  bk C (.jw ros cT (some k)) Q (aq l):=
 Wd (K:=λs=>Q .normal (aq (hk k s))) a b p hlen ar (ad (λl=>Q .normal (aq l)) au) (ae (λl=>Q .normal (aq l)) au)
theorem agb {C:cj} {Q:Exit->ak->Prop} {l:axh} {ros:List cm} {cT:axb} {k:axd} {c:aB} (a b:Nat) (p:axd) (hlen:cT.length=ros.length) (ar:(decide (a<cT.length)&&decide (b<cT.length)&&decide (a≠b)&&decide p.Nodup&&(range cT.length).all (λi=>p.contains i)&&p.all (λi=>decide (i<cT.length)))=true)
  (cW:axh) (ad:∀P:axh->Prop,P cW->dA C (aq l) ros (some []) (λacc s=>ka (ni (pE cT b a)) 0 [] (acc.getD []).reverse=true/\P (hk k s)))
  (ae:∀P:axh->Prop,P cW->dA C (aq l) (vf p ros) (some []) (λacc s=>ka (ni (yU p (pE cT a b))) 0 [] (acc.getD []).reverse=true/\P (hk k s))) (au:bk C c Q (aq cW)):
  bk C (.seq (.jw ros cT (some k)) c) Q (aq l):=
 Wd (K:=λs=>eJ (bk C c Q) (aq (hk k s))) a b p hlen ar (ad (λl=>eJ (bk C c Q) (aq l)) (.inl au)) (ae (λl=>eJ (bk C c Q) (aq l)) (.inl au))
section
variable {C:cj} {s:ak} {l:axh} {Q:Exit->ak->Prop}
theorem ay {fx:axd} {fI:List ResultVar} {r:I} (ds:axi) (ae:r=MS ds:=by cases gl (by assumption);rfl) (ad:fI.map (tD C s)=ds.map some:=by rfl) (aI:(fI.map lx).Nodup:=by decide):Ends C fx fI r [] s:=
 kb ds ad ae aI aex
theorem az {jP:ak->Prop} {a b:aB} (Eu:∀s,jP s->Q .ret s) (h:∀e6:Exit->ak->Prop,(∀s,eJ (bk C b Q) s->e6 .normal s)->(∀s,jP s->e6 .ret s)->(∀i s,Q (.exit i) s->e6 (.exit i) s)->bk C a e6 s):bk C (.seq a b) Q s:=
 aes λe6 n q x=>h e6 n (λs aa=>q s (Eu s aa)) x
theorem bn {jP:ak->Prop} {id:Nat} {b:aB} (Eu:∀s,jP s->Q .ret s) (h:∀e6:Exit->ak->Prop,(∀s,Q .normal s->e6 .normal s)->(∀s,jP s->e6 .ret s)->(∀s,Q .normal s->e6 (.exit id) s)->(∀i s,i≠id->Q (.exit i) s->e6 (.exit i) s)->bk C b e6 s):bk C (.block id b) Q s:=
 aeu λe6 n q b x=>h e6 n (λs aa=>q s (Eu s aa)) b x
theorem dc {jP:ak->Prop} {b:aB} (Eu:∀s,jP s->Q .ret s) (h:∀e6:Exit->ak->Prop,(∀s,eJ (cX C b Q) s->e6 .normal s)->(∀s,jP s->e6 .ret s)->(∀i s,Q (.exit i) s->e6 (.exit i) s)->bk C b e6 s):cX C b Q s:=
 aev λe6 n q x=>h e6 n (λs aa=>q s (Eu s aa)) x
theorem aF {β:Type} {c:bC} {t e:aB} {b:Bool} {x y:Option β} {r:β} (h:cond b x y=some r) (ad:b=true->x=some r->bk C t Q s) (ae:b=false->y=some r->bk C e Q s) (ar:bw s c= .bool b:=by rfl):bk C (.cond c t e) Q s:=by
 rcases dr h with⟨rfl,h⟩|⟨rfl,h⟩
 .exact iM ar (ad rfl h)
 .exact nW ar (ae rfl h)
end
def aB.o7:aB->axb->aB×axb
 | .eu r _,k::mn=>(.eu r (some k),mn)
 | .jw r a _,k::mn=>(.jw r a (some k),mn)
 | .seq a b,mn=>(.seq (a.o7 mn).1 (b.o7 (a.o7 mn).2).1,(b.o7 (a.o7 mn).2).2)
 | .cond c a b,mn=>(.cond c (a.o7 mn).1 (b.o7 (a.o7 mn).2).1,(b.o7 (a.o7 mn).2).2)
 | .block i a,mn=>(.block i (a.o7 mn).1,(a.o7 mn).2)
 | .loop a,mn=>(.loop (a.o7 mn).1,(a.o7 mn).2)
 |c,mn=>(c,mn)
def bM (n:Nat) (k:axd) (f:Func) (mn:axb):aB:=(((fV ⟨n,k⟩ (f.body.getD .skip)).getD .skip).o7 mn).1
def bN (x:aB) {c:aB} (h:x=c:=by
    conv=>lhs;reduce):aB:=c
end Go.ef
