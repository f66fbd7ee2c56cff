/- Part of a proof that a law returns true for every input. No condition. -/
import Derived.Test.YtmaepbgkcmjcjajGreatDoorFwK
namespace Go.ep
open List Option Go.IntKind Nat Or
theorem OT {α:Type} {h:Decidable True} (t e:α): @ite α True h t e=t:=if_pos trivial
theorem OU {α:Type} {h:Decidable False} (t e:α): @ite α False h t e=e:=if_neg id
theorem OV {α:Type} [BEq α] [ReflBEq α] (a:α):(a==a)=true:=BEq.rfl
theorem XW {α:Type} (a b:α):(a≠b)=¬(a=b):=rfl
theorem XX:I.owner .hole=none/\(∀b,I.owner (.bool b)=none)/\I.owner .gx=none/\(∀k n,I.owner (.int k n)=none)/\(∀x,I.owner (.str x)=none)/\I.owner .eA=none/\I.owner .bf=none/\(∀x,I.owner (.slice x)=none)/\(∀n x,I.owner (.ag n x)=none)/\
  (∀x,I.owner (.ref x)=none)/\(∀x,I.owner (.aM x)=none)/\(∀x,I.owner (.agg x)=none)/\(∀x,I.owner (.tuple x)=none)/\(∀f c,I.owner (.fn f c)=none)/\(∀x q,I.owner (.h x q)=some x):=
 ⟨rfl,λ_=>rfl,rfl,λ_ _=>rfl,λ_=>rfl,rfl,rfl,λ_=>rfl,λ_ _=>rfl,λ_=>rfl,λ_=>rfl,λ_=>rfl,λ_=>rfl,λ_ _=>rfl,λ_ _=>rfl⟩
theorem XY:(¬False)=True:=not_false_eq_true
theorem XZ:(¬True)=False:=not_true_eq_false
theorem X0:∀a b:Nat,(some a=some b)=(a=b):=λ_ _=>propext ⟨λh=>some.inj h,λh=>congrArg some h⟩
theorem X1:(∀n,num n []=[])/\(∀n a as,num n (a::as)=(n,a)::num (n+1) as):=⟨λ_=>rfl,λ_ _ _=>rfl⟩
theorem X2:∀s1:al,de (some s1)=some (.hole,s1):=λ_=>rfl
theorem OW:(∀t o,uc t (.cj o)= .h t [])/\(∀(l:azx) t o,fin (ar l) (some t) (.cj o)=ar ((t,.cj o)::vU t l))/\(∀o,I.plain (.cj o)=false)/\(∀t o,dI t (.cj o)= .cj o)/\(∀t o,c1 t (.cj o)= .cj o)/\
  (∀o,I.ej (.cj o)= .hole)/\(∀o,I.wd (.cj o)=1)/\(∀o,I.hX (.cj o)=true)/\(∀a b,xN (.cj a) (.cj b)=true)/\(∀s x q d o,dz.kV s ⟨.h x q,true,d,.cj o⟩=eu (oR x s) x (I.put q (.cj o) (s x)))/\(∀o,I.aa (.cj o)=[])/\(∀o,I.tree (.cj o)=true)/\(∀a b n m z,hW.ok ⟨.map a b,n,m,z⟩=true)/\(∀a b n m z,hW.flat ⟨.map a b,n,m,z⟩=true):=
 ⟨λ_ _=>rfl,λl t o=>by simp only[fin,I.plain,Bool.false_eq_true,if_false,N8,Fj],λ_=>rfl,λ_ _=>by unfold dI;rfl,λ_ _=>by unfold c1;rfl,λ_=>by simp only[I.ej],λ_=>by simp only[I.wd],λ_=>rfl,λ_ _=>rfl,λ_ _ _ _ _=>by simp[dz.kV],λ_=>by simp only[I.aa],λ_=>rfl,λ_ _ _ _ _=>rfl,λ_ _ _ _ _=>rfl⟩
def ahQ:=PLift.up (U OW<|U X1<|U X2<|U X0<|U XX<|U XY<|U XZ<|U @OT (U @OU (U @OV (U @XW agE.down))))
def ahR:=PLift.up (U OW<|U X1<|U X2<|U X0<|U XX<|U XY<|U XZ<|U @OT (U @OU (U @OV (U @XW Fy.down))))
def ahS:=PLift.up (U OW<|U @OV<|U @OT (U @OU agF.down))
def zI (l:azt):azt:=l.foldr (λx acc=>if acc.contains x then acc else x::acc) []
theorem X3 {x:Nat}:∀{l:azt},x∈zI l↔x∈l
 |[]=>Iff.rfl
 |y::l=>by
  have ih:=X3 (x:=x) (l:=l);have e:zI (y::l)=if(zI l).contains y then zI l else y::zI l:=rfl;rw[e];split
  .rename_i h;have bI:y∈zI l:=by simpa using h
   constructor
   .intro ao;exact mem_cons_of_mem _ (ih.1 ao)
   .intro ao;rcases mem_cons.1 ao with rfl|ao
    .exact bI
    .exact ih.2 ao
  .simp only[mem_cons,ih]
def OX:azr->azr->azr
 |done,[]=>done
 |done,a::r=>OX (done++[zI (a++a.flatMap λe=>(done[e]?).getD [])]) r
def ahT (df:azr):azr:=OX [] df
def OY (c d:azr):Prop:=c.length=d.length/\∀(i x:Nat),x∈(c[i]?).getD []↔x∈(d[i]?).getD []
theorem X4:∀(r c d:azr),OY c d->OY (OX c r) (Fo d r)
 |[],c,d,h=>h
 |a::r,c,d,h=>by
  refine X4 r _ _ ⟨by simp[h.1],λi x=>?_⟩;rcases Nat.lt_trichotomy i c.length with ai|ai|ai
  .rw[getElem?_append_left ai,getElem?_append_left (by rw[<-h.1];exact ai)];exact h.2 i x
  .rw[getElem?_append_right (by omega),getElem?_append_right (by rw[<-h.1];omega),ai,Nat.sub_self,h.1,Nat.sub_self];simp only[getElem?_cons_zero,getD_some,X3,mem_append,mem_flatMap];constructor
   .rintro(ao|⟨e,he,ao⟩)
    .exact .inl ao
    .exact .inr ⟨e,he,(h.2 e x).1 ao⟩
   .rintro(ao|⟨e,he,ao⟩)
    .exact .inl ao
    .exact .inr ⟨e,he,(h.2 e x).2 ao⟩
  .rw[getElem?_eq_none (by simp;omega),getElem?_eq_none (by simp[<-h.1];omega)]
theorem X5 {c d:azr} (h:OY c d):∀(aF:List fQ) (j:Nat) (es:List (Nat×fQ)),kB c j es aF=kB d j es aF
 |[],_,_=>rfl
 |f::aF,j,es=>by
  simp only[kB];rw[X5 h aF];congr 2;funext e;congr 1;rw[Bool.eq_iff_iff];simp only[contains_iff_mem];exact h.2 j e.1
theorem iA {df:azr} {j:Nat} {es:List (Nat×fQ)} {aF:List fQ} (h:kB (ahT df) j es aF=true):kB (nH df) j es aF=true:=by
 exact(X5 (X4 df [] [] ⟨rfl,λ_ _=>Iff.rfl⟩) aF j es).symm.trans h
abbrev ro (d:Nat) (b8:e6):cC:=⟨some d,b8,none⟩
abbrev aL (d x:Nat):cC:=ro d (.gY (.t x))
abbrev cc (d x:Nat):cC:=ro d (.h5 (.t x))
abbrev cp (d T x:Nat):cC:=ro d (.fX T (.t x))
abbrev dS (d T x k:Nat):cC:=ro d (.h9 T (.t x) k)
abbrev hz (d T x i:Nat):cC:=ro d (.kS T (.t x) (.t i))
abbrev km (d T x:Nat):cC:=ro d (.len T (.t x))
abbrev nK (d x:Nat):cC:=ro d (.mD (.t x))
abbrev jd (d:Nat) (o:BinOp) (T x y:Nat):cC:=ro d (.eS o T (.t x) (.t y))
abbrev dG (d:Nat) (o:BinOp) (T x:Nat) (n:Int):cC:=ro d (.eS o T (.t x) (.c (.int .i64 n)))
abbrev yc (d:Nat) (n:Int):cC:=ro d (.gY (.c (.int .i64 n)))
abbrev iB (d:Nat) (n:Int):cC:=ro d (.h5 (.c (.int .i64 n)))
abbrev jD (d:Nat) (b:Bool):cC:=ro d (.h5 (.c (.bool b)))
abbrev p9 (d:Nat):cC:=ro d (.h5 (.c .bf))
abbrev oy (d T:Nat):cC:=ro d (.nb T)
abbrev hA (d g a:Nat):cC:=ro d (.call (.f g) [.t a])
abbrev hS (d g a b:Nat):cC:=ro d (.call (.f g) [.t a,.t b])
abbrev X6 (d g a b c:Nat):cC:=ro d (.call (.f g) [.t a,.t b,.t c])
abbrev FF (d g a b c e:Nat):cC:=ro d (.call (.f g) [.t a,.t b,.t c,.t e])
abbrev jt (d x k:Nat):cC:=ro d (.ex (.t x) k)
abbrev oY (d x:Nat):cC:=ro d (.un .not (.t x))
abbrev uE (d T x:Nat):cC:=ro d (.eh T 1 [(0,.t x)])
abbrev yd (d T ee x y:Nat):cC:=ro d (.app T ee (.t x) (.t y))
abbrev j8 (T x y:Nat):cC:=⟨none,.k5 T (.t x) (.t y),none⟩
abbrev Jv (d A B x:Nat):cC:=ro d (.k7 A B (.t x))
theorem aZ.OZ {C:cx} (bW:C.fN) {f:FuncId} {fn:Func} {c:Code} {er:aA} {fx:azt} {as outs:azy} {r:I} (fy:List ResultVar) (l:azx) (bK:C.P.funcs[f]? =some fn) (ab:fn.body=some c)
  (mI:(fn.name== "runtime.NumGoroutine")=false) (aa:gg ⟨fn.ntmps,fx⟩ c=some er.strip) (aX:as.length<=fn.ntmps) (iu:fn.results.toList=fy) (hl:num 0 as=l)
  (h:∀Q:Exit->al->Prop,(∀s,eV (Ends C fx fy r outs) s->Q .ret s)->(∀s,eV (Ends C fx fy r outs) s->Q .normal s)->bm C er Q (ar l)) (ay:er.plain=true:=by kernel_rfl):aZ C f as r outs:=by
 subst iu hl;exact aZ.ags bW bK ab mI aa aX h ay
theorem pB.OZ {C:cx} (bW:C.fN) {f:FuncId} {fn:Func} {c:Code} {er:aA} {fx:azt} {as outs:azy} {r:I} {k m:Nat} (fy:List ResultVar) (l:azx) (bK:C.P.funcs[f]? =some fn) (ab:fn.body=some c)
  (mI:(fn.name== "runtime.NumGoroutine")=false) (aa:gg ⟨fn.ntmps,fx⟩ c=some er.strip) (aX:as.length<=fn.ntmps) (aw:er.p4 (Jr C f fx as.length m k)) (iu:fn.results.toList=fy) (hl:num 0 as=l)
  (h:∀Q:Exit->al->Prop,(∀s,eV (Ends C fx fy r outs) s->Q .ret s)->(∀s,eV (Ends C fx fy r outs) s->Q .normal s)->bm C er Q (ar l)):pB C f m k as r outs:=by
 subst iu hl;exact pB.of_wp bW bK ab mI aa aX aw h
theorem aZ.ahU {C:cx} (bW:C.fN) {f:FuncId} {fn:Func} {c:Code} {er:aA} {fx:azt} {as outs:azy} {r:I} (fy:List ResultVar) (l:azx) (bK:C.P.funcs[f]? =some fn) (ab:fn.body=some c)
  (mI:(fn.name== "runtime.NumGoroutine")=false) (aa:gg ⟨fn.ntmps,fx⟩ c=some er.strip) (aX:as.length<=fn.ntmps) (aw:er.p4 (FE C)) (iu:fn.results.toList=fy) (hl:num 0 as=l)
  (h:∀Q:Exit->al->Prop,(∀s,eV (Ends C fx fy r outs) s->Q .ret s)->(∀s,eV (Ends C fx fy r outs) s->Q .normal s)->bm C er Q (ar l)):aZ C f as r outs:=by
 subst iu hl;exact aZ.ahO bW bK ab mI aa aX aw h
theorem hY {b:Bool} (h:(!b)=true):b=false:=by cases b<;>first|rfl|cases h
theorem cm {b:Bool} (h:(!b)=false):b=true:=by cases b<;>first|rfl|cases h
def v8 (p:azt) (ros:List cC):List cC:=p.map λi=>ros.getD i ⟨none,.bad,none⟩
def p_ (df:azr) (b a:Nat):azr:=df.set b (a::(df[b]?).getD [])
def zJ (p:azt) (df:azr):azr:=p.map λi=>((df[i]?).getD []).map λe=>p.idxOf e
theorem FG {p:azt} {i:Nat} (h:i∈p):p[p.idxOf i]? =some i:=by
 have hl:=idxOf_lt_length_of_mem h;rw[getElem?_eq_getElem hl,getElem_idxOf hl]
theorem ahV {p:azt} {i j:Nat} (ai:i∈p) (bQ:j∈p) (h:p.idxOf i=p.idxOf j):i=j:=by
 have a:=FG ai;rw[h,FG bQ]at a;exact(some.inj a).symm
theorem X7 {C:cx} {ros:List cC} {p:azt} (ay:∀i∈p,i<ros.length):∀(l:azt) (s:al) (K:al->Prop),(∀i∈l,i∈p)->kW C (v8 p ros) s (l.map p.idxOf) K->kW C ros s l K
 |[],_,_,_,h=>h
 |i::l,s,K,hl,h=>by
  have ai:=hl i (by simp);have aP:(v8 p ros)[p.idxOf i]? =some (ros.getD i ⟨none,.bad,none⟩):=by
   rw[v8,getElem?_map,FG ai];rfl
  have aW:ros[i]? =some (ros.getD i ⟨none,.bad,none⟩):=by
   rw[getD_eq_getElem?_getD,getElem?_eq_getElem (ay i ai)];rfl
  rw[map_cons,kW,aP]at h;rw[kW,aW];exact IY h λs1 ad=>X7 ay l s1 K (λj bQ=>hl j (by simp[bQ])) ad
theorem ahW {df:azr} {p l:azt} (aX:p.Nodup) (hm:∀i,i∈p↔i<df.length) (h:sX df l):sX (zJ p df) (l.map p.idxOf):=by
 obtain⟨ad,af,aG⟩:=h;have B4:∀i∈l,i∈p:=λi ai=>(hm i).2 ((af i).1 ai);refine⟨?_,λj=>?_,?_⟩
 .rw[Nodup,pairwise_map];exact Pairwise.imp_of_mem (λbq ab kP e=>kP (ahV (B4 _ bq) (B4 _ ab) e)) ad
 .rw[zJ,length_map,mem_map];constructor
  .rintro⟨i,ai,rfl⟩;exact idxOf_lt_length_of_mem (B4 i ai)
  .intro bQ;have FH:p[j]∈p:=getElem_mem bQ;refine⟨p[j],(af _).2 ((hm _).1 FH),?_⟩;have e:=FG FH;have eQ:=idxOf_lt_length_of_mem FH;rw[getElem?_eq_getElem eQ]at e;exact(getElem_inj aX).1 (some.inj e)
 .intro u j v hu e he;obtain⟨BK,w0,rfl,rfl,hw⟩:=map_eq_append_iff.1 hu;obtain⟨i,v0,rfl,rfl,rfl⟩:=map_eq_cons_iff.1 hw;have ai:i∈p:=B4 i (by simp);rw[zJ,getElem?_map,FG ai]at he;simp only[map_some,getD_some,mem_map]at he;obtain⟨fY,ahX,rfl⟩:=he;exact List.mem_map_of_mem (aG BK i v0 rfl fY ahX)
theorem X8 {df:azr} {l u v:azt} {a b:Nat} (h:sX df l) (hl:l=u++a::v) (ab:b∈v) (kP:a≠b):sX (p_ df b a) l:=by
 obtain⟨ad,af,aG⟩:=h;refine⟨ad,λi=>by rw[af,p_,length_set],λxZ i v2 hu e he=>?_⟩;by_cases X9:i=b
 .subst X9;have eQ:i<df.length:=(af i).1 (by rw[hl];simp[ab]);rw[p_,getElem?_set_self eQ]at he;simp only[getD_some,mem_cons]at he;rcases he with rfl|he
  .have e:=hl.symm.trans hu;rcases append_eq_append_iff.1 e with⟨c,nC,ly⟩|⟨c,nC,ly⟩
   .cases c with
    |nil=>simp at ly;exact absurd ly.1 kP
    |cons x c=>simp at ly;rw[nC,ly.1];simp
   .cases c with
    |nil=>simp at ly;exact absurd ly.1.symm kP
    |cons x c=>
     simp at ly;exfalso;rw[hl,nC,<-ly.1]at ad;have:=(nodup_append.1 ad).2.2 i (by simp) i (by simp[ab]);exact this rfl
  .exact aG xZ i v2 hu e he
 .rw[p_,getElem?_set_ne (λe=>X9 e.symm)]at he;exact aG xZ i v2 hu e he
theorem ahY {df:azr} {l:azt} {a b:Nat} (h:sX df l) (bq:a<df.length) (ab:b<df.length) (kP:a≠b):sX (p_ df b a) l\/sX (p_ df a b) l:=by
 obtain⟨u,v,hl⟩:=append_of_mem ((h.2.1 a).2 bq);have xG:=(h.2.1 b).2 ab;rw[hl]at xG;simp only[mem_append,mem_cons]at xG;rcases xG with ahZ|rfl|ah0
 .obtain⟨vW,xZ,rfl⟩:=append_of_mem ahZ;exact .inr (X8 h (u:=vW) (v:=xZ++a::v) (by rw[hl];simp) (by simp) (λe=>kP e.symm))
 .exact absurd rfl kP
 .exact .inl (X8 h hl ah0 kP)
theorem X_ {C:cx} {ros:List cC} {df:azr} {s:al} {K:al->Prop} (a b:Nat) (p:azt) (hlen:df.length=ros.length) (au:(decide (a<df.length)&&decide (b<df.length)&&decide (a≠b)&&decide p.Nodup&&(range df.length).all (λi=>p.contains i)&&p.all (λi=>decide (i<df.length)))=true)
  (ad:dK C s ros (some []) (λacc s=>kB (nH (p_ df b a)) 0 [] (acc.getD []).reverse=true/\K s))
  (af:dK C s (v8 p ros) (some []) (λacc s=>kB (nH (zJ p (p_ df a b))) 0 [] (acc.getD []).reverse=true/\K s)):∀l,sX df l->kW C ros s l K:=by
 simp only[Bool.and_eq_true,decide_eq_true_eq,List.all_eq_true]at au;obtain⟨⟨⟨⟨⟨bq,ab⟩,kP⟩,aX⟩,fO⟩,Ya⟩:=au;intro l hl;have v_:∀i j,(p_ df i j).length=df.length:=λi j=>by rw[p_,length_set]
 rcases ahY hl bq ab kP with h|h
 .exact I7 ((v_ _ _).trans hlen) ad l h
 .have hm:∀i,i∈p↔i<df.length:=by
   intro i;refine⟨Ya i,λai=>?_⟩;simpa using fO i (mem_range.2 ai)
  have B4:=ahW aX (λi=>by rw[hm,v_]) h;refine X7 (λi ai=>by rw[<-hlen];exact Ya i ai) l s K (λi ai=>(hm i).2 ((hl.2.1 i).1 ai)) ?_;exact I7 (by rw[zJ,v8,length_map,length_map]) af _ B4
theorem ah1 {C:cx} {Q:Exit->al->Prop} {l:azx} {ros:List cC} {df:azr} {k:azt} (a b:Nat) (p:azt) (hlen:df.length=ros.length) (au:(decide (a<df.length)&&decide (b<df.length)&&decide (a≠b)&&decide p.Nodup&&(range df.length).all (λi=>p.contains i)&&p.all (λi=>decide (i<df.length)))=true)
  (cO:azx) (ad:∀P:azx->Prop,P cO->dK C (ar l) ros (some []) (λacc s=>kB (nH (p_ df b a)) 0 [] (acc.getD []).reverse=true/\P (gZ k s)))
  (af:∀P:azx->Prop,P cO->dK C (ar l) (v8 p ros) (some []) (λacc s=>kB (nH (zJ p (p_ df a b))) 0 [] (acc.getD []).reverse=true/\P (gZ k s))) (aw:Q .normal (ar cO)):
  bm C (.j3 ros df (some k)) Q (ar l):=
 X_ (K:=λs=>Q .normal (ar (gZ k s))) a b p hlen au (ad (λl=>Q .normal (ar l)) aw) (af (λl=>Q .normal (ar l)) aw)
theorem ah2 {C:cx} {Q:Exit->al->Prop} {l:azx} {ros:List cC} {df:azr} {k:azt} {c:aA} (a b:Nat) (p:azt) (hlen:df.length=ros.length) (au:(decide (a<df.length)&&decide (b<df.length)&&decide (a≠b)&&decide p.Nodup&&(range df.length).all (λi=>p.contains i)&&p.all (λi=>decide (i<df.length)))=true)
  (cO:azx) (ad:∀P:azx->Prop,P cO->dK C (ar l) ros (some []) (λacc s=>kB (nH (p_ df b a)) 0 [] (acc.getD []).reverse=true/\P (gZ k s)))
  (af:∀P:azx->Prop,P cO->dK C (ar l) (v8 p ros) (some []) (λacc s=>kB (nH (zJ p (p_ df a b))) 0 [] (acc.getD []).reverse=true/\P (gZ k s))) (aw:bm C c Q (ar cO)):
  bm C (.seq (.j3 ros df (some k)) c) Q (ar l):=
 X_ (K:=λs=>eV (bm C c Q) (ar (gZ k s))) a b p hlen au (ad (λl=>eV (bm C c Q) (ar l)) (.inl aw)) (af (λl=>eV (bm C c Q) (ar l)) (.inl aw))
section
variable {C:cx} {s:al} {l:azx} {Q:Exit->al->Prop}
theorem nZ {fx:azt} {fy:List ResultVar} {r:I} (ds:azy) (af:r=Fv ds:=by cases eE (by assumption);rfl) (ad:fy.map (ry C s)=ds.map some:=by rfl) (aG:(fy.map k_).Nodup:=by decide):Ends C fx fy r [] s:=
 hs ds ad af aG agt
theorem cM {fx:azt} {fy:List ResultVar} {r:I} (k:∀s,eV (Ends C fx fy r []) s->Q .ret s) (ds:azy) (af:r=Fv ds:=by cases eE (by assumption);rfl) (ad:fy.map (ry C s)=ds.map some:=by rfl) (aG:(fy.map k_).Nodup:=by decide):bm C .ret Q s:=
 gr (k _ (.inl (nZ ds af ad aG)))
theorem ax {kk:al->Prop} {a b:aA} (FI:∀s,kk s->Q .ret s) (h:∀fs:Exit->al->Prop,(∀s,eV (bm C b Q) s->fs .normal s)->(∀s,kk s->fs .ret s)->(∀i s,Q (.exit i) s->fs (.exit i) s)->bm C a fs s):bm C (.seq a b) Q s:=
 ago λfs n q x=>h fs n (λs aa=>q s (FI s aa)) x
theorem bg {kk:al->Prop} {id:Nat} {b:aA} (FI:∀s,kk s->Q .ret s) (h:∀fs:Exit->al->Prop,(∀s,Q .normal s->fs .normal s)->(∀s,kk s->fs .ret s)->(∀s,Q .normal s->fs (.exit id) s)->(∀i s,i≠id->Q (.exit i) s->fs (.exit i) s)->bm C b fs s):bm C (.block id b) Q s:=
 agq λfs n q b x=>h fs n (λs aa=>q s (FI s aa)) b x
theorem cX {kk:al->Prop} {b:aA} (FI:∀s,kk s->Q .ret s) (h:∀fs:Exit->al->Prop,(∀s,eV (cL C b Q) s->fs .normal s)->(∀s,kk s->fs .ret s)->(∀i s,Q (.exit i) s->fs (.exit i) s)->bm C b fs s):cL C b Q s:=
 agr λfs n q x=>h fs n (λs aa=>q s (FI s aa)) x
theorem dn {β:Type} {f:Nat->Option β} {v:β} {b:aA} {cO:azx} (h:b3 f=some v) (k:∀n,f n=some v->cL C b Q (ar cO)) (hw:cO.map (·.2)=cO.map (λp=>s p.1):=by rfl):bm C (.loop b) Q s:=
 let⟨n,aX⟩:=l_ h
 p7 (.inr ⟨cO,bE hw,k n aX⟩)
theorem aD {β:Type} {c:bC} {t e:aA} {b:Bool} {x y:Option β} {r:β} (h:cond b x y=some r) (ad:b=true->x=some r->bm C t Q s) (af:b=false->y=some r->bm C e Q s) (au:bA s c= .bool b:=by rfl):bm C (.cond c t e) Q s:=by
 rcases dO h with⟨rfl,h⟩|⟨rfl,h⟩
 .exact jS au (ad rfl h)
 .exact ot au (af rfl h)
end
def aA.pC:aA->azr->aA×azr
 | .eD r _,k::mJ=>(.eD r (some k),mJ)
 | .j3 r a _,k::mJ=>(.j3 r a (some k),mJ)
 | .seq a b,mJ=>(.seq (a.pC mJ).1 (b.pC (a.pC mJ).2).1,(b.pC (a.pC mJ).2).2)
 | .cond c a b,mJ=>(.cond c (a.pC mJ).1 (b.pC (a.pC mJ).2).1,(b.pC (a.pC mJ).2).2)
 | .block i a,mJ=>(.block i (a.pC mJ).1,(a.pC mJ).2)
 | .loop a,mJ=>(.loop (a.pC mJ).1,(a.pC mJ).2)
 |c,mJ=>(c,mJ)
def bN (n:Nat) (k:azt) (f:Func) (mJ:azr):aA:=(((gg ⟨n,k⟩ (f.body.getD .skip)).getD .skip).pC mJ).1
def bO (x:aA) {c:aA} (h:x=c:=by
    conv=>lhs;reduce):aA:=c
end Go.ep
