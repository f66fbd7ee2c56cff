/- Part of a proof that a law returns true for every input. No condition. -/
import Derived.Test.YtmaenemdkobeeaaGreatFwH
import Derived.Laws.Externs
import Derived.Lib.Bytealg
namespace Go.ek
open List Option Go.IntKind Nat Or
theorem ba.wide {C:ch} {f:FuncId} {as:arM} {r hE:J} {outs:arM} (h:ba C f as r outs) (hw:fJ r hE) (bc:r.tree=true) (b_:J.eJ outs=[]):ba C f as hE outs:=by
 intro w F X S vs hl a4;refine qh.mono (h w F X S vs hl a4) ?_;rintro v aQ ⟨b9,a0,bM⟩;have SE:∀(k:Nat) (l:arM),J.eJ ((num k l).map (·.2))=J.eJ l:=by
  intro k l;induction l generalizing k with
  |nil=>rfl
  |cons a l ih=>simp only[num,map_cons,J.eJ,ih]
 have yI:∀(k:Nat) (l:arM) (p:Nat×J),p∈num k l->∃i,l[i]? =some p.2/\p.1=k+i:=by
  intro k l;induction l generalizing k with
  |nil=>intro p aw;cases aw
  |cons a l ih=>
   intro p aw;rcases mem_cons.1 aw with rfl|aw
   .exact⟨0,rfl,rfl⟩
   .obtain⟨i,ae,ag⟩:=ih (k+1) p aw;exact⟨i+1,by simpa using ae,by omega⟩
 have ER:J.eJ (hE::outs)=[]:=by
  have:hE.tree=true:=hw.tree bc;simp[J.eJ,JD this,b_]
 have Ko:tB (gK (r::outs)) (num 0 (hE::outs)):=by
  intro p aw;obtain⟨i,ae,ag⟩:=yI 0 _ p aw;have al:p.1=i:=by omega
  cases i with
  |zero=>
   simp at ae;right;rw[al,<-ae];refine⟨bc,hw,?_⟩;intro cO eR;refine .inl λhm=>?_;have:cO.2.ad=[]:=by
    have key:∀(as:arM) (a:J),a∈as->J.eJ as=[]->a.ad=[]:=by
     intro as;induction as with
     |nil=>intro a h;cases h
     |cons b as ih=>
      intro a h he;simp only[J.eJ,append_eq_nil_iff]at he;rcases mem_cons.1 h with rfl|h
      .exact he.1
      .exact ih a h he.2
    obtain⟨j,a2,_⟩:=yI 0 _ cO eR;exact key _ _ (mem_of_getElem? a2) ER
   rw[this]at hm;cases hm
  |succ i=>
   left;rw[al];simp only[gK,List.getD];simp at ae;simp[ae]
 obtain⟨tz,eo,ag⟩:=bM.JS Ko;refine⟨tz,eo,?_⟩;rw[Bv];exact ag
section
variable {C:ch} {l:arL} {os:List cn} {K:Option (List f_)->az->Prop} {dst:Option Nat}
def ry (s:az):List c8->Prop
 |[]=>True
 |p::ps=>p.ok s/\ry s ps
theorem Fh {s:az}:∀{ps:List c8},ry s ps->∀p∈ps,p.ok s
 |p::ps,h,q,cl=>by
  rcases mem_cons.1 cl with rfl|cl
  .exact h.1
  .exact Fh h.2 q cl
def sE:List c8->Bool
 |[]=>true
 |p::ps=>p.o.da&&sE ps
theorem Fi:∀{ps:List c8},sE ps=true->∀p∈ps,p.o.da=true
 |p::ps,h,q,cl=>by
  simp only[sE,Bool.and_eq_true]at h;rcases mem_cons.1 cl with rfl|cl
  .exact h.1
  .exact Fi h.2 q cl
theorem SF {f:bl} {args:List bl} {g:FuncId} {caps:arM} {K:arH->J->az->Prop} (ps:List c8) (r:J)
  (ae:bs (aq l) f= .fn g caps) (hP:J.eu caps=true) (ag:ps.map (·.a)=kn (aq l) args++caps) (aK:ry (aq l) ps) (a3:jb ps=true)
  (bI:ba C g (ps.map (·.d)) r (ps.map (·.o))) (dc:r.res=true) (c6:kV ps=false\/(r.da&&sE ps)=true) (hK:K (sC ps) r (iC (fT (aq l) ps) ps)):po C (aq l) (.call f args) K:=by
 refine⟨g,caps,ps,r,ae,hP,by rw[ag,yE],Fh aK,a3,bI,dc,?_,hK⟩;intro hl;rcases c6 with c6|c6
 .rw[c6]at hl;cases hl
 .rw[Bool.and_eq_true]at c6;exact⟨c6.1,Fi c6.2⟩
theorem aaZ {f:bl} {args:List bl} {g:FuncId} {caps:arM} {K:arH->J->az->Prop} {us:arH} (ps:List c8) (r:J) (ay:m1 (aq l) (kl (aq l) us)=true)
  (ae:bs (aq l) f= .fn g caps) (hP:J.eu caps=true) (ag:ps.map (·.a)=kn (aq l) args++caps) (aK:ry (aq l) ps) (a3:jb ps=true)
  (bI:ba C g (ps.map (·.d)) r (ps.map (·.o))) (dc:r.res=true) (c6:kV ps=false\/(r.da&&sE ps)=true)
  (hK:m1 (iC (fT (aq l) ps) ps) (kl (aq l) us)=true/\K (us++sC ps) r (oG (iC (fT (aq l) ps) ps) (kl (aq l) us))):po C (aq l) (.la f args us) K:=by
 refine⟨ay,g,caps,ps,r,ae,hP,by rw[ag,yE],Fh aK,a3,bI,dc,?_,hK⟩;intro hl;rcases c6 with c6|c6
 .rw[c6]at hl;cases hl
 .rw[Bool.and_eq_true]at c6;exact⟨c6.1,Fi c6.2⟩
theorem BI {f:bl} {args:List bl} {g:FuncId} {caps:arM} {r:J} {us:arH} (ps:List c8) (bI:ba C g (ps.map (·.d)) r (ps.map (·.o)))
  (ae:bs (aq l) f= .fn g caps) (hP:J.eu caps=true) (ag:ps.map (·.a)=kn (aq l) args++caps) (aK:ry (aq l) ps) (a3:jb ps=true)
  (dc:r.res=true) (c6:kV ps=false\/(r.da&&sE ps)=true) (ay:m1 (aq l) (kl (aq l) us)=true)
  (hK:m1 (iC (fT (aq l) ps) ps) (kl (aq l) us)=true/\dk C (fin (oG (iC (fT (aq l) ps) ps) (kl (aq l) us)) dst r) os none K):dk C (aq l) (⟨dst,.la f args us,none⟩::os) none K:=by
 simp only[dk,ny,rr];exact aaZ ps r ay ae hP ag aK a3 bI dc c6 hK
theorem SG (s:az):kl s []=[]/\(∀u us,kl s (u::us)=(u,s u)::kl s us)/\m1 s []=true/\(∀p L,m1 s (p::L)=(p.2.gG s&&m1 s L))/\oG s []=s/\(∀p L,oG s (p::L)=oG (dY s p.1 p.2) L)/\
  (∀x,J.gG s (.h x [])=(s x).own)/\(∀x k,J.gG s (.ab x k)= !(s x).plain)/\(∀f c,J.gG s (.fn f c)=J.qj s c)/\J.qj s []=true/\(∀d ds,J.qj s (d::ds)=(d.gG s&&J.qj s ds))/\
  (∀k n,J.gG s (.int k n)=true)/\(∀b,J.gG s (.bool b)=true)/\(∀x,J.gG s (.str x)=true)/\(∀x,J.gG s (.slice x)=true)/\(∀x,J.gG s (.ref x)=true)/\J.gG s .au=true/\J.gG s .eh=true/\(∀aH,J.gG s (.agg aH)=J.eu aH):=
 ⟨rfl,λ_ _=>rfl,rfl,λ_ _=>rfl,rfl,λ_ _=>rfl,λ_=>rfl,λ_ _=>rfl,λ_ _=>rfl,rfl,λ_ _=>rfl,λ_ _=>rfl,λ_=>rfl,λ_=>rfl,λ_=>rfl,λ_=>rfl,rfl,rfl,λ_=>rfl⟩
theorem ma {f:bl} {args:List bl} {g:FuncId} {caps:arM} {r:J} (ps:List c8) (bI:ba C g (ps.map (·.d)) r (ps.map (·.o)))
  (ae:bs (aq l) f= .fn g caps) (hP:J.eu caps=true) (ag:ps.map (·.a)=kn (aq l) args++caps) (aK:ry (aq l) ps) (a3:jb ps=true)
  (dc:r.res=true) (c6:kV ps=false\/(r.da&&sE ps)=true)
  (hK:dk C (fin (iC (fT (aq l) ps) ps) dst r) os none K):dk C (aq l) (⟨dst,.call f args,none⟩::os) none K:=by
 simp only[dk,ny,rr];exact SF ps r ae hP ag aK a3 bI dc c6 hK
theorem SH {a:List f_} {f:bl} {args:List bl} {g:FuncId} {caps:arM} {r:J} (ps:List c8) (bI:ba C g (ps.map (·.d)) r (ps.map (·.o)))
  (ae:bs (aq l) f= .fn g caps) (hP:J.eu caps=true) (ag:ps.map (·.a)=kn (aq l) args++caps) (aK:ry (aq l) ps) (a3:jb ps=true)
  (dc:r.res=true) (c6:kV ps=false\/(r.da&&sE ps)=true)
  (hK:dk C (fin (iC (fT (aq l) ps) ps) dst r) os (some (jU (aq l) (use (aq l) (.call f args)) dst (sC ps) r::a)) K):dk C (aq l) (⟨dst,.call f args,none⟩::os) (some a) K:=by
 simp only[dk,ny,rr];exact SF ps r ae hP ag aK a3 bI dc c6 hK
theorem mA (s:az):ry s []=True/\(∀p ps,ry s (p::ps)=(p.ok s/\ry s ps))/\(∀a d o,c8.ok s ⟨a,false,d,o⟩=(view s a=some d))/\
  (∀x q d o,c8.ok s ⟨.h x q,true,d,o⟩=(J.sub q (s x)=some d/\d.hv=true/\(o= .hole\/(o.hv=true/\uV d o=true)))):=by
 refine⟨rfl,λ_ _=>rfl,λ_ _ _=>?_,λ_ _ _ _=>?_⟩<;>simp[c8.ok]
theorem lI:(∀d,J.own (.aG d)=true)/\(∀n xs,J.own (.af n xs)=true)/\(∀d,J.hv (.aG d)=true)/\(∀n xs,J.hv (.af n xs)=true)/\(∀aH,J.hv (.agg aH)= !J.eu aH)/\
  (∀d e,uV (.aG d) (.aG e)=true)/\(∀n xs m c7,uV (.af n xs) (.af m c7)=true)/\(∀a b,uV (.agg a) (.agg b)=(J.e1 a==J.e1 b)):=⟨λ_=>rfl,λ_ _=>rfl,λ_=>rfl,λ_ _=>rfl,λ_=>rfl,λ_ _=>rfl,λ_ _ _ _=>rfl,λ_ _=>rfl⟩
theorem kp (s:az):fT s []=s/\iC s []=s/\(∀p ps,fT s (p::ps)=fT (c8.take s p) ps)/\(∀p ps,iC s (p::ps)=iC (c8.jR s p) ps)/\
  (∀a d o,c8.take s ⟨a,false,d,o⟩=s)/\(∀a d o,c8.jR s ⟨a,false,d,o⟩=s)/\(∀x q d o,c8.take s ⟨.h x q,true,d,o⟩=dY (hq x s) x (J.put q d.dS (s x)))/\
  (∀a d,c8.jR s ⟨a,true,d,.hole⟩=s)/\(∀x q d e,c8.jR s ⟨.h x q,true,d,.aG e⟩=dY (nk x s) x (J.put q (.aG e) (s x)))/\
  (∀x q d n xs,c8.jR s ⟨.h x q,true,d,.af n xs⟩=dY (nk x s) x (J.put q (.af n xs) (s x)))/\
  (∀x q d aH,c8.jR s ⟨.h x q,true,d,.agg aH⟩=dY (nk x s) x (J.put q (.agg aH) (s x))):=by
 refine⟨rfl,rfl,λ_ _=>rfl,λ_ _=>rfl,?_,?_,?_,?_,?_,?_,?_⟩<;>intros<;>simp[c8.take,c8.jR]
def va (s:az) (fx rs:arH):Nat->arM->Bool->Prop
 |_,[],_=>True
 |k,o::r,b=>(o= .hole\/(o=s k/\o.hv=true/\fx.contains k=true/\rs.contains k=false))/\va s fx rs (k+1) r b
theorem lJ {s:az} {fx:arH} {fD:List ResultVar} {outs:arM} (h:va s fx (fD.map km) 0 outs true):∀(i:Nat) (o:J),outs[i]? =some o->o= .hole\/(o=s i/\o.hv=true/\i∈fx/\i∉fD.map km):=by
 have key:∀(outs:arM) (k:Nat),va s fx (fD.map km) k outs true->∀(i:Nat) (o:J),outs[i]? =some o->o= .hole\/(o=s (k+i)/\o.hv=true/\k+i∈fx/\k+i∉fD.map km):=by
  intro outs;induction outs with
  |nil=>intro k _ i o h;simp at h
  |cons a outs ih=>
   intro k h i o b_;cases i with
   |zero=>
    simp at b_;subst b_;rcases h.1 with h|⟨ae,ag,aK,a3⟩
    .exact .inl h
    .exact .inr ⟨ae,ag,by simpa using aK,by simpa using a3⟩
   |succ i=>
    have:=ih (k+1) h.2 i o (by simpa using b_);rw[show k+(i+1)=k+1+i by omega];exact this
 intro i o b_;have:=key outs 0 h i o b_;simpa using this
theorem h1 {s:az} {fx rs:arH} {k:Nat} {l:arM} (h:va s fx rs (k+1) l true):va s fx rs k (.hole::l) true:=⟨.inl rfl,h⟩
theorem mb {s:az} {fx rs:arH} {k:Nat} {o:J} {l:arM} (ae:o=s k) (ag:o.hv=true) (aK:fx.contains k=true) (a3:rs.contains k=false) (h:va s fx rs (k+1) l true):va s fx rs k (o::l) true:=⟨.inr ⟨ae,ag,aK,a3⟩,h⟩
theorem lK {s:az} {fx rs:arH} {k:Nat}:va s fx rs k [] true:=trivial
theorem mB {Q:Exit->az->Prop} {ros:List cn} {k:arH} {b:aN} (h:dk C (aq l) ros none (λ_ s=>eB (a6 C b Q) (aq (gz k s)))):a6 C (.seq (.fK ros (some k)) b) Q (aq l):=wK (λ_ _ h=>h) h
theorem SI {Q:Exit->az->Prop} {ros:List cn} {cK:arF} {k:arH} {b:aN} (hlen:cK.length=ros.length) (h:dk C (aq l) ros (some []) (λacc s=>jq (lH cK) 0 [] (acc.getD []).reverse=true/\eB (a6 C b Q) (aq (gz k s)))):
  a6 C (.seq (.jC ros cK (some k)) b) Q (aq l):=BC (K:=λs=>eB (a6 C b Q) (aq (gz k s))) hlen h
theorem SJ {K:az->Prop} {s:az} (cb:arL) (h:tB s cb) (ao:K (aq cb)):eB K s:=.inr ⟨cb,h,ao⟩
def J.aa0:J->Bool
 | .tuple _=>true
 | .eM _=>true
 |_=>false
theorem Fj {d e:J} (bc:d.tree=true) (aZ:d.aa0=false) (h:d.share=e):fJ d e:=by
 subst h;exact .share d bc (λvs e=>by subst e;cases aZ) (λo e=>by subst e;cases aZ)
theorem SK:(∀neg e r,u6 neg (.slice e) (some r)=some (q7 neg r))/\(∀neg,q7 neg none= .fW)/\q7 false (some false)= .bool false/\q7 true (some false)= .bool true/\q7 false (some true)= .bool true/\q7 true (some true)= .bool false/\(∀s,kT s .au=some (some true)):=
 ⟨λ_ _ _=>rfl,λ_=>rfl,rfl,rfl,rfl,rfl,λ_=>rfl⟩
theorem yJ {α:Type} {xs:List α} (h:xs.isEmpty=true) (e:α->J) (s:az):kT s (.slice (xs.map e))=some none:=by
 have:xs=[]:=isEmpty_iff.1 h;subst this;rfl
theorem yK {α:Type} {xs:List α} (h:xs.isEmpty=false) (e:α->J) (s:az):kT s (.slice (xs.map e))=some (some false):=by
 cases xs with
 |nil=>cases h
 |cons x xs=>rfl
def Kp:Option J->Option arI
 |some (.af _ xs)=>some (if xs=[]then none else some false)
 |_=>none
theorem aa1 (s:az) (x:Nat) (q:arH):kT s (.h x q)=Kp (J.sub q (s x)):=by
 simp only[kT];rfl
theorem SL {α:Type} {xs:List α} (h:xs.isEmpty=true) (e:α->J) (n:Nat):Kp (some (.af n (xs.map e)))=some none:=by
 have:xs=[]:=isEmpty_iff.1 h;subst this;rfl
theorem SM {α:Type} {xs:List α} (h:xs.isEmpty=false) (e:α->J) (n:Nat):Kp (some (.af n (xs.map e)))=some (some false):=by
 cases xs with
 |nil=>cases h
 |cons x xs=>rfl
theorem ba.nil {C:ch} {f:FuncId} {args:arM} {r:J} {outs:arM} (i:Nat) (h:ba C f (args.set i (.slice [])) r outs) (al:args[i]? =some .au):ba C f args r outs:=by
 intro w F X S vs hl a4;have kk:=a4.ev i;have ad:gK args i= .au:=by simp[gK,List.getD,al]
 rw[ad]at kk;have aE:aU w F (gK args) (iD vs) (.slice []) (iD vs i) (λ_=>False):=by
  rw[aU.c_ rfl]at kk⊢;refine⟨kk.1,?_⟩;have ag:=kk.2;simp only[aD]at ag⊢;exact .inl ⟨trivial,none,0,ag,zero_le _,λ_=>rfl⟩
 have ag:=a4.yd (t:=i) rfl aE;have aW:dY (gK args) i (.slice [])=gK (args.set i (.slice [])):=by
  funext t;have e2:i<args.length:=(List.getElem?_eq_some_iff.1 al).1;by_cases bc:t=i
  .subst bc;simp[dY,gK,List.getD,e2]
  .have:i≠t:=λe=>bc e.symm;simp[dY,bc,gK,List.getD,this]
 have a8:dY (iD vs) i (iD vs i)=iD vs:=by
  funext t;by_cases bc:t=i
  .subst bc;simp[dY]
  .simp[dY,bc]
 rw[aW,a8]at ag;exact h w F X _ vs (by simpa using hl) ag
theorem Kq (a b:arM):J.shares (a++b)=J.shares a++J.shares b:=by simp only[J.uG,map_append]
def oN:Option (J×az)->Option (J×az)
 |some (av,s)=>if(av.tree&& !av.Bx)=true then some (av.share,s)else none
 |none=>none
theorem Kr (s:az):(∀n xs,oN (some (.af n xs,s))=some (.slice (J.shares xs),s))/\(∀d,oN (some (.aG d,s))=some (.ref d.share,s))/\(∀ds,oN (some (.agg ds,s))=some (.agg (J.shares ds),s)):=
 ⟨λ_ _=>rfl,λ_=>rfl,λ_=>rfl⟩
theorem Fk {s:az} {bO:eP} {K:arH->J->az->Prop}:po C s (.shr bO) K=(match oN (bY C s bO)with
  |some (av,s1)=>K (lC s bO) av s1
  |none=>False):=by
 apply propext;cases he:bY C s bO with
 |none=>
  simp only[oN];exact⟨λ⟨av,s1,ae,_⟩=>(by rw[he]at ae;cases ae),λh=>h.elim⟩
 |some p=>
  obtain⟨av,s1⟩:=p;simp only[oN];by_cases bc:(av.tree&& !av.Bx)=true
  .rw[if_pos bc];simp only[Bool.and_eq_true,Bool.not_eq_true']at bc;constructor
   .rintro⟨aa2,aa3,ae,ag,aK,a3⟩;rw[he]at ae;simp only[some.injEq,Prod.mk.injEq]at ae;obtain⟨rfl,rfl⟩:=ae;exact a3
   .intro h;exact⟨av,s1,he,bc.1,λvs e=>by subst e;simp[J.Bx]at bc,h⟩
  .rw[if_neg bc];constructor
   .rintro⟨aa2,aa3,ae,ag,aK,a3⟩;rw[he]at ae;simp only[some.injEq,Prod.mk.injEq]at ae;obtain⟨rfl,rfl⟩:=ae;refine bc ?_;rw[ag];cases av<;>first|rfl|exact(aK _ rfl).elim
   .intro h;exact h.elim
theorem SN (s:az) (d:J):kD s (some d)=some (d,s):=rfl
theorem Ks (bO:eP):(dk C (aq l) (⟨dst,.shr bO,none⟩::os) none K=qo C dst os K (oN (bY C (aq l) bO)))/\
  (∀a,dk C (aq l) (⟨dst,.shr bO,none⟩::os) (some a) K=rv C l (use (aq l) bO) (lC (aq l) bO) dst os a K (oN (bY C (aq l) bO)))/\
  (∀t b,lh C l dst (.shr bO) t b os none K (.bool b)=qo C dst os K (oN (bY C (aq l) bO)))/\
  (∀a t b,lh C l dst (.shr bO) t b os (some a) K (.bool b)=rv C l (t::use (aq l) bO) (lC (aq l) bO) dst os a K (oN (bY C (aq l) bO))):=by
 refine⟨?_,λa=>?_,λt b=>?_,λa t b=>?_⟩
 .simp only[dk,ny,Fk];cases oN (bY C (aq l) bO)with
  |none=>rfl
  |some p=>rfl
 .simp only[dk,ny,Fk];cases oN (bY C (aq l) bO)with
  |none=>rfl
  |some p=>rfl
 .simp only[lh,if_true,Fk];cases oN (bY C (aq l) bO)with
  |none=>rfl
  |some p=>rfl
 .simp only[lh,if_true,Fk];cases oN (bY C (aq l) bO)with
  |none=>rfl
  |some p=>rfl
def yL (C:ch) (s:az):oA->Option (J×az)
 | .slice e=>if(C.T e).ok=true then some (.au,s)else none
 |_=>none
def sF (C:ch) (s:az) (y:Nat) (q:arH) (b:Int):oA->Option J->Option (J×az)
 | .slice e,some (.af sz xs)=>(match jY xs 0 b with
   |some t=>if(C.T e).ok=true then(match dq s (.h y q)with|some (_,s1)=>some (.af sz t,s1)|none=>none)else none
   |none=>none)
 |_,_=>none
theorem yM (C:ch) (s:az) (T:TypeId) (y:Nat) (q:arH):(∀k b,gR C s T (.h y q) none (some (.int k b))=sF C s y q b (C.T T).k (J.sub q (s y)))/\
  (∀k b cZ,gR C s T (.h y q) (some (.int cZ 0)) (some (.int k b))=sF C s y q b (C.T T).k (J.sub q (s y)))/\
  (∀e sz xs b t,jY xs 0 b=some t->sF C s y q b (.slice e) (some (.af sz xs))=if(C.T e).ok=true then(match dq s (.h y q)with|some (_,s1)=>some (.af sz t,s1)|none=>none)else none):=by
 have key:∀(fB:Option J) (k:IntKind) (b:Int),i6 0 fB=some 0->gR C s T (.h y q) fB (some (.int k b))=sF C s y q b (C.T T).k (J.sub q (s y)):=by
  intro fB k b a5;simp only[gR];generalize (C.T T).k=k8;cases k8<;>first|rfl|skip
  rename_i e;cases ad:J.sub q (s y)with
  |none=>simp only[ad];rfl
  |some d=>
   cases d with
   |af sz xs=>
    have aa4:i6 xs.length (some (.int k b))=if 0<=b then some b.toNat else none:=rfl;simp only[ad,a5,aa4,sF,jY];by_cases ab:0<=b
    .by_cases ax:b<=xs.length
     .have ae:b.toNat<=xs.length:=by omega
      simp only[ab,ax,ae,if_true,true_and,Int.le_refl,and_self,Int.toNat_zero,drop_zero];rfl
     .have ae:¬b.toNat<=xs.length:=by omega
      simp only[ab,ax,ae,if_true,if_false,and_false,false_and,Int.le_refl]
    .simp only[ab,if_false,false_and,and_false]
   |_=>simp only[ad];rfl
 refine⟨λk b=>key _ _ _ rfl,λk b cZ=>key _ _ _ (by simp[i6]),λe sz xs b t h=>?_⟩;simp only[sF,h]
def Kt (s:az) (y:Nat):J->Option (J×az)
 | .agg ds=>if J.eu ds then none else some (.ab y 0,s)
 |_=>none
theorem Fl (C:ch) (s:az) (T e:TypeId) (x:bl) (ao:(C.T T).k= .slice e) (ay:bs s x= .au):bY C s (.cap T x)=some (.int .i64 0,s):=by
 simp only[bY,ao,ay]
theorem Fm (T:TypeId) (x:bl):(dk C (aq l) (⟨dst,.cap T x,none⟩::os) none K=qo C dst os K (bY C (aq l) (.cap T x)))/\
  (∀a,dk C (aq l) (⟨dst,.cap T x,none⟩::os) (some a) K=rv C l (use (aq l) (.cap T x)) (lC (aq l) (.cap T x)) dst os a K (bY C (aq l) (.cap T x))):=
 ⟨wO rfl,λ_=>yD rfl⟩
theorem Fo (C:ch) (l:arL) (dst:Option Nat) (os:List cn) (K:Option (List f_)->az->Prop):
  (∀x,dk C (aq l) (⟨dst,.nY x,none⟩::os) none K=qo C dst os K (some (bs (aq l) x,aq l)))/\
  (∀a x,dk C (aq l) (⟨dst,.nY x,none⟩::os) (some a) K=rv C l (use (aq l) (.nY x)) (lC (aq l) (.nY x)) dst os a K (some (bs (aq l) x,aq l))):=
 ⟨λ_=>(wO rfl).trans (congrArg _ rfl),λ_ _=>(yD rfl).trans (congrArg _ rfl)⟩
theorem yN (C:ch) (l:arL) (dst:Option Nat) (os:List cn) (K:Option (List f_)->az->Prop):
  (∀x,dk C (aq l) (⟨dst,.nZ x,none⟩::os) none K=qo C dst os K (wP (aq l) (bs (aq l) x)))/\
  (∀a x,dk C (aq l) (⟨dst,.nZ x,none⟩::os) (some a) K=rv C l (use (aq l) (.nZ x)) (lC (aq l) (.nZ x)) dst os a K (wP (aq l) (bs (aq l) x))):=by
 have e:∀x,bY C (aq l) (.nZ x)=wP (aq l) (bs (aq l) x):=λx=>by
  simp only[bY];cases bs (aq l) x<;>rfl
 exact⟨λx=>(wO rfl).trans (congrArg _ (e x)),λ_ x=>(yD rfl).trans (congrArg _ (e x))⟩
theorem Fp (C:ch) (l:arL) (fs:Bool) (x y:bl):bY C (aq l) (.jQ fs x y)=kD (aq l) (jQ fs (bs (aq l) x) (bs (aq l) y)):=by simp only[bY,Ka]
theorem Fq (C:ch) (l:arL) (dst:Option Nat) (os:List cn) (K:Option (List f_)->az->Prop):
  (∀fs x y,dk C (aq l) (⟨dst,.jQ fs x y,none⟩::os) none K=qo C dst os K (kD (aq l) (jQ fs (bs (aq l) x) (bs (aq l) y))))/\
  (∀a fs x y,dk C (aq l) (⟨dst,.jQ fs x y,none⟩::os) (some a) K=rv C l (use (aq l) (.jQ fs x y)) (lC (aq l) (.jQ fs x y)) dst os a K (kD (aq l) (jQ fs (bs (aq l) x) (bs (aq l) y))))/\
  (∀fs x y t b,lh C l dst (.jQ fs x y) t b os none K (.bool b)=qo C dst os K (kD (aq l) (jQ fs (bs (aq l) x) (bs (aq l) y))))/\
  (∀a fs x y t b,lh C l dst (.jQ fs x y) t b os (some a) K (.bool b)=rv C l (t::use (aq l) (.jQ fs x y)) (lC (aq l) (.jQ fs x y)) dst os a K (kD (aq l) (jQ fs (bs (aq l) x) (bs (aq l) y)))):=
 ⟨λ_ x y=>(wO rfl).trans (congrArg _ (Fp ..)),λ_ _ x y=>(yD rfl).trans (congrArg _ (Fp ..)),λ_ x y _ _=>(RM rfl).trans (congrArg _ (Fp ..)),λ_ _ x y _ _=>(RN rfl).trans (congrArg _ (Fp ..))⟩
theorem Fs (fs:Bool) (k:IntKind) (a b:Int):jQ fs (.int k a) (.int k b)=some (.int k (ti fs a b)):=if_pos rfl
theorem SO (C:ch) (s:az) (e:TypeId):yL C s (.slice e)=if(C.T e).ok=true then some (.au,s)else none:=rfl
theorem rz {C:ch} {l:arL} {os:List cn} {K:Option (List f_)->az->Prop} {dst:Option Nat} (T:TypeId) (x:bl):
  dk C (aq l) (⟨dst,.kA T x,none⟩::os) none K=qo C dst os K (kA (aq l) (bs (aq l) x)):=wO rfl
theorem rA:(∀(t x k:Nat),sd t (.ab x k)= .ab x k)/\(∀(l:arL) (t x k:Nat),fin (aq l) (some t) (.ab x k)=aq ((t,.ab x k)::l))/\(∀x k:Nat,J.plain (.ab x k)=true)/\
  (∀(s:az) (x k:Nat),wP s (.ab x k)=some (.ab x k,s))/\(∀(t y k:Nat),dg t (.ab y k)=if y=t then .hole else .ab y k)/\(∀(t y k:Nat),cB t (.ab y k)= .ab y k)/\(∀x k:Nat,J.wd (.ab x k)=1):=
 ⟨λ_ _ _=>rfl,λl t x k=>by simp only[fin,J.plain,if_true,Bw],λ_ _=>rfl,λ_ _ _=>rfl,λ_ _ _=>by simp only[dg],λ_ _ _=>by simp only[cB],λ_ _=>rfl⟩
theorem rB:(∀(s:az) y,kA s (.h y [])=Kt s y (s y))/\(∀(s:az) y aH,Kt s y (.agg aH)=if J.eu aH then none else some (.ab y 0,s))/\
  (∀k i ds d,Ep (d::ds) i k=if k=0 then some i else if d.wd<=k then Ep ds (i+1) (k-d.wd)else none):=
 ⟨λs y=>by simp only[kA,Kt];cases s y<;>rfl,λ_ _ _=>rfl,λ_ _ _ _=>rfl⟩
theorem SP (C:ch) (s:az) (T:TypeId):gR C s T .au none none=yL C s (C.T T).k/\(∀k,gR C s T .au none (some (.int k 0))=yL C s (C.T T).k)/\(∀k,gR C s T .au (some (.int k 0)) none=yL C s (C.T T).k)/\
  (∀k cZ,gR C s T .au (some (.int k 0)) (some (.int cZ 0))=yL C s (C.T T).k)/\(∀e,yL C s (.slice e)=if(C.T e).ok=true then some (.au,s)else none):=by
 refine⟨?_,λk=>?_,λk=>?_,λk cZ=>?_,λ_=>rfl⟩<;>(simp only[gR];generalize (C.T T).k=k8;cases k8<;>rfl)
theorem SQ (T cC:TypeId) (x y:bl):(dk C (aq l) (⟨dst,.jP T cC x y,none⟩::os) none K=qo C dst os K (kD (aq l) (jP C T cC (bs (aq l) x) (bs (aq l) y))))/\
  (∀a,dk C (aq l) (⟨dst,.jP T cC x y,none⟩::os) (some a) K=rv C l (use (aq l) (.jP T cC x y)) (lC (aq l) (.jP T cC x y)) dst os a K (kD (aq l) (jP C T cC (bs (aq l) x) (bs (aq l) y)))):=by
 have e:bY C (aq l) (.jP T cC x y)=kD (aq l) (jP C T cC (bs (aq l) x) (bs (aq l) y)):=by simp only[bY,Ka]
 exact⟨(wO rfl).trans (by rw[e]),λa=>(yD rfl).trans (by rw[e])⟩
theorem vb {α:Type} {l:List α} {i:Nat} {x:α} (h:l[i]? =some x) (u:α->J) (a:J):((l.map u).set i a)[i]? =some a:=by
 have:i<l.length:=(List.getElem?_eq_some_iff.1 h).1;rw[getElem?_set_self (by simpa using this)]
theorem vc {α:Type} (l:List α) (u:α->J) (i:Nat) (a b:J):((l.map u).set i a).set i b=(l.map u).set i b:=set_set ..
theorem SR {α:Type} (xs:List α):jY xs 0 0=some []:=by unfold jY;rw[if_pos ⟨Int.le_refl _,by omega⟩];rfl
end
end Go.ek
