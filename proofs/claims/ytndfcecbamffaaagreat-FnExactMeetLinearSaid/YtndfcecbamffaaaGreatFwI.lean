/- Part of a proof that a law returns true for every input. No condition. -/
import Derived.Test.YtndfcecbamffaaaGreatFwH
import Derived.Laws.Externs
import Derived.Lib.Bytealg
namespace Go.dD
open List Option Go.IntKind Nat Or
theorem bt.wide {C:bV} {f:FuncId} {as:ahI} {r gv:I} {outs:ahI} (h:bt C f as r outs) (hw:eT r gv) (aZ:r.tree=true) (b_:I.dK outs=[]):bt C f as gv outs:=by
 intro w F X S vs hl aV;refine nz.mono (h w F X S vs hl aV) ?_;rintro v aK ⟨bJ,aS,bO⟩;have agr:∀(k:Nat) (l:ahI),I.dK ((num k l).map (·.2))=I.dK l:=by
  intro k l;induction l generalizing k with
  |nil=>rfl
  |cons a l ih=>simp only[num,map_cons,I.dK,ih]
 have rU:∀(k:Nat) (l:ahI) (p:Nat×I),p∈num k l->∃i,l[i]? =some p.2/\p.1=k+i:=by
  intro k l;induction l generalizing k with
  |nil=>intro p aw;cases aw
  |cons a l ih=>
   intro p aw;rcases mem_cons.1 aw with rfl|aw
   .exact⟨0,rfl,rfl⟩
   .obtain⟨i,af,ag⟩:=ih (k+1) p aw;exact⟨i+1,by simpa using af,by omega⟩
 have Bl:I.dK (gv::outs)=[]:=by
  have:gv.tree=true:=hw.tree aZ;simp[I.dK,E4 this,b_]
 have FR:rR (fk (r::outs)) (num 0 (gv::outs)):=by
  intro p aw;obtain⟨i,af,ag⟩:=rU 0 _ p aw;have aq:p.1=i:=by omega
  cases i with
  |zero=>
   simp at af;right;rw[aq,<-af];refine⟨aZ,hw,?_⟩;intro cE dT;refine .inl λhm=>?_;have:cE.2.ae=[]:=by
    have key:∀(as:ahI) (a:I),a∈as->I.dK as=[]->a.ae=[]:=by
     intro as;induction as with
     |nil=>intro a h;cases h
     |cons b as ih=>
      intro a h he;simp only[I.dK,append_eq_nil_iff]at he;rcases mem_cons.1 h with rfl|h
      .exact he.1
      .exact ih a h he.2
    obtain⟨az,aX,_⟩:=rU 0 _ cE dT;exact key _ _ (mem_of_getElem? aX) Bl
   rw[this]at hm;cases hm
  |succ i=>
   left;rw[aq];simp only[fk,List.getD];simp at af;simp[af]
 obtain⟨j6,dq,ag⟩:=bO.Fg FR;refine⟨j6,dq,?_⟩;rw[yN];exact ag
section
variable {C:bV} {l:ahH} {os:List bW} {K:Option (List fh)->ao->Prop} {dst:Option Nat}
def qU (s:ao):List cJ->Prop
 |[]=>True
 |p::ps=>p.ok s/\qU s ps
theorem FT {s:ao}:∀{ps:List cJ},qU s ps->∀p∈ps,p.ok s
 |p::ps,h,q,cM=>by
  rcases mem_cons.1 cM with rfl|cM
  .exact h.1
  .exact FT h.2 q cM
def s4:List cJ->Bool
 |[]=>true
 |p::ps=>p.o.dj&&s4 ps
theorem FU:∀{ps:List cJ},s4 ps=true->∀p∈ps,p.o.dj=true
 |p::ps,h,q,cM=>by
  simp only[s4,Bool.and_eq_true]at h;rcases mem_cons.1 cM with rfl|cM
  .exact h.1
  .exact FU h.2 q cM
theorem M1 {f:bn} {args:List bn} {g:FuncId} {caps:ahI} {K:ahC->I->ao->Prop} (ps:List cJ) (r:I)
  (af:br (an l) f= .fn g caps) (gS:I.eY caps=true) (ag:ps.map (·.a)=j_ (an l) args++caps) (aJ:qU (an l) ps) (a_:iF ps=true)
  (bC:bt C g (ps.map (·.d)) r (ps.map (·.o))) (cw:r.res=true) (cQ:kn ps=false\/(r.dj&&s4 ps)=true) (hK:K (qS ps) r (hq (fb (an l) ps) ps)):n7 C (an l) (.call f args) K:=by
 refine⟨g,caps,ps,r,af,gS,by rw[ag,yW],FT aJ,a_,bC,cw,?_,hK⟩;intro hl;rcases cQ with cQ|cQ
 .rw[cQ]at hl;cases hl
 .rw[Bool.and_eq_true]at cQ;exact⟨cQ.1,FU cQ.2⟩
theorem Vz {f:bn} {args:List bn} {g:FuncId} {caps:ahI} {K:ahC->I->ao->Prop} {us:ahC} (ps:List cJ) (r:I) (aA:lZ (an l) (jP (an l) us)=true)
  (af:br (an l) f= .fn g caps) (gS:I.eY caps=true) (ag:ps.map (·.a)=j_ (an l) args++caps) (aJ:qU (an l) ps) (a_:iF ps=true)
  (bC:bt C g (ps.map (·.d)) r (ps.map (·.o))) (cw:r.res=true) (cQ:kn ps=false\/(r.dj&&s4 ps)=true)
  (hK:lZ (hq (fb (an l) ps) ps) (jP (an l) us)=true/\K (us++qS ps) r (nA (hq (fb (an l) ps) ps) (jP (an l) us))):n7 C (an l) (.lX f args us) K:=by
 refine⟨aA,g,caps,ps,r,af,gS,by rw[ag,yW],FT aJ,a_,bC,cw,?_,hK⟩;intro hl;rcases cQ with cQ|cQ
 .rw[cQ]at hl;cases hl
 .rw[Bool.and_eq_true]at cQ;exact⟨cQ.1,FU cQ.2⟩
theorem VA {f:bn} {args:List bn} {g:FuncId} {caps:ahI} {r:I} {us:ahC} (ps:List cJ) (bC:bt C g (ps.map (·.d)) r (ps.map (·.o)))
  (af:br (an l) f= .fn g caps) (gS:I.eY caps=true) (ag:ps.map (·.a)=j_ (an l) args++caps) (aJ:qU (an l) ps) (a_:iF ps=true)
  (cw:r.res=true) (cQ:kn ps=false\/(r.dj&&s4 ps)=true) (aA:lZ (an l) (jP (an l) us)=true)
  (hK:lZ (hq (fb (an l) ps) ps) (jP (an l) us)=true/\cS C (fin (nA (hq (fb (an l) ps) ps) (jP (an l) us)) dst r) os none K):cS C (an l) (⟨dst,.lX f args us,none⟩::os) none K:=by
 simp only[cS,mz,p0];exact Vz ps r aA af gS ag aJ a_ bC cw cQ hK
theorem M3 (s:ao):jP s []=[]/\(∀u us,jP s (u::us)=(u,s u)::jP s us)/\lZ s []=true/\(∀p L,lZ s (p::L)=(p.2.fI s&&lZ s L))/\nA s []=s/\(∀p L,nA s (p::L)=nA (cY s p.1 p.2) L)/\
  (∀x,I.fI s (.h x [])=(s x).own)/\(∀x k,I.fI s (.U x k)= !(s x).plain)/\(∀f c,I.fI s (.fn f c)=I.oV s c)/\I.oV s []=true/\(∀d ds,I.oV s (d::ds)=(d.fI s&&I.oV s ds))/\
  (∀k n,I.fI s (.int k n)=true)/\(∀b,I.fI s (.bool b)=true)/\(∀x,I.fI s (.str x)=true)/\(∀x,I.fI s (.slice x)=true)/\(∀x,I.fI s (.ref x)=true)/\I.fI s .ah=true/\I.fI s .dM=true/\(∀aG,I.fI s (.agg aG)=I.eY aG):=
 ⟨rfl,λ_ _=>rfl,rfl,λ_ _=>rfl,rfl,λ_ _=>rfl,λ_=>rfl,λ_ _=>rfl,λ_ _=>rfl,rfl,λ_ _=>rfl,λ_ _=>rfl,λ_=>rfl,λ_=>rfl,λ_=>rfl,λ_=>rfl,rfl,rfl,λ_=>rfl⟩
theorem p2 {f:bn} {args:List bn} {g:FuncId} {caps:ahI} {r:I} (ps:List cJ) (bC:bt C g (ps.map (·.d)) r (ps.map (·.o)))
  (af:br (an l) f= .fn g caps) (gS:I.eY caps=true) (ag:ps.map (·.a)=j_ (an l) args++caps) (aJ:qU (an l) ps) (a_:iF ps=true)
  (cw:r.res=true) (cQ:kn ps=false\/(r.dj&&s4 ps)=true)
  (hK:cS C (fin (hq (fb (an l) ps) ps) dst r) os none K):cS C (an l) (⟨dst,.call f args,none⟩::os) none K:=by
 simp only[cS,mz,p0];exact M1 ps r af gS ag aJ a_ bC cw cQ hK
theorem wg {a:List fh} {f:bn} {args:List bn} {g:FuncId} {caps:ahI} {r:I} (ps:List cJ) (bC:bt C g (ps.map (·.d)) r (ps.map (·.o)))
  (af:br (an l) f= .fn g caps) (gS:I.eY caps=true) (ag:ps.map (·.a)=j_ (an l) args++caps) (aJ:qU (an l) ps) (a_:iF ps=true)
  (cw:r.res=true) (cQ:kn ps=false\/(r.dj&&s4 ps)=true)
  (hK:cS C (fin (hq (fb (an l) ps) ps) dst r) os (some (jg (an l) (use (an l) (.call f args)) dst (qS ps) r::a)) K):cS C (an l) (⟨dst,.call f args,none⟩::os) (some a) K:=by
 simp only[cS,mz,p0];exact M1 ps r af gS ag aJ a_ bC cw cQ hK
theorem o0 (s:ao):qU s []=True/\(∀p ps,qU s (p::ps)=(p.ok s/\qU s ps))/\(∀a d o,cJ.ok s ⟨a,false,d,o⟩=(view s a=some d))/\
  (∀x q d o,cJ.ok s ⟨.h x q,true,d,o⟩=(I.sub q (s x)=some d/\d.gE=true/\(o= .hole\/(o.gE=true/\sO d o=true)))):=by
 refine⟨rfl,λ_ _=>rfl,λ_ _ _=>?_,λ_ _ _ _=>?_⟩<;>simp[cJ.ok]
theorem nF:(∀d,I.own (.ai d)=true)/\(∀n xs,I.own (.ad n xs)=true)/\(∀d,I.gE (.ai d)=true)/\(∀n xs,I.gE (.ad n xs)=true)/\(∀aG,I.gE (.agg aG)= !I.eY aG)/\
  (∀d e,sO (.ai d) (.ai e)=true)/\(∀n xs m cr,sO (.ad n xs) (.ad m cr)=true)/\(∀a b,sO (.agg a) (.agg b)=(I.dO a==I.dO b)):=⟨λ_=>rfl,λ_ _=>rfl,λ_=>rfl,λ_ _=>rfl,λ_=>rfl,λ_ _=>rfl,λ_ _ _ _=>rfl,λ_ _=>rfl⟩
theorem l3 (s:ao):fb s []=s/\hq s []=s/\(∀p ps,fb s (p::ps)=fb (cJ.take s p) ps)/\(∀p ps,hq s (p::ps)=hq (cJ.je s p) ps)/\
  (∀a d o,cJ.take s ⟨a,false,d,o⟩=s)/\(∀a d o,cJ.je s ⟨a,false,d,o⟩=s)/\(∀x q d o,cJ.take s ⟨.h x q,true,d,o⟩=cY (hV x s) x (I.put q d.cZ (s x)))/\
  (∀a d,cJ.je s ⟨a,true,d,.hole⟩=s)/\(∀x q d e,cJ.je s ⟨.h x q,true,d,.ai e⟩=cY (kR x s) x (I.put q (.ai e) (s x)))/\
  (∀x q d n xs,cJ.je s ⟨.h x q,true,d,.ad n xs⟩=cY (kR x s) x (I.put q (.ad n xs) (s x)))/\
  (∀x q d aG,cJ.je s ⟨.h x q,true,d,.agg aG⟩=cY (kR x s) x (I.put q (.agg aG) (s x))):=by
 refine⟨rfl,rfl,λ_ _=>rfl,λ_ _=>rfl,?_,?_,?_,?_,?_,?_,?_⟩<;>intros<;>simp[cJ.take,cJ.je]
def s5 (s:ao) (fx rs:ahC):Nat->ahI->Bool->Prop
 |_,[],_=>True
 |k,o::r,b=>(o= .hole\/(o=s k/\o.gE=true/\fx.contains k=true/\rs.contains k=false))/\s5 s fx rs (k+1) r b
theorem m3 {s:ao} {fx:ahC} {eU:List ResultVar} {outs:ahI} (h:s5 s fx (eU.map jQ) 0 outs true):∀(i:Nat) (o:I),outs[i]? =some o->o= .hole\/(o=s i/\o.gE=true/\i∈fx/\i∉eU.map jQ):=by
 have key:∀(outs:ahI) (k:Nat),s5 s fx (eU.map jQ) k outs true->∀(i:Nat) (o:I),outs[i]? =some o->o= .hole\/(o=s (k+i)/\o.gE=true/\k+i∈fx/\k+i∉eU.map jQ):=by
  intro outs;induction outs with
  |nil=>intro k _ i o h;simp at h
  |cons a outs ih=>
   intro k h i o b_;cases i with
   |zero=>
    simp at b_;subst b_;rcases h.1 with h|⟨af,ag,aJ,a_⟩
    .exact .inl h
    .exact .inr ⟨af,ag,by simpa using aJ,by simpa using a_⟩
   |succ i=>
    have:=ih (k+1) h.2 i o (by simpa using b_);rw[show k+(i+1)=k+1+i by omega];exact this
 intro i o b_;have:=key outs 0 h i o b_;simpa using this
theorem lH {s:ao} {fx rs:ahC} {k:Nat} {l:ahI} (h:s5 s fx rs (k+1) l true):s5 s fx rs k (.hole::l) true:=⟨.inl rfl,h⟩
theorem kG {s:ao} {fx rs:ahC} {k:Nat} {o:I} {l:ahI} (af:o=s k) (ag:o.gE=true) (aJ:fx.contains k=true) (a_:rs.contains k=false) (h:s5 s fx rs (k+1) l true):s5 s fx rs k (o::l) true:=⟨.inr ⟨af,ag,aJ,a_⟩,h⟩
theorem m4 {s:ao} {fx rs:ahC} {k:Nat}:s5 s fx rs k [] true:=trivial
theorem VB {Q:Exit->ao->Prop} {ros:List bW} {k:ahC} {b:aT} (h:cS C (an l) ros none (λ_ s=>eK (bp C b Q) (an (eD k s)))):bp C (.seq (.e0 ros (some k)) b) Q (an l):=yQ (λ_ _ h=>h) h
theorem VC {K:ao->Prop} {s:ao} (bR:ahH) (h:rR s bR) (au:K (an bR)):eK K s:=.inr ⟨bR,h,au⟩
def I.VD:I->Bool
 | .tuple _=>true
 | .dN _=>true
 | .eQ _ _=>true
 | .gC _=>true
 |_=>false
theorem s6 {d e:I} (aZ:d.tree=true) (ba:d.VD=false) (h:d.share=e):eT d e:=by
 subst h;exact .share d aZ (λvs e=>by subst e;cases ba) (λo e=>by subst e;cases ba) (λ_ _ e=>by subst e;cases ba) (λ_ e=>by subst e;cases ba)
def FV {α:Type} (f:α->I):Option α->I
 |none=>.ah
 |some x=>f x
theorem VE {α β:Type} {o:Option α} {a:Option β} {f:α->Option β} {r:β} (h:Option.elim o a f=some r):(o=none/\a=some r)\/∃y,o=some y/\f y=some r:=by
 cases o with
 |none=>exact .inl ⟨rfl,h⟩
 |some y=>exact .inr ⟨y,rfl,h⟩
theorem FW:(∀neg e r,sY neg (.slice e) (some r)=some (pF neg r))/\(∀neg,pF neg none= .fo)/\pF false (some false)= .bool false/\pF true (some false)= .bool true/\pF false (some true)= .bool true/\pF true (some true)= .bool false/\(∀s,kj s .ah=some (some true)):=
 ⟨λ_ _ _=>rfl,λ_=>rfl,rfl,rfl,rfl,rfl,λ_=>rfl⟩
theorem BH {α:Type} {xs:List α} (h:xs.isEmpty=true) (e:α->I) (s:ao):kj s (.slice (xs.map e))=some none:=by
 have:xs=[]:=isEmpty_iff.1 h;subst this;rfl
theorem BI {α:Type} {xs:List α} (h:xs.isEmpty=false) (e:α->I) (s:ao):kj s (.slice (xs.map e))=some (some false):=by
 cases xs with
 |nil=>cases h
 |cons x xs=>rfl
def FX:Option I->Option ahD
 |some (.ad _ xs)=>some (if xs=[]then none else some false)
 |_=>none
theorem VF (s:ao) (x:Nat) (q:ahC):kj s (.h x q)=FX (I.sub q (s x)):=by
 simp only[kj];rfl
theorem M4 {α:Type} {xs:List α} (h:xs.isEmpty=true) (e:α->I) (n:Nat):FX (some (.ad n (xs.map e)))=some none:=by
 have:xs=[]:=isEmpty_iff.1 h;subst this;rfl
theorem M5 {α:Type} {xs:List α} (h:xs.isEmpty=false) (e:α->I) (n:Nat):FX (some (.ad n (xs.map e)))=some (some false):=by
 cases xs with
 |nil=>cases h
 |cons x xs=>rfl
theorem bt.nil {C:bV} {f:FuncId} {args:ahI} {r:I} {outs:ahI} (i:Nat) (h:bt C f (args.set i (.slice [])) r outs) (aq:args[i]? =some .ah):bt C f args r outs:=by
 intro w F X S vs hl aV;have jf:=aV.dz i;have ae:fk args i= .ah:=by simp[fk,List.getD,aq]
 rw[ae]at jf;have aP:aO w F (fk args) (g1 vs) (.slice []) (g1 vs i) (λ_=>False):=by
  rw[aO.cI rfl]at jf⊢;refine⟨jf.1,?_⟩;have ag:=jf.2;simp only[ay]at ag⊢;exact .inl ⟨trivial,none,0,ag,zero_le _,λ_=>rfl⟩
 have ag:=aV.rn (t:=i) rfl aP;have a1:cY (fk args) i (.slice [])=fk (args.set i (.slice [])):=by
  funext t;have en:i<args.length:=(List.getElem?_eq_some_iff.1 aq).1;by_cases aZ:t=i
  .subst aZ;simp[cY,fk,List.getD,en]
  .have:i≠t:=λe=>aZ e.symm;simp[cY,aZ,fk,List.getD,this]
 have bc:cY (g1 vs) i (g1 vs i)=g1 vs:=by
  funext t;by_cases aZ:t=i
  .subst aZ;simp[cY]
  .simp[cY,aZ]
 rw[a1,bc]at ag;exact h w F X _ vs (by simpa using hl) ag
theorem y1 (a b:ahI):I.shares (a++b)=I.shares a++I.shares b:=by simp only[I.sy,map_append]
def nG:Option (I×ao)->Option (I×ao)
 |some (av,s)=>if(av.tree&& !av.yP)=true then some (av.share,s)else none
 |none=>none
theorem y2 (s:ao):(∀n xs,nG (some (.ad n xs,s))=some (.slice (I.shares xs),s))/\(∀d,nG (some (.ai d,s))=some (.ref d.share,s))/\(∀ds,nG (some (.agg ds,s))=some (.agg (I.shares ds),s)):=
 ⟨λ_ _=>rfl,λ_=>rfl,λ_=>rfl⟩
theorem BJ {s:ao} {bE:dU} {K:ahC->I->ao->Prop}:n7 C s (.shr bE) K=(match nG (bL C s bE)with
  |some (av,s1)=>K (km s bE) av s1
  |none=>False):=by
 apply propext;cases he:bL C s bE with
 |none=>
  simp only[nG];exact⟨λ⟨av,s1,af,_⟩=>(by rw[he]at af;cases af),λh=>h.elim⟩
 |some p=>
  obtain⟨av,s1⟩:=p;simp only[nG];by_cases aZ:(av.tree&& !av.yP)=true
  .rw[if_pos aZ];simp only[Bool.and_eq_true,Bool.not_eq_true']at aZ;constructor
   .rintro⟨VG,VH,af,ag,aJ,a_⟩;rw[he]at af;simp only[some.injEq,Prod.mk.injEq]at af;obtain⟨rfl,rfl⟩:=af;exact a_
   .intro h;exact⟨av,s1,he,aZ.1,λvs e=>by subst e;simp[I.yP]at aZ,h⟩
  .rw[if_neg aZ];constructor
   .rintro⟨VG,VH,af,ag,aJ,a_⟩;rw[he]at af;simp only[some.injEq,Prod.mk.injEq]at af;obtain⟨rfl,rfl⟩:=af;refine aZ ?_;rw[ag];cases av<;>first|rfl|exact(aJ _ rfl).elim
   .intro h;exact h.elim
theorem FY (s:ao) (d:I):j9 s (some d)=some (d,s):=rfl
theorem y3 (bE:dU):(cS C (an l) (⟨dst,.shr bE,none⟩::os) none K=nE C dst os K (nG (bL C (an l) bE)))/\
  (∀a,cS C (an l) (⟨dst,.shr bE,none⟩::os) (some a) K=n8 C l (use (an l) bE) (km (an l) bE) dst os a K (nG (bL C (an l) bE)))/\
  (∀t b,j8 C l dst (.shr bE) t b os none K (.bool b)=nE C dst os K (nG (bL C (an l) bE)))/\
  (∀a t b,j8 C l dst (.shr bE) t b os (some a) K (.bool b)=n8 C l (t::use (an l) bE) (km (an l) bE) dst os a K (nG (bL C (an l) bE))):=by
 refine⟨?_,λa=>?_,λt b=>?_,λa t b=>?_⟩
 .simp only[cS,mz,BJ];cases nG (bL C (an l) bE)with
  |none=>rfl
  |some p=>rfl
 .simp only[cS,mz,BJ];cases nG (bL C (an l) bE)with
  |none=>rfl
  |some p=>rfl
 .simp only[j8,if_true,BJ];cases nG (bL C (an l) bE)with
  |none=>rfl
  |some p=>rfl
 .simp only[j8,if_true,BJ];cases nG (bL C (an l) bE)with
  |none=>rfl
  |some p=>rfl
theorem M6 {α:Type} {u e:α->I} (h:∀x,eT (u x) (e x)):∀xs:List α,kA (xs.map u) (xs.map e)
 |[]=>.nil
 |x::xs=>.cons (h x) (M6 h xs)
def wh (C:bV) (s:ao):mO->Option (I×ao)
 | .slice e=>if(C.T e).ok=true then some (.ah,s)else none
 |_=>none
def o1 (C:bV) (s:ao) (y:Nat) (q:ahC) (b:Int):mO->Option I->Option (I×ao)
 | .slice e,some (.ad sz xs)=>(match kv xs 0 b with
   |some t=>if(C.T e).ok=true then(match cV s (.h y q)with|some (_,s1)=>some (.ad sz t,s1)|none=>none)else none
   |none=>none)
 |_,_=>none
theorem rV (C:bV) (s:ao) (T:TypeId) (y:Nat) (q:ahC):(∀k b,fW C s T (.h y q) none (some (.int k b))=o1 C s y q b (C.T T).k (I.sub q (s y)))/\
  (∀k b c7,fW C s T (.h y q) (some (.int c7 0)) (some (.int k b))=o1 C s y q b (C.T T).k (I.sub q (s y)))/\
  (∀e sz xs b t,kv xs 0 b=some t->o1 C s y q b (.slice e) (some (.ad sz xs))=if(C.T e).ok=true then(match cV s (.h y q)with|some (_,s1)=>some (.ad sz t,s1)|none=>none)else none):=by
 have key:∀(e5:Option I) (k:IntKind) (b:Int),ix 0 e5=some 0->fW C s T (.h y q) e5 (some (.int k b))=o1 C s y q b (C.T T).k (I.sub q (s y)):=by
  intro e5 k b bA;simp only[fW];generalize (C.T T).k=i_;cases i_<;>first|rfl|skip
  rename_i e;cases ae:I.sub q (s y)with
  |none=>simp only[ae];rfl
  |some d=>
   cases d with
   |ad sz xs=>
    have VI:ix xs.length (some (.int k b))=if 0<=b then some b.toNat else none:=rfl;simp only[ae,bA,VI,o1,kv];by_cases U:0<=b
    .by_cases aC:b<=xs.length
     .have af:b.toNat<=xs.length:=by omega
      simp only[U,aC,af,if_true,true_and,Int.le_refl,and_self,Int.toNat_zero,drop_zero];rfl
     .have af:¬b.toNat<=xs.length:=by omega
      simp only[U,aC,af,if_true,if_false,and_false,false_and,Int.le_refl]
    .simp only[U,if_false,false_and,and_false]
   |_=>simp only[ae];rfl
 refine⟨λk b=>key _ _ _ rfl,λk b c7=>key _ _ _ (by simp[ix]),λe sz xs b t h=>?_⟩;simp only[o1,h]
def BK (s:ao) (y:Nat):I->Option (I×ao)
 | .agg ds=>if I.eY ds then none else some (.U y 0,s)
 | .eQ _ _=>some (.U y 0,s)
 |_=>none
theorem wi (C:bV) (s:ao) (T e:TypeId) (x:bn) (au:(C.T T).k= .slice e) (aA:br s x= .ah):bL C s (.cap T x)=some (.int .i64 0,s):=by
 simp only[bL,au,aA]
theorem wj (T:TypeId) (x:bn):(cS C (an l) (⟨dst,.cap T x,none⟩::os) none K=nE C dst os K (bL C (an l) (.cap T x)))/\
  (∀a,cS C (an l) (⟨dst,.cap T x,none⟩::os) (some a) K=n8 C l (use (an l) (.cap T x)) (km (an l) (.cap T x)) dst os a K (bL C (an l) (.cap T x))):=
 ⟨sW rfl,λ_=>uI rfl⟩
theorem BL (C:bV) (l:ahH) (dst:Option Nat) (os:List bW) (K:Option (List fh)->ao->Prop):
  (∀x,cS C (an l) (⟨dst,.mX x,none⟩::os) none K=nE C dst os K (some (br (an l) x,an l)))/\
  (∀a x,cS C (an l) (⟨dst,.mX x,none⟩::os) (some a) K=n8 C l (use (an l) (.mX x)) (km (an l) (.mX x)) dst os a K (some (br (an l) x,an l))):=
 ⟨λ_=>(sW rfl).trans (congrArg _ rfl),λ_ _=>(uI rfl).trans (congrArg _ rfl)⟩
theorem jh (C:bV) (l:ahH) (dst:Option Nat) (os:List bW) (K:Option (List fh)->ao->Prop):
  (∀x,cS C (an l) (⟨dst,.my x,none⟩::os) none K=nE C dst os K (rS (an l) (br (an l) x)))/\
  (∀a x,cS C (an l) (⟨dst,.my x,none⟩::os) (some a) K=n8 C l (use (an l) (.my x)) (km (an l) (.my x)) dst os a K (rS (an l) (br (an l) x))):=by
 have e:∀x,bL C (an l) (.my x)=rS (an l) (br (an l) x):=λx=>by
  simp only[bL];cases br (an l) x<;>rfl
 exact⟨λx=>(sW rfl).trans (congrArg _ (e x)),λ_ x=>(uI rfl).trans (congrArg _ (e x))⟩
def wk (s:ao):Option I->Option (I×ao)
 |some d=>rS s d
 |none=>none
theorem y4 (s:ao) (d:I):wk s (some d)=rS s d:=rfl
theorem BM (C:bV) (l:ahH) (T:TypeId) (x:bn) (k:Nat):bL C (an l) (.hf T x k)=wk (an l) (hf C (an l) T (br (an l) x) k):=by
 simp only[bL];cases hf C (an l) T (br (an l) x) k with
 |none=>rfl
 |some d=>cases d<;>rfl
theorem y5 (C:bV) (l:ahH) (dst:Option Nat) (os:List bW) (K:Option (List fh)->ao->Prop):
  (∀T x k,cS C (an l) (⟨dst,.hf T x k,none⟩::os) none K=nE C dst os K (wk (an l) (hf C (an l) T (br (an l) x) k)))/\
  (∀a T x k,cS C (an l) (⟨dst,.hf T x k,none⟩::os) (some a) K=n8 C l (use (an l) (.hf T x k)) (km (an l) (.hf T x k)) dst os a K (wk (an l) (hf C (an l) T (br (an l) x) k)))/\
  (∀T x k t b,j8 C l dst (.hf T x k) t b os none K (.bool b)=nE C dst os K (wk (an l) (hf C (an l) T (br (an l) x) k)))/\
  (∀a T x k t b,j8 C l dst (.hf T x k) t b os (some a) K (.bool b)=n8 C l (t::use (an l) (.hf T x k)) (km (an l) (.hf T x k)) dst os a K (wk (an l) (hf C (an l) T (br (an l) x) k))):=
 ⟨λ_ _ _=>(sW rfl).trans (congrArg _ (BM ..)),λ_ _ _ _=>(uI rfl).trans (congrArg _ (BM ..)),λ_ _ _ _ _=>(FB rfl).trans (congrArg _ (BM ..)),λ_ _ _ _ _ _=>(FC rfl).trans (congrArg _ (BM ..))⟩
def lI (C:bV) (y:Nat) (q:ahC) (k:Nat):mO->Option I->Option I
 | .struct aG,some (.agg ds)=>match aG[k]? with
   |some (jJ,off)=>match ds[k]? with
    |some d=>if I.dO (ds.take k)=off/\fits C jJ d=true/\I.eY ds=false/\d.tree=true then some (if d.plain then d else .h y (q++[k]))else none
    |none=>none
   |none=>none
 |_,_=>none
theorem y6 (C:bV) (s:ao) (T:TypeId) (y:Nat) (q:ahC) (k:Nat):hf C s T (.h y q) k=lI C y q k (C.T T).k (I.sub q (s y)):=by
 unfold hf lI;cases(C.T T).k with
 |struct aG=>
  cases ag:I.sub q (s y)with
  |none=>simp only[ag];split<;>rfl
  |some d=>cases d<;>simp only[ag]<;>first|rfl|(split<;>rfl)
 |_=>rfl
theorem BN (C:bV) (l:ahH) (e2:Bool) (x y:bn):bL C (an l) (.jw e2 x y)=j9 (an l) (jw e2 (br (an l) x) (br (an l) y)):=by simp only[bL,FD]
theorem VJ (C:bV) (l:ahH) (dst:Option Nat) (os:List bW) (K:Option (List fh)->ao->Prop):
  (∀e2 x y,cS C (an l) (⟨dst,.jw e2 x y,none⟩::os) none K=nE C dst os K (j9 (an l) (jw e2 (br (an l) x) (br (an l) y))))/\
  (∀a e2 x y,cS C (an l) (⟨dst,.jw e2 x y,none⟩::os) (some a) K=n8 C l (use (an l) (.jw e2 x y)) (km (an l) (.jw e2 x y)) dst os a K (j9 (an l) (jw e2 (br (an l) x) (br (an l) y))))/\
  (∀e2 x y t b,j8 C l dst (.jw e2 x y) t b os none K (.bool b)=nE C dst os K (j9 (an l) (jw e2 (br (an l) x) (br (an l) y))))/\
  (∀a e2 x y t b,j8 C l dst (.jw e2 x y) t b os (some a) K (.bool b)=n8 C l (t::use (an l) (.jw e2 x y)) (km (an l) (.jw e2 x y)) dst os a K (j9 (an l) (jw e2 (br (an l) x) (br (an l) y)))):=
 ⟨λ_ x y=>(sW rfl).trans (congrArg _ (BN ..)),λ_ _ x y=>(uI rfl).trans (congrArg _ (BN ..)),λ_ x y _ _=>(FB rfl).trans (congrArg _ (BN ..)),λ_ _ x y _ _=>(FC rfl).trans (congrArg _ (BN ..))⟩
theorem VK (e2:Bool) (a b:ahz):jw e2 (.str a) (.str b)=some (.str (g4 e2 a b)):=rfl
theorem FZ (C:bV) (s:ao) (e:TypeId):wh C s (.slice e)=if(C.T e).ok=true then some (.ah,s)else none:=rfl
theorem m5 {C:bV} {l:ahH} {os:List bW} {K:Option (List fh)->ao->Prop} {dst:Option Nat} (T:TypeId) (x:bn):
  cS C (an l) (⟨dst,.h8 T x,none⟩::os) none K=nE C dst os K (h8 (an l) (br (an l) x)):=sW rfl
theorem p3:(∀(t x k:Nat),qz t (.U x k)= .U x k)/\(∀(l:ahH) (t x k:Nat),fin (an l) (some t) (.U x k)=an ((t,.U x k)::l))/\(∀x k:Nat,I.plain (.U x k)=true)/\
  (∀(s:ao) (x k:Nat),rS s (.U x k)=some (.U x k,s))/\(∀(t y k:Nat),cT t (.U y k)=if y=t then .hole else .U y k)/\(∀(t y k:Nat),cp t (.U y k)= .U y k)/\(∀x k:Nat,I.wd (.U x k)=1):=
 ⟨λ_ _ _=>rfl,λl t x k=>by simp only[fin,I.plain,if_true,pY],λ_ _=>rfl,λ_ _ _=>rfl,λ_ _ _=>by simp only[cT],λ_ _ _=>by simp only[cp],λ_ _=>rfl⟩
theorem p4:(∀(s:ao) y,h8 s (.h y [])=BK s y (s y))/\(∀(s:ao) y aG,BK s y (.agg aG)=if I.eY aG then none else some (.U y 0,s))/\(∀(s:ao) y f c,BK s y (.eQ f c)=some (.U y 0,s))/\
  (∀k i ds d,AX (d::ds) i k=if k=0 then some i else if d.wd<=k then AX ds (i+1) (k-d.wd)else none):=
 ⟨λs y=>by
  simp only[h8,BK,true_and];cases s y with
  |agg ds=>by_cases h:I.eY ds=true<;>simp[A1,h]
  |_=>rfl,λ_ _ _=>rfl,λ_ _ _ _=>rfl,λ_ _ _ _=>rfl⟩
theorem F1 (C:bV) (s:ao) (T:TypeId):fW C s T .ah none none=wh C s (C.T T).k/\(∀k,fW C s T .ah none (some (.int k 0))=wh C s (C.T T).k)/\(∀k,fW C s T .ah (some (.int k 0)) none=wh C s (C.T T).k)/\
  (∀k c7,fW C s T .ah (some (.int k 0)) (some (.int c7 0))=wh C s (C.T T).k)/\(∀e,wh C s (.slice e)=if(C.T e).ok=true then some (.ah,s)else none):=by
 refine⟨?_,λk=>?_,λk=>?_,λk c7=>?_,λ_=>rfl⟩<;>(simp only[fW];generalize (C.T T).k=i_;cases i_<;>rfl)
theorem F2 (T cb:TypeId) (x y:bn):(cS C (an l) (⟨dst,.iE T cb x y,none⟩::os) none K=nE C dst os K (j9 (an l) (iE C T cb (br (an l) x) (br (an l) y))))/\
  (∀a,cS C (an l) (⟨dst,.iE T cb x y,none⟩::os) (some a) K=n8 C l (use (an l) (.iE T cb x y)) (km (an l) (.iE T cb x y)) dst os a K (j9 (an l) (iE C T cb (br (an l) x) (br (an l) y)))):=by
 have e:bL C (an l) (.iE T cb x y)=j9 (an l) (iE C T cb (br (an l) x) (br (an l) y)):=by simp only[bL,FD]
 exact⟨(sW rfl).trans (by rw[e]),λa=>(uI rfl).trans (by rw[e])⟩
theorem y7 {α:Type} {l:List α} {i:Nat} {x:α} (h:l[i]? =some x) (u:α->I) (a:I):((l.map u).set i a)[i]? =some a:=by
 have:i<l.length:=(List.getElem?_eq_some_iff.1 h).1;rw[getElem?_set_self (by simpa using this)]
theorem y8 {α:Type} (l:List α) (u:α->I) (i:Nat) (a b:I):((l.map u).set i a).set i b=(l.map u).set i b:=set_set ..
theorem F3 {α:Type} (xs:List α):kv xs 0 0=some []:=by unfold kv;rw[if_pos ⟨Int.le_refl _,by omega⟩];rfl
end
end Go.dD
