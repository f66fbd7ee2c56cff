/- Part of a proof that a law returns true for every input. No condition. -/
import Derived.Test.YtklcmlnabkfneaaGreatFwH
import Derived.Laws.Externs
import Derived.Lib.Bytealg
namespace Go.de
open List Option Go.IntKind Nat Or
theorem aY.wide {C:ca} {f:FuncId} {as:alW} {r gA:I} {outs:alW} (h:aY C f as r outs) (hw:e4 r gA) (a8:r.tree=true) (bE:I.dQ outs=[]):aY C f as gA outs:=by
 intro w F X S vs hl aM;refine mN.mono (h w F X S vs hl aM) ?_;rintro v aF ⟨bO,aN,bC⟩;have aj7:∀(k:Nat) (l:alW),I.dQ ((num k l).map (·.2))=I.dQ l:=by
  intro k l;induction l generalizing k with
  |nil=>rfl
  |cons a l ih=>simp only[num,map_cons,I.dQ,ih]
 have nw:∀(k:Nat) (l:alW) (p:Nat×I),p∈num k l->∃i,l[i]? =some p.2/\p.1=k+i:=by
  intro k l;induction l generalizing k with
  |nil=>intro p aq;cases aq
  |cons a l ih=>
   intro p aq;rcases mem_cons.1 aq with rfl|aq
   .exact⟨0,rfl,rfl⟩
   .obtain⟨i,ab,ae⟩:=ih (k+1) p aq;exact⟨i+1,by simpa using ab,by omega⟩
 have Be:I.dQ (gA::outs)=[]:=by
  have:gA.tree=true:=hw.tree a8;simp[I.dQ,Fi this,bE]
 have VR:tt (eW (r::outs)) (num 0 (gA::outs)):=by
  intro p aq;obtain⟨i,ab,ae⟩:=nw 0 _ p aq;have ao:p.1=i:=by omega
  cases i with
  |zero=>
   simp at ab;right;rw[ao,<-ab];refine⟨a8,hw,?_⟩;intro cE eH;refine .inl λhm=>?_;have:cE.2.ad=[]:=by
    have key:∀(as:alW) (a:I),a∈as->I.dQ as=[]->a.ad=[]:=by
     intro as;induction as with
     |nil=>intro a h;cases h
     |cons b as ih=>
      intro a h he;simp only[I.dQ,append_eq_nil_iff]at he;rcases mem_cons.1 h with rfl|h
      .exact he.1
      .exact ih a h he.2
    obtain⟨j,g1,_⟩:=nw 0 _ cE eH;exact key _ _ (mem_of_getElem? g1) Be
   rw[this]at hm;cases hm
  |succ i=>
   left;rw[ao];simp only[eW,List.getD];simp at ab;simp[ab]
 obtain⟨lz,dg,ae⟩:=bC.Mb VR;refine⟨lz,dg,?_⟩;rw[Bt];exact ae
section
variable {C:ca} {l:alV} {os:List ch} {K:Option (List fs)->aw->Prop} {dst:Option Nat}
def p_ (s:aw):List cD->Prop
 |[]=>True
 |p::ps=>p.ok s/\p_ s ps
theorem BG {s:aw}:∀{ps:List cD},p_ s ps->∀p∈ps,p.ok s
 |p::ps,h,q,b1=>by
  rcases mem_cons.1 b1 with rfl|b1
  .exact h.1
  .exact BG h.2 q b1
def q5:List cD->Bool
 |[]=>true
 |p::ps=>p.o.cS&&q5 ps
theorem BH:∀{ps:List cD},q5 ps=true->∀p∈ps,p.o.cS=true
 |p::ps,h,q,b1=>by
  simp only[q5,Bool.and_eq_true]at h;rcases mem_cons.1 b1 with rfl|b1
  .exact h.1
  .exact BH h.2 q b1
theorem VS {f:bk} {args:List bk} {g:FuncId} {caps:alW} {K:alR->I->aw->Prop} (ps:List cD) (r:I)
  (ab:bu (ay l) f= .fn g caps) (gT:I.eg caps=true) (ae:ps.map (·.a)=jA (ay l) args++caps) (az:p_ (ay l) ps) (a6:ia ps=true)
  (bF:aY C g (ps.map (·.d)) r (ps.map (·.o))) (cP:r.res=true) (cB:jR ps=false\/(r.cS&&q5 ps)=true) (hK:K (q2 ps) r (hp (e3 (ay l) ps) ps)):og C (ay l) (.call f args) K:=by
 refine⟨g,caps,ps,r,ab,gT,by rw[ae,va],BG az,a6,bF,cP,?_,hK⟩;intro hl;rcases cB with cB|cB
 .rw[cB]at hl;cases hl
 .rw[Bool.and_eq_true]at cB;exact⟨cB.1,BH cB.2⟩
theorem VT {f:bk} {args:List bk} {g:FuncId} {caps:alW} {K:alR->I->aw->Prop} {us:alR} (ps:List cD) (r:I) (au:lB (ay l) (jf (ay l) us)=true)
  (ab:bu (ay l) f= .fn g caps) (gT:I.eg caps=true) (ae:ps.map (·.a)=jA (ay l) args++caps) (az:p_ (ay l) ps) (a6:ia ps=true)
  (bF:aY C g (ps.map (·.d)) r (ps.map (·.o))) (cP:r.res=true) (cB:jR ps=false\/(r.cS&&q5 ps)=true)
  (hK:lB (hp (e3 (ay l) ps) ps) (jf (ay l) us)=true/\K (us++q2 ps) r (mO (hp (e3 (ay l) ps) ps) (jf (ay l) us))):og C (ay l) (.ks f args us) K:=by
 refine⟨au,g,caps,ps,r,ab,gT,by rw[ae,va],BG az,a6,bF,cP,?_,hK⟩;intro hl;rcases cB with cB|cB
 .rw[cB]at hl;cases hl
 .rw[Bool.and_eq_true]at cB;exact⟨cB.1,BH cB.2⟩
theorem BI {f:bk} {args:List bk} {g:FuncId} {caps:alW} {r:I} {us:alR} (ps:List cD) (bF:aY C g (ps.map (·.d)) r (ps.map (·.o)))
  (ab:bu (ay l) f= .fn g caps) (gT:I.eg caps=true) (ae:ps.map (·.a)=jA (ay l) args++caps) (az:p_ (ay l) ps) (a6:ia ps=true)
  (cP:r.res=true) (cB:jR ps=false\/(r.cS&&q5 ps)=true) (au:lB (ay l) (jf (ay l) us)=true)
  (hK:lB (hp (e3 (ay l) ps) ps) (jf (ay l) us)=true/\dE C (fin (mO (hp (e3 (ay l) ps) ps) (jf (ay l) us)) dst r) os none K):dE C (ay l) (⟨dst,.ks f args us,none⟩::os) none K:=by
 simp only[dE,nv,p3];exact VT ps r au ab gT ae az a6 bF cP cB hK
theorem NF (s:aw):jf s []=[]/\(∀u us,jf s (u::us)=(u,s u)::jf s us)/\lB s []=true/\(∀p L,lB s (p::L)=(p.2.fy s&&lB s L))/\mO s []=s/\(∀p L,mO s (p::L)=mO (dq s p.1 p.2) L)/\
  (∀x,I.fy s (.h x [])=(s x).own)/\(∀x k,I.fy s (.R x k)= !(s x).plain)/\(∀f c,I.fy s (.fn f c)=I.ob s c)/\I.ob s []=true/\(∀d ds,I.ob s (d::ds)=(d.fy s&&I.ob s ds))/\
  (∀k n,I.fy s (.int k n)=true)/\(∀b,I.fy s (.bool b)=true)/\(∀x,I.fy s (.str x)=true)/\(∀x,I.fy s (.slice x)=true)/\(∀x,I.fy s (.ref x)=true)/\I.fy s .bd=true/\I.fy s .dC=true/\(∀aE,I.fy s (.agg aE)=I.eg aE):=
 ⟨rfl,λ_ _=>rfl,rfl,λ_ _=>rfl,rfl,λ_ _=>rfl,λ_=>rfl,λ_ _=>rfl,λ_ _=>rfl,rfl,λ_ _=>rfl,λ_ _=>rfl,λ_=>rfl,λ_=>rfl,λ_=>rfl,λ_=>rfl,rfl,rfl,λ_=>rfl⟩
theorem l0 {f:bk} {args:List bk} {g:FuncId} {caps:alW} {r:I} (ps:List cD) (bF:aY C g (ps.map (·.d)) r (ps.map (·.o)))
  (ab:bu (ay l) f= .fn g caps) (gT:I.eg caps=true) (ae:ps.map (·.a)=jA (ay l) args++caps) (az:p_ (ay l) ps) (a6:ia ps=true)
  (cP:r.res=true) (cB:jR ps=false\/(r.cS&&q5 ps)=true)
  (hK:dE C (fin (hp (e3 (ay l) ps) ps) dst r) os none K):dE C (ay l) (⟨dst,.call f args,none⟩::os) none K:=by
 simp only[dE,nv,p3];exact VS ps r ab gT ae az a6 bF cP cB hK
theorem mo (s:aw):p_ s []=True/\(∀p ps,p_ s (p::ps)=(p.ok s/\p_ s ps))/\(∀a d o,cD.ok s ⟨a,false,d,o⟩=(view s a=some d))/\
  (∀x q d o,cD.ok s ⟨.h x q,true,d,o⟩=(I.sub q (s x)=some d/\d.gv=true/\(o= .hole\/(o.gv=true/\r5 d o=true)))):=by
 refine⟨rfl,λ_ _=>rfl,λ_ _ _=>?_,λ_ _ _ _=>?_⟩<;>simp[cD.ok]
theorem lE:(∀d,I.own (.bf d)=true)/\(∀n xs,I.own (.ag n xs)=true)/\(∀d,I.gv (.bf d)=true)/\(∀n xs,I.gv (.ag n xs)=true)/\(∀aE,I.gv (.agg aE)= !I.eg aE)/\
  (∀d e,r5 (.bf d) (.bf e)=true)/\(∀n xs m ys,r5 (.ag n xs) (.ag m ys)=true)/\(∀a b,r5 (.agg a) (.agg b)=(I.ef a==I.ef b)):=⟨λ_=>rfl,λ_ _=>rfl,λ_=>rfl,λ_ _=>rfl,λ_=>rfl,λ_ _=>rfl,λ_ _ _ _=>rfl,λ_ _=>rfl⟩
theorem kU (s:aw):e3 s []=s/\hp s []=s/\(∀p ps,e3 s (p::ps)=e3 (cD.take s p) ps)/\(∀p ps,hp s (p::ps)=hp (cD.iP s p) ps)/\
  (∀a d o,cD.take s ⟨a,false,d,o⟩=s)/\(∀a d o,cD.iP s ⟨a,false,d,o⟩=s)/\(∀x q d o,cD.take s ⟨.h x q,true,d,o⟩=dq (h7 x s) x (I.put q d.c_ (s x)))/\
  (∀a d,cD.iP s ⟨a,true,d,.hole⟩=s)/\(∀x q d e,cD.iP s ⟨.h x q,true,d,.bf e⟩=dq (lQ x s) x (I.put q (.bf e) (s x)))/\
  (∀x q d n xs,cD.iP s ⟨.h x q,true,d,.ag n xs⟩=dq (lQ x s) x (I.put q (.ag n xs) (s x)))/\
  (∀x q d aE,cD.iP s ⟨.h x q,true,d,.agg aE⟩=dq (lQ x s) x (I.put q (.agg aE) (s x))):=by
 refine⟨rfl,rfl,λ_ _=>rfl,λ_ _=>rfl,?_,?_,?_,?_,?_,?_,?_⟩<;>intros<;>simp[cD.take,cD.iP]
def sc (s:aw) (fx rs:alR):Nat->alW->Bool->Prop
 |_,[],_=>True
 |k,o::r,b=>(o= .hole\/(o=s k/\o.gv=true/\fx.contains k=true/\rs.contains k=false))/\sc s fx rs (k+1) r b
theorem j_ {s:aw} {fx:alR} {eL:List ResultVar} {outs:alW} (h:sc s fx (eL.map jg) 0 outs true):∀(i:Nat) (o:I),outs[i]? =some o->o= .hole\/(o=s i/\o.gv=true/\i∈fx/\i∉eL.map jg):=by
 have key:∀(outs:alW) (k:Nat),sc s fx (eL.map jg) k outs true->∀(i:Nat) (o:I),outs[i]? =some o->o= .hole\/(o=s (k+i)/\o.gv=true/\k+i∈fx/\k+i∉eL.map jg):=by
  intro outs;induction outs with
  |nil=>intro k _ i o h;simp at h
  |cons a outs ih=>
   intro k h i o bE;cases i with
   |zero=>
    simp at bE;subst bE;rcases h.1 with h|⟨ab,ae,az,a6⟩
    .exact .inl h
    .exact .inr ⟨ab,ae,by simpa using az,by simpa using a6⟩
   |succ i=>
    have:=ih (k+1) h.2 i o (by simpa using bE);rw[show k+(i+1)=k+1+i by omega];exact this
 intro i o bE;have:=key outs 0 h i o bE;simpa using this
theorem k_ {s:aw} {fx rs:alR} {k:Nat} {l:alW} (h:sc s fx rs (k+1) l true):sc s fx rs k (.hole::l) true:=⟨.inl rfl,h⟩
theorem ka {s:aw} {fx rs:alR} {k:Nat} {o:I} {l:alW} (ab:o=s k) (ae:o.gv=true) (az:fx.contains k=true) (a6:rs.contains k=false) (h:sc s fx rs (k+1) l true):sc s fx rs k (o::l) true:=⟨.inr ⟨ab,ae,az,a6⟩,h⟩
theorem kb {s:aw} {fx rs:alR} {k:Nat}:sc s fx rs k [] true:=trivial
theorem ji {Q:Exit->aw->Prop} {ros:List ch} {k:alR} {b:aI} (h:dE C (ay l) ros none (λ_ s=>dK (a_ C b Q) (ay (gO k s)))):a_ C (.seq (.fN ros (some k)) b) Q (ay l):=tw (λ_ _ h=>h) h
theorem vd {K:aw->Prop} {s:aw} (cn:alV) (h:tt s cn) (ax:K (ay cn)):dK K s:=.inr ⟨cn,h,ax⟩
def I.VU:I->Bool
 | .tuple _=>true
 | .dS _=>true
 | .fJ _ _=>true
 |_=>false
theorem ve {d e:I} (a8:d.tree=true) (aS:d.VU=false) (h:d.share=e):e4 d e:=by
 subst h;exact .share d a8 (λvs e=>by subst e;cases aS) (λo e=>by subst e;cases aS) (λ_ _ e=>by subst e;cases aS)
theorem BJ:(∀neg e r,sa neg (.slice e) (some r)=some (oG neg r))/\(∀neg,oG neg none= .fm)/\oG false (some false)= .bool false/\oG true (some false)= .bool true/\oG false (some true)= .bool true/\oG true (some true)= .bool false/\(∀s,jN s .bd=some (some true)):=
 ⟨λ_ _ _=>rfl,λ_=>rfl,rfl,rfl,rfl,rfl,λ_=>rfl⟩
theorem NG {α:Type} {xs:List α} (h:xs.isEmpty=true) (e:α->I) (s:aw):jN s (.slice (xs.map e))=some none:=by
 have:xs=[]:=isEmpty_iff.1 h;subst this;rfl
theorem NH {α:Type} {xs:List α} (h:xs.isEmpty=false) (e:α->I) (s:aw):jN s (.slice (xs.map e))=some (some false):=by
 cases xs with
 |nil=>cases h
 |cons x xs=>rfl
def VV:Option I->Option alS
 |some (.ag _ xs)=>some (if xs=[]then none else some false)
 |_=>none
theorem BK (s:aw) (x:Nat) (q:alR):jN s (.h x q)=VV (I.sub q (s x)):=by
 simp only[jN];rfl
theorem aY.nil {C:ca} {f:FuncId} {args:alW} {r:I} {outs:alW} (i:Nat) (h:aY C f (args.set i (.slice [])) r outs) (ao:args[i]? =some .bd):aY C f args r outs:=by
 intro w F X S vs hl aM;have ix:=aM.dp i;have ad:eW args i= .bd:=by simp[eW,List.getD,ao]
 rw[ad]at ix;have aJ:aH w F (eW args) (gb vs) (.slice []) (gb vs i) (λ_=>False):=by
  rw[aH.cv rfl]at ix⊢;refine⟨ix.1,?_⟩;have ae:=ix.2;simp only[ar]at ae⊢;exact .inl ⟨trivial,none,0,ae,zero_le _,λ_=>rfl⟩
 have ae:=aM.uJ (t:=i) rfl aJ;have aR:dq (eW args) i (.slice [])=eW (args.set i (.slice [])):=by
  funext t;have dv:i<args.length:=(List.getElem?_eq_some_iff.1 ao).1;by_cases a8:t=i
  .subst a8;simp[dq,eW,List.getD,dv]
  .have:i≠t:=λe=>a8 e.symm;simp[dq,a8,eW,List.getD,this]
 have aV:dq (gb vs) i (gb vs i)=gb vs:=by
  funext t;by_cases a8:t=i
  .subst a8;simp[dq]
  .simp[dq,a8]
 rw[aR,aV]at ae;exact h w F X _ vs (by simpa using hl) ae
theorem NI {α:Type} {u e:α->I} (h:∀x,e4 (u x) (e x)):∀xs:List α,jz (xs.map u) (xs.map e)
 |[]=>.nil
 |x::xs=>.cons (h x) (NI h xs)
theorem yj {α:Type} {e:α->I} {ys:List α} {ds:alW} (h:jz ds (ys.map e)):∀xs:List α,jz (xs.map e++ds) ((xs++ys).map e)
 |[]=>h
 |_::xs=>.cons (.refl _) (yj h xs)
def F4 (s:aw) (y:Nat):I->Option (I×aw)
 | .agg ds=>if I.eg ds then none else some (.R y 0,s)
 |_=>none
theorem VW (C:ca) (l:alV) (dst:Option Nat) (os:List ch) (K:Option (List fs)->aw->Prop):
  (∀x,dE C (ay l) (⟨dst,.ns x,none⟩::os) none K=ya C dst os K (some (bu (ay l) x,ay l)))/\
  (∀a x,dE C (ay l) (⟨dst,.ns x,none⟩::os) (some a) K=BA C l (use (ay l) (.ns x)) (oM (ay l) (.ns x)) dst os a K (some (bu (ay l) x,ay l))):=
 ⟨λ_=>(FQ rfl).trans (congrArg _ rfl),λ_ _=>(MJ rfl).trans (congrArg _ rfl)⟩
theorem sd {C:ca} {l:alV} {os:List ch} {K:Option (List fs)->aw->Prop} {dst:Option Nat} (T:TypeId) (x:bk):
  dE C (ay l) (⟨dst,.jM T x,none⟩::os) none K=ya C dst os K (jM (ay l) (bu (ay l) x)):=FQ rfl
theorem se:(∀(t x k:Nat),pI t (.R x k)= .R x k)/\(∀(l:alV) (t x k:Nat),fin (ay l) (some t) (.R x k)=ay ((t,.R x k)::l))/\(∀x k:Nat,I.plain (.R x k)=true)/\
  (∀(s:aw) (x k:Nat),BC s (.R x k)=some (.R x k,s))/\(∀(t y k:Nat),cR t (.R y k)=if y=t then .hole else .R y k)/\(∀(t y k:Nat),cb t (.R y k)= .R y k)/\(∀x k:Nat,I.wd (.R x k)=1):=
 ⟨λ_ _ _=>rfl,λl t x k=>by simp only[fin,I.plain,if_true,x7],λ_ _=>rfl,λ_ _ _=>rfl,λ_ _ _=>by simp only[cR],λ_ _ _=>by simp only[cb],λ_ _=>rfl⟩
theorem sf:(∀(s:aw) y,jM s (.h y [])=F4 s y (s y))/\(∀(s:aw) y aE,F4 s y (.agg aE)=if I.eg aE then none else some (.R y 0,s))/\
  (∀k i ds d,AV (d::ds) i k=if k=0 then some i else if d.wd<=k then AV ds (i+1) (k-d.wd)else none):=
 ⟨λs y=>by simp only[jM,F4];cases s y<;>rfl,λ_ _ _=>rfl,λ_ _ _ _=>rfl⟩
theorem vf {α:Type} {l:List α} {i:Nat} {x:α} (h:l[i]? =some x) (u:α->I) (a:I):((l.map u).set i a)[i]? =some a:=by
 have:i<l.length:=(List.getElem?_eq_some_iff.1 h).1;rw[getElem?_set_self (by simpa using this)]
theorem vg {α:Type} (l:List α) (u:α->I) (i:Nat) (a b:I):((l.map u).set i a).set i b=(l.map u).set i b:=set_set ..
end
end Go.de
