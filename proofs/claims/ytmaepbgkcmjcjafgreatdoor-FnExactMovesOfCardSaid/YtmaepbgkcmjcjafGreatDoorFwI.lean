/- Part of a proof that a law returns true for every input. No condition. -/
import Derived.Test.YtmaepbgkcmjcjafGreatDoorFwH
import Derived.Laws.Externs
import Derived.Lib.Bytealg
namespace Go.eg
open List Option Go.IntKind Nat
theorem Wy {C:cm} {f:FuncId} {fn:Func} (bD:C.P.funcs[f]? =some fn) (mu:(fn.name== "runtime.NumGoroutine")=false) (aa:fn.body.isNone=true) (aV:Extern.findNext fn=none)
  {E:Array Value->Sem Value} (he:Extern.find fn=some E) (a:ayc) (c:UInt8) (n:Int) (EA:∀w,(E #[.string ⟨⟨a⟩⟩,.int .u8 c.toNat]).run C.P w= .ok (.int .i64 n) w):aW C f [.str a,.int .u8 c.toNat] (.int .i64 n) []:=by
 intro w F X S vs hl aQ;have a_:=o9 (aQ.el 0);have ad:=qf (aQ.el 1);have af9:vs=[.string ⟨⟨a⟩⟩,.int .u8 c.toNat]:=by
  match vs,hl with
  |[x,y],_=>
   have gb:x= .string ⟨⟨a⟩⟩:=a_;have aP:y= .int .u8 c.toNat:=ad;rw[gb,aP]
 subst af9;refine .inr ⟨.int .i64 n,w,?_,F,S,?_⟩
 .rw[run_callFunc_extern bD mu aa aV he,EA];rfl
 .refine⟨aQ.h3,aQ.iB,aQ.f_,aQ.fz,aQ.gD,aQ.ga,aQ.eU,λt=>?_,aQ.old,aQ.size,aQ.os,aQ.tape,aQ.output,aQ.gq⟩;cases t with
  |zero=>exact(aO.dh rfl).2 ⟨rfl,by simp only[cT,jx,ik];rw[show gf (.int .i64 n::[]) 0= .int .i64 n from rfl,aB];rfl⟩
  |succ t=>
   show aO w F _ _ (gf [I.int .i64 n] (t+1)) _ _;rw[show gf [I.int .i64 n] (t+1)= .hole from rfl,aO];trivial
theorem aW.wide {C:cm} {f:FuncId} {as:ayk} {r hN:I} {outs:ayk} (h:aW C f as r outs) (hw:fL r hN) (ba:r.tree=true) (bI:I.e3 outs=[]):aW C f as hN outs:=by
 intro w F X S vs hl aQ;refine q8.mono (h w F X S vs hl aQ) ?_;rintro v aN ⟨ch,a7,bC⟩;have awu:∀(k:Nat) (l:ayk),I.e3 ((num k l).map (·.2))=I.e3 l:=by
  intro k l;induction l generalizing k with
  |nil=>rfl
  |cons a l ih=>simp only[num,map_cons,I.e3,ih]
 have Bh:∀(k:Nat) (l:ayk) (p:Nat×I),p∈num k l->∃i,l[i]? =some p.2/\p.1=k+i:=by
  intro k l;induction l generalizing k with
  |nil=>intro p ax;cases ax
  |cons a l ih=>
   intro p ax;rcases mem_cons.1 ax with rfl|ax
   .exact⟨0,rfl,rfl⟩
   .obtain⟨i,ad,af⟩:=ih (k+1) p ax;exact⟨i+1,by simpa using ad,by omega⟩
 have Ih:I.e3 (hN::outs)=[]:=by
  have:hN.tree=true:=hw.tree ba;simp[I.e3,MY this,bI]
 have NR:xl (gf (r::outs)) (num 0 (hN::outs)):=by
  intro p ax;obtain⟨i,ad,af⟩:=Bh 0 _ p ax;have aj:p.1=i:=by omega
  cases i with
  |zero=>
   simp at ad;right;rw[aj,<-ad];refine⟨ba,hw,?_⟩;intro da fp;refine .inl λhm=>?_;have:da.2.ab=[]:=by
    have key:∀(as:ayk) (a:I),a∈as->I.e3 as=[]->a.ab=[]:=by
     intro as;induction as with
     |nil=>intro a h;cases h
     |cons b as ih=>
      intro a h he;simp only[I.e3,append_eq_nil_iff]at he;rcases mem_cons.1 h with rfl|h
      .exact he.1
      .exact ih a h he.2
    obtain⟨j,g1,_⟩:=Bh 0 _ da fp;exact key _ _ (mem_of_getElem? g1) Ih
   rw[this]at hm;cases hm
  |succ i=>
   left;rw[aj];simp only[gf,List.getD];simp at ad;simp[ad]
 obtain⟨vn,eF,af⟩:=bC.Nc NR;refine⟨vn,eF,?_⟩;rw[EF];exact af
section
variable {C:cm} {l:ayj} {os:List cu} {K:Option (List fM)->ak->Prop} {dst:Option Nat}
def sC (s:ak):List dp->Prop
 |[]=>True
 |p::ps=>p.ok s/\sC s ps
theorem IF {s:ak}:∀{ps:List dp},sC s ps->∀p∈ps,p.ok s
 |p::ps,h,q,cy=>by
  rcases mem_cons.1 cy with rfl|cy
  .exact h.1
  .exact IF h.2 q cy
def tT:List dp->Bool
 |[]=>true
 |p::ps=>p.o.cX&&tT ps
theorem IG:∀{ps:List dp},tT ps=true->∀p∈ps,p.o.cX=true
 |p::ps,h,q,cy=>by
  simp only[tT,Bool.and_eq_true]at h;rcases mem_cons.1 cy with rfl|cy
  .exact h.1
  .exact IG h.2 q cy
theorem Wz {f:bz} {args:List bz} {g:FuncId} {caps:ayk} {K:ayf->I->ak->Prop} (ps:List dp) (r:I)
  (ad:bu (aq l) f= .fn g caps) (hV:I.e5 caps=true) (af:ps.map (·.a)=lk (aq l) args++caps) (aG:sC (aq l) ps) (bf:jI ps=true)
  (bU:aW C g (ps.map (·.d)) r (ps.map (·.o))) (dc:r.res=true) (c1:l5 ps=false\/(r.cX&&tT ps)=true) (jJ:K (tR ps) r (jb (fT (aq l) ps) ps)):qo C (aq l) (.call f args) K:=by
 refine⟨g,caps,ps,r,ad,hV,by rw[af,Be],IF aG,bf,bU,dc,?_,jJ⟩;intro hl;rcases c1 with c1|c1
 .rw[c1]at hl;cases hl
 .rw[Bool.and_eq_true]at c1;exact⟨c1.1,IG c1.2⟩
theorem af_ {f:bz} {args:List bz} {g:FuncId} {caps:ayk} {K:ayf->I->ak->Prop} {us:ayf} (ps:List dp) (r:I) (ao:n6 (aq l) (lh (aq l) us)=true)
  (ad:bu (aq l) f= .fn g caps) (hV:I.e5 caps=true) (af:ps.map (·.a)=lk (aq l) args++caps) (aG:sC (aq l) ps) (bf:jI ps=true)
  (bU:aW C g (ps.map (·.d)) r (ps.map (·.o))) (dc:r.res=true) (c1:l5 ps=false\/(r.cX&&tT ps)=true)
  (jJ:n6 (jb (fT (aq l) ps) ps) (lh (aq l) us)=true/\K (us++tR ps) r (pL (jb (fT (aq l) ps) ps) (lh (aq l) us))):qo C (aq l) (.mM f args us) K:=by
 refine⟨ao,g,caps,ps,r,ad,hV,by rw[af,Be],IF aG,bf,bU,dc,?_,jJ⟩;intro hl;rcases c1 with c1|c1
 .rw[c1]at hl;cases hl
 .rw[Bool.and_eq_true]at c1;exact⟨c1.1,IG c1.2⟩
theorem IH {f:bz} {args:List bz} {g:FuncId} {caps:ayk} {r:I} {us:ayf} (ps:List dp) (bU:aW C g (ps.map (·.d)) r (ps.map (·.o)))
  (ad:bu (aq l) f= .fn g caps) (hV:I.e5 caps=true) (af:ps.map (·.a)=lk (aq l) args++caps) (aG:sC (aq l) ps) (bf:jI ps=true)
  (dc:r.res=true) (c1:l5 ps=false\/(r.cX&&tT ps)=true) (ao:n6 (aq l) (lh (aq l) us)=true)
  (jJ:n6 (jb (fT (aq l) ps) ps) (lh (aq l) us)=true/\dJ C (fin (pL (jb (fT (aq l) ps) ps) (lh (aq l) us)) dst r) os none K):dJ C (aq l) (⟨dst,.mM f args us,none⟩::os) none K:=by
 simp only[dJ,oH,sA];exact af_ ps r ao ad hV af aG bf bU dc c1 jJ
theorem WA (s:ak):lh s []=[]/\(∀u us,lh s (u::us)=(u,s u)::lh s us)/\n6 s []=true/\(∀p L,n6 s (p::L)=(p.2.gG s&&n6 s L))/\pL s []=s/\(∀p L,pL s (p::L)=pL (ei s p.1 p.2) L)/\
  (∀x,I.gG s (.h x [])=(s x).own)/\(∀x k,I.gG s (.aa x k)= !(s x).plain)/\(∀f c,I.gG s (.fn f c)=I.q_ s c)/\I.q_ s []=true/\(∀d ds,I.q_ s (d::ds)=(d.gG s&&I.q_ s ds))/\
  (∀k n,I.gG s (.int k n)=true)/\(∀b,I.gG s (.bool b)=true)/\(∀x,I.gG s (.str x)=true)/\(∀x,I.gG s (.slice x)=true)/\(∀x,I.gG s (.ref x)=true)/\I.gG s .bg=true/\I.gG s .er=true/\(∀aF,I.gG s (.agg aF)=I.e5 aF):=
 ⟨rfl,λ_ _=>rfl,rfl,λ_ _=>rfl,rfl,λ_ _=>rfl,λ_=>rfl,λ_ _=>rfl,λ_ _=>rfl,rfl,λ_ _=>rfl,λ_ _=>rfl,λ_=>rfl,λ_=>rfl,λ_=>rfl,λ_=>rfl,rfl,rfl,λ_=>rfl⟩
theorem kL {f:bz} {args:List bz} {g:FuncId} {caps:ayk} {r:I} (ps:List dp) (bU:aW C g (ps.map (·.d)) r (ps.map (·.o)))
  (ad:bu (aq l) f= .fn g caps) (hV:I.e5 caps=true) (af:ps.map (·.a)=lk (aq l) args++caps) (aG:sC (aq l) ps) (bf:jI ps=true)
  (dc:r.res=true) (c1:l5 ps=false\/(r.cX&&tT ps)=true)
  (jJ:dJ C (fin (jb (fT (aq l) ps) ps) dst r) os none K):dJ C (aq l) (⟨dst,.call f args,none⟩::os) none K:=by
 simp only[dJ,oH,sA];exact Wz ps r ad hV af aG bf bU dc c1 jJ
theorem NS {a:List fM} {f:bz} {args:List bz} {g:FuncId} {caps:ayk} {r:I} (ps:List dp) (bU:aW C g (ps.map (·.d)) r (ps.map (·.o)))
  (ad:bu (aq l) f= .fn g caps) (hV:I.e5 caps=true) (af:ps.map (·.a)=lk (aq l) args++caps) (aG:sC (aq l) ps) (bf:jI ps=true)
  (dc:r.res=true) (c1:l5 ps=false\/(r.cX&&tT ps)=true)
  (jJ:dJ C (fin (jb (fT (aq l) ps) ps) dst r) os (some (kJ (aq l) (use (aq l) (.call f args)) dst (tR ps) r::a)) K):dJ C (aq l) (⟨dst,.call f args,none⟩::os) (some a) K:=by
 simp only[dJ,oH,sA];exact Wz ps r ad hV af aG bf bU dc c1 jJ
theorem kW (s:ak):sC s []=True/\(∀p ps,sC s (p::ps)=(p.ok s/\sC s ps))/\(∀a d o,dp.ok s ⟨a,false,d,o⟩=(view s a=some d))/\
  (∀x q d o,dp.ok s ⟨.h x q,true,d,o⟩=(I.sub q (s x)=some d/\d.hH=true/\(o= .hole\/(o.hH=true/\xe d o=true)))):=by
 refine⟨rfl,λ_ _=>rfl,λ_ _ _=>?_,λ_ _ _ _=>?_⟩<;>simp[dp.ok]
theorem ku:(∀d,I.own (.aS d)=true)/\(∀n xs,I.own (.ag n xs)=true)/\(∀d,I.hH (.aS d)=true)/\(∀n xs,I.hH (.ag n xs)=true)/\(∀aF,I.hH (.agg aF)= !I.e5 aF)/\
  (∀d e,xe (.aS d) (.aS e)=true)/\(∀n xs m cP,xe (.ag n xs) (.ag m cP)=true)/\(∀a b,xe (.agg a) (.agg b)=(I.e9 a==I.e9 b)):=⟨λ_=>rfl,λ_ _=>rfl,λ_=>rfl,λ_ _=>rfl,λ_=>rfl,λ_ _=>rfl,λ_ _ _ _=>rfl,λ_ _=>rfl⟩
theorem j5 (s:ak):fT s []=s/\jb s []=s/\(∀p ps,fT s (p::ps)=fT (dp.take s p) ps)/\(∀p ps,jb s (p::ps)=jb (dp.kG s p) ps)/\
  (∀a d o,dp.take s ⟨a,false,d,o⟩=s)/\(∀a d o,dp.kG s ⟨a,false,d,o⟩=s)/\(∀x q d o,dp.take s ⟨.h x q,true,d,o⟩=ei (jk x s) x (I.put q d.dY (s x)))/\
  (∀a d,dp.kG s ⟨a,true,d,.hole⟩=s)/\(∀x q d e,dp.kG s ⟨.h x q,true,d,.aS e⟩=ei (oB x s) x (I.put q (.aS e) (s x)))/\
  (∀x q d n xs,dp.kG s ⟨.h x q,true,d,.ag n xs⟩=ei (oB x s) x (I.put q (.ag n xs) (s x)))/\
  (∀x q d aF,dp.kG s ⟨.h x q,true,d,.agg aF⟩=ei (oB x s) x (I.put q (.agg aF) (s x))):=by
 refine⟨rfl,rfl,λ_ _=>rfl,λ_ _=>rfl,?_,?_,?_,?_,?_,?_,?_⟩<;>intros<;>simp[dp.take,dp.kG]
def xx (s:ak) (fx rs:ayf):Nat->ayk->Bool->Prop
 |_,[],_=>True
 |k,o::r,b=>(o= .hole\/(o=s k/\o.hH=true/\fx.contains k=true/\rs.contains k=false))/\xx s fx rs (k+1) r b
theorem hP {s:ak} {fx:ayf} {fQ:List ResultVar} {outs:ayk} (h:xx s fx (fQ.map lL) 0 outs true):∀(i:Nat) (o:I),outs[i]? =some o->o= .hole\/(o=s i/\o.hH=true/\i∈fx/\i∉fQ.map lL):=by
 have key:∀(outs:ayk) (k:Nat),xx s fx (fQ.map lL) k outs true->∀(i:Nat) (o:I),outs[i]? =some o->o= .hole\/(o=s (k+i)/\o.hH=true/\k+i∈fx/\k+i∉fQ.map lL):=by
  intro outs;induction outs with
  |nil=>intro k _ i o h;simp at h
  |cons a outs ih=>
   intro k h i o bI;cases i with
   |zero=>
    simp at bI;subst bI;rcases h.1 with h|⟨ad,af,aG,bf⟩
    .exact .inl h
    .exact .inr ⟨ad,af,by simpa using aG,by simpa using bf⟩
   |succ i=>
    have:=ih (k+1) h.2 i o (by simpa using bI);rw[show k+(i+1)=k+1+i by omega];exact this
 intro i o bI;have:=key outs 0 h i o bI;simpa using this
theorem dn {s:ak} {fx rs:ayf} {k:Nat} {l:ayk} (h:xx s fx rs (k+1) l true):xx s fx rs k (.hole::l) true:=⟨.inl rfl,h⟩
theorem kM {s:ak} {fx rs:ayf} {k:Nat} {o:I} {l:ayk} (ad:o=s k) (af:o.hH=true) (aG:fx.contains k=true) (bf:rs.contains k=false) (h:xx s fx rs (k+1) l true):xx s fx rs k (o::l) true:=⟨.inr ⟨ad,af,aG,bf⟩,h⟩
theorem hQ {s:ak} {fx rs:ayf} {k:Nat}:xx s fx rs k [] true:=trivial
theorem l9 {Q:Exit->ak->Prop} {ros:List cu} {k:ayf} {b:aC} (h:dJ C (aq l) ros none (λ_ s=>eS (bn C b Q) (aq (hs k s)))):bn C (.seq (.ez ros (some k)) b) Q (aq l):=yZ (λ_ _ h=>h) h
theorem II {K:ak->Prop} {s:ak} (c6:ayj) (h:xl s c6) (au:K (aq c6)):eS K s:=.inr ⟨c6,h,au⟩
def I.aga:I->Bool
 | .tuple _=>true
 | .cc _=>true
 |_=>false
theorem vv {d e:I} (ba:d.tree=true) (aV:d.aga=false) (h:d.share=e):fL d e:=by
 subst h;exact .share d ba (λvs e=>by subst e;cases aV) (λo e=>by subst e;cases aV)
theorem IJ:(∀neg e r,xu neg (.slice e) (some r)=some (se neg r))/\(∀neg,se neg none= .gn)/\se false (some false)= .bool false/\se true (some false)= .bool true/\se false (some true)= .bool true/\se true (some true)= .bool false/\(∀s,l1 s .bg=some (some true)):=
 ⟨λ_ _ _=>rfl,λ_=>rfl,rfl,rfl,rfl,rfl,λ_=>rfl⟩
theorem WB {α:Type} {xs:List α} (h:xs.isEmpty=true) (e:α->I) (s:ak):l1 s (.slice (xs.map e))=some none:=by
 have:xs=[]:=isEmpty_iff.1 h;subst this;rfl
theorem WC {α:Type} {xs:List α} (h:xs.isEmpty=false) (e:α->I) (s:ak):l1 s (.slice (xs.map e))=some (some false):=by
 cases xs with
 |nil=>cases h
 |cons x xs=>rfl
def agb:Option I->Option ayg
 |some (.ag _ xs)=>some (if xs=[]then none else some false)
 |_=>none
theorem IK (s:ak) (x:Nat) (q:ayf):l1 s (.h x q)=agb (I.sub q (s x)):=by
 simp only[l1];rfl
theorem aW.nil {C:cm} {f:FuncId} {args:ayk} {r:I} {outs:ayk} (i:Nat) (h:aW C f (args.set i (.slice [])) r outs) (aj:args[i]? =some .bg):aW C f args r outs:=by
 intro w F X S vs hl aQ;have lg:=aQ.el i;have ab:gf args i= .bg:=by simp[gf,List.getD,aj]
 rw[ab]at lg;have aJ:aO w F (gf args) (ik vs) (.slice []) (ik vs i) (λ_=>False):=by
  rw[aO.dh rfl]at lg⊢;refine⟨lg.1,?_⟩;have af:=lg.2;simp only[aB]at af⊢;exact .inl ⟨trivial,none,0,af,zero_le _,λ_=>rfl⟩
 have af:=aQ.AK (t:=i) rfl aJ;have aP:ei (gf args) i (.slice [])=gf (args.set i (.slice [])):=by
  funext t;have eI:i<args.length:=(List.getElem?_eq_some_iff.1 aj).1;by_cases ba:t=i
  .subst ba;simp[ei,gf,List.getD,eI]
  .have:i≠t:=λe=>ba e.symm;simp[ei,ba,gf,List.getD,this]
 have aY:ei (ik vs) i (ik vs i)=ik vs:=by
  funext t;by_cases ba:t=i
  .subst ba;simp[ei]
  .simp[ei,ba]
 rw[aP,aY]at af;exact h w F X _ vs (by simpa using hl) af
theorem oI (a b:ayk):I.shares (a++b)=I.shares a++I.shares b:=by simp only[I.wZ,map_append]
def pQ:Option (I×ak)->Option (I×ak)
 |some (av,s)=>if(av.tree&& !av.EH)=true then some (av.share,s)else none
 |none=>none
theorem oJ (s:ak):(∀n xs,pQ (some (.ag n xs,s))=some (.slice (I.shares xs),s))/\(∀d,pQ (some (.aS d,s))=some (.ref d.share,s))/\(∀ds,pQ (some (.agg ds,s))=some (.agg (I.shares ds),s)):=
 ⟨λ_ _=>rfl,λ_=>rfl,λ_=>rfl⟩
theorem IL {s:ak} {bX:e2} {K:ayf->I->ak->Prop}:qo C s (.shr bX) K=(match pQ (cf C s bX)with
  |some (av,s1)=>K (l4 s bX) av s1
  |none=>False):=by
 apply propext;cases he:cf C s bX with
 |none=>
  simp only[pQ];exact⟨λ⟨av,s1,ad,_⟩=>(by rw[he]at ad;cases ad),λh=>h.elim⟩
 |some p=>
  obtain⟨av,s1⟩:=p;simp only[pQ];by_cases ba:(av.tree&& !av.EH)=true
  .rw[if_pos ba];simp only[Bool.and_eq_true,Bool.not_eq_true']at ba;constructor
   .rintro⟨agc,agd,ad,af,aG,bf⟩;rw[he]at ad;simp only[some.injEq,Prod.mk.injEq]at ad;obtain⟨rfl,rfl⟩:=ad;exact bf
   .intro h;exact⟨av,s1,he,ba.1,λvs e=>by subst e;simp[I.EH]at ba,h⟩
  .rw[if_neg ba];constructor
   .rintro⟨agc,agd,ad,af,aG,bf⟩;rw[he]at ad;simp only[some.injEq,Prod.mk.injEq]at ad;obtain⟨rfl,rfl⟩:=ad;refine ba ?_;rw[af];cases av<;>first|rfl|exact(aG _ rfl).elim
   .intro h;exact h.elim
theorem oK (bX:e2):(dJ C (aq l) (⟨dst,.shr bX,none⟩::os) none K=pP C dst os K (pQ (cf C (aq l) bX)))/\
  (∀a,dJ C (aq l) (⟨dst,.shr bX,none⟩::os) (some a) K=qp C l (use (aq l) bX) (l4 (aq l) bX) dst os a K (pQ (cf C (aq l) bX)))/\
  (∀t b,lM C l dst (.shr bX) t b os none K (.bool b)=pP C dst os K (pQ (cf C (aq l) bX)))/\
  (∀a t b,lM C l dst (.shr bX) t b os (some a) K (.bool b)=qp C l (t::use (aq l) bX) (l4 (aq l) bX) dst os a K (pQ (cf C (aq l) bX))):=by
 refine⟨?_,λa=>?_,λt b=>?_,λa t b=>?_⟩
 .simp only[dJ,oH,IL];cases pQ (cf C (aq l) bX)with
  |none=>rfl
  |some p=>rfl
 .simp only[dJ,oH,IL];cases pQ (cf C (aq l) bX)with
  |none=>rfl
  |some p=>rfl
 .simp only[lM,if_true,IL];cases pQ (cf C (aq l) bX)with
  |none=>rfl
  |some p=>rfl
 .simp only[lM,if_true,IL];cases pQ (cf C (aq l) bX)with
  |none=>rfl
  |some p=>rfl
theorem IM {α:Type} {u e:α->I} (h:∀x,fL (u x) (e x)):∀xs:List α,mo (xs.map u) (xs.map e)
 |[]=>.nil
 |x::xs=>.cons (h x) (IM h xs)
def xy (C:cm) (s:ak) (y:Nat) (q:ayf) (b:Int):qc->Option I->Option (I×ak)
 | .slice e,some (.ag sz xs)=>(match gB xs 0 b with
   |some t=>if(C.T e).ok=true then(match dG s (.h y q)with|some (_,s1)=>some (.ag sz t,s1)|none=>none)else none
   |none=>none)
 |_,_=>none
theorem WD (C:cm) (s:ak) (T:TypeId) (y:Nat) (q:ayf):(∀k b,iP C s T (.h y q) none (some (.int k b))=xy C s y q b (C.T T).k (I.sub q (s y)))/\
  (∀k b di,iP C s T (.h y q) (some (.int di 0)) (some (.int k b))=xy C s y q b (C.T T).k (I.sub q (s y)))/\
  (∀e sz xs b t,gB xs 0 b=some t->xy C s y q b (.slice e) (some (.ag sz xs))=if(C.T e).ok=true then(match dG s (.h y q)with|some (_,s1)=>some (.ag sz t,s1)|none=>none)else none):=by
 have key:∀(fP:Option I) (k:IntKind) (b:Int),jF 0 fP=some 0->iP C s T (.h y q) fP (some (.int k b))=xy C s y q b (C.T T).k (I.sub q (s y)):=by
  intro fP k b a_;simp only[iP];generalize (C.T T).k=n2;cases n2<;>first|rfl|skip
  rename_i e;cases ab:I.sub q (s y)with
  |none=>simp only[ab];rfl
  |some d=>
   cases d with
   |ag sz xs=>
    have IP:jF xs.length (some (.int k b))=if 0<=b then some b.toNat else none:=rfl;simp only[ab,a_,IP,xy,gB];by_cases aa:0<=b
    .by_cases ar:b<=xs.length
     .have ad:b.toNat<=xs.length:=by omega
      simp only[aa,ar,ad,if_true,true_and,Int.le_refl,and_self,Int.toNat_zero,drop_zero];rfl
     .have ad:¬b.toNat<=xs.length:=by omega
      simp only[aa,ar,ad,if_true,if_false,and_false,false_and,Int.le_refl]
    .simp only[aa,if_false,false_and,and_false]
   |_=>simp only[ab];rfl
 refine⟨λk b=>key _ _ _ rfl,λk b di=>key _ _ _ (by simp[jF]),λe sz xs b t h=>?_⟩;simp only[xy,h]
def NT (s:ak) (y:Nat):I->Option (I×ak)
 | .agg ds=>if I.e5 ds then none else some (.aa y 0,s)
 |_=>none
theorem WE (C:cm) (l:ayj) (dst:Option Nat) (os:List cu) (K:Option (List fM)->ak->Prop):
  (∀x,dJ C (aq l) (⟨dst,.pK x,none⟩::os) none K=pP C dst os K (some (bu (aq l) x,aq l)))/\
  (∀a x,dJ C (aq l) (⟨dst,.pK x,none⟩::os) (some a) K=qp C l (use (aq l) (.pK x)) (l4 (aq l) (.pK x)) dst os a K (some (bu (aq l) x,aq l))):=
 ⟨λ_=>(xr rfl).trans (congrArg _ rfl),λ_ _=>(y2 rfl).trans (congrArg _ rfl)⟩
theorem Bi (C:cm) (l:ayj) (dst:Option Nat) (os:List cu) (K:Option (List fM)->ak->Prop):
  (∀x,dJ C (aq l) (⟨dst,.pe x,none⟩::os) none K=pP C dst os K (y3 (aq l) (bu (aq l) x)))/\
  (∀a x,dJ C (aq l) (⟨dst,.pe x,none⟩::os) (some a) K=qp C l (use (aq l) (.pe x)) (l4 (aq l) (.pe x)) dst os a K (y3 (aq l) (bu (aq l) x))):=by
 have e:∀x,cf C (aq l) (.pe x)=y3 (aq l) (bu (aq l) x):=λx=>by
  simp only[cf];cases bu (aq l) x<;>rfl
 exact⟨λx=>(xr rfl).trans (congrArg _ (e x)),λ_ x=>(y2 rfl).trans (congrArg _ (e x))⟩
theorem WG (C:cm) (l:ayj) (dst:Option Nat) (os:List cu) (K:Option (List fM)->ak->Prop):
  (dJ C (aq l) (⟨dst,.sj,none⟩::os) none K=pP C dst os K (some (.cc (.mp []),aq l)))/\
  (∀a,dJ C (aq l) (⟨dst,.sj,none⟩::os) (some a) K=qp C l (use (aq l) .sj) (l4 (aq l) .sj) dst os a K (some (.cc (.mp []),aq l))):=
 ⟨xr rfl,λ_=>y2 rfl⟩
theorem IQ (C:cm) (l:ayj) (T:TypeId) (x i:bz):cf C (aq l) (.jH T x i)=lj (aq l) (jH C (aq l) T (bu (aq l) x) (bu (aq l) i)):=by simp only[cf,NB]
theorem WH (C:cm) (l:ayj) (T:TypeId) (x i v:bz):cf C (aq l) (.kU T x i v)=db (kU C (aq l) T (bu (aq l) x) (bu (aq l) i) (bu (aq l) v)):=by simp only[cf,VI]
theorem NU (C:cm) (l:ayj) (dst:Option Nat) (os:List cu) (K:Option (List fM)->ak->Prop):
  (∀T x i,dJ C (aq l) (⟨dst,.jH T x i,none⟩::os) none K=pP C dst os K (lj (aq l) (jH C (aq l) T (bu (aq l) x) (bu (aq l) i))))/\
  (∀a T x i,dJ C (aq l) (⟨dst,.jH T x i,none⟩::os) (some a) K=qp C l (use (aq l) (.jH T x i)) (l4 (aq l) (.jH T x i)) dst os a K (lj (aq l) (jH C (aq l) T (bu (aq l) x) (bu (aq l) i))))/\
  (∀T x i t b,lM C l dst (.jH T x i) t b os none K (.bool b)=pP C dst os K (lj (aq l) (jH C (aq l) T (bu (aq l) x) (bu (aq l) i))))/\
  (∀a T x i t b,lM C l dst (.jH T x i) t b os (some a) K (.bool b)=qp C l (t::use (aq l) (.jH T x i)) (l4 (aq l) (.jH T x i)) dst os a K (lj (aq l) (jH C (aq l) T (bu (aq l) x) (bu (aq l) i)))):=
 ⟨λ_ _ _=>(xr rfl).trans (congrArg _ (IQ ..)),λ_ _ _ _=>(y2 rfl).trans (congrArg _ (IQ ..)),λ_ _ _ _ _=>(Nz rfl).trans (congrArg _ (IQ ..)),λ_ _ _ _ _ _=>(NA rfl).trans (congrArg _ (IQ ..))⟩
theorem NV (C:cm) (l:ayj) (dst:Option Nat) (os:List cu) (K:Option (List fM)->ak->Prop):
  (∀T x i v,dJ C (aq l) (⟨dst,.kU T x i v,none⟩::os) none K=pP C dst os K (db (kU C (aq l) T (bu (aq l) x) (bu (aq l) i) (bu (aq l) v))))/\
  (∀a T x i v,dJ C (aq l) (⟨dst,.kU T x i v,none⟩::os) (some a) K=qp C l (use (aq l) (.kU T x i v)) (l4 (aq l) (.kU T x i v)) dst os a K (db (kU C (aq l) T (bu (aq l) x) (bu (aq l) i) (bu (aq l) v)))):=
 ⟨λ_ _ _ _=>(xr rfl).trans (congrArg _ (WH ..)),λ_ _ _ _ _=>(y2 rfl).trans (congrArg _ (WH ..))⟩
def WI (T:Bool) (k:ayc):Option I->Option I
 |some (.cc (.mp m))=>if T=true then some (.bool (j1 k m))else none
 |_=>none
def WJ (T:Bool) (s:ak) (y:Nat) (q:ayf) (k:ayc) (b:Bool):Option I->Option ak
 |some (.cc (.mp m))=>if T=true then some (ei (jk y s) y (I.put q (.cc (.mp (kh k b m))) (s y)))else none
 |_=>none
theorem Bj:(∀(C:cm) (s:ak) (T:TypeId) y q k,jH C s T (.h y q) (.str k)=WI (q3 C T) k (I.sub q (s y)))/\(∀k m,WI true k (some (.cc (.mp m)))=some (.bool (j1 k m)))/\
  (∀(C:cm) (s:ak) (T:TypeId) y q k b,kU C s T (.h y q) (.str k) (.bool b)=WJ (q3 C T) s y q k b (I.sub q (s y)))/\
  (∀s y q k b m,WJ true s y q k b (some (.cc (.mp m)))=some (ei (jk y s) y (I.put q (.cc (.mp (kh k b m))) (s y)))):=
 ⟨λ_ _ _ _ _ _=>rfl,λ_ _=>rfl,λ_ _ _ _ _ _ _=>rfl,λ_ _ _ _ _ _=>rfl⟩
theorem IU (C:cm) (l:ayj) (fq:Bool) (x y:bz):cf C (aq l) (.kF fq x y)=lj (aq l) (kF fq (bu (aq l) x) (bu (aq l) y)):=by simp only[cf,NB]
theorem WK (C:cm) (l:ayj) (dst:Option Nat) (os:List cu) (K:Option (List fM)->ak->Prop):
  (∀fq x y,dJ C (aq l) (⟨dst,.kF fq x y,none⟩::os) none K=pP C dst os K (lj (aq l) (kF fq (bu (aq l) x) (bu (aq l) y))))/\
  (∀a fq x y,dJ C (aq l) (⟨dst,.kF fq x y,none⟩::os) (some a) K=qp C l (use (aq l) (.kF fq x y)) (l4 (aq l) (.kF fq x y)) dst os a K (lj (aq l) (kF fq (bu (aq l) x) (bu (aq l) y))))/\
  (∀fq x y t b,lM C l dst (.kF fq x y) t b os none K (.bool b)=pP C dst os K (lj (aq l) (kF fq (bu (aq l) x) (bu (aq l) y))))/\
  (∀a fq x y t b,lM C l dst (.kF fq x y) t b os (some a) K (.bool b)=qp C l (t::use (aq l) (.kF fq x y)) (l4 (aq l) (.kF fq x y)) dst os a K (lj (aq l) (kF fq (bu (aq l) x) (bu (aq l) y)))):=
 ⟨λ_ x y=>(xr rfl).trans (congrArg _ (IU ..)),λ_ _ x y=>(y2 rfl).trans (congrArg _ (IU ..)),λ_ x y _ _=>(Nz rfl).trans (congrArg _ (IU ..)),λ_ _ x y _ _=>(NA rfl).trans (congrArg _ (IU ..))⟩
theorem age (fq:Bool) (k:IntKind) (a b:Int):kF fq (.int k a) (.int k b)=some (.int k (kQ fq a b)):=if_pos rfl
theorem agf (fq:Bool) (a b:ayc):kF fq (.str a) (.str b)=some (.str (hT fq a b)):=rfl
theorem xz {C:cm} {l:ayj} {os:List cu} {K:Option (List fM)->ak->Prop} {dst:Option Nat} (T:TypeId) (x:bz):
  dJ C (aq l) (⟨dst,.l0 T x,none⟩::os) none K=pP C dst os K (l0 (aq l) (bu (aq l) x)):=xr rfl
theorem xA:(∀(t x k:Nat),tA t (.aa x k)= .aa x k)/\(∀(l:ayj) (t x k:Nat),fin (aq l) (some t) (.aa x k)=aq ((t,.aa x k)::l))/\(∀x k:Nat,I.plain (.aa x k)=true)/\
  (∀(s:ak) (x k:Nat),y3 s (.aa x k)=some (.aa x k,s))/\(∀(t y k:Nat),dy t (.aa y k)=if y=t then .hole else .aa y k)/\(∀(t y k:Nat),cJ t (.aa y k)= .aa y k)/\(∀x k:Nat,I.wd (.aa x k)=1):=
 ⟨λ_ _ _=>rfl,λl t x k=>by simp only[fin,I.plain,if_true,EG],λ_ _=>rfl,λ_ _ _=>rfl,λ_ _ _=>by simp only[dy],λ_ _ _=>by simp only[cJ],λ_ _=>rfl⟩
theorem xB:(∀(s:ak) y,l0 s (.h y [])=NT s y (s y))/\(∀(s:ak) y aF,NT s y (.agg aF)=if I.e5 aF then none else some (.aa y 0,s))/\
  (∀k i ds d,HV (d::ds) i k=if k=0 then some i else if d.wd<=k then HV ds (i+1) (k-d.wd)else none):=
 ⟨λs y=>by simp only[l0,NT];cases s y<;>rfl,λ_ _ _=>rfl,λ_ _ _ _=>rfl⟩
theorem Bk {α:Type} {l:List α} {i:Nat} {x:α} (h:l[i]? =some x) (u:α->I) (a:I):((l.map u).set i a)[i]? =some a:=by
 have:i<l.length:=(List.getElem?_eq_some_iff.1 h).1;rw[getElem?_set_self (by simpa using this)]
theorem Bl {α:Type} (l:List α) (u:α->I) (i:Nat) (a b:I):((l.map u).set i a).set i b=(l.map u).set i b:=set_set ..
end
end Go.eg
