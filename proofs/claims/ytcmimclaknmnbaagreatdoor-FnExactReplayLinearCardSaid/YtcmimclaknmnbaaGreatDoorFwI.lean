/- Part of a proof that a law returns true for every input. No condition. -/
import Derived.Test.YtcmimclaknmnbaaGreatDoorFwH
import Derived.Laws.Externs
import Derived.Lib.Bytealg
namespace Go.cC
open List Option Go.IntKind Nat Or
theorem P_ {C:bx} {f:FuncId} {fn:Func} (bc:C.P.funcs[f]? =some fn) (jV:(fn.name== "runtime.NumGoroutine")=false) (R:fn.body.isNone=true) (aN:Extern.findNext fn=none)
  {E:Array Value->Sem Value} (he:Extern.find fn=some E) (a:anR) (c:UInt8) (n:Int) (Ay:∀w,(E #[.string ⟨⟨a⟩⟩,.int .u8 c.toNat]).run C.P w= .ok (.int .i64 n) w):aY C f [.str a,.int .u8 c.toNat] (.int .i64 n) []:=by
 intro w F X S vs hl ax;have ba:=nx (ax.cD 0);have h1:=oq (ax.cD 1);have ZP:vs=[.string ⟨⟨a⟩⟩,.int .u8 c.toNat]:=by
  match vs,hl with
  |[x,y],_=>
   have fA:x= .string ⟨⟨a⟩⟩:=ba;have aI:y= .int .u8 c.toNat:=h1;rw[fA,aI]
 subst ZP;refine .inr ⟨.int .i64 n,w,?_,F,S,?_⟩
 .rw[run_callFunc_extern bc jV R aN he,Ay];rfl
 .refine⟨ax.fl,ax.fL,ax.dV,ax.dh,ax.ep,ax.ev,ax.cR,λt=>?_,ax.old,ax.size,ax.os,ax.tape,ax.output,ax.e4⟩;cases t with
  |zero=>exact(aF.b_ rfl).2 ⟨rfl,by simp only[bZ,gX,fs];rw[show eb (.int .i64 n::[]) 0= .int .i64 n from rfl,ar];rfl⟩
  |succ t=>
   show aF w F _ _ (eb [I.int .i64 n] (t+1)) _ _;rw[show eb [I.int .i64 n] (t+1)= .hole from rfl,aF];trivial
theorem aY.wide {C:bx} {f:FuncId} {as:anZ} {r gj:I} {outs:anZ} (h:aY C f as r outs) (hw:eP r gj) (aL:r.tree=true) (a1:I.dL outs=[]):aY C f as gj outs:=by
 intro w F X S vs hl ax;refine kn.mono (h w F X S vs hl ax) ?_;rintro v aq ⟨br,aJ,bn⟩;have amA:∀(k:Nat) (l:anZ),I.dL ((num k l).map (·.2))=I.dL l:=by
  intro k l;induction l generalizing k with
  |nil=>rfl
  |cons a l ih=>simp only[num,map_cons,I.dL,ih]
 have lk:∀(k:Nat) (l:anZ) (p:Nat×I),p∈num k l->∃i,l[i]? =some p.2/\p.1=k+i:=by
  intro k l;induction l generalizing k with
  |nil=>intro p al;cases al
  |cons a l ih=>
   intro p al;rcases mem_cons.1 al with rfl|al
   .exact⟨0,rfl,rfl⟩
   .obtain⟨i,h1,ab⟩:=ih (k+1) p al;exact⟨i+1,by simpa using h1,by omega⟩
 have Dp:I.dL (gj::outs)=[]:=by
  have:gj.tree=true:=hw.tree aL;simp[I.dL,Hu this,a1]
 have ZQ:vD (eb (r::outs)) (num 0 (gj::outs)):=by
  intro p al;obtain⟨i,h1,ab⟩:=lk 0 _ p al;have ak:p.1=i:=by omega
  cases i with
  |zero=>
   simp at h1;right;rw[ak,<-h1];refine⟨aL,hw,?_⟩;intro ct eg;refine .inl λhm=>?_;have:ct.2.U=[]:=by
    have key:∀(as:anZ) (a:I),a∈as->I.dL as=[]->a.U=[]:=by
     intro as;induction as with
     |nil=>intro a h;cases h
     |cons b as ih=>
      intro a h he;simp only[I.dL,append_eq_nil_iff]at he;rcases mem_cons.1 h with rfl|h
      .exact he.1
      .exact ih a h he.2
    obtain⟨j,g1,_⟩:=lk 0 _ ct eg;exact key _ _ (mem_of_getElem? g1) Dp
   rw[this]at hm;cases hm
  |succ i=>
   left;rw[ak];simp only[eb,List.getD];simp at h1;simp[h1]
 obtain⟨mr,cH,ab⟩:=bn.OH ZQ;refine⟨mr,cH,?_⟩;rw[xO];exact ab
section
variable {C:bx} {l:anY} {os:List bt} {K:Option (List e7)->an->Prop} {dst:Option Nat}
def pS (s:an):List b6->Prop
 |[]=>True
 |p::ps=>p.ok s/\pS s ps
theorem xV {s:an}:∀{ps:List b6},pS s ps->∀p∈ps,p.ok s
 |p::ps,h,q,ca=>by
  rcases mem_cons.1 ca with rfl|ca
  .exact h.1
  .exact xV h.2 q ca
def vO:List b6->Bool
 |[]=>true
 |p::ps=>p.o.ch&&vO ps
theorem Ic:∀{ps:List b6},vO ps=true->∀p∈ps,p.o.ch=true
 |p::ps,h,q,ca=>by
  simp only[vO,Bool.and_eq_true]at h;rcases mem_cons.1 ca with rfl|ca
  .exact h.1
  .exact Ic h.2 q ca
theorem ZR {f:aX} {args:List aX} {g:FuncId} {caps:anZ} {K:anU->I->an->Prop} (ps:List b6) (r:I)
  (h1:a6 (aj l) f= .fn g caps) (gS:I.dS caps=true) (ab:ps.map (·.a)=ji (aj l) args++caps) (ay:pS (aj l) ps) (aT:gE ps=true)
  (bp:aY C g (ps.map (·.d)) r (ps.map (·.o))) (bX:r.res=true) (bM:hx ps=false\/(r.ch&&vO ps)=true) (hK:K (sM ps) r (fE (ea (aj l) ps) ps)):o4 C (aj l) (.call f args) K:=by
 refine⟨g,caps,ps,r,h1,gS,by rw[ab,tW],xV ay,aT,bp,bX,?_,hK⟩;intro hl;rcases bM with bM|bM
 .rw[bM]at hl;cases hl
 .rw[Bool.and_eq_true]at bM;exact⟨bM.1,Ic bM.2⟩
theorem ZS {f:aX} {args:List aX} {g:FuncId} {caps:anZ} {K:anU->I->an->Prop} {us:anU} (ps:List b6) (r:I) (ag:mu (aj l) (jB (aj l) us)=true)
  (h1:a6 (aj l) f= .fn g caps) (gS:I.dS caps=true) (ab:ps.map (·.a)=ji (aj l) args++caps) (ay:pS (aj l) ps) (aT:gE ps=true)
  (bp:aY C g (ps.map (·.d)) r (ps.map (·.o))) (bX:r.res=true) (bM:hx ps=false\/(r.ch&&vO ps)=true)
  (hK:mu (fE (ea (aj l) ps) ps) (jB (aj l) us)=true/\K (us++sM ps) r (ox (fE (ea (aj l) ps) ps) (jB (aj l) us))):o4 C (aj l) (.mo f args us) K:=by
 refine⟨ag,g,caps,ps,r,h1,gS,by rw[ab,tW],xV ay,aT,bp,bX,?_,hK⟩;intro hl;rcases bM with bM|bM
 .rw[bM]at hl;cases hl
 .rw[Bool.and_eq_true]at bM;exact⟨bM.1,Ic bM.2⟩
theorem ZT {f:aX} {args:List aX} {g:FuncId} {caps:anZ} {r:I} {us:anU} (ps:List b6) (bp:aY C g (ps.map (·.d)) r (ps.map (·.o)))
  (h1:a6 (aj l) f= .fn g caps) (gS:I.dS caps=true) (ab:ps.map (·.a)=ji (aj l) args++caps) (ay:pS (aj l) ps) (aT:gE ps=true)
  (bX:r.res=true) (bM:hx ps=false\/(r.ch&&vO ps)=true) (ag:mu (aj l) (jB (aj l) us)=true)
  (hK:mu (fE (ea (aj l) ps) ps) (jB (aj l) us)=true/\cq C (fin (ox (fE (ea (aj l) ps) ps) (jB (aj l) us)) dst r) os none K):cq C (aj l) (⟨dst,.mo f args us,none⟩::os) none K:=by
 simp only[cq,nE,rN];exact ZS ps r ag h1 gS ab ay aT bp bX bM hK
theorem Qa (s:an):jB s []=[]/\(∀u us,jB s (u::us)=(u,s u)::jB s us)/\mu s []=true/\(∀p L,mu s (p::L)=(p.2.fm s&&mu s L))/\ox s []=s/\(∀p L,ox s (p::L)=ox (cK s p.1 p.2) L)/\
  (∀x,I.fm s (.h x [])=(s x).own)/\(∀x k,I.fm s (.R x k)= !(s x).plain)/\(∀f c,I.fm s (.fn f c)=I.pN s c)/\I.pN s []=true/\(∀d ds,I.pN s (d::ds)=(d.fm s&&I.pN s ds))/\
  (∀k n,I.fm s (.int k n)=true)/\(∀b,I.fm s (.bool b)=true)/\(∀x,I.fm s (.str x)=true)/\(∀x,I.fm s (.slice x)=true)/\(∀x,I.fm s (.ref x)=true)/\I.fm s .bd=true/\I.fm s .dq=true/\(∀aC,I.fm s (.agg aC)=I.dS aC):=
 ⟨rfl,λ_ _=>rfl,rfl,λ_ _=>rfl,rfl,λ_ _=>rfl,λ_=>rfl,λ_ _=>rfl,λ_ _=>rfl,rfl,λ_ _=>rfl,λ_ _=>rfl,λ_=>rfl,λ_=>rfl,λ_=>rfl,λ_=>rfl,rfl,rfl,λ_=>rfl⟩
theorem o7 {f:aX} {args:List aX} {g:FuncId} {caps:anZ} {r:I} (ps:List b6) (bp:aY C g (ps.map (·.d)) r (ps.map (·.o)))
  (h1:a6 (aj l) f= .fn g caps) (gS:I.dS caps=true) (ab:ps.map (·.a)=ji (aj l) args++caps) (ay:pS (aj l) ps) (aT:gE ps=true)
  (bX:r.res=true) (bM:hx ps=false\/(r.ch&&vO ps)=true)
  (hK:cq C (fin (fE (ea (aj l) ps) ps) dst r) os none K):cq C (aj l) (⟨dst,.call f args,none⟩::os) none K:=by
 simp only[cq,nE,rN];exact ZR ps r h1 gS ab ay aT bp bX bM hK
theorem pT (s:an):pS s []=True/\(∀p ps,pS s (p::ps)=(p.ok s/\pS s ps))/\(∀a d o,b6.ok s ⟨a,false,d,o⟩=(view s a=some d))/\
  (∀x q d o,b6.ok s ⟨.h x q,true,d,o⟩=(I.sub q (s x)=some d/\d.ga=true/\(o= .hole\/(o.ga=true/\rH d o=true)))):=by
 refine⟨rfl,λ_ _=>rfl,λ_ _ _=>?_,λ_ _ _ _=>?_⟩<;>simp[b6.ok]
theorem nH:(∀d,I.own (.aV d)=true)/\(∀n xs,I.own (.ah n xs)=true)/\(∀d,I.ga (.aV d)=true)/\(∀n xs,I.ga (.ah n xs)=true)/\(∀aC,I.ga (.agg aC)= !I.dS aC)/\
  (∀d e,rH (.aV d) (.aV e)=true)/\(∀n xs m ys,rH (.ah n xs) (.ah m ys)=true)/\(∀a b,rH (.agg a) (.agg b)=(I.dR a==I.dR b)):=⟨λ_=>rfl,λ_ _=>rfl,λ_=>rfl,λ_ _=>rfl,λ_=>rfl,λ_ _=>rfl,λ_ _ _ _=>rfl,λ_ _=>rfl⟩
theorem mU (s:an):ea s []=s/\fE s []=s/\(∀p ps,ea s (p::ps)=ea (b6.take s p) ps)/\(∀p ps,fE s (p::ps)=fE (b6.im s p) ps)/\
  (∀a d o,b6.take s ⟨a,false,d,o⟩=s)/\(∀a d o,b6.im s ⟨a,false,d,o⟩=s)/\(∀x q d o,b6.take s ⟨.h x q,true,d,o⟩=cK (hM x s) x (I.put q d.cJ (s x)))/\
  (∀a d,b6.im s ⟨a,true,d,.hole⟩=s)/\(∀x q d e,b6.im s ⟨.h x q,true,d,.aV e⟩=cK (k8 x s) x (I.put q (.aV e) (s x)))/\
  (∀x q d n xs,b6.im s ⟨.h x q,true,d,.ah n xs⟩=cK (k8 x s) x (I.put q (.ah n xs) (s x)))/\
  (∀x q d aC,b6.im s ⟨.h x q,true,d,.agg aC⟩=cK (k8 x s) x (I.put q (.agg aC) (s x))):=by
 refine⟨rfl,rfl,λ_ _=>rfl,λ_ _=>rfl,?_,?_,?_,?_,?_,?_,?_⟩<;>intros<;>simp[b6.take,b6.im]
def ub (s:an) (fx rs:anU):Nat->anZ->Bool->Prop
 |_,[],_=>True
 |k,o::r,b=>(o= .hole\/(o=s k/\o.ga=true/\fx.contains k=true/\rs.contains k=false))/\ub s fx rs (k+1) r b
theorem mV {s:an} {fx:anU} {dY:List ResultVar} {outs:anZ} (h:ub s fx (dY.map jE) 0 outs true):∀(i:Nat) (o:I),outs[i]? =some o->o= .hole\/(o=s i/\o.ga=true/\i∈fx/\i∉dY.map jE):=by
 have key:∀(outs:anZ) (k:Nat),ub s fx (dY.map jE) k outs true->∀(i:Nat) (o:I),outs[i]? =some o->o= .hole\/(o=s (k+i)/\o.ga=true/\k+i∈fx/\k+i∉dY.map jE):=by
  intro outs;induction outs with
  |nil=>intro k _ i o h;simp at h
  |cons a outs ih=>
   intro k h i o a1;cases i with
   |zero=>
    simp at a1;subst a1;rcases h.1 with h|⟨h1,ab,ay,aT⟩
    .exact .inl h
    .exact .inr ⟨h1,ab,by simpa using ay,by simpa using aT⟩
   |succ i=>
    have:=ih (k+1) h.2 i o (by simpa using a1);rw[show k+(i+1)=k+1+i by omega];exact this
 intro i o a1;have:=key outs 0 h i o a1;simpa using this
theorem kS {s:an} {fx rs:anU} {k:Nat} {l:anZ} (h:ub s fx rs (k+1) l true):ub s fx rs k (.hole::l) true:=⟨.inl rfl,h⟩
theorem ll {s:an} {fx rs:anU} {k:Nat} {o:I} {l:anZ} (h1:o=s k) (ab:o.ga=true) (ay:fx.contains k=true) (aT:rs.contains k=false) (h:ub s fx rs (k+1) l true):ub s fx rs k (o::l) true:=⟨.inr ⟨h1,ab,ay,aT⟩,h⟩
theorem mW {s:an} {fx rs:anU} {k:Nat}:ub s fx rs k [] true:=trivial
theorem DM {Q:Exit->an->Prop} {ros:List bt} {k:anU} {b:aH} (h:cq C (aj l) ros none (λ_ s=>di (bh C b Q) (aj (fo k s)))):bh C (.seq (.ew ros (some k)) b) Q (aj l):=rO (λ_ _ h=>h) h
theorem DN {K:an->Prop} {s:an} (bV:anY) (h:vD s bV) (hk:K (aj bV)):di K s:=.inr ⟨bV,h,hk⟩
def I.ZU:I->Bool
 | .tuple _=>true
 | .cc _=>true
 | .bm _ _=>true
 | .cX _=>true
 |_=>false
theorem DO {d e:I} (aL:d.tree=true) (aN:d.ZU=false) (h:d.share=e):eP d e:=by
 subst h;exact .share d aL (λvs e=>by subst e;cases aN) (λo e=>by subst e;cases aN) (λ_ _ e=>by subst e;cases aN) (λ_ e=>by subst e;cases aN)
theorem DP:(∀neg e r,tX neg (.slice e) (some r)=some (qm neg r))/\(∀neg,qm neg none= .fj)/\qm false (some false)= .bool false/\qm true (some false)= .bool true/\qm false (some true)= .bool true/\qm true (some true)= .bool false/\(∀s,j7 s .bd=some (some true)):=
 ⟨λ_ _ _=>rfl,λ_=>rfl,rfl,rfl,rfl,rfl,λ_=>rfl⟩
theorem Qb {α:Type} {xs:List α} (h:xs.isEmpty=true) (e:α->I) (s:an):j7 s (.slice (xs.map e))=some none:=by
 have:xs=[]:=isEmpty_iff.1 h;subst this;rfl
theorem Qc {α:Type} {xs:List α} (h:xs.isEmpty=false) (e:α->I) (s:an):j7 s (.slice (xs.map e))=some (some false):=by
 cases xs with
 |nil=>cases h
 |cons x xs=>rfl
def ZV:Option I->Option anV
 |some (.ah _ xs)=>some (if xs=[]then none else some false)
 |_=>none
theorem DQ (s:an) (x:Nat) (q:anU):j7 s (.h x q)=ZV (I.sub q (s x)):=by
 simp only[j7];rfl
theorem aY.nil {C:bx} {f:FuncId} {args:anZ} {r:I} {outs:anZ} (i:Nat) (h:aY C f (args.set i (.slice [])) r outs) (ak:args[i]? =some .bd):aY C f args r outs:=by
 intro w F X S vs hl ax;have hP:=ax.cD i;have U:eb args i= .bd:=by simp[eb,List.getD,ak]
 rw[U]at hP;have aD:aF w F (eb args) (fs vs) (.slice []) (fs vs i) (λ_=>False):=by
  rw[aF.b_ rfl]at hP⊢;refine⟨hP.1,?_⟩;have ab:=hP.2;simp only[ar]at ab⊢;exact .inl ⟨trivial,none,0,ab,zero_le _,λ_=>rfl⟩
 have ab:=ax.tB (t:=i) rfl aD;have aI:cK (eb args) i (.slice [])=eb (args.set i (.slice [])):=by
  funext t;have cp:i<args.length:=(List.getElem?_eq_some_iff.1 ak).1;by_cases aL:t=i
  .subst aL;simp[cK,eb,List.getD,cp]
  .have:i≠t:=λe=>aL e.symm;simp[cK,aL,eb,List.getD,this]
 have aM:cK (fs vs) i (fs vs i)=fs vs:=by
  funext t;by_cases aL:t=i
  .subst aL;simp[cK]
  .simp[cK,aL]
 rw[aI,aM]at ab;exact h w F X _ vs (by simpa using hl) ab
theorem ZW (a b:anZ):I.shares (a++b)=I.shares a++I.shares b:=by simp only[I.tz,map_append]
def oz:Option (I×an)->Option (I×an)
 |some (av,s)=>if(av.tree&& !av.AJ)=true then some (av.share,s)else none
 |none=>none
theorem ZX (s:an):(∀n xs,oz (some (.ah n xs,s))=some (.slice (I.shares xs),s))/\(∀d,oz (some (.aV d,s))=some (.ref d.share,s))/\(∀ds,oz (some (.agg ds,s))=some (.agg (I.shares ds),s)):=
 ⟨λ_ _=>rfl,λ_=>rfl,λ_=>rfl⟩
theorem DR {s:an} {bz:dK} {K:anU->I->an->Prop}:o4 C s (.shr bz) K=(match oz (bJ C s bz)with
  |some (av,s1)=>K (kl s bz) av s1
  |none=>False):=by
 apply propext;cases he:bJ C s bz with
 |none=>
  simp only[oz];exact⟨λ⟨av,s1,h1,_⟩=>(by rw[he]at h1;cases h1),λh=>h.elim⟩
 |some p=>
  obtain⟨av,s1⟩:=p;simp only[oz];by_cases aL:(av.tree&& !av.AJ)=true
  .rw[if_pos aL];simp only[Bool.and_eq_true,Bool.not_eq_true']at aL;constructor
   .rintro⟨ZY,ZZ,h1,ab,ay,aT⟩;rw[he]at h1;simp only[some.injEq,Prod.mk.injEq]at h1;obtain⟨rfl,rfl⟩:=h1;exact aT
   .intro h;exact⟨av,s1,he,aL.1,λvs e=>by subst e;simp[I.AJ]at aL,h⟩
  .rw[if_neg aL];constructor
   .rintro⟨ZY,ZZ,h1,ab,ay,aT⟩;rw[he]at h1;simp only[some.injEq,Prod.mk.injEq]at h1;obtain⟨rfl,rfl⟩:=h1;refine aL ?_;rw[ab];cases av<;>first|rfl|exact(ay _ rfl).elim
   .intro h;exact h.elim
theorem Qd (s:an) (d:I):iu s (some d)=some (d,s):=rfl
theorem Z0 (bz:dK):(cq C (aj l) (⟨dst,.shr bz,none⟩::os) none K=oy C dst os K (oz (bJ C (aj l) bz)))/\
  (∀a,cq C (aj l) (⟨dst,.shr bz,none⟩::os) (some a) K=o5 C l (use (aj l) bz) (kl (aj l) bz) dst os a K (oz (bJ C (aj l) bz)))/\
  (∀t b,jX C l dst (.shr bz) t b os none K (.bool b)=oy C dst os K (oz (bJ C (aj l) bz)))/\
  (∀a t b,jX C l dst (.shr bz) t b os (some a) K (.bool b)=o5 C l (t::use (aj l) bz) (kl (aj l) bz) dst os a K (oz (bJ C (aj l) bz))):=by
 refine⟨?_,λa=>?_,λt b=>?_,λa t b=>?_⟩
 .simp only[cq,nE,DR];cases oz (bJ C (aj l) bz)with
  |none=>rfl
  |some p=>rfl
 .simp only[cq,nE,DR];cases oz (bJ C (aj l) bz)with
  |none=>rfl
  |some p=>rfl
 .simp only[jX,if_true,DR];cases oz (bJ C (aj l) bz)with
  |none=>rfl
  |some p=>rfl
 .simp only[jX,if_true,DR];cases oz (bJ C (aj l) bz)with
  |none=>rfl
  |some p=>rfl
theorem Ie {α:Type} {e:α->I} {ys:List α} {ds:anZ} (h:j_ ds (ys.map e)):∀xs:List α,j_ (xs.map e++ds) ((xs++ys).map e)
 |[]=>h
 |_::xs=>.cons (.refl _) (Ie h xs)
def xW (C:bx) (s:an):oh->Option (I×an)
 | .slice e=>if(C.T e).ok=true then some (.bd,s)else none
 |_=>none
def pU (C:bx) (s:an) (y:Nat) (q:anU) (b:Int):oh->Option I->Option (I×an)
 | .slice e,some (.ah sz xs)=>(match fw xs 0 b with
   |some t=>if(C.T e).ok=true then(match cy s (.h y q)with|some (_,s1)=>some (.ah sz t,s1)|none=>none)else none
   |none=>none)
 |_,_=>none
theorem uc (C:bx) (s:an) (T:TypeId) (y:Nat) (q:anU):(∀k b,fR C s T (.h y q) none (some (.int k b))=pU C s y q b (C.T T).k (I.sub q (s y)))/\
  (∀k b da,fR C s T (.h y q) (some (.int da 0)) (some (.int k b))=pU C s y q b (C.T T).k (I.sub q (s y)))/\
  (∀e sz xs b t,fw xs 0 b=some t->pU C s y q b (.slice e) (some (.ah sz xs))=if(C.T e).ok=true then(match cy s (.h y q)with|some (_,s1)=>some (.ah sz t,s1)|none=>none)else none):=by
 have key:∀(eK:Option I) (k:IntKind) (b:Int),hZ 0 eK=some 0->fR C s T (.h y q) eK (some (.int k b))=pU C s y q b (C.T T).k (I.sub q (s y)):=by
  intro eK k b ba;simp only[fR];generalize (C.T T).k=dC;cases dC<;>first|rfl|skip
  rename_i e;cases U:I.sub q (s y)with
  |none=>simp only[U];rfl
  |some d=>
   cases d with
   |ah sz xs=>
    have DS:hZ xs.length (some (.int k b))=if 0<=b then some b.toNat else none:=rfl;simp only[U,ba,DS,pU,fw];by_cases R:0<=b
    .by_cases ai:b<=xs.length
     .have h1:b.toNat<=xs.length:=by omega
      simp only[R,ai,h1,if_true,true_and,Int.le_refl,and_self,Int.toNat_zero,drop_zero];rfl
     .have h1:¬b.toNat<=xs.length:=by omega
      simp only[R,ai,h1,if_true,if_false,and_false,false_and,Int.le_refl]
    .simp only[R,if_false,false_and,and_false]
   |_=>simp only[U];rfl
 refine⟨λk b=>key _ _ _ rfl,λk b da=>key _ _ _ (by simp[hZ]),λe sz xs b t h=>?_⟩;simp only[pU,h]
def DT (s:an) (y:Nat):I->Option (I×an)
 | .agg ds=>if I.dS ds then none else some (.R y 0,s)
 | .bm _ _=>some (.R y 0,s)
 |_=>none
theorem DU (C:bx) (s:an) (T e:TypeId) (x:aX) (hk:(C.T T).k= .slice e) (ag:a6 s x= .bd):bJ C s (.cap T x)=some (.int .i64 0,s):=by
 simp only[bJ,hk,ag]
theorem DV (T:TypeId) (x:aX):(cq C (aj l) (⟨dst,.cap T x,none⟩::os) none K=oy C dst os K (bJ C (aj l) (.cap T x)))/\
  (∀a,cq C (aj l) (⟨dst,.cap T x,none⟩::os) (some a) K=o5 C l (use (aj l) (.cap T x)) (kl (aj l) (.cap T x)) dst os a K (bJ C (aj l) (.cap T x))):=
 ⟨tU rfl,λ_=>vJ rfl⟩
theorem Z1 (C:bx) (l:anY) (dst:Option Nat) (os:List bt) (K:Option (List e7)->an->Prop):
  (cq C (aj l) (⟨dst,.rD,none⟩::os) none K=oy C dst os K (some (.cc (.mp []),aj l)))/\
  (∀a,cq C (aj l) (⟨dst,.rD,none⟩::os) (some a) K=o5 C l (use (aj l) .rD) (kl (aj l) .rD) dst os a K (some (.cc (.mp []),aj l))):=
 ⟨tU rfl,λ_=>vJ rfl⟩
theorem DW (C:bx) (l:anY) (T:TypeId) (x i:aX):bJ C (aj l) (.il T x i)=iu (aj l) (il C (aj l) T (a6 (aj l) x) (a6 (aj l) i)):=by simp only[bJ,DG]
theorem Qe (C:bx) (l:anY) (T:TypeId) (x i v:aX):bJ C (aj l) (.jz T x i v)=dj (jz C (aj l) T (a6 (aj l) x) (a6 (aj l) i) (a6 (aj l) v)):=by simp only[bJ,Pe]
theorem Z2 (C:bx) (l:anY) (dst:Option Nat) (os:List bt) (K:Option (List e7)->an->Prop):
  (∀T x i,cq C (aj l) (⟨dst,.il T x i,none⟩::os) none K=oy C dst os K (iu (aj l) (il C (aj l) T (a6 (aj l) x) (a6 (aj l) i))))/\
  (∀a T x i,cq C (aj l) (⟨dst,.il T x i,none⟩::os) (some a) K=o5 C l (use (aj l) (.il T x i)) (kl (aj l) (.il T x i)) dst os a K (iu (aj l) (il C (aj l) T (a6 (aj l) x) (a6 (aj l) i))))/\
  (∀T x i t b,jX C l dst (.il T x i) t b os none K (.bool b)=oy C dst os K (iu (aj l) (il C (aj l) T (a6 (aj l) x) (a6 (aj l) i))))/\
  (∀a T x i t b,jX C l dst (.il T x i) t b os (some a) K (.bool b)=o5 C l (t::use (aj l) (.il T x i)) (kl (aj l) (.il T x i)) dst os a K (iu (aj l) (il C (aj l) T (a6 (aj l) x) (a6 (aj l) i)))):=
 ⟨λ_ _ _=>(tU rfl).trans (congrArg _ (DW ..)),λ_ _ _ _=>(vJ rfl).trans (congrArg _ (DW ..)),λ_ _ _ _ _=>(HW rfl).trans (congrArg _ (DW ..)),λ_ _ _ _ _ _=>(HX rfl).trans (congrArg _ (DW ..))⟩
theorem Z3 (C:bx) (l:anY) (dst:Option Nat) (os:List bt) (K:Option (List e7)->an->Prop):
  (∀T x i v,cq C (aj l) (⟨dst,.jz T x i v,none⟩::os) none K=oy C dst os K (dj (jz C (aj l) T (a6 (aj l) x) (a6 (aj l) i) (a6 (aj l) v))))/\
  (∀a T x i v,cq C (aj l) (⟨dst,.jz T x i v,none⟩::os) (some a) K=o5 C l (use (aj l) (.jz T x i v)) (kl (aj l) (.jz T x i v)) dst os a K (dj (jz C (aj l) T (a6 (aj l) x) (a6 (aj l) i) (a6 (aj l) v)))):=
 ⟨λ_ _ _ _=>(tU rfl).trans (congrArg _ (Qe ..)),λ_ _ _ _ _=>(vJ rfl).trans (congrArg _ (Qe ..))⟩
def Qf (T:Bool) (k:anR):Option I->Option I
 |some (.cc (.mp m))=>if T=true then some (.bool (kE k m))else none
 |_=>none
def Qg (T:Bool) (s:an) (y:Nat) (q:anU) (k:anR) (b:Bool):Option I->Option an
 |some (.cc (.mp m))=>if T=true then some (cK (hM y s) y (I.put q (.cc (.mp (kF k b m))) (s y)))else none
 |_=>none
theorem Qh:(∀(C:bx) (s:an) (T:TypeId) y q k,il C s T (.h y q) (.str k)=Qf (tK C T) k (I.sub q (s y)))/\(∀k m,Qf true k (some (.cc (.mp m)))=some (.bool (kE k m)))/\
  (∀(C:bx) (s:an) (T:TypeId) y q k b,jz C s T (.h y q) (.str k) (.bool b)=Qg (tK C T) s y q k b (I.sub q (s y)))/\
  (∀s y q k b m,Qg true s y q k b (some (.cc (.mp m)))=some (cK (hM y s) y (I.put q (.cc (.mp (kF k b m))) (s y)))):=
 ⟨λ_ _ _ _ _ _=>rfl,λ_ _=>rfl,λ_ _ _ _ _ _ _=>rfl,λ_ _ _ _ _ _=>rfl⟩
theorem DX (C:bx) (l:anY) (eI:Bool) (x y:aX):bJ C (aj l) (.jf eI x y)=iu (aj l) (jf eI (a6 (aj l) x) (a6 (aj l) y)):=by simp only[bJ,DG]
theorem Z4 (C:bx) (l:anY) (dst:Option Nat) (os:List bt) (K:Option (List e7)->an->Prop):
  (∀eI x y,cq C (aj l) (⟨dst,.jf eI x y,none⟩::os) none K=oy C dst os K (iu (aj l) (jf eI (a6 (aj l) x) (a6 (aj l) y))))/\
  (∀a eI x y,cq C (aj l) (⟨dst,.jf eI x y,none⟩::os) (some a) K=o5 C l (use (aj l) (.jf eI x y)) (kl (aj l) (.jf eI x y)) dst os a K (iu (aj l) (jf eI (a6 (aj l) x) (a6 (aj l) y))))/\
  (∀eI x y t b,jX C l dst (.jf eI x y) t b os none K (.bool b)=oy C dst os K (iu (aj l) (jf eI (a6 (aj l) x) (a6 (aj l) y))))/\
  (∀a eI x y t b,jX C l dst (.jf eI x y) t b os (some a) K (.bool b)=o5 C l (t::use (aj l) (.jf eI x y)) (kl (aj l) (.jf eI x y)) dst os a K (iu (aj l) (jf eI (a6 (aj l) x) (a6 (aj l) y)))):=
 ⟨λ_ x y=>(tU rfl).trans (congrArg _ (DX ..)),λ_ _ x y=>(vJ rfl).trans (congrArg _ (DX ..)),λ_ x y _ _=>(HW rfl).trans (congrArg _ (DX ..)),λ_ _ x y _ _=>(HX rfl).trans (congrArg _ (DX ..))⟩
theorem Z5 (eI:Bool) (k:IntKind) (a b:Int):jf eI (.int k a) (.int k b)=some (.int k (i_ eI a b)):=if_pos rfl
theorem Qi (C:bx) (s:an) (e:TypeId):xW C s (.slice e)=if(C.T e).ok=true then some (.bd,s)else none:=rfl
theorem xX {C:bx} {l:anY} {os:List bt} {K:Option (List e7)->an->Prop} {dst:Option Nat} (T:TypeId) (x:aX):
  cq C (aj l) (⟨dst,.jR T x,none⟩::os) none K=oy C dst os K (jR (aj l) (a6 (aj l) x)):=tU rfl
theorem o8:(∀(t x k:Nat),mi t (.R x k)= .R x k)/\(∀(l:anY) (t x k:Nat),fin (aj l) (some t) (.R x k)=aj ((t,.R x k)::l))/\(∀x k:Nat,I.plain (.R x k)=true)/\
  (∀(s:an) (x k:Nat),DF s (.R x k)=some (.R x k,s))/\(∀(t y k:Nat),cu t (.R y k)=if y=t then .hole else .R y k)/\(∀(t y k:Nat),b4 t (.R y k)= .R y k)/\(∀x k:Nat,I.wd (.R x k)=1):=
 ⟨λ_ _ _=>rfl,λl t x k=>by simp only[fin,I.plain,if_true,rL],λ_ _=>rfl,λ_ _ _=>rfl,λ_ _ _=>by simp only[cu],λ_ _ _=>by simp only[b4],λ_ _=>rfl⟩
theorem xY:(∀(s:an) y,jR s (.h y [])=DT s y (s y))/\(∀(s:an) y aC,DT s y (.agg aC)=if I.dS aC then none else some (.R y 0,s))/\(∀(s:an) y f c,DT s y (.bm f c)=some (.R y 0,s))/\
  (∀k i ds d,C4 (d::ds) i k=if k=0 then some i else if d.wd<=k then C4 ds (i+1) (k-d.wd)else none):=
 ⟨λs y=>by
  simp only[jR,DT,true_and];cases s y with
  |agg ds=>by_cases h:I.dS ds=true<;>simp[C7,h]
  |_=>rfl,λ_ _ _=>rfl,λ_ _ _ _=>rfl,λ_ _ _ _=>rfl⟩
theorem Qj (C:bx) (s:an) (T:TypeId):fR C s T .bd none none=xW C s (C.T T).k/\(∀k,fR C s T .bd none (some (.int k 0))=xW C s (C.T T).k)/\(∀k,fR C s T .bd (some (.int k 0)) none=xW C s (C.T T).k)/\
  (∀k da,fR C s T .bd (some (.int k 0)) (some (.int da 0))=xW C s (C.T T).k)/\(∀e,xW C s (.slice e)=if(C.T e).ok=true then some (.bd,s)else none):=by
 refine⟨?_,λk=>?_,λk=>?_,λk da=>?_,λ_=>rfl⟩<;>(simp only[fR];generalize (C.T T).k=dC;cases dC<;>rfl)
theorem Qk (T b5:TypeId) (x y:aX):(cq C (aj l) (⟨dst,.iV T b5 x y,none⟩::os) none K=oy C dst os K (iu (aj l) (iV C T b5 (a6 (aj l) x) (a6 (aj l) y))))/\
  (∀a,cq C (aj l) (⟨dst,.iV T b5 x y,none⟩::os) (some a) K=o5 C l (use (aj l) (.iV T b5 x y)) (kl (aj l) (.iV T b5 x y)) dst os a K (iu (aj l) (iV C T b5 (a6 (aj l) x) (a6 (aj l) y)))):=by
 have e:bJ C (aj l) (.iV T b5 x y)=iu (aj l) (iV C T b5 (a6 (aj l) x) (a6 (aj l) y)):=by simp only[bJ,DG]
 exact⟨(tU rfl).trans (by rw[e]),λa=>(vJ rfl).trans (by rw[e])⟩
theorem xZ {α:Type} {l:List α} {i:Nat} {x:α} (h:l[i]? =some x) (u:α->I) (a:I):((l.map u).set i a)[i]? =some a:=by
 have:i<l.length:=(List.getElem?_eq_some_iff.1 h).1;rw[getElem?_set_self (by simpa using this)]
theorem x0 {α:Type} (l:List α) (u:α->I) (i:Nat) (a b:I):((l.map u).set i a).set i b=(l.map u).set i b:=set_set ..
theorem Ql {α:Type} (xs:List α):fw xs 0 0=some []:=by unfold fw;rw[if_pos ⟨Int.le_refl _,by omega⟩];rfl
end
end Go.cC
