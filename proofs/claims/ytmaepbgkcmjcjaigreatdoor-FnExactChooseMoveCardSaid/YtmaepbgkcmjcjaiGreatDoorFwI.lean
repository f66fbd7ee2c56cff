/- Part of a proof that a law returns true for every input. No condition. -/
import Derived.Test.YtmaepbgkcmjcjaiGreatDoorFwH
import Derived.Laws.Externs
import Derived.Lib.Bytealg
namespace Go.eg
open List Option Go.IntKind Nat
theorem WG {C:cl} {f:FuncId} {fn:Func} (bH:C.P.funcs[f]? =some fn) (mr:(fn.name== "runtime.NumGoroutine")=false) (ab:fn.body.isNone=true) (aR:Extern.findNext fn=none)
  {E:Array Value->Sem Value} (he:Extern.find fn=some E) (a:azc) (c:UInt8) (n:Int) (ER:∀w,(E #[.string ⟨⟨a⟩⟩,.int .u8 c.toNat]).run C.P w= .ok (.int .i64 n) w):aV C f [.str a,.int .u8 c.toNat] (.int .i64 n) []:=by
 intro w F X S vs aC aT;have a7:=o5 (aT.ey 0);have ad:=qg (aT.ey 1);have agm:vs=[.string ⟨⟨a⟩⟩,.int .u8 c.toNat]:=by
  match vs,aC with
  |[x,y],_=>
   have fT:x= .string ⟨⟨a⟩⟩:=a7;have aO:y= .int .u8 c.toNat:=ad;rw[fT,aO]
 subst agm;refine .inr ⟨.int .i64 n,w,?_,F,S,?_⟩
 .rw[run_callFunc_extern bH mr ab aR he,ER];rfl
 .refine⟨aT.iQ,aT.jv,aT.gP,aT.fS,aT.hj,aT.gD,aT.eR,λt=>?_,aT.old,aT.size,aT.os,aT.tape,aT.output,aT.gU⟩;cases t with
  |zero=>exact(aS.dr rfl).2 ⟨rfl,by simp only[dd,jb,h5];rw[show gq (.int .i64 n::[]) 0= .int .i64 n from rfl,aA];rfl⟩
  |succ t=>
   show aS w F _ _ (gq [I.int .i64 n] (t+1)) _ _;rw[show gq [I.int .i64 n] (t+1)= .hole from rfl,aS];trivial
section
variable {C:cl} {l:azj} {os:List cq} {K:Option (List fJ)->al->Prop} {dst:Option Nat}
def vO (s:al):List dt->Prop
 |[]=>True
 |p::ps=>p.ok s/\vO s ps
theorem NZ {s:al}:∀{ps:List dt},vO s ps->∀p∈ps,p.ok s
 |p::ps,h,q,cz=>by
  rcases mem_cons.1 cz with rfl|cz
  .exact h.1
  .exact NZ h.2 q cz
def xQ:List dt->Bool
 |[]=>true
 |p::ps=>p.o.c1&&xQ ps
theorem N0:∀{ps:List dt},xQ ps=true->∀p∈ps,p.o.c1=true
 |p::ps,h,q,cz=>by
  simp only[xQ,Bool.and_eq_true]at h;rcases mem_cons.1 cz with rfl|cz
  .exact h.1
  .exact N0 h.2 q cz
theorem WH {f:bE} {args:List bE} {g:FuncId} {caps:azk} {K:azf->I->al->Prop} (ps:List dt) (r:I)
  (ad:bt (aq l) f= .fn g caps) (kk:I.hA caps=true) (ae:ps.map (·.a)=l8 (aq l) args++caps) (aJ:vO (aq l) ps) (bh:kj ps=true)
  (b2:aV C g (ps.map (·.d)) r (ps.map (·.o))) (dA:r.res=true) (dC:mN ps=false\/(r.c1&&xQ ps)=true) (kY:K (vM ps) r (j4 (gp (aq l) ps) ps)):q_ C (aq l) (.call f args) K:=by
 refine⟨g,caps,ps,r,ad,kk,by rw[ae,E1],NZ aJ,bh,b2,dA,?_,kY⟩;intro aC;rcases dC with dC|dC
 .rw[dC]at aC;cases aC
 .rw[Bool.and_eq_true]at dC;exact⟨dC.1,N0 dC.2⟩
theorem oI {f:bE} {args:List bE} {g:FuncId} {caps:azk} {r:I} (ps:List dt) (b2:aV C g (ps.map (·.d)) r (ps.map (·.o)))
  (ad:bt (aq l) f= .fn g caps) (kk:I.hA caps=true) (ae:ps.map (·.a)=l8 (aq l) args++caps) (aJ:vO (aq l) ps) (bh:kj ps=true)
  (dA:r.res=true) (dC:mN ps=false\/(r.c1&&xQ ps)=true)
  (kY:dE C (fin (j4 (gp (aq l) ps) ps) dst r) os none K):dE C (aq l) (⟨dst,.call f args,none⟩::os) none K:=by
 simp only[dE,pe,ub];exact WH ps r ad kk ae aJ bh b2 dA dC kY
theorem N1 {a:List fJ} {f:bE} {args:List bE} {g:FuncId} {caps:azk} {r:I} (ps:List dt) (b2:aV C g (ps.map (·.d)) r (ps.map (·.o)))
  (ad:bt (aq l) f= .fn g caps) (kk:I.hA caps=true) (ae:ps.map (·.a)=l8 (aq l) args++caps) (aJ:vO (aq l) ps) (bh:kj ps=true)
  (dA:r.res=true) (dC:mN ps=false\/(r.c1&&xQ ps)=true)
  (kY:dE C (fin (j4 (gp (aq l) ps) ps) dst r) os (some (kK (aq l) (use (aq l) (.call f args)) dst (vM ps) r::a)) K):dE C (aq l) (⟨dst,.call f args,none⟩::os) (some a) K:=by
 simp only[dE,pe,ub];exact WH ps r ad kk ae aJ bh b2 dA dC kY
theorem pP (s:al):vO s []=True/\(∀p ps,vO s (p::ps)=(p.ok s/\vO s ps))/\(∀a d o,dt.ok s ⟨a,false,d,o⟩=(view s a=some d))/\
  (∀x q d o,dt.ok s ⟨.h x q,true,d,o⟩=(I.sub q (s x)=some d/\d.hD=true/\(o= .hole\/(o.hD=true/\xz d o=true)))):=by
 refine⟨rfl,λ_ _=>rfl,λ_ _ _=>?_,λ_ _ _ _=>?_⟩<;>simp[dt.ok]
theorem pQ:(∀d,I.own (.aQ d)=true)/\(∀n xs,I.own (.ak n xs)=true)/\(∀d,I.hD (.aQ d)=true)/\(∀n xs,I.hD (.ak n xs)=true)/\(∀aE,I.hD (.agg aE)= !I.hA aE)/\
  (∀d e,xz (.aQ d) (.aQ e)=true)/\(∀n xs m cH,xz (.ak n xs) (.ak m cH)=true)/\(∀a b,xz (.agg a) (.agg b)=(I.eZ a==I.eZ b)):=⟨λ_=>rfl,λ_ _=>rfl,λ_=>rfl,λ_ _=>rfl,λ_=>rfl,λ_ _=>rfl,λ_ _ _ _=>rfl,λ_ _=>rfl⟩
theorem n7 (s:al):gp s []=s/\j4 s []=s/\(∀p ps,gp s (p::ps)=gp (dt.take s p) ps)/\(∀p ps,j4 s (p::ps)=j4 (dt.kH s p) ps)/\
  (∀a d o,dt.take s ⟨a,false,d,o⟩=s)/\(∀a d o,dt.kH s ⟨a,false,d,o⟩=s)/\(∀x q d o,dt.take s ⟨.h x q,true,d,o⟩=et (jc x s) x (I.put q d.dR (s x)))/\
  (∀a d,dt.kH s ⟨a,true,d,.hole⟩=s)/\(∀x q d e,dt.kH s ⟨.h x q,true,d,.aQ e⟩=et (oA x s) x (I.put q (.aQ e) (s x)))/\
  (∀x q d n xs,dt.kH s ⟨.h x q,true,d,.ak n xs⟩=et (oA x s) x (I.put q (.ak n xs) (s x)))/\
  (∀x q d aE,dt.kH s ⟨.h x q,true,d,.agg aE⟩=et (oA x s) x (I.put q (.agg aE) (s x))):=by
 refine⟨rfl,rfl,λ_ _=>rfl,λ_ _=>rfl,?_,?_,?_,?_,?_,?_,?_⟩<;>intros<;>simp[dt.take,dt.kH]
def xR (s:al) (fx rs:azf):Nat->azk->Bool->Prop
 |_,[],_=>True
 |k,o::r,b=>(o= .hole\/(o=s k/\o.hD=true/\fx.contains k=true/\rs.contains k=false))/\xR s fx rs (k+1) r b
theorem kM {s:al} {fx:azf} {fO:List ResultVar} {outs:azk} (h:xR s fx (fO.map lH) 0 outs true):∀(i:Nat) (o:I),outs[i]? =some o->o= .hole\/(o=s i/\o.hD=true/\i∈fx/\i∉fO.map lH):=by
 have key:∀(outs:azk) (k:Nat),xR s fx (fO.map lH) k outs true->∀(i:Nat) (o:I),outs[i]? =some o->o= .hole\/(o=s (k+i)/\o.hD=true/\k+i∈fx/\k+i∉fO.map lH):=by
  intro outs;induction outs with
  |nil=>intro k _ i o h;simp at h
  |cons a outs ih=>
   intro k h i o bL;cases i with
   |zero=>
    simp at bL;subst bL;rcases h.1 with h|⟨ad,ae,aJ,bh⟩
    .exact .inl h
    .exact .inr ⟨ad,ae,by simpa using aJ,by simpa using bh⟩
   |succ i=>
    have:=ih (k+1) h.2 i o (by simpa using bL);rw[show k+(i+1)=k+1+i by omega];exact this
 intro i o bL;have:=key outs 0 h i o bL;simpa using this
theorem dO {s:al} {fx rs:azf} {k:Nat} {l:azk} (h:xR s fx rs (k+1) l true):xR s fx rs k (.hole::l) true:=⟨.inl rfl,h⟩
theorem n8 {s:al} {fx rs:azf} {k:Nat} {o:I} {l:azk} (ad:o=s k) (ae:o.hD=true) (aJ:fx.contains k=true) (bh:rs.contains k=false) (h:xR s fx rs (k+1) l true):xR s fx rs k (o::l) true:=⟨.inr ⟨ad,ae,aJ,bh⟩,h⟩
theorem kN {s:al} {fx rs:azf} {k:Nat}:xR s fx rs k [] true:=trivial
theorem l9 {Q:Exit->al->Prop} {ros:List cq} {k:azf} {b:aB} (h:dE C (aq l) ros none (λ_ s=>eI (bj C b Q) (aq (ho k s)))):bj C (.seq (.en ros (some k)) b) Q (aq l):=zh (λ_ _ h=>h) h
theorem IK {K:al->Prop} {s:al} (c_:azj) (h:zd s c_) (ax:K (aq c_)):eI K s:=.inr ⟨c_,h,ax⟩
def I.agn:I->Bool
 | .tuple _=>true
 | .b9 _=>true
 |_=>false
theorem BA {d e:I} (aY:d.tree=true) (aR:d.agn=false) (h:d.share=e):fN d e:=by
 subst h;exact .share d aY (λvs e=>by subst e;cases aR) (λo e=>by subst e;cases aR)
theorem IL:(∀neg e r,xN neg (.slice e) (some r)=some (sr neg r))/\(∀neg,sr neg none= .gA)/\sr false (some false)= .bool false/\sr true (some false)= .bool true/\sr false (some true)= .bool true/\sr true (some true)= .bool false/\(∀s,l5 s .a8=some (some true)):=
 ⟨λ_ _ _=>rfl,λ_=>rfl,rfl,rfl,rfl,rfl,λ_=>rfl⟩
theorem WI {α:Type} {xs:List α} (h:xs.isEmpty=true) (e:α->I) (s:al):l5 s (.slice (xs.map e))=some none:=by
 have:xs=[]:=isEmpty_iff.1 h;subst this;rfl
theorem WJ {α:Type} {xs:List α} (h:xs.isEmpty=false) (e:α->I) (s:al):l5 s (.slice (xs.map e))=some (some false):=by
 cases xs with
 |nil=>cases h
 |cons x xs=>rfl
def ago:Option I->Option azg
 |some (.ak _ xs)=>some (if xs=[]then none else some false)
 |_=>none
theorem IM (s:al) (x:Nat) (q:azf):l5 s (.h x q)=ago (I.sub q (s x)):=by
 simp only[l5];rfl
theorem aV.nil {C:cl} {f:FuncId} {args:azk} {r:I} {outs:azk} (i:Nat) (h:aV C f (args.set i (.slice [])) r outs) (ai:args[i]? =some .a8):aV C f args r outs:=by
 intro w F X S vs aC aT;have lh:=aT.ey i;have aa:gq args i= .a8:=by simp[gq,List.getD,ai]
 rw[aa]at lh;have aF:aS w F (gq args) (h5 vs) (.slice []) (h5 vs i) (λ_=>False):=by
  rw[aS.dr rfl]at lh⊢;refine⟨lh.1,?_⟩;have ae:=lh.2;simp only[aA]at ae⊢;exact .inl ⟨trivial,none,0,ae,zero_le _,λ_=>rfl⟩
 have ae:=aT.D7 (t:=i) rfl aF;have aO:et (gq args) i (.slice [])=gq (args.set i (.slice [])):=by
  funext t;have er:i<args.length:=(List.getElem?_eq_some_iff.1 ai).1;by_cases aY:t=i
  .subst aY;simp[et,gq,List.getD,er]
  .have:i≠t:=λe=>aY e.symm;simp[et,aY,gq,List.getD,this]
 have aU:et (h5 vs) i (h5 vs i)=h5 vs:=by
  funext t;by_cases aY:t=i
  .subst aY;simp[et]
  .simp[et,aY]
 rw[aO,aU]at ae;exact h w F X _ vs (by simpa using aC) ae
theorem n9 (a b:azk):I.shares (a++b)=I.shares a++I.shares b:=by simp only[I.xk,map_append]
def pR:Option (I×al)->Option (I×al)
 |some (av,s)=>if(av.tree&& !av.EW)=true then some (av.share,s)else none
 |none=>none
theorem n_ (s:al):(∀n xs,pR (some (.ak n xs,s))=some (.slice (I.shares xs),s))/\(∀d,pR (some (.aQ d,s))=some (.ref d.share,s))/\(∀ds,pR (some (.agg ds,s))=some (.agg (I.shares ds),s)):=
 ⟨λ_ _=>rfl,λ_=>rfl,λ_=>rfl⟩
theorem IP {s:al} {bU:eS} {K:azf->I->al->Prop}:q_ C s (.shr bU) K=(match pR (b_ C s bU)with
  |some (av,s1)=>K (lg s bU) av s1
  |none=>False):=by
 apply propext;cases he:b_ C s bU with
 |none=>
  simp only[pR];exact⟨λ⟨av,s1,ad,_⟩=>(by rw[he]at ad;cases ad),λh=>h.elim⟩
 |some p=>
  obtain⟨av,s1⟩:=p;simp only[pR];by_cases aY:(av.tree&& !av.EW)=true
  .rw[if_pos aY];simp only[Bool.and_eq_true,Bool.not_eq_true']at aY;constructor
   .rintro⟨agp,agq,ad,ae,aJ,bh⟩;rw[he]at ad;simp only[some.injEq,Prod.mk.injEq]at ad;obtain⟨rfl,rfl⟩:=ad;exact bh
   .intro h;exact⟨av,s1,he,aY.1,λvs e=>by subst e;simp[I.EW]at aY,h⟩
  .rw[if_neg aY];constructor
   .rintro⟨agp,agq,ad,ae,aJ,bh⟩;rw[he]at ad;simp only[some.injEq,Prod.mk.injEq]at ad;obtain⟨rfl,rfl⟩:=ad;refine aY ?_;rw[ae];cases av<;>first|rfl|exact(aJ _ rfl).elim
   .intro h;exact h.elim
theorem oa (bU:eS):(dE C (aq l) (⟨dst,.shr bU,none⟩::os) none K=pg C dst os K (pR (b_ C (aq l) bU)))/\
  (∀a,dE C (aq l) (⟨dst,.shr bU,none⟩::os) (some a) K=ph C l (use (aq l) bU) (lg (aq l) bU) dst os a K (pR (b_ C (aq l) bU)))/\
  (∀t b,kZ C l dst (.shr bU) t b os none K (.bool b)=pg C dst os K (pR (b_ C (aq l) bU)))/\
  (∀a t b,kZ C l dst (.shr bU) t b os (some a) K (.bool b)=ph C l (t::use (aq l) bU) (lg (aq l) bU) dst os a K (pR (b_ C (aq l) bU))):=by
 refine⟨?_,λa=>?_,λt b=>?_,λa t b=>?_⟩
 .simp only[dE,pe,IP];cases pR (b_ C (aq l) bU)with
  |none=>rfl
  |some p=>rfl
 .simp only[dE,pe,IP];cases pR (b_ C (aq l) bU)with
  |none=>rfl
  |some p=>rfl
 .simp only[kZ,if_true,IP];cases pR (b_ C (aq l) bU)with
  |none=>rfl
  |some p=>rfl
 .simp only[kZ,if_true,IP];cases pR (b_ C (aq l) bU)with
  |none=>rfl
  |some p=>rfl
theorem IQ {α:Type} {u e:α->I} (h:∀x,fN (u x) (e x)):∀xs:List α,mn (xs.map u) (xs.map e)
 |[]=>.nil
 |x::xs=>.cons (h x) (IQ h xs)
def xS (C:cl) (s:al) (y:Nat) (q:azf) (b:Int):qe->Option I->Option (I×al)
 | .slice e,some (.ak sz xs)=>(match gz xs 0 b with
   |some t=>if(C.T e).ok=true then(match dD s (.h y q)with|some (_,s1)=>some (.ak sz t,s1)|none=>none)else none
   |none=>none)
 |_,_=>none
theorem WK (C:cl) (s:al) (T:TypeId) (y:Nat) (q:azf):(∀k b,iJ C s T (.h y q) none (some (.int k b))=xS C s y q b (C.T T).k (I.sub q (s y)))/\
  (∀k b da,iJ C s T (.h y q) (some (.int da 0)) (some (.int k b))=xS C s y q b (C.T T).k (I.sub q (s y)))/\
  (∀e sz xs b t,gz xs 0 b=some t->xS C s y q b (.slice e) (some (.ak sz xs))=if(C.T e).ok=true then(match dD s (.h y q)with|some (_,s1)=>some (.ak sz t,s1)|none=>none)else none):=by
 have key:∀(fM:Option I) (k:IntKind) (b:Int),jE 0 fM=some 0->iJ C s T (.h y q) fM (some (.int k b))=xS C s y q b (C.T T).k (I.sub q (s y)):=by
  intro fM k b a7;simp only[iJ];generalize (C.T T).k=nX;cases nX<;>first|rfl|skip
  rename_i e;cases aa:I.sub q (s y)with
  |none=>simp only[aa];rfl
  |some d=>
   cases d with
   |ak sz xs=>
    have IU:jE xs.length (some (.int k b))=if 0<=b then some b.toNat else none:=rfl;simp only[aa,a7,IU,xS,gz];by_cases ab:0<=b
    .by_cases ar:b<=xs.length
     .have ad:b.toNat<=xs.length:=by omega
      simp only[ab,ar,ad,if_true,true_and,Int.le_refl,and_self,Int.toNat_zero,drop_zero];rfl
     .have ad:¬b.toNat<=xs.length:=by omega
      simp only[ab,ar,ad,if_true,if_false,and_false,false_and,Int.le_refl]
    .simp only[ab,if_false,false_and,and_false]
   |_=>simp only[aa];rfl
 refine⟨λk b=>key _ _ _ rfl,λk b da=>key _ _ _ (by simp[jE]),λe sz xs b t h=>?_⟩;simp only[xS,h]
theorem WL (C:cl) (l:azj) (dst:Option Nat) (os:List cq) (K:Option (List fJ)->al->Prop):
  (∀x,dE C (aq l) (⟨dst,.pL x,none⟩::os) none K=pg C dst os K (some (bt (aq l) x,aq l)))/\
  (∀a x,dE C (aq l) (⟨dst,.pL x,none⟩::os) (some a) K=ph C l (use (aq l) (.pL x)) (lg (aq l) (.pL x)) dst os a K (some (bt (aq l) x,aq l))):=
 ⟨λ_=>(xJ rfl).trans (congrArg _ rfl),λ_ _=>(xK rfl).trans (congrArg _ rfl)⟩
theorem BB (C:cl) (l:azj) (dst:Option Nat) (os:List cq) (K:Option (List fJ)->al->Prop):
  (∀x,dE C (aq l) (⟨dst,.pa x,none⟩::os) none K=pg C dst os K (xL (aq l) (bt (aq l) x)))/\
  (∀a x,dE C (aq l) (⟨dst,.pa x,none⟩::os) (some a) K=ph C l (use (aq l) (.pa x)) (lg (aq l) (.pa x)) dst os a K (xL (aq l) (bt (aq l) x))):=by
 have e:∀x,b_ C (aq l) (.pa x)=xL (aq l) (bt (aq l) x):=λx=>by
  simp only[b_];cases bt (aq l) x<;>rfl
 exact⟨λx=>(xJ rfl).trans (congrArg _ (e x)),λ_ x=>(xK rfl).trans (congrArg _ (e x))⟩
def BC (s:al):Option I->Option (I×al)
 |some d=>xL s d
 |none=>none
theorem agr (s:al) (d:I):BC s (some d)=xL s d:=rfl
theorem IV (C:cl) (l:azj) (T:TypeId) (x:bE) (k:Nat):b_ C (aq l) (.jd T x k)=BC (aq l) (jd C (aq l) T (bt (aq l) x) k):=by
 simp only[b_];cases jd C (aq l) T (bt (aq l) x) k with
 |none=>rfl
 |some d=>cases d<;>rfl
theorem ags (C:cl) (l:azj) (dst:Option Nat) (os:List cq) (K:Option (List fJ)->al->Prop):
  (∀T x k,dE C (aq l) (⟨dst,.jd T x k,none⟩::os) none K=pg C dst os K (BC (aq l) (jd C (aq l) T (bt (aq l) x) k)))/\
  (∀a T x k,dE C (aq l) (⟨dst,.jd T x k,none⟩::os) (some a) K=ph C l (use (aq l) (.jd T x k)) (lg (aq l) (.jd T x k)) dst os a K (BC (aq l) (jd C (aq l) T (bt (aq l) x) k)))/\
  (∀T x k t b,kZ C l dst (.jd T x k) t b os none K (.bool b)=pg C dst os K (BC (aq l) (jd C (aq l) T (bt (aq l) x) k)))/\
  (∀a T x k t b,kZ C l dst (.jd T x k) t b os (some a) K (.bool b)=ph C l (t::use (aq l) (.jd T x k)) (lg (aq l) (.jd T x k)) dst os a K (BC (aq l) (jd C (aq l) T (bt (aq l) x) k))):=
 ⟨λ_ _ _=>(xJ rfl).trans (congrArg _ (IV ..)),λ_ _ _ _=>(xK rfl).trans (congrArg _ (IV ..)),λ_ _ _ _ _=>(IG rfl).trans (congrArg _ (IV ..)),λ_ _ _ _ _ _=>(IH rfl).trans (congrArg _ (IV ..))⟩
theorem WM (C:cl) (l:azj) (dst:Option Nat) (os:List cq) (K:Option (List fJ)->al->Prop):
  (dE C (aq l) (⟨dst,.sv,none⟩::os) none K=pg C dst os K (some (.b9 (.mp []),aq l)))/\
  (∀a,dE C (aq l) (⟨dst,.sv,none⟩::os) (some a) K=ph C l (use (aq l) .sv) (lg (aq l) .sv) dst os a K (some (.b9 (.mp []),aq l))):=
 ⟨xJ rfl,λ_=>xK rfl⟩
theorem IW (C:cl) (l:azj) (T:TypeId) (x i:bE):b_ C (aq l) (.jI T x i)=lj (aq l) (jI C (aq l) T (bt (aq l) x) (bt (aq l) i)):=by simp only[b_,NK]
theorem WN (C:cl) (l:azj) (T:TypeId) (x i v:bE):b_ C (aq l) (.kX T x i v)=dW (kX C (aq l) T (bt (aq l) x) (bt (aq l) i) (bt (aq l) v)):=by simp only[b_,VQ]
theorem N2 (C:cl) (l:azj) (dst:Option Nat) (os:List cq) (K:Option (List fJ)->al->Prop):
  (∀T x i,dE C (aq l) (⟨dst,.jI T x i,none⟩::os) none K=pg C dst os K (lj (aq l) (jI C (aq l) T (bt (aq l) x) (bt (aq l) i))))/\
  (∀a T x i,dE C (aq l) (⟨dst,.jI T x i,none⟩::os) (some a) K=ph C l (use (aq l) (.jI T x i)) (lg (aq l) (.jI T x i)) dst os a K (lj (aq l) (jI C (aq l) T (bt (aq l) x) (bt (aq l) i))))/\
  (∀T x i t b,kZ C l dst (.jI T x i) t b os none K (.bool b)=pg C dst os K (lj (aq l) (jI C (aq l) T (bt (aq l) x) (bt (aq l) i))))/\
  (∀a T x i t b,kZ C l dst (.jI T x i) t b os (some a) K (.bool b)=ph C l (t::use (aq l) (.jI T x i)) (lg (aq l) (.jI T x i)) dst os a K (lj (aq l) (jI C (aq l) T (bt (aq l) x) (bt (aq l) i)))):=
 ⟨λ_ _ _=>(xJ rfl).trans (congrArg _ (IW ..)),λ_ _ _ _=>(xK rfl).trans (congrArg _ (IW ..)),λ_ _ _ _ _=>(IG rfl).trans (congrArg _ (IW ..)),λ_ _ _ _ _ _=>(IH rfl).trans (congrArg _ (IW ..))⟩
theorem N3 (C:cl) (l:azj) (dst:Option Nat) (os:List cq) (K:Option (List fJ)->al->Prop):
  (∀T x i v,dE C (aq l) (⟨dst,.kX T x i v,none⟩::os) none K=pg C dst os K (dW (kX C (aq l) T (bt (aq l) x) (bt (aq l) i) (bt (aq l) v))))/\
  (∀a T x i v,dE C (aq l) (⟨dst,.kX T x i v,none⟩::os) (some a) K=ph C l (use (aq l) (.kX T x i v)) (lg (aq l) (.kX T x i v)) dst os a K (dW (kX C (aq l) T (bt (aq l) x) (bt (aq l) i) (bt (aq l) v)))):=
 ⟨λ_ _ _ _=>(xJ rfl).trans (congrArg _ (WN ..)),λ_ _ _ _ _=>(xK rfl).trans (congrArg _ (WN ..))⟩
def WO (T:Bool) (k:azc):Option I->Option I
 |some (.b9 (.mp m))=>if T=true then some (.bool (j0 k m))else none
 |_=>none
def WQ (T:Bool) (s:al) (y:Nat) (q:azf) (k:azc) (b:Bool):Option I->Option al
 |some (.b9 (.mp m))=>if T=true then some (et (jc y s) y (I.put q (.b9 (.mp (kb k b m))) (s y)))else none
 |_=>none
theorem BD:(∀(C:cl) (s:al) (T:TypeId) y q k,jI C s T (.h y q) (.str k)=WO (q0 C T) k (I.sub q (s y)))/\(∀k m,WO true k (some (.b9 (.mp m)))=some (.bool (j0 k m)))/\
  (∀(C:cl) (s:al) (T:TypeId) y q k b,kX C s T (.h y q) (.str k) (.bool b)=WQ (q0 C T) s y q k b (I.sub q (s y)))/\
  (∀s y q k b m,WQ true s y q k b (some (.b9 (.mp m)))=some (et (jc y s) y (I.put q (.b9 (.mp (kb k b m))) (s y)))):=
 ⟨λ_ _ _ _ _ _=>rfl,λ_ _=>rfl,λ_ _ _ _ _ _ _=>rfl,λ_ _ _ _ _ _=>rfl⟩
theorem IX (C:cl) (l:azj) (fc:Bool) (x y:bE):b_ C (aq l) (.ki fc x y)=lj (aq l) (ki fc (bt (aq l) x) (bt (aq l) y)):=by simp only[b_,NK]
theorem N4 (C:cl) (l:azj) (dst:Option Nat) (os:List cq) (K:Option (List fJ)->al->Prop):
  (∀fc x y,dE C (aq l) (⟨dst,.ki fc x y,none⟩::os) none K=pg C dst os K (lj (aq l) (ki fc (bt (aq l) x) (bt (aq l) y))))/\
  (∀a fc x y,dE C (aq l) (⟨dst,.ki fc x y,none⟩::os) (some a) K=ph C l (use (aq l) (.ki fc x y)) (lg (aq l) (.ki fc x y)) dst os a K (lj (aq l) (ki fc (bt (aq l) x) (bt (aq l) y))))/\
  (∀fc x y t b,kZ C l dst (.ki fc x y) t b os none K (.bool b)=pg C dst os K (lj (aq l) (ki fc (bt (aq l) x) (bt (aq l) y))))/\
  (∀a fc x y t b,kZ C l dst (.ki fc x y) t b os (some a) K (.bool b)=ph C l (t::use (aq l) (.ki fc x y)) (lg (aq l) (.ki fc x y)) dst os a K (lj (aq l) (ki fc (bt (aq l) x) (bt (aq l) y)))):=
 ⟨λ_ x y=>(xJ rfl).trans (congrArg _ (IX ..)),λ_ _ x y=>(xK rfl).trans (congrArg _ (IX ..)),λ_ x y _ _=>(IG rfl).trans (congrArg _ (IX ..)),λ_ _ x y _ _=>(IH rfl).trans (congrArg _ (IX ..))⟩
theorem WR (fc:Bool) (k:IntKind) (a b:Int):ki fc (.int k a) (.int k b)=some (.int k (jr fc a b)):=if_pos rfl
theorem agt (fc:Bool) (a b:azc):ki fc (.str a) (.str b)=some (.str (hO fc a b)):=rfl
end
end Go.eg
