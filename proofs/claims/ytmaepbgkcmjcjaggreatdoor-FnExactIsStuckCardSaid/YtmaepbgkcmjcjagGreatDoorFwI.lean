/- Part of a proof that a law returns true for every input. No condition. -/
import Derived.Test.YtmaepbgkcmjcjagGreatDoorFwH
import Derived.Laws.Externs
import Derived.Lib.Bytealg
namespace Go.ef
open List Option Go.IntKind Nat
theorem Vh {C:cj} {f:FuncId} {fn:Func} (bF:C.P.funcs[f]? =some fn) (ml:(fn.name== "runtime.NumGoroutine")=false) (ab:fn.body.isNone=true) (aS:Extern.findNext fn=none)
  {E:Array Value->Sem Value} (he:Extern.find fn=some E) (a:axa) (c:UInt8) (n:Int) (D5:∀w,(E #[.string ⟨⟨a⟩⟩,.int .u8 c.toNat]).run C.P w= .ok (.int .i64 n) w):aV C f [.str a,.int .u8 c.toNat] (.int .i64 n) []:=by
 intro w F X S vs aC aQ;have bb:=oT (aQ.ew 0);have ad:=p4 (aQ.ew 1);have aeQ:vs=[.string ⟨⟨a⟩⟩,.int .u8 c.toNat]:=by
  match vs,aC with
  |[x,y],_=>
   have ga:x= .string ⟨⟨a⟩⟩:=bb;have aN:y= .int .u8 c.toNat:=ad;rw[ga,aN]
 subst aeQ;refine .inr ⟨.int .i64 n,w,?_,F,S,?_⟩
 .rw[run_callFunc_extern bF ml ab aS he,D5];rfl
 .refine⟨aQ.iI,aQ.jg,aQ.gN,aQ.fN,aQ.hf,aQ.gE,aQ.eS,λt=>?_,aQ.old,aQ.size,aQ.os,aQ.tape,aQ.output,aQ.gS⟩;cases t with
  |zero=>exact(aO.dk rfl).2 ⟨rfl,by simp only[c8,je,h3];rw[show gp (.int .i64 n::[]) 0= .int .i64 n from rfl,aA];rfl⟩
  |succ t=>
   show aO w F _ _ (gp [I.int .i64 n] (t+1)) _ _;rw[show gp [I.int .i64 n] (t+1)= .hole from rfl,aO];trivial
section
variable {C:cj} {l:axh} {os:List cm} {K:Option (List fJ)->ak->Prop} {dst:Option Nat}
def vb (s:ak):List dm->Prop
 |[]=>True
 |p::ps=>p.ok s/\vb s ps
theorem MY {s:ak}:∀{ps:List dm},vb s ps->∀p∈ps,p.ok s
 |p::ps,h,q,cx=>by
  rcases mem_cons.1 cx with rfl|cx
  .exact h.1
  .exact MY h.2 q cx
def w9:List dm->Bool
 |[]=>true
 |p::ps=>p.o.cZ&&w9 ps
theorem MZ:∀{ps:List dm},w9 ps=true->∀p∈ps,p.o.cZ=true
 |p::ps,h,q,cx=>by
  simp only[w9,Bool.and_eq_true]at h;rcases mem_cons.1 cx with rfl|cx
  .exact h.1
  .exact MZ h.2 q cx
theorem Vi {f:bC} {args:List bC} {g:FuncId} {caps:axi} {K:axd->I->ak->Prop} (ps:List dm) (r:I)
  (ad:bw (aq l) f= .fn g caps) (j_:I.hz caps=true) (ae:ps.map (·.a)=lW (aq l) args++caps) (aI:vb (aq l) ps) (bc:j9 ps=true)
  (bY:aV C g (ps.map (·.d)) r (ps.map (·.o))) (dt:r.res=true) (dv:mG ps=false\/(r.cZ&&w9 ps)=true) (kN:K (u9 ps) r (jO (gn (aq l) ps) ps)):qY C (aq l) (.call f args) K:=by
 refine⟨g,caps,ps,r,ad,j_,by rw[ae,Ee],MY aI,bc,bY,dt,?_,kN⟩;intro aC;rcases dv with dv|dv
 .rw[dv]at aC;cases aC
 .rw[Bool.and_eq_true]at dv;exact⟨dv.1,MZ dv.2⟩
theorem ow {f:bC} {args:List bC} {g:FuncId} {caps:axi} {r:I} (ps:List dm) (bY:aV C g (ps.map (·.d)) r (ps.map (·.o)))
  (ad:bw (aq l) f= .fn g caps) (j_:I.hz caps=true) (ae:ps.map (·.a)=lW (aq l) args++caps) (aI:vb (aq l) ps) (bc:j9 ps=true)
  (dt:r.res=true) (dv:mG ps=false\/(r.cZ&&w9 ps)=true)
  (kN:dA C (fin (jO (gn (aq l) ps) ps) dst r) os none K):dA C (aq l) (⟨dst,.call f args,none⟩::os) none K:=by
 simp only[dA,o3,tF];exact Vi ps r ad j_ ae aI bc bY dt dv kN
theorem M0 {a:List fJ} {f:bC} {args:List bC} {g:FuncId} {caps:axi} {r:I} (ps:List dm) (bY:aV C g (ps.map (·.d)) r (ps.map (·.o)))
  (ad:bw (aq l) f= .fn g caps) (j_:I.hz caps=true) (ae:ps.map (·.a)=lW (aq l) args++caps) (aI:vb (aq l) ps) (bc:j9 ps=true)
  (dt:r.res=true) (dv:mG ps=false\/(r.cZ&&w9 ps)=true)
  (kN:dA C (fin (jO (gn (aq l) ps) ps) dst r) os (some (kz (aq l) (use (aq l) (.call f args)) dst (u9 ps) r::a)) K):dA C (aq l) (⟨dst,.call f args,none⟩::os) (some a) K:=by
 simp only[dA,o3,tF];exact Vi ps r ad j_ ae aI bc bY dt dv kN
theorem pA (s:ak):vb s []=True/\(∀p ps,vb s (p::ps)=(p.ok s/\vb s ps))/\(∀a d o,dm.ok s ⟨a,false,d,o⟩=(view s a=some d))/\
  (∀x q d o,dm.ok s ⟨.h x q,true,d,o⟩=(I.sub q (s x)=some d/\d.hB=true/\(o= .hole\/(o.hB=true/\wU d o=true)))):=by
 refine⟨rfl,λ_ _=>rfl,λ_ _ _=>?_,λ_ _ _ _=>?_⟩<;>simp[dm.ok]
theorem pB:(∀d,I.own (.aM d)=true)/\(∀n xs,I.own (.aj n xs)=true)/\(∀d,I.hB (.aM d)=true)/\(∀n xs,I.hB (.aj n xs)=true)/\(∀aD,I.hB (.agg aD)= !I.hz aD)/\
  (∀d e,wU (.aM d) (.aM e)=true)/\(∀n xs m cL,wU (.aj n xs) (.aj m cL)=true)/\(∀a b,wU (.agg a) (.agg b)=(I.eY a==I.eY b)):=⟨λ_=>rfl,λ_ _=>rfl,λ_=>rfl,λ_ _=>rfl,λ_=>rfl,λ_ _=>rfl,λ_ _ _ _=>rfl,λ_ _=>rfl⟩
theorem nY (s:ak):gn s []=s/\jO s []=s/\(∀p ps,gn s (p::ps)=gn (dm.take s p) ps)/\(∀p ps,jO s (p::ps)=jO (dm.kv s p) ps)/\
  (∀a d o,dm.take s ⟨a,false,d,o⟩=s)/\(∀a d o,dm.kv s ⟨a,false,d,o⟩=s)/\(∀x q d o,dm.take s ⟨.h x q,true,d,o⟩=et (iW x s) x (I.put q d.dN (s x)))/\
  (∀a d,dm.kv s ⟨a,true,d,.hole⟩=s)/\(∀x q d e,dm.kv s ⟨.h x q,true,d,.aM e⟩=et (om x s) x (I.put q (.aM e) (s x)))/\
  (∀x q d n xs,dm.kv s ⟨.h x q,true,d,.aj n xs⟩=et (om x s) x (I.put q (.aj n xs) (s x)))/\
  (∀x q d aD,dm.kv s ⟨.h x q,true,d,.agg aD⟩=et (om x s) x (I.put q (.agg aD) (s x))):=by
 refine⟨rfl,rfl,λ_ _=>rfl,λ_ _=>rfl,?_,?_,?_,?_,?_,?_,?_⟩<;>intros<;>simp[dm.take,dm.kv]
def w_ (s:ak) (fx rs:axd):Nat->axi->Bool->Prop
 |_,[],_=>True
 |k,o::r,b=>(o= .hole\/(o=s k/\o.hB=true/\fx.contains k=true/\rs.contains k=false))/\w_ s fx rs (k+1) r b
theorem kB {s:ak} {fx:axd} {fI:List ResultVar} {outs:axi} (h:w_ s fx (fI.map lx) 0 outs true):∀(i:Nat) (o:I),outs[i]? =some o->o= .hole\/(o=s i/\o.hB=true/\i∈fx/\i∉fI.map lx):=by
 have key:∀(outs:axi) (k:Nat),w_ s fx (fI.map lx) k outs true->∀(i:Nat) (o:I),outs[i]? =some o->o= .hole\/(o=s (k+i)/\o.hB=true/\k+i∈fx/\k+i∉fI.map lx):=by
  intro outs;induction outs with
  |nil=>intro k _ i o h;simp at h
  |cons a outs ih=>
   intro k h i o bH;cases i with
   |zero=>
    simp at bH;subst bH;rcases h.1 with h|⟨ad,ae,aI,bc⟩
    .exact .inl h
    .exact .inr ⟨ad,ae,by simpa using aI,by simpa using bc⟩
   |succ i=>
    have:=ih (k+1) h.2 i o (by simpa using bH);rw[show k+(i+1)=k+1+i by omega];exact this
 intro i o bH;have:=key outs 0 h i o bH;simpa using this
theorem dK {s:ak} {fx rs:axd} {k:Nat} {l:axi} (h:w_ s fx rs (k+1) l true):w_ s fx rs k (.hole::l) true:=⟨.inl rfl,h⟩
theorem nZ {s:ak} {fx rs:axd} {k:Nat} {o:I} {l:axi} (ad:o=s k) (ae:o.hB=true) (aI:fx.contains k=true) (bc:rs.contains k=false) (h:w_ s fx rs (k+1) l true):w_ s fx rs k (o::l) true:=⟨.inr ⟨ad,ae,aI,bc⟩,h⟩
theorem kC {s:ak} {fx rs:axd} {k:Nat}:w_ s fx rs k [] true:=trivial
theorem lY {Q:Exit->ak->Prop} {ros:List cm} {k:axd} {b:aB} (h:dA C (aq l) ros none (λ_ s=>eJ (bk C b Q) (aq (hk k s)))):bk C (.seq (.eu ros (some k)) b) Q (aq l):=yG (λ_ _ h=>h) h
theorem HW {K:ak->Prop} {s:ak} (cW:axh) (h:yC s cW) (au:K (aq cW)):eJ K s:=.inr ⟨cW,h,au⟩
def I.aeR:I->Bool
 | .tuple _=>true
 | .b4 _=>true
 |_=>false
theorem A0 {d e:I} (aZ:d.tree=true) (aS:d.aeR=false) (h:d.share=e):fH d e:=by
 subst h;exact .share d aZ (λvs e=>by subst e;cases aS) (λo e=>by subst e;cases aS)
theorem HX:(∀neg e r,w7 neg (.slice e) (some r)=some (r0 neg r))/\(∀neg,r0 neg none= .gw)/\r0 false (some false)= .bool false/\r0 true (some false)= .bool true/\r0 false (some true)= .bool true/\r0 true (some true)= .bool false/\(∀s,lS s .a8=some (some true)):=
 ⟨λ_ _ _=>rfl,λ_=>rfl,rfl,rfl,rfl,rfl,λ_=>rfl⟩
theorem Vj {α:Type} {xs:List α} (h:xs.isEmpty=true) (e:α->I) (s:ak):lS s (.slice (xs.map e))=some none:=by
 have:xs=[]:=isEmpty_iff.1 h;subst this;rfl
theorem Vk {α:Type} {xs:List α} (h:xs.isEmpty=false) (e:α->I) (s:ak):lS s (.slice (xs.map e))=some (some false):=by
 cases xs with
 |nil=>cases h
 |cons x xs=>rfl
def aeS:Option I->Option axe
 |some (.aj _ xs)=>some (if xs=[]then none else some false)
 |_=>none
theorem HY (s:ak) (x:Nat) (q:axd):lS s (.h x q)=aeS (I.sub q (s x)):=by
 simp only[lS];rfl
theorem aV.nil {C:cj} {f:FuncId} {args:axi} {r:I} {outs:axi} (i:Nat) (h:aV C f (args.set i (.slice [])) r outs) (ag:args[i]? =some .a8):aV C f args r outs:=by
 intro w F X S vs aC aQ;have k5:=aQ.ew i;have aa:gp args i= .a8:=by simp[gp,List.getD,ag]
 rw[aa]at k5;have aE:aO w F (gp args) (h3 vs) (.slice []) (h3 vs i) (λ_=>False):=by
  rw[aO.dk rfl]at k5⊢;refine⟨k5.1,?_⟩;have ae:=k5.2;simp only[aA]at ae⊢;exact .inl ⟨trivial,none,0,ae,zero_le _,λ_=>rfl⟩
 have ae:=aQ.Dl (t:=i) rfl aE;have aN:et (gp args) i (.slice [])=gp (args.set i (.slice [])):=by
  funext t;have eB:i<args.length:=(List.getElem?_eq_some_iff.1 ag).1;by_cases aZ:t=i
  .subst aZ;simp[et,gp,List.getD,eB]
  .have:i≠t:=λe=>aZ e.symm;simp[et,aZ,gp,List.getD,this]
 have aU:et (h3 vs) i (h3 vs i)=h3 vs:=by
  funext t;by_cases aZ:t=i
  .subst aZ;simp[et]
  .simp[et,aZ]
 rw[aN,aU]at ae;exact h w F X _ vs (by simpa using aC) ae
theorem n0 (a b:axi):I.shares (a++b)=I.shares a++I.shares b:=by simp only[I.wF,map_append]
def pC:Option (I×ak)->Option (I×ak)
 |some (av,s)=>if(av.tree&& !av.D_)=true then some (av.share,s)else none
 |none=>none
theorem n1 (s:ak):(∀n xs,pC (some (.aj n xs,s))=some (.slice (I.shares xs),s))/\(∀d,pC (some (.aM d,s))=some (.ref d.share,s))/\(∀ds,pC (some (.agg ds,s))=some (.agg (I.shares ds),s)):=
 ⟨λ_ _=>rfl,λ_=>rfl,λ_=>rfl⟩
theorem HZ {s:ak} {bS:eT} {K:axd->I->ak->Prop}:qY C s (.shr bS) K=(match pC (b7 C s bS)with
  |some (av,s1)=>K (lU s bS) av s1
  |none=>False):=by
 apply propext;cases he:b7 C s bS with
 |none=>
  simp only[pC];exact⟨λ⟨av,s1,ad,_⟩=>(by rw[he]at ad;cases ad),λh=>h.elim⟩
 |some p=>
  obtain⟨av,s1⟩:=p;simp only[pC];by_cases aZ:(av.tree&& !av.D_)=true
  .rw[if_pos aZ];simp only[Bool.and_eq_true,Bool.not_eq_true']at aZ;constructor
   .rintro⟨aeT,aeU,ad,ae,aI,bc⟩;rw[he]at ad;simp only[some.injEq,Prod.mk.injEq]at ad;obtain⟨rfl,rfl⟩:=ad;exact bc
   .intro h;exact⟨av,s1,he,aZ.1,λvs e=>by subst e;simp[I.D_]at aZ,h⟩
  .rw[if_neg aZ];constructor
   .rintro⟨aeT,aeU,ad,ae,aI,bc⟩;rw[he]at ad;simp only[some.injEq,Prod.mk.injEq]at ad;obtain⟨rfl,rfl⟩:=ad;refine aZ ?_;rw[ae];cases av<;>first|rfl|exact(aI _ rfl).elim
   .intro h;exact h.elim
theorem n2 (bS:eT):(dA C (aq l) (⟨dst,.shr bS,none⟩::os) none K=qd C dst os K (pC (b7 C (aq l) bS)))/\
  (∀a,dA C (aq l) (⟨dst,.shr bS,none⟩::os) (some a) K=qe C l (use (aq l) bS) (lU (aq l) bS) dst os a K (pC (b7 C (aq l) bS)))/\
  (∀t b,ly C l dst (.shr bS) t b os none K (.bool b)=qd C dst os K (pC (b7 C (aq l) bS)))/\
  (∀a t b,ly C l dst (.shr bS) t b os (some a) K (.bool b)=qe C l (t::use (aq l) bS) (lU (aq l) bS) dst os a K (pC (b7 C (aq l) bS))):=by
 refine⟨?_,λa=>?_,λt b=>?_,λa t b=>?_⟩
 .simp only[dA,o3,HZ];cases pC (b7 C (aq l) bS)with
  |none=>rfl
  |some p=>rfl
 .simp only[dA,o3,HZ];cases pC (b7 C (aq l) bS)with
  |none=>rfl
  |some p=>rfl
 .simp only[ly,if_true,HZ];cases pC (b7 C (aq l) bS)with
  |none=>rfl
  |some p=>rfl
 .simp only[ly,if_true,HZ];cases pC (b7 C (aq l) bS)with
  |none=>rfl
  |some p=>rfl
theorem H0 {α:Type} {u e:α->I} (h:∀x,fH (u x) (e x)):∀xs:List α,mh (xs.map u) (xs.map e)
 |[]=>.nil
 |x::xs=>.cons (h x) (H0 h xs)
def xa (C:cj) (s:ak) (y:Nat) (q:axd) (b:Int):p2->Option I->Option (I×ak)
 | .slice e,some (.aj sz xs)=>(match gC xs 0 b with
   |some t=>if(C.T e).ok=true then(match dw s (.h y q)with|some (_,s1)=>some (.aj sz t,s1)|none=>none)else none
   |none=>none)
 |_,_=>none
theorem Vl (C:cj) (s:ak) (T:TypeId) (y:Nat) (q:axd):(∀k b,ix C s T (.h y q) none (some (.int k b))=xa C s y q b (C.T T).k (I.sub q (s y)))/\
  (∀k b c_,ix C s T (.h y q) (some (.int c_ 0)) (some (.int k b))=xa C s y q b (C.T T).k (I.sub q (s y)))/\
  (∀e sz xs b t,gC xs 0 b=some t->xa C s y q b (.slice e) (some (.aj sz xs))=if(C.T e).ok=true then(match dw s (.h y q)with|some (_,s1)=>some (.aj sz t,s1)|none=>none)else none):=by
 have key:∀(fF:Option I) (k:IntKind) (b:Int),jr 0 fF=some 0->ix C s T (.h y q) fF (some (.int k b))=xa C s y q b (C.T T).k (I.sub q (s y)):=by
  intro fF k b bb;simp only[ix];generalize (C.T T).k=nR;cases nR<;>first|rfl|skip
  rename_i e;cases aa:I.sub q (s y)with
  |none=>simp only[aa];rfl
  |some d=>
   cases d with
   |aj sz xs=>
    have H2:jr xs.length (some (.int k b))=if 0<=b then some b.toNat else none:=rfl;simp only[aa,bb,H2,xa,gC];by_cases ab:0<=b
    .by_cases ar:b<=xs.length
     .have ad:b.toNat<=xs.length:=by omega
      simp only[ab,ar,ad,if_true,true_and,Int.le_refl,and_self,Int.toNat_zero,drop_zero];rfl
     .have ad:¬b.toNat<=xs.length:=by omega
      simp only[ab,ar,ad,if_true,if_false,and_false,false_and,Int.le_refl]
    .simp only[ab,if_false,false_and,and_false]
   |_=>simp only[aa];rfl
 refine⟨λk b=>key _ _ _ rfl,λk b c_=>key _ _ _ (by simp[jr]),λe sz xs b t h=>?_⟩;simp only[xa,h]
theorem Vm (C:cj) (l:axh) (dst:Option Nat) (os:List cm) (K:Option (List fJ)->ak->Prop):
  (∀x,dA C (aq l) (⟨dst,.pw x,none⟩::os) none K=qd C dst os K (some (bw (aq l) x,aq l)))/\
  (∀a x,dA C (aq l) (⟨dst,.pw x,none⟩::os) (some a) K=qe C l (use (aq l) (.pw x)) (lU (aq l) (.pw x)) dst os a K (some (bw (aq l) x,aq l))):=
 ⟨λ_=>(yJ rfl).trans (congrArg _ rfl),λ_ _=>(yK rfl).trans (congrArg _ rfl)⟩
theorem A1 (C:cj) (l:axh) (dst:Option Nat) (os:List cm) (K:Option (List fJ)->ak->Prop):
  (∀x,dA C (aq l) (⟨dst,.oZ x,none⟩::os) none K=qd C dst os K (AX (aq l) (bw (aq l) x)))/\
  (∀a x,dA C (aq l) (⟨dst,.oZ x,none⟩::os) (some a) K=qe C l (use (aq l) (.oZ x)) (lU (aq l) (.oZ x)) dst os a K (AX (aq l) (bw (aq l) x))):=by
 have e:∀x,b7 C (aq l) (.oZ x)=AX (aq l) (bw (aq l) x):=λx=>by
  simp only[b7];cases bw (aq l) x<;>rfl
 exact⟨λx=>(yJ rfl).trans (congrArg _ (e x)),λ_ x=>(yK rfl).trans (congrArg _ (e x))⟩
theorem Vn (C:cj) (l:axh) (dst:Option Nat) (os:List cm) (K:Option (List fJ)->ak->Prop):
  (dA C (aq l) (⟨dst,.r4,none⟩::os) none K=qd C dst os K (some (.b4 (.mp []),aq l)))/\
  (∀a,dA C (aq l) (⟨dst,.r4,none⟩::os) (some a) K=qe C l (use (aq l) .r4) (lU (aq l) .r4) dst os a K (some (.b4 (.mp []),aq l))):=
 ⟨yJ rfl,λ_=>yK rfl⟩
theorem H3 (C:cj) (l:axh) (T:TypeId) (x i:bC):b7 C (aq l) (.jt T x i)=k6 (aq l) (jt C (aq l) T (bw (aq l) x) (bw (aq l) i)):=by simp only[b7,MJ]
theorem Vo (C:cj) (l:axh) (T:TypeId) (x i v:bC):b7 C (aq l) (.kM T x i v)=dV (kM C (aq l) T (bw (aq l) x) (bw (aq l) i) (bw (aq l) v)):=by simp only[b7,Ut]
theorem M1 (C:cj) (l:axh) (dst:Option Nat) (os:List cm) (K:Option (List fJ)->ak->Prop):
  (∀T x i,dA C (aq l) (⟨dst,.jt T x i,none⟩::os) none K=qd C dst os K (k6 (aq l) (jt C (aq l) T (bw (aq l) x) (bw (aq l) i))))/\
  (∀a T x i,dA C (aq l) (⟨dst,.jt T x i,none⟩::os) (some a) K=qe C l (use (aq l) (.jt T x i)) (lU (aq l) (.jt T x i)) dst os a K (k6 (aq l) (jt C (aq l) T (bw (aq l) x) (bw (aq l) i))))/\
  (∀T x i t b,ly C l dst (.jt T x i) t b os none K (.bool b)=qd C dst os K (k6 (aq l) (jt C (aq l) T (bw (aq l) x) (bw (aq l) i))))/\
  (∀a T x i t b,ly C l dst (.jt T x i) t b os (some a) K (.bool b)=qe C l (t::use (aq l) (.jt T x i)) (lU (aq l) (.jt T x i)) dst os a K (k6 (aq l) (jt C (aq l) T (bw (aq l) x) (bw (aq l) i)))):=
 ⟨λ_ _ _=>(yJ rfl).trans (congrArg _ (H3 ..)),λ_ _ _ _=>(yK rfl).trans (congrArg _ (H3 ..)),λ_ _ _ _ _=>(MH rfl).trans (congrArg _ (H3 ..)),λ_ _ _ _ _ _=>(MI rfl).trans (congrArg _ (H3 ..))⟩
theorem M3 (C:cj) (l:axh) (dst:Option Nat) (os:List cm) (K:Option (List fJ)->ak->Prop):
  (∀T x i v,dA C (aq l) (⟨dst,.kM T x i v,none⟩::os) none K=qd C dst os K (dV (kM C (aq l) T (bw (aq l) x) (bw (aq l) i) (bw (aq l) v))))/\
  (∀a T x i v,dA C (aq l) (⟨dst,.kM T x i v,none⟩::os) (some a) K=qe C l (use (aq l) (.kM T x i v)) (lU (aq l) (.kM T x i v)) dst os a K (dV (kM C (aq l) T (bw (aq l) x) (bw (aq l) i) (bw (aq l) v)))):=
 ⟨λ_ _ _ _=>(yJ rfl).trans (congrArg _ (Vo ..)),λ_ _ _ _ _=>(yK rfl).trans (congrArg _ (Vo ..))⟩
def Vp (T:Bool) (k:axa):Option I->Option I
 |some (.b4 (.mp m))=>if T=true then some (.bool (jL k m))else none
 |_=>none
def Vq (T:Bool) (s:ak) (y:Nat) (q:axd) (k:axa) (b:Bool):Option I->Option ak
 |some (.b4 (.mp m))=>if T=true then some (et (iW y s) y (I.put q (.b4 (.mp (j1 k b m))) (s y)))else none
 |_=>none
theorem A2:(∀(C:cj) (s:ak) (T:TypeId) y q k,jt C s T (.h y q) (.str k)=Vp (qO C T) k (I.sub q (s y)))/\(∀k m,Vp true k (some (.b4 (.mp m)))=some (.bool (jL k m)))/\
  (∀(C:cj) (s:ak) (T:TypeId) y q k b,kM C s T (.h y q) (.str k) (.bool b)=Vq (qO C T) s y q k b (I.sub q (s y)))/\
  (∀s y q k b m,Vq true s y q k b (some (.b4 (.mp m)))=some (et (iW y s) y (I.put q (.b4 (.mp (j1 k b m))) (s y)))):=
 ⟨λ_ _ _ _ _ _=>rfl,λ_ _=>rfl,λ_ _ _ _ _ _ _=>rfl,λ_ _ _ _ _ _=>rfl⟩
theorem H4 (C:cj) (l:axh) (fb:Bool) (x y:bC):b7 C (aq l) (.ku fb x y)=k6 (aq l) (ku fb (bw (aq l) x) (bw (aq l) y)):=by simp only[b7,MJ]
theorem Vr (C:cj) (l:axh) (dst:Option Nat) (os:List cm) (K:Option (List fJ)->ak->Prop):
  (∀fb x y,dA C (aq l) (⟨dst,.ku fb x y,none⟩::os) none K=qd C dst os K (k6 (aq l) (ku fb (bw (aq l) x) (bw (aq l) y))))/\
  (∀a fb x y,dA C (aq l) (⟨dst,.ku fb x y,none⟩::os) (some a) K=qe C l (use (aq l) (.ku fb x y)) (lU (aq l) (.ku fb x y)) dst os a K (k6 (aq l) (ku fb (bw (aq l) x) (bw (aq l) y))))/\
  (∀fb x y t b,ly C l dst (.ku fb x y) t b os none K (.bool b)=qd C dst os K (k6 (aq l) (ku fb (bw (aq l) x) (bw (aq l) y))))/\
  (∀a fb x y t b,ly C l dst (.ku fb x y) t b os (some a) K (.bool b)=qe C l (t::use (aq l) (.ku fb x y)) (lU (aq l) (.ku fb x y)) dst os a K (k6 (aq l) (ku fb (bw (aq l) x) (bw (aq l) y)))):=
 ⟨λ_ x y=>(yJ rfl).trans (congrArg _ (H4 ..)),λ_ _ x y=>(yK rfl).trans (congrArg _ (H4 ..)),λ_ x y _ _=>(MH rfl).trans (congrArg _ (H4 ..)),λ_ _ x y _ _=>(MI rfl).trans (congrArg _ (H4 ..))⟩
theorem aeV (fb:Bool) (k:IntKind) (a b:Int):ku fb (.int k a) (.int k b)=some (.int k (kH fb a b)):=if_pos rfl
theorem aeW (fb:Bool) (a b:axa):ku fb (.str a) (.str b)=some (.str (hJ fb a b)):=rfl
end
end Go.ef
