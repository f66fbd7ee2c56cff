/- Part of a proof that a law returns true for every input. No condition. -/
import Derived.Test.YtndfcecbamffaaaGreatFwH
import Derived.Laws.Externs
import Derived.Lib.Bytealg
namespace Go.cW
open List Option Go.IntKind Nat Or
section
variable {C:bI} {l:abM} {os:List bG} {K:Option (List ez)->ah->Prop} {dst:Option Nat}
def pb (s:ah):List b_->Prop
 |[]=>True
 |p::ps=>p.ok s/\pb s ps
theorem Di {s:ah}:∀{ps:List b_},pb s ps->∀p∈ps,p.ok s
 |p::ps,h,q,cp=>by
  rcases mem_cons.1 cp with rfl|cp
  .exact h.1
  .exact Di h.2 q cp
def pc:List b_->Bool
 |[]=>true
 |p::ps=>p.o.cL&&pc ps
theorem Dj:∀{ps:List b_},pc ps=true->∀p∈ps,p.o.cL=true
 |p::ps,h,q,cp=>by
  simp only[pc,Bool.and_eq_true]at h;rcases mem_cons.1 cp with rfl|cp
  .exact h.1
  .exact Dj h.2 q cp
theorem R5 {f:aZ} {args:List aZ} {g:FuncId} {caps:abN} {K:abI->j->ah->Prop} (ps:List b_) (r:j)
  (R:aX (an l) f= .fn g caps) (fG:j.dF caps=true) (U:ps.map (·.a)=ig (an l) args++caps) (aA:pb (an l) ps) (aU:gY ps=true)
  (bt:bx C g (ps.map (·.d)) r (ps.map (·.o))) (b5:r.res=true) (cd:iD ps=false\/(r.cL&&pc ps)=true) (hK:K (o6 ps) r (gd (dV (an l) ps) ps)):kg C (an l) (.call f args) K:=by
 refine⟨g,caps,ps,r,R,fG,by rw[U,w3],Di aA,aU,bt,b5,?_,hK⟩;intro hl;rcases cd with cd|cd
 .rw[cd]at hl;cases hl
 .rw[Bool.and_eq_true]at cd;exact⟨cd.1,Dj cd.2⟩
theorem Kk {f:aZ} {args:List aZ} {g:FuncId} {caps:abN} {K:abI->j->ah->Prop} {us:abI} (ps:List b_) (r:j) (ag:jq (an l) (hj (an l) us)=true)
  (R:aX (an l) f= .fn g caps) (fG:j.dF caps=true) (U:ps.map (·.a)=ig (an l) args++caps) (aA:pb (an l) ps) (aU:gY ps=true)
  (bt:bx C g (ps.map (·.d)) r (ps.map (·.o))) (b5:r.res=true) (cd:iD ps=false\/(r.cL&&pc ps)=true)
  (hK:jq (gd (dV (an l) ps) ps) (hj (an l) us)=true/\K (us++o6 ps) r (jc (gd (dV (an l) ps) ps) (hj (an l) us))):kg C (an l) (.iT f args us) K:=by
 refine⟨ag,g,caps,ps,r,R,fG,by rw[U,w3],Di aA,aU,bt,b5,?_,hK⟩;intro hl;rcases cd with cd|cd
 .rw[cd]at hl;cases hl
 .rw[Bool.and_eq_true]at cd;exact⟨cd.1,Dj cd.2⟩
theorem Kl {f:aZ} {args:List aZ} {g:FuncId} {caps:abN} {r:j} {us:abI} (ps:List b_) (bt:bx C g (ps.map (·.d)) r (ps.map (·.o)))
  (R:aX (an l) f= .fn g caps) (fG:j.dF caps=true) (U:ps.map (·.a)=ig (an l) args++caps) (aA:pb (an l) ps) (aU:gY ps=true)
  (b5:r.res=true) (cd:iD ps=false\/(r.cL&&pc ps)=true) (ag:jq (an l) (hj (an l) us)=true)
  (hK:jq (gd (dV (an l) ps) ps) (hj (an l) us)=true/\cm C (fin (jc (gd (dV (an l) ps) ps) (hj (an l) us)) dst r) os none K):cm C (an l) (⟨dst,.iT f args us,none⟩::os) none K:=by
 simp only[cm,jf,n5];exact Kk ps r ag R fG U aA aU bt b5 cd hK
theorem R6 {a:List ez} {f:aZ} {args:List aZ} {g:FuncId} {caps:abN} {r:j} {us:abI} (ps:List b_) (bt:bx C g (ps.map (·.d)) r (ps.map (·.o)))
  (R:aX (an l) f= .fn g caps) (fG:j.dF caps=true) (U:ps.map (·.a)=ig (an l) args++caps) (aA:pb (an l) ps) (aU:gY ps=true)
  (b5:r.res=true) (cd:iD ps=false\/(r.cL&&pc ps)=true) (ag:jq (an l) (hj (an l) us)=true)
  (hK:jq (gd (dV (an l) ps) ps) (hj (an l) us)=true/\cm C (fin (jc (gd (dV (an l) ps) ps) (hj (an l) us)) dst r) os (some (hC (an l) (use (an l) (.iT f args us)) dst (us++o6 ps) r::a)) K):cm C (an l) (⟨dst,.iT f args us,none⟩::os) (some a) K:=by
 simp only[cm,jf,n5];exact Kk ps r ag R fG U aA aU bt b5 cd hK
theorem uq (s:ah):hj s []=[]/\(∀u us,hj s (u::us)=(u,s u)::hj s us)/\jq s []=true/\(∀p L,jq s (p::L)=(p.2.eQ s&&jq s L))/\jc s []=s/\(∀p L,jc s (p::L)=jc (ck s p.1 p.2) L)/\
  (∀x,j.eQ s (.h x [])=(s x).own)/\(∀x k,j.eQ s (.J x k)= !(s x).plain)/\(∀f c,j.eQ s (.fn f c)=j.na s c)/\j.na s []=true/\(∀d ds,j.na s (d::ds)=(d.eQ s&&j.na s ds))/\
  (∀k n,j.eQ s (.int k n)=true)/\(∀b,j.eQ s (.bool b)=true)/\(∀x,j.eQ s (.str x)=true)/\(∀x,j.eQ s (.slice x)=true)/\(∀x,j.eQ s (.ref x)=true)/\j.eQ s .aJ=true/\j.eQ s .c8=true/\(∀ar,j.eQ s (.agg ar)=j.dF ar):=
 ⟨rfl,λ_ _=>rfl,rfl,λ_ _=>rfl,rfl,λ_ _=>rfl,λ_=>rfl,λ_ _=>rfl,λ_ _=>rfl,rfl,λ_ _=>rfl,λ_ _=>rfl,λ_=>rfl,λ_=>rfl,λ_=>rfl,λ_=>rfl,rfl,rfl,λ_=>rfl⟩
theorem k8 {f:aZ} {args:List aZ} {g:FuncId} {caps:abN} {r:j} (ps:List b_) (bt:bx C g (ps.map (·.d)) r (ps.map (·.o)))
  (R:aX (an l) f= .fn g caps) (fG:j.dF caps=true) (U:ps.map (·.a)=ig (an l) args++caps) (aA:pb (an l) ps) (aU:gY ps=true)
  (b5:r.res=true) (cd:iD ps=false\/(r.cL&&pc ps)=true)
  (hK:cm C (fin (gd (dV (an l) ps) ps) dst r) os none K):cm C (an l) (⟨dst,.call f args,none⟩::os) none K:=by
 simp only[cm,jf,n5];exact R5 ps r R fG U aA aU bt b5 cd hK
theorem p_ (s:ah):pb s []=True/\(∀p ps,pb s (p::ps)=(p.ok s/\pb s ps))/\(∀a d o,b_.ok s ⟨a,false,d,o⟩=(view s a=some d))/\
  (∀x q d o,b_.ok s ⟨.h x q,true,d,o⟩=(j.sub q (s x)=some d/\d.fv=true/\(o= .hole\/(o.fv=true/\qO d o=true)))):=by
 refine⟨rfl,λ_ _=>rfl,λ_ _ _=>?_,λ_ _ _ _=>?_⟩<;>simp[b_.ok]
theorem k9:(∀d,j.own (.aD d)=true)/\(∀n xs,j.own (.ad n xs)=true)/\(∀d,j.fv (.aD d)=true)/\(∀n xs,j.fv (.ad n xs)=true)/\(∀ar,j.fv (.agg ar)= !j.dF ar)/\
  (∀d e,qO (.aD d) (.aD e)=true)/\(∀n xs m bO,qO (.ad n xs) (.ad m bO)=true)/\(∀a b,qO (.agg a) (.agg b)=(j.c6 a==j.c6 b)):=⟨λ_=>rfl,λ_ _=>rfl,λ_=>rfl,λ_ _=>rfl,λ_=>rfl,λ_ _=>rfl,λ_ _ _ _=>rfl,λ_ _=>rfl⟩
theorem jZ (s:ah):dV s []=s/\gd s []=s/\(∀p ps,dV s (p::ps)=dV (b_.take s p) ps)/\(∀p ps,gd s (p::ps)=gd (b_.hy s p) ps)/\
  (∀a d o,b_.take s ⟨a,false,d,o⟩=s)/\(∀a d o,b_.hy s ⟨a,false,d,o⟩=s)/\(∀x q d o,b_.take s ⟨.h x q,true,d,o⟩=ck (e_ x s) x (j.put q d.cf (s x)))/\
  (∀a d,b_.hy s ⟨a,true,d,.hole⟩=s)/\(∀x q d e,b_.hy s ⟨.h x q,true,d,.aD e⟩=ck (kr x s) x (j.put q (.aD e) (s x)))/\
  (∀x q d n xs,b_.hy s ⟨.h x q,true,d,.ad n xs⟩=ck (kr x s) x (j.put q (.ad n xs) (s x)))/\
  (∀x q d ar,b_.hy s ⟨.h x q,true,d,.agg ar⟩=ck (kr x s) x (j.put q (.agg ar) (s x))):=by
 refine⟨rfl,rfl,λ_ _=>rfl,λ_ _=>rfl,?_,?_,?_,?_,?_,?_,?_⟩<;>intros<;>simp[b_.take,b_.hy]
def q3 (s:ah) (fx rs:abI):Nat->abN->Bool->Prop
 |_,[],_=>True
 |k,o::r,b=>(o= .hole\/(o=s k/\o.fv=true/\fx.contains k=true/\rs.contains k=false))/\q3 s fx rs (k+1) r b
theorem sw {s:ah} {fx:abI} {dM:List ResultVar} {outs:abN} (h:q3 s fx (dM.map h2) 0 outs true):∀(i:Nat) (o:j),outs[i]? =some o->o= .hole\/(o=s i/\o.fv=true/\i∈fx/\i∉dM.map h2):=by
 have key:∀(outs:abN) (k:Nat),q3 s fx (dM.map h2) k outs true->∀(i:Nat) (o:j),outs[i]? =some o->o= .hole\/(o=s (k+i)/\o.fv=true/\k+i∈fx/\k+i∉dM.map h2):=by
  intro outs;induction outs with
  |nil=>intro k _ i o h;simp at h
  |cons a outs ih=>
   intro k h i o br;cases i with
   |zero=>
    simp at br;subst br;rcases h.1 with h|⟨R,U,aA,aU⟩
    .exact .inl h
    .exact .inr ⟨R,U,by simpa using aA,by simpa using aU⟩
   |succ i=>
    have:=ih (k+1) h.2 i o (by simpa using br);rw[show k+(i+1)=k+1+i by omega];exact this
 intro i o br;have:=key outs 0 h i o br;simpa using this
theorem q4 {s:ah} {fx rs:abI} {k:Nat} {l:abN} (h:q3 s fx rs (k+1) l true):q3 s fx rs k (.hole::l) true:=⟨.inl rfl,h⟩
theorem sx {s:ah} {fx rs:abI} {k:Nat} {o:j} {l:abN} (R:o=s k) (U:o.fv=true) (aA:fx.contains k=true) (aU:rs.contains k=false) (h:q3 s fx rs (k+1) l true):q3 s fx rs k (o::l) true:=⟨.inr ⟨R,U,aA,aU⟩,h⟩
theorem sy {s:ah} {fx rs:abI} {k:Nat}:q3 s fx rs k [] true:=trivial
def Dk {α:Type} (f:α->j):Option α->j
 |none=>.aJ
 |some x=>f x
theorem R7 {α β:Type} {o:Option α} {a:Option β} {f:α->Option β} {r:β} (h:Option.elim o a f=some r):(o=none/\a=some r)\/∃y,o=some y/\f y=some r:=by
 cases o with
 |none=>exact .inl ⟨rfl,h⟩
 |some y=>exact .inr ⟨y,rfl,h⟩
theorem pd:(∀neg e r,qX neg (.slice e) (some r)=some (nO neg r))/\(∀neg,nO neg none= .eF)/\nO false (some false)= .bool false/\nO true (some false)= .bool true/\nO false (some true)= .bool true/\nO true (some true)= .bool false/\(∀s,iB s .aJ=some (some true)):=
 ⟨λ_ _ _=>rfl,λ_=>rfl,rfl,rfl,rfl,rfl,λ_=>rfl⟩
theorem Km {α:Type} {xs:List α} (h:xs.isEmpty=true) (e:α->j) (s:ah):iB s (.slice (xs.map e))=some none:=by
 have:xs=[]:=isEmpty_iff.1 h;subst this;rfl
theorem Kn {α:Type} {xs:List α} (h:xs.isEmpty=false) (e:α->j) (s:ah):iB s (.slice (xs.map e))=some (some false):=by
 cases xs with
 |nil=>cases h
 |cons x xs=>rfl
def Dl:Option j->Option abJ
 |some (.ad _ xs)=>some (if xs=[]then none else some false)
 |_=>none
theorem q5 (s:ah) (x:Nat) (q:abI):iB s (.h x q)=Dl (j.sub q (s x)):=by
 simp only[iB];rfl
theorem Ko {α:Type} {xs:List α} (h:xs.isEmpty=true) (e:α->j) (n:Nat):Dl (some (.ad n (xs.map e)))=some none:=by
 have:xs=[]:=isEmpty_iff.1 h;subst this;rfl
theorem Kp {α:Type} {xs:List α} (h:xs.isEmpty=false) (e:α->j) (n:Nat):Dl (some (.ad n (xs.map e)))=some (some false):=by
 cases xs with
 |nil=>cases h
 |cons x xs=>rfl
theorem bx.nil {C:bI} {f:FuncId} {args:abN} {r:j} {outs:abN} (i:Nat) (h:bx C f (args.set i (.slice [])) r outs) (aw:args[i]? =some .aJ):bx C f args r outs:=by
 intro w F X S vs hl aN;have hz:=aN.cK i;have I:fc args i= .aJ:=by simp[fc,List.getD,aw]
 rw[I]at hz;have ay:aB w F (fc args) (fU vs) (.slice []) (fU vs i) (λ_=>False):=by
  rw[aB.b4 rfl]at hz⊢;refine⟨hz.1,?_⟩;have U:=hz.2;simp only[ai]at U⊢;exact .inl ⟨trivial,none,0,U,zero_le _,λ_=>rfl⟩
 have U:=aN.tH (t:=i) rfl ay;have aK:ck (fc args) i (.slice [])=fc (args.set i (.slice [])):=by
  funext t;have cB:i<args.length:=(List.getElem?_eq_some_iff.1 aw).1;by_cases aL:t=i
  .subst aL;simp[ck,fc,List.getD,cB]
  .have:i≠t:=λe=>aL e.symm;simp[ck,aL,fc,List.getD,this]
 have aV:ck (fU vs) i (fU vs i)=fU vs:=by
  funext t;by_cases aL:t=i
  .subst aL;simp[ck]
  .simp[ck,aL]
 rw[aK,aV]at U;exact h w F X _ vs (by simpa using hl) U
theorem R8 (a b:abN):j.shares (a++b)=j.shares a++j.shares b:=by simp only[j.qB,map_append]
def lO:Option (j×ah)->Option (j×ah)
 |some (av,s)=>if(av.tree&& !av.wW)=true then some (av.share,s)else none
 |none=>none
theorem R9 (s:ah):(∀n xs,lO (some (.ad n xs,s))=some (.slice (j.shares xs),s))/\(∀d,lO (some (.aD d,s))=some (.ref d.share,s))/\(∀ds,lO (some (.agg ds,s))=some (.agg (j.shares ds),s)):=
 ⟨λ_ _=>rfl,λ_=>rfl,λ_=>rfl⟩
theorem zu {s:ah} {bp:c9} {K:abI->j->ah->Prop}:kg C s (.shr bp) K=(match lO (bE C s bp)with
  |some (av,s1)=>K (kc s bp) av s1
  |none=>False):=by
 apply propext;cases he:bE C s bp with
 |none=>
  simp only[lO];exact⟨λ⟨av,s1,R,_⟩=>(by rw[he]at R;cases R),λh=>h.elim⟩
 |some p=>
  obtain⟨av,s1⟩:=p;simp only[lO];by_cases aL:(av.tree&& !av.wW)=true
  .rw[if_pos aL];simp only[Bool.and_eq_true,Bool.not_eq_true']at aL;constructor
   .rintro⟨R_,Sa,R,U,aA,aU⟩;rw[he]at R;simp only[some.injEq,Prod.mk.injEq]at R;obtain⟨rfl,rfl⟩:=R;exact aU
   .intro h;exact⟨av,s1,he,aL.1,λvs e=>by subst e;simp[j.wW]at aL,h⟩
  .rw[if_neg aL];constructor
   .rintro⟨R_,Sa,R,U,aA,aU⟩;rw[he]at R;simp only[some.injEq,Prod.mk.injEq]at R;obtain⟨rfl,rfl⟩:=R;refine aL ?_;rw[U];cases av<;>first|rfl|exact(aA _ rfl).elim
   .intro h;exact h.elim
theorem Sb (s:ah) (d:j):jY s (some d)=some (d,s):=rfl
theorem Sc (bp:c9):(cm C (an l) (⟨dst,.shr bp,none⟩::os) none K=nh C dst os K (lO (bE C (an l) bp)))/\
  (∀a,cm C (an l) (⟨dst,.shr bp,none⟩::os) (some a) K=qV C l (use (an l) bp) (kc (an l) bp) dst os a K (lO (bE C (an l) bp)))/\
  (∀t b,jt C l dst (.shr bp) t b os none K (.bool b)=nh C dst os K (lO (bE C (an l) bp)))/\
  (∀a t b,jt C l dst (.shr bp) t b os (some a) K (.bool b)=qV C l (t::use (an l) bp) (kc (an l) bp) dst os a K (lO (bE C (an l) bp))):=by
 refine⟨?_,λa=>?_,λt b=>?_,λa t b=>?_⟩
 .simp only[cm,jf,zu];cases lO (bE C (an l) bp)with
  |none=>rfl
  |some p=>rfl
 .simp only[cm,jf,zu];cases lO (bE C (an l) bp)with
  |none=>rfl
  |some p=>rfl
 .simp only[jt,if_true,zu];cases lO (bE C (an l) bp)with
  |none=>rfl
  |some p=>rfl
 .simp only[jt,if_true,zu];cases lO (bE C (an l) bp)with
  |none=>rfl
  |some p=>rfl
def ur (C:bI) (s:ah):lF->Option (j×ah)
 | .slice e=>if(C.T e).ok=true then some (.aJ,s)else none
 |_=>none
def q6 (C:bI) (s:ah) (y:Nat) (q:abI) (b:Int):lF->Option j->Option (j×ah)
 | .slice e,some (.ad sz xs)=>(match jJ xs 0 b with
   |some t=>if(C.T e).ok=true then(match cg s (.h y q)with|some (_,s1)=>some (.ad sz t,s1)|none=>none)else none
   |none=>none)
 |_,_=>none
theorem Dm (C:bI) (s:ah) (T:TypeId) (y:Nat) (q:abI):(∀k b,fl C s T (.h y q) none (some (.int k b))=q6 C s y q b (C.T T).k (j.sub q (s y)))/\
  (∀k b cY,fl C s T (.h y q) (some (.int cY 0)) (some (.int k b))=q6 C s y q b (C.T T).k (j.sub q (s y)))/\
  (∀e sz xs b t,jJ xs 0 b=some t->q6 C s y q b (.slice e) (some (.ad sz xs))=if(C.T e).ok=true then(match cg s (.h y q)with|some (_,s1)=>some (.ad sz t,s1)|none=>none)else none):=by
 have key:∀(dU:Option j) (k:IntKind) (b:Int),gP 0 dU=some 0->fl C s T (.h y q) dU (some (.int k b))=q6 C s y q b (C.T T).k (j.sub q (s y)):=by
  intro dU k b bq;simp only[fl];generalize (C.T T).k=iQ;cases iQ<;>first|rfl|skip
  rename_i e;cases I:j.sub q (s y)with
  |none=>simp only[I];rfl
  |some d=>
   cases d with
   |ad sz xs=>
    have Sd:gP xs.length (some (.int k b))=if 0<=b then some b.toNat else none:=rfl;simp only[I,bq,Sd,q6,jJ];by_cases J:0<=b
    .by_cases aj:b<=xs.length
     .have R:b.toNat<=xs.length:=by omega
      simp only[J,aj,R,if_true,true_and,Int.le_refl,and_self,Int.toNat_zero,drop_zero];rfl
     .have R:¬b.toNat<=xs.length:=by omega
      simp only[J,aj,R,if_true,if_false,and_false,false_and,Int.le_refl]
    .simp only[J,if_false,false_and,and_false]
   |_=>simp only[I];rfl
 refine⟨λk b=>key _ _ _ rfl,λk b cY=>key _ _ _ (by simp[gP]),λe sz xs b t h=>?_⟩;simp only[q6,h]
def zv (s:ah) (y:Nat):j->Option (j×ah)
 | .agg ds=>if j.dF ds then none else some (.J y 0,s)
 | .eU _ _=>some (.J y 0,s)
 |_=>none
theorem Kq (C:bI) (s:ah) (T e:TypeId) (x:aZ) (ak:(C.T T).k= .slice e) (ag:aX s x= .aJ):bE C s (.cap T x)=some (.int .i64 0,s):=by
 simp only[bE,ak,ag]
theorem Kr (T:TypeId) (x:aZ):(cm C (an l) (⟨dst,.cap T x,none⟩::os) none K=nh C dst os K (bE C (an l) (.cap T x)))/\
  (∀a,cm C (an l) (⟨dst,.cap T x,none⟩::os) (some a) K=qV C l (use (an l) (.cap T x)) (kc (an l) (.cap T x)) dst os a K (bE C (an l) (.cap T x))):=
 ⟨w1 rfl,λ_=>zn rfl⟩
def zw (s:ah) (y:Nat):Option j->Option (j×ah)
 |some (.h z p)=>if z=y then uj s (.h z p)else none
 |_=>none
theorem ni (C:bI) (l:abM) (dst:Option Nat) (os:List bG) (K:Option (List ez)->ah->Prop):
  (∀x k,cm C (an l) (⟨dst,.ext x k,none⟩::os) none K=nh C dst os K (qM (an l) (aX (an l) x) k))/\
  (∀a x k,cm C (an l) (⟨dst,.ext x k,none⟩::os) (some a) K=qV C l (use (an l) (.ext x k)) (kc (an l) (.ext x k)) dst os a K (qM (an l) (aX (an l) x) k)):=
 ⟨λx k=>w1 rfl,λ_ x k=>zn rfl⟩
theorem nj:(∀s y q k,qM s (.h y q) k=zw s y (ex s (.h y q) k))/\(∀s y p,zw s y (some (.h y p))=uj s (.h y p)):=by
 refine⟨λs y q k=>?_,λs y p=>by simp[zw]⟩;unfold qM zw;cases ex s (.h y q) k with
 |none=>rfl
 |some d=>cases d<;>rfl
def zx (b:Bool) (u:Nat) (a:j):Option (j×ah)->Option (j×ah)
 |some (_,s1)=>if b=true then some (.hole,ck s1 u a)else none
 |none=>none
theorem Ks (C:bI) (l:abM) (dst:Option Nat) (os:List bG) (K:Option (List ez)->ah->Prop):
  ∀T x y u,cm C (an l) (⟨dst,.kt T x y u,none⟩::os) none K=nh C dst os K (zx (k3 (an l) (aX (an l) x) (an l u)) u (an l u) (dg (gp C (an l) T (aX (an l) x) (aX (an l) y)))):=by
 intro T x y u;cases I:gp C (an l) T (aX (an l) x) (aX (an l) y)with
 |none=>
  apply propext;constructor
  .intro h;simp only[cm,jf,kg,I]at h;obtain⟨_,s1,R,_⟩:=h;cases R
  .intro h;simp[dg,zx,nh]at h
 |some s1=>
  cases J:k3 (an l) (aX (an l) x) (an l u)
  .apply propext;constructor
   .intro h;simp only[cm,jf,kg]at h;have bq:=h.1;rw[J]at bq;cases bq
   .intro h;simp[dg,zx,nh]at h
  .apply propext;constructor
   .intro h;simp only[cm,jf,kg]at h;obtain⟨_,s2,R,U⟩:=h;rw[I]at R;have R:=some.inj R;subst R;exact U
   .intro h;simp only[cm,jf,kg];exact⟨J,s1,I,h⟩
theorem Kt:(∀s z q p,k3 s (.al z q) (.h z p)=se (jo p q) (j.sub p (s z)))/\(∀r,jo [] r=some r)/\(∀a p q,jo (a::p) (a::q)=jo p q)/\(∀k r n xs,se (some (k::r)) (some (.ad n xs))=true)/\
  (∀u a b s1,zx true u a (some (b,s1))=some (.hole,ck s1 u a)):=
 ⟨λs z q p=>by simp[k3],λ_=>rfl,λa p q=>by simp[jo],λ_ _ _ _=>rfl,λ_ _ _ _=>rfl⟩
theorem Se (C:bI) (s:ah) (e:TypeId):ur C s (.slice e)=if(C.T e).ok=true then some (.aJ,s)else none:=rfl
theorem nk {C:bI} {l:abM} {os:List bG} {K:Option (List ez)->ah->Prop} {dst:Option Nat} (T:TypeId) (x:aZ):
  cm C (an l) (⟨dst,.h0 T x,none⟩::os) none K=nh C dst os K (h0 (an l) (aX (an l) x)):=w1 rfl
theorem n7:(∀(t x k:Nat),mT t (.J x k)= .J x k)/\(∀(l:abM) (t x k:Nat),fin (an l) (some t) (.J x k)=an ((t,.J x k)::l))/\(∀x k:Nat,j.plain (.J x k)=true)/\
  (∀(s:ah) (x k:Nat),uj s (.J x k)=some (.J x k,s))/\(∀(t y k:Nat),ch t (.J y k)=if y=t then .hole else .J y k)/\(∀(t y k:Nat),bV t (.J y k)= .J y k)/\(∀x k:Nat,j.wd (.J x k)=1):=
 ⟨λ_ _ _=>rfl,λl t x k=>by simp only[fin,j.plain,if_true,wV],λ_ _=>rfl,λ_ _ _=>rfl,λ_ _ _=>by simp only[ch],λ_ _ _=>by simp only[bV],λ_ _=>rfl⟩
theorem n8:(∀(s:ah) y,h0 s (.h y [])=zv s y (s y))/\(∀(s:ah) y ar,zv s y (.agg ar)=if j.dF ar then none else some (.J y 0,s))/\(∀(s:ah) y f c,zv s y (.eU f c)=some (.J y 0,s))/\
  (∀k i ds d,yF (d::ds) i k=if k=0 then some i else if d.wd<=k then yF ds (i+1) (k-d.wd)else none):=
 ⟨λs y=>by
  simp only[h0,zv,true_and];cases s y with
  |agg ds=>by_cases h:j.dF ds=true<;>simp[yK,h]
  |_=>rfl,λ_ _ _=>rfl,λ_ _ _ _=>rfl,λ_ _ _ _=>rfl⟩
theorem Sf (C:bI) (s:ah) (T:TypeId):fl C s T .aJ none none=ur C s (C.T T).k/\(∀k,fl C s T .aJ none (some (.int k 0))=ur C s (C.T T).k)/\(∀k,fl C s T .aJ (some (.int k 0)) none=ur C s (C.T T).k)/\
  (∀k cY,fl C s T .aJ (some (.int k 0)) (some (.int cY 0))=ur C s (C.T T).k)/\(∀e,ur C s (.slice e)=if(C.T e).ok=true then some (.aJ,s)else none):=by
 refine⟨?_,λk=>?_,λk=>?_,λk cY=>?_,λ_=>rfl⟩<;>(simp only[fl];generalize (C.T T).k=iQ;cases iQ<;>rfl)
theorem Sg (T bM:TypeId) (x y:aZ):(cm C (an l) (⟨dst,.h_ T bM x y,none⟩::os) none K=nh C dst os K (jY (an l) (h_ C T bM (aX (an l) x) (aX (an l) y))))/\
  (∀a,cm C (an l) (⟨dst,.h_ T bM x y,none⟩::os) (some a) K=qV C l (use (an l) (.h_ T bM x y)) (kc (an l) (.h_ T bM x y)) dst os a K (jY (an l) (h_ C T bM (aX (an l) x) (aX (an l) y)))):=by
 have e:bE C (an l) (.h_ T bM x y)=jY (an l) (h_ C T bM (aX (an l) x) (aX (an l) y)):=by simp only[bE,Jt]
 exact⟨(w1 rfl).trans (by rw[e]),λa=>(zn rfl).trans (by rw[e])⟩
theorem sA {α:Type} {l:List α} {i:Nat} {x:α} (h:l[i]? =some x) (u:α->j) (a:j):((l.map u).set i a)[i]? =some a:=by
 have:i<l.length:=(List.getElem?_eq_some_iff.1 h).1;rw[getElem?_set_self (by simpa using this)]
theorem sB {α:Type} (l:List α) (u:α->j) (i:Nat) (a b:j):((l.map u).set i a).set i b=(l.map u).set i b:=set_set ..
theorem Sh {α:Type} (xs:List α):jJ xs 0 0=some []:=by unfold jJ;rw[if_pos ⟨Int.le_refl _,by omega⟩];rfl
end
end Go.cW
