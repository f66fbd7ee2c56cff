/- Part of a proof that a law returns true for every input. No condition. -/
import Derived.Test.YtndfcecbamffaaaGreatDoorFwH
import Derived.Laws.Externs
import Derived.Lib.Bytealg
namespace Go.cG
open List Option Go.IntKind Nat Or
section
variable {C:bz} {l:aci} {os:List bn} {K:Option (List eF)->ag->Prop} {dst:Option Nat}
def nS (s:ag):List bX->Prop
 |[]=>True
 |p::ps=>p.ok s/\nS s ps
theorem uA {s:ag}:∀{ps:List bX},nS s ps->∀p∈ps,p.ok s
 |p::ps,h,q,cb=>by
  rcases mem_cons.1 cb with rfl|cb
  .exact h.1
  .exact uA h.2 q cb
def sQ:List bX->Bool
 |[]=>true
 |p::ps=>p.o.b5&&sQ ps
theorem Dg:∀{ps:List bX},sQ ps=true->∀p∈ps,p.o.b5=true
 |p::ps,h,q,cb=>by
  simp only[sQ,Bool.and_eq_true]at h;rcases mem_cons.1 cb with rfl|cb
  .exact h.1
  .exact Dg h.2 q cb
theorem R0 {f:aR} {args:List aR} {g:FuncId} {caps:acj} {K:ace->j->ag->Prop} (ps:List bX) (r:j)
  (R:a7 (ah l) f= .fn g caps) (gd:j.dj caps=true) (U:ps.map (·.a)=h0 (ah l) args++caps) (aw:nS (ah l) ps) (aQ:fL ps=true)
  (bk:bb C g (ps.map (·.d)) r (ps.map (·.o))) (bS:r.res=true) (bL:gE ps=false\/(r.b5&&sQ ps)=true) (hK:K (qi ps) r (eV (dx (ah l) ps) ps)):mR C (ah l) (.call f args) K:=by
 refine⟨g,caps,ps,r,R,gd,by rw[U,re],uA aw,aQ,bk,bS,?_,hK⟩;intro hl;rcases bL with bL|bL
 .rw[bL]at hl;cases hl
 .rw[Bool.and_eq_true]at bL;exact⟨bL.1,Dg bL.2⟩
theorem R1 {f:aR} {args:List aR} {g:FuncId} {caps:acj} {K:ace->j->ag->Prop} {us:ace} (ps:List bX) (r:j) (ae:kK (ah l) (iq (ah l) us)=true)
  (R:a7 (ah l) f= .fn g caps) (gd:j.dj caps=true) (U:ps.map (·.a)=h0 (ah l) args++caps) (aw:nS (ah l) ps) (aQ:fL ps=true)
  (bk:bb C g (ps.map (·.d)) r (ps.map (·.o))) (bS:r.res=true) (bL:gE ps=false\/(r.b5&&sQ ps)=true)
  (hK:kK (eV (dx (ah l) ps) ps) (iq (ah l) us)=true/\K (us++qi ps) r (ml (eV (dx (ah l) ps) ps) (iq (ah l) us))):mR C (ah l) (.kG f args us) K:=by
 refine⟨ae,g,caps,ps,r,R,gd,by rw[U,re],uA aw,aQ,bk,bS,?_,hK⟩;intro hl;rcases bL with bL|bL
 .rw[bL]at hl;cases hl
 .rw[Bool.and_eq_true]at bL;exact⟨bL.1,Dg bL.2⟩
theorem R2 {f:aR} {args:List aR} {g:FuncId} {caps:acj} {r:j} {us:ace} (ps:List bX) (bk:bb C g (ps.map (·.d)) r (ps.map (·.o)))
  (R:a7 (ah l) f= .fn g caps) (gd:j.dj caps=true) (U:ps.map (·.a)=h0 (ah l) args++caps) (aw:nS (ah l) ps) (aQ:fL ps=true)
  (bS:r.res=true) (bL:gE ps=false\/(r.b5&&sQ ps)=true) (ae:kK (ah l) (iq (ah l) us)=true)
  (hK:kK (eV (dx (ah l) ps) ps) (iq (ah l) us)=true/\ch C (fin (ml (eV (dx (ah l) ps) ps) (iq (ah l) us)) dst r) os none K):ch C (ah l) (⟨dst,.kG f args us,none⟩::os) none K:=by
 simp only[ch,lK,pr];exact R1 ps r ae R gd U aw aQ bk bS bL hK
theorem J7 (s:ag):iq s []=[]/\(∀u us,iq s (u::us)=(u,s u)::iq s us)/\kK s []=true/\(∀p L,kK s (p::L)=(p.2.eL s&&kK s L))/\ml s []=s/\(∀p L,ml s (p::L)=ml (cw s p.1 p.2) L)/\
  (∀x,j.eL s (.h x [])=(s x).own)/\(∀x k,j.eL s (.I x k)= !(s x).plain)/\(∀f c,j.eL s (.fn f c)=j.nJ s c)/\j.nJ s []=true/\(∀d ds,j.nJ s (d::ds)=(d.eL s&&j.nJ s ds))/\
  (∀k n,j.eL s (.int k n)=true)/\(∀b,j.eL s (.bool b)=true)/\(∀x,j.eL s (.str x)=true)/\(∀x,j.eL s (.slice x)=true)/\(∀x,j.eL s (.ref x)=true)/\j.eL s .bc=true/\j.eL s .c6=true/\(∀ar,j.eL s (.agg ar)=j.dj ar):=
 ⟨rfl,λ_ _=>rfl,rfl,λ_ _=>rfl,rfl,λ_ _=>rfl,λ_=>rfl,λ_ _=>rfl,λ_ _=>rfl,rfl,λ_ _=>rfl,λ_ _=>rfl,λ_=>rfl,λ_=>rfl,λ_=>rfl,λ_=>rfl,rfl,rfl,λ_=>rfl⟩
theorem oC {f:aR} {args:List aR} {g:FuncId} {caps:acj} {r:j} (ps:List bX) (bk:bb C g (ps.map (·.d)) r (ps.map (·.o)))
  (R:a7 (ah l) f= .fn g caps) (gd:j.dj caps=true) (U:ps.map (·.a)=h0 (ah l) args++caps) (aw:nS (ah l) ps) (aQ:fL ps=true)
  (bS:r.res=true) (bL:gE ps=false\/(r.b5&&sQ ps)=true)
  (hK:ch C (fin (eV (dx (ah l) ps) ps) dst r) os none K):ch C (ah l) (⟨dst,.call f args,none⟩::os) none K:=by
 simp only[ch,lK,pr];exact R0 ps r R gd U aw aQ bk bS bL hK
theorem oD (s:ag):nS s []=True/\(∀p ps,nS s (p::ps)=(p.ok s/\nS s ps))/\(∀a d o,bX.ok s ⟨a,false,d,o⟩=(view s a=some d))/\
  (∀x q d o,bX.ok s ⟨.h x q,true,d,o⟩=(j.sub q (s x)=some d/\d.fh=true/\(o= .hole\/(o.fh=true/\pg d o=true)))):=by
 refine⟨rfl,λ_ _=>rfl,λ_ _ _=>?_,λ_ _ _ _=>?_⟩<;>simp[bX.ok]
theorem mo:(∀d,j.own (.aV d)=true)/\(∀n xs,j.own (.ao n xs)=true)/\(∀d,j.fh (.aV d)=true)/\(∀n xs,j.fh (.ao n xs)=true)/\(∀ar,j.fh (.agg ar)= !j.dj ar)/\
  (∀d e,pg (.aV d) (.aV e)=true)/\(∀n xs m b0,pg (.ao n xs) (.ao m b0)=true)/\(∀a b,pg (.agg a) (.agg b)=(j.di a==j.di b)):=⟨λ_=>rfl,λ_ _=>rfl,λ_=>rfl,λ_ _=>rfl,λ_=>rfl,λ_ _=>rfl,λ_ _ _ _=>rfl,λ_ _=>rfl⟩
theorem mq (s:ag):dx s []=s/\eV s []=s/\(∀p ps,dx s (p::ps)=dx (bX.take s p) ps)/\(∀p ps,eV s (p::ps)=eV (bX.ho s p) ps)/\
  (∀a d o,bX.take s ⟨a,false,d,o⟩=s)/\(∀a d o,bX.ho s ⟨a,false,d,o⟩=s)/\(∀x q d o,bX.take s ⟨.h x q,true,d,o⟩=cw (gO x s) x (j.put q d.cv (s x)))/\
  (∀a d,bX.ho s ⟨a,true,d,.hole⟩=s)/\(∀x q d e,bX.ho s ⟨.h x q,true,d,.aV e⟩=cw (jP x s) x (j.put q (.aV e) (s x)))/\
  (∀x q d n xs,bX.ho s ⟨.h x q,true,d,.ao n xs⟩=cw (jP x s) x (j.put q (.ao n xs) (s x)))/\
  (∀x q d ar,bX.ho s ⟨.h x q,true,d,.agg ar⟩=cw (jP x s) x (j.put q (.agg ar) (s x))):=by
 refine⟨rfl,rfl,λ_ _=>rfl,λ_ _=>rfl,?_,?_,?_,?_,?_,?_,?_⟩<;>intros<;>simp[bX.take,bX.ho]
def ri (s:ag) (fx rs:ace):Nat->acj->Bool->Prop
 |_,[],_=>True
 |k,o::r,b=>(o= .hole\/(o=s k/\o.fh=true/\fx.contains k=true/\rs.contains k=false))/\ri s fx rs (k+1) r b
theorem lN {s:ag} {fx:ace} {dw:List ResultVar} {outs:acj} (h:ri s fx (dw.map ir) 0 outs true):∀(i:Nat) (o:j),outs[i]? =some o->o= .hole\/(o=s i/\o.fh=true/\i∈fx/\i∉dw.map ir):=by
 have key:∀(outs:acj) (k:Nat),ri s fx (dw.map ir) k outs true->∀(i:Nat) (o:j),outs[i]? =some o->o= .hole\/(o=s (k+i)/\o.fh=true/\k+i∈fx/\k+i∉dw.map ir):=by
  intro outs;induction outs with
  |nil=>intro k _ i o h;simp at h
  |cons a outs ih=>
   intro k h i o a_;cases i with
   |zero=>
    simp at a_;subst a_;rcases h.1 with h|⟨R,U,aw,aQ⟩
    .exact .inl h
    .exact .inr ⟨R,U,by simpa using aw,by simpa using aQ⟩
   |succ i=>
    have:=ih (k+1) h.2 i o (by simpa using a_);rw[show k+(i+1)=k+1+i by omega];exact this
 intro i o a_;have:=key outs 0 h i o a_;simpa using this
theorem jV {s:ag} {fx rs:ace} {k:Nat} {l:acj} (h:ri s fx rs (k+1) l true):ri s fx rs k (.hole::l) true:=⟨.inl rfl,h⟩
theorem ke {s:ag} {fx rs:ace} {k:Nat} {o:j} {l:acj} (R:o=s k) (U:o.fh=true) (aw:fx.contains k=true) (aQ:rs.contains k=false) (h:ri s fx rs (k+1) l true):ri s fx rs k (o::l) true:=⟨.inr ⟨R,U,aw,aQ⟩,h⟩
theorem lO {s:ag} {fx rs:ace} {k:Nat}:ri s fx rs k [] true:=trivial
theorem J8 {Q:Exit->ag->Prop} {ros:List bn} {k:ace} {b:aI} (h:ch C (ah l) ros none (λ_ s=>c1 (bw C b Q) (ah (eM k s)))):bw C (.seq (.dJ ros (some k)) b) Q (ah l):=pt (λ_ _ h=>h) h
theorem J9 {K:ag->Prop} {s:ag} (bR:aci) (h:uo s bR) (ak:K (ah bR)):c1 K s:=.inr ⟨bR,h,ak⟩
def j.R3:j->Bool
 | .tuple _=>true
 | .b3 _=>true
 | .a8 _ _=>true
 | .cH _=>true
 |_=>false
theorem J_ {d e:j} (aK:d.tree=true) (aO:d.R3=false) (h:d.share=e):ew d e:=by
 subst h;exact .share d aK (λvs e=>by subst e;cases aO) (λo e=>by subst e;cases aO) (λ_ _ e=>by subst e;cases aO) (λ_ e=>by subst e;cases aO)
theorem bb.nil {C:bz} {f:FuncId} {args:acj} {r:j} {outs:acj} (i:Nat) (h:bb C f (args.set i (.slice [])) r outs) (ax:args[i]? =some .bc):bb C f args r outs:=by
 intro w F X S vs hl aD;have gZ:=aD.cz i;have J:eo args i= .bc:=by simp[eo,List.getD,ax]
 rw[J]at gZ;have aE:az w F (eo args) (fi vs) (.slice []) (fi vs i) (λ_=>False):=by
  rw[az.b8 rfl]at gZ⊢;refine⟨gZ.1,?_⟩;have U:=gZ.2;simp only[al]at U⊢;exact .inl ⟨trivial,none,0,U,zero_le _,λ_=>rfl⟩
 have U:=aD.qT (t:=i) rfl aE;have aH:cw (eo args) i (.slice [])=eo (args.set i (.slice [])):=by
  funext t;have cW:i<args.length:=(List.getElem?_eq_some_iff.1 ax).1;by_cases aK:t=i
  .subst aK;simp[cw,eo,List.getD,cW]
  .have:i≠t:=λe=>aK e.symm;simp[cw,aK,eo,List.getD,this]
 have aN:cw (fi vs) i (fi vs i)=fi vs:=by
  funext t;by_cases aK:t=i
  .subst aK;simp[cw]
  .simp[cw,aK]
 rw[aH,aN]at U;exact h w F X _ vs (by simpa using hl) U
theorem R4 (a b:acj):j.shares (a++b)=j.shares a++j.shares b:=by simp only[j.qR,map_append]
def mr:Option (j×ag)->Option (j×ag)
 |some (av,s)=>if(av.tree&& !av.wW)=true then some (av.share,s)else none
 |none=>none
theorem R5 (s:ag):(∀n xs,mr (some (.ao n xs,s))=some (.slice (j.shares xs),s))/\(∀d,mr (some (.aV d,s))=some (.ref d.share,s))/\(∀ds,mr (some (.agg ds,s))=some (.agg (j.shares ds),s)):=
 ⟨λ_ _=>rfl,λ_=>rfl,λ_=>rfl⟩
theorem zq {s:ag} {bq:de} {K:ace->j->ag->Prop}:mR C s (.shr bq) K=(match mr (bE C s bq)with
  |some (av,s1)=>K (jS s bq) av s1
  |none=>False):=by
 apply propext;cases he:bE C s bq with
 |none=>
  simp only[mr];exact⟨λ⟨av,s1,R,_⟩=>(by rw[he]at R;cases R),λh=>h.elim⟩
 |some p=>
  obtain⟨av,s1⟩:=p;simp only[mr];by_cases aK:(av.tree&& !av.wW)=true
  .rw[if_pos aK];simp only[Bool.and_eq_true,Bool.not_eq_true']at aK;constructor
   .rintro⟨R6,R7,R,U,aw,aQ⟩;rw[he]at R;simp only[some.injEq,Prod.mk.injEq]at R;obtain⟨rfl,rfl⟩:=R;exact aQ
   .intro h;exact⟨av,s1,he,aK.1,λvs e=>by subst e;simp[j.wW]at aK,h⟩
  .rw[if_neg aK];constructor
   .rintro⟨R6,R7,R,U,aw,aQ⟩;rw[he]at R;simp only[some.injEq,Prod.mk.injEq]at R;obtain⟨rfl,rfl⟩:=R;refine aK ?_;rw[U];cases av<;>first|rfl|exact(aw _ rfl).elim
   .intro h;exact h.elim
theorem Ka (s:ag) (d:j):iD s (some d)=some (d,s):=rfl
theorem R8 (bq:de):(ch C (ah l) (⟨dst,.shr bq,none⟩::os) none K=nP C dst os K (mr (bE C (ah l) bq)))/\
  (∀a,ch C (ah l) (⟨dst,.shr bq,none⟩::os) (some a) K=ox C l (use (ah l) bq) (jS (ah l) bq) dst os a K (mr (bE C (ah l) bq)))/\
  (∀t b,ja C l dst (.shr bq) t b os none K (.bool b)=nP C dst os K (mr (bE C (ah l) bq)))/\
  (∀a t b,ja C l dst (.shr bq) t b os (some a) K (.bool b)=ox C l (t::use (ah l) bq) (jS (ah l) bq) dst os a K (mr (bE C (ah l) bq))):=by
 refine⟨?_,λa=>?_,λt b=>?_,λa t b=>?_⟩
 .simp only[ch,lK,zq];cases mr (bE C (ah l) bq)with
  |none=>rfl
  |some p=>rfl
 .simp only[ch,lK,zq];cases mr (bE C (ah l) bq)with
  |none=>rfl
  |some p=>rfl
 .simp only[ja,if_true,zq];cases mr (bE C (ah l) bq)with
  |none=>rfl
  |some p=>rfl
 .simp only[ja,if_true,zq];cases mr (bE C (ah l) bq)with
  |none=>rfl
  |some p=>rfl
def uB (C:bz) (s:ag):mb->Option (j×ag)
 | .slice e=>if(C.T e).ok=true then some (.bc,s)else none
 |_=>none
def pA (C:bz) (s:ag) (y:Nat) (q:ace) (b:Int):mb->Option j->Option (j×ag)
 | .slice e,some (.ao sz xs)=>(match iS xs 0 b with
   |some t=>if(C.T e).ok=true then(match cr s (.h y q)with|some (_,s1)=>some (.ao sz t,s1)|none=>none)else none
   |none=>none)
 |_,_=>none
theorem uC (C:bz) (s:ag) (T:TypeId) (y:Nat) (q:ace):(∀k b,e9 C s T (.h y q) none (some (.int k b))=pA C s y q b (C.T T).k (j.sub q (s y)))/\
  (∀k b cO,e9 C s T (.h y q) (some (.int cO 0)) (some (.int k b))=pA C s y q b (C.T T).k (j.sub q (s y)))/\
  (∀e sz xs b t,iS xs 0 b=some t->pA C s y q b (.slice e) (some (.ao sz xs))=if(C.T e).ok=true then(match cr s (.h y q)with|some (_,s1)=>some (.ao sz t,s1)|none=>none)else none):=by
 have key:∀(dY:Option j) (k:IntKind) (b:Int),gW 0 dY=some 0->e9 C s T (.h y q) dY (some (.int k b))=pA C s y q b (C.T T).k (j.sub q (s y)):=by
  intro dY k b bg;simp only[e9];generalize (C.T T).k=iT;cases iT<;>first|rfl|skip
  rename_i e;cases J:j.sub q (s y)with
  |none=>simp only[J];rfl
  |some d=>
   cases d with
   |ao sz xs=>
    have R9:gW xs.length (some (.int k b))=if 0<=b then some b.toNat else none:=rfl;simp only[J,bg,R9,pA,iS];by_cases I:0<=b
    .by_cases aj:b<=xs.length
     .have R:b.toNat<=xs.length:=by omega
      simp only[I,aj,R,if_true,true_and,Int.le_refl,and_self,Int.toNat_zero,drop_zero];rfl
     .have R:¬b.toNat<=xs.length:=by omega
      simp only[I,aj,R,if_true,if_false,and_false,false_and,Int.le_refl]
    .simp only[I,if_false,false_and,and_false]
   |_=>simp only[J];rfl
 refine⟨λk b=>key _ _ _ rfl,λk b cO=>key _ _ _ (by simp[gW]),λe sz xs b t h=>?_⟩;simp only[pA,h]
def zr (s:ag) (y:Nat):j->Option (j×ag)
 | .agg ds=>if j.dj ds then none else some (.I y 0,s)
 | .a8 _ _=>some (.I y 0,s)
 |_=>none
theorem zs (C:bz) (s:ag) (T e:TypeId) (x:aR) (ak:(C.T T).k= .slice e) (ae:a7 s x= .bc):bE C s (.cap T x)=some (.int .i64 0,s):=by
 simp only[bE,ak,ae]
theorem zt (T:TypeId) (x:aR):(ch C (ah l) (⟨dst,.cap T x,none⟩::os) none K=nP C dst os K (bE C (ah l) (.cap T x)))/\
  (∀a,ch C (ah l) (⟨dst,.cap T x,none⟩::os) (some a) K=ox C l (use (ah l) (.cap T x)) (jS (ah l) (.cap T x)) dst os a K (bE C (ah l) (.cap T x))):=
 ⟨sI rfl,λ_=>ux rfl⟩
theorem R_ (C:bz) (l:aci) (dst:Option Nat) (os:List bn) (K:Option (List eF)->ag->Prop):
  (ch C (ah l) (⟨dst,.pd,none⟩::os) none K=nP C dst os K (some (.b3 (.mp []),ah l)))/\
  (∀a,ch C (ah l) (⟨dst,.pd,none⟩::os) (some a) K=ox C l (use (ah l) .pd) (jS (ah l) .pd) dst os a K (some (.b3 (.mp []),ah l))):=
 ⟨sI rfl,λ_=>ux rfl⟩
theorem zu (C:bz) (l:aci) (T:TypeId) (x i:aR):bE C (ah l) (.hk T x i)=iD (ah l) (hk C (ah l) T (a7 (ah l) x) (a7 (ah l) i)):=by simp only[bE,C2]
theorem Kb (C:bz) (l:aci) (T:TypeId) (x i v:aR):bE C (ah l) (.ik T x i v)=db (ik C (ah l) T (a7 (ah l) x) (a7 (ah l) i) (a7 (ah l) v)):=by simp only[bE,Ja]
theorem Sa (C:bz) (l:aci) (dst:Option Nat) (os:List bn) (K:Option (List eF)->ag->Prop):
  (∀T x i,ch C (ah l) (⟨dst,.hk T x i,none⟩::os) none K=nP C dst os K (iD (ah l) (hk C (ah l) T (a7 (ah l) x) (a7 (ah l) i))))/\
  (∀a T x i,ch C (ah l) (⟨dst,.hk T x i,none⟩::os) (some a) K=ox C l (use (ah l) (.hk T x i)) (jS (ah l) (.hk T x i)) dst os a K (iD (ah l) (hk C (ah l) T (a7 (ah l) x) (a7 (ah l) i))))/\
  (∀T x i t b,ja C l dst (.hk T x i) t b os none K (.bool b)=nP C dst os K (iD (ah l) (hk C (ah l) T (a7 (ah l) x) (a7 (ah l) i))))/\
  (∀a T x i t b,ja C l dst (.hk T x i) t b os (some a) K (.bool b)=ox C l (t::use (ah l) (.hk T x i)) (jS (ah l) (.hk T x i)) dst os a K (iD (ah l) (hk C (ah l) T (a7 (ah l) x) (a7 (ah l) i)))):=
 ⟨λ_ _ _=>(sI rfl).trans (congrArg _ (zu ..)),λ_ _ _ _=>(ux rfl).trans (congrArg _ (zu ..)),λ_ _ _ _ _=>(I8 rfl).trans (congrArg _ (zu ..)),λ_ _ _ _ _ _=>(I9 rfl).trans (congrArg _ (zu ..))⟩
theorem Sb (C:bz) (l:aci) (dst:Option Nat) (os:List bn) (K:Option (List eF)->ag->Prop):
  (∀T x i v,ch C (ah l) (⟨dst,.ik T x i v,none⟩::os) none K=nP C dst os K (db (ik C (ah l) T (a7 (ah l) x) (a7 (ah l) i) (a7 (ah l) v))))/\
  (∀a T x i v,ch C (ah l) (⟨dst,.ik T x i v,none⟩::os) (some a) K=ox C l (use (ah l) (.ik T x i v)) (jS (ah l) (.ik T x i v)) dst os a K (db (ik C (ah l) T (a7 (ah l) x) (a7 (ah l) i) (a7 (ah l) v)))):=
 ⟨λ_ _ _ _=>(sI rfl).trans (congrArg _ (Kb ..)),λ_ _ _ _ _=>(ux rfl).trans (congrArg _ (Kb ..))⟩
def Kc (T:Bool) (k:aca):Option j->Option j
 |some (.b3 (.mp m))=>if T=true then some (.bool (jq k m))else none
 |_=>none
def Kd (T:Bool) (s:ag) (y:Nat) (q:ace) (k:aca) (b:Bool):Option j->Option ag
 |some (.b3 (.mp m))=>if T=true then some (cw (gO y s) y (j.put q (.b3 (.mp (jr k b m))) (s y)))else none
 |_=>none
theorem Ke:(∀(C:bz) (s:ag) (T:TypeId) y q k,hk C s T (.h y q) (.str k)=Kc (q1 C T) k (j.sub q (s y)))/\(∀k m,Kc true k (some (.b3 (.mp m)))=some (.bool (jq k m)))/\
  (∀(C:bz) (s:ag) (T:TypeId) y q k b,ik C s T (.h y q) (.str k) (.bool b)=Kd (q1 C T) s y q k b (j.sub q (s y)))/\
  (∀s y q k b m,Kd true s y q k b (some (.b3 (.mp m)))=some (cw (gO y s) y (j.put q (.b3 (.mp (jr k b m))) (s y)))):=
 ⟨λ_ _ _ _ _ _=>rfl,λ_ _=>rfl,λ_ _ _ _ _ _ _=>rfl,λ_ _ _ _ _ _=>rfl⟩
theorem Kf (C:bz) (s:ag) (e:TypeId):uB C s (.slice e)=if(C.T e).ok=true then some (.bc,s)else none:=rfl
theorem uD {C:bz} {l:aci} {os:List bn} {K:Option (List eF)->ag->Prop} {dst:Option Nat} (T:TypeId) (x:aR):
  ch C (ah l) (⟨dst,.iA T x,none⟩::os) none K=nP C dst os K (iA (ah l) (a7 (ah l) x)):=sI rfl
theorem mU:(∀(t x k:Nat),kC t (.I x k)= .I x k)/\(∀(l:aci) (t x k:Nat),fin (ah l) (some t) (.I x k)=ah ((t,.I x k)::l))/\(∀x k:Nat,j.plain (.I x k)=true)/\
  (∀(s:ag) (x k:Nat),zk s (.I x k)=some (.I x k,s))/\(∀(t y k:Nat),cj t (.I y k)=if y=t then .hole else .I y k)/\(∀(t y k:Nat),bU t (.I y k)= .I y k)/\(∀x k:Nat,j.wd (.I x k)=1):=
 ⟨λ_ _ _=>rfl,λl t x k=>by simp only[fin,j.plain,if_true,po],λ_ _=>rfl,λ_ _ _=>rfl,λ_ _ _=>by simp only[cj],λ_ _ _=>by simp only[bU],λ_ _=>rfl⟩
theorem uE:(∀(s:ag) y,iA s (.h y [])=zr s y (s y))/\(∀(s:ag) y ar,zr s y (.agg ar)=if j.dj ar then none else some (.I y 0,s))/\(∀(s:ag) y f c,zr s y (.a8 f c)=some (.I y 0,s))/\
  (∀k i ds d,yI (d::ds) i k=if k=0 then some i else if d.wd<=k then yI ds (i+1) (k-d.wd)else none):=
 ⟨λs y=>by
  simp only[iA,zr,true_and];cases s y with
  |agg ds=>by_cases h:j.dj ds=true<;>simp[yL,h]
  |_=>rfl,λ_ _ _=>rfl,λ_ _ _ _=>rfl,λ_ _ _ _=>rfl⟩
theorem Kg (C:bz) (s:ag) (T:TypeId):e9 C s T .bc none none=uB C s (C.T T).k/\(∀k,e9 C s T .bc none (some (.int k 0))=uB C s (C.T T).k)/\(∀k,e9 C s T .bc (some (.int k 0)) none=uB C s (C.T T).k)/\
  (∀k cO,e9 C s T .bc (some (.int k 0)) (some (.int cO 0))=uB C s (C.T T).k)/\(∀e,uB C s (.slice e)=if(C.T e).ok=true then some (.bc,s)else none):=by
 refine⟨?_,λk=>?_,λk=>?_,λk cO=>?_,λ_=>rfl⟩<;>(simp only[e9];generalize (C.T T).k=iT;cases iT<;>rfl)
theorem Kh (T bV:TypeId) (x y:aR):(ch C (ah l) (⟨dst,.hI T bV x y,none⟩::os) none K=nP C dst os K (iD (ah l) (hI C T bV (a7 (ah l) x) (a7 (ah l) y))))/\
  (∀a,ch C (ah l) (⟨dst,.hI T bV x y,none⟩::os) (some a) K=ox C l (use (ah l) (.hI T bV x y)) (jS (ah l) (.hI T bV x y)) dst os a K (iD (ah l) (hI C T bV (a7 (ah l) x) (a7 (ah l) y)))):=by
 have e:bE C (ah l) (.hI T bV x y)=iD (ah l) (hI C T bV (a7 (ah l) x) (a7 (ah l) y)):=by simp only[bE,C2]
 exact⟨(sI rfl).trans (by rw[e]),λa=>(ux rfl).trans (by rw[e])⟩
theorem uF {α:Type} {l:List α} {i:Nat} {x:α} (h:l[i]? =some x) (u:α->j) (a:j):((l.map u).set i a)[i]? =some a:=by
 have:i<l.length:=(List.getElem?_eq_some_iff.1 h).1;rw[getElem?_set_self (by simpa using this)]
theorem uG {α:Type} (l:List α) (u:α->j) (i:Nat) (a b:j):((l.map u).set i a).set i b=(l.map u).set i b:=set_set ..
theorem Ki {α:Type} (xs:List α):iS xs 0 0=some []:=by unfold iS;rw[if_pos ⟨Int.le_refl _,by omega⟩];rfl
end
end Go.cG
