/- Part of a proof that a law returns true for every input. No condition. -/
import Derived.Test.YtpdplcdnpaoceaaFwH
import Derived.Laws.Externs
import Derived.Lib.Bytealg
namespace Go.cV
open List Option Go.IntKind Nat Or
section
variable {C:bI} {l:Vq} {os:List bE} {K:Option (List eo)->af->Prop} {dst:Option Nat}
def mI (s:af):List bY->Prop
 |[]=>True
 |p::ps=>p.ok s/\mI s ps
theorem uh {s:af}:∀{ps:List bY},mI s ps->∀p∈ps,p.ok s
 |p::ps,h,q,b2=>by
  rcases mem_cons.1 b2 with rfl|b2
  .exact h.1
  .exact uh h.2 q b2
def qR:List bY->Bool
 |[]=>true
 |p::ps=>p.o.ch&&qR ps
theorem z6:∀{ps:List bY},qR ps=true->∀p∈ps,p.o.ch=true
 |p::ps,h,q,b2=>by
  simp only[qR,Bool.and_eq_true]at h;rcases mem_cons.1 b2 with rfl|b2
  .exact h.1
  .exact z6 h.2 q b2
theorem M4 {f:aT} {args:List aT} {g:FuncId} {caps:Vr} {K:Vm->j->af->Prop} (ps:List bY) (r:j)
  (U:a6 (ao l) f= .fn g caps) (fv:j.db caps=true) (aa:ps.map (·.a)=hB (ao l) args++caps) (ax:mI (ao l) ps) (aP:fD ps=true)
  (a9:bq C g (ps.map (·.d)) r (ps.map (·.o))) (bU:r.res=true) (bO:gG ps=false\/(r.ch&&qR ps)=true) (hK:K (oa ps) r (e0 (di (ao l) ps) ps)):k2 C (ao l) (.call f args) K:=by
 refine⟨g,caps,ps,r,U,fv,by rw[aa,qI],uh ax,aP,a9,bU,?_,hK⟩;intro hl;rcases bO with bO|bO
 .rw[bO]at hl;cases hl
 .rw[Bool.and_eq_true]at bO;exact⟨bO.1,z6 bO.2⟩
theorem M5 {f:aT} {args:List aT} {g:FuncId} {caps:Vr} {K:Vm->j->af->Prop} {us:Vm} (ps:List bY) (r:j) (ae:jq (ao l) (hy (ao l) us)=true)
  (U:a6 (ao l) f= .fn g caps) (fv:j.db caps=true) (aa:ps.map (·.a)=hB (ao l) args++caps) (ax:mI (ao l) ps) (aP:fD ps=true)
  (a9:bq C g (ps.map (·.d)) r (ps.map (·.o))) (bU:r.res=true) (bO:gG ps=false\/(r.ch&&qR ps)=true)
  (hK:jq (e0 (di (ao l) ps) ps) (hy (ao l) us)=true/\K (us++oa ps) r (kC (e0 (di (ao l) ps) ps) (hy (ao l) us))):k2 C (ao l) (.jm f args us) K:=by
 refine⟨ae,g,caps,ps,r,U,fv,by rw[aa,qI],uh ax,aP,a9,bU,?_,hK⟩;intro hl;rcases bO with bO|bO
 .rw[bO]at hl;cases hl
 .rw[Bool.and_eq_true]at bO;exact⟨bO.1,z6 bO.2⟩
theorem M6 {f:aT} {args:List aT} {g:FuncId} {caps:Vr} {r:j} {us:Vm} (ps:List bY) (a9:bq C g (ps.map (·.d)) r (ps.map (·.o)))
  (U:a6 (ao l) f= .fn g caps) (fv:j.db caps=true) (aa:ps.map (·.a)=hB (ao l) args++caps) (ax:mI (ao l) ps) (aP:fD ps=true)
  (bU:r.res=true) (bO:gG ps=false\/(r.ch&&qR ps)=true) (ae:jq (ao l) (hy (ao l) us)=true)
  (hK:jq (e0 (di (ao l) ps) ps) (hy (ao l) us)=true/\cl C (fin (kC (e0 (di (ao l) ps) ps) (hy (ao l) us)) dst r) os none K):cl C (ao l) (⟨dst,.jm f args us,none⟩::os) none K:=by
 simp only[cl,j_,ns];exact M5 ps r ae U fv aa ax aP a9 bU bO hK
theorem FL (s:af):hy s []=[]/\(∀u us,hy s (u::us)=(u,s u)::hy s us)/\jq s []=true/\(∀p L,jq s (p::L)=(p.2.en s&&jq s L))/\kC s []=s/\(∀p L,kC s (p::L)=kC (cA s p.1 p.2) L)/\
  (∀x,j.en s (.h x [])=(s x).own)/\(∀x k,j.en s (.J x k)= !(s x).plain)/\(∀f c,j.en s (.fn f c)=j.lT s c)/\j.lT s []=true/\(∀d ds,j.lT s (d::ds)=(d.en s&&j.lT s ds))/\
  (∀k n,j.en s (.int k n)=true)/\(∀b,j.en s (.bool b)=true)/\(∀x,j.en s (.str x)=true)/\(∀x,j.en s (.slice x)=true)/\(∀x,j.en s (.ref x)=true)/\j.en s .aK=true/\j.en s .cW=true/\(∀al,j.en s (.agg al)=j.db al):=
 ⟨rfl,λ_ _=>rfl,rfl,λ_ _=>rfl,rfl,λ_ _=>rfl,λ_=>rfl,λ_ _=>rfl,λ_ _=>rfl,rfl,λ_ _=>rfl,λ_ _=>rfl,λ_=>rfl,λ_=>rfl,λ_=>rfl,λ_=>rfl,rfl,rfl,λ_=>rfl⟩
theorem od {f:aT} {args:List aT} {g:FuncId} {caps:Vr} {r:j} (ps:List bY) (a9:bq C g (ps.map (·.d)) r (ps.map (·.o)))
  (U:a6 (ao l) f= .fn g caps) (fv:j.db caps=true) (aa:ps.map (·.a)=hB (ao l) args++caps) (ax:mI (ao l) ps) (aP:fD ps=true)
  (bU:r.res=true) (bO:gG ps=false\/(r.ch&&qR ps)=true)
  (hK:cl C (fin (e0 (di (ao l) ps) ps) dst r) os none K):cl C (ao l) (⟨dst,.call f args,none⟩::os) none K:=by
 simp only[cl,j_,ns];exact M4 ps r U fv aa ax aP a9 bU bO hK
theorem oe (s:af):mI s []=True/\(∀p ps,mI s (p::ps)=(p.ok s/\mI s ps))/\(∀a d o,bY.ok s ⟨a,false,d,o⟩=(view s a=some d))/\
  (∀x q d o,bY.ok s ⟨.h x q,true,d,o⟩=(j.sub q (s x)=some d/\d.eZ=true/\(o= .hole\/(o.eZ=true/\n5 d o=true)))):=by
 refine⟨rfl,λ_ _=>rfl,λ_ _ _=>?_,λ_ _ _ _=>?_⟩<;>simp[bY.ok]
theorem mJ:(∀d,j.own (.aS d)=true)/\(∀n xs,j.own (.aq n xs)=true)/\(∀d,j.eZ (.aS d)=true)/\(∀n xs,j.eZ (.aq n xs)=true)/\(∀al,j.eZ (.agg al)= !j.db al)/\
  (∀d e,n5 (.aS d) (.aS e)=true)/\(∀n xs m ys,n5 (.aq n xs) (.aq m ys)=true)/\(∀a b,n5 (.agg a) (.agg b)=(j.c0 a==j.c0 b)):=⟨λ_=>rfl,λ_ _=>rfl,λ_=>rfl,λ_ _=>rfl,λ_=>rfl,λ_ _=>rfl,λ_ _ _ _=>rfl,λ_ _=>rfl⟩
theorem lZ (s:af):di s []=s/\e0 s []=s/\(∀p ps,di s (p::ps)=di (bY.take s p) ps)/\(∀p ps,e0 s (p::ps)=e0 (bY.gT s p) ps)/\
  (∀a d o,bY.take s ⟨a,false,d,o⟩=s)/\(∀a d o,bY.gT s ⟨a,false,d,o⟩=s)/\(∀x q d o,bY.take s ⟨.h x q,true,d,o⟩=cA (gz x s) x (j.put q d.cj (s x)))/\
  (∀a d,bY.gT s ⟨a,true,d,.hole⟩=s)/\(∀x q d e,bY.gT s ⟨.h x q,true,d,.aS e⟩=cA (ji x s) x (j.put q (.aS e) (s x)))/\
  (∀x q d n xs,bY.gT s ⟨.h x q,true,d,.aq n xs⟩=cA (ji x s) x (j.put q (.aq n xs) (s x)))/\
  (∀x q d al,bY.gT s ⟨.h x q,true,d,.agg al⟩=cA (ji x s) x (j.put q (.agg al) (s x))):=by
 refine⟨rfl,rfl,λ_ _=>rfl,λ_ _=>rfl,?_,?_,?_,?_,?_,?_,?_⟩<;>intros<;>simp[bY.take,bY.gT]
def pn (s:af) (fx rs:Vm):Nat->Vr->Bool->Prop
 |_,[],_=>True
 |k,o::r,b=>(o= .hole\/(o=s k/\o.eZ=true/\fx.contains k=true/\rs.contains k=false))/\pn s fx rs (k+1) r b
theorem mK {s:af} {fx:Vm} {dA:List ResultVar} {outs:Vr} (h:pn s fx (dA.map hA) 0 outs true):∀(i:Nat) (o:j),outs[i]? =some o->o= .hole\/(o=s i/\o.eZ=true/\i∈fx/\i∉dA.map hA):=by
 have key:∀(outs:Vr) (k:Nat),pn s fx (dA.map hA) k outs true->∀(i:Nat) (o:j),outs[i]? =some o->o= .hole\/(o=s (k+i)/\o.eZ=true/\k+i∈fx/\k+i∉dA.map hA):=by
  intro outs;induction outs with
  |nil=>intro k _ i o h;simp at h
  |cons a outs ih=>
   intro k h i o bk;cases i with
   |zero=>
    simp at bk;subst bk;rcases h.1 with h|⟨U,aa,ax,aP⟩
    .exact .inl h
    .exact .inr ⟨U,aa,by simpa using ax,by simpa using aP⟩
   |succ i=>
    have:=ih (k+1) h.2 i o (by simpa using bk);rw[show k+(i+1)=k+1+i by omega];exact this
 intro i o bk;have:=key outs 0 h i o bk;simpa using this
theorem k9 {s:af} {fx rs:Vm} {k:Nat} {l:Vr} (h:pn s fx rs (k+1) l true):pn s fx rs k (.hole::l) true:=⟨.inl rfl,h⟩
theorem mL {s:af} {fx rs:Vm} {k:Nat} {o:j} {l:Vr} (U:o=s k) (aa:o.eZ=true) (ax:fx.contains k=true) (aP:rs.contains k=false) (h:pn s fx rs (k+1) l true):pn s fx rs k (o::l) true:=⟨.inr ⟨U,aa,ax,aP⟩,h⟩
theorem mM {s:af} {fx rs:Vm} {k:Nat}:pn s fx rs k [] true:=trivial
theorem M7 {Q:Exit->af->Prop} {ros:List bE} {k:Vm} {b:aM} (h:cl C (ao l) ros none (λ_ s=>dr (bh C b Q) (ao (e1 k s)))):bh C (.seq (.eT ros (some k)) b) Q (ao l):=qE (λ_ _ h=>h) h
theorem FM {Q:Exit->af->Prop} {ros:List bE} {dR:Vk} {k:Vm} {b:aM} (hlen:dR.length=ros.length) (h:cl C (ao l) ros (some []) (λacc s=>i9 (nt dR) 0 [] (acc.getD []).reverse=true/\dr (bh C b Q) (ao (e1 k s)))):
  bh C (.seq (.im ros dR (some k)) b) Q (ao l):=zR (K:=λs=>dr (bh C b Q) (ao (e1 k s))) hlen h
theorem z7 {K:af->Prop} {s:af} (b0:Vq) (h:qx s b0) (ak:K (ao b0)):dr K s:=.inr ⟨b0,h,ak⟩
def z8 {α:Type} (f:α->j):Option α->j
 |none=>.aK
 |some x=>f x
theorem M8 {α β:Type} {o:Option α} {a:Option β} {f:α->Option β} {r:β} (h:Option.elim o a f=some r):(o=none/\a=some r)\/∃y,o=some y/\f y=some r:=by
 cases o with
 |none=>exact .inl ⟨rfl,h⟩
 |some y=>exact .inr ⟨y,rfl,h⟩
theorem nv:(∀neg e r,pg neg (.slice e) (some r)=some (mo neg r))/\(∀neg,mo neg none= .dV)/\mo false (some false)= .bool false/\mo true (some false)= .bool true/\mo false (some true)= .bool true/\mo true (some true)= .bool false/\(∀s,h0 s .aK=some (some true)):=
 ⟨λ_ _ _=>rfl,λ_=>rfl,rfl,rfl,rfl,rfl,λ_=>rfl⟩
theorem FN {α:Type} {xs:List α} (h:xs.isEmpty=true) (e:α->j) (s:af):h0 s (.slice (xs.map e))=some none:=by
 have:xs=[]:=isEmpty_iff.1 h;subst this;rfl
theorem FO {α:Type} {xs:List α} (h:xs.isEmpty=false) (e:α->j) (s:af):h0 s (.slice (xs.map e))=some (some false):=by
 cases xs with
 |nil=>cases h
 |cons x xs=>rfl
def z9:Option j->Option Vn
 |some (.aq _ xs)=>some (if xs=[]then none else some false)
 |_=>none
theorem po (s:af) (x:Nat) (q:Vm):h0 s (.h x q)=z9 (j.sub q (s x)):=by
 simp only[h0];rfl
theorem FP {α:Type} {xs:List α} (h:xs.isEmpty=true) (e:α->j) (n:Nat):z9 (some (.aq n (xs.map e)))=some none:=by
 have:xs=[]:=isEmpty_iff.1 h;subst this;rfl
theorem FQ {α:Type} {xs:List α} (h:xs.isEmpty=false) (e:α->j) (n:Nat):z9 (some (.aq n (xs.map e)))=some (some false):=by
 cases xs with
 |nil=>cases h
 |cons x xs=>rfl
theorem bq.nil {C:bI} {f:FuncId} {args:Vr} {r:j} {outs:Vr} (i:Nat) (h:bq C f (args.set i (.slice [])) r outs) (ay:args[i]? =some .aK):bq C f args r outs:=by
 intro w F X S vs hl aG;have g9:=aG.cG i;have R:dI args i= .aK:=by simp[dI,List.getD,ay]
 rw[R]at g9;have aE:az w F (dI args) (e8 vs) (.slice []) (e8 vs i) (λ_=>False):=by
  rw[az.b7 rfl]at g9⊢;refine⟨g9.1,?_⟩;have aa:=g9.2;simp only[aj]at aa⊢;exact .inl ⟨trivial,none,0,aa,zero_le _,λ_=>rfl⟩
 have aa:=aG.s8 (t:=i) rfl aE;have aI:cA (dI args) i (.slice [])=dI (args.set i (.slice [])):=by
  funext t;have da:i<args.length:=(List.getElem?_eq_some_iff.1 ay).1;by_cases aO:t=i
  .subst aO;simp[cA,dI,List.getD,da]
  .have:i≠t:=λe=>aO e.symm;simp[cA,aO,dI,List.getD,this]
 have aR:cA (e8 vs) i (e8 vs i)=e8 vs:=by
  funext t;by_cases aO:t=i
  .subst aO;simp[cA]
  .simp[cA,aO]
 rw[aI,aR]at aa;exact h w F X _ vs (by simpa using hl) aa
theorem M9 (a b:Vr):j.shares (a++b)=j.shares a++j.shares b:=by simp only[j.oS,map_append]
def kH:Option (j×af)->Option (j×af)
 |some (av,s)=>if(av.tree&& !av.tY)=true then some (av.share,s)else none
 |none=>none
theorem M_ (s:af):(∀n xs,kH (some (.aq n xs,s))=some (.slice (j.shares xs),s))/\(∀d,kH (some (.aS d,s))=some (.ref d.share,s))/\(∀ds,kH (some (.agg ds,s))=some (.agg (j.shares ds),s)):=
 ⟨λ_ _=>rfl,λ_=>rfl,λ_=>rfl⟩
theorem wE {s:af} {bb:cZ} {K:Vm->j->af->Prop}:k2 C s (.shr bb) K=(match kH (bs C s bb)with
  |some (av,s1)=>K (j8 s bb) av s1
  |none=>False):=by
 apply propext;cases he:bs C s bb with
 |none=>
  simp only[kH];exact⟨λ⟨av,s1,U,_⟩=>(by rw[he]at U;cases U),λh=>h.elim⟩
 |some p=>
  obtain⟨av,s1⟩:=p;simp only[kH];by_cases aO:(av.tree&& !av.tY)=true
  .rw[if_pos aO];simp only[Bool.and_eq_true,Bool.not_eq_true']at aO;constructor
   .rintro⟨Na,Nb,U,aa,ax,aP⟩;rw[he]at U;simp only[some.injEq,Prod.mk.injEq]at U;obtain⟨rfl,rfl⟩:=U;exact aP
   .intro h;exact⟨av,s1,he,aO.1,λvs e=>by subst e;simp[j.tY]at aO,h⟩
  .rw[if_neg aO];constructor
   .rintro⟨Na,Nb,U,aa,ax,aP⟩;rw[he]at U;simp only[some.injEq,Prod.mk.injEq]at U;obtain⟨rfl,rfl⟩:=U;refine aO ?_;rw[aa];cases av<;>first|rfl|exact(ax _ rfl).elim
   .intro h;exact h.elim
theorem Nc (s:af) (d:j):i_ s (some d)=some (d,s):=rfl
theorem Nd (bb:cZ):(cl C (ao l) (⟨dst,.shr bb,none⟩::os) none K=pe C dst os K (kH (bs C (ao l) bb)))/\
  (∀a,cl C (ao l) (⟨dst,.shr bb,none⟩::os) (some a) K=qH C l (use (ao l) bb) (j8 (ao l) bb) dst os a K (kH (bs C (ao l) bb)))/\
  (∀t b,iV C l dst (.shr bb) t b os none K (.bool b)=pe C dst os K (kH (bs C (ao l) bb)))/\
  (∀a t b,iV C l dst (.shr bb) t b os (some a) K (.bool b)=qH C l (t::use (ao l) bb) (j8 (ao l) bb) dst os a K (kH (bs C (ao l) bb))):=by
 refine⟨?_,λa=>?_,λt b=>?_,λa t b=>?_⟩
 .simp only[cl,j_,wE];cases kH (bs C (ao l) bb)with
  |none=>rfl
  |some p=>rfl
 .simp only[cl,j_,wE];cases kH (bs C (ao l) bb)with
  |none=>rfl
  |some p=>rfl
 .simp only[iV,if_true,wE];cases kH (bs C (ao l) bb)with
  |none=>rfl
  |some p=>rfl
 .simp only[iV,if_true,wE];cases kH (bs C (ao l) bb)with
  |none=>rfl
  |some p=>rfl
theorem FR {α:Type} {e:α->j} {ys:List α} {ds:Vr} (h:hz ds (ys.map e)):∀xs:List α,hz (xs.map e++ds) ((xs++ys).map e)
 |[]=>h
 |_::xs=>.cons (.refl _) (FR h xs)
def r8 (C:bI) (s:af):kr->Option (j×af)
 | .slice e=>if(C.T e).ok=true then some (.aK,s)else none
 |_=>none
def pq (C:bI) (s:af) (y:Nat) (q:Vm) (b:Int):kr->Option j->Option (j×af)
 | .slice e,some (.aq sz xs)=>(match i0 xs 0 b with
   |some t=>if(C.T e).ok=true then(match cc s (.h y q)with|some (_,s1)=>some (.aq sz t,s1)|none=>none)else none
   |none=>none)
 |_,_=>none
theorem z_ (C:bI) (s:af) (T:TypeId) (y:Nat) (q:Vm):(∀k b,eY C s T (.h y q) none (some (.int k b))=pq C s y q b (C.T T).k (j.sub q (s y)))/\
  (∀k b cN,eY C s T (.h y q) (some (.int cN 0)) (some (.int k b))=pq C s y q b (C.T T).k (j.sub q (s y)))/\
  (∀e sz xs b t,i0 xs 0 b=some t->pq C s y q b (.slice e) (some (.aq sz xs))=if(C.T e).ok=true then(match cc s (.h y q)with|some (_,s1)=>some (.aq sz t,s1)|none=>none)else none):=by
 have key:∀(dE:Option j) (k:IntKind) (b:Int),gx 0 dE=some 0->eY C s T (.h y q) dE (some (.int k b))=pq C s y q b (C.T T).k (j.sub q (s y)):=by
  intro dE k b bt;simp only[eY];generalize (C.T T).k=ib;cases ib<;>first|rfl|skip
  rename_i e;cases R:j.sub q (s y)with
  |none=>simp only[R];rfl
  |some d=>
   cases d with
   |aq sz xs=>
    have Nf:gx xs.length (some (.int k b))=if 0<=b then some b.toNat else none:=rfl;simp only[R,bt,Nf,pq,i0];by_cases J:0<=b
    .by_cases ai:b<=xs.length
     .have U:b.toNat<=xs.length:=by omega
      simp only[J,ai,U,if_true,true_and,Int.le_refl,and_self,Int.toNat_zero,drop_zero];rfl
     .have U:¬b.toNat<=xs.length:=by omega
      simp only[J,ai,U,if_true,if_false,and_false,false_and,Int.le_refl]
    .simp only[J,if_false,false_and,and_false]
   |_=>simp only[R];rfl
 refine⟨λk b=>key _ _ _ rfl,λk b cN=>key _ _ _ (by simp[gx]),λe sz xs b t h=>?_⟩;simp only[pq,h]
def Aa (s:af) (y:Nat):j->Option (j×af)
 | .agg ds=>if j.db ds then none else some (.J y 0,s)
 |_=>none
theorem FT (C:bI) (s:af) (T e:TypeId) (x:aT) (ak:(C.T T).k= .slice e) (ae:a6 s x= .aK):bs C s (.cap T x)=some (.int .i64 0,s):=by
 simp only[bs,ak,ae]
theorem FU (T:TypeId) (x:aT):(cl C (ao l) (⟨dst,.cap T x,none⟩::os) none K=pe C dst os K (bs C (ao l) (.cap T x)))/\
  (∀a,cl C (ao l) (⟨dst,.cap T x,none⟩::os) (some a) K=qH C l (use (ao l) (.cap T x)) (j8 (ao l) (.cap T x)) dst os a K (bs C (ao l) (.cap T x))):=
 ⟨wy rfl,λ_=>zS rfl⟩
theorem Ng (C:bI) (s:af) (e:TypeId):r8 C s (.slice e)=if(C.T e).ok=true then some (.aK,s)else none:=rfl
theorem l0 {C:bI} {l:Vq} {os:List bE} {K:Option (List eo)->af->Prop} {dst:Option Nat} (T:TypeId) (x:aT):
  cl C (ao l) (⟨dst,.hs T x,none⟩::os) none K=pe C dst os K (hs (ao l) (a6 (ao l) x)):=wy rfl
theorem mN:(∀(t x k:Nat),mh t (.J x k)= .J x k)/\(∀(l:Vq) (t x k:Nat),fin (ao l) (some t) (.J x k)=ao ((t,.J x k)::l))/\(∀x k:Nat,j.plain (.J x k)=true)/\
  (∀(s:af) (x k:Nat),wz s (.J x k)=some (.J x k,s))/\(∀(t y k:Nat),b9 t (.J y k)=if y=t then .hole else .J y k)/\(∀(t y k:Nat),bQ t (.J y k)= .J y k)/\(∀x k:Nat,j.wd (.J x k)=1):=
 ⟨λ_ _ _=>rfl,λl t x k=>by simp only[fin,j.plain,if_true,r2],λ_ _=>rfl,λ_ _ _=>rfl,λ_ _ _=>by simp only[b9],λ_ _ _=>by simp only[bQ],λ_ _=>rfl⟩
theorem mO:(∀(s:af) y,hs s (.h y [])=Aa s y (s y))/\(∀(s:af) y al,Aa s y (.agg al)=if j.db al then none else some (.J y 0,s))/\
  (∀k i ds d,vE (d::ds) i k=if k=0 then some i else if d.wd<=k then vE ds (i+1) (k-d.wd)else none):=
 ⟨λs y=>by simp only[hs,Aa];cases s y<;>rfl,λ_ _ _=>rfl,λ_ _ _ _=>rfl⟩
theorem Nh (C:bI) (s:af) (T:TypeId):eY C s T .aK none none=r8 C s (C.T T).k/\(∀k,eY C s T .aK none (some (.int k 0))=r8 C s (C.T T).k)/\(∀k,eY C s T .aK (some (.int k 0)) none=r8 C s (C.T T).k)/\
  (∀k cN,eY C s T .aK (some (.int k 0)) (some (.int cN 0))=r8 C s (C.T T).k)/\(∀e,r8 C s (.slice e)=if(C.T e).ok=true then some (.aK,s)else none):=by
 refine⟨?_,λk=>?_,λk=>?_,λk cN=>?_,λ_=>rfl⟩<;>(simp only[eY];generalize (C.T T).k=ib;cases ib<;>rfl)
theorem Ni (T bR:TypeId) (x y:aT):(cl C (ao l) (⟨dst,.hL T bR x y,none⟩::os) none K=pe C dst os K (i_ (ao l) (hL C T bR (a6 (ao l) x) (a6 (ao l) y))))/\
  (∀a,cl C (ao l) (⟨dst,.hL T bR x y,none⟩::os) (some a) K=qH C l (use (ao l) (.hL T bR x y)) (j8 (ao l) (.hL T bR x y)) dst os a K (i_ (ao l) (hL C T bR (a6 (ao l) x) (a6 (ao l) y)))):=by
 have e:bs C (ao l) (.hL T bR x y)=i_ (ao l) (hL C T bR (a6 (ao l) x) (a6 (ao l) y)):=by simp only[bs,EP]
 exact⟨(wy rfl).trans (by rw[e]),λa=>(zS rfl).trans (by rw[e])⟩
theorem ui {α:Type} {l:List α} {i:Nat} {x:α} (h:l[i]? =some x) (u:α->j) (a:j):((l.map u).set i a)[i]? =some a:=by
 have:i<l.length:=(List.getElem?_eq_some_iff.1 h).1;rw[getElem?_set_self (by simpa using this)]
theorem uj {α:Type} (l:List α) (u:α->j) (i:Nat) (a b:j):((l.map u).set i a).set i b=(l.map u).set i b:=set_set ..
theorem Nj {α:Type} (xs:List α):i0 xs 0 0=some []:=by unfold i0;rw[if_pos ⟨Int.le_refl _,by omega⟩];rfl
end
end Go.cV
