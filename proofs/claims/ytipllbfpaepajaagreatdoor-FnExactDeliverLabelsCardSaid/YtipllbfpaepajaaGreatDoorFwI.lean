/- Part of a proof that a law returns true for every input. No condition. -/
import Derived.Test.YtipllbfpaepajaaGreatDoorFwH
import Derived.Laws.Externs
import Derived.Lib.Bytealg
namespace Go.ca
theorem Eu {C:bt} {f:FuncId} {fn:Func} (bk:C.P.funcs[f]? =some fn) (jc:(fn.name== "runtime.NumGoroutine")=false) (R:fn.body.isNone=true) (aW:Extern.findNext fn=none)
  {E:Array Value→Sem Value} (he:Extern.find fn=some E) (a:List UInt8) (c:UInt8) (n:Int) (y0:∀w,(E #[.string ⟨⟨a⟩⟩,.int .u8 c.toNat]).run C.P w= .ok (.int .i64 n) w):bq C f [.str a,.int .u8 c.toNat] (.int .i64 n) []:=by
 intro w F X S vs hl aD
 have bm:=jQ (aD.cj 0)
 have ab:=kn (aD.cj 1)
 have L0:vs=[.string ⟨⟨a⟩⟩,.int .u8 c.toNat]:=by
  match vs,hl with
  |[x,y],_=>
   have eY:x= .string ⟨⟨a⟩⟩:=bm
   have aH:y= .int .u8 c.toNat:=ab
   rw[eY,aH]
 subst L0
 refine .inr ⟨.int .i64 n,w,?_,F,S,?_⟩
 ·rw[run_callFunc_extern bk jc R aW he,y0]
  rfl
 ·refine⟨aD.e3,aD.fh,aD.dH,aD.de,aD.dY,aD.dA,aD.cE,fun t=> ?_,aD.old,aD.size,aD.os,aD.tape,aD.output,aD.eT⟩
  cases t with
  |zero=>exact(ay.bM rfl).2 ⟨rfl,by simp only[bx,fD,e0];rw[show dT (.int .i64 n::[]) 0= .int .i64 n from rfl,an];rfl⟩
  |succ t=>
   show ay w F _ _ (dT [I.int .i64 n] (t+1)) _ _
   rw[show dT [I.int .i64 n] (t+1)= .hole from rfl,ay];trivial
section
variable {C:bt} {l:List (Nat×I)} {os:List br} {K:Option (List dK)→aj→Prop} {dst:Option Nat}
def oY (s:aj):List bW→Prop
 |[]=>True
 |p::ps=>p.ok s∧oY s ps
theorem Ev {s:aj}:∀{ps:List bW},oY s ps→∀p∈ps,p.ok s
 |p::ps,h,q,cf=>by
  rcases List.mem_cons.1 cf with rfl|cf
  ·exact h.1
  ·exact Ev h.2 q cf
def rN:List bW→Bool
 |[]=>true
 |p::ps=>p.o.di&&rN ps
theorem Ew:∀{ps:List bW},rN ps=true→∀p∈ps,p.o.di=true
 |p::ps,h,q,cf=>by
  simp only[rN,Bool.and_eq_true]at h
  rcases List.mem_cons.1 cf with rfl|cf
  ·exact h.1
  ·exact Ew h.2 q cf
theorem Ex {f:ax} {args:List ax} {g:FuncId} {caps:List I} {K:List Nat→I→aj→Prop} (ps:List bW) (r:I)
  (ab:az (J l) f= .fn g caps) (eQ:I.ef caps=true) (ad:ps.map (·.a)=gH (J l) args++caps) (aB:oY (J l) ps) (aR:gw ps=true)
  (ba:bq C g (ps.map (·.d)) r (ps.map (·.o))) (bu:r.res=true) (bE:ia ps=false∨(r.di&&rN ps)=true) (hD:K (n1 ps) r (gf (dI (J l) ps) ps)):mr C (J l) (.call f args) K:=by
 refine⟨g,caps,ps,r,ab,eQ,by rw[ad,vK],Ev aB,aR,ba,bu,?_,hD⟩
 intro hl
 rcases bE with bE|bE
 ·rw[bE]at hl;cases hl
 ·rw[Bool.and_eq_true]at bE;exact⟨bE.1,Ew bE.2⟩
theorem k7 {f:ax} {args:List ax} {g:FuncId} {caps:List I} {r:I} (ps:List bW) (ba:bq C g (ps.map (·.d)) r (ps.map (·.o)))
  (ab:az (J l) f= .fn g caps) (eQ:I.ef caps=true) (ad:ps.map (·.a)=gH (J l) args++caps) (aB:oY (J l) ps) (aR:gw ps=true)
  (bu:r.res=true) (bE:ia ps=false∨(r.di&&rN ps)=true)
  (hD:bN C (fin (gf (dI (J l) ps) ps) dst r) os none K):bN C (J l) (⟨dst,.call f args,none⟩::os) none K:=by
 simp only[bN,k1,nd]
 exact Ex ps r ab eQ ad aB aR ba bu bE hD
theorem Ey {a:List dK} {f:ax} {args:List ax} {g:FuncId} {caps:List I} {r:I} (ps:List bW) (ba:bq C g (ps.map (·.d)) r (ps.map (·.o)))
  (ab:az (J l) f= .fn g caps) (eQ:I.ef caps=true) (ad:ps.map (·.a)=gH (J l) args++caps) (aB:oY (J l) ps) (aR:gw ps=true)
  (bu:r.res=true) (bE:ia ps=false∨(r.di&&rN ps)=true)
  (hD:bN C (fin (gf (dI (J l) ps) ps) dst r) os (some (gG (J l) (use (J l) (.call f args)) dst (n1 ps) r::a)) K):bN C (J l) (⟨dst,.call f args,none⟩::os) (some a) K:=by
 simp only[bN,k1,nd]
 exact Ex ps r ab eQ ad aB aR ba bu bE hD
theorem j2 (s:aj):oY s []=True∧(∀p ps,oY s (p::ps)=(p.ok s∧oY s ps))∧(∀a d o,bW.ok s ⟨a,false,d,o⟩=(view s a=some d))∧
  (∀x q d o,bW.ok s ⟨.h x q,true,d,o⟩=(I.sub q (s x)=some d∧d.eD=true∧(o= .hole∨(o.eD=true∧oI d o=true)))):=by
 refine⟨rfl,fun _ _=>rfl,fun _ _ _=> ?_,fun _ _ _ _=> ?_⟩<;>simp[bW.ok]
theorem j3:(∀d,I.own (.a_ d)=true)∧(∀n xs,I.own (.aE n xs)=true)∧(∀d,I.eD (.a_ d)=true)∧(∀n xs,I.eD (.aE n xs)=true)∧(∀ag,I.eD (.agg ag)= !I.ef ag)∧
  (∀d e,oI (.a_ d) (.a_ e)=true)∧(∀n xs m bG,oI (.aE n xs) (.aE m bG)=true)∧(∀a b,oI (.agg a) (.agg b)=(I.cO a==I.cO b)):=⟨fun _=>rfl,fun _ _=>rfl,fun _=>rfl,fun _ _=>rfl,fun _=>rfl,fun _ _=>rfl,fun _ _ _ _=>rfl,fun _ _=>rfl⟩
theorem j4 (s:aj):dI s []=s∧gf s []=s∧(∀p ps,dI s (p::ps)=dI (bW.take s p) ps)∧(∀p ps,gf s (p::ps)=gf (bW.gv s p) ps)∧
  (∀a d o,bW.take s ⟨a,false,d,o⟩=s)∧(∀a d o,bW.gv s ⟨a,false,d,o⟩=s)∧(∀x q d o,bW.take s ⟨.h x q,true,d,o⟩=cm (fO x s) x (I.put q d.b8 (s x)))∧
  (∀a d,bW.gv s ⟨a,true,d,.hole⟩=s)∧(∀x q d e,bW.gv s ⟨.h x q,true,d,.a_ e⟩=cm (jt x s) x (I.put q (.a_ e) (s x)))∧
  (∀x q d n xs,bW.gv s ⟨.h x q,true,d,.aE n xs⟩=cm (jt x s) x (I.put q (.aE n xs) (s x)))∧
  (∀x q d ag,bW.gv s ⟨.h x q,true,d,.agg ag⟩=cm (jt x s) x (I.put q (.agg ag) (s x))):=by
 refine⟨rfl,rfl,fun _ _=>rfl,fun _ _=>rfl,?_,?_,?_,?_,?_,?_,?_⟩<;>intros<;>simp[bW.take,bW.gv]
def oZ (s:aj) (fx rs:List Nat):Nat→List I→Bool→Prop
 |_,[],_=>True
 |k,o::r,b=>(o= .hole∨(o=s k∧o.eD=true∧fx.contains k=true∧rs.contains k=false))∧oZ s fx rs (k+1) r b
theorem k8 {s:aj} {fx:List Nat} {dU:List ResultVar} {outs:List I} (h:oZ s fx (dU.map hp) 0 outs true):∀(i:Nat) (o:I),outs[i]? =some o→o= .hole∨(o=s i∧o.eD=true∧i∈fx∧i∉dU.map hp):=by
 have key:∀(outs:List I) (k:Nat),oZ s fx (dU.map hp) k outs true→∀(i:Nat) (o:I),outs[i]? =some o→o= .hole∨(o=s (k+i)∧o.eD=true∧k+i∈fx∧k+i∉dU.map hp):=by
  intro outs
  induction outs with
  |nil=>intro k _ i o h;simp at h
  |cons a outs ih=>
   intro k h i o bL
   cases i with
   |zero=>
    simp at bL;subst bL
    rcases h.1 with h|⟨ab,ad,aB,aR⟩
    ·exact .inl h
    ·exact .inr ⟨ab,ad,by simpa using aB,by simpa using aR⟩
   |succ i=>
    have:=ih (k+1) h.2 i o (by simpa using bL)
    rw[show k+(i+1)=k+1+i by omega];exact this
 intro i o bL
 have:=key outs 0 h i o bL
 simpa using this
theorem hH {s:aj} {fx rs:List Nat} {k:Nat} {l:List I} (h:oZ s fx rs (k+1) l true):oZ s fx rs k (.hole::l) true:=⟨.inl rfl,h⟩
theorem k9 {s:aj} {fx rs:List Nat} {k:Nat} {o:I} {l:List I} (ab:o=s k) (ad:o.eD=true) (aB:fx.contains k=true) (aR:rs.contains k=false) (h:oZ s fx rs (k+1) l true):oZ s fx rs k (o::l) true:=⟨.inr ⟨ab,ad,aB,aR⟩,h⟩
theorem k_ {s:aj} {fx rs:List Nat} {k:Nat}:oZ s fx rs k [] true:=trivial
theorem vP:(∀neg e r,oU neg (.slice e) (some r)=some (mb neg r))∧(∀neg,mb neg none= .dk)∧mb false (some false)= .bool false∧mb true (some false)= .bool true∧mb false (some true)= .bool true∧mb true (some true)= .bool false∧(∀s,ho s .bD=some (some true)):=
 ⟨fun _ _ _=>rfl,fun _=>rfl,rfl,rfl,rfl,rfl,fun _=>rfl⟩
theorem Ez {α:Type} {xs:List α} (h:xs.isEmpty=true) (e:α→I) (s:aj):ho s (.slice (xs.map e))=some none:=by
 have:xs=[]:=List.isEmpty_iff.1 h
 subst this;rfl
theorem EA {α:Type} {xs:List α} (h:xs.isEmpty=false) (e:α→I) (s:aj):ho s (.slice (xs.map e))=some (some false):=by
 cases xs with
 |nil=>cases h
 |cons x xs=>rfl
def L1:Option I→Option (Option Bool)
 |some (.aE _ xs)=>some (if xs=[]then none else some false)
 |_=>none
theorem vQ (s:aj) (x:Nat) (q:List Nat):ho s (.h x q)=L1 (I.sub q (s x)):=by
 simp only[ho];rfl
theorem bq.nil {C:bt} {f:FuncId} {args:List I} {r:I} {outs:List I} (i:Nat) (h:bq C f (args.set i (.slice [])) r outs) (aA:args[i]? =some .bD):bq C f args r outs:=by
 intro w F X S vs hl aD
 have gT:=aD.cj i
 have U:dT args i= .bD:=by simp[dT,List.getD,aA]
 rw[U]at gT
 have aG:ay w F (dT args) (e0 vs) (.slice []) (e0 vs i) (fun _=>False):=by
  rw[ay.bM rfl]at gT⊢
  refine⟨gT.1,?_⟩
  have ad:=gT.2
  simp only[an]at ad⊢
  exact .inl ⟨trivial,none,0,ad,Nat.zero_le _,fun _=>rfl⟩
 have ad:=aD.sH (t:=i) rfl aG
 have aH:cm (dT args) i (.slice [])=dT (args.set i (.slice [])):=by
  funext t
  have c_:i<args.length:=(List.getElem?_eq_some_iff.1 aA).1
  by_cases aO:t=i
  ·subst aO;simp[cm,dT,List.getD,c_]
  ·have:i≠t:=fun e=>aO e.symm
   simp[cm,aO,dT,List.getD,this]
 have aJ:cm (e0 vs) i (e0 vs i)=e0 vs:=by
  funext t
  by_cases aO:t=i
  ·subst aO;simp[cm]
  ·simp[cm,aO]
 rw[aH,aJ]at ad
 exact h w F X _ vs (by simpa using hl) ad
def o0 (C:bt) (s:aj) (y:Nat) (q:List Nat) (b:Int):kP→Option I→Option (I×aj)
 | .slice e,some (.aE sz xs)=>(match ea xs 0 b with
   |some t=>if(C.T e).ok=true then(match bV s (.h y q)with|some (_,s1)=>some (.aE sz t,s1)|none=>none)else none
   |none=>none)
 |_,_=>none
theorem vR (C:bt) (s:aj) (T:TypeId) (y:Nat) (q:List Nat):(∀k b,cF C s T (.h y q) none (some (.int k b))=o0 C s y q b (C.T T).k (I.sub q (s y)))∧
  (∀k b cB,cF C s T (.h y q) (some (.int cB 0)) (some (.int k b))=o0 C s y q b (C.T T).k (I.sub q (s y)))∧
  (∀e sz xs b t,ea xs 0 b=some t→o0 C s y q b (.slice e) (some (.aE sz xs))=if(C.T e).ok=true then(match bV s (.h y q)with|some (_,s1)=>some (.aE sz t,s1)|none=>none)else none):=by
 have key:∀(cb:Option I) (k:IntKind) (b:Int),fN 0 cb=some 0→cF C s T (.h y q) cb (some (.int k b))=o0 C s y q b (C.T T).k (I.sub q (s y)):=by
  intro cb k b bm
  simp only[cF]
  generalize (C.T T).k=iY
  cases iY<;>first|rfl|skip
  rename_i e
  cases U:I.sub q (s y)with
  |none=>simp only[U];rfl
  |some d=>
   cases d with
   |aE sz xs=>
    have vS:fN xs.length (some (.int k b))=if 0≤b then some b.toNat else none:=rfl
    simp only[U,bm,vS,o0,ea]
    by_cases R:0≤b
    ·by_cases ai:b≤xs.length
     ·have ab:b.toNat≤xs.length:=by omega
      simp only[R,ai,ab,if_true,true_and,Int.le_refl,and_self,Int.toNat_zero,List.drop_zero]
      rfl
     ·have ab:¬b.toNat≤xs.length:=by omega
      simp only[R,ai,ab,if_true,if_false,and_false,false_and,Int.le_refl]
    ·simp only[R,if_false,false_and,and_false]
   |_=>simp only[U];rfl
 refine⟨fun k b=>key _ _ _ rfl,fun k b cB=>key _ _ _ (by simp[fN]),fun e sz xs b t h=> ?_⟩
 simp only[o0,h]
theorem vT (C:bt) (l:List (Nat×I)) (dm:Bool) (x y:ax):a8 C (J l) (.gd dm x y)=b3 (J l) (gd dm (az (J l) x) (az (J l) y)):=by simp only[a8,k2]
theorem vU (C:bt) (l:List (Nat×I)) (dst:Option Nat) (os:List br) (K:Option (List dK)→aj→Prop):
  (∀dm x y,bN C (J l) (⟨dst,.gd dm x y,none⟩::os) none K=cy C dst os K (b3 (J l) (gd dm (az (J l) x) (az (J l) y))))∧
  (∀a dm x y,bN C (J l) (⟨dst,.gd dm x y,none⟩::os) (some a) K=cz C l (use (J l) (.gd dm x y)) (ck (J l) (.gd dm x y)) dst os a K (b3 (J l) (gd dm (az (J l) x) (az (J l) y))))∧
  (∀dm x y t b,bP C l dst (.gd dm x y) t b os none K (.bool b)=cy C dst os K (b3 (J l) (gd dm (az (J l) x) (az (J l) y))))∧
  (∀a dm x y t b,bP C l dst (.gd dm x y) t b os (some a) K (.bool b)=cz C l (t::use (J l) (.gd dm x y)) (ck (J l) (.gd dm x y)) dst os a K (b3 (J l) (gd dm (az (J l) x) (az (J l) y)))):=
 ⟨fun _ x y=>(g_ rfl).trans (congrArg _ (vT ..)),fun _ _ x y=>(ha rfl).trans (congrArg _ (vT ..)),fun _ x y _ _=>(dO rfl).trans (congrArg _ (vT ..)),fun _ _ x y _ _=>(dP rfl).trans (congrArg _ (vT ..))⟩
theorem vV (dm:Bool) (k:IntKind) (a b:Int):gd dm (.int k a) (.int k b)=some (.int k (eA dm a b)):=if_pos rfl
end
end Go.ca
