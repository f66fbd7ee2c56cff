/- Part of a proof that a law returns true for every input. No condition. -/
import Derived.Test.YtikimdcnadipbaaGreatDoorFwH
import Derived.Laws.Externs
import Derived.Lib.Bytealg
namespace Go.bZ
theorem Dy {C:bm} {f:FuncId} {fn:Func} (bc:C.P.funcs[f]? =some fn) (iz:(fn.name== "runtime.NumGoroutine")=false) (J:fn.body.isNone=true) (aQ:Extern.findNext fn=none)
  {E:Array Value→Sem Value} (he:Extern.find fn=some E) (a:List UInt8) (c:UInt8) (n:Int) (x_:∀w,(E #[.string ⟨⟨a⟩⟩,.int .u8 c.toNat]).run C.P w= .ok (.int .i64 n) w):bj C f [.str a,.int .u8 c.toNat] (.int .i64 n) []:=by
 intro w F X S vs aI aC
 have bl:=iM (aC.b2 0)
 have aa:=jN (aC.b2 1)
 have KT:vs=[.string ⟨⟨a⟩⟩,.int .u8 c.toNat]:=by
  match vs,aI with
  |[x,y],_=>
   have eG:x= .string ⟨⟨a⟩⟩:=bl
   have aF:y= .int .u8 c.toNat:=aa
   rw[eG,aF]
 subst KT
 refine .inr ⟨.int .i64 n,w,?_,F,S,?_⟩
 ·rw[run_callFunc_extern bc iz J aQ he,x_]
  rfl
 ·refine⟨aC.eB,aC.eQ,aC.de,aC.cV,aC.dy,aC.dm,aC.cp,fun t=> ?_,aC.old,aC.size,aC.os,aC.tape,aC.output,aC.dW⟩
  cases t with
  |zero=>exact(au.bB rfl).2 ⟨rfl,by simp only[bs,ff,eJ];rw[show dL (.int .i64 n::[]) 0= .int .i64 n from rfl,ak];rfl⟩
  |succ t=>
   show au w F _ _ (dL [I.int .i64 n] (t+1)) _ _
   rw[show dL [I.int .i64 n] (t+1)= .hole from rfl,au];trivial
section
variable {C:bm} {l:List (Nat×I)} {os:List bn} {K:Option (List dG)→ag→Prop} {dst:Option Nat}
def pz (s:ag):List bO→Prop
 |[]=>True
 |p::ps=>p.ok s∧pz s ps
theorem Dz {s:ag}:∀{ps:List bO},pz s ps→∀p∈ps,p.ok s
 |p::ps,h,q,b6=>by
  rcases List.mem_cons.1 b6 with rfl|b6
  ·exact h.1
  ·exact Dz h.2 q b6
def sV:List bO→Bool
 |[]=>true
 |p::ps=>p.o.c_&&sV ps
theorem DA:∀{ps:List bO},sV ps=true→∀p∈ps,p.o.c_=true
 |p::ps,h,q,b6=>by
  simp only[sV,Bool.and_eq_true]at h
  rcases List.mem_cons.1 b6 with rfl|b6
  ·exact h.1
  ·exact DA h.2 q b6
theorem KU {f:aw} {args:List aw} {g:FuncId} {caps:List I} {K:List Nat→I→ag→Prop} (ps:List bO) (r:I)
  (aa:az (R l) f= .fn g caps) (eK:I.dV caps=true) (ab:ps.map (·.a)=gw (R l) args++caps) (aB:pz (R l) ps) (aP:fZ ps=true)
  (bb:bj C g (ps.map (·.d)) r (ps.map (·.o))) (bQ:r.res=true) (bT:hW ps=false∨(r.c_&&sV ps)=true) (jv:K (oc ps) r (fS (dE (R l) ps) ps)):lK C (R l) (.call f args) K:=by
 refine⟨g,caps,ps,r,aa,eK,by rw[ab,uU],Dz aB,aP,bb,bQ,?_,jv⟩
 intro aI
 rcases bT with bT|bT
 ·rw[bT]at aI;cases aI
 ·rw[Bool.and_eq_true]at bT;exact⟨bT.1,DA bT.2⟩
theorem DB {f:aw} {args:List aw} {g:FuncId} {caps:List I} {r:I} (ps:List bO) (bb:bj C g (ps.map (·.d)) r (ps.map (·.o)))
  (aa:az (R l) f= .fn g caps) (eK:I.dV caps=true) (ab:ps.map (·.a)=gw (R l) args++caps) (aB:pz (R l) ps) (aP:fZ ps=true)
  (bQ:r.res=true) (bT:hW ps=false∨(r.c_&&sV ps)=true)
  (jv:bL C (fin (fS (dE (R l) ps) ps) dst r) os none K):bL C (R l) (⟨dst,.call f args,none⟩::os) none K:=by
 simp only[bL,k4,nk]
 exact KU ps r aa eK ab aB aP bb bQ bT jv
theorem DC (s:ag):pz s []=True∧(∀p ps,pz s (p::ps)=(p.ok s∧pz s ps))∧(∀a d o,bO.ok s ⟨a,false,d,o⟩=(view s a=some d))∧
  (∀x q d o,bO.ok s ⟨.h x q,true,d,o⟩=(I.sub q (s x)=some d∧d.eI=true∧(o= .hole∨(o.eI=true∧n4 d o=true)))):=by
 refine⟨rfl,fun _ _=>rfl,fun _ _ _=> ?_,fun _ _ _ _=> ?_⟩<;>simp[bO.ok]
theorem DD:(∀d,I.own (.bG d)=true)∧(∀n xs,I.own (.aG n xs)=true)∧(∀d,I.eI (.bG d)=true)∧(∀n xs,I.eI (.aG n xs)=true)∧(∀aj,I.eI (.agg aj)= !I.dV aj)∧
  (∀d e,n4 (.bG d) (.bG e)=true)∧(∀n xs m bA,n4 (.aG n xs) (.aG m bA)=true)∧(∀a b,n4 (.agg a) (.agg b)=(I.cI a==I.cI b)):=⟨fun _=>rfl,fun _ _=>rfl,fun _=>rfl,fun _ _=>rfl,fun _=>rfl,fun _ _=>rfl,fun _ _ _ _=>rfl,fun _ _=>rfl⟩
theorem DE (s:ag):dE s []=s∧fS s []=s∧(∀p ps,dE s (p::ps)=dE (bO.take s p) ps)∧(∀p ps,fS s (p::ps)=fS (bO.fR s p) ps)∧
  (∀a d o,bO.take s ⟨a,false,d,o⟩=s)∧(∀a d o,bO.fR s ⟨a,false,d,o⟩=s)∧(∀x q d o,bO.take s ⟨.h x q,true,d,o⟩=cf (fq x s) x (I.put q d.b0 (s x)))∧
  (∀a d,bO.fR s ⟨a,true,d,.hole⟩=s)∧(∀x q d e,bO.fR s ⟨.h x q,true,d,.bG e⟩=cf (iK x s) x (I.put q (.bG e) (s x)))∧
  (∀x q d n xs,bO.fR s ⟨.h x q,true,d,.aG n xs⟩=cf (iK x s) x (I.put q (.aG n xs) (s x)))∧
  (∀x q d aj,bO.fR s ⟨.h x q,true,d,.agg aj⟩=cf (iK x s) x (I.put q (.agg aj) (s x))):=by
 refine⟨rfl,rfl,fun _ _=>rfl,fun _ _=>rfl,?_,?_,?_,?_,?_,?_,?_⟩<;>intros<;>simp[bO.take,bO.fR]
theorem bj.nil {C:bm} {f:FuncId} {args:List I} {r:I} {outs:List I} (i:Nat) (h:bj C f (args.set i (.slice [])) r outs) (ay:args[i]? =some .bu):bj C f args r outs:=by
 intro w F X S vs aI aC
 have gu:=aC.b2 i
 have U:dL args i= .bu:=by simp[dL,List.getD,ay]
 rw[U]at gu
 have aD:au w F (dL args) (eJ vs) (.slice []) (eJ vs i) (fun _=>False):=by
  rw[au.bB rfl]at gu⊢
  refine⟨gu.1,?_⟩
  have ab:=gu.2
  simp only[ak]at ab⊢
  exact .inl ⟨trivial,none,0,ab,Nat.zero_le _,fun _=>rfl⟩
 have ab:=aC.rR (t:=i) rfl aD
 have aF:cf (dL args) i (.slice [])=dL (args.set i (.slice [])):=by
  funext t
  have cJ:i<args.length:=(List.getElem?_eq_some_iff.1 ay).1
  by_cases aK:t=i
  ·subst aK;simp[cf,dL,List.getD,cJ]
  ·have:i≠t:=fun e=>aK e.symm
   simp[cf,aK,dL,List.getD,this]
 have aJ:cf (eJ vs) i (eJ vs i)=eJ vs:=by
  funext t
  by_cases aK:t=i
  ·subst aK;simp[cf]
  ·simp[cf,aK]
 rw[aF,aJ]at ab
 exact h w F X _ vs (by simpa using aI) ab
def oj (C:bm) (s:ag) (y:Nat) (q:List Nat) (b:Int):ki→Option I→Option (I×ag)
 | .slice e,some (.aG sz xs)=>(match dZ xs 0 b with
   |some t=>if(C.T e).ok=true then(match bM s (.h y q)with|some (_,s1)=>some (.aG sz t,s1)|none=>none)else none
   |none=>none)
 |_,_=>none
theorem uZ (C:bm) (s:ag) (T:TypeId) (y:Nat) (q:List Nat):(∀k b,cD C s T (.h y q) none (some (.int k b))=oj C s y q b (C.T T).k (I.sub q (s y)))∧
  (∀k b cr,cD C s T (.h y q) (some (.int cr 0)) (some (.int k b))=oj C s y q b (C.T T).k (I.sub q (s y)))∧
  (∀e sz xs b t,dZ xs 0 b=some t→oj C s y q b (.slice e) (some (.aG sz xs))=if(C.T e).ok=true then(match bM s (.h y q)with|some (_,s1)=>some (.aG sz t,s1)|none=>none)else none):=by
 have key:∀(b5:Option I) (k:IntKind) (b:Int),dM 0 b5=some 0→cD C s T (.h y q) b5 (some (.int k b))=oj C s y q b (C.T T).k (I.sub q (s y)):=by
  intro b5 k b bl
  simp only[cD]
  generalize (C.T T).k=ik
  cases ik<;>first|rfl|skip
  rename_i e
  cases U:I.sub q (s y)with
  |none=>simp only[U];rfl
  |some d=>
   cases d with
   |aG sz xs=>
    have u0:dM xs.length (some (.int k b))=if 0≤b then some b.toNat else none:=rfl
    simp only[U,bl,u0,oj,dZ]
    by_cases J:0≤b
    ·by_cases af:b≤xs.length
     ·have aa:b.toNat≤xs.length:=by omega
      simp only[J,af,aa,if_true,true_and,Int.le_refl,and_self,Int.toNat_zero,List.drop_zero]
      rfl
     ·have aa:¬b.toNat≤xs.length:=by omega
      simp only[J,af,aa,if_true,if_false,and_false,false_and,Int.le_refl]
    ·simp only[J,if_false,false_and,and_false]
   |_=>simp only[U];rfl
 refine⟨fun k b=>key _ _ _ rfl,fun k b cr=>key _ _ _ (by simp[dM]),fun e sz xs b t h=> ?_⟩
 simp only[oj,h]
theorem u1 (C:bm) (l:List (Nat×I)) (da:Bool) (x y:aw):aZ C (R l) (.fQ da x y)=bS (R l) (fQ da (az (R l) x) (az (R l) y)):=by simp only[aZ,kq]
theorem DF (C:bm) (l:List (Nat×I)) (dst:Option Nat) (os:List bn) (K:Option (List dG)→ag→Prop):
  (∀da x y,bL C (R l) (⟨dst,.fQ da x y,none⟩::os) none K=cy C dst os K (bS (R l) (fQ da (az (R l) x) (az (R l) y))))∧
  (∀a da x y,bL C (R l) (⟨dst,.fQ da x y,none⟩::os) (some a) K=cz C l (use (R l) (.fQ da x y)) (cd (R l) (.fQ da x y)) dst os a K (bS (R l) (fQ da (az (R l) x) (az (R l) y))))∧
  (∀da x y t b,bF C l dst (.fQ da x y) t b os none K (.bool b)=cy C dst os K (bS (R l) (fQ da (az (R l) x) (az (R l) y))))∧
  (∀a da x y t b,bF C l dst (.fQ da x y) t b os (some a) K (.bool b)=cz C l (t::use (R l) (.fQ da x y)) (cd (R l) (.fQ da x y)) dst os a K (bS (R l) (fQ da (az (R l) x) (az (R l) y)))):=
 ⟨fun _ x y=>(gB rfl).trans (congrArg _ (u1 ..)),fun _ _ x y=>(gC rfl).trans (congrArg _ (u1 ..)),fun _ x y _ _=>(dH rfl).trans (congrArg _ (u1 ..)),fun _ _ x y _ _=>(dI rfl).trans (congrArg _ (u1 ..))⟩
theorem DG (da:Bool) (k:IntKind) (a b:Int):fQ da (.int k a) (.int k b)=some (.int k (fL da a b)):=if_pos rfl
end
end Go.bZ
