/- Part of a proof that a law returns true for every input. No condition. -/
import Derived.Test.YtpddiknnnoomoaaFwH
import Derived.Laws.Externs
import Derived.Lib.Bytealg
namespace Go.bV
theorem GP {C:bq} {f:FuncId} {fn:Func} (bk:C.P.funcs[f]? =some fn) (ht:(fn.name== "runtime.NumGoroutine")=false) (I:fn.body.isNone=true) (aV:Extern.findNext fn=none)
  (he:Extern.find fn=some Extern.BytealgCompare.compare) (a b:List UInt8):cb C f [.str a,.str b] (.int .i64 (Lib.compareBytes a b)) []:=by
 intro w F X S vs hl aA
 have bI:=iH (aA.b0 0)
 have U:=iH (aA.b0 1)
 have hM:vs=[.string ⟨⟨a⟩⟩,.string ⟨⟨b⟩⟩]:=by
  match vs,hl with
  |[x,y],_=>
   have eD:x= .string ⟨⟨a⟩⟩:=bI
   have aE:y= .string ⟨⟨b⟩⟩:=U
   rw[eD,aE]
 subst hM
 refine .inr ⟨.int .i64 (Lib.compareBytes a b),w,?_,F,S,?_⟩
 ·rw[run_callFunc_extern bk ht I aV he,Lib.run_compareString]
  rfl
 ·refine⟨aA.ep,aA.eC,aA.c_,aA.cP,aA.dj,aA.c8,aA.cf,fun t=> ?_,aA.old,aA.size,aA.os,aA.tape,aA.output,aA.er⟩
  cases t with
  |zero=>exact(ar.bx rfl).2 ⟨rfl,by simp only[bd,e9,dX];rw[show df (.int .i64 (Lib.compareBytes a b)::[]) 0= .int .i64 (Lib.compareBytes a b)from rfl,al];rfl⟩
  |succ t=>
   show ar w F _ _ (df [j.int .i64 (Lib.compareBytes a b)] (t+1)) _ _
   rw[show df [j.int .i64 (Lib.compareBytes a b)] (t+1)= .hole from rfl,ar];trivial
section
variable {C:bq} {l:List (Nat×j)} {os:List bm} {K:Option (List dm)→af→Prop} {dst:Option Nat}
def nY (s:af):List bH→Prop
 |[]=>True
 |p::ps=>p.ok s∧nY s ps
theorem Az {s:af}:∀{ps:List bH},nY s ps→∀p∈ps,p.ok s
 |p::ps,h,q,bN=>by
  rcases List.mem_cons.1 bN with rfl|bN
  ·exact h.1
  ·exact Az h.2 q bN
def q_:List bH→Bool
 |[]=>true
 |p::ps=>p.o.c5&&q_ ps
theorem AA:∀{ps:List bH},q_ ps=true→∀p∈ps,p.o.c5=true
 |p::ps,h,q,bN=>by
  simp only[q_,Bool.and_eq_true]at h
  rcases List.mem_cons.1 bN with rfl|bN
  ·exact h.1
  ·exact AA h.2 q bN
theorem GQ {f:au} {args:List au} {g:FuncId} {caps:List j} {K:List Nat→j→af→Prop} (ps:List bH) (r:j)
  (U:ax (J l) f= .fn g caps) (ef:j.dA caps=true) (aa:ps.map (·.a)=fC (J l) args++caps) (aw:nY (J l) ps) (aN:fG ps=true)
  (a2:cb C g (ps.map (·.d)) r (ps.map (·.o))) (bJ:r.res=true) (bO:g4 ps=false∨(r.c5&&q_ ps)=true) (ic:K (mJ ps) r (fB (dk (J l) ps) ps)):ki C (J l) (.call f args) K:=by
 refine⟨g,caps,ps,r,U,ef,by rw[aa,sL],Az aw,aN,a2,bJ,?_,ic⟩
 intro hl
 rcases bO with bO|bO
 ·rw[bO]at hl;cases hl
 ·rw[Bool.and_eq_true]at bO;exact⟨bO.1,AA bO.2⟩
theorem pr {f:au} {args:List au} {g:FuncId} {caps:List j} {r:j} (ps:List bH) (a2:cb C g (ps.map (·.d)) r (ps.map (·.o)))
  (U:ax (J l) f= .fn g caps) (ef:j.dA caps=true) (aa:ps.map (·.a)=fC (J l) args++caps) (aw:nY (J l) ps) (aN:fG ps=true)
  (bJ:r.res=true) (bO:g4 ps=false∨(r.c5&&q_ ps)=true)
  (ic:bF C (fin (fB (dk (J l) ps) ps) dst r) os none K):bF C (J l) (⟨dst,.call f args,none⟩::os) none K:=by
 simp only[bF,jI,lR]
 exact GQ ps r U ef aa aw aN a2 bJ bO ic
theorem pt (s:af):nY s []=True∧(∀p ps,nY s (p::ps)=(p.ok s∧nY s ps))∧(∀a d o,bH.ok s ⟨a,false,d,o⟩=(view s a=some d))∧
  (∀x q d o,bH.ok s ⟨.h x q,true,d,o⟩=(j.sub q (s x)=some d∧d.dS=true∧(o= .hole∨(o.dS=true∧mz d o=true)))):=by
 refine⟨rfl,fun _ _=>rfl,fun _ _ _=> ?_,fun _ _ _ _=> ?_⟩<;>simp[bH.ok]
theorem pv:(∀d,j.own (.bc d)=true)∧(∀n xs,j.own (.aK n xs)=true)∧(∀d,j.dS (.bc d)=true)∧(∀n xs,j.dS (.aK n xs)=true)∧(∀ag,j.dS (.agg ag)= !j.dA ag)∧
  (∀d e,mz (.bc d) (.bc e)=true)∧(∀n xs m ys,mz (.aK n xs) (.aK m ys)=true)∧(∀a b,mz (.agg a) (.agg b)=(j.cz a==j.cz b)):=⟨fun _=>rfl,fun _ _=>rfl,fun _=>rfl,fun _ _=>rfl,fun _=>rfl,fun _ _=>rfl,fun _ _ _ _=>rfl,fun _ _=>rfl⟩
theorem pw (s:af):dk s []=s∧fB s []=s∧(∀p ps,dk s (p::ps)=dk (bH.take s p) ps)∧(∀p ps,fB s (p::ps)=fB (bH.fA s p) ps)∧
  (∀a d o,bH.take s ⟨a,false,d,o⟩=s)∧(∀a d o,bH.fA s ⟨a,false,d,o⟩=s)∧(∀x q d o,bH.take s ⟨.h x q,true,d,o⟩=bZ (e_ x s) x (j.put q d.bT (s x)))∧
  (∀a d,bH.fA s ⟨a,true,d,.hole⟩=s)∧(∀x q d e,bH.fA s ⟨.h x q,true,d,.bc e⟩=bZ (hD x s) x (j.put q (.bc e) (s x)))∧
  (∀x q d n xs,bH.fA s ⟨.h x q,true,d,.aK n xs⟩=bZ (hD x s) x (j.put q (.aK n xs) (s x)))∧
  (∀x q d ag,bH.fA s ⟨.h x q,true,d,.agg ag⟩=bZ (hD x s) x (j.put q (.agg ag) (s x))):=by
 refine⟨rfl,rfl,fun _ _=>rfl,fun _ _=>rfl,?_,?_,?_,?_,?_,?_,?_⟩<;>intros<;>simp[bH.take,bH.fA]
def mO (s:af) (fx rs:List Nat):Nat→List j→Bool→Prop
 |_,[],_=>True
 |k,o::r,b=>(o= .hole∨(o=s k∧o.dS=true∧fx.contains k=true∧rs.contains k=false))∧mO s fx rs (k+1) r b
theorem v5 {s:af} {fx:List Nat} {dt:List ResultVar} {outs:List j} (h:mO s fx (dt.map gf) 0 outs true):∀(i:Nat) (o:j),outs[i]? =some o→o= .hole∨(o=s i∧o.dS=true∧i∈fx∧i∉dt.map gf):=by
 have key:∀(outs:List j) (k:Nat),mO s fx (dt.map gf) k outs true→∀(i:Nat) (o:j),outs[i]? =some o→o= .hole∨(o=s (k+i)∧o.dS=true∧k+i∈fx∧k+i∉dt.map gf):=by
  intro outs
  induction outs with
  |nil=>intro k _ i o h;simp at h
  |cons a outs ih=>
   intro k h i o bs
   cases i with
   |zero=>
    simp at bs;subst bs
    rcases h.1 with h|⟨U,aa,aw,aN⟩
    ·exact .inl h
    ·exact .inr ⟨U,aa,by simpa using aw,by simpa using aN⟩
   |succ i=>
    have:=ih (k+1) h.2 i o (by simpa using bs)
    rw[show k+(i+1)=k+1+i by omega];exact this
 intro i o bs
 have:=key outs 0 h i o bs
 simpa using this
theorem GR {s:af} {fx rs:List Nat} {k:Nat} {l:List j} (h:mO s fx rs (k+1) l true):mO s fx rs k (.hole::l) true:=⟨.inl rfl,h⟩
theorem v7 {s:af} {fx rs:List Nat} {k:Nat} {o:j} {l:List j} (U:o=s k) (aa:o.dS=true) (aw:fx.contains k=true) (aN:rs.contains k=false) (h:mO s fx rs (k+1) l true):mO s fx rs k (o::l) true:=⟨.inr ⟨U,aa,aw,aN⟩,h⟩
theorem v8 {s:af} {fx rs:List Nat} {k:Nat}:mO s fx rs k [] true:=trivial
theorem cb.nil {C:bq} {f:FuncId} {args:List j} {r:j} {outs:List j} (i:Nat) (h:cb C f (args.set i (.slice [])) r outs) (az:args[i]? =some .bG):cb C f args r outs:=by
 intro w F X S vs hl aA
 have fR:=aA.b0 i
 have R:df args i= .bG:=by simp[df,List.getD,az]
 rw[R]at fR
 have aC:ar w F (df args) (dX vs) (.slice []) (dX vs i) (fun _=>False):=by
  rw[ar.bx rfl]at fR⊢
  refine⟨fR.1,?_⟩
  have aa:=fR.2
  simp only[al]at aa⊢
  exact .inl ⟨trivial,none,0,aa,Nat.zero_le _,fun _=>rfl⟩
 have aa:=aA.qa (t:=i) rfl aC
 have aE:bZ (df args) i (.slice [])=df (args.set i (.slice [])):=by
  funext t
  have cv:i<args.length:=(List.getElem?_eq_some_iff.1 az).1
  by_cases aG:t=i
  ·subst aG;simp[bZ,df,List.getD,cv]
  ·have:i≠t:=fun e=>aG e.symm
   simp[bZ,aG,df,List.getD,this]
 have aL:bZ (dX vs) i (dX vs i)=dX vs:=by
  funext t
  by_cases aG:t=i
  ·subst aG;simp[bZ]
  ·simp[bZ,aG]
 rw[aE,aL]at aa
 exact h w F X _ vs (by simpa using hl) aa
end
end Go.bV
