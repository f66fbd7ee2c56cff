/- Part of a proof that a law returns true for every input. No condition. -/
import Derived.Test.YtpddiknnnoomoaaFwH
import Derived.Laws.Externs
import Derived.Lib.Bytealg
namespace Go.bZ
theorem H3 {C:bo} {f:FuncId} {fn:Func} (bc:C.P.funcs[f]? =some fn) (h3:(fn.name== "runtime.NumGoroutine")=false) (I:fn.body.isNone=true) (aR:Extern.findNext fn=none)
  (he:Extern.find fn=some Extern.BytealgCompare.compare) (a b:List UInt8):b8 C f [.str a,.str b] (.int .i64 (Lib.compareBytes a b)) []:=by
 intro w F X S vs hl aB
 have bu:=jg (aB.b5 0)
 have U:=jg (aB.b5 1)
 have iv:vs=[.string ⟨⟨a⟩⟩,.string ⟨⟨b⟩⟩]:=by
  match vs,hl with
  |[x,y],_=>
   have eu:x= .string ⟨⟨a⟩⟩:=bu
   have aG:y= .string ⟨⟨b⟩⟩:=U
   rw[eu,aG]
 subst iv
 refine .inr ⟨.int .i64 (Lib.compareBytes a b),w,?_,F,S,?_⟩
 ·rw[run_callFunc_extern bc h3 I aR he,Lib.run_compareString]
  rfl
 ·refine⟨aB.er,aB.eL,aB.db,aB.cT,aB.dp,aB.c8,aB.cl,fun t=> ?_,aB.old,aB.size,aB.os,aB.tape,aB.output,aB.et⟩
  cases t with
  |zero=>exact(ar.bx rfl).2 ⟨rfl,by simp only[ba,e_,dW];rw[show dh (.int .i64 (Lib.compareBytes a b)::[]) 0= .int .i64 (Lib.compareBytes a b)from rfl,ai];rfl⟩
  |succ t=>
   show ar w F _ _ (dh [j.int .i64 (Lib.compareBytes a b)] (t+1)) _ _
   rw[show dh [j.int .i64 (Lib.compareBytes a b)] (t+1)= .hole from rfl,ar];trivial
section
variable {C:bo} {l:List (Nat×j)} {os:List bh} {K:Option (List dk)→ag→Prop} {dst:Option Nat}
def oN (s:ag):List bH→Prop
 |[]=>True
 |p::ps=>p.ok s∧oN s ps
theorem Bn {s:ag}:∀{ps:List bH},oN s ps→∀p∈ps,p.ok s
 |p::ps,h,q,bX=>by
  rcases List.mem_cons.1 bX with rfl|bX
  ·exact h.1
  ·exact Bn h.2 q bX
def r0:List bH→Bool
 |[]=>true
 |p::ps=>p.o.cS&&r0 ps
theorem Bo:∀{ps:List bH},r0 ps=true→∀p∈ps,p.o.cS=true
 |p::ps,h,q,bX=>by
  simp only[r0,Bool.and_eq_true]at h
  rcases List.mem_cons.1 bX with rfl|bX
  ·exact h.1
  ·exact Bo h.2 q bX
theorem H4 {f:au} {args:List au} {g:FuncId} {caps:List j} {K:List Nat→j→ag→Prop} (ps:List bH) (r:j)
  (U:ax (J l) f= .fn g caps) (ee:j.dE caps=true) (aa:ps.map (·.a)=fN (J l) args++caps) (aw:oN (J l) ps) (aN:fS ps=true)
  (a8:b8 C g (ps.map (·.d)) r (ps.map (·.o))) (bI:r.res=true) (bO:hA ps=false∨(r.cS&&r0 ps)=true) (iU:K (nz ps) r (fJ (dq (J l) ps) ps)):k3 C (J l) (.call f args) K:=by
 refine⟨g,caps,ps,r,U,ee,by rw[aa,tu],Bn aw,aN,a8,bI,?_,iU⟩
 intro hl
 rcases bO with bO|bO
 ·rw[bO]at hl;cases hl
 ·rw[Bool.and_eq_true]at bO;exact⟨bO.1,Bo bO.2⟩
theorem wU {f:au} {args:List au} {g:FuncId} {caps:List j} {r:j} (ps:List bH) (a8:b8 C g (ps.map (·.d)) r (ps.map (·.o)))
  (U:ax (J l) f= .fn g caps) (ee:j.dE caps=true) (aa:ps.map (·.a)=fN (J l) args++caps) (aw:oN (J l) ps) (aN:fS ps=true)
  (bI:r.res=true) (bO:hA ps=false∨(r.cS&&r0 ps)=true)
  (iU:bz C (fin (fJ (dq (J l) ps) ps) dst r) os none K):bz C (J l) (⟨dst,.call f args,none⟩::os) none K:=by
 simp only[bz,kj,mE]
 exact H4 ps r U ee aa aw aN a8 bI bO iU
theorem wV (s:ag):oN s []=True∧(∀p ps,oN s (p::ps)=(p.ok s∧oN s ps))∧(∀a d o,bH.ok s ⟨a,false,d,o⟩=(view s a=some d))∧
  (∀x q d o,bH.ok s ⟨.h x q,true,d,o⟩=(j.sub q (s x)=some d∧d.dS=true∧(o= .hole∨(o.dS=true∧nr d o=true)))):=by
 refine⟨rfl,fun _ _=>rfl,fun _ _ _=> ?_,fun _ _ _ _=> ?_⟩<;>simp[bH.ok]
theorem wW:(∀d,j.own (.bm d)=true)∧(∀n xs,j.own (.aH n xs)=true)∧(∀d,j.dS (.bm d)=true)∧(∀n xs,j.dS (.aH n xs)=true)∧(∀ah,j.dS (.agg ah)= !j.dE ah)∧
  (∀d e,nr (.bm d) (.bm e)=true)∧(∀n xs m ys,nr (.aH n xs) (.aH m ys)=true)∧(∀a b,nr (.agg a) (.agg b)=(j.cF a==j.cF b)):=⟨fun _=>rfl,fun _ _=>rfl,fun _=>rfl,fun _ _=>rfl,fun _=>rfl,fun _ _=>rfl,fun _ _ _ _=>rfl,fun _ _=>rfl⟩
theorem wX (s:ag):dq s []=s∧fJ s []=s∧(∀p ps,dq s (p::ps)=dq (bH.take s p) ps)∧(∀p ps,fJ s (p::ps)=fJ (bH.fI s p) ps)∧
  (∀a d o,bH.take s ⟨a,false,d,o⟩=s)∧(∀a d o,bH.fI s ⟨a,false,d,o⟩=s)∧(∀x q d o,bH.take s ⟨.h x q,true,d,o⟩=b4 (ff x s) x (j.put q d.bT (s x)))∧
  (∀a d,bH.fI s ⟨a,true,d,.hole⟩=s)∧(∀x q d e,bH.fI s ⟨.h x q,true,d,.bm e⟩=b4 (ia x s) x (j.put q (.bm e) (s x)))∧
  (∀x q d n xs,bH.fI s ⟨.h x q,true,d,.aH n xs⟩=b4 (ia x s) x (j.put q (.aH n xs) (s x)))∧
  (∀x q d ah,bH.fI s ⟨.h x q,true,d,.agg ah⟩=b4 (ia x s) x (j.put q (.agg ah) (s x))):=by
 refine⟨rfl,rfl,fun _ _=>rfl,fun _ _=>rfl,?_,?_,?_,?_,?_,?_,?_⟩<;>intros<;>simp[bH.take,bH.fI]
def nH (s:ag) (fx rs:List Nat):Nat→List j→Bool→Prop
 |_,[],_=>True
 |k,o::r,b=>(o= .hole∨(o=s k∧o.dS=true∧fx.contains k=true∧rs.contains k=false))∧nH s fx rs (k+1) r b
theorem H5 {s:ag} {fx:List Nat} {dt:List ResultVar} {outs:List j} (h:nH s fx (dt.map gF) 0 outs true):∀(i:Nat) (o:j),outs[i]? =some o→o= .hole∨(o=s i∧o.dS=true∧i∈fx∧i∉dt.map gF):=by
 have key:∀(outs:List j) (k:Nat),nH s fx (dt.map gF) k outs true→∀(i:Nat) (o:j),outs[i]? =some o→o= .hole∨(o=s (k+i)∧o.dS=true∧k+i∈fx∧k+i∉dt.map gF):=by
  intro outs
  induction outs with
  |nil=>intro k _ i o h;simp at h
  |cons a outs ih=>
   intro k h i o bs
   cases i with
   |zero=>
    simp at bs;subst bs
    rcases h.1 with h|⟨U,aa,aw,aN⟩
    ·exact .inl h
    ·exact .inr ⟨U,aa,by simpa using aw,by simpa using aN⟩
   |succ i=>
    have:=ih (k+1) h.2 i o (by simpa using bs)
    rw[show k+(i+1)=k+1+i by omega];exact this
 intro i o bs
 have:=key outs 0 h i o bs
 simpa using this
theorem H6 {s:ag} {fx rs:List Nat} {k:Nat} {l:List j} (h:nH s fx rs (k+1) l true):nH s fx rs k (.hole::l) true:=⟨.inl rfl,h⟩
theorem H7 {s:ag} {fx rs:List Nat} {k:Nat} {o:j} {l:List j} (U:o=s k) (aa:o.dS=true) (aw:fx.contains k=true) (aN:rs.contains k=false) (h:nH s fx rs (k+1) l true):nH s fx rs k (o::l) true:=⟨.inr ⟨U,aa,aw,aN⟩,h⟩
theorem H8 {s:ag} {fx rs:List Nat} {k:Nat}:nH s fx rs k [] true:=trivial
theorem tB:(∀neg e r,nC neg (.slice e) (some r)=some (kL neg r))∧(∀neg,kL neg none= .c2)∧kL false (some false)= .bool false∧kL true (some false)= .bool true∧kL false (some true)= .bool true∧kL true (some true)= .bool false∧(∀s,gE s .bt=some (some true)):=
 ⟨fun _ _ _=>rfl,fun _=>rfl,rfl,rfl,rfl,rfl,fun _=>rfl⟩
theorem Bp {α:Type} {xs:List α} (h:xs.isEmpty=true) (e:α→j) (s:ag):gE s (.slice (xs.map e))=some none:=by
 have:xs=[]:=List.isEmpty_iff.1 h
 subst this;rfl
theorem Bq {α:Type} {xs:List α} (h:xs.isEmpty=false) (e:α→j) (s:ag):gE s (.slice (xs.map e))=some (some false):=by
 cases xs with
 |nil=>cases h
 |cons x xs=>rfl
def H9:Option j→Option (Option Bool)
 |some (.aH _ xs)=>some (if xs=[]then none else some false)
 |_=>none
theorem tC (s:ag) (x:Nat) (q:List Nat):gE s (.h x q)=H9 (j.sub q (s x)):=by
 simp only[gE];rfl
theorem b8.nil {C:bo} {f:FuncId} {args:List j} {r:j} {outs:List j} (i:Nat) (h:b8 C f (args.set i (.slice [])) r outs) (ay:args[i]? =some .bt):b8 C f args r outs:=by
 intro w F X S vs hl aB
 have gg:=aB.b5 i
 have R:dh args i= .bt:=by simp[dh,List.getD,ay]
 rw[R]at gg
 have aC:ar w F (dh args) (dW vs) (.slice []) (dW vs i) (fun _=>False):=by
  rw[ar.bx rfl]at gg⊢
  refine⟨gg.1,?_⟩
  have aa:=gg.2
  simp only[ai]at aa⊢
  exact .inl ⟨trivial,none,0,aa,Nat.zero_le _,fun _=>rfl⟩
 have aa:=aB.qV (t:=i) rfl aC
 have aG:b4 (dh args) i (.slice [])=dh (args.set i (.slice [])):=by
  funext t
  have cC:i<args.length:=(List.getElem?_eq_some_iff.1 ay).1
  by_cases aM:t=i
  ·subst aM;simp[b4,dh,List.getD,cC]
  ·have:i≠t:=fun e=>aM e.symm
   simp[b4,aM,dh,List.getD,this]
 have aL:b4 (dW vs) i (dW vs i)=dW vs:=by
  funext t
  by_cases aM:t=i
  ·subst aM;simp[b4]
  ·simp[b4,aM]
 rw[aG,aL]at aa
 exact h w F X _ vs (by simpa using hl) aa
theorem gh (C:bo) (l:List (Nat×j)) (dst:Option Nat) (os:List bh) (K:Option (List dk)→ag→Prop):
  (∀x,bz C (J l) (⟨dst,.ij x,none⟩::os) none K=cp C dst os K (fM (J l) (ax (J l) x)))∧
  (∀a x,bz C (J l) (⟨dst,.ij x,none⟩::os) (some a) K=cq C l (use (J l) (.ij x)) (b7 (J l) (.ij x)) dst os a K (fM (J l) (ax (J l) x))):=by
 have e:∀x,aW C (J l) (.ij x)=fM (J l) (ax (J l) x):=fun x=>by
  simp only[aW];cases ax (J l) x<;>rfl
 exact⟨fun x=>(gu rfl).trans (congrArg _ (e x)),fun _ x=>(gv rfl).trans (congrArg _ (e x))⟩
end
end Go.bZ
