/- Part of a proof that a law returns true for every input. No condition. -/
import Derived.Test.YtipllbfpaepajaaGreatDoorFwH
import Derived.Laws.Externs
import Derived.Lib.Bytealg
namespace Go.b9
theorem DH {C:bq} {f:FuncId} {fn:Func} (bh:C.P.funcs[f]? =some fn) (iI:(fn.name== "runtime.NumGoroutine")=false) (R:fn.body.isNone=true) (aW:Extern.findNext fn=none)
  {E:Array Value→Sem Value} (he:Extern.find fn=some E) (a:List UInt8) (c:UInt8) (n:Int) (yj:∀w,(E #[.string ⟨⟨a⟩⟩,.int .u8 c.toNat]).run C.P w= .ok (.int .i64 n) w):br C f [.str a,.int .u8 c.toNat] (.int .i64 n) []:=by
 intro w F X S vs aJ aC
 have bz:=jo (aC.cd 0)
 have aa:=jV (aC.cd 1)
 have KU:vs=[.string ⟨⟨a⟩⟩,.int .u8 c.toNat]:=by
  match vs,aJ with
  |[x,y],_=>
   have eS:x= .string ⟨⟨a⟩⟩:=bz
   have aF:y= .int .u8 c.toNat:=aa
   rw[eS,aF]
 subst KU
 refine .inr ⟨.int .i64 n,w,?_,F,S,?_⟩
 ·rw[run_callFunc_extern bh iI R aW he,yj]
  rfl
 ·refine⟨aC.eU,aC.e4,aC.dw,aC.c6,aC.dP,aC.dq,aC.cz,fun t=> ?_,aC.old,aC.size,aC.os,aC.tape,aC.output,aC.eN⟩
  cases t with
  |zero=>exact(ax.bJ rfl).2 ⟨rfl,by simp only[bw,fl,eT];rw[show dJ (.int .i64 n::[]) 0= .int .i64 n from rfl,al];rfl⟩
  |succ t=>
   show ax w F _ _ (dJ [I.int .i64 n] (t+1)) _ _
   rw[show dJ [I.int .i64 n] (t+1)= .hole from rfl,ax];trivial
section
variable {C:bq} {l:List (Nat×I)} {os:List bm} {K:Option (List dz)→aj→Prop} {dst:Option Nat}
def ox (s:aj):List bS→Prop
 |[]=>True
 |p::ps=>p.ok s∧ox s ps
theorem DI {s:aj}:∀{ps:List bS},ox s ps→∀p∈ps,p.ok s
 |p::ps,h,q,ca=>by
  rcases List.mem_cons.1 ca with rfl|ca
  ·exact h.1
  ·exact DI h.2 q ca
def rb:List bS→Bool
 |[]=>true
 |p::ps=>p.o.dc&&rb ps
theorem DJ:∀{ps:List bS},rb ps=true→∀p∈ps,p.o.dc=true
 |p::ps,h,q,ca=>by
  simp only[rb,Bool.and_eq_true]at h
  rcases List.mem_cons.1 ca with rfl|ca
  ·exact h.1
  ·exact DJ h.2 q ca
theorem DK {f:ay} {args:List ay} {g:FuncId} {caps:List I} {K:List Nat→I→aj→Prop} (ps:List bS) (r:I)
  (aa:az (J l) f= .fn g caps) (eJ:I.dW caps=true) (ad:ps.map (·.a)=gh (J l) args++caps) (aB:ox (J l) ps) (aO:fX ps=true)
  (a6:br C g (ps.map (·.d)) r (ps.map (·.o))) (bp:r.res=true) (bB:hM ps=false∨(r.dc&&rb ps)=true) (hd:K (nx ps) r (fM (dx (J l) ps) ps)):lN C (J l) (.call f args) K:=by
 refine⟨g,caps,ps,r,aa,eJ,by rw[ad,u7],DI aB,aO,a6,bp,?_,hd⟩
 intro aJ
 rcases bB with bB|bB
 ·rw[bB]at aJ;cases aJ
 ·rw[Bool.and_eq_true]at bB;exact⟨bB.1,DJ bB.2⟩
theorem mz {f:ay} {args:List ay} {g:FuncId} {caps:List I} {r:I} (ps:List bS) (a6:br C g (ps.map (·.d)) r (ps.map (·.o)))
  (aa:az (J l) f= .fn g caps) (eJ:I.dW caps=true) (ad:ps.map (·.a)=gh (J l) args++caps) (aB:ox (J l) ps) (aO:fX ps=true)
  (bp:r.res=true) (bB:hM ps=false∨(r.dc&&rb ps)=true)
  (hd:bK C (fin (fM (dx (J l) ps) ps) dst r) os none K):bK C (J l) (⟨dst,.call f args,none⟩::os) none K:=by
 simp only[bK,ku,mu]
 exact DK ps r aa eJ ad aB aO a6 bp bB hd
theorem DL {a:List dz} {f:ay} {args:List ay} {g:FuncId} {caps:List I} {r:I} (ps:List bS) (a6:br C g (ps.map (·.d)) r (ps.map (·.o)))
  (aa:az (J l) f= .fn g caps) (eJ:I.dW caps=true) (ad:ps.map (·.a)=gh (J l) args++caps) (aB:ox (J l) ps) (aO:fX ps=true)
  (bp:r.res=true) (bB:hM ps=false∨(r.dc&&rb ps)=true)
  (hd:bK C (fin (fM (dx (J l) ps) ps) dst r) os (some (gg (J l) (use (J l) (.call f args)) dst (nx ps) r::a)) K):bK C (J l) (⟨dst,.call f args,none⟩::os) (some a) K:=by
 simp only[bK,ku,mu]
 exact DK ps r aa eJ ad aB aO a6 bp bB hd
theorem k8 (s:aj):ox s []=True∧(∀p ps,ox s (p::ps)=(p.ok s∧ox s ps))∧(∀a d o,bS.ok s ⟨a,false,d,o⟩=(view s a=some d))∧
  (∀x q d o,bS.ok s ⟨.h x q,true,d,o⟩=(I.sub q (s x)=some d∧d.et=true∧(o= .hole∨(o.et=true∧n8 d o=true)))):=by
 refine⟨rfl,fun _ _=>rfl,fun _ _ _=> ?_,fun _ _ _ _=> ?_⟩<;>simp[bS.ok]
theorem k9:(∀d,I.own (.a1 d)=true)∧(∀n xs,I.own (.aK n xs)=true)∧(∀d,I.et (.a1 d)=true)∧(∀n xs,I.et (.aK n xs)=true)∧(∀af,I.et (.agg af)= !I.dW af)∧
  (∀d e,n8 (.a1 d) (.a1 e)=true)∧(∀n xs m bD,n8 (.aK n xs) (.aK m bD)=true)∧(∀a b,n8 (.agg a) (.agg b)=(I.cH a==I.cH b)):=⟨fun _=>rfl,fun _ _=>rfl,fun _=>rfl,fun _ _=>rfl,fun _=>rfl,fun _ _=>rfl,fun _ _ _ _=>rfl,fun _ _=>rfl⟩
theorem k_ (s:aj):dx s []=s∧fM s []=s∧(∀p ps,dx s (p::ps)=dx (bS.take s p) ps)∧(∀p ps,fM s (p::ps)=fM (bS.fW s p) ps)∧
  (∀a d o,bS.take s ⟨a,false,d,o⟩=s)∧(∀a d o,bS.fW s ⟨a,false,d,o⟩=s)∧(∀x q d o,bS.take s ⟨.h x q,true,d,o⟩=cg (fz x s) x (I.put q d.b6 (s x)))∧
  (∀a d,bS.fW s ⟨a,true,d,.hole⟩=s)∧(∀x q d e,bS.fW s ⟨.h x q,true,d,.a1 e⟩=cg (iV x s) x (I.put q (.a1 e) (s x)))∧
  (∀x q d n xs,bS.fW s ⟨.h x q,true,d,.aK n xs⟩=cg (iV x s) x (I.put q (.aK n xs) (s x)))∧
  (∀x q d af,bS.fW s ⟨.h x q,true,d,.agg af⟩=cg (iV x s) x (I.put q (.agg af) (s x))):=by
 refine⟨rfl,rfl,fun _ _=>rfl,fun _ _=>rfl,?_,?_,?_,?_,?_,?_,?_⟩<;>intros<;>simp[bS.take,bS.fW]
def oy (s:aj) (fx rs:List Nat):Nat→List I→Bool→Prop
 |_,[],_=>True
 |k,o::r,b=>(o= .hole∨(o=s k∧o.et=true∧fx.contains k=true∧rs.contains k=false))∧oy s fx rs (k+1) r b
theorem lR {s:aj} {fx:List Nat} {dK:List ResultVar} {outs:List I} (h:oy s fx (dK.map gT) 0 outs true):∀(i:Nat) (o:I),outs[i]? =some o→o= .hole∨(o=s i∧o.et=true∧i∈fx∧i∉dK.map gT):=by
 have key:∀(outs:List I) (k:Nat),oy s fx (dK.map gT) k outs true→∀(i:Nat) (o:I),outs[i]? =some o→o= .hole∨(o=s (k+i)∧o.et=true∧k+i∈fx∧k+i∉dK.map gT):=by
  intro outs
  induction outs with
  |nil=>intro k _ i o h;simp at h
  |cons a outs ih=>
   intro k h i o bI
   cases i with
   |zero=>
    simp at bI;subst bI
    rcases h.1 with h|⟨aa,ad,aB,aO⟩
    ·exact .inl h
    ·exact .inr ⟨aa,ad,by simpa using aB,by simpa using aO⟩
   |succ i=>
    have:=ih (k+1) h.2 i o (by simpa using bI)
    rw[show k+(i+1)=k+1+i by omega];exact this
 intro i o bI
 have:=key outs 0 h i o bI
 simpa using this
theorem hS {s:aj} {fx rs:List Nat} {k:Nat} {l:List I} (h:oy s fx rs (k+1) l true):oy s fx rs k (.hole::l) true:=⟨.inl rfl,h⟩
theorem lS {s:aj} {fx rs:List Nat} {k:Nat} {o:I} {l:List I} (aa:o=s k) (ad:o.et=true) (aB:fx.contains k=true) (aO:rs.contains k=false) (h:oy s fx rs (k+1) l true):oy s fx rs k (o::l) true:=⟨.inr ⟨aa,ad,aB,aO⟩,h⟩
theorem lT {s:aj} {fx rs:List Nat} {k:Nat}:oy s fx rs k [] true:=trivial
theorem br.nil {C:bq} {f:FuncId} {args:List I} {r:I} {outs:List I} (i:Nat) (h:br C f (args.set i (.slice [])) r outs) (aA:args[i]? =some .bH):br C f args r outs:=by
 intro w F X S vs aJ aC
 have gx:=aC.cd i
 have U:dJ args i= .bH:=by simp[dJ,List.getD,aA]
 rw[U]at gx
 have aE:ax w F (dJ args) (eT vs) (.slice []) (eT vs i) (fun _=>False):=by
  rw[ax.bJ rfl]at gx⊢
  refine⟨gx.1,?_⟩
  have ad:=gx.2
  simp only[al]at ad⊢
  exact .inl ⟨trivial,none,0,ad,Nat.zero_le _,fun _=>rfl⟩
 have ad:=aC.r9 (t:=i) rfl aE
 have aF:cg (dJ args) i (.slice [])=dJ (args.set i (.slice [])):=by
  funext t
  have cY:i<args.length:=(List.getElem?_eq_some_iff.1 aA).1
  by_cases aN:t=i
  ·subst aN;simp[cg,dJ,List.getD,cY]
  ·have:i≠t:=fun e=>aN e.symm
   simp[cg,aN,dJ,List.getD,this]
 have aI:cg (eT vs) i (eT vs i)=eT vs:=by
  funext t
  by_cases aN:t=i
  ·subst aN;simp[cg]
  ·simp[cg,aN]
 rw[aF,aI]at ad
 exact h w F X _ vs (by simpa using aJ) ad
def oz (C:bq) (s:aj) (y:Nat) (q:List Nat) (b:Int):kk→Option I→Option (I×aj)
 | .slice e,some (.aK sz xs)=>(match ej xs 0 b with
   |some t=>if(C.T e).ok=true then(match bR s (.h y q)with|some (_,s1)=>some (.aK sz t,s1)|none=>none)else none
   |none=>none)
 |_,_=>none
theorem va (C:bq) (s:aj) (T:TypeId) (y:Nat) (q:List Nat):(∀k b,cC C s T (.h y q) none (some (.int k b))=oz C s y q b (C.T T).k (I.sub q (s y)))∧
  (∀k b cy,cC C s T (.h y q) (some (.int cy 0)) (some (.int k b))=oz C s y q b (C.T T).k (I.sub q (s y)))∧
  (∀e sz xs b t,ej xs 0 b=some t→oz C s y q b (.slice e) (some (.aK sz xs))=if(C.T e).ok=true then(match bR s (.h y q)with|some (_,s1)=>some (.aK sz t,s1)|none=>none)else none):=by
 have key:∀(b_:Option I) (k:IntKind) (b:Int),fy 0 b_=some 0→cC C s T (.h y q) b_ (some (.int k b))=oz C s y q b (C.T T).k (I.sub q (s y)):=by
  intro b_ k b bz
  simp only[cC]
  generalize (C.T T).k=iz
  cases iz<;>first|rfl|skip
  rename_i e
  cases U:I.sub q (s y)with
  |none=>simp only[U];rfl
  |some d=>
   cases d with
   |aK sz xs=>
    have vb:fy xs.length (some (.int k b))=if 0≤b then some b.toNat else none:=rfl
    simp only[U,bz,vb,oz,ej]
    by_cases R:0≤b
    ·by_cases ai:b≤xs.length
     ·have aa:b.toNat≤xs.length:=by omega
      simp only[R,ai,aa,if_true,true_and,Int.le_refl,and_self,Int.toNat_zero,List.drop_zero]
      rfl
     ·have aa:¬b.toNat≤xs.length:=by omega
      simp only[R,ai,aa,if_true,if_false,and_false,false_and,Int.le_refl]
    ·simp only[R,if_false,false_and,and_false]
   |_=>simp only[U];rfl
 refine⟨fun k b=>key _ _ _ rfl,fun k b cy=>key _ _ _ (by simp[fy]),fun e sz xs b t h=> ?_⟩
 simp only[oz,h]
theorem vc (C:bq) (l:List (Nat×I)) (da:Bool) (x y:ay):aZ C (J l) (.fL da x y)=bZ (J l) (fL da (az (J l) x) (az (J l) y)):=by simp only[aZ,kv]
theorem vd (C:bq) (l:List (Nat×I)) (dst:Option Nat) (os:List bm) (K:Option (List dz)→aj→Prop):
  (∀da x y,bK C (J l) (⟨dst,.fL da x y,none⟩::os) none K=cv C dst os K (bZ (J l) (fL da (az (J l) x) (az (J l) y))))∧
  (∀a da x y,bK C (J l) (⟨dst,.fL da x y,none⟩::os) (some a) K=cw C l (use (J l) (.fL da x y)) (cf (J l) (.fL da x y)) dst os a K (bZ (J l) (fL da (az (J l) x) (az (J l) y))))∧
  (∀da x y t b,bM C l dst (.fL da x y) t b os none K (.bool b)=cv C dst os K (bZ (J l) (fL da (az (J l) x) (az (J l) y))))∧
  (∀a da x y t b,bM C l dst (.fL da x y) t b os (some a) K (.bool b)=cw C l (t::use (J l) (.fL da x y)) (cf (J l) (.fL da x y)) dst os a K (bZ (J l) (fL da (az (J l) x) (az (J l) y)))):=
 ⟨fun _ x y=>(gI rfl).trans (congrArg _ (vc ..)),fun _ _ x y=>(gJ rfl).trans (congrArg _ (vc ..)),fun _ x y _ _=>(dE rfl).trans (congrArg _ (vc ..)),fun _ _ x y _ _=>(dF rfl).trans (congrArg _ (vc ..))⟩
theorem ve (da:Bool) (k:IntKind) (a b:Int):fL da (.int k a) (.int k b)=some (.int k (eo da a b)):=if_pos rfl
end
end Go.b9
