/- Part of a proof that a law returns true for every input. No condition. -/
import Derived.Test.YtocllehpepigpaaGreatDoorFwH
import Derived.Laws.Externs
import Derived.Lib.Bytealg
namespace Go.cI
theorem Hl {C:bS} {f:FuncId} {fn:Func} (br:C.P.funcs[f]? =some fn) (kU:(fn.name== "runtime.NumGoroutine")=false) (U:fn.body.isNone=true) (aV:Extern.findNext fn=none)
  {E:Array Value→Sem Value} (he:Extern.find fn=some E) (a:List UInt8) (c:UInt8) (n:Int) (BR:∀w,(E #[.string ⟨⟨a⟩⟩,.int .u8 c.toNat]).run C.P w= .ok (.int .i64 n) w):bh C f [.str a,.int .u8 c.toNat] (.int .i64 n) []:=by
 intro w F X S vs aO aH
 have bm:=lE (aH.cN 0)
 have ad:=l_ (aH.cN 1)
 have Pf:vs=[.string ⟨⟨a⟩⟩,.int .u8 c.toNat]:=by
  match vs,aO with
  |[x,y],_=>
   have gf:x= .string ⟨⟨a⟩⟩:=bm
   have aT:y= .int .u8 c.toNat:=ad
   rw[gf,aT]
 subst Pf
 refine .inr ⟨.int .i64 n,w,?_,F,S,?_⟩
 ·rw[run_callFunc_extern br kU U aV he,BR]
  rfl
 ·refine⟨aH.gF,aH.gS,aH.eT,aH.eg,aH.fa,aH.eN,aH.dp,fun t=> ?_,aH.old,aH.size,aH.os,aH.tape,aH.output,aH.gn⟩
  cases t with
  |zero=>exact(aB.b9 rfl).2 ⟨rfl,by simp only[bU,hp,gA];rw[show e9 (.int .i64 n::[]) 0= .int .i64 n from rfl,ak];rfl⟩
  |succ t=>
   show aB w F _ _ (e9 [I.int .i64 n] (t+1)) _ _
   rw[show e9 [I.int .i64 n] (t+1)= .hole from rfl,aB];trivial
section
variable {C:bS} {l:List (Nat×I)} {os:List bO} {K:Option (List eU)→an→Prop} {dst:Option Nat}
theorem bh.nil {C:bS} {f:FuncId} {args:List I} {r:I} {outs:List I} (i:Nat) (h:bh C f (args.set i (.slice [])) r outs) (ay:args[i]? =some .bk):bh C f args r outs:=by
 intro w F X S vs aO aH
 have iI:=aH.cN i
 have aa:e9 args i= .bk:=by simp[e9,List.getD,ay]
 rw[aa]at iI
 have aI:aB w F (e9 args) (gA vs) (.slice []) (gA vs i) (fun _=>False):=by
  rw[aB.b9 rfl]at iI⊢
  refine⟨iI.1,?_⟩
  have ag:=iI.2
  simp only[ak]at ag⊢
  exact .inl ⟨trivial,none,0,ag,Nat.zero_le _,fun _=>rfl⟩
 have ag:=aH.uo (t:=i) rfl aI
 have aT:c7 (e9 args) i (.slice [])=e9 (args.set i (.slice [])):=by
  funext t
  have d_:i<args.length:=(List.getElem?_eq_some_iff.1 ay).1
  by_cases aY:t=i
  ·subst aY;simp[c7,e9,List.getD,d_]
  ·have:i≠t:=fun e=>aY e.symm
   simp[c7,aY,e9,List.getD,this]
 have aX:c7 (gA vs) i (gA vs i)=gA vs:=by
  funext t
  by_cases aY:t=i
  ·subst aY;simp[c7]
  ·simp[c7,aY]
 rw[aT,aX]at ag
 exact h w F X _ vs (by simpa using aO) ag
def qo (C:bS) (s:an) (y:Nat) (q:List Nat) (b:Int):mE→Option I→Option (I×an)
 | .slice e,some (.aL sz xs)=>(match e1 xs 0 b with
   |some t=>if(C.T e).ok=true then(match ch s (.h y q)with|some (_,s1)=>some (.aL sz t,s1)|none=>none)else none
   |none=>none)
 |_,_=>none
theorem xL (C:bS) (s:an) (T:TypeId) (y:Nat) (q:List Nat):(∀k b,dh C s T (.h y q) none (some (.int k b))=qo C s y q b (C.T T).k (I.sub q (s y)))∧
  (∀k b dj,dh C s T (.h y q) (some (.int dj 0)) (some (.int k b))=qo C s y q b (C.T T).k (I.sub q (s y)))∧
  (∀e sz xs b t,e1 xs 0 b=some t→qo C s y q b (.slice e) (some (.aL sz xs))=if(C.T e).ok=true then(match ch s (.h y q)with|some (_,s1)=>some (.aL sz t,s1)|none=>none)else none):=by
 have key:∀(cJ:Option I) (k:IntKind) (b:Int),hC 0 cJ=some 0→dh C s T (.h y q) cJ (some (.int k b))=qo C s y q b (C.T T).k (I.sub q (s y)):=by
  intro cJ k b bm
  simp only[dh]
  generalize (C.T T).k=kL
  cases kL<;>first|rfl|skip
  rename_i e
  cases aa:I.sub q (s y)with
  |none=>simp only[aa];rfl
  |some d=>
   cases d with
   |aL sz xs=>
    have xM:hC xs.length (some (.int k b))=if 0≤b then some b.toNat else none:=rfl
    simp only[aa,bm,xM,qo,e1]
    by_cases U:0≤b
    ·by_cases aj:b≤xs.length
     ·have ad:b.toNat≤xs.length:=by omega
      simp only[U,aj,ad,if_true,true_and,Int.le_refl,and_self,Int.toNat_zero,List.drop_zero]
      rfl
     ·have ad:¬b.toNat≤xs.length:=by omega
      simp only[U,aj,ad,if_true,if_false,and_false,false_and,Int.le_refl]
    ·simp only[U,if_false,false_and,and_false]
   |_=>simp only[aa];rfl
 refine⟨fun k b=>key _ _ _ rfl,fun k b dj=>key _ _ _ (by simp[hC]),fun e sz xs b t h=> ?_⟩
 simp only[qo,h]
theorem xN (C:bS) (l:List (Nat×I)) (el:Bool) (x y:aC):bq C (R l) (.h_ el x y)=cx (R l) (h_ el (aE (R l) x) (aE (R l) y)):=by simp only[bq,mN]
theorem Hm (C:bS) (l:List (Nat×I)) (dst:Option Nat) (os:List bO) (K:Option (List eU)→an→Prop):
  (∀el x y,cj C (R l) (⟨dst,.h_ el x y,none⟩::os) none K=de C dst os K (cx (R l) (h_ el (aE (R l) x) (aE (R l) y))))∧
  (∀a el x y,cj C (R l) (⟨dst,.h_ el x y,none⟩::os) (some a) K=df C l (use (R l) (.h_ el x y)) (cO (R l) (.h_ el x y)) dst os a K (cx (R l) (h_ el (aE (R l) x) (aE (R l) y))))∧
  (∀el x y t b,b8 C l dst (.h_ el x y) t b os none K (.bool b)=de C dst os K (cx (R l) (h_ el (aE (R l) x) (aE (R l) y))))∧
  (∀a el x y t b,b8 C l dst (.h_ el x y) t b os (some a) K (.bool b)=df C l (t::use (R l) (.h_ el x y)) (cO (R l) (.h_ el x y)) dst os a K (cx (R l) (h_ el (aE (R l) x) (aE (R l) y)))):=
 ⟨fun _ x y=>(iU rfl).trans (congrArg _ (xN ..)),fun _ _ x y=>(iV rfl).trans (congrArg _ (xN ..)),fun _ x y _ _=>(e5 rfl).trans (congrArg _ (xN ..)),fun _ _ x y _ _=>(e6 rfl).trans (congrArg _ (xN ..))⟩
theorem Hn (el:Bool) (k:IntKind) (a b:Int):h_ el (.int k a) (.int k b)=some (.int k (h3 el a b)):=if_pos rfl
end
end Go.cI
