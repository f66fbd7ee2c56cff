/- Part of a proof that a law returns true for every input. No condition. -/
import Derived.Test.YtikimdcnadipbaaGreatDoorFwF
import Derived.Below
import Derived.ChangeShapes
import Derived.ChangeMaps5
namespace Go.bZ
def F0 (w:World):Nat→Prop:=fun b=>b<w.heap.size
def Arg (w:World) (a:I) (v:Value):Prop:=a.tree=true∧cA a v∧ak w (F0 w) a (bs v) (fun _=>False)
inductive py (w:World):List I→List Value→Prop
 |nil:py w [] []
 |cons {a:I} {v:Value} {as:List I} {vs:List Value}:Arg w a v→py w as vs→py w (a::as) (v::vs)
theorem py.get {w:World} {as:List I} {vs:List Value} (h:py w as vs):vs.length=as.length∧∀i,as.getD i .hole= .hole∨Arg w (as.getD i .hole) (vs.getD i undef):=by
 induction h with
 |nil=>exact⟨rfl,fun i=>.inl rfl⟩
 |cons h _ ih=>
  refine⟨by simp[ih.1],fun i=> ?_⟩
  cases i with
  |zero=>exact .inr h
  |succ i=>simpa using ih.2 i
theorem KH {w:World} {as:List I} {vs:List Value} (hg:lY w fun _=>False) (h:py w as vs):a1 w (F0 w) (fun _=>False) (F0 w) (fun _ _=>False) (dL as) (eJ vs) w:=by
 refine⟨fun _ h=>h,fun _ h=>.inl h,fun _ h=>h,fun _ _ h=>h.elim,fun _ _ h=>h.elim,fun _ _ _ _ h=>h.elim,fun _ _ h=>h.elim,fun t=> ?_,fun _ _ _=>rfl,Nat.le_refl _,rfl,rfl,Out.refl _,hg⟩
 show au w (F0 w) (dL as) (eJ vs) (as.getD t .hole) (vs.getD t undef) (fun _=>False)
 rcases h.get.2 t with e|⟨aa,ab,aB⟩
 ·rw[e,au];trivial
 ·exact(au.bB aa).2 ⟨ab,aB⟩
theorem bj.law {C:bm} {f:FuncId} {fn:Func} {c:Code} {as:List I} {vs:List Value} {w:World} (h:bj C f as (.bool true) []) (bc:C.P.funcs[f]? =some fn) (J:fn.body=some c)
  (iz:(fn.name== "runtime.NumGoroutine")=false) (br:py w as vs) (hg:lY w fun _=>False:=by exact fun _ h=>absurd h List.not_mem_nil):Calls C.P f vs.toArray w fun e ar=>e= .returned (.bool true)∧RowKit.Below w.heap.size w ar:=by
 have ye:fn.name≠ "runtime.NumGoroutine" :=by simpa using iz
 rcases h w _ _ _ vs br.get.1 (KH hg br)with⟨_,ab⟩|⟨v,ar,aa,_⟩
 ·refine ab.mono ?_
  rintro e ar ⟨v,rfl,a8,aE,aC⟩
  have aD:=aC.b2 0
  have:au ar a8 (dL [I.bool true]) (eJ (v::vs)) (.bool true) v (aE 0):=aD
  have J:=nT this
  subst J
  exact⟨rfl,aC.os,aC.tape,aC.output.1,aC.size,fun k al=>aC.old k al (fun h=>h)⟩
 ·simp[callFunc,bc,ye,J]at aa
section
variable {H:Type} {enc:TypeId×Value→H} {P:Program} {w:World} {t:TypeId} {v:Value} {d:DataW H} {ps:List MemPlace} {base gV:Nat} {sp:Nat→Bool} {held:Bool} {r:Reach}
theorem wf_i64 {n:Int} (h:(Lit.int .i64 n).wf=true): -9223372036854775808≤n∧n≤9223372036854775807:=by
 simp[Lit.wf,IntKind.min,IntKind.max,IntKind.signed,IntKind.bits]at h;omega
end
end Go.bZ
