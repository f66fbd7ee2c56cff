/- Part of a proof that a law returns true for every input. No condition. -/
import Derived.Test.YtocllehpepigpaaGreatDoorFwF
import Derived.Below
import Derived.ChangeShapes
import Derived.ChangeMaps5
namespace Go.cI
def F0 (w:World):Nat→Prop:=fun b=>b<w.heap.size
def Arg (w:World) (a:I) (v:Value):Prop:=a.tree=true∧ck a v∧ak w (F0 w) a (bU v) (fun _=>False)
inductive rC (w:World):List I→List Value→Prop
 |nil:rC w [] []
 |cons {a:I} {v:Value} {as:List I} {vs:List Value}:Arg w a v→rC w as vs→rC w (a::as) (v::vs)
theorem rC.get {w:World} {as:List I} {vs:List Value} (h:rC w as vs):vs.length=as.length∧∀i,as.getD i .hole= .hole∨Arg w (as.getD i .hole) (vs.getD i undef):=by
 induction h with
 |nil=>exact⟨rfl,fun i=>.inl rfl⟩
 |cons h _ ih=>
  refine⟨by simp[ih.1],fun i=> ?_⟩
  cases i with
  |zero=>exact .inr h
  |succ i=>simpa using ih.2 i
theorem O5 {w:World} {as:List I} {vs:List Value} (hg:o3 w fun _=>False) (h:rC w as vs):bw w (F0 w) (fun _=>False) (F0 w) (fun _ _=>False) (e9 as) (gA vs) w:=by
 refine⟨fun _ h=>h,fun _ h=>.inl h,fun _ h=>h,fun _ _ h=>h.elim,fun _ _ h=>h.elim,fun _ _ _ _ h=>h.elim,fun _ _ h=>h.elim,fun t=> ?_,fun _ _ _=>rfl,Nat.le_refl _,rfl,rfl,Out.refl _,hg⟩
 show aB w (F0 w) (e9 as) (gA vs) (as.getD t .hole) (vs.getD t undef) (fun _=>False)
 rcases h.get.2 t with e|⟨ad,ag,aF⟩
 ·rw[e,aB];trivial
 ·exact(aB.b9 ad).2 ⟨ag,aF⟩
theorem bh.law {C:bS} {f:FuncId} {fn:Func} {c:Code} {as:List I} {vs:List Value} {w:World} (h:bh C f as (.bool true) []) (br:C.P.funcs[f]? =some fn) (U:fn.body=some c)
  (kU:(fn.name== "runtime.NumGoroutine")=false) (cb:rC w as vs) (hg:o3 w fun _=>False:=by exact fun _ h=>absurd h List.not_mem_nil):Calls C.P f vs.toArray w fun e aA=>e= .returned (.bool true)∧RowKit.Below w.heap.size w aA:=by
 have BW:fn.name≠ "runtime.NumGoroutine" :=by simpa using kU
 rcases h w _ _ _ vs cb.get.1 (O5 hg cb)with⟨_,ag⟩|⟨v,aA,ad,_⟩
 ·refine ag.mono ?_
  rintro e aA ⟨v,rfl,bC,aG,aH⟩
  have aI:=aH.cN 0
  have:aB aA bC (e9 [I.bool true]) (gA (v::vs)) (.bool true) v (aG 0):=aI
  have U:=pY this
  subst U
  exact⟨rfl,aH.os,aH.tape,aH.output.1,aH.size,fun k ax=>aH.old k ax (fun h=>h)⟩
 ·simp[callFunc,br,BW,U]at ad
section
variable {H:Type} {enc:TypeId×Value→H} {P:Program} {w:World} {t:TypeId} {v:Value} {d:DataW H} {ps:List MemPlace} {base js:Nat} {sp:Nat→Bool} {held:Bool} {r:Reach}
theorem wf_i64 {n:Int} (h:(Lit.int .i64 n).wf=true): -9223372036854775808≤n∧n≤9223372036854775807:=by
 simp[Lit.wf,IntKind.min,IntKind.max,IntKind.signed,IntKind.bits]at h;omega
end
end Go.cI
