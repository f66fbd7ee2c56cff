/- Part of a proof that a law returns true for every input. No condition. -/
import Derived.Test.YteloniioljdceaaGreatDoorFwF
import Derived.Below
import Derived.ChangeShapes
import Derived.ChangeMaps5
namespace Go.ca
open List Option Go.IntKind Nat Or
def F0 (w:World):Nat->Prop:=λb=>b<w.heap.size
def Arg (w:World) (a:I) (v:Value):Prop:=a.tree=true/\b7 a v/\ah w (F0 w) a (bn v) (λ_=>False)
inductive o3 (w:World):RL->RJ->Prop
 |nil:o3 w [] []
 |cons {a:I} {v:Value} {as:RL} {vs:RJ}:Arg w a v->o3 w as vs->o3 w (a::as) (v::vs)
theorem o3.get {w:World} {as:RL} {vs:RJ} (h:o3 w as vs):vs.length=as.length/\∀i,as.getD i .hole= .hole\/Arg w (as.getD i .hole) (vs.getD i undef):=by
 induction h with
 |nil=>exact⟨rfl,λi=>.inl rfl⟩
 |cons h _ ih=>
  refine⟨by simp[ih.1],λi=>?_⟩;cases i with
  |zero=>exact .inr h
  |succ i=>simpa using ih.2 i
theorem Ki {w:World} {as:RL} {vs:RJ} (hg:gz w λ_=>False) (h:o3 w as vs):aZ w (F0 w) (λ_=>False) (F0 w) (λ_ _=>False) (cM as) (dJ vs) w:=by
 refine⟨λ_ h=>h,λ_ h=>.inl h,λ_ h=>h,λ_ _ h=>h.elim,λ_ _ h=>h.elim,λ_ _ _ _ h=>h.elim,λ_ _ h=>h.elim,λt=>?_,λ_ _ _=>rfl,Nat.le_refl _,rfl,rfl,Out.refl _,hg⟩;show ar w (F0 w) (cM as) (dJ vs) (as.getD t .hole) (vs.getD t undef) (λ_=>False);rcases h.get.2 t with e|⟨U,ab,ay⟩
 .rw[e,ar];trivial
 .exact(ar.bx U).2 ⟨ab,ay⟩
theorem bf.law {C:bl} {f:FuncId} {fn:Func} {c:Code} {as:RL} {vs:RJ} {w:World} (h:bf C f as (.bool true) []) (bq:C.P.funcs[f]? =some fn) (J:fn.body=some c)
  (h7:(fn.name== "runtime.NumGoroutine")=false) (a1:o3 w as vs) (hg:gz w λ_=>False:=by exact λ_ h=>absurd h not_mem_nil):Calls C.P f vs.toArray w λe an=>e= .returned (.bool true)/\RowKit.Below w.heap.size w an:=by
 have xI:fn.name≠ "runtime.NumGoroutine" :=by simpa using h7
 rcases h w _ _ _ vs a1.get.1 (Ki hg a1)with⟨_,ab⟩|⟨v,an,U,_⟩
 .refine ab.mono ?_;rintro e an ⟨v,rfl,a8,aB,ax⟩;have az:=ax.b9 0;have:ar an a8 (cM [I.bool true]) (dJ (v::vs)) (.bool true) v (aB 0):=az;have J:=ny this;subst J;exact⟨rfl,ax.os,ax.tape,ax.output.1,ax.size,λk ag=>ax.old k ag (λh=>h)⟩
 .simp[callFunc,bq,xI,J]at U
section
variable {H:Type} {enc:TypeId×Value->H} {P:Program} {w:World} {t:TypeId} {v:Value} {d:DataW H} {ps:List MemPlace} {base eE:Nat} {sp:Nat->Bool} {held:Bool} {r:Reach}
theorem arg_str (aI:P.underlying t=some .string) (oV:Value.okWide P w r eE t v) (ad:DataW.Trod enc P w base sp held t v d ps):∃s:RD,Arg w (.str s) v/\s.length<=maxLen:=by
 obtain⟨s,rfl,_,_,R⟩:=ChangeMaps.open_string aI oV ad;exact⟨s.data.toList,⟨rfl,rfl,by simp only[bn,eG];rw[ah]⟩,R⟩
end
end Go.ca
