/- Part of a proof that a law returns true for every input. No condition. -/
import Derived.Test.YtpddiknnnoomoaaU4
namespace Go.eF
open Go Go.bV
theorem Pb (x:aP):ti x x=some true:=by
 unfold ti;simp
theorem Pc (a:List aP) (h:a.length≤1048576):pT a a=some true:=by
 unfold pT
 have e:((a.length:Int) !=(a.length:Int))=false:=by simp
 rw[e]
 simp only[cond_false]
 rw[Ce (n:=a.length) (fun _=>some true)]
 ·intro m
  simp only[pS,tj]
  rw[kA (Nat.le_refl _)];rfl
 ·intro i az m ih
  simp only[pS,tj]
  rw[mb az,p2 _ i az,m7 i _ az (by omega),ih]
  simp only[cond_true,Option.bind_some,Pb,Bool.not_true,cond_false]
end Go.eF
