/- Part of a proof that a law returns true for every input. No condition. -/
import Derived.Test.YtpddiknnnoomoaaU4
namespace Go.fm
open Go Go.bZ
theorem Q_ (x:aP):oV x x=some true:=by
 unfold oV;simp
theorem Ra (a:List aP) (h:a.length≤1048576):l3 a a=some true:=by
 unfold l3
 have e:((a.length:Int) !=(a.length:Int))=false:=by simp
 rw[e]
 simp only[cond_false]
 rw[sG (n:=a.length) (fun _=>some true)]
 ·intro m
  simp only[qE,ue]
  rw[jV (Nat.le_refl _)];rfl
 ·intro i ay m ih
  simp only[qE,ue]
  rw[ll ay,mc _ i ay,me i _ ay (by omega),ih]
  simp only[cond_true,Option.bind_some,Q_,Bool.not_true,cond_false]
end Go.fm
