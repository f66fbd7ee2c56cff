/- Part of a proof that a law returns true for every input. No condition. -/
import Derived.Test.YtpddiknnnoomoaaUC
namespace Go.eF
open Go Go.bV
def oe (a:List UInt8):Int×Int:=
 if a.length<3 then(0,11)else
 if rU (a.take (a.length-2)) 65535≠(a.getD (a.length-2) 0).toNat*256+(a.getD (a.length-1) 0).toNat then(0,10)else
 if¬(1≤(a.getD 0 0).toNat∧(a.getD 0 0).toNat≤3)∨6000<a.length then(0,9)else((a.getD 0 0).toNat,0)
theorem Co (a:List UInt8) (bU:a.length≤140737488355328):rk a=some (oe a):=by
 unfold rk oe
 by_cases aw:a.length<3
 ·have:decide ((a.length:Int)<3)=true:=by simp;omega
  rw[this,if_pos aw];rfl
 ·have I:decide ((a.length:Int)<3)=false:=by simp;omega
  have aL:IntKind.i64.wrap ((a.length:Int)-2)=((a.length-2:Nat):Int):=by rw[fp _ (by omega)];omega
  have aE:IntKind.i64.wrap ((a.length:Int)-1)=((a.length-1:Nat):Int):=by rw[fp _ (by omega)];omega
  have dI:c7 a 0=some (a.getD 0 0):=m6 a 0 0 (by omega)
  rw[I,if_neg aw,aL,aE,tF a _ (by omega),m6 a _ 0 (by omega),m6 a (a.length-1) 0 (by omega),dI]
  simp only[cond_false,Option.bind_some]
  rw[Cn _ (by simp;omega)]
  have et:=(a.getD (a.length-2) 0).toNat_lt
  have l2:=(a.getD (a.length-1) 0).toNat_lt
  have oH:=(a.getD 0 0).toNat_lt
  generalize (a.getD (a.length-2) 0).toNat=p at*
  generalize (a.getD (a.length-1) 0).toNat=q at*
  generalize (a.getD 0 0).toNat=k at*
  rw[fp ((p:Int)*256) (by omega),fp _ (by omega)]
  simp only[Option.bind_some,s0]
  by_cases ae:rU (a.take (a.length-2)) 65535=(p:Int)*256+q
  ·rw[ae]
   simp only[bne_self_eq_false,cond_false]
   rw[if_neg (by simp)]
   by_cases ai:(1≤k∧k≤3)∧¬6000<a.length
   ·have:(!(decide (1≤(k:Int))&&decide ((k:Int)≤3))||decide (6000<(a.length:Int)))=false:=by simp;omega
    rw[this,if_neg (by omega)];rfl
   ·have:(!(decide (1≤(k:Int))&&decide ((k:Int)≤3))||decide (6000<(a.length:Int)))=true:=by simp;omega
    rw[this,if_pos (by omega)];rfl
  ·have:(rU (a.take (a.length-2)) 65535 !=(p:Int)*256+q)=true:=by simpa using ae
   rw[this,if_pos ae];rfl
theorem OY (a:List UInt8) (bU:a.length≤140737488355328):tc a=some (oe a):=by
 rw[←Co a bU]
 unfold tc rk
 by_cases aw:a.length<3
 ·have:decide ((a.length:Int)<3)=true:=by simp;omega
  rw[this];rfl
 ·have aL:IntKind.i64.wrap ((a.length:Int)-2)=((a.length-2:Nat):Int):=by rw[fp _ (by omega)];omega
  have aE:IntKind.i64.wrap ((a.length:Int)-1)=((a.length-1:Nat):Int):=by rw[fp _ (by omega)];omega
  have dI:c7 a 0=some (a.getD 0 0):=m6 a 0 0 (by omega)
  rw[aL,aE,tF a _ (by omega),m6 a _ 0 (by omega),m6 a (a.length-1) 0 (by omega),dI]
  simp only[Option.bind_some]
  rw[OW _ _ (by omega),Cn _ (by simp;omega)]
  simp only[Option.bind_some,rn,s0]
  rw[bne_comm]
end Go.eF
