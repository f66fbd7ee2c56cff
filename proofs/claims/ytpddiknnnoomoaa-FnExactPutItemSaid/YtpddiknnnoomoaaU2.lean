/- Part of a proof that a law returns true for every input. No condition. -/
import Derived.Test.YtpddiknnnoomoaaUC
namespace Go.fm
open Go Go.bZ
def m3 (a:List UInt8):Int×Int:=
 if a.length<3 then(0,11)else
 if sI (a.take (a.length-2)) 65535≠(a.getD (a.length-2) 0).toNat*256+(a.getD (a.length-1) 0).toNat then(0,10)else
 if¬(1≤(a.getD 0 0).toNat∧(a.getD 0 0).toNat≤3)∨6000<a.length then(0,9)else((a.getD 0 0).toNat,0)
theorem xX (a:List UInt8) (bN:a.length≤140737488355328):oS a=some (m3 a):=by
 unfold oS m3
 by_cases aw:a.length<3
 ·have:decide ((a.length:Int)<3)=true:=by simp;omega
  rw[this,if_pos aw];rfl
 ·have I:decide ((a.length:Int)<3)=false:=by simp;omega
  have aL:IntKind.i64.wrap ((a.length:Int)-2)=((a.length-2:Nat):Int):=by rw[g8 _ (by omega)];omega
  have aG:IntKind.i64.wrap ((a.length:Int)-1)=((a.length-1:Nat):Int):=by rw[g8 _ (by omega)];omega
  have dL:cX a 0=some (a.getD 0 0):=ky a 0 0 (by omega)
  rw[I,if_neg aw,aL,aG,C6 a _ (by omega),ky a _ 0 (by omega),ky a (a.length-1) 0 (by omega),dL]
  simp only[cond_false,Option.bind_some]
  rw[Dp _ (by simp;omega)]
  have ed:=(a.getD (a.length-2) 0).toNat_lt
  have l2:=(a.getD (a.length-1) 0).toNat_lt
  have pH:=(a.getD 0 0).toNat_lt
  generalize (a.getD (a.length-2) 0).toNat=p at*
  generalize (a.getD (a.length-1) 0).toNat=q at*
  generalize (a.getD 0 0).toNat=k at*
  rw[g8 ((p:Int)*256) (by omega),g8 _ (by omega)]
  simp only[Option.bind_some,tO]
  by_cases ae:sI (a.take (a.length-2)) 65535=(p:Int)*256+q
  ·rw[ae]
   simp only[bne_self_eq_false,cond_false]
   rw[if_neg (by simp)]
   by_cases al:(1≤k∧k≤3)∧¬6000<a.length
   ·have:(!(decide (1≤(k:Int))&&decide ((k:Int)≤3))||decide (6000<(a.length:Int)))=false:=by simp;omega
    rw[this,if_neg (by omega)];rfl
   ·have:(!(decide (1≤(k:Int))&&decide ((k:Int)≤3))||decide (6000<(a.length:Int)))=true:=by simp;omega
    rw[this,if_pos (by omega)];rfl
  ·have:(sI (a.take (a.length-2)) 65535 !=(p:Int)*256+q)=true:=by simpa using ae
   rw[this,if_pos ae];rfl
theorem Dq (a:List UInt8) (bN:a.length≤140737488355328):sj a=some (m3 a):=by
 rw[←xX a bN]
 unfold sj oS
 by_cases aw:a.length<3
 ·have:decide ((a.length:Int)<3)=true:=by simp;omega
  rw[this];rfl
 ·have aL:IntKind.i64.wrap ((a.length:Int)-2)=((a.length-2:Nat):Int):=by rw[g8 _ (by omega)];omega
  have aG:IntKind.i64.wrap ((a.length:Int)-1)=((a.length-1:Nat):Int):=by rw[g8 _ (by omega)];omega
  have dL:cX a 0=some (a.getD 0 0):=ky a 0 0 (by omega)
  rw[aL,aG,C6 a _ (by omega),ky a _ 0 (by omega),ky a (a.length-1) 0 (by omega),dL]
  simp only[Option.bind_some]
  rw[Q5 _ _ (by omega),Dp _ (by simp;omega)]
  simp only[Option.bind_some,si,tO]
  rw[bne_comm]
end Go.fm
