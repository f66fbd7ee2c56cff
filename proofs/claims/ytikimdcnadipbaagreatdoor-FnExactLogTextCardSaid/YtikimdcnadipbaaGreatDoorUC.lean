/- Part of a proof that a law returns true for every input. No condition. -/
import Derived.Test.YtikimdcnadipbaaGreatDoorP4
import Derived.Test.YtikimdcnadipbaaGreatDoorU0
namespace Go.eL
open Go Go.bZ
def tM (s:Int):Int:=cond (decide (65535<IntKind.i64.wrap (s*2))) (bitsOf .xor .i64 (bitsOf .and .i64 (IntKind.i64.wrap (s*2)) 65535) 4129) (IntKind.i64.wrap (s*2))
def rG:Nat→Int→Int
 |0,s=>s
 |k+1,s=>rG k (tM s)
def rH (s:Int) (c:UInt8):Int:=rG 8 (bitsOf .xor .i64 s (IntKind.i64.wrap ((c.toNat:Int)*256)))
def kE (l:List UInt8) (s:Int):Int:=l.foldl rH s
theorem Xj (dj:Int→Int→Option Int) (a:List UInt8) (i:Int):∀(d n:Nat) (s j:Int),j=8-d→d≤8→d<n→mA dj a n s i j=dj (rG d s) (IntKind.i64.wrap (i+1)):=by
 intro d
 induction d with
 |zero=>
  intro n s j bE _ aQ
  obtain⟨m,rfl⟩:∃m,n=m+1:=⟨n-1,by omega⟩
  simp only[mA,te]
  have:decide (j<8)=false:=by simp;omega
  rw[this];rfl
 |succ d ih=>
  intro n s j bE ae aQ
  obtain⟨m,rfl⟩:∃m,n=m+1:=⟨n-1,by omega⟩
  simp only[mA,te,td]
  have aa:decide (j<8)=true:=by simp;omega
  have ab:IntKind.i64.wrap (j+1)=j+1:=eO _ (by omega)
  rw[aa,ab]
  simp only[cond_true]
  rw[ih m _ (j+1) (by omega) (by omega) (by omega),ih m _ (j+1) (by omega) (by omega) (by omega)]
  simp only[rG,tM]
  cases decide (65535<IntKind.i64.wrap (s*2))<;>rfl
theorem Xk (a:List UInt8) (br:a.length≤140737488355328):∀(d n:Nat) (s i:Int),i=a.length-d→d≤a.length→d<n→iW a n s i=some (kE (a.drop i.toNat) s):=by
 intro d
 induction d with
 |zero=>
  intro n s i ay _ aQ
  obtain⟨m,rfl⟩:∃m,n=m+1:=⟨n-1,by omega⟩
  simp only[iW,tf]
  have aa:decide (i<a.length)=false:=by simp;omega
  rw[aa,List.drop_of_length_le (by omega)];rfl
 |succ d ih=>
  intro n s i ay ae aQ
  obtain⟨m,rfl⟩:∃m,n=m+1:=⟨n-1,by omega⟩
  simp only[iW,tf]
  have aa:decide (i<a.length)=true:=by simp;omega
  have cJ:i.toNat<a.length:=by omega
  rw[aa,Aj (by omega) cJ]
  simp only[cond_true,Option.bind_some]
  rw[hM (x:=iW a m (rH s a[i.toNat]) (i+1)) 9]
  ·rw[ih m _ (i+1) (by omega) (by omega) (by omega)]
   have:(i+1).toNat=i.toNat+1:=by omega
   rw[this,List.drop_eq_getElem_cons cJ]
   rfl
  ·intro n aQ
   rw[Xj _ a i 8 n _ 0 (by omega) (by omega) (by omega),eO (i+1) (by omega)]
   rfl
theorem FQ (a:List UInt8) (br:a.length≤140737488355328) (s:Int):pH a s=some (kE a s):=by
 unfold pH
 refine hM (a.length+1) fun n aQ=> ?_
 rw[Xk a br a.length n s 0 (by omega) (by omega) (by omega)];rfl
theorem Xl (a:List UInt8) (s:Int) (h:0≤s∧s≤65535):ru a s=pH a s:=by
 have aF:∀k n s i j,pP k a n s i j=mA k a n s i j:=by
  intro k n
  induction n with
  |zero=>intros;rfl
  |succ n ih=>
   intro s i j
   simp only[pP,mA,za,te,vQ,td,ih]
 have aJ:∀n s i,lf a n s i=iW a n s i:=by
  intro n
  induction n with
  |zero=>intros;rfl
  |succ n ih=>
   intro s i
   have wE:lf a n=iW a n:=by funext s i;exact ih s i
   simp only[lf,iW,zb,tf,aF,wE]
 unfold ru pH nw
 have J:(decide (0≤s)&&decide (s≤65535))=true:=by simp[h]
 simp only[J,Option.bind_some,Bool.not_true,cond_false,aJ]
theorem Xm (a:List UInt8) (br:a.length≤140737488355328) (s:Int) (h:0≤s∧s≤65535):ru a s=some (kE a s):=(Xl a s h).trans (FQ a br s)
end Go.eL
