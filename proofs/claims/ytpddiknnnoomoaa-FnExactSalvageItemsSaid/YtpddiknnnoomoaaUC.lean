/- Part of a proof that a law returns true for every input. No condition. -/
import Derived.Test.YtpddiknnnoomoaaP3
import Derived.Test.YtpddiknnnoomoaaU0
namespace Go.eF
open Go Go.bV
def Cl (s:Int):Int:=cond (decide (65535<IntKind.i64.wrap (s*2))) (bitsOf .xor .i64 (bitsOf .and .i64 (IntKind.i64.wrap (s*2)) 65535) 4129) (IntKind.i64.wrap (s*2))
def tG:Nat→Int→Int
 |0,s=>s
 |k+1,s=>tG k (Cl s)
def Cm (s:Int) (c:UInt8):Int:=tG 8 (bitsOf .xor .i64 s (IntKind.i64.wrap ((c.toNat:Int)*256)))
def rU (l:List UInt8) (s:Int):Int:=l.foldl Cm s
theorem OU (cZ:Int→Int→Option Int) (a:List UInt8) (i:Int):∀(d n:Nat) (s ad:Int),ad=8-d→d≤8→d<n→la cZ a n s i ad=cZ (tG d s) (IntKind.i64.wrap (i+1)):=by
 intro d
 induction d with
 |zero=>
  intro n s ad aS _ aV
  obtain⟨m,rfl⟩:∃m,n=m+1:=⟨n-1,by omega⟩
  simp only[la,ri]
  have:decide (ad<8)=false:=by simp;omega
  rw[this];rfl
 |succ d ih=>
  intro n s ad aS ab aV
  obtain⟨m,rfl⟩:∃m,n=m+1:=⟨n-1,by omega⟩
  simp only[la,ri,rh]
  have U:decide (ad<8)=true:=by simp;omega
  have aa:IntKind.i64.wrap (ad+1)=ad+1:=fp _ (by omega)
  rw[U,aa]
  simp only[cond_true]
  rw[ih m _ (ad+1) (by omega) (by omega) (by omega),ih m _ (ad+1) (by omega) (by omega) (by omega)]
  simp only[tG,Cl]
  cases decide (65535<IntKind.i64.wrap (s*2))<;>rfl
theorem OV (a:List UInt8) (bU:a.length≤140737488355328):∀(d n:Nat) (s i:Int),i=a.length-d→d≤a.length→d<n→hP a n s i=some (rU (a.drop i.toNat) s):=by
 intro d
 induction d with
 |zero=>
  intro n s i az _ aV
  obtain⟨m,rfl⟩:∃m,n=m+1:=⟨n-1,by omega⟩
  simp only[hP,rj]
  have U:decide (i<a.length)=false:=by simp;omega
  rw[U,List.drop_of_length_le (by omega)];rfl
 |succ d ih=>
  intro n s i az ab aV
  obtain⟨m,rfl⟩:∃m,n=m+1:=⟨n-1,by omega⟩
  simp only[hP,rj]
  have U:decide (i<a.length)=true:=by simp;omega
  have cv:i.toNat<a.length:=by omega
  rw[U,tK (by omega) cv]
  simp only[cond_true,Option.bind_some]
  rw[jh (x:=hP a m (Cm s a[i.toNat]) (i+1)) 9]
  ·rw[ih m _ (i+1) (by omega) (by omega) (by omega)]
   have:(i+1).toNat=i.toNat+1:=by omega
   rw[this,List.drop_eq_getElem_cons cv]
   rfl
  ·intro n aV
   rw[OU _ a i 8 n _ 0 (by omega) (by omega) (by omega),fp (i+1) (by omega)]
   rfl
theorem Cn (a:List UInt8) (bU:a.length≤140737488355328) (s:Int):pI a s=some (rU a s):=by
 unfold pI
 refine jh (a.length+1) fun n aV=> ?_
 rw[OV a bU a.length n s 0 (by omega) (by omega) (by omega)];rfl
theorem OW (a:List UInt8) (s:Int) (h:0≤s∧s≤65535):tb a s=pI a s:=by
 have aE:∀k n s i ad,n1 k a n s i ad=la k a n s i ad:=by
  intro k n
  induction n with
  |zero=>intros;rfl
  |succ n ih=>
   intro s i ad
   simp only[n1,la,wF,ri,s_,rh,ih]
 have aL:∀n s i,jN a n s i=hP a n s i:=by
  intro n
  induction n with
  |zero=>intros;rfl
  |succ n ih=>
   intro s i
   have OX:jN a n=hP a n:=by funext s i;exact ih s i
   simp only[jN,hP,wG,rj,aE,OX]
 unfold tb pI rn
 have I:(decide (0≤s)&&decide (s≤65535))=true:=by simp[h]
 simp only[I,Option.bind_some,Bool.not_true,cond_false,aL]
end Go.eF
