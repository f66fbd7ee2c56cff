/- Part of a proof that a law returns true for every input. No condition. -/
import Derived.Test.YtpddiknnnoomoaaP4
import Derived.Test.YtpddiknnnoomoaaU0
namespace Go.fm
open Go Go.bZ
def Dm (s:Int):Int:=cond (decide (65535<IntKind.i64.wrap (s*2))) (bitsOf .xor .i64 (bitsOf .and .i64 (IntKind.i64.wrap (s*2)) 65535) 4129) (IntKind.i64.wrap (s*2))
def uG:Nat→Int→Int
 |0,s=>s
 |k+1,s=>uG k (Dm s)
def Dn (s:Int) (c:UInt8):Int:=uG 8 (bitsOf .xor .i64 s (IntKind.i64.wrap ((c.toNat:Int)*256)))
def sI (l:List UInt8) (s:Int):Int:=l.foldl Dn s
theorem Q3 (cY:Int→Int→Option Int) (a:List UInt8) (i:Int):∀(d n:Nat) (s ad:Int),ad=8-d→d≤8→d<n→lZ cY a n s i ad=cY (uG d s) (IntKind.i64.wrap (i+1)):=by
 intro d
 induction d with
 |zero=>
  intro n s ad aU _ aR
  obtain⟨m,rfl⟩:∃m,n=m+1:=⟨n-1,by omega⟩
  simp only[lZ,sc]
  have:decide (ad<8)=false:=by simp;omega
  rw[this];rfl
 |succ d ih=>
  intro n s ad aU ab aR
  obtain⟨m,rfl⟩:∃m,n=m+1:=⟨n-1,by omega⟩
  simp only[lZ,sc,sb]
  have U:decide (ad<8)=true:=by simp;omega
  have aa:IntKind.i64.wrap (ad+1)=ad+1:=g8 _ (by omega)
  rw[U,aa]
  simp only[cond_true]
  rw[ih m _ (ad+1) (by omega) (by omega) (by omega),ih m _ (ad+1) (by omega) (by omega) (by omega)]
  simp only[uG,Dm]
  cases decide (65535<IntKind.i64.wrap (s*2))<;>rfl
theorem Q4 (a:List UInt8) (bN:a.length≤140737488355328):∀(d n:Nat) (s i:Int),i=a.length-d→d≤a.length→d<n→iB a n s i=some (sI (a.drop i.toNat) s):=by
 intro d
 induction d with
 |zero=>
  intro n s i ay _ aR
  obtain⟨m,rfl⟩:∃m,n=m+1:=⟨n-1,by omega⟩
  simp only[iB,sd]
  have U:decide (i<a.length)=false:=by simp;omega
  rw[U,List.drop_of_length_le (by omega)];rfl
 |succ d ih=>
  intro n s i ay ab aR
  obtain⟨m,rfl⟩:∃m,n=m+1:=⟨n-1,by omega⟩
  simp only[iB,sd]
  have U:decide (i<a.length)=true:=by simp;omega
  have cC:i.toNat<a.length:=by omega
  rw[U,uK (by omega) cC]
  simp only[cond_true,Option.bind_some]
  rw[kz (x:=iB a m (Dn s a[i.toNat]) (i+1)) 9]
  ·rw[ih m _ (i+1) (by omega) (by omega) (by omega)]
   have:(i+1).toNat=i.toNat+1:=by omega
   rw[this,List.drop_eq_getElem_cons cC]
   rfl
  ·intro n aR
   rw[Q3 _ a i 8 n _ 0 (by omega) (by omega) (by omega),g8 (i+1) (by omega)]
   rfl
theorem Dp (a:List UInt8) (bN:a.length≤140737488355328) (s:Int):qt a s=some (sI a s):=by
 unfold qt
 refine kz (a.length+1) fun n aR=> ?_
 rw[Q4 a bN a.length n s 0 (by omega) (by omega) (by omega)];rfl
theorem Q5 (a:List UInt8) (s:Int) (h:0≤s∧s≤65535):tY a s=qt a s:=by
 have aG:∀k n s i ad,oT k a n s i ad=lZ k a n s i ad:=by
  intro k n
  induction n with
  |zero=>intros;rfl
  |succ n ih=>
   intro s i ad
   simp only[oT,lZ,xh,sc,tW,sb,ih]
 have aL:∀n s i,kr a n s i=iB a n s i:=by
  intro n
  induction n with
  |zero=>intros;rfl
  |succ n ih=>
   intro s i
   have Q6:kr a n=iB a n:=by funext s i;exact ih s i
   simp only[kr,iB,xi,sd,aG,Q6]
 unfold tY qt si
 have I:(decide (0≤s)&&decide (s≤65535))=true:=by simp[h]
 simp only[I,Option.bind_some,Bool.not_true,cond_false,aL]
end Go.fm
