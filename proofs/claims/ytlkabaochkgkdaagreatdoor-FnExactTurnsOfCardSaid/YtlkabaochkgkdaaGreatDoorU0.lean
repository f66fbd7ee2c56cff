/- Part of a proof that a law returns true for every input. No condition. -/
import Derived.Test.YtlkabaochkgkdaaGreatDoorFwA
import Derived.IntWalk
namespace Go.eU
open Go Go.c_
theorem eC (n:Int) (h: -9223372036854775808<=n/\n<=9223372036854775807):IntKind.i64.wrap n=n:=IntWalk.i64_in n h
theorem nB {α:Type} (a:List α) (i:Nat) (d:α) (h:i<a.length):bF a (i:Int)=some (a.getD i d):=by
 rw[BQ (by omega) (by simpa using h)];simp[List.getD,h]
theorem gN {α:Type} (a:List α) (i:Nat) (h:i<a.length):bF a (i:Int)=some a[i]:=by
 rw[BQ (by omega) (by simpa using h)];rfl
theorem tv {α:Type} (a:List α) (n:Nat) (h:n<=a.length):gB a 0 (n:Int)=some (a.take n):=by
 unfold gB;rw[if_pos (by omega)];simp
theorem fO (i n:Nat) (h:i<n) (a7:n<=4611686018427387904):IntKind.i64.wrap ((i:Int)+1)=((i+1:Nat):Int):=by
 rw[eC _ (by omega)];omega
theorem fX {i n:Nat} (h:i<n):decide ((i:Int)<(n:Int))=true:=by simp;omega
theorem fh {i n:Nat} (h:n<=i):decide ((i:Int)<(n:Int))=false:=by simp;omega
theorem Gk {α:Type} (c:α) (r:List α):bF (c::r) 0=some c:=rfl
theorem vN {n:Nat} (h:0<n):decide ((0:Int)<(n:Int))=true:=by simp;omega
theorem aD8:IntKind.i64.wrap (0+1)=1:=by decide
theorem down (n:Nat) {P:Nat->Prop} (ba:P n) (ae:∀i,i<n->P (i+1)->P i):∀i,i<=n->P i:=by
 have key:∀d,d<=n->P (n-d):=by
  intro d;induction d with
  |zero=>intro _;exact ba
  |succ d ih=>
   intro aj;have:=ih (by omega);refine ae _ (by omega) ?_;rw[show n-(d+1)+1=n-d by omega];exact this
 intro i an;have:=key (n-i) (by omega)
 rwa [show n-(n-i)=i by omega]at this
theorem up {β:Type} {l:Nat->Int->Option β} {n:Nat} (F:Nat->Option β) (ba:∀m,l (m+1) (n:Int)=F n)
  (ae:∀i,i<n->∀m,(l m ((i+1:Nat):Int)=F (i+1))->l (m+1) (i:Int)=F i):∀i,i<=n->∀m,n-i<m->l m (i:Int)=F i:=by
 refine down n ?_ ?_
 .intro m hm;obtain⟨k,rfl⟩:∃k,m=k+1:=⟨m-1,by omega⟩
  exact ba k
 .intro i an ih m hm;obtain⟨k,rfl⟩:∃k,m=k+1:=⟨m-1,by omega⟩
  exact ae i an k (ih k (by omega))
theorem sa {β:Type} {l:Nat->Int->Option β} {n:Nat} (F:Nat->Option β) (ba:∀m,l (m+1) (n:Int)=F n)
  (ae:∀i,i<n->∀m,(l m ((i+1:Nat):Int)=F (i+1))->l (m+1) (i:Int)=F i):cB (λm=>l m 0)=F 0:=
 ij (n+1) λm hm=>up F ba ae 0 (by omega) m (by omega)
theorem drop_cons {α:Type} (a:List α) (i:Nat) (h:i<a.length):a.drop i=a[i]::a.drop (i+1):=List.drop_eq_getElem_cons h
end Go.eU
