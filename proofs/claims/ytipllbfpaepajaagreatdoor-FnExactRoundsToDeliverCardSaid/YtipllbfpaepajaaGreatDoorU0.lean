/- Part of a proof that a law returns true for every input. No condition. -/
import Derived.Test.YtipllbfpaepajaaGreatDoorFwA
import Derived.IntWalk
namespace Go.e3
open Go Go.b9
theorem dn (n:Int) (h: -9223372036854775808≤n∧n≤9223372036854775807):IntKind.i64.wrap n=n:=IntWalk.i64_in n h
theorem gE {α:Type} (a:List α) (i:Nat) (h:i<a.length):cF a (i:Int)=some a[i]:=by
 rw[GA (by omega) (by simpa using h)];rfl
theorem rX {α:Type} (a:List α) (n:Nat) (h:n≤a.length):ej a 0 (n:Int)=some (a.take n):=by
 unfold ej
 rw[if_pos (by omega)];simp
theorem iR (i n:Nat) (h:i<n) (aW:n≤4611686018427387904):IntKind.i64.wrap ((i:Int)+1)=((i+1:Nat):Int):=by
 rw[dn _ (by omega)];omega
theorem jh {i n:Nat} (h:i<n):decide ((i:Int)<(n:Int))=true:=by simp;omega
theorem ji {i n:Nat} (h:n≤i):decide ((i:Int)<(n:Int))=false:=by simp;omega
theorem wL {α:Type} (c:α) (r:List α):cF (c::r) 0=some c:=rfl
theorem wI {n:Nat} (h:0<n):decide ((0:Int)<(n:Int))=true:=by simp;omega
theorem Xx:IntKind.i64.wrap (0+1)=1:=by decide
theorem down (n:Nat) {P:Nat→Prop} (bz:P n) (U:∀i,i<n→P (i+1)→P i):∀i,i≤n→P i:=by
 have key:∀d,d≤n→P (n-d):=by
  intro d
  induction d with
  |zero=>intro _;exact bz
  |succ d ih=>
   intro ae
   have:=ih (by omega)
   refine U _ (by omega) ?_
   rw[show n-(d+1)+1=n-d by omega];exact this
 intro i aA
 have:=key (n-i) (by omega)
 rwa [show n-(n-i)=i by omega]at this
theorem up {β:Type} {l:Nat→Int→Option β} {n:Nat} (F:Nat→Option β) (bz:∀m,l (m+1) (n:Int)=F n)
  (U:∀i,i<n→∀m,(l m ((i+1:Nat):Int)=F (i+1))→l (m+1) (i:Int)=F i):∀i,i≤n→∀m,n-i<m→l m (i:Int)=F i:=by
 refine down n ?_ ?_
 ·intro m hm
  obtain⟨k,rfl⟩:∃k,m=k+1:=⟨m-1,by omega⟩
  exact bz k
 ·intro i aA ih m hm
  obtain⟨k,rfl⟩:∃k,m=k+1:=⟨m-1,by omega⟩
  exact U i aA k (ih k (by omega))
theorem rY {β:Type} {l:Nat→Int→Option β} {n:Nat} (F:Nat→Option β) (bz:∀m,l (m+1) (n:Int)=F n)
  (U:∀i,i<n→∀m,(l m ((i+1:Nat):Int)=F (i+1))→l (m+1) (i:Int)=F i):en (fun m=>l m 0)=F 0:=
 ki (n+1) fun m hm=>up F bz U 0 (by omega) m (by omega)
theorem drop_cons {α:Type} (a:List α) (i:Nat) (h:i<a.length):a.drop i=a[i]::a.drop (i+1):=List.drop_eq_getElem_cons h
end Go.e3
