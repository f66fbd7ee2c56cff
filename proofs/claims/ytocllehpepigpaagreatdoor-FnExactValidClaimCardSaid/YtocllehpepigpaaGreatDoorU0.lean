/- Part of a proof that a law returns true for every input. No condition. -/
import Derived.Test.YtocllehpepigpaaGreatDoorFwA
import Derived.IntWalk
namespace Go.gB
open Go Go.cI
theorem e0 (n:Int) (h: -9223372036854775808≤n∧n≤9223372036854775807):IntKind.i64.wrap n=n:=IntWalk.i64_in n h
theorem fy {α:Type} (a:List α) (i:Nat) (h:i<a.length):bX a (i:Int)=some a[i]:=by
 rw[KW (by omega) (by simpa using h)];rfl
theorem pK {α:Type} (a:List α) (n:Nat) (h:n≤a.length):e1 a 0 (n:Int)=some (a.take n):=by
 unfold e1
 rw[if_pos (by omega)];simp
theorem h1 (i n:Nat) (h:i<n) (aV:n≤4611686018427387904):IntKind.i64.wrap ((i:Int)+1)=((i+1:Nat):Int):=by
 rw[e0 _ (by omega)];omega
theorem iB {i n:Nat} (h:i<n):decide ((i:Int)<(n:Int))=true:=by simp;omega
theorem iC {i n:Nat} (h:n≤i):decide ((i:Int)<(n:Int))=false:=by simp;omega
theorem zX {α:Type} (c:α) (r:List α):bX (c::r) 0=some c:=rfl
theorem zU {n:Nat} (h:0<n):decide ((0:Int)<(n:Int))=true:=by simp;omega
theorem ajW:IntKind.i64.wrap (0+1)=1:=by decide
theorem down (n:Nat) {P:Nat→Prop} (bm:P n) (aa:∀i,i<n→P (i+1)→P i):∀i,i≤n→P i:=by
 have key:∀d,d≤n→P (n-d):=by
  intro d
  induction d with
  |zero=>intro _;exact bm
  |succ d ih=>
   intro ah
   have:=ih (by omega)
   refine aa _ (by omega) ?_
   rw[show n-(d+1)+1=n-d by omega];exact this
 intro i ay
 have:=key (n-i) (by omega)
 rwa [show n-(n-i)=i by omega]at this
theorem up {β:Type} {l:Nat→Int→Option β} {n:Nat} (F:Nat→Option β) (bm:∀m,l (m+1) (n:Int)=F n)
  (aa:∀i,i<n→∀m,(l m ((i+1:Nat):Int)=F (i+1))→l (m+1) (i:Int)=F i):∀i,i≤n→∀m,n-i<m→l m (i:Int)=F i:=by
 refine down n ?_ ?_
 ·intro m hm
  obtain⟨k,rfl⟩:∃k,m=k+1:=⟨m-1,by omega⟩
  exact bm k
 ·intro i ay ih m hm
  obtain⟨k,rfl⟩:∃k,m=k+1:=⟨m-1,by omega⟩
  exact aa i ay k (ih k (by omega))
theorem wK {β:Type} {l:Nat→Int→Option β} {n:Nat} (F:Nat→Option β) (bm:∀m,l (m+1) (n:Int)=F n)
  (aa:∀i,i<n→∀m,(l m ((i+1:Nat):Int)=F (i+1))→l (m+1) (i:Int)=F i):cY (fun m=>l m 0)=F 0:=
 j8 (n+1) fun m hm=>up F bm aa 0 (by omega) m (by omega)
theorem drop_cons {α:Type} (a:List α) (i:Nat) (h:i<a.length):a.drop i=a[i]::a.drop (i+1):=List.drop_eq_getElem_cons h
end Go.gB
