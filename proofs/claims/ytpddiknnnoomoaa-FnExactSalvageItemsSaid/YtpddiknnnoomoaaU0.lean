/- Part of a proof that a law returns true for every input. No condition. -/
import Derived.Test.YtpddiknnnoomoaaFwA
import Derived.IntWalk
namespace Go.eF
open Go Go.bV
theorem fp (n:Int) (h: -9223372036854775808≤n∧n≤9223372036854775807):IntKind.i64.wrap n=n:=IntWalk.i64_in n h
theorem m6 {α:Type} (a:List α) (i:Nat) (d:α) (h:i<a.length):c7 a (i:Int)=some (a.getD i d):=by
 rw[tK (by omega) (by simpa using h)]
 simp[List.getD,h]
theorem p2 {α:Type} (a:List α) (i:Nat) (h:i<a.length):c7 a (i:Int)=some a[i]:=by
 rw[tK (by omega) (by simpa using h)];rfl
theorem tF {α:Type} (a:List α) (n:Nat) (h:n≤a.length):eQ a 0 (n:Int)=some (a.take n):=by
 unfold eQ
 rw[if_pos (by omega)];simp
theorem m7 (i n:Nat) (h:i<n) (aV:n≤4611686018427387904):IntKind.i64.wrap ((i:Int)+1)=((i+1:Nat):Int):=by
 rw[fp _ (by omega)];omega
theorem mb {i n:Nat} (h:i<n):decide ((i:Int)<(n:Int))=true:=by simp;omega
theorem kA {i n:Nat} (h:n≤i):decide ((i:Int)<(n:Int))=false:=by simp;omega
theorem xd {α:Type} (c:α) (r:List α):c7 (c::r) 0=some c:=rfl
theorem xb {n:Nat} (h:0<n):decide ((0:Int)<(n:Int))=true:=by simp;omega
theorem OO:IntKind.i64.wrap (0+1)=1:=by decide
theorem down (n:Nat) {P:Nat→Prop} (bI:P n) (R:∀i,i<n→P (i+1)→P i):∀i,i≤n→P i:=by
 have key:∀d,d≤n→P (n-d):=by
  intro d
  induction d with
  |zero=>intro _;exact bI
  |succ d ih=>
   intro ab
   have:=ih (by omega)
   refine R _ (by omega) ?_
   rw[show n-(d+1)+1=n-d by omega];exact this
 intro i az
 have:=key (n-i) (by omega)
 rwa [show n-(n-i)=i by omega]at this
theorem up {β:Type} {l:Nat→Int→Option β} {n:Nat} (F:Nat→Option β) (bI:∀m,l (m+1) (n:Int)=F n)
  (R:∀i,i<n→∀m,(l m ((i+1:Nat):Int)=F (i+1))→l (m+1) (i:Int)=F i):∀i,i≤n→∀m,n-i<m→l m (i:Int)=F i:=by
 refine down n ?_ ?_
 ·intro m hm
  obtain⟨k,rfl⟩:∃k,m=k+1:=⟨m-1,by omega⟩
  exact bI k
 ·intro i az ih m hm
  obtain⟨k,rfl⟩:∃k,m=k+1:=⟨m-1,by omega⟩
  exact R i az k (ih k (by omega))
theorem Ce {β:Type} {l:Nat→Int→Option β} {n:Nat} (F:Nat→Option β) (bI:∀m,l (m+1) (n:Int)=F n)
  (R:∀i,i<n→∀m,(l m ((i+1:Nat):Int)=F (i+1))→l (m+1) (i:Int)=F i):fU (fun m=>l m 0)=F 0:=
 jh (n+1) fun m hm=>up F bI R 0 (by omega) m (by omega)
theorem drop_cons {α:Type} (a:List α) (i:Nat) (h:i<a.length):a.drop i=a[i]::a.drop (i+1):=List.drop_eq_getElem_cons h
end Go.eF
