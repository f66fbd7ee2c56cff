/- Part of a proof that a law returns true for every input. No condition. -/
import Derived.Test.YtocllehpepigpaaGreatUY2
import Derived.Test.YtocllehpepigpaaGreatUD6
namespace Go.eN
open Go Go.cZ
def u4 (s:ea):Prop:=pM s.ew∧(s.c8.length≤1048576∧∀c∈s.c8,c.bS.length≤1048576)∧ES s.hE∧
 (s.hv.length≤1048576∧∀x∈s.hv,x.length≤1048576)∧(s.hx.length≤1048576∧∀x∈s.hx,x.length≤1048576)
noncomputable def pO (s:ea):Int:=cond (!lX s.ew) 1 (cond (!sE s) 2 (cond (!u3 s.hE) 3 (cond (!qz s.hv) 4 (cond (!qz s.hx) 5 0))))
theorem aCO (s:ea) (h:u4 s):CQ s=some (pO s):=by
 obtain⟨h1,ah,aC,a8,bK⟩:=h
 unfold CQ pO
 rw[aCs _ h1,aCE s h1.1 ah.1 ah.2,aCM _ aC,Rb _ a8.1,Rb _ bK.1]
 simp only[Option.bind_some]
 cases lX s.ew<;>cases sE s<;>cases u3 s.hE<;>cases qz s.hv<;>cases qz s.hx<;>rfl
theorem aCP (s:ea) (h:u4 s):Dt s=some (pO s):=by
 obtain⟨h1,ah,aC,a8,bK⟩:=h
 unfold Dt jX pO sE
 have nD:decide ((1:Int)≤(s.c8.length:Int))=decide (1≤s.c8.length):=decide_eq_decide.2 (by omega)
 have mW:decide ((s.c8.length:Int)≤3)=decide (s.c8.length≤3):=decide_eq_decide.2 (by omega)
 rw[aCu _ h1,aCG s h1.1 ah.1 ah.2,aCN _ aC,Rc _ a8.1 a8.2,Rc _ bK.1 bK.2]
 simp only[Option.bind_some]
 rw[nD,mW]
 cases lX s.ew<;>cases(decide (1≤s.c8.length)&&decide (s.c8.length≤3))<;>cases fP (fun i=>u0 s.ew (kv s.c8 i)) s.c8.length<;>
  cases u3 s.hE<;>cases qz s.hv<;>cases qz s.hx<;>rfl
theorem aCQ {s:ea} (h:pK s≤1048576):u4 s:=by
 unfold pK at h
 refine⟨aCr (by omega),⟨Nat.le_trans (iN kN _) (by omega),fun c aq=> ?_⟩,⟨Nat.le_trans (iN kO _) (by omega),fun m hm=> ?_⟩,⟨Nat.le_trans (iN List.length _) (by omega),fun x aw=> ?_⟩,⟨Nat.le_trans (iN List.length _) (by omega),fun x aw=> ?_⟩⟩
 ·have h1:kN c≤dm kN s.c8:=kL aq
  have ah:kN c≤1048576:=by omega
  clear h1
  unfold kN at ah;omega
 ·have h1:kO m≤dm kO s.hE:=kL hm
  have ah:kO m≤1048576:=by omega
  clear h1
  unfold kO at ah;omega
 ·have h1:x.length≤dm List.length s.hv:=kL aw
  omega
 ·have h1:x.length≤dm List.length s.hx:=kL aw
  omega
theorem aCR (a:k6) (cE:yO a):
  ∃r,yW a 1048576=some r∧(decide (r<0)=false→r6 a=some (qw a)∧zP (qw a) (qw a)=some true∧
   u4 (qw a)∧r=1048576-(sA a:Nat)∧0≤r):=by
 refine⟨_,aA_ a 1048576 cE (by omega) (by omega),fun h=> ?_⟩
 by_cases ag:sA a≤1048576
 ·have p_:pK (qw a)≤1048576:=by rw[QA];exact ag
  exact⟨aBr a ag,aBH _ p_,aCQ p_,AA (by omega),by rw[AA (by omega)];omega⟩
 ·rw[AB (by omega)]at h;simp at h
end Go.eN
