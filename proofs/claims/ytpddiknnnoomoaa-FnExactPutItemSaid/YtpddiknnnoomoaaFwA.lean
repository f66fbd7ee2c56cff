/- Part of a proof that a law returns true for every input. No condition. -/
import GoSem.Core.View
import GoSem.Op.String
import GoSem.Core.Code
namespace Go.bZ
def cX {α:Type} (xs:List α) (n:Int):Option α:=if 0≤n then xs[n.toNat]? else none
def hL {α:Type} (xs:List α) (a b:Int):Option (List α):=if 0≤a∧a≤b∧b≤xs.length then some ((xs.take b.toNat).drop a.toNat)else none
def room (bytes n:Nat):Option Unit:=if n*bytes≤140737488355328∧n≤9223372036854775807 then some ()else none
def lo (n:Nat):Option Unit:=if n≤9223372036854775807 then some ()else none
def qO (bytes:Nat) (n:Int):Option Unit:=if 0≤n∧bytes*n≤140737488355328∧n≤9223372036854775807 then some ()else none
def mg (n:Int):UInt8:=UInt8.ofNat (IntKind.u8.wrap n).toNat
def bitsOf (op:BinOp) (k:IntKind) (x y:Int):Int:=
 match op with
 | .and=>k.wrap (BitVec.ofInt k.bits x&&&BitVec.ofInt k.bits y).toNat
 | .or=>k.wrap (BitVec.ofInt k.bits x|||BitVec.ofInt k.bits y).toNat
 | .xor=>k.wrap (BitVec.ofInt k.bits x^^^BitVec.ofInt k.bits y).toNat
 |_=>k.wrap (BitVec.ofInt k.bits x&&& ~~~(BitVec.ofInt k.bits y)).toNat
theorem bL {α β:Type} {o:Option α} {k:α→Option β} {r:β} (h:o.bind k=some r):∃x,o=some x∧k x=some r:=Option.bind_eq_some_iff.1 h
theorem iF {β:Type} {b:Bool} {x y:Option β} {r:β} (h:cond b x y=some r):(b=true∧x=some r)∨(b=false∧y=some r):=by
 cases b
 ·exact .inr ⟨rfl,h⟩
 ·exact .inl ⟨rfl,h⟩
theorem sL {β:Type} {x r:β} (h:some x=some r):r=x:=(Option.some.inj h).symm
section
open Classical
noncomputable def ft {β:Type} (f:Nat→Option β):Option β:=
 if h:∃x N,∀n,N≤n→f n=x then h.choose else none
end
theorem kz {β:Type} {f:Nat→Option β} {x:Option β} (N:Nat) (h:∀n,N≤n→f n=x):ft f=x:=by
 have hex:∃x N,∀n,N≤n→f n=x:=⟨x,N,h⟩
 unfold ft
 rw[dif_pos hex]
 obtain⟨M,uJ⟩:=hex.choose_spec
 rw[←uJ (max M N) (Nat.le_max_left _ _)]
 exact h _ (Nat.le_max_right _ _)
theorem h9 {β:Type} {f:Nat→Option β} {r:β} (h:ft f=some r):∃n,f n=some r:=by
 unfold ft at h
 split at h
 ·rename_i hex
  obtain⟨M,uJ⟩:=hex.choose_spec
  exact⟨M,(uJ M (Nat.le_refl _)).trans h⟩
 ·cases h
theorem kA {α:Type} {xs:List α} {n:Int} {x:α} (h:cX xs n=some x):xs[n.toNat]? =some x:=by
 unfold cX at h;split at h
 ·exact h
 ·cases h
theorem x4 {α β:Type} (e:α→β) (xs:List α) (n:Int):cX (xs.map e) n=(cX xs n).map e:=by
 unfold cX;split
 ·simp
 ·rfl
theorem x5 {α β:Type} (e:α→β) (xs:List α) (a b:Int):hL (xs.map e) a b=(hL xs a b).map (List.map e):=by
 unfold hL
 simp only[List.length_map]
 split
 ·simp[List.map_drop,List.map_take]
 ·rfl
theorem uK {α:Type} {xs:List α} {n:Int} (bu:0≤n) (h:n.toNat<xs.length):cX xs n=some xs[n.toNat]:=by
 unfold cX;rw[if_pos bu,List.getElem?_eq_getElem h]
theorem pf {b:Nat} {n:Int} {u:Unit} (h:qO b n=some u):0≤n∧b*n≤140737488355328∧n≤9223372036854775807:=by unfold qO at h;split at h<;>simp_all
section
open Classical
noncomputable def both {β:Type} (a b:Option β):Option β:=if a=b then a else none
end
theorem DE {β:Type} {a b:Option β} {r:β} (h:both a b=some r):a=some r∧b=some r:=by
 unfold both at h
 split at h
 ·rename_i e;exact⟨h,e▸h⟩
 ·cases h
def sM (e7:Bool) (a b:List UInt8):List UInt8:=if(if e7 then !Op.bytesLess a b else(Op.bytesLess a b||a==b))=true then a else b
def uL (e7:Bool) (a b:Int):Int:=if e7 then(if a<b then b else a)else(if b<a then b else a)
def m4 (k:List UInt8):List (List UInt8×Bool)→Bool
 |[]=>false
 |e::m=>if e.1=k then e.2 else m4 k m
def lp (k:List UInt8) (b:Bool):List (List UInt8×Bool)→List (List UInt8×Bool)
 |[]=>[(k,b)]
 |e::m=>if e.1=k then(k,b)::m else e::lp k b m
end Go.bZ
