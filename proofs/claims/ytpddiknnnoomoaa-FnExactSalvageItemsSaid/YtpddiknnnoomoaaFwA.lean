/- Part of a proof that a law returns true for every input. No condition. -/
import GoSem.Core.View
import GoSem.Op.String
import GoSem.Core.Code
namespace Go.bV
def c7 {α:Type} (xs:List α) (n:Int):Option α:=if 0≤n then xs[n.toNat]? else none
def eQ {α:Type} (xs:List α) (a b:Int):Option (List α):=if 0≤a∧a≤b∧b≤xs.length then some ((xs.take b.toNat).drop a.toNat)else none
def room (bytes n:Nat):Option Unit:=if n*bytes≤140737488355328∧n≤9223372036854775807 then some ()else none
def kD (n:Nat):Option Unit:=if n≤9223372036854775807 then some ()else none
def lu (n:Int):UInt8:=UInt8.ofNat (IntKind.u8.wrap n).toNat
def bitsOf (op:BinOp) (k:IntKind) (x y:Int):Int:=
 match op with
 | .and=>k.wrap (BitVec.ofInt k.bits x&&&BitVec.ofInt k.bits y).toNat
 | .or=>k.wrap (BitVec.ofInt k.bits x|||BitVec.ofInt k.bits y).toNat
 | .xor=>k.wrap (BitVec.ofInt k.bits x^^^BitVec.ofInt k.bits y).toNat
 |_=>k.wrap (BitVec.ofInt k.bits x&&& ~~~(BitVec.ofInt k.bits y)).toNat
theorem bW {α β:Type} {o:Option α} {k:α→Option β} {r:β} (h:o.bind k=some r):∃x,o=some x∧k x=some r:=Option.bind_eq_some_iff.1 h
theorem jV {β:Type} {b:Bool} {x y:Option β} {r:β} (h:cond b x y=some r):(b=true∧x=some r)∨(b=false∧y=some r):=by
 cases b
 ·exact .inr ⟨rfl,h⟩
 ·exact .inl ⟨rfl,h⟩
theorem mc {β:Type} {x r:β} (h:some x=some r):r=x:=(Option.some.inj h).symm
section
open Classical
noncomputable def fU {β:Type} (f:Nat→Option β):Option β:=
 if h:∃x N,∀n,N≤n→f n=x then h.choose else none
end
theorem jh {β:Type} {f:Nat→Option β} {x:Option β} (N:Nat) (h:∀n,N≤n→f n=x):fU f=x:=by
 have hex:∃x N,∀n,N≤n→f n=x:=⟨x,N,h⟩
 unfold fU
 rw[dif_pos hex]
 obtain⟨M,tJ⟩:=hex.choose_spec
 rw[←tJ (max M N) (Nat.le_max_left _ _)]
 exact h _ (Nat.le_max_right _ _)
theorem hV {β:Type} {f:Nat→Option β} {r:β} (h:fU f=some r):∃n,f n=some r:=by
 unfold fU at h
 split at h
 ·rename_i hex
  obtain⟨M,tJ⟩:=hex.choose_spec
  exact⟨M,(tJ M (Nat.le_refl _)).trans h⟩
 ·cases h
theorem me {α:Type} {xs:List α} {n:Int} {x:α} (h:c7 xs n=some x):xs[n.toNat]? =some x:=by
 unfold c7 at h;split at h
 ·exact h
 ·cases h
theorem xl {α β:Type} (e:α→β) (xs:List α) (n:Int):c7 (xs.map e) n=(c7 xs n).map e:=by
 unfold c7;split
 ·simp
 ·rfl
theorem xm {α β:Type} (e:α→β) (xs:List α) (a b:Int):eQ (xs.map e) a b=(eQ xs a b).map (List.map e):=by
 unfold eQ
 simp only[List.length_map]
 split
 ·simp[List.map_drop,List.map_take]
 ·rfl
theorem tK {α:Type} {xs:List α} {n:Int} (bI:0≤n) (h:n.toNat<xs.length):c7 xs n=some xs[n.toNat]:=by
 unfold c7;rw[if_pos bI,List.getElem?_eq_getElem h]
section
open Classical
noncomputable def both {β:Type} (a b:Option β):Option β:=if a=b then a else none
end
def rY (e0:Bool) (a b:List UInt8):List UInt8:=if(if e0 then !Op.bytesLess a b else(Op.bytesLess a b||a==b))=true then a else b
def tL (e0:Bool) (a b:Int):Int:=if e0 then(if a<b then b else a)else(if b<a then b else a)
def mf (k:List UInt8):List (List UInt8×Bool)→Bool
 |[]=>false
 |e::m=>if e.1=k then e.2 else mf k m
def kE (k:List UInt8) (b:Bool):List (List UInt8×Bool)→List (List UInt8×Bool)
 |[]=>[(k,b)]
 |e::m=>if e.1=k then(k,b)::m else e::kE k b m
end Go.bV
