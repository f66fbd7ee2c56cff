/- Part of a proof that a law returns true for every input. No condition. -/
import GoSem.Core.View
import GoSem.Op.String
import GoSem.Core.Code
namespace Go.cI
def bX {α:Type} (xs:List α) (n:Int):Option α:=if 0≤n then xs[n.toNat]? else none
def e1 {α:Type} (xs:List α) (a b:Int):Option (List α):=if 0≤a∧a≤b∧b≤xs.length then some ((xs.take b.toNat).drop a.toNat)else none
def room (bytes n:Nat):Option Unit:=if n*bytes≤140737488355328∧n≤9223372036854775807 then some ()else none
def qO (n:Nat):Option Unit:=if n≤9223372036854775807 then some ()else none
def lz (bytes:Nat) (n:Int):Option Unit:=if 0≤n∧bytes*n≤140737488355328∧n≤9223372036854775807 then some ()else none
def Ai (n:Int):UInt8:=UInt8.ofNat (IntKind.u8.wrap n).toNat
def bitsOf (op:BinOp) (k:IntKind) (x y:Int):Int:=
 match op with
 | .and=>k.wrap (BitVec.ofInt k.bits x&&&BitVec.ofInt k.bits y).toNat
 | .or=>k.wrap (BitVec.ofInt k.bits x|||BitVec.ofInt k.bits y).toNat
 | .xor=>k.wrap (BitVec.ofInt k.bits x^^^BitVec.ofInt k.bits y).toNat
 |_=>k.wrap (BitVec.ofInt k.bits x&&& ~~~(BitVec.ofInt k.bits y)).toNat
theorem aM {α β:Type} {o:Option α} {k:α→Option β} {r:β} (h:o.bind k=some r):∃x,o=some x∧k x=some r:=Option.bind_eq_some_iff.1 h
theorem dA {β:Type} {b:Bool} {x y:Option β} {r:β} (h:cond b x y=some r):(b=true∧x=some r)∨(b=false∧y=some r):=by
 cases b
 ·exact .inr ⟨rfl,h⟩
 ·exact .inl ⟨rfl,h⟩
theorem Aj {β:Type} {x r:β} (h:some x=some r):r=x:=(Option.some.inj h).symm
section
open Classical
noncomputable def cY {β:Type} (f:Nat→Option β):Option β:=
 if h:∃x N,∀n,N≤n→f n=x then h.choose else none
end
theorem j8 {β:Type} {f:Nat→Option β} {x:Option β} (N:Nat) (h:∀n,N≤n→f n=x):cY f=x:=by
 have hex:∃x N,∀n,N≤n→f n=x:=⟨x,N,h⟩
 unfold cY
 rw[dif_pos hex]
 obtain⟨M,Ak⟩:=hex.choose_spec
 rw[←Ak (max M N) (Nat.le_max_left _ _)]
 exact h _ (Nat.le_max_right _ _)
theorem eD {β:Type} {f:Nat→Option β} {r:β} (h:cY f=some r):∃n,f n=some r:=by
 unfold cY at h
 split at h
 ·rename_i hex
  obtain⟨M,Ak⟩:=hex.choose_spec
  exact⟨M,(Ak M (Nat.le_refl _)).trans h⟩
 ·cases h
theorem hW {α:Type} {xs:List α} {n:Int} {x:α} (h:bX xs n=some x):xs[n.toNat]? =some x:=by
 unfold bX at h;split at h
 ·exact h
 ·cases h
theorem D7 {α β:Type} (e:α→β) (xs:List α) (n:Int):bX (xs.map e) n=(bX xs n).map e:=by
 unfold bX;split
 ·simp
 ·rfl
theorem D8 {α β:Type} (e:α→β) (xs:List α) (a b:Int):e1 (xs.map e) a b=(e1 xs a b).map (List.map e):=by
 unfold e1
 simp only[List.length_map]
 split
 ·simp[List.map_drop,List.map_take]
 ·rfl
theorem KW {α:Type} {xs:List α} {n:Int} (bm:0≤n) (h:n.toNat<xs.length):bX xs n=some xs[n.toNat]:=by
 unfold bX;rw[if_pos bm,List.getElem?_eq_getElem h]
theorem ef {b:Nat} {n:Int} {u:Unit} (h:lz b n=some u):0≤n∧b*n≤140737488355328∧n≤9223372036854775807:=by unfold lz at h;split at h<;>simp_all
section
open Classical
noncomputable def both {β:Type} (a b:Option β):Option β:=if a=b then a else none
end
def wZ (el:Bool) (a b:List UInt8):List UInt8:=if(if el then !Op.bytesLess a b else(Op.bytesLess a b||a==b))=true then a else b
def h3 (el:Bool) (a b:Int):Int:=if el then(if a<b then b else a)else(if b<a then b else a)
def pQ (k:List UInt8):List (List UInt8×Bool)→Bool
 |[]=>false
 |e::m=>if e.1=k then e.2 else pQ k m
def ow (k:List UInt8) (b:Bool):List (List UInt8×Bool)→List (List UInt8×Bool)
 |[]=>[(k,b)]
 |e::m=>if e.1=k then(k,b)::m else e::ow k b m
def jN (a:List (List UInt8)) (s:List UInt8):List UInt8:=s.intercalate a
def nO (n:Nat):List UInt8:=if n<10 then [UInt8.ofNat (48+n)]else [UInt8.ofNat (48+n/10),UInt8.ofNat (48+n%10)]
end Go.cI
