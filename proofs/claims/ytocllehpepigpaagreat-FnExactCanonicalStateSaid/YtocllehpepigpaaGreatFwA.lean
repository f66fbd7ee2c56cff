/- Part of a proof that a law returns true for every input. No condition. -/
import GoSem.Core.View
import GoSem.Op.String
import GoSem.Core.Code
namespace Go.cZ
def bF {α:Type} (xs:List α) (n:Int):Option α:=if 0≤n then xs[n.toNat]? else none
def lA {α:Type} (xs:List α) (a b:Int):Option (List α):=if 0≤a∧a≤b∧b≤xs.length then some ((xs.take b.toNat).drop a.toNat)else none
def Rp (c:Bool):Option Unit:=if c=true then some ()else none
def room (bytes n:Nat):Option Unit:=if n*bytes≤140737488355328∧n≤9223372036854775807 then some ()else none
def pP (n:Nat):Option Unit:=if n≤9223372036854775807 then some ()else none
def mU (bytes:Nat) (n:Int):Option Unit:=if 0≤n∧bytes*n≤140737488355328∧n≤9223372036854775807 then some ()else none
def qC (n:Int):UInt8:=UInt8.ofNat (IntKind.u8.wrap n).toNat
def bitsOf (op:BinOp) (k:IntKind) (x y:Int):Int:=
 match op with
 | .and=>k.wrap (BitVec.ofInt k.bits x&&&BitVec.ofInt k.bits y).toNat
 | .or=>k.wrap (BitVec.ofInt k.bits x|||BitVec.ofInt k.bits y).toNat
 | .xor=>k.wrap (BitVec.ofInt k.bits x^^^BitVec.ofInt k.bits y).toNat
 |_=>k.wrap (BitVec.ofInt k.bits x&&& ~~~(BitVec.ofInt k.bits y)).toNat
theorem aE {α β:Type} {o:Option α} {k:α→Option β} {r:β} (h:o.bind k=some r):∃x,o=some x∧k x=some r:=Option.bind_eq_some_iff.1 h
theorem e9 {β:Type} {b:Bool} {x y:Option β} {r:β} (h:cond b x y=some r):(b=true∧x=some r)∨(b=false∧y=some r):=by
 cases b
 ·exact .inr ⟨rfl,h⟩
 ·exact .inl ⟨rfl,h⟩
theorem h2 {β:Type} {x r:β} (h:some x=some r):r=x:=(Option.some.inj h).symm
section
open Classical
noncomputable def lim {β:Type} (f:Nat→Option β):Option β:=
 if h:∃x N,∀n,N≤n→f n=x then h.choose else none
end
theorem iX {β:Type} {f:Nat→Option β} {x:Option β} (N:Nat) (h:∀n,N≤n→f n=x):lim f=x:=by
 have hex:∃x N,∀n,N≤n→f n=x:=⟨x,N,h⟩
 unfold lim
 rw[dif_pos hex]
 obtain⟨M,ET⟩:=hex.choose_spec
 rw[←ET (max M N) (Nat.le_max_left _ _)]
 exact h _ (Nat.le_max_right _ _)
theorem dy {β:Type} {f:Nat→Option β} {r:β} (h:lim f=some r):∃n,f n=some r:=by
 unfold lim at h
 split at h
 ·rename_i hex
  obtain⟨M,ET⟩:=hex.choose_spec
  exact⟨M,(ET M (Nat.le_refl _)).trans h⟩
 ·cases h
theorem cG {α:Type} {xs:List α} {n:Int} {x:α} (h:bF xs n=some x):xs[n.toNat]? =some x:=by
 unfold bF at h;split at h
 ·exact h
 ·cases h
theorem Jc {α β:Type} (e:α→β) (xs:List α) (n:Int):bF (xs.map e) n=(bF xs n).map e:=by
 unfold bF;split
 ·simp
 ·rfl
theorem Jd {α β:Type} (e:α→β) (xs:List α) (a b:Int):lA (xs.map e) a b=(lA xs a b).map (List.map e):=by
 unfold lA
 simp only[List.length_map]
 split
 ·simp[List.map_drop,List.map_take]
 ·rfl
theorem Je {α:Type} {xs:List α} {n:Int} (bf:0≤n) (h:n.toNat<xs.length):bF xs n=some xs[n.toNat]:=by
 unfold bF;rw[if_pos bf,List.getElem?_eq_getElem h]
theorem eK {b:Nat} {n:Int} {u:Unit} (h:mU b n=some u):0≤n∧b*n≤140737488355328∧n≤9223372036854775807:=by unfold mU at h;split at h<;>simp_all
section
open Classical
noncomputable def both {β:Type} (a b:Option β):Option β:=if a=b then a else none
end
theorem Rq {β:Type} {a b:Option β} {r:β} (h:both a b=some r):a=some r∧b=some r:=by
 unfold both at h
 split at h
 ·rename_i e;exact⟨h,e▸h⟩
 ·cases h
def AN (hj:Bool) (a b:List UInt8):List UInt8:=if(if hj then !Op.bytesLess a b else(Op.bytesLess a b||a==b))=true then a else b
def EU (hj:Bool) (a b:Int):Int:=if hj then(if a<b then b else a)else(if b<a then b else a)
def rv (k:List UInt8):List (List UInt8×Bool)→Bool
 |[]=>false
 |e::m=>if e.1=k then e.2 else rv k m
def pQ (k:List UInt8) (b:Bool):List (List UInt8×Bool)→List (List UInt8×Bool)
 |[]=>[(k,b)]
 |e::m=>if e.1=k then(k,b)::m else e::pQ k b m
end Go.cZ
