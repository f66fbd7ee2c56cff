/- Part of a proof that a law returns true for every input. No condition. -/
import GoSem.Core.View
import GoSem.Op.String
import GoSem.Core.Code
namespace Go.b9
def cF {α:Type} (xs:List α) (n:Int):Option α:=if 0≤n then xs[n.toNat]? else none
def ej {α:Type} (xs:List α) (a b:Int):Option (List α):=if 0≤a∧a≤b∧b≤xs.length then some ((xs.take b.toNat).drop a.toNat)else none
def room (bytes n:Nat):Option Unit:=if n*bytes≤140737488355328∧n≤9223372036854775807 then some ()else none
def oX (n:Nat):Option Unit:=if n≤9223372036854775807 then some ()else none
def l3 (bytes:Nat) (n:Int):Option Unit:=if 0≤n∧bytes*n≤140737488355328∧n≤9223372036854775807 then some ()else none
def wP (n:Int):UInt8:=UInt8.ofNat (IntKind.u8.wrap n).toNat
def bitsOf (op:BinOp) (k:IntKind) (x y:Int):Int:=
 match op with
 | .and=>k.wrap (BitVec.ofInt k.bits x&&&BitVec.ofInt k.bits y).toNat
 | .or=>k.wrap (BitVec.ofInt k.bits x|||BitVec.ofInt k.bits y).toNat
 | .xor=>k.wrap (BitVec.ofInt k.bits x^^^BitVec.ofInt k.bits y).toNat
 |_=>k.wrap (BitVec.ofInt k.bits x&&& ~~~(BitVec.ofInt k.bits y)).toNat
theorem bb {α β:Type} {o:Option α} {k:α→Option β} {r:β} (h:o.bind k=some r):∃x,o=some x∧k x=some r:=Option.bind_eq_some_iff.1 h
theorem iq {β:Type} {b:Bool} {x y:Option β} {r:β} (h:cond b x y=some r):(b=true∧x=some r)∨(b=false∧y=some r):=by
 cases b
 ·exact .inr ⟨rfl,h⟩
 ·exact .inl ⟨rfl,h⟩
theorem gd {β:Type} {x r:β} (h:some x=some r):r=x:=(Option.some.inj h).symm
section
open Classical
noncomputable def en {β:Type} (f:Nat→Option β):Option β:=
 if h:∃x N,∀n,N≤n→f n=x then h.choose else none
end
theorem ki {β:Type} {f:Nat→Option β} {x:Option β} (N:Nat) (h:∀n,N≤n→f n=x):en f=x:=by
 have hex:∃x N,∀n,N≤n→f n=x:=⟨x,N,h⟩
 unfold en
 rw[dif_pos hex]
 obtain⟨M,mX⟩:=hex.choose_spec
 rw[←mX (max M N) (Nat.le_max_left _ _)]
 exact h _ (Nat.le_max_right _ _)
theorem gF {β:Type} {f:Nat→Option β} {r:β} (h:en f=some r):∃n,f n=some r:=by
 unfold en at h
 split at h
 ·rename_i hex
  obtain⟨M,mX⟩:=hex.choose_spec
  exact⟨M,(mX M (Nat.le_refl _)).trans h⟩
 ·cases h
theorem kK {α:Type} {xs:List α} {n:Int} {x:α} (h:cF xs n=some x):xs[n.toNat]? =some x:=by
 unfold cF at h;split at h
 ·exact h
 ·cases h
theorem Au {α β:Type} (e:α→β) (xs:List α) (n:Int):cF (xs.map e) n=(cF xs n).map e:=by
 unfold cF;split
 ·simp
 ·rfl
theorem Av {α β:Type} (e:α→β) (xs:List α) (a b:Int):ej (xs.map e) a b=(ej xs a b).map (List.map e):=by
 unfold ej
 simp only[List.length_map]
 split
 ·simp[List.map_drop,List.map_take]
 ·rfl
theorem GA {α:Type} {xs:List α} {n:Int} (bz:0≤n) (h:n.toNat<xs.length):cF xs n=some xs[n.toNat]:=by
 unfold cF;rw[if_pos bz,List.getElem?_eq_getElem h]
theorem gl {b:Nat} {n:Int} {u:Unit} (h:l3 b n=some u):0≤n∧b*n≤140737488355328∧n≤9223372036854775807:=by unfold l3 at h;split at h<;>simp_all
section
open Classical
noncomputable def both {β:Type} (a b:Option β):Option β:=if a=b then a else none
end
def uj (da:Bool) (a b:List UInt8):List UInt8:=if(if da then !Op.bytesLess a b else(Op.bytesLess a b||a==b))=true then a else b
def eo (da:Bool) (a b:Int):Int:=if da then(if a<b then b else a)else(if b<a then b else a)
def nR (k:List UInt8):List (List UInt8×Bool)→Bool
 |[]=>false
 |e::m=>if e.1=k then e.2 else nR k m
def l4 (k:List UInt8) (b:Bool):List (List UInt8×Bool)→List (List UInt8×Bool)
 |[]=>[(k,b)]
 |e::m=>if e.1=k then(k,b)::m else e::l4 k b m
def hq (a:List (List UInt8)) (s:List UInt8):List UInt8:=s.intercalate a
def lp (n:Nat):List UInt8:=if n<10 then [UInt8.ofNat (48+n)]else [UInt8.ofNat (48+n/10),UInt8.ofNat (48+n%10)]
end Go.b9
