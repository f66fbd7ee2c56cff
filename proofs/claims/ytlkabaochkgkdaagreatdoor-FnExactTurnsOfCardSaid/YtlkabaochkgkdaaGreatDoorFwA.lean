/- Part of a proof that a law returns true for every input. No condition. -/
import GoSem.Core.View
import GoSem.Op.String
import GoSem.Core.Code
namespace Go.c_
def bF {α:Type} (xs:List α) (n:Int):Option α:=if 0<=n then xs[n.toNat]? else none
def gB {α:Type} (xs:List α) (a b:Int):Option (List α):=if 0<=a/\a<=b/\b<=xs.length then some ((xs.take b.toNat).drop a.toNat)else none
def room (bytes n:Nat):Option Unit:=if n*bytes<=140737488355328/\n<=9223372036854775807 then some ()else none
def mU (n:Nat):Option Unit:=if n<=9223372036854775807 then some ()else none
def k4 (bytes:Nat) (n:Int):Option Unit:=if 0<=n/\bytes*n<=140737488355328/\n<=9223372036854775807 then some ()else none
def rn (n:Int):UInt8:=UInt8.ofNat (IntKind.u8.wrap n).toNat
def bitsOf (op:BinOp) (k:IntKind) (x y:Int):Int:=
 match op with
 | .and=>k.wrap (BitVec.ofInt k.bits x&&&BitVec.ofInt k.bits y).toNat
 | .or=>k.wrap (BitVec.ofInt k.bits x|||BitVec.ofInt k.bits y).toNat
 | .xor=>k.wrap (BitVec.ofInt k.bits x^^^BitVec.ofInt k.bits y).toNat
 |_=>k.wrap (BitVec.ofInt k.bits x&&& ~~~(BitVec.ofInt k.bits y)).toNat
theorem aD {α β:Type} {o:Option α} {k:α->Option β} {r:β} (h:o.bind k=some r):∃x,o=some x/\k x=some r:=Option.bind_eq_some_iff.1 h
theorem eS {β:Type} {b:Bool} {x y:Option β} {r:β} (h:cond b x y=some r):(b=true/\x=some r)\/(b=false/\y=some r):=by
 cases b
 .exact .inr ⟨rfl,h⟩
 .exact .inl ⟨rfl,h⟩
theorem jO {β:Type} {x r:β} (h:some x=some r):r=x:=(Option.some.inj h).symm
section
open Classical
noncomputable def cB {β:Type} (f:Nat->Option β):Option β:=
 if h:∃x N,∀n,N<=n->f n=x then h.choose else none
end
theorem ij {β:Type} {f:Nat->Option β} {x:Option β} (N:Nat) (h:∀n,N<=n->f n=x):cB f=x:=by
 have hex:∃x N,∀n,N<=n->f n=x:=⟨x,N,h⟩
 unfold cB;rw[dif_pos hex];obtain⟨M,GB⟩:=hex.choose_spec;rw[<-GB (max M N) (Nat.le_max_left _ _)];exact h _ (Nat.le_max_right _ _)
theorem dC {β:Type} {f:Nat->Option β} {r:β} (h:cB f=some r):∃n,f n=some r:=by
 unfold cB at h;split at h
 .rename_i hex;obtain⟨M,GB⟩:=hex.choose_spec;exact⟨M,(GB M (Nat.le_refl _)).trans h⟩
 .cases h
theorem cR {α:Type} {xs:List α} {n:Int} {x:α} (h:bF xs n=some x):xs[n.toNat]? =some x:=by
 unfold bF at h;split at h
 .exact h
 .cases h
theorem K6 {α β:Type} (e:α->β) (xs:List α) (n:Int):bF (xs.map e) n=(bF xs n).map e:=by
 unfold bF;split
 .simp
 .rfl
theorem K7 {α β:Type} (e:α->β) (xs:List α) (a b:Int):gB (xs.map e) a b=(gB xs a b).map (List.map e):=by
 unfold gB;simp only[List.length_map];split
 .simp[List.map_drop,List.map_take]
 .rfl
theorem BQ {α:Type} {xs:List α} {n:Int} (ba:0<=n) (h:n.toNat<xs.length):bF xs n=some xs[n.toNat]:=by
 unfold bF;rw[if_pos ba,List.getElem?_eq_getElem h]
theorem dA {b:Nat} {n:Int} {u:Unit} (h:k4 b n=some u):0<=n/\b*n<=140737488355328/\n<=9223372036854775807:=by unfold k4 at h;split at h<;>simp_all
section
open Classical
noncomputable def both {β:Type} (a b:Option β):Option β:=if a=b then a else none
end
def BR (e2:Bool) (a b:List UInt8):List UInt8:=if(if e2 then !Op.bytesLess a b else(Op.bytesLess a b||a==b))=true then a else b
def ju (e2:Bool) (a b:Int):Int:=if e2 then(if a<b then b else a)else(if b<a then b else a)
def su (k:List UInt8):List (List UInt8×Bool)->Bool
 |[]=>false
 |e::m=>if e.1=k then e.2 else su k m
def qv (k:List UInt8) (b:Bool):List (List UInt8×Bool)->List (List UInt8×Bool)
 |[]=>[(k,b)]
 |e::m=>if e.1=k then(k,b)::m else e::qv k b m
def k5 (a:List (List UInt8)) (s:List UInt8):List UInt8:=s.intercalate a
def pF (n:Nat):List UInt8:=if n<10 then [UInt8.ofNat (48+n)]else [UInt8.ofNat (48+n/10),UInt8.ofNat (48+n%10)]
end Go.c_
