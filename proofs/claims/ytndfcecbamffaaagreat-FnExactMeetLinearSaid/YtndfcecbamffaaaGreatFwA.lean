/- Part of a proof that a law returns true for every input. No condition. -/
import GoSem.Core.View
import GoSem.Op.String
import GoSem.Core.Code
namespace Go.dD
open List Option Nat Or
abbrev ahB:=List Int
abbrev ahC:=List Nat
abbrev ahz:=List UInt8
abbrev ahE:=Option Int
abbrev ahF:=List Value
abbrev ahD:=Option Bool
abbrev ahG:=List (Nat×Nat)
abbrev ahA:=List (List Nat)
abbrev nq:=List (List UInt8)
abbrev gk:=List (List UInt8×Bool)
def bZ {α:Type} (xs:List α) (n:Int):Option α:=if 0<=n then xs[n.toNat]? else none
def kv {α:Type} (xs:List α) (a b:Int):Option (List α):=if 0<=a/\a<=b/\b<=xs.length then some ((xs.take b.toNat).drop a.toNat)else none
def nk (c:Bool):Option Unit:=if c=true then some ()else none
def room (bytes n:Nat):Option Unit:=if n*bytes<=140737488355328/\n<=9223372036854775807 then some ()else none
def qw (n:Nat):Option Unit:=if n<=9223372036854775807 then some ()else none
def lv (bytes:Nat) (n:Int):Option Unit:=if 0<=n/\bytes*n<=140737488355328/\n<=9223372036854775807 then some ()else none
def rm (n:Int):UInt8:=UInt8.ofNat (IntKind.u8.wrap n).toNat
def bitsOf (op:BinOp) (k:IntKind) (x y:Int):Int:=
 match op with
 | .and=>k.wrap (BitVec.ofInt k.bits x&&&BitVec.ofInt k.bits y).toNat
 | .or=>k.wrap (BitVec.ofInt k.bits x|||BitVec.ofInt k.bits y).toNat
 | .xor=>k.wrap (BitVec.ofInt k.bits x^^^BitVec.ofInt k.bits y).toNat
 |_=>k.wrap (BitVec.ofInt k.bits x&&& ~~~(BitVec.ofInt k.bits y)).toNat
theorem aM {α β:Type} {o:Option α} {k:α->Option β} {r:β} (h:o.bind k=some r):∃x,o=some x/\k x=some r:=bind_eq_some_iff.1 h
theorem gN {β:Type} {b:Bool} {x y:Option β} {r:β} (h:cond b x y=some r):(b=true/\x=some r)\/(b=false/\y=some r):=by
 cases b
 .exact .inr ⟨rfl,h⟩
 .exact .inl ⟨rfl,h⟩
theorem gB {β:Type} {x r:β} (h:some x=some r):r=x:=(some.inj h).symm
section
open Classical
noncomputable def cm {β:Type} (f:Nat->Option β):Option β:=
 if h:∃x N,∀n,N<=n->f n=x then h.choose else none
end
theorem hT {β:Type} {f:Nat->Option β} {x:Option β} (N:Nat) (h:∀n,N<=n->f n=x):cm f=x:=by
 have hex:∃x N,∀n,N<=n->f n=x:=⟨x,N,h⟩
 unfold cm;rw[dif_pos hex];obtain⟨M,DQ⟩:=hex.choose_spec;rw[<-DQ (max M N) (Nat.le_max_left _ _)];exact h _ (Nat.le_max_right _ _)
theorem ki {β:Type} {f:Nat->Option β} {r:β} (h:cm f=some r):∃n,f n=some r:=by
 unfold cm at h;split at h
 .rename_i hex;obtain⟨M,DQ⟩:=hex.choose_spec;exact⟨M,(DQ M (Nat.le_refl _)).trans h⟩
 .cases h
theorem da {α:Type} {xs:List α} {n:Int} {x:α} (h:bZ xs n=some x):xs[n.toNat]? =some x:=by
 unfold bZ at h;split at h
 .exact h
 .cases h
theorem JN {α β:Type} (e:α->β) (xs:List α) (n:Int):bZ (xs.map e) n=(bZ xs n).map e:=by
 unfold bZ;split
 .simp
 .rfl
theorem JO {α β:Type} (e:α->β) (xs:List α) (a b:Int):kv (xs.map e) a b=(kv xs a b).map (map e):=by
 unfold kv;simp only[length_map];split
 .simp[map_drop,map_take]
 .rfl
theorem JP {α:Type} {xs:List α} {n:Int} (bA:0<=n) (h:n.toNat<xs.length):bZ xs n=some xs[n.toNat]:=by
 unfold bZ;rw[if_pos bA,getElem?_eq_getElem h]
theorem pr {b:Nat} {n:Int} {u:Unit} (h:lv b n=some u):0<=n/\b*n<=140737488355328/\n<=9223372036854775807:=by unfold lv at h;split at h<;>simp_all
section
open Classical
noncomputable def both {β:Type} (a b:Option β):Option β:=if a=b then a else none
end
theorem DR {β:Type} {a b:Option β} {r:β} (h:both a b=some r):a=some r/\b=some r:=by
 unfold both at h;split at h
 .rename_i e;exact⟨h,e▸h⟩
 .cases h
def g4 (e2:Bool) (a b:ahz):ahz:=if(if e2 then !Op.bytesLess a b else(Op.bytesLess a b||a==b))=true then a else b
def DS (e2:Bool) (a b:Int):Int:=if e2 then(if a<b then b else a)else(if b<a then b else a)
def sw (k:ahz):gk->Bool
 |[]=>false
 |e::m=>if e.1=k then e.2 else sw k m
def qx (k:ahz) (b:Bool):gk->gk
 |[]=>[(k,b)]
 |e::m=>if e.1=k then(k,b)::m else e::qx k b m
theorem ab {a b:Prop} (x:a) (y:b):a/\b:=⟨x,y⟩
end Go.dD
