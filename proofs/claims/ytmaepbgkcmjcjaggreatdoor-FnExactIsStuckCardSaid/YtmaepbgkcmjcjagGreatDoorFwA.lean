/- Part of a proof that a law returns true for every input. No condition. -/
import GoSem.Core.View
import GoSem.Op.String
import GoSem.Core.Code
namespace Go.ef
open List Option Nat
abbrev axc:=List Int
abbrev axd:=List Nat
abbrev axa:=List UInt8
abbrev axf:=Option Int
abbrev axg:=List Value
abbrev axe:=Option Bool
abbrev axb:=List (List Nat)
abbrev awZ:=List (List UInt8)
abbrev awY:=List (List UInt8×Bool)
def bm {α:Type} (xs:List α) (n:Int):Option α:=if 0<=n then xs[n.toNat]? else none
def gC {α:Type} (xs:List α) (a b:Int):Option (List α):=if 0<=a/\a<=b/\b<=xs.length then some ((xs.take b.toNat).drop a.toNat)else none
def room (bytes n:Nat):Option Unit:=if n*bytes<=140737488355328/\n<=9223372036854775807 then some ()else none
def ko (n:Nat):Option Unit:=if n<=9223372036854775807 then some ()else none
def nr (bytes:Nat) (n:Int):Option Unit:=if 0<=n/\bytes*n<=140737488355328/\n<=9223372036854775807 then some ()else none
def ti (n:Int):UInt8:=UInt8.ofNat (IntKind.u8.wrap n).toNat
def bitsOf (op:BinOp) (k:IntKind) (x y:Int):Int:=
 match op with
 | .and=>k.wrap (BitVec.ofInt k.bits x&&&BitVec.ofInt k.bits y).toNat
 | .or=>k.wrap (BitVec.ofInt k.bits x|||BitVec.ofInt k.bits y).toNat
 | .xor=>k.wrap (BitVec.ofInt k.bits x^^^BitVec.ofInt k.bits y).toNat
 |_=>k.wrap (BitVec.ofInt k.bits x&&& ~~~(BitVec.ofInt k.bits y)).toNat
theorem ao {α β:Type} {o:Option α} {k:α->Option β} {r:β} (h:o.bind k=some r):∃x,o=some x/\k x=some r:=bind_eq_some_iff.1 h
theorem dr {β:Type} {b:Bool} {x y:Option β} {r:β} (h:cond b x y=some r):(b=true/\x=some r)\/(b=false/\y=some r):=by
 cases b
 .exact .inr ⟨rfl,h⟩
 .exact .inl ⟨rfl,h⟩
theorem gl {β:Type} {x r:β} (h:some x=some r):r=x:=(some.inj h).symm
section
open Classical
noncomputable def b6 {β:Type} (f:Nat->Option β):Option β:=
 if h:∃x N,∀n,N<=n->f n=x then h.choose else none
end
theorem fa {β:Type} {f:Nat->Option β} {x:Option β} (N:Nat) (h:∀n,N<=n->f n=x):b6 f=x:=by
 have hex:∃x N,∀n,N<=n->f n=x:=⟨x,N,h⟩
 unfold b6;rw[dif_pos hex];obtain⟨M,K9⟩:=hex.choose_spec;rw[<-K9 (max M N) (Nat.le_max_left _ _)];exact h _ (Nat.le_max_right _ _)
theorem cS {β:Type} {f:Nat->Option β} {r:β} (h:b6 f=some r):∃n,f n=some r:=by
 unfold b6 at h;split at h
 .rename_i hex;obtain⟨M,K9⟩:=hex.choose_spec;exact⟨M,(K9 M (Nat.le_refl _)).trans h⟩
 .cases h
theorem dy {α:Type} {xs:List α} {n:Int} {x:α} (h:bm xs n=some x):xs[n.toNat]? =some x:=by
 unfold bm at h;split at h
 .exact h
 .cases h
theorem Sh {α β:Type} (e:α->β) (xs:List α) (n:Int):bm (xs.map e) n=(bm xs n).map e:=by
 unfold bm;split
 .simp
 .rfl
theorem Si {α β:Type} (e:α->β) (xs:List α) (a b:Int):gC (xs.map e) a b=(gC xs a b).map (map e):=by
 unfold gC;simp only[length_map];split
 .simp[map_drop,map_take]
 .rfl
theorem Sj {α:Type} {xs:List α} {n:Int} (bb:0<=n) (h:n.toNat<xs.length):bm xs n=some xs[n.toNat]:=by
 unfold bm;rw[if_pos bb,getElem?_eq_getElem h]
theorem qF {b:Nat} {n:Int} {u:Unit} (h:nr b n=some u):0<=n/\b*n<=140737488355328/\n<=9223372036854775807:=by unfold nr at h;split at h<;>simp_all
section
open Classical
noncomputable def both {β:Type} (a b:Option β):Option β:=if a=b then a else none
end
theorem aa2 {β:Type} {a b:Option β} {r:β} (h:both a b=some r):a=some r/\b=some r:=by
 unfold both at h;split at h
 .rename_i e;exact⟨h,e▸h⟩
 .cases h
def hJ (fb:Bool) (a b:axa):axa:=if(if fb then !Op.bytesLess a b else(Op.bytesLess a b||a==b))=true then a else b
def kH (fb:Bool) (a b:Int):Int:=if fb then(if a<b then b else a)else(if b<a then b else a)
def jL (k:axa):awY->Bool
 |[]=>false
 |e::m=>if e.1=k then e.2 else jL k m
def j1 (k:axa) (b:Bool):awY->awY
 |[]=>[(k,b)]
 |e::m=>if e.1=k then(k,b)::m else e::j1 k b m
def jq (a:awZ) (s:axa):axa:=s.intercalate a
def iR (n:Nat):axa:=if n<10 then [UInt8.ofNat (48+n)]else [UInt8.ofNat (48+n/10),UInt8.ofNat (48+n%10)]
theorem R {a b:Prop} (x:a) (y:b):a/\b:=⟨x,y⟩
end Go.ef
