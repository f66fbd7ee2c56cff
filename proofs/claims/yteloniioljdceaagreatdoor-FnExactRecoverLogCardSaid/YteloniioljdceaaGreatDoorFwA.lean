/- Part of a proof that a law returns true for every input. No condition. -/
import GoSem.Core.View
import GoSem.Op.String
import GoSem.Core.Code
namespace Go.ca
open List Option Nat Or
abbrev RF:=List Int
abbrev RG:=List Nat
abbrev RD:=List UInt8
abbrev RI:=Option Int
abbrev RJ:=List Value
abbrev RH:=Option Bool
abbrev RE:=List (List Nat)
abbrev RC:=List (List UInt8)
abbrev RB:=List (List UInt8×Bool)
def cj {α:Type} (xs:List α) (n:Int):Option α:=if 0<=n then xs[n.toNat]? else none
def c8 {α:Type} (xs:List α) (a b:Int):Option (List α):=if 0<=a/\a<=b/\b<=xs.length then some ((xs.take b.toNat).drop a.toNat)else none
def room (bytes n:Nat):Option Unit:=if n*bytes<=140737488355328/\n<=9223372036854775807 then some ()else none
def ev (n:Nat):Option Unit:=if n<=9223372036854775807 then some ()else none
def nr (bytes:Nat) (n:Int):Option Unit:=if 0<=n/\bytes*n<=140737488355328/\n<=9223372036854775807 then some ()else none
def hT (n:Int):UInt8:=UInt8.ofNat (IntKind.u8.wrap n).toNat
def bitsOf (op:BinOp) (k:IntKind) (x y:Int):Int:=
 match op with
 | .and=>k.wrap (BitVec.ofInt k.bits x&&&BitVec.ofInt k.bits y).toNat
 | .or=>k.wrap (BitVec.ofInt k.bits x|||BitVec.ofInt k.bits y).toNat
 | .xor=>k.wrap (BitVec.ofInt k.bits x^^^BitVec.ofInt k.bits y).toNat
 |_=>k.wrap (BitVec.ofInt k.bits x&&& ~~~(BitVec.ofInt k.bits y)).toNat
theorem aU {α β:Type} {o:Option α} {k:α->Option β} {r:β} (h:o.bind k=some r):∃x,o=some x/\k x=some r:=bind_eq_some_iff.1 h
theorem fP {β:Type} {b:Bool} {x y:Option β} {r:β} (h:cond b x y=some r):(b=true/\x=some r)\/(b=false/\y=some r):=by
 cases b
 .exact .inr ⟨rfl,h⟩
 .exact .inl ⟨rfl,h⟩
theorem jc {β:Type} {x r:β} (h:some x=some r):r=x:=(some.inj h).symm
section
open Classical
noncomputable def eg {β:Type} (f:Nat->Option β):Option β:=
 if h:∃x N,∀n,N<=n->f n=x then h.choose else none
end
theorem ht {β:Type} {f:Nat->Option β} {x:Option β} (N:Nat) (h:∀n,N<=n->f n=x):eg f=x:=by
 have hex:∃x N,∀n,N<=n->f n=x:=⟨x,N,h⟩
 unfold eg;rw[dif_pos hex];obtain⟨M,v7⟩:=hex.choose_spec;rw[<-v7 (max M N) (Nat.le_max_left _ _)];exact h _ (Nat.le_max_right _ _)
theorem z1 {β:Type} {f:Nat->Option β} {r:β} (h:eg f=some r):∃n,f n=some r:=by
 unfold eg at h;split at h
 .rename_i hex;obtain⟨M,v7⟩:=hex.choose_spec;exact⟨M,(v7 M (Nat.le_refl _)).trans h⟩
 .cases h
theorem gZ {α:Type} {xs:List α} {n:Int} {x:α} (h:cj xs n=some x):xs[n.toNat]? =some x:=by
 unfold cj at h;split at h
 .exact h
 .cases h
theorem z6 {α β:Type} (e:α->β) (xs:List α) (n:Int):cj (xs.map e) n=(cj xs n).map e:=by
 unfold cj;split
 .simp
 .rfl
theorem z7 {α β:Type} (e:α->β) (xs:List α) (a b:Int):c8 (xs.map e) a b=(c8 xs a b).map (map e):=by
 unfold c8;simp only[length_map];split
 .simp[map_drop,map_take]
 .rfl
theorem z8 {α:Type} {xs:List α} {n:Int} (bj:0<=n) (h:n.toNat<xs.length):cj xs n=some xs[n.toNat]:=by
 unfold cj;rw[if_pos bj,getElem?_eq_getElem h]
theorem z_ {b:Nat} {n:Int} {u:Unit} (h:nr b n=some u):0<=n/\b*n<=140737488355328/\n<=9223372036854775807:=by unfold nr at h;split at h<;>simp_all
section
open Classical
noncomputable def both {β:Type} (a b:Option β):Option β:=if a=b then a else none
end
def tr (cY:Bool) (a b:RD):RD:=if(if cY then !Op.bytesLess a b else(Op.bytesLess a b||a==b))=true then a else b
def fC (cY:Bool) (a b:Int):Int:=if cY then(if a<b then b else a)else(if b<a then b else a)
def ns (k:RD):RB->Bool
 |[]=>false
 |e::m=>if e.1=k then e.2 else ns k m
def lB (k:RD) (b:Bool):RB->RB
 |[]=>[(k,b)]
 |e::m=>if e.1=k then(k,b)::m else e::lB k b m
def fQ (a:RC) (s:RD):RD:=s.intercalate a
def nt (n:Nat):RD:=if n<10 then [UInt8.ofNat (48+n)]else [UInt8.ofNat (48+n/10),UInt8.ofNat (48+n%10)]
theorem ai {a b:Prop} (x:a) (y:b):a/\b:=⟨x,y⟩
end Go.ca
