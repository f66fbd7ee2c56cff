/- Part of a proof that a law returns true for every input. No condition. -/
import GoSem.Core.View
import GoSem.Op.String
import GoSem.Core.Code
namespace Go.ek
open List Option Nat Or
abbrev arG:=List Int
abbrev arH:=List Nat
abbrev arE:=List UInt8
abbrev arJ:=Option Int
abbrev arK:=List Value
abbrev arI:=Option Bool
abbrev arF:=List (List Nat)
abbrev arD:=List (List UInt8)
abbrev arC:=List (List UInt8×Bool)
def a_ {α:Type} (xs:List α) (n:Int):Option α:=if 0<=n then xs[n.toNat]? else none
def jY {α:Type} (xs:List α) (a b:Int):Option (List α):=if 0<=a/\a<=b/\b<=xs.length then some ((xs.take b.toNat).drop a.toNat)else none
def Iq (c:Bool):Option Unit:=if c=true then some ()else none
def room (bytes n:Nat):Option Unit:=if n*bytes<=140737488355328/\n<=9223372036854775807 then some ()else none
def sa (n:Nat):Option Unit:=if n<=9223372036854775807 then some ()else none
def l0 (bytes:Nat) (n:Int):Option Unit:=if 0<=n/\bytes*n<=140737488355328/\n<=9223372036854775807 then some ()else none
def th (n:Int):UInt8:=UInt8.ofNat (IntKind.u8.wrap n).toNat
def bitsOf (op:BinOp) (k:IntKind) (x y:Int):Int:=
 match op with
 | .and=>k.wrap (BitVec.ofInt k.bits x&&&BitVec.ofInt k.bits y).toNat
 | .or=>k.wrap (BitVec.ofInt k.bits x|||BitVec.ofInt k.bits y).toNat
 | .xor=>k.wrap (BitVec.ofInt k.bits x^^^BitVec.ofInt k.bits y).toNat
 |_=>k.wrap (BitVec.ofInt k.bits x&&& ~~~(BitVec.ofInt k.bits y)).toNat
theorem ar {α β:Type} {o:Option α} {k:α->Option β} {r:β} (h:o.bind k=some r):∃x,o=some x/\k x=some r:=bind_eq_some_iff.1 h
theorem dH {β:Type} {b:Bool} {x y:Option β} {r:β} (h:cond b x y=some r):(b=true/\x=some r)\/(b=false/\y=some r):=by
 cases b
 .exact .inr ⟨rfl,h⟩
 .exact .inl ⟨rfl,h⟩
theorem gU {β:Type} {x r:β} (h:some x=some r):r=x:=(some.inj h).symm
section
open Classical
noncomputable def bU {β:Type} (f:Nat->Option β):Option β:=
 if h:∃x N,∀n,N<=n->f n=x then h.choose else none
end
theorem fO {β:Type} {f:Nat->Option β} {x:Option β} (N:Nat) (h:∀n,N<=n->f n=x):bU f=x:=by
 have hex:∃x N,∀n,N<=n->f n=x:=⟨x,N,h⟩
 unfold bU;rw[dif_pos hex];obtain⟨M,Ir⟩:=hex.choose_spec;rw[<-Ir (max M N) (Nat.le_max_left _ _)];exact h _ (Nat.le_max_right _ _)
theorem mo {β:Type} {f:Nat->Option β} {r:β} (h:bU f=some r):∃n,f n=some r:=by
 unfold bU at h;split at h
 .rename_i hex;obtain⟨M,Ir⟩:=hex.choose_spec;exact⟨M,(Ir M (Nat.le_refl _)).trans h⟩
 .cases h
theorem cu {α:Type} {xs:List α} {n:Int} {x:α} (h:a_ xs n=some x):xs[n.toNat]? =some x:=by
 unfold a_ at h;split at h
 .exact h
 .cases h
theorem PB {α β:Type} (e:α->β) (xs:List α) (n:Int):a_ (xs.map e) n=(a_ xs n).map e:=by
 unfold a_;split
 .simp
 .rfl
theorem PC {α β:Type} (e:α->β) (xs:List α) (a b:Int):jY (xs.map e) a b=(jY xs a b).map (map e):=by
 unfold jY;simp only[length_map];split
 .simp[map_drop,map_take]
 .rfl
theorem PD {α:Type} {xs:List α} {n:Int} (a5:0<=n) (h:n.toNat<xs.length):a_ xs n=some xs[n.toNat]:=by
 unfold a_;rw[if_pos a5,getElem?_eq_getElem h]
theorem pa {b:Nat} {n:Int} {u:Unit} (h:l0 b n=some u):0<=n/\b*n<=140737488355328/\n<=9223372036854775807:=by unfold l0 at h;split at h<;>simp_all
section
open Classical
noncomputable def both {β:Type} (a b:Option β):Option β:=if a=b then a else none
end
theorem Eh {β:Type} {a b:Option β} {r:β} (h:both a b=some r):a=some r/\b=some r:=by
 unfold both at h;split at h
 .rename_i e;exact⟨h,e▸h⟩
 .cases h
def Ei (fs:Bool) (a b:arE):arE:=if(if fs then !Op.bytesLess a b else(Op.bytesLess a b||a==b))=true then a else b
def ti (fs:Bool) (a b:Int):Int:=if fs then(if a<b then b else a)else(if b<a then b else a)
def uE (k:arE):arC->Bool
 |[]=>false
 |e::m=>if e.1=k then e.2 else uE k m
def sb (k:arE) (b:Bool):arC->arC
 |[]=>[(k,b)]
 |e::m=>if e.1=k then(k,b)::m else e::sb k b m
theorem aa {a b:Prop} (x:a) (y:b):a/\b:=⟨x,y⟩
end Go.ek
