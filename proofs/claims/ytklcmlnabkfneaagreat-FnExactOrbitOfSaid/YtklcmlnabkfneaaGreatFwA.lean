/- Part of a proof that a law returns true for every input. No condition. -/
import GoSem.Core.View
import GoSem.Op.String
import GoSem.Core.Code
namespace Go.de
open List Option Nat Or
abbrev alQ:=List Int
abbrev alR:=List Nat
abbrev alO:=List UInt8
abbrev alT:=Option Int
abbrev alU:=List Value
abbrev alS:=Option Bool
abbrev alP:=List (List Nat)
abbrev alN:=List (List UInt8)
abbrev alM:=List (List UInt8×Bool)
def bl {α:Type} (xs:List α) (n:Int):Option α:=if 0<=n then xs[n.toNat]? else none
def lk {α:Type} (xs:List α) (a b:Int):Option (List α):=if 0<=a/\a<=b/\b<=xs.length then some ((xs.take b.toNat).drop a.toNat)else none
def RF (c:Bool):Option Unit:=if c=true then some ()else none
def room (bytes n:Nat):Option Unit:=if n*bytes<=140737488355328/\n<=9223372036854775807 then some ()else none
def pD (n:Nat):Option Unit:=if n<=9223372036854775807 then some ()else none
def mF (bytes:Nat) (n:Int):Option Unit:=if 0<=n/\bytes*n<=140737488355328/\n<=9223372036854775807 then some ()else none
def qJ (n:Int):UInt8:=UInt8.ofNat (IntKind.u8.wrap n).toNat
def bitsOf (op:BinOp) (k:IntKind) (x y:Int):Int:=
 match op with
 | .and=>k.wrap (BitVec.ofInt k.bits x&&&BitVec.ofInt k.bits y).toNat
 | .or=>k.wrap (BitVec.ofInt k.bits x|||BitVec.ofInt k.bits y).toNat
 | .xor=>k.wrap (BitVec.ofInt k.bits x^^^BitVec.ofInt k.bits y).toNat
 |_=>k.wrap (BitVec.ofInt k.bits x&&& ~~~(BitVec.ofInt k.bits y)).toNat
theorem aA {α β:Type} {o:Option α} {k:α->Option β} {r:β} (h:o.bind k=some r):∃x,o=some x/\k x=some r:=bind_eq_some_iff.1 h
theorem ez {β:Type} {b:Bool} {x y:Option β} {r:β} (h:cond b x y=some r):(b=true/\x=some r)\/(b=false/\y=some r):=by
 cases b
 .exact .inr ⟨rfl,h⟩
 .exact .inl ⟨rfl,h⟩
theorem fC {β:Type} {x r:β} (h:some x=some r):r=x:=(some.inj h).symm
section
open Classical
noncomputable def lim {β:Type} (f:Nat->Option β):Option β:=
 if h:∃x N,∀n,N<=n->f n=x then h.choose else none
end
theorem eP {β:Type} {f:Nat->Option β} {x:Option β} (N:Nat) (h:∀n,N<=n->f n=x):lim f=x:=by
 have hex:∃x N,∀n,N<=n->f n=x:=⟨x,N,h⟩
 unfold lim;rw[dif_pos hex];obtain⟨M,D8⟩:=hex.choose_spec;rw[<-D8 (max M N) (Nat.le_max_left _ _)];exact h _ (Nat.le_max_right _ _)
theorem pE {β:Type} {f:Nat->Option β} {r:β} (h:lim f=some r):∃n,f n=some r:=by
 unfold lim at h;split at h
 .rename_i hex;obtain⟨M,D8⟩:=hex.choose_spec;exact⟨M,(D8 M (Nat.le_refl _)).trans h⟩
 .cases h
theorem br {α:Type} {xs:List α} {n:Int} {x:α} (h:bl xs n=some x):xs[n.toNat]? =some x:=by
 unfold bl at h;split at h
 .exact h
 .cases h
theorem Kn {α β:Type} (e:α->β) (xs:List α) (n:Int):bl (xs.map e) n=(bl xs n).map e:=by
 unfold bl;split
 .simp
 .rfl
theorem Ko {α β:Type} (e:α->β) (xs:List α) (a b:Int):lk (xs.map e) a b=(lk xs a b).map (map e):=by
 unfold lk;simp only[length_map];split
 .simp[map_drop,map_take]
 .rfl
theorem D9 {α:Type} {xs:List α} {n:Int} (aX:0<=n) (h:n.toNat<xs.length):bl xs n=some xs[n.toNat]:=by
 unfold bl;rw[if_pos aX,getElem?_eq_getElem h]
theorem pF {b:Nat} {n:Int} {u:Unit} (h:mF b n=some u):0<=n/\b*n<=140737488355328/\n<=9223372036854775807:=by unfold mF at h;split at h<;>simp_all
section
open Classical
noncomputable def both {β:Type} (a b:Option β):Option β:=if a=b then a else none
end
theorem RG {β:Type} {a b:Option β} {r:β} (h:both a b=some r):a=some r/\b=some r:=by
 unfold both at h;split at h
 .rename_i e;exact⟨h,e▸h⟩
 .cases h
def AL (ha:Bool) (a b:alO):alO:=if(if ha then !Op.bytesLess a b else(Op.bytesLess a b||a==b))=true then a else b
def D_ (ha:Bool) (a b:Int):Int:=if ha then(if a<b then b else a)else(if b<a then b else a)
def rP (k:alO):alM->Bool
 |[]=>false
 |e::m=>if e.1=k then e.2 else rP k m
def pG (k:alO) (b:Bool):alM->alM
 |[]=>[(k,b)]
 |e::m=>if e.1=k then(k,b)::m else e::pG k b m
theorem af {a b:Prop} (x:a) (y:b):a/\b:=⟨x,y⟩
end Go.de
