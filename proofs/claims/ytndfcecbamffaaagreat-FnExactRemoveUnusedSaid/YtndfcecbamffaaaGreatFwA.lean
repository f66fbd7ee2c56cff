/- Part of a proof that a law returns true for every input. No condition. -/
import GoSem.Core.View
import GoSem.Op.String
import GoSem.Core.Code
namespace Go.cW
open List Option Nat Or
abbrev abH:=List Int
abbrev abI:=List Nat
abbrev nq:=List UInt8
abbrev abK:=Option Int
abbrev abL:=List Value
abbrev abJ:=Option Bool
abbrev abG:=List (List Nat)
abbrev gk:=List (List UInt8×Bool)
def bS {α:Type} (xs:List α) (n:Int):Option α:=if 0<=n then xs[n.toNat]? else none
def jJ {α:Type} (xs:List α) (a b:Int):Option (List α):=if 0<=a/\a<=b/\b<=xs.length then some ((xs.take b.toNat).drop a.toNat)else none
def Be (c:Bool):Option Unit:=if c=true then some ()else none
def room (bytes n:Nat):Option Unit:=if n*bytes<=140737488355328/\n<=9223372036854775807 then some ()else none
def oK (n:Nat):Option Unit:=if n<=9223372036854775807 then some ()else none
def lA (bytes:Nat) (n:Int):Option Unit:=if 0<=n/\bytes*n<=140737488355328/\n<=9223372036854775807 then some ()else none
def pO (n:Int):UInt8:=UInt8.ofNat (IntKind.u8.wrap n).toNat
def bitsOf (op:BinOp) (k:IntKind) (x y:Int):Int:=
 match op with
 | .and=>k.wrap (BitVec.ofInt k.bits x&&&BitVec.ofInt k.bits y).toNat
 | .or=>k.wrap (BitVec.ofInt k.bits x|||BitVec.ofInt k.bits y).toNat
 | .xor=>k.wrap (BitVec.ofInt k.bits x^^^BitVec.ofInt k.bits y).toNat
 |_=>k.wrap (BitVec.ofInt k.bits x&&& ~~~(BitVec.ofInt k.bits y)).toNat
theorem aO {α β:Type} {o:Option α} {k:α->Option β} {r:β} (h:o.bind k=some r):∃x,o=some x/\k x=some r:=bind_eq_some_iff.1 h
theorem gi {β:Type} {b:Bool} {x y:Option β} {r:β} (h:cond b x y=some r):(b=true/\x=some r)\/(b=false/\y=some r):=by
 cases b
 .exact .inr ⟨rfl,h⟩
 .exact .inl ⟨rfl,h⟩
theorem j4 {β:Type} {x r:β} (h:some x=some r):r=x:=(some.inj h).symm
section
open Classical
noncomputable def lim {β:Type} (f:Nat->Option β):Option β:=
 if h:∃x N,∀n,N<=n->f n=x then h.choose else none
end
theorem hS {β:Type} {f:Nat->Option β} {x:Option β} (N:Nat) (h:∀n,N<=n->f n=x):lim f=x:=by
 have hex:∃x N,∀n,N<=n->f n=x:=⟨x,N,h⟩
 unfold lim;rw[dif_pos hex];obtain⟨M,e8⟩:=hex.choose_spec;rw[<-e8 (max M N) (Nat.le_max_left _ _)];exact h _ (Nat.le_max_right _ _)
theorem lB {β:Type} {f:Nat->Option β} {r:β} (h:lim f=some r):∃n,f n=some r:=by
 unfold lim at h;split at h
 .rename_i hex;obtain⟨M,e8⟩:=hex.choose_spec;exact⟨M,(e8 M (Nat.le_refl _)).trans h⟩
 .cases h
theorem cD {α:Type} {xs:List α} {n:Int} {x:α} (h:bS xs n=some x):xs[n.toNat]? =some x:=by
 unfold bS at h;split at h
 .exact h
 .cases h
theorem GO {α β:Type} (e:α->β) (xs:List α) (n:Int):bS (xs.map e) n=(bS xs n).map e:=by
 unfold bS;split
 .simp
 .rfl
theorem GP {α β:Type} (e:α->β) (xs:List α) (a b:Int):jJ (xs.map e) a b=(jJ xs a b).map (map e):=by
 unfold jJ;simp only[length_map];split
 .simp[map_drop,map_take]
 .rfl
theorem Bf {α:Type} {xs:List α} {n:Int} (bq:0<=n) (h:n.toNat<xs.length):bS xs n=some xs[n.toNat]:=by
 unfold bS;rw[if_pos bq,getElem?_eq_getElem h]
theorem rE {b:Nat} {n:Int} {u:Unit} (h:lA b n=some u):0<=n/\b*n<=140737488355328/\n<=9223372036854775807:=by unfold lA at h;split at h<;>simp_all
section
open Classical
noncomputable def both {β:Type} (a b:Option β):Option β:=if a=b then a else none
end
theorem GQ {β:Type} {a b:Option β} {r:β} (h:both a b=some r):a=some r/\b=some r:=by
 unfold both at h;split at h
 .rename_i e;exact⟨h,e▸h⟩
 .cases h
def j5 {α:Type} [DecidableEq α] (p:Option α):List α->List α
 |[]=>[]
 |x::r=>if p=some x then j5 (some x) r else x::j5 (some x) r
def yw (gJ:Bool) (a b:nq):nq:=if(if gJ then !Op.bytesLess a b else(Op.bytesLess a b||a==b))=true then a else b
def Bg (gJ:Bool) (a b:Int):Int:=if gJ then(if a<b then b else a)else(if b<a then b else a)
def qA (k:nq):gk->Bool
 |[]=>false
 |e::m=>if e.1=k then e.2 else qA k m
def oL (k:nq) (b:Bool):gk->gk
 |[]=>[(k,b)]
 |e::m=>if e.1=k then(k,b)::m else e::oL k b m
theorem aa {a b:Prop} (x:a) (y:b):a/\b:=⟨x,y⟩
end Go.cW
