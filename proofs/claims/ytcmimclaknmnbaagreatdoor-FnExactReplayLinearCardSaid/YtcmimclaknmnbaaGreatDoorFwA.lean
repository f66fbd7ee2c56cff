/- Part of a proof that a law returns true for every input. No condition. -/
import GoSem.Core.View
import GoSem.Op.String
import GoSem.Core.Code
namespace Go.cC
open List Option Nat Or
abbrev anT:=List Int
abbrev anU:=List Nat
abbrev anR:=List UInt8
abbrev anW:=Option Int
abbrev anX:=List Value
abbrev anV:=Option Bool
abbrev anS:=List (List Nat)
abbrev anQ:=List (List UInt8)
abbrev anP:=List (List UInt8×Bool)
def bI {α:Type} (xs:List α) (n:Int):Option α:=if 0<=n then xs[n.toNat]? else none
def fw {α:Type} (xs:List α) (a b:Int):Option (List α):=if 0<=a/\a<=b/\b<=xs.length then some ((xs.take b.toNat).drop a.toNat)else none
def xj (c:Bool):Option Unit:=if c=true then some ()else none
def room (bytes n:Nat):Option Unit:=if n*bytes<=140737488355328/\n<=9223372036854775807 then some ()else none
def iO (n:Nat):Option Unit:=if n<=9223372036854775807 then some ()else none
def kg (bytes:Nat) (n:Int):Option Unit:=if 0<=n/\bytes*n<=140737488355328/\n<=9223372036854775807 then some ()else none
def ns (n:Int):UInt8:=UInt8.ofNat (IntKind.u8.wrap n).toNat
def bitsOf (op:BinOp) (k:IntKind) (x y:Int):Int:=
 match op with
 | .and=>k.wrap (BitVec.ofInt k.bits x&&&BitVec.ofInt k.bits y).toNat
 | .or=>k.wrap (BitVec.ofInt k.bits x|||BitVec.ofInt k.bits y).toNat
 | .xor=>k.wrap (BitVec.ofInt k.bits x^^^BitVec.ofInt k.bits y).toNat
 |_=>k.wrap (BitVec.ofInt k.bits x&&& ~~~(BitVec.ofInt k.bits y)).toNat
theorem aE {α β:Type} {o:Option α} {k:α->Option β} {r:β} (h:o.bind k=some r):∃x,o=some x/\k x=some r:=bind_eq_some_iff.1 h
theorem fH {β:Type} {b:Bool} {x y:Option β} {r:β} (h:cond b x y=some r):(b=true/\x=some r)\/(b=false/\y=some r):=by
 cases b
 .exact .inr ⟨rfl,h⟩
 .exact .inl ⟨rfl,h⟩
theorem gh {β:Type} {x r:β} (h:some x=some r):r=x:=(some.inj h).symm
section
open Classical
noncomputable def lim {β:Type} (f:Nat->Option β):Option β:=
 if h:∃x N,∀n,N<=n->f n=x then h.choose else none
end
theorem eU {β:Type} {f:Nat->Option β} {x:Option β} (N:Nat) (h:∀n,N<=n->f n=x):lim f=x:=by
 have hex:∃x N,∀n,N<=n->f n=x:=⟨x,N,h⟩
 unfold lim;rw[dif_pos hex];obtain⟨M,Gm⟩:=hex.choose_spec;rw[<-Gm (max M N) (Nat.le_max_left _ _)];exact h _ (Nat.le_max_right _ _)
theorem oR {β:Type} {f:Nat->Option β} {r:β} (h:lim f=some r):∃n,f n=some r:=by
 unfold lim at h;split at h
 .rename_i hex;obtain⟨M,Gm⟩:=hex.choose_spec;exact⟨M,(Gm M (Nat.le_refl _)).trans h⟩
 .cases h
theorem cn {α:Type} {xs:List α} {n:Int} {x:α} (h:bI xs n=some x):xs[n.toNat]? =some x:=by
 unfold bI at h;split at h
 .exact h
 .cases h
theorem MM {α β:Type} (e:α->β) (xs:List α) (n:Int):bI (xs.map e) n=(bI xs n).map e:=by
 unfold bI;split
 .simp
 .rfl
theorem MN {α β:Type} (e:α->β) (xs:List α) (a b:Int):fw (xs.map e) a b=(fw xs a b).map (map e):=by
 unfold fw;simp only[length_map];split
 .simp[map_drop,map_take]
 .rfl
theorem VW {α:Type} {xs:List α} {n:Int} (ba:0<=n) (h:n.toNat<xs.length):bI xs n=some xs[n.toNat]:=by
 unfold bI;rw[if_pos ba,getElem?_eq_getElem h]
theorem oS {b:Nat} {n:Int} {u:Unit} (h:kg b n=some u):0<=n/\b*n<=140737488355328/\n<=9223372036854775807:=by unfold kg at h;split at h<;>simp_all
section
open Classical
noncomputable def both {β:Type} (a b:Option β):Option β:=if a=b then a else none
end
theorem VX {β:Type} {a b:Option β} {r:β} (h:both a b=some r):a=some r/\b=some r:=by
 unfold both at h;split at h
 .rename_i e;exact⟨h,e▸h⟩
 .cases h
def CS (eI:Bool) (a b:anR):anR:=if(if eI then !Op.bytesLess a b else(Op.bytesLess a b||a==b))=true then a else b
def i_ (eI:Bool) (a b:Int):Int:=if eI then(if a<b then b else a)else(if b<a then b else a)
def kE (k:anR):anP->Bool
 |[]=>false
 |e::m=>if e.1=k then e.2 else kE k m
def kF (k:anR) (b:Bool):anP->anP
 |[]=>[(k,b)]
 |e::m=>if e.1=k then(k,b)::m else e::kF k b m
def gV (a:anQ) (s:anR):anR:=s.intercalate a
def mM (n:Nat):anR:=if n<10 then [UInt8.ofNat (48+n)]else [UInt8.ofNat (48+n/10),UInt8.ofNat (48+n%10)]
theorem ad {a b:Prop} (x:a) (y:b):a/\b:=⟨x,y⟩
end Go.cC
