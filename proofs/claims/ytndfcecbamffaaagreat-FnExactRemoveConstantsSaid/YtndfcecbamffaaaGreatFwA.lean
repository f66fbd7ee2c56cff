/- Part of a proof that a law returns true for every input. No condition. -/
import GoSem.Core.View
import GoSem.Op.String
import GoSem.Core.Code
namespace Go.c3
open List Option Nat Or
abbrev afb:=List Int
abbrev afc:=List Nat
abbrev nq:=List UInt8
abbrev afe:=Option Int
abbrev aff:=List Value
abbrev afd:=Option Bool
abbrev afa:=List (List Nat)
abbrev gk:=List (List UInt8×Bool)
def bG {α:Type} (xs:List α) (n:Int):Option α:=if 0<=n then xs[n.toNat]? else none
def gw {α:Type} (xs:List α) (a b:Int):Option (List α):=if 0<=a/\a<=b/\b<=xs.length then some ((xs.take b.toNat).drop a.toNat)else none
def zi (c:Bool):Option Unit:=if c=true then some ()else none
def room (bytes n:Nat):Option Unit:=if n*bytes<=140737488355328/\n<=9223372036854775807 then some ()else none
def pv (n:Nat):Option Unit:=if n<=9223372036854775807 then some ()else none
def nN (bytes:Nat) (n:Int):Option Unit:=if 0<=n/\bytes*n<=140737488355328/\n<=9223372036854775807 then some ()else none
def qq (n:Int):UInt8:=UInt8.ofNat (IntKind.u8.wrap n).toNat
def bitsOf (op:BinOp) (k:IntKind) (x y:Int):Int:=
 match op with
 | .and=>k.wrap (BitVec.ofInt k.bits x&&&BitVec.ofInt k.bits y).toNat
 | .or=>k.wrap (BitVec.ofInt k.bits x|||BitVec.ofInt k.bits y).toNat
 | .xor=>k.wrap (BitVec.ofInt k.bits x^^^BitVec.ofInt k.bits y).toNat
 |_=>k.wrap (BitVec.ofInt k.bits x&&& ~~~(BitVec.ofInt k.bits y)).toNat
theorem aJ {α β:Type} {o:Option α} {k:α->Option β} {r:β} (h:o.bind k=some r):∃x,o=some x/\k x=some r:=bind_eq_some_iff.1 h
theorem fG {β:Type} {b:Bool} {x y:Option β} {r:β} (h:cond b x y=some r):(b=true/\x=some r)\/(b=false/\y=some r):=by
 cases b
 .exact .inr ⟨rfl,h⟩
 .exact .inl ⟨rfl,h⟩
theorem kM {β:Type} {x r:β} (h:some x=some r):r=x:=(some.inj h).symm
section
open Classical
noncomputable def cA {β:Type} (f:Nat->Option β):Option β:=
 if h:∃x N,∀n,N<=n->f n=x then h.choose else none
end
theorem gQ {β:Type} {f:Nat->Option β} {x:Option β} (N:Nat) (h:∀n,N<=n->f n=x):cA f=x:=by
 have hex:∃x N,∀n,N<=n->f n=x:=⟨x,N,h⟩
 unfold cA;rw[dif_pos hex];obtain⟨M,fH⟩:=hex.choose_spec;rw[<-fH (max M N) (Nat.le_max_left _ _)];exact h _ (Nat.le_max_right _ _)
theorem jl {β:Type} {f:Nat->Option β} {r:β} (h:cA f=some r):∃n,f n=some r:=by
 unfold cA at h;split at h
 .rename_i hex;obtain⟨M,fH⟩:=hex.choose_spec;exact⟨M,(fH M (Nat.le_refl _)).trans h⟩
 .cases h
theorem cB {α:Type} {xs:List α} {n:Int} {x:α} (h:bG xs n=some x):xs[n.toNat]? =some x:=by
 unfold bG at h;split at h
 .exact h
 .cases h
theorem H2 {α β:Type} (e:α->β) (xs:List α) (n:Int):bG (xs.map e) n=(bG xs n).map e:=by
 unfold bG;split
 .simp
 .rfl
theorem H3 {α β:Type} (e:α->β) (xs:List α) (a b:Int):gw (xs.map e) a b=(gw xs a b).map (map e):=by
 unfold gw;simp only[length_map];split
 .simp[map_drop,map_take]
 .rfl
theorem H4 {α:Type} {xs:List α} {n:Int} (bo:0<=n) (h:n.toNat<xs.length):bG xs n=some xs[n.toNat]:=by
 unfold bG;rw[if_pos bo,getElem?_eq_getElem h]
theorem sm {b:Nat} {n:Int} {u:Unit} (h:nN b n=some u):0<=n/\b*n<=140737488355328/\n<=9223372036854775807:=by unfold nN at h;split at h<;>simp_all
section
open Classical
noncomputable def both {β:Type} (a b:Option β):Option β:=if a=b then a else none
end
theorem Cw {β:Type} {a b:Option β} {r:β} (h:both a b=some r):a=some r/\b=some r:=by
 unfold both at h;split at h
 .rename_i e;exact⟨h,e▸h⟩
 .cases h
def zj (g0:Bool) (a b:nq):nq:=if(if g0 then !Op.bytesLess a b else(Op.bytesLess a b||a==b))=true then a else b
def Cx (g0:Bool) (a b:Int):Int:=if g0 then(if a<b then b else a)else(if b<a then b else a)
def ru (k:nq):gk->Bool
 |[]=>false
 |e::m=>if e.1=k then e.2 else ru k m
def pw (k:nq) (b:Bool):gk->gk
 |[]=>[(k,b)]
 |e::m=>if e.1=k then(k,b)::m else e::pw k b m
theorem ad {a b:Prop} (x:a) (y:b):a/\b:=⟨x,y⟩
end Go.c3
