/- Part of a proof that a law returns true for every input. No condition. -/
import GoSem.Core.View
import GoSem.Op.String
import GoSem.Core.Code
namespace Go.ei
open List Option Nat Or
abbrev aze:=List Int
abbrev azf:=List Nat
abbrev azc:=List UInt8
abbrev azh:=Option Int
abbrev azi:=List Value
abbrev azg:=Option Bool
abbrev azd:=List (List Nat)
abbrev azb:=List (List UInt8)
abbrev aza:=List (List UInt8×Bool)
def bj {α:Type} (xs:List α) (n:Int):Option α:=if 0<=n then xs[n.toNat]? else none
def gL {α:Type} (xs:List α) (a b:Int):Option (List α):=if 0<=a/\a<=b/\b<=xs.length then some ((xs.take b.toNat).drop a.toNat)else none
def room (bytes n:Nat):Option Unit:=if n*bytes<=140737488355328/\n<=9223372036854775807 then some ()else none
def iJ (n:Nat):Option Unit:=if n<=9223372036854775807 then some ()else none
def nR (bytes:Nat) (n:Int):Option Unit:=if 0<=n/\bytes*n<=140737488355328/\n<=9223372036854775807 then some ()else none
def pk (n:Int):UInt8:=UInt8.ofNat (IntKind.u8.wrap n).toNat
def bitsOf (op:BinOp) (k:IntKind) (x y:Int):Int:=
 match op with
 | .and=>k.wrap (BitVec.ofInt k.bits x&&&BitVec.ofInt k.bits y).toNat
 | .or=>k.wrap (BitVec.ofInt k.bits x|||BitVec.ofInt k.bits y).toNat
 | .xor=>k.wrap (BitVec.ofInt k.bits x^^^BitVec.ofInt k.bits y).toNat
 |_=>k.wrap (BitVec.ofInt k.bits x&&& ~~~(BitVec.ofInt k.bits y)).toNat
theorem an {α β:Type} {o:Option α} {k:α->Option β} {r:β} (h:o.bind k=some r):∃x,o=some x/\k x=some r:=bind_eq_some_iff.1 h
theorem dH {β:Type} {b:Bool} {x y:Option β} {r:β} (h:cond b x y=some r):(b=true/\x=some r)\/(b=false/\y=some r):=by
 cases b
 .exact .inr ⟨rfl,h⟩
 .exact .inl ⟨rfl,h⟩
theorem eC {β:Type} {x r:β} (h:some x=some r):r=x:=(some.inj h).symm
section
open Classical
noncomputable def b5 {β:Type} (f:Nat->Option β):Option β:=
 if h:∃x N,∀n,N<=n->f n=x then h.choose else none
end
theorem e5 {β:Type} {f:Nat->Option β} {x:Option β} (N:Nat) (h:∀n,N<=n->f n=x):b5 f=x:=by
 have hex:∃x N,∀n,N<=n->f n=x:=⟨x,N,h⟩
 unfold b5;rw[dif_pos hex];obtain⟨M,Mw⟩:=hex.choose_spec;rw[<-Mw (max M N) (Nat.le_max_left _ _)];exact h _ (Nat.le_max_right _ _)
theorem lO {β:Type} {f:Nat->Option β} {r:β} (h:b5 f=some r):∃n,f n=some r:=by
 unfold b5 at h;split at h
 .rename_i hex;obtain⟨M,Mw⟩:=hex.choose_spec;exact⟨M,(Mw M (Nat.le_refl _)).trans h⟩
 .cases h
theorem cb {α:Type} {xs:List α} {n:Int} {x:α} (h:bj xs n=some x):xs[n.toNat]? =some x:=by
 unfold bj at h;split at h
 .exact h
 .cases h
theorem Uo {α β:Type} (e:α->β) (xs:List α) (n:Int):bj (xs.map e) n=(bj xs n).map e:=by
 unfold bj;split
 .simp
 .rfl
theorem Up {α β:Type} (e:α->β) (xs:List α) (a b:Int):gL (xs.map e) a b=(gL xs a b).map (map e):=by
 unfold gL;simp only[length_map];split
 .simp[map_drop,map_take]
 .rfl
theorem Uq {α:Type} {xs:List α} {n:Int} (bc:0<=n) (h:n.toNat<xs.length):bj xs n=some xs[n.toNat]:=by
 unfold bj;rw[if_pos bc,getElem?_eq_getElem h]
theorem rr {b:Nat} {n:Int} {u:Unit} (h:nR b n=some u):0<=n/\b*n<=140737488355328/\n<=9223372036854775807:=by unfold nR at h;split at h<;>simp_all
section
open Classical
noncomputable def both {β:Type} (a b:Option β):Option β:=if a=b then a else none
end
theorem acZ {β:Type} {a b:Option β} {r:β} (h:both a b=some r):a=some r/\b=some r:=by
 unfold both at h;split at h
 .rename_i e;exact⟨h,e▸h⟩
 .cases h
def h1 (fv:Bool) (a b:azc):azc:=if(if fv then !Op.bytesLess a b else(Op.bytesLess a b||a==b))=true then a else b
def kZ (fv:Bool) (a b:Int):Int:=if fv then(if a<b then b else a)else(if b<a then b else a)
def kg (k:azc):aza->Bool
 |[]=>false
 |e::m=>if e.1=k then e.2 else kg k m
def kx (k:azc) (b:Bool):aza->aza
 |[]=>[(k,b)]
 |e::m=>if e.1=k then(k,b)::m else e::kx k b m
def jQ (a:azb) (s:azc):azc:=s.intercalate a
def jn (n:Nat):azc:=if n<10 then [UInt8.ofNat (48+n)]else [UInt8.ofNat (48+n/10),UInt8.ofNat (48+n%10)]
theorem R {a b:Prop} (x:a) (y:b):a/\b:=⟨x,y⟩
end Go.ei
