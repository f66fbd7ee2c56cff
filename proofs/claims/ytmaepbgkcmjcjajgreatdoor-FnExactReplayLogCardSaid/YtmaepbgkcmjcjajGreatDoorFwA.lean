/- Part of a proof that a law returns true for every input. No condition. -/
import GoSem.Core.View
import GoSem.Op.String
import GoSem.Core.Code
namespace Go.ep
open List Option Nat Or
abbrev azs:=List Int
abbrev azt:=List Nat
abbrev azq:=List UInt8
abbrev azv:=Option Int
abbrev azw:=List Value
abbrev azu:=Option Bool
abbrev azr:=List (List Nat)
abbrev azp:=List (List UInt8)
abbrev azo:=List (List UInt8×Bool)
def bj {α:Type} (xs:List α) (n:Int):Option α:=if 0<=n then xs[n.toNat]? else none
def gG {α:Type} (xs:List α) (a b:Int):Option (List α):=if 0<=a/\a<=b/\b<=xs.length then some ((xs.take b.toNat).drop a.toNat)else none
def acU (c:Bool):Option Unit:=if c=true then some ()else none
def room (bytes n:Nat):Option Unit:=if n*bytes<=140737488355328/\n<=9223372036854775807 then some ()else none
def il (n:Nat):Option Unit:=if n<=9223372036854775807 then some ()else none
def nP (bytes:Nat) (n:Int):Option Unit:=if 0<=n/\bytes*n<=140737488355328/\n<=9223372036854775807 then some ()else none
def pe (n:Int):UInt8:=UInt8.ofNat (IntKind.u8.wrap n).toNat
def bitsOf (op:BinOp) (k:IntKind) (x y:Int):Int:=
 match op with
 | .and=>k.wrap (BitVec.ofInt k.bits x&&&BitVec.ofInt k.bits y).toNat
 | .or=>k.wrap (BitVec.ofInt k.bits x|||BitVec.ofInt k.bits y).toNat
 | .xor=>k.wrap (BitVec.ofInt k.bits x^^^BitVec.ofInt k.bits y).toNat
 |_=>k.wrap (BitVec.ofInt k.bits x&&& ~~~(BitVec.ofInt k.bits y)).toNat
theorem an {α β:Type} {o:Option α} {k:α->Option β} {r:β} (h:o.bind k=some r):∃x,o=some x/\k x=some r:=bind_eq_some_iff.1 h
theorem dO {β:Type} {b:Bool} {x y:Option β} {r:β} (h:cond b x y=some r):(b=true/\x=some r)\/(b=false/\y=some r):=by
 cases b
 .exact .inr ⟨rfl,h⟩
 .exact .inl ⟨rfl,h⟩
theorem eE {β:Type} {x r:β} (h:some x=some r):r=x:=(some.inj h).symm
section
open Classical
noncomputable def b3 {β:Type} (f:Nat->Option β):Option β:=
 if h:∃x N,∀n,N<=n->f n=x then h.choose else none
end
theorem e5 {β:Type} {f:Nat->Option β} {x:Option β} (N:Nat) (h:∀n,N<=n->f n=x):b3 f=x:=by
 have hex:∃x N,∀n,N<=n->f n=x:=⟨x,N,h⟩
 unfold b3;rw[dif_pos hex];obtain⟨M,MA⟩:=hex.choose_spec;rw[<-MA (max M N) (Nat.le_max_left _ _)];exact h _ (Nat.le_max_right _ _)
theorem l_ {β:Type} {f:Nat->Option β} {r:β} (h:b3 f=some r):∃n,f n=some r:=by
 unfold b3 at h;split at h
 .rename_i hex;obtain⟨M,MA⟩:=hex.choose_spec;exact⟨M,(MA M (Nat.le_refl _)).trans h⟩
 .cases h
theorem ca {α:Type} {xs:List α} {n:Int} {x:α} (h:bj xs n=some x):xs[n.toNat]? =some x:=by
 unfold bj at h;split at h
 .exact h
 .cases h
theorem T9 {α β:Type} (e:α->β) (xs:List α) (n:Int):bj (xs.map e) n=(bj xs n).map e:=by
 unfold bj;split
 .simp
 .rfl
theorem T_ {α β:Type} (e:α->β) (xs:List α) (a b:Int):gG (xs.map e) a b=(gG xs a b).map (map e):=by
 unfold gG;simp only[length_map];split
 .simp[map_drop,map_take]
 .rfl
theorem Ua {α:Type} {xs:List α} {n:Int} (a_:0<=n) (h:n.toNat<xs.length):bj xs n=some xs[n.toNat]:=by
 unfold bj;rw[if_pos a_,getElem?_eq_getElem h]
theorem q7 {b:Nat} {n:Int} {u:Unit} (h:nP b n=some u):0<=n/\b*n<=140737488355328/\n<=9223372036854775807:=by unfold nP at h;split at h<;>simp_all
section
open Classical
noncomputable def both {β:Type} (a b:Option β):Option β:=if a=b then a else none
end
theorem acV {β:Type} {a b:Option β} {r:β} (h:both a b=some r):a=some r/\b=some r:=by
 unfold both at h;split at h
 .rename_i e;exact⟨h,e▸h⟩
 .cases h
theorem acW {β:Type} (a:Option β):both a a=a:=by unfold both;simp
def h8 (fz:Bool) (a b:azq):azq:=if(if fz then !Op.bytesLess a b else(Op.bytesLess a b||a==b))=true then a else b
def k4 (fz:Bool) (a b:Int):Int:=if fz then(if a<b then b else a)else(if b<a then b else a)
def kh (k:azq):azo->Bool
 |[]=>false
 |e::m=>if e.1=k then e.2 else kh k m
def ku (k:azq) (b:Bool):azo->azo
 |[]=>[(k,b)]
 |e::m=>if e.1=k then(k,b)::m else e::ku k b m
def h1 (a:azp) (s:azq):azq:=s.intercalate a
def iQ (n:Nat):azq:=if n<10 then [UInt8.ofNat (48+n)]else [UInt8.ofNat (48+n/10),UInt8.ofNat (48+n%10)]
theorem U {a b:Prop} (x:a) (y:b):a/\b:=⟨x,y⟩
end Go.ep
