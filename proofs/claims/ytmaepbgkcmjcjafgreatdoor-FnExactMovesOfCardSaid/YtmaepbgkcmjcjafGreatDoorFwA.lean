/- Part of a proof that a law returns true for every input. No condition. -/
import GoSem.Core.View
import GoSem.Op.String
import GoSem.Core.Code
namespace Go.eg
open List Option Nat
abbrev aye:=List Int
abbrev ayf:=List Nat
abbrev ayc:=List UInt8
abbrev ayh:=Option Int
abbrev ayi:=List Value
abbrev ayg:=Option Bool
abbrev ayd:=List (List Nat)
abbrev ayb:=List (List UInt8)
abbrev aya:=List (List UInt8×Bool)
def bh {α:Type} (xs:List α) (n:Int):Option α:=if 0<=n then xs[n.toNat]? else none
def gB {α:Type} (xs:List α) (a b:Int):Option (List α):=if 0<=a/\a<=b/\b<=xs.length then some ((xs.take b.toNat).drop a.toNat)else none
def room (bytes n:Nat):Option Unit:=if n*bytes<=140737488355328/\n<=9223372036854775807 then some ()else none
def iz (n:Nat):Option Unit:=if n<=9223372036854775807 then some ()else none
def nz (bytes:Nat) (n:Int):Option Unit:=if 0<=n/\bytes*n<=140737488355328/\n<=9223372036854775807 then some ()else none
def o3 (n:Int):UInt8:=UInt8.ofNat (IntKind.u8.wrap n).toNat
def bitsOf (op:BinOp) (k:IntKind) (x y:Int):Int:=
 match op with
 | .and=>k.wrap (BitVec.ofInt k.bits x&&&BitVec.ofInt k.bits y).toNat
 | .or=>k.wrap (BitVec.ofInt k.bits x|||BitVec.ofInt k.bits y).toNat
 | .xor=>k.wrap (BitVec.ofInt k.bits x^^^BitVec.ofInt k.bits y).toNat
 |_=>k.wrap (BitVec.ofInt k.bits x&&& ~~~(BitVec.ofInt k.bits y)).toNat
theorem al {α β:Type} {o:Option α} {k:α->Option β} {r:β} (h:o.bind k=some r):∃x,o=some x/\k x=some r:=bind_eq_some_iff.1 h
theorem dH {β:Type} {b:Bool} {x y:Option β} {r:β} (h:cond b x y=some r):(b=true/\x=some r)\/(b=false/\y=some r):=by
 cases b
 .exact .inr ⟨rfl,h⟩
 .exact .inl ⟨rfl,h⟩
theorem eZ {β:Type} {x r:β} (h:some x=some r):r=x:=(some.inj h).symm
section
open Classical
noncomputable def bZ {β:Type} (f:Nat->Option β):Option β:=
 if h:∃x N,∀n,N<=n->f n=x then h.choose else none
end
theorem fb {β:Type} {f:Nat->Option β} {x:Option β} (N:Nat) (h:∀n,N<=n->f n=x):bZ f=x:=by
 have hex:∃x N,∀n,N<=n->f n=x:=⟨x,N,h⟩
 unfold bZ;rw[dif_pos hex];obtain⟨M,LR⟩:=hex.choose_spec;rw[<-LR (max M N) (Nat.le_max_left _ _)];exact h _ (Nat.le_max_right _ _)
theorem cC {β:Type} {f:Nat->Option β} {r:β} (h:bZ f=some r):∃n,f n=some r:=by
 unfold bZ at h;split at h
 .rename_i hex;obtain⟨M,LR⟩:=hex.choose_spec;exact⟨M,(LR M (Nat.le_refl _)).trans h⟩
 .cases h
theorem b2 {α:Type} {xs:List α} {n:Int} {x:α} (h:bh xs n=some x):xs[n.toNat]? =some x:=by
 unfold bh at h;split at h
 .exact h
 .cases h
theorem Tv {α β:Type} (e:α->β) (xs:List α) (n:Int):bh (xs.map e) n=(bh xs n).map e:=by
 unfold bh;split
 .simp
 .rfl
theorem Tw {α β:Type} (e:α->β) (xs:List α) (a b:Int):gB (xs.map e) a b=(gB xs a b).map (map e):=by
 unfold gB;simp only[length_map];split
 .simp[map_drop,map_take]
 .rfl
theorem Tx {α:Type} {xs:List α} {n:Int} (a_:0<=n) (h:n.toNat<xs.length):bh xs n=some xs[n.toNat]:=by
 unfold bh;rw[if_pos a_,getElem?_eq_getElem h]
theorem qT {b:Nat} {n:Int} {u:Unit} (h:nz b n=some u):0<=n/\b*n<=140737488355328/\n<=9223372036854775807:=by unfold nz at h;split at h<;>simp_all
section
open Classical
noncomputable def both {β:Type} (a b:Option β):Option β:=if a=b then a else none
end
theorem acm {β:Type} {a b:Option β} {r:β} (h:both a b=some r):a=some r/\b=some r:=by
 unfold both at h;split at h
 .rename_i e;exact⟨h,e▸h⟩
 .cases h
def hT (fq:Bool) (a b:ayc):ayc:=if(if fq then !Op.bytesLess a b else(Op.bytesLess a b||a==b))=true then a else b
def kQ (fq:Bool) (a b:Int):Int:=if fq then(if a<b then b else a)else(if b<a then b else a)
def j1 (k:ayc):aya->Bool
 |[]=>false
 |e::m=>if e.1=k then e.2 else j1 k m
def kh (k:ayc) (b:Bool):aya->aya
 |[]=>[(k,b)]
 |e::m=>if e.1=k then(k,b)::m else e::kh k b m
def jE (a:ayb) (s:ayc):ayc:=s.intercalate a
def jg (n:Nat):ayc:=if n<10 then [UInt8.ofNat (48+n)]else [UInt8.ofNat (48+n/10),UInt8.ofNat (48+n%10)]
theorem U {a b:Prop} (x:a) (y:b):a/\b:=⟨x,y⟩
end Go.eg
