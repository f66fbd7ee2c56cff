/- Part of a proof that a law returns true for every input. No condition. -/
import GoSem.Core.View
import GoSem.Op.String
import GoSem.Core.Code
namespace Go.cV
open List Option Nat Or
abbrev Vl:=List Int
abbrev Vm:=List Nat
abbrev Vj:=List UInt8
abbrev Vo:=Option Int
abbrev Vp:=List Value
abbrev Vn:=Option Bool
abbrev Vk:=List (List Nat)
abbrev Vi:=List (List UInt8×Bool)
def ca {α:Type} (xs:List α) (n:Int):Option α:=if 0<=n then xs[n.toNat]? else none
def i0 {α:Type} (xs:List α) (a b:Int):Option (List α):=if 0<=a/\a<=b/\b<=xs.length then some ((xs.take b.toNat).drop a.toNat)else none
def II (c:Bool):Option Unit:=if c=true then some ()else none
def room (bytes n:Nat):Option Unit:=if n*bytes<=140737488355328/\n<=9223372036854775807 then some ()else none
def m7 (n:Nat):Option Unit:=if n<=9223372036854775807 then some ()else none
def kT (bytes:Nat) (n:Int):Option Unit:=if 0<=n/\bytes*n<=140737488355328/\n<=9223372036854775807 then some ()else none
def nL (n:Int):UInt8:=UInt8.ofNat (IntKind.u8.wrap n).toNat
def bitsOf (op:BinOp) (k:IntKind) (x y:Int):Int:=
 match op with
 | .and=>k.wrap (BitVec.ofInt k.bits x&&&BitVec.ofInt k.bits y).toNat
 | .or=>k.wrap (BitVec.ofInt k.bits x|||BitVec.ofInt k.bits y).toNat
 | .xor=>k.wrap (BitVec.ofInt k.bits x^^^BitVec.ofInt k.bits y).toNat
 |_=>k.wrap (BitVec.ofInt k.bits x&&& ~~~(BitVec.ofInt k.bits y)).toNat
theorem aU {α β:Type} {o:Option α} {k:α->Option β} {r:β} (h:o.bind k=some r):∃x,o=some x/\k x=some r:=bind_eq_some_iff.1 h
theorem g3 {β:Type} {b:Bool} {x y:Option β} {r:β} (h:cond b x y=some r):(b=true/\x=some r)\/(b=false/\y=some r):=by
 cases b
 .exact .inr ⟨rfl,h⟩
 .exact .inl ⟨rfl,h⟩
theorem hb {β:Type} {x r:β} (h:some x=some r):r=x:=(some.inj h).symm
section
open Classical
noncomputable def cX {β:Type} (f:Nat->Option β):Option β:=
 if h:∃x N,∀n,N<=n->f n=x then h.choose else none
end
theorem hc {β:Type} {f:Nat->Option β} {x:Option β} (N:Nat) (h:∀n,N<=n->f n=x):cX f=x:=by
 have hex:∃x N,∀n,N<=n->f n=x:=⟨x,N,h⟩
 unfold cX;rw[dif_pos hex];obtain⟨M,x6⟩:=hex.choose_spec;rw[<-x6 (max M N) (Nat.le_max_left _ _)];exact h _ (Nat.le_max_right _ _)
theorem pV {β:Type} {f:Nat->Option β} {r:β} (h:cX f=some r):∃n,f n=some r:=by
 unfold cX at h;split at h
 .rename_i hex;obtain⟨M,x6⟩:=hex.choose_spec;exact⟨M,(x6 M (Nat.le_refl _)).trans h⟩
 .cases h
theorem c7 {α:Type} {xs:List α} {n:Int} {x:α} (h:ca xs n=some x):xs[n.toNat]? =some x:=by
 unfold ca at h;split at h
 .exact h
 .cases h
theorem Cv {α β:Type} (e:α->β) (xs:List α) (n:Int):ca (xs.map e) n=(ca xs n).map e:=by
 unfold ca;split
 .simp
 .rfl
theorem Cw {α β:Type} (e:α->β) (xs:List α) (a b:Int):i0 (xs.map e) a b=(i0 xs a b).map (map e):=by
 unfold i0;simp only[length_map];split
 .simp[map_drop,map_take]
 .rfl
theorem Cx {α:Type} {xs:List α} {n:Int} (bt:0<=n) (h:n.toNat<xs.length):ca xs n=some xs[n.toNat]:=by
 unfold ca;rw[if_pos bt,getElem?_eq_getElem h]
theorem oP {b:Nat} {n:Int} {u:Unit} (h:kT b n=some u):0<=n/\b*n<=140737488355328/\n<=9223372036854775807:=by unfold kT at h;split at h<;>simp_all
section
open Classical
noncomputable def both {β:Type} (a b:Option β):Option β:=if a=b then a else none
end
theorem Cy {β:Type} {a b:Option β} {r:β} (h:both a b=some r):a=some r/\b=some r:=by
 unfold both at h;split at h
 .rename_i e;exact⟨h,e▸h⟩
 .cases h
def vw (fO:Bool) (a b:Vj):Vj:=if(if fO then !Op.bytesLess a b else(Op.bytesLess a b||a==b))=true then a else b
def x7 (fO:Bool) (a b:Int):Int:=if fO then(if a<b then b else a)else(if b<a then b else a)
def oQ (k:Vj):Vi->Bool
 |[]=>false
 |e::m=>if e.1=k then e.2 else oQ k m
def m8 (k:Vj) (b:Bool):Vi->Vi
 |[]=>[(k,b)]
 |e::m=>if e.1=k then(k,b)::m else e::m8 k b m
theorem ab {a b:Prop} (x:a) (y:b):a/\b:=⟨x,y⟩
end Go.cV
