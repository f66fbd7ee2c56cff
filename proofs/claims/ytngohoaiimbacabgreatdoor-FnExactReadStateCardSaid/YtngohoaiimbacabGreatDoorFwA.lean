/- Part of a proof that a law returns true for every input. No condition. -/
import GoSem.Core.View
import GoSem.Op.String
import GoSem.Core.Code
namespace Go.c_
open List Option Nat Or
abbrev ahv:=List Int
abbrev ahw:=List Nat
abbrev aht:=List UInt8
abbrev ahy:=Option Int
abbrev ahz:=List Value
abbrev ahx:=Option Bool
abbrev ahu:=List (List Nat)
abbrev nq:=List (List UInt8)
abbrev gk:=List (List UInt8×Bool)
def bh {α:Type} (xs:List α) (n:Int):Option α:=if 0<=n then xs[n.toNat]? else none
def gR {α:Type} (xs:List α) (a b:Int):Option (List α):=if 0<=a/\a<=b/\b<=xs.length then some ((xs.take b.toNat).drop a.toNat)else none
def room (bytes n:Nat):Option Unit:=if n*bytes<=140737488355328/\n<=9223372036854775807 then some ()else none
def lH (n:Nat):Option Unit:=if n<=9223372036854775807 then some ()else none
def la (bytes:Nat) (n:Int):Option Unit:=if 0<=n/\bytes*n<=140737488355328/\n<=9223372036854775807 then some ()else none
def p5 (n:Int):UInt8:=UInt8.ofNat (IntKind.u8.wrap n).toNat
def bitsOf (op:BinOp) (k:IntKind) (x y:Int):Int:=
 match op with
 | .and=>k.wrap (BitVec.ofInt k.bits x&&&BitVec.ofInt k.bits y).toNat
 | .or=>k.wrap (BitVec.ofInt k.bits x|||BitVec.ofInt k.bits y).toNat
 | .xor=>k.wrap (BitVec.ofInt k.bits x^^^BitVec.ofInt k.bits y).toNat
 |_=>k.wrap (BitVec.ofInt k.bits x&&& ~~~(BitVec.ofInt k.bits y)).toNat
theorem aB {α β:Type} {o:Option α} {k:α->Option β} {r:β} (h:o.bind k=some r):∃x,o=some x/\k x=some r:=bind_eq_some_iff.1 h
theorem eg {β:Type} {b:Bool} {x y:Option β} {r:β} (h:cond b x y=some r):(b=true/\x=some r)\/(b=false/\y=some r):=by
 cases b
 .exact .inr ⟨rfl,h⟩
 .exact .inl ⟨rfl,h⟩
theorem h7 {β:Type} {x r:β} (h:some x=some r):r=x:=(some.inj h).symm
section
open Classical
noncomputable def ca {β:Type} (f:Nat->Option β):Option β:=
 if h:∃x N,∀n,N<=n->f n=x then h.choose else none
end
theorem hi {β:Type} {f:Nat->Option β} {x:Option β} (N:Nat) (h:∀n,N<=n->f n=x):ca f=x:=by
 have hex:∃x N,∀n,N<=n->f n=x:=⟨x,N,h⟩
 unfold ca;rw[dif_pos hex];obtain⟨M,CX⟩:=hex.choose_spec;rw[<-CX (max M N) (Nat.le_max_left _ _)];exact h _ (Nat.le_max_right _ _)
theorem p6 {β:Type} {f:Nat->Option β} {r:β} (h:ca f=some r):∃n,f n=some r:=by
 unfold ca at h;split at h
 .rename_i hex;obtain⟨M,CX⟩:=hex.choose_spec;exact⟨M,(CX M (Nat.le_refl _)).trans h⟩
 .cases h
theorem cq {α:Type} {xs:List α} {n:Int} {x:α} (h:bh xs n=some x):xs[n.toNat]? =some x:=by
 unfold bh at h;split at h
 .exact h
 .cases h
theorem IY {α β:Type} (e:α->β) (xs:List α) (n:Int):bh (xs.map e) n=(bh xs n).map e:=by
 unfold bh;split
 .simp
 .rfl
theorem IZ {α β:Type} (e:α->β) (xs:List α) (a b:Int):gR (xs.map e) a b=(gR xs a b).map (map e):=by
 unfold gR;simp only[length_map];split
 .simp[map_drop,map_take]
 .rfl
theorem I0 {α:Type} {xs:List α} {n:Int} (aV:0<=n) (h:n.toNat<xs.length):bh xs n=some xs[n.toNat]:=by
 unfold bh;rw[if_pos aV,getElem?_eq_getElem h]
theorem n8 {b:Nat} {n:Int} {u:Unit} (h:la b n=some u):0<=n/\b*n<=140737488355328/\n<=9223372036854775807:=by unfold la at h;split at h<;>simp_all
section
open Classical
noncomputable def both {β:Type} (a b:Option β):Option β:=if a=b then a else none
end
def zp (eA:Bool) (a b:aht):aht:=if(if eA then !Op.bytesLess a b else(Op.bytesLess a b||a==b))=true then a else b
def iy (eA:Bool) (a b:Int):Int:=if eA then(if a<b then b else a)else(if b<a then b else a)
def q0 (k:aht):gk->Bool
 |[]=>false
 |e::m=>if e.1=k then e.2 else q0 k m
def o1 (k:aht) (b:Bool):gk->gk
 |[]=>[(k,b)]
 |e::m=>if e.1=k then(k,b)::m else e::o1 k b m
def h8 (a:nq) (s:aht):aht:=s.intercalate a
def l5 (n:Nat):aht:=if n<10 then [UInt8.ofNat (48+n)]else [UInt8.ofNat (48+n/10),UInt8.ofNat (48+n%10)]
theorem af {a b:Prop} (x:a) (y:b):a/\b:=⟨x,y⟩
end Go.c_
