/- Part of a proof that a law returns true for every input. No condition. -/
import GoSem.Core.View
import GoSem.Op.String
import GoSem.Core.Code
namespace Go.cU
open List Option Nat Or
abbrev aiz:=List Int
abbrev aiA:=List Nat
abbrev aix:=List UInt8
abbrev aiC:=Option Int
abbrev aiD:=List Value
abbrev aiB:=Option Bool
abbrev aiy:=List (List Nat)
abbrev aiw:=List (List UInt8)
abbrev aiv:=List (List UInt8×Bool)
def bm {α:Type} (xs:List α) (n:Int):Option α:=if 0<=n then xs[n.toNat]? else none
def kJ {α:Type} (xs:List α) (a b:Int):Option (List α):=if 0<=a/\a<=b/\b<=xs.length then some ((xs.take b.toNat).drop a.toNat)else none
def Pj (c:Bool):Option Unit:=if c=true then some ()else none
def room (bytes n:Nat):Option Unit:=if n*bytes<=140737488355328/\n<=9223372036854775807 then some ()else none
def lW (bytes:Nat) (n:Int):Option Unit:=if 0<=n/\bytes*n<=140737488355328/\n<=9223372036854775807 then some ()else none
def Ct (n:Int):UInt8:=UInt8.ofNat (IntKind.u8.wrap n).toNat
def bitsOf (op:BinOp) (k:IntKind) (x y:Int):Int:=
 match op with
 | .and=>k.wrap (BitVec.ofInt k.bits x&&&BitVec.ofInt k.bits y).toNat
 | .or=>k.wrap (BitVec.ofInt k.bits x|||BitVec.ofInt k.bits y).toNat
 | .xor=>k.wrap (BitVec.ofInt k.bits x^^^BitVec.ofInt k.bits y).toNat
 |_=>k.wrap (BitVec.ofInt k.bits x&&& ~~~(BitVec.ofInt k.bits y)).toNat
theorem aE {α β:Type} {o:Option α} {k:α->Option β} {r:β} (h:o.bind k=some r):∃x,o=some x/\k x=some r:=bind_eq_some_iff.1 h
theorem ed {β:Type} {b:Bool} {x y:Option β} {r:β} (h:cond b x y=some r):(b=true/\x=some r)\/(b=false/\y=some r):=by
 cases b
 .exact .inr ⟨rfl,h⟩
 .exact .inl ⟨rfl,h⟩
theorem mj {β:Type} {x r:β} (h:some x=some r):r=x:=(some.inj h).symm
section
open Classical
noncomputable def lim {β:Type} (f:Nat->Option β):Option β:=
 if h:∃x N,∀n,N<=n->f n=x then h.choose else none
end
theorem eF {β:Type} {f:Nat->Option β} {x:Option β} (N:Nat) (h:∀n,N<=n->f n=x):lim f=x:=by
 have hex:∃x N,∀n,N<=n->f n=x:=⟨x,N,h⟩
 unfold lim;rw[dif_pos hex];obtain⟨M,Cu⟩:=hex.choose_spec;rw[<-Cu (max M N) (Nat.le_max_left _ _)];exact h _ (Nat.le_max_right _ _)
theorem oL {β:Type} {f:Nat->Option β} {r:β} (h:lim f=some r):∃n,f n=some r:=by
 unfold lim at h;split at h
 .rename_i hex;obtain⟨M,Cu⟩:=hex.choose_spec;exact⟨M,(Cu M (Nat.le_refl _)).trans h⟩
 .cases h
theorem b6 {α:Type} {xs:List α} {n:Int} {x:α} (h:bm xs n=some x):xs[n.toNat]? =some x:=by
 unfold bm at h;split at h
 .exact h
 .cases h
theorem Il {α β:Type} (e:α->β) (xs:List α) (n:Int):bm (xs.map e) n=(bm xs n).map e:=by
 unfold bm;split
 .simp
 .rfl
theorem Im {α β:Type} (e:α->β) (xs:List α) (a b:Int):kJ (xs.map e) a b=(kJ xs a b).map (map e):=by
 unfold kJ;simp only[length_map];split
 .simp[map_drop,map_take]
 .rfl
theorem Cv {α:Type} {xs:List α} {n:Int} (a7:0<=n) (h:n.toNat<xs.length):bm xs n=some xs[n.toNat]:=by
 unfold bm;rw[if_pos a7,getElem?_eq_getElem h]
theorem oM {b:Nat} {n:Int} {u:Unit} (h:lW b n=some u):0<=n/\b*n<=140737488355328/\n<=9223372036854775807:=by unfold lW at h;split at h<;>simp_all
section
open Classical
noncomputable def both {β:Type} (a b:Option β):Option β:=if a=b then a else none
end
theorem Pk {β:Type} {a b:Option β} {r:β} (h:both a b=some r):a=some r/\b=some r:=by
 unfold both at h;split at h
 .rename_i e;exact⟨h,e▸h⟩
 .cases h
def y8 (gF:Bool) (a b:aix):aix:=if(if gF then !Op.bytesLess a b else(Op.bytesLess a b||a==b))=true then a else b
def Cw (gF:Bool) (a b:Int):Int:=if gF then(if a<b then b else a)else(if b<a then b else a)
def qL (k:aix):aiv->Bool
 |[]=>false
 |e::m=>if e.1=k then e.2 else qL k m
def oN (k:aix) (b:Bool):aiv->aiv
 |[]=>[(k,b)]
 |e::m=>if e.1=k then(k,b)::m else e::oN k b m
theorem af {a b:Prop} (x:a) (y:b):a/\b:=⟨x,y⟩
end Go.cU
