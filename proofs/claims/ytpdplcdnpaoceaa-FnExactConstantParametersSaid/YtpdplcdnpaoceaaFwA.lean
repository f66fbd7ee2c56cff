/- Part of a proof that a law returns true for every input. No condition. -/
import GoSem.Core.View
import GoSem.Op.String
import GoSem.Core.Code
namespace Go.cM
open List Option Nat Or
abbrev Xs:=List Int
abbrev Xt:=List Nat
abbrev Xq:=List UInt8
abbrev Xv:=Option Int
abbrev Xw:=List Value
abbrev Xu:=Option Bool
abbrev Xr:=List (List Nat)
abbrev Xp:=List (List UInt8×Bool)
def bR {α:Type} (xs:List α) (n:Int):Option α:=if 0<=n then xs[n.toNat]? else none
def fF {α:Type} (xs:List α) (a b:Int):Option (List α):=if 0<=a/\a<=b/\b<=xs.length then some ((xs.take b.toNat).drop a.toNat)else none
def Jx (c:Bool):Option Unit:=if c=true then some ()else none
def room (bytes n:Nat):Option Unit:=if n*bytes<=140737488355328/\n<=9223372036854775807 then some ()else none
def m7 (n:Nat):Option Unit:=if n<=9223372036854775807 then some ()else none
def lJ (bytes:Nat) (n:Int):Option Unit:=if 0<=n/\bytes*n<=140737488355328/\n<=9223372036854775807 then some ()else none
def n3 (n:Int):UInt8:=UInt8.ofNat (IntKind.u8.wrap n).toNat
def bitsOf (op:BinOp) (k:IntKind) (x y:Int):Int:=
 match op with
 | .and=>k.wrap (BitVec.ofInt k.bits x&&&BitVec.ofInt k.bits y).toNat
 | .or=>k.wrap (BitVec.ofInt k.bits x|||BitVec.ofInt k.bits y).toNat
 | .xor=>k.wrap (BitVec.ofInt k.bits x^^^BitVec.ofInt k.bits y).toNat
 |_=>k.wrap (BitVec.ofInt k.bits x&&& ~~~(BitVec.ofInt k.bits y)).toNat
theorem aJ {α β:Type} {o:Option α} {k:α->Option β} {r:β} (h:o.bind k=some r):∃x,o=some x/\k x=some r:=bind_eq_some_iff.1 h
theorem e8 {β:Type} {b:Bool} {x y:Option β} {r:β} (h:cond b x y=some r):(b=true/\x=some r)\/(b=false/\y=some r):=by
 cases b
 .exact .inr ⟨rfl,h⟩
 .exact .inl ⟨rfl,h⟩
theorem ki {β:Type} {x r:β} (h:some x=some r):r=x:=(some.inj h).symm
section
open Classical
noncomputable def cC {β:Type} (f:Nat->Option β):Option β:=
 if h:∃x N,∀n,N<=n->f n=x then h.choose else none
end
theorem fV {β:Type} {f:Nat->Option β} {x:Option β} (N:Nat) (h:∀n,N<=n->f n=x):cC f=x:=by
 have hex:∃x N,∀n,N<=n->f n=x:=⟨x,N,h⟩
 unfold cC;rw[dif_pos hex];obtain⟨M,gM⟩:=hex.choose_spec;rw[<-gM (max M N) (Nat.le_max_left _ _)];exact h _ (Nat.le_max_right _ _)
theorem mo {β:Type} {f:Nat->Option β} {r:β} (h:cC f=some r):∃n,f n=some r:=by
 unfold cC at h;split at h
 .rename_i hex;obtain⟨M,gM⟩:=hex.choose_spec;exact⟨M,(gM M (Nat.le_refl _)).trans h⟩
 .cases h
theorem c2 {α:Type} {xs:List α} {n:Int} {x:α} (h:bR xs n=some x):xs[n.toNat]? =some x:=by
 unfold bR at h;split at h
 .exact h
 .cases h
theorem Dk {α β:Type} (e:α->β) (xs:List α) (n:Int):bR (xs.map e) n=(bR xs n).map e:=by
 unfold bR;split
 .simp
 .rfl
theorem Dl {α β:Type} (e:α->β) (xs:List α) (a b:Int):fF (xs.map e) a b=(fF xs a b).map (map e):=by
 unfold fF;simp only[length_map];split
 .simp[map_drop,map_take]
 .rfl
theorem Dm {α:Type} {xs:List α} {n:Int} (ba:0<=n) (h:n.toNat<xs.length):bR xs n=some xs[n.toNat]:=by
 unfold bR;rw[if_pos ba,getElem?_eq_getElem h]
theorem p0 {b:Nat} {n:Int} {u:Unit} (h:lJ b n=some u):0<=n/\b*n<=140737488355328/\n<=9223372036854775807:=by unfold lJ at h;split at h<;>simp_all
section
open Classical
noncomputable def both {β:Type} (a b:Option β):Option β:=if a=b then a else none
end
theorem Dn {β:Type} {a b:Option β} {r:β} (h:both a b=some r):a=some r/\b=some r:=by
 unfold both at h;split at h
 .rename_i e;exact⟨h,e▸h⟩
 .cases h
def vC (fL:Bool) (a b:Xq):Xq:=if(if fL then !Op.bytesLess a b else(Op.bytesLess a b||a==b))=true then a else b
def yL (fL:Bool) (a b:Int):Int:=if fL then(if a<b then b else a)else(if b<a then b else a)
def o3 (k:Xq):Xp->Bool
 |[]=>false
 |e::m=>if e.1=k then e.2 else o3 k m
def m8 (k:Xq) (b:Bool):Xp->Xp
 |[]=>[(k,b)]
 |e::m=>if e.1=k then(k,b)::m else e::m8 k b m
theorem ae {a b:Prop} (x:a) (y:b):a/\b:=⟨x,y⟩
end Go.cM
