/- Part of a proof that a law returns true for every input. No condition. -/
import GoSem.Core.View
import GoSem.Op.String
import GoSem.Core.Code
namespace Go.eg
open List Option Nat
abbrev aze:=List Int
abbrev azf:=List Nat
abbrev azc:=List UInt8
abbrev azh:=Option Int
abbrev azi:=List Value
abbrev azg:=Option Bool
abbrev azd:=List (List Nat)
abbrev azb:=List (List UInt8)
abbrev aza:=List (List UInt8×Bool)
def bk {α:Type} (xs:List α) (n:Int):Option α:=if 0<=n then xs[n.toNat]? else none
def gz {α:Type} (xs:List α) (a b:Int):Option (List α):=if 0<=a/\a<=b/\b<=xs.length then some ((xs.take b.toNat).drop a.toNat)else none
def room (bytes n:Nat):Option Unit:=if n*bytes<=140737488355328/\n<=9223372036854775807 then some ()else none
def iO (n:Nat):Option Unit:=if n<=9223372036854775807 then some ()else none
def na (bytes:Nat) (n:Int):Option Unit:=if 0<=n/\bytes*n<=140737488355328/\n<=9223372036854775807 then some ()else none
def pG (n:Int):UInt8:=UInt8.ofNat (IntKind.u8.wrap n).toNat
def bitsOf (op:BinOp) (k:IntKind) (x y:Int):Int:=
 match op with
 | .and=>k.wrap (BitVec.ofInt k.bits x&&&BitVec.ofInt k.bits y).toNat
 | .or=>k.wrap (BitVec.ofInt k.bits x|||BitVec.ofInt k.bits y).toNat
 | .xor=>k.wrap (BitVec.ofInt k.bits x^^^BitVec.ofInt k.bits y).toNat
 |_=>k.wrap (BitVec.ofInt k.bits x&&& ~~~(BitVec.ofInt k.bits y)).toNat
def A2 (b:Int):Option Unit:=if b=0 then none else some ()
theorem aj {α β:Type} {o:Option α} {k:α->Option β} {r:β} (h:o.bind k=some r):∃x,o=some x/\k x=some r:=bind_eq_some_iff.1 h
theorem dc {β:Type} {b:Bool} {x y:Option β} {r:β} (h:cond b x y=some r):(b=true/\x=some r)\/(b=false/\y=some r):=by
 cases b
 .exact .inr ⟨rfl,h⟩
 .exact .inl ⟨rfl,h⟩
theorem gk {β:Type} {x r:β} (h:some x=some r):r=x:=(some.inj h).symm
section
open Classical
noncomputable def bX {β:Type} (f:Nat->Option β):Option β:=
 if h:∃x N,∀n,N<=n->f n=x then h.choose else none
end
theorem eY {β:Type} {f:Nat->Option β} {x:Option β} (N:Nat) (h:∀n,N<=n->f n=x):bX f=x:=by
 have hex:∃x N,∀n,N<=n->f n=x:=⟨x,N,h⟩
 unfold bX;rw[dif_pos hex];obtain⟨M,L8⟩:=hex.choose_spec;rw[<-L8 (max M N) (Nat.le_max_left _ _)];exact h _ (Nat.le_max_right _ _)
theorem cC {β:Type} {f:Nat->Option β} {r:β} (h:bX f=some r):∃n,f n=some r:=by
 unfold bX at h;split at h
 .rename_i hex;obtain⟨M,L8⟩:=hex.choose_spec;exact⟨M,(L8 M (Nat.le_refl _)).trans h⟩
 .cases h
theorem dy {α:Type} {xs:List α} {n:Int} {x:α} (h:bk xs n=some x):xs[n.toNat]? =some x:=by
 unfold bk at h;split at h
 .exact h
 .cases h
theorem TI {α β:Type} (e:α->β) (xs:List α) (n:Int):bk (xs.map e) n=(bk xs n).map e:=by
 unfold bk;split
 .simp
 .rfl
theorem TJ {α β:Type} (e:α->β) (xs:List α) (a b:Int):gz (xs.map e) a b=(gz xs a b).map (map e):=by
 unfold gz;simp only[length_map];split
 .simp[map_drop,map_take]
 .rfl
theorem L9 {α:Type} {xs:List α} {n:Int} (a7:0<=n) (h:n.toNat<xs.length):bk xs n=some xs[n.toNat]:=by
 unfold bk;rw[if_pos a7,getElem?_eq_getElem h]
theorem qc {b:Nat} {n:Int} {u:Unit} (h:na b n=some u):0<=n/\b*n<=140737488355328/\n<=9223372036854775807:=by unfold na at h;split at h<;>simp_all
section
open Classical
noncomputable def both {β:Type} (a b:Option β):Option β:=if a=b then a else none
end
theorem acD {β:Type} {a b:Option β} {r:β} (h:both a b=some r):a=some r/\b=some r:=by
 unfold both at h;split at h
 .rename_i e;exact⟨h,e▸h⟩
 .cases h
def hO (fc:Bool) (a b:azc):azc:=if(if fc then !Op.bytesLess a b else(Op.bytesLess a b||a==b))=true then a else b
def jr (fc:Bool) (a b:Int):Int:=if fc then(if a<b then b else a)else(if b<a then b else a)
def j0 (k:azc):aza->Bool
 |[]=>false
 |e::m=>if e.1=k then e.2 else j0 k m
def kb (k:azc) (b:Bool):aza->aza
 |[]=>[(k,b)]
 |e::m=>if e.1=k then(k,b)::m else e::kb k b m
def hG (a:azb) (s:azc):azc:=s.intercalate a
def iw (n:Nat):azc:=if n<10 then [UInt8.ofNat (48+n)]else [UInt8.ofNat (48+n/10),UInt8.ofNat (48+n%10)]
theorem R {a b:Prop} (x:a) (y:b):a/\b:=⟨x,y⟩
end Go.eg
