/- Part of a proof that a law returns true for every input. No condition. -/
import GoSem.Core.View
import GoSem.Op.String
import GoSem.Core.Code
namespace Go.cG
open List Option Nat Or
abbrev acd:=List Int
abbrev ace:=List Nat
abbrev aca:=List UInt8
abbrev acg:=Option Int
abbrev ach:=List Value
abbrev acf:=Option Bool
abbrev acb:=List (List Nat)
abbrev nq:=List (List UInt8)
abbrev gk:=List (List UInt8×Bool)
def cg {α:Type} (xs:List α) (n:Int):Option α:=if 0<=n then xs[n.toNat]? else none
def iS {α:Type} (xs:List α) (a b:Int):Option (List α):=if 0<=a/\a<=b/\b<=xs.length then some ((xs.take b.toNat).drop a.toNat)else none
def room (bytes n:Nat):Option Unit:=if n*bytes<=140737488355328/\n<=9223372036854775807 then some ()else none
def h8 (n:Nat):Option Unit:=if n<=9223372036854775807 then some ()else none
def kz (bytes:Nat) (n:Int):Option Unit:=if 0<=n/\bytes*n<=140737488355328/\n<=9223372036854775807 then some ()else none
def lx (n:Int):UInt8:=UInt8.ofNat (IntKind.u8.wrap n).toNat
def bitsOf (op:BinOp) (k:IntKind) (x y:Int):Int:=
 match op with
 | .and=>k.wrap (BitVec.ofInt k.bits x&&&BitVec.ofInt k.bits y).toNat
 | .or=>k.wrap (BitVec.ofInt k.bits x|||BitVec.ofInt k.bits y).toNat
 | .xor=>k.wrap (BitVec.ofInt k.bits x^^^BitVec.ofInt k.bits y).toNat
 |_=>k.wrap (BitVec.ofInt k.bits x&&& ~~~(BitVec.ofInt k.bits y)).toNat
theorem aL {α β:Type} {o:Option α} {k:α->Option β} {r:β} (h:o.bind k=some r):∃x,o=some x/\k x=some r:=bind_eq_some_iff.1 h
theorem gr {β:Type} {b:Bool} {x y:Option β} {r:β} (h:cond b x y=some r):(b=true/\x=some r)\/(b=false/\y=some r):=by
 cases b
 .exact .inr ⟨rfl,h⟩
 .exact .inl ⟨rfl,h⟩
theorem fP {β:Type} {x r:β} (h:some x=some r):r=x:=(some.inj h).symm
section
open Classical
noncomputable def cL {β:Type} (f:Nat->Option β):Option β:=
 if h:∃x N,∀n,N<=n->f n=x then h.choose else none
end
theorem fZ {β:Type} {f:Nat->Option β} {x:Option β} (N:Nat) (h:∀n,N<=n->f n=x):cL f=x:=by
 have hex:∃x N,∀n,N<=n->f n=x:=⟨x,N,h⟩
 unfold cL;rw[dif_pos hex];obtain⟨M,Bp⟩:=hex.choose_spec;rw[<-Bp (max M N) (Nat.le_max_left _ _)];exact h _ (Nat.le_max_right _ _)
theorem qP {β:Type} {f:Nat->Option β} {r:β} (h:cL f=some r):∃n,f n=some r:=by
 unfold cL at h;split at h
 .rename_i hex;obtain⟨M,Bp⟩:=hex.choose_spec;exact⟨M,(Bp M (Nat.le_refl _)).trans h⟩
 .cases h
theorem cV {α:Type} {xs:List α} {n:Int} {x:α} (h:cg xs n=some x):xs[n.toNat]? =some x:=by
 unfold cg at h;split at h
 .exact h
 .cases h
theorem GF {α β:Type} (e:α->β) (xs:List α) (n:Int):cg (xs.map e) n=(cg xs n).map e:=by
 unfold cg;split
 .simp
 .rfl
theorem GG {α β:Type} (e:α->β) (xs:List α) (a b:Int):iS (xs.map e) a b=(iS xs a b).map (map e):=by
 unfold iS;simp only[length_map];split
 .simp[map_drop,map_take]
 .rfl
theorem NW {α:Type} {xs:List α} {n:Int} (bg:0<=n) (h:n.toNat<xs.length):cg xs n=some xs[n.toNat]:=by
 unfold cg;rw[if_pos bg,getElem?_eq_getElem h]
theorem n4 {b:Nat} {n:Int} {u:Unit} (h:kz b n=some u):0<=n/\b*n<=140737488355328/\n<=9223372036854775807:=by unfold kz at h;split at h<;>simp_all
section
open Classical
noncomputable def both {β:Type} (a b:Option β):Option β:=if a=b then a else none
end
def yy (gz:Bool) (a b:aca):aca:=if(if gz then !Op.bytesLess a b else(Op.bytesLess a b||a==b))=true then a else b
def Bq (gz:Bool) (a b:Int):Int:=if gz then(if a<b then b else a)else(if b<a then b else a)
def jq (k:aca):gk->Bool
 |[]=>false
 |e::m=>if e.1=k then e.2 else jq k m
def jr (k:aca) (b:Bool):gk->gk
 |[]=>[(k,b)]
 |e::m=>if e.1=k then(k,b)::m else e::jr k b m
def hQ (a:nq) (s:aca):aca:=s.intercalate a
def k3 (n:Nat):aca:=if n<10 then [UInt8.ofNat (48+n)]else [UInt8.ofNat (48+n/10),UInt8.ofNat (48+n%10)]
theorem ab {a b:Prop} (x:a) (y:b):a/\b:=⟨x,y⟩
end Go.cG
