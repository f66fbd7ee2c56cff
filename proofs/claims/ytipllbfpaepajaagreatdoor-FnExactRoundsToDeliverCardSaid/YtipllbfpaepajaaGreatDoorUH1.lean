/- Part of a proof that a law returns true for every input. No condition. -/
import Derived.Test.YtipllbfpaepajaaGreatDoorP3
import Derived.Test.YtipllbfpaepajaaGreatDoorUG
namespace Go.e3
open Go Go.b9
def glue (p:List UInt8):List (List UInt8)→List (List UInt8)
 |[]=>[p]
 |h::t=>(p++h)::t
def dh (c:UInt8):List UInt8→List (List UInt8)
 |[]=>[[]]
 |x::r=>if x=c then []::dh c r else glue [x] (dh c r)
theorem FY:∀{l:List (List UInt8)},l≠[]→glue [] l=l
 |[],h=>(h rfl).elim
 |_::_,_=>rfl
theorem XS (p q:List UInt8):∀l:List (List UInt8),glue p (glue q l)=glue (p++q) l
 |[]=>rfl
 |h::t=>by simp only[glue,List.append_assoc]
theorem rZ (c:UInt8):∀s,dh c s≠[]
 |[]=>by simp[dh]
 |x::r=>by
  simp only[dh]
  split
  ·simp
  ·cases h:dh c r<;>simp[glue]
theorem wN (c:UInt8):∀s,(dh c s).length=s.count c+1
 |[]=>rfl
 |x::r=>by
  simp only[dh]
  split
  ·rename_i h
   subst h
   simp only[List.length_cons,wN x r,List.count_cons_self]
  ·rename_i h
   have fb:(x==c)=false:=by simpa using h
   rw[List.count_cons,fb]
   cases e:dh c r with
   |nil=>exact(rZ c r e).elim
   |cons a t=>have:=wN c r;rw[e]at this;simpa [glue]using this
theorem FZ (c:UInt8):∀s,c∉s→dh c s=[s]
 |[],_=>rfl
 |x::r,h=>by
  simp only[List.mem_cons,not_or]at h
  simp only[dh]
  rw[if_neg (fun e=>h.1 e.symm),FZ c r h.2];rfl
theorem F1 (c:UInt8):∀p q,c∉p→dh c (p++c::q)=p::dh c q
 |[],q,_=>by simp[dh]
 |x::r,q,h=>by
  simp only[List.mem_cons,not_or]at h
  simp only[List.cons_append,dh]
  rw[if_neg (fun e=>h.1 e.symm),F1 c r q h.2];rfl
theorem XT (s x:List UInt8):∀l:List (List UInt8),l≠[]→hq (glue x l) s=x++hq l s
 |[],h=>(h rfl).elim
 |[y],_=>by simp[glue,hq,List.intercalate,List.intersperse]
 |y::z::r,_=>by simp[glue,hq,List.intercalate,List.intersperse]
theorem F2 (c:UInt8):∀s,hq (dh c s) [c]=s
 |[]=>by simp[dh,hq,List.intercalate,List.intersperse]
 |x::r=>by
  simp only[dh]
  have ih:=F2 c r
  split
  ·rename_i h
   subst h
   cases e:dh x r with
   |nil=>exact(rZ x r e).elim
   |cons a t=>
    rw[e]at ih
    have:hq ([]::a::t) [x]=x::hq (a::t) [x]:=by simp[hq,List.intercalate,List.intersperse]
    rw[this,ih]
  ·rw[XT _ _ _ (rZ c r),ih];rfl
theorem F3 (c:UInt8):∀s,c∉s→lX s c= -1
 |[],_=>rfl
 |x::r,h=>by
  simp only[List.mem_cons,not_or]at h
  have fb:(x==c)=false:=by simpa using fun e=>h.1 e.symm
  simp only[lX,fb,F3 c r h.2]
  rfl
theorem F4 (c:UInt8):∀p q,c∉p→lX (p++c::q) c=(p.length:Int)
 |[],q,_=>by simp[lX]
 |x::r,q,h=>by
  simp only[List.mem_cons,not_or]at h
  have fb:(x==c)=false:=by simpa using fun e=>h.1 e.symm
  have ih:=F4 c r q h.2
  simp only[List.cons_append,lX,fb,ih]
  have:((r.length:Int)== -1)=false:=by simp
  rw[this]
  simp
theorem Ae {c:UInt8}:∀{s:List UInt8},c∈s→∃p q,s=p++c::q∧c∉p
 |x::r,h=>by
  by_cases e:x=c
  ·subst e;exact⟨[],r,rfl,by simp⟩
  ·have aQ:c∈r:=by
    rcases List.mem_cons.1 h with h|h
    ·exact(e h.symm).elim
    ·exact h
   obtain⟨p,q,rfl,ak⟩:=Ae aQ
   exact⟨x::p,q,rfl,by simp only[List.mem_cons,not_or];exact⟨fun h=>e h.symm,ak⟩⟩
theorem F5 (s:List UInt8) (c:UInt8) (U:1≤s.length∨True):nD s [c]=some (if s=[c]then 0 else lX s c):=by
 unfold nD y9 y8
 by_cases h:s=[c]
 ·subst h;simp
 ·have e:([c]==s)=false:=by simpa using fun aQ=>h aQ.symm
  rw[if_neg h,e]
  rfl
theorem XU {s:List UInt8} {c:UInt8} (h:c∉s):nD s [c]=some (-1):=by
 rw[F5 s c (.inr trivial),if_neg (by rintro rfl;simp at h),F3 c s h]
theorem F6 (p q:List UInt8) {c:UInt8} (h:c∉p):nD (p++c::q) [c]=some (p.length:Int):=by
 rw[F5 _ c (.inr trivial),F4 c p q h]
 split
 ·rename_i e
  cases p with
  |nil=>rfl
  |cons x r=>have:=congrArg List.length e;simp at this
 ·rfl
theorem XV (s t:List UInt8):tw s t=nD s t:=by
 unfold tw;cases nD s t<;>rfl
theorem XW {s:List UInt8} {c:UInt8} (h:c∉s):rN s [c]=some (s,[],false):=by
 unfold rN vD
 rw[XU h];rfl
theorem XX (p q:List UInt8) {c:UInt8} (h:c∉p) (aJ:(p++c::q).length≤1048576):rN (p++c::q) [c]=some (p,q,true):=by
 unfold rN vD
 rw[F6 p q h]
 simp only[List.length_append,List.length_cons]at aJ
 have e:decide ((0:Int)≤(p.length:Int))=true:=by simp
 simp only[Option.bind_some,e,cond_true]
 rw[rX _ _ (by simp),dn ((p.length:Int)+([c].length:Int)) (by simp;omega)]
 have aI:ej (p++c::q) ((p.length:Int)+([c].length:Int)) ((p++c::q).length:Int)=some q:=by
  have:=ua (p++[c]) q [] (i:=((p.length:Int)+([c].length:Int))) (j:=(((p++c::q).length:Nat):Int)) (by simp) (by simp;omega)
  simpa using this
 rw[aI]
 simp
theorem XY (q:List UInt8) {c:UInt8} (aJ:q.length≤1048576):strings_TrimSuffix (q++[c]) [c]=some q:=by
 unfold strings_TrimSuffix vF vE
 have e:decide (([c].length:Int)≤((q++[c]).length:Int))=true:=by simp;omega
 have Af:IntKind.i64.wrap (((q++[c]).length:Int)-([c].length:Int))=(q.length:Int):=by
  rw[dn _ (by simp;omega)];simp
 rw[e,Af]
 have aI:=ua q [c] [] (i:=(q.length:Int)) (j:=(((q++[c]).length:Nat):Int)) rfl (by simp)
 simp only[List.append_nil]at aI
 rw[aI,rX _ _ (by simp)]
 simp
theorem XZ (q:List UInt8) {c:UInt8} (aJ:q.length≤1048576) (h:∀r,q≠r++[c]):strings_TrimSuffix q [c]=some q:=by
 unfold strings_TrimSuffix vF vE
 rcases List.eq_nil_or_concat q with rfl|⟨r,x,rfl⟩
 ·rfl
 ·simp only[List.concat_eq_append]at*
  have ao:x≠c:=by rintro rfl;exact h r rfl
  have e:decide (([c].length:Int)≤((r++[x]).length:Int))=true:=by simp;omega
  have ZT:r.length+1≤1048576:=by simpa using aJ
  have Af:IntKind.i64.wrap (((r++[x]).length:Int)-([c].length:Int))=(r.length:Int):=by
   rw[dn _ (by simp;omega)];simp
  rw[e,Af]
  have aI:=ua r [x] [] (i:=(r.length:Int)) (j:=(((r++[x]).length:Nat):Int)) rfl (by simp)
  simp only[List.append_nil]at aI
  rw[aI]
  have aL:([x]==[c])=false:=by simpa using ao
  simp only[cond_true,Option.bind_some,aL,cond_false]
end Go.e3
