/- Part of a proof that a law returns true for every input. No condition. -/
import Derived.Test.YtipllbfpaepajaaGreatDoorP6
import Derived.Test.YtipllbfpaepajaaGreatDoorUG
namespace Go.ff
open Go Go.ca
def glue (p:List UInt8):List (List UInt8)→List (List UInt8)
 |[]=>[p]
 |h::t=>(p++h)::t
def dv (c:UInt8):List UInt8→List (List UInt8)
 |[]=>[[]]
 |x::r=>if x=c then []::dv c r else glue [x] (dv c r)
theorem G2:∀{l:List (List UInt8)},l≠[]→glue [] l=l
 |[],h=>(h rfl).elim
 |_::_,_=>rfl
theorem aao (p q:List UInt8):∀l:List (List UInt8),glue p (glue q l)=glue (p++q) l
 |[]=>rfl
 |h::t=>by simp only[glue,List.append_assoc]
theorem sw (c:UInt8):∀s,dv c s≠[]
 |[]=>by simp[dv]
 |x::r=>by
  simp only[dv]
  split
  ·simp
  ·cases h:dv c r<;>simp[glue]
theorem xy (c:UInt8):∀s,(dv c s).length=s.count c+1
 |[]=>rfl
 |x::r=>by
  simp only[dv]
  split
  ·rename_i h
   subst h
   simp only[List.length_cons,xy x r,List.count_cons_self]
  ·rename_i h
   have fu:(x==c)=false:=by simpa using h
   rw[List.count_cons,fu]
   cases e:dv c r with
   |nil=>exact(sw c r e).elim
   |cons a t=>have:=xy c r;rw[e]at this;simpa [glue]using this
theorem G3 (c:UInt8):∀s,c∉s→dv c s=[s]
 |[],_=>rfl
 |x::r,h=>by
  simp only[List.mem_cons,not_or]at h
  simp only[dv]
  rw[if_neg (fun e=>h.1 e.symm),G3 c r h.2];rfl
theorem G4 (c:UInt8):∀p q,c∉p→dv c (p++c::q)=p::dv c q
 |[],q,_=>by simp[dv]
 |x::r,q,h=>by
  simp only[List.mem_cons,not_or]at h
  simp only[List.cons_append,dv]
  rw[if_neg (fun e=>h.1 e.symm),G4 c r q h.2];rfl
theorem aap (s x:List UInt8):∀l:List (List UInt8),l≠[]→hN (glue x l) s=x++hN l s
 |[],h=>(h rfl).elim
 |[y],_=>by simp[glue,hN,List.intercalate,List.intersperse]
 |y::z::r,_=>by simp[glue,hN,List.intercalate,List.intersperse]
theorem G5 (c:UInt8):∀s,hN (dv c s) [c]=s
 |[]=>by simp[dv,hN,List.intercalate,List.intersperse]
 |x::r=>by
  simp only[dv]
  have ih:=G5 c r
  split
  ·rename_i h
   subst h
   cases e:dv x r with
   |nil=>exact(sw x r e).elim
   |cons a t=>
    rw[e]at ih
    have:hN ([]::a::t) [x]=x::hN (a::t) [x]:=by simp[hN,List.intercalate,List.intersperse]
    rw[this,ih]
  ·rw[aap _ _ _ (sw c r),ih];rfl
theorem G6 (c:UInt8):∀s,c∉s→mz s c= -1
 |[],_=>rfl
 |x::r,h=>by
  simp only[List.mem_cons,not_or]at h
  have fu:(x==c)=false:=by simpa using fun e=>h.1 e.symm
  simp only[mz,fu,G6 c r h.2]
  rfl
theorem G7 (c:UInt8):∀p q,c∉p→mz (p++c::q) c=(p.length:Int)
 |[],q,_=>by simp[mz]
 |x::r,q,h=>by
  simp only[List.mem_cons,not_or]at h
  have fu:(x==c)=false:=by simpa using fun e=>h.1 e.symm
  have ih:=G7 c r q h.2
  simp only[List.cons_append,mz,fu,ih]
  have:((r.length:Int)== -1)=false:=by simp
  rw[this]
  simp
theorem AZ {c:UInt8}:∀{s:List UInt8},c∈s→∃p q,s=p++c::q∧c∉p
 |x::r,h=>by
  by_cases e:x=c
  ·subst e;exact⟨[],r,rfl,by simp⟩
  ·have aS:c∈r:=by
    rcases List.mem_cons.1 h with h|h
    ·exact(e h.symm).elim
    ·exact h
   obtain⟨p,q,rfl,ak⟩:=AZ aS
   exact⟨x::p,q,rfl,by simp only[List.mem_cons,not_or];exact⟨fun h=>e h.symm,ak⟩⟩
theorem G8 (s:List UInt8) (c:UInt8) (U:1≤s.length∨True):n6 s [c]=some (if s=[c]then 0 else mz s c):=by
 unfold n6 zP zO
 by_cases h:s=[c]
 ·subst h;simp
 ·have e:([c]==s)=false:=by simpa using fun aS=>h aS.symm
  rw[if_neg h,e]
  rfl
theorem aaq {s:List UInt8} {c:UInt8} (h:c∉s):n6 s [c]=some (-1):=by
 rw[G8 s c (.inr trivial),if_neg (by rintro rfl;simp at h),G6 c s h]
theorem G9 (p q:List UInt8) {c:UInt8} (h:c∉p):n6 (p++c::q) [c]=some (p.length:Int):=by
 rw[G8 _ c (.inr trivial),G7 c p q h]
 split
 ·rename_i e
  cases p with
  |nil=>rfl
  |cons x r=>have:=congrArg List.length e;simp at this
 ·rfl
theorem aar (s t:List UInt8):uc s t=n6 s t:=by
 unfold uc;cases n6 s t<;>rfl
theorem aas {s:List UInt8} {c:UInt8} (h:c∉s):se s [c]=some (s,[],false):=by
 unfold se wv
 rw[aaq h];rfl
theorem aat (p q:List UInt8) {c:UInt8} (h:c∉p) (hl:(p++c::q).length≤1048576):se (p++c::q) [c]=some (p,q,true):=by
 unfold se wv
 rw[G9 p q h]
 simp only[List.length_append,List.length_cons]at hl
 have e:decide ((0:Int)≤(p.length:Int))=true:=by simp
 simp only[Option.bind_some,e,cond_true]
 rw[qL _ _ (by simp),dq ((p.length:Int)+([c].length:Int)) (by simp;omega)]
 have aJ:ea (p++c::q) ((p.length:Int)+([c].length:Int)) ((p++c::q).length:Int)=some q:=by
  have:=uR (p++[c]) q [] (i:=((p.length:Int)+([c].length:Int))) (j:=(((p++c::q).length:Nat):Int)) (by simp) (by simp;omega)
  simpa using this
 rw[aJ]
 simp
theorem aau (q:List UInt8) {c:UInt8} (hl:q.length≤1048576):strings_TrimSuffix (q++[c]) [c]=some q:=by
 unfold strings_TrimSuffix wy wx
 have e:decide (([c].length:Int)≤((q++[c]).length:Int))=true:=by simp;omega
 have A0:IntKind.i64.wrap (((q++[c]).length:Int)-([c].length:Int))=(q.length:Int):=by
  rw[dq _ (by simp;omega)];simp
 rw[e,A0]
 have aJ:=uR q [c] [] (i:=(q.length:Int)) (j:=(((q++[c]).length:Nat):Int)) rfl (by simp)
 simp only[List.append_nil]at aJ
 rw[aJ,qL _ _ (by simp)]
 simp
theorem aav (q:List UInt8) {c:UInt8} (hl:q.length≤1048576) (h:∀r,q≠r++[c]):strings_TrimSuffix q [c]=some q:=by
 unfold strings_TrimSuffix wy wx
 rcases List.eq_nil_or_concat q with rfl|⟨r,x,rfl⟩
 ·rfl
 ·simp only[List.concat_eq_append]at*
  have aq:x≠c:=by rintro rfl;exact h r rfl
  have e:decide (([c].length:Int)≤((r++[x]).length:Int))=true:=by simp;omega
  have acF:r.length+1≤1048576:=by simpa using hl
  have A0:IntKind.i64.wrap (((r++[x]).length:Int)-([c].length:Int))=(r.length:Int):=by
   rw[dq _ (by simp;omega)];simp
  rw[e,A0]
  have aJ:=uR r [x] [] (i:=(r.length:Int)) (j:=(((r++[x]).length:Nat):Int)) rfl (by simp)
  simp only[List.append_nil]at aJ
  rw[aJ]
  have aK:([x]==[c])=false:=by simpa using aq
  simp only[cond_true,Option.bind_some,aK,cond_false]
end Go.ff
