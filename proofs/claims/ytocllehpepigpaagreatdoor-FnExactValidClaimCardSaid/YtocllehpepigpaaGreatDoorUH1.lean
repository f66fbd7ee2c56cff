/- Part of a proof that a law returns true for every input. No condition. -/
import Derived.Test.YtocllehpepigpaaGreatDoorP3
import Derived.Test.YtocllehpepigpaaGreatDoorUG
namespace Go.gB
open Go Go.cI
def glue (p:List UInt8):List (List UInt8)→List (List UInt8)
 |[]=>[p]
 |h::t=>(p++h)::t
def eC (c:UInt8):List UInt8→List (List UInt8)
 |[]=>[[]]
 |x::r=>if x=c then []::eC c r else glue [x] (eC c r)
theorem Kk:∀{l:List (List UInt8)},l≠[]→glue [] l=l
 |[],h=>(h rfl).elim
 |_::_,_=>rfl
theorem akD (p q:List UInt8):∀l:List (List UInt8),glue p (glue q l)=glue (p++q) l
 |[]=>rfl
 |h::t=>by simp only[glue,List.append_assoc]
theorem ub (c:UInt8):∀s,eC c s≠[]
 |[]=>by simp[eC]
 |x::r=>by
  simp only[eC]
  split
  ·simp
  ·cases h:eC c r<;>simp[glue]
theorem Aa (c:UInt8):∀s,(eC c s).length=s.count c+1
 |[]=>rfl
 |x::r=>by
  simp only[eC]
  split
  ·rename_i h
   subst h
   simp only[List.length_cons,Aa x r,List.count_cons_self]
  ·rename_i h
   have hD:(x==c)=false:=by simpa using h
   rw[List.count_cons,hD]
   cases e:eC c r with
   |nil=>exact(ub c r e).elim
   |cons a t=>have:=Aa c r;rw[e]at this;simpa [glue]using this
theorem Kl (c:UInt8):∀s,c∉s→eC c s=[s]
 |[],_=>rfl
 |x::r,h=>by
  simp only[List.mem_cons,not_or]at h
  simp only[eC]
  rw[if_neg (fun e=>h.1 e.symm),Kl c r h.2];rfl
theorem Km (c:UInt8):∀p q,c∉p→eC c (p++c::q)=p::eC c q
 |[],q,_=>by simp[eC]
 |x::r,q,h=>by
  simp only[List.mem_cons,not_or]at h
  simp only[List.cons_append,eC]
  rw[if_neg (fun e=>h.1 e.symm),Km c r q h.2];rfl
theorem akE (s x:List UInt8):∀l:List (List UInt8),l≠[]→jN (glue x l) s=x++jN l s
 |[],h=>(h rfl).elim
 |[y],_=>by simp[glue,jN,List.intercalate,List.intersperse]
 |y::z::r,_=>by simp[glue,jN,List.intercalate,List.intersperse]
theorem Kn (c:UInt8):∀s,jN (eC c s) [c]=s
 |[]=>by simp[eC,jN,List.intercalate,List.intersperse]
 |x::r=>by
  simp only[eC]
  have ih:=Kn c r
  split
  ·rename_i h
   subst h
   cases e:eC x r with
   |nil=>exact(ub x r e).elim
   |cons a t=>
    rw[e]at ih
    have:jN ([]::a::t) [x]=x::jN (a::t) [x]:=by simp[jN,List.intercalate,List.intersperse]
    rw[this,ih]
  ·rw[akE _ _ _ (ub c r),ih];rfl
theorem Ko (c:UInt8):∀s,c∉s→oe s c= -1
 |[],_=>rfl
 |x::r,h=>by
  simp only[List.mem_cons,not_or]at h
  have hD:(x==c)=false:=by simpa using fun e=>h.1 e.symm
  simp only[oe,hD,Ko c r h.2]
  rfl
theorem Kp (c:UInt8):∀p q,c∉p→oe (p++c::q) c=(p.length:Int)
 |[],q,_=>by simp[oe]
 |x::r,q,h=>by
  simp only[List.mem_cons,not_or]at h
  have hD:(x==c)=false:=by simpa using fun e=>h.1 e.symm
  have ih:=Kp c r q h.2
  simp only[List.cons_append,oe,hD,ih]
  have:((r.length:Int)== -1)=false:=by simp
  rw[this]
  simp
theorem DQ {c:UInt8}:∀{s:List UInt8},c∈s→∃p q,s=p++c::q∧c∉p
 |x::r,h=>by
  by_cases e:x=c
  ·subst e;exact⟨[],r,rfl,by simp⟩
  ·have bb:c∈r:=by
    rcases List.mem_cons.1 h with h|h
    ·exact(e h.symm).elim
    ·exact h
   obtain⟨p,q,rfl,ao⟩:=DQ bb
   exact⟨x::p,q,rfl,by simp only[List.mem_cons,not_or];exact⟨fun h=>e h.symm,ao⟩⟩
theorem Kq (s:List UInt8) (c:UInt8) (aa:1≤s.length∨True):pE s [c]=some (if s=[c]then 0 else oe s c):=by
 unfold pE CM CL
 by_cases h:s=[c]
 ·subst h;simp
 ·have e:([c]==s)=false:=by simpa using fun bb=>h bb.symm
  rw[if_neg h,e]
  rfl
theorem akF {s:List UInt8} {c:UInt8} (h:c∉s):pE s [c]=some (-1):=by
 rw[Kq s c (.inr trivial),if_neg (by rintro rfl;simp at h),Ko c s h]
theorem Kr (p q:List UInt8) {c:UInt8} (h:c∉p):pE (p++c::q) [c]=some (p.length:Int):=by
 rw[Kq _ c (.inr trivial),Kp c p q h]
 split
 ·rename_i e
  cases p with
  |nil=>rfl
  |cons x r=>have:=congrArg List.length e;simp at this
 ·rfl
theorem akG (s t:List UInt8):vP s t=pE s t:=by
 unfold vP;cases pE s t<;>rfl
theorem akH {s:List UInt8} {c:UInt8} (h:c∉s):tB s [c]=some (s,[],false):=by
 unfold tB yK
 rw[akF h];rfl
theorem akI (p q:List UInt8) {c:UInt8} (h:c∉p) (aO:(p++c::q).length≤1048576):tB (p++c::q) [c]=some (p,q,true):=by
 unfold tB yK
 rw[Kr p q h]
 simp only[List.length_append,List.length_cons]at aO
 have e:decide ((0:Int)≤(p.length:Int))=true:=by simp
 simp only[Option.bind_some,e,cond_true]
 rw[pK _ _ (by simp),e0 ((p.length:Int)+([c].length:Int)) (by simp;omega)]
 have aX:e1 (p++c::q) ((p.length:Int)+([c].length:Int)) ((p++c::q).length:Int)=some q:=by
  have:=ua (p++[c]) q [] (i:=((p.length:Int)+([c].length:Int))) (j:=(((p++c::q).length:Nat):Int)) (by simp) (by simp;omega)
  simpa using this
 rw[aX]
 simp
theorem akJ (q:List UInt8) {c:UInt8} (aO:q.length≤1048576):strings_TrimSuffix (q++[c]) [c]=some q:=by
 unfold strings_TrimSuffix yL tC
 have e:decide (([c].length:Int)≤((q++[c]).length:Int))=true:=by simp;omega
 have wP:IntKind.i64.wrap (((q++[c]).length:Int)-([c].length:Int))=(q.length:Int):=by
  rw[e0 _ (by simp;omega)];simp
 rw[e,wP]
 have aX:=ua q [c] [] (i:=(q.length:Int)) (j:=(((q++[c]).length:Nat):Int)) rfl (by simp)
 simp only[List.append_nil]at aX
 rw[aX,pK _ _ (by simp)]
 simp
theorem akK (q:List UInt8) {c:UInt8} (aO:q.length≤1048576) (h:∀r,q≠r++[c]):strings_TrimSuffix q [c]=some q:=by
 unfold strings_TrimSuffix yL tC
 rcases List.eq_nil_or_concat q with rfl|⟨r,x,rfl⟩
 ·rfl
 ·simp only[List.concat_eq_append]at*
  have ai:x≠c:=by rintro rfl;exact h r rfl
  have e:decide (([c].length:Int)≤((r++[x]).length:Int))=true:=by simp;omega
  have anc:r.length+1≤1048576:=by simpa using aO
  have wP:IntKind.i64.wrap (((r++[x]).length:Int)-([c].length:Int))=(r.length:Int):=by
   rw[e0 _ (by simp;omega)];simp
  rw[e,wP]
  have aX:=ua r [x] [] (i:=(r.length:Int)) (j:=(((r++[x]).length:Nat):Int)) rfl (by simp)
  simp only[List.append_nil]at aX
  rw[aX]
  have aS:([x]==[c])=false:=by simpa using ai
  simp only[cond_true,Option.bind_some,aS,cond_false]
end Go.gB
