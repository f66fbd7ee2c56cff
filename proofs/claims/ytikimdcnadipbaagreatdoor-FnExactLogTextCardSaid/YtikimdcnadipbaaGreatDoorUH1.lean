/- Part of a proof that a law returns true for every input. No condition. -/
import Derived.Test.YtikimdcnadipbaaGreatDoorP4
import Derived.Test.YtikimdcnadipbaaGreatDoorUG
namespace Go.eL
open Go Go.bZ
def glue (p:List UInt8):List (List UInt8)→List (List UInt8)
 |[]=>[p]
 |h::t=>(p++h)::t
def dr (c:UInt8):List UInt8→List (List UInt8)
 |[]=>[[]]
 |x::r=>if x=c then []::dr c r else glue [x] (dr c r)
theorem FR:∀{l:List (List UInt8)},l≠[]→glue [] l=l
 |[],h=>(h rfl).elim
 |_::_,_=>rfl
theorem Xn (p q:List UInt8):∀l:List (List UInt8),glue p (glue q l)=glue (p++q) l
 |[]=>rfl
 |h::t=>by simp only[glue,List.append_assoc]
theorem rI (c:UInt8):∀s,dr c s≠[]
 |[]=>by simp[dr]
 |x::r=>by
  simp only[dr]
  split
  ·simp
  ·cases h:dr c r<;>simp[glue]
theorem wF (c:UInt8):∀s,(dr c s).length=s.count c+1
 |[]=>rfl
 |x::r=>by
  simp only[dr]
  split
  ·rename_i h
   subst h
   simp only[List.length_cons,wF x r,List.count_cons_self]
  ·rename_i h
   have fs:(x==c)=false:=by simpa using h
   rw[List.count_cons,fs]
   cases e:dr c r with
   |nil=>exact(rI c r e).elim
   |cons a t=>have:=wF c r;rw[e]at this;simpa [glue]using this
theorem FT (c:UInt8):∀s,c∉s→dr c s=[s]
 |[],_=>rfl
 |x::r,h=>by
  simp only[List.mem_cons,not_or]at h
  simp only[dr]
  rw[if_neg (fun e=>h.1 e.symm),FT c r h.2];rfl
theorem FU (c:UInt8):∀p q,c∉p→dr c (p++c::q)=p::dr c q
 |[],q,_=>by simp[dr]
 |x::r,q,h=>by
  simp only[List.mem_cons,not_or]at h
  simp only[List.cons_append,dr]
  rw[if_neg (fun e=>h.1 e.symm),FU c r q h.2];rfl
theorem Xo (s x:List UInt8):∀l:List (List UInt8),l≠[]→gy (glue x l) s=x++gy l s
 |[],h=>(h rfl).elim
 |[y],_=>by simp[glue,gy,List.intercalate,List.intersperse]
 |y::z::r,_=>by simp[glue,gy,List.intercalate,List.intersperse]
theorem FV (c:UInt8):∀s,gy (dr c s) [c]=s
 |[]=>by simp[dr,gy,List.intercalate,List.intersperse]
 |x::r=>by
  simp only[dr]
  have ih:=FV c r
  split
  ·rename_i h
   subst h
   cases e:dr x r with
   |nil=>exact(rI x r e).elim
   |cons a t=>
    rw[e]at ih
    have:gy ([]::a::t) [x]=x::gy (a::t) [x]:=by simp[gy,List.intercalate,List.intersperse]
    rw[this,ih]
  ·rw[Xo _ _ _ (rI c r),ih];rfl
theorem FW (c:UInt8):∀s,c∉s→lP s c= -1
 |[],_=>rfl
 |x::r,h=>by
  simp only[List.mem_cons,not_or]at h
  have fs:(x==c)=false:=by simpa using fun e=>h.1 e.symm
  simp only[lP,fs,FW c r h.2]
  rfl
theorem FX (c:UInt8):∀p q,c∉p→lP (p++c::q) c=(p.length:Int)
 |[],q,_=>by simp[lP]
 |x::r,q,h=>by
  simp only[List.mem_cons,not_or]at h
  have fs:(x==c)=false:=by simpa using fun e=>h.1 e.symm
  have ih:=FX c r q h.2
  simp only[List.cons_append,lP,fs,ih]
  have:((r.length:Int)== -1)=false:=by simp
  rw[this]
  simp
theorem zW {c:UInt8}:∀{s:List UInt8},c∈s→∃p q,s=p++c::q∧c∉p
 |x::r,h=>by
  by_cases e:x=c
  ·subst e;exact⟨[],r,rfl,by simp⟩
  ·have aT:c∈r:=by
    rcases List.mem_cons.1 h with h|h
    ·exact(e h.symm).elim
    ·exact h
   obtain⟨p,q,rfl,ah⟩:=zW aT
   exact⟨x::p,q,rfl,by simp only[List.mem_cons,not_or];exact⟨fun h=>e h.symm,ah⟩⟩
theorem FY (s:List UInt8) (c:UInt8) (U:1≤s.length∨True):nx s [c]=some (if s=[c]then 0 else lP s c):=by
 unfold nx yZ yY
 by_cases h:s=[c]
 ·subst h;simp
 ·have e:([c]==s)=false:=by simpa using fun aT=>h aT.symm
  rw[if_neg h,e]
  rfl
theorem Xp {s:List UInt8} {c:UInt8} (h:c∉s):nx s [c]=some (-1):=by
 rw[FY s c (.inr trivial),if_neg (by rintro rfl;simp at h),FW c s h]
theorem FZ (p q:List UInt8) {c:UInt8} (h:c∉p):nx (p++c::q) [c]=some (p.length:Int):=by
 rw[FY _ c (.inr trivial),FX c p q h]
 split
 ·rename_i e
  cases p with
  |nil=>rfl
  |cons x r=>have:=congrArg List.length e;simp at this
 ·rfl
theorem Xq (s t:List UInt8):tg s t=nx s t:=by
 unfold tg;cases nx s t<;>rfl
theorem Xr {s:List UInt8} {c:UInt8} (h:c∉s):rk s [c]=some (s,[],false):=by
 unfold rk vx
 rw[Xp h];rfl
theorem Xs (p q:List UInt8) {c:UInt8} (h:c∉p) (aI:(p++c::q).length≤1048576):rk (p++c::q) [c]=some (p,q,true):=by
 unfold rk vx
 rw[FZ p q h]
 simp only[List.length_append,List.length_cons]at aI
 have e:decide ((0:Int)≤(p.length:Int))=true:=by simp
 simp only[Option.bind_some,e,cond_true]
 rw[rE _ _ (by simp),eO ((p.length:Int)+([c].length:Int)) (by simp;omega)]
 have aJ:dZ (p++c::q) ((p.length:Int)+([c].length:Int)) ((p++c::q).length:Int)=some q:=by
  have:=tL (p++[c]) q [] (i:=((p.length:Int)+([c].length:Int))) (j:=(((p++c::q).length:Nat):Int)) (by simp) (by simp;omega)
  simpa using this
 rw[aJ]
 simp
theorem Xt (q:List UInt8) {c:UInt8} (aI:q.length≤1048576):strings_TrimSuffix (q++[c]) [c]=some q:=by
 unfold strings_TrimSuffix vz vy
 have e:decide (([c].length:Int)≤((q++[c]).length:Int))=true:=by simp;omega
 have zX:IntKind.i64.wrap (((q++[c]).length:Int)-([c].length:Int))=(q.length:Int):=by
  rw[eO _ (by simp;omega)];simp
 rw[e,zX]
 have aJ:=tL q [c] [] (i:=(q.length:Int)) (j:=(((q++[c]).length:Nat):Int)) rfl (by simp)
 simp only[List.append_nil]at aJ
 rw[aJ,rE _ _ (by simp)]
 simp
theorem Xu (q:List UInt8) {c:UInt8} (aI:q.length≤1048576) (h:∀r,q≠r++[c]):strings_TrimSuffix q [c]=some q:=by
 unfold strings_TrimSuffix vz vy
 rcases List.eq_nil_or_concat q with rfl|⟨r,x,rfl⟩
 ·rfl
 ·simp only[List.concat_eq_append]at*
  have ai:x≠c:=by rintro rfl;exact h r rfl
  have e:decide (([c].length:Int)≤((r++[x]).length:Int))=true:=by simp;omega
  have Zm:r.length+1≤1048576:=by simpa using aI
  have zX:IntKind.i64.wrap (((r++[x]).length:Int)-([c].length:Int))=(r.length:Int):=by
   rw[eO _ (by simp;omega)];simp
  rw[e,zX]
  have aJ:=tL r [x] [] (i:=(r.length:Int)) (j:=(((r++[x]).length:Nat):Int)) rfl (by simp)
  simp only[List.append_nil]at aJ
  rw[aJ]
  have aN:([x]==[c])=false:=by simpa using ai
  simp only[cond_true,Option.bind_some,aN,cond_false]
end Go.eL
