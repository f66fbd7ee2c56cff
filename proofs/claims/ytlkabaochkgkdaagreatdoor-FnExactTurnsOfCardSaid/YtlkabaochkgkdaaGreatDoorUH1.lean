/- Part of a proof that a law returns true for every input. No condition. -/
import Derived.Test.YtlkabaochkgkdaaGreatDoorP3
import Derived.Test.YtlkabaochkgkdaaGreatDoorUG
namespace Go.eU
open Go Go.c_
def glue (p:List UInt8):List (List UInt8)->List (List UInt8)
 |[]=>[p]
 |h::t=>(p++h)::t
def fI (c:UInt8):List UInt8->List (List UInt8)
 |[]=>[[]]
 |x::r=>if x=c then []::fI c r else glue [x] (fI c r)
theorem Su:∀{l:List (List UInt8)},l≠[]->glue [] l=l
 |[],h=>(h rfl).elim
 |_::_,_=>rfl
theorem aFc (p q:List UInt8):∀l:List (List UInt8),glue p (glue q l)=glue (p++q) l
 |[]=>rfl
 |h::t=>by simp only[glue,List.append_assoc]
theorem yr (c:UInt8):∀s,fI c s≠[]
 |[]=>by simp[fI]
 |x::r=>by
  simp only[fI];split
  .simp
  .cases h:fI c r<;>simp[glue]
theorem Gn (c:UInt8):∀s,(fI c s).length=s.count c+1
 |[]=>rfl
 |x::r=>by
  simp only[fI];split
  .rename_i h;subst h;simp only[List.length_cons,Gn x r,List.count_cons_self]
  .rename_i h;have gF:(x==c)=false:=by simpa using h
   rw[List.count_cons,gF];cases e:fI c r with
   |nil=>exact(yr c r e).elim
   |cons a t=>have:=Gn c r;rw[e]at this;simpa [glue]using this
theorem Sv (c:UInt8):∀s,c∉s->fI c s=[s]
 |[],_=>rfl
 |x::r,h=>by
  simp only[List.mem_cons,not_or]at h;simp only[fI];rw[if_neg (λe=>h.1 e.symm),Sv c r h.2];rfl
theorem Sw (c:UInt8):∀p q,c∉p->fI c (p++c::q)=p::fI c q
 |[],q,_=>by simp[fI]
 |x::r,q,h=>by
  simp only[List.mem_cons,not_or]at h;simp only[List.cons_append,fI];rw[if_neg (λe=>h.1 e.symm),Sw c r q h.2];rfl
theorem aFd (s x:List UInt8):∀l:List (List UInt8),l≠[]->k5 (glue x l) s=x++k5 l s
 |[],h=>(h rfl).elim
 |[y],_=>by simp[glue,k5,List.intercalate,List.intersperse]
 |y::z::r,_=>by simp[glue,k5,List.intercalate,List.intersperse]
theorem Sy (c:UInt8):∀s,k5 (fI c s) [c]=s
 |[]=>by simp[fI,k5,List.intercalate,List.intersperse]
 |x::r=>by
  simp only[fI];have ih:=Sy c r;split
  .rename_i h;subst h;cases e:fI x r with
   |nil=>exact(yr x r e).elim
   |cons a t=>
    rw[e]at ih;have:k5 ([]::a::t) [x]=x::k5 (a::t) [x]:=by simp[k5,List.intercalate,List.intersperse]
    rw[this,ih]
  .rw[aFd _ _ _ (yr c r),ih];rfl
theorem Sz (c:UInt8):∀s,c∉s->qc s c= -1
 |[],_=>rfl
 |x::r,h=>by
  simp only[List.mem_cons,not_or]at h;have gF:(x==c)=false:=by simpa using λe=>h.1 e.symm
  simp only[qc,gF,Sz c r h.2];rfl
theorem SA (c:UInt8):∀p q,c∉p->qc (p++c::q) c=(p.length:Int)
 |[],q,_=>by simp[qc]
 |x::r,q,h=>by
  simp only[List.mem_cons,not_or]at h;have gF:(x==c)=false:=by simpa using λe=>h.1 e.symm
  have ih:=SA c r q h.2;simp only[List.cons_append,qc,gF,ih];have:((r.length:Int)== -1)=false:=by simp
  rw[this];simp
theorem KL {c:UInt8}:∀{s:List UInt8},c∈s->∃p q,s=p++c::q/\c∉p
 |x::r,h=>by
  by_cases e:x=c
  .subst e;exact⟨[],r,rfl,by simp⟩
  .have bt:c∈r:=by
    rcases List.mem_cons.1 h with h|h
    .exact(e h.symm).elim
    .exact h
   obtain⟨p,q,rfl,au⟩:=KL bt;exact⟨x::p,q,rfl,by simp only[List.mem_cons,not_or];exact⟨λh=>e h.symm,au⟩⟩
theorem SB (s:List UInt8) (c:UInt8) (ae:1<=s.length\/True):rY s [c]=some (if s=[c]then 0 else qc s c):=by
 unfold rY Jy Jx;by_cases h:s=[c]
 .subst h;simp
 .have e:([c]==s)=false:=by simpa using λbt=>h bt.symm
  rw[if_neg h,e];rfl
theorem aFe {s:List UInt8} {c:UInt8} (h:c∉s):rY s [c]=some (-1):=by
 rw[SB s c (.inr trivial),if_neg (by rintro rfl;simp at h),Sz c s h]
theorem SC (p q:List UInt8) {c:UInt8} (h:c∉p):rY (p++c::q) [c]=some (p.length:Int):=by
 rw[SB _ c (.inr trivial),SA c p q h];split
 .rename_i e;cases p with
  |nil=>rfl
  |cons x r=>have:=congrArg List.length e;simp at this
 .rfl
theorem aFf (s t:List UInt8):AF s t=rY s t:=by
 unfold AF;cases rY s t<;>rfl
theorem aFg {s:List UInt8} {c:UInt8} (h:c∉s):xR s [c]=some (s,[],false):=by
 unfold xR EE;rw[aFe h];rfl
theorem aFh (p q:List UInt8) {c:UInt8} (h:c∉p) (hl:(p++c::q).length<=1048576):xR (p++c::q) [c]=some (p,q,true):=by
 unfold xR EE;rw[SC p q h];simp only[List.length_append,List.length_cons]at hl;have e:decide ((0:Int)<=(p.length:Int))=true:=by simp
 simp only[Option.bind_some,e,cond_true];rw[tv _ _ (by simp),eC ((p.length:Int)+([c].length:Int)) (by simp;omega)];have a6:gB (p++c::q) ((p.length:Int)+([c].length:Int)) ((p++c::q).length:Int)=some q:=by
  have:=BA (p++[c]) q [] (i:=((p.length:Int)+([c].length:Int))) (j:=(((p++c::q).length:Nat):Int)) (by simp) (by simp;omega);simpa using this
 rw[a6];simp
theorem aFi (q:List UInt8) {c:UInt8} (hl:q.length<=1048576):strings_TrimSuffix (q++[c]) [c]=some q:=by
 unfold strings_TrimSuffix EG EF;have e:decide (([c].length:Int)<=((q++[c]).length:Int))=true:=by simp;omega
 have KM:IntKind.i64.wrap (((q++[c]).length:Int)-([c].length:Int))=(q.length:Int):=by
  rw[eC _ (by simp;omega)];simp
 rw[e,KM];have a6:=BA q [c] [] (i:=(q.length:Int)) (j:=(((q++[c]).length:Nat):Int)) rfl (by simp);simp only[List.append_nil]at a6;rw[a6,tv _ _ (by simp)];simp
theorem aFj (q:List UInt8) {c:UInt8} (hl:q.length<=1048576) (h:∀r,q≠r++[c]):strings_TrimSuffix q [c]=some q:=by
 unfold strings_TrimSuffix EG EF;rcases List.eq_nil_or_concat q with rfl|⟨r,x,rfl⟩
 .rfl
 .simp only[List.concat_eq_append]at*;have aw:x≠c:=by rintro rfl;exact h r rfl
  have e:decide (([c].length:Int)<=((r++[x]).length:Int))=true:=by simp;omega
  have KN:r.length+1<=1048576:=by simpa using hl
  have KM:IntKind.i64.wrap (((r++[x]).length:Int)-([c].length:Int))=(r.length:Int):=by
   rw[eC _ (by simp;omega)];simp
  rw[e,KM];have a6:=BA r [x] [] (i:=(r.length:Int)) (j:=(((r++[x]).length:Nat):Int)) rfl (by simp);simp only[List.append_nil]at a6;rw[a6];have aQ:([x]==[c])=false:=by simpa using aw
  simp only[cond_true,Option.bind_some,aQ,cond_false]
end Go.eU
