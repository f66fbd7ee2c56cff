/- Part of a proof that a law returns true for every input. No condition. -/
import Derived.Test.YtocllehpepigpaaGreatUD1
namespace Go.eN
open Go Go.cZ
def below (p:bJ) (s:cM):cM:=⟨if p.Kind=4 then s.scope+1 else s.scope,p.Kind==1⟩
def hi:List bJ→List cM→List cM
 |[],_=>[]
 |_::_,[]=>[]
 |p::r,s::st=>s::hi r (List.replicate (eL p) (below p s)++st)
theorem aB0 (l:List bJ):hi l []=[]:=by cases l<;>rfl
theorem xm:∀{l:List bJ} {st:List cM} {k:Nat},e6 l st.length=some k→(hi l st).length=k
 |[],[],k,h=>by simp only[List.length_nil,e6,Option.some.injEq]at h;subst h;rfl
 |[],s::st,k,h=>by simp[e6]at h
 |p::r,[],k,h=>by simp only[List.length_nil,e6,Option.some.injEq]at h;subst h;rfl
 |p::r,s::st,k,h=>by
  obtain⟨cW,bL,rfl⟩:=qx.1 h
  simp only[hi,List.length_cons]
  rw[xm (k:=cW) (by rw[List.length_append,List.length_replicate,Nat.add_comm];exact bL)]
theorem QP:∀{l:List bJ} {s1 s2:List cM} {k:Nat},e6 l s1.length=some k→hi l (s1++s2)=hi l s1++hi (l.drop k) s2
 |[],[],s2,k,h=>by simp only[List.length_nil,e6,Option.some.injEq]at h;subst h;rfl
 |[],s::st,s2,k,h=>by simp[e6]at h
 |p::r,[],s2,k,h=>by simp only[List.length_nil,e6,Option.some.injEq]at h;subst h;simp[hi]
 |p::r,s::st,s2,k,h=>by
  obtain⟨cW,bL,rfl⟩:=qx.1 h
  simp only[hi,List.cons_append,List.drop_succ_cons]
  rw[←List.append_assoc,QP (k:=cW) (by rw[List.length_append,List.length_replicate,Nat.add_comm];exact bL)]
def patch (out:List cM) (i:Nat) (new:List cM):List cM:=out.take i++(new++out.drop (i+new.length))
theorem aB1 (out:List cM) (i:Nat):patch out i []=out:=by simp[patch]
theorem QQ {out:List cM} {i:Nat} {new:List cM} (h:i+new.length≤out.length):(patch out i new).length=out.length:=by
 simp[patch];omega
theorem QR {out:List cM} {i j:Nat} {a b:List cM} (b_:j=i+a.length) (h:i+a.length+b.length≤out.length):patch (patch out i a) j b=patch out i (a++b):=by
 subst b_
 unfold patch
 have aS:(out.take i).length=i:=by rw[List.length_take];omega
 have t1:(out.take i++(a++out.drop (i+a.length))).take (i+a.length)=out.take i++a:=by
  rw[←List.append_assoc,List.take_left' (by rw[List.length_append,aS])]
 have t2:(out.take i++(a++out.drop (i+a.length))).drop (i+a.length+b.length)=out.drop (i+a.length+b.length):=by
  rw[←List.append_assoc,←List.drop_drop,List.drop_left' (by rw[List.length_append,aS]),List.drop_drop]
 rw[t1,t2]
 simp only[List.append_assoc,List.length_append,Nat.add_assoc]
theorem aB2 {out:List cM} {i:Nat} {s:cM} (h:i<out.length):out.set i s=patch out i [s]:=by
 unfold patch
 apply List.ext_getElem?
 intro j
 rw[List.getElem?_set]
 rcases Nat.lt_trichotomy i j with q0|q0|q0
 ·rw[if_neg (by omega),List.getElem?_append_right (by simp;omega)]
  have aS:(out.take i).length=i:=by simp;omega
  rw[aS]
  obtain⟨d,rfl⟩:∃d,j=i+(d+1):=⟨j-i-1,by omega⟩
  rw[show i+(d+1)-i=d+1 by omega]
  simp only[List.singleton_append,List.getElem?_cons_succ,List.length_singleton,List.getElem?_drop]
  congr 1;omega
 ·subst q0
  rw[if_pos rfl,if_pos h,List.getElem?_append_right (by simp;omega)]
  have aS:(out.take i).length=i:=by simp;omega
  rw[aS];simp
 ·rw[if_neg (by omega),List.getElem?_append_left (by simp;omega),List.getElem?_take,if_pos q0]
theorem aB3 (n:Int) (h:0≤n) (ah:n≤1000000):IntKind.i64.wrap (n+1)=n+1:=fl _ (by omega)
theorem QS {rec:Int→cM→List cM→bj→Option (Int×List cM)} {d:bj} {n:Nat} (aj:d.Body.length≤1048576)
  (QT:∀(at_ k:Nat) (s:cM) (out:List cM),out.length=d.Body.length→e6 (d.Body.drop at_) 1=some k→k≤n→0≤s.scope→s.scope+k≤1000000→
   rec (at_:Int) s out d=some (((at_+k:Nat):Int),patch out at_ (hi (d.Body.drop at_) [s])))
  (dJ:Int) (p:bJ) (f:Nat) (bC:f≤2):∀(c j at_ k:Nat) (out:List cM) (m:Nat),j+c=f→c<m→out.length=d.Body.length→e6 (d.Body.drop at_) c=some k→k≤n→0≤dJ→dJ+k≤1000000→
   sb rec d dJ p (f:Int) m out (at_:Int) (j:Int)=some (((at_+k:Nat):Int),patch out at_ (hi (d.Body.drop at_) (List.replicate c ⟨dJ,p.Kind==1⟩)))
 |0,j,at_,k,out,m,b_,hm,cr,he,hk,bf,h1=>by
  obtain⟨m,rfl⟩:∃i,m=i+1:=⟨m-1,by omega⟩
  rw[AG]at he;cases he
  simp only[sb,C8]
  rw[fq (by omega)]
  simp[aB0,aB1]
 |c+1,j,at_,k,out,m,b_,hm,cr,he,hk,bf,h1=>by
  obtain⟨m,rfl⟩:∃i,m=i+1:=⟨m-1,by omega⟩
  rw[Nat.add_comm c 1]at he
  obtain⟨b8,cy,aS,aZ,rfl⟩:=AH he
  have gH:=uY aS
  have l2:=uY aZ
  rw[List.length_drop]at gH
  rw[List.drop_drop,List.length_drop]at l2
  have hlen:(hi (d.Body.drop at_) [⟨dJ,p.Kind==1⟩]).length=b8:=xm (st:=[_]) aS
  simp only[sb,C8]
  rw[gP (by omega),QT at_ b8 _ out cr aS (by omega) bf (by show dJ+(b8:Int)≤_;omega),gA j f (by omega) (by omega)]
  simp only[cond_true,Option.bind_some]
  have gq:(patch out at_ (hi (d.Body.drop at_) [⟨dJ,p.Kind==1⟩])).length=d.Body.length:=by
   rw[QQ (by rw[hlen];omega),cr]
  rw[List.drop_drop]at aZ
  rw[QS aj QT dJ p f bC c (j+1) (at_+b8) cy _ m (by omega) (by omega) gq aZ (by omega) bf (by omega)]
  have aB4:(hi (d.Body.drop (at_+b8)) (List.replicate c ⟨dJ,p.Kind==1⟩)).length=cy:=xm (by rw[List.length_replicate];exact aZ)
  have aB5:hi (d.Body.drop at_) (List.replicate (c+1) ⟨dJ,p.Kind==1⟩)=hi (d.Body.drop at_) [⟨dJ,p.Kind==1⟩]++hi (d.Body.drop (at_+b8)) (List.replicate c ⟨dJ,p.Kind==1⟩):=by
   rw[List.replicate_succ,←List.singleton_append,QP (k:=b8) (s1:=[_]) aS,List.drop_drop]
  rw[aB5,QR (by rw[hlen]) (by rw[hlen,aB4];omega),Nat.add_assoc]
end Go.eN
