/- Part of a proof that a law returns true for every input. No condition. -/
import Derived.Test.YtlkabaochkgkdaaGreatDoorUD1
namespace Go.eU
open Go Go.c_
def below (p:bH) (s:cL):cL:=⟨if p.Kind=4 then s.scope+1 else s.scope,p.Kind==1⟩
def hE:List bH->List cL->List cL
 |[],_=>[]
 |_::_,[]=>[]
 |p::r,s::st=>s::hE r (List.replicate (fm p) (below p s)++st)
theorem aFS (l:List bH):hE l []=[]:=by cases l<;>rfl
theorem yv:∀{l:List bH} {st:List cL} {k:Nat},fb l st.length=some k->(hE l st).length=k
 |[],[],k,h=>by simp only[List.length_nil,fb,Option.some.injEq]at h;subst h;rfl
 |[],s::st,k,h=>by simp[fb]at h
 |p::r,[],k,h=>by simp only[List.length_nil,fb,Option.some.injEq]at h;subst h;rfl
 |p::r,s::st,k,h=>by
  obtain⟨di,bt,rfl⟩:=rk.1 h;simp only[hE,List.length_cons];rw[yv (k:=di) (by rw[List.length_append,List.length_replicate,Nat.add_comm];exact bt)]
theorem S_:∀{l:List bH} {s1 s2:List cL} {k:Nat},fb l s1.length=some k->hE l (s1++s2)=hE l s1++hE (l.drop k) s2
 |[],[],s2,k,h=>by simp only[List.length_nil,fb,Option.some.injEq]at h;subst h;rfl
 |[],s::st,s2,k,h=>by simp[fb]at h
 |p::r,[],s2,k,h=>by simp only[List.length_nil,fb,Option.some.injEq]at h;subst h;simp[hE]
 |p::r,s::st,s2,k,h=>by
  obtain⟨di,bt,rfl⟩:=rk.1 h;simp only[hE,List.cons_append,List.drop_succ_cons];rw[<-List.append_assoc,S_ (k:=di) (by rw[List.length_append,List.length_replicate,Nat.add_comm];exact bt)]
def patch (out:List cL) (i:Nat) (new:List cL):List cL:=out.take i++(new++out.drop (i+new.length))
theorem aFT (out:List cL) (i:Nat):patch out i []=out:=by simp[patch]
theorem Ta {out:List cL} {i:Nat} {new:List cL} (h:i+new.length<=out.length):(patch out i new).length=out.length:=by
 simp[patch];omega
theorem Tb {out:List cL} {i j:Nat} {a b:List cL} (cH:j=i+a.length) (h:i+a.length+b.length<=out.length):patch (patch out i a) j b=patch out i (a++b):=by
 subst cH;unfold patch;have aX:(out.take i).length=i:=by rw[List.length_take];omega
 have t1:(out.take i++(a++out.drop (i+a.length))).take (i+a.length)=out.take i++a:=by
  rw[<-List.append_assoc,List.take_left' (by rw[List.length_append,aX])]
 have t2:(out.take i++(a++out.drop (i+a.length))).drop (i+a.length+b.length)=out.drop (i+a.length+b.length):=by
  rw[<-List.append_assoc,<-List.drop_drop,List.drop_left' (by rw[List.length_append,aX]),List.drop_drop]
 rw[t1,t2];simp only[List.append_assoc,List.length_append,Nat.add_assoc]
theorem aFU {out:List cL} {i:Nat} {s:cL} (h:i<out.length):out.set i s=patch out i [s]:=by
 unfold patch;apply List.ext_getElem?;intro j;rw[List.getElem?_set];rcases Nat.lt_trichotomy i j with Gr|Gr|Gr
 .rw[if_neg (by omega),List.getElem?_append_right (by simp;omega)];have aX:(out.take i).length=i:=by simp;omega
  rw[aX];obtain⟨d,rfl⟩:∃d,j=i+(d+1):=⟨j-i-1,by omega⟩
  rw[show i+(d+1)-i=d+1 by omega];simp only[List.singleton_append,List.getElem?_cons_succ,List.length_singleton,List.getElem?_drop];congr 1;omega
 .subst Gr;rw[if_pos rfl,if_pos h,List.getElem?_append_right (by simp;omega)];have aX:(out.take i).length=i:=by simp;omega
  rw[aX];simp
 .rw[if_neg (by omega),List.getElem?_append_left (by simp;omega),List.getElem?_take,if_pos Gr]
theorem aFV (n:Int) (h:0<=n) (ah:n<=1000000):IntKind.i64.wrap (n+1)=n+1:=eC _ (by omega)
theorem Tc {rec:Int->cL->List cL->bs->Option (Int×List cL)} {d:bs} {n:Nat} (aj:d.Body.length<=1048576)
  (Td:∀(at_ k:Nat) (s:cL) (out:List cL),out.length=d.Body.length->fb (d.Body.drop at_) 1=some k->k<=n->0<=s.scope->s.scope+k<=1000000->
   rec (at_:Int) s out d=some (((at_+k:Nat):Int),patch out at_ (hE (d.Body.drop at_) [s])))
  (dT:Int) (p:bH) (f:Nat) (bw:f<=2):∀(c j at_ k:Nat) (out:List cL) (m:Nat),j+c=f->c<m->out.length=d.Body.length->fb (d.Body.drop at_) c=some k->k<=n->0<=dT->dT+k<=1000000->
   ti rec d dT p (f:Int) m out (at_:Int) (j:Int)=some (((at_+k:Nat):Int),patch out at_ (hE (d.Body.drop at_) (List.replicate c ⟨dT,p.Kind==1⟩)))
 |0,j,at_,k,out,m,cH,hm,cy,he,ay,ba,ag=>by
  obtain⟨m,rfl⟩:∃i,m=i+1:=⟨m-1,by omega⟩
  rw[BJ]at he;cases he;simp only[ti,Ec];rw[fh (by omega)];simp[aFS,aFT]
 |c+1,j,at_,k,out,m,cH,hm,cy,he,ay,ba,ag=>by
  obtain⟨m,rfl⟩:∃i,m=i+1:=⟨m-1,by omega⟩
  rw[Nat.add_comm c 1]at he;obtain⟨b7,cw,aX,a6,rfl⟩:=BK he;have hk:=vY aX;have l2:=vY a6;rw[List.length_drop]at hk;rw[List.drop_drop,List.length_drop]at l2;have hlen:(hE (d.Body.drop at_) [⟨dT,p.Kind==1⟩]).length=b7:=yv (st:=[_]) aX;simp only[ti,Ec];rw[fX (by omega),Td at_ b7 _ out cy aX (by omega) ba (by show dT+(b7:Int)<=_;omega),fO j f (by omega) (by omega)];simp only[cond_true,Option.bind_some];have gE:(patch out at_ (hE (d.Body.drop at_) [⟨dT,p.Kind==1⟩])).length=d.Body.length:=by
   rw[Ta (by rw[hlen];omega),cy]
  rw[List.drop_drop]at a6;rw[Tc aj Td dT p f bw c (j+1) (at_+b7) cw _ m (by omega) (by omega) gE a6 (by omega) ba (by omega)];have aFW:(hE (d.Body.drop (at_+b7)) (List.replicate c ⟨dT,p.Kind==1⟩)).length=cw:=yv (by rw[List.length_replicate];exact a6);have aFX:hE (d.Body.drop at_) (List.replicate (c+1) ⟨dT,p.Kind==1⟩)=hE (d.Body.drop at_) [⟨dT,p.Kind==1⟩]++hE (d.Body.drop (at_+b7)) (List.replicate c ⟨dT,p.Kind==1⟩):=by
   rw[List.replicate_succ,<-List.singleton_append,S_ (k:=b7) (s1:=[_]) aX,List.drop_drop]
  rw[aFX,Tb (by rw[hlen]) (by rw[hlen,aFW];omega),Nat.add_assoc]
end Go.eU
