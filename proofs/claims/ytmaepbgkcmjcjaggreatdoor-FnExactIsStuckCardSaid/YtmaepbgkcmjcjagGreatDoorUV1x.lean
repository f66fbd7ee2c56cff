/- Part of a proof that a law returns true for every input. No condition. -/
import Derived.Test.YtmaepbgkcmjcjagGreatDoorUV0x
import Derived.Test.YtmaepbgkcmjcjagGreatDoorP3
namespace Go.lZ
open Option Go.IntKind Nat
open Go Go.ef
theorem join_one (x s:axa):jq [x] s=x:=by simp[jq,List.intercalate,List.intersperse]
theorem join_cons (x y:axa) (r:awZ) (s:axa):jq (x::y::r) s=x++(s++jq (y::r) s):=by simp[jq,List.intercalate,List.intersperse]
theorem Zl (s:axa):∀(l:awZ) (y:axa),l≠[]->jq (l++[y]) s=jq l s++(s++y)
 |[],_,h=>(h rfl).elim
 |[x],y,_=>by rw[List.singleton_append,join_cons,join_one,join_one]
 |x::z::r,y,_=>by
  rw[List.cons_append,List.cons_append,join_cons,join_cons,<-List.cons_append,Zl s (z::r) y (by simp)];simp only[List.append_assoc]
theorem GR (c:UInt8) (k:Nat):∀l:awZ,(∀x∈l,x.length<=k)->(jq l [c]).length<=l.length*(k+1)
 |[],_=>by simp[jq,List.intercalate,List.intersperse]
 |[x],h=>by rw[join_one];have:=h x (by simp);simp only[List.length_cons,List.length_nil];omega
 |x::y::r,h=>by
  rw[join_cons];have ad:=h x (by simp);have ae:=GR c k (y::r) λz b9=>h z (by simp[b9]);simp only[List.length_append,List.length_cons,List.length_nil,Nat.add_mul]at ae⊢;omega
theorem zU (n:Nat) (h:n<100):ra (n:Int)=some (iR n):=by
 unfold ra B4;first
 |(rw[if_pos ⟨by omega,by omega,rfl⟩];rfl)
 |(rw[if_pos ⟨by omega,by omega,rfl⟩]
   unfold FD iR xq;rw[if_neg (by omega),Int.toNat_natCast];by_cases ad:n<10
   .rw[dif_pos ad,if_pos ad];rfl
   .unfold xq;rw[dif_neg ad,if_neg ad,dif_pos (by omega)];rfl)
theorem wa (n:Nat):(iR n).length<=2:=by unfold iR;split<;>simp
theorem aqq {α γ β:Type} {L:Nat->List γ->Int->Option β} (a:List α) (t:α->γ) (w:List γ) (hw:w.length=a.length) (E:List γ->Option β)
  (bb:∀m v,L (m+1) v (a.length:Int)=E v)
  (aa:∀i (h:i<a.length) m v,v.length=a.length->L (m+1) v (i:Int)=L m (v.set i (t a[i])) ((i+1:Nat):Int)):b6 (λm=>L m w 0)=E (a.map t):=by
 have key:∀i,i<=a.length->∀m,a.length-i<m->L m ((a.take i).map t++w.drop i) (i:Int)=E (a.map t):=by
  refine down a.length ?_ ?_
  .intro m hm;obtain⟨m,rfl⟩:∃j,m=j+1:=⟨m-1,by omega⟩
   rw[bb,List.take_length,List.drop_of_length_le (by omega),List.append_nil]
  .intro i ag ih m hm;obtain⟨m,rfl⟩:∃j,m=j+1:=⟨m-1,by omega⟩
   have e:((a.take i).map t).length=i:=by simp;omega
   rw[aa i ag m _ (by simp only[List.length_append,e,List.length_drop];omega),<-ih m (by omega)];congr 1;rw[List.set_append_right i _ (by rw[e];omega),e,Nat.sub_self,drop_cons w i (by omega),List.set_cons_zero,List.take_succ_eq_append_getElem ag,List.map_append];simp
 refine fa (a.length+1) λm hm=>?_;have:=key 0 (by omega) m (by omega);simpa using this
def j0 (n:Int):axa:=iR n.toNat
theorem GS (n:Int):(j0 n).length<=2:=wa _
theorem aqr {x:Int} (h:0<=x/\x<=63):ra x=some (j0 x):=by
 have:=zU x.toNat (by omega)
 rwa [Int.toNat_of_nonneg h.1]at this
theorem Zm (a:axc) (h:a.length<=64) (aE:∀x∈a,0<=x/\x<=63):zj a [44]=some (jq (a.map j0) [44]):=by
 unfold zj;rw[s0 16 (by omega) (by omega)];simp only[bind_some,Int.toNat_natCast];have bE:strings_Join (a.map j0) [44]=some (jq (a.map j0) [44]):=by
  unfold strings_Join;have:=GR 44 2 (a.map j0) λx an=>by
   obtain⟨y,_,rfl⟩:=List.mem_map.1 an;exact GS y
  rw[List.length_map]at this;rw[if_pos ⟨by rw[List.length_map];omega,by omega⟩]
 rw[aqq (L:=B5 a [44]) a j0 (List.replicate a.length []) (by simp) (λv=>(strings_Join v [44]).bind λa_=>some a_) (λm v=>?_) (λi ag m v aC=>?_),bE]
 .rfl
 .simp only[B5,O8];rw[eL (Nat.le_refl _)];rfl
 .simp only[B5,O8];rw[el ag,dM _ i ag,d_ i _ ag (by omega),dM v i (by omega)];simp only[cond_true,bind_some];rw[aqr (aE _ (List.getElem_mem ag))];simp only[bind_some,Int.toNat_natCast]
def small (c:UInt8):Bool:=decide (97<=(c.toNat:Int))&&decide ((c.toNat:Int)<=122)
def digit (c:UInt8):Bool:=decide (48<=(c.toNat:Int))&&decide ((c.toNat:Int)<=57)
def hx (s:axa):Bool:=decide (s.length<=10)&&(match s with|[]=>false|c::r=>small c&&r.all λc=>small c||digit c)
theorem CT (s:axa):xg s=some (hx s):=by
 unfold xg;cases s with
 |nil=>rfl
 |cons c r=>
  have ga:((c::r)==([]:axa))=false:=rfl;rw[ga];simp only[cond_false];by_cases kZ:10<(c::r).length
  .have:decide ((10:Int)<((c::r).length:Int))=true:=by simp at kZ⊢;omega
   rw[this];have ae:decide ((c::r).length<=10)=false:=by simp at kZ⊢;omega
   simp only[hx,ae];rfl
  .have:decide ((10:Int)<((c::r).length:Int))=false:=by simp at kZ⊢;omega
   rw[this];have ae:decide ((c::r).length<=10)=true:=by simp at kZ⊢;omega
   rw[GI];simp only[cond_false,bind_some,ET];simp only[hx,ae,Bool.true_and];show cond (!small c) _ _=_;cases aa:small c with
   |false=>rfl
   |true=>
    simp only[Bool.not_true,cond_false];rw[pW (n:=(c::r).length) (λi=>some (((c::r).drop i).all λc=>small c||digit c))]
    .simp[aa]
    .intro m;simp only[EU,NN];rw[eL (Nat.le_refl _)];simp
    .intro i ag m ih;simp only[EU,NN];rw[el ag,dM _ i ag,d_ i _ ag (by omega),ih,drop_cons _ i ag];simp only[cond_true,bind_some,ET,Ba,List.all_cons];show cond (!small _) (cond (!digit _) _ _) _=_;cases small (c::r)[i]<;>cases digit (c::r)[i]<;>rfl
theorem Zn (s:axa) (aa:s.length<=140737488355328):Fh s=some (hx s):=by
 unfold Fh;have bG:∀m,s.length-1<m->1<=s.length->xo s m ((1:Nat):Int)=some (((s.drop 1).all λc=>small c||digit c)&&(decide (1<=(s.length:Int))&&decide ((s.length:Int)<=10))):=by
  intro m hm ad;refine down s.length (P:=λi=>1<=i->∀m,s.length-i<m->xo s m (i:Int)=some (((s.drop i).all λc=>small c||digit c)&&(decide (1<=(s.length:Int))&&decide ((s.length:Int)<=10)))) ?_ ?_ 1 ad (Nat.le_refl _) m hm
  .intro _ m hm;obtain⟨k,rfl⟩:∃k,m=k+1:=⟨m-1,by omega⟩
   simp only[xo,I2];rw[eL (Nat.le_refl _)];simp
  .intro i ag ih D2 m hm;obtain⟨k,rfl⟩:∃k,m=k+1:=⟨m-1,by omega⟩
   simp only[xo,I2];rw[el ag,dM _ i ag,d_ i _ ag (by omega),ih (by omega) k (by omega),drop_cons _ i ag];have e:((i:Int)==0)=false:=by simp;omega
   rw[e];simp only[cond_true,cond_false,bind_some,Oy,List.all_cons];show cond (!small _) (cond (!digit _) _ _) _=_;cases small s[i]<;>cases digit s[i]<;>rfl
 refine fa (s.length+1) λm hm=>?_;obtain⟨k,rfl⟩:∃k,m=k+1:=⟨m-1,by omega⟩
 simp only[xo,I2];cases s with
 |nil=>rfl
 |cons c r=>
  have au:=bG k (by simp at hm⊢;omega) (by simp);rw[show((1:Nat):Int)=1 from rfl]at au;rw[zO (by simp),GI,ap4,au];have e:((0:Int)==0)=true:=rfl;rw[e];simp only[cond_true,hx];show cond (!small c) _ _=_;have ad:decide (1<=((c::r).length:Int))=true:=by simp;omega
  have ae:decide (((c::r).length:Int)<=10)=decide ((c::r).length<=10):=by
   by_cases h:(c::r).length<=10<;>simp at h⊢<;>omega
  rw[ad,ae];cases small c with
  |false=>simp
  |true=>simp[Bool.and_comm]
def zV (ws:awZ):Bool:=ws.all λw=>(jV w).2
def s4 (ws:awZ):axc:=ws.map λw=>(jV w).1
def zW (x:Int):Bool:=decide (0<=x)&&decide (x<=63)
theorem aqs (ws:awZ) (h:ws.length<=1048577):Jy ws=some (if zV ws=true then(s4 ws,true)else([],false)):=by
 have key:∀i,i<=ws.length->∀m,ws.length-i<m->∀v:axc,v.length=i->
   Cd ws m v (i:Int)=some (if zV (ws.drop i)=true then(v++s4 (ws.drop i),true)else([],false)):=by
  refine down ws.length ?_ ?_
  .intro m hm v aE;obtain⟨m,rfl⟩:∃j,m=j+1:=⟨m-1,by omega⟩
   simp only[Cd,Pn];rw[eL (Nat.le_refl _),List.drop_length];simp[zV,s4]
  .intro i ag ih m hm v aE;obtain⟨m,rfl⟩:∃j,m=j+1:=⟨m-1,by omega⟩
   simp only[Cd,Pn,Jx];rw[el ag,cond_true,dM ws i ag,bind_some,bind_some,drop_cons ws i ag];simp only[zV,s4,List.all_cons,List.map_cons];cases al:(jV ws[i]).2
   .simp
   .simp only[Bool.not_true,cond_false,Bool.true_and];rw[lK (by omega) (by omega),bind_some,d_ i _ ag (by omega),ih m (by omega) _ (by simp[aE])];simp[zV,s4]
 unfold Jy;refine fa (ws.length+1) λm hm=>?_;have:=key 0 (by omega) m (by omega) [] rfl;simpa using this
def wb (ws:awZ):Bool:=ws.all λw=>(jV w).2&&zW (jV w).1
theorem aqt (ws:awZ) (h:ws.length<=1048577) (hw:∀w∈ws,w.length<=1048576):
  b6 (λn=>y9 ws n [] 0)=some (if wb ws=true then s4 ws else [],wb ws&&decide (ws.length<=2)):=by
 have key:∀i,i<=ws.length->∀m,ws.length-i<m->∀v:axc,v.length=i->
   y9 ws m v (i:Int)=some (if wb (ws.drop i)=true then v++s4 (ws.drop i)else [],wb (ws.drop i)&&decide (ws.length<=2)):=by
  refine down ws.length ?_ ?_
  .intro m hm v aE;obtain⟨m,rfl⟩:∃j,m=j+1:=⟨m-1,by omega⟩
   simp only[y9,Ok];rw[eL (Nat.le_refl _),List.drop_length,cond_false];have e:decide ((v.length:Int)<=2)=decide (ws.length<=2):=by rw[decide_eq_decide];omega
   rw[e];simp[wb,s4]
  .intro i ag ih m hm v aE;obtain⟨m,rfl⟩:∃j,m=j+1:=⟨m-1,by omega⟩
   simp only[y9,Ok];rw[el ag,cond_true,dM ws i ag,bind_some,aqm _ (hw _ (List.getElem_mem ag)),bind_some,drop_cons ws i ag];have aqu:wb (ws[i]::ws.drop (i+1))=((jV ws[i]).2&&zW (jV ws[i]).1&&wb (ws.drop (i+1))):=rfl;rw[aqu];by_cases al:(jV ws[i]).2=true
   .simp only[al,Bool.not_true,cond_false,Bool.true_and,l0,bind_some];by_cases iu:zW (jV ws[i]).1=true
    .have GU:=iu;unfold zW at GU;rw[GU,iu];simp only[Bool.not_true,cond_false,Bool.true_and];rw[lK (by omega) (by omega),bind_some,d_ i _ ag (by omega),ih m (by omega) _ (by simp[aE])];simp only[s4,List.append_assoc,List.map_cons,List.singleton_append]
    .have Zo:zW (jV ws[i]).1=false:=by simpa using iu
     have GU:=Zo;unfold zW at GU;rw[GU,Zo];simp
   .have hq:(jV ws[i]).2=false:=by simpa using al
    simp[hq]
 refine fa (ws.length+1) λm hm=>?_;have:=key 0 (by omega) m (by omega) [] rfl;simpa using this
theorem GV (s:axa) (aa:s.length<=1048576):(40∉s->y6 s=some (s.length:Int))/\∀p q,s=p++40::q->40∉p->y6 s=some (p.length:Int):=by
 have step:∀i (ag:i<s.length) m,xl s (m+1) (i:Int)=cond (s[i]==40) (some (i:Int)) (xl s m ((i+1:Nat):Int)):=by
  intro i ag m;simp only[xl,Od];rw[el ag,cond_true,dM s i ag,bind_some,d_ i _ ag (by omega)];have e:((s[i].toNat:Int)==40)=(s[i]==40):=by
   rw[Bool.eq_iff_iff];simp only[beq_iff_eq];constructor
   .intro h;exact UInt8.toNat_inj.1 (by rw[show(40:UInt8).toNat=40 from rfl];omega)
   .intro h;rw[h];rfl
  rw[e]
 constructor
 .intro h;unfold y6;rw[pW (n:=s.length) (λ_=>some (s.length:Int))]
  .intro m;simp only[xl,Od];rw[eL (Nat.le_refl _)];rfl
  .intro i ag m ih;rw[step i ag m,ih];have:(s[i]==40)=false:=by
    simp only[beq_eq_false_iff_ne,ne_eq];intro e;exact h (e▸List.getElem_mem ag)
   rw[this];rfl
 .rintro p q rfl ax;unfold y6;refine fa (p.length+1) λm hm=>?_;have key:∀k,k<=p.length->∀m,k<m->xl (p++40::q) m ((p.length-k:Nat):Int)=some (p.length:Int):=by
   intro k;induction k with
   |zero=>
    intro _ m hm;obtain⟨m,rfl⟩:∃j,m=j+1:=⟨m-1,by omega⟩
    rw[Nat.sub_zero,step p.length (by simp) m];have:((p++40::q)[p.length]'(by simp))=40:=by simp
    rw[this];rfl
   |succ k ih=>
    intro au m hm;obtain⟨m,rfl⟩:∃j,m=j+1:=⟨m-1,by omega⟩
    rw[step (p.length-(k+1)) (by simp;omega) m];have:((p++40::q)[p.length-(k+1)]'(by simp;omega)==40)=false:=by
     simp only[beq_eq_false_iff_ne,ne_eq];rw[List.getElem_append_left (by omega)];intro e;exact ax (e▸List.getElem_mem (by omega))
    rw[this,cond_false,show p.length-(k+1)+1=p.length-k by omega];exact ih (by omega) m (by omega)
  have:=key p.length (Nat.le_refl _) m (by omega);simpa using this
def mW (t:bZ):Nat:=if t.Kind=2 then 2 else if t.Kind=3 then 1 else 0
theorem KE (t:bZ):mW t<=2:=by unfold mW;split<;>(try split)<;>omega
theorem Zp (t:bZ):cond (t.Kind==2) (some 2) (cond (t.Kind==3) (some 1) (some 0))=some (mW t:Int):=by
 unfold mW;by_cases ae:t.Kind=2
 .simp[ae]
 .by_cases aI:t.Kind=3
  .simp[aI]
  .have aU:(t.Kind==2)=false:=by simpa using ae
   have aR:(t.Kind==3)=false:=by simpa using aI
   rw[aU,aR,if_neg ae,if_neg aI];rfl
def rC (n fF ag:Int):Bool:=decide (fF<=n)&&decide (n<=ag)
def oJ (t:bZ) (v:Int):Bool:=cond (t.Kind==0) (rC t.Value 0 63) (cond (t.Kind==1) (rC t.Value 0 (v-1)) (cond (t.Kind==2) (rC t.Value 0 8) (cond (t.Kind==3) (t.Value==0) false)))
def rD (v:Int):axs->Nat->Bool
 |[],k=>k==0
 |t::r,k=> !(k==0)&&(oJ t v&&rD v r (k+mW t-1))
def pk (e:axs) (v most:Int):Bool:=decide ((e.length:Int)<=most)&&rD v e 1
theorem aqv (t:bZ) (v:Int) (aE: -1000000<=v/\v<=1000000):It t v=some (oJ t v):=by
 unfold It l0 oJ rC;rw[fk (v-1) (by omega)];cases t.Kind==0<;>cases t.Kind==1<;>cases t.Kind==2<;>cases t.Kind==3<;>rfl
theorem aqw (t:bZ) (v:Int) (aE: -1000000<=v/\v<=1000000):I6 t v=some (oJ t v):=by
 unfold I6 Fm kS oJ rC;rw[fk (v-1) (by omega)];cases t.Kind==0<;>cases t.Kind==1<;>cases t.Kind==2<;>cases t.Kind==3<;>rfl
theorem Zq (t:bZ):Iu t=some (mW t:Int):=Zp t
theorem Zr (t:bZ):I7 t=some (mW t:Int):=Zp t
theorem Ro {k a:Nat} (au:1<=k) (oS:k<=100000000) (bl:a<=2):i64.wrap ((k:Int)+i64.wrap ((a:Int)-1))=((k+a-1:Nat):Int):=by
 rw[fk ((a:Int)-1) (by omega),fk _ (by omega)];omega
theorem CU (k:Nat):((k:Int)==0)=(k==0):=by
 by_cases h:k=0
 .subst h;rfl
 .have ad:((k:Int)==0)=false:=by simp;omega
  have ae:(k==0)=false:=by simpa using h
  rw[ad,ae]
theorem aqx (e:axs) (v most:Int) (aE: -1000000<=v/\v<=1000000) (he:e.length<=1048576):Iv e v most=some (pk e v most):=by
 unfold Iv pk;by_cases hm:(e.length:Int)<=most
 .have d1:decide (most<(e.length:Int))=false:=by simp;omega
  have d2:decide ((e.length:Int)<=most)=true:=by simpa using hm
  rw[d1,d2,cond_false,Bool.true_and];have key:∀i,i<=e.length->∀(k:Nat) m,k<=1+2*i->e.length-i<m->Bf e v m (k:Int) (i:Int)=some (rD v (e.drop i) k):=by
   refine down e.length ?_ ?_
   .intro k m _ hm;obtain⟨m,rfl⟩:∃j,m=j+1:=⟨m-1,by omega⟩
    simp only[Bf,NS];rw[eL (Nat.le_refl _),List.drop_of_length_le (Nat.le_refl _),CU];rfl
   .intro i ag ih k m au hm;obtain⟨m,rfl⟩:∃j,m=j+1:=⟨m-1,by omega⟩
    simp only[Bf,NS];rw[el ag,dM _ i ag,d_ i _ ag (by omega),drop_cons e i ag,CU];simp only[cond_true,bind_some,aqv _ v aE,Zq,rD];by_cases bb:k=0
    .subst bb;rfl
    .have ab:(k==0)=false:=by simpa using bb
     have bl:=KE e[i];rw[ab,Ro (by omega) (by omega) bl,ih _ m (by omega) (by omega)];simp only[cond_false,Bool.not_false,Bool.true_and];cases oJ e[i] v<;>rfl
  refine fa (e.length+1) λm hm=>?_;have:=key 0 (by omega) 1 m (by omega) (by omega);simpa using this
 .have d1:decide (most<(e.length:Int))=true:=by simp;omega
  have d2:decide ((e.length:Int)<=most)=false:=by simpa using hm
  rw[d1,d2];rfl
theorem aqy (e:axs) (v most:Int) (aE:0<=v/\v<=29) (awM:1<=most/\most<=60) (he:e.length<=1048576):I8 e v most=some (pk e v most):=by
 unfold I8 kS pk;have d1:(!(decide (0<=v)&&decide (v<=29)))=false:=by simp;omega
 have d2:(!(decide (1<=most)&&decide (most<=60)))=false:=by simp;omega
 simp only[bind_some,d1,d2,cond_false];by_cases ad:e.length=0
 .have:e=[]:=List.length_eq_zero_iff.1 ad;subst this;simp[rD]
 .by_cases hm:(e.length:Int)<=most
  .have d3:(!(decide ((1:Int)<=(e.length:Int))&&decide ((e.length:Int)<=most)))=false:=by simp;omega
   have d4:decide ((e.length:Int)<=most)=true:=by simpa using hm
   rw[d3,d4,cond_false,Bool.true_and];have key:∀i,i<=e.length->∀(k:Nat) m,k<=1+2*i->e.length-i<m->BU e v m (k:Int) (i:Int)=some (rD v (e.drop i) k):=by
    refine down e.length ?_ ?_
    .intro k m _ hm;obtain⟨m,rfl⟩:∃j,m=j+1:=⟨m-1,by omega⟩
     simp only[BU,OI];rw[eL (Nat.le_refl _),List.drop_of_length_le (Nat.le_refl _),CU];rfl
    .intro i ag ih k m au hm;obtain⟨m,rfl⟩:∃j,m=j+1:=⟨m-1,by omega⟩
     simp only[BU,OI];rw[el ag,dM _ i ag,d_ i _ ag (by omega),drop_cons e i ag,CU];simp only[cond_true,bind_some,aqw _ v (by omega),Zr,rD];by_cases bb:k=0
     .subst bb;rfl
     .have ab:(k==0)=false:=by simpa using bb
      have bl:=KE e[i];rw[ab,Ro (by omega) (by omega) bl,ih _ m (by omega) (by omega)];simp only[cond_false,Bool.not_false,Bool.true_and];cases oJ e[i] v<;>rfl
   refine fa (e.length+1) λm hm=>?_;have:=key 0 (by omega) 1 m (by omega) (by omega);simpa using this
  .have d3:(!(decide ((1:Int)<=(e.length:Int))&&decide ((e.length:Int)<=most)))=true:=by simp;omega
   have d4:decide ((e.length:Int)<=most)=false:=by simpa using hm
   rw[d3,d4];rfl
def ey (p:cG):Nat:=if p.Kind=1\/p.Kind=3\/p.Kind=4 then 1 else if p.Kind=2 then 2 else 0
theorem CV (p:cG):ey p<=2:=by unfold ey;split<;>(try split)<;>omega
theorem Zs (p:cG) (K:Bool->axf) (kN:∀b,K b=cond b (some 1) (cond (p.Kind==2) (some 2) (some 0))):
  cond (p.Kind==1) (K true) (cond (p.Kind==3) (K true) (K (p.Kind==4)))=some (ey p:Int):=by
 simp only[kN,ey];by_cases ad:p.Kind=1
 .simp[ad]
 .by_cases aI:p.Kind=3
  .simp[aI]
  .by_cases bc:p.Kind=4
   .simp[bc]
   .by_cases ae:p.Kind=2
    .simp[ae]
    .have aN:(p.Kind==1)=false:=by simpa using ad
     have aR:(p.Kind==3)=false:=by simpa using aI
     have bW:(p.Kind==4)=false:=by simpa using bc
     have aU:(p.Kind==2)=false:=by simpa using ae
     simp[aN,aR,bW,aU,ad,aI,bc,ae]
theorem Zt (p:cG):EW p=some (ey p:Int):=by
 unfold EW;exact Zs p (EV p) λ_=>rfl
theorem Zu (p:cG):Fk p=some (ey p:Int):=by
 unfold Fk;exact Zs p (Fj p) λ_=>rfl
def xV:axt->Nat->Bool
 |[],k=>k==0
 |p::r,k=> !(k==0)&&xV r (k+ey p-1)
def e8:axt->Nat->Option Nat
 |[],0=>some 0
 |[],_+1=>none
 |_::_,0=>some 0
 |p::r,k+1=>(e8 r (k+ey p)).map (·+1)
theorem zX (l:axt):e8 l 0=some 0:=by cases l<;>rfl
theorem rE {p:cG} {r:axt} {a k:Nat}:e8 (p::r) (a+1)=some k↔∃c_,e8 r (a+ey p)=some c_/\k=c_+1:=by
 simp only[e8,map_eq_some_iff];constructor
 .rintro⟨c_,h,rfl⟩;exact⟨c_,h,rfl⟩
 .rintro⟨c_,h,rfl⟩;exact⟨c_,h,rfl⟩
theorem uI:∀{l:axt} {a k:Nat},e8 l a=some k->a<=k/\k<=l.length
 |[],0,k,h=>by simp only[e8,some.injEq]at h;subst h;simp
 |[],a+1,k,h=>by simp[e8]at h
 |_::_,0,k,h=>by simp only[e8,some.injEq]at h;subst h;simp
 |p::r,a+1,k,h=>by
  obtain⟨c_,bB,rfl⟩:=rE.1 h;have:=uI bB;simp only[List.length_cons];omega
theorem Rp:∀(l:axt) (k:Nat),xV l k=(e8 l k==some l.length)
 |[],0=>rfl
 |[],k+1=>rfl
 |p::r,0=>rfl
 |p::r,k+1=>by
  have e:k+1+ey p-1=k+ey p:=by omega
  simp only[xV,e,Rp r (k+ey p)];have ga:(k+1==0)=false:=rfl;rw[ga];simp only[Bool.not_false,Bool.true_and,e8];cases e8 r (k+ey p)with
  |none=>rfl
  |some n=>simp
theorem CW:∀{l:axt} {a b k:Nat},e8 l (a+b)=some k->∃bX cN,e8 l a=some bX/\e8 (l.drop bX) b=some cN/\k=bX+cN
 |l,0,b,k,h=>⟨0,k,zX l,by simpa using h,by omega⟩
 |[],a+1,b,k,h=>by rw[show a+1+b=(a+b)+1 by omega]at h;simp[e8]at h
 |p::r,a+1,b,k,h=>by
  rw[show a+1+b=(a+b)+1 by omega]at h;obtain⟨c_,bB,rfl⟩:=rE.1 h;rw[show a+b+ey p=(a+ey p)+b by omega]at bB;obtain⟨bX,cN,ad,ae,rfl⟩:=CW bB;exact⟨bX+1,cN,rE.2 ⟨bX,ad,rfl⟩,by simpa using ae,by omega⟩
theorem Zv:∀{l:axt} {a k:Nat},e8 l a=some k->∀i,i<k->∃m,1<=m/\e8 (l.drop i) m=some (k-i)
 |[],0,k,h,i,ag=>by simp only[e8,some.injEq]at h;omega
 |[],a+1,k,h,i,ag=>by simp[e8]at h
 |_::_,0,k,h,i,ag=>by simp only[e8,some.injEq]at h;omega
 |p::r,a+1,k,h,i,ag=>by
  cases i with
  |zero=>exact⟨a+1,by omega,by simpa using h⟩
  |succ i=>
   obtain⟨c_,bB,rfl⟩:=rE.1 h;obtain⟨m,ad,ae⟩:=Zv bB i (by omega);exact⟨m,ad,by simp only[List.drop_succ_cons];rw[ae];congr 1;omega⟩
theorem aqz {l:axt} {a k i:Nat} (h:e8 l a=some k) (ag:i<k):∃e,e8 (l.drop i) 1=some e/\i+e<=k/\1<=e:=by
 obtain⟨m,ad,ae⟩:=Zv h i ag;obtain⟨m,rfl⟩:∃j,m=1+j:=⟨m-1,by omega⟩
 obtain⟨bX,cN,aI,bc,bY⟩:=CW ae;have:=uI aI;exact⟨bX,aI,by omega,by omega⟩
theorem Rq {k a:Nat} (au:1<=k) (oS:k<=100000000) (bl:a<=2):i64.wrap ((k:Int)+i64.wrap ((a:Int)-1))=((k+a-1:Nat):Int):=by
 rw[fk ((a:Int)-1) (by omega),fk _ (by omega)];omega
theorem aqA (e:axt) (he:e.length<=1048576):Ir e=some ((decide (1<=e.length)&&decide (e.length<=20))&&xV e 1):=by
 unfold Ir;by_cases hm:1<=e.length/\e.length<=20
 .have d1:(((e.length:Int)==0)||decide ((20:Int)<(e.length:Int)))=false:=by
   rw[Bool.or_eq_false_iff,beq_eq_false_iff_ne,decide_eq_false_iff_not];omega
  have d2:(decide (1<=e.length)&&decide (e.length<=20))=true:=by simp;omega
  rw[d1,d2,cond_false,Bool.true_and];have key:∀i,i<=e.length->∀(k:Nat) m,k<=1+2*i->e.length-i<m->Bb e m (k:Int) (i:Int)=some (xV (e.drop i) k):=by
   refine down e.length ?_ ?_
   .intro k m _ hm;obtain⟨m,rfl⟩:∃j,m=j+1:=⟨m-1,by omega⟩
    simp only[Bb,NO];rw[eL (Nat.le_refl _),List.drop_of_length_le (Nat.le_refl _),CU];rfl
   .intro i ag ih k m au hm;obtain⟨m,rfl⟩:∃j,m=j+1:=⟨m-1,by omega⟩
    simp only[Bb,NO];rw[el ag,dM _ i ag,d_ i _ ag (by omega),drop_cons e i ag,CU];simp only[cond_true,bind_some,Zt,xV];by_cases bb:k=0
    .subst bb;rfl
    .have ab:(k==0)=false:=by simpa using bb
     have bl:=CV e[i];rw[ab,Rq (by omega) (by omega) bl,ih _ m (by omega) (by omega)];simp only[cond_false,Bool.not_false,Bool.true_and]
  refine fa (e.length+1) λm hm=>?_;have:=key 0 (by omega) 1 m (by omega) (by omega);simpa using this
 .have d1:(((e.length:Int)==0)||decide ((20:Int)<(e.length:Int)))=true:=by
   by_cases h:e.length=0
   .simp[h]
   .have:decide ((20:Int)<(e.length:Int))=true:=by simp;omega
    rw[this,Bool.or_true]
  have d2:(decide (1<=e.length)&&decide (e.length<=20))=false:=by
   rw[Bool.and_eq_false_iff,decide_eq_false_iff_not,decide_eq_false_iff_not];omega
  rw[d1,d2];rfl
def s5 (i:Nat):Option Nat->Int
 |none=> -1
 |some n=>((i+n:Nat):Int)
theorem Zw (d:a6) (al:d.Body.length<=1048576) (i0:Nat) (bb:i0<=d.Body.length):Fl d (i0:Int)=some (s5 i0 (e8 (d.Body.drop i0) 1)):=by
 unfold Fl;have key:∀i,i<=d.Body.length->∀(k:Nat) m,k<=1+2*i->d.Body.length-i<m->BS d m (i:Int) (k:Int)=some (s5 i (e8 (d.Body.drop i) k)):=by
  refine down d.Body.length ?_ ?_
  .intro k m _ hm;obtain⟨m,rfl⟩:∃j,m=j+1:=⟨m-1,by omega⟩
   simp only[BS,OC];rw[List.drop_of_length_le (Nat.le_refl _)];cases k with
   |zero=>rw[zS];simp[e8,s5]
   |succ k=>
    rw[zO (succ_pos k)];have:decide ((d.Body.length:Int)<=(d.Body.length:Int))=true:=by simp
    rw[this];rfl
  .intro i ag ih k m au hm;obtain⟨m,rfl⟩:∃j,m=j+1:=⟨m-1,by omega⟩
   simp only[BS,OC];cases k with
   |zero=>rw[zS,zX];simp[s5]
   |succ k=>
    have d1:decide ((d.Body.length:Int)<=(i:Int))=false:=by simp;omega
    rw[zO (succ_pos k),d1,dM _ i ag,d_ i _ ag (by omega),drop_cons _ i ag];simp only[cond_true,cond_false,bind_some,Zu];have bl:=CV d.Body[i];rw[Rq (by omega) (by omega) bl,ih _ m (by omega) (by omega),show k+1+ey d.Body[i]-1=k+ey d.Body[i] by omega];simp only[e8];cases e8 (d.Body.drop (i+1)) (k+ey d.Body[i])with
    |none=>rfl
    |some n=>simp only[map_some,s5];congr 2;omega
 refine fa (d.Body.length+1) λm hm=>?_;refine down d.Body.length (P:=λ_=>True) trivial (λ_ _ _=>trivial) 0 (zero_le _)|>λ_=>?_;have bX:=key i0 bb 1 m (by omega) (by omega);simpa using bX
theorem Zx (b:axt) (ab:b.length<=1048576) (i0 n:Nat) (h:e8 (b.drop i0) 1=some n):EY b (i0:Int)=some ((i0+n:Nat):Int):=by
 unfold EY;have bb:i0<b.length:=by
  have:=uI h;rw[List.length_drop]at this;omega
 have key:∀i,i<=b.length->∀(k n:Nat) m,k<=1+2*i->b.length-i<m->e8 (b.drop i) k=some n->Bc b m (i:Int) (k:Int)=some ((i+n:Nat):Int):=by
  refine down b.length ?_ ?_
  .intro k n m _ hm he;obtain⟨m,rfl⟩:∃j,m=j+1:=⟨m-1,by omega⟩
   simp only[Bc,NQ];rw[List.drop_of_length_le (Nat.le_refl _)]at he;cases k with
   |zero=>rw[zS];simp only[e8,some.injEq]at he;subst he;simp
   |succ k=>simp[e8]at he
  .intro i ag ih k n m au hm he;obtain⟨m,rfl⟩:∃j,m=j+1:=⟨m-1,by omega⟩
   simp only[Bc,NQ];cases k with
   |zero=>rw[zX]at he;cases he;rw[zS];simp
   |succ k=>
    rw[drop_cons _ i ag]at he;obtain⟨LZ,qc,rfl⟩:=rE.1 he;rw[zO (succ_pos k),dM _ i ag,d_ i _ ag (by omega)];simp only[cond_true,bind_some,Zt];have bl:=CV b[i];rw[Rq (by omega) (by omega) bl,show k+1+ey b[i]-1=k+ey b[i] by omega,ih _ LZ m (by omega) (by omega) qc];congr 2;omega
 refine fa (b.length+1) λm hm=>?_;have bX:=key i0 (by omega) 1 n m (by omega) (by omega) h;simpa using bX
def below (p:cG) (s:du):du:=⟨if p.Kind=4 then s.scope+1 else s.scope,p.Kind==1⟩
def gY:axt->axA->axA
 |[],_=>[]
 |_::_,[]=>[]
 |p::r,s::st=>s::gY r (List.replicate (ey p) (below p s)++st)
theorem aqB (l:axt):gY l []=[]:=by cases l<;>rfl
theorem zY:∀{l:axt} {st:axA} {k:Nat},e8 l st.length=some k->(gY l st).length=k
 |[],[],k,h=>by simp only[List.length_nil,e8,some.injEq]at h;subst h;rfl
 |[],s::st,k,h=>by simp[e8]at h
 |p::r,[],k,h=>by simp only[List.length_nil,e8,some.injEq]at h;subst h;rfl
 |p::r,s::st,k,h=>by
  obtain⟨c_,bB,rfl⟩:=rE.1 h;simp only[gY,List.length_cons];rw[zY (k:=c_) (by rw[List.length_append,List.length_replicate,Nat.add_comm];exact bB)]
theorem Rr:∀{l:axt} {s1 s2:axA} {k:Nat},e8 l s1.length=some k->gY l (s1++s2)=gY l s1++gY (l.drop k) s2
 |[],[],s2,k,h=>by simp only[List.length_nil,e8,some.injEq]at h;subst h;rfl
 |[],s::st,s2,k,h=>by simp[e8]at h
 |p::r,[],s2,k,h=>by simp only[List.length_nil,e8,some.injEq]at h;subst h;simp[gY]
 |p::r,s::st,s2,k,h=>by
  obtain⟨c_,bB,rfl⟩:=rE.1 h;simp only[gY,List.cons_append,List.drop_succ_cons];rw[<-List.append_assoc,Rr (k:=c_) (by rw[List.length_append,List.length_replicate,Nat.add_comm];exact bB)]
def patch (out:axA) (i:Nat) (new:axA):axA:=out.take i++(new++out.drop (i+new.length))
theorem aqC (out:axA) (i:Nat):patch out i []=out:=by simp[patch]
theorem Zy {out:axA} {i:Nat} {new:axA} (h:i+new.length<=out.length):(patch out i new).length=out.length:=by
 simp[patch];omega
theorem Zz {out:axA} {i j:Nat} {a b:axA} (bE:j=i+a.length) (h:i+a.length+b.length<=out.length):patch (patch out i a) j b=patch out i (a++b):=by
 subst bE;unfold patch;have aN:(out.take i).length=i:=by rw[List.length_take];omega
 have t1:(out.take i++(a++out.drop (i+a.length))).take (i+a.length)=out.take i++a:=by
  rw[<-List.append_assoc,List.take_left' (by rw[List.length_append,aN])]
 have t2:(out.take i++(a++out.drop (i+a.length))).drop (i+a.length+b.length)=out.drop (i+a.length+b.length):=by
  rw[<-List.append_assoc,<-List.drop_drop,List.drop_left' (by rw[List.length_append,aN]),List.drop_drop]
 rw[t1,t2];simp only[List.append_assoc,List.length_append,Nat.add_assoc]
theorem aqD {out:axA} {i:Nat} {s:du} (h:i<out.length):out.set i s=patch out i [s]:=by
 unfold patch;apply List.ext_getElem?;intro j;rw[List.getElem?_set];rcases Nat.lt_trichotomy i j with KF|KF|KF
 .rw[if_neg (by omega),List.getElem?_append_right (by simp;omega)];have aN:(out.take i).length=i:=by simp;omega
  rw[aN];obtain⟨d,rfl⟩:∃d,j=i+(d+1):=⟨j-i-1,by omega⟩
  rw[show i+(d+1)-i=d+1 by omega];simp only[List.singleton_append,List.getElem?_cons_succ,List.length_singleton,List.getElem?_drop];congr 1;omega
 .subst KF;rw[if_pos rfl,if_pos h,List.getElem?_append_right (by simp;omega)];have aN:(out.take i).length=i:=by simp;omega
  rw[aN];simp
 .rw[if_neg (by omega),List.getElem?_append_left (by simp;omega),List.getElem?_take,if_pos KF]
theorem aqE (n:Int) (h:0<=n) (ae:n<=1000000):i64.wrap (n+1)=n+1:=fk _ (by omega)
theorem ZA {rec:Int->du->axA->a6->Option (Int×axA)} {d:a6} {n:Nat} (al:d.Body.length<=1048576)
  (KG:∀(at_ k:Nat) (s:du) (out:axA),out.length=d.Body.length->e8 (d.Body.drop at_) 1=some k->k<=n->0<=s.scope->s.scope+k<=1000000->
   rec (at_:Int) s out d=some (((at_+k:Nat):Int),patch out at_ (gY (d.Body.drop at_) [s])))
  (dU:Int) (p:cG) (f:Nat) (bF:f<=2):∀(c j at_ k:Nat) (out:axA) (m:Nat),j+c=f->c<m->out.length=d.Body.length->e8 (d.Body.drop at_) c=some k->k<=n->0<=dU->dU+k<=1000000->
   zd rec d dU p (f:Int) m out (at_:Int) (j:Int)=some (((at_+k:Nat):Int),patch out at_ (gY (d.Body.drop at_) (List.replicate c ⟨dU,p.Kind==1⟩)))
 |0,j,at_,k,out,m,bE,hm,bH,he,au,bb,ad=>by
  obtain⟨m,rfl⟩:∃i,m=i+1:=⟨m-1,by omega⟩
  rw[zX]at he;cases he;simp only[zd,OD];rw[eL (by omega)];simp[aqB,aqC]
 |c+1,j,at_,k,out,m,bE,hm,bH,he,au,bb,ad=>by
  obtain⟨m,rfl⟩:∃i,m=i+1:=⟨m-1,by omega⟩
  rw[Nat.add_comm c 1]at he;obtain⟨bX,cN,aN,aU,rfl⟩:=CW he;have hP:=uI aN;have l2:=uI aU;rw[List.length_drop]at hP;rw[List.drop_drop,List.length_drop]at l2;have hlen:(gY (d.Body.drop at_) [⟨dU,p.Kind==1⟩]).length=bX:=zY (st:=[_]) aN;simp only[zd,OD];rw[el (by omega),KG at_ bX _ out bH aN (by omega) bb (by show dU+(bX:Int)<=_;omega),d_ j f (by omega) (by omega)];simp only[cond_true,bind_some];have fA:(patch out at_ (gY (d.Body.drop at_) [⟨dU,p.Kind==1⟩])).length=d.Body.length:=by
   rw[Zy (by rw[hlen];omega),bH]
  rw[List.drop_drop]at aU;rw[ZA al KG dU p f bF c (j+1) (at_+bX) cN _ m (by omega) (by omega) fA aU (by omega) bb (by omega)];have aqF:(gY (d.Body.drop (at_+bX)) (List.replicate c ⟨dU,p.Kind==1⟩)).length=cN:=zY (by rw[List.length_replicate];exact aU);have aqG:gY (d.Body.drop at_) (List.replicate (c+1) ⟨dU,p.Kind==1⟩)=gY (d.Body.drop at_) [⟨dU,p.Kind==1⟩]++gY (d.Body.drop (at_+bX)) (List.replicate c ⟨dU,p.Kind==1⟩):=by
   rw[List.replicate_succ,<-List.singleton_append,Rr (k:=bX) (s1:=[_]) aN,List.drop_drop]
  rw[aqG,Zz (by rw[hlen]) (by rw[hlen,aqF];omega),Nat.add_assoc]
theorem ZB (d:a6) (al:d.Body.length<=1048576):∀(n at_ k:Nat) (s:du) (out:axA),out.length=d.Body.length->e8 (d.Body.drop at_) 1=some k->k<=n->0<=s.scope->s.scope+k<=1000000->
  ze n (at_:Int) s out d=some (((at_+k:Nat):Int),patch out at_ (gY (d.Body.drop at_) [s]))
 |0,at_,k,s,out,bH,he,au,bb,ad=>by have:=uI he;omega
 |n+1,at_,k,s,out,bH,he,au,bb,ad=>by
  have l:=uI he;rw[List.length_drop]at l;have ag:at_<d.Body.length:=by omega
  rw[drop_cons _ at_ ag]at he⊢;obtain⟨c_,qc,rfl⟩:=rE.1 he;simp only[Nat.zero_add]at qc;have bF:=CV d.Body[at_];have aqH:=ZA (n:=n) al (ZB d al n) (below d.Body[at_] s).scope d.Body[at_] (ey d.Body[at_]) bF (ey d.Body[at_]) 0 (at_+1) c_ (patch out at_ [s]);have hlen:(gY (d.Body.drop (at_+1)) (List.replicate (ey d.Body[at_]) (below d.Body[at_] s)++[])).length=c_:=by
   rw[List.append_nil];exact zY (by rw[List.length_replicate];exact qc)
  have aqI:(at_+1+c_:Nat)=at_+(c_+1):=by omega
  have ab:0<=(below d.Body[at_] s).scope/\(below d.Body[at_] s).scope+c_<=1000000:=by
   unfold below;simp only;split<;>omega
  have key:(b6 λm=>zd (ze n) d (below d.Body[at_] s).scope d.Body[at_] ((ey d.Body[at_]:Nat):Int) m (List.set out (Int.toNat (at_:Int)) s) (i64.wrap ((at_:Int)+1)) 0)=
    some (((at_+(c_+1):Nat):Int),patch out at_ (gY (d.Body[at_]::d.Body.drop (at_+1)) [s])):=by
   refine fa (ey d.Body[at_]+1) λm hm=>?_;rw[Int.toNat_natCast,aqD (by omega),d_ at_ _ ag (by omega)];have h:=aqH m (by omega) (by omega) (by rw[Zy (by simp;omega),bH]) qc (by omega) ab.1 ab.2;rw[show((0:Nat):Int)=0 from rfl]at h;rw[h,aqI];congr 2;have aqJ:(gY (d.Body.drop (at_+1)) (List.replicate (ey d.Body[at_]) ⟨(below d.Body[at_] s).scope,d.Body[at_].Kind==1⟩)).length=c_:=zY (by rw[List.length_replicate];exact qc);rw[Zz (i:=at_) (a:=[s]) (j:=at_+1) rfl (by rw[aqJ,List.length_singleton];omega)];simp only[gY,List.append_nil,List.singleton_append];rfl
  simp only[ze,OE];rw[dM out at_ (by omega),dM _ at_ ag];simp only[bind_some,I4,Zu];by_cases bc:d.Body[at_].Kind=4
  .have e:(d.Body[at_].Kind==4)=true:=by simpa using bc
   have aU:(below d.Body[at_] s).scope=s.scope+1:=by simp[below,bc]
   rw[e,cond_true,aqE s.scope bb (by omega),<-aU];exact key
  .have e:(d.Body[at_].Kind==4)=false:=by simpa using bc
   have aU:(below d.Body[at_] s).scope=s.scope:=by simp[below,bc]
   rw[e,cond_false];conv=>lhs;rw[show s.scope=(below d.Body[at_] s).scope from aU.symm]
   exact key
theorem ZC (d:a6) (al:d.Body.length<=1048576) (aa:e8 d.Body 1=some d.Body.length) (bb:0<=d.ej) (ad:d.ej+d.Body.length<=1000000):
  BT d=some (gY d.Body [⟨d.ej,false⟩]):=by
 unfold BT;rw[s0 16 al (by decide)];simp only[bind_some];have hlen:(gY d.Body [⟨d.ej,false⟩]).length=d.Body.length:=zY (st:=[_]) aa;have:I5 0 ⟨d.ej,false⟩ (List.replicate (Int.toNat (d.Body.length:Int)) ⟨0,false⟩) d=some ((d.Body.length:Int),gY d.Body [⟨d.ej,false⟩]):=by
  unfold I5;refine fa d.Body.length λm hm=>?_;have:=ZB d al m 0 d.Body.length ⟨d.ej,false⟩ (List.replicate (Int.toNat (d.Body.length:Int)) ⟨0,false⟩) (by simp) (by simpa using aa) hm bb ad;rw[show((0:Nat):Int)=0 from rfl]at this;rw[this,Nat.zero_add,List.drop_zero];congr 2;unfold patch;rw[Nat.zero_add,hlen,List.drop_of_length_le (by simp)];simp
 rw[this];rfl
def Rs (l:axt) (q:Nat):Bool:=match e8 l 1 with
 |some e=>decide (q<e)
 |none=>false
def pX:axt->Nat->Nat
 |[],_=>0
 |_::_,0=>0
 |p::r,q+1=>(if p.Kind=4/\Rs (p::r) (q+1)=true then 1 else 0)+pX r q
theorem aqK (l:axt):pX l 0=0:=by cases l<;>rfl
theorem ZD:∀(l:axt) (q:Nat),pX l q<=q
 |[],q=>by simp[pX]
 |_::_,0=>by simp[pX]
 |p::r,q+1=>by
  have:=ZD r q;simp only[pX];split<;>omega
theorem aqL (d:a6) (al:d.Body.length<=1048576) (aa:e8 d.Body 1=some d.Body.length) (bb: -1000000<=d.ej/\d.ej<=1000000) (q:Nat) (cx:q<d.Body.length):
  vg d (q:Int)=some (d.ej+(pX d.Body q:Nat)):=by
 unfold vg;have key:∀i,i<=q->∀(c:Int) m,-1000000<=c->c<=1000000+i->q-i<m->yW d (q:Int) m c (i:Int)=some (c+(pX (d.Body.drop i) (q-i):Nat)):=by
  refine down q ?_ ?_
  .intro c m _ _ hm;obtain⟨m,rfl⟩:∃j,m=j+1:=⟨m-1,by omega⟩
   simp only[yW,NR];rw[eL (Nat.le_refl _),Nat.sub_self,aqK];simp
  .intro i ag ih c m nd k4 hm;obtain⟨m,rfl⟩:∃j,m=j+1:=⟨m-1,by omega⟩
   simp only[yW,NR];have v_:i<d.Body.length:=by omega
   rw[el ag,dM _ i v_];simp only[cond_true,bind_some,EZ];obtain⟨e,D6,T0,AN⟩:=aqz aa v_;rw[Zx _ al i e D6,d_ i q ag (by omega)];simp only[bind_some];have aqM:pX (d.Body.drop i) (q-i)=(if d.Body[i].Kind=4/\q<i+e then 1 else 0)+pX (d.Body.drop (i+1)) (q-(i+1)):=by
    have ZE:=D6;rw[drop_cons _ i v_]at ZE⊢;rw[show q-i=(q-(i+1))+1 by omega];simp only[pX,Rs,ZE];congr 1;by_cases au:d.Body[i].Kind=4
    .by_cases wc:q<i+e
     .rw[if_pos ⟨au,by simp;omega⟩,if_pos ⟨au,wc⟩]
     .rw[if_neg (λh=>by simp at h;omega),if_neg (λh=>wc h.2)]
    .rw[if_neg (λh=>au h.1),if_neg (λh=>au h.1)]
   rw[aqM];by_cases au:d.Body[i].Kind=4
   .have s6:(d.Body[i].Kind==4)=true:=by simpa using au
    rw[s6,cond_true];by_cases wc:q<i+e
    .rw[el wc,cond_true,fk (c+1) (by omega),ih (c+1) m (by omega) (by omega) (by omega),if_pos ⟨au,wc⟩];congr 1;omega
    .rw[eL (by omega),cond_false,ih c m nd (by omega) (by omega),if_neg (λh=>wc h.2)];congr 1;omega
   .have s6:(d.Body[i].Kind==4)=false:=by simpa using au
    rw[s6,cond_false,ih c m nd (by omega) (by omega),if_neg (λh=>au h.1)];congr 1;omega
 refine fa (q+1) λm hm=>?_;have:=key 0 (by omega) d.ej m (by omega) (by omega) (by omega);simpa using this
def xW:axt->axA->Nat->Option du
 |_,[],_=>none
 |l,s::st,q=>match e8 l 1 with
  |none=>none
  |some k=>if q<k then some s else xW (l.drop k) st (q-k)
theorem ZF:∀(f:Nat) (r:axt) (b:du) (st:axA) (k q:Nat),e8 r f=some k->xW r (List.replicate f b++st) q=if q<k then some b else xW (r.drop k) st (q-k)
 |0,r,b,st,k,q,h=>by rw[zX]at h;cases h;simp
 |f+1,r,b,st,k,q,h=>by
  rw[Nat.add_comm f 1]at h;obtain⟨bX,cN,ad,ae,rfl⟩:=CW h;rw[List.replicate_succ,List.cons_append];simp only[xW,ad];by_cases cx:q<bX
  .rw[if_pos cx,if_pos (by omega)]
  .rw[if_neg cx,ZF f _ b st cN (q-bX) ae];by_cases ZG:q-bX<cN
   .rw[if_pos ZG,if_pos (by omega)]
   .rw[if_neg ZG,if_neg (by omega),List.drop_drop,Nat.sub_sub]
theorem ZH:∀(l:axt) (st:axA) (k:Nat),e8 l st.length=some k->∀q,q<k->∃s pl,xW l st q=some s/\(gY l st)[q]? =some pl/\pl.scope=s.scope+(pX l q:Nat)
 |[],[],k,h,q,cx=>by simp only[List.length_nil,e8,some.injEq]at h;omega
 |[],s::st,k,h,q,cx=>by simp[e8]at h
 |p::r,[],k,h,q,cx=>by simp only[List.length_nil,e8,some.injEq]at h;omega
 |p::r,s::st,k,h,q,cx=>by
  have bb:=h;obtain⟨c_,bB,rfl⟩:=rE.1 h;rw[List.length_cons,Nat.add_comm st.length 1]at bb;obtain⟨e,cN,he,oS,au⟩:=CW bb;obtain⟨hd,qc,rfl⟩:=rE.1 he;simp only[Nat.zero_add]at qc;cases q with
  |zero=>
   refine⟨s,s,?_,rfl,?_⟩
   .simp only[xW,he];rw[if_pos (by omega)]
   .simp[pX]
  |succ q=>
   have aC:e8 r (List.replicate (ey p) (below p s)++st).length=some c_:=by
    rw[List.length_append,List.length_replicate,Nat.add_comm];exact bB
   obtain⟨aH,pl,ad,ae,aI⟩:=ZH r _ c_ aC q (by omega);rw[ZF _ _ _ _ hd q qc]at ad;simp only[gY,List.getElem?_cons_succ,xW,he,pX,Rs,decide_eq_true_eq];by_cases wc:q<hd
   .rw[if_pos wc]at ad;simp only[some.injEq]at ad;subst ad;refine⟨s,pl,by rw[if_pos (by omega)],ae,?_⟩;rw[aI];by_cases KH:p.Kind=4
    .rw[if_pos ⟨KH,by omega⟩];simp only[below,if_pos KH];omega
    .rw[if_neg (λh=>KH h.1)];simp only[below,if_neg KH];omega
   .rw[if_neg wc]at ad;refine⟨aH,pl,?_,ae,?_⟩
    .rw[if_neg (by omega),List.drop_succ_cons,show q+1-(hd+1)=q-hd by omega];exact ad
    .rw[aI,if_neg (λh=>by omega)];omega
theorem aqN {p:cG} (h:ey p=0):(p.Kind==1)=false:=by
 unfold ey at h;split at h
 .omega
 .rename_i aS;simp only[beq_eq_false_iff_ne];exact λe=>aS (.inl e)
theorem aqO {p:cG} (h:ey p=2):(p.Kind==1)=false:=by
 unfold ey at h;split at h
 .omega
 .rename_i aS;simp only[beq_eq_false_iff_ne];exact λe=>aS (.inl e)
def Rt (b:axt):Nat->Bool
 |0=>false
 |q+1=>match b[q]? with
  |some p=>p.Kind==1
  |none=>false
theorem ZI:∀(l:axt) (st:axA),(∀s∈st.tail,s.behind=false)->∀(q:Nat) (pl:du),(gY l st)[q]? =some pl->
  pl.behind=match q with
   |0=>match st with
    |s::_=>s.behind
    |[]=>false
   |q+1=>match l[q]? with
    |some p=>p.Kind==1
    |none=>false
 |[],st,_,q,pl,h=>by simp[gY]at h
 |p::r,[],_,q,pl,h=>by simp[gY]at h
 |p::r,s::st,CX,q,pl,h=>by
  cases q with
  |zero=>simp only[gY,List.getElem?_cons_zero,some.injEq]at h;subst h;rfl
  |succ q=>
   simp only[gY,List.getElem?_cons_succ]at h;have aqP:∀aH∈(List.replicate (ey p) (below p s)++st).tail,aH.behind=false:=by
    intro aH fW;have bF:=CV p;rcases(by omega:ey p=0\/ey p=1\/ey p=2)with bF|bF|bF
    .rw[bF]at fW;simp only[List.replicate_zero,List.nil_append]at fW;exact CX aH (by simpa using List.mem_of_mem_tail fW)
    .rw[bF]at fW;simp only[List.replicate_succ,List.replicate_zero,List.cons_append,List.nil_append,List.tail_cons]at fW;exact CX aH (by simpa using fW)
    .rw[bF]at fW;simp only[List.replicate_succ,List.replicate_zero,List.cons_append,List.nil_append,List.tail_cons,List.mem_cons]at fW;rcases fW with rfl|fW
     .exact aqO bF
     .exact CX aH (by simpa using fW)
   have ih:=ZI r _ aqP q pl h;rw[ih];cases q with
   |succ q=>rfl
   |zero=>
    simp only[List.getElem?_cons_zero];have bF:=CV p;rcases(by omega:ey p=0\/ey p=1\/ey p=2)with bF|bF|bF
    .rw[bF,aqN bF];simp only[List.replicate_zero,List.nil_append];cases st with
     |nil=>rfl
     |cons s2 st=>exact CX s2 (by simp)
    .rw[bF];rfl
    .rw[bF];rfl
theorem aqQ (l:axt) (s:du) (aa:s.behind=false) (q:Nat) (pl:du) (h:(gY l [s])[q]? =some pl):pl.behind=Rt l q:=by
 rw[ZI l [s] (λs aa=>by simp at aa) q pl h];cases q with
 |zero=>exact aa
 |succ q=>rfl
end Go.lZ
