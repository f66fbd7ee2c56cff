/- Part of a proof that a law returns true for every input. No condition. -/
import Derived.Test.YtmaepbgkcmjcjajGreatDoorUV0x
import Derived.Lib.ParseIntB
import Derived.Lib.ItoaNum
import Derived.Test.YtmaepbgkcmjcjajGreatDoorP3
namespace Go.ld
open Option Go.IntKind Nat Or
open Go Go.ep
def HX:Lib.NumEnd Nat:=Lib.parseUintB 64 []
theorem aaW:∀(d:azq) (n k:Nat),n<10^k->k+d.length<=18->Lib.parseUintM 18446744073709551615 n d=if d.all gA=true then .ok (l5 n d)else HX
 |[],n,k,_,_=>by simp[Lib.parseUintM,l5]
 |c::r,n,k,aX,aw=>by
  simp only[List.length_cons]at aw;have uo:n<10^17:=Nat.lt_of_lt_of_le aX (Nat.pow_le_pow_right (by omega) (by omega));simp only[Lib.parseUintM];have mC:(c::r).all gA=(gA c&&r.all gA):=rfl;by_cases au:gA c=true
  .have DZ:=au;simp only[gA,Bool.and_eq_true,decide_eq_true_eq]at DZ;have S7:(c::r).all gA=r.all gA:=by rw[mC,au];rfl
   rw[if_pos DZ,if_neg (by omega),if_neg (by omega),S7,show n*10+(c.toNat-48)=10*n+(c.toNat-48) by omega,aaW r _ (k+1) (by rw[Nat.pow_succ];omega) (by omega)];rfl
  .have DZ:¬(48<=c.toNat/\c.toNat<=57):=λh=>au (by simp only[gA,Bool.and_eq_true,decide_eq_true_eq];exact h);have atq:gA c=false:=by simpa using au
   have S7:(c::r).all gA=false:=by rw[mC,atq];rfl
   rw[if_neg DZ,S7];simp;rfl
theorem atr (n x:Nat) (aX:1<=n) (ao:x<=9):Lib.decDigits (10*n+x)=Lib.decDigits n++[UInt8.ofNat (48+x)]:=by
 rw[Lib.decDigits,dif_neg (by omega),show(10*n+x)/10=n by omega,show(10*n+x)%10=x by omega]
theorem aaX:∀(d:azq) (n:Nat),1<=n->d.all gA=true->Lib.decDigits (l5 n d)=Lib.decDigits n++d
 |[],n,_,_=>by simp[l5]
 |c::r,n,aX,aq=>by
  simp only[List.all_cons,Bool.and_eq_true]at aq;have au:=aq.1;have e:=HW c aq.1;simp only[gA,Bool.and_eq_true,decide_eq_true_eq]at au;show Lib.decDigits (l5 (10*n+(c.toNat-48)) r)=_;rw[aaX r _ (by omega) aq.2,atr n (c.toNat-48) aX (by omega),e];simp
theorem S8 (u:Nat):∃c t,Lib.decDigits u=c::t/\gA c=true/\(1<=u->c≠48):=by
 induction u using Nat.strongRecOn with
 |_ u ih=>
  rw[Lib.decDigits];by_cases h:u<10
  .rw[dif_pos h];refine⟨_,_,rfl,?_,?_⟩
   .have:∀i:Fin 10,gA (UInt8.ofNat (48+i.val))=true:=by decide
    exact this ⟨u,h⟩
   .have:∀i:Fin 10,1<=i.val->UInt8.ofNat (48+i.val)≠48:=by decide
    exact this ⟨u,h⟩
  .rw[dif_neg h];obtain⟨c,t,ad,af,aG⟩:=ih (u/10) (by omega);exact⟨c,t++_,by rw[ad];rfl,af,λ_=>aG (by omega)⟩
theorem aaY (c:UInt8) (r:azq) (aq:(c::r).all gA=true):Lib.decDigits (kJ (c::r))=c::r↔(c≠48\/r=[]):=by
 simp only[List.all_cons,Bool.and_eq_true]at aq;have au:=aq.1;have e:=HW c aq.1;simp only[gA,Bool.and_eq_true,decide_eq_true_eq]at au;have aJ:kJ (c::r)=l5 (c.toNat-48) r:=by
  show l5 (10*0+(c.toNat-48)) r=_;rw[Nat.mul_zero,Nat.zero_add]
 rw[aJ];by_cases mT:c=48
 .subst mT;constructor
  .intro h;cases r with
   |nil=>exact .inr rfl
   |cons x t=>
    exfalso;obtain⟨xM,O2,ad,af,aG⟩:=S8 (l5 ((48:UInt8).toNat-48) (x::t));rw[ad]at h;injection h with bh b6;by_cases dt:1<=l5 ((48:UInt8).toNat-48) (x::t)
    .exact aG dt bh
    .have a_:l5 ((48:UInt8).toNat-48) (x::t)=0:=by omega
     rw[a_,Lib.decDigits,dif_pos (by omega)]at ad;injection ad with _ dj;rw[<-dj]at b6;cases b6
  .rintro(h|rfl)
   .exact(h rfl).elim
   .show Lib.decDigits 0=_;rw[Lib.decDigits,dif_pos (by omega)];rfl
 .have ad:1<=c.toNat-48:=by
   rcases Nat.lt_or_ge 48 c.toNat with h|h
   .omega
   .exact(mT (UInt8.toNat_inj.1 (by rw[show(48:UInt8).toNat=48 from rfl];omega))).elim
  refine⟨λ_=>.inl mT,λ_=>?_⟩;rw[aaX r _ ad aq.2,Lib.decDigits,dif_pos (by omega),e];rfl
theorem S9 (d:azq) (h:d.all gA=true) (hl:d.length<=18):kJ d<10^18:=by
 have:=aaS d 0 0 h (by omega);have af:(10:Nat)^(0+d.length)<=10^18:=Nat.pow_le_pow_right (by omega) (by omega);exact Nat.lt_of_lt_of_le this af
theorem S_ (d:azq) (hl:d.length<=18):Lib.parseUintB 64 d=if d≠[]/\d.all gA=true then .ok (kJ d)else HX:=by
 unfold Lib.parseUintB;by_cases h:d=[]
 .rw[if_pos h,if_neg (λbI=>bI.1 h)];rfl
 .rw[if_neg h,show(2^64-1:Nat)=18446744073709551615 from rfl,aaW d 0 0 (by omega) (by omega)];by_cases aq:d.all gA=true
  .rw[if_pos aq,if_pos ⟨h,aq⟩];rfl
  .rw[if_neg aq,if_neg (λbI=>aq bI.2)]
def vk (s:azq):Int×Bool:=match Lib.parseIntB 64 s with
 | .ok v=>if Lib.itoa v=s then(v,true)else(0,false)
 |_=>(0,false)
theorem Ta {k:Nat} {d:azq} (h:¬(d≠[]/\d.all gA=true)):o3 k d=(0,false):=by
 unfold o3;rw[if_neg (λbI=>h ⟨bI.1,bI.2.2.1⟩)]
theorem aaZ {k:Nat} {d:azq} (ad:d.head? =some 48) (af:1<d.length+k):o3 k d=(0,false):=by
 unfold o3;rw[if_neg (λbI=>bI.2.2.2 ⟨ad,af⟩)]
theorem aa0 {k:Nat} {d:azq} (h:d≠[]/\d.length<=18/\d.all gA=true/\¬(d.head? =some 48/\1<d.length+k)):o3 k d=(if k=1 then-(kJ d:Int)else kJ d,true):=by
 unfold o3;rw[if_pos h]
theorem anh (s:azq) (h:(if s.head? =some 45 then s.tail else s).length<=18):Lib.parseIntB 64 s≠.range/\vk s=jv s:=by
 unfold vk jv;cases s with
 |nil=>exact⟨by simp[Lib.parseIntB],by simp[Lib.parseIntB,o3]⟩
 |cons c r=>
  by_cases Tb:c=45
  .subst Tb;rw[if_pos (show(45::r).head? =some 45 from rfl)]at h⊢;simp only[List.tail_cons]at h⊢;have yz:(45:UInt8).toNat=45:=rfl;simp only[Lib.parseIntB,yz,or_true,if_true];rw[S_ r h];by_cases aR:r≠[]/\r.all gA=true
   .rw[if_pos aR];have eQ:=S9 r aR.2 h;have zl:(2:Nat)^(64-1)=9223372036854775808:=by decide
    simp only[not_true,false_and,if_false,zl,true_and];rw[if_neg (by omega)];refine⟨by simp,?_⟩;simp only;obtain⟨x,t,rfl⟩:∃x t,r=x::t:=by
     cases r with
     |nil=>exact(aR.1 rfl).elim
     |cons x t=>exact⟨x,t,rfl⟩
    have HY:=aaY x t aR.2;by_cases mT:x=48
    .rw[aaZ (by rw[mT];rfl) (by simp)];rw[if_neg];intro ai;by_cases a_:kJ (x::t)=0
     .rw[a_]at ai;have i6:Lib.decDigits 0=[48]:=by rw[Lib.decDigits,dif_pos (by omega)];rfl
      simp[Lib.itoa,i6]at ai
     .unfold Lib.itoa at ai;rw[if_pos (by omega)]at ai;injection ai with _ ai;rw[show(-(kJ (x::t):Int)).natAbs=kJ (x::t) by omega]at ai;obtain⟨xM,O2,ia,gX,jm⟩:=S8 (kJ (x::t));rw[ia]at ai;injection ai with E9 _;exact jm (by omega) (E9.trans mT)
    .have Ov:1<=kJ (x::t):=by
      have:=(HY.2 (.inl mT))
      rcases eq_zero_or_pos (kJ (x::t))with a_|a_
      .rw[a_,Lib.decDigits,dif_pos (by omega)]at this;injection this with this _;exact(mT this.symm).elim
      .exact a_
     rw[aa0 ⟨by simp,h,aR.2,λbI=>mT (some.inj bI.1)⟩];rw[if_pos]
     .simp
     .unfold Lib.itoa;rw[if_pos (by omega),show(-(kJ (x::t):Int)).natAbs=kJ (x::t) by omega,HY.2 (.inl mT)]
   .rw[if_neg aR,Ta aR];exact⟨by simp[HX,Lib.parseUintB],rfl⟩
  .have jQ:¬((c::r).head? =some 45):=λe=>Tb (some.inj e);rw[if_neg jQ]at h⊢;have So:c.toNat≠45:=λe=>Tb (UInt8.toNat_inj.1 (by rw[show(45:UInt8).toNat=45 from rfl];exact e));have zl:(2:Nat)^(64-1)=9223372036854775808:=by decide
   by_cases aa1:c.toNat=43
   .simp only[Lib.parseIntB,aa1,true_or,if_true];have aa2:r.length<=18:=by simp at h;omega
    rw[S_ r aa2];have nQ:o3 0 (c::r)=(0,false):=Ta λbI=>by
     have:=bI.2;simp only[List.all_cons,Bool.and_eq_true]at this;have:=this.1;simp only[gA,Bool.and_eq_true,decide_eq_true_eq]at this;omega
    rw[nQ];by_cases aR:r≠[]/\r.all gA=true
    .rw[if_pos aR];have eQ:=S9 r aR.2 aa2;simp only[show¬((43:Nat)=45)from by decide,not_false_eq_true,true_and,false_and,if_false,zl];rw[if_neg (by omega)];refine⟨by simp,?_⟩;simp only;rw[if_neg];intro ai;unfold Lib.itoa at ai;rw[if_neg (by omega),Int.toNat_natCast]at ai;obtain⟨xM,O2,ia,gX,_⟩:=S8 (kJ r);rw[ia]at ai;injection ai with ai _;rw[ai]at gX;simp only[gA,Bool.and_eq_true,decide_eq_true_eq]at gX;omega
    .rw[if_neg aR];exact⟨by simp[HX,Lib.parseUintB],rfl⟩
   .simp only[Lib.parseIntB,aa1,So,_root_.or_self,if_false];rw[S_ (c::r) h];by_cases aR:(c::r)≠[]/\(c::r).all gA=true
    .rw[if_pos aR];have eQ:=S9 (c::r) aR.2 h;simp only[not_false_eq_true,true_and,false_and,if_false,zl];rw[if_neg (by omega)];refine⟨by simp,?_⟩;simp only;have HY:=aaY c r aR.2;have ats:Lib.itoa (kJ (c::r):Int)=Lib.decDigits (kJ (c::r)):=by
      unfold Lib.itoa;rw[if_neg (by omega),Int.toNat_natCast]
     rw[ats];by_cases HZ:c≠48\/r=[]
     .rw[if_pos (HY.2 HZ),aa0 ⟨by simp,h,aR.2,λbI=>by
       rcases HZ with ad|ad
       .exact ad (some.inj bI.1)
       .subst ad;simp at bI⟩]
      simp
     .have mT:c=48:=by
       by_cases q:c=48
       .exact q
       .exact(HZ (.inl q)).elim
      have eo:r≠[]:=λq=>HZ (.inr q);rw[if_neg (λbI=>HZ (HY.1 bI)),aaZ (by rw[mT];rfl) (by
       cases r with
       |nil=>exact(eo rfl).elim
       |cons x t=>simp)]
    .rw[if_neg aR,Ta aR];exact⟨by simp[HX,Lib.parseUintB],rfl⟩
theorem join_one (x s:azq):h1 [x] s=x:=by simp[h1,List.intercalate,List.intersperse]
theorem join_cons (x y:azq) (r:azp) (s:azq):h1 (x::y::r) s=x++(s++h1 (y::r) s):=by simp[h1,List.intercalate,List.intersperse]
theorem aa3 (s:azq):∀(l:azp) (y:azq),l≠[]->h1 (l++[y]) s=h1 l s++(s++y)
 |[],_,h=>(h rfl).elim
 |[x],y,_=>by rw[List.singleton_append,join_cons,join_one,join_one]
 |x::z::r,y,_=>by
  rw[List.cons_append,List.cons_append,join_cons,join_cons,<-List.cons_append,aa3 s (z::r) y (by simp)];simp only[List.append_assoc]
theorem H0 (c:UInt8) (k:Nat):∀l:azp,(∀x∈l,x.length<=k)->(h1 l [c]).length<=l.length*(k+1)
 |[],_=>by simp[h1,List.intercalate,List.intersperse]
 |[x],h=>by rw[join_one];have:=h x (by simp);simp only[List.length_cons,List.length_nil];omega
 |x::y::r,h=>by
  rw[join_cons];have ad:=h x (by simp);have af:=H0 c k (y::r) λz cd=>h z (by simp[cd]);simp only[List.length_append,List.length_cons,List.length_nil,Nat.add_mul]at af⊢;omega
theorem A1 (n:Nat) (h:n<100):rN (n:Int)=some (iQ n):=by
 unfold rN CX;first
 |(rw[if_pos ⟨by omega,by omega,rfl⟩];rfl)
 |(rw[if_pos ⟨by omega,by omega,rfl⟩]
   unfold GL iQ yp;rw[if_neg (by omega),Int.toNat_natCast];by_cases ad:n<10
   .rw[dif_pos ad,if_pos ad];rfl
   .unfold yp;rw[dif_neg ad,if_neg ad,dif_pos (by omega)];rfl)
theorem xf (n:Nat):(iQ n).length<=2:=by unfold iQ;split<;>simp
theorem att {α γ β:Type} {L:Nat->List γ->Int->Option β} (a:List α) (t:α->γ) (w:List γ) (hw:w.length=a.length) (E:List γ->Option β)
  (a_:∀m v,L (m+1) v (a.length:Int)=E v)
  (aa:∀i (h:i<a.length) m v,v.length=a.length->L (m+1) v (i:Int)=L m (v.set i (t a[i])) ((i+1:Nat):Int)):b3 (λm=>L m w 0)=E (a.map t):=by
 have key:∀i,i<=a.length->∀m,a.length-i<m->L m ((a.take i).map t++w.drop i) (i:Int)=E (a.map t):=by
  refine down a.length ?_ ?_
  .intro m hm;obtain⟨m,rfl⟩:∃j,m=j+1:=⟨m-1,by omega⟩
   rw[a_,List.take_length,List.drop_of_length_le (by omega),List.append_nil]
  .intro i ai ih m hm;obtain⟨m,rfl⟩:∃j,m=j+1:=⟨m-1,by omega⟩
   have e:((a.take i).map t).length=i:=by simp;omega
   rw[aa i ai m _ (by simp only[List.length_append,e,List.length_drop];omega),<-ih m (by omega)];congr 1;rw[List.set_append_right i _ (by rw[e];omega),e,Nat.sub_self,drop_cons w i (by omega),List.set_cons_zero,List.take_succ_eq_append_getElem ai,List.map_append];simp
 refine e5 (a.length+1) λm hm=>?_;have:=key 0 (by omega) m (by omega);simpa using this
def jV (n:Int):azq:=iQ n.toNat
theorem H2 (n:Int):(jV n).length<=2:=xf _
theorem atu {x:Int} (h:0<=x/\x<=63):rN x=some (jV x):=by
 have:=A1 x.toNat (by omega)
 rwa [Int.toNat_of_nonneg h.1]at this
theorem Tc (a:azs) (h:a.length<=64) (aJ:∀x∈a,0<=x/\x<=63):Ad a [44]=some (h1 (a.map jV) [44]):=by
 unfold Ad;rw[tI 16 (by omega) (by omega)];simp only[bind_some,Int.toNat_natCast];have bQ:strings_Join (a.map jV) [44]=some (h1 (a.map jV) [44]):=by
  unfold strings_Join;have:=H0 44 2 (a.map jV) λx ao=>by
   obtain⟨y,_,rfl⟩:=List.mem_map.1 ao;exact H2 y
  rw[List.length_map]at this;rw[if_pos ⟨by rw[List.length_map];omega,by omega⟩]
 rw[att (L:=CY a [44]) a jV (List.replicate a.length []) (by simp) (λv=>(strings_Join v [44]).bind λaY=>some aY) (λm v=>?_) (λi ai m v hl=>?_),bQ]
 .rfl
 .simp only[CY,Qz];rw[ei (Nat.le_refl _)];rfl
 .simp only[CY,Qz];rw[el ai,dX _ i ai,ek i _ ai (by omega),dX v i (by omega)];simp only[cond_true,bind_some];rw[atu (aJ _ (List.getElem_mem ai))];simp only[bind_some,Int.toNat_natCast]
def small (c:UInt8):Bool:=decide (97<=(c.toNat:Int))&&decide ((c.toNat:Int)<=122)
def digit (c:UInt8):Bool:=decide (48<=(c.toNat:Int))&&decide ((c.toNat:Int)<=57)
def hk (s:azq):Bool:=decide (s.length<=10)&&(match s with|[]=>false|c::r=>small c&&r.all λc=>small c||digit c)
theorem yL (s:azq):yf s=some (hk s):=by
 unfold yf;cases s with
 |nil=>rfl
 |cons c r=>
  have fY:((c::r)==([]:azq))=false:=rfl;rw[fY];simp only[cond_false];by_cases lq:10<(c::r).length
  .have:decide ((10:Int)<((c::r).length:Int))=true:=by simp at lq⊢;omega
   rw[this];have af:decide ((c::r).length<=10)=false:=by simp at lq⊢;omega
   simp only[hk,af];rfl
  .have:decide ((10:Int)<((c::r).length:Int))=false:=by simp at lq⊢;omega
   rw[this];have af:decide ((c::r).length<=10)=true:=by simp at lq⊢;omega
   rw[HR];simp only[cond_false,bind_some,F6];simp only[hk,af,Bool.true_and];show cond (!small c) _ _=_;cases aa:small c with
   |false=>rfl
   |true=>
    simp only[Bool.not_true,cond_false];rw[pQ (n:=(c::r).length) (λi=>some (((c::r).drop i).all λc=>small c||digit c))]
    .simp[aa]
    .intro m;simp only[F7,Pk];rw[ei (Nat.le_refl _)];simp
    .intro i ai m ih;simp only[F7,Pk];rw[el ai,dX _ i ai,ek i _ ai (by omega),ih,drop_cons _ i ai];simp only[cond_true,bind_some,F6,B7,List.all_cons];show cond (!small _) (cond (!digit _) _ _) _=_;cases small (c::r)[i]<;>cases digit (c::r)[i]<;>rfl
theorem Td (s:azq) (aa:s.length<=140737488355328):Gs s=some (hk s):=by
 unfold Gs;have bM:∀m,s.length-1<m->1<=s.length->yn s m ((1:Nat):Int)=some (((s.drop 1).all λc=>small c||digit c)&&(decide (1<=(s.length:Int))&&decide ((s.length:Int)<=10))):=by
  intro m hm ad;refine down s.length (P:=λi=>1<=i->∀m,s.length-i<m->yn s m (i:Int)=some (((s.drop i).all λc=>small c||digit c)&&(decide (1<=(s.length:Int))&&decide ((s.length:Int)<=10)))) ?_ ?_ 1 ad (Nat.le_refl _) m hm
  .intro _ m hm;obtain⟨k,rfl⟩:∃k,m=k+1:=⟨m-1,by omega⟩
   simp only[yn,Ki];rw[ei (Nat.le_refl _)];simp
  .intro i ai ih E9 m hm;obtain⟨k,rfl⟩:∃k,m=k+1:=⟨m-1,by omega⟩
   simp only[yn,Ki];rw[el ai,dX _ i ai,ek i _ ai (by omega),ih (by omega) k (by omega),drop_cons _ i ai];have e:((i:Int)==0)=false:=by simp;omega
   rw[e];simp only[cond_true,cond_false,bind_some,P6,List.all_cons];show cond (!small _) (cond (!digit _) _ _) _=_;cases small s[i]<;>cases digit s[i]<;>rfl
 refine e5 (s.length+1) λm hm=>?_;obtain⟨k,rfl⟩:∃k,m=k+1:=⟨m-1,by omega⟩
 simp only[yn,Ki];cases s with
 |nil=>rfl
 |cons c r=>
  have aw:=bM k (by simp at hm⊢;omega) (by simp);rw[show((1:Nat):Int)=1 from rfl]at aw;rw[AX (by simp),HR,as8,aw];have e:((0:Int)==0)=true:=rfl;rw[e];simp only[cond_true,hk];show cond (!small c) _ _=_;have ad:decide (1<=((c::r).length:Int))=true:=by simp;omega
  have af:decide (((c::r).length:Int)<=10)=decide ((c::r).length<=10):=by
   by_cases h:(c::r).length<=10<;>simp at h⊢<;>omega
  rw[ad,af];cases small c with
  |false=>simp
  |true=>simp[Bool.and_comm]
def vv (s:azq):Bool:=hk s&& !(s==[116,97,117])
theorem aa4 (s:azq):rA s=some (vv s):=by unfold rA;rw[yL];rfl
theorem aa5 (s:azq) (aa:s.length<=1048576):rJ s=some (vv s):=by unfold rJ;rw[Td s (by omega)];rfl
def tJ (ws:azp):Bool:=ws.all λw=>(jv w).2
def l6 (ws:azp):azs:=ws.map λw=>(jv w).1
def pS (x:Int):Bool:=decide (0<=x)&&decide (x<=63)
theorem aa6 (ws:azp) (h:ws.length<=1048577):KM ws=some (if tJ ws=true then(l6 ws,true)else([],false)):=by
 have key:∀i,i<=ws.length->∀m,ws.length-i<m->∀v:azs,v.length=i->
   CW ws m v (i:Int)=some (if tJ (ws.drop i)=true then(v++l6 (ws.drop i),true)else([],false)):=by
  refine down ws.length ?_ ?_
  .intro m hm v aJ;obtain⟨m,rfl⟩:∃j,m=j+1:=⟨m-1,by omega⟩
   simp only[CW,Qy];rw[ei (Nat.le_refl _),List.drop_length];simp[tJ,l6]
  .intro i ai ih m hm v aJ;obtain⟨m,rfl⟩:∃j,m=j+1:=⟨m-1,by omega⟩
   simp only[CW,Qy,KL];rw[el ai,cond_true,dX ws i ai,bind_some,bind_some,drop_cons ws i ai];simp only[tJ,l6,List.all_cons,List.map_cons];cases aq:(jv ws[i]).2
   .simp
   .simp only[Bool.not_true,cond_false,Bool.true_and];rw[kO (by omega) (by omega),bind_some,ek i _ ai (by omega),ih m (by omega) _ (by simp[aJ])];simp[tJ,l6]
 unfold KM;refine e5 (ws.length+1) λm hm=>?_;have:=key 0 (by omega) m (by omega) [] rfl;simpa using this
def o_ (ws:azp):Bool:=ws.all λw=>(jv w).2&&pS (jv w).1
theorem aa7 (ws:azp) (h:ws.length<=1048577) (hw:∀w∈ws,w.length<=1048576):
  b3 (λn=>zQ ws n [] 0)=some (if o_ ws=true then l6 ws else [],o_ ws&&decide (ws.length<=2)):=by
 have key:∀i,i<=ws.length->∀m,ws.length-i<m->∀v:azs,v.length=i->
   zQ ws m v (i:Int)=some (if o_ (ws.drop i)=true then v++l6 (ws.drop i)else [],o_ (ws.drop i)&&decide (ws.length<=2)):=by
  refine down ws.length ?_ ?_
  .intro m hm v aJ;obtain⟨m,rfl⟩:∃j,m=j+1:=⟨m-1,by omega⟩
   simp only[zQ,PD];rw[ei (Nat.le_refl _),List.drop_length,cond_false];have e:decide ((v.length:Int)<=2)=decide (ws.length<=2):=by rw[decide_eq_decide];omega
   rw[e];simp[o_,l6]
  .intro i ai ih m hm v aJ;obtain⟨m,rfl⟩:∃j,m=j+1:=⟨m-1,by omega⟩
   simp only[zQ,PD];rw[el ai,cond_true,dX ws i ai,bind_some,atm _ (hw _ (List.getElem_mem ai)),bind_some,drop_cons ws i ai];have atv:o_ (ws[i]::ws.drop (i+1))=((jv ws[i]).2&&pS (jv ws[i]).1&&o_ (ws.drop (i+1))):=rfl;rw[atv];by_cases aq:(jv ws[i]).2=true
   .simp only[aq,Bool.not_true,cond_false,Bool.true_and,mr,bind_some];by_cases iO:pS (jv ws[i]).1=true
    .have H3:=iO;unfold pS at H3;rw[H3,iO];simp only[Bool.not_true,cond_false,Bool.true_and];rw[kO (by omega) (by omega),bind_some,ek i _ ai (by omega),ih m (by omega) _ (by simp[aJ])];simp only[l6,List.append_assoc,List.map_cons,List.singleton_append]
    .have aa8:pS (jv ws[i]).1=false:=by simpa using iO
     have H3:=aa8;unfold pS at H3;rw[H3,aa8];simp
   .have hP:(jv ws[i]).2=false:=by simpa using aq
    simp[hP]
 refine e5 (ws.length+1) λm hm=>?_;have:=key 0 (by omega) m (by omega) [] rfl;simpa using this
theorem aa9 (a:azs) (h:a.length<=1048577):Aa a=some (a.all pS):=by
 unfold Aa Kv Ku;rw[sc (n:=a.length) (l:=yo a) (λi=> !pS (a.getD i 0)) (λm=>?_) (λi ai m=>?_)]
 .simp only[bind_some,vr,Bool.not_not];congr 1;rw[Bool.eq_iff_iff,n_,List.all_eq_true];constructor
  .intro q x ao;obtain⟨k,aw,rfl⟩:=List.mem_iff_getElem.1 ao;have:=q k aw;simpa [List.getD,aw]using this
  .intro q i ai;have:=q _ (List.getElem_mem ai);simpa [List.getD,ai]using this
 .simp only[yo,GD];rw[ei (Nat.le_refl _)];rfl
 .simp only[yo,GD,Kt,CP,jG];rw[el ai,dX _ i ai,ek i _ ai (by omega)];simp only[cond_true,bind_some];have e:a.getD i 0=a[i]:=by simp[List.getD,ai]
  rw[e];rfl
theorem yM (s:azq) (aa:s.length<=1048576):(40∉s->zO s=some (s.length:Int))/\∀p q,s=p++40::q->40∉p->zO s=some (p.length:Int):=by
 have step:∀i (ai:i<s.length) m,yh s (m+1) (i:Int)=cond (s[i]==40) (some (i:Int)) (yh s m ((i+1:Nat):Int)):=by
  intro i ai m;simp only[yh,PA];rw[el ai,cond_true,dX s i ai,bind_some,ek i _ ai (by omega)];have e:((s[i].toNat:Int)==40)=(s[i]==40):=by
   rw[Bool.eq_iff_iff];simp only[beq_iff_eq];constructor
   .intro h;exact UInt8.toNat_inj.1 (by rw[show(40:UInt8).toNat=40 from rfl];omega)
   .intro h;rw[h];rfl
  rw[e]
 constructor
 .intro h;unfold zO;rw[pQ (n:=s.length) (λ_=>some (s.length:Int))]
  .intro m;simp only[yh,PA];rw[ei (Nat.le_refl _)];rfl
  .intro i ai m ih;rw[step i ai m,ih];have:(s[i]==40)=false:=by
    simp only[beq_eq_false_iff_ne,ne_eq];intro e;exact h (e▸List.getElem_mem ai)
   rw[this];rfl
 .rintro p q rfl ay;unfold zO;refine e5 (p.length+1) λm hm=>?_;have key:∀k,k<=p.length->∀m,k<m->yh (p++40::q) m ((p.length-k:Nat):Int)=some (p.length:Int):=by
   intro k;induction k with
   |zero=>
    intro _ m hm;obtain⟨m,rfl⟩:∃j,m=j+1:=⟨m-1,by omega⟩
    rw[Nat.sub_zero,step p.length (by simp) m];have:((p++40::q)[p.length]'(by simp))=40:=by simp
    rw[this];rfl
   |succ k ih=>
    intro aw m hm;obtain⟨m,rfl⟩:∃j,m=j+1:=⟨m-1,by omega⟩
    rw[step (p.length-(k+1)) (by simp;omega) m];have:((p++40::q)[p.length-(k+1)]'(by simp;omega)==40)=false:=by
     simp only[beq_eq_false_iff_ne,ne_eq];rw[List.getElem_append_left (by omega)];intro e;exact ay (e▸List.getElem_mem (by omega))
    rw[this,cond_false,show p.length-(k+1)+1=p.length-k by omega];exact ih (by omega) m (by omega)
  have:=key p.length (Nat.le_refl _) m (by omega);simpa using this
def nq (t:bY):Nat:=if t.Kind=2 then 2 else if t.Kind=3 then 1 else 0
theorem L7 (t:bY):nq t<=2:=by unfold nq;split<;>(try split)<;>omega
theorem aa_ (t:bY):cond (t.Kind==2) (some 2) (cond (t.Kind==3) (some 1) (some 0))=some (nq t:Int):=by
 unfold nq;by_cases af:t.Kind=2
 .simp[af]
 .by_cases aG:t.Kind=3
  .simp[aG]
  .have aW:(t.Kind==2)=false:=by simpa using af
   have aS:(t.Kind==3)=false:=by simpa using aG
   rw[aW,aS,if_neg af,if_neg aG];rfl
def sg (n fS ai:Int):Bool:=decide (fS<=n)&&decide (n<=ai)
def pa (t:bY) (v:Int):Bool:=cond (t.Kind==0) (sg t.Value 0 63) (cond (t.Kind==1) (sg t.Value 0 (v-1)) (cond (t.Kind==2) (sg t.Value 0 8) (cond (t.Kind==3) (t.Value==0) false)))
def si (v:Int):azI->Nat->Bool
 |[],k=>k==0
 |t::r,k=> !(k==0)&&(pa t v&&si v r (k+nq t-1))
def pT (e:azI) (v most:Int):Bool:=decide ((e.length:Int)<=most)&&si v e 1
theorem atw (t:bY) (v:Int) (aJ: -1000000<=v/\v<=1000000):JL t v=some (pa t v):=by
 unfold JL mr pa sg;rw[eC (v-1) (by omega)];cases t.Kind==0<;>cases t.Kind==1<;>cases t.Kind==2<;>cases t.Kind==3<;>rfl
theorem atx (t:bY) (v:Int) (aJ: -1000000<=v/\v<=1000000):Kn t v=some (pa t v):=by
 unfold Kn CP jG pa sg;rw[eC (v-1) (by omega)];cases t.Kind==0<;>cases t.Kind==1<;>cases t.Kind==2<;>cases t.Kind==3<;>rfl
theorem aba (t:bY):JM t=some (nq t:Int):=aa_ t
theorem abb (t:bY):Ko t=some (nq t:Int):=aa_ t
theorem Te {k a:Nat} (aw:1<=k) (pj:k<=100000000) (bq:a<=2):i64.wrap ((k:Int)+i64.wrap ((a:Int)-1))=((k+a-1:Nat):Int):=by
 rw[eC ((a:Int)-1) (by omega),eC _ (by omega)];omega
theorem D0 (k:Nat):((k:Int)==0)=(k==0):=by
 by_cases h:k=0
 .subst h;rfl
 .have ad:((k:Int)==0)=false:=by simp;omega
  have af:(k==0)=false:=by simpa using h
  rw[ad,af]
theorem aty (e:azI) (v most:Int) (aJ: -1000000<=v/\v<=1000000) (he:e.length<=1048576):JN e v most=some (pT e v most):=by
 unfold JN pT;by_cases hm:(e.length:Int)<=most
 .have d1:decide (most<(e.length:Int))=false:=by simp;omega
  have d2:decide ((e.length:Int)<=most)=true:=by simpa using hm
  rw[d1,d2,cond_false,Bool.true_and];have key:∀i,i<=e.length->∀(k:Nat) m,k<=1+2*i->e.length-i<m->Cb e v m (k:Int) (i:Int)=some (si v (e.drop i) k):=by
   refine down e.length ?_ ?_
   .intro k m _ hm;obtain⟨m,rfl⟩:∃j,m=j+1:=⟨m-1,by omega⟩
    simp only[Cb,Pp];rw[ei (Nat.le_refl _),List.drop_of_length_le (Nat.le_refl _),D0];rfl
   .intro i ai ih k m aw hm;obtain⟨m,rfl⟩:∃j,m=j+1:=⟨m-1,by omega⟩
    simp only[Cb,Pp];rw[el ai,dX _ i ai,ek i _ ai (by omega),drop_cons e i ai,D0];simp only[cond_true,bind_some,atw _ v aJ,aba,si];by_cases a_:k=0
    .subst a_;rfl
    .have ab:(k==0)=false:=by simpa using a_
     have bq:=L7 e[i];rw[ab,Te (by omega) (by omega) bq,ih _ m (by omega) (by omega)];simp only[cond_false,Bool.not_false,Bool.true_and];cases pa e[i] v<;>rfl
  refine e5 (e.length+1) λm hm=>?_;have:=key 0 (by omega) 1 m (by omega) (by omega);simpa using this
 .have d1:decide (most<(e.length:Int))=true:=by simp;omega
  have d2:decide ((e.length:Int)<=most)=false:=by simpa using hm
  rw[d1,d2];rfl
theorem atz (e:azI) (v most:Int) (aJ:0<=v/\v<=29) (azd:1<=most/\most<=60) (he:e.length<=1048576):Kp e v most=some (pT e v most):=by
 unfold Kp jG pT;have d1:(!(decide (0<=v)&&decide (v<=29)))=false:=by simp;omega
 have d2:(!(decide (1<=most)&&decide (most<=60)))=false:=by simp;omega
 simp only[bind_some,d1,d2,cond_false];by_cases ad:e.length=0
 .have:e=[]:=List.length_eq_zero_iff.1 ad;subst this;simp[si]
 .by_cases hm:(e.length:Int)<=most
  .have d3:(!(decide ((1:Int)<=(e.length:Int))&&decide ((e.length:Int)<=most)))=false:=by simp;omega
   have d4:decide ((e.length:Int)<=most)=true:=by simpa using hm
   rw[d3,d4,cond_false,Bool.true_and];have key:∀i,i<=e.length->∀(k:Nat) m,k<=1+2*i->e.length-i<m->CQ e v m (k:Int) (i:Int)=some (si v (e.drop i) k):=by
    refine down e.length ?_ ?_
    .intro k m _ hm;obtain⟨m,rfl⟩:∃j,m=j+1:=⟨m-1,by omega⟩
     simp only[CQ,Qe];rw[ei (Nat.le_refl _),List.drop_of_length_le (Nat.le_refl _),D0];rfl
    .intro i ai ih k m aw hm;obtain⟨m,rfl⟩:∃j,m=j+1:=⟨m-1,by omega⟩
     simp only[CQ,Qe];rw[el ai,dX _ i ai,ek i _ ai (by omega),drop_cons e i ai,D0];simp only[cond_true,bind_some,atx _ v (by omega),abb,si];by_cases a_:k=0
     .subst a_;rfl
     .have ab:(k==0)=false:=by simpa using a_
      have bq:=L7 e[i];rw[ab,Te (by omega) (by omega) bq,ih _ m (by omega) (by omega)];simp only[cond_false,Bool.not_false,Bool.true_and];cases pa e[i] v<;>rfl
   refine e5 (e.length+1) λm hm=>?_;have:=key 0 (by omega) 1 m (by omega) (by omega);simpa using this
  .have d3:(!(decide ((1:Int)<=(e.length:Int))&&decide ((e.length:Int)<=most)))=true:=by simp;omega
   have d4:decide ((e.length:Int)<=most)=false:=by simpa using hm
   rw[d3,d4];rfl
def ew (p:b_):Nat:=if p.Kind=1\/p.Kind=3\/p.Kind=4 then 1 else if p.Kind=2 then 2 else 0
theorem D1 (p:b_):ew p<=2:=by unfold ew;split<;>(try split)<;>omega
theorem abc (p:b_) (K:Bool->azv) (hK:∀b,K b=cond b (some 1) (cond (p.Kind==2) (some 2) (some 0))):
  cond (p.Kind==1) (K true) (cond (p.Kind==3) (K true) (K (p.Kind==4)))=some (ew p:Int):=by
 simp only[hK,ew];by_cases ad:p.Kind=1
 .simp[ad]
 .by_cases aG:p.Kind=3
  .simp[aG]
  .by_cases bh:p.Kind=4
   .simp[bh]
   .by_cases af:p.Kind=2
    .simp[af]
    .have aP:(p.Kind==1)=false:=by simpa using ad
     have aS:(p.Kind==3)=false:=by simpa using aG
     have cf:(p.Kind==4)=false:=by simpa using bh
     have aW:(p.Kind==2)=false:=by simpa using af
     simp[aP,aS,cf,aW,ad,aG,bh,af]
theorem abd (p:b_):F9 p=some (ew p:Int):=by
 unfold F9;exact abc p (F8 p) λ_=>rfl
theorem abe (p:b_):Gv p=some (ew p:Int):=by
 unfold Gv;exact abc p (Gu p) λ_=>rfl
def yN:azJ->Nat->Bool
 |[],k=>k==0
 |p::r,k=> !(k==0)&&yN r (k+ew p-1)
def fu:azJ->Nat->Option Nat
 |[],0=>some 0
 |[],_+1=>none
 |_::_,0=>some 0
 |p::r,k+1=>(fu r (k+ew p)).map (·+1)
theorem A2 (l:azJ):fu l 0=some 0:=by cases l<;>rfl
theorem sj {p:b_} {r:azJ} {a k:Nat}:fu (p::r) (a+1)=some k↔∃dv,fu r (a+ew p)=some dv/\k=dv+1:=by
 simp only[fu,map_eq_some_iff];constructor
 .rintro⟨dv,h,rfl⟩;exact⟨dv,h,rfl⟩
 .rintro⟨dv,h,rfl⟩;exact⟨dv,h,rfl⟩
theorem sk:∀{l:azJ} {a k:Nat},fu l a=some k->a<=k/\k<=l.length
 |[],0,k,h=>by simp only[fu,some.injEq]at h;subst h;simp
 |[],a+1,k,h=>by simp[fu]at h
 |_::_,0,k,h=>by simp only[fu,some.injEq]at h;subst h;simp
 |p::r,a+1,k,h=>by
  obtain⟨dv,bI,rfl⟩:=sj.1 h;have:=sk bI;simp only[List.length_cons];omega
theorem Tf:∀(l:azJ) (k:Nat),yN l k=(fu l k==some l.length)
 |[],0=>rfl
 |[],k+1=>rfl
 |p::r,0=>rfl
 |p::r,k+1=>by
  have e:k+1+ew p-1=k+ew p:=by omega
  simp only[yN,e,Tf r (k+ew p)];have fY:(k+1==0)=false:=rfl;rw[fY];simp only[Bool.not_false,Bool.true_and,fu];cases fu r (k+ew p)with
  |none=>rfl
  |some n=>simp
theorem D2:∀{l:azJ} {a b k:Nat},fu l (a+b)=some k->∃bZ cu,fu l a=some bZ/\fu (l.drop bZ) b=some cu/\k=bZ+cu
 |l,0,b,k,h=>⟨0,k,A2 l,by simpa using h,by omega⟩
 |[],a+1,b,k,h=>by rw[show a+1+b=(a+b)+1 by omega]at h;simp[fu]at h
 |p::r,a+1,b,k,h=>by
  rw[show a+1+b=(a+b)+1 by omega]at h;obtain⟨dv,bI,rfl⟩:=sj.1 h;rw[show a+b+ew p=(a+ew p)+b by omega]at bI;obtain⟨bZ,cu,ad,af,rfl⟩:=D2 bI;exact⟨bZ+1,cu,sj.2 ⟨bZ,ad,rfl⟩,by simpa using af,by omega⟩
theorem abf:∀{l:azJ} {a k:Nat},fu l a=some k->∀i,i<k->∃m,1<=m/\fu (l.drop i) m=some (k-i)
 |[],0,k,h,i,ai=>by simp only[fu,some.injEq]at h;omega
 |[],a+1,k,h,i,ai=>by simp[fu]at h
 |_::_,0,k,h,i,ai=>by simp only[fu,some.injEq]at h;omega
 |p::r,a+1,k,h,i,ai=>by
  cases i with
  |zero=>exact⟨a+1,by omega,by simpa using h⟩
  |succ i=>
   obtain⟨dv,bI,rfl⟩:=sj.1 h;obtain⟨m,ad,af⟩:=abf bI i (by omega);exact⟨m,ad,by simp only[List.drop_succ_cons];rw[af];congr 1;omega⟩
theorem atA {l:azJ} {a k i:Nat} (h:fu l a=some k) (ai:i<k):∃e,fu (l.drop i) 1=some e/\i+e<=k/\1<=e:=by
 obtain⟨m,ad,af⟩:=abf h i ai;obtain⟨m,rfl⟩:∃j,m=1+j:=⟨m-1,by omega⟩
 obtain⟨bZ,cu,aG,bh,b6⟩:=D2 af;have:=sk aG;exact⟨bZ,aG,by omega,by omega⟩
theorem Tg {k a:Nat} (aw:1<=k) (pj:k<=100000000) (bq:a<=2):i64.wrap ((k:Int)+i64.wrap ((a:Int)-1))=((k+a-1:Nat):Int):=by
 rw[eC ((a:Int)-1) (by omega),eC _ (by omega)];omega
theorem atB (e:azJ) (he:e.length<=1048576):JJ e=some ((decide (1<=e.length)&&decide (e.length<=20))&&yN e 1):=by
 unfold JJ;by_cases hm:1<=e.length/\e.length<=20
 .have d1:(((e.length:Int)==0)||decide ((20:Int)<(e.length:Int)))=false:=by
   rw[Bool.or_eq_false_iff,beq_eq_false_iff_ne,decide_eq_false_iff_not];omega
  have d2:(decide (1<=e.length)&&decide (e.length<=20))=true:=by simp;omega
  rw[d1,d2,cond_false,Bool.true_and];have key:∀i,i<=e.length->∀(k:Nat) m,k<=1+2*i->e.length-i<m->B8 e m (k:Int) (i:Int)=some (yN (e.drop i) k):=by
   refine down e.length ?_ ?_
   .intro k m _ hm;obtain⟨m,rfl⟩:∃j,m=j+1:=⟨m-1,by omega⟩
    simp only[B8,Pl];rw[ei (Nat.le_refl _),List.drop_of_length_le (Nat.le_refl _),D0];rfl
   .intro i ai ih k m aw hm;obtain⟨m,rfl⟩:∃j,m=j+1:=⟨m-1,by omega⟩
    simp only[B8,Pl];rw[el ai,dX _ i ai,ek i _ ai (by omega),drop_cons e i ai,D0];simp only[cond_true,bind_some,abd,yN];by_cases a_:k=0
    .subst a_;rfl
    .have ab:(k==0)=false:=by simpa using a_
     have bq:=D1 e[i];rw[ab,Tg (by omega) (by omega) bq,ih _ m (by omega) (by omega)];simp only[cond_false,Bool.not_false,Bool.true_and]
  refine e5 (e.length+1) λm hm=>?_;have:=key 0 (by omega) 1 m (by omega) (by omega);simpa using this
 .have d1:(((e.length:Int)==0)||decide ((20:Int)<(e.length:Int)))=true:=by
   by_cases h:e.length=0
   .simp[h]
   .have:decide ((20:Int)<(e.length:Int))=true:=by simp;omega
    rw[this,Bool.or_true]
  have d2:(decide (1<=e.length)&&decide (e.length<=20))=false:=by
   rw[Bool.and_eq_false_iff,decide_eq_false_iff_not,decide_eq_false_iff_not];omega
  rw[d1,d2];rfl
def tK (i:Nat):Option Nat->Int
 |none=> -1
 |some n=>((i+n:Nat):Int)
theorem abg (d:a1) (aq:d.Body.length<=1048576) (i0:Nat) (a_:i0<=d.Body.length):Gw d (i0:Int)=some (tK i0 (fu (d.Body.drop i0) 1)):=by
 unfold Gw;have key:∀i,i<=d.Body.length->∀(k:Nat) m,k<=1+2*i->d.Body.length-i<m->CO d m (i:Int) (k:Int)=some (tK i (fu (d.Body.drop i) k)):=by
  refine down d.Body.length ?_ ?_
  .intro k m _ hm;obtain⟨m,rfl⟩:∃j,m=j+1:=⟨m-1,by omega⟩
   simp only[CO,P_];rw[List.drop_of_length_le (Nat.le_refl _)];cases k with
   |zero=>rw[AZ];simp[fu,tK]
   |succ k=>
    rw[AX (succ_pos k)];have:decide ((d.Body.length:Int)<=(d.Body.length:Int))=true:=by simp
    rw[this];rfl
  .intro i ai ih k m aw hm;obtain⟨m,rfl⟩:∃j,m=j+1:=⟨m-1,by omega⟩
   simp only[CO,P_];cases k with
   |zero=>rw[AZ,A2];simp[tK]
   |succ k=>
    have d1:decide ((d.Body.length:Int)<=(i:Int))=false:=by simp;omega
    rw[AX (succ_pos k),d1,dX _ i ai,ek i _ ai (by omega),drop_cons _ i ai];simp only[cond_true,cond_false,bind_some,abe];have bq:=D1 d.Body[i];rw[Tg (by omega) (by omega) bq,ih _ m (by omega) (by omega),show k+1+ew d.Body[i]-1=k+ew d.Body[i] by omega];simp only[fu];cases fu (d.Body.drop (i+1)) (k+ew d.Body[i])with
    |none=>rfl
    |some n=>simp only[map_some,tK];congr 2;omega
 refine e5 (d.Body.length+1) λm hm=>?_;refine down d.Body.length (P:=λ_=>True) trivial (λ_ _ _=>trivial) 0 (zero_le _)|>λ_=>?_;have bZ:=key i0 a_ 1 m (by omega) (by omega);simpa using bZ
theorem abh (b:azJ) (ab:b.length<=1048576) (i0 n:Nat) (h:fu (b.drop i0) 1=some n):Ga b (i0:Int)=some ((i0+n:Nat):Int):=by
 unfold Ga;have a_:i0<b.length:=by
  have:=sk h;rw[List.length_drop]at this;omega
 have key:∀i,i<=b.length->∀(k n:Nat) m,k<=1+2*i->b.length-i<m->fu (b.drop i) k=some n->B9 b m (i:Int) (k:Int)=some ((i+n:Nat):Int):=by
  refine down b.length ?_ ?_
  .intro k n m _ hm he;obtain⟨m,rfl⟩:∃j,m=j+1:=⟨m-1,by omega⟩
   simp only[B9,Pn];rw[List.drop_of_length_le (Nat.le_refl _)]at he;cases k with
   |zero=>rw[AZ];simp only[fu,some.injEq]at he;subst he;simp
   |succ k=>simp[fu]at he
  .intro i ai ih k n m aw hm he;obtain⟨m,rfl⟩:∃j,m=j+1:=⟨m-1,by omega⟩
   simp only[B9,Pn];cases k with
   |zero=>rw[A2]at he;cases he;rw[AZ];simp
   |succ k=>
    rw[drop_cons _ i ai]at he;obtain⟨Nq,qG,rfl⟩:=sj.1 he;rw[AX (succ_pos k),dX _ i ai,ek i _ ai (by omega)];simp only[cond_true,bind_some,abd];have bq:=D1 b[i];rw[Tg (by omega) (by omega) bq,show k+1+ew b[i]-1=k+ew b[i] by omega,ih _ Nq m (by omega) (by omega) qG];congr 2;omega
 refine e5 (b.length+1) λm hm=>?_;have bZ:=key i0 (by omega) 1 n m (by omega) (by omega) h;simpa using bZ
def below (p:b_) (s:dQ):dQ:=⟨if p.Kind=4 then s.scope+1 else s.scope,p.Kind==1⟩
def hn:azJ->azR->azR
 |[],_=>[]
 |_::_,[]=>[]
 |p::r,s::st=>s::hn r (List.replicate (ew p) (below p s)++st)
theorem atC (l:azJ):hn l []=[]:=by cases l<;>rfl
theorem A3:∀{l:azJ} {st:azR} {k:Nat},fu l st.length=some k->(hn l st).length=k
 |[],[],k,h=>by simp only[List.length_nil,fu,some.injEq]at h;subst h;rfl
 |[],s::st,k,h=>by simp[fu]at h
 |p::r,[],k,h=>by simp only[List.length_nil,fu,some.injEq]at h;subst h;rfl
 |p::r,s::st,k,h=>by
  obtain⟨dv,bI,rfl⟩:=sj.1 h;simp only[hn,List.length_cons];rw[A3 (k:=dv) (by rw[List.length_append,List.length_replicate,Nat.add_comm];exact bI)]
theorem Th:∀{l:azJ} {s1 s2:azR} {k:Nat},fu l s1.length=some k->hn l (s1++s2)=hn l s1++hn (l.drop k) s2
 |[],[],s2,k,h=>by simp only[List.length_nil,fu,some.injEq]at h;subst h;rfl
 |[],s::st,s2,k,h=>by simp[fu]at h
 |p::r,[],s2,k,h=>by simp only[List.length_nil,fu,some.injEq]at h;subst h;simp[hn]
 |p::r,s::st,s2,k,h=>by
  obtain⟨dv,bI,rfl⟩:=sj.1 h;simp only[hn,List.cons_append,List.drop_succ_cons];rw[<-List.append_assoc,Th (k:=dv) (by rw[List.length_append,List.length_replicate,Nat.add_comm];exact bI)]
def patch (out:azR) (i:Nat) (new:azR):azR:=out.take i++(new++out.drop (i+new.length))
theorem atD (out:azR) (i:Nat):patch out i []=out:=by simp[patch]
theorem abj {out:azR} {i:Nat} {new:azR} (h:i+new.length<=out.length):(patch out i new).length=out.length:=by
 simp[patch];omega
theorem abk {out:azR} {i j:Nat} {a b:azR} (bQ:j=i+a.length) (h:i+a.length+b.length<=out.length):patch (patch out i a) j b=patch out i (a++b):=by
 subst bQ;unfold patch;have aP:(out.take i).length=i:=by rw[List.length_take];omega
 have t1:(out.take i++(a++out.drop (i+a.length))).take (i+a.length)=out.take i++a:=by
  rw[<-List.append_assoc,List.take_left' (by rw[List.length_append,aP])]
 have t2:(out.take i++(a++out.drop (i+a.length))).drop (i+a.length+b.length)=out.drop (i+a.length+b.length):=by
  rw[<-List.append_assoc,<-List.drop_drop,List.drop_left' (by rw[List.length_append,aP]),List.drop_drop]
 rw[t1,t2];simp only[List.append_assoc,List.length_append,Nat.add_assoc]
theorem atE {out:azR} {i:Nat} {s:dQ} (h:i<out.length):out.set i s=patch out i [s]:=by
 unfold patch;apply List.ext_getElem?;intro j;rw[List.getElem?_set];rcases Nat.lt_trichotomy i j with L8|L8|L8
 .rw[if_neg (by omega),List.getElem?_append_right (by simp;omega)];have aP:(out.take i).length=i:=by simp;omega
  rw[aP];obtain⟨d,rfl⟩:∃d,j=i+(d+1):=⟨j-i-1,by omega⟩
  rw[show i+(d+1)-i=d+1 by omega];simp only[List.singleton_append,List.getElem?_cons_succ,List.length_singleton,List.getElem?_drop];congr 1;omega
 .subst L8;rw[if_pos rfl,if_pos h,List.getElem?_append_right (by simp;omega)];have aP:(out.take i).length=i:=by simp;omega
  rw[aP];simp
 .rw[if_neg (by omega),List.getElem?_append_left (by simp;omega),List.getElem?_take,if_pos L8]
theorem atF (n:Int) (h:0<=n) (af:n<=1000000):i64.wrap (n+1)=n+1:=eC _ (by omega)
theorem abl {rec:Int->dQ->azR->a1->Option (Int×azR)} {d:a1} {n:Nat} (aq:d.Body.length<=1048576)
  (L9:∀(at_ k:Nat) (s:dQ) (out:azR),out.length=d.Body.length->fu (d.Body.drop at_) 1=some k->k<=n->0<=s.scope->s.scope+k<=1000000->
   rec (at_:Int) s out d=some (((at_+k:Nat):Int),patch out at_ (hn (d.Body.drop at_) [s])))
  (er:Int) (p:b_) (f:Nat) (bK:f<=2):∀(c j at_ k:Nat) (out:azR) (m:Nat),j+c=f->c<m->out.length=d.Body.length->fu (d.Body.drop at_) c=some k->k<=n->0<=er->er+k<=1000000->
   z6 rec d er p (f:Int) m out (at_:Int) (j:Int)=some (((at_+k:Nat):Int),patch out at_ (hn (d.Body.drop at_) (List.replicate c ⟨er,p.Kind==1⟩)))
 |0,j,at_,k,out,m,bQ,hm,bS,he,aw,a_,ad=>by
  obtain⟨m,rfl⟩:∃i,m=i+1:=⟨m-1,by omega⟩
  rw[A2]at he;cases he;simp only[z6,Qa];rw[ei (by omega)];simp[atC,atD]
 |c+1,j,at_,k,out,m,bQ,hm,bS,he,aw,a_,ad=>by
  obtain⟨m,rfl⟩:∃i,m=i+1:=⟨m-1,by omega⟩
  rw[Nat.add_comm c 1]at he;obtain⟨bZ,cu,aP,aW,rfl⟩:=D2 he;have h2:=sk aP;have l2:=sk aW;rw[List.length_drop]at h2;rw[List.drop_drop,List.length_drop]at l2;have hlen:(hn (d.Body.drop at_) [⟨er,p.Kind==1⟩]).length=bZ:=A3 (st:=[_]) aP;simp only[z6,Qa];rw[el (by omega),L9 at_ bZ _ out bS aP (by omega) a_ (by show er+(bZ:Int)<=_;omega),ek j f (by omega) (by omega)];simp only[cond_true,bind_some];have fO:(patch out at_ (hn (d.Body.drop at_) [⟨er,p.Kind==1⟩])).length=d.Body.length:=by
   rw[abj (by rw[hlen];omega),bS]
  rw[List.drop_drop]at aW;rw[abl aq L9 er p f bK c (j+1) (at_+bZ) cu _ m (by omega) (by omega) fO aW (by omega) a_ (by omega)];have atG:(hn (d.Body.drop (at_+bZ)) (List.replicate c ⟨er,p.Kind==1⟩)).length=cu:=A3 (by rw[List.length_replicate];exact aW);have atH:hn (d.Body.drop at_) (List.replicate (c+1) ⟨er,p.Kind==1⟩)=hn (d.Body.drop at_) [⟨er,p.Kind==1⟩]++hn (d.Body.drop (at_+bZ)) (List.replicate c ⟨er,p.Kind==1⟩):=by
   rw[List.replicate_succ,<-List.singleton_append,Th (k:=bZ) (s1:=[_]) aP,List.drop_drop]
  rw[atH,abk (by rw[hlen]) (by rw[hlen,atG];omega),Nat.add_assoc]
end Go.ld
