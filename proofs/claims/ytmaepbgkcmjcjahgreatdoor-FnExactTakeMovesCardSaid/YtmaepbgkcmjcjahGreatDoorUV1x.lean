/- Part of a proof that a law returns true for every input. No condition. -/
import Derived.Test.YtmaepbgkcmjcjahGreatDoorUV0x
import Derived.Lib.ParseIntB
import Derived.Lib.ItoaNum
import Derived.Test.YtmaepbgkcmjcjahGreatDoorP3
namespace Go.k6
open Option Go.IntKind Nat Or
open Go Go.ei
def Ia:Lib.NumEnd Nat:=Lib.parseUintB 64 []
theorem aa9:∀(d:azc) (n k:Nat),n<10^k->k+d.length<=18->Lib.parseUintM 18446744073709551615 n d=if d.all gX=true then .ok (nO n d)else Ia
 |[],n,k,_,_=>by simp[Lib.parseUintM,nO]
 |c::r,n,k,aV,aw=>by
  simp only[List.length_cons]at aw;have xM:n<10^17:=Nat.lt_of_lt_of_le aV (Nat.pow_le_pow_right (by omega) (by omega));simp only[Lib.parseUintM];have nv:(c::r).all gX=(gX c&&r.all gX):=rfl;by_cases au:gX c=true
  .have D6:=au;simp only[gX,Bool.and_eq_true,decide_eq_true_eq]at D6;have Tg:(c::r).all gX=r.all gX:=by rw[nv,au];rfl
   rw[if_pos D6,if_neg (by omega),if_neg (by omega),Tg,show n*10+(c.toNat-48)=10*n+(c.toNat-48) by omega,aa9 r _ (k+1) (by rw[Nat.pow_succ];omega) (by omega)];rfl
  .have D6:¬(48<=c.toNat/\c.toNat<=57):=λh=>au (by simp only[gX,Bool.and_eq_true,decide_eq_true_eq];exact h);have ath:gX c=false:=by simpa using au
   have Tg:(c::r).all gX=false:=by rw[nv,ath];rfl
   rw[if_neg D6,Tg];simp;rfl
theorem ati (n x:Nat) (aV:1<=n) (aq:x<=9):Lib.decDigits (10*n+x)=Lib.decDigits n++[UInt8.ofNat (48+x)]:=by
 rw[Lib.decDigits,dif_neg (by omega),show(10*n+x)/10=n by omega,show(10*n+x)%10=x by omega]
theorem aa_:∀(d:azc) (n:Nat),1<=n->d.all gX=true->Lib.decDigits (nO n d)=Lib.decDigits n++d
 |[],n,_,_=>by simp[nO]
 |c::r,n,aV,ao=>by
  simp only[List.all_cons,Bool.and_eq_true]at ao;have au:=ao.1;have e:=aa8 c ao.1;simp only[gX,Bool.and_eq_true,decide_eq_true_eq]at au;show Lib.decDigits (nO (10*n+(c.toNat-48)) r)=_;rw[aa_ r _ (by omega) ao.2,ati n (c.toNat-48) aV (by omega),e];simp
theorem Th (u:Nat):∃c t,Lib.decDigits u=c::t/\gX c=true/\(1<=u->c≠48):=by
 induction u using Nat.strongRecOn with
 |_ u ih=>
  rw[Lib.decDigits];by_cases h:u<10
  .rw[dif_pos h];refine⟨_,_,rfl,?_,?_⟩
   .have:∀i:Fin 10,gX (UInt8.ofNat (48+i.val))=true:=by decide
    exact this ⟨u,h⟩
   .have:∀i:Fin 10,1<=i.val->UInt8.ofNat (48+i.val)≠48:=by decide
    exact this ⟨u,h⟩
  .rw[dif_neg h];obtain⟨c,t,ad,ag,aD⟩:=ih (u/10) (by omega);exact⟨c,t++_,by rw[ad];rfl,ag,λ_=>aD (by omega)⟩
theorem aba (c:UInt8) (r:azc) (ao:(c::r).all gX=true):Lib.decDigits (ng (c::r))=c::r↔(c≠48\/r=[]):=by
 simp only[List.all_cons,Bool.and_eq_true]at ao;have au:=ao.1;have e:=aa8 c ao.1;simp only[gX,Bool.and_eq_true,decide_eq_true_eq]at au;have aF:ng (c::r)=nO (c.toNat-48) r:=by
  show nO (10*0+(c.toNat-48)) r=_;rw[Nat.mul_zero,Nat.zero_add]
 rw[aF];by_cases oQ:c=48
 .subst oQ;constructor
  .intro h;cases r with
   |nil=>exact .inr rfl
   |cons x t=>
    exfalso;obtain⟨xO,O1,ad,ag,aD⟩:=Th (nO ((48:UInt8).toNat-48) (x::t));rw[ad]at h;injection h with bh b1;by_cases du:1<=nO ((48:UInt8).toNat-48) (x::t)
    .exact aD du bh
    .have bc:nO ((48:UInt8).toNat-48) (x::t)=0:=by omega
     rw[bc,Lib.decDigits,dif_pos (by omega)]at ad;injection ad with _ di;rw[<-di]at b1;cases b1
  .rintro(h|rfl)
   .exact(h rfl).elim
   .show Lib.decDigits 0=_;rw[Lib.decDigits,dif_pos (by omega)];rfl
 .have ad:1<=c.toNat-48:=by
   rcases Nat.lt_or_ge 48 c.toNat with h|h
   .omega
   .exact(oQ (UInt8.toNat_inj.1 (by rw[show(48:UInt8).toNat=48 from rfl];omega))).elim
  refine⟨λ_=>.inl oQ,λ_=>?_⟩;rw[aa_ r _ ad ao.2,Lib.decDigits,dif_pos (by omega),e];rfl
theorem Ti (d:azc) (h:d.all gX=true) (hl:d.length<=18):ng d<10^18:=by
 have:=aa4 d 0 0 h (by omega);have ag:(10:Nat)^(0+d.length)<=10^18:=Nat.pow_le_pow_right (by omega) (by omega);exact Nat.lt_of_lt_of_le this ag
theorem Tj (d:azc) (hl:d.length<=18):Lib.parseUintB 64 d=if d≠[]/\d.all gX=true then .ok (ng d)else Ia:=by
 unfold Lib.parseUintB;by_cases h:d=[]
 .rw[if_pos h,if_neg (λbF=>bF.1 h)];rfl
 .rw[if_neg h,show(2^64-1:Nat)=18446744073709551615 from rfl,aa9 d 0 0 (by omega) (by omega)];by_cases ao:d.all gX=true
  .rw[if_pos ao,if_pos ⟨h,ao⟩];rfl
  .rw[if_neg ao,if_neg (λbF=>ao bF.2)]
def vv (s:azc):Int×Bool:=match Lib.parseIntB 64 s with
 | .ok v=>if Lib.itoa v=s then(v,true)else(0,false)
 |_=>(0,false)
theorem Tk {k:Nat} {d:azc} (h:¬(d≠[]/\d.all gX=true)):qj k d=(0,false):=by
 unfold qj;rw[if_neg (λbF=>h ⟨bF.1,bF.2.2.1⟩)]
theorem abb {k:Nat} {d:azc} (ad:d.head? =some 48) (ag:1<d.length+k):qj k d=(0,false):=by
 unfold qj;rw[if_neg (λbF=>bF.2.2.2 ⟨ad,ag⟩)]
theorem abc {k:Nat} {d:azc} (h:d≠[]/\d.length<=18/\d.all gX=true/\¬(d.head? =some 48/\1<d.length+k)):qj k d=(if k=1 then-(ng d:Int)else ng d,true):=by
 unfold qj;rw[if_pos h]
theorem anb (s:azc) (h:(if s.head? =some 45 then s.tail else s).length<=18):Lib.parseIntB 64 s≠.range/\vv s=kq s:=by
 unfold vv kq;cases s with
 |nil=>exact⟨by simp[Lib.parseIntB],by simp[Lib.parseIntB,qj]⟩
 |cons c r=>
  by_cases Tl:c=45
  .subst Tl;rw[if_pos (show(45::r).head? =some 45 from rfl)]at h⊢;simp only[List.tail_cons]at h⊢;have DS:(45:UInt8).toNat=45:=rfl;simp only[Lib.parseIntB,DS,or_true,if_true];rw[Tj r h];by_cases aS:r≠[]/\r.all gX=true
   .rw[if_pos aS];have eN:=Ti r aS.2 h;have zq:(2:Nat)^(64-1)=9223372036854775808:=by decide
    simp only[not_true,false_and,if_false,zq,true_and];rw[if_neg (by omega)];refine⟨by simp,?_⟩;simp only;obtain⟨x,t,rfl⟩:∃x t,r=x::t:=by
     cases r with
     |nil=>exact(aS.1 rfl).elim
     |cons x t=>exact⟨x,t,rfl⟩
    have Ib:=aba x t aS.2;by_cases oQ:x=48
    .rw[abb (by rw[oQ];rfl) (by simp)];rw[if_neg];intro ai;by_cases bc:ng (x::t)=0
     .rw[bc]at ai;have iV:Lib.decDigits 0=[48]:=by rw[Lib.decDigits,dif_pos (by omega)];rfl
      simp[Lib.itoa,iV]at ai
     .unfold Lib.itoa at ai;rw[if_pos (by omega)]at ai;injection ai with _ ai;rw[show(-(ng (x::t):Int)).natAbs=ng (x::t) by omega]at ai;obtain⟨xO,O1,gZ,gx,iM⟩:=Th (ng (x::t));rw[gZ]at ai;injection ai with Fk _;exact iM (by omega) (Fk.trans oQ)
    .have agC:1<=ng (x::t):=by
      have:=(Ib.2 (.inl oQ))
      rcases eq_zero_or_pos (ng (x::t))with bc|bc
      .rw[bc,Lib.decDigits,dif_pos (by omega)]at this;injection this with this _;exact(oQ this.symm).elim
      .exact bc
     rw[abc ⟨by simp,h,aS.2,λbF=>oQ (some.inj bF.1)⟩];rw[if_pos]
     .simp
     .unfold Lib.itoa;rw[if_pos (by omega),show(-(ng (x::t):Int)).natAbs=ng (x::t) by omega,Ib.2 (.inl oQ)]
   .rw[if_neg aS,Tk aS];exact⟨by simp[Ia,Lib.parseUintB],rfl⟩
  .have kz:¬((c::r).head? =some 45):=λe=>Tl (some.inj e);rw[if_neg kz]at h⊢;have SE:c.toNat≠45:=λe=>Tl (UInt8.toNat_inj.1 (by rw[show(45:UInt8).toNat=45 from rfl];exact e));have zq:(2:Nat)^(64-1)=9223372036854775808:=by decide
   by_cases abd:c.toNat=43
   .simp only[Lib.parseIntB,abd,true_or,if_true];have abe:r.length<=18:=by simp at h;omega
    rw[Tj r abe];have nS:qj 0 (c::r)=(0,false):=Tk λbF=>by
     have:=bF.2;simp only[List.all_cons,Bool.and_eq_true]at this;have:=this.1;simp only[gX,Bool.and_eq_true,decide_eq_true_eq]at this;omega
    rw[nS];by_cases aS:r≠[]/\r.all gX=true
    .rw[if_pos aS];have eN:=Ti r aS.2 abe;simp only[show¬((43:Nat)=45)from by decide,not_false_eq_true,true_and,false_and,if_false,zq];rw[if_neg (by omega)];refine⟨by simp,?_⟩;simp only;rw[if_neg];intro ai;unfold Lib.itoa at ai;rw[if_neg (by omega),Int.toNat_natCast]at ai;obtain⟨xO,O1,gZ,gx,_⟩:=Th (ng r);rw[gZ]at ai;injection ai with ai _;rw[ai]at gx;simp only[gX,Bool.and_eq_true,decide_eq_true_eq]at gx;omega
    .rw[if_neg aS];exact⟨by simp[Ia,Lib.parseUintB],rfl⟩
   .simp only[Lib.parseIntB,abd,SE,_root_.or_self,if_false];rw[Tj (c::r) h];by_cases aS:(c::r)≠[]/\(c::r).all gX=true
    .rw[if_pos aS];have eN:=Ti (c::r) aS.2 h;simp only[not_false_eq_true,true_and,false_and,if_false,zq];rw[if_neg (by omega)];refine⟨by simp,?_⟩;simp only;have Ib:=aba c r aS.2;have atj:Lib.itoa (ng (c::r):Int)=Lib.decDigits (ng (c::r)):=by
      unfold Lib.itoa;rw[if_neg (by omega),Int.toNat_natCast]
     rw[atj];by_cases Ic:c≠48\/r=[]
     .rw[if_pos (Ib.2 Ic),abc ⟨by simp,h,aS.2,λbF=>by
       rcases Ic with ad|ad
       .exact ad (some.inj bF.1)
       .subst ad;simp at bF⟩]
      simp
     .have oQ:c=48:=by
       by_cases q:c=48
       .exact q
       .exact(Ic (.inl q)).elim
      have eb:r≠[]:=λq=>Ic (.inr q);rw[if_neg (λbF=>Ic (Ib.1 bF)),abb (by rw[oQ];rfl) (by
       cases r with
       |nil=>exact(eb rfl).elim
       |cons x t=>simp)]
    .rw[if_neg aS,Tk aS];exact⟨by simp[Ia,Lib.parseUintB],rfl⟩
theorem join_one (x s:azc):jQ [x] s=x:=by simp[jQ,List.intercalate,List.intersperse]
theorem join_cons (x y:azc) (r:azb) (s:azc):jQ (x::y::r) s=x++(s++jQ (y::r) s):=by simp[jQ,List.intercalate,List.intersperse]
theorem abf (s:azc):∀(l:azb) (y:azc),l≠[]->jQ (l++[y]) s=jQ l s++(s++y)
 |[],_,h=>(h rfl).elim
 |[x],y,_=>by rw[List.singleton_append,join_cons,join_one,join_one]
 |x::z::r,y,_=>by
  rw[List.cons_append,List.cons_append,join_cons,join_cons,<-List.cons_append,abf s (z::r) y (by simp)];simp only[List.append_assoc]
theorem Ie (c:UInt8) (k:Nat):∀l:azb,(∀x∈l,x.length<=k)->(jQ l [c]).length<=l.length*(k+1)
 |[],_=>by simp[jQ,List.intercalate,List.intersperse]
 |[x],h=>by rw[join_one];have:=h x (by simp);simp only[List.length_cons,List.length_nil];omega
 |x::y::r,h=>by
  rw[join_cons];have ad:=h x (by simp);have ag:=Ie c k (y::r) λz cf=>h z (by simp[cf]);simp only[List.length_append,List.length_cons,List.length_nil,Nat.add_mul]at ag⊢;omega
theorem A9 (n:Nat) (h:n<100):r5 (n:Int)=some (jn n):=by
 unfold r5 C8;first
 |(rw[if_pos ⟨by omega,by omega,rfl⟩];rfl)
 |(rw[if_pos ⟨by omega,by omega,rfl⟩]
   unfold G3 jn yq;rw[if_neg (by omega),Int.toNat_natCast];by_cases ad:n<10
   .rw[dif_pos ad,if_pos ad];rfl
   .unfold yq;rw[dif_neg ad,if_neg ad,dif_pos (by omega)];rfl)
theorem xd (n:Nat):(jn n).length<=2:=by unfold jn;split<;>simp
theorem atk {α γ β:Type} {L:Nat->List γ->Int->Option β} (a:List α) (t:α->γ) (w:List γ) (hw:w.length=a.length) (E:List γ->Option β)
  (bc:∀m v,L (m+1) v (a.length:Int)=E v)
  (aa:∀i (h:i<a.length) m v,v.length=a.length->L (m+1) v (i:Int)=L m (v.set i (t a[i])) ((i+1:Nat):Int)):b5 (λm=>L m w 0)=E (a.map t):=by
 have key:∀i,i<=a.length->∀m,a.length-i<m->L m ((a.take i).map t++w.drop i) (i:Int)=E (a.map t):=by
  refine down a.length ?_ ?_
  .intro m hm;obtain⟨m,rfl⟩:∃j,m=j+1:=⟨m-1,by omega⟩
   rw[bc,List.take_length,List.drop_of_length_le (by omega),List.append_nil]
  .intro i ai ih m hm;obtain⟨m,rfl⟩:∃j,m=j+1:=⟨m-1,by omega⟩
   have e:((a.take i).map t).length=i:=by simp;omega
   rw[aa i ai m _ (by simp only[List.length_append,e,List.length_drop];omega),<-ih m (by omega)];congr 1;rw[List.set_append_right i _ (by rw[e];omega),e,Nat.sub_self,drop_cons w i (by omega),List.set_cons_zero,List.take_succ_eq_append_getElem ai,List.map_append];simp
 refine e5 (a.length+1) λm hm=>?_;have:=key 0 (by omega) m (by omega);simpa using this
def ku (n:Int):azc:=jn n.toNat
theorem Ig (n:Int):(ku n).length<=2:=xd _
theorem atl {x:Int} (h:0<=x/\x<=63):r5 x=some (ku x):=by
 have:=A9 x.toNat (by omega)
 rwa [Int.toNat_of_nonneg h.1]at this
theorem abg (a:aze) (h:a.length<=64) (aF:∀x∈a,0<=x/\x<=63):Ag a [44]=some (jQ (a.map ku) [44]):=by
 unfold Ag;rw[tL 16 (by omega) (by omega)];simp only[bind_some,Int.toNat_natCast];have bG:strings_Join (a.map ku) [44]=some (jQ (a.map ku) [44]):=by
  unfold strings_Join;have:=Ie 44 2 (a.map ku) λx aq=>by
   obtain⟨y,_,rfl⟩:=List.mem_map.1 aq;exact Ig y
  rw[List.length_map]at this;rw[if_pos ⟨by rw[List.length_map];omega,by omega⟩]
 rw[atk (L:=C9 a [44]) a ku (List.replicate a.length []) (by simp) (λv=>(strings_Join v [44]).bind λa1=>some a1) (λm v=>?_) (λi ai m v hl=>?_),bG]
 .rfl
 .simp only[C9,QD];rw[eh (Nat.le_refl _)];rfl
 .simp only[C9,QD];rw[ev ai,dX _ i ai,et i _ ai (by omega),dX v i (by omega)];simp only[cond_true,bind_some];rw[atl (aF _ (List.getElem_mem ai))];simp only[bind_some,Int.toNat_natCast]
def small (c:UInt8):Bool:=decide (97<=(c.toNat:Int))&&decide ((c.toNat:Int)<=122)
def digit (c:UInt8):Bool:=decide (48<=(c.toNat:Int))&&decide ((c.toNat:Int)<=57)
def hN (s:azc):Bool:=decide (s.length<=10)&&(match s with|[]=>false|c::r=>small c&&r.all λc=>small c||digit c)
theorem D7 (s:azc):ye s=some (hN s):=by
 unfold ye;cases s with
 |nil=>rfl
 |cons c r=>
  have gi:((c::r)==([]:azc))=false:=rfl;rw[gi];simp only[cond_false];by_cases lh:10<(c::r).length
  .have:decide ((10:Int)<((c::r).length:Int))=true:=by simp at lh⊢;omega
   rw[this];have ag:decide ((c::r).length<=10)=false:=by simp at lh⊢;omega
   simp only[hN,ag];rfl
  .have:decide ((10:Int)<((c::r).length:Int))=false:=by simp at lh⊢;omega
   rw[this];have ag:decide ((c::r).length<=10)=true:=by simp at lh⊢;omega
   rw[H5];simp only[cond_false,bind_some,Gh];simp only[hN,ag,Bool.true_and];show cond (!small c) _ _=_;cases aa:small c with
   |false=>rfl
   |true=>
    simp only[Bool.not_true,cond_false];rw[qx (n:=(c::r).length) (λi=>some (((c::r).drop i).all λc=>small c||digit c))]
    .simp[aa]
    .intro m;simp only[Gi,Pj];rw[eh (Nat.le_refl _)];simp
    .intro i ai m ih;simp only[Gi,Pj];rw[ev ai,dX _ i ai,et i _ ai (by omega),ih,drop_cons _ i ai];simp only[cond_true,bind_some,Gh,Ce,List.all_cons];show cond (!small _) (cond (!digit _) _ _) _=_;cases small (c::r)[i]<;>cases digit (c::r)[i]<;>rfl
theorem abh (s:azc) (aa:s.length<=140737488355328):GH s=some (hN s):=by
 unfold GH;have bJ:∀m,s.length-1<m->1<=s.length->yp s m ((1:Nat):Int)=some (((s.drop 1).all λc=>small c||digit c)&&(decide (1<=(s.length:Int))&&decide ((s.length:Int)<=10))):=by
  intro m hm ad;refine down s.length (P:=λi=>1<=i->∀m,s.length-i<m->yp s m (i:Int)=some (((s.drop i).all λc=>small c||digit c)&&(decide (1<=(s.length:Int))&&decide ((s.length:Int)<=10)))) ?_ ?_ 1 ad (Nat.le_refl _) m hm
  .intro _ m hm;obtain⟨k,rfl⟩:∃k,m=k+1:=⟨m-1,by omega⟩
   simp only[yp,Kq];rw[eh (Nat.le_refl _)];simp
  .intro i ai ih Fk m hm;obtain⟨k,rfl⟩:∃k,m=k+1:=⟨m-1,by omega⟩
   simp only[yp,Kq];rw[ev ai,dX _ i ai,et i _ ai (by omega),ih (by omega) k (by omega),drop_cons _ i ai];have e:((i:Int)==0)=false:=by simp;omega
   rw[e];simp only[cond_true,cond_false,bind_some,P4,List.all_cons];show cond (!small _) (cond (!digit _) _ _) _=_;cases small s[i]<;>cases digit s[i]<;>rfl
 refine e5 (s.length+1) λm hm=>?_;obtain⟨k,rfl⟩:∃k,m=k+1:=⟨m-1,by omega⟩
 simp only[yp,Kq];cases s with
 |nil=>rfl
 |cons c r=>
  have aw:=bJ k (by simp at hm⊢;omega) (by simp);rw[show((1:Nat):Int)=1 from rfl]at aw;rw[A3 (by simp),H5,asY,aw];have e:((0:Int)==0)=true:=rfl;rw[e];simp only[cond_true,hN];show cond (!small c) _ _=_;have ad:decide (1<=((c::r).length:Int))=true:=by simp;omega
  have ag:decide (((c::r).length:Int)<=10)=decide ((c::r).length<=10):=by
   by_cases h:(c::r).length<=10<;>simp at h⊢<;>omega
  rw[ad,ag];cases small c with
  |false=>simp
  |true=>simp[Bool.and_comm]
def A_ (ws:azb):Bool:=ws.all λw=>(kq w).2
def tN (ws:azb):aze:=ws.map λw=>(kq w).1
def Ba (x:Int):Bool:=decide (0<=x)&&decide (x<=63)
theorem atm (ws:azb) (h:ws.length<=1048577):KX ws=some (if A_ ws=true then(tN ws,true)else([],false)):=by
 have key:∀i,i<=ws.length->∀m,ws.length-i<m->∀v:aze,v.length=i->
   Dg ws m v (i:Int)=some (if A_ (ws.drop i)=true then(v++tN (ws.drop i),true)else([],false)):=by
  refine down ws.length ?_ ?_
  .intro m hm v aF;obtain⟨m,rfl⟩:∃j,m=j+1:=⟨m-1,by omega⟩
   simp only[Dg,QS];rw[eh (Nat.le_refl _),List.drop_length];simp[A_,tN]
  .intro i ai ih m hm v aF;obtain⟨m,rfl⟩:∃j,m=j+1:=⟨m-1,by omega⟩
   simp only[Dg,QS,KW];rw[ev ai,cond_true,dX ws i ai,bind_some,bind_some,drop_cons ws i ai];simp only[A_,tN,List.all_cons,List.map_cons];cases ao:(kq ws[i]).2
   .simp
   .simp only[Bool.not_true,cond_false,Bool.true_and];rw[lJ (by omega) (by omega),bind_some,et i _ ai (by omega),ih m (by omega) _ (by simp[aF])];simp[A_,tN]
 unfold KX;refine e5 (ws.length+1) λm hm=>?_;have:=key 0 (by omega) m (by omega) [] rfl;simpa using this
def xe (ws:azb):Bool:=ws.all λw=>(kq w).2&&Ba (kq w).1
theorem atn (ws:azb) (h:ws.length<=1048577) (hw:∀w∈ws,w.length<=1048576):
  b5 (λn=>z6 ws n [] 0)=some (if xe ws=true then tN ws else [],xe ws&&decide (ws.length<=2)):=by
 have key:∀i,i<=ws.length->∀m,ws.length-i<m->∀v:aze,v.length=i->
   z6 ws m v (i:Int)=some (if xe (ws.drop i)=true then v++tN (ws.drop i)else [],xe (ws.drop i)&&decide (ws.length<=2)):=by
  refine down ws.length ?_ ?_
  .intro m hm v aF;obtain⟨m,rfl⟩:∃j,m=j+1:=⟨m-1,by omega⟩
   simp only[z6,PS];rw[eh (Nat.le_refl _),List.drop_length,cond_false];have e:decide ((v.length:Int)<=2)=decide (ws.length<=2):=by rw[decide_eq_decide];omega
   rw[e];simp[xe,tN]
  .intro i ai ih m hm v aF;obtain⟨m,rfl⟩:∃j,m=j+1:=⟨m-1,by omega⟩
   simp only[z6,PS];rw[ev ai,cond_true,dX ws i ai,bind_some,atg _ (hw _ (List.getElem_mem ai)),bind_some,drop_cons ws i ai];have ato:xe (ws[i]::ws.drop (i+1))=((kq ws[i]).2&&Ba (kq ws[i]).1&&xe (ws.drop (i+1))):=rfl;rw[ato];by_cases ao:(kq ws[i]).2=true
   .simp only[ao,Bool.not_true,cond_false,Bool.true_and,k8,bind_some];by_cases iH:Ba (kq ws[i]).1=true
    .have Ih:=iH;unfold Ba at Ih;rw[Ih,iH];simp only[Bool.not_true,cond_false,Bool.true_and];rw[lJ (by omega) (by omega),bind_some,et i _ ai (by omega),ih m (by omega) _ (by simp[aF])];simp only[tN,List.append_assoc,List.map_cons,List.singleton_append]
    .have abj:Ba (kq ws[i]).1=false:=by simpa using iH
     have Ih:=abj;unfold Ba at Ih;rw[Ih,abj];simp
   .have hE:(kq ws[i]).2=false:=by simpa using ao
    simp[hE]
 refine e5 (ws.length+1) λm hm=>?_;have:=key 0 (by omega) m (by omega) [] rfl;simpa using this
theorem Ii (s:azc) (aa:s.length<=1048576):(40∉s->zY s=some (s.length:Int))/\∀p q,s=p++40::q->40∉p->zY s=some (p.length:Int):=by
 have step:∀i (ai:i<s.length) m,yk s (m+1) (i:Int)=cond (s[i]==40) (some (i:Int)) (yk s m ((i+1:Nat):Int)):=by
  intro i ai m;simp only[yk,PL];rw[ev ai,cond_true,dX s i ai,bind_some,et i _ ai (by omega)];have e:((s[i].toNat:Int)==40)=(s[i]==40):=by
   rw[Bool.eq_iff_iff];simp only[beq_iff_eq];constructor
   .intro h;exact UInt8.toNat_inj.1 (by rw[show(40:UInt8).toNat=40 from rfl];omega)
   .intro h;rw[h];rfl
  rw[e]
 constructor
 .intro h;unfold zY;rw[qx (n:=s.length) (λ_=>some (s.length:Int))]
  .intro m;simp only[yk,PL];rw[eh (Nat.le_refl _)];rfl
  .intro i ai m ih;rw[step i ai m,ih];have:(s[i]==40)=false:=by
    simp only[beq_eq_false_iff_ne,ne_eq];intro e;exact h (e▸List.getElem_mem ai)
   rw[this];rfl
 .rintro p q rfl ax;unfold zY;refine e5 (p.length+1) λm hm=>?_;have key:∀k,k<=p.length->∀m,k<m->yk (p++40::q) m ((p.length-k:Nat):Int)=some (p.length:Int):=by
   intro k;induction k with
   |zero=>
    intro _ m hm;obtain⟨m,rfl⟩:∃j,m=j+1:=⟨m-1,by omega⟩
    rw[Nat.sub_zero,step p.length (by simp) m];have:((p++40::q)[p.length]'(by simp))=40:=by simp
    rw[this];rfl
   |succ k ih=>
    intro aw m hm;obtain⟨m,rfl⟩:∃j,m=j+1:=⟨m-1,by omega⟩
    rw[step (p.length-(k+1)) (by simp;omega) m];have:((p++40::q)[p.length-(k+1)]'(by simp;omega)==40)=false:=by
     simp only[beq_eq_false_iff_ne,ne_eq];rw[List.getElem_append_left (by omega)];intro e;exact ax (e▸List.getElem_mem (by omega))
    rw[this,cond_false,show p.length-(k+1)+1=p.length-k by omega];exact ih (by omega) m (by omega)
  have:=key p.length (Nat.le_refl _) m (by omega);simpa using this
def np (t:bV):Nat:=if t.Kind=2 then 2 else if t.Kind=3 then 1 else 0
theorem L2 (t:bV):np t<=2:=by unfold np;split<;>(try split)<;>omega
theorem abk (t:bV):cond (t.Kind==2) (some 2) (cond (t.Kind==3) (some 1) (some 0))=some (np t:Int):=by
 unfold np;by_cases ag:t.Kind=2
 .simp[ag]
 .by_cases aD:t.Kind=3
  .simp[aD]
  .have aW:(t.Kind==2)=false:=by simpa using ag
   have aU:(t.Kind==3)=false:=by simpa using aD
   rw[aW,aU,if_neg ag,if_neg aD];rfl
def sx (n fT ai:Int):Bool:=decide (fT<=n)&&decide (n<=ai)
def pe (t:bV) (v:Int):Bool:=cond (t.Kind==0) (sx t.Value 0 63) (cond (t.Kind==1) (sx t.Value 0 (v-1)) (cond (t.Kind==2) (sx t.Value 0 8) (cond (t.Kind==3) (t.Value==0) false)))
def sy (v:Int):azu->Nat->Bool
 |[],k=>k==0
 |t::r,k=> !(k==0)&&(pe t v&&sy v r (k+np t-1))
def pY (e:azu) (v most:Int):Bool:=decide ((e.length:Int)<=most)&&sy v e 1
theorem atp (t:bV) (v:Int) (aF: -1000000<=v/\v<=1000000):JX t v=some (pe t v):=by
 unfold JX k8 pe sx;rw[eE (v-1) (by omega)];cases t.Kind==0<;>cases t.Kind==1<;>cases t.Kind==2<;>cases t.Kind==3<;>rfl
theorem atq (t:bV) (v:Int) (aF: -1000000<=v/\v<=1000000):Ku t v=some (pe t v):=by
 unfold Ku GM kX pe sx;rw[eE (v-1) (by omega)];cases t.Kind==0<;>cases t.Kind==1<;>cases t.Kind==2<;>cases t.Kind==3<;>rfl
theorem abl (t:bV):JY t=some (np t:Int):=abk t
theorem abm (t:bV):Kv t=some (np t:Int):=abk t
theorem Tm {k a:Nat} (aw:1<=k) (pr:k<=100000000) (bo:a<=2):i64.wrap ((k:Int)+i64.wrap ((a:Int)-1))=((k+a-1:Nat):Int):=by
 rw[eE ((a:Int)-1) (by omega),eE _ (by omega)];omega
theorem D8 (k:Nat):((k:Int)==0)=(k==0):=by
 by_cases h:k=0
 .subst h;rfl
 .have ad:((k:Int)==0)=false:=by simp;omega
  have ag:(k==0)=false:=by simpa using h
  rw[ad,ag]
theorem atr (e:azu) (v most:Int) (aF: -1000000<=v/\v<=1000000) (he:e.length<=1048576):JZ e v most=some (pY e v most):=by
 unfold JZ pY;by_cases hm:(e.length:Int)<=most
 .have d1:decide (most<(e.length:Int))=false:=by simp;omega
  have d2:decide ((e.length:Int)<=most)=true:=by simpa using hm
  rw[d1,d2,cond_false,Bool.true_and];have key:∀i,i<=e.length->∀(k:Nat) m,k<=1+2*i->e.length-i<m->Cj e v m (k:Int) (i:Int)=some (sy v (e.drop i) k):=by
   refine down e.length ?_ ?_
   .intro k m _ hm;obtain⟨m,rfl⟩:∃j,m=j+1:=⟨m-1,by omega⟩
    simp only[Cj,Po];rw[eh (Nat.le_refl _),List.drop_of_length_le (Nat.le_refl _),D8];rfl
   .intro i ai ih k m aw hm;obtain⟨m,rfl⟩:∃j,m=j+1:=⟨m-1,by omega⟩
    simp only[Cj,Po];rw[ev ai,dX _ i ai,et i _ ai (by omega),drop_cons e i ai,D8];simp only[cond_true,bind_some,atp _ v aF,abl,sy];by_cases bc:k=0
    .subst bc;rfl
    .have ab:(k==0)=false:=by simpa using bc
     have bo:=L2 e[i];rw[ab,Tm (by omega) (by omega) bo,ih _ m (by omega) (by omega)];simp only[cond_false,Bool.not_false,Bool.true_and];cases pe e[i] v<;>rfl
  refine e5 (e.length+1) λm hm=>?_;have:=key 0 (by omega) 1 m (by omega) (by omega);simpa using this
 .have d1:decide (most<(e.length:Int))=true:=by simp;omega
  have d2:decide ((e.length:Int)<=most)=false:=by simpa using hm
  rw[d1,d2];rfl
theorem ats (e:azu) (v most:Int) (aF:0<=v/\v<=29) (ayR:1<=most/\most<=60) (he:e.length<=1048576):Kw e v most=some (pY e v most):=by
 unfold Kw kX pY;have d1:(!(decide (0<=v)&&decide (v<=29)))=false:=by simp;omega
 have d2:(!(decide (1<=most)&&decide (most<=60)))=false:=by simp;omega
 simp only[bind_some,d1,d2,cond_false];by_cases ad:e.length=0
 .have:e=[]:=List.length_eq_zero_iff.1 ad;subst this;simp[sy]
 .by_cases hm:(e.length:Int)<=most
  .have d3:(!(decide ((1:Int)<=(e.length:Int))&&decide ((e.length:Int)<=most)))=false:=by simp;omega
   have d4:decide ((e.length:Int)<=most)=true:=by simpa using hm
   rw[d3,d4,cond_false,Bool.true_and];have key:∀i,i<=e.length->∀(k:Nat) m,k<=1+2*i->e.length-i<m->CX e v m (k:Int) (i:Int)=some (sy v (e.drop i) k):=by
    refine down e.length ?_ ?_
    .intro k m _ hm;obtain⟨m,rfl⟩:∃j,m=j+1:=⟨m-1,by omega⟩
     simp only[CX,Qc];rw[eh (Nat.le_refl _),List.drop_of_length_le (Nat.le_refl _),D8];rfl
    .intro i ai ih k m aw hm;obtain⟨m,rfl⟩:∃j,m=j+1:=⟨m-1,by omega⟩
     simp only[CX,Qc];rw[ev ai,dX _ i ai,et i _ ai (by omega),drop_cons e i ai,D8];simp only[cond_true,bind_some,atq _ v (by omega),abm,sy];by_cases bc:k=0
     .subst bc;rfl
     .have ab:(k==0)=false:=by simpa using bc
      have bo:=L2 e[i];rw[ab,Tm (by omega) (by omega) bo,ih _ m (by omega) (by omega)];simp only[cond_false,Bool.not_false,Bool.true_and];cases pe e[i] v<;>rfl
   refine e5 (e.length+1) λm hm=>?_;have:=key 0 (by omega) 1 m (by omega) (by omega);simpa using this
  .have d3:(!(decide ((1:Int)<=(e.length:Int))&&decide ((e.length:Int)<=most)))=true:=by simp;omega
   have d4:decide ((e.length:Int)<=most)=false:=by simpa using hm
   rw[d3,d4];rfl
def en (p:ca):Nat:=if p.Kind=1\/p.Kind=3\/p.Kind=4 then 1 else if p.Kind=2 then 2 else 0
theorem D9 (p:ca):en p<=2:=by unfold en;split<;>(try split)<;>omega
theorem abn (p:ca) (K:Bool->azh) (hK:∀b,K b=cond b (some 1) (cond (p.Kind==2) (some 2) (some 0))):
  cond (p.Kind==1) (K true) (cond (p.Kind==3) (K true) (K (p.Kind==4)))=some (en p:Int):=by
 simp only[hK,en];by_cases ad:p.Kind=1
 .simp[ad]
 .by_cases aD:p.Kind=3
  .simp[aD]
  .by_cases bh:p.Kind=4
   .simp[bh]
   .by_cases ag:p.Kind=2
    .simp[ag]
    .have aR:(p.Kind==1)=false:=by simpa using ad
     have aU:(p.Kind==3)=false:=by simpa using aD
     have cc:(p.Kind==4)=false:=by simpa using bh
     have aW:(p.Kind==2)=false:=by simpa using ag
     simp[aR,aU,cc,aW,ad,aD,bh,ag]
theorem abo (p:ca):Gk p=some (en p:Int):=by
 unfold Gk;exact abn p (Gj p) λ_=>rfl
theorem abp (p:ca):GK p=some (en p:Int):=by
 unfold GK;exact abn p (GJ p) λ_=>rfl
def yS:azv->Nat->Bool
 |[],k=>k==0
 |p::r,k=> !(k==0)&&yS r (k+en p-1)
def fo:azv->Nat->Option Nat
 |[],0=>some 0
 |[],_+1=>none
 |_::_,0=>some 0
 |p::r,k+1=>(fo r (k+en p)).map (·+1)
theorem Bb (l:azv):fo l 0=some 0:=by cases l<;>rfl
theorem sA {p:ca} {r:azv} {a k:Nat}:fo (p::r) (a+1)=some k↔∃dv,fo r (a+en p)=some dv/\k=dv+1:=by
 simp only[fo,map_eq_some_iff];constructor
 .rintro⟨dv,h,rfl⟩;exact⟨dv,h,rfl⟩
 .rintro⟨dv,h,rfl⟩;exact⟨dv,h,rfl⟩
theorem tO:∀{l:azv} {a k:Nat},fo l a=some k->a<=k/\k<=l.length
 |[],0,k,h=>by simp only[fo,some.injEq]at h;subst h;simp
 |[],a+1,k,h=>by simp[fo]at h
 |_::_,0,k,h=>by simp only[fo,some.injEq]at h;subst h;simp
 |p::r,a+1,k,h=>by
  obtain⟨dv,bF,rfl⟩:=sA.1 h;have:=tO bF;simp only[List.length_cons];omega
theorem Tn:∀(l:azv) (k:Nat),yS l k=(fo l k==some l.length)
 |[],0=>rfl
 |[],k+1=>rfl
 |p::r,0=>rfl
 |p::r,k+1=>by
  have e:k+1+en p-1=k+en p:=by omega
  simp only[yS,e,Tn r (k+en p)];have gi:(k+1==0)=false:=rfl;rw[gi];simp only[Bool.not_false,Bool.true_and,fo];cases fo r (k+en p)with
  |none=>rfl
  |some n=>simp
theorem D_:∀{l:azv} {a b k:Nat},fo l (a+b)=some k->∃bX cu,fo l a=some bX/\fo (l.drop bX) b=some cu/\k=bX+cu
 |l,0,b,k,h=>⟨0,k,Bb l,by simpa using h,by omega⟩
 |[],a+1,b,k,h=>by rw[show a+1+b=(a+b)+1 by omega]at h;simp[fo]at h
 |p::r,a+1,b,k,h=>by
  rw[show a+1+b=(a+b)+1 by omega]at h;obtain⟨dv,bF,rfl⟩:=sA.1 h;rw[show a+b+en p=(a+en p)+b by omega]at bF;obtain⟨bX,cu,ad,ag,rfl⟩:=D_ bF;exact⟨bX+1,cu,sA.2 ⟨bX,ad,rfl⟩,by simpa using ag,by omega⟩
theorem abq:∀{l:azv} {a k:Nat},fo l a=some k->∀i,i<k->∃m,1<=m/\fo (l.drop i) m=some (k-i)
 |[],0,k,h,i,ai=>by simp only[fo,some.injEq]at h;omega
 |[],a+1,k,h,i,ai=>by simp[fo]at h
 |_::_,0,k,h,i,ai=>by simp only[fo,some.injEq]at h;omega
 |p::r,a+1,k,h,i,ai=>by
  cases i with
  |zero=>exact⟨a+1,by omega,by simpa using h⟩
  |succ i=>
   obtain⟨dv,bF,rfl⟩:=sA.1 h;obtain⟨m,ad,ag⟩:=abq bF i (by omega);exact⟨m,ad,by simp only[List.drop_succ_cons];rw[ag];congr 1;omega⟩
theorem att {l:azv} {a k i:Nat} (h:fo l a=some k) (ai:i<k):∃e,fo (l.drop i) 1=some e/\i+e<=k/\1<=e:=by
 obtain⟨m,ad,ag⟩:=abq h i ai;obtain⟨m,rfl⟩:∃j,m=1+j:=⟨m-1,by omega⟩
 obtain⟨bX,cu,aD,bh,b1⟩:=D_ ag;have:=tO aD;exact⟨bX,aD,by omega,by omega⟩
theorem To {k a:Nat} (aw:1<=k) (pr:k<=100000000) (bo:a<=2):i64.wrap ((k:Int)+i64.wrap ((a:Int)-1))=((k+a-1:Nat):Int):=by
 rw[eE ((a:Int)-1) (by omega),eE _ (by omega)];omega
theorem atu (e:azv) (he:e.length<=1048576):JV e=some ((decide (1<=e.length)&&decide (e.length<=20))&&yS e 1):=by
 unfold JV;by_cases hm:1<=e.length/\e.length<=20
 .have d1:(((e.length:Int)==0)||decide ((20:Int)<(e.length:Int)))=false:=by
   rw[Bool.or_eq_false_iff,beq_eq_false_iff_ne,decide_eq_false_iff_not];omega
  have d2:(decide (1<=e.length)&&decide (e.length<=20))=true:=by simp;omega
  rw[d1,d2,cond_false,Bool.true_and];have key:∀i,i<=e.length->∀(k:Nat) m,k<=1+2*i->e.length-i<m->Cf e m (k:Int) (i:Int)=some (yS (e.drop i) k):=by
   refine down e.length ?_ ?_
   .intro k m _ hm;obtain⟨m,rfl⟩:∃j,m=j+1:=⟨m-1,by omega⟩
    simp only[Cf,Pk];rw[eh (Nat.le_refl _),List.drop_of_length_le (Nat.le_refl _),D8];rfl
   .intro i ai ih k m aw hm;obtain⟨m,rfl⟩:∃j,m=j+1:=⟨m-1,by omega⟩
    simp only[Cf,Pk];rw[ev ai,dX _ i ai,et i _ ai (by omega),drop_cons e i ai,D8];simp only[cond_true,bind_some,abo,yS];by_cases bc:k=0
    .subst bc;rfl
    .have ab:(k==0)=false:=by simpa using bc
     have bo:=D9 e[i];rw[ab,To (by omega) (by omega) bo,ih _ m (by omega) (by omega)];simp only[cond_false,Bool.not_false,Bool.true_and]
  refine e5 (e.length+1) λm hm=>?_;have:=key 0 (by omega) 1 m (by omega) (by omega);simpa using this
 .have d1:(((e.length:Int)==0)||decide ((20:Int)<(e.length:Int)))=true:=by
   by_cases h:e.length=0
   .simp[h]
   .have:decide ((20:Int)<(e.length:Int))=true:=by simp;omega
    rw[this,Bool.or_true]
  have d2:(decide (1<=e.length)&&decide (e.length<=20))=false:=by
   rw[Bool.and_eq_false_iff,decide_eq_false_iff_not,decide_eq_false_iff_not];omega
  rw[d1,d2];rfl
def tP (i:Nat):Option Nat->Int
 |none=> -1
 |some n=>((i+n:Nat):Int)
theorem abr (d:a6) (ao:d.Body.length<=1048576) (i0:Nat) (bc:i0<=d.Body.length):GL d (i0:Int)=some (tP i0 (fo (d.Body.drop i0) 1)):=by
 unfold GL;have key:∀i,i<=d.Body.length->∀(k:Nat) m,k<=1+2*i->d.Body.length-i<m->CV d m (i:Int) (k:Int)=some (tP i (fo (d.Body.drop i) k)):=by
  refine down d.Body.length ?_ ?_
  .intro k m _ hm;obtain⟨m,rfl⟩:∃j,m=j+1:=⟨m-1,by omega⟩
   simp only[CV,P8];rw[List.drop_of_length_le (Nat.le_refl _)];cases k with
   |zero=>rw[A7];simp[fo,tP]
   |succ k=>
    rw[A3 (succ_pos k)];have:decide ((d.Body.length:Int)<=(d.Body.length:Int))=true:=by simp
    rw[this];rfl
  .intro i ai ih k m aw hm;obtain⟨m,rfl⟩:∃j,m=j+1:=⟨m-1,by omega⟩
   simp only[CV,P8];cases k with
   |zero=>rw[A7,Bb];simp[tP]
   |succ k=>
    have d1:decide ((d.Body.length:Int)<=(i:Int))=false:=by simp;omega
    rw[A3 (succ_pos k),d1,dX _ i ai,et i _ ai (by omega),drop_cons _ i ai];simp only[cond_true,cond_false,bind_some,abp];have bo:=D9 d.Body[i];rw[To (by omega) (by omega) bo,ih _ m (by omega) (by omega),show k+1+en d.Body[i]-1=k+en d.Body[i] by omega];simp only[fo];cases fo (d.Body.drop (i+1)) (k+en d.Body[i])with
    |none=>rfl
    |some n=>simp only[map_some,tP];congr 2;omega
 refine e5 (d.Body.length+1) λm hm=>?_;refine down d.Body.length (P:=λ_=>True) trivial (λ_ _ _=>trivial) 0 (zero_le _)|>λ_=>?_;have bX:=key i0 bc 1 m (by omega) (by omega);simpa using bX
theorem abt (b:azv) (ab:b.length<=1048576) (i0 n:Nat) (h:fo (b.drop i0) 1=some n):Gm b (i0:Int)=some ((i0+n:Nat):Int):=by
 unfold Gm;have bc:i0<b.length:=by
  have:=tO h;rw[List.length_drop]at this;omega
 have key:∀i,i<=b.length->∀(k n:Nat) m,k<=1+2*i->b.length-i<m->fo (b.drop i) k=some n->Cg b m (i:Int) (k:Int)=some ((i+n:Nat):Int):=by
  refine down b.length ?_ ?_
  .intro k n m _ hm he;obtain⟨m,rfl⟩:∃j,m=j+1:=⟨m-1,by omega⟩
   simp only[Cg,Pm];rw[List.drop_of_length_le (Nat.le_refl _)]at he;cases k with
   |zero=>rw[A7];simp only[fo,some.injEq]at he;subst he;simp
   |succ k=>simp[fo]at he
  .intro i ai ih k n m aw hm he;obtain⟨m,rfl⟩:∃j,m=j+1:=⟨m-1,by omega⟩
   simp only[Cg,Pm];cases k with
   |zero=>rw[Bb]at he;cases he;rw[A7];simp
   |succ k=>
    rw[drop_cons _ i ai]at he;obtain⟨Nn,qO,rfl⟩:=sA.1 he;rw[A3 (succ_pos k),dX _ i ai,et i _ ai (by omega)];simp only[cond_true,bind_some,abo];have bo:=D9 b[i];rw[To (by omega) (by omega) bo,show k+1+en b[i]-1=k+en b[i] by omega,ih _ Nn m (by omega) (by omega) qO];congr 2;omega
 refine e5 (b.length+1) λm hm=>?_;have bX:=key i0 (by omega) 1 n m (by omega) (by omega) h;simpa using bX
def below (p:ca) (s:dR):dR:=⟨if p.Kind=4 then s.scope+1 else s.scope,p.Kind==1⟩
def hh:azv->azC->azC
 |[],_=>[]
 |_::_,[]=>[]
 |p::r,s::st=>s::hh r (List.replicate (en p) (below p s)++st)
theorem atv (l:azv):hh l []=[]:=by cases l<;>rfl
theorem Bc:∀{l:azv} {st:azC} {k:Nat},fo l st.length=some k->(hh l st).length=k
 |[],[],k,h=>by simp only[List.length_nil,fo,some.injEq]at h;subst h;rfl
 |[],s::st,k,h=>by simp[fo]at h
 |p::r,[],k,h=>by simp only[List.length_nil,fo,some.injEq]at h;subst h;rfl
 |p::r,s::st,k,h=>by
  obtain⟨dv,bF,rfl⟩:=sA.1 h;simp only[hh,List.length_cons];rw[Bc (k:=dv) (by rw[List.length_append,List.length_replicate,Nat.add_comm];exact bF)]
theorem Tp:∀{l:azv} {s1 s2:azC} {k:Nat},fo l s1.length=some k->hh l (s1++s2)=hh l s1++hh (l.drop k) s2
 |[],[],s2,k,h=>by simp only[List.length_nil,fo,some.injEq]at h;subst h;rfl
 |[],s::st,s2,k,h=>by simp[fo]at h
 |p::r,[],s2,k,h=>by simp only[List.length_nil,fo,some.injEq]at h;subst h;simp[hh]
 |p::r,s::st,s2,k,h=>by
  obtain⟨dv,bF,rfl⟩:=sA.1 h;simp only[hh,List.cons_append,List.drop_succ_cons];rw[<-List.append_assoc,Tp (k:=dv) (by rw[List.length_append,List.length_replicate,Nat.add_comm];exact bF)]
def patch (out:azC) (i:Nat) (new:azC):azC:=out.take i++(new++out.drop (i+new.length))
theorem atw (out:azC) (i:Nat):patch out i []=out:=by simp[patch]
theorem abu {out:azC} {i:Nat} {new:azC} (h:i+new.length<=out.length):(patch out i new).length=out.length:=by
 simp[patch];omega
theorem abv {out:azC} {i j:Nat} {a b:azC} (bG:j=i+a.length) (h:i+a.length+b.length<=out.length):patch (patch out i a) j b=patch out i (a++b):=by
 subst bG;unfold patch;have aR:(out.take i).length=i:=by rw[List.length_take];omega
 have t1:(out.take i++(a++out.drop (i+a.length))).take (i+a.length)=out.take i++a:=by
  rw[<-List.append_assoc,List.take_left' (by rw[List.length_append,aR])]
 have t2:(out.take i++(a++out.drop (i+a.length))).drop (i+a.length+b.length)=out.drop (i+a.length+b.length):=by
  rw[<-List.append_assoc,<-List.drop_drop,List.drop_left' (by rw[List.length_append,aR]),List.drop_drop]
 rw[t1,t2];simp only[List.append_assoc,List.length_append,Nat.add_assoc]
theorem atx {out:azC} {i:Nat} {s:dR} (h:i<out.length):out.set i s=patch out i [s]:=by
 unfold patch;apply List.ext_getElem?;intro j;rw[List.getElem?_set];rcases Nat.lt_trichotomy i j with L3|L3|L3
 .rw[if_neg (by omega),List.getElem?_append_right (by simp;omega)];have aR:(out.take i).length=i:=by simp;omega
  rw[aR];obtain⟨d,rfl⟩:∃d,j=i+(d+1):=⟨j-i-1,by omega⟩
  rw[show i+(d+1)-i=d+1 by omega];simp only[List.singleton_append,List.getElem?_cons_succ,List.length_singleton,List.getElem?_drop];congr 1;omega
 .subst L3;rw[if_pos rfl,if_pos h,List.getElem?_append_right (by simp;omega)];have aR:(out.take i).length=i:=by simp;omega
  rw[aR];simp
 .rw[if_neg (by omega),List.getElem?_append_left (by simp;omega),List.getElem?_take,if_pos L3]
theorem aty (n:Int) (h:0<=n) (ag:n<=1000000):i64.wrap (n+1)=n+1:=eE _ (by omega)
theorem abw {rec:Int->dR->azC->a6->Option (Int×azC)} {d:a6} {n:Nat} (ao:d.Body.length<=1048576)
  (L4:∀(at_ k:Nat) (s:dR) (out:azC),out.length=d.Body.length->fo (d.Body.drop at_) 1=some k->k<=n->0<=s.scope->s.scope+k<=1000000->
   rec (at_:Int) s out d=some (((at_+k:Nat):Int),patch out at_ (hh (d.Body.drop at_) [s])))
  (ej:Int) (p:ca) (f:Nat) (bH:f<=2):∀(c j at_ k:Nat) (out:azC) (m:Nat),j+c=f->c<m->out.length=d.Body.length->fo (d.Body.drop at_) c=some k->k<=n->0<=ej->ej+k<=1000000->
   z_ rec d ej p (f:Int) m out (at_:Int) (j:Int)=some (((at_+k:Nat):Int),patch out at_ (hh (d.Body.drop at_) (List.replicate c ⟨ej,p.Kind==1⟩)))
 |0,j,at_,k,out,m,bG,hm,bO,he,aw,bc,ad=>by
  obtain⟨m,rfl⟩:∃i,m=i+1:=⟨m-1,by omega⟩
  rw[Bb]at he;cases he;simp only[z_,P9];rw[eh (by omega)];simp[atv,atw]
 |c+1,j,at_,k,out,m,bG,hm,bO,he,aw,bc,ad=>by
  obtain⟨m,rfl⟩:∃i,m=i+1:=⟨m-1,by omega⟩
  rw[Nat.add_comm c 1]at he;obtain⟨bX,cu,aR,aW,rfl⟩:=D_ he;have ic:=tO aR;have l2:=tO aW;rw[List.length_drop]at ic;rw[List.drop_drop,List.length_drop]at l2;have hlen:(hh (d.Body.drop at_) [⟨ej,p.Kind==1⟩]).length=bX:=Bc (st:=[_]) aR;simp only[z_,P9];rw[ev (by omega),L4 at_ bX _ out bO aR (by omega) bc (by show ej+(bX:Int)<=_;omega),et j f (by omega) (by omega)];simp only[cond_true,bind_some];have fO:(patch out at_ (hh (d.Body.drop at_) [⟨ej,p.Kind==1⟩])).length=d.Body.length:=by
   rw[abu (by rw[hlen];omega),bO]
  rw[List.drop_drop]at aW;rw[abw ao L4 ej p f bH c (j+1) (at_+bX) cu _ m (by omega) (by omega) fO aW (by omega) bc (by omega)];have atz:(hh (d.Body.drop (at_+bX)) (List.replicate c ⟨ej,p.Kind==1⟩)).length=cu:=Bc (by rw[List.length_replicate];exact aW);have atA:hh (d.Body.drop at_) (List.replicate (c+1) ⟨ej,p.Kind==1⟩)=hh (d.Body.drop at_) [⟨ej,p.Kind==1⟩]++hh (d.Body.drop (at_+bX)) (List.replicate c ⟨ej,p.Kind==1⟩):=by
   rw[List.replicate_succ,<-List.singleton_append,Tp (k:=bX) (s1:=[_]) aR,List.drop_drop]
  rw[atA,abv (by rw[hlen]) (by rw[hlen,atz];omega),Nat.add_assoc]
end Go.k6
