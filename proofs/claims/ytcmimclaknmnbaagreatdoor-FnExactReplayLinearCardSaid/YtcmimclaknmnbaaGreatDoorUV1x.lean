/- Part of a proof that a law returns true for every input. No condition. -/
import Derived.Test.YtcmimclaknmnbaaGreatDoorUV0x
import Derived.Lib.ParseIntB
import Derived.Lib.ItoaNum
import Derived.Test.YtcmimclaknmnbaaGreatDoorP3
namespace Go.lT
open Option Go.IntKind Nat Or
open Go Go.cC
def CC:Lib.NumEnd Nat:=Lib.parseUintB 64 []
theorem Uo:∀(d:anR) (n k:Nat),n<10^k->k+d.length<=18->Lib.parseUintM 18446744073709551615 n d=if d.all fp=true then .ok (j1 n d)else CC
 |[],n,k,_,_=>by simp[Lib.parseUintM,j1]
 |c::r,n,k,aN,hk=>by
  simp only[List.length_cons]at hk;have rC:n<10^17:=Nat.lt_of_lt_of_le aN (Nat.pow_le_pow_right (by omega) (by omega));simp only[Lib.parseUintM];have ja:(c::r).all fp=(fp c&&r.all fp):=rfl;by_cases ai:fp c=true
  .have rq:=ai;simp only[fp,Bool.and_eq_true,decide_eq_true_eq]at rq;have L1:(c::r).all fp=r.all fp:=by rw[ja,ai];rfl
   rw[if_pos rq,if_neg (by omega),if_neg (by omega),L1,show n*10+(c.toNat-48)=10*n+(c.toNat-48) by omega,Uo r _ (k+1) (by rw[Nat.pow_succ];omega) (by omega)];rfl
  .have rq:¬(48<=c.toNat/\c.toNat<=57):=λh=>ai (by simp only[fp,Bool.and_eq_true,decide_eq_true_eq];exact h);have ajQ:fp c=false:=by simpa using ai
   have L1:(c::r).all fp=false:=by rw[ja,ajQ];rfl
   rw[if_neg rq,L1];simp;rfl
theorem ajR (n x:Nat) (aN:1<=n) (ag:x<=9):Lib.decDigits (10*n+x)=Lib.decDigits n++[UInt8.ofNat (48+x)]:=by
 rw[Lib.decDigits,dif_neg (by omega),show(10*n+x)/10=n by omega,show(10*n+x)%10=x by omega]
theorem Up:∀(d:anR) (n:Nat),1<=n->d.all fp=true->Lib.decDigits (j1 n d)=Lib.decDigits n++d
 |[],n,_,_=>by simp[j1]
 |c::r,n,aN,ae=>by
  simp only[List.all_cons,Bool.and_eq_true]at ae;have ai:=ae.1;have e:=CB c ae.1;simp only[fp,Bool.and_eq_true,decide_eq_true_eq]at ai;show Lib.decDigits (j1 (10*n+(c.toNat-48)) r)=_;rw[Up r _ (by omega) ae.2,ajR n (c.toNat-48) aN (by omega),e];simp
theorem L2 (u:Nat):∃c t,Lib.decDigits u=c::t/\fp c=true/\(1<=u->c≠48):=by
 induction u using Nat.strongRecOn with
 |_ u ih=>
  rw[Lib.decDigits];by_cases h:u<10
  .rw[dif_pos h];refine⟨_,_,rfl,?_,?_⟩
   .have:∀i:Fin 10,fp (UInt8.ofNat (48+i.val))=true:=by decide
    exact this ⟨u,h⟩
   .have:∀i:Fin 10,1<=i.val->UInt8.ofNat (48+i.val)≠48:=by decide
    exact this ⟨u,h⟩
  .rw[dif_neg h];obtain⟨c,t,h1,ab,ay⟩:=ih (u/10) (by omega);exact⟨c,t++_,by rw[h1];rfl,ab,λ_=>ay (by omega)⟩
theorem Uq (c:UInt8) (r:anR) (ae:(c::r).all fp=true):Lib.decDigits (iJ (c::r))=c::r↔(c≠48\/r=[]):=by
 simp only[List.all_cons,Bool.and_eq_true]at ae;have ai:=ae.1;have e:=CB c ae.1;simp only[fp,Bool.and_eq_true,decide_eq_true_eq]at ai;have aD:iJ (c::r)=j1 (c.toNat-48) r:=by
  show j1 (10*0+(c.toNat-48)) r=_;rw[Nat.mul_zero,Nat.zero_add]
 rw[aD];by_cases kA:c=48
 .subst kA;constructor
  .intro h;cases r with
   |nil=>exact .inr rfl
   |cons x t=>
    exfalso;obtain⟨jU,Ix,h1,ab,ay⟩:=L2 (j1 ((48:UInt8).toNat-48) (x::t));rw[h1]at h;injection h with aT bp;by_cases bX:1<=j1 ((48:UInt8).toNat-48) (x::t)
    .exact ay bX aT
    .have ba:j1 ((48:UInt8).toNat-48) (x::t)=0:=by omega
     rw[ba,Lib.decDigits,dif_pos (by omega)]at h1;injection h1 with _ bM;rw[<-bM]at bp;cases bp
  .rintro(h|rfl)
   .exact(h rfl).elim
   .show Lib.decDigits 0=_;rw[Lib.decDigits,dif_pos (by omega)];rfl
 .have h1:1<=c.toNat-48:=by
   rcases Nat.lt_or_ge 48 c.toNat with h|h
   .omega
   .exact(kA (UInt8.toNat_inj.1 (by rw[show(48:UInt8).toNat=48 from rfl];omega))).elim
  refine⟨λ_=>.inl kA,λ_=>?_⟩;rw[Up r _ h1 ae.2,Lib.decDigits,dif_pos (by omega),e];rfl
theorem L3 (d:anR) (h:d.all fp=true) (hl:d.length<=18):iJ d<10^18:=by
 have:=Uk d 0 0 h (by omega);have ab:(10:Nat)^(0+d.length)<=10^18:=Nat.pow_le_pow_right (by omega) (by omega);exact Nat.lt_of_lt_of_le this ab
theorem L4 (d:anR) (hl:d.length<=18):Lib.parseUintB 64 d=if d≠[]/\d.all fp=true then .ok (iJ d)else CC:=by
 unfold Lib.parseUintB;by_cases h:d=[]
 .rw[if_pos h,if_neg (λbn=>bn.1 h)];rfl
 .rw[if_neg h,show(2^64-1:Nat)=18446744073709551615 from rfl,Uo d 0 0 (by omega) (by omega)];by_cases ae:d.all fp=true
  .rw[if_pos ae,if_pos ⟨h,ae⟩];rfl
  .rw[if_neg ae,if_neg (λbn=>ae bn.2)]
def sb (s:anR):Int×Bool:=match Lib.parseIntB 64 s with
 | .ok v=>if Lib.itoa v=s then(v,true)else(0,false)
 |_=>(0,false)
theorem L5 {k:Nat} {d:anR} (h:¬(d≠[]/\d.all fp=true)):nf k d=(0,false):=by
 unfold nf;rw[if_neg (λbn=>h ⟨bn.1,bn.2.2.1⟩)]
theorem Ur {k:Nat} {d:anR} (h1:d.head? =some 48) (ab:1<d.length+k):nf k d=(0,false):=by
 unfold nf;rw[if_neg (λbn=>bn.2.2.2 ⟨h1,ab⟩)]
theorem Us {k:Nat} {d:anR} (h:d≠[]/\d.length<=18/\d.all fp=true/\¬(d.head? =some 48/\1<d.length+k)):nf k d=(if k=1 then-(iJ d:Int)else iJ d,true):=by
 unfold nf;rw[if_pos h]
theorem afe (s:anR) (h:(if s.head? =some 45 then s.tail else s).length<=18):Lib.parseIntB 64 s≠.range/\sb s=hU s:=by
 unfold sb hU;cases s with
 |nil=>exact⟨by simp[Lib.parseIntB],by simp[Lib.parseIntB,nf]⟩
 |cons c r=>
  by_cases L6:c=45
  .subst L6;rw[if_pos (show(45::r).head? =some 45 from rfl)]at h⊢;simp only[List.tail_cons]at h⊢;have LR:(45:UInt8).toNat=45:=rfl;simp only[Lib.parseIntB,LR,or_true,if_true];rw[L4 r h];by_cases ax:r≠[]/\r.all fp=true
   .rw[if_pos ax];have cp:=L3 r ax.2 h;have tH:(2:Nat)^(64-1)=9223372036854775808:=by decide
    simp only[not_true,false_and,if_false,tH,true_and];rw[if_neg (by omega)];refine⟨by simp,?_⟩;simp only;obtain⟨x,t,rfl⟩:∃x t,r=x::t:=by
     cases r with
     |nil=>exact(ax.1 rfl).elim
     |cons x t=>exact⟨x,t,rfl⟩
    have CD:=Uq x t ax.2;by_cases kA:x=48
    .rw[Ur (by rw[kA];rfl) (by simp)];rw[if_neg];intro ak;by_cases ba:iJ (x::t)=0
     .rw[ba]at ak;have hG:Lib.decDigits 0=[48]:=by rw[Lib.decDigits,dif_pos (by omega)];rfl
      simp[Lib.itoa,hG]at ak
     .unfold Lib.itoa at ak;rw[if_pos (by omega)]at ak;injection ak with _ ak;rw[show(-(iJ (x::t):Int)).natAbs=iJ (x::t) by omega]at ak;obtain⟨jU,Ix,eH,eB,gD⟩:=L2 (iJ (x::t));rw[eH]at ak;injection ak with Av _;exact gD (by omega) (Av.trans kA)
    .have xU:1<=iJ (x::t):=by
      have:=(CD.2 (.inl kA))
      rcases eq_zero_or_pos (iJ (x::t))with ba|ba
      .rw[ba,Lib.decDigits,dif_pos (by omega)]at this;injection this with this _;exact(kA this.symm).elim
      .exact ba
     rw[Us ⟨by simp,h,ax.2,λbn=>kA (some.inj bn.1)⟩];rw[if_pos]
     .simp
     .unfold Lib.itoa;rw[if_pos (by omega),show(-(iJ (x::t):Int)).natAbs=iJ (x::t) by omega,CD.2 (.inl kA)]
   .rw[if_neg ax,L5 ax];exact⟨by simp[CC,Lib.parseUintB],rfl⟩
  .have hN:¬((c::r).head? =some 45):=λe=>L6 (some.inj e);rw[if_neg hN]at h⊢;have n45:c.toNat≠45:=λe=>L6 (UInt8.toNat_inj.1 (by rw[show(45:UInt8).toNat=45 from rfl];exact e));have tH:(2:Nat)^(64-1)=9223372036854775808:=by decide
   by_cases Ut:c.toNat=43
   .simp only[Lib.parseIntB,Ut,true_or,if_true];have Uu:r.length<=18:=by simp at h;omega
    rw[L4 r Uu];have iR:nf 0 (c::r)=(0,false):=L5 λbn=>by
     have:=bn.2;simp only[List.all_cons,Bool.and_eq_true]at this;have:=this.1;simp only[fp,Bool.and_eq_true,decide_eq_true_eq]at this;omega
    rw[iR];by_cases ax:r≠[]/\r.all fp=true
    .rw[if_pos ax];have cp:=L3 r ax.2 Uu;simp only[show¬((43:Nat)=45)from by decide,not_false_eq_true,true_and,false_and,if_false,tH];rw[if_neg (by omega)];refine⟨by simp,?_⟩;simp only;rw[if_neg];intro ak;unfold Lib.itoa at ak;rw[if_neg (by omega),Int.toNat_natCast]at ak;obtain⟨jU,Ix,eH,eB,_⟩:=L2 (iJ r);rw[eH]at ak;injection ak with ak _;rw[ak]at eB;simp only[fp,Bool.and_eq_true,decide_eq_true_eq]at eB;omega
    .rw[if_neg ax];exact⟨by simp[CC,Lib.parseUintB],rfl⟩
   .simp only[Lib.parseIntB,Ut,n45,_root_.or_self,if_false];rw[L4 (c::r) h];by_cases ax:(c::r)≠[]/\(c::r).all fp=true
    .rw[if_pos ax];have cp:=L3 (c::r) ax.2 h;simp only[not_false_eq_true,true_and,false_and,if_false,tH];rw[if_neg (by omega)];refine⟨by simp,?_⟩;simp only;have CD:=Uq c r ax.2;have ajS:Lib.itoa (iJ (c::r):Int)=Lib.decDigits (iJ (c::r)):=by
      unfold Lib.itoa;rw[if_neg (by omega),Int.toNat_natCast]
     rw[ajS];by_cases CE:c≠48\/r=[]
     .rw[if_pos (CD.2 CE),Us ⟨by simp,h,ax.2,λbn=>by
       rcases CE with h1|h1
       .exact h1 (some.inj bn.1)
       .subst h1;simp at bn⟩]
      simp
     .have kA:c=48:=by
       by_cases q:c=48
       .exact q
       .exact(CE (.inl q)).elim
      have cI:r≠[]:=λq=>CE (.inr q);rw[if_neg (λbn=>CE (CD.1 bn)),Ur (by rw[kA];rfl) (by
       cases r with
       |nil=>exact(cI rfl).elim
       |cons x t=>simp)]
    .rw[if_neg ax,L5 ax];exact⟨by simp[CC,Lib.parseUintB],rfl⟩
theorem join_one (x s:anR):gV [x] s=x:=by simp[gV,List.intercalate,List.intersperse]
theorem join_cons (x y:anR) (r:anQ) (s:anR):gV (x::y::r) s=x++(s++gV (y::r) s):=by simp[gV,List.intercalate,List.intersperse]
theorem Uv (s:anR):∀(l:anQ) (y:anR),l≠[]->gV (l++[y]) s=gV l s++(s++y)
 |[],_,h=>(h rfl).elim
 |[x],y,_=>by rw[List.singleton_append,join_cons,join_one,join_one]
 |x::z::r,y,_=>by
  rw[List.cons_append,List.cons_append,join_cons,join_cons,<-List.cons_append,Uv s (z::r) y (by simp)];simp only[List.append_assoc]
theorem CF (c:UInt8) (k:Nat):∀l:anQ,(∀x∈l,x.length<=k)->(gV l [c]).length<=l.length*(k+1)
 |[],_=>by simp[gV,List.intercalate,List.intersperse]
 |[x],h=>by rw[join_one];have:=h x (by simp);simp only[List.length_cons,List.length_nil];omega
 |x::y::r,h=>by
  rw[join_cons];have h1:=h x (by simp);have ab:=CF c k (y::r) λz bC=>h z (by simp[bC]);simp only[List.length_append,List.length_cons,List.length_nil,Nat.add_mul]at ab⊢;omega
theorem ajT (n:Nat) (h:n<100):BM (n:Int)=some (mM n):=by
 unfold BM BL;first
 |(rw[if_pos ⟨by omega,by omega,rfl⟩];rfl)
 |(rw[if_pos ⟨by omega,by omega,rfl⟩]
   unfold E2 mM wG;rw[if_neg (by omega),Int.toNat_natCast];by_cases h1:n<10
   .rw[dif_pos h1,if_pos h1];rfl
   .unfold wG;rw[dif_neg h1,if_neg h1,dif_pos (by omega)];rfl)
theorem ajU (n:Nat):(mM n).length<=2:=by unfold mM;split<;>simp
theorem ajV {α γ β:Type} {L:Nat->List γ->Int->Option β} (a:List α) (t:α->γ) (w:List γ) (hw:w.length=a.length) (E:List γ->Option β)
  (ba:∀m v,L (m+1) v (a.length:Int)=E v)
  (U:∀i (h:i<a.length) m v,v.length=a.length->L (m+1) v (i:Int)=L m (v.set i (t a[i])) ((i+1:Nat):Int)):lim (λm=>L m w 0)=E (a.map t):=by
 have key:∀i,i<=a.length->∀m,a.length-i<m->L m ((a.take i).map t++w.drop i) (i:Int)=E (a.map t):=by
  refine down a.length ?_ ?_
  .intro m hm;obtain⟨m,rfl⟩:∃j,m=j+1:=⟨m-1,by omega⟩
   rw[ba,List.take_length,List.drop_of_length_le (by omega),List.append_nil]
  .intro i ak ih m hm;obtain⟨m,rfl⟩:∃j,m=j+1:=⟨m-1,by omega⟩
   have e:((a.take i).map t).length=i:=by simp;omega
   rw[U i ak m _ (by simp only[List.length_append,e,List.length_drop];omega),<-ih m (by omega)];congr 1;rw[List.set_append_right i _ (by rw[e];omega),e,Nat.sub_self,drop_cons w i (by omega),List.set_cons_zero,List.take_succ_eq_append_getElem ak,List.map_append];simp
 refine eU (a.length+1) λm hm=>?_;have:=key 0 (by omega) m (by omega);simpa using this
def lD (n:Int):anR:=mM n.toNat
theorem CG (n:Int):(lD n).length<=2:=ajU _
theorem ajW {x:Int} (h:0<=x/\x<=63):BM x=some (lD x):=by
 have:=ajT x.toNat (by omega)
 rwa [Int.toNat_of_nonneg h.1]at this
theorem L7 (a:anT) (h:a.length<=64) (aD:∀x∈a,0<=x/\x<=63):yP a [44]=some (gV (a.map lD) [44]):=by
 unfold yP;rw[uV 16 (by omega) (by omega)];simp only[bind_some,Int.toNat_natCast];have bo:strings_Join (a.map lD) [44]=some (gV (a.map lD) [44]):=by
  unfold strings_Join;have:=CF 44 2 (a.map lD) λx ag=>by
   obtain⟨y,_,rfl⟩:=List.mem_map.1 ag;exact CG y
  rw[List.length_map]at this;rw[if_pos ⟨by rw[List.length_map];omega,by omega⟩]
 rw[ajV (L:=yO a [44]) a lD (List.replicate a.length []) (by simp) (λv=>(strings_Join v [44]).bind λbu=>some bu) (λm v=>?_) (λi ak m v hl=>?_),bo]
 .rfl
 .simp only[yO,JW];rw[eT (Nat.le_refl _)];rfl
 .simp only[yO,JW];rw[fq ak,eu _ i ak,fV i _ ak (by omega),eu v i (by omega)];simp only[cond_true,bind_some];rw[ajW (aD _ (List.getElem_mem ak))];simp only[bind_some,Int.toNat_natCast]
def small (c:UInt8):Bool:=decide (97<=(c.toNat:Int))&&decide ((c.toNat:Int)<=122)
def digit (c:UInt8):Bool:=decide (48<=(c.toNat:Int))&&decide ((c.toNat:Int)<=57)
def me (s:anR):Bool:=decide (s.length<=10)&&(match s with|[]=>false|c::r=>small c&&r.all λc=>small c||digit c)
theorem L8 (s:anR):Bt s=some (me s):=by
 unfold Bt;cases s with
 |nil=>rfl
 |cons c r=>
  have fA:((c::r)==([]:anR))=false:=rfl;rw[fA];simp only[cond_false];by_cases gW:10<(c::r).length
  .have:decide ((10:Int)<((c::r).length:Int))=true:=by simp at gW⊢;omega
   rw[this];have ab:decide ((c::r).length<=10)=false:=by simp at gW⊢;omega
   simp only[me,ab];rfl
  .have:decide ((10:Int)<((c::r).length:Int))=false:=by simp at gW⊢;omega
   rw[this];have ab:decide ((c::r).length<=10)=true:=by simp at gW⊢;omega
   rw[Ct];simp only[cond_false,bind_some,Br];simp only[me,ab,Bool.true_and];show cond (!small c) _ _=_;cases U:small c with
   |false=>rfl
   |true=>
    simp only[Bool.not_true,cond_false];rw[uT (n:=(c::r).length) (λi=>some (((c::r).drop i).all λc=>small c||digit c))]
    .simp[U]
    .intro m;simp only[Bs,Je];rw[eT (Nat.le_refl _)];simp
    .intro i ak m ih;simp only[Bs,Je];rw[fq ak,eu _ i ak,fV i _ ak (by omega),ih,drop_cons _ i ak];simp only[cond_true,bind_some,Br,yn,List.all_cons];show cond (!small _) (cond (!digit _) _ _) _=_;cases small (c::r)[i]<;>cases digit (c::r)[i]<;>rfl
theorem Uw (s:anR) (U:s.length<=140737488355328):EH s=some (me s):=by
 unfold EH;have a8:∀m,s.length-1<m->1<=s.length->ux s m ((1:Nat):Int)=some (((s.drop 1).all λc=>small c||digit c)&&(decide (1<=(s.length:Int))&&decide ((s.length:Int)<=10))):=by
  intro m hm h1;refine down s.length (P:=λi=>1<=i->∀m,s.length-i<m->ux s m (i:Int)=some (((s.drop i).all λc=>small c||digit c)&&(decide (1<=(s.length:Int))&&decide ((s.length:Int)<=10)))) ?_ ?_ 1 h1 (Nat.le_refl _) m hm
  .intro _ m hm;obtain⟨k,rfl⟩:∃k,m=k+1:=⟨m-1,by omega⟩
   simp only[ux,EG];rw[eT (Nat.le_refl _)];simp
  .intro i ak ih Av m hm;obtain⟨k,rfl⟩:∃k,m=k+1:=⟨m-1,by omega⟩
   simp only[ux,EG];rw[fq ak,eu _ i ak,fV i _ ak (by omega),ih (by omega) k (by omega),drop_cons _ i ak];have e:((i:Int)==0)=false:=by simp;omega
   rw[e];simp only[cond_true,cond_false,bind_some,JF,List.all_cons];show cond (!small _) (cond (!digit _) _ _) _=_;cases small s[i]<;>cases digit s[i]<;>rfl
 refine eU (s.length+1) λm hm=>?_;obtain⟨k,rfl⟩:∃k,m=k+1:=⟨m-1,by omega⟩
 simp only[ux,EG];cases s with
 |nil=>rfl
 |cons c r=>
  have hk:=a8 k (by simp at hm⊢;omega) (by simp);rw[show((1:Nat):Int)=1 from rfl]at hk;rw[FW (by simp),Ct,ajr,hk];have e:((0:Int)==0)=true:=rfl;rw[e];simp only[cond_true,me];show cond (!small c) _ _=_;have h1:decide (1<=((c::r).length:Int))=true:=by simp;omega
  have ab:decide (((c::r).length:Int)<=10)=decide ((c::r).length<=10):=by
   by_cases h:(c::r).length<=10<;>simp at h⊢<;>omega
  rw[h1,ab];cases small c with
  |false=>simp
  |true=>simp[Bool.and_comm]
def sg (s:anR):Bool:=me s&& !(s==[116,97,117])
theorem Ux (s:anR):wi s=some (sg s):=by unfold wi;rw[L8];rfl
theorem Uy (s:anR) (U:s.length<=1048576):uy s=some (sg s):=by unfold uy;rw[Uw s (by omega)];rfl
def tt (ws:anQ):Bool:=ws.all λw=>(hU w).2
def kB (ws:anQ):anT:=ws.map λw=>(hU w).1
def oM (x:Int):Bool:=decide (0<=x)&&decide (x<=63)
theorem ajX (ws:anQ) (h:ws.length<=1048577):E1 ws=some (if tt ws=true then(kB ws,true)else([],false)):=by
 have key:∀i,i<=ws.length->∀m,ws.length-i<m->∀v:anT,v.length=i->
   yN ws m v (i:Int)=some (if tt (ws.drop i)=true then(v++kB (ws.drop i),true)else([],false)):=by
  refine down ws.length ?_ ?_
  .intro m hm v aD;obtain⟨m,rfl⟩:∃j,m=j+1:=⟨m-1,by omega⟩
   simp only[yN,JV];rw[eT (Nat.le_refl _),List.drop_length];simp[tt,kB]
  .intro i ak ih m hm v aD;obtain⟨m,rfl⟩:∃j,m=j+1:=⟨m-1,by omega⟩
   simp only[yN,JV,E0];rw[fq ak,cond_true,eu ws i ak,bind_some,bind_some,drop_cons ws i ak];simp only[tt,kB,List.all_cons,List.map_cons];cases ae:(hU ws[i]).2
   .simp
   .simp only[Bool.not_true,cond_false,Bool.true_and];rw[lC (by omega) (by omega),bind_some,fV i _ ak (by omega),ih m (by omega) _ (by simp[aD])];simp[tt,kB]
 unfold E1;refine eU (ws.length+1) λm hm=>?_;have:=key 0 (by omega) m (by omega) [] rfl;simpa using this
def oN (ws:anQ):Bool:=ws.all λw=>(hU w).2&&oM (hU w).1
theorem ajY (ws:anQ) (h:ws.length<=1048577) (hw:∀w∈ws,w.length<=1048576):
  lim (λn=>wk ws n [] 0)=some (if oN ws=true then kB ws else [],oN ws&&decide (ws.length<=2)):=by
 have key:∀i,i<=ws.length->∀m,ws.length-i<m->∀v:anT,v.length=i->
   wk ws m v (i:Int)=some (if oN (ws.drop i)=true then v++kB (ws.drop i)else [],oN (ws.drop i)&&decide (ws.length<=2)):=by
  refine down ws.length ?_ ?_
  .intro m hm v aD;obtain⟨m,rfl⟩:∃j,m=j+1:=⟨m-1,by omega⟩
   simp only[wk,Jj];rw[eT (Nat.le_refl _),List.drop_length,cond_false];have e:decide ((v.length:Int)<=2)=decide (ws.length<=2):=by rw[decide_eq_decide];omega
   rw[e];simp[oN,kB]
  .intro i ak ih m hm v aD;obtain⟨m,rfl⟩:∃j,m=j+1:=⟨m-1,by omega⟩
   simp only[wk,Jj];rw[fq ak,cond_true,eu ws i ak,bind_some,ajM _ (hw _ (List.getElem_mem ak)),bind_some,drop_cons ws i ak];have ajZ:oN (ws[i]::ws.drop (i+1))=((hU ws[i]).2&&oM (hU ws[i]).1&&oN (ws.drop (i+1))):=rfl;rw[ajZ];by_cases ae:(hU ws[i]).2=true
   .simp only[ae,Bool.not_true,cond_false,Bool.true_and,pd,bind_some];by_cases mZ:oM (hU ws[i]).1=true
    .have CH:=mZ;unfold oM at CH;rw[CH,mZ];simp only[Bool.not_true,cond_false,Bool.true_and];rw[lC (by omega) (by omega),bind_some,fV i _ ak (by omega),ih m (by omega) _ (by simp[aD])];simp only[kB,List.append_assoc,List.map_cons,List.singleton_append]
    .have Uz:oM (hU ws[i]).1=false:=by simpa using mZ
     have CH:=Uz;unfold oM at CH;rw[CH,Uz];simp
   .have fP:(hU ws[i]).2=false:=by simpa using ae
    simp[fP]
 refine eU (ws.length+1) λm hm=>?_;have:=key 0 (by omega) m (by omega) [] rfl;simpa using this
theorem UA (a:anT) (h:a.length<=1048577):uw a=some (a.all oM):=by
 unfold uw BI BH;rw[T8 (n:=a.length) (l:=uv a) (λi=> !oM (a.getD i 0)) (λm=>?_) (λi ak m=>?_)]
 .simp only[bind_some,T7,Bool.not_not];congr 1;rw[Bool.eq_iff_iff,F4,List.all_eq_true];constructor
  .intro q x ag;obtain⟨k,hk,rfl⟩:=List.mem_iff_getElem.1 ag;have:=q k hk;simpa [List.getD,hk]using this
  .intro q i ak;have:=q _ (List.getElem_mem ak);simpa [List.getD,ak]using this
 .simp only[uv,BG];rw[eT (Nat.le_refl _)];rfl
 .simp only[uv,BG,BF,BE,oF];rw[fq ak,eu _ i ak,fV i _ ak (by omega)];simp only[cond_true,bind_some];have e:a.getD i 0=a[i]:=by simp[List.getD,ak]
  rw[e];rfl
theorem L9 (s:anR) (U:s.length<=1048576):(40∉s->yo s=some (s.length:Int))/\∀p q,s=p++40::q->40∉p->yo s=some (p.length:Int):=by
 have step:∀i (ak:i<s.length) m,uo s (m+1) (i:Int)=cond (s[i]==40) (some (i:Int)) (uo s m ((i+1:Nat):Int)):=by
  intro i ak m;simp only[uo,Jg];rw[fq ak,cond_true,eu s i ak,bind_some,fV i _ ak (by omega)];have e:((s[i].toNat:Int)==40)=(s[i]==40):=by
   rw[Bool.eq_iff_iff];simp only[beq_iff_eq];constructor
   .intro h;exact UInt8.toNat_inj.1 (by rw[show(40:UInt8).toNat=40 from rfl];omega)
   .intro h;rw[h];rfl
  rw[e]
 constructor
 .intro h;unfold yo;rw[uT (n:=s.length) (λ_=>some (s.length:Int))]
  .intro m;simp only[uo,Jg];rw[eT (Nat.le_refl _)];rfl
  .intro i ak m ih;rw[step i ak m,ih];have:(s[i]==40)=false:=by
    simp only[beq_eq_false_iff_ne,ne_eq];intro e;exact h (e▸List.getElem_mem ak)
   rw[this];rfl
 .rintro p q rfl al;unfold yo;refine eU (p.length+1) λm hm=>?_;have key:∀k,k<=p.length->∀m,k<m->uo (p++40::q) m ((p.length-k:Nat):Int)=some (p.length:Int):=by
   intro k;induction k with
   |zero=>
    intro _ m hm;obtain⟨m,rfl⟩:∃j,m=j+1:=⟨m-1,by omega⟩
    rw[Nat.sub_zero,step p.length (by simp) m];have:((p++40::q)[p.length]'(by simp))=40:=by simp
    rw[this];rfl
   |succ k ih=>
    intro hk m hm;obtain⟨m,rfl⟩:∃j,m=j+1:=⟨m-1,by omega⟩
    rw[step (p.length-(k+1)) (by simp;omega) m];have:((p++40::q)[p.length-(k+1)]'(by simp;omega)==40)=false:=by
     simp only[beq_eq_false_iff_ne,ne_eq];rw[List.getElem_append_left (by omega)];intro e;exact al (e▸List.getElem_mem (by omega))
    rw[this,cond_false,show p.length-(k+1)+1=p.length-k by omega];exact ih (by omega) m (by omega)
  have:=key p.length (Nat.le_refl _) m (by omega);simpa using this
theorem UB (ws:anQ):oN ws=(tt ws&&(kB ws).all oM):=by
 unfold oN tt kB;rw[List.all_map];induction ws with
 |nil=>rfl
 |cons w r ih=>simp only[List.all_cons,ih,Function.comp];cases(hU w).2<;>cases oM (hU w).1<;>simp
theorem aj0 (ws:anQ) (h:oN ws=true):(kB ws).map lD=ws:=by
 unfold kB;rw[List.map_map];conv=>rhs;rw[<-List.map_id ws]
 refine List.map_congr_left λw hw=>?_;simp only[oN,List.all_eq_true,Bool.and_eq_true]at h;have:=h w hw;simp only[oM,Bool.and_eq_true,decide_eq_true_eq]at this;simp only[Function.comp,id,lD];exact(ajN (Prod.ext rfl this.1) this.2.1 this.2.2).symm
theorem UC (p q eG:anR) (al:40∉p) (U:(p++40::q).length<=1048576) (ba:strings_TrimSuffix q [41]=some eG) (F9:eG.length<=1048576):
  wI (p++40::q)=some (sg p&&(oN (ff 44 eG)&&decide ((ff 44 eG).length<=2))&&(((p++[40])++eG)++[41]==p++40::q)):=by
 have hlen:=F8 44 eG;have aj1:eG.count 44<=eG.length:=List.count_le_length;have hl:=U;simp only[List.length_append,List.length_cons]at hl;have ok:∀n,n<=4194304->iO n=some ():=λn aN=>by unfold iO;rw[if_pos (by omega)]
 unfold wI E3;rw[ajB p q al U];simp only[bind_some,cond_true];rw[ba,bind_some,ajH 44 eG F9,bind_some,ajX _ (by omega),UB];by_cases aN:tt (ff 44 eG)=true
 .rw[if_pos aN,aN];simp only[bind_some,Bool.not_true,cond_false,Bool.true_and];have jT:(kB (ff 44 eG)).length=eG.count 44+1:=by unfold kB;rw[List.length_map,hlen]
  unfold BN wH;by_cases aL:p=[116,97,117]
  .have fA:(((kB (ff 44 eG)).length:Int)==0)=false:=by rw[jT];simp;omega
   subst aL;simp only[BEq.rfl,cond_true,fA,bind_some,Bool.not_false,Bool.true_or];rfl
  .have aM:(p==[116,97,117])=false:=by simpa using aL
   rw[aM,Uy p (by omega)];simp only[cond_false,bind_some];by_cases bg:sg p=true
   .rw[bg];simp only[Bool.not_true,cond_false,Bool.true_and];by_cases ab:(ff 44 eG).length<=2
    .have aP:decide ((2:Int)<((kB (ff 44 eG)).length:Int))=false:=by rw[jT];simp;omega
     have bK:decide ((ff 44 eG).length<=2)=true:=by simpa using ab
     rw[aP,bK,UA _ (by omega)];simp only[cond_false,bind_some,Bool.and_true];by_cases aD:(kB (ff 44 eG)).all oM=true
     .have cg:(((kB (ff 44 eG)).length:Int)==0)=false:=by rw[jT];simp;omega
      have ja:oN (ff 44 eG)=true:=by rw[UB,aN,aD];rfl
      rw[aD,cg];simp only[Bool.not_true,cond_false,Bool.true_and];rw[L7 _ (by omega) (λx ag=>by
       have:=List.all_eq_true.1 aD x ag;simpa only[oM,Bool.and_eq_true,decide_eq_true_eq]using this),aj0 _ ja,Ud]
      rw[ok _ (by omega),bind_some,bind_some,ok _ (by simp;omega),bind_some,ok _ (by simp;omega),bind_some,bind_some];cases(((p++[40])++eG)++[41]==p++40::q)<;>rfl
     .have ml:(kB (ff 44 eG)).all oM=false:=by simpa using aD
      rw[ml];rfl
    .have aP:decide ((2:Int)<((kB (ff 44 eG)).length:Int))=true:=by rw[jT];simp;omega
     have bK:decide ((ff 44 eG).length<=2)=false:=by simpa using ab
     rw[aP,bK];simp
   .have sG:sg p=false:=by simpa using bg
    rw[sG];rfl
 .have rC:tt (ff 44 eG)=false:=by simpa using aN
  rw[if_neg aN,rC];simp
theorem UD (p q:anR) (x:UInt8) (al:40∉p) (r:anR) (e:p++40::q=r++[x]) (U:(p++40::q).length<=1048576):
  bI (p++40::q) (i64.wrap (((p++40::q).length:Int)-1))=some x:=by
 rw[e,dQ _ (by rw[<-e];omega),show(((r++[x]).length:Int)-1)=(r.length:Int) by simp];exact LZ r x []
theorem aj2 (p eG:anR) (al:40∉p) (U:(p++40::(eG++[41])).length<=1048576):
  r0 (p++40::(eG++[41]))=some (sg p&&(oN (ff 44 eG)&&decide ((ff 44 eG).length<=2))):=by
 have hl:=U;simp only[List.length_append,List.length_cons,List.length_nil]at hl;have hlen:=F8 44 eG;have aj1:eG.count 44<=eG.length:=List.count_le_length;have hw:∀w∈ff 44 eG,w.length<=1048576:=by
  have key:∀s:anR,∀w∈ff 44 s,w.length<=s.length:=by
   intro s;induction s with
   |nil=>intro w hw;simp[ff]at hw;subst hw;exact Nat.le_refl _
   |cons x r ih=>
    intro w hw;simp only[ff]at hw;split at hw
    .rcases List.mem_cons.1 hw with rfl|hw
     .simp
     .exact Nat.le_trans (ih w hw) (by simp)
    .cases ax:ff 44 r with
     |nil=>exact(zy 44 r ax).elim
     |cons a t=>
      rw[ax]at hw ih;simp only[glue]at hw;rcases List.mem_cons.1 hw with rfl|hw
      .have:=ih a (by simp);simp;omega
      .exact Nat.le_trans (ih w (by simp[hw])) (by simp)
  intro w hw;have:=key eG w hw;omega
 unfold r0 Bw;rw[(L9 _ U).2 p _ rfl al];have aI:(((p.length:Nat):Int)==((p++40::(eG++[41])).length:Int))=false:=by simp;omega
 simp only[bind_some,aI,cond_false];rw[zv _ _ (by simp),List.take_left' rfl,bind_some,Ux,bind_some];rw[UD p (eG++[41]) 41 al (p++40::eG) (by simp) U,bind_some];have aM:((((41:UInt8).toNat:Nat):Int) !=41)=false:=rfl;have aP:fw (p++40::(eG++[41])) (i64.wrap ((p.length:Int)+1)) (i64.wrap (((p++40::(eG++[41])).length:Int)-1))=some eG:=by
  rw[dQ _ (by omega),dQ _ (by omega)];have:=Cy (p++[40]) eG [41] (i:=(p.length:Int)+1) (j:=(((p++40::(eG++[41])).length:Int)-1)) (by simp) (by simp;omega);simpa using this
 rw[aM,cond_false,aP,bind_some,ajI 44 eG (by omega),bind_some,ajY _ (by omega) hw];cases sg p<;>rfl
theorem aj3 (p q:anR) (al:40∉p) (U:(p++40::q).length<=1048576) (h:∀r,q≠r++[41]):r0 (p++40::q)=some false:=by
 have hl:=U;simp only[List.length_append,List.length_cons]at hl;unfold r0 Bw;rw[(L9 _ U).2 p _ rfl al];have aI:(((p.length:Nat):Int)==((p++40::q).length:Int))=false:=by simp;omega
 simp only[bind_some,aI,cond_false];rw[zv _ _ (by simp),List.take_left' rfl,bind_some,Ux,bind_some];obtain⟨r,x,e,ag⟩:∃r x,p++40::q=r++[x]/\x≠41:=by
  rcases List.eq_nil_or_concat q with rfl|⟨ig,x,rfl⟩
  .exact⟨p,40,rfl,by decide⟩
  .refine⟨p++40::ig,x,by simp,?_⟩;rintro rfl;exact h ig (by simp)
 rw[UD p q x al r e U,bind_some];have aM:((x.toNat:Int) !=41)=true:=by
  simp only[bne_iff_ne,ne_eq];intro bn;exact ag (UInt8.toNat_inj.1 (by rw[show(41:UInt8).toNat=41 from rfl];omega))
 rw[aM];cases sg p<;>rfl
noncomputable def tu (s:anR):Bool:=(r0 s).getD false
theorem UE (s:anR) (U:s.length<=1048576):r0 s=some (tu s)/\wI s=some (tu s):=by
 suffices h:∃b,r0 s=some b/\wI s=some b by
  obtain⟨b,h1,ab⟩:=h;unfold tu;rw[h1,ab];exact⟨rfl,rfl⟩
 by_cases hm:40∈s
 .obtain⟨p,q,rfl,al⟩:=LX hm;have hl:=U;simp only[List.length_append,List.length_cons]at hl;by_cases ca:∃r,q=r++[41]
  .obtain⟨eG,rfl⟩:=ca;have F9:eG.length<=1048576:=by simp at hl;omega
   refine⟨_,aj2 p eG al U,?_⟩;rw[UC p _ eG al U (ajC eG F9) F9];have:(((p++[40])++eG)++[41]==p++40::(eG++[41]))=true:=by simp
   rw[this,Bool.and_true]
  .have UF:∀r,q≠r++[41]:=λr e=>ca ⟨r,e⟩;refine⟨false,aj3 p q al U UF,?_⟩;rw[UC p q q al U (ajD q (by omega) UF) (by omega)];have:(((p++[40])++q)++[41]==p++40::q)=false:=by
    simp only[beq_eq_false_iff_ne,ne_eq];intro e;have:=congrArg List.length e;simp at this
   rw[this,Bool.and_false]
 .unfold r0 Bw wI E3;rw[(L9 s U).1 hm,ajA hm,L8];have aI:((s.length:Int)==(s.length:Int))=true:=by simp
  simp only[bind_some,aI,cond_true,cond_false];refine⟨_,rfl,?_⟩;unfold BN wH;by_cases aL:s=[116,97,117]
  .subst aL;rfl
  .have aM:(s==[116,97,117])=false:=by simpa using aL
   rw[aM,Uy s U];simp only[cond_false,bind_some];have aP:sg s=me s:=by unfold sg;rw[aM];simp
   rw[aP];cases me s
   .rfl
   .simp only[Bool.not_true,cond_false,List.length_nil];rw[UA [] (by simp)];simp
end Go.lT
