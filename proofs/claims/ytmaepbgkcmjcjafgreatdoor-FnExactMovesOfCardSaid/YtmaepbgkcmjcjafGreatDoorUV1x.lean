/- Part of a proof that a law returns true for every input. No condition. -/
import Derived.Test.YtmaepbgkcmjcjafGreatDoorUV0x
import Derived.Lib.ParseIntB
import Derived.Lib.ItoaNum
import Derived.Test.YtmaepbgkcmjcjafGreatDoorP3
namespace Go.kX
open Option Go.IntKind Nat
open Go Go.eg
def Hv:Lib.NumEnd Nat:=Lib.parseUintB 64 []
theorem aap:∀(d:ayc) (n k:Nat),n<10^k->k+d.length<=18->Lib.parseUintM 18446744073709551615 n d=if d.all gR=true then .ok (nx n d)else Hv
 |[],n,k,_,_=>by simp[Lib.parseUintM,nx]
 |c::r,n,k,aV,au=>by
  simp only[List.length_cons]at au;have xc:n<10^17:=Nat.lt_of_lt_of_le aV (Nat.pow_le_pow_right (by omega) (by omega));simp only[Lib.parseUintM];have nd:(c::r).all gR=(gR c&&r.all gR):=rfl;by_cases ar:gR c=true
  .have Dl:=ar;simp only[gR,Bool.and_eq_true,decide_eq_true_eq]at Dl;have St:(c::r).all gR=r.all gR:=by rw[nd,ar];rfl
   rw[if_pos Dl,if_neg (by omega),if_neg (by omega),St,show n*10+(c.toNat-48)=10*n+(c.toNat-48) by omega,aap r _ (k+1) (by rw[Nat.pow_succ];omega) (by omega)];rfl
  .have Dl:¬(48<=c.toNat/\c.toNat<=57):=λh=>ar (by simp only[gR,Bool.and_eq_true,decide_eq_true_eq];exact h);have asx:gR c=false:=by simpa using ar
   have St:(c::r).all gR=false:=by rw[nd,asx];rfl
   rw[if_neg Dl,St];simp;rfl
theorem asy (n x:Nat) (aV:1<=n) (ao:x<=9):Lib.decDigits (10*n+x)=Lib.decDigits n++[UInt8.ofNat (48+x)]:=by
 rw[Lib.decDigits,dif_neg (by omega),show(10*n+x)/10=n by omega,show(10*n+x)%10=x by omega]
theorem aaq:∀(d:ayc) (n:Nat),1<=n->d.all gR=true->Lib.decDigits (nx n d)=Lib.decDigits n++d
 |[],n,_,_=>by simp[nx]
 |c::r,n,aV,an=>by
  simp only[List.all_cons,Bool.and_eq_true]at an;have ar:=an.1;have e:=aao c an.1;simp only[gR,Bool.and_eq_true,decide_eq_true_eq]at ar;show Lib.decDigits (nx (10*n+(c.toNat-48)) r)=_;rw[aaq r _ (by omega) an.2,asy n (c.toNat-48) aV (by omega),e];simp
theorem Su (u:Nat):∃c t,Lib.decDigits u=c::t/\gR c=true/\(1<=u->c≠48):=by
 induction u using Nat.strongRecOn with
 |_ u ih=>
  rw[Lib.decDigits];by_cases h:u<10
  .rw[dif_pos h];refine⟨_,_,rfl,?_,?_⟩
   .have:∀i:Fin 10,gR (UInt8.ofNat (48+i.val))=true:=by decide
    exact this ⟨u,h⟩
   .have:∀i:Fin 10,1<=i.val->UInt8.ofNat (48+i.val)≠48:=by decide
    exact this ⟨u,h⟩
  .rw[dif_neg h];obtain⟨c,t,ad,af,aG⟩:=ih (u/10) (by omega);exact⟨c,t++_,by rw[ad];rfl,af,λ_=>aG (by omega)⟩
theorem aar (c:UInt8) (r:ayc) (an:(c::r).all gR=true):Lib.decDigits (mT (c::r))=c::r↔(c≠48\/r=[]):=by
 simp only[List.all_cons,Bool.and_eq_true]at an;have ar:=an.1;have e:=aao c an.1;simp only[gR,Bool.and_eq_true,decide_eq_true_eq]at ar;have aJ:mT (c::r)=nx (c.toNat-48) r:=by
  show nx (10*0+(c.toNat-48)) r=_;rw[Nat.mul_zero,Nat.zero_add]
 rw[aJ];by_cases ox:c=48
 .subst ox;constructor
  .intro h;cases r with
   |nil=>exact .inr rfl
   |cons x t=>
    exfalso;obtain⟨xd,Oi,ad,af,aG⟩:=Su (nx ((48:UInt8).toNat-48) (x::t));rw[ad]at h;injection h with bf bU;by_cases dc:1<=nx ((48:UInt8).toNat-48) (x::t)
    .exact aG dc bf
    .have a_:nx ((48:UInt8).toNat-48) (x::t)=0:=by omega
     rw[a_,Lib.decDigits,dif_pos (by omega)]at ad;injection ad with _ c1;rw[<-c1]at bU;cases bU
  .rintro(h|rfl)
   .exact(h rfl).elim
   .show Lib.decDigits 0=_;rw[Lib.decDigits,dif_pos (by omega)];rfl
 .have ad:1<=c.toNat-48:=by
   rcases Nat.lt_or_ge 48 c.toNat with h|h
   .omega
   .exact(ox (UInt8.toNat_inj.1 (by rw[show(48:UInt8).toNat=48 from rfl];omega))).elim
  refine⟨λ_=>.inl ox,λ_=>?_⟩;rw[aaq r _ ad an.2,Lib.decDigits,dif_pos (by omega),e];rfl
theorem Sv (d:ayc) (h:d.all gR=true) (hl:d.length<=18):mT d<10^18:=by
 have:=aak d 0 0 h (by omega);have af:(10:Nat)^(0+d.length)<=10^18:=Nat.pow_le_pow_right (by omega) (by omega);exact Nat.lt_of_lt_of_le this af
theorem Sw (d:ayc) (hl:d.length<=18):Lib.parseUintB 64 d=if d≠[]/\d.all gR=true then .ok (mT d)else Hv:=by
 unfold Lib.parseUintB;by_cases h:d=[]
 .rw[if_pos h,if_neg (λbC=>bC.1 h)];rfl
 .rw[if_neg h,show(2^64-1:Nat)=18446744073709551615 from rfl,aap d 0 0 (by omega) (by omega)];by_cases an:d.all gR=true
  .rw[if_pos an,if_pos ⟨h,an⟩];rfl
  .rw[if_neg an,if_neg (λbC=>an bC.2)]
def uS (s:ayc):Int×Bool:=match Lib.parseIntB 64 s with
 | .ok v=>if Lib.itoa v=s then(v,true)else(0,false)
 |_=>(0,false)
theorem Sy {k:Nat} {d:ayc} (h:¬(d≠[]/\d.all gR=true)):pY k d=(0,false):=by
 unfold pY;rw[if_neg (λbC=>h ⟨bC.1,bC.2.2.1⟩)]
theorem aas {k:Nat} {d:ayc} (ad:d.head? =some 48) (af:1<d.length+k):pY k d=(0,false):=by
 unfold pY;rw[if_neg (λbC=>bC.2.2.2 ⟨ad,af⟩)]
theorem aat {k:Nat} {d:ayc} (h:d≠[]/\d.length<=18/\d.all gR=true/\¬(d.head? =some 48/\1<d.length+k)):pY k d=(if k=1 then-(mT d:Int)else mT d,true):=by
 unfold pY;rw[if_pos h]
theorem amA (s:ayc) (h:(if s.head? =some 45 then s.tail else s).length<=18):Lib.parseIntB 64 s≠.range/\uS s=j9 s:=by
 unfold uS j9;cases s with
 |nil=>exact⟨by simp[Lib.parseIntB],by simp[Lib.parseIntB,pY]⟩
 |cons c r=>
  by_cases Sz:c=45
  .subst Sz;rw[if_pos (show(45::r).head? =some 45 from rfl)]at h⊢;simp only[List.tail_cons]at h⊢;have x2:(45:UInt8).toNat=45:=rfl;simp only[Lib.parseIntB,x2,or_true,if_true];rw[Sw r h];by_cases aQ:r≠[]/\r.all gR=true
   .rw[if_pos aQ];have eI:=Sv r aQ.2 h;have yN:(2:Nat)^(64-1)=9223372036854775808:=by decide
    simp only[not_true,false_and,if_false,yN,true_and];rw[if_neg (by omega)];refine⟨by simp,?_⟩;simp only;obtain⟨x,t,rfl⟩:∃x t,r=x::t:=by
     cases r with
     |nil=>exact(aQ.1 rfl).elim
     |cons x t=>exact⟨x,t,rfl⟩
    have Hw:=aar x t aQ.2;by_cases ox:x=48
    .rw[aas (by rw[ox];rfl) (by simp)];rw[if_neg];intro aj;by_cases a_:mT (x::t)=0
     .rw[a_]at aj;have iN:Lib.decDigits 0=[48]:=by rw[Lib.decDigits,dif_pos (by omega)];rfl
      simp[Lib.itoa,iN]at aj
     .unfold Lib.itoa at aj;rw[if_pos (by omega)]at aj;injection aj with _ aj;rw[show(-(mT (x::t):Int)).natAbs=mT (x::t) by omega]at aj;obtain⟨xd,Oi,gU,gy,iE⟩:=Su (mT (x::t));rw[gU]at aj;injection aj with Ex _;exact iE (by omega) (Ex.trans ox)
    .have af3:1<=mT (x::t):=by
      have:=(Hw.2 (.inl ox))
      rcases eq_zero_or_pos (mT (x::t))with a_|a_
      .rw[a_,Lib.decDigits,dif_pos (by omega)]at this;injection this with this _;exact(ox this.symm).elim
      .exact a_
     rw[aat ⟨by simp,h,aQ.2,λbC=>ox (some.inj bC.1)⟩];rw[if_pos]
     .simp
     .unfold Lib.itoa;rw[if_pos (by omega),show(-(mT (x::t):Int)).natAbs=mT (x::t) by omega,Hw.2 (.inl ox)]
   .rw[if_neg aQ,Sy aQ];exact⟨by simp[Hv,Lib.parseUintB],rfl⟩
  .have kj:¬((c::r).head? =some 45):=λe=>Sz (some.inj e);rw[if_neg kj]at h⊢;have RW:c.toNat≠45:=λe=>Sz (UInt8.toNat_inj.1 (by rw[show(45:UInt8).toNat=45 from rfl];exact e));have yN:(2:Nat)^(64-1)=9223372036854775808:=by decide
   by_cases aau:c.toNat=43
   .simp only[Lib.parseIntB,aau,true_or,if_true];have aav:r.length<=18:=by simp at h;omega
    rw[Sw r aav];have nA:pY 0 (c::r)=(0,false):=Sy λbC=>by
     have:=bC.2;simp only[List.all_cons,Bool.and_eq_true]at this;have:=this.1;simp only[gR,Bool.and_eq_true,decide_eq_true_eq]at this;omega
    rw[nA];by_cases aQ:r≠[]/\r.all gR=true
    .rw[if_pos aQ];have eI:=Sv r aQ.2 aav;simp only[show¬((43:Nat)=45)from by decide,not_false_eq_true,true_and,false_and,if_false,yN];rw[if_neg (by omega)];refine⟨by simp,?_⟩;simp only;rw[if_neg];intro aj;unfold Lib.itoa at aj;rw[if_neg (by omega),Int.toNat_natCast]at aj;obtain⟨xd,Oi,gU,gy,_⟩:=Su (mT r);rw[gU]at aj;injection aj with aj _;rw[aj]at gy;simp only[gR,Bool.and_eq_true,decide_eq_true_eq]at gy;omega
    .rw[if_neg aQ];exact⟨by simp[Hv,Lib.parseUintB],rfl⟩
   .simp only[Lib.parseIntB,aau,RW,_root_.or_self,if_false];rw[Sw (c::r) h];by_cases aQ:(c::r)≠[]/\(c::r).all gR=true
    .rw[if_pos aQ];have eI:=Sv (c::r) aQ.2 h;simp only[not_false_eq_true,true_and,false_and,if_false,yN];rw[if_neg (by omega)];refine⟨by simp,?_⟩;simp only;have Hw:=aar c r aQ.2;have asz:Lib.itoa (mT (c::r):Int)=Lib.decDigits (mT (c::r)):=by
      unfold Lib.itoa;rw[if_neg (by omega),Int.toNat_natCast]
     rw[asz];by_cases Hx:c≠48\/r=[]
     .rw[if_pos (Hw.2 Hx),aat ⟨by simp,h,aQ.2,λbC=>by
       rcases Hx with ad|ad
       .exact ad (some.inj bC.1)
       .subst ad;simp at bC⟩]
      simp
     .have ox:c=48:=by
       by_cases q:c=48
       .exact q
       .exact(Hx (.inl q)).elim
      have d_:r≠[]:=λq=>Hx (.inr q);rw[if_neg (λbC=>Hx (Hw.1 bC)),aas (by rw[ox];rfl) (by
       cases r with
       |nil=>exact(d_ rfl).elim
       |cons x t=>simp)]
    .rw[if_neg aQ,Sy aQ];exact⟨by simp[Hv,Lib.parseUintB],rfl⟩
theorem join_one (x s:ayc):jE [x] s=x:=by simp[jE,List.intercalate,List.intersperse]
theorem join_cons (x y:ayc) (r:ayb) (s:ayc):jE (x::y::r) s=x++(s++jE (y::r) s):=by simp[jE,List.intercalate,List.intersperse]
theorem aaw (s:ayc):∀(l:ayb) (y:ayc),l≠[]->jE (l++[y]) s=jE l s++(s++y)
 |[],_,h=>(h rfl).elim
 |[x],y,_=>by rw[List.singleton_append,join_cons,join_one,join_one]
 |x::z::r,y,_=>by
  rw[List.cons_append,List.cons_append,join_cons,join_cons,<-List.cons_append,aaw s (z::r) y (by simp)];simp only[List.append_assoc]
theorem Hy (c:UInt8) (k:Nat):∀l:ayb,(∀x∈l,x.length<=k)->(jE l [c]).length<=l.length*(k+1)
 |[],_=>by simp[jE,List.intercalate,List.intersperse]
 |[x],h=>by rw[join_one];have:=h x (by simp);simp only[List.length_cons,List.length_nil];omega
 |x::y::r,h=>by
  rw[join_cons];have ad:=h x (by simp);have af:=Hy c k (y::r) λz b8=>h z (by simp[b8]);simp only[List.length_append,List.length_cons,List.length_nil,Nat.add_mul]at af⊢;omega
theorem Ai (n:Nat) (h:n<100):ry (n:Int)=some (jg n):=by
 unfold ry Cm;first
 |(rw[if_pos ⟨by omega,by omega,rfl⟩];rfl)
 |(rw[if_pos ⟨by omega,by omega,rfl⟩]
   unfold Gb jg xS;rw[if_neg (by omega),Int.toNat_natCast];by_cases ad:n<10
   .rw[dif_pos ad,if_pos ad];rfl
   .unfold xS;rw[dif_neg ad,if_neg ad,dif_pos (by omega)];rfl)
theorem wD (n:Nat):(jg n).length<=2:=by unfold jg;split<;>simp
theorem asA {α γ β:Type} {L:Nat->List γ->Int->Option β} (a:List α) (t:α->γ) (w:List γ) (hw:w.length=a.length) (E:List γ->Option β)
  (a_:∀m v,L (m+1) v (a.length:Int)=E v)
  (ab:∀i (h:i<a.length) m v,v.length=a.length->L (m+1) v (i:Int)=L m (v.set i (t a[i])) ((i+1:Nat):Int)):bZ (λm=>L m w 0)=E (a.map t):=by
 have key:∀i,i<=a.length->∀m,a.length-i<m->L m ((a.take i).map t++w.drop i) (i:Int)=E (a.map t):=by
  refine down a.length ?_ ?_
  .intro m hm;obtain⟨m,rfl⟩:∃j,m=j+1:=⟨m-1,by omega⟩
   rw[a_,List.take_length,List.drop_of_length_le (by omega),List.append_nil]
  .intro i aj ih m hm;obtain⟨m,rfl⟩:∃j,m=j+1:=⟨m-1,by omega⟩
   have e:((a.take i).map t).length=i:=by simp;omega
   rw[ab i aj m _ (by simp only[List.length_append,e,List.length_drop];omega),<-ih m (by omega)];congr 1;rw[List.set_append_right i _ (by rw[e];omega),e,Nat.sub_self,drop_cons w i (by omega),List.set_cons_zero,List.take_succ_eq_append_getElem aj,List.map_append];simp
 refine fb (a.length+1) λm hm=>?_;have:=key 0 (by omega) m (by omega);simpa using this
def kf (n:Int):ayc:=jg n.toNat
theorem Hz (n:Int):(kf n).length<=2:=wD _
theorem asB {x:Int} (h:0<=x/\x<=63):ry x=some (kf x):=by
 have:=Ai x.toNat (by omega)
 rwa [Int.toNat_of_nonneg h.1]at this
theorem aax (a:aye) (h:a.length<=64) (aJ:∀x∈a,0<=x/\x<=63):zx a [44]=some (jE (a.map kf) [44]):=by
 unfold zx;rw[te 16 (by omega) (by omega)];simp only[bind_some,Int.toNat_natCast];have bF:strings_Join (a.map kf) [44]=some (jE (a.map kf) [44]):=by
  unfold strings_Join;have:=Hy 44 2 (a.map kf) λx ao=>by
   obtain⟨y,_,rfl⟩:=List.mem_map.1 ao;exact Hz y
  rw[List.length_map]at this;rw[if_pos ⟨by rw[List.length_map];omega,by omega⟩]
 rw[asA (L:=Cn a [44]) a kf (List.replicate a.length []) (by simp) (λv=>(strings_Join v [44]).bind λaX=>some aX) (λm v=>?_) (λi aj m v hl=>?_),bF]
 .rfl
 .simp only[Cn,PY];rw[eb (Nat.le_refl _)];rfl
 .simp only[Cn,PY];rw[ey aj,dV _ i aj,eo i _ aj (by omega),dV v i (by omega)];simp only[cond_true,bind_some];rw[asB (aJ _ (List.getElem_mem aj))];simp only[bind_some,Int.toNat_natCast]
def small (c:UInt8):Bool:=decide (97<=(c.toNat:Int))&&decide ((c.toNat:Int)<=122)
def digit (c:UInt8):Bool:=decide (48<=(c.toNat:Int))&&decide ((c.toNat:Int)<=57)
def hE (s:ayc):Bool:=decide (s.length<=10)&&(match s with|[]=>false|c::r=>small c&&r.all λc=>small c||digit c)
theorem Dm (s:ayc):xI s=some (hE s):=by
 unfold xI;cases s with
 |nil=>rfl
 |cons c r=>
  have gb:((c::r)==([]:ayc))=false:=rfl;rw[gb];simp only[cond_false];by_cases k9:10<(c::r).length
  .have:decide ((10:Int)<((c::r).length:Int))=true:=by simp at k9⊢;omega
   rw[this];have af:decide ((c::r).length<=10)=false:=by simp at k9⊢;omega
   simp only[hE,af];rfl
  .have:decide ((10:Int)<((c::r).length:Int))=false:=by simp at k9⊢;omega
   rw[this];have af:decide ((c::r).length<=10)=true:=by simp at k9⊢;omega
   rw[Hp];simp only[cond_false,bind_some,Ft];simp only[hE,af,Bool.true_and];show cond (!small c) _ _=_;cases ab:small c with
   |false=>rfl
   |true=>
    simp only[Bool.not_true,cond_false];rw[p7 (n:=(c::r).length) (λi=>some (((c::r).drop i).all λc=>small c||digit c))]
    .simp[ab]
    .intro m;simp only[Fu,OD];rw[eb (Nat.le_refl _)];simp
    .intro i aj m ih;simp only[Fu,OD];rw[ey aj,dV _ i aj,eo i _ aj (by omega),ih,drop_cons _ i aj];simp only[cond_true,bind_some,Ft,Bt,List.all_cons];show cond (!small _) (cond (!digit _) _ _) _=_;cases small (c::r)[i]<;>cases digit (c::r)[i]<;>rfl
theorem aay (s:ayc) (ab:s.length<=140737488355328):FQ s=some (hE s):=by
 unfold FQ;have bE:∀m,s.length-1<m->1<=s.length->xQ s m ((1:Nat):Int)=some (((s.drop 1).all λc=>small c||digit c)&&(decide (1<=(s.length:Int))&&decide ((s.length:Int)<=10))):=by
  intro m hm ad;refine down s.length (P:=λi=>1<=i->∀m,s.length-i<m->xQ s m (i:Int)=some (((s.drop i).all λc=>small c||digit c)&&(decide (1<=(s.length:Int))&&decide ((s.length:Int)<=10)))) ?_ ?_ 1 ad (Nat.le_refl _) m hm
  .intro _ m hm;obtain⟨k,rfl⟩:∃k,m=k+1:=⟨m-1,by omega⟩
   simp only[xQ,JL];rw[eb (Nat.le_refl _)];simp
  .intro i aj ih Ex m hm;obtain⟨k,rfl⟩:∃k,m=k+1:=⟨m-1,by omega⟩
   simp only[xQ,JL];rw[ey aj,dV _ i aj,eo i _ aj (by omega),ih (by omega) k (by omega),drop_cons _ i aj];have e:((i:Int)==0)=false:=by simp;omega
   rw[e];simp only[cond_true,cond_false,bind_some,Po,List.all_cons];show cond (!small _) (cond (!digit _) _ _) _=_;cases small s[i]<;>cases digit s[i]<;>rfl
 refine fb (s.length+1) λm hm=>?_;obtain⟨k,rfl⟩:∃k,m=k+1:=⟨m-1,by omega⟩
 simp only[xQ,JL];cases s with
 |nil=>rfl
 |cons c r=>
  have au:=bE k (by simp at hm⊢;omega) (by simp);rw[show((1:Nat):Int)=1 from rfl]at au;rw[Ad (by simp),Hp,asc,au];have e:((0:Int)==0)=true:=rfl;rw[e];simp only[cond_true,hE];show cond (!small c) _ _=_;have ad:decide (1<=((c::r).length:Int))=true:=by simp;omega
  have af:decide (((c::r).length:Int)<=10)=decide ((c::r).length<=10):=by
   by_cases h:(c::r).length<=10<;>simp at h⊢<;>omega
  rw[ad,af];cases small c with
  |false=>simp
  |true=>simp[Bool.and_comm]
def Aj (ws:ayb):Bool:=ws.all λw=>(j9 w).2
def tg (ws:ayb):aye:=ws.map λw=>(j9 w).1
def Ak (x:Int):Bool:=decide (0<=x)&&decide (x<=63)
theorem asC (ws:ayb) (h:ws.length<=1048577):Kh ws=some (if Aj ws=true then(tg ws,true)else([],false)):=by
 have key:∀i,i<=ws.length->∀m,ws.length-i<m->∀v:aye,v.length=i->
   Cw ws m v (i:Int)=some (if Aj (ws.drop i)=true then(v++tg (ws.drop i),true)else([],false)):=by
  refine down ws.length ?_ ?_
  .intro m hm v aJ;obtain⟨m,rfl⟩:∃j,m=j+1:=⟨m-1,by omega⟩
   simp only[Cw,Qc];rw[eb (Nat.le_refl _),List.drop_length];simp[Aj,tg]
  .intro i aj ih m hm v aJ;obtain⟨m,rfl⟩:∃j,m=j+1:=⟨m-1,by omega⟩
   simp only[Cw,Qc,Kg];rw[ey aj,cond_true,dV ws i aj,bind_some,bind_some,drop_cons ws i aj];simp only[Aj,tg,List.all_cons,List.map_cons];cases an:(j9 ws[i]).2
   .simp
   .simp only[Bool.not_true,cond_false,Bool.true_and];rw[lR (by omega) (by omega),bind_some,eo i _ aj (by omega),ih m (by omega) _ (by simp[aJ])];simp[Aj,tg]
 unfold Kh;refine fb (ws.length+1) λm hm=>?_;have:=key 0 (by omega) m (by omega) [] rfl;simpa using this
def wE (ws:ayb):Bool:=ws.all λw=>(j9 w).2&&Ak (j9 w).1
theorem asD (ws:ayb) (h:ws.length<=1048577) (hw:∀w∈ws,w.length<=1048576):
  bZ (λn=>zo ws n [] 0)=some (if wE ws=true then tg ws else [],wE ws&&decide (ws.length<=2)):=by
 have key:∀i,i<=ws.length->∀m,ws.length-i<m->∀v:aye,v.length=i->
   zo ws m v (i:Int)=some (if wE (ws.drop i)=true then v++tg (ws.drop i)else [],wE (ws.drop i)&&decide (ws.length<=2)):=by
  refine down ws.length ?_ ?_
  .intro m hm v aJ;obtain⟨m,rfl⟩:∃j,m=j+1:=⟨m-1,by omega⟩
   simp only[zo,Pb];rw[eb (Nat.le_refl _),List.drop_length,cond_false];have e:decide ((v.length:Int)<=2)=decide (ws.length<=2):=by rw[decide_eq_decide];omega
   rw[e];simp[wE,tg]
  .intro i aj ih m hm v aJ;obtain⟨m,rfl⟩:∃j,m=j+1:=⟨m-1,by omega⟩
   simp only[zo,Pb];rw[ey aj,cond_true,dV ws i aj,bind_some,asw _ (hw _ (List.getElem_mem aj)),bind_some,drop_cons ws i aj];have asE:wE (ws[i]::ws.drop (i+1))=((j9 ws[i]).2&&Ak (j9 ws[i]).1&&wE (ws.drop (i+1))):=rfl;rw[asE];by_cases an:(j9 ws[i]).2=true
   .simp only[an,Bool.not_true,cond_false,Bool.true_and,l_,bind_some];by_cases iJ:Ak (j9 ws[i]).1=true
    .have HA:=iJ;unfold Ak at HA;rw[HA,iJ];simp only[Bool.not_true,cond_false,Bool.true_and];rw[lR (by omega) (by omega),bind_some,eo i _ aj (by omega),ih m (by omega) _ (by simp[aJ])];simp only[tg,List.append_assoc,List.map_cons,List.singleton_append]
    .have aaz:Ak (j9 ws[i]).1=false:=by simpa using iJ
     have HA:=aaz;unfold Ak at HA;rw[HA,aaz];simp
   .have hx:(j9 ws[i]).2=false:=by simpa using an
    simp[hx]
 refine fb (ws.length+1) λm hm=>?_;have:=key 0 (by omega) m (by omega) [] rfl;simpa using this
theorem HB (s:ayc) (ab:s.length<=1048576):(40∉s->zl s=some (s.length:Int))/\∀p q,s=p++40::q->40∉p->zl s=some (p.length:Int):=by
 have step:∀i (aj:i<s.length) m,xN s (m+1) (i:Int)=cond (s[i]==40) (some (i:Int)) (xN s m ((i+1:Nat):Int)):=by
  intro i aj m;simp only[xN,O5];rw[ey aj,cond_true,dV s i aj,bind_some,eo i _ aj (by omega)];have e:((s[i].toNat:Int)==40)=(s[i]==40):=by
   rw[Bool.eq_iff_iff];simp only[beq_iff_eq];constructor
   .intro h;exact UInt8.toNat_inj.1 (by rw[show(40:UInt8).toNat=40 from rfl];omega)
   .intro h;rw[h];rfl
  rw[e]
 constructor
 .intro h;unfold zl;rw[p7 (n:=s.length) (λ_=>some (s.length:Int))]
  .intro m;simp only[xN,O5];rw[eb (Nat.le_refl _)];rfl
  .intro i aj m ih;rw[step i aj m,ih];have:(s[i]==40)=false:=by
    simp only[beq_eq_false_iff_ne,ne_eq];intro e;exact h (e▸List.getElem_mem aj)
   rw[this];rfl
 .rintro p q rfl ax;unfold zl;refine fb (p.length+1) λm hm=>?_;have key:∀k,k<=p.length->∀m,k<m->xN (p++40::q) m ((p.length-k:Nat):Int)=some (p.length:Int):=by
   intro k;induction k with
   |zero=>
    intro _ m hm;obtain⟨m,rfl⟩:∃j,m=j+1:=⟨m-1,by omega⟩
    rw[Nat.sub_zero,step p.length (by simp) m];have:((p++40::q)[p.length]'(by simp))=40:=by simp
    rw[this];rfl
   |succ k ih=>
    intro au m hm;obtain⟨m,rfl⟩:∃j,m=j+1:=⟨m-1,by omega⟩
    rw[step (p.length-(k+1)) (by simp;omega) m];have:((p++40::q)[p.length-(k+1)]'(by simp;omega)==40)=false:=by
     simp only[beq_eq_false_iff_ne,ne_eq];rw[List.getElem_append_left (by omega)];intro e;exact ax (e▸List.getElem_mem (by omega))
    rw[this,cond_false,show p.length-(k+1)+1=p.length-k by omega];exact ih (by omega) m (by omega)
  have:=key p.length (Nat.le_refl _) m (by omega);simpa using this
def mY (t:bQ):Nat:=if t.Kind=2 then 2 else if t.Kind=3 then 1 else 0
theorem Ll (t:bQ):mY t<=2:=by unfold mY;split<;>(try split)<;>omega
theorem aaA (t:bQ):cond (t.Kind==2) (some 2) (cond (t.Kind==3) (some 1) (some 0))=some (mY t:Int):=by
 unfold mY;by_cases af:t.Kind=2
 .simp[af]
 .by_cases aG:t.Kind=3
  .simp[aG]
  .have aY:(t.Kind==2)=false:=by simpa using af
   have aU:(t.Kind==3)=false:=by simpa using aG
   rw[aY,aU,if_neg af,if_neg aG];rfl
def rU (n fP aj:Int):Bool:=decide (fP<=n)&&decide (n<=aj)
def oY (t:bQ) (v:Int):Bool:=cond (t.Kind==0) (rU t.Value 0 63) (cond (t.Kind==1) (rU t.Value 0 (v-1)) (cond (t.Kind==2) (rU t.Value 0 8) (cond (t.Kind==3) (t.Value==0) false)))
def rV (v:Int):ayu->Nat->Bool
 |[],k=>k==0
 |t::r,k=> !(k==0)&&(oY t v&&rV v r (k+mY t-1))
def pD (e:ayu) (v most:Int):Bool:=decide ((e.length:Int)<=most)&&rV v e 1
theorem asF (t:bQ) (v:Int) (aJ: -1000000<=v/\v<=1000000):Jg t v=some (oY t v):=by
 unfold Jg l_ oY rU;rw[ew (v-1) (by omega)];cases t.Kind==0<;>cases t.Kind==1<;>cases t.Kind==2<;>cases t.Kind==3<;>rfl
theorem asG (t:bQ) (v:Int) (aJ: -1000000<=v/\v<=1000000):JP t v=some (oY t v):=by
 unfold JP FW k2 oY rU;rw[ew (v-1) (by omega)];cases t.Kind==0<;>cases t.Kind==1<;>cases t.Kind==2<;>cases t.Kind==3<;>rfl
theorem aaB (t:bQ):Jh t=some (mY t:Int):=aaA t
theorem aaC (t:bQ):JQ t=some (mY t:Int):=aaA t
theorem SA {k a:Nat} (au:1<=k) (o8:k<=100000000) (br:a<=2):i64.wrap ((k:Int)+i64.wrap ((a:Int)-1))=((k+a-1:Nat):Int):=by
 rw[ew ((a:Int)-1) (by omega),ew _ (by omega)];omega
theorem Dn (k:Nat):((k:Int)==0)=(k==0):=by
 by_cases h:k=0
 .subst h;rfl
 .have ad:((k:Int)==0)=false:=by simp;omega
  have af:(k==0)=false:=by simpa using h
  rw[ad,af]
theorem asH (e:ayu) (v most:Int) (aJ: -1000000<=v/\v<=1000000) (he:e.length<=1048576):Ji e v most=some (pD e v most):=by
 unfold Ji pD;by_cases hm:(e.length:Int)<=most
 .have d1:decide (most<(e.length:Int))=false:=by simp;omega
  have d2:decide ((e.length:Int)<=most)=true:=by simpa using hm
  rw[d1,d2,cond_false,Bool.true_and];have key:∀i,i<=e.length->∀(k:Nat) m,k<=1+2*i->e.length-i<m->Bz e v m (k:Int) (i:Int)=some (rV v (e.drop i) k):=by
   refine down e.length ?_ ?_
   .intro k m _ hm;obtain⟨m,rfl⟩:∃j,m=j+1:=⟨m-1,by omega⟩
    simp only[Bz,OJ];rw[eb (Nat.le_refl _),List.drop_of_length_le (Nat.le_refl _),Dn];rfl
   .intro i aj ih k m au hm;obtain⟨m,rfl⟩:∃j,m=j+1:=⟨m-1,by omega⟩
    simp only[Bz,OJ];rw[ey aj,dV _ i aj,eo i _ aj (by omega),drop_cons e i aj,Dn];simp only[cond_true,bind_some,asF _ v aJ,aaB,rV];by_cases a_:k=0
    .subst a_;rfl
    .have aa:(k==0)=false:=by simpa using a_
     have br:=Ll e[i];rw[aa,SA (by omega) (by omega) br,ih _ m (by omega) (by omega)];simp only[cond_false,Bool.not_false,Bool.true_and];cases oY e[i] v<;>rfl
  refine fb (e.length+1) λm hm=>?_;have:=key 0 (by omega) 1 m (by omega) (by omega);simpa using this
 .have d1:decide (most<(e.length:Int))=true:=by simp;omega
  have d2:decide ((e.length:Int)<=most)=false:=by simpa using hm
  rw[d1,d2];rfl
theorem asI (e:ayu) (v most:Int) (aJ:0<=v/\v<=29) (axZ:1<=most/\most<=60) (he:e.length<=1048576):JR e v most=some (pD e v most):=by
 unfold JR k2 pD;have d1:(!(decide (0<=v)&&decide (v<=29)))=false:=by simp;omega
 have d2:(!(decide (1<=most)&&decide (most<=60)))=false:=by simp;omega
 simp only[bind_some,d1,d2,cond_false];by_cases ad:e.length=0
 .have:e=[]:=List.length_eq_zero_iff.1 ad;subst this;simp[rV]
 .by_cases hm:(e.length:Int)<=most
  .have d3:(!(decide ((1:Int)<=(e.length:Int))&&decide ((e.length:Int)<=most)))=false:=by simp;omega
   have d4:decide ((e.length:Int)<=most)=true:=by simpa using hm
   rw[d3,d4,cond_false,Bool.true_and];have key:∀i,i<=e.length->∀(k:Nat) m,k<=1+2*i->e.length-i<m->Cd e v m (k:Int) (i:Int)=some (rV v (e.drop i) k):=by
    refine down e.length ?_ ?_
    .intro k m _ hm;obtain⟨m,rfl⟩:∃j,m=j+1:=⟨m-1,by omega⟩
     simp only[Cd,Px];rw[eb (Nat.le_refl _),List.drop_of_length_le (Nat.le_refl _),Dn];rfl
    .intro i aj ih k m au hm;obtain⟨m,rfl⟩:∃j,m=j+1:=⟨m-1,by omega⟩
     simp only[Cd,Px];rw[ey aj,dV _ i aj,eo i _ aj (by omega),drop_cons e i aj,Dn];simp only[cond_true,bind_some,asG _ v (by omega),aaC,rV];by_cases a_:k=0
     .subst a_;rfl
     .have aa:(k==0)=false:=by simpa using a_
      have br:=Ll e[i];rw[aa,SA (by omega) (by omega) br,ih _ m (by omega) (by omega)];simp only[cond_false,Bool.not_false,Bool.true_and];cases oY e[i] v<;>rfl
   refine fb (e.length+1) λm hm=>?_;have:=key 0 (by omega) 1 m (by omega) (by omega);simpa using this
  .have d3:(!(decide ((1:Int)<=(e.length:Int))&&decide ((e.length:Int)<=most)))=true:=by simp;omega
   have d4:decide ((e.length:Int)<=most)=false:=by simpa using hm
   rw[d3,d4];rfl
def eM (p:b1):Nat:=if p.Kind=1\/p.Kind=3\/p.Kind=4 then 1 else if p.Kind=2 then 2 else 0
theorem Dp (p:b1):eM p<=2:=by unfold eM;split<;>(try split)<;>omega
theorem aaD (p:b1) (K:Bool->ayh) (jJ:∀b,K b=cond b (some 1) (cond (p.Kind==2) (some 2) (some 0))):
  cond (p.Kind==1) (K true) (cond (p.Kind==3) (K true) (K (p.Kind==4)))=some (eM p:Int):=by
 simp only[jJ,eM];by_cases ad:p.Kind=1
 .simp[ad]
 .by_cases aG:p.Kind=3
  .simp[aG]
  .by_cases bf:p.Kind=4
   .simp[bf]
   .by_cases af:p.Kind=2
    .simp[af]
    .have aP:(p.Kind==1)=false:=by simpa using ad
     have aU:(p.Kind==3)=false:=by simpa using aG
     have b4:(p.Kind==4)=false:=by simpa using bf
     have aY:(p.Kind==2)=false:=by simpa using af
     simp[aP,aU,b4,aY,ad,aG,bf,af]
theorem aaE (p:b1):Fw p=some (eM p:Int):=by
 unfold Fw;exact aaD p (Fv p) λ_=>rfl
theorem aaF (p:b1):FU p=some (eM p:Int):=by
 unfold FU;exact aaD p (FT p) λ_=>rfl
def yf:ayv->Nat->Bool
 |[],k=>k==0
 |p::r,k=> !(k==0)&&yf r (k+eM p-1)
def fm:ayv->Nat->Option Nat
 |[],0=>some 0
 |[],_+1=>none
 |_::_,0=>some 0
 |p::r,k+1=>(fm r (k+eM p)).map (·+1)
theorem Al (l:ayv):fm l 0=some 0:=by cases l<;>rfl
theorem rW {p:b1} {r:ayv} {a k:Nat}:fm (p::r) (a+1)=some k↔∃di,fm r (a+eM p)=some di/\k=di+1:=by
 simp only[fm,map_eq_some_iff];constructor
 .rintro⟨di,h,rfl⟩;exact⟨di,h,rfl⟩
 .rintro⟨di,h,rfl⟩;exact⟨di,h,rfl⟩
theorem u0:∀{l:ayv} {a k:Nat},fm l a=some k->a<=k/\k<=l.length
 |[],0,k,h=>by simp only[fm,some.injEq]at h;subst h;simp
 |[],a+1,k,h=>by simp[fm]at h
 |_::_,0,k,h=>by simp only[fm,some.injEq]at h;subst h;simp
 |p::r,a+1,k,h=>by
  obtain⟨di,bC,rfl⟩:=rW.1 h;have:=u0 bC;simp only[List.length_cons];omega
theorem SB:∀(l:ayv) (k:Nat),yf l k=(fm l k==some l.length)
 |[],0=>rfl
 |[],k+1=>rfl
 |p::r,0=>rfl
 |p::r,k+1=>by
  have e:k+1+eM p-1=k+eM p:=by omega
  simp only[yf,e,SB r (k+eM p)];have gb:(k+1==0)=false:=rfl;rw[gb];simp only[Bool.not_false,Bool.true_and,fm];cases fm r (k+eM p)with
  |none=>rfl
  |some n=>simp
theorem Dq:∀{l:ayv} {a b k:Nat},fm l (a+b)=some k->∃bS ct,fm l a=some bS/\fm (l.drop bS) b=some ct/\k=bS+ct
 |l,0,b,k,h=>⟨0,k,Al l,by simpa using h,by omega⟩
 |[],a+1,b,k,h=>by rw[show a+1+b=(a+b)+1 by omega]at h;simp[fm]at h
 |p::r,a+1,b,k,h=>by
  rw[show a+1+b=(a+b)+1 by omega]at h;obtain⟨di,bC,rfl⟩:=rW.1 h;rw[show a+b+eM p=(a+eM p)+b by omega]at bC;obtain⟨bS,ct,ad,af,rfl⟩:=Dq bC;exact⟨bS+1,ct,rW.2 ⟨bS,ad,rfl⟩,by simpa using af,by omega⟩
theorem aaG:∀{l:ayv} {a k:Nat},fm l a=some k->∀i,i<k->∃m,1<=m/\fm (l.drop i) m=some (k-i)
 |[],0,k,h,i,aj=>by simp only[fm,some.injEq]at h;omega
 |[],a+1,k,h,i,aj=>by simp[fm]at h
 |_::_,0,k,h,i,aj=>by simp only[fm,some.injEq]at h;omega
 |p::r,a+1,k,h,i,aj=>by
  cases i with
  |zero=>exact⟨a+1,by omega,by simpa using h⟩
  |succ i=>
   obtain⟨di,bC,rfl⟩:=rW.1 h;obtain⟨m,ad,af⟩:=aaG bC i (by omega);exact⟨m,ad,by simp only[List.drop_succ_cons];rw[af];congr 1;omega⟩
theorem asJ {l:ayv} {a k i:Nat} (h:fm l a=some k) (aj:i<k):∃e,fm (l.drop i) 1=some e/\i+e<=k/\1<=e:=by
 obtain⟨m,ad,af⟩:=aaG h i aj;obtain⟨m,rfl⟩:∃j,m=1+j:=⟨m-1,by omega⟩
 obtain⟨bS,ct,aG,bf,bU⟩:=Dq af;have:=u0 aG;exact⟨bS,aG,by omega,by omega⟩
theorem SC {k a:Nat} (au:1<=k) (o8:k<=100000000) (br:a<=2):i64.wrap ((k:Int)+i64.wrap ((a:Int)-1))=((k+a-1:Nat):Int):=by
 rw[ew ((a:Int)-1) (by omega),ew _ (by omega)];omega
theorem asK (e:ayv) (he:e.length<=1048576):Je e=some ((decide (1<=e.length)&&decide (e.length<=20))&&yf e 1):=by
 unfold Je;by_cases hm:1<=e.length/\e.length<=20
 .have d1:(((e.length:Int)==0)||decide ((20:Int)<(e.length:Int)))=false:=by
   rw[Bool.or_eq_false_iff,beq_eq_false_iff_ne,decide_eq_false_iff_not];omega
  have d2:(decide (1<=e.length)&&decide (e.length<=20))=true:=by simp;omega
  rw[d1,d2,cond_false,Bool.true_and];have key:∀i,i<=e.length->∀(k:Nat) m,k<=1+2*i->e.length-i<m->Bu e m (k:Int) (i:Int)=some (yf (e.drop i) k):=by
   refine down e.length ?_ ?_
   .intro k m _ hm;obtain⟨m,rfl⟩:∃j,m=j+1:=⟨m-1,by omega⟩
    simp only[Bu,OE];rw[eb (Nat.le_refl _),List.drop_of_length_le (Nat.le_refl _),Dn];rfl
   .intro i aj ih k m au hm;obtain⟨m,rfl⟩:∃j,m=j+1:=⟨m-1,by omega⟩
    simp only[Bu,OE];rw[ey aj,dV _ i aj,eo i _ aj (by omega),drop_cons e i aj,Dn];simp only[cond_true,bind_some,aaE,yf];by_cases a_:k=0
    .subst a_;rfl
    .have aa:(k==0)=false:=by simpa using a_
     have br:=Dp e[i];rw[aa,SC (by omega) (by omega) br,ih _ m (by omega) (by omega)];simp only[cond_false,Bool.not_false,Bool.true_and]
  refine fb (e.length+1) λm hm=>?_;have:=key 0 (by omega) 1 m (by omega) (by omega);simpa using this
 .have d1:(((e.length:Int)==0)||decide ((20:Int)<(e.length:Int)))=true:=by
   by_cases h:e.length=0
   .simp[h]
   .have:decide ((20:Int)<(e.length:Int))=true:=by simp;omega
    rw[this,Bool.or_true]
  have d2:(decide (1<=e.length)&&decide (e.length<=20))=false:=by
   rw[Bool.and_eq_false_iff,decide_eq_false_iff_not,decide_eq_false_iff_not];omega
  rw[d1,d2];rfl
def th (i:Nat):Option Nat->Int
 |none=> -1
 |some n=>((i+n:Nat):Int)
theorem aaH (d:bb) (an:d.Body.length<=1048576) (i0:Nat) (a_:i0<=d.Body.length):FV d (i0:Int)=some (th i0 (fm (d.Body.drop i0) 1)):=by
 unfold FV;have key:∀i,i<=d.Body.length->∀(k:Nat) m,k<=1+2*i->d.Body.length-i<m->Cb d m (i:Int) (k:Int)=some (th i (fm (d.Body.drop i) k)):=by
  refine down d.Body.length ?_ ?_
  .intro k m _ hm;obtain⟨m,rfl⟩:∃j,m=j+1:=⟨m-1,by omega⟩
   simp only[Cb,Ps];rw[List.drop_of_length_le (Nat.le_refl _)];cases k with
   |zero=>rw[Af];simp[fm,th]
   |succ k=>
    rw[Ad (succ_pos k)];have:decide ((d.Body.length:Int)<=(d.Body.length:Int))=true:=by simp
    rw[this];rfl
  .intro i aj ih k m au hm;obtain⟨m,rfl⟩:∃j,m=j+1:=⟨m-1,by omega⟩
   simp only[Cb,Ps];cases k with
   |zero=>rw[Af,Al];simp[th]
   |succ k=>
    have d1:decide ((d.Body.length:Int)<=(i:Int))=false:=by simp;omega
    rw[Ad (succ_pos k),d1,dV _ i aj,eo i _ aj (by omega),drop_cons _ i aj];simp only[cond_true,cond_false,bind_some,aaF];have br:=Dp d.Body[i];rw[SC (by omega) (by omega) br,ih _ m (by omega) (by omega),show k+1+eM d.Body[i]-1=k+eM d.Body[i] by omega];simp only[fm];cases fm (d.Body.drop (i+1)) (k+eM d.Body[i])with
    |none=>rfl
    |some n=>simp only[map_some,th];congr 2;omega
 refine fb (d.Body.length+1) λm hm=>?_;refine down d.Body.length (P:=λ_=>True) trivial (λ_ _ _=>trivial) 0 (zero_le _)|>λ_=>?_;have bS:=key i0 a_ 1 m (by omega) (by omega);simpa using bS
theorem aaI (b:ayv) (aa:b.length<=1048576) (i0 n:Nat) (h:fm (b.drop i0) 1=some n):Fy b (i0:Int)=some ((i0+n:Nat):Int):=by
 unfold Fy;have a_:i0<b.length:=by
  have:=u0 h;rw[List.length_drop]at this;omega
 have key:∀i,i<=b.length->∀(k n:Nat) m,k<=1+2*i->b.length-i<m->fm (b.drop i) k=some n->Bv b m (i:Int) (k:Int)=some ((i+n:Nat):Int):=by
  refine down b.length ?_ ?_
  .intro k n m _ hm he;obtain⟨m,rfl⟩:∃j,m=j+1:=⟨m-1,by omega⟩
   simp only[Bv,OH];rw[List.drop_of_length_le (Nat.le_refl _)]at he;cases k with
   |zero=>rw[Af];simp only[fm,some.injEq]at he;subst he;simp
   |succ k=>simp[fm]at he
  .intro i aj ih k n m au hm he;obtain⟨m,rfl⟩:∃j,m=j+1:=⟨m-1,by omega⟩
   simp only[Bv,OH];cases k with
   |zero=>rw[Al]at he;cases he;rw[Af];simp
   |succ k=>
    rw[drop_cons _ i aj]at he;obtain⟨MF,qn,rfl⟩:=rW.1 he;rw[Ad (succ_pos k),dV _ i aj,eo i _ aj (by omega)];simp only[cond_true,bind_some,aaE];have br:=Dp b[i];rw[SC (by omega) (by omega) br,show k+1+eM b[i]-1=k+eM b[i] by omega,ih _ MF m (by omega) (by omega) qn];congr 2;omega
 refine fb (b.length+1) λm hm=>?_;have bS:=key i0 (by omega) 1 n m (by omega) (by omega) h;simpa using bS
def below (p:b1) (s:dM):dM:=⟨if p.Kind=4 then s.scope+1 else s.scope,p.Kind==1⟩
def gZ:ayv->ayC->ayC
 |[],_=>[]
 |_::_,[]=>[]
 |p::r,s::st=>s::gZ r (List.replicate (eM p) (below p s)++st)
theorem asL (l:ayv):gZ l []=[]:=by cases l<;>rfl
theorem Am:∀{l:ayv} {st:ayC} {k:Nat},fm l st.length=some k->(gZ l st).length=k
 |[],[],k,h=>by simp only[List.length_nil,fm,some.injEq]at h;subst h;rfl
 |[],s::st,k,h=>by simp[fm]at h
 |p::r,[],k,h=>by simp only[List.length_nil,fm,some.injEq]at h;subst h;rfl
 |p::r,s::st,k,h=>by
  obtain⟨di,bC,rfl⟩:=rW.1 h;simp only[gZ,List.length_cons];rw[Am (k:=di) (by rw[List.length_append,List.length_replicate,Nat.add_comm];exact bC)]
theorem SD:∀{l:ayv} {s1 s2:ayC} {k:Nat},fm l s1.length=some k->gZ l (s1++s2)=gZ l s1++gZ (l.drop k) s2
 |[],[],s2,k,h=>by simp only[List.length_nil,fm,some.injEq]at h;subst h;rfl
 |[],s::st,s2,k,h=>by simp[fm]at h
 |p::r,[],s2,k,h=>by simp only[List.length_nil,fm,some.injEq]at h;subst h;simp[gZ]
 |p::r,s::st,s2,k,h=>by
  obtain⟨di,bC,rfl⟩:=rW.1 h;simp only[gZ,List.cons_append,List.drop_succ_cons];rw[<-List.append_assoc,SD (k:=di) (by rw[List.length_append,List.length_replicate,Nat.add_comm];exact bC)]
def patch (out:ayC) (i:Nat) (new:ayC):ayC:=out.take i++(new++out.drop (i+new.length))
theorem asM (out:ayC) (i:Nat):patch out i []=out:=by simp[patch]
theorem aaJ {out:ayC} {i:Nat} {new:ayC} (h:i+new.length<=out.length):(patch out i new).length=out.length:=by
 simp[patch];omega
theorem aaK {out:ayC} {i j:Nat} {a b:ayC} (bF:j=i+a.length) (h:i+a.length+b.length<=out.length):patch (patch out i a) j b=patch out i (a++b):=by
 subst bF;unfold patch;have aP:(out.take i).length=i:=by rw[List.length_take];omega
 have t1:(out.take i++(a++out.drop (i+a.length))).take (i+a.length)=out.take i++a:=by
  rw[<-List.append_assoc,List.take_left' (by rw[List.length_append,aP])]
 have t2:(out.take i++(a++out.drop (i+a.length))).drop (i+a.length+b.length)=out.drop (i+a.length+b.length):=by
  rw[<-List.append_assoc,<-List.drop_drop,List.drop_left' (by rw[List.length_append,aP]),List.drop_drop]
 rw[t1,t2];simp only[List.append_assoc,List.length_append,Nat.add_assoc]
theorem asN {out:ayC} {i:Nat} {s:dM} (h:i<out.length):out.set i s=patch out i [s]:=by
 unfold patch;apply List.ext_getElem?;intro j;rw[List.getElem?_set];rcases Nat.lt_trichotomy i j with Lm|Lm|Lm
 .rw[if_neg (by omega),List.getElem?_append_right (by simp;omega)];have aP:(out.take i).length=i:=by simp;omega
  rw[aP];obtain⟨d,rfl⟩:∃d,j=i+(d+1):=⟨j-i-1,by omega⟩
  rw[show i+(d+1)-i=d+1 by omega];simp only[List.singleton_append,List.getElem?_cons_succ,List.length_singleton,List.getElem?_drop];congr 1;omega
 .subst Lm;rw[if_pos rfl,if_pos h,List.getElem?_append_right (by simp;omega)];have aP:(out.take i).length=i:=by simp;omega
  rw[aP];simp
 .rw[if_neg (by omega),List.getElem?_append_left (by simp;omega),List.getElem?_take,if_pos Lm]
theorem asO (n:Int) (h:0<=n) (af:n<=1000000):i64.wrap (n+1)=n+1:=ew _ (by omega)
theorem aaL {rec:Int->dM->ayC->bb->Option (Int×ayC)} {d:bb} {n:Nat} (an:d.Body.length<=1048576)
  (Ln:∀(at_ k:Nat) (s:dM) (out:ayC),out.length=d.Body.length->fm (d.Body.drop at_) 1=some k->k<=n->0<=s.scope->s.scope+k<=1000000->
   rec (at_:Int) s out d=some (((at_+k:Nat):Int),patch out at_ (gZ (d.Body.drop at_) [s])))
  (ee:Int) (p:b1) (f:Nat) (bD:f<=2):∀(c j at_ k:Nat) (out:ayC) (m:Nat),j+c=f->c<m->out.length=d.Body.length->fm (d.Body.drop at_) c=some k->k<=n->0<=ee->ee+k<=1000000->
   zr rec d ee p (f:Int) m out (at_:Int) (j:Int)=some (((at_+k:Nat):Int),patch out at_ (gZ (d.Body.drop at_) (List.replicate c ⟨ee,p.Kind==1⟩)))
 |0,j,at_,k,out,m,bF,hm,bI,he,au,a_,ad=>by
  obtain⟨m,rfl⟩:∃i,m=i+1:=⟨m-1,by omega⟩
  rw[Al]at he;cases he;simp only[zr,Pt];rw[eb (by omega)];simp[asL,asM]
 |c+1,j,at_,k,out,m,bF,hm,bI,he,au,a_,ad=>by
  obtain⟨m,rfl⟩:∃i,m=i+1:=⟨m-1,by omega⟩
  rw[Nat.add_comm c 1]at he;obtain⟨bS,ct,aP,aY,rfl⟩:=Dq he;have h5:=u0 aP;have l2:=u0 aY;rw[List.length_drop]at h5;rw[List.drop_drop,List.length_drop]at l2;have hlen:(gZ (d.Body.drop at_) [⟨ee,p.Kind==1⟩]).length=bS:=Am (st:=[_]) aP;simp only[zr,Pt];rw[ey (by omega),Ln at_ bS _ out bI aP (by omega) a_ (by show ee+(bS:Int)<=_;omega),eo j f (by omega) (by omega)];simp only[cond_true,bind_some];have fI:(patch out at_ (gZ (d.Body.drop at_) [⟨ee,p.Kind==1⟩])).length=d.Body.length:=by
   rw[aaJ (by rw[hlen];omega),bI]
  rw[List.drop_drop]at aY;rw[aaL an Ln ee p f bD c (j+1) (at_+bS) ct _ m (by omega) (by omega) fI aY (by omega) a_ (by omega)];have asP:(gZ (d.Body.drop (at_+bS)) (List.replicate c ⟨ee,p.Kind==1⟩)).length=ct:=Am (by rw[List.length_replicate];exact aY);have asQ:gZ (d.Body.drop at_) (List.replicate (c+1) ⟨ee,p.Kind==1⟩)=gZ (d.Body.drop at_) [⟨ee,p.Kind==1⟩]++gZ (d.Body.drop (at_+bS)) (List.replicate c ⟨ee,p.Kind==1⟩):=by
   rw[List.replicate_succ,<-List.singleton_append,SD (k:=bS) (s1:=[_]) aP,List.drop_drop]
  rw[asQ,aaK (by rw[hlen]) (by rw[hlen,asP];omega),Nat.add_assoc]
end Go.kX
