/- Part of a proof that a law returns true for every input. No condition. -/
import Derived.Test.YtmaenemdkobeeaaGreatUV5x
namespace Go.mc
open Option Go.IntKind Nat Or
open Go Go.ek
theorem WM:∀(l:arV) (dr dh:Nat) (w:Option fE),dr<=dh->(∀i,i<dr->jw (l.drop i) (dh-i)=jw (l.drop i) (dr-i))->hf l dh w=hf (l.drop dr) (dh-dr) (hf l dr w)
 |l,0,dh,w,_,_=>by rw[r8];simp
 |[],dr+1,dh,w,h,_=>by
  obtain⟨dh,rfl⟩:∃j,dh=j+1:=⟨dh-1,by omega⟩
  simp only[hf,List.drop_nil];generalize dh+1-(dr+1)=q;cases q<;>rfl
 |p::r,dr+1,dh,w,h,b_=>by
  obtain⟨dh,rfl⟩:∃j,dh=j+1:=⟨dh-1,by omega⟩
  have ih:=λw=>WM r dr dh w (by omega) λi al=>by
   have:=b_ (i+1) (by omega);simpa [show dh+1-(i+1)=dh-i by omega,show dr+1-(i+1)=dr-i by omega]using this
  have a5:=b_ 0 (by omega);simp only[List.drop_zero,Nat.sub_zero]at a5;simp only[hf,ih,a5,List.drop_succ_cons,show dh+1-(dr+1)=dh-dr by omega]
theorem WN:∀(l:arV) (q:Nat) (w:Option fE),(∀i,i<q->jw (l.drop i) (q-i)=false)->hf l q w=w
 |l,0,w,_=>r8 l w
 |[],q+1,w,_=>rfl
 |p::r,q+1,w,h=>by
  have a5:=h 0 (by omega);simp only[List.drop_zero,Nat.sub_zero]at a5;simp only[hf,a5];rw[if_neg (by decide)];exact WN r q w λi al=>by simpa [show q+1-(i+1)=q-i by omega]using h (i+1) (by omega)
theorem aoO {l:arV} {k:Nat} (h:dP l 1=some k) (w:Option fE):hf l k w=w:=by
 refine WN l k w λi al=>?_;obtain⟨e,ae,ag,aK⟩:=xW h al;simp only[jw,ae,decide_eq_false_iff_not];omega
theorem WO {l:arV} {a k:Nat} {w:Option fE} (h:dP l 1=some k):(mP l a [w]).length<=k:=by
 rw[Pf l a [w] k h];refine Nat.le_trans (List.length_filterMap_le _ _) ?_;simp
section
variable {s:cG} (h:lU s.aC) (aE:jX s.aC=true) {P:Int} (aX:0<=P/\P<=1000) {n k f N:Nat} (ew:(b8 s.aC 0).length<=64)
 (ao:k<s.aC.length) (bo:dP (s.aC[k].Body.drop f) 1=some N)
 (aZ:n<(b8 s.aC 0).length) (vX:(b8 s.aC 0)[n]=[(k:Int),(f:Int)]) {C:arX} {M:arY} {A H:arD} {st:arG}
include h aE aX ew ao bo aZ vX
theorem aoP:∀(Ed a e:Nat) (w:fE) (lZ:arZ),dP (s.aC[k].Body.drop a) 1=some e->e<=Ed->f<=a->a+e<=f+N->hf (s.aC[k].Body.drop f) (a-f) (some ⟨[],[]⟩)=some w->lZ.length+e<=100000->
  zC Ed s.aC C M A H (b8 s.aC 0) P st lZ (n:Int) (a:Int) w=
   some (s.aC,C,M,A,H,b8 s.aC 0,P,st,lZ++(mP (s.aC[k].Body.drop a) a [some w]).map λx=>uC (b8 s.aC 0) P s.aC[k] n k f x.1 x.2):=by
 intro Ed;have hle:=kN bo;rw[List.length_drop]at hle;have ars:=(D5 h aE ao).2;induction Ed with
 |zero=>intro a e w lZ he aoQ _ _ _ _;have:=kN he;omega
 |succ Ed ih=>
  intro a e w lZ he aoQ aoR art hw ot;have WB:=kN he;have b6:a<s.aC[k].Body.length:=by rw[List.length_drop]at WB;omega
  have fM:a_ [(k:Int),(f:Int)] 0=some (k:Int):=rfl;have kW:=he;rw[drop_cons _ a b6]at kW;obtain⟨fQ,g0,rfl⟩:=nN.1 kW;rw[Nat.zero_add]at g0;have sH:i64.wrap ((a:Int)+1)=((a+1:Nat):Int):=et a 100 (by omega) (by omega);have Io:∀c,a<c->c<a+(fQ+1)->hf (s.aC[k].Body.drop f) (c-f) (some ⟨[],[]⟩)=hf (s.aC[k].Body.drop (a+1)) (c-(a+1)) (jx s.aC[k].Body[a] (some w)):=by
   intro c k_ jM;rw[WM (s.aC[k].Body.drop f) (a-f) (c-f) _ (by omega) (λi al=>Pm bo al (by omega) (e:=fQ+1) (by rw[List.drop_drop,show f+(a-f)=a by omega];exact he) (by omega)),hw,List.drop_drop,show f+(a-f)=a by omega,drop_cons _ a b6,show c-f-(a-f)=(c-(a+1))+1 by omega];simp only[hf];have vW:jw (s.aC[k].Body[a]::s.aC[k].Body.drop (a+1)) (c-(a+1)+1)=true:=by
    simp only[jw,kW,decide_eq_true_eq];omega
   rw[if_pos vW]
  simp only[zC,Mv];rw[er _ n aZ,vX];simp only[bind_some,fM];rw[er _ k ao];simp only[bind_some];rw[er _ a b6,sH];simp only[bind_some];rw[drop_cons _ a b6];simp only[mP];have aru:=Au h aE ao _ (List.getElem_mem b6);have mm:∀c:Int,s.aC[k].Body[a].Kind≠c->(s.aC[k].Body[a].Kind==c)=false:=λc ax=>by simpa using ax
  by_cases ae:s.aC[k].Body[a].Kind=1
  .have aW:(s.aC[k].Body[a].Kind==1)=true:=by simp[ae]
   rw[aW,cond_true,aoM h aE aX ew ao bo aoR (by omega) (by rw[qU b6];exact ae) hw aZ vX (by omega)];have hs:dZ s.aC[k].Body[a]=1:=by unfold dZ;rw[if_pos (.inl ae)]
   have r9:jx s.aC[k].Body[a] (some w)=none:=by simp only[jx];rw[if_pos ae]
   rw[r9,hs,List.append_nil,Wo];simp only[uA,ae,if_true,bind_some,List.append_nil,List.map_cons,List.map_nil]
  rw[mm 1 ae,cond_false];have k6:uA s.aC[k].Body[a] a (some w)=[]:=by simp only[uA];rw[if_neg ae]
  rw[k6,List.nil_append];by_cases ag:s.aC[k].Body[a].Kind=2
  .have a8:(s.aC[k].Body[a].Kind==2)=true:=by simp[ag]
   have hs:dZ s.aC[k].Body[a]=2:=by unfold dZ;rw[if_neg (by omega),if_pos ag]
   have r9:jx s.aC[k].Body[a] (some w)=some w:=by simp only[jx];rw[if_neg ae,if_neg (by omega),if_neg (by omega)]
   rw[hs]at g0;obtain⟨b3,cv,Av,Pp,rfl⟩:=rW (a:=1) (b:=1) g0;have fA:=kN Av;have l2:=kN Pp;have al9:=WO (a:=a+1) (w:=some w) Av;rw[a8,cond_true,ih (a+1) b3 w lZ Av (by omega) (by omega) (by omega) (by rw[Io (a+1) (by omega) (by omega),Nat.sub_self,r8,r9]) (by omega)];simp only[bind_some];rw[VJ _ (by omega) (a+1) (by omega),Av];simp only[bind_some,rX];rw[List.drop_drop]at Pp;rw[ih (a+1+b3) cv w _ Pp (by omega) (by omega) (by omega) (by rw[Io (a+1+b3) (by omega) (by omega),r9,show a+1+b3-(a+1)=b3 by omega,aoO Av]) (by simp only[List.length_append,List.length_map];omega)];simp only[bind_some];rw[r9,hs,List.append_nil,show List.replicate 2 (some w)=[some w]++[some w]from rfl,Wm (a+1) Av,List.drop_drop,List.map_append,List.append_assoc]
  rw[mm 2 ag,cond_false];by_cases aK:s.aC[k].Body[a].Kind=3
  .have aY:(s.aC[k].Body[a].Kind==3)=true:=by simp[aK]
   have hs:dZ s.aC[k].Body[a]=1:=by unfold dZ;rw[if_pos (.inr (.inl aK))]
   have r9:jx s.aC[k].Body[a] (some w)=some ⟨w.hB,w.guards++[s.aC[k].Body[a].a9.getD 0 []]⟩:=by simp only[jx];rw[if_neg ae,if_pos aK]
   rw[hs]at g0;have fA:=kN g0;obtain⟨ef,hb,ll⟩:=D_ _ _ _ _ (λp aw=>(h.2 _ (List.getElem_mem ao)).2.2 p (List.mem_of_mem_drop aw)) (by intro g bC;cases bC) hw;have ca:w.guards.length<=100:=by have:w.guards.length<=nP w:=le_add_left _ _;have:nP ⟨[],[]⟩=0:=rfl;omega
   have arv:=(D7 h aE ao b6).Wl aK;have Po:a_ s.aC[k].Body[a].a9 0=some (s.aC[k].Body[a].a9.getD 0 []):=lT _ 0 _ (by omega);rw[aY,cond_true,aos _ (by omega),Po];simp only[bind_some];rw[h_ (by omega) (by omega)];simp only[bind_some];rw[ih (a+1) fQ _ lZ g0 (by omega) (by omega) (by omega) (by rw[Io (a+1) (by omega) (by omega),Nat.sub_self,r8,r9]) (by omega)];simp only[bind_some];rw[r9,hs,List.append_nil];rfl
  rw[mm 3 aK,cond_false];by_cases a3:s.aC[k].Body[a].Kind=4
  .have bT:(s.aC[k].Body[a].Kind==4)=true:=by simp[a3]
   have hs:dZ s.aC[k].Body[a]=1:=by unfold dZ;rw[if_pos (.inr (.inr a3))]
   have r9:jx s.aC[k].Body[a] (some w)=some ⟨w.hB++[s.aC[k].Body[a].Number],w.guards⟩:=by simp only[jx];rw[if_neg ae,if_neg aK,if_pos a3]
   rw[hs]at g0;have fA:=kN g0;obtain⟨ef,hb,ll⟩:=D_ _ _ _ _ (λp aw=>(h.2 _ (List.getElem_mem ao)).2.2 p (List.mem_of_mem_drop aw)) (by intro g bC;cases bC) hw;have ca:w.hB.length<=100:=by have:w.hB.length<=nP w:=le_add_right _ _;have:nP ⟨[],[]⟩=0:=rfl;omega
   rw[bT,cond_true,Wu _ (by omega)];simp only[bind_some];rw[h_ (by omega) (by omega)];simp only[bind_some];rw[ih (a+1) fQ _ lZ g0 (by omega) (by omega) (by omega) (by rw[Io (a+1) (by omega) (by omega),Nat.sub_self,r8,r9]) (by omega)];simp only[bind_some];rw[r9,hs,List.append_nil];rfl
  rw[mm 4 a3,cond_false];have hs:dZ s.aC[k].Body[a]=0:=by unfold dZ;rw[if_neg (by omega),if_neg ag]
  rw[hs];simp only[List.replicate_zero,List.nil_append,aoi,List.map_nil,List.append_nil]
end
def ho (s:cG) (n:Nat):Nat:=(((b8 s.aC 0).getD n []).getD 0 0).toNat
def en (s:cG) (n:Nat):Nat:=(((b8 s.aC 0).getD n []).getD 1 0).toNat
def ow (s:cG) (n:Nat):bg:=s.aC.getD (ho s n) ⟨[],0,[]⟩
def vY (s:cG) (P:Int) (n:Nat) (x:Nat×fE):bH:=uC (b8 s.aC 0) P (ow s n) n (ho s n) (en s n) x.1 x.2
def p3 (s:cG) (P:Int) (n:Nat):arZ:=(mP ((ow s n).Body.drop (en s n)) (en s n) [some ⟨[],[]⟩]).map (vY s P n)
def mn (s:cG) (P:Int) (i m:Nat):arZ:=(List.range' i m).flatMap (p3 s P)
theorem Pq (s:cG) (P:Int) (i m:Nat):mn s P i (m+1)=p3 s P i++mn s P (i+1) m:=by
 simp only[mn,List.range'_succ,List.flatMap_cons]
section
variable {s:cG} (h:lU s.aC) (aE:jX s.aC=true)
include h aE
theorem vZ {n:Nat} (aZ:n<(b8 s.aC 0).length):∃(ao:ho s n<s.aC.length),(b8 s.aC 0)[n]=[(ho s n:Int),(en s n:Int)]/\en s n<s.aC[ho s n].Body.length/\ow s n=s.aC[ho s n]/\
  ∃N,dP (s.aC[ho s n].Body.drop (en s n)) 1=some N/\N<=20:=by
 obtain⟨k,q,ao,aW,a8⟩:=Wz s.aC 0 (λd ak=>by
  obtain⟨j,bP,rfl⟩:=List.mem_iff_getElem.1 ak;exact(D5 h aE bP).1) _ (List.getElem_mem aZ)
 rw[Nat.zero_add]at aW;have WQ:(b8 s.aC 0).getD n []=[(k:Int),(q:Int)]:=by rw[List.getD_eq_getElem?_getD,List.getElem?_eq_getElem aZ,getD_some,aW]
 have mm:ho s n=k:=by unfold ho;rw[WQ];rfl
 have Pr:en s n=q:=by unfold en;rw[WQ];rfl
 refine⟨by rw[mm];exact ao,by rw[mm,Pr];exact aW,by simp only[mm,Pr];exact a8,?_,?_⟩
 .unfold ow;rw[List.getD_eq_getElem?_getD,List.getElem?_eq_getElem (by rw[mm];exact ao)];rfl
 .obtain⟨_,_,ak⟩:=lY h aE;obtain⟨_,kR,_⟩:=ak _ (show ho s n<s.aC.length by rw[mm];exact ao);obtain⟨s1,_,kB⟩:=oq kR;obtain⟨N,lG,bD,fk⟩:=xW s1 (show en s n<s.aC[ho s n].Body.length by simp only[mm,Pr];exact a8);exact⟨N,lG,by omega⟩
theorem WR {P:Int} {n:Nat} (aZ:n<(b8 s.aC 0).length):(p3 s P n).length<=20:=by
 obtain⟨ao,_,_,aY,N,bT,cF⟩:=vZ h aE aZ;unfold p3;rw[List.length_map,aY];exact Nat.le_trans (WO bT) cF
variable {P:Int} (aX:0<=P/\P<=1000) (ew:(b8 s.aC 0).length<=64)
include aX ew
theorem aoS (st:arG):
  ∀i,i<=(b8 s.aC 0).length->∀(v:arZ) m,v.length<=20*i->(b8 s.aC 0).length-i<m->
   vr (b8 s.aC 0) m s (b8 s.aC 0) P st v (i:Int)=(C0 ⟨P,st,v++mn s P i ((b8 s.aC 0).length-i)⟩).bind λcp=>some (⟨P,st,v++mn s P i ((b8 s.aC 0).length-i)⟩,cp):=by
 refine down (b8 s.aC 0).length ?_ ?_
 .intro v m hO hm;obtain⟨m,rfl⟩:∃j,m=j+1:=⟨m-1,by omega⟩
  simp only[vr,MA];rw[dX (Nat.le_refl _),Nat.sub_self,cond_false];simp[mn]
 .intro i al ih v m hO hm;obtain⟨m,rfl⟩:∃j,m=j+1:=⟨m-1,by omega⟩
  obtain⟨ao,aW,a8,aY,N,bT,cF⟩:=vZ h aE al;have hl:=WR h aE (P:=P) al;simp only[vr,MA];rw[eI al,cond_true,er _ i al,aW];simp only[bind_some];rw[show a_ [(ho s i:Int),(en s i:Int)] 1=some (en s i:Int)from rfl];simp only[bind_some];have D0:GS s.aC s.b7 s.hA s.hg s.hh (b8 s.aC 0) P st v (i:Int) (en s i:Int) ⟨[],[]⟩=
    some (s.aC,s.b7,s.hA,s.hg,s.hh,b8 s.aC 0,P,st,v++p3 s P i):=by
   unfold GS;refine fO 30 λm hm=>?_;rw[aoP h aE aX ew ao bT al aW m (en s i) N ⟨[],[]⟩ v bT (by omega) (Nat.le_refl _) (Nat.le_refl _) (by rw[Nat.sub_self,r8]) (by omega)];unfold p3 vY;rw[aY]
  rw[D0,et i _ al (by omega)];simp only[bind_some];rw[ih (v++p3 s P i) m (by rw[List.length_append];omega) (by omega),show(b8 s.aC 0).length-i=((b8 s.aC 0).length-(i+1))+1 by omega,Pq,List.append_assoc]
theorem aoT (st:arG) (K:Int->arG->arZ->Int->Option (cr×Bool)) {n:Nat} (aZ:n<(b8 s.aC 0).length) (v:arZ) (hO:v.length<=60) {N:Nat}
  (p2:dP ((ow s n).Body.drop (en s n)) 1=some N):
  (bU λm=>vl K s (b8 s.aC 0) (ow s n) (en s n:Int) ((en s n+N:Nat):Int) m P st v (n:Int) (en s n:Int))=
   if v.length+(p3 s P n).length<=60 then K P st (v++p3 s P n) ((n+1:Nat):Int)else some (⟨0,[],[]⟩,false):=by
 obtain⟨ao,aW,a8,aY,arw,bT,cF⟩:=vZ h aE aZ;rw[aY]at p2;rw[bT]at p2;cases p2;obtain⟨_,_,ak⟩:=lY h aE;obtain⟨_,kR,_⟩:=ak _ ao;obtain⟨s1,_,kB⟩:=oq kR;have ab:=(h.2 _ (List.getElem_mem ao)).2.1;have hle:=kN bT;rw[List.length_drop]at hle;have aoU:p3 s P n=((List.range' 0 N).filterMap (vU (s.aC[ho s n].Body.drop (en s n)) (en s n))).map (vY s P n):=by
  unfold p3;rw[aY,Wq bT,List.range_eq_range']
 have key:∀q,q<=N->∀(v:arZ) m,v.length<=60->N-q<m->
   vl K s (b8 s.aC 0) (ow s n) (en s n:Int) ((en s n+N:Nat):Int) m P st v (n:Int) ((en s n+q:Nat):Int)=
    if v.length+(((List.range' q (N-q)).filterMap (vU (s.aC[ho s n].Body.drop (en s n)) (en s n))).map (vY s P n)).length<=60 then K P st (v++((List.range' q (N-q)).filterMap (vU (s.aC[ho s n].Body.drop (en s n)) (en s n))).map (vY s P n)) ((n+1:Nat):Int)else some (⟨0,[],[]⟩,false):=by
  refine down N ?_ ?_
  .intro v m hO hm;obtain⟨m,rfl⟩:∃j,m=j+1:=⟨m-1,by omega⟩
   simp only[vl,LG];rw[dX (Nat.le_refl _),Nat.sub_self,cond_false,et n _ aZ (by omega)];rw[if_pos (by simpa using hO)];simp
  .intro q cl ih v m hO hm;obtain⟨m,rfl⟩:∃j,m=j+1:=⟨m-1,by omega⟩
   have e2:en s n+q<en s n+N:=by omega
   have a4:=aoJ ab (Au h aE ao) s1 bT (a:=en s n+q) (by omega) e2;rw[show en s n+q-en s n=q by omega]at a4;simp only[vl,LG,Ga];rw[eI e2,cond_true,aY,a4,et _ _ e2 (by omega)];simp only[bind_some];have oI:(s.aC[ho s n].Body.drop (en s n))[q]? =some (gC s.aC[ho s n] (en s n+q)):=by
    rw[List.getElem?_drop,qU (by omega),List.getElem?_eq_getElem]
   rw[show N-q=(N-(q+1))+1 by omega,List.range'_succ];have nV:vU (s.aC[ho s n].Body.drop (en s n)) (en s n) q=if(gC s.aC[ho s n] (en s n+q)).Kind=1 then(hf (s.aC[ho s n].Body.drop (en s n)) q (some ⟨[],[]⟩)).map λw=>(en s n+q,w)else none:=by
    unfold vU D9;rw[oI]
   have pd:=λv hO=>ih v m hO (by omega);rw[show en s n+(q+1)=en s n+q+1 by omega,aY]at pd;by_cases lk:(gC s.aC[ho s n] (en s n+q)).Kind=1
   .have Ps:((gC s.aC[ho s n] (en s n+q)).Kind==1)=true:=by simp[lk]
    rw[if_pos lk]at nV;rw[Ps,Bool.true_and];cases hw:hf (s.aC[ho s n].Body.drop (en s n)) q (some ⟨[],[]⟩)with
    |none=>
     rw[hw,map_none]at nV;rw[List.filterMap_cons_none nV];simp only[isSome_none,cond_false];exact pd v hO
    |some w=>
     rw[hw,map_some]at nV;rw[List.filterMap_cons_some nV];simp only[isSome_some,cond_true,List.map_cons,List.length_cons];by_cases o5:v.length=60
     .have:((v.length:Int)==60)=true:=by simp[o5]
      rw[this,cond_true,if_neg (by omega)]
     .have:((v.length:Int)==60)=false:=by simp;omega
      rw[this,cond_false,aoI h aE aX ew ao bT (by omega) e2 lk (by rw[show en s n+q-en s n=q by omega];exact hw) aZ aW];simp only[bind_some];rw[h_ (by omega) (by omega)];simp only[bind_some];rw[pd _ (by simp only[List.length_append,List.length_cons,List.length_nil];omega)];have aoV:vY s P n (en s n+q,w)=uC (b8 s.aC 0) P s.aC[ho s n] n (ho s n) (en s n) (en s n+q) w:=by unfold vY;rw[aY]
      simp only[List.length_append,List.length_cons,List.length_nil,List.append_assoc,List.cons_append,List.nil_append,aoV];congr 1;simp only[eq_iff_iff];omega
   .have Ps:((gC s.aC[ho s n] (en s n+q)).Kind==1)=false:=by simpa using lk
    rw[if_neg lk]at nV;rw[Ps,Bool.false_and,cond_false,List.filterMap_cons_none nV];exact pd v hO
 refine fO (N+1) λm hm=>?_;have:=key 0 (by omega) v m hO (by omega);rw[Nat.sub_zero,<-aoU]at this;simpa using this
theorem aoW (st:arG):∀i,i<=(b8 s.aC 0).length->∀(v:arZ) m,v.length<=60->(b8 s.aC 0).length-i<m->
   rK s (b8 s.aC 0) m P st v (i:Int)=if v.length+(mn s P i ((b8 s.aC 0).length-i)).length<=60 then(Cv ⟨P,st,v++mn s P i ((b8 s.aC 0).length-i)⟩).bind λkI=>cond (!kI) (some (⟨0,[],[]⟩,false)) (some (⟨P,st,v++mn s P i ((b8 s.aC 0).length-i)⟩,true))else some (⟨0,[],[]⟩,false):=by
 refine down (b8 s.aC 0).length ?_ ?_
 .intro v m hO hm;obtain⟨m,rfl⟩:∃j,m=j+1:=⟨m-1,by omega⟩
  simp only[rK,LH];rw[dX (Nat.le_refl _),Nat.sub_self,cond_false,if_pos (by simpa [mn]using hO)];simp[mn]
 .intro i al ih v m hO hm;obtain⟨m,rfl⟩:∃j,m=j+1:=⟨m-1,by omega⟩
  obtain⟨ao,aW,a8,aY,N,bT,cF⟩:=vZ h aE al;have ab:=(h.2 _ (List.getElem_mem ao)).2.1;simp only[rK,LH];rw[eI al,cond_true,er _ i al,aW];simp only[bind_some];rw[show a_ [(ho s i:Int),(en s i:Int)] 1=some (en s i:Int)from rfl,show a_ [(ho s i:Int),(en s i:Int)] 0=some (ho s i:Int)from rfl];simp only[bind_some];rw[er _ _ ao];simp only[bind_some];rw[Ea _ ab (Au h aE ao) _ N bT];simp only[bind_some];rw[<-aY,aoT h aE aX ew st _ al v hO (by rw[aY];exact bT),show(b8 s.aC 0).length-i=((b8 s.aC 0).length-(i+1))+1 by omega,Pq];by_cases o5:v.length+(p3 s P i).length<=60
  .rw[if_pos o5,ih _ m (by rw[List.length_append];omega) (by omega)];simp only[List.length_append,List.append_assoc,Nat.add_assoc]
  .rw[if_neg o5,if_neg (by rw[List.length_append];omega)]
end
theorem Pt:∀(l:arV) (q:Nat) (w aQ:fE),(∀p∈l,∀x∈p.a9,x.length<=15)->(∀g∈w.guards,g.length<=15)->hf l q (some w)=some aQ->∀g∈aQ.guards,g.length<=15
 |l,0,w,aQ,_,hw,h=>by rw[r8]at h;cases h;exact hw
 |[],q+1,w,aQ,_,hw,h=>by simp only[hf]at h;cases h;exact hw
 |p::r,q+1,w,aQ,aw,hw,h=>by
  simp only[hf]at h;by_cases b_:jw (p::r) (q+1)=true
  .rw[if_pos b_]at h;cases aZ:jx p (some w)with
   |none=>rw[aZ,D8]at h;cases h
   |some ef=>
    rw[aZ]at h;refine Pt r q ef aQ (λx ay=>aw x (by simp[ay])) ?_ h;simp only[jx]at aZ;split at aZ
    .cases aZ
    .split at aZ
     .cases aZ;intro g bC;rcases List.mem_append.1 bC with bC|bC
      .exact hw g bC
      .simp only[List.mem_cons,List.not_mem_nil,or_false]at bC;subst bC;rw[List.getD_eq_getElem?_getD];cases he:p.a9[0]? with
       |none=>simp
       |some x=>exact aw p (by simp) x (List.mem_of_getElem? he)
     .split at aZ
      .cases aZ;exact hw
      .cases aZ;exact hw
  .rw[if_neg b_]at h;exact Pt r q w aQ (λx ay=>aw x (by simp[ay])) hw h
theorem aoX {l:arV} {a k:Nat} (h:dP l 1=some k) {x:Nat×fE} (ay:x∈mP l a [some ⟨[],[]⟩]):∃q,q<k/\x.1=a+q/\hf l q (some ⟨[],[]⟩)=some x.2/\∃p,l[q]? =some p/\p.Kind=1:=by
 rw[Wq h,List.mem_filterMap]at ay;obtain⟨q,cl,ay⟩:=ay;refine⟨q,List.mem_range.1 cl,?_⟩;unfold vU D9 at ay;cases aw:l[q]? with
 |none=>rw[aw]at ay;cases ay
 |some p=>
  rw[aw]at ay;simp only at ay;split at ay
  .rename_i ao;obtain⟨w,hw,rfl⟩:=map_eq_some_iff.1 ay;exact⟨rfl,hw,p,rfl,ao⟩
  .cases ay
theorem aoY {α:Type} {c:α} {P:Int} {v:List α} {x:α} (h:x∈o6 c P v):x∈v\/x=c:=by
 simp only[o6,List.mem_append,List.mem_replicate]at h;exact h.imp id λh=>h.2
theorem Pu {α:Type} (c:α) (P:Int) (v:List α):(o6 c P v).length<=v.length+P.toNat:=by
 simp only[o6,List.length_append,List.length_replicate];omega
section
variable {s:cG} (h:lU s.aC) (aE:jX s.aC=true)
include h aE
theorem aoZ {k:Nat} (ao:k<s.aC.length):∀p∈s.aC[k].Body,∀x∈p.a9,x.length<=15:=by
 intro p aw x ay;obtain⟨j,bP,rfl⟩:=List.mem_iff_getElem.1 aw;have:=(D7 h aE ao bP).args x ay;simp only[k2,Bool.and_eq_true,decide_eq_true_eq]at this;omega
variable {P:Int} (aX:0<=P/\P<=1000)
include aX
theorem ao0 {n:Nat} (aZ:n<(b8 s.aC 0).length):∀x∈p3 s P n,Aq x:=by
 obtain⟨ao,aW,a8,aY,N,bT,cF⟩:=vZ h aE aZ;intro x ay;obtain⟨y,bz,rfl⟩:=List.mem_map.1 ay;rw[aY]at bz;obtain⟨q,dr,dh,hM,p,g7,k9⟩:=aoX bT bz;have ot:∀j,j<s.aC[ho s n].Body.length->qR (gC s.aC[ho s n] j):=λj bP=>by
  rw[qU bP];exact(h.2 _ (List.getElem_mem ao)).2.2 _ (List.getElem_mem bP)
 have hle:=kN bT;rw[List.length_drop]at hle;have FA:gC s.aC[ho s n] (en s n+q)=p:=by
  rw[List.getElem?_drop]at g7;rw[qU (by omega)];rw[List.getElem?_eq_getElem (by omega)]at g7;exact some.inj g7
 obtain⟨ef,hb,ll,HU,arx,ary⟩:=Im h aE ao bT (a:=en s n+q) (by omega) (by omega) (by rw[FA];exact k9) (by rw[show en s n+q-en s n=q by omega];exact hM);have ao1:=Pt _ _ _ _ (λp aw=>aoZ h aE ao p (List.mem_of_mem_drop aw)) (by intro g bC;cases bC) hM;have h4:=ot (en s n+q) (by omega);have p2:=ot (en s n+q+1) (by omega);have Pv:∀(es:arO) (cR:Int),(∀e∈es,e.length<=1048576)->∀e∈es.map (ke cR P),e.length<=1048576:=by
  intro es cR he e hm;obtain⟨z,ca,rfl⟩:=List.mem_map.1 hm;rw[Ih];exact he z ca
 have su:y.2.hB.length<=20:=Nat.le_trans (le_add_right _ _) hb;have arz:y.2.guards.length<=20:=Nat.le_trans (le_add_left _ _) hb;have hO:=x7 (eY s.aC[ho s n] (en s n+q+1)).scope.toNat;unfold vY uC;rw[aY,dh];refine⟨by simp only;omega,?_,h4.1,⟨by simp only[List.length_map];exact h4.2.1,Pv _ _ h4.2.2⟩,?_,?_⟩
 .have:=Ph (tg n::y.2.guards.map (ke (eY s.aC[ho s n] (en s n)).scope P)) 15 (λg bC=>by
   rcases List.mem_cons.1 bC with rfl|bC
   .simp[tg]
   .obtain⟨z,ca,rfl⟩:=List.mem_map.1 bC;rw[Ih];exact ao1 z ca)
  simp only[List.length_cons,List.length_map]at this⊢;omega
 .unfold x9;refine Nat.le_trans (Pu _ _ _) ?_;have:=p2.2.1;cases ax:(gC s.aC[ho s n] (en s n+q+1)).Kind==5
  .simp only[cond_false,List.length_cons,List.length_map];omega
  .obtain⟨bp,b2,cc⟩:=(D7 h aE ao (show en s n+q+1<s.aC[ho s n].Body.length by omega)).call (by rw[<-qU (by omega)];simpa using ax);have arA:bp.bW<=3:=by
    unfold a_ at b2;split at b2
    .obtain⟨wW,wX⟩:=List.getElem?_eq_some_iff.1 b2;obtain⟨_,_,ak⟩:=lY h aE;have:=(ak _ wW).1;rw[wX]at this;omega
    .cases b2
   rw[<-qU (by omega)]at cc;simp only[cond_true,List.length_cons,List.length_map];omega
 .intro e he;unfold x9 at he;rcases aoY he with he|rfl
  .cases ax:(gC s.aC[ho s n] (en s n+q+1)).Kind==5
   .rw[ax,cond_false]at he;rcases List.mem_cons.1 he with rfl|he
    .simp
    .exact Pv _ _ (λz ca=>by rw[WC _ z ca];omega) e he
   .rw[ax,cond_true]at he;rcases List.mem_cons.1 he with rfl|he
    .simp
    .exact Pv _ _ p2.2.2 e he
  .simp
variable (ew:(b8 s.aC 0).length<=64)
include ew
theorem WS:(mn s P 0 (b8 s.aC 0).length).length<=1280/\∀x∈mn s P 0 (b8 s.aC 0).length,Aq x:=by
 constructor
 .have:∀(m i:Nat),i+m<=(b8 s.aC 0).length->(mn s P i m).length<=20*m:=by
   intro m;induction m with
   |zero=>intro i _;simp[mn]
   |succ m ih=>
    intro i al;have ae:=WR h aE (P:=P) (show i<(b8 s.aC 0).length by omega);have ag:=ih (i+1) (by omega);rw[Pq,List.length_append];omega
  have:=this (b8 s.aC 0).length 0 (by omega);omega
 .intro x ay;obtain⟨n,aZ,ay⟩:=List.mem_flatMap.1 ay;rw[List.mem_range'_1]at aZ;exact ao0 h aE aX (n:=n) (by omega) x ay
end
def r_ (s:cG):Nat->Nat->Int->Int
 |_,0,v=>v
 |i,m+1,v=>r_ s (i+1) m (if(eY (ow s i) (en s i)).scope<v then v else(eY (ow s i) (en s i)).scope)
section
variable {s:cG} (h:lU s.aC) (aE:jX s.aC=true)
include h aE
theorem Pw {n:Nat} (aZ:n<(b8 s.aC 0).length):0<=(eY (ow s n) (en s n)).scope/\(eY (ow s n) (en s n)).scope<=29:=by
 obtain⟨ao,aW,a8,aY,N,bT,cF⟩:=vZ h aE aZ;rw[aY];obtain⟨_,_,ak⟩:=lY h aE;obtain⟨aw,ad,_⟩:=ak _ ao;obtain⟨_,dh,hM,_⟩:=s9 _ ad aw (en s n) a8;exact⟨dh,hM⟩
theorem Px:∀(m i:Nat) (v:Int),i+m<=(b8 s.aC 0).length->0<=v->v<=29->0<=r_ s i m v/\r_ s i m v<=29
 |0,i,v,_,ae,ag=>⟨ae,ag⟩
 |m+1,i,v,al,ae,ag=>by
  have:=Pw h aE (show i<(b8 s.aC 0).length by omega);simp only[r_];exact Px m (i+1) _ (by omega) (by split<;>omega) (by split<;>omega)
end
theorem ao2 {s:cG} (h:1<=s.aC.length):0<(b8 s.aC 0).length:=by
 cases ak:s.aC with
 |nil=>rw[ak]at h;simp at h
 |cons d r=>simp[b8,r5]
def k4 (s:cG):Int:=r_ s 0 (b8 s.aC 0).length 0+1
def Ee (s:cG) (c:dn):arG:=o6 0 (k4 s) (uB (b8 s.aC 0) c.gl 0::c.e7)
def ox (s:cG) (c:dn):cr:=⟨k4 s,Ee s c,mn s (k4 s) 0 (b8 s.aC 0).length⟩
def uD (s:cG) (c:dn):cr×Bool:=
 cond (decide (64<(b8 s.aC 0).length)) (⟨0,[],[]⟩,false) (cond (ou (ox s c)) (ox s c,true) (⟨0,[],[]⟩,false))
theorem ao3 {l:cr} (h:ou l=true):l.g3.length<=60:=by
 unfold ou at h;simp only[Bool.and_eq_true,decide_eq_true_eq]at h;exact h.2.2.1
section
variable {s:cG} (h:lU s.aC) (aE:jX s.aC=true)
include h aE
theorem ao4 {i:Nat} (al:i<s.b7.length) (nt:s.b7[i].e7.length<=1000):Gc s (i:Int)=some (uD s s.b7[i]):=by
 unfold Gc uD;rw[anN h aE];simp only[bind_some];have ak:decide ((64:Int)<((b8 s.aC 0).length:Int))=decide (64<(b8 s.aC 0).length):=by
  by_cases cl:64<(b8 s.aC 0).length
  .rw[decide_eq_true cl];simp only[decide_eq_true_eq];omega
  .rw[decide_eq_false cl];simp only[decide_eq_false_iff_not];omega
 rw[ak];by_cases cl:64<(b8 s.aC 0).length
 .rw[decide_eq_true cl];rfl
 rw[decide_eq_false cl,cond_false,cond_false];have ew:(b8 s.aC 0).length<=64:=by omega
 obtain⟨d1,_,WT⟩:=lY h aE;have hm:=Px h aE (b8 s.aC 0).length 0 0 (by omega) (by omega) (by omega);have aX:0<=k4 s/\k4 s<=1000:=by unfold k4;omega
 obtain⟨R,aM⟩:=WS h aE aX ew;have hO:(uB (b8 s.aC 0) s.b7[i].gl 0::s.b7[i].e7).length<=2000000:=by simp only[List.length_cons];omega
 have Py:Ib (ox s s.b7[i]):=by
  refine⟨?_,by show(mn s (k4 s) 0 (b8 s.aC 0).length).length<=_;omega,aM⟩;refine Nat.le_trans (Pu _ _ _) ?_;simp only[List.length_cons];omega
 have key:∀j,j<=(b8 s.aC 0).length->∀(v:Int) m,0<=v->v<=29->r_ s j ((b8 s.aC 0).length-j) v+1=k4 s->(b8 s.aC 0).length-j<m->
   zl s (i:Int) (b8 s.aC 0) m v (j:Int)=some (cond (ou (ox s s.b7[i])) (ox s s.b7[i],true) (⟨0,[],[]⟩,false)):=by
  refine down (b8 s.aC 0).length ?_ ?_
  .intro v m v0 v1 mQ Ef;obtain⟨m,rfl⟩:∃j,m=j+1:=⟨m-1,by omega⟩
   simp only[zl,LI];rw[Nat.sub_self]at mQ;simp only[r_]at mQ;rw[dX (Nat.le_refl _),cond_false,er _ i al];simp only[bind_some];rw[Pj _ (Ap _ _) (by omega)];simp only[bind_some];rw[h_ (by omega) (by omega),fl (v+1) (by omega),mQ];simp only[bind_some,List.cons_append,List.nil_append];rw[Ik (L:=λm v=>CC s (b8 s.aC 0) m (k4 s) v) 0 (k4 s) (by omega) (λv=>bU λn=>rK s (b8 s.aC 0) n (k4 s) v [] 0) (λm v aE=>?_) _ hO]
   .show(bU λn=>rK s (b8 s.aC 0) n (k4 s) (Ee s s.b7[i]) [] ((0:Nat):Int))=_;rw[fO ((b8 s.aC 0).length+1) λm hm=>aoW h aE aX ew (Ee s s.b7[i]) 0 (zero_le _) [] m (by simp) (by omega)];rw[Nat.sub_zero];simp only[List.length_nil,Nat.zero_add,List.nil_append];by_cases o5:(mn s (k4 s) 0 (b8 s.aC 0).length).length<=60
    .rw[if_pos o5];have e:=an1 (ox s s.b7[i]) Py;unfold ox at e⊢;rw[e];simp only[bind_some];cases ou _<;>rfl
    .rw[if_neg o5];cases hl:ou (ox s s.b7[i])
     .rfl
     .exact absurd (ao3 hl) o5
   .simp only[CC,TF];rw[h_ (by omega) (by omega)];rfl
  .intro j bP ih v m v0 v1 mQ Ef;obtain⟨m,rfl⟩:∃j,m=j+1:=⟨m-1,by omega⟩
   obtain⟨ao,aW,a8,aY,N,bT,cF⟩:=vZ h aE bP;have ab:=(h.2 _ (List.getElem_mem ao)).2.1;obtain⟨aw,kR,_⟩:=WT _ ao;obtain⟨s1,_,kB⟩:=oq kR;have mq:=Pw h aE bP;simp only[zl,LI];rw[eI bP,cond_true,er _ j bP,aW];simp only[bind_some];rw[show a_ [(ho s j:Int),(en s j:Int)] 1=some (en s j:Int)from rfl,show a_ [(ho s j:Int),(en s j:Int)] 0=some (ho s j:Int)from rfl];simp only[bind_some];rw[er _ _ ao];simp only[bind_some];rw[Wt _ ab (Au h aE ao) s1 (by omega) _ a8,<-Il h aE ao a8,<-aY];simp only[bind_some,Ls];rw[show(b8 s.aC 0).length-j=((b8 s.aC 0).length-(j+1))+1 by omega]at mQ;simp only[r_]at mQ;rw[et j _ bP (by omega)];by_cases e2:(eY (ow s j) (en s j)).scope<v
   .rw[decide_eq_true e2,cond_true];rw[if_pos e2]at mQ;exact ih v m v0 v1 mQ (by omega)
   .rw[decide_eq_false e2,cond_false];rw[if_neg e2]at mQ;exact ih _ m mq.1 mq.2 mQ (by omega)
 refine fO ((b8 s.aC 0).length+1) λm Ef=>?_;exact key 0 (by omega) 0 m (by omega) (by omega) rfl (by omega)
theorem ao5 {i:Nat} (al:i<s.b7.length) (nt:s.b7[i].e7.length<=1000) {Eg:Nat} (Ip:Eg<s.aC.length) (ao6:s.b7[i].gl=(Eg:Int)):
  ∃r,G1 s s.b7[i]=some r/\cond (!r.2) (some ((⟨0,[],[]⟩:cr),(5:Int))) (some (r.1,0))=cond (!(uD s s.b7[i]).2) (some (⟨0,[],[]⟩,5)) (some ((uD s s.b7[i]).1,0)):=by
 unfold G1 uD;rw[anP h aE];simp only[bind_some];have ak:decide ((64:Int)<((b8 s.aC 0).length:Int))=decide (64<(b8 s.aC 0).length):=by
  by_cases cl:64<(b8 s.aC 0).length
  .rw[decide_eq_true cl];simp only[decide_eq_true_eq];omega
  .rw[decide_eq_false cl];simp only[decide_eq_false_iff_not];omega
 rw[ak];by_cases cl:64<(b8 s.aC 0).length
 .rw[decide_eq_true cl];exact⟨_,rfl,rfl⟩
 rw[decide_eq_false cl,cond_false,cond_false];have ew:(b8 s.aC 0).length<=64:=by omega
 obtain⟨d1,_,WT⟩:=lY h aE;have hm:=Px h aE (b8 s.aC 0).length 0 0 (by omega) (by omega) (by omega);have aX:0<=k4 s/\k4 s<=1000:=by unfold k4;omega
 obtain⟨R,aM⟩:=WS h aE aX ew;have hO:(uB (b8 s.aC 0) s.b7[i].gl 0::s.b7[i].e7).length<=2000000:=by simp only[List.length_cons];omega
 have Py:Ib (ox s s.b7[i]):=by
  refine⟨?_,by show(mn s (k4 s) 0 (b8 s.aC 0).length).length<=_;omega,aM⟩;refine Nat.le_trans (Pu _ _ _) ?_;simp only[List.length_cons];omega
 have arB:=ao2 d1;have key:∀j,j<=(b8 s.aC 0).length->∀(v gd:Int) m,0<=v->v<=29->(gd=v+1\/(j=0/\gd=0/\v=0))->r_ s j ((b8 s.aC 0).length-j) v+1=k4 s->(b8 s.aC 0).length-j<m->
   zF s s.b7[i] (b8 s.aC 0) m gd (j:Int)=some (ox s s.b7[i],ou (ox s s.b7[i])):=by
  refine down (b8 s.aC 0).length ?_ ?_
  .intro v gd m v0 v1 Aw mQ Ef;obtain⟨m,rfl⟩:∃j,m=j+1:=⟨m-1,by omega⟩
   have Aw:gd=v+1:=by rcases Aw with h|h<;>omega
   subst Aw;simp only[zF,MB];rw[Nat.sub_self]at mQ;simp only[r_]at mQ;rw[dX (Nat.le_refl _),cond_false,Pk _ (Ap _ _) (by show(b8 s.aC 0).length<=_;omega) _ _ (by rw[ao6];exact WH Ip)];simp only[bind_some];rw[h_ (by omega) (by omega),mQ];simp only[bind_some,List.cons_append,List.nil_append];rw[Ik (L:=λm v=>C1 s (b8 s.aC 0) m (k4 s) v) 0 (k4 s) (by omega) (λv=>bU λn=>vr (b8 s.aC 0) n s (b8 s.aC 0) (k4 s) v [] 0) (λm v aE=>?_) _ hO]
   .show(bU λn=>vr (b8 s.aC 0) n s (b8 s.aC 0) (k4 s) (Ee s s.b7[i]) [] ((0:Nat):Int))=_;rw[fO ((b8 s.aC 0).length+1) λm hm=>aoS h aE aX ew (Ee s s.b7[i]) 0 (zero_le _) [] m (by simp) (by omega)];rw[Nat.sub_zero];simp only[List.nil_append];have e:=an7 (ox s s.b7[i]) Py;unfold ox at e⊢;rw[e];rfl
   .simp only[C1,TK];rw[h_ (by omega) (by omega)];rfl
  .intro j bP ih v gd m v0 v1 Aw mQ Ef;obtain⟨m,rfl⟩:∃j,m=j+1:=⟨m-1,by omega⟩
   obtain⟨ao,aW,a8,aY,N,bT,cF⟩:=vZ h aE bP;have mq:=Pw h aE bP;simp only[zF,MB];rw[eI bP,cond_true,er _ j bP,aW];simp only[bind_some];rw[WI h aE ao _ rfl a8,<-aY];simp only[bind_some];rw[show(b8 s.aC 0).length-j=((b8 s.aC 0).length-(j+1))+1 by omega]at mQ;simp only[r_]at mQ;rw[et j _ bP (by omega),fl _ (by omega)];have ao7:ti true gd (1+(eY (ow s j) (en s j)).scope)=(if(eY (ow s j) (en s j)).scope<v then v else(eY (ow s j) (en s j)).scope)+1:=by
    unfold ti;simp only[if_true];rcases Aw with Aw|⟨_,np,l6⟩
    .split<;>split<;>omega
    .split<;>split<;>omega
   rw[ao7];refine ih _ _ m ?_ ?_ (.inl rfl) mQ (by omega)
   .split<;>omega
   .split<;>omega
 refine⟨_,fO ((b8 s.aC 0).length+1) λm Ef=>key 0 (by omega) 0 0 m (by omega) (by omega) (.inr ⟨rfl,rfl,rfl⟩) rfl (by omega),?_⟩;cases ou (ox s s.b7[i])<;>rfl
end
theorem ao8 {s:cG} (h:(o3 s==0)=true):vP s=true:=by
 cases ak:jX s.aC
 .unfold o3 at h;rw[ak]at h;simp at h
 .cases ax:vP s
  .unfold o3 at h;rw[ak,ax]at h;simp at h
  .rfl
noncomputable def Ax (s:cG) (k:Int):cr×Int:=
 cond (!(o3 s==0)) (⟨0,[],[]⟩,1) (cond (!(decide (0<=k)&&decide (k<=(s.b7.length:Int)-1))) (⟨0,[],[]⟩,2)
  (cond (!(uD s (s.b7.getD k.toNat ⟨0,[]⟩)).2) (⟨0,[],[]⟩,5) ((uD s (s.b7.getD k.toNat ⟨0,[]⟩)).1,0)))
theorem ao9 (s:cG) (h:x4 s) (k:Int):Gd s k=some (Ax s k)/\C2 s k=some (Ax s k):=by
 have ae:=h.2.1.1;unfold Gd C2 Ax;rw[anJ s h,anK s h];simp only[bind_some];cases bo:o3 s==0
 .exact⟨rfl,rfl⟩
 have aE:=anL bo;have ax:=ao8 bo;simp only[Bool.not_true,cond_false];unfold kF;rw[OX k s.b7.length ae,fl _ (by omega)];simp only[bind_some];cases ao:decide (0<=k)&&decide (k<=(s.b7.length:Int)-1)
 .exact⟨rfl,rfl⟩
 simp only[Bool.not_true,cond_false];simp only[Bool.and_eq_true,decide_eq_true_eq]at ao;obtain⟨i,rfl⟩:∃i:Nat,k=(i:Int):=⟨k.toNat,by omega⟩
 have al:i<s.b7.length:=by omega
 have oI:s.b7.getD (i:Int).toNat ⟨0,[]⟩=s.b7[i]:=by rw[List.getD_eq_getElem?_getD,Int.toNat_natCast,List.getElem?_eq_getElem al];rfl
 have nt:uy s.aC s.b7[i]=true:=by
  unfold vP at ax;simp only[Bool.and_eq_true]at ax;have:=s5.1 ax.2 i al;unfold k3 at this
  rwa [List.getD_eq_getElem?_getD,List.getElem?_eq_getElem al]at this
 unfold uy at nt;cases ab:decide (0<=s.b7[i].gl)&&decide (s.b7[i].gl<=(s.aC.length:Int)-1)
 .rw[ab]at nt;cases nt
 rw[ab,cond_true]at nt;simp only[Bool.and_eq_true,decide_eq_true_eq]at ab nt;obtain⟨Eg,Ip⟩:∃j:Nat,s.b7[i].gl=(j:Int):=⟨s.b7[i].gl.toNat,by omega⟩
 have Pz:Eg<s.aC.length:=by omega
 have hO:s.b7[i].e7.length<=1000:=by
  have ag:=eq_of_beq nt.1;rw[Ip,Int.toNat_natCast,List.getD_eq_getElem?_getD,List.getElem?_eq_getElem Pz,getD_some]at ag;obtain⟨_,_,ak⟩:=lY h.1 aE;have:=(ak Eg Pz).1;omega
 rw[oI,ao4 h.1 aE al hO,er _ i al];simp only[bind_some];obtain⟨r,dT,bb⟩:=ao5 h.1 aE al hO Pz Ip;rw[dT];simp only[bind_some];rw[bb];cases(uD s s.b7[i]).2<;>exact⟨rfl,rfl⟩
theorem WU {α:Type} {f:α->Nat} {c:Nat}:∀{l:List α},(∀x∈l,f x<=c)->fV f l<=l.length*c
 |[],_=>by simp[fV]
 |x::r,h=>by
  have ae:=h x (by simp);have ag:=WU (l:=r) λy bz=>h y (by simp[bz]);simp only[fV,List.length_cons,Nat.add_mul];omega
theorem PA {α:Type} {f:α->Nat} {c k:Nat} {l:List α} (hl:l.length<=k) (h:∀x∈l,f x<=c):ea f l<=k*(c+1):=by
 have ae:=WU h;have ag:l.length*c<=k*c:=mul_le_mul_right c hl;simp only[ea,Nat.mul_add,Nat.mul_one];omega
theorem WV {es:arO} {v:Int} (h:o4 es v=true):∀e∈es,e.length+0<=60:=by
 intro e he;simp only[o4,List.all_eq_true]at h;have:=h e he;simp only[k2,Bool.and_eq_true,decide_eq_true_eq]at this;omega
theorem ao_ {x:bH} {p:Int} (h:td x p=true) (aw:p<=21):nO x<=1600:=by
 simp only[td,Bool.and_eq_true]at h;obtain⟨ae,ag,aK,a3,bI,dc⟩:=h;have p2:=eq_of_beq aK;simp only[r7,Bool.and_eq_true,decide_eq_true_eq]at ae;simp only[k2,Bool.and_eq_true,decide_eq_true_eq]at ag;have lg:x.Name.length<=10/\x.a9.length<=2:=by
  split at a3
  .rename_i bc;rw[bc];simp only[decide_eq_true_eq]at a3;simp[vR,a3]
  .simp only[x6,kM,Bool.and_eq_true,decide_eq_true_eq]at a3;omega
 have fP:=PA lg.2 (WV bI);have g0:=PA (k:=21) (by omega) (WV dc);unfold nO;omega
theorem apa {l:cr} (h:ou l=true):ta l<=1048576:=by
 unfold ou at h;simp only[Bool.and_eq_true,decide_eq_true_eq,List.all_eq_true,iU,vS]at h;obtain⟨gr,⟨hD,i7⟩,Ex,gO⟩:=h;have hD:=eq_of_beq hD;have:=PA (f:=nO) Ex (λx ay=>ao_ (gO x ay) gr.2);unfold ta;omega
theorem apb (s:cG) (k:Int):ta (Ax s k).1<=1048576:=by
 have ca:ta ⟨0,[],[]⟩<=1048576:=by simp[ta,ea,fV]
 unfold Ax;cases o3 s==0
 .exact ca
 simp only[Bool.not_true,cond_false];cases decide (0<=k)&&decide (k<=(s.b7.length:Int)-1)
 .exact ca
 simp only[Bool.not_true,cond_false];generalize s.b7.getD k.toNat ⟨0,[]⟩=c;unfold uD;cases decide (64<(b8 s.aC 0).length)
 .cases hl:ou (ox s c)
  .exact ca
  .exact apa hl
 .exact ca
theorem alR (a:nA) (k:Int) (b6:BT a):MY a k=some true:=by
 unfold MY;obtain⟨r,ae,ag⟩:=anI a b6;rw[ae];simp only[bind_some];cases a4:decide (r<0)
 .obtain⟨aK,a3,bI,dc,c6⟩:=ag a4;have ad:r3 (s_ a)<=1048576:=by rw[V3];omega
  rw[aK];simp only[cond_false,bind_some];generalize s_ a=e at a3 bI ad;obtain⟨dr,dh⟩:=ao9 e bI k;have cl:=apb e k;generalize Ax e k=q at dr dh cl;obtain⟨gw,fj,g8,mC,pY,c,b2,gk⟩:=ani e 1 (by omega) (by omega);obtain⟨wG,so,sq,f,f1,iJ,kS⟩:=ank q.1 1 (by omega) (by omega);simp only[dr,dh,bind_some,am4 _ cl,a3,gk,iJ,kS,Bool.not_true,bne_self_eq_false,Bool.or_self,cond_false,uv (k:=1+(c:Int)) (by omega),uv (k:=1+(f:Int)) (by omega)]
 .rfl
end Go.mc
