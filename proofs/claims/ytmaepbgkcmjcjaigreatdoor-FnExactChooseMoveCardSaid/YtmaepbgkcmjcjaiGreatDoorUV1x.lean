/- Part of a proof that a law returns true for every input. No condition. -/
import Derived.Test.YtmaepbgkcmjcjaiGreatDoorUV0x
import Derived.Test.YtmaepbgkcmjcjaiGreatDoorP3
namespace Go.l_
open Option Go.IntKind Nat
open Go Go.eg
theorem join_one (x s:azc):hG [x] s=x:=by simp[hG,List.intercalate,List.intersperse]
theorem join_cons (x y:azc) (r:azb) (s:azc):hG (x::y::r) s=x++(s++hG (y::r) s):=by simp[hG,List.intercalate,List.intersperse]
theorem aaB (s:azc):∀(l:azb) (y:azc),l≠[]->hG (l++[y]) s=hG l s++(s++y)
 |[],_,h=>(h rfl).elim
 |[x],y,_=>by rw[List.singleton_append,join_cons,join_one,join_one]
 |x::z::r,y,_=>by
  rw[List.cons_append,List.cons_append,join_cons,join_cons,<-List.cons_append,aaB s (z::r) y (by simp)];simp only[List.append_assoc]
theorem HA (c:UInt8) (k:Nat):∀l:azb,(∀x∈l,x.length<=k)->(hG l [c]).length<=l.length*(k+1)
 |[],_=>by simp[hG,List.intercalate,List.intersperse]
 |[x],h=>by rw[join_one];have:=h x (by simp);simp only[List.length_cons,List.length_nil];omega
 |x::y::r,h=>by
  rw[join_cons];have ad:=h x (by simp);have ae:=HA c k (y::r) λz cf=>h z (by simp[cf]);simp only[List.length_append,List.length_cons,List.length_nil,Nat.add_mul]at ae⊢;omega
theorem AB (n:Nat) (h:n<100):oQ (n:Int)=some (iw n):=by
 unfold oQ zS;first
 |(rw[if_pos ⟨by omega,by omega,rfl⟩];rfl)
 |(rw[if_pos ⟨by omega,by omega,rfl⟩]
   unfold uP iw nt;rw[if_neg (by omega),Int.toNat_natCast];by_cases ad:n<10
   .rw[dif_pos ad,if_pos ad];rfl
   .unfold nt;rw[dif_neg ad,if_neg ad,dif_pos (by omega)];rfl)
theorem wX (n:Nat):(iw n).length<=2:=by unfold iw;split<;>simp
theorem as_ {α γ β:Type} {L:Nat->List γ->Int->Option β} (a:List α) (t:α->γ) (w:List γ) (hw:w.length=a.length) (E:List γ->Option β)
  (a7:∀m v,L (m+1) v (a.length:Int)=E v)
  (aa:∀i (h:i<a.length) m v,v.length=a.length->L (m+1) v (i:Int)=L m (v.set i (t a[i])) ((i+1:Nat):Int)):bX (λm=>L m w 0)=E (a.map t):=by
 have key:∀i,i<=a.length->∀m,a.length-i<m->L m ((a.take i).map t++w.drop i) (i:Int)=E (a.map t):=by
  refine down a.length ?_ ?_
  .intro m hm;obtain⟨m,rfl⟩:∃j,m=j+1:=⟨m-1,by omega⟩
   rw[a7,List.take_length,List.drop_of_length_le (by omega),List.append_nil]
  .intro i ai ih m hm;obtain⟨m,rfl⟩:∃j,m=j+1:=⟨m-1,by omega⟩
   have e:((a.take i).map t).length=i:=by simp;omega
   rw[aa i ai m _ (by simp only[List.length_append,e,List.length_drop];omega),<-ih m (by omega)];congr 1;rw[List.set_append_right i _ (by rw[e];omega),e,Nat.sub_self,drop_cons w i (by omega),List.set_cons_zero,List.take_succ_eq_append_getElem ai,List.map_append];simp
 refine eY (a.length+1) λm hm=>?_;have:=key 0 (by omega) m (by omega);simpa using this
def jB (n:Int):azc:=iw n.toNat
theorem HB (n:Int):(jB n).length<=2:=wX _
theorem ata {x:Int} (h:0<=x/\x<=63):oQ x=some (jB x):=by
 have:=AB x.toNat (by omega)
 rwa [Int.toNat_of_nonneg h.1]at this
theorem SI (a:aze) (h:a.length<=64) (aF:∀x∈a,0<=x/\x<=63):zT a [44]=some (hG (a.map jB) [44]):=by
 unfold zT;rw[rY 16 (by omega) (by omega)];simp only[bind_some,Int.toNat_natCast];have bJ:strings_Join (a.map jB) [44]=some (hG (a.map jB) [44]):=by
  unfold strings_Join;have:=HA 44 2 (a.map jB) λx an=>by
   obtain⟨y,_,rfl⟩:=List.mem_map.1 an;exact HB y
  rw[List.length_map]at this;rw[if_pos ⟨by rw[List.length_map];omega,by omega⟩]
 rw[as_ (L:=CN a [44]) a jB (List.replicate a.length []) (by simp) (λv=>(strings_Join v [44]).bind λbd=>some bd) (λm v=>?_) (λi ai m v aC=>?_),bJ]
 .rfl
 .simp only[CN,P7];rw[ev (Nat.le_refl _)];rfl
 .simp only[CN,P7];rw[d_ ai,dJ _ i ai,dQ i _ ai (by omega),dJ v i (by omega)];simp only[cond_true,bind_some];rw[ata (aF _ (List.getElem_mem ai))];simp only[bind_some,Int.toNat_natCast]
def small (c:UInt8):Bool:=decide (97<=(c.toNat:Int))&&decide ((c.toNat:Int)<=122)
def digit (c:UInt8):Bool:=decide (48<=(c.toNat:Int))&&decide ((c.toNat:Int)<=57)
def ha (s:azc):Bool:=decide (s.length<=10)&&(match s with|[]=>false|c::r=>small c&&r.all λc=>small c||digit c)
theorem yu (s:azc):xY s=some (ha s):=by
 unfold xY;cases s with
 |nil=>rfl
 |cons c r=>
  have fT:((c::r)==([]:azc))=false:=rfl;rw[fT];simp only[cond_false];by_cases kB:10<(c::r).length
  .have:decide ((10:Int)<((c::r).length:Int))=true:=by simp at kB⊢;omega
   rw[this];have ae:decide ((c::r).length<=10)=false:=by simp at kB⊢;omega
   simp only[ha,ae];rfl
  .have:decide ((10:Int)<((c::r).length:Int))=false:=by simp at kB⊢;omega
   rw[this];have ae:decide ((c::r).length<=10)=true:=by simp at kB⊢;omega
   rw[Ht];simp only[cond_false,bind_some,FK];simp only[ha,ae,Bool.true_and];show cond (!small c) _ _=_;cases aa:small c with
   |false=>rfl
   |true=>
    simp only[Bool.not_true,cond_false];rw[oV (n:=(c::r).length) (λi=>some (((c::r).drop i).all λc=>small c||digit c))]
    .simp[aa]
    .intro m;simp only[FL,OP];rw[ev (Nat.le_refl _)];simp
    .intro i ai m ih;simp only[FL,OP];rw[d_ ai,dJ _ i ai,dQ i _ ai (by omega),ih,drop_cons _ i ai];simp only[cond_true,bind_some,FK,BP,List.all_cons];show cond (!small _) (cond (!digit _) _ _) _=_;cases small (c::r)[i]<;>cases digit (c::r)[i]<;>rfl
theorem SJ (s:azc) (aa:s.length<=140737488355328):Ga s=some (ha s):=by
 unfold Ga;have bK:∀m,s.length-1<m->1<=s.length->x5 s m ((1:Nat):Int)=some (((s.drop 1).all λc=>small c||digit c)&&(decide (1<=(s.length:Int))&&decide ((s.length:Int)<=10))):=by
  intro m hm ad;refine down s.length (P:=λi=>1<=i->∀m,s.length-i<m->x5 s m (i:Int)=some (((s.drop i).all λc=>small c||digit c)&&(decide (1<=(s.length:Int))&&decide ((s.length:Int)<=10)))) ?_ ?_ 1 ad (Nat.le_refl _) m hm
  .intro _ m hm;obtain⟨k,rfl⟩:∃k,m=k+1:=⟨m-1,by omega⟩
   simp only[x5,JT];rw[ev (Nat.le_refl _)];simp
  .intro i ai ih EN m hm;obtain⟨k,rfl⟩:∃k,m=k+1:=⟨m-1,by omega⟩
   simp only[x5,JT];rw[d_ ai,dJ _ i ai,dQ i _ ai (by omega),ih (by omega) k (by omega),drop_cons _ i ai];have e:((i:Int)==0)=false:=by simp;omega
   rw[e];simp only[cond_true,cond_false,bind_some,Pz,List.all_cons];show cond (!small _) (cond (!digit _) _ _) _=_;cases small s[i]<;>cases digit s[i]<;>rfl
 refine eY (s.length+1) λm hm=>?_;obtain⟨k,rfl⟩:∃k,m=k+1:=⟨m-1,by omega⟩
 simp only[x5,JT];cases s with
 |nil=>rfl
 |cons c r=>
  have ax:=bK k (by simp at hm⊢;omega) (by simp);rw[show((1:Nat):Int)=1 from rfl]at ax;rw[Ax (by simp),Ht,asO,ax];have e:((0:Int)==0)=true:=rfl;rw[e];simp only[cond_true,ha];show cond (!small c) _ _=_;have ad:decide (1<=((c::r).length:Int))=true:=by simp;omega
  have ae:decide (((c::r).length:Int)<=10)=decide ((c::r).length<=10):=by
   by_cases h:(c::r).length<=10<;>simp at h⊢<;>omega
  rw[ad,ae];cases small c with
  |false=>simp
  |true=>simp[Bool.and_comm]
def vi (s:azc):Bool:=ha s&& !(s==[116,97,117])
theorem aaC (s:azc):rf s=some (vi s):=by unfold rf;rw[yu];rfl
theorem aaD (s:azc) (aa:s.length<=1048576):rr s=some (vi s):=by unfold rr;rw[SJ s (by omega)];rfl
def tt (ws:azb):Bool:=ws.all λw=>(iX w).2
def lY (ws:azb):aze:=ws.map λw=>(iX w).1
def pC (x:Int):Bool:=decide (0<=x)&&decide (x<=63)
theorem aaE (ws:azb) (h:ws.length<=1048577):Ko ws=some (if tt ws=true then(lY ws,true)else([],false)):=by
 have key:∀i,i<=ws.length->∀m,ws.length-i<m->∀v:aze,v.length=i->
   CM ws m v (i:Int)=some (if tt (ws.drop i)=true then(v++lY (ws.drop i),true)else([],false)):=by
  refine down ws.length ?_ ?_
  .intro m hm v aF;obtain⟨m,rfl⟩:∃j,m=j+1:=⟨m-1,by omega⟩
   simp only[CM,P6];rw[ev (Nat.le_refl _),List.drop_length];simp[tt,lY]
  .intro i ai ih m hm v aF;obtain⟨m,rfl⟩:∃j,m=j+1:=⟨m-1,by omega⟩
   simp only[CM,P6,Kn];rw[d_ ai,cond_true,dJ ws i ai,bind_some,bind_some,drop_cons ws i ai];simp only[tt,lY,List.all_cons,List.map_cons];cases ao:(iX ws[i]).2
   .simp
   .simp only[Bool.not_true,cond_false,Bool.true_and];rw[ky (by omega) (by omega),bind_some,dQ i _ ai (by omega),ih m (by omega) _ (by simp[aF])];simp[tt,lY]
 unfold Ko;refine eY (ws.length+1) λm hm=>?_;have:=key 0 (by omega) m (by omega) [] rfl;simpa using this
def oW (ws:azb):Bool:=ws.all λw=>(iX w).2&&pC (iX w).1
theorem aaF (ws:azb) (h:ws.length<=1048577) (hw:∀w∈ws,w.length<=1048576):
  bX (λn=>zz ws n [] 0)=some (if oW ws=true then lY ws else [],oW ws&&decide (ws.length<=2)):=by
 have key:∀i,i<=ws.length->∀m,ws.length-i<m->∀v:aze,v.length=i->
   zz ws m v (i:Int)=some (if oW (ws.drop i)=true then v++lY (ws.drop i)else [],oW (ws.drop i)&&decide (ws.length<=2)):=by
  refine down ws.length ?_ ?_
  .intro m hm v aF;obtain⟨m,rfl⟩:∃j,m=j+1:=⟨m-1,by omega⟩
   simp only[zz,O9];rw[ev (Nat.le_refl _),List.drop_length,cond_false];have e:decide ((v.length:Int)<=2)=decide (ws.length<=2):=by rw[decide_eq_decide];omega
   rw[e];simp[oW,lY]
  .intro i ai ih m hm v aF;obtain⟨m,rfl⟩:∃j,m=j+1:=⟨m-1,by omega⟩
   simp only[zz,O9];rw[d_ ai,cond_true,dJ ws i ai,bind_some,as3 _ (hw _ (List.getElem_mem ai)),bind_some,drop_cons ws i ai];have atb:oW (ws[i]::ws.drop (i+1))=((iX ws[i]).2&&pC (iX ws[i]).1&&oW (ws.drop (i+1))):=rfl;rw[atb];by_cases ao:(iX ws[i]).2=true
   .simp only[ao,Bool.not_true,cond_false,Bool.true_and,jP,bind_some];by_cases iB:pC (iX ws[i]).1=true
    .have HC:=iB;unfold pC at HC;rw[HC,iB];simp only[Bool.not_true,cond_false,Bool.true_and];rw[ky (by omega) (by omega),bind_some,dQ i _ ai (by omega),ih m (by omega) _ (by simp[aF])];simp only[lY,List.append_assoc,List.map_cons,List.singleton_append]
    .have aaG:pC (iX ws[i]).1=false:=by simpa using iB
     have HC:=aaG;unfold pC at HC;rw[HC,aaG];simp
   .have ht:(iX ws[i]).2=false:=by simpa using ao
    simp[ht]
 refine eY (ws.length+1) λm hm=>?_;have:=key 0 (by omega) m (by omega) [] rfl;simpa using this
theorem aaH (a:aze) (h:a.length<=1048577):x8 a=some (a.all pC):=by
 unfold x8 J5 J4;rw[p8 (n:=a.length) (l:=x7 a) (λi=> !pC (a.getD i 0)) (λm=>?_) (λi ai m=>?_)]
 .simp only[bind_some,tr,Bool.not_not];congr 1;rw[Bool.eq_iff_iff,nO,List.all_eq_true];constructor
  .intro q x an;obtain⟨k,ax,rfl⟩:=List.mem_iff_getElem.1 an;have:=q k ax;simpa [List.getD,ax]using this
  .intro q i ai;have:=q _ (List.getElem_mem ai);simpa [List.getD,ai]using this
 .simp only[x7,Gl];rw[ev (Nat.le_refl _)];rfl
 .simp only[x7,Gl,J3,CF,ig];rw[d_ ai,dJ _ i ai,dQ i _ ai (by omega)];simp only[cond_true,bind_some];have e:a.getD i 0=a[i]:=by simp[List.getD,ai]
  rw[e];rfl
theorem yv (s:azc) (aa:s.length<=1048576):(40∉s->zx s=some (s.length:Int))/\∀p q,s=p++40::q->40∉p->zx s=some (p.length:Int):=by
 have step:∀i (ai:i<s.length) m,x0 s (m+1) (i:Int)=cond (s[i]==40) (some (i:Int)) (x0 s m ((i+1:Nat):Int)):=by
  intro i ai m;simp only[x0,O6];rw[d_ ai,cond_true,dJ s i ai,bind_some,dQ i _ ai (by omega)];have e:((s[i].toNat:Int)==40)=(s[i]==40):=by
   rw[Bool.eq_iff_iff];simp only[beq_iff_eq];constructor
   .intro h;exact UInt8.toNat_inj.1 (by rw[show(40:UInt8).toNat=40 from rfl];omega)
   .intro h;rw[h];rfl
  rw[e]
 constructor
 .intro h;unfold zx;rw[oV (n:=s.length) (λ_=>some (s.length:Int))]
  .intro m;simp only[x0,O6];rw[ev (Nat.le_refl _)];rfl
  .intro i ai m ih;rw[step i ai m,ih];have:(s[i]==40)=false:=by
    simp only[beq_eq_false_iff_ne,ne_eq];intro e;exact h (e▸List.getElem_mem ai)
   rw[this];rfl
 .rintro p q rfl ay;unfold zx;refine eY (p.length+1) λm hm=>?_;have key:∀k,k<=p.length->∀m,k<m->x0 (p++40::q) m ((p.length-k:Nat):Int)=some (p.length:Int):=by
   intro k;induction k with
   |zero=>
    intro _ m hm;obtain⟨m,rfl⟩:∃j,m=j+1:=⟨m-1,by omega⟩
    rw[Nat.sub_zero,step p.length (by simp) m];have:((p++40::q)[p.length]'(by simp))=40:=by simp
    rw[this];rfl
   |succ k ih=>
    intro ax m hm;obtain⟨m,rfl⟩:∃j,m=j+1:=⟨m-1,by omega⟩
    rw[step (p.length-(k+1)) (by simp;omega) m];have:((p++40::q)[p.length-(k+1)]'(by simp;omega)==40)=false:=by
     simp only[beq_eq_false_iff_ne,ne_eq];rw[List.getElem_append_left (by omega)];intro e;exact ay (e▸List.getElem_mem (by omega))
    rw[this,cond_false,show p.length-(k+1)+1=p.length-k by omega];exact ih (by omega) m (by omega)
  have:=key p.length (Nat.le_refl _) m (by omega);simpa using this
def mZ (t:ca):Nat:=if t.Kind=2 then 2 else if t.Kind=3 then 1 else 0
theorem Lw (t:ca):mZ t<=2:=by unfold mZ;split<;>(try split)<;>omega
theorem aaI (t:ca):cond (t.Kind==2) (some 2) (cond (t.Kind==3) (some 1) (some 0))=some (mZ t:Int):=by
 unfold mZ;by_cases ae:t.Kind=2
 .simp[ae]
 .by_cases aJ:t.Kind=3
  .simp[aJ]
  .have aU:(t.Kind==2)=false:=by simpa using ae
   have aM:(t.Kind==3)=false:=by simpa using aJ
   rw[aU,aM,if_neg ae,if_neg aJ];rfl
def rZ (n fM ai:Int):Bool:=decide (fM<=n)&&decide (n<=ai)
def oX (t:ca) (v:Int):Bool:=cond (t.Kind==0) (rZ t.Value 0 63) (cond (t.Kind==1) (rZ t.Value 0 (v-1)) (cond (t.Kind==2) (rZ t.Value 0 8) (cond (t.Kind==3) (t.Value==0) false)))
def r0 (v:Int):azv->Nat->Bool
 |[],k=>k==0
 |t::r,k=> !(k==0)&&(oX t v&&r0 v r (k+mZ t-1))
def pD (e:azv) (v most:Int):Bool:=decide ((e.length:Int)<=most)&&r0 v e 1
theorem atc (t:ca) (v:Int) (aF: -1000000<=v/\v<=1000000):Jj t v=some (oX t v):=by
 unfold Jj jP oX rZ;rw[eD (v-1) (by omega)];cases t.Kind==0<;>cases t.Kind==1<;>cases t.Kind==2<;>cases t.Kind==3<;>rfl
theorem atd (t:ca) (v:Int) (aF: -1000000<=v/\v<=1000000):JX t v=some (oX t v):=by
 unfold JX CF ig oX rZ;rw[eD (v-1) (by omega)];cases t.Kind==0<;>cases t.Kind==1<;>cases t.Kind==2<;>cases t.Kind==3<;>rfl
theorem aaJ (t:ca):Jk t=some (mZ t:Int):=aaI t
theorem aaK (t:ca):JY t=some (mZ t:Int):=aaI t
theorem SK {k a:Nat} (ax:1<=k) (o4:k<=100000000) (bl:a<=2):i64.wrap ((k:Int)+i64.wrap ((a:Int)-1))=((k+a-1:Nat):Int):=by
 rw[eD ((a:Int)-1) (by omega),eD _ (by omega)];omega
theorem DF (k:Nat):((k:Int)==0)=(k==0):=by
 by_cases h:k=0
 .subst h;rfl
 .have ad:((k:Int)==0)=false:=by simp;omega
  have ae:(k==0)=false:=by simpa using h
  rw[ad,ae]
theorem ate (e:azv) (v most:Int) (aF: -1000000<=v/\v<=1000000) (he:e.length<=1048576):Jl e v most=some (pD e v most):=by
 unfold Jl pD;by_cases hm:(e.length:Int)<=most
 .have d1:decide (most<(e.length:Int))=false:=by simp;omega
  have d2:decide ((e.length:Int)<=most)=true:=by simpa using hm
  rw[d1,d2,cond_false,Bool.true_and];have key:∀i,i<=e.length->∀(k:Nat) m,k<=1+2*i->e.length-i<m->BU e v m (k:Int) (i:Int)=some (r0 v (e.drop i) k):=by
   refine down e.length ?_ ?_
   .intro k m _ hm;obtain⟨m,rfl⟩:∃j,m=j+1:=⟨m-1,by omega⟩
    simp only[BU,OU];rw[ev (Nat.le_refl _),List.drop_of_length_le (Nat.le_refl _),DF];rfl
   .intro i ai ih k m ax hm;obtain⟨m,rfl⟩:∃j,m=j+1:=⟨m-1,by omega⟩
    simp only[BU,OU];rw[d_ ai,dJ _ i ai,dQ i _ ai (by omega),drop_cons e i ai,DF];simp only[cond_true,bind_some,atc _ v aF,aaJ,r0];by_cases a7:k=0
    .subst a7;rfl
    .have ab:(k==0)=false:=by simpa using a7
     have bl:=Lw e[i];rw[ab,SK (by omega) (by omega) bl,ih _ m (by omega) (by omega)];simp only[cond_false,Bool.not_false,Bool.true_and];cases oX e[i] v<;>rfl
  refine eY (e.length+1) λm hm=>?_;have:=key 0 (by omega) 1 m (by omega) (by omega);simpa using this
 .have d1:decide (most<(e.length:Int))=true:=by simp;omega
  have d2:decide ((e.length:Int)<=most)=false:=by simpa using hm
  rw[d1,d2];rfl
theorem atf (e:azv) (v most:Int) (aF:0<=v/\v<=29) (ayU:1<=most/\most<=60) (he:e.length<=1048576):JZ e v most=some (pD e v most):=by
 unfold JZ ig pD;have d1:(!(decide (0<=v)&&decide (v<=29)))=false:=by simp;omega
 have d2:(!(decide (1<=most)&&decide (most<=60)))=false:=by simp;omega
 simp only[bind_some,d1,d2,cond_false];by_cases ad:e.length=0
 .have:e=[]:=List.length_eq_zero_iff.1 ad;subst this;simp[r0]
 .by_cases hm:(e.length:Int)<=most
  .have d3:(!(decide ((1:Int)<=(e.length:Int))&&decide ((e.length:Int)<=most)))=false:=by simp;omega
   have d4:decide ((e.length:Int)<=most)=true:=by simpa using hm
   rw[d3,d4,cond_false,Bool.true_and];have key:∀i,i<=e.length->∀(k:Nat) m,k<=1+2*i->e.length-i<m->CG e v m (k:Int) (i:Int)=some (r0 v (e.drop i) k):=by
    refine down e.length ?_ ?_
    .intro k m _ hm;obtain⟨m,rfl⟩:∃j,m=j+1:=⟨m-1,by omega⟩
     simp only[CG,PI];rw[ev (Nat.le_refl _),List.drop_of_length_le (Nat.le_refl _),DF];rfl
    .intro i ai ih k m ax hm;obtain⟨m,rfl⟩:∃j,m=j+1:=⟨m-1,by omega⟩
     simp only[CG,PI];rw[d_ ai,dJ _ i ai,dQ i _ ai (by omega),drop_cons e i ai,DF];simp only[cond_true,bind_some,atd _ v (by omega),aaK,r0];by_cases a7:k=0
     .subst a7;rfl
     .have ab:(k==0)=false:=by simpa using a7
      have bl:=Lw e[i];rw[ab,SK (by omega) (by omega) bl,ih _ m (by omega) (by omega)];simp only[cond_false,Bool.not_false,Bool.true_and];cases oX e[i] v<;>rfl
   refine eY (e.length+1) λm hm=>?_;have:=key 0 (by omega) 1 m (by omega) (by omega);simpa using this
  .have d3:(!(decide ((1:Int)<=(e.length:Int))&&decide ((e.length:Int)<=most)))=true:=by simp;omega
   have d4:decide ((e.length:Int)<=most)=false:=by simpa using hm
   rw[d3,d4];rfl
def ez (p:cQ):Nat:=if p.Kind=1\/p.Kind=3\/p.Kind=4 then 1 else if p.Kind=2 then 2 else 0
theorem DG (p:cQ):ez p<=2:=by unfold ez;split<;>(try split)<;>omega
theorem aaL (p:cQ) (K:Bool->azh) (kY:∀b,K b=cond b (some 1) (cond (p.Kind==2) (some 2) (some 0))):
  cond (p.Kind==1) (K true) (cond (p.Kind==3) (K true) (K (p.Kind==4)))=some (ez p:Int):=by
 simp only[kY,ez];by_cases ad:p.Kind=1
 .simp[ad]
 .by_cases aJ:p.Kind=3
  .simp[aJ]
  .by_cases bh:p.Kind=4
   .simp[bh]
   .by_cases ae:p.Kind=2
    .simp[ae]
    .have aO:(p.Kind==1)=false:=by simpa using ad
     have aM:(p.Kind==3)=false:=by simpa using aJ
     have bT:(p.Kind==4)=false:=by simpa using bh
     have aU:(p.Kind==2)=false:=by simpa using ae
     simp[aO,aM,bT,aU,ad,aJ,bh,ae]
theorem aaM (p:cQ):FN p=some (ez p:Int):=by
 unfold FN;exact aaL p (FM p) λ_=>rfl
theorem aaN (p:cQ):Gd p=some (ez p:Int):=by
 unfold Gd;exact aaL p (Gc p) λ_=>rfl
def yw:azw->Nat->Bool
 |[],k=>k==0
 |p::r,k=> !(k==0)&&yw r (k+ez p-1)
def e8:azw->Nat->Option Nat
 |[],0=>some 0
 |[],_+1=>none
 |_::_,0=>some 0
 |p::r,k+1=>(e8 r (k+ez p)).map (·+1)
theorem AD (l:azw):e8 l 0=some 0:=by cases l<;>rfl
theorem r1 {p:cQ} {r:azw} {a k:Nat}:e8 (p::r) (a+1)=some k↔∃da,e8 r (a+ez p)=some da/\k=da+1:=by
 simp only[e8,map_eq_some_iff];constructor
 .rintro⟨da,h,rfl⟩;exact⟨da,h,rfl⟩
 .rintro⟨da,h,rfl⟩;exact⟨da,h,rfl⟩
theorem vj:∀{l:azw} {a k:Nat},e8 l a=some k->a<=k/\k<=l.length
 |[],0,k,h=>by simp only[e8,some.injEq]at h;subst h;simp
 |[],a+1,k,h=>by simp[e8]at h
 |_::_,0,k,h=>by simp only[e8,some.injEq]at h;subst h;simp
 |p::r,a+1,k,h=>by
  obtain⟨da,bD,rfl⟩:=r1.1 h;have:=vj bD;simp only[List.length_cons];omega
theorem SL:∀(l:azw) (k:Nat),yw l k=(e8 l k==some l.length)
 |[],0=>rfl
 |[],k+1=>rfl
 |p::r,0=>rfl
 |p::r,k+1=>by
  have e:k+1+ez p-1=k+ez p:=by omega
  simp only[yw,e,SL r (k+ez p)];have fT:(k+1==0)=false:=rfl;rw[fT];simp only[Bool.not_false,Bool.true_and,e8];cases e8 r (k+ez p)with
  |none=>rfl
  |some n=>simp
theorem DH:∀{l:azw} {a b k:Nat},e8 l (a+b)=some k->∃b1 cK,e8 l a=some b1/\e8 (l.drop b1) b=some cK/\k=b1+cK
 |l,0,b,k,h=>⟨0,k,AD l,by simpa using h,by omega⟩
 |[],a+1,b,k,h=>by rw[show a+1+b=(a+b)+1 by omega]at h;simp[e8]at h
 |p::r,a+1,b,k,h=>by
  rw[show a+1+b=(a+b)+1 by omega]at h;obtain⟨da,bD,rfl⟩:=r1.1 h;rw[show a+b+ez p=(a+ez p)+b by omega]at bD;obtain⟨b1,cK,ad,ae,rfl⟩:=DH bD;exact⟨b1+1,cK,r1.2 ⟨b1,ad,rfl⟩,by simpa using ae,by omega⟩
theorem aaO:∀{l:azw} {a k:Nat},e8 l a=some k->∀i,i<k->∃m,1<=m/\e8 (l.drop i) m=some (k-i)
 |[],0,k,h,i,ai=>by simp only[e8,some.injEq]at h;omega
 |[],a+1,k,h,i,ai=>by simp[e8]at h
 |_::_,0,k,h,i,ai=>by simp only[e8,some.injEq]at h;omega
 |p::r,a+1,k,h,i,ai=>by
  cases i with
  |zero=>exact⟨a+1,by omega,by simpa using h⟩
  |succ i=>
   obtain⟨da,bD,rfl⟩:=r1.1 h;obtain⟨m,ad,ae⟩:=aaO bD i (by omega);exact⟨m,ad,by simp only[List.drop_succ_cons];rw[ae];congr 1;omega⟩
theorem atg {l:azw} {a k i:Nat} (h:e8 l a=some k) (ai:i<k):∃e,e8 (l.drop i) 1=some e/\i+e<=k/\1<=e:=by
 obtain⟨m,ad,ae⟩:=aaO h i ai;obtain⟨m,rfl⟩:∃j,m=1+j:=⟨m-1,by omega⟩
 obtain⟨b1,cK,aJ,bh,b2⟩:=DH ae;have:=vj aJ;exact⟨b1,aJ,by omega,by omega⟩
theorem SM {k a:Nat} (ax:1<=k) (o4:k<=100000000) (bl:a<=2):i64.wrap ((k:Int)+i64.wrap ((a:Int)-1))=((k+a-1:Nat):Int):=by
 rw[eD ((a:Int)-1) (by omega),eD _ (by omega)];omega
theorem ath (e:azw) (he:e.length<=1048576):Jh e=some ((decide (1<=e.length)&&decide (e.length<=20))&&yw e 1):=by
 unfold Jh;by_cases hm:1<=e.length/\e.length<=20
 .have d1:(((e.length:Int)==0)||decide ((20:Int)<(e.length:Int)))=false:=by
   rw[Bool.or_eq_false_iff,beq_eq_false_iff_ne,decide_eq_false_iff_not];omega
  have d2:(decide (1<=e.length)&&decide (e.length<=20))=true:=by simp;omega
  rw[d1,d2,cond_false,Bool.true_and];have key:∀i,i<=e.length->∀(k:Nat) m,k<=1+2*i->e.length-i<m->BQ e m (k:Int) (i:Int)=some (yw (e.drop i) k):=by
   refine down e.length ?_ ?_
   .intro k m _ hm;obtain⟨m,rfl⟩:∃j,m=j+1:=⟨m-1,by omega⟩
    simp only[BQ,OQ];rw[ev (Nat.le_refl _),List.drop_of_length_le (Nat.le_refl _),DF];rfl
   .intro i ai ih k m ax hm;obtain⟨m,rfl⟩:∃j,m=j+1:=⟨m-1,by omega⟩
    simp only[BQ,OQ];rw[d_ ai,dJ _ i ai,dQ i _ ai (by omega),drop_cons e i ai,DF];simp only[cond_true,bind_some,aaM,yw];by_cases a7:k=0
    .subst a7;rfl
    .have ab:(k==0)=false:=by simpa using a7
     have bl:=DG e[i];rw[ab,SM (by omega) (by omega) bl,ih _ m (by omega) (by omega)];simp only[cond_false,Bool.not_false,Bool.true_and]
  refine eY (e.length+1) λm hm=>?_;have:=key 0 (by omega) 1 m (by omega) (by omega);simpa using this
 .have d1:(((e.length:Int)==0)||decide ((20:Int)<(e.length:Int)))=true:=by
   by_cases h:e.length=0
   .simp[h]
   .have:decide ((20:Int)<(e.length:Int))=true:=by simp;omega
    rw[this,Bool.or_true]
  have d2:(decide (1<=e.length)&&decide (e.length<=20))=false:=by
   rw[Bool.and_eq_false_iff,decide_eq_false_iff_not,decide_eq_false_iff_not];omega
  rw[d1,d2];rfl
def tu (i:Nat):Option Nat->Int
 |none=> -1
 |some n=>((i+n:Nat):Int)
theorem aaP (d:a6) (ao:d.Body.length<=1048576) (i0:Nat) (a7:i0<=d.Body.length):Ge d (i0:Int)=some (tu i0 (e8 (d.Body.drop i0) 1)):=by
 unfold Ge;have key:∀i,i<=d.Body.length->∀(k:Nat) m,k<=1+2*i->d.Body.length-i<m->CD d m (i:Int) (k:Int)=some (tu i (e8 (d.Body.drop i) k)):=by
  refine down d.Body.length ?_ ?_
  .intro k m _ hm;obtain⟨m,rfl⟩:∃j,m=j+1:=⟨m-1,by omega⟩
   simp only[CD,PD];rw[List.drop_of_length_le (Nat.le_refl _)];cases k with
   |zero=>rw[Az];simp[e8,tu]
   |succ k=>
    rw[Ax (succ_pos k)];have:decide ((d.Body.length:Int)<=(d.Body.length:Int))=true:=by simp
    rw[this];rfl
  .intro i ai ih k m ax hm;obtain⟨m,rfl⟩:∃j,m=j+1:=⟨m-1,by omega⟩
   simp only[CD,PD];cases k with
   |zero=>rw[Az,AD];simp[tu]
   |succ k=>
    have d1:decide ((d.Body.length:Int)<=(i:Int))=false:=by simp;omega
    rw[Ax (succ_pos k),d1,dJ _ i ai,dQ i _ ai (by omega),drop_cons _ i ai];simp only[cond_true,cond_false,bind_some,aaN];have bl:=DG d.Body[i];rw[SM (by omega) (by omega) bl,ih _ m (by omega) (by omega),show k+1+ez d.Body[i]-1=k+ez d.Body[i] by omega];simp only[e8];cases e8 (d.Body.drop (i+1)) (k+ez d.Body[i])with
    |none=>rfl
    |some n=>simp only[map_some,tu];congr 2;omega
 refine eY (d.Body.length+1) λm hm=>?_;refine down d.Body.length (P:=λ_=>True) trivial (λ_ _ _=>trivial) 0 (zero_le _)|>λ_=>?_;have b1:=key i0 a7 1 m (by omega) (by omega);simpa using b1
theorem aaQ (b:azw) (ab:b.length<=1048576) (i0 n:Nat) (h:e8 (b.drop i0) 1=some n):FP b (i0:Int)=some ((i0+n:Nat):Int):=by
 unfold FP;have a7:i0<b.length:=by
  have:=vj h;rw[List.length_drop]at this;omega
 have key:∀i,i<=b.length->∀(k n:Nat) m,k<=1+2*i->b.length-i<m->e8 (b.drop i) k=some n->BR b m (i:Int) (k:Int)=some ((i+n:Nat):Int):=by
  refine down b.length ?_ ?_
  .intro k n m _ hm he;obtain⟨m,rfl⟩:∃j,m=j+1:=⟨m-1,by omega⟩
   simp only[BR,OS];rw[List.drop_of_length_le (Nat.le_refl _)]at he;cases k with
   |zero=>rw[Az];simp only[e8,some.injEq]at he;subst he;simp
   |succ k=>simp[e8]at he
  .intro i ai ih k n m ax hm he;obtain⟨m,rfl⟩:∃j,m=j+1:=⟨m-1,by omega⟩
   simp only[BR,OS];cases k with
   |zero=>rw[AD]at he;cases he;rw[Az];simp
   |succ k=>
    rw[drop_cons _ i ai]at he;obtain⟨MX,qo,rfl⟩:=r1.1 he;rw[Ax (succ_pos k),dJ _ i ai,dQ i _ ai (by omega)];simp only[cond_true,bind_some,aaM];have bl:=DG b[i];rw[SM (by omega) (by omega) bl,show k+1+ez b[i]-1=k+ez b[i] by omega,ih _ MX m (by omega) (by omega) qo];congr 2;omega
 refine eY (b.length+1) λm hm=>?_;have b1:=key i0 (by omega) 1 n m (by omega) (by omega) h;simpa using b1
def below (p:cQ) (s:dB):dB:=⟨if p.Kind=4 then s.scope+1 else s.scope,p.Kind==1⟩
def hb:azw->azE->azE
 |[],_=>[]
 |_::_,[]=>[]
 |p::r,s::st=>s::hb r (List.replicate (ez p) (below p s)++st)
theorem ati (l:azw):hb l []=[]:=by cases l<;>rfl
theorem AE:∀{l:azw} {st:azE} {k:Nat},e8 l st.length=some k->(hb l st).length=k
 |[],[],k,h=>by simp only[List.length_nil,e8,some.injEq]at h;subst h;rfl
 |[],s::st,k,h=>by simp[e8]at h
 |p::r,[],k,h=>by simp only[List.length_nil,e8,some.injEq]at h;subst h;rfl
 |p::r,s::st,k,h=>by
  obtain⟨da,bD,rfl⟩:=r1.1 h;simp only[hb,List.length_cons];rw[AE (k:=da) (by rw[List.length_append,List.length_replicate,Nat.add_comm];exact bD)]
theorem SN:∀{l:azw} {s1 s2:azE} {k:Nat},e8 l s1.length=some k->hb l (s1++s2)=hb l s1++hb (l.drop k) s2
 |[],[],s2,k,h=>by simp only[List.length_nil,e8,some.injEq]at h;subst h;rfl
 |[],s::st,s2,k,h=>by simp[e8]at h
 |p::r,[],s2,k,h=>by simp only[List.length_nil,e8,some.injEq]at h;subst h;simp[hb]
 |p::r,s::st,s2,k,h=>by
  obtain⟨da,bD,rfl⟩:=r1.1 h;simp only[hb,List.cons_append,List.drop_succ_cons];rw[<-List.append_assoc,SN (k:=da) (by rw[List.length_append,List.length_replicate,Nat.add_comm];exact bD)]
def patch (out:azE) (i:Nat) (new:azE):azE:=out.take i++(new++out.drop (i+new.length))
theorem atj (out:azE) (i:Nat):patch out i []=out:=by simp[patch]
theorem aaR {out:azE} {i:Nat} {new:azE} (h:i+new.length<=out.length):(patch out i new).length=out.length:=by
 simp[patch];omega
theorem aaS {out:azE} {i j:Nat} {a b:azE} (bJ:j=i+a.length) (h:i+a.length+b.length<=out.length):patch (patch out i a) j b=patch out i (a++b):=by
 subst bJ;unfold patch;have aO:(out.take i).length=i:=by rw[List.length_take];omega
 have t1:(out.take i++(a++out.drop (i+a.length))).take (i+a.length)=out.take i++a:=by
  rw[<-List.append_assoc,List.take_left' (by rw[List.length_append,aO])]
 have t2:(out.take i++(a++out.drop (i+a.length))).drop (i+a.length+b.length)=out.drop (i+a.length+b.length):=by
  rw[<-List.append_assoc,<-List.drop_drop,List.drop_left' (by rw[List.length_append,aO]),List.drop_drop]
 rw[t1,t2];simp only[List.append_assoc,List.length_append,Nat.add_assoc]
theorem atk {out:azE} {i:Nat} {s:dB} (h:i<out.length):out.set i s=patch out i [s]:=by
 unfold patch;apply List.ext_getElem?;intro j;rw[List.getElem?_set];rcases Nat.lt_trichotomy i j with Lx|Lx|Lx
 .rw[if_neg (by omega),List.getElem?_append_right (by simp;omega)];have aO:(out.take i).length=i:=by simp;omega
  rw[aO];obtain⟨d,rfl⟩:∃d,j=i+(d+1):=⟨j-i-1,by omega⟩
  rw[show i+(d+1)-i=d+1 by omega];simp only[List.singleton_append,List.getElem?_cons_succ,List.length_singleton,List.getElem?_drop];congr 1;omega
 .subst Lx;rw[if_pos rfl,if_pos h,List.getElem?_append_right (by simp;omega)];have aO:(out.take i).length=i:=by simp;omega
  rw[aO];simp
 .rw[if_neg (by omega),List.getElem?_append_left (by simp;omega),List.getElem?_take,if_pos Lx]
theorem atl (n:Int) (h:0<=n) (ae:n<=1000000):i64.wrap (n+1)=n+1:=eD _ (by omega)
theorem aaT {rec:Int->dB->azE->a6->Option (Int×azE)} {d:a6} {n:Nat} (ao:d.Body.length<=1048576)
  (Ly:∀(at_ k:Nat) (s:dB) (out:azE),out.length=d.Body.length->e8 (d.Body.drop at_) 1=some k->k<=n->0<=s.scope->s.scope+k<=1000000->
   rec (at_:Int) s out d=some (((at_+k:Nat):Int),patch out at_ (hb (d.Body.drop at_) [s])))
  (dY:Int) (p:cQ) (f:Nat) (bH:f<=2):∀(c j at_ k:Nat) (out:azE) (m:Nat),j+c=f->c<m->out.length=d.Body.length->e8 (d.Body.drop at_) c=some k->k<=n->0<=dY->dY+k<=1000000->
   zM rec d dY p (f:Int) m out (at_:Int) (j:Int)=some (((at_+k:Nat):Int),patch out at_ (hb (d.Body.drop at_) (List.replicate c ⟨dY,p.Kind==1⟩)))
 |0,j,at_,k,out,m,bJ,hm,bL,he,ax,a7,ad=>by
  obtain⟨m,rfl⟩:∃i,m=i+1:=⟨m-1,by omega⟩
  rw[AD]at he;cases he;simp only[zM,PE];rw[ev (by omega)];simp[ati,atj]
 |c+1,j,at_,k,out,m,bJ,hm,bL,he,ax,a7,ad=>by
  obtain⟨m,rfl⟩:∃i,m=i+1:=⟨m-1,by omega⟩
  rw[Nat.add_comm c 1]at he;obtain⟨b1,cK,aO,aU,rfl⟩:=DH he;have hJ:=vj aO;have l2:=vj aU;rw[List.length_drop]at hJ;rw[List.drop_drop,List.length_drop]at l2;have hlen:(hb (d.Body.drop at_) [⟨dY,p.Kind==1⟩]).length=b1:=AE (st:=[_]) aO;simp only[zM,PE];rw[d_ (by omega),Ly at_ b1 _ out bL aO (by omega) a7 (by show dY+(b1:Int)<=_;omega),dQ j f (by omega) (by omega)];simp only[cond_true,bind_some];have fI:(patch out at_ (hb (d.Body.drop at_) [⟨dY,p.Kind==1⟩])).length=d.Body.length:=by
   rw[aaR (by rw[hlen];omega),bL]
  rw[List.drop_drop]at aU;rw[aaT ao Ly dY p f bH c (j+1) (at_+b1) cK _ m (by omega) (by omega) fI aU (by omega) a7 (by omega)];have atm:(hb (d.Body.drop (at_+b1)) (List.replicate c ⟨dY,p.Kind==1⟩)).length=cK:=AE (by rw[List.length_replicate];exact aU);have atn:hb (d.Body.drop at_) (List.replicate (c+1) ⟨dY,p.Kind==1⟩)=hb (d.Body.drop at_) [⟨dY,p.Kind==1⟩]++hb (d.Body.drop (at_+b1)) (List.replicate c ⟨dY,p.Kind==1⟩):=by
   rw[List.replicate_succ,<-List.singleton_append,SN (k:=b1) (s1:=[_]) aO,List.drop_drop]
  rw[atn,aaS (by rw[hlen]) (by rw[hlen,atm];omega),Nat.add_assoc]
theorem aaU (d:a6) (ao:d.Body.length<=1048576):∀(n at_ k:Nat) (s:dB) (out:azE),out.length=d.Body.length->e8 (d.Body.drop at_) 1=some k->k<=n->0<=s.scope->s.scope+k<=1000000->
  zN n (at_:Int) s out d=some (((at_+k:Nat):Int),patch out at_ (hb (d.Body.drop at_) [s]))
 |0,at_,k,s,out,bL,he,ax,a7,ad=>by have:=vj he;omega
 |n+1,at_,k,s,out,bL,he,ax,a7,ad=>by
  have l:=vj he;rw[List.length_drop]at l;have ai:at_<d.Body.length:=by omega
  rw[drop_cons _ at_ ai]at he⊢;obtain⟨da,qo,rfl⟩:=r1.1 he;simp only[Nat.zero_add]at qo;have bH:=DG d.Body[at_];have ato:=aaT (n:=n) ao (aaU d ao n) (below d.Body[at_] s).scope d.Body[at_] (ez d.Body[at_]) bH (ez d.Body[at_]) 0 (at_+1) da (patch out at_ [s]);have hlen:(hb (d.Body.drop (at_+1)) (List.replicate (ez d.Body[at_]) (below d.Body[at_] s)++[])).length=da:=by
   rw[List.append_nil];exact AE (by rw[List.length_replicate];exact qo)
  have atp:(at_+1+da:Nat)=at_+(da+1):=by omega
  have ab:0<=(below d.Body[at_] s).scope/\(below d.Body[at_] s).scope+da<=1000000:=by
   unfold below;simp only;split<;>omega
  have key:(bX λm=>zM (zN n) d (below d.Body[at_] s).scope d.Body[at_] ((ez d.Body[at_]:Nat):Int) m (List.set out (Int.toNat (at_:Int)) s) (i64.wrap ((at_:Int)+1)) 0)=
    some (((at_+(da+1):Nat):Int),patch out at_ (hb (d.Body[at_]::d.Body.drop (at_+1)) [s])):=by
   refine eY (ez d.Body[at_]+1) λm hm=>?_;rw[Int.toNat_natCast,atk (by omega),dQ at_ _ ai (by omega)];have h:=ato m (by omega) (by omega) (by rw[aaR (by simp;omega),bL]) qo (by omega) ab.1 ab.2;rw[show((0:Nat):Int)=0 from rfl]at h;rw[h,atp];congr 2;have atq:(hb (d.Body.drop (at_+1)) (List.replicate (ez d.Body[at_]) ⟨(below d.Body[at_] s).scope,d.Body[at_].Kind==1⟩)).length=da:=AE (by rw[List.length_replicate];exact qo);rw[aaS (i:=at_) (a:=[s]) (j:=at_+1) rfl (by rw[atq,List.length_singleton];omega)];simp only[hb,List.append_nil,List.singleton_append];rfl
  simp only[zN,PF];rw[dJ out at_ (by omega),dJ _ at_ ai];simp only[bind_some,JV,aaN];by_cases bh:d.Body[at_].Kind=4
  .have e:(d.Body[at_].Kind==4)=true:=by simpa using bh
   have aU:(below d.Body[at_] s).scope=s.scope+1:=by simp[below,bh]
   rw[e,cond_true,atl s.scope a7 (by omega),<-aU];exact key
  .have e:(d.Body[at_].Kind==4)=false:=by simpa using bh
   have aU:(below d.Body[at_] s).scope=s.scope:=by simp[below,bh]
   rw[e,cond_false];conv=>lhs;rw[show s.scope=(below d.Body[at_] s).scope from aU.symm]
   exact key
theorem aaV (d:a6) (ao:d.Body.length<=1048576) (aa:e8 d.Body 1=some d.Body.length) (a7:0<=d.ek) (ad:d.ek+d.Body.length<=1000000):
  CE d=some (hb d.Body [⟨d.ek,false⟩]):=by
 unfold CE;rw[rY 16 ao (by decide)];simp only[bind_some];have hlen:(hb d.Body [⟨d.ek,false⟩]).length=d.Body.length:=AE (st:=[_]) aa;have:JW 0 ⟨d.ek,false⟩ (List.replicate (Int.toNat (d.Body.length:Int)) ⟨0,false⟩) d=some ((d.Body.length:Int),hb d.Body [⟨d.ek,false⟩]):=by
  unfold JW;refine eY d.Body.length λm hm=>?_;have:=aaU d ao m 0 d.Body.length ⟨d.ek,false⟩ (List.replicate (Int.toNat (d.Body.length:Int)) ⟨0,false⟩) (by simp) (by simpa using aa) hm a7 ad;rw[show((0:Nat):Int)=0 from rfl]at this;rw[this,Nat.zero_add,List.drop_zero];congr 2;unfold patch;rw[Nat.zero_add,hlen,List.drop_of_length_le (by simp)];simp
 rw[this];rfl
def SO (l:azw) (q:Nat):Bool:=match e8 l 1 with
 |some e=>decide (q<e)
 |none=>false
def p9:azw->Nat->Nat
 |[],_=>0
 |_::_,0=>0
 |p::r,q+1=>(if p.Kind=4/\SO (p::r) (q+1)=true then 1 else 0)+p9 r q
theorem atr (l:azw):p9 l 0=0:=by cases l<;>rfl
theorem aaW:∀(l:azw) (q:Nat),p9 l q<=q
 |[],q=>by simp[p9]
 |_::_,0=>by simp[p9]
 |p::r,q+1=>by
  have:=aaW r q;simp only[p9];split<;>omega
theorem ats (d:a6) (ao:d.Body.length<=1048576) (aa:e8 d.Body 1=some d.Body.length) (a7: -1000000<=d.ek/\d.ek<=1000000) (q:Nat) (cz:q<d.Body.length):
  vS d (q:Int)=some (d.ek+(p9 d.Body q:Nat)):=by
 unfold vS;have key:∀i,i<=q->∀(c:Int) m,-1000000<=c->c<=1000000+i->q-i<m->zv d (q:Int) m c (i:Int)=some (c+(p9 (d.Body.drop i) (q-i):Nat)):=by
  refine down q ?_ ?_
  .intro c m _ _ hm;obtain⟨m,rfl⟩:∃j,m=j+1:=⟨m-1,by omega⟩
   simp only[zv,OT];rw[ev (Nat.le_refl _),Nat.sub_self,atr];simp
  .intro i ai ih c m ni ld hm;obtain⟨m,rfl⟩:∃j,m=j+1:=⟨m-1,by omega⟩
   simp only[zv,OT];have wW:i<d.Body.length:=by omega
   rw[d_ ai,dJ _ i wW];simp only[cond_true,bind_some,FQ];obtain⟨e,ES,Vm,Bp⟩:=atg aa wW;rw[aaQ _ ao i e ES,dQ i q ai (by omega)];simp only[bind_some];have SP:p9 (d.Body.drop i) (q-i)=(if d.Body[i].Kind=4/\q<i+e then 1 else 0)+p9 (d.Body.drop (i+1)) (q-(i+1)):=by
    have aaX:=ES;rw[drop_cons _ i wW]at aaX⊢;rw[show q-i=(q-(i+1))+1 by omega];simp only[p9,SO,aaX];congr 1;by_cases ax:d.Body[i].Kind=4
    .by_cases wY:q<i+e
     .rw[if_pos ⟨ax,by simp;omega⟩,if_pos ⟨ax,wY⟩]
     .rw[if_neg (λh=>by simp at h;omega),if_neg (λh=>wY h.2)]
    .rw[if_neg (λh=>ax h.1),if_neg (λh=>ax h.1)]
   rw[SP];by_cases ax:d.Body[i].Kind=4
   .have tv:(d.Body[i].Kind==4)=true:=by simpa using ax
    rw[tv,cond_true];by_cases wY:q<i+e
    .rw[d_ wY,cond_true,eD (c+1) (by omega),ih (c+1) m (by omega) (by omega) (by omega),if_pos ⟨ax,wY⟩];congr 1;omega
    .rw[ev (by omega),cond_false,ih c m ni (by omega) (by omega),if_neg (λh=>wY h.2)];congr 1;omega
   .have tv:(d.Body[i].Kind==4)=false:=by simpa using ax
    rw[tv,cond_false,ih c m ni (by omega) (by omega),if_neg (λh=>ax h.1)];congr 1;omega
 refine eY (q+1) λm hm=>?_;have:=key 0 (by omega) d.ek m (by omega) (by omega) (by omega);simpa using this
def yx:azw->azE->Nat->Option dB
 |_,[],_=>none
 |l,s::st,q=>match e8 l 1 with
  |none=>none
  |some k=>if q<k then some s else yx (l.drop k) st (q-k)
theorem aaY:∀(f:Nat) (r:azw) (b:dB) (st:azE) (k q:Nat),e8 r f=some k->yx r (List.replicate f b++st) q=if q<k then some b else yx (r.drop k) st (q-k)
 |0,r,b,st,k,q,h=>by rw[AD]at h;cases h;simp
 |f+1,r,b,st,k,q,h=>by
  rw[Nat.add_comm f 1]at h;obtain⟨b1,cK,ad,ae,rfl⟩:=DH h;rw[List.replicate_succ,List.cons_append];simp only[yx,ad];by_cases cz:q<b1
  .rw[if_pos cz,if_pos (by omega)]
  .rw[if_neg cz,aaY f _ b st cK (q-b1) ae];by_cases aaZ:q-b1<cK
   .rw[if_pos aaZ,if_pos (by omega)]
   .rw[if_neg aaZ,if_neg (by omega),List.drop_drop,Nat.sub_sub]
theorem aa0:∀(l:azw) (st:azE) (k:Nat),e8 l st.length=some k->∀q,q<k->∃s pl,yx l st q=some s/\(hb l st)[q]? =some pl/\pl.scope=s.scope+(p9 l q:Nat)
 |[],[],k,h,q,cz=>by simp only[List.length_nil,e8,some.injEq]at h;omega
 |[],s::st,k,h,q,cz=>by simp[e8]at h
 |p::r,[],k,h,q,cz=>by simp only[List.length_nil,e8,some.injEq]at h;omega
 |p::r,s::st,k,h,q,cz=>by
  have a7:=h;obtain⟨da,bD,rfl⟩:=r1.1 h;rw[List.length_cons,Nat.add_comm st.length 1]at a7;obtain⟨e,cK,he,o4,ax⟩:=DH a7;obtain⟨hi,qo,rfl⟩:=r1.1 he;simp only[Nat.zero_add]at qo;cases q with
  |zero=>
   refine⟨s,s,?_,rfl,?_⟩
   .simp only[yx,he];rw[if_pos (by omega)]
   .simp[p9]
  |succ q=>
   have aC:e8 r (List.replicate (ez p) (below p s)++st).length=some da:=by
    rw[List.length_append,List.length_replicate,Nat.add_comm];exact bD
   obtain⟨aH,pl,ad,ae,aJ⟩:=aa0 r _ da aC q (by omega);rw[aaY _ _ _ _ hi q qo]at ad;simp only[hb,List.getElem?_cons_succ,yx,he,p9,SO,decide_eq_true_eq];by_cases wY:q<hi
   .rw[if_pos wY]at ad;simp only[some.injEq]at ad;subst ad;refine⟨s,pl,by rw[if_pos (by omega)],ae,?_⟩;rw[aJ];by_cases Lz:p.Kind=4
    .rw[if_pos ⟨Lz,by omega⟩];simp only[below,if_pos Lz];omega
    .rw[if_neg (λh=>Lz h.1)];simp only[below,if_neg Lz];omega
   .rw[if_neg wY]at ad;refine⟨aH,pl,?_,ae,?_⟩
    .rw[if_neg (by omega),List.drop_succ_cons,show q+1-(hi+1)=q-hi by omega];exact ad
    .rw[aJ,if_neg (λh=>by omega)];omega
theorem att {p:cQ} (h:ez p=0):(p.Kind==1)=false:=by
 unfold ez at h;split at h
 .omega
 .rename_i aR;simp only[beq_eq_false_iff_ne];exact λe=>aR (.inl e)
theorem atu {p:cQ} (h:ez p=2):(p.Kind==1)=false:=by
 unfold ez at h;split at h
 .omega
 .rename_i aR;simp only[beq_eq_false_iff_ne];exact λe=>aR (.inl e)
def SQ (b:azw):Nat->Bool
 |0=>false
 |q+1=>match b[q]? with
  |some p=>p.Kind==1
  |none=>false
theorem aa1:∀(l:azw) (st:azE),(∀s∈st.tail,s.behind=false)->∀(q:Nat) (pl:dB),(hb l st)[q]? =some pl->
  pl.behind=match q with
   |0=>match st with
    |s::_=>s.behind
    |[]=>false
   |q+1=>match l[q]? with
    |some p=>p.Kind==1
    |none=>false
 |[],st,_,q,pl,h=>by simp[hb]at h
 |p::r,[],_,q,pl,h=>by simp[hb]at h
 |p::r,s::st,DI,q,pl,h=>by
  cases q with
  |zero=>simp only[hb,List.getElem?_cons_zero,some.injEq]at h;subst h;rfl
  |succ q=>
   simp only[hb,List.getElem?_cons_succ]at h;have atv:∀aH∈(List.replicate (ez p) (below p s)++st).tail,aH.behind=false:=by
    intro aH f_;have bH:=DG p;rcases(by omega:ez p=0\/ez p=1\/ez p=2)with bH|bH|bH
    .rw[bH]at f_;simp only[List.replicate_zero,List.nil_append]at f_;exact DI aH (by simpa using List.mem_of_mem_tail f_)
    .rw[bH]at f_;simp only[List.replicate_succ,List.replicate_zero,List.cons_append,List.nil_append,List.tail_cons]at f_;exact DI aH (by simpa using f_)
    .rw[bH]at f_;simp only[List.replicate_succ,List.replicate_zero,List.cons_append,List.nil_append,List.tail_cons,List.mem_cons]at f_;rcases f_ with rfl|f_
     .exact atu bH
     .exact DI aH (by simpa using f_)
   have ih:=aa1 r _ atv q pl h;rw[ih];cases q with
   |succ q=>rfl
   |zero=>
    simp only[List.getElem?_cons_zero];have bH:=DG p;rcases(by omega:ez p=0\/ez p=1\/ez p=2)with bH|bH|bH
    .rw[bH,att bH];simp only[List.replicate_zero,List.nil_append];cases st with
     |nil=>rfl
     |cons s2 st=>exact DI s2 (by simp)
    .rw[bH];rfl
    .rw[bH];rfl
theorem atw (l:azw) (s:dB) (aa:s.behind=false) (q:Nat) (pl:dB) (h:(hb l [s])[q]? =some pl):pl.behind=SQ l q:=by
 rw[aa1 l [s] (λs aa=>by simp at aa) q pl h];cases q with
 |zero=>exact aa
 |succ q=>rfl
end Go.l_
