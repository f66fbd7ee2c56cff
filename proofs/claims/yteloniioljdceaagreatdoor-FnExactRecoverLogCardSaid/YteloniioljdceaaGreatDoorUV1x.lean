/- Part of a proof that a law returns true for every input. No condition. -/
import Derived.Test.YteloniioljdceaaGreatDoorUV0x
import Derived.Test.YteloniioljdceaaGreatDoorP4
namespace Go.lh
open Option Go.IntKind Nat Or
open Go Go.ca
theorem join_one (x s:RD):fQ [x] s=x:=by simp[fQ,List.intercalate,List.intersperse]
theorem join_cons (x y:RD) (r:RC) (s:RD):fQ (x::y::r) s=x++(s++fQ (y::r) s):=by simp[fQ,List.intercalate,List.intersperse]
theorem zT (c:UInt8) (k:Nat):∀l:RC,(∀x∈l,x.length<=k)->(fQ l [c]).length<=l.length*(k+1)
 |[],_=>by simp[fQ,List.intercalate,List.intersperse]
 |[x],h=>by rw[join_one];have:=h x (by simp);simp only[List.length_cons,List.length_nil];omega
 |x::y::r,h=>by
  rw[join_cons];have U:=h x (by simp);have ab:=zT c k (y::r) λz bt=>h z (by simp[bt]);simp only[List.length_append,List.length_cons,List.length_nil,Nat.add_mul]at ab⊢;omega
theorem PZ (n:Nat) (h:n<100):l8 (n:Int)=some (nt n):=by
 unfold l8 qL;first
 |(rw[if_pos ⟨by omega,by omega,rfl⟩];rfl)
 |(rw[if_pos ⟨by omega,by omega,rfl⟩]
   unfold eV nt hN;rw[if_neg (by omega),Int.toNat_natCast];by_cases U:n<10
   .rw[dif_pos U,if_pos U];rfl
   .unfold hN;rw[dif_neg U,if_neg U,dif_pos (by omega)];rfl)
theorem P0 (n:Nat):(nt n).length<=2:=by unfold nt;split<;>simp
theorem FH {α γ β:Type} {L:Nat->List γ->Int->Option β} (a:List α) (t:α->γ) (w:List γ) (hw:w.length=a.length) (E:List γ->Option β)
  (bj:∀m v,L (m+1) v (a.length:Int)=E v)
  (R:∀i (h:i<a.length) m v,v.length=a.length->L (m+1) v (i:Int)=L m (v.set i (t a[i])) ((i+1:Nat):Int)):eg (λm=>L m w 0)=E (a.map t):=by
 have key:∀i,i<=a.length->∀m,a.length-i<m->L m ((a.take i).map t++w.drop i) (i:Int)=E (a.map t):=by
  refine down a.length ?_ ?_
  .intro m hm;obtain⟨m,rfl⟩:∃j,m=j+1:=⟨m-1,by omega⟩
   rw[bj,List.take_length,List.drop_of_length_le (by omega),List.append_nil]
  .intro i aC ih m hm;obtain⟨m,rfl⟩:∃j,m=j+1:=⟨m-1,by omega⟩
   have e:((a.take i).map t).length=i:=by simp;omega
   rw[R i aC m _ (by simp only[List.length_append,e,List.length_drop];omega),<-ih m (by omega)];congr 1;rw[List.set_append_right i _ (by rw[e];omega),e,Nat.sub_self,drop_cons w i (by omega),List.set_cons_zero,List.take_succ_eq_append_getElem aC,List.map_append];simp
 refine ht (a.length+1) λm hm=>?_;have:=key 0 (by omega) m (by omega);simpa using this
def nm (n:Int):RD:=nt n.toNat
theorem P1 (n:Int):(nm n).length<=2:=P0 _
theorem P2 {x:Int} (h:0<=x/\x<=63):l8 x=some (nm x):=by
 have:=PZ x.toNat (by omega)
 rwa [Int.toNat_of_nonneg h.1]at this
theorem P3 (a:RF) (h:a.length<=64) (az:∀x∈a,0<=x/\x<=63):ph a [44]=some (fQ (a.map nm) [44]):=by
 unfold ph;rw[Fg 16 (by omega) (by omega)];simp only[bind_some,Int.toNat_natCast];have bE:strings_Join (a.map nm) [44]=some (fQ (a.map nm) [44]):=by
  unfold strings_Join;have:=zT 44 2 (a.map nm) λx ak=>by
   obtain⟨y,_,rfl⟩:=List.mem_map.1 ak;exact P1 y
  rw[List.length_map]at this;rw[if_pos ⟨by rw[List.length_map];omega,by omega⟩]
 rw[FH (L:=mW a [44]) a nm (List.replicate a.length []) (by simp) (λv=>(strings_Join v [44]).bind λbu=>some bu) (λm v=>?_) (λi aC m v hl=>?_),bE]
 .rfl
 .simp only[mW,sL];rw[j5 (Nat.le_refl _)];rfl
 .simp only[mW,sL];rw[lA aC,hS _ i aC,kQ i _ aC (by omega),hS v i (by omega)];simp only[cond_true,bind_some];rw[P2 (az _ (List.getElem_mem aC))];simp only[bind_some,Int.toNat_natCast]
def small (c:UInt8):Bool:=decide (97<=(c.toNat:Int))&&decide ((c.toNat:Int)<=122)
def digit (c:UInt8):Bool:=decide (48<=(c.toNat:Int))&&decide ((c.toNat:Int)<=57)
def oh (s:RD):Bool:=decide (s.length<=10)&&(match s with|[]=>false|c::r=>small c&&r.all λc=>small c||digit c)
theorem FI (s:RD):sx s=some (oh s):=by
 unfold sx;cases s with
 |nil=>rfl
 |cons c r=>
  have ez:((c::r)==([]:RD))=false:=rfl;rw[ez];simp only[cond_false];by_cases fs:10<(c::r).length
  .have:decide ((10:Int)<((c::r).length:Int))=true:=by simp at fs⊢;omega
   rw[this];have ab:decide ((c::r).length<=10)=false:=by simp at fs⊢;omega
   simp only[oh,ab];rfl
  .have:decide ((10:Int)<((c::r).length:Int))=false:=by simp at fs⊢;omega
   rw[this];have ab:decide ((c::r).length<=10)=true:=by simp at fs⊢;omega
   rw[vN];simp only[cond_false,bind_some,sv];simp only[oh,ab,Bool.true_and];show cond (!small c) _ _=_;cases R:small c with
   |false=>rfl
   |true=>
    simp only[Bool.not_true,cond_false];rw[vO (n:=(c::r).length) (λi=>some (((c::r).drop i).all λc=>small c||digit c))]
    .simp[R]
    .intro m;simp only[sw,yr];rw[j5 (Nat.le_refl _)];simp
    .intro i aC m ih;simp only[sw,yr];rw[lA aC,hS _ i aC,kQ i _ aC (by omega),ih,drop_cons _ i aC];simp only[cond_true,bind_some,sv,qq,List.all_cons];show cond (!small _) (cond (!digit _) _ _) _=_;cases small (c::r)[i]<;>cases digit (c::r)[i]<;>rfl
theorem P4 (s:RD) (R:s.length<=140737488355328):u7 s=some (oh s):=by
 unfold u7;have aL:∀m,s.length-1<m->1<=s.length->oa s m ((1:Nat):Int)=some (((s.drop 1).all λc=>small c||digit c)&&(decide (1<=(s.length:Int))&&decide ((s.length:Int)<=10))):=by
  intro m hm U;refine down s.length (P:=λi=>1<=i->∀m,s.length-i<m->oa s m (i:Int)=some (((s.drop i).all λc=>small c||digit c)&&(decide (1<=(s.length:Int))&&decide ((s.length:Int)<=10)))) ?_ ?_ 1 U (Nat.le_refl _) m hm
  .intro _ m hm;obtain⟨k,rfl⟩:∃k,m=k+1:=⟨m-1,by omega⟩
   simp only[oa,u6];rw[j5 (Nat.le_refl _)];simp
  .intro i aC ih rY m hm;obtain⟨k,rfl⟩:∃k,m=k+1:=⟨m-1,by omega⟩
   simp only[oa,u6];rw[lA aC,hS _ i aC,kQ i _ aC (by omega),ih (by omega) k (by omega),drop_cons _ i aC];have e:((i:Int)==0)=false:=by simp;omega
   rw[e];simp only[cond_true,cond_false,bind_some,yB,List.all_cons];show cond (!small _) (cond (!digit _) _ _) _=_;cases small s[i]<;>cases digit s[i]<;>rfl
 refine ht (s.length+1) λm hm=>?_;obtain⟨k,rfl⟩:∃k,m=k+1:=⟨m-1,by omega⟩
 simp only[oa,u6];cases s with
 |nil=>rfl
 |cons c r=>
  have ag:=aL k (by simp at hm⊢;omega) (by simp);rw[show((1:Nat):Int)=1 from rfl]at ag;rw[vK (by simp),vN,Pz,ag];have e:((0:Int)==0)=true:=rfl;rw[e];simp only[cond_true,oh];show cond (!small c) _ _=_;have U:decide (1<=((c::r).length:Int))=true:=by simp;omega
  have ab:decide (((c::r).length:Int)<=10)=decide ((c::r).length<=10):=by
   by_cases h:(c::r).length<=10<;>simp at h⊢<;>omega
  rw[U,ab];cases small c with
  |false=>simp
  |true=>simp[Bool.and_comm]
def mn (s:RD):Bool:=oh s&& !(s==[116,97,117])
theorem FJ (s:RD):uR s=some (mn s):=by unfold uR;rw[FI];rfl
theorem FK (s:RD) (R:s.length<=1048576):u9 s=some (mn s):=by unfold u9;rw[P4 s (by omega)];rfl
def kR (ws:RC):Bool:=ws.all λw=>(dA w).2
def gL (ws:RC):RF:=ws.map λw=>(dA w).1
def jD (x:Int):Bool:=decide (0<=x)&&decide (x<=63)
theorem FL (ws:RC) (h:ws.length<=1048577):sK ws=some (if kR ws=true then(gL ws,true)else([],false)):=by
 have key:∀i,i<=ws.length->∀m,ws.length-i<m->∀v:RF,v.length=i->
   qI ws m v (i:Int)=some (if kR (ws.drop i)=true then(v++gL (ws.drop i),true)else([],false)):=by
  refine down ws.length ?_ ?_
  .intro m hm v az;obtain⟨m,rfl⟩:∃j,m=j+1:=⟨m-1,by omega⟩
   simp only[qI,yA];rw[j5 (Nat.le_refl _),List.drop_length];simp[kR,gL]
  .intro i aC ih m hm v az;obtain⟨m,rfl⟩:∃j,m=j+1:=⟨m-1,by omega⟩
   simp only[qI,yA,u4];rw[lA aC,cond_true,hS ws i aC,bind_some,bind_some,drop_cons ws i aC];simp only[kR,gL,List.all_cons,List.map_cons];cases ad:(dA ws[i]).2
   .simp
   .simp only[Bool.not_true,cond_false,Bool.true_and];rw[nk (by omega) (by omega),bind_some,kQ i _ aC (by omega),ih m (by omega) _ (by simp[az])];simp[kR,gL]
 unfold sK;refine ht (ws.length+1) λm hm=>?_;have:=key 0 (by omega) m (by omega) [] rfl;simpa using this
def jE (ws:RC):Bool:=ws.all λw=>(dA w).2&&jD (dA w).1
theorem P5 (ws:RC) (h:ws.length<=1048577) (hw:∀w∈ws,w.length<=1048576):
  eg (λn=>pb ws n [] 0)=some (if jE ws=true then gL ws else [],jE ws&&decide (ws.length<=2)):=by
 have key:∀i,i<=ws.length->∀m,ws.length-i<m->∀v:RF,v.length=i->
   pb ws m v (i:Int)=some (if jE (ws.drop i)=true then v++gL (ws.drop i)else [],jE (ws.drop i)&&decide (ws.length<=2)):=by
  refine down ws.length ?_ ?_
  .intro m hm v az;obtain⟨m,rfl⟩:∃j,m=j+1:=⟨m-1,by omega⟩
   simp only[pb,ys];rw[j5 (Nat.le_refl _),List.drop_length,cond_false];have e:decide ((v.length:Int)<=2)=decide (ws.length<=2):=by rw[decide_eq_decide];omega
   rw[e];simp[jE,gL]
  .intro i aC ih m hm v az;obtain⟨m,rfl⟩:∃j,m=j+1:=⟨m-1,by omega⟩
   simp only[pb,ys];rw[lA aC,cond_true,hS ws i aC,bind_some,vP _ (hw _ (List.getElem_mem aC)),bind_some,drop_cons ws i aC];have P6:jE (ws[i]::ws.drop (i+1))=((dA ws[i]).2&&jD (dA ws[i]).1&&jE (ws.drop (i+1))):=rfl;rw[P6];by_cases ad:(dA ws[i]).2=true
   .simp only[ad,Bool.not_true,cond_false,Bool.true_and,pa,bind_some];by_cases nn:jD (dA ws[i]).1=true
    .have tp:=nn;unfold jD at tp;rw[tp,nn];simp only[Bool.not_true,cond_false,Bool.true_and];rw[nk (by omega) (by omega),bind_some,kQ i _ aC (by omega),ih m (by omega) _ (by simp[az])];simp only[gL,List.append_assoc,List.map_cons,List.singleton_append]
    .have FM:jD (dA ws[i]).1=false:=by simpa using nn
     have tp:=FM;unfold jD at tp;rw[tp,FM];simp
   .have eT:(dA ws[i]).2=false:=by simpa using ad
    simp[eT]
 refine ht (ws.length+1) λm hm=>?_;have:=key 0 (by omega) m (by omega) [] rfl;simpa using this
theorem FN (a:RF) (h:a.length<=1048577):u_ a=some (a.all jD):=by
 unfold u_ yG yF;rw[PH (n:=a.length) (l:=qK a) (λi=> !jD (a.getD i 0)) (λm=>?_) (λi aC m=>?_)]
 .simp only[bind_some,PG,Bool.not_not];congr 1;rw[Bool.eq_iff_iff,zD,List.all_eq_true];constructor
  .intro q x ak;obtain⟨k,ag,rfl⟩:=List.mem_iff_getElem.1 ak;have:=q k ag;simpa [List.getD,ag]using this
  .intro q i aC;have:=q _ (List.getElem_mem aC);simpa [List.getD,aC]using this
 .simp only[qK,yE];rw[j5 (Nat.le_refl _)];rfl
 .simp only[qK,yE,yD,yC,mV];rw[lA aC,hS _ i aC,kQ i _ aC (by omega)];simp only[cond_true,bind_some];have e:a.getD i 0=a[i]:=by simp[List.getD,aC]
  rw[e];rfl
theorem zU (s:RD) (R:s.length<=1048576):(40∉s->qt s=some (s.length:Int))/\∀p q,s=p++40::q->40∉p->qt s=some (p.length:Int):=by
 have step:∀i (aC:i<s.length) m,n8 s (m+1) (i:Int)=cond (s[i]==40) (some (i:Int)) (n8 s m ((i+1:Nat):Int)):=by
  intro i aC m;simp only[n8,yq];rw[lA aC,cond_true,hS s i aC,bind_some,kQ i _ aC (by omega)];have e:((s[i].toNat:Int)==40)=(s[i]==40):=by
   rw[Bool.eq_iff_iff];simp only[beq_iff_eq];constructor
   .intro h;exact UInt8.toNat_inj.1 (by rw[show(40:UInt8).toNat=40 from rfl];omega)
   .intro h;rw[h];rfl
  rw[e]
 constructor
 .intro h;unfold qt;rw[vO (n:=s.length) (λ_=>some (s.length:Int))]
  .intro m;simp only[n8,yq];rw[j5 (Nat.le_refl _)];rfl
  .intro i aC m ih;rw[step i aC m,ih];have:(s[i]==40)=false:=by
    simp only[beq_eq_false_iff_ne,ne_eq];intro e;exact h (e▸List.getElem_mem aC)
   rw[this];rfl
 .rintro p q rfl af;unfold qt;refine ht (p.length+1) λm hm=>?_;have key:∀k,k<=p.length->∀m,k<m->n8 (p++40::q) m ((p.length-k:Nat):Int)=some (p.length:Int):=by
   intro k;induction k with
   |zero=>
    intro _ m hm;obtain⟨m,rfl⟩:∃j,m=j+1:=⟨m-1,by omega⟩
    rw[Nat.sub_zero,step p.length (by simp) m];have:((p++40::q)[p.length]'(by simp))=40:=by simp
    rw[this];rfl
   |succ k ih=>
    intro ag m hm;obtain⟨m,rfl⟩:∃j,m=j+1:=⟨m-1,by omega⟩
    rw[step (p.length-(k+1)) (by simp;omega) m];have:((p++40::q)[p.length-(k+1)]'(by simp;omega)==40)=false:=by
     simp only[beq_eq_false_iff_ne,ne_eq];rw[List.getElem_append_left (by omega)];intro e;exact af (e▸List.getElem_mem (by omega))
    rw[this,cond_false,show p.length-(k+1)+1=p.length-k by omega];exact ih (by omega) m (by omega)
  have:=key p.length (Nat.le_refl _) m (by omega);simpa using this
theorem FO (ws:RC):jE ws=(kR ws&&(gL ws).all jD):=by
 unfold jE kR gL;rw[List.all_map];induction ws with
 |nil=>rfl
 |cons w r ih=>simp only[List.all_cons,ih,Function.comp];cases(dA w).2<;>cases jD (dA w).1<;>simp
theorem P7 (ws:RC) (h:jE ws=true):(gL ws).map nm=ws:=by
 unfold gL;rw[List.map_map];conv=>rhs;rw[<-List.map_id ws]
 refine List.map_congr_left λw hw=>?_;simp only[jE,List.all_eq_true,Bool.and_eq_true]at h;have:=h w hw;simp only[jD,Bool.and_eq_true,decide_eq_true_eq]at this;simp only[Function.comp,id,nm];exact(PU (Prod.ext rfl this.1) this.2.1 this.2.2).symm
theorem FP (p q cv:RD) (af:40∉p) (R:(p++40::q).length<=1048576) (bj:strings_TrimSuffix q [41]=some cv) (vQ:cv.length<=1048576):
  pj (p++40::q)=some (mn p&&(jE (cc 44 cv)&&decide ((cc 44 cv).length<=2))&&(((p++[40])++cv)++[41]==p++40::q)):=by
 have hlen:=th 44 cv;have P8:cv.count 44<=cv.length:=List.count_le_length;have hl:=R;simp only[List.length_append,List.length_cons]at hl;have ok:∀n,n<=4194304->ev n=some ():=λn aT=>by unfold ev;rw[if_pos (by omega)]
 unfold pj vb;rw[PN p q af R];simp only[bind_some,cond_true];rw[bj,bind_some,Fu 44 cv vQ,bind_some,FL _ (by omega),FO];by_cases aT:kR (cc 44 cv)=true
 .rw[if_pos aT,aT];simp only[bind_some,Bool.not_true,cond_false,Bool.true_and];have iW:(gL (cc 44 cv)).length=cv.count 44+1:=by unfold gL;rw[List.length_map,hlen]
  unfold sM va;by_cases aI:p=[116,97,117]
  .have ez:(((gL (cc 44 cv)).length:Int)==0)=false:=by rw[iW];simp;omega
   subst aI;simp only[BEq.rfl,cond_true,ez,bind_some,Bool.not_false,Bool.true_or];rfl
  .have aG:(p==[116,97,117])=false:=by simpa using aI
   rw[aG,FK p (by omega)];simp only[cond_false,bind_some];by_cases a1:mn p=true
   .rw[a1];simp only[Bool.not_true,cond_false,Bool.true_and];by_cases ab:(cc 44 cv).length<=2
    .have aJ:decide ((2:Int)<((gL (cc 44 cv)).length:Int))=false:=by rw[iW];simp;omega
     have bp:decide ((cc 44 cv).length<=2)=true:=by simpa using ab
     rw[aJ,bp,FN _ (by omega)];simp only[cond_false,bind_some,Bool.and_true];by_cases az:(gL (cc 44 cv)).all jD=true
     .have bJ:(((gL (cc 44 cv)).length:Int)==0)=false:=by rw[iW];simp;omega
      have fk:jE (cc 44 cv)=true:=by rw[FO,aT,az];rfl
      rw[az,bJ];simp only[Bool.not_true,cond_false,Bool.true_and];rw[P3 _ (by omega) (λx ak=>by
       have:=List.all_eq_true.1 az x ak;simpa only[jD,Bool.and_eq_true,decide_eq_true_eq]using this),P7 _ fk,zE]
      rw[ok _ (by omega),bind_some,bind_some,ok _ (by simp;omega),bind_some,ok _ (by simp;omega),bind_some,bind_some];cases(((p++[40])++cv)++[41]==p++40::q)<;>rfl
     .have hX:(gL (cc 44 cv)).all jD=false:=by simpa using az
      rw[hX];rfl
    .have aJ:decide ((2:Int)<((gL (cc 44 cv)).length:Int))=true:=by rw[iW];simp;omega
     have bp:decide ((cc 44 cv).length<=2)=false:=by simpa using ab
     rw[aJ,bp];simp
   .have mE:mn p=false:=by simpa using a1
    rw[mE];rfl
 .have ix:kR (cc 44 cv)=false:=by simpa using aT
  rw[if_neg aT,ix];simp
theorem FQ (p q:RD) (x:UInt8) (af:40∉p) (r:RD) (e:p++40::q=r++[x]) (R:(p++40::q).length<=1048576):
  cj (p++40::q) (i64.wrap (((p++40::q).length:Int)-1))=some x:=by
 rw[e,dL _ (by rw[<-e];omega),show(((r++[x]).length:Int)-1)=(r.length:Int) by simp];exact zJ r x []
theorem P9 (p cv:RD) (af:40∉p) (R:(p++40::(cv++[41])).length<=1048576):
  l4 (p++40::(cv++[41]))=some (mn p&&(jE (cc 44 cv)&&decide ((cc 44 cv).length<=2))):=by
 have hl:=R;simp only[List.length_append,List.length_cons,List.length_nil]at hl;have hlen:=th 44 cv;have P8:cv.count 44<=cv.length:=List.count_le_length;have hw:∀w∈cc 44 cv,w.length<=1048576:=by
  have key:∀s:RD,∀w∈cc 44 s,w.length<=s.length:=by
   intro s;induction s with
   |nil=>intro w hw;simp[cc]at hw;subst hw;exact Nat.le_refl _
   |cons x r ih=>
    intro w hw;simp only[cc]at hw;split at hw
    .rcases List.mem_cons.1 hw with rfl|hw
     .simp
     .exact Nat.le_trans (ih w hw) (by simp)
    .cases ax:cc 44 r with
     |nil=>exact(q2 44 r ax).elim
     |cons a t=>
      rw[ax]at hw ih;simp only[glue]at hw;rcases List.mem_cons.1 hw with rfl|hw
      .have:=ih a (by simp);simp;omega
      .exact Nat.le_trans (ih w (by simp[hw])) (by simp)
  intro w hw;have:=key cv w hw;omega
 unfold l4 sy;rw[(zU _ R).2 p _ rfl af];have aD:(((p.length:Nat):Int)==((p++40::(cv++[41])).length:Int))=false:=by simp;omega
 simp only[bind_some,aD,cond_false];rw[q0 _ _ (by simp),List.take_left' rfl,bind_some,FJ,bind_some];rw[FQ p (cv++[41]) 41 af (p++40::cv) (by simp) R,bind_some];have aG:((((41:UInt8).toNat:Nat):Int) !=41)=false:=rfl;have aJ:c8 (p++40::(cv++[41])) (i64.wrap ((p.length:Int)+1)) (i64.wrap (((p++40::(cv++[41])).length:Int)-1))=some cv:=by
  rw[dL _ (by omega),dL _ (by omega)];have:=q1 (p++[40]) cv [41] (i:=(p.length:Int)+1) (j:=(((p++40::(cv++[41])).length:Int)-1)) (by simp) (by simp;omega);simpa using this
 rw[aG,cond_false,aJ,bind_some,Fv 44 cv (by omega),bind_some,P5 _ (by omega) hw];cases mn p<;>rfl
theorem P_ (p q:RD) (af:40∉p) (R:(p++40::q).length<=1048576) (h:∀r,q≠r++[41]):l4 (p++40::q)=some false:=by
 have hl:=R;simp only[List.length_append,List.length_cons]at hl;unfold l4 sy;rw[(zU _ R).2 p _ rfl af];have aD:(((p.length:Nat):Int)==((p++40::q).length:Int))=false:=by simp;omega
 simp only[bind_some,aD,cond_false];rw[q0 _ _ (by simp),List.take_left' rfl,bind_some,FJ,bind_some];obtain⟨r,x,e,ak⟩:∃r x,p++40::q=r++[x]/\x≠41:=by
  rcases List.eq_nil_or_concat q with rfl|⟨fu,x,rfl⟩
  .exact⟨p,40,rfl,by decide⟩
  .refine⟨p++40::fu,x,by simp,?_⟩;rintro rfl;exact h fu (by simp)
 rw[FQ p q x af r e R,bind_some];have aG:((x.toNat:Int) !=41)=true:=by
  simp only[bne_iff_ne,ne_eq];intro aN;exact ak (UInt8.toNat_inj.1 (by rw[show(41:UInt8).toNat=41 from rfl];omega))
 rw[aG];cases mn p<;>rfl
noncomputable def vR (s:RD):Bool:=(l4 s).getD false
theorem Qa (s:RD) (R:s.length<=1048576):l4 s=some (vR s)/\pj s=some (vR s):=by
 suffices h:∃b,l4 s=some b/\pj s=some b by
  obtain⟨b,U,ab⟩:=h;unfold vR;rw[U,ab];exact⟨rfl,rfl⟩
 by_cases hm:40∈s
 .obtain⟨p,q,rfl,af⟩:=ti hm;have hl:=R;simp only[List.length_append,List.length_cons]at hl;by_cases b2:∃r,q=r++[41]
  .obtain⟨cv,rfl⟩:=b2;have vQ:cv.length<=1048576:=by simp at hl;omega
   refine⟨_,P9 p cv af R,?_⟩;rw[FP p _ cv af R (zH cv vQ) vQ];have:(((p++[40])++cv)++[41]==p++40::(cv++[41]))=true:=by simp
   rw[this,Bool.and_true]
  .have FR:∀r,q≠r++[41]:=λr e=>b2 ⟨r,e⟩;refine⟨false,P_ p q af R FR,?_⟩;rw[FP p q q af R (Fq q (by omega) FR) (by omega)];have:(((p++[40])++q)++[41]==p++40::q)=false:=by
    simp only[beq_eq_false_iff_ne,ne_eq];intro e;have:=congrArg List.length e;simp at this
   rw[this,Bool.and_false]
 .unfold l4 sy pj vb;rw[(zU s R).1 hm,PM hm,FI];have aD:((s.length:Int)==(s.length:Int))=true:=by simp
  simp only[bind_some,aD,cond_true,cond_false];refine⟨_,rfl,?_⟩;unfold sM va;by_cases aI:s=[116,97,117]
  .subst aI;rfl
  .have aG:(s==[116,97,117])=false:=by simpa using aI
   rw[aG,FK s R];simp only[cond_false,bind_some];have aJ:mn s=oh s:=by unfold mn;rw[aG];simp
   rw[aJ];cases oh s
   .rfl
   .simp only[Bool.not_true,cond_false,List.length_nil];rw[FN [] (by simp)];simp
def tq (s:Int):Int:=cond (decide (65535<i64.wrap (s*2))) (bitsOf .xor .i64 (bitsOf .and .i64 (i64.wrap (s*2)) 65535) 4129) (i64.wrap (s*2))
def q3:Nat->Int->Int
 |0,s=>s
 |k+1,s=>q3 k (tq s)
def q4 (s:Int) (c:UInt8):Int:=q3 8 (bitsOf .xor .i64 s (i64.wrap ((c.toNat:Int)*256)))
def j6 (l:RD) (s:Int):Int:=l.foldl q4 s
theorem Qb (db:Int->Int->RI) (a:RD) (i:Int):∀(d n:Nat) (s j:Int),j=8-d->d<=8->d<n->mS db a n s i j=db (q3 d s) (i64.wrap (i+1)):=by
 intro d;induction d with
 |zero=>
  intro n s j bE _ aT;obtain⟨m,rfl⟩:∃m,n=m+1:=⟨n-1,by omega⟩
  simp only[mS,uT];have:decide (j<8)=false:=by simp;omega
  rw[this];rfl
 |succ d ih=>
  intro n s j bE ad aT;obtain⟨m,rfl⟩:∃m,n=m+1:=⟨n-1,by omega⟩
  simp only[mS,uT,sF];have U:decide (j<8)=true:=by simp;omega
  have ab:i64.wrap (j+1)=j+1:=dL _ (by omega);rw[U,ab];simp only[cond_true];rw[ih m _ (j+1) (by omega) (by omega) (by omega),ih m _ (j+1) (by omega) (by omega) (by omega)];simp only[q3,tq];cases decide (65535<i64.wrap (s*2))<;>rfl
theorem Qc (a:RD) (a1:a.length<=140737488355328):∀(d n:Nat) (s i:Int),i=a.length-d->d<=a.length->d<n->jW a n s i=some (j6 (a.drop i.toNat) s):=by
 intro d;induction d with
 |zero=>
  intro n s i aC _ aT;obtain⟨m,rfl⟩:∃m,n=m+1:=⟨n-1,by omega⟩
  simp only[jW,uU];have U:decide (i<a.length)=false:=by simp;omega
  rw[U,List.drop_of_length_le (by omega)];rfl
 |succ d ih=>
  intro n s i aC ad aT;obtain⟨m,rfl⟩:∃m,n=m+1:=⟨n-1,by omega⟩
  simp only[jW,uU];have U:decide (i<a.length)=true:=by simp;omega
  have cq:i.toNat<a.length:=by omega
  rw[U,z8 (by omega) cq];simp only[cond_true,bind_some];rw[ht (x:=jW a m (q4 s a[i.toNat]) (i+1)) 9]
  .rw[ih m _ (i+1) (by omega) (by omega) (by omega)];have:(i+1).toNat=i.toNat+1:=by omega
   rw[this,List.drop_eq_getElem_cons cq];rfl
  .intro n aT;rw[Qb _ a i 8 n _ 0 (by omega) (by omega) (by omega),dL (i+1) (by omega)];rfl
theorem FT (a:RD) (a1:a.length<=140737488355328) (s:Int):pc a s=some (j6 a s):=by
 unfold pc;refine ht (a.length+1) λn aT=>?_;rw[Qc a a1 a.length n s 0 (by omega) (by omega) (by omega)];rfl
theorem Qd (a:RD) (s:Int) (h:0<=s/\s<=65535):qQ a s=pc a s:=by
 have aD:∀k n s i j,qP k a n s i j=mS k a n s i j:=by
  intro k n;induction n with
  |zero=>intros;rfl
  |succ n ih=>
   intro s i j;simp only[qP,mS,DV,uT,vc,sF,ih]
 have aG:∀n s i,mX a n s i=jW a n s i:=by
  intro n;induction n with
  |zero=>intros;rfl
  |succ n ih=>
   intro s i;have Qe:mX a n=jW a n:=by funext s i;exact ih s i
   simp only[mX,jW,DW,uU,aD,Qe]
 unfold qQ pc mV;have J:(decide (0<=s)&&decide (s<=65535))=true:=by simp[h]
 simp only[J,bind_some,Bool.not_true,cond_false,aG]
theorem Qf (a:RD) (a1:a.length<=140737488355328) (s:Int) (h:0<=s/\s<=65535):qQ a s=some (j6 a s):=(Qd a s h).trans (FT a a1 s)
theorem zV:∀(k n:Nat),n<10^(k+1)->(hN n).length<=k+1:=by
 intro k;induction k with
 |zero=>intro n h;rw[hN,dif_pos (by omega)];simp
 |succ k ih=>
  intro n h;rw[hN];by_cases U:n<10
  .rw[dif_pos U];simp
  .rw[dif_neg U];have:=ih (n/10) (by rw[Nat.pow_succ]at h;omega);simp;omega
theorem Qg:∀d:Fin 10,hT (i64.wrap (48+((d:Nat):Int)))=UInt8.ofNat (48+d):=by decide
theorem FU (n:Nat) (h:n<10):hT (i64.wrap (48+(n:Int)))=UInt8.ofNat (48+n):=Qg ⟨n,h⟩
theorem FV (a:RD) (a1:a.length<=1000):sD a=some a.reverse:=by
 unfold sD;have key:∀i,i<=a.length->∀m,i<m->qv a m ((a.drop i).reverse) ((i:Int)-1)=some a.reverse:=by
  intro i;induction i with
  |zero=>
   intro _ m hm;obtain⟨m,rfl⟩:∃j,m=j+1:=⟨m-1,by omega⟩
   simp only[qv,yt];rw[show decide ((0:Int)<=((0:Nat):Int)-1)=false from by decide];simp
  |succ i ih=>
   intro aC m hm;obtain⟨m,rfl⟩:∃j,m=j+1:=⟨m-1,by omega⟩
   simp only[qv,yt];rw[show decide ((0:Int)<=((i+1:Nat):Int)-1)=true from decide_eq_true (by omega),cond_true,show(((i+1:Nat):Int)-1)=(i:Int) by omega,hS a i (by omega),bind_some,nk (by simp;omega) (by simp;omega),bind_some,dL ((i:Int)-1) (by omega)];have:=ih (by omega) m (by omega);rw[drop_cons a i (by omega),List.reverse_cons]at this;exact this
 refine ht (a.length+1) λm hm=>?_;have:=key a.length (Nat.le_refl _) m (by omega);rw[List.drop_length]at this;rw[dL _ (by omega)];exact this
theorem FW (a:Int) (s:Int) (R:s=1\/s= -1) (dh:RD->Option RD) (pE:∀v m,v.length<=30->jw a (m+1) v 0=dh v):
  ∀(k n:Nat) (v:RD),1<=n->n<10^(k+1)->k<=18->v.length+k<=20->∀m,k+2<=m->jw a m v (s*(n:Int))=dh (v++(hN n).reverse):=by
 intro k;induction k with
 |zero=>
  intro n v U aT _ az m hm;obtain⟨m,rfl⟩:∃j,m=j+2:=⟨m-2,by omega⟩
  have ix:n<10:=by simpa using aT
  have aG:Int.tmod (s*(n:Int)) 10=s*((n%10:Nat):Int):=by
   rcases R with rfl|rfl
   .rw[Int.one_mul,Int.one_mul];rfl
   .rw[Int.neg_mul,Int.one_mul,Int.neg_tmod,Int.neg_mul,Int.one_mul];rfl
  have bp:Int.tdiv (s*(n:Int)) 10=0:=by
   rcases R with rfl|rfl
   .rw[Int.one_mul,show Int.tdiv (n:Int) 10=((n/10:Nat):Int)from rfl];omega
   .rw[Int.neg_mul,Int.one_mul,Int.neg_tdiv,show Int.tdiv (n:Int) 10=((n/10:Nat):Int)from rfl];omega
  have aD:((s*(n:Int)) !=0)=true:=by rcases R with rfl|rfl<;>simp<;>omega
  simp only[jw,sE,sC];rw[aD,aG,bp,cond_true];have ak:(cond (decide (s*((n%10:Nat):Int)<0)) (i64.wrap (0-s*((n%10:Nat):Int))) (s*((n%10:Nat):Int)))=((n%10:Nat):Int):=by
   rcases R with rfl|rfl
   .rw[show decide (1*((n%10:Nat):Int)<0)=false from by simp;omega];simp
   .rw[show decide (-1*((n%10:Nat):Int)<0)=true from by simp;omega,cond_true,dL _ (by omega)];omega
  have ag:∀x,x=((n%10:Nat):Int)->((room 1 (v.length+1)).bind λ_=>jw a (m+1) (v++[hT (i64.wrap (48+x))]) (i64.wrap 0))=dh (v++(hN n).reverse):=by
   rintro x rfl;rw[FU (n%10) (by omega),nk (by omega) (by omega),bind_some,dL 0 (by omega),pE _ _ (by simp;omega),hN,dif_pos ix,mod_eq_of_lt ix];rfl
  cases J:decide (s*((n%10:Nat):Int)<0)
  .rw[J]at ak;exact ag _ ak
  .rw[J]at ak;exact ag _ ak
 |succ k ih=>
  intro n v U aT h0 az m hm;by_cases ix:n<10
  .have fs:n<10^(k+1):=Nat.lt_of_lt_of_le ix (by rw[Nat.pow_succ];have:=one_le_pow k 10 (by omega);omega);exact ih n v U fs (by omega) (by omega) m (by omega)
  obtain⟨m,rfl⟩:∃j,m=j+1:=⟨m-1,by omega⟩
  have RA:(10:Nat)^(k+1+1)<=10^19:=Nat.pow_le_pow_right (by omega) (by omega);have aG:Int.tmod (s*(n:Int)) 10=s*((n%10:Nat):Int):=by
   rcases R with rfl|rfl
   .rw[Int.one_mul,Int.one_mul];rfl
   .rw[Int.neg_mul,Int.one_mul,Int.neg_tmod,Int.neg_mul,Int.one_mul];rfl
  have bp:Int.tdiv (s*(n:Int)) 10=s*((n/10:Nat):Int):=by
   rcases R with rfl|rfl
   .rw[Int.one_mul,Int.one_mul];rfl
   .rw[Int.neg_mul,Int.one_mul,Int.neg_tdiv,Int.neg_mul,Int.one_mul];rfl
  have aD:((s*(n:Int)) !=0)=true:=by rcases R with rfl|rfl<;>simp<;>omega
  simp only[jw,sE,sC];rw[aD,aG,bp,cond_true,dL (s*((n/10:Nat):Int)) (by rcases R with rfl|rfl<;>omega)];have ak:(cond (decide (s*((n%10:Nat):Int)<0)) (i64.wrap (0-s*((n%10:Nat):Int))) (s*((n%10:Nat):Int)))=((n%10:Nat):Int):=by
   rcases R with rfl|rfl
   .rw[show decide (1*((n%10:Nat):Int)<0)=false from by simp;omega];simp
   .by_cases bj:n%10=0
    .rw[bj];rfl
    .rw[show decide (-1*((n%10:Nat):Int)<0)=true from by simp;omega,cond_true,dL _ (by omega)];omega
  have ag:∀x,x=((n%10:Nat):Int)->((room 1 (v.length+1)).bind λ_=>jw a m (v++[hT (i64.wrap (48+x))]) (s*((n/10:Nat):Int)))=dh (v++(hN n).reverse):=by
   rintro x rfl;rw[FU (n%10) (by omega),nk (by omega) (by omega),bind_some,ih (n/10) _ (by omega) (by rw[Nat.pow_succ]at aT;omega) (by omega) (by simp;omega) m (by omega)];congr 1;rw[show hN n=hN (n/10)++[UInt8.ofNat (48+n%10)]from by rw[hN,dif_neg ix]];simp
  cases J:decide (s*((n%10:Nat):Int)<0)
  .rw[J]at ak;exact ag _ ak
  .rw[J]at ak;exact ag _ ak
theorem vS (n:Int) (h: -1000000000000000000<n/\n<1000000000000000000):n_ n=some (eV n):=by
 unfold n_ eV;by_cases bj:n=0
 .subst bj;rw[if_neg (by omega),hN,dif_pos (by decide)];rfl
 have e:(n==0)=false:=by simpa using bj
 rw[e,cond_false];by_cases aT:n<0
 .rw[if_pos aT];refine ht 30 λm hm=>?_;have pE:∀v m,v.length<=30->jw n (m+1) v 0=some (45::v.reverse):=by
   intro v m az;simp only[jw,sE];rw[show decide (n<0)=true from by simpa using aT,nk (by omega) (by omega),FV (v++[45]) (by simp;omega)];simp
  have hl:=zV 17 n.natAbs (by omega);have:=FW n (-1) (.inr rfl) (λv=>some (45::v.reverse)) pE 17 n.natAbs [] (by omega) (by omega) (by omega) (by simp) m (by omega);rw[show-1*(n.natAbs:Int)=n by omega]at this;rw[this];simp
 .rw[if_neg aT];refine ht 30 λm hm=>?_;have pE:∀v m,v.length<=30->jw n (m+1) v 0=some v.reverse:=by
   intro v m az;simp only[jw,sE];rw[show decide (n<0)=false from by simpa using aT,FV v (by omega)];rfl
  have:=FW n 1 (.inl rfl) (λv=>some v.reverse) pE 17 n.toNat [] (by omega) (by omega) (by omega) (by simp) m (by omega);rw[show 1*(n.toNat:Int)=n by omega]at this;rw[this];simp
theorem vT (n:Int) (h: -1000000000000000000<n/\n<1000000000000000000):l8 n=some (eV n):=by
 unfold l8 qL;rw[if_pos ⟨by omega,by omega,rfl⟩];rfl
theorem jF (n:Int) (h: -1000000000000000000<n/\n<1000000000000000000):(eV n).length<=19:=by
 unfold eV;split
 .have:=zV 17 n.natAbs (by omega);simp;omega
 .have:=zV 17 n.toNat (by omega);omega
theorem vU (a:Nat) (h:a<2^64):(BitVec.ofInt i64.bits (a:Int)).toNat=a:=by
 have ab:(BitVec.ofNat 64 a).toNat=a:=by
  rw[BitVec.toNat_ofNat];exact mod_eq_of_lt h
 exact(congrArg BitVec.toNat (BitVec.ofInt_natCast 64 a)).trans ab
theorem FX (a b:Nat) (a1:a<2^24) (J:b<2^24):bitsOf .xor .i64 (a:Int) (b:Int)=((a^^^b:Nat):Int):=by
 have U:a^^^b<2^24:=xor_lt_two_pow a1 J;simp only[bitsOf];rw[BitVec.toNat_xor,vU a (by omega),vU b (by omega),dL _ (by omega)]
theorem Qh (a b:Nat) (a1:a<2^24) (J:b<2^24):bitsOf .and .i64 (a:Int) (b:Int)=((a&&&b:Nat):Int):=by
 have U:a&&&b<=b:=and_le_right;simp only[bitsOf];rw[BitVec.toNat_and,vU a (by omega),vU b (by omega),dL _ (by omega)]
theorem Qi (s:Int) (h:0<=s/\s<=65535):0<=tq s/\tq s<=65535:=by
 obtain⟨a,rfl⟩:∃a:Nat,s=a:=⟨s.toNat,by omega⟩
 unfold tq;rw[dL ((a:Int)*2) (by omega),show((a:Int)*2)=((a*2:Nat):Int) by omega];by_cases U:65535<a*2
 .rw[show decide ((65535:Int)<((a*2:Nat):Int))=true from decide_eq_true (by omega),cond_true,show(65535:Int)=((65535:Nat):Int)from rfl,Qh _ _ (by omega) (by omega),show(4129:Int)=((4129:Nat):Int)from rfl];have ab:a*2&&&65535<=65535:=and_le_right;rw[FX _ _ (by omega) (by omega)];have ay:(a*2&&&65535)^^^4129<2^16:=xor_lt_two_pow (by omega) (by omega);omega
 .rw[show decide ((65535:Int)<((a*2:Nat):Int))=false from decide_eq_false (by omega),cond_false];omega
theorem FY:∀(k:Nat) (s:Int),0<=s/\s<=65535->0<=q3 k s/\q3 k s<=65535
 |0,_,h=>h
 |k+1,s,h=>FY k _ (Qi s h)
theorem Qj (s:Int) (c:UInt8) (h:0<=s/\s<=65535):0<=q4 s c/\q4 s c<=65535:=by
 obtain⟨a,rfl⟩:∃a:Nat,s=a:=⟨s.toNat,by omega⟩
 have ae:c.toNat<256:=c.toNat_lt;unfold q4;apply FY;rw[dL ((c.toNat:Int)*256) (by omega),show((c.toNat:Int)*256)=((c.toNat*256:Nat):Int) by omega,FX _ _ (by omega) (by omega)];have ay:a^^^(c.toNat*256)<2^16:=xor_lt_two_pow (by omega) (by omega);omega
theorem vV:∀(l:RD) (s:Int),0<=s/\s<=65535->0<=j6 l s/\j6 l s<=65535
 |[],_,h=>h
 |c::l,s,h=>vV l (q4 s c) (Qj s c h)
noncomputable def pG (e:aX):Bool:=(decide (0<=e.Choice)&&decide (e.Choice<=199))&&((decide (0<=e.bP)&&decide (e.bP<=2))&&((decide (-1<=e.Second)&&decide (e.Second<=2))&&vR e.Label))
theorem FZ (e:aX) (h:e.Label.length<=1048576):sA e=some (pG e)/\sN e=some (pG e):=by
 obtain⟨U,ab⟩:=Qa e.Label h;unfold sA sN pa mV pG;rw[U,ab];simp only[bind_some];cases(decide (0<=e.Choice)&&decide (e.Choice<=199))<;>cases(decide (0<=e.bP)&&decide (e.bP<=2))<;>cases(decide (-1<=e.Second)&&decide (e.Second<=2))<;>exact⟨rfl,rfl⟩
def kS (n:Int):Prop:= -1000000000000000000<n/\n<1000000000000000000
structure q5 (e:aX):Prop where
 a:kS e.Choice
 b:kS e.bP
 c:kS e.Second
 l:e.Label.length<=1048576
def f_ (e:aX):RD:=(((((eV e.Choice++[32])++eV e.bP)++[32])++eV e.Second)++[32])++e.Label
def np (e:aX) (c:Int):RD:=(f_ e++[32])++eV (j6 (f_ e) c)
theorem F1 {e:aX} (h:q5 e):(f_ e).length<=1048700:=by
 have j8:=jF e.Choice h.a;have i2:=jF e.bP h.b;have i3:=jF e.Second h.c;have:=h.l;simp only[f_,List.length_append,List.length_cons,List.length_nil];omega
theorem j7 (n:Nat) (h:n<=140737488355328):ev n=some ():=by unfold ev;rw[if_pos (by omega)]
theorem Qk {e:aX} {c:Int} (h:q5 e) (ae:0<=c/\c<=65535):sG e c=some (np e c,j6 (f_ e) c):=by
 have hl:=h.l;have j8:=jF e.Choice h.a;have i2:=jF e.bP h.b;have i3:=jF e.Second h.c;have aC:=vV (f_ e) c ae;have i4:=jF (j6 (f_ e) c) (by omega);have J:=F1 h;unfold sG;simp only[vS e.Choice h.a,vS e.bP h.b,vS e.Second h.c,bind_some];rw[j7 _ (by omega),j7 _ (by simp;omega),j7 _ (by simp;omega),j7 _ (by simp;omega),j7 _ (by simp;omega),j7 _ (by simp;omega)];simp only[bind_some];show((pc (f_ e) c).bind λbu=>(ev ((f_ e).length+1)).bind λ_=>(n_ bu).bind λbY=>(ev ((f_ e++[32]).length+bY.length)).bind λ_=>some ((f_ e++[32])++bY,bu))=_;rw[FT _ (by omega),bind_some,j7 _ (by omega),bind_some,vS _ (by omega),bind_some,j7 _ (by simp;omega)];rfl
theorem Ql (a b c:Int) (a1:kS a) (J:kS b) (ae:kS c):ph [a,b,c] [32]=some (fQ [eV a,eV b,eV c] [32]):=by
 unfold ph;rw[Fg 16 (by simp) (by omega)];simp only[bind_some,Int.toNat_natCast];have j8:=jF a a1;have i2:=jF b J;have i3:=jF c ae;have bE:strings_Join ([a,b,c].map eV) [32]=some (fQ [eV a,eV b,eV c] [32]):=by
  unfold strings_Join;have:=zT 32 19 [eV a,eV b,eV c] λx ak=>by
   simp at ak;rcases ak with rfl|rfl|rfl<;>omega
  simp only[List.length_cons,List.length_nil]at this;rw[if_pos ⟨by simp,by simp only[List.map_cons,List.map_nil];omega⟩];rfl
 have ak:∀x∈[a,b,c],l8 x=some (eV x):=by
  intro x ak;simp at ak;rcases ak with rfl|rfl|rfl
  .exact vT _ a1
  .exact vT _ J
  .exact vT _ ae
 rw[FH (L:=mW [a,b,c] [32]) [a,b,c] eV (List.replicate [a,b,c].length []) (by simp) (λv=>(strings_Join v [32]).bind λbu=>some bu) (λm v=>?_) (λi aC m v hl=>?_),bE]
 .rfl
 .simp only[mW,sL];rw[j5 (Nat.le_refl _)];rfl
 .simp only[mW,sL];rw[lA aC,hS _ i aC,kQ i _ aC (by simp),hS v i (by omega)];simp only[cond_true,bind_some];rw[ak _ (List.getElem_mem aC)];simp only[bind_some,Int.toNat_natCast]
theorem vW {e:aX} {c:Int} (h:q5 e) (ae:0<=c/\c<=65535):pn e c=some (np e c++[10],j6 (f_ e) c):=by
 have hl:=h.l;have j8:=jF e.Choice h.a;have i2:=jF e.bP h.b;have i3:=jF e.Second h.c;have aC:=vV (f_ e) c ae;have i4:=jF (j6 (f_ e) c) (by omega);have J:=F1 h;have bE:fQ [eV e.Choice,eV e.bP,eV e.Second] [32]=(((eV e.Choice++[32])++eV e.bP)++[32])++eV e.Second:=by
  rw[join_cons,join_cons,join_one];simp
 unfold pn;rw[Ql _ _ _ h.a h.b h.c,bE,bind_some,j7 _ (by simp;omega),bind_some,j7 _ (by simp;omega),bind_some];show((qQ (f_ e) c).bind λaM=>(ev ((f_ e).length+1)).bind λ_=>(l8 aM).bind λaY=>(ev ((f_ e++[32]).length+aY.length)).bind λ_=>(ev (((f_ e++[32])++aY).length+1)).bind λ_=>some (((f_ e++[32])++aY)++[10],aM))=_;rw[Qf _ (by omega) _ ae,bind_some,j7 _ (by omega),bind_some,vT _ (by omega),bind_some,j7 _ (by simp;omega),bind_some,j7 _ (by simp;omega)];rfl
def gw (w:RC):aX:=⟨(dA (w.getD 0 [])).1,(dA (w.getD 1 [])).1,(dA (w.getD 2 [])).1,w.getD 3 []⟩
noncomputable def gY (w:RC):Bool:=w.length==5&&((dA (w.getD 0 [])).2&&((dA (w.getD 1 [])).2&&((dA (w.getD 2 [])).2&&pG (gw w))))
theorem Qm:∀(d:RD),d.all de=true->fh d<10^d.length:=λd h=>by
 have:=zL d 0 0 h (by decide);simpa [fZ,fh]using this
theorem Qn (k:Nat) (d:RD):kS (hM k d).1:=by
 unfold hM kS;split
 .rename_i h;have U:=Qm d h.2.2.1;have ab:(10:Nat)^d.length<=10^18:=Nat.pow_le_pow_right (by omega) h.2.1;split<;>simp only<;>omega
 .simp
theorem zW (s:RD):kS (dA s).1:=by
 unfold dA;split<;>exact Qn _ _
theorem F2:q5 ⟨0,0,0,[]⟩:=⟨by simp[kS],by simp[kS],by simp[kS],by simp⟩
theorem F3 {w:RC} (h:∀x∈w,x.length<=1048576):q5 (gw w):=by
 refine⟨zW _,zW _,zW _,?_⟩;show(w.getD 3 []).length<=1048576;rw[List.getD_eq_getElem?_getD];cases e:w[3]? with
 |none=>simp
 |some y=>exact h y (List.mem_of_getElem? e)
theorem F4 {α:Type} {l:List α} (h:l.length=5):∃a b c d e,l=[a,b,c,d,e]:=by
 match l,h with
 |[a,b,c,d,e],_=>exact⟨a,b,c,d,e,rfl⟩
theorem F5 (c:UInt8) (s:RD) (R:s.length<=1048576):∀x∈cc c s,x.length<=1048576:=by
 intro x ak;have U:=zE c s;have ab:∀(l:RC),x∈l->x.length<=(fQ l [c]).length:=by
  intro l;induction l with
  |nil=>intro h;cases h
  |cons y l ih=>
   intro h;cases l with
   |nil=>
    rcases List.mem_cons.1 h with rfl|h
    .rw[join_one];exact Nat.le_refl _
    .cases h
   |cons z l=>
    rw[join_cons];rcases List.mem_cons.1 h with rfl|h
    .simp
    .have:=ih h;simp only[List.length_append];omega
 have:=ab _ ak;rw[U]at this;omega
theorem vX (x:RD) (ak:x.length<=1048576):∃e,q5 e/\pk x=some (e,gY (cc 32 x))/\(gY (cc 32 x)=true->e=gw (cc 32 x)):=by
 have fk:=F5 32 x ak;have hlen:(cc 32 x).length<=1048577:=by rw[th];have:=List.count_le_length (a:=(32:UInt8)) (l:=x);omega
 unfold pk;rw[Fu 32 x ak,bind_some];generalize cc 32 x=w at fk hlen;by_cases bc:w.length=5
 .obtain⟨a,b,c,d,e,rfl⟩:=F4 bc;have ay:c8 [a,b,c,d,e] 0 3=some [a,b,c]:=rfl;rw[show((([a,b,c,d,e]:RC).length:Int) !=5)=false from rfl,cond_false,ay,bind_some,FL _ (by simp)];have nn:=F3 fk;have mF:=FZ (gw [a,b,c,d,e]) nn.l;by_cases aT:kR [a,b,c]=true
  .rw[if_pos aT];have vY:=aT;simp only[kR,List.all_cons,List.all_nil,Bool.and_true,Bool.and_eq_true]at vY;have hw:gY [a,b,c,d,e]=pG (gw [a,b,c,d,e]):=by
    simp[gY,vY.1,vY.2.1,vY.2.2]
   refine⟨gw [a,b,c,d,e],nn,?_,λ_=>rfl⟩;rw[hw];show((sN (gw [a,b,c,d,e])).bind λe4=>some (gw [a,b,c,d,e],e4))=_;rw[mF.2,bind_some]
  .rw[if_neg aT];have hw:gY [a,b,c,d,e]=false:=by
    cases h:gY [a,b,c,d,e]with
    |false=>rfl
    |true=>
     simp[gY]at h;simp[kR]at aT;exact absurd h.2.2.1 (by simp[aT h.1 h.2.1])
   rw[hw];exact⟨_,F2,rfl,λh=>by cases h⟩
 .have hw:gY w=false:=by
   unfold gY;rw[show(w.length==5)=false from by simpa using bc,Bool.false_and]
  rw[show((w.length:Int) !=5)=true from by simp;omega,cond_true,hw];exact⟨_,F2,rfl,λh=>by cases h⟩
theorem Qo (x:RD) (c:Int) (ak:x.length<=1048576) (ae:0<=c/\c<=65535):∃e s,uV x c=some (e,s,gY (cc 32 x)&&(np (gw (cc 32 x)) c==x))/\(gY (cc 32 x)=true->e=gw (cc 32 x)/\s=j6 (f_ e) c):=by
 have fk:=F5 32 x ak;unfold uV;rw[Fv 32 x ak,bind_some];generalize cc 32 x=w at fk;by_cases bc:w.length=5
 .obtain⟨a,b,bb,d,e,rfl⟩:=F4 bc;have nn:=F3 fk;have mF:=FZ (gw [a,b,bb,d,e]) nn.l;rw[show((([a,b,bb,d,e]:RC).length:Int) !=5)=false from rfl,cond_false];rw[show cj [a,b,bb,d,e] 0=some a from rfl,show cj [a,b,bb,d,e] 1=some b from rfl,show cj [a,b,bb,d,e] 2=some bb from rfl,show cj [a,b,bb,d,e] 3=some d from rfl];simp only[bind_some];rw[vP a (fk a (by simp)),vP b (fk b (by simp)),vP bb (fk bb (by simp))];simp only[bind_some];have ag:gY [a,b,bb,d,e]=((dA a).2&&((dA b).2&&((dA bb).2&&pG (gw [a,b,bb,d,e])))):=rfl;rw[ag];cases a1:(dA a).2
  .exact⟨_,_,rfl,λh=>by simp at h⟩
  cases J:(dA b).2
  .exact⟨_,_,rfl,λh=>by simp at h⟩
  cases pF:(dA bb).2
  .exact⟨_,_,rfl,λh=>by simp at h⟩
  simp only[Bool.not_true,cond_false,Bool.true_and];show∃ej s,((sA (gw [a,b,bb,d,e])).bind λfy=>cond (!fy) (some ((aX.mk 0 0 0 ([]:RD)),0,false)) ((sG (gw [a,b,bb,d,e]) c).bind λgH=>some (gw [a,b,bb,d,e],gH.2,(gH.1==x))))=_/\_;rw[mF.1,bind_some];cases ba:pG (gw [a,b,bb,d,e])
  .exact⟨_,_,rfl,λh=>by cases h⟩
  .rw[Bool.not_true,cond_false,Qk nn ae,bind_some];exact⟨_,_,rfl,λ_=>⟨rfl,rfl⟩⟩
 .have hw:gY w=false:=by
   unfold gY;rw[show(w.length==5)=false from by simpa using bc,Bool.false_and]
  rw[show((w.length:Int) !=5)=true from by simp;omega,cond_true,hw];exact⟨_,_,rfl,λh=>by cases h⟩
end Go.lh
