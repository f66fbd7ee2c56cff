/- Part of a proof that a law returns true for every input. No condition. -/
import Derived.Test.YtklcmlnabkfneaaGreatUV3x
import Derived.Test.YtklcmlnabkfneaaGreatUV1x
namespace Go.ll
open List Option Go.IntKind Nat Or
open Go Go.cU
theorem agb (s:eC) (h:tn s):AS s=some (oK s==0):=by unfold AS;rw[af8 s h];rfl
theorem agc (s:eC) (h:tn s):Bm s=some (oK s==0):=by unfold Bm;rw[af9 s h];rfl
theorem agd {s:eC} (h:(oK s==0)=true):k3 s.dQ=true:=by
 cases ag:k3 s.dQ
 .unfold oK at h;rw[ag]at h;simp at h
 .rfl
theorem age {e:aiR} (h:oE e) (aH:k3 e=true) {i j:Nat} (ak:i<e.length) (bd:j<e[i].Body.length):
  rp e[i] (j:Int)=some (nD e[i] j).scope/\∃ps,uJ e[i]=some ps/\bm ps (j:Int)=some (nD e[i] j):=by
 obtain⟨_,_,ag⟩:=afV h aH;obtain⟨au,U,_⟩:=ag i ak;obtain⟨s1,s2,q3⟩:=Ih U;have R:=(h.2 _ (getElem_mem ak)).2.1;obtain⟨hd,_,_,_,qU⟩:=O1 e[i] U au j bd;exact⟨hd,_,OR e[i] R s1 au.1 (by omega),by unfold bm;rw[if_pos (by omega)];exact qU⟩
theorem agf (e:aiR) (h:oE e) (aH:k3 e=true) (p:aU) (au:p.b4.length<=1048576):∃b,uB e p=some b/\x6 e p=some b:=by
 unfold uB x6 kB;rw[Cm _ e.length h.1,gl ((e.length:Int)-1) (by have:=h.1;omega)];simp only[bind_some];cases aw:(decide (0<=p.b7)&&decide (p.b7<=(e.length:Int)-1))
 .exact⟨false,rfl,rfl⟩
 .simp only[Bool.and_eq_true,decide_eq_true_eq]at aw;obtain⟨i,agh⟩:∃i:Nat,p.b7=i:=⟨p.b7.toNat,by omega⟩
  rw[agh]at aw⊢;have ak:i<e.length:=by omega
  have R:=(h.2 _ (getElem_mem ak)).2.1;rw[eP e i ak];simp only[Bool.not_true,cond_false,bind_some];rw[Cm _ e[i].Body.length R,gl ((e[i].Body.length:Int)-1) (by omega)];simp only[bind_some];cases bX:(decide (0<=p.Part)&&decide (p.Part<=(e[i].Body.length:Int)-1))
  .exact⟨false,rfl,rfl⟩
  .simp only[Bool.and_eq_true,decide_eq_true_eq]at bX;obtain⟨j,agi⟩:∃j:Nat,p.Part=j:=⟨p.Part.toNat,by omega⟩
   rw[agi]at bX⊢;have bd:j<e[i].Body.length:=by omega
   obtain⟨hd,ps,gz,il⟩:=age h aH ak bd;rw[eP e[i].Body j bd];simp only[Bool.not_true,cond_false,bind_some,hd,gz,il,Pa _ au,Pb _ au];have cw:(e[i].Body[j].Kind !=5)= !(e[i].Body[j].Kind==5):=rfl;rw[cw];cases e[i].Body[j].Kind==5
   .simp only[Bool.not_false,cond_true,cond_false];cases((p.b4.length:Int)==(nD e[i] j).scope)
    .exact⟨_,rfl,rfl⟩
    .exact⟨_,rfl,rfl⟩
   .exact⟨_,rfl,rfl⟩
noncomputable def qK (e:aiR) (p:aU):Bool:=(uB e p).getD false
theorem Pg (e:aiR) (h:oE e) (aH:k3 e=true) (p:aU) (au:p.b4.length<=1048576):uB e p=some (qK e p)/\x6 e p=some (qK e p):=by
 obtain⟨b,ab,ad⟩:=agf e h aH p au;have:qK e p=b:=by unfold qK;rw[ab];rfl
 rw[this];exact⟨ab,ad⟩
def pO (q:aiU) (i:Nat):aU:=q.getD i ⟨0,0,[]⟩
noncomputable def Ik (s:eC) (q:aiU):Bool:=((q.length:Int)==(s.cv.length:Int))&&e6 (λi=>qK s.dQ (pO q i)) q.length
theorem Ph {q:aiU} (aH:∀p∈q,p.b4.length<=1048576) {i:Nat} (ak:i<q.length):(pO q i).b4.length<=1048576:=by
 have:pO q i=q[i]:=by simp[pO,List.getD,ak]
 rw[this];exact aH _ (getElem_mem ak)
theorem agj (s:eC) (h:oE s.dQ) (ag:k3 s.dQ=true) (q:aiU) (bX:q.length<=1048576) (aH:∀p∈q,p.b4.length<=1048576):AU s q=some (Ik s q):=by
 unfold AU Ik;have e:((q.length:Int) !=(s.cv.length:Int))= !((q.length:Int)==(s.cv.length:Int)):=rfl;rw[e];cases((q.length:Int)==(s.cv.length:Int))
 .rfl
 .rw[Bool.true_and,Bool.not_true,cond_false];refine yX (l:=λm i=>uC s q m i) _ (λm=>?_) (λi ak m=>?_)
  .simp only[uC,Ft];rw[fq (Nat.le_refl _)];rfl
  .simp only[uC,Ft];rw[fe ak,k2 _ i ⟨0,0,[]⟩ ak,e5 i _ ak (by omega)];show cond true (Option.bind (some (pO q i)) _) _=_;simp only[cond_true,bind_some,(Pg _ h ag _ (Ph aH ak)).1];cases qK s.dQ (pO q i)<;>rfl
theorem agk (s:eC) (h:oE s.dQ) (ag:k3 s.dQ=true) (q:aiU) (bX:q.length<=1048576) (aH:∀p∈q,p.b4.length<=1048576):
  Bn q s=some (!(e6 (λi=>qK s.dQ (pO q i)) q.length)):=by
 unfold Bn Gb;rw[tb (n:=q.length) (λi=> !(qK s.dQ (pO q i)))]
 .simp only[bind_some,ta,Bool.not_not]
 .intro m;simp only[x7,Ga];rw[fq (Nat.le_refl _)];rfl
 .intro i ak m;simp only[x7,Ga];rw[fe ak,k2 _ i ⟨0,0,[]⟩ ak,e5 i _ ak (by omega)];show cond true (Option.bind (some (pO q i)) _) _=_;simp only[cond_true,bind_some,F_,(Pg _ h ag _ (Ph aH ak)).2]
theorem agl {s:eC} (h:(oK s==0)=true):rS s=true:=by
 unfold oK at h;cases ab:k3 s.dQ<;>cases ad:rS s<;>simp[ab,ad]at h⊢
theorem agm (s:eC) (h:tn s) (q:aiU) (bX:eE mP q<=1048576) (aH:∀p∈q,p.b4.length<=1048576):
  ∃r,A3 s q=some r/\Bx s q=some r:=by
 have aO:q.length<=1048576:=Nat.le_trans (ju mP _) bX;unfold A3 Bx Gc;rw[agb _ h,agc _ h];simp only[bind_some];cases bn:(oK s==0)
 .exact⟨(0,1),rfl,rfl⟩
 .have ag:=agd bn;rw[agj s h.1 ag q aO aH,agk s h.1 ag q aO aH];simp only[bind_some,cond_true,Bool.not_true,cond_false,Bool.not_not];unfold Ik;cases agn:((q.length:Int)==(s.cv.length:Int))
  .exact⟨(0,1),rfl,rfl⟩
  .cases bU:e6 (λi=>qK s.dQ (pO q i)) q.length
   .exact⟨(0,1),rfl,rfl⟩
   .have aj:=agl bn;simp only[rS,Bool.and_eq_true,decide_eq_true_eq]at aj;have aiu:(q.length:Int)=(s.cv.length:Int):=by simpa using agn
    obtain⟨w,_,_,cY,ba⟩:=aet q.length (by omega) (by omega) q ⟨rfl,aH⟩;refine⟨((w.length:Int),0),?_,?_⟩
    .simp only[Bool.and_self,Bool.not_true,cond_false,bind_some,cY]
    .simp only[bind_some,cond_true,Bool.not_true,cond_false,ba]
theorem adB (a:ln) (q:aiO) (bU:xd a) (bX:q.length<=9223372036854775807/\∀y∈q,uj y):Gy a q=some true:=by
 unfold Gy;obtain⟨r,ab,ad⟩:=aga a bU;rw[ab];simp only[bind_some];cases aK:decide (r<0)
 .obtain⟨aA,aZ,bA,cH,cI⟩:=ad aK;have ago:rR (pM a)<=1048576:=by rw[O7];omega
  rw[afi q r bX cI (by omega)];simp only[cond_false,bind_some];by_cases U:((eE mO q:Nat):Int)<=r
  .rw[yV U];have c9:decide (r-((eE mO q:Nat):Int)<0)=false:=decide_eq_false (by omega);have pc:eE mO q<=1048576:=by omega
   have wW:eE mP (q.map qG)<=1048576:=by
    rw[s8];simp only[afz];exact pc
   have aH:∀p∈q.map qG,p.b4.length<=1048576:=λp au=>by
    have gn:mP p<=eE mP (q.map qG):=j4 au;have jv:mP p<=1048576:=by omega
    clear gn;unfold mP at jv;omega
   rw[c9,aA,afB q pc];simp only[cond_false,bind_some];generalize pM a=e at aZ bA ago;generalize q.map qG=p at wW aH;obtain⟨x,ka,ht⟩:=agm e bA p wW aH;simp only[ka,ht,bind_some,afP p wW,aZ,Bool.not_true,bne_self_eq_false,Bool.or_self,cond_false]
  .rw[yW (by omega)];rfl
 .rfl
end Go.ll
