/- Part of a proof that a law returns true for every input. No condition. -/
import Derived.Test.YtikimdcnadipbaaGreatDoorUH3
import Derived.Test.YtikimdcnadipbaaGreatDoorUXA
import Derived.Test.YtikimdcnadipbaaGreatDoorUB
namespace Go.eL
open Go Go.bZ
def mL (s:List UInt8):Bool:=oM s&& !(s==[116,97,117])
theorem Gd (s:List UInt8):vh s=some (mL s):=by unfold vh;rw[FO];rfl
theorem Ge (s:List UInt8) (U:s.length≤1048576):vI s=some (mL s):=by unfold vI;rw[Xd s (by omega)];rfl
def nK (ws:List (List UInt8)):Bool:=ws.all fun w=>(fm w).2
def hi (ws:List (List UInt8)):List Int:=ws.map fun w=>(fm w).1
def ke (x:Int):Bool:=decide (0≤x)&&decide (x≤63)
theorem XL (ws:List (List UInt8)) (h:ws.length≤1048577):vG ws=some (if nK ws=true then(hi ws,true)else([],false)):=by
 have key:∀i,i≤ws.length→∀m,ws.length-i<m→∀v:List Int,v.length=i→
   pK ws m v (i:Int)=some (if nK (ws.drop i)=true then(v++hi (ws.drop i),true)else([],false)):=by
  refine down ws.length ?_ ?_
  ·intro m hm v aD
   obtain⟨m,rfl⟩:∃j,m=j+1:=⟨m-1,by omega⟩
   simp only[pK,vF]
   rw[je (Nat.le_refl _),List.drop_length]
   simp[nK,hi]
  ·intro i ay ih m hm v aD
   obtain⟨m,rfl⟩:∃j,m=j+1:=⟨m-1,by omega⟩
   simp only[pK,vF,vE]
   rw[jd ay,cond_true,gP ws i ay,Option.bind_some,Option.bind_some,drop_cons ws i ay]
   simp only[nK,hi,List.all_cons,List.map_cons]
   cases ae:(fm ws[i]).2
   ·simp
   ·simp only[Bool.not_true,cond_false,Bool.true_and]
    rw[oL (by omega) (by omega),Option.bind_some,iH i _ ay (by omega),ih m (by omega) _ (by simp[aD])]
    simp[nK,hi]
 unfold vG
 refine hM (ws.length+1) fun m hm=> ?_
 have:=key 0 (by omega) m (by omega) [] rfl
 simpa using this
def kf (ws:List (List UInt8)):Bool:=ws.all fun w=>(fm w).2&&ke (fm w).1
theorem XM (ws:List (List UInt8)) (h:ws.length≤1048577) (hw:∀w∈ws,w.length≤1048576):
  dT (fun n=>ov ws n [] 0)=some (if kf ws=true then hi ws else [],kf ws&&decide (ws.length≤2)):=by
 have key:∀i,i≤ws.length→∀m,ws.length-i<m→∀v:List Int,v.length=i→
   ov ws m v (i:Int)=some (if kf (ws.drop i)=true then v++hi (ws.drop i)else [],kf (ws.drop i)&&decide (ws.length≤2)):=by
  refine down ws.length ?_ ?_
  ·intro m hm v aD
   obtain⟨m,rfl⟩:∃j,m=j+1:=⟨m-1,by omega⟩
   simp only[ov,vm]
   rw[je (Nat.le_refl _),List.drop_length,cond_false]
   have e:decide ((v.length:Int)≤2)=decide (ws.length≤2):=by rw[decide_eq_decide];omega
   rw[e]
   simp[kf,hi]
  ·intro i ay ih m hm v aD
   obtain⟨m,rfl⟩:∃j,m=j+1:=⟨m-1,by omega⟩
   simp only[ov,vm]
   rw[jd ay,cond_true,gP ws i ay,Option.bind_some,XD _ (hw _ (List.getElem_mem ay)),Option.bind_some,drop_cons ws i ay]
   have XN:kf (ws[i]::ws.drop (i+1))=((fm ws[i]).2&&ke (fm ws[i]).1&&kf (ws.drop (i+1))):=rfl
   rw[XN]
   by_cases ae:(fm ws[i]).2=true
   ·simp only[ae,Bool.not_true,cond_false,Bool.true_and,pE,Option.bind_some]
    by_cases Ab:ke (fm ws[i]).1=true
    ·have tS:=Ab
     unfold ke at tS
     rw[tS,Ab]
     simp only[Bool.not_true,cond_false,Bool.true_and]
     rw[oL (by omega) (by omega),Option.bind_some,iH i _ ay (by omega),ih m (by omega) _ (by simp[aD])]
     simp only[hi,List.append_assoc,List.map_cons,List.singleton_append]
    ·have Gf:ke (fm ws[i]).1=false:=by simpa using Ab
     have tS:=Gf
     unfold ke at tS
     rw[tS,Gf]
     simp
   ·have e7:(fm ws[i]).2=false:=by simpa using ae
    simp[e7]
 refine hM (ws.length+1) fun m hm=> ?_
 have:=key 0 (by omega) m (by omega) [] rfl
 simpa using this
theorem Gg (a:List Int) (h:a.length≤1048577):vK a=some (a.all ke):=by
 unfold vK y7 y6
 rw[FN (n:=a.length) (l:=pL a) (fun i=> !ke (a.getD i 0)) (fun m=> ?_) (fun i ay m=> ?_)]
 ·simp only[Option.bind_some,FM,Bool.not_not]
  congr 1
  rw[Bool.eq_iff_iff,wD,List.all_eq_true]
  constructor
  ·intro q x ai
   obtain⟨k,al,rfl⟩:=List.mem_iff_getElem.1 ai
   have:=q k al
   simpa [List.getD,al]using this
  ·intro q i ay
   have:=q _ (List.getElem_mem ay)
   simpa [List.getD,ay]using this
 ·simp only[pL,vJ]
  rw[je (Nat.le_refl _)];rfl
 ·simp only[pL,vJ,y5,y4,nw]
  rw[jd ay,gP _ i ay,iH i _ ay (by omega)]
  simp only[cond_true,Option.bind_some]
  have e:a.getD i 0=a[i]:=by simp[List.getD,ay]
  rw[e]
  rfl
theorem Ac (s:List UInt8) (U:s.length≤1048576):(40∉s→q6 s=some (s.length:Int))∧∀p q,s=p++40::q→40∉p→q6 s=some (p.length:Int):=by
 have step:∀i (ay:i<s.length) m,nu s (m+1) (i:Int)=cond (s[i]==40) (some (i:Int)) (nu s m ((i+1:Nat):Int)):=by
  intro i ay m
  simp only[nu,vf]
  rw[jd ay,cond_true,gP s i ay,Option.bind_some,iH i _ ay (by omega)]
  have e:((s[i].toNat:Int)==40)=(s[i]==40):=by
   rw[Bool.eq_iff_iff]
   simp only[beq_iff_eq]
   constructor
   ·intro h;exact UInt8.toNat_inj.1 (by rw[show(40:UInt8).toNat=40 from rfl];omega)
   ·intro h;rw[h];rfl
  rw[e]
 constructor
 ·intro h
  unfold q6
  rw[tK (n:=s.length) (fun _=>some (s.length:Int))]
  ·intro m
   simp only[nu,vf]
   rw[je (Nat.le_refl _)];rfl
  ·intro i ay m ih
   rw[step i ay m,ih]
   have:(s[i]==40)=false:=by
    simp only[beq_eq_false_iff_ne,ne_eq]
    intro e
    exact h (e▸List.getElem_mem ay)
   rw[this];rfl
 ·rintro p q rfl ah
  unfold q6
  refine hM (p.length+1) fun m hm=> ?_
  have key:∀k,k≤p.length→∀m,k<m→nu (p++40::q) m ((p.length-k:Nat):Int)=some (p.length:Int):=by
   intro k
   induction k with
   |zero=>
    intro _ m hm
    obtain⟨m,rfl⟩:∃j,m=j+1:=⟨m-1,by omega⟩
    rw[Nat.sub_zero,step p.length (by simp) m]
    have:((p++40::q)[p.length]'(by simp))=40:=by simp
    rw[this];rfl
   |succ k ih=>
    intro al m hm
    obtain⟨m,rfl⟩:∃j,m=j+1:=⟨m-1,by omega⟩
    rw[step (p.length-(k+1)) (by simp;omega) m]
    have:((p++40::q)[p.length-(k+1)]'(by simp;omega)==40)=false:=by
     simp only[beq_eq_false_iff_ne,ne_eq]
     rw[List.getElem_append_left (by omega)]
     intro e
     exact ah (e▸List.getElem_mem (by omega))
    rw[this,cond_false,show p.length-(k+1)+1=p.length-k by omega]
    exact ih (by omega) m (by omega)
  have:=key p.length (Nat.le_refl _) m (by omega)
  simpa using this
theorem Gh (ws:List (List UInt8)):kf ws=(nK ws&&(hi ws).all ke):=by
 unfold kf nK hi
 rw[List.all_map]
 induction ws with
 |nil=>rfl
 |cons w r ih=>simp only[List.all_cons,ih,Function.comp];cases(fm w).2<;>cases ke (fm w).1<;>simp
theorem XO (ws:List (List UInt8)) (h:kf ws=true):(hi ws).map nJ=ws:=by
 unfold hi
 rw[List.map_map]
 conv=>rhs;rw[←List.map_id ws]
 refine List.map_congr_left fun w hw=> ?_
 simp only[kf,List.all_eq_true,Bool.and_eq_true]at h
 have:=h w hw
 simp only[ke,Bool.and_eq_true,decide_eq_true_eq]at this
 simp only[Function.comp,id,nJ]
 exact(XE (Prod.ext rfl this.1) this.2.1 this.2.2).symm
theorem Gi (p q c6:List UInt8) (ah:40∉p) (U:(p++40::q).length≤1048576) (bl:strings_TrimSuffix q [41]=some c6) (q3:c6.length≤1048576):
  pN (p++40::q)=some (mL p&&(kf (dr 44 c6)&&decide ((dr 44 c6).length≤2))&&(((p++[40])++c6)++[41]==p++40::q)):=by
 have hlen:=wF 44 c6
 have XP:c6.count 44≤c6.length:=List.count_le_length
 have aI:=U
 simp only[List.length_append,List.length_cons]at aI
 have ok:∀n,n≤4194304→fp n=some ():=fun n aQ=>by unfold fp;rw[if_pos (by omega)]
 unfold pN vM
 rw[Xs p q ah U]
 simp only[Option.bind_some,cond_true]
 rw[bl,Option.bind_some,Xy 44 c6 q3,Option.bind_some,XL _ (by omega),Gh]
 by_cases aQ:nK (dr 44 c6)=true
 ·rw[if_pos aQ,aQ]
  simp only[Option.bind_some,Bool.not_true,cond_false,Bool.true_and]
  have iv:(hi (dr 44 c6)).length=c6.count 44+1:=by unfold hi;rw[List.length_map,hlen]
  unfold tj vL
  by_cases aK:p=[116,97,117]
  ·have eG:(((hi (dr 44 c6)).length:Int)==0)=false:=by rw[iv];simp;omega
   subst aK
   simp only[BEq.rfl,cond_true,eG,Option.bind_some,Bool.not_false,Bool.true_or]
   rfl
  ·have aJ:(p==[116,97,117])=false:=by simpa using aK
   rw[aJ,Ge p (by omega)]
   simp only[cond_false,Option.bind_some]
   by_cases br:mL p=true
   ·rw[br]
    simp only[Bool.not_true,cond_false,Bool.true_and]
    by_cases ab:(dr 44 c6).length≤2
    ·have aN:decide ((2:Int)<((hi (dr 44 c6)).length:Int))=false:=by rw[iv];simp;omega
     have bt:decide ((dr 44 c6).length≤2)=true:=by simpa using ab
     rw[aN,bt,Gg _ (by omega)]
     simp only[cond_false,Option.bind_some,Bool.and_true]
     by_cases aD:(hi (dr 44 c6)).all ke=true
     ·have bN:(((hi (dr 44 c6)).length:Int)==0)=false:=by rw[iv];simp;omega
      have gR:kf (dr 44 c6)=true:=by rw[Gh,aQ,aD];rfl
      rw[aD,bN]
      simp only[Bool.not_true,cond_false,Bool.true_and]
      rw[Xi _ (by omega) (fun x ai=>by
       have:=List.all_eq_true.1 aD x ai
       simpa only[ke,Bool.and_eq_true,decide_eq_true_eq]using this),XO _ gR,FV]
      rw[ok _ (by omega),Option.bind_some,Option.bind_some,ok _ (by simp;omega),Option.bind_some,ok _ (by simp;omega),Option.bind_some,Option.bind_some]
      cases(((p++[40])++c6)++[41]==p++40::q)<;>rfl
     ·have ij:(hi (dr 44 c6)).all ke=false:=by simpa using aD
      rw[ij];rfl
    ·have aN:decide ((2:Int)<((hi (dr 44 c6)).length:Int))=true:=by rw[iv];simp;omega
     have bt:decide ((dr 44 c6).length≤2)=false:=by simpa using ab
     rw[aN,bt]
     simp
   ·have nf:mL p=false:=by simpa using br
    rw[nf];rfl
 ·have iN:nK (dr 44 c6)=false:=by simpa using aQ
  rw[if_neg aQ,iN]
  simp
theorem Gj (p q:List UInt8) (x:UInt8) (ah:40∉p) (r:List UInt8) (e:p++40::q=r++[x]) (U:(p++40::q).length≤1048576):
  c1 (p++40::q) (IntKind.i64.wrap (((p++40::q).length:Int)-1))=some x:=by
 rw[e,eO _ (by rw[←e];omega),show(((r++[x]).length:Int)-1)=(r.length:Int) by simp]
 exact zY r x []
theorem XQ (p c6:List UInt8) (ah:40∉p) (U:(p++40::(c6++[41])).length≤1048576):
  mz (p++40::(c6++[41]))=some (mL p&&(kf (dr 44 c6)&&decide ((dr 44 c6).length≤2))):=by
 have aI:=U
 simp only[List.length_append,List.length_cons,List.length_nil]at aI
 have hlen:=wF 44 c6
 have XP:c6.count 44≤c6.length:=List.count_le_length
 have hw:∀w∈dr 44 c6,w.length≤1048576:=by
  have key:∀s:List UInt8,∀w∈dr 44 s,w.length≤s.length:=by
   intro s
   induction s with
   |nil=>intro w hw;simp[dr]at hw;subst hw;exact Nat.le_refl _
   |cons x r ih=>
    intro w hw
    simp only[dr]at hw
    split at hw
    ·rcases List.mem_cons.1 hw with rfl|hw
     ·simp
     ·exact Nat.le_trans (ih w hw) (by simp)
    ·cases aC:dr 44 r with
     |nil=>exact(rI 44 r aC).elim
     |cons a t=>
      rw[aC]at hw ih
      simp only[glue]at hw
      rcases List.mem_cons.1 hw with rfl|hw
      ·have:=ih a (by simp);simp;omega
      ·exact Nat.le_trans (ih w (by simp[hw])) (by simp)
  intro w hw
  have:=key c6 w hw
  omega
 unfold mz ta
 rw[(Ac _ U).2 p _ rfl ah]
 have aF:(((p.length:Nat):Int)==((p++40::(c6++[41])).length:Int))=false:=by simp;omega
 simp only[Option.bind_some,aF,cond_false]
 rw[rE _ _ (by simp),List.take_left' rfl,Option.bind_some,Gd,Option.bind_some]
 rw[Gj p (c6++[41]) 41 ah (p++40::c6) (by simp) U,Option.bind_some]
 have aJ:((((41:UInt8).toNat:Nat):Int) !=41)=false:=rfl
 have aN:dZ (p++40::(c6++[41])) (IntKind.i64.wrap ((p.length:Int)+1)) (IntKind.i64.wrap (((p++40::(c6++[41])).length:Int)-1))=some c6:=by
  rw[eO _ (by omega),eO _ (by omega)]
  have:=tL (p++[40]) c6 [41] (i:=(p.length:Int)+1) (j:=(((p++40::(c6++[41])).length:Int)-1)) (by simp) (by simp;omega)
  simpa using this
 rw[aJ,cond_false,aN,Option.bind_some,Xz 44 c6 (by omega),Option.bind_some,XM _ (by omega) hw]
 cases mL p<;>rfl
theorem XR (p q:List UInt8) (ah:40∉p) (U:(p++40::q).length≤1048576) (h:∀r,q≠r++[41]):mz (p++40::q)=some false:=by
 have aI:=U
 simp only[List.length_append,List.length_cons]at aI
 unfold mz ta
 rw[(Ac _ U).2 p _ rfl ah]
 have aF:(((p.length:Nat):Int)==((p++40::q).length:Int))=false:=by simp;omega
 simp only[Option.bind_some,aF,cond_false]
 rw[rE _ _ (by simp),List.take_left' rfl,Option.bind_some,Gd,Option.bind_some]
 obtain⟨r,x,e,ai⟩:∃r x,p++40::q=r++[x]∧x≠41:=by
  rcases List.eq_nil_or_concat q with rfl|⟨fN,x,rfl⟩
  ·exact⟨p,40,rfl,by decide⟩
  ·refine⟨p++40::fN,x,by simp,?_⟩
   rintro rfl
   exact h fN (by simp)
 rw[Gj p q x ah r e U,Option.bind_some]
 have aJ:((x.toNat:Int) !=41)=true:=by
  simp only[bne_iff_ne,ne_eq]
  intro aT
  exact ai (UInt8.toNat_inj.1 (by rw[show(41:UInt8).toNat=41 from rfl];omega))
 rw[aJ]
 cases mL p<;>rfl
noncomputable def wG (s:List UInt8):Bool:=(mz s).getD false
theorem XS (s:List UInt8) (U:s.length≤1048576):mz s=some (wG s)∧pN s=some (wG s):=by
 suffices h:∃b,mz s=some b∧pN s=some b by
  obtain⟨b,aa,ab⟩:=h
  unfold wG
  rw[aa,ab];exact⟨rfl,rfl⟩
 by_cases hm:40∈s
 ·obtain⟨p,q,rfl,ah⟩:=zW hm
  have aI:=U
  simp only[List.length_append,List.length_cons]at aI
  by_cases b6:∃r,q=r++[41]
  ·obtain⟨c6,rfl⟩:=b6
   have q3:c6.length≤1048576:=by simp at aI;omega
   refine⟨_,XQ p c6 ah U,?_⟩
   rw[Gi p _ c6 ah U (Xt c6 q3) q3]
   have:(((p++[40])++c6)++[41]==p++40::(c6++[41]))=true:=by simp
   rw[this,Bool.and_true]
  ·have Gk:∀r,q≠r++[41]:=fun r e=>b6 ⟨r,e⟩
   refine⟨false,XR p q ah U Gk,?_⟩
   rw[Gi p q q ah U (Xu q (by omega) Gk) (by omega)]
   have:(((p++[40])++q)++[41]==p++40::q)=false:=by
    simp only[beq_eq_false_iff_ne,ne_eq]
    intro e
    have:=congrArg List.length e
    simp at this
   rw[this,Bool.and_false]
 ·unfold mz ta pN vM
  rw[(Ac s U).1 hm,Xr hm,FO]
  have aF:((s.length:Int)==(s.length:Int))=true:=by simp
  simp only[Option.bind_some,aF,cond_true,cond_false]
  refine⟨_,rfl,?_⟩
  unfold tj vL
  by_cases aK:s=[116,97,117]
  ·subst aK;rfl
  ·have aJ:(s==[116,97,117])=false:=by simpa using aK
   rw[aJ,Ge s U]
   simp only[cond_false,Option.bind_some]
   have aN:mL s=oM s:=by unfold mL;rw[aJ];simp
   rw[aN]
   cases oM s
   ·rfl
   ·simp only[Bool.not_true,cond_false,List.length_nil]
    rw[Gg [] (by simp)]
    simp
end Go.eL
