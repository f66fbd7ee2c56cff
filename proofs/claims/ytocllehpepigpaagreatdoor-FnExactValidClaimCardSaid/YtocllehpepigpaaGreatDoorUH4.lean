/- Part of a proof that a law returns true for every input. No condition. -/
import Derived.Test.YtocllehpepigpaaGreatDoorUH3
import Derived.Test.YtocllehpepigpaaGreatDoorUXA
import Derived.Test.YtocllehpepigpaaGreatDoorUB
namespace Go.gB
open Go Go.cI
def o0 (s:List UInt8):Bool:=nM s&& !(s==[116,97,117])
theorem DY (s:List UInt8):vF s=some (o0 s):=by unfold vF;rw[z_];rfl
theorem DZ (s:List UInt8) (aa:s.length≤1048576):vR s=some (o0 s):=by unfold vR;rw[Ki s (by omega)];rfl
def pN (ws:List (List UInt8)):Bool:=ws.all fun w=>(hA w).2
def jM (ws:List (List UInt8)):List Int:=ws.map fun w=>(hA w).1
def mz (x:Int):Bool:=decide (0≤x)&&decide (x≤63)
theorem ak1 (ws:List (List UInt8)) (h:ws.length≤1048577):yS ws=some (if pN ws=true then(jM ws,true)else([],false)):=by
 have key:∀i,i≤ws.length→∀m,ws.length-i<m→∀v:List Int,v.length=i→
   rK ws m v (i:Int)=some (if pN (ws.drop i)=true then(v++jM (ws.drop i),true)else([],false)):=by
  refine down ws.length ?_ ?_
  ·intro m hm v aI
   obtain⟨m,rfl⟩:∃j,m=j+1:=⟨m-1,by omega⟩
   simp only[rK,yR]
   rw[iC (Nat.le_refl _),List.drop_length]
   simp[pN,jM]
  ·intro i ay ih m hm v aI
   obtain⟨m,rfl⟩:∃j,m=j+1:=⟨m-1,by omega⟩
   simp only[rK,yR,yQ]
   rw[iB ay,cond_true,fy ws i ay,Option.bind_some,Option.bind_some,drop_cons ws i ay]
   simp only[pN,jM,List.all_cons,List.map_cons]
   cases ah:(hA ws[i]).2
   ·simp
   ·simp only[Bool.not_true,cond_false,Bool.true_and]
    rw[z6 (by omega) (by omega),Option.bind_some,h1 i _ ay (by omega),ih m (by omega) _ (by simp[aI])]
    simp[pN,jM]
 unfold yS
 refine j8 (ws.length+1) fun m hm=> ?_
 have:=key 0 (by omega) m (by omega) [] rfl
 simpa using this
def mA (ws:List (List UInt8)):Bool:=ws.all fun w=>(hA w).2&&mz (hA w).1
theorem ak2 (ws:List (List UInt8)) (h:ws.length≤1048577) (hw:∀w∈ws,w.length≤1048576):
  cY (fun n=>qt ws n [] 0)=some (if mA ws=true then jM ws else [],mA ws&&decide (ws.length≤2)):=by
 have key:∀i,i≤ws.length→∀m,ws.length-i<m→∀v:List Int,v.length=i→
   qt ws m v (i:Int)=some (if mA (ws.drop i)=true then v++jM (ws.drop i)else [],mA (ws.drop i)&&decide (ws.length≤2)):=by
  refine down ws.length ?_ ?_
  ·intro m hm v aI
   obtain⟨m,rfl⟩:∃j,m=j+1:=⟨m-1,by omega⟩
   simp only[qt,yp]
   rw[iC (Nat.le_refl _),List.drop_length,cond_false]
   have e:decide ((v.length:Int)≤2)=decide (ws.length≤2):=by rw[decide_eq_decide];omega
   rw[e]
   simp[mA,jM]
  ·intro i ay ih m hm v aI
   obtain⟨m,rfl⟩:∃j,m=j+1:=⟨m-1,by omega⟩
   simp only[qt,yp]
   rw[iB ay,cond_true,fy ws i ay,Option.bind_some,akU _ (hw _ (List.getElem_mem ay)),Option.bind_some,drop_cons ws i ay]
   have ak3:mA (ws[i]::ws.drop (i+1))=((hA ws[i]).2&&mz (hA ws[i]).1&&mA (ws.drop (i+1))):=rfl
   rw[ak3]
   by_cases ah:(hA ws[i]).2=true
   ·simp only[ah,Bool.not_true,cond_false,Bool.true_and,kz,Option.bind_some]
    by_cases D0:mz (hA ws[i]).1=true
    ·have wW:=D0
     unfold mz at wW
     rw[wW,D0]
     simp only[Bool.not_true,cond_false,Bool.true_and]
     rw[z6 (by omega) (by omega),Option.bind_some,h1 i _ ay (by omega),ih m (by omega) _ (by simp[aI])]
     simp only[jM,List.append_assoc,List.map_cons,List.singleton_append]
    ·have KE:mz (hA ws[i]).1=false:=by simpa using D0
     have wW:=KE
     unfold mz at wW
     rw[wW,KE]
     simp
   ·have hf:(hA ws[i]).2=false:=by simpa using ah
    simp[hf]
 refine j8 (ws.length+1) fun m hm=> ?_
 have:=key 0 (by omega) m (by omega) [] rfl
 simpa using this
theorem KF (a:List Int) (h:a.length≤1048577):yU a=some (a.all mz):=by
 unfold yU CT CS
 rw[DP (n:=a.length) (l:=rL a) (fun i=> !mz (a.getD i 0)) (fun m=> ?_) (fun i ay m=> ?_)]
 ·simp only[Option.bind_some,ajZ,Bool.not_not]
  congr 1
  rw[Bool.eq_iff_iff,DO,List.all_eq_true]
  constructor
  ·intro q x ai
   obtain⟨k,ax,rfl⟩:=List.mem_iff_getElem.1 ai
   have:=q k ax
   simpa [List.getD,ax]using this
  ·intro q i ay
   have:=q _ (List.getElem_mem ay)
   simpa [List.getD,ay]using this
 ·simp only[rL,yT]
  rw[iC (Nat.le_refl _)];rfl
 ·simp only[rL,yT,CR,CQ,jZ]
  rw[iB ay,fy _ i ay,h1 i _ ay (by omega)]
  simp only[cond_true,Option.bind_some]
  have e:a.getD i 0=a[i]:=by simp[List.getD,ay]
  rw[e]
  rfl
theorem Ac (s:List UInt8) (aa:s.length≤1048576):(40∉s→tr s=some (s.length:Int))∧∀p q,s=p++40::q→40∉p→tr s=some (p.length:Int):=by
 have step:∀i (ay:i<s.length) m,pB s (m+1) (i:Int)=cond (s[i]==40) (some (i:Int)) (pB s m ((i+1:Nat):Int)):=by
  intro i ay m
  simp only[pB,yk]
  rw[iB ay,cond_true,fy s i ay,Option.bind_some,h1 i _ ay (by omega)]
  have e:((s[i].toNat:Int)==40)=(s[i]==40):=by
   rw[Bool.eq_iff_iff]
   simp only[beq_iff_eq]
   constructor
   ·intro h;exact UInt8.toNat_inj.1 (by rw[show(40:UInt8).toNat=40 from rfl];omega)
   ·intro h;rw[h];rfl
  rw[e]
 constructor
 ·intro h
  unfold tr
  rw[wK (n:=s.length) (fun _=>some (s.length:Int))]
  ·intro m
   simp only[pB,yk]
   rw[iC (Nat.le_refl _)];rfl
  ·intro i ay m ih
   rw[step i ay m,ih]
   have:(s[i]==40)=false:=by
    simp only[beq_eq_false_iff_ne,ne_eq]
    intro e
    exact h (e▸List.getElem_mem ay)
   rw[this];rfl
 ·rintro p q rfl ao
  unfold tr
  refine j8 (p.length+1) fun m hm=> ?_
  have key:∀k,k≤p.length→∀m,k<m→pB (p++40::q) m ((p.length-k:Nat):Int)=some (p.length:Int):=by
   intro k
   induction k with
   |zero=>
    intro _ m hm
    obtain⟨m,rfl⟩:∃j,m=j+1:=⟨m-1,by omega⟩
    rw[Nat.sub_zero,step p.length (by simp) m]
    have:((p++40::q)[p.length]'(by simp))=40:=by simp
    rw[this];rfl
   |succ k ih=>
    intro ax m hm
    obtain⟨m,rfl⟩:∃j,m=j+1:=⟨m-1,by omega⟩
    rw[step (p.length-(k+1)) (by simp;omega) m]
    have:((p++40::q)[p.length-(k+1)]'(by simp;omega)==40)=false:=by
     simp only[beq_eq_false_iff_ne,ne_eq]
     rw[List.getElem_append_left (by omega)]
     intro e
     exact ao (e▸List.getElem_mem (by omega))
    rw[this,cond_false,show p.length-(k+1)+1=p.length-k by omega]
    exact ih (by omega) m (by omega)
  have:=key p.length (Nat.le_refl _) m (by omega)
  simpa using this
theorem KG (ws:List (List UInt8)):mA ws=(pN ws&&(jM ws).all mz):=by
 unfold mA pN jM
 rw[List.all_map]
 induction ws with
 |nil=>rfl
 |cons w r ih=>simp only[List.all_cons,ih,Function.comp];cases(hA w).2<;>cases mz (hA w).1<;>simp
theorem ak4 (ws:List (List UInt8)) (h:mA ws=true):(jM ws).map pM=ws:=by
 unfold jM
 rw[List.map_map]
 conv=>rhs;rw[←List.map_id ws]
 refine List.map_congr_left fun w hw=> ?_
 simp only[mA,List.all_eq_true,Bool.and_eq_true]at h
 have:=h w hw
 simp only[mz,Bool.and_eq_true,decide_eq_true_eq]at this
 simp only[Function.comp,id,pM]
 exact(akV (Prod.ext rfl this.1) this.2.1 this.2.2).symm
theorem KH (p q eb:List UInt8) (ao:40∉p) (aa:(p++40::q).length≤1048576) (bm:strings_TrimSuffix q [41]=some eb) (Ad:eb.length≤1048576):
  qz (p++40::q)=some (o0 p&&(mA (eC 44 eb)&&decide ((eC 44 eb).length≤2))&&(((p++[40])++eb)++[41]==p++40::q)):=by
 have hlen:=Aa 44 eb
 have ak5:eb.count 44≤eb.length:=List.count_le_length
 have aO:=aa
 simp only[List.length_append,List.length_cons]at aO
 have ok:∀n,n≤4194304→qO n=some ():=fun n aV=>by unfold qO;rw[if_pos (by omega)]
 unfold qz yY
 rw[akI p q ao aa]
 simp only[Option.bind_some,cond_true]
 rw[bm,Option.bind_some,akP 44 eb Ad,Option.bind_some,ak1 _ (by omega),KG]
 by_cases aV:pN (eC 44 eb)=true
 ·rw[if_pos aV,aV]
  simp only[Option.bind_some,Bool.not_true,cond_false,Bool.true_and]
  have mJ:(jM (eC 44 eb)).length=eb.count 44+1:=by unfold jM;rw[List.length_map,hlen]
  unfold vU yX
  by_cases aY:p=[116,97,117]
  ·have gf:(((jM (eC 44 eb)).length:Int)==0)=false:=by rw[mJ];simp;omega
   subst aY
   simp only[BEq.rfl,cond_true,gf,Option.bind_some,Bool.not_false,Bool.true_or]
   rfl
  ·have aX:(p==[116,97,117])=false:=by simpa using aY
   rw[aX,DZ p (by omega)]
   simp only[cond_false,Option.bind_some]
   by_cases cb:o0 p=true
   ·rw[cb]
    simp only[Bool.not_true,cond_false,Bool.true_and]
    by_cases ag:(eC 44 eb).length≤2
    ·have aS:decide ((2:Int)<((jM (eC 44 eb)).length:Int))=false:=by rw[mJ];simp;omega
     have bQ:decide ((eC 44 eb).length≤2)=true:=by simpa using ag
     rw[aS,bQ,KF _ (by omega)]
     simp only[cond_false,Option.bind_some,Bool.and_true]
     by_cases aI:(jM (eC 44 eb)).all mz=true
     ·have cp:(((jM (eC 44 eb)).length:Int)==0)=false:=by rw[mJ];simp;omega
      have iE:mA (eC 44 eb)=true:=by rw[KG,aV,aI];rfl
      rw[aI,cp]
      simp only[Bool.not_true,cond_false,Bool.true_and]
      rw[akB _ (by omega) (fun x ai=>by
       have:=List.all_eq_true.1 aI x ai
       simpa only[mz,Bool.and_eq_true,decide_eq_true_eq]using this),ak4 _ iE,Kn]
      rw[ok _ (by omega),Option.bind_some,Option.bind_some,ok _ (by simp;omega),Option.bind_some,ok _ (by simp;omega),Option.bind_some,Option.bind_some]
      cases(((p++[40])++eb)++[41]==p++40::q)<;>rfl
     ·have kK:(jM (eC 44 eb)).all mz=false:=by simpa using aI
      rw[kK];rfl
    ·have aS:decide ((2:Int)<((jM (eC 44 eb)).length:Int))=true:=by rw[mJ];simp;omega
     have bQ:decide ((eC 44 eb).length≤2)=false:=by simpa using ag
     rw[aS,bQ]
     simp
   ·have pj:o0 p=false:=by simpa using cb
    rw[pj];rfl
 ·have lf:pN (eC 44 eb)=false:=by simpa using aV
  rw[if_neg aV,lf]
  simp
theorem KI (p q:List UInt8) (x:UInt8) (ao:40∉p) (r:List UInt8) (e:p++40::q=r++[x]) (aa:(p++40::q).length≤1048576):
  bX (p++40::q) (IntKind.i64.wrap (((p++40::q).length:Int)-1))=some x:=by
 rw[e,e0 _ (by rw[←e];omega),show(((r++[x]).length:Int)-1)=(r.length:Int) by simp]
 exact Ab r x []
theorem ak6 (p eb:List UInt8) (ao:40∉p) (aa:(p++40::(eb++[41])).length≤1048576):
  nz (p++40::(eb++[41]))=some (o0 p&&(mA (eC 44 eb)&&decide ((eC 44 eb).length≤2))):=by
 have aO:=aa
 simp only[List.length_append,List.length_cons,List.length_nil]at aO
 have hlen:=Aa 44 eb
 have ak5:eb.count 44≤eb.length:=List.count_le_length
 have hw:∀w∈eC 44 eb,w.length≤1048576:=by
  have key:∀s:List UInt8,∀w∈eC 44 s,w.length≤s.length:=by
   intro s
   induction s with
   |nil=>intro w hw;simp[eC]at hw;subst hw;exact Nat.le_refl _
   |cons x r ih=>
    intro w hw
    simp only[eC]at hw
    split at hw
    ·rcases List.mem_cons.1 hw with rfl|hw
     ·simp
     ·exact Nat.le_trans (ih w hw) (by simp)
    ·cases aH:eC 44 r with
     |nil=>exact(ub 44 r aH).elim
     |cons a t=>
      rw[aH]at hw ih
      simp only[glue]at hw
      rcases List.mem_cons.1 hw with rfl|hw
      ·have:=ih a (by simp);simp;omega
      ·exact Nat.le_trans (ih w (by simp[hw])) (by simp)
  intro w hw
  have:=key eb w hw
  omega
 unfold nz tw
 rw[(Ac _ aa).2 p _ rfl ao]
 have aT:(((p.length:Nat):Int)==((p++40::(eb++[41])).length:Int))=false:=by simp;omega
 simp only[Option.bind_some,aT,cond_false]
 rw[pK _ _ (by simp),List.take_left' rfl,Option.bind_some,DY,Option.bind_some]
 rw[KI p (eb++[41]) 41 ao (p++40::eb) (by simp) aa,Option.bind_some]
 have aX:((((41:UInt8).toNat:Nat):Int) !=41)=false:=rfl
 have aS:e1 (p++40::(eb++[41])) (IntKind.i64.wrap ((p.length:Int)+1)) (IntKind.i64.wrap (((p++40::(eb++[41])).length:Int)-1))=some eb:=by
  rw[e0 _ (by omega),e0 _ (by omega)]
  have:=ua (p++[40]) eb [41] (i:=(p.length:Int)+1) (j:=(((p++40::(eb++[41])).length:Int)-1)) (by simp) (by simp;omega)
  simpa using this
 rw[aX,cond_false,aS,Option.bind_some,akQ 44 eb (by omega),Option.bind_some,ak2 _ (by omega) hw]
 cases o0 p<;>rfl
theorem ak7 (p q:List UInt8) (ao:40∉p) (aa:(p++40::q).length≤1048576) (h:∀r,q≠r++[41]):nz (p++40::q)=some false:=by
 have aO:=aa
 simp only[List.length_append,List.length_cons]at aO
 unfold nz tw
 rw[(Ac _ aa).2 p _ rfl ao]
 have aT:(((p.length:Nat):Int)==((p++40::q).length:Int))=false:=by simp;omega
 simp only[Option.bind_some,aT,cond_false]
 rw[pK _ _ (by simp),List.take_left' rfl,Option.bind_some,DY,Option.bind_some]
 obtain⟨r,x,e,ai⟩:∃r x,p++40::q=r++[x]∧x≠41:=by
  rcases List.eq_nil_or_concat q with rfl|⟨h5,x,rfl⟩
  ·exact⟨p,40,rfl,by decide⟩
  ·refine⟨p++40::h5,x,by simp,?_⟩
   rintro rfl
   exact h h5 (by simp)
 rw[KI p q x ao r e aa,Option.bind_some]
 have aX:((x.toNat:Int) !=41)=true:=by
  simp only[bne_iff_ne,ne_eq]
  intro bb
  exact ai (UInt8.toNat_inj.1 (by rw[show(41:UInt8).toNat=41 from rfl];omega))
 rw[aX]
 cases o0 p<;>rfl
noncomputable def mW (s:List UInt8):Bool:=(nz s).getD false
theorem D1 (s:List UInt8) (aa:s.length≤1048576):nz s=some (mW s)∧qz s=some (mW s):=by
 suffices h:∃b,nz s=some b∧qz s=some b by
  obtain⟨b,ad,ag⟩:=h
  unfold mW
  rw[ad,ag];exact⟨rfl,rfl⟩
 by_cases hm:40∈s
 ·obtain⟨p,q,rfl,ao⟩:=DQ hm
  have aO:=aa
  simp only[List.length_append,List.length_cons]at aO
  by_cases cM:∃r,q=r++[41]
  ·obtain⟨eb,rfl⟩:=cM
   have Ad:eb.length≤1048576:=by simp at aO;omega
   refine⟨_,ak6 p eb ao aa,?_⟩
   rw[KH p _ eb ao aa (akJ eb Ad) Ad]
   have:(((p++[40])++eb)++[41]==p++40::(eb++[41]))=true:=by simp
   rw[this,Bool.and_true]
  ·have KJ:∀r,q≠r++[41]:=fun r e=>cM ⟨r,e⟩
   refine⟨false,ak7 p q ao aa KJ,?_⟩
   rw[KH p q q ao aa (akK q (by omega) KJ) (by omega)]
   have:(((p++[40])++q)++[41]==p++40::q)=false:=by
    simp only[beq_eq_false_iff_ne,ne_eq]
    intro e
    have:=congrArg List.length e
    simp at this
   rw[this,Bool.and_false]
 ·unfold nz tw qz yY
  rw[(Ac s aa).1 hm,akH hm,z_]
  have aT:((s.length:Int)==(s.length:Int))=true:=by simp
  simp only[Option.bind_some,aT,cond_true,cond_false]
  refine⟨_,rfl,?_⟩
  unfold vU yX
  by_cases aY:s=[116,97,117]
  ·subst aY;rfl
  ·have aX:(s==[116,97,117])=false:=by simpa using aY
   rw[aX,DZ s aa]
   simp only[cond_false,Option.bind_some]
   have aS:o0 s=nM s:=by unfold o0;rw[aX];simp
   rw[aS]
   cases nM s
   ·rfl
   ·simp only[Bool.not_true,cond_false,List.length_nil]
    rw[KF [] (by simp)]
    simp
end Go.gB
