/- Part of a proof that a law returns true for every input. No condition. -/
import Derived.Test.YtocllehpepigpaaGreatDoorUVA
namespace Go.gB
open Go Go.cI
def fP (k:Int):Int:=if k=0∨k=1∨k=6 then 0 else if k=2∨k=3 then 2 else 1
def hb (k:Int):Int:=if k=2∨k=3 then 2 else if k=4∨k=5∨k=7∨k=8 then 1 else 0
theorem KL (k:Int):vL k=some (fP k):=by
 unfold vL vJ yx fP
 by_cases bm:k=0
 ·subst bm;rfl
 by_cases ad:k=1
 ·subst ad;rfl
 by_cases cn:k=6
 ·subst cn;rfl
 by_cases ag:k=2
 ·subst ag;rfl
 by_cases aF:k=3
 ·subst aF;rfl
 have f:∀c:Int,¬k=c→(k==c)=false:=fun c h=>by simpa using h
 simp only[f 0 bm,f 1 ad,f 6 cn,f 2 ag,f 3 aF,bm,ad,cn,ag,aF,cond_false,cond_true,Bool.or_false,Bool.false_or,or_self,if_false,Bool.or_self]
 try rfl
theorem KM (x:bZ):vY x=some (hb x.Kind):=by
 unfold vY y7 tG hb
 generalize x.Kind=k
 by_cases ag:k=2
 ·subst ag;rfl
 by_cases aF:k=3
 ·subst aF;rfl
 by_cases a8:k=4
 ·subst a8;rfl
 by_cases bF:k=5
 ·subst bF;rfl
 by_cases cD:k=7
 ·subst cD;rfl
 by_cases eu:k=8
 ·subst eu;rfl
 have f:∀c:Int,¬k=c→(k==c)=false:=fun c h=>by simpa using h
 simp only[f 2 ag,f 3 aF,f 4 a8,f 5 bF,f 7 cD,f 8 eu,ag,aF,a8,bF,cD,eu,cond_false,cond_true,Bool.or_false,Bool.false_or,or_self,if_false,Bool.or_self]
 try rfl
theorem Af (k:Int):0≤fP k∧fP k≤2:=by
 unfold fP
 split
 ·omega
 ·split<;>omega
theorem Ag (k:Int):0≤hb k∧hb k≤2:=by
 unfold hb
 split
 ·omega
 ·split<;>omega
def wX (k:Int):Bool:=decide (0≤k)&&decide (k≤8)
theorem KN {k:Int} (h:wX k=true):fP k=hb k:=by
 simp only[wX,Bool.and_eq_true,decide_eq_true_eq]at h
 obtain⟨n,rfl⟩:∃n:Nat,k=n:=⟨k.toNat,by omega⟩
 have:n≤8:=by omega
 have key:∀m:Fin 9,fP (m.val:Int)=hb (m.val:Int):=by decide
 exact key ⟨n,by omega⟩
theorem alg (s:List UInt8) (aa:s.length≤1048576):∃b,tx s=some b∧vZ s=some b:=by
 obtain⟨gq,l2⟩:=D1 s aa
 unfold tx vZ
 rw[gq,l2]
 rcases List.eq_nil_or_concat s with rfl|⟨r,x,rfl⟩
 ·exact⟨true,rfl,rfl⟩
 ·simp only[List.concat_eq_append]at*
  have aO:r.length≤1048575:=by simp at aa;omega
  have gf:((r++[x])==([]:List UInt8))=false:=by simp
  have wP:IntKind.i64.wrap (((r++[x]).length:Int)-1)=(r.length:Int):=by rw[e0 _ (by simp;omega)];simp
  have alh:bX (r++[x]) (r.length:Int)=some x:=Ab r x []
  have es:e1 (r++[x]) 0 (r.length:Int)=some r:=by rw[pK _ _ (by simp)];simp
  have ec:y_ (r++[x]) [42]=some (if x=42 then r else r++[x],decide (x=42)):=by
   unfold y_ CY tC
   have d1:decide ((([42]:List UInt8).length:Int)≤((r++[x]).length:Int))=true:=by simp;omega
   have d2:IntKind.i64.wrap (((r++[x]).length:Int)-(([42]:List UInt8).length:Int))=(r.length:Int):=by rw[e0 _ (by simp;omega)];simp
   have d3:=ua r [x] [] (i:=(r.length:Int)) (j:=(((r++[x]).length:Nat):Int)) rfl (by simp)
   simp only[List.append_nil]at d3
   rw[d1,d2,d3,es]
   by_cases ai:x=42
   ·subst ai;simp
   ·have:([x]==[42])=false:=by simpa using ai
    simp[this,ai]
  rw[gf,wP,alh,es,ec]
  simp only[cond_false,Option.bind_some]
  cases mW (r++[x])
  ·by_cases ai:x=42
   ·subst ai
    simp only[cond_false,if_true,decide_true,cond_true]
    rw[show(((42:UInt8).toNat:Int)==42)=true from rfl,DY,DZ r (by omega)]
    exact⟨_,rfl,rfl⟩
   ·have aT:((x.toNat:Int)==42)=false:=by
     simp only[beq_eq_false_iff_ne,ne_eq]
     intro h
     exact ai (UInt8.toNat_inj.1 (by rw[show(42:UInt8).toNat=42 from rfl];omega))
    rw[aT,show decide (x=42)=false from decide_eq_false ai]
    exact⟨false,rfl,rfl⟩
  ·exact⟨true,rfl,rfl⟩
noncomputable def qN (s:List UInt8):Bool:=(tx s).getD false
theorem KO (s:List UInt8) (aa:s.length≤1048576):tx s=some (qN s)∧vZ s=some (qN s):=by
 obtain⟨b,ad,ag⟩:=alg s aa
 unfold qN
 rw[ad,ag];exact⟨rfl,rfl⟩
noncomputable def D4 (x:bZ):Bool:=cond ((x.Kind==4)||(x.Kind==5)) (qN x.Label) ((x.Label==[])&& !x.Not)
noncomputable def j7 (x:bZ):Bool:=wX x.Kind&&D4 x
def ot (x:bZ):Bool:=(x.Kind==7)||(x.Kind==8)
def nN (x:bZ):Bool:=cond (ot x||(x.Kind==6)) (decide (0≤x.Variable)&&decide (x.Variable≤2)) (x.Variable==0)
def ck (h2:Int→Int):List bZ→Int→Bool
 |[],n=>n==0
 |x::r,n=>cond (n==0) false (ck h2 r (n+(h2 x.Kind-1)))
theorem D5 {f g:Int→Int}:∀(l:List bZ) (n:Int),(∀x∈l,f x.Kind=g x.Kind)→ck f l n=ck g l n
 |[],_,_=>rfl
 |x::r,n,h=>by
  simp only[ck]
  rw[h x (by simp),D5 r _ fun y hy=>h y (by simp[hy])]
theorem ali (a:List bZ) (aO:a.length≤1048576):y9 a=some (ck hb a 1):=by
 have key:∀i,i≤a.length→∀m,a.length-i<m→∀n:Int,0≤n∧n≤2*i+1→rN a m n (i:Int)=some (ck hb (a.drop i) n):=by
  refine down a.length ?_ ?_
  ·intro m hm n aV
   obtain⟨m,rfl⟩:∃j,m=j+1:=⟨m-1,by omega⟩
   simp only[rN,y8]
   rw[iC (Nat.le_refl _),List.drop_length];rfl
  ·intro i ay ih m hm n aV
   obtain⟨m,rfl⟩:∃j,m=j+1:=⟨m-1,by omega⟩
   simp only[rN,y8]
   rw[iB ay,cond_true,fy a i ay,Option.bind_some,drop_cons a i ay]
   simp only[ck,KM,Option.bind_some]
   have sc:=Ag a[i].Kind
   by_cases bm:n=0
   ·rw[show(n==0)=true from by simpa using bm];rfl
   ·rw[show(n==0)=false from by simpa using bm,cond_false,cond_false,e0 (hb a[i].Kind-1) (by omega),e0 _ (by omega),h1 i _ ay (by omega)]
    exact ih m (by omega) _ (by omega)
 unfold y9
 exact j8 (a.length+1) fun m hm=>by simpa using key 0 (by omega) m (by omega) 1 (by omega)
theorem alj (a:List bZ) (aO:a.length≤1048576) (hw:∀x∈a,x.Label.length≤1048576):yz a 30 8=some ((decide (1≤a.length)&&decide (a.length≤30))&&(a.all j7&&ck fP a 1)):=by
 have key:∀i,i≤a.length→∀m,a.length-i<m→∀n:Int,0≤n∧n≤2*i+1→qx a 8 m n (i:Int)=some ((a.drop i).all j7&&ck fP (a.drop i) n):=by
  refine down a.length ?_ ?_
  ·intro m hm n aV
   obtain⟨m,rfl⟩:∃j,m=j+1:=⟨m-1,by omega⟩
   simp only[qx,yy]
   rw[iC (Nat.le_refl _),List.drop_length];rfl
  ·intro i ay ih m hm n aV
   obtain⟨m,rfl⟩:∃j,m=j+1:=⟨m-1,by omega⟩
   simp only[qx,yy,kz]
   rw[iB ay,cond_true,fy a i ay,Option.bind_some,drop_cons a i ay]
   simp only[ck,KL,Option.bind_some,List.all_cons]
   have sc:=Af a[i].Kind
   by_cases bm:n=0
   ·rw[show(n==0)=true from by simpa using bm];simp
   ·rw[show(n==0)=false from by simpa using bm,cond_false,cond_false,e0 (fP a[i].Kind-1) (by omega),e0 _ (by omega),h1 i _ ay (by omega),ih m (by omega) _ (by omega)]
    unfold j7 D4 wX
    cases(decide (0≤a[i].Kind)&&decide (a[i].Kind≤8))
    ·rfl
    cases((a[i].Kind==4)||(a[i].Kind==5))
    ·cases U:((a[i].Label==[])&& !a[i].Not)
     ·have:((!(a[i].Label==[]))||a[i].Not)=true:=by
       cases ad:(a[i].Label==[])<;>cases ag:a[i].Not<;>simp_all
      rw[this];rfl
     ·have:((!(a[i].Label==[]))||a[i].Not)=false:=by
       cases ad:(a[i].Label==[])<;>cases ag:a[i].Not<;>simp_all
      rw[this];rfl
    ·simp only[Bool.not_true,cond_false,cond_true]
     rw[(KO _ (hw _ (List.getElem_mem ay))).1,Option.bind_some]
     cases qN a[i].Label<;>rfl
 unfold yz
 have ly:cY (fun n=>qx a 8 n 1 0)=some (a.all j7&&ck fP a 1):=j8 (a.length+1) fun m hm=>by simpa using key 0 (by omega) m (by omega) 1 (by omega)
 rw[ly,show decide ((a.length:Int)<1)= !(decide (1≤a.length))from by rw[←decide_not,decide_eq_decide];omega,show decide ((30:Int)<(a.length:Int))= !(decide (a.length≤30))from by rw[←decide_not,decide_eq_decide];omega]
 cases decide (1≤a.length)<;>cases decide (a.length≤30)<;>rfl
def ou (h2:Int→Int):List bZ→Int→Option Nat
 |l,k=>if k≤0 then some 0 else match l with
  |[]=>none
  |x::r=>(ou h2 r (k+(h2 x.Kind-1))).map (·+1)
theorem KP {f g:Int→Int}:∀(l:List bZ) (n:Int),(∀x∈l,f x.Kind=g x.Kind)→ou f l n=ou g l n
 |[],_,_=>rfl
 |x::r,n,h=>by
  unfold ou
  simp only
  rw[h x (by simp),KP r _ fun y hy=>h y (by simp[hy])]
theorem KQ (h2:Int→Int) (sc:∀k,0≤h2 k):∀(l:List bZ) (n k:Int),ck h2 l n=true→0≤k→k≤n→∃e,ou h2 l k=some e:=by
 intro l
 induction l with
 |nil=>
  intro n k h bm ax
  unfold ou
  by_cases bG:k≤0
  ·rw[if_pos bG];exact⟨0,rfl⟩
  ·simp only[ck,beq_iff_eq]at h;omega
 |cons x r ih=>
  intro n k h bm ax
  unfold ou
  by_cases bG:k≤0
  ·rw[if_pos bG];exact⟨0,rfl⟩
  ·rw[if_neg bG]
   simp only[ck]at h
   rw[show(n==0)=false from by simp;omega,cond_false]at h
   have:=sc x.Kind
   obtain⟨e,he⟩:=ih _ (k+(h2 x.Kind-1)) h (by omega) (by omega)
   exact⟨e+1,by simp only[he,Option.map_some]⟩
theorem KR (h2:Int→Int) (sc:∀k,0≤h2 k):∀(j:Nat) (l:List bZ) (n:Int),0≤n→ck h2 l n=true→j<l.length→∃p5,1≤p5∧ck h2 (l.drop j) p5=true:=by
 intro j
 induction j with
 |zero=>
  intro l n bm h b6
  cases l with
  |nil=>simp at b6
  |cons x r=>
   refine⟨n,?_,h⟩
   rcases Int.lt_or_le 0 n with ad|ad
   ·omega
   ·have:n=0:=by omega
    subst this;simp[ck]at h
 |succ j ih=>
  intro l n bm h b6
  cases l with
  |nil=>simp at b6
  |cons x r=>
   simp only[ck]at h
   by_cases aV:n=0
   ·subst aV;simp at h
   ·rw[show(n==0)=false from by simpa using aV,cond_false]at h
    have:=sc x.Kind
    exact ih r _ (by omega) h (by simpa using b6)
def mB (h2:Int→Int) (a:List bZ) (j:Nat):Nat:=j+(ou h2 (a.drop j) 1).getD 0
section
variable {L:List bZ→Nat→Int→Int→Option Int} {h2:Int→Int}
theorem KS (a:List bZ) (aO:a.length≤1000) (sc:∀k,0≤h2 k∧h2 k≤2)
  (jT:∀m v n,L a (m+1) v n=cond (decide (0<n)) ((bX a v).bind fun x=>L a m (IntKind.i64.wrap (v+1)) (IntKind.i64.wrap (n+IntKind.i64.wrap (h2 x.Kind-1)))) (some v)):
  ∀(d j e:Nat) (n:Int),a.length-j=d→j≤a.length→0≤n∧n≤2*j+1→ou h2 (a.drop j) n=some e→∀m,d<m→L a m (j:Int) n=some ((j+e:Nat):Int):=by
 intro d
 induction d with
 |zero=>
  intro j e n ah b6 aV he m hm
  obtain⟨m,rfl⟩:∃i,m=i+1:=⟨m-1,by omega⟩
  rw[List.drop_of_length_le (by omega)]at he
  unfold ou at he
  by_cases bG:n≤0
  ·rw[if_pos bG]at he
   cases he
   rw[jT,show decide (0<n)=false from decide_eq_false (by omega)];rfl
  ·rw[if_neg bG]at he
   cases he
 |succ d ih=>
  intro j e n ah b6 aV he m hm
  obtain⟨m,rfl⟩:∃i,m=i+1:=⟨m-1,by omega⟩
  have ov:j<a.length:=by omega
  rw[drop_cons a j ov]at he
  unfold ou at he
  by_cases bG:n≤0
  ·rw[if_pos bG]at he
   cases he
   rw[jT,show decide (0<n)=false from decide_eq_false (by omega)];rfl
  ·rw[if_neg bG]at he
   simp only[Option.map_eq_some_iff]at he
   obtain⟨fQ,u7,rfl⟩:=he
   have:=sc a[j].Kind
   rw[jT,show decide (0<n)=true from decide_eq_true (by omega),cond_true,fy a j ov,Option.bind_some,h1 j _ ov (by omega),e0 (h2 a[j].Kind-1) (by omega),e0 _ (by omega)]
   rw[ih (j+1) fQ _ (by omega) (by omega) (by omega) u7 m (by omega)]
   congr 2;omega
end
def k9 (h2:Int→Int) (a:List bZ) (i:Nat) (v:Int):Nat→Int
 |0=> -1
 |j+1=>cond (ot (a.getD j ⟨0,0,[],false⟩)&&(((a.getD j ⟨0,0,[],false⟩).Variable==v)&&decide (i<mB h2 a j))) (j:Int) (k9 h2 a i v j)
theorem KT (x:bZ):yA x=some (ot x):=rfl
theorem KU (x:bZ):za x=some (ot x):=rfl
section
variable (a:List bZ) (aO:a.length≤30)
include aO
theorem alk (h:ck fP a 1=true) (j:Nat) (b6:j<a.length):yB a (j:Int)=some ((mB fP a j:Nat):Int):=by
 obtain⟨p5,ad,ag⟩:=KR fP (fun k=>(Af k).1) j a 1 (by omega) h b6
 obtain⟨e,he⟩:=KQ fP (fun k=>(Af k).1) _ p5 1 ag (by omega) ad
 unfold yB mB
 rw[he]
 refine j8 (a.length+1) fun m hm=> ?_
 exact KS (L:=fun a m v n=>tz a m v n) a (by omega) Af (fun m v n=>by simp only[tz,CI,KL,Option.bind_some]) (a.length-j) j e 1 rfl (by omega) (by omega) he m (by omega)
theorem alm (h:ck hb a 1=true) (j:Nat) (b6:j<a.length):zb a (j:Int)=some ((mB hb a j:Nat):Int):=by
 obtain⟨p5,ad,ag⟩:=KR hb (fun k=>(Ag k).1) j a 1 (by omega) h b6
 obtain⟨e,he⟩:=KQ hb (fun k=>(Ag k).1) _ p5 1 ag (by omega) ad
 unfold zb mB
 rw[he]
 refine j8 (a.length+1) fun m hm=> ?_
 exact KS (L:=fun a m v n=>tH a m v n) a (by omega) Ag (fun m v n=>by simp only[tH,C1,KM,Option.bind_some]) (a.length-j) j e 1 rfl (by omega) (by omega) he m (by omega)
theorem aln (h:ck fP a 1=true) (i:Nat) (ay:i<a.length):vM a (i:Int)=some (k9 fP a i a[i].Variable i):=by
 have key:∀j,j≤i→∀m,j<m→rH a (i:Int) m ((j:Int)-1)=some (k9 fP a i a[i].Variable j):=by
  intro j
  induction j with
  |zero=>
   intro _ m hm
   obtain⟨m,rfl⟩:∃q,m=q+1:=⟨m-1,by omega⟩
   simp only[rH,yC]
   rfl
  |succ j ih=>
   intro b6 m hm
   obtain⟨m,rfl⟩:∃q,m=q+1:=⟨m-1,by omega⟩
   have ov:j<a.length:=by omega
   simp only[rH,yC]
   rw[show(((j+1:Nat):Int)-1)=(j:Int) by omega,show decide ((0:Int)≤(j:Int))=true from decide_eq_true (by omega),cond_true,fy a j ov,Option.bind_some,KT,Option.bind_some,fy a i ay,e0 ((j:Int)-1) (by omega),ih (by omega) m (by omega)]
   simp only[Option.bind_some,k9]
   rw[jb a j _ ov,alk a aO h j ov,Option.bind_some,show decide ((i:Int)<((mB fP a j:Nat):Int))=decide (i<mB fP a j)from by rw[decide_eq_decide];omega]
   cases ot a[j]<;>cases(a[j].Variable==a[i].Variable)<;>cases decide (i<mB fP a j)<;>rfl
 unfold vM
 refine j8 (i+1) fun m hm=> ?_
 rw[e0 _ (by omega)]
 exact key i (Nat.le_refl _) m (by omega)
theorem alo (h:ck hb a 1=true) (i:Nat) (ay:i<a.length):zd a (i:Int)=some (k9 hb a i a[i].Variable i):=by
 have key:∀j,j≤i→∀m,j<m→rO a (i:Int) m ((j:Int)-1)=some (k9 hb a i a[i].Variable j):=by
  intro j
  induction j with
  |zero=>
   intro _ m hm
   obtain⟨m,rfl⟩:∃q,m=q+1:=⟨m-1,by omega⟩
   simp only[rO,zc]
   rfl
  |succ j ih=>
   intro b6 m hm
   obtain⟨m,rfl⟩:∃q,m=q+1:=⟨m-1,by omega⟩
   have ov:j<a.length:=by omega
   simp only[rO,zc]
   rw[show(((j+1:Nat):Int)-1)=(j:Int) by omega,show decide ((0:Int)≤(j:Int))=true from decide_eq_true (by omega),cond_true,fy a j ov,Option.bind_some,KU,Option.bind_some,fy a i ay,e0 ((j:Int)-1) (by omega),ih (by omega) m (by omega)]
   simp only[Option.bind_some,k9]
   rw[jb a j _ ov,alm a aO h j ov,Option.bind_some,show decide ((i:Int)<((mB hb a j:Nat):Int))=decide (i<mB hb a j)from by rw[decide_eq_decide];omega]
   cases ot a[j]<;>cases(a[j].Variable==a[i].Variable)<;>cases decide (i<mB hb a j)<;>rfl
 unfold zd
 refine j8 (i+1) fun m hm=> ?_
 rw[e0 _ (by omega)]
 exact key i (Nat.le_refl _) m (by omega)
end
def kE (h2:Int→Int) (a:List bZ) (i:Nat):Bool:=cond ((a.getD i ⟨0,0,[],false⟩).Kind==6) (decide (0≤k9 h2 a i (a.getD i ⟨0,0,[],false⟩).Variable i)) true
theorem KV {f g:Int→Int} (a:List bZ) (h:∀x∈a,f x.Kind=g x.Kind) (i:Nat) (v:Int):∀j,k9 f a i v j=k9 g a i v j
 |0=>rfl
 |j+1=>by
  simp only[k9]
  rw[KV a h i v j]
  have:mB f a j=mB g a j:=by
   unfold mB
   rw[KP (a.drop j) 1 fun x ai=>h x (List.mem_of_mem_drop ai)]
  rw[this]
noncomputable def Ah (a:List bZ):Bool:=(decide (1≤a.length)&&decide (a.length≤30))&&((a.all j7&&ck fP a 1)&&(List.range' 0 a.length).all fun i=>nN (a.getD i ⟨0,0,[],false⟩)&&kE fP a i)
theorem alp (a:List bZ) (aO:a.length≤1048576) (hw:∀x∈a,x.Label.length≤1048576):yF a=some (Ah a):=by
 unfold yF Ah
 rw[alj a aO hw,Option.bind_some]
 by_cases sd:(decide (1≤a.length)&&decide (a.length≤30))=true
 ·rw[sd,Bool.true_and,Bool.true_and]
  by_cases aa:(a.all j7&&ck fP a 1)=true
  ·rw[aa]
   have pP:=sd
   simp only[Bool.and_eq_true,decide_eq_true_eq]at pP aa
   have ly:=qM (l:=fun m i=>pC a m i) (n:=a.length) (fun i=>nN (a.getD i ⟨0,0,[],false⟩)&&kE fP a i) (some true) (some false) (fun m=>by
    simp only[pC,yE]
    rw[iC (Nat.le_refl _)];rfl) (fun i ay m=>by
    have ax:∀K:Option Bool,((bX a (i:Int)).bind fun aD=>cond (aD.Kind==6) ((vM a (i:Int)).bind fun a7=>cond (decide (a7<0)) (some false) K) K)=cond (kE fP a i) K (some false):=by
     intro K
     unfold kE
     rw[fy a i ay,Option.bind_some,jb a i _ ay,aln a pP.2 aa.2 i ay,Option.bind_some]
     cases(a[i].Kind==6)
     ·rfl
     ·simp only[cond_true]
      by_cases U:0≤k9 fP a i a[i].Variable i
      ·rw[decide_eq_true U,show decide (k9 fP a i a[i].Variable i<0)=false from decide_eq_false (by omega)];rfl
      ·rw[decide_eq_false U,show decide (k9 fP a i a[i].Variable i<0)=true from decide_eq_true (by omega)];rfl
    simp only[pC,yE,yD,KT,kz]
    rw[iB ay,cond_true,ax,fy a i ay,Option.bind_some,Option.bind_some,h1 i _ ay (by omega),jb a i _ ay]
    unfold nN
    cases(ot a[i]||(a[i].Kind==6))
    ·rw[show(a[i].Variable !=0)= !(a[i].Variable==0)from rfl]
     cases(a[i].Variable==0)
     ·rfl
     ·cases kE fP a i<;>rfl
    ·simp only[Option.bind_some,cond_true]
     cases(decide (0≤a[i].Variable)&&decide (a[i].Variable≤2))
     ·rfl
     ·cases kE fP a i<;>rfl) 0 (by omega)
   have:cY (fun n=>pC a n 0)=_:=ly
   rw[this]
   cases(List.range' 0 (a.length-0)).all (fun i=>nN (a.getD i ⟨0,0,[],false⟩)&&kE fP a i)<;>rfl
  ·have fM:(a.all j7&&ck fP a 1)=false:=by simpa using aa
   rw[fM];rfl
 ·have pP:(decide (1≤a.length)&&decide (a.length≤30))=false:=by simpa using sd
  rw[pP];rfl
theorem alq (a:List bZ) (aO:a.length≤1048576) (hw:∀x∈a,x.Label.length≤1048576):zf a=some (Ah a):=by
 unfold zf Ah jZ
 rw[ali a aO]
 simp only[Option.bind_some]
 rw[show(decide (1≤(a.length:Int))&&decide ((a.length:Int)≤30))=(decide (1≤a.length)&&decide (a.length≤30))from by congr 1<;>(rw[decide_eq_decide];omega)]
 by_cases sd:(decide (1≤a.length)&&decide (a.length≤30))=true
 ·rw[sd]
  have pP:=sd
  simp only[Bool.and_eq_true,decide_eq_true_eq]at pP
  simp only[Bool.not_true,cond_false,Bool.true_and]
  by_cases aa:ck hb a 1=true
  ·rw[aa]
   have ly:=qM (l:=fun m i=>qD a m i) (n:=a.length) (fun i=>j7 (a.getD i ⟨0,0,[],false⟩)&&(nN (a.getD i ⟨0,0,[],false⟩)&&kE hb a i)) (some true) (some false) (fun m=>by
    simp only[qD,ze]
    rw[iC (Nat.le_refl _)];rfl) (fun i ay m=>by
    simp only[qD,ze,jZ,CZ,CX,C0,KU]
    rw[iB ay,cond_true,fy a i ay,Option.bind_some,h1 i _ ay (by omega),alo a pP.2 aa i ay,jb a i _ ay,(KO _ (hw _ (List.getElem_mem ay))).2]
    unfold j7 D4 wX nN kE
    rw[jb a i _ ay]
    simp only[Option.bind_some]
    cases(decide (0≤a[i].Kind)&&decide (a[i].Kind≤8))
    ·rfl
    have br:(cond ((a[i].Kind==4)||(a[i].Kind==5)) (some (qN a[i].Label)) (some ((a[i].Label==[])&& !a[i].Not)))=some (cond ((a[i].Kind==4)||(a[i].Kind==5)) (qN a[i].Label) ((a[i].Label==[])&& !a[i].Not)):=by
     cases((a[i].Kind==4)||(a[i].Kind==5))<;>rfl
    have aI:(cond (ot a[i]||(a[i].Kind==6)) (some (decide (0≤a[i].Variable)&&decide (a[i].Variable≤2))) (some (a[i].Variable==0)))=some (cond (ot a[i]||(a[i].Kind==6)) (decide (0≤a[i].Variable)&&decide (a[i].Variable≤2)) (a[i].Variable==0)):=by
     cases(ot a[i]||(a[i].Kind==6))<;>rfl
    rw[br,aI]
    simp only[Option.bind_some,Bool.not_true,cond_false,Bool.true_and]
    cases(cond ((a[i].Kind==4)||(a[i].Kind==5)) (qN a[i].Label) ((a[i].Label==[])&& !a[i].Not))
    ·rfl
    cases(cond (ot a[i]||(a[i].Kind==6)) (decide (0≤a[i].Variable)&&decide (a[i].Variable≤2)) (a[i].Variable==0))
    ·rfl
    cases(a[i].Kind==6)
    ·rfl
    ·simp only[cond_true]
     by_cases U:0≤k9 hb a i a[i].Variable i
     ·rw[decide_eq_true U,show decide (k9 hb a i a[i].Variable i<0)=false from decide_eq_false (by omega)];rfl
     ·rw[decide_eq_false U,show decide (k9 hb a i a[i].Variable i<0)=true from decide_eq_true (by omega)];rfl) 0 (by omega)
   have cM:cY (fun n=>qD a n 0)=_:=ly
   rw[cM]
   simp only[Bool.not_true,cond_false,Nat.sub_zero]
   by_cases aV:a.all j7=true
   ·have iE:=List.all_eq_true.1 aV
    have ax:∀x∈a,fP x.Kind=hb x.Kind:=fun x ai=>by
     have:=iE x ai
     unfold j7 at this
     simp only[Bool.and_eq_true]at this
     exact KN this.1
    rw[aV,D5 a 1 ax,aa]
    have e:(List.range' 0 a.length).all (fun i=>j7 (a.getD i ⟨0,0,[],false⟩)&&(nN (a.getD i ⟨0,0,[],false⟩)&&kE hb a i))=(List.range' 0 a.length).all (fun i=>nN (a.getD i ⟨0,0,[],false⟩)&&kE fP a i):=by
     rw[Bool.eq_iff_iff,List.all_eq_true,List.all_eq_true]
     have key:∀i∈List.range' 0 a.length,(j7 (a.getD i ⟨0,0,[],false⟩)&&(nN (a.getD i ⟨0,0,[],false⟩)&&kE hb a i))=(nN (a.getD i ⟨0,0,[],false⟩)&&kE fP a i):=by
      intro i ay
      simp only[List.mem_range'_1,Nat.zero_add]at ay
      have ad:j7 (a.getD i ⟨0,0,[],false⟩)=true:=by rw[jb a i _ ay.2];exact iE _ (List.getElem_mem ay.2)
      have ag:kE hb a i=kE fP a i:=by
       unfold kE
       rw[KV a ax]
      rw[ad,ag,Bool.true_and]
     constructor
     ·intro q i ay;rw[←key i ay];exact q i ay
     ·intro q i ay;rw[key i ay];exact q i ay
    rw[e]
    cases(List.range' 0 a.length).all (fun i=>nN (a.getD i ⟨0,0,[],false⟩)&&kE fP a i)<;>rfl
   ·have lf:a.all j7=false:=by simpa using aV
    rw[lf]
    have e:(List.range' 0 a.length).all (fun i=>j7 (a.getD i ⟨0,0,[],false⟩)&&(nN (a.getD i ⟨0,0,[],false⟩)&&kE hb a i))=false:=by
     rw[List.all_eq_false]at lf⊢
     obtain⟨x,ai,alr⟩:=lf
     obtain⟨k,ax,rfl⟩:=List.mem_iff_getElem.1 ai
     refine⟨k,by simp only[List.mem_range'_1];omega,?_⟩
     rw[jb a k _ ax,show j7 a[k]=false from by simpa using alr]
     simp
    rw[e];rfl
  ·have fM:ck hb a 1=false:=by simpa using aa
   rw[fM]
   simp only[Bool.not_false,cond_true]
   by_cases aV:a.all j7=true
   ·have iE:=List.all_eq_true.1 aV
    have ax:∀x∈a,fP x.Kind=hb x.Kind:=fun x ai=>by
     have:=iE x ai
     unfold j7 at this
     simp only[Bool.and_eq_true]at this
     exact KN this.1
    rw[D5 a 1 ax,fM,Bool.and_false,Bool.false_and]
   ·have lf:a.all j7=false:=by simpa using aV
    rw[lf];rfl
 ·have pP:(decide (1≤a.length)&&decide (a.length≤30))=false:=by simpa using sd
  rw[pP];rfl
end Go.gB
