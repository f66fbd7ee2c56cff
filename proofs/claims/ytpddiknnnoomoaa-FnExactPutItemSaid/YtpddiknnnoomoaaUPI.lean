/- Part of a proof that a law returns true for every input. No condition. -/
import Derived.Test.YtpddiknnnoomoaaU7
import Derived.Test.YtpddiknnnoomoaaUT
namespace Go.fm
open Go Go.bZ
theorem Rc (e:List aP) (h:e.length≤1048576):ua e=some e:=by
 unfold ua
 rw[uF (n:=e.length) (by omega) (by omega)]
 cases e<;>simp[both]
theorem Rd {a:List aP} (s:List UInt8) (hl:a.length≤1048576) (R:uI a):∃k:Nat,k≤a.length∧(∀ad,ad<k→eC (fA a ad) s<0)∧(∀ad,k≤ad→ad<a.length→¬eC (fA a ad) s<0)∧
  xk a s=some ((k:Int),decide (k<a.length)&&(eC (fA a k) s==0)):=by
 have mono:∀i ad,i≤ad→ad<a.length→eC (fA a ad) s<0→eC (fA a i) s<0:=by
  intro i ad SP aU ae
  by_cases e:i=ad
  ·subst e;exact ae
  ·have:=Dx R (ad-i-1) i (by omega)
   rw[show i+(ad-i-1)+1=ad by omega]at this
   rw[uH]at ae⊢
   exact Dw _ _ _ this ae
 obtain⟨k,bb,bq,cD,b1⟩:=Dz a s hl a.length 0 a.length (a.length+1) (by omega) (by omega) (by omega) (by omega) (fun ad aU=>by omega) (fun ad U aa=>by omega) mono
 refine⟨k,bb,bq,cD,kz (a.length+1) fun n aR=> ?_⟩
 obtain⟨b3,fe,ej,gp,gf⟩:=Dz a s hl a.length 0 a.length n (by omega) (by omega) (by omega) (by omega) (fun ad aU=>by omega) (fun ad U aa=>by omega) mono
 have:b3=k:=by
  rcases Nat.lt_trichotomy b3 k with cC|he|cC
  ·exact absurd (bq b3 cC) (gp b3 (by omega) (by omega))
  ·exact he
  ·exact absurd (ej k cC) (cD k (by omega) (by omega))
 subst this
 exact gf
def i7 (x:aP):List aP→Bool→List aP
 |[],f=>if f=true then []else [x]
 |y::r,f=>(if(!f&& !(Op.bytesLess y.Name x.Name))=true then [x]else [])++((if(y.Name==x.Name)=true then []else [y])++i7 x r (f|| !(Op.bytesLess y.Name x.Name)))
theorem Re (a:List aP) (x:aP) (h:a.length≤1000):tU a x=some (i7 x a false):=by
 have key:∀i,i≤a.length→∀m,a.length-i<m→∀(v:List aP) (f:Bool),v.length≤2*i→mP a x m v f (i:Int)=some (v++i7 x (a.drop i) f):=by
  refine down a.length ?_ ?_
  ·intro m hm v f aC
   obtain⟨m,rfl⟩:∃ad,m=ad+1:=⟨m-1,by omega⟩
   simp only[mP,tT,tS]
   rw[jV (Nat.le_refl _),List.drop_length,uF (n:=v.length+1) (by omega) (by omega)]
   cases f<;>simp[i7]
  ·intro i ay ih m hm v f aC
   obtain⟨m,rfl⟩:∃ad,m=ad+1:=⟨m-1,by omega⟩
   simp only[mP,tT,se,tR]
   rw[ll ay,cond_true,mc a i ay,me i _ ay (by omega),drop_cons a i ay]
   simp only[Option.bind_some]
   have dw:room 32 (v.length+1)=some ():=uF (by omega) (by omega)
   have cy:room 32 ((v++[x]).length+1)=some ():=uF (by simp;omega) (by simp;omega)
   rw[dw,cy]
   simp only[Option.bind_some]
   have ed:(v++[x]).length≤2*(i+1):=by simp;omega
   have l2:(v++[a[i]]).length≤2*(i+1):=by simp;omega
   have pH:(v++[x]++[a[i]]).length≤2*(i+1):=by simp;omega
   have DA:v.length≤2*(i+1):=by omega
   rw[ih m (by omega) _ true ed,ih m (by omega) _ true l2,ih m (by omega) _ true pH,ih m (by omega) _ true DA,ih m (by omega) _ false l2,ih m (by omega) _ false DA]
   simp only[i7]
   cases f<;>cases(Op.bytesLess a[i].Name x.Name)<;>cases(a[i].Name==x.Name)<;>simp
 unfold tU
 exact kz (a.length+1) fun m hm=>by simpa using key 0 (by omega) m (by omega) [] false (by simp)
theorem Rf {a b:List UInt8} (h:eC a b<0):(a==b)=false:=by
 by_cases e:a=b
 ·rw[(x0 a b).2 e]at h;omega
 ·simpa using e
theorem DB (x:aP):∀(l r:List aP),(∀y∈l,eC y.Name x.Name<0)→i7 x (l++r) false=l++i7 x r false
 |[],_,_=>rfl
 |y::l,r,h=>by
  have U:=h y (by simp)
  have aa:=(uH _ _).1 U
  simp only[List.cons_append,i7,aa,Rf U]
  rw[show(false|| !true)=false from rfl,DB x l r fun z bf=>h z (by simp[bf])]
  simp
theorem DC (x:aP):∀(l:List aP),(∀y∈l,(y.Name==x.Name)=false)→i7 x l true=l
 |[],_=>rfl
 |y::l,h=>by
  simp only[i7,h y (by simp),Bool.true_or,Bool.not_true,Bool.false_and]
  rw[DC x l fun z bf=>h z (by simp[bf])]
  simp
def i_ (a:List aP) (x:aP) (k:Nat):List aP:=a.take k++x::(if(decide (k<a.length)&&(eC (fA a k) x.Name==0))=true then a.drop (k+1)else a.drop k)
theorem Rg (a:List aP) (x:aP) (R:uI a) (k:Nat) (bb:k≤a.length) (bq:∀ad,ad<k→eC (fA a ad) x.Name<0) (cD:∀ad,k≤ad→ad<a.length→¬eC (fA a ad) x.Name<0):i7 x a false=i_ a x k:=by
 have lq:∀ad,(aU:ad<a.length)→fA a ad=a[ad].Name:=fun ad aU=>by simp[fA,List.getD,aU]
 have bc:i7 x a false=a.take k++i7 x (a.drop k) false:=by
  conv=>lhs;rw[←List.take_append_drop k a]
  refine DB x _ _ fun y aT=> ?_
  obtain⟨ad,aU,rfl⟩:=List.getElem_of_mem aT
  have x2:ad<k:=by rw[List.length_take]at aU;omega
  have:=bq ad x2
  rw[lq ad (by omega)]at this
  simpa using this
 rw[bc]
 unfold i_
 congr 1
 by_cases al:k<a.length
 ·have aR:=cD k (Nat.le_refl _) al
  have wb:Op.bytesLess a[k].Name x.Name=false:=by
   rw[←lq k al,Bool.eq_false_iff]
   exact fun h=>aR ((uH _ _).2 h)
  have Rh:∀y∈a.drop (k+1),(y.Name==x.Name)=false:=fun y aT=>by
   obtain⟨ad,aU,rfl⟩:=List.getElem_of_mem aT
   have x2:k+1+ad<a.length:=by rw[List.length_drop]at aU;omega
   rw[List.getElem_drop,←lq _ x2]
   by_cases e:fA a (k+1+ad)=x.Name
   ·have U:=Dx R ad k (by omega)
    rw[show k+ad+1=k+1+ad by omega,e]at U
    exact absurd ((uH _ _).2 U) aR
   ·simpa using e
  rw[drop_cons a k al]
  simp only[i7,wb,Bool.not_false,Bool.false_or,Bool.and_self,if_true]
  rw[DC x _ Rh,lq k al,decide_eq_true al,Bool.true_and]
  by_cases e:a[k].Name=x.Name
  ·rw[if_pos (by simpa using e),if_pos (by simpa using (x0 _ _).2 e)]
   simp
  ·rw[if_neg (by simpa using e),if_neg (by simpa using fun h=>e ((x0 _ _).1 h))]
   simp
 ·rw[List.drop_of_length_le (by omega),decide_eq_false al]
  simp[i7]
theorem DD (a:List aP) (x:aP) (k:Nat) (bb:k≤a.length):(i_ a x k).length=if(decide (k<a.length)&&(eC (fA a k) x.Name==0))=true then a.length else a.length+1:=by
 unfold i_
 split
 ·rename_i h
  simp only[Bool.and_eq_true,decide_eq_true_eq]at h
  simp;omega
 ·simp;omega
theorem Ri (a:List aP) (x:aP) (h:sK a) (ao:x.Name.length≤1048576∧x.ck.length≤1048576):∃r:List aP×Int,tV a x=some r∧sk a x=some r∧(r.1=[]∨∃k,r.1=i_ a x k∧k≤a.length∧a.length≤16):=by
 unfold tV sk
 rw[Q8 a h,Q9 a h,Dr,Ds _ (by omega),xX _ (by omega),Dq _ (by omega)]
 simp only[Option.bind_some]
 cases bs:pe a
 ·exact⟨_,rfl,rfl,.inl rfl⟩
 obtain⟨R,xZ⟩:=Rb bs
 simp only[Bool.not_true,cond_false]
 cases ln x.Name
 ·exact⟨_,rfl,rfl,.inl rfl⟩
 cases((m3 x.ck).2 !=0)
 case true=>exact⟨_,rfl,rfl,.inl rfl⟩
 simp only[Bool.not_true,cond_false]
 obtain⟨k,bb,bq,cD,b1⟩:=Rd x.Name h.1 R
 rw[Re a x (by omega),Rg a x R k bb bq cD,Rc a h.1]
 simp only[Option.bind_some]
 rw[b1]
 simp only[Option.bind_some]
 have hl:=DD a x k bb
 cases he:(decide (k<a.length)&&(eC (fA a k) x.Name==0))
 ·rw[he]at hl
  simp only[Bool.false_eq_true,if_false]at hl
  simp only[cond_false]
  by_cases aw:16≤a.length
  ·rw[show decide ((16:Int)<((i_ a x k).length:Int))=true from decide_eq_true (by omega),show decide ((16:Int)≤(a.length:Int))=true from decide_eq_true (by omega)]
   exact⟨_,rfl,rfl,.inl rfl⟩
  ·rw[show decide ((16:Int)<((i_ a x k).length:Int))=false from decide_eq_false (by omega),show decide ((16:Int)≤(a.length:Int))=false from decide_eq_false (by omega)]
   refine⟨_,rfl,?_,.inr ⟨k,rfl,bb,xZ⟩⟩
   have e:qC a (k:Int) [x]=some (i_ a x k):=by
    unfold qC i_
    rw[if_pos ⟨by omega,by omega,rfl,by omega⟩,he]
    simp
   rw[e]
   rfl
 ·have al:k<a.length:=by simp only[Bool.and_eq_true,decide_eq_true_eq]at he;exact he.1
  rw[he]at hl
  simp only[if_true]at hl
  rw[show decide ((16:Int)<((i_ a x k).length:Int))=false from decide_eq_false (by omega),mc a k al]
  refine⟨_,rfl,?_,.inr ⟨k,rfl,bb,xZ⟩⟩
  simp only[cond_true,Option.bind_some,ud,Int.toNat_natCast,cond_false]
  unfold i_
  rw[he,if_pos rfl,List.set_eq_take_append_cons_drop,if_pos al]
theorem Rj (a:List aP) (x:aP) (k:Nat):ep eP (i_ a x k)≤ep eP a+eP x+1:=by
 have ab:∀l:List aP,ep eP l.tail≤ep eP l:=fun l=>by
  cases l with
  |nil=>exact Nat.le_refl _
  |cons y r=>simp only[ep,List.tail_cons,List.length_cons,gl];omega
 have bN:∀l m:List aP,ep eP (l++m)=ep eP l+ep eP m:=fun l m=>by
  induction l with
  |nil=>simp[ep,gl]
  |cons y r ih=>simp only[ep,List.cons_append,List.length_cons,gl]at ih⊢;omega
 have U:ep eP a=ep eP (a.take k)+ep eP (a.drop k):=by rw[←bN,List.take_append_drop]
 have aa:=ab (a.drop k)
 rw[List.tail_drop]at aa
 have aw:∀m:List aP,ep eP (x::m)=ep eP m+eP x+1:=fun m=>by simp only[ep,List.length_cons,gl];omega
 unfold i_
 rw[bN,aw]
 split<;>omega
theorem QB (A:List eA) (B:eA) (bN:A.length≤9223372036854775807∧∀y∈A,nO y) (I:nO B):xl A B=some true:=by
 unfold xl
 rw[QZ A 1048576 bN (by omega) (by omega),Option.bind_some]
 by_cases R:ep gX A≤1048576
 ·rw[uC (by omega),show decide ((1048576:Int)-((ep gX A:Nat):Int)<0)=false from decide_eq_false (by omega),cond_false,Dh B _ I (by omega) (by omega),Option.bind_some]
  by_cases ae:((gX B:Nat):Int)≤1048576-((ep gX A:Nat):Int)
  ·rw[uC ae,show decide ((1048576:Int)-((ep gX A:Nat):Int)-((gX B:Nat):Int)<0)=false from decide_eq_false (by omega),cond_false]
   have x3:gX B≤1048576:=by omega
   have s2:=x3
   simp only[gX]at s2
   have uA:sK (A.map gJ):=by
    refine⟨by have:=uD gX A;simp;omega,fun x ao=> ?_⟩
    obtain⟨u,hu,rfl⟩:=List.mem_map.1 ao
    have aw:=uE (f:=gX) hu
    simp only[gX]at aw
    simp only[gJ];omega
   have bf:ep eP (A.map gJ)≤1048576:=by
    rw[Da];simp only[Di];exact R
   obtain⟨r,dw,cy,fu⟩:=Ri (A.map gJ) (gJ B) uA (by simp only[gJ];omega)
   have vg:eP (gJ B)≤1048576:=by rw[Di];exact x3
   have r3:∀y∈A.map gJ,eP y≤1048576:=fun y aT=>Nat.le_trans (uE aT) bf
   obtain⟨fe,ej,gp⟩:r.1.length≤1048576∧(∀y∈r.1,eP y≤1048576)∧ep eP r.1≤3145728:=by
    rcases fu with fu|⟨k,fu,bb,ko⟩
    ·rw[fu];exact⟨by simp,fun y aT=>by simp at aT,by decide⟩
    ·have hl:=DD (A.map gJ) (gJ B) k bb
     have hm:∀y∈i_ (A.map gJ) (gJ B) k,y=gJ B∨y∈A.map gJ:=by
      intro y aT
      unfold i_ at aT
      rw[List.mem_append,List.mem_cons]at aT
      rcases aT with aT|aT|aT
      ·exact .inr (List.mem_of_mem_take aT)
      ·exact .inl aT
      ·split at aT<;>exact .inr (List.mem_of_mem_drop aT)
     rw[fu]
     refine⟨by rw[hl];split<;>omega,fun y aT=> ?_,?_⟩
     ·rcases hm y aT with rfl|h
      ·exact vg
      ·exact r3 y h
     ·have:=Rj (A.map gJ) (gJ B) k
      omega
   have heq:l3 r.1 r.1=some true:=Ra r.1 fe
   obtain⟨eb,bB,_,d1,_⟩:=Dl (A.map gJ) 1 (by omega) (by omega)
   obtain⟨fc,bF,_,d2,d3⟩:=Dl r.1 1 (by omega) (by omega)
   rw[Q0 A R,Dj B x3]
   simp only[Option.bind_some,dw,cy,heq,Q2 _ bf,d1,d2,d3,bne_self_eq_false,Bool.not_true,Bool.or_self,cond_false,Dc (show(0:Int)≤1+(bB:Int) by omega),Dc (show(0:Int)≤1+(bF:Int) by omega)]
  ·rw[sH (by omega)];rfl
 ·rw[sH (by omega)];rfl
end Go.fm
