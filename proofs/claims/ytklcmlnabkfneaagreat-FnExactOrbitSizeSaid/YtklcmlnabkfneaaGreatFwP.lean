/- Part of a proof that a law returns true for every input. No condition. -/
import Derived.Test.YtklcmlnabkfneaaGreatFwO
import Derived.Shelf.GgSortFunc.InsertionK
namespace Go.cU
open List Option Go.IntKind Nat Or
open Go.Sort Go.Proofs
theorem Mf {α:Type} {e:α->I} {k:Nat} (he:∀x,(e x).wd=k) {w:World} {F:Nat->Prop}:∀(xs:List α) (cs:aiD) (S:Nat->Prop),aV w F (xs.map e) cs S->
  cs.length=xs.length*k/\∃T:Nat->Nat->Prop,(∀i (ak:i<xs.length),aq w F (e xs[i]) ((cs.drop (i*k)).take k) (T i))/\(∀i b,T i b->S b)/\(∀i j b,i≠j->T i b->¬T j b)
 |[],cs,S,h=>by
  rw[map_nil,aV]at h;subst h;exact⟨by simp,λ_ _=>False,λi ak=>by simp at ak,λ_ _ h=>h.elim,λ_ _ _ _ h=>h.elim⟩
 |x::xs,cs,S,h=>by
  rw[map_cons,aV]at h;obtain⟨c1,c2,bM,c3,rfl,ab,ad,g1,g2,g3⟩:=h;have ev:=aq.length _ _ _ ab;rw[he x]at ev;obtain⟨l2,T,aK,t1,t2⟩:=Mf he xs c2 c3 ad;refine⟨by rw[length_append,ev,l2,length_cons,Nat.add_mul];omega,λi b=>match i with|0=>bM b|i+1=>T i b,λi ak=>?_,?_,?_⟩
  .cases i with
   |zero=>
    rw[Nat.zero_mul,drop_zero,take_left' ev];exact ab
   |succ i=>
    have tG:i<xs.length:=by simpa using ak
    rw[show(i+1)*k=k+i*k by rw[Nat.add_mul];omega,<-drop_drop,drop_left' ev];exact aK i tG
  .intro i b R;cases i with
   |zero=>exact g1 b R
   |succ i=>exact g2 b (t1 i b R)
  .intro i j b qc ak bd;cases i with
   |zero=>
    cases j with
    |zero=>exact qc rfl
    |succ j=>exact g3 b ak (t1 j b bd)
   |succ i=>
    cases j with
    |zero=>exact g3 b bd (t1 i b ak)
    |succ j=>exact t2 i j b (λe=>qc (by rw[e])) ak bd
theorem Mg {ι:Type} {e:ι->I} {w:World} {F:Nat->Prop} (enc:ι->aiD) {T:ι->Nat->Prop} (aY:∀i j b,i≠j->T i b->¬T j b):∀(ys:List ι),ys.Nodup->(∀y∈ys,aq w F (e y) (enc y) (T y))->aV w F (ys.map e) (ys.flatMap enc) (λb=>∃y∈ys,T y b)
 |[],_,_=>by rw[map_nil,aV];rfl
 |y::ys,aP,h=>by
  rw[nodup_cons]at aP;rw[map_cons,aV];refine⟨enc y,ys.flatMap enc,T y,_,by rw[flatMap_cons],h y (by simp),Mg enc aY ys aP.2 (λz bO=>h z (mem_cons_of_mem _ bO)),λb R=>⟨y,by simp,R⟩,λb ⟨z,bO,R⟩=>⟨z,mem_cons_of_mem _ bO,R⟩,λb R ⟨z,bO,kK⟩=>?_⟩;exact aY y z b (λe=>aP.1 (e▸bO)) R kK
end Go.cU
