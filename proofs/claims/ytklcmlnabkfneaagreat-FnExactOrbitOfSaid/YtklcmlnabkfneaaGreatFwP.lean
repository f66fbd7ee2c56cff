/- Part of a proof that a law returns true for every input. No condition. -/
import Derived.Test.YtklcmlnabkfneaaGreatFwO
import Derived.Shelf.GgSortFunc.InsertionK
namespace Go.de
open List Option Go.IntKind Nat Or
open Go.Sort Go.Proofs
theorem Ot {α:Type} {e:α->I} {k:Nat} (he:∀x,(e x).wd=k) {w:World} {F:Nat->Prop}:∀(xs:List α) (cs:alU) (S:Nat->Prop),a1 w F (xs.map e) cs S->
  cs.length=xs.length*k/\∃T:Nat->Nat->Prop,(∀i (ao:i<xs.length),ar w F (e xs[i]) ((cs.drop (i*k)).take k) (T i))/\(∀i b,T i b->S b)/\(∀i j b,i≠j->T i b->¬T j b)
 |[],cs,S,h=>by
  rw[map_nil,a1]at h;subst h;exact⟨by simp,λ_ _=>False,λi ao=>by simp at ao,λ_ _ h=>h.elim,λ_ _ _ _ h=>h.elim⟩
 |x::xs,cs,S,h=>by
  rw[map_cons,a1]at h;obtain⟨c1,c2,b5,dg,rfl,ab,ae,g1,g2,g3⟩:=h;have eV:=ar.length _ _ _ ab;rw[he x]at eV;obtain⟨l2,T,aM,t1,t2⟩:=Ot he xs c2 dg ae;refine⟨by rw[length_append,eV,l2,length_cons,Nat.add_mul];omega,λi b=>match i with|0=>b5 b|i+1=>T i b,λi ao=>?_,?_,?_⟩
  .cases i with
   |zero=>
    rw[Nat.zero_mul,drop_zero,take_left' eV];exact ab
   |succ i=>
    have uW:i<xs.length:=by simpa using ao
    rw[show(i+1)*k=k+i*k by rw[Nat.add_mul];omega,<-drop_drop,drop_left' eV];exact aM i uW
  .intro i b R;cases i with
   |zero=>exact g1 b R
   |succ i=>exact g2 b (t1 i b R)
  .intro i j b q8 ao bm;cases i with
   |zero=>
    cases j with
    |zero=>exact q8 rfl
    |succ j=>exact g3 b ao (t1 j b bm)
   |succ i=>
    cases j with
    |zero=>exact g3 b bm (t1 i b ao)
    |succ j=>exact t2 i j b (λe=>q8 (by rw[e])) ao bm
theorem Ou {ι:Type} {e:ι->I} {w:World} {F:Nat->Prop} (enc:ι->alU) {T:ι->Nat->Prop} (a8:∀i j b,i≠j->T i b->¬T j b):∀(ys:List ι),ys.Nodup->(∀y∈ys,ar w F (e y) (enc y) (T y))->a1 w F (ys.map e) (ys.flatMap enc) (λb=>∃y∈ys,T y b)
 |[],_,_=>by rw[map_nil,a1];rfl
 |y::ys,aS,h=>by
  rw[nodup_cons]at aS;rw[map_cons,a1];refine⟨enc y,ys.flatMap enc,T y,_,by rw[flatMap_cons],h y (by simp),Ou enc a8 ys aS.2 (λz bZ=>h z (mem_cons_of_mem _ bZ)),λb R=>⟨y,by simp,R⟩,λb ⟨z,bZ,R⟩=>⟨z,mem_cons_of_mem _ bZ,R⟩,λb R ⟨z,bZ,ll⟩=>?_⟩;exact a8 y z b (λe=>aS.1 (e▸bZ)) R ll
end Go.de
