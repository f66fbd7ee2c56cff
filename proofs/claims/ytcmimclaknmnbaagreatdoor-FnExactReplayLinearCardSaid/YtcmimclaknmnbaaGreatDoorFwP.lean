/- Part of a proof that a law returns true for every input. No condition. -/
import Derived.Test.YtcmimclaknmnbaaGreatDoorFwO
import Derived.Shelf.GgSortFunc.InsertionK
namespace Go.cC
open List Option Go.IntKind Nat Or
open Go.Sort Go.Proofs
theorem QJ {α:Type} {e:α->I} {k:Nat} (he:∀x,(e x).wd=k) {w:World} {F:Nat->Prop}:∀(xs:List α) (cs:anX) (S:Nat->Prop),aW w F (xs.map e) cs S->
  cs.length=xs.length*k/\∃T:Nat->Nat->Prop,(∀i (ak:i<xs.length),ar w F (e xs[i]) ((cs.drop (i*k)).take k) (T i))/\(∀i b,T i b->S b)/\(∀i j b,i≠j->T i b->¬T j b)
 |[],cs,S,h=>by
  rw[map_nil,aW]at h;subst h;exact⟨by simp,λ_ _=>False,λi ak=>by simp at ak,λ_ _ h=>h.elim,λ_ _ _ _ h=>h.elim⟩
 |x::xs,cs,S,h=>by
  rw[map_cons,aW]at h;obtain⟨c1,c2,bR,cH,rfl,h1,ab,g1,g2,g3⟩:=h;have en:=ar.length _ _ _ h1;rw[he x]at en;obtain⟨l2,T,ax,t1,t2⟩:=QJ he xs c2 cH ab;refine⟨by rw[length_append,en,l2,length_cons,Nat.add_mul];omega,λi b=>match i with|0=>bR b|i+1=>T i b,λi ak=>?_,?_,?_⟩
  .cases i with
   |zero=>
    rw[Nat.zero_mul,drop_zero,take_left' en];exact h1
   |succ i=>
    have xE:i<xs.length:=by simpa using ak
    rw[show(i+1)*k=k+i*k by rw[Nat.add_mul];omega,<-drop_drop,drop_left' en];exact ax i xE
  .intro i b R;cases i with
   |zero=>exact g1 b R
   |succ i=>exact g2 b (t1 i b R)
  .intro i j b D3 ak bo;cases i with
   |zero=>
    cases j with
    |zero=>exact D3 rfl
    |succ j=>exact g3 b ak (t1 j b bo)
   |succ i=>
    cases j with
    |zero=>exact g3 b bo (t1 i b ak)
    |succ j=>exact t2 i j b (λe=>D3 (by rw[e])) ak bo
theorem QK {ι:Type} {e:ι->I} {w:World} {F:Nat->Prop} (enc:ι->anX) {T:ι->Nat->Prop} (aL:∀i j b,i≠j->T i b->¬T j b):∀(ys:List ι),ys.Nodup->(∀y∈ys,ar w F (e y) (enc y) (T y))->aW w F (ys.map e) (ys.flatMap enc) (λb=>∃y∈ys,T y b)
 |[],_,_=>by rw[map_nil,aW];rfl
 |y::ys,aN,h=>by
  rw[nodup_cons]at aN;rw[map_cons,aW];refine⟨enc y,ys.flatMap enc,T y,_,by rw[flatMap_cons],h y (by simp),QK enc aL ys aN.2 (λz bC=>h z (mem_cons_of_mem _ bC)),λb R=>⟨y,by simp,R⟩,λb ⟨z,bC,R⟩=>⟨z,mem_cons_of_mem _ bC,R⟩,λb R ⟨z,bC,iA⟩=>?_⟩;exact aL y z b (λe=>aN.1 (e▸bC)) R iA
end Go.cC
