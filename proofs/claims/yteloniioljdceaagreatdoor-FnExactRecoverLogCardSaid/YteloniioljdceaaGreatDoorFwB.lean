/- Part of a proof that a law returns true for every input. No condition. -/
import Derived.Test.YteloniioljdceaaGreatDoorFwA
import Derived.Laws.AppendOwn
import Derived.Calls
namespace Go.ca
open List Option Go.IntKind Nat Or
inductive q6 where
 |mp (es:RB)
 |nu
 |e9 (T e:TypeId) (hv:RD)
inductive I where
 |hole
 |bool (b:Bool)
 |dB
 |int (k:IntKind) (n:Int)
 |str (s:RD)
 |cu
 |bz
 |slice (xs:List I)
 |aE (sz:Nat) (xs:List I)
 |ref (d:I)
 |bC (d:I)
 |agg (al:List I)
 |tuple (vs:List I)
 |fn (f:FuncId) (cap:List I)
 |h (x:Nat) (q:RG)
 |af (x:Nat) (q:RG)
 |J (x:Nat) (k:Nat)
 |cf (o:q6)
 |dE (f:FuncId) (cap:List I)
 deriving Inhabited
abbrev RL:=List I
abbrev RK:=List (Nat×I)
mutual
def I.wd:I->Nat
 | .agg al=>I.cp al
 | .tuple al=>I.cp al
 |_=>1
def I.cp:RL->Nat
 |[]=>0
 |d::ds=>d.wd+I.cp ds
end
def e_ (w:World) (b o:Nat) (cs:RJ):Prop:=∀j c,cs[j]? =some c->w.cell? ⟨b,o+j,none⟩=some c
def jd (fr:Nat×Nat) (n:Nat):Prop:=∀o,o<n->¬(fr.1<=o/\o<fr.2)
theorem jd.le {fr:Nat×Nat} {m n:Nat} (h:jd fr n) (hm:m<=n):jd fr m:=λo ba=>h o (Nat.lt_of_lt_of_le ba hm)
theorem jd.low {fr:Nat×Nat} {n k:Nat} (h:jd fr (n+k)):jd fr n:=h.le (le_add_right _ _)
def Value.eh:Value->Bool
 | .agg _=>false
 | .tuple _=>false
 |_=>true
def I.single:I->Bool
 | .agg _=>false
 | .tuple _=>false
 | .hole=>false
 |_=>true
def I.one:I->Bool
 | .agg _=>false
 | .tuple _=>false
 |_=>true
def ik (w:World):q6->RJ->(Nat->Prop)->Prop
 | .mp es,cs,S=>∃r ms je,cs=[.map (some r)]/\S r/\w.heap[r]? =some (.map ms je)/\ms.toList.map (λe=>(e.key,e.val))=es.map (λe=>(.string ⟨⟨e.1⟩⟩,.bool e.2))
 | .nu,cs,_=>cs=[.map none]
 | .e9 T e hv,cs,S=>∃b a oi,cs=[.pointer (some ⟨b,0,none⟩)]/\S b/\w.heap[b]? =some (.cells #[a,oi] T (0,0))/\(a= .pointer none\/a= .pointer (some ⟨b,0,none⟩))/\
   ((hv=[]/\oi= .slice none 0 0)\/
     ∃g cap cur,oi= .slice (some ⟨g,0,none⟩) hv.length cap/\S g/\g≠b/\w.heap[g]? =some (.cells cur e (0,0))/\hv.length<=cap/\cap<=maxLen/\cur.size=cap/\
      cur.toList.take hv.length=hv.map λx=>.int .u8 x.toNat)
theorem ik.frame {w an:World}:∀{o:q6} {cs:RJ} {S:Nat->Prop},(∀b,S b->an.heap[b]? =w.heap[b]?)->ik w o cs S->ik an o cs S
 | .mp _,_,_,a_,⟨r,ms,je,U,ab,ay,aQ⟩=>⟨r,ms,je,U,ab,(a_ _ ab).trans ay,aQ⟩
 | .nu,_,_,_,h=>h
 | .e9 _ _ _,_,_,a_,⟨b,a,oi,U,ab,ay,aQ,bc⟩=>⟨b,a,oi,U,ab,(a_ _ ab).trans ay,aQ,bc.imp (λh=>h) λ⟨g,cap,cur,j8,i2,i3,i4,i5⟩=>⟨g,cap,cur,j8,i2,i3,(a_ _ i2).trans i4,i5⟩⟩
theorem ik.mono {w:World}:∀{o:q6} {cs:RJ} {S aB:Nat->Prop},(∀b,S b->aB b)->ik w o cs S->ik w o cs aB
 | .mp _,_,_,_,a_,⟨r,ms,je,U,ab,ay⟩=>⟨r,ms,je,U,a_ _ ab,ay⟩
 | .nu,_,_,_,_,h=>h
 | .e9 _ _ _,_,_,_,a_,⟨b,a,oi,U,ab,ay,aQ,bc⟩=>⟨b,a,oi,U,a_ _ ab,ay,aQ,bc.imp (λh=>h) λ⟨g,cap,cur,j8,i2,i3⟩=>⟨g,cap,cur,j8,a_ _ i2,i3⟩⟩
theorem ik.one {w:World}:∀{o:q6} {cs:RJ} {S:Nat->Prop},ik w o cs S->∃v,Value.eh v=true/\cs=[v]
 | .mp _,_,_,⟨_,_,_,h,_⟩=>⟨_,rfl,h⟩
 | .nu,_,_,h=>⟨_,rfl,h⟩
 | .e9 _ _ _,_,_,⟨_,_,_,h,_⟩=>⟨_,rfl,h⟩
mutual
def ah (w:World) (F:Nat->Prop):I->RJ->(Nat->Prop)->Prop
 | .hole,cs,_=>∃v,Value.eh v=true/\cs=[v]
 | .bool b,cs,_=>cs=[.bool b]
 | .dB,cs,_=>∃b,cs=[.bool b]
 | .int k n,cs,_=>cs=[.int k n]
 | .str s,cs,_=>cs=[.string ⟨⟨s⟩⟩]
 | .cu,cs,_=>cs=[.pointer none]
 | .bz,cs,_=>cs=[.slice none 0 0]
 | .slice xs,cs,_=>(xs=[]/\∃a c,cs=[.slice a 0 c]/\c<=maxLen/\(a=none->c=0))\/
   ∃b o cap cV sz,cs=[.slice (some ⟨b,o,none⟩) xs.length cap]/\F b/\xs.length<=cap/\cap<=maxLen/\(∀d∈xs,d.wd=sz)/\
    e_ w b o cV/\aH w F xs cV (λ_=>False)
 | .aE sz xs,cs,S=>(xs=[]/\∃a,cs=[.slice a 0 0])\/
   ∃b cap cur e fr aB,cs=[.slice (some ⟨b,0,none⟩) xs.length cap]/\S b/\w.heap[b]? =some (.cells cur e fr)/\jd fr (cur.size+(sz-1))/\
    xs.length<=cap/\cap<=maxLen/\cur.size=cap*sz/\(∀d∈xs,d.wd=sz)/\aH w F xs (cur.toList.take (xs.length*sz)) aB/\(∀c,aB c->S c)/\¬aB b
 | .ref d,cs,_=>∃b o cV,cs=[.pointer (some ⟨b,o,none⟩)]/\F b/\e_ w b o cV/\ah w F d cV (λ_=>False)
 | .bC d,cs,S=>∃b cur e fr aB,cs=[.pointer (some ⟨b,0,none⟩)]/\S b/\w.heap[b]? =some (.cells cur e fr)/\jd fr cur.size/\
   ah w F d cur.toList aB/\(∀c,aB c->S c)/\¬aB b
 | .agg al,cs,S=>aH w F al cs S
 | .tuple al,cs,S=>aH w F al cs S
 | .fn f caps,cs,_=>∃arr:Array Value,cs=[.func (.func f) #[] arr]/\(∀d∈caps,d.single=true)/\aH w F caps arr.toList (λ_=>False)
 | .h _ _,_,_=>False
 | .af _ _,_,_=>False
 | .J _ _,_,_=>False
 | .cf o,cs,S=>ik w o cs S
 | .dE f caps,cs,S=>∃arr:Array Value,cs=[.func (.func f) #[] arr]/\(∀d∈caps,d.one=true)/\aH w F caps arr.toList S
def aH (w:World) (F:Nat->Prop):RL->RJ->(Nat->Prop)->Prop
 |[],cs,_=>cs=[]
 |d::ds,cs,S=>∃bb c2 bg b0,cs=bb++c2/\ah w F d bb bg/\aH w F ds c2 b0/\(∀b,bg b->S b)/\(∀b,b0 b->S b)/\(∀b,bg b->¬b0 b)
end
theorem cell?_of_block {w an:World} {b:Nat} (h:an.heap[b]? =w.heap[b]?) (o:Nat):an.cell? ⟨b,o,none⟩=w.cell? ⟨b,o,none⟩:=by
 simp[World.cell?,h]
theorem e_.frame {w an:World} {b o:Nat} {cs:RJ} (h:an.heap[b]? =w.heap[b]?) (ax:e_ w b o cs):e_ an b o cs:=
 λj c ae=>(cell?_of_block h _).trans (ax j c ae)
mutual
theorem ah.frame {w an:World} {F:Nat->Prop} (aL:∀b,F b->an.heap[b]? =w.heap[b]?):
  ∀(d:I) (cs:RJ) (S:Nat->Prop),(∀b,S b->an.heap[b]? =w.heap[b]?)->ah w F d cs S->ah an F d cs S
 | .hole,_,_,_,h=>h
 | .bool _,_,_,_,h=>h
 | .dB,_,_,_,h=>h
 | .int _ _,_,_,_,h=>h
 | .str _,_,_,_,h=>h
 | .cu,_,_,_,h=>h
 | .bz,_,_,_,h=>h
 | .slice xs,cs,S,a_,h=>by
   rw[ah]at h⊢;rcases h with h|⟨b,o,cap,cV,sz,U,ab,ay,aQ,bc,bW,b4⟩
   .exact .inl h
   .exact .inr ⟨b,o,cap,cV,sz,U,ab,ay,aQ,bc,bW.frame (aL _ ab),aH.frame aL xs _ _ (λ_ h=>h.elim) b4⟩
 | .aE sz xs,cs,S,a_,h=>by
   rw[ah]at h⊢;rcases h with h|⟨b,cap,cur,e,fr,aB,U,ab,ay,aQ,bc,bW,b4,cP,fD,fs,il⟩
   .exact .inl h
   .exact .inr ⟨b,cap,cur,e,fr,aB,U,ab,(a_ _ ab).trans ay,aQ,bc,bW,b4,cP,aH.frame aL xs _ _ (λc ae=>a_ _ (fs _ ae)) fD,fs,il⟩
 | .ref d,cs,S,a_,h=>by
   rw[ah]at h⊢;obtain⟨b,o,cV,U,ab,ay,aQ⟩:=h;exact⟨b,o,cV,U,ab,ay.frame (aL _ ab),ah.frame aL d _ _ (λ_ h=>h.elim) aQ⟩
 | .bC d,cs,S,a_,h=>by
   rw[ah]at h⊢;obtain⟨b,cur,e,fr,aB,U,ab,ay,aQ,bc,bW,b4⟩:=h;exact⟨b,cur,e,fr,aB,U,ab,(a_ _ ab).trans ay,aQ,ah.frame aL d _ _ (λc ae=>a_ _ (bW _ ae)) bc,bW,b4⟩
 | .agg al,cs,S,a_,h=>by rw[ah]at h⊢;exact aH.frame aL al _ _ a_ h
 | .tuple al,cs,S,a_,h=>by rw[ah]at h⊢;exact aH.frame aL al _ _ a_ h
 | .fn _ caps,cs,S,a_,h=>by
   rw[ah]at h⊢;obtain⟨arr,U,ab,ay⟩:=h;exact⟨arr,U,ab,aH.frame aL caps _ _ (λ_ h=>h.elim) ay⟩
 | .h _ _,_,_,_,h=>h
 | .af _ _,_,_,_,h=>h
 | .J _ _,_,_,_,h=>h
 | .cf _,_,_,a_,h=>ik.frame a_ h
 | .dE _ caps,cs,S,a_,h=>by
   rw[ah]at h⊢;obtain⟨arr,U,ab,ay⟩:=h;exact⟨arr,U,ab,aH.frame aL caps _ _ a_ ay⟩
theorem aH.frame {w an:World} {F:Nat->Prop} (aL:∀b,F b->an.heap[b]? =w.heap[b]?):
  ∀(ds:RL) (cs:RJ) (S:Nat->Prop),(∀b,S b->an.heap[b]? =w.heap[b]?)->aH w F ds cs S->aH an F ds cs S
 |[],_,_,_,h=>h
 |d::ds,cs,S,a_,h=>by
  rw[aH]at h⊢;obtain⟨bb,c2,bg,b0,U,ab,ay,aQ,bc,bW⟩:=h;exact⟨bb,c2,bg,b0,U,ah.frame aL d _ _ (λb J=>a_ _ (aQ _ J)) ab,aH.frame aL ds _ _ (λb J=>a_ _ (bc _ J)) ay,aQ,bc,bW⟩
end
mutual
theorem ah.mono {w:World} {F a8:Nat->Prop} (aL:∀b,F b->a8 b):
  ∀(d:I) (cs:RJ) (S aB:Nat->Prop),(∀b,S b->aB b)->ah w F d cs S->ah w a8 d cs aB
 | .hole,_,_,_,_,h=>h
 | .bool _,_,_,_,_,h=>h
 | .dB,_,_,_,_,h=>h
 | .int _ _,_,_,_,_,h=>h
 | .str _,_,_,_,_,h=>h
 | .cu,_,_,_,_,h=>h
 | .bz,_,_,_,_,h=>h
 | .slice xs,cs,S,_,a_,h=>by
   rw[ah]at h⊢;rcases h with h|⟨b,o,cap,cV,sz,U,ab,ay,aQ,bc,bW,b4⟩
   .exact .inl h
   .exact .inr ⟨b,o,cap,cV,sz,U,aL _ ab,ay,aQ,bc,bW,aH.mono aL xs _ _ _ (λ_ h=>h) b4⟩
 | .aE sz xs,cs,S,_,a_,h=>by
   rw[ah]at h⊢;rcases h with h|⟨b,cap,cur,e,fr,aB,U,ab,ay,aQ,bc,bW,b4,cP,fD,fs,il⟩
   .exact .inl h
   .exact .inr ⟨b,cap,cur,e,fr,aB,U,a_ _ ab,ay,aQ,bc,bW,b4,cP,aH.mono aL xs _ _ _ (λ_ h=>h) fD,λc ae=>a_ _ (fs _ ae),il⟩
 | .ref d,cs,S,_,a_,h=>by
   rw[ah]at h⊢;obtain⟨b,o,cV,U,ab,ay,aQ⟩:=h;exact⟨b,o,cV,U,aL _ ab,ay,ah.mono aL d _ _ _ (λ_ h=>h) aQ⟩
 | .bC d,cs,S,_,a_,h=>by
   rw[ah]at h⊢;obtain⟨b,cur,e,fr,aB,U,ab,ay,aQ,bc,bW,b4⟩:=h;exact⟨b,cur,e,fr,aB,U,a_ _ ab,ay,aQ,ah.mono aL d _ _ _ (λ_ h=>h) bc,λc ae=>a_ _ (bW _ ae),b4⟩
 | .agg al,cs,S,_,a_,h=>by rw[ah]at h⊢;exact aH.mono aL al _ _ _ a_ h
 | .tuple al,cs,S,_,a_,h=>by rw[ah]at h⊢;exact aH.mono aL al _ _ _ a_ h
 | .fn _ caps,cs,S,_,a_,h=>by
   rw[ah]at h⊢;obtain⟨arr,U,ab,ay⟩:=h;exact⟨arr,U,ab,aH.mono aL caps _ _ _ (λ_ h=>h) ay⟩
 | .h _ _,_,_,_,_,h=>h
 | .af _ _,_,_,_,_,h=>h
 | .J _ _,_,_,_,_,h=>h
 | .cf _,_,_,_,a_,h=>ik.mono a_ h
 | .dE _ caps,cs,S,_,a_,h=>by
   rw[ah]at h⊢;obtain⟨arr,U,ab,ay⟩:=h;exact⟨arr,U,ab,aH.mono aL caps _ _ _ a_ ay⟩
theorem aH.mono {w:World} {F a8:Nat->Prop} (aL:∀b,F b->a8 b):
  ∀(ds:RL) (cs:RJ) (S aB:Nat->Prop),(∀b,S b->aB b)->aH w F ds cs S->aH w a8 ds cs aB
 |[],_,_,_,_,h=>h
 |d::ds,cs,S,_,a_,h=>by
  rw[aH]at h⊢;obtain⟨bb,c2,bg,b0,U,ab,ay,aQ,bc,bW⟩:=h;exact⟨bb,c2,bg,b0,U,ah.mono aL d _ _ _ (λ_ h=>h) ab,aH.mono aL ds _ _ _ (λ_ h=>h) ay,λb J=>a_ _ (aQ _ J),λb J=>a_ _ (bc _ J),bW⟩
end
mutual
theorem ah.length {w:World} {F:Nat->Prop}:∀(d:I) (cs:RJ) (S:Nat->Prop),ah w F d cs S->cs.length=d.wd
 | .hole,cs,S,h=>by rw[ah]at h;obtain⟨v,_,rfl⟩:=h;rfl
 | .bool _,cs,S,h=>by rw[ah]at h;subst h;rfl
 | .dB,cs,S,h=>by rw[ah]at h;obtain⟨b,rfl⟩:=h;rfl
 | .int _ _,cs,S,h=>by rw[ah]at h;subst h;rfl
 | .str _,cs,S,h=>by rw[ah]at h;subst h;rfl
 | .cu,cs,S,h=>by rw[ah]at h;subst h;rfl
 | .bz,cs,S,h=>by rw[ah]at h;subst h;rfl
 | .slice xs,cs,S,h=>by
   rw[ah]at h;rcases h with⟨_,a,c,rfl,_⟩|⟨b,o,cap,cV,sz,rfl,_⟩<;>rfl
 | .aE sz xs,cs,S,h=>by
   rw[ah]at h;rcases h with⟨_,a,rfl⟩|⟨b,cap,cur,e,fr,aB,rfl,_⟩<;>rfl
 | .ref d,cs,S,h=>by rw[ah]at h;obtain⟨b,o,cV,rfl,_⟩:=h;rfl
 | .bC d,cs,S,h=>by rw[ah]at h;obtain⟨b,o,cV,_,_,rfl,_⟩:=h;rfl
 | .agg al,cs,S,h=>by rw[ah]at h;exact aH.length al _ _ h
 | .tuple al,cs,S,h=>by rw[ah]at h;exact aH.length al _ _ h
 | .fn _ _,cs,S,h=>by rw[ah]at h;obtain⟨arr,rfl,_⟩:=h;rfl
 | .h _ _,cs,S,h=>by rw[ah]at h;exact h.elim
 | .af _ _,cs,S,h=>by rw[ah]at h;exact h.elim
 | .J _ _,cs,S,h=>by rw[ah]at h;exact h.elim
 | .cf _,cs,S,h=>by rw[ah]at h;obtain⟨v,_,rfl⟩:=ik.one h;rfl
 | .dE _ _,cs,S,h=>by rw[ah]at h;obtain⟨arr,rfl,_⟩:=h;rfl
theorem aH.length {w:World} {F:Nat->Prop}:∀(ds:RL) (cs:RJ) (S:Nat->Prop),aH w F ds cs S->cs.length=I.cp ds
 |[],cs,S,h=>by rw[aH]at h;subst h;rfl
 |d::ds,cs,S,h=>by
  rw[aH]at h;obtain⟨bb,c2,bg,b0,rfl,ab,ay,_⟩:=h;rw[length_append,ah.length d _ _ ab,aH.length ds _ _ ay,I.cp]
end
mutual
def I.share:I->I
 | .aE _ xs=>.slice (I.shares xs)
 | .bC d=>.ref d.share
 | .slice xs=>.slice (I.shares xs)
 | .ref d=>.ref d.share
 | .agg al=>.agg (I.shares al)
 | .tuple al=>.tuple (I.shares al)
 | .cf _=>.hole
 | .dE _ _=>.hole
 |d=>d
def I.shares:RL->RL
 |[]=>[]
 |d::ds=>d.share::I.shares ds
end
theorem I.oj (ds:RL):I.shares ds=ds.map I.share:=by
 induction ds with
 |nil=>rfl
 |cons d ds ih=>simp[I.shares,ih]
mutual
theorem I.ts:∀d:I,d.share.wd=d.wd
 | .hole=>rfl
 | .bool _=>rfl
 | .dB=>rfl
 | .int _ _=>rfl
 | .str _=>rfl
 | .cu=>rfl
 | .bz=>rfl
 | .slice _=>rfl
 | .aE _ _=>rfl
 | .ref _=>rfl
 | .bC _=>rfl
 | .agg al=>by simp only[I.share,I.wd];exact I.v8 al
 | .tuple al=>by simp only[I.share,I.wd];exact I.v8 al
 | .fn _ _=>rfl
 | .h _ _=>rfl
 | .af _ _=>rfl
 | .J _ _=>rfl
 | .cf _=>rfl
 | .dE _ _=>rfl
theorem I.v8:∀ds:RL,I.cp (I.shares ds)=I.cp ds
 |[]=>rfl
 |d::ds=>by simp only[I.shares,I.cp];rw[I.ts d,I.v8 ds]
end
theorem pH {w:World} {b:Nat} {cur:Array Value} {e:TypeId} {fr:Nat×Nat} (h:w.heap[b]? =some (.cells cur e fr)) (n:Nat):e_ w b 0 (cur.toList.take n):=by
 intro j c ae;rw[getElem?_take]at ae;split at ae
 .simp[World.cell?,h];simpa using ae
 .cases ae
mutual
theorem ah.shared {w:World} {F a8:Nat->Prop} (aL:∀b,F b->a8 b):
  ∀(d:I) (cs:RJ) (S:Nat->Prop),(∀b,S b->a8 b)->ah w F d cs S->ah w a8 d.share cs (λ_=>False)
 | .hole,_,_,_,h=>h
 | .bool _,_,_,_,h=>h
 | .dB,_,_,_,h=>h
 | .int _ _,_,_,_,h=>h
 | .str _,_,_,_,h=>h
 | .cu,_,_,_,h=>h
 | .bz,_,_,_,h=>h
 | .slice xs,cs,S,a_,h=>by
   rw[I.share,ah];rw[ah]at h;rcases h with⟨rfl,a,c,rfl,ae⟩|⟨b,o,cap,cV,sz,U,ab,ay,aQ,bc,bW,b4⟩
   .exact .inl ⟨rfl,a,c,rfl,ae⟩
   .refine .inr ⟨b,o,cap,cV,sz,?_,aL _ ab,?_,aQ,?_,bW,aH.shared aL xs _ _ (λ_ h=>h.elim) b4⟩
    .simpa [I.oj]using U
    .simpa [I.oj]using ay
    .intro d ad;rw[I.oj]at ad;obtain⟨aV,eP,rfl⟩:=mem_map.1 ad;rw[I.ts];exact bc _ eP
 | .aE sz xs,cs,S,a_,h=>by
   rw[I.share,ah];rw[ah]at h;rcases h with⟨rfl,a,rfl⟩|⟨b,cap,cur,e,fr,aB,U,ab,ay,aQ,bc,bW,b4,cP,fD,fs,il⟩
   .exact .inl ⟨rfl,a,0,rfl,zero_le _,λ_=>rfl⟩
   .refine .inr ⟨b,0,cap,_,sz,?_,a_ _ ab,?_,bW,?_,pH ay _,aH.shared aL xs _ _ (λc ae=>a_ _ (fs _ ae)) fD⟩
    .simpa [I.oj]using U
    .simpa [I.oj]using bc
    .intro d ad;rw[I.oj]at ad;obtain⟨aV,eP,rfl⟩:=mem_map.1 ad;rw[I.ts];exact cP _ eP
 | .ref d,cs,S,a_,h=>by
   rw[I.share,ah];rw[ah]at h;obtain⟨b,o,cV,U,ab,ay,aQ⟩:=h;exact⟨b,o,cV,U,aL _ ab,ay,ah.shared aL d _ _ (λ_ h=>h.elim) aQ⟩
 | .bC d,cs,S,a_,h=>by
   rw[I.share,ah];rw[ah]at h;obtain⟨b,cur,e,fr,aB,U,ab,ay,aQ,bc,bW,b4⟩:=h;refine⟨b,0,cur.toList,U,a_ _ ab,?_,ah.shared aL d _ _ (λc ae=>a_ _ (bW _ ae)) bc⟩;have:=pH ay cur.toList.length
   rwa [take_length]at this
 | .agg al,cs,S,a_,h=>by rw[I.share,ah];rw[ah]at h;exact aH.shared aL al _ _ a_ h
 | .tuple al,cs,S,a_,h=>by rw[I.share,ah];rw[ah]at h;exact aH.shared aL al _ _ a_ h
 | .fn f caps,cs,S,a_,h=>by
   show ah w a8 (.fn f caps) cs _;rw[ah]at h⊢;obtain⟨arr,U,ab,ay⟩:=h;exact⟨arr,U,ab,aH.mono aL caps _ _ _ (λ_ h=>h) ay⟩
 | .h _ _,_,_,_,h=>h
 | .af _ _,_,_,_,h=>h
 | .J _ _,_,_,_,h=>h
 | .cf _,cs,S,a_,h=>by rw[ah]at h;rw[I.share,ah];exact ik.one h
 | .dE _ _,cs,S,a_,h=>by rw[ah]at h;obtain⟨arr,rfl,_⟩:=h;rw[I.share,ah];exact⟨_,rfl,rfl⟩
theorem aH.shared {w:World} {F a8:Nat->Prop} (aL:∀b,F b->a8 b):
  ∀(ds:RL) (cs:RJ) (S:Nat->Prop),(∀b,S b->a8 b)->aH w F ds cs S->aH w a8 (I.shares ds) cs (λ_=>False)
 |[],_,_,_,h=>h
 |d::ds,cs,S,a_,h=>by
  simp only[I.shares];rw[aH]at h⊢;obtain⟨bb,c2,bg,b0,U,ab,ay,aQ,bc,bW⟩:=h;exact⟨bb,c2,_,_,U,ah.shared aL d _ _ (λb J=>a_ _ (aQ _ J)) ab,aH.shared aL ds _ _ (λb J=>a_ _ (bc _ J)) ay,λ_ h=>h,λ_ h=>h,λ_ h=>h.elim⟩
end
def I.sub:RG->I->Option I
 |[],d=>some d
 |k::q,.agg al=>match al[k]? with
  |some d=>I.sub q d
  |none=>none
 |k::q,.tuple al=>match al[k]? with
  |some d=>I.sub q d
  |none=>none
 |i::q,.aE _ xs=>match xs[i]? with
  |some d=>I.sub q d
  |none=>none
 |0::q,.bC d=>I.sub q d
 |_::_,_=>none
def I.put:RG->I->I->I
 |[],n,_=>n
 |k::q,n,.agg al=>match al[k]? with
  |some d=>.agg (al.set k (I.put q n d))
  |none=>.agg al
 |k::q,n,.tuple al=>match al[k]? with
  |some d=>.tuple (al.set k (I.put q n d))
  |none=>.tuple al
 |i::q,n,.aE sz xs=>match xs[i]? with
  |some d=>.aE sz (xs.set i (I.put q n d))
  |none=>.aE sz xs
 |0::q,n,.bC d=>.bC (I.put q n d)
 |_::_,_,d=>d
def jG (w:World) (b o n:Nat):RJ:=(range n).map λj=>(w.cell? ⟨b,o+j,none⟩).getD undef
theorem e_.jG {w:World} {b o:Nat} {cs:RJ} (h:e_ w b o cs):jG w b o cs.length=cs:=by
 unfold ca.jG;apply ext_getElem?;intro i;rw[getElem?_map];by_cases aC:i<cs.length
 .have:cs[i]? =some cs[i]:=getElem?_eq_getElem aC;simp[aC,h i _ this]
 .simp[aC]
def b6 (w:World):RG->I->RJ->Option (Nat×Nat)->Option (I×RJ×Option (Nat×Nat))
 |[],d,cs,a=>some (d,cs,a)
 |k::q,.agg al,cs,a=>match al[k]? with
  |some d=>b6 w q d ((cs.drop (I.cp (al.take k))).take d.wd) (a.map λl=>(l.1,l.2+I.cp (al.take k)))
  |none=>none
 |k::q,.tuple al,cs,a=>match al[k]? with
  |some d=>b6 w q d ((cs.drop (I.cp (al.take k))).take d.wd) (a.map λl=>(l.1,l.2+I.cp (al.take k)))
  |none=>none
 |i::q,.aE sz xs,cs,_=>match xs[i]?,cs with
  |some d,[.slice (some ⟨b,_,_⟩) _ _]=>b6 w q d (jG w b (i*sz) sz) (some (b,i*sz))
  |_,_=>none
 |0::q,.bC d,cs,_=>match cs with
  |[.pointer (some ⟨b,_,_⟩)]=>b6 w q d (jG w b 0 d.wd) (some (b,0))
  |_=>none
 |_::_,_,_,_=>none
theorem om (bb dF c2:RJ) (n m:Nat) (U:bb.length=n) (ab:dF.length=m):((bb++(dF++c2)).drop n).take m=dF:=by
 rw[drop_left' U,take_left' ab]
theorem aH.pick {w:World} {F:Nat->Prop}:∀(ds:RL) (cs:RJ) (S:Nat->Prop) (k:Nat) (d:I),
  aH w F ds cs S->ds[k]? =some d->∃(bb dF c2:RJ) (bg eW:Nat->Prop),cs=bb++(dF++c2)/\bb.length=I.cp (ds.take k)/\
   (∀b,bg b->S b)/\(∀b,eW b->S b)/\(∀b,bg b->¬eW b)/\ah w F d dF eW/\
   ∀(an:World) (aV:I) (oo:RJ) (aB:Nat->Prop),(∀b,F b->an.heap[b]? =w.heap[b]?)->(∀b,bg b->an.heap[b]? =w.heap[b]?)->
    ah an F aV oo aB->(∀b,aB b->¬bg b)->aH an F (ds.set k aV) (bb++(oo++c2)) (λb=>bg b\/aB b)
 |[],_,_,_,_,_,ag=>by simp at ag
 |x::ds,cs,S,0,d,h,ag=>by
  rw[aH]at h;obtain⟨bb,c2,eQ,en,rfl,U,ab,a1,J,iM⟩:=h;simp at ag;subst ag;refine⟨[],bb,c2,en,eQ,rfl,rfl,J,a1,λb J a1=>iM _ a1 J,U,?_⟩;intro an aV oo aB aL a_ ad fR;simp only[set_cons_zero,nil_append];rw[aH];exact⟨oo,c2,aB,en,rfl,ad,aH.frame aL _ _ _ a_ ab,λb h=>.inr h,λb h=>.inl h,λb h=>fR b h⟩
 |x::ds,cs,S,k+1,d,h,ag=>by
  rw[aH]at h;obtain⟨c0,Gg,eQ,en,rfl,U,ab,a1,J,iM⟩:=h;simp only[getElem?_cons_succ]at ag;have hl:=ah.length _ _ _ U;obtain⟨bb,dF,c2,bg,eW,rfl,i0,j8,i2,i3,i5,v_⟩:=aH.pick ds Gg en k d ab ag;refine⟨c0++bb,dF,c2,λb=>eQ b\/bg b,eW,by simp,by simp[I.cp,hl,i0],?_,λb h=>J _ (i2 _ h),?_,i5,?_⟩
  .rintro b (h|h)
   .exact a1 _ h
   .exact J _ (j8 _ h)
  .rintro b (h|h) ag
   .exact iM _ h (i2 _ ag)
   .exact i3 _ h ag
  .intro an aV oo aB aL a_ ad fR;simp only[set_cons_succ];rw[aH];refine⟨c0,bb++(oo++c2),eQ,λb=>bg b\/aB b,by simp,ah.frame aL _ _ _ (λb J=>a_ b (.inl J)) U,
    v_ an aV oo aB aL (λb J=>a_ b (.inr J)) ad (λb J ae=>fR b J (.inr ae)),λb h=>.inl (.inl h),?_,?_⟩
   .rintro b (h|h)
    .exact .inl (.inr h)
    .exact .inr h
   .rintro b h (aN|aN)
    .exact iM _ h (j8 _ aN)
    .exact fR _ aN (.inl h)
theorem wa:∀(al:RL) (k:Nat) (x y:I),al[k]? =some x->y.wd=x.wd->I.cp (al.set k y)=I.cp al:=by
 intro al;induction al with
 |nil=>intro k x y h;simp at h
 |cons a al ih=>
  intro k x y h e;cases k with
  |zero=>simp at h;subst h;simp[I.cp,e]
  |succ k=>simp at h;simp[I.cp,ih k x y h e]
theorem oq {sz:Nat}:∀(xs:RL),(∀d∈xs,d.wd=sz)->I.cp xs=xs.length*sz
 |[],_=>by simp[I.cp]
 |x::xs,h=>by
  rw[I.cp,h x (by simp),oq xs (λd ad=>h d (by simp[ad])),length_cons,Nat.add_mul,Nat.one_mul,Nat.add_comm]
theorem I.pI:∀(q:RG) (av d aV:I),I.sub q av=some d->aV.wd=d.wd->(I.put q aV av).wd=av.wd:=by
 intro q;induction q with
 |nil=>intro av d aV h e;simp[I.sub]at h;subst h;simpa [I.put]using e
 |cons k q ih=>
  intro av d aV h e;cases av with
  |agg al=>
   simp only[I.sub]at h;split at h
   .rename_i x ak;simp only[I.put,ak,I.wd];exact wa _ _ _ _ ak (ih _ _ _ h e)
   .cases h
  |tuple al=>
   simp only[I.sub]at h;split at h
   .rename_i x ak;simp only[I.put,ak,I.wd];exact wa _ _ _ _ ak (ih _ _ _ h e)
   .cases h
  |aE sz xs=>
   simp only[I.sub]at h;split at h
   .rename_i x ak;simp only[I.put,ak,I.wd]
   .cases h
  |bC x=>
   cases k with
   |zero=>simp only[I.put,I.wd]
   |succ k=>simp[I.sub]at h
  |_=>simp[I.sub]at h
theorem wb {sz:Nat} {xs:RL} {i:Nat} {y:I} (h:∀d∈xs,d.wd=sz) (hy:y.wd=sz):∀d∈xs.set i y,d.wd=sz:=by
 intro d ad;rcases mem_or_eq_of_mem_set ad with ad|rfl
 .exact h d ad
 .exact hy
theorem pJ {w:World} {b:Nat} {cur:Array Value} {e:TypeId} {fr:Nat×Nat} (h:w.heap[b]? =some (.cells cur e fr)) {l m r:RJ} (ae:cur.toList=l++(m++r)):
  jG w b l.length m.length=m:=by
 refine e_.jG (λj c bE=>?_);have cq:j<m.length:=(List.getElem?_eq_some_iff.1 bE).1;have:cur.toList[l.length+j]? =some c:=by
  rw[ae,getElem?_append_right (by omega),getElem?_append_left (by omega)];rw[<-bE];congr 1;omega
 simp[World.cell?,h];simpa using this
def Flat (w:World) (F:Nat->Prop) (q:RG) (av:I) (cs:RJ) (a:Option (Nat×Nat)) (d:I) (bF:RJ) (bI:Option (Nat×Nat)) (cr:Nat->Prop):Prop:=
 ∃l r:RJ,cs=l++(bF++r)/\bI=a.map (λx=>(x.1,x.2+l.length))/\
  ∀(an:World) (aV:I) (dG:RJ) (aB:Nat->Prop),(∀b,F b->an.heap[b]? =w.heap[b]?)->(∀b,cr b->an.heap[b]? =w.heap[b]?)->
   aV.wd=d.wd->ah an F aV dG aB->(∀b,aB b->¬cr b)->ah an F (I.put q aV av) (l++(dG++r)) (λb=>cr b\/aB b)
def Deep (w:World) (F:Nat->Prop) (q:RG) (av:I) (cs:RJ) (d:I) (bF:RJ) (bI:Option (Nat×Nat)) (cr:Nat->Prop):Prop:=
 ∃(b:Nat) (cur:Array Value) (e:TypeId) (fr:Nat×Nat) (l r:RJ),bI=some (b,l.length)/\cr b/\w.heap[b]? =some (.cells cur e fr)/\jd fr cur.size/\cur.toList=l++(bF++r)/\
  ∀(an:World) (aV:I) (dG:RJ) (aB:Nat->Prop),(∀b,F b->an.heap[b]? =w.heap[b]?)->(∀c,cr c->c≠b->an.heap[c]? =w.heap[c]?)->
   an.heap[b]? =some (.cells (l++(dG++r)).toArray e fr)->
   aV.wd=d.wd->ah an F aV dG aB->(∀b,aB b->¬cr b)->ah an F (I.put q aV av) cs (λb=>cr b\/aB b)
theorem ctx {w:World} {F:Nat->Prop}:∀(q:RG) (av:I) (cs:RJ) (S:Nat->Prop) (a:Option (Nat×Nat)) (d:I),
  ah w F av cs S->I.sub q av=some d->∃(bF:RJ) (bI:Option (Nat×Nat)) (cr df:Nat->Prop),b6 w q av cs a=some (d,bF,bI)/\
   (∀b,cr b->S b)/\(∀b,df b->S b)/\(∀b,cr b->¬df b)/\ah w F d bF df/\(Flat w F q av cs a d bF bI cr\/Deep w F q av cs d bF bI cr):=by
 intro q;induction q with
 |nil=>
  intro av cs S a d h ad;simp[I.sub]at ad;subst ad;refine⟨cs,a,λ_=>False,S,rfl,λ_ h=>h.elim,λ_ h=>h,λ_ h=>h.elim,h,.inl ⟨[],[],by simp,?_,?_⟩⟩
  .cases a<;>simp
  .intro an aV dG aB _ _ hw eP _;simp only[I.put,nil_append,append_nil];exact ah.mono (λ_ h=>h) _ _ _ _ (λb h=>.inr h) eP
 |cons k q ih=>
  have fields:∀(mk:RL->I) (wc:∀(w:World) (F:Nat->Prop) (al:RL) (cs:RJ) (S:Nat->Prop),ah w F (mk al) cs S=aH w F al cs S) (al:RL) (cs:RJ) (S:Nat->Prop) (a:Option (Nat×Nat)) (x d:I),
    (gN:∀aV,I.put (k::q) aV (mk al)=mk (al.set k (I.put q aV x)))->aH w F al cs S->al[k]? =some x->I.sub q x=some d->
    ∃(bF:RJ) (bI:Option (Nat×Nat)) (cr df:Nat->Prop),b6 w q x ((cs.drop (I.cp (al.take k))).take x.wd) (a.map λl=>(l.1,l.2+I.cp (al.take k)))=some (d,bF,bI)/\
    (∀b,cr b->S b)/\(∀b,df b->S b)/\(∀b,cr b->¬df b)/\ah w F d bF df/\(Flat w F (k::q) (mk al) cs a d bF bI cr\/Deep w F (k::q) (mk al) cs d bF bI cr):=by
   intro mk wc al cs S a x d gN h ak ad;obtain⟨bb,dF,c2,bg,eW,rfl,eR,eo,eF,fj,dM,iN⟩:=aH.pick al cs S k x h ak;have hl:=ah.length _ _ _ dM;rw[om bb dF c2 _ _ eR hl];obtain⟨bF,bI,cr,df,g0,g1,g2,g3,g4,g5⟩:=ih x _ eW (a.map λl=>(l.1,l.2+I.cp (al.take k))) d dM ad;refine⟨bF,bI,λb=>bg b\/cr b,df,g0,?_,λb J=>eF _ (g2 _ J),?_,g4,?_⟩
   .rintro b (h|h)
    .exact eo _ h
    .exact eF _ (g1 _ h)
   .rintro b (h|h) ad
    .exact fj _ h (g2 _ ad)
    .exact g3 _ h ad
   .have cZ:∀(b:Nat) (aB:Nat->Prop),(bg b\/cr b\/aB b)->((bg b\/cr b)\/aB b):=by
     rintro b aB (J|J|J)
     .exact .inl (.inl J)
     .exact .inl (.inr J)
     .exact .inr J
    rcases g5 with⟨l,r,rfl,aG,aJ⟩|⟨b,cur,e,fr,l,r,aD,aG,aJ,bp,bJ,bk⟩
    .refine .inl ⟨bb++l,r++c2,by simp,?_,?_⟩
     .rw[aG,<-eR];cases a<;>simp[Nat.add_assoc]
     .intro an aV dG aB aL a_ hw eP fR;have ei:=aJ an aV dG aB aL (λb J=>a_ b (.inr J)) hw eP (λb J ae=>fR b J (.inr ae));have b8:=iN an _ _ _ aL (λb J=>a_ b (.inl J)) ei (by
       rintro b (J|J) U
       .exact fj _ U (g1 _ J)
       .exact fR _ J (.inl U))
      rw[gN,wc];have:=aH.mono (λ_ h=>h) _ _ _ _ (λb=>cZ b aB) b8;simpa using this
    .refine .inr ⟨b,cur,e,fr,l,r,aD,.inr aG,aJ,bp,bJ,?_⟩;intro an aV dG aB aL a_ iO hw eP fR;have ei:=bk an aV dG aB aL (λc ae=>a_ c (.inr ae)) iO hw eP (λb J ae=>fR b J (.inr ae));have b8:=iN an _ _ _ aL (λc ae=>a_ c (.inl ae) (by rintro rfl;exact fj _ ae (g1 _ aG))) ei (by
       rintro b (J|J) U
       .exact fj _ U (g1 _ J)
       .exact fR _ J (.inl U))
     rw[gN,wc];exact aH.mono (λ_ h=>h) _ _ _ _ (λb=>cZ b aB) b8
  intro av cs S a d h ad;cases av with
  |agg al=>
   simp only[I.sub]at ad;split at ad
   .rename_i x ak;rw[ah]at h;have:=fields .agg (λ_ _ _ _ _=>by rw[ah]) al cs S a x d (λaV=>by simp only[I.put,ak]) h ak ad;simpa only[b6,ak]using this
   .cases ad
  |tuple al=>
   simp only[I.sub]at ad;split at ad
   .rename_i x ak;rw[ah]at h;have:=fields .tuple (λ_ _ _ _ _=>by rw[ah]) al cs S a x d (λaV=>by simp only[I.put,ak]) h ak ad;simpa only[b6,ak]using this
   .cases ad
  |aE sz xs=>
   simp only[I.sub]at ad;split at ad
   .rename_i x ak;rw[ah]at h;rcases h with⟨rfl,_,rfl⟩|⟨b,cap,cur,e,fr,ck,rfl,ab,ay,aQ,bc,bW,b4,cP,fD,fs,il⟩
    .simp at ak
    .obtain⟨bb,dF,c2,bg,eW,p,eR,eo,eF,fj,dM,iN⟩:=aH.pick xs _ ck k x fD ak;have hl:=ah.length _ _ _ dM;have Gh:k<xs.length:=(List.getElem?_eq_some_iff.1 ak).1;have q7:x.wd=sz:=cP x (mem_of_getElem? ak);have ba:I.cp (xs.take k)=k*sz:=by
      rw[oq _ (λd ad=>cP d (mem_of_mem_take ad))];rw[length_take,Nat.min_eq_left (by omega)]
     obtain⟨mo,jf⟩:∃mo,cur.toList=bb++(dF++(c2++mo)):=by
      refine⟨cur.toList.drop (xs.length*sz),?_⟩;have:=(take_append_drop (xs.length*sz) cur.toList).symm;rw[p]at this;simpa using this
     have gx:jG w b (k*sz) sz=dF:=by
      have:=pJ ay jf
      rwa [eR,ba,hl,q7]at this
     obtain⟨bF,bI,cr,df,g0,g1,g2,g3,g4,g5⟩:=ih x _ eW (some (b,k*sz)) d dM ad;have gN:∀aV,I.put (k::q) aV (.aE sz xs)= .aE sz (xs.set k (I.put q aV x)):=λaV=>by simp only[I.put,ak]
     refine⟨bF,bI,λc=>c=b\/bg c\/cr c,df,?_,?_,λc ae=>fs _ (eF _ (g2 _ ae)),?_,g4,.inr ?_⟩
     .simp only[b6,ak,gx];exact g0
     .rintro c (rfl|h|h)
      .exact ab
      .exact fs _ (eo _ h)
      .exact fs _ (eF _ (g1 _ h))
     .rintro c (rfl|h|h) ad
      .exact il (eF _ (g2 _ ad))
      .exact fj _ h (g2 _ ad)
      .exact g3 _ h ad
     .have g_:∀aV,aV.wd=d.wd->(I.put q aV x).wd=sz:=λaV hw=>(I.pI q x d aV ad hw).trans q7;rcases g5 with⟨l,r,rfl,aG,aJ⟩|⟨dw,we,ej,wg,l,r,aD,aG,aJ,bp,bJ,bk⟩
      .refine⟨b,cur,e,fr,bb++l,r++(c2++mo),?_,.inl rfl,ay,aQ.low,?_,?_⟩
       .rw[aG];simp[eR,ba]
       .rw[jf];simp
       .intro an aV dG aB aL a_ iO hw eP fR;have ei:=aJ an aV dG aB aL (λc ae=>a_ c (.inr (.inr ae)) (by rintro rfl;exact il (eF _ (g1 _ ae)))) hw eP (λb J ae=>fR b J (.inr (.inr ae)));have b8:=iN an _ _ _ aL (λc ae=>a_ c (.inr (.inl ae)) (by rintro rfl;exact il (eo _ ae))) ei (by
         rintro b (J|J) U
         .exact fj _ U (g1 _ J)
         .exact fR _ J (.inr (.inl U)))
        have q8:=ah.length _ _ _ eP;have q9:=ah.length _ _ _ g4;rw[gN,ah];refine .inr ⟨b,cap,_,e,fr,λb=>bg b\/cr b\/aB b,by simp,.inl (.inl rfl),iO,?_,by simpa using bc,bW,?_,wb cP (g_ aV hw),?_,?_,?_⟩
        .have:(bb++l++(dG++(r++(c2++mo)))).toArray.size=cur.size:=by
          have:cur.size=cur.toList.length:=by simp
          rw[this,jf];simp[q8,q9,hw]
         rw[this];exact aQ
        .rw[<-b4];have:cur.size=cur.toList.length:=by simp
         rw[this,jf];simp[q8,q9,hw]
        .have hlen:(bb++(l++(dG++r)++c2)).length=xs.length*sz:=by
          have:=congrArg length p;rw[length_take,Nat.min_eq_left (by simp[b4];exact mul_le_mul_right _ bc)]at this;rw[this];simp[q8,q9,hw]
         have:(bb++l++(dG++(r++(c2++mo))))=(bb++(l++(dG++r)++c2))++mo:=by simp
         rw[length_set];simp only[this];rw[take_left' hlen];exact b8
        .rintro c (h|h|h)
         .exact .inl (.inr (.inl h))
         .exact .inl (.inr (.inr h))
         .exact .inr h
        .rintro(h|h|h)
         .exact il (eo _ h)
         .exact il (eF _ (g1 _ h))
         .exact fR _ h (.inl rfl)
      .refine⟨dw,we,ej,wg,l,r,aD,.inr (.inr aG),aJ,bp,bJ,?_⟩;intro an aV dG aB aL a_ iO hw eP fR;have ei:=bk an aV dG aB aL (λc ae bT=>a_ c (.inr (.inr ae)) bT) iO hw eP (λb J ae=>fR b J (.inr (.inr ae)));have bT:∀c,bg c->c≠dw:=by rintro c ae rfl;exact fj _ ae (g1 _ aG)
       have b8:=iN an _ _ _ aL (λc ae=>a_ c (.inr (.inl ae)) (bT c ae)) ei (by
        rintro b (J|J) U
        .exact fj _ U (g1 _ J)
        .exact fR _ J (.inr (.inl U)))
       have wh:b≠dw:=by rintro rfl;exact il (eF _ (g1 _ aG))
       rw[gN,ah];refine .inr ⟨b,cap,cur,e,fr,λb=>bg b\/cr b\/aB b,by simp,.inl (.inl rfl),(a_ b (.inl rfl) wh).trans ay,aQ,by simpa using bc,bW,b4,wb cP (g_ aV hw),?_,?_,?_⟩
       .rw[length_set,p];exact b8
       .rintro c (h|h|h)
        .exact .inl (.inr (.inl h))
        .exact .inl (.inr (.inr h))
        .exact .inr h
       .rintro(h|h|h)
        .exact il (eo _ h)
        .exact il (eF _ (g1 _ h))
        .exact fR _ h (.inl rfl)
   .cases ad
  |bC x=>
   cases k with
   |succ k=>simp[I.sub]at ad
   |zero=>
    simp only[I.sub]at ad;rw[ah]at h;obtain⟨b,cur,e,fr,ck,rfl,ab,ay,aQ,bc,bW,b4⟩:=h;have hl:=ah.length _ _ _ bc;have gx:jG w b 0 x.wd=cur.toList:=by
     have:=pJ (l:=[]) (m:=cur.toList) (r:=[]) ay (by simp)
     rwa [hl]at this
    obtain⟨bF,bI,cr,df,g0,g1,g2,g3,g4,g5⟩:=ih x _ ck (some (b,0)) d bc ad;have gN:∀aV,I.put (0::q) aV (.bC x)= .bC (I.put q aV x):=λaV=>rfl;refine⟨bF,bI,λc=>c=b\/cr c,df,?_,?_,λc ae=>bW _ (g2 _ ae),?_,g4,.inr ?_⟩
    .simp only[b6,gx];exact g0
    .rintro c (rfl|h)
     .exact ab
     .exact bW _ (g1 _ h)
    .rintro c (rfl|h) ad
     .exact b4 (g2 _ ad)
     .exact g3 _ h ad
    .rcases g5 with⟨l,r,aD,aG,aJ⟩|⟨dw,we,ej,wg,l,r,aD,aG,aJ,bp,bJ,bk⟩
     .refine⟨b,cur,e,fr,l,r,?_,.inl rfl,ay,aQ,aD,?_⟩
      .rw[aG];simp
      .intro an aV dG aB aL a_ iO hw eP fR;have ei:=aJ an aV dG aB aL (λc ae=>a_ c (.inr ae) (by rintro rfl;exact b4 (g1 _ ae))) hw eP (λb J ae=>fR b J (.inr ae));have q8:=ah.length _ _ _ eP;have q9:=ah.length _ _ _ g4;rw[gN,ah];refine⟨b,_,e,fr,λb=>cr b\/aB b,rfl,.inl (.inl rfl),iO,?_,ei,?_,?_⟩
       .have:(l++(dG++r)).toArray.size=cur.size:=by
         have:cur.size=cur.toList.length:=by simp
         rw[this,aD];simp[q8,q9,hw]
        rw[this];exact aQ
       .rintro c (h|h)
        .exact .inl (.inr h)
        .exact .inr h
       .rintro(h|h)
        .exact b4 (g1 _ h)
        .exact fR _ h (.inl rfl)
     .refine⟨dw,we,ej,wg,l,r,aD,.inr aG,aJ,bp,bJ,?_⟩;intro an aV dG aB aL a_ iO hw eP fR;have ei:=bk an aV dG aB aL (λc ae bT=>a_ c (.inr ae) bT) iO hw eP (λb J ae=>fR b J (.inr ae));have wh:b≠dw:=by rintro rfl;exact b4 (g1 _ aG)
      rw[gN,ah];refine⟨b,cur,e,fr,λb=>cr b\/aB b,rfl,.inl (.inl rfl),(a_ b (.inl rfl) wh).trans ay,aQ,ei,?_,?_⟩
      .rintro c (h|h)
       .exact .inl (.inr h)
       .exact .inr h
      .rintro(h|h)
       .exact b4 (g1 _ h)
       .exact fR _ h (.inl rfl)
  |_=>simp[I.sub]at ad
mutual
def I.plain:I->Bool
 | .aE _ _=>false
 | .bC _=>false
 | .cf _=>false
 | .dE _ _=>false
 | .agg al=>I.ee al
 | .tuple al=>I.ee al
 |_=>true
def I.ee:RL->Bool
 |[]=>true
 |d::ds=>d.plain&&I.ee ds
end
mutual
def I.bU:I->I
 | .aE _ _=>.hole
 | .bC _=>.hole
 | .cf _=>.hole
 | .dE _ _=>.hole
 | .agg al=>.agg (I.hU al)
 | .tuple al=>.tuple (I.hU al)
 |d=>d
def I.hU:RL->RL
 |[]=>[]
 |d::ds=>d.bU::I.hU ds
end
mutual
theorem I.nv:∀d:I,d.bU.wd=d.wd
 | .hole=>rfl
 | .bool _=>rfl
 | .dB=>rfl
 | .int _ _=>rfl
 | .str _=>rfl
 | .cu=>rfl
 | .bz=>rfl
 | .slice _=>rfl
 | .aE _ _=>rfl
 | .ref _=>rfl
 | .bC _=>rfl
 | .agg al=>by simp only[I.bU,I.wd];exact I.wi al
 | .tuple al=>by simp only[I.bU,I.wd];exact I.wi al
 | .fn _ _=>rfl
 | .h _ _=>rfl
 | .af _ _=>rfl
 | .J _ _=>rfl
 | .cf _=>rfl
 | .dE _ _=>rfl
theorem I.wi:∀ds:RL,I.cp (I.hU ds)=I.cp ds
 |[]=>rfl
 |d::ds=>by simp only[I.hU,I.cp];rw[I.nv d,I.wi ds]
end
mutual
theorem ah.bU {w:World} {F:Nat->Prop}:∀(d:I) (cs:RJ) (S aB:Nat->Prop),ah w F d cs S->ah w F d.bU cs aB
 | .hole,_,_,_,h=>h
 | .bool _,_,_,_,h=>h
 | .dB,_,_,_,h=>h
 | .int _ _,_,_,_,h=>h
 | .str _,_,_,_,h=>h
 | .cu,_,_,_,h=>h
 | .bz,_,_,_,h=>h
 | .slice xs,cs,S,aB,h=>by
   show ah w F (.slice xs) cs aB;rw[ah]at h⊢;exact h
 | .aE sz xs,cs,S,aB,h=>by
   rw[I.bU,ah];rw[ah]at h;rcases h with⟨_,_,rfl⟩|⟨b,cap,cur,e,fr,ck,rfl,_⟩
   .exact⟨_,rfl,rfl⟩
   .exact⟨_,rfl,rfl⟩
 | .ref d,cs,S,aB,h=>by
   show ah w F (.ref d) cs aB;rw[ah]at h⊢;exact h
 | .bC d,cs,S,aB,h=>by
   rw[I.bU,ah];rw[ah]at h;obtain⟨b,cur,e,fr,ck,rfl,_⟩:=h;exact⟨_,rfl,rfl⟩
 | .agg al,cs,S,aB,h=>by rw[I.bU,ah];rw[ah]at h;exact aH.bU al _ _ _ h
 | .tuple al,cs,S,aB,h=>by rw[I.bU,ah];rw[ah]at h;exact aH.bU al _ _ _ h
 | .fn _ _,_,_,_,h=>h
 | .h _ _,_,_,_,h=>h
 | .af _ _,_,_,_,h=>h
 | .J _ _,_,_,_,h=>h
 | .cf _,_,_,_,h=>by rw[ah]at h;rw[I.bU,ah];exact ik.one h
 | .dE _ _,_,_,_,h=>by rw[ah]at h;obtain⟨arr,rfl,_⟩:=h;rw[I.bU,ah];exact⟨_,rfl,rfl⟩
theorem aH.bU {w:World} {F:Nat->Prop}:∀(ds:RL) (cs:RJ) (S aB:Nat->Prop),aH w F ds cs S->aH w F (I.hU ds) cs aB
 |[],_,_,_,h=>h
 |d::ds,cs,S,aB,h=>by
  rw[I.hU,aH];rw[aH]at h;obtain⟨bb,c2,bg,b0,U,ab,ay,aQ,bc,bW⟩:=h;exact⟨bb,c2,λ_=>False,λ_=>False,U,ah.bU d _ _ _ ab,aH.bU ds _ _ _ ay,λ_ h=>h.elim,λ_ h=>h.elim,λ_ h=>h.elim⟩
end
mutual
theorem ah.plain {w:World} {F:Nat->Prop}:∀(d:I) (cs:RJ) (S aB:Nat->Prop),d.plain=true->ah w F d cs S->ah w F d cs aB
 | .hole,_,_,_,_,h=>h
 | .bool _,_,_,_,_,h=>h
 | .dB,_,_,_,_,h=>h
 | .int _ _,_,_,_,_,h=>h
 | .str _,_,_,_,_,h=>h
 | .cu,_,_,_,_,h=>h
 | .bz,_,_,_,_,h=>h
 | .slice xs,cs,S,aB,_,h=>by rw[ah]at h⊢;exact h
 | .aE sz xs,cs,S,aB,af,h=>by simp[I.plain]at af
 | .ref d,cs,S,aB,_,h=>by rw[ah]at h⊢;exact h
 | .bC d,cs,S,aB,af,h=>by simp[I.plain]at af
 | .agg al,cs,S,aB,af,h=>by rw[ah]at h⊢;exact aH.plain al _ _ _ af h
 | .tuple al,cs,S,aB,af,h=>by rw[ah]at h⊢;exact aH.plain al _ _ _ af h
 | .fn _ _,_,_,_,_,h=>h
 | .h _ _,_,_,_,_,h=>h
 | .af _ _,_,_,_,_,h=>h
 | .J _ _,_,_,_,_,h=>h
 | .cf _,_,_,_,af,_=>by simp[I.plain]at af
 | .dE _ _,_,_,_,af,_=>by simp[I.plain]at af
theorem aH.plain {w:World} {F:Nat->Prop}:∀(ds:RL) (cs:RJ) (S aB:Nat->Prop),I.ee ds=true->aH w F ds cs S->aH w F ds cs aB
 |[],_,_,_,_,h=>h
 |d::ds,cs,S,aB,af,h=>by
  rw[aH]at h⊢;simp only[I.ee,Bool.and_eq_true]at af;obtain⟨bb,c2,bg,b0,U,ab,ay,aQ,bc,bW⟩:=h;exact⟨bb,c2,λ_=>False,λ_=>False,U,ah.plain d _ _ _ af.1 ab,aH.plain ds _ _ _ af.2 ay,λ_ h=>h.elim,λ_ h=>h.elim,λ_ h=>h.elim⟩
end
def I.dt:RG->I->Bool
 |[],_=>false
 |k::q,.agg al=>match al[k]? with
  |some d=>I.dt q d
  |none=>false
 |k::q,.tuple al=>match al[k]? with
  |some d=>I.dt q d
  |none=>false
 |_::_,.aE _ _=>true
 |_::_,.bC _=>true
 |_::_,_=>false
theorem tt {al:RL} (h:I.ee al=true) {k:Nat} {d:I} (ag:al[k]? =some d):d.plain=true:=by
 induction al generalizing k with
 |nil=>simp at ag
 |cons a al ih=>
  simp only[I.ee,Bool.and_eq_true]at h;cases k with
  |zero=>simp at ag;subst ag;exact h.1
  |succ k=>simp at ag;exact ih h.2 ag
theorem I.Aa:∀(q:RG) (d:I),d.plain=true->I.dt q d=false:=by
 intro q;induction q with
 |nil=>intros;rfl
 |cons k q ih=>
  intro d ad;cases d<;>first|rfl|(simp[I.plain]at ad;done)|skip
  all_goals
   simp only[I.dt];split
   .rename_i al x ak;exact ih _ (tt (by simpa [I.plain]using ad) ak)
   .rfl
theorem I.wj:∀(q:RG) (d e:I),d.plain=true->I.sub q d=some e->e.plain=true:=by
 intro q;induction q with
 |nil=>intro d e ad h;simp[I.sub]at h;exact h▸ad
 |cons k q ih=>
  intro d e ad h;cases d<;>first|(simp[I.plain]at ad;done)|(simp[I.sub]at h;done)|skip
  all_goals
   simp only[I.sub]at h;split at h
   .rename_i al x ak;exact ih _ _ (tt (by simpa [I.plain]using ad) ak) h
   .cases h
theorem tu {w an:World} {F:Nat->Prop}:∀(q:RG) (av:I) (cs:RJ) (S:Nat->Prop) (a:Option (Nat×Nat)) (d:I),
  ah w F av cs S->I.sub q av=some d->(∀b,S b->an.heap[b]? =w.heap[b]?)->b6 an q av cs a=b6 w q av cs a:=by
 intro q;induction q with
 |nil=>intros;rfl
 |cons k q ih=>
  have fields:∀(al:RL) (cs:RJ) (S:Nat->Prop) (a:Option (Nat×Nat)) (x d:I),aH w F al cs S->al[k]? =some x->I.sub q x=some d->
    (∀b,S b->an.heap[b]? =w.heap[b]?)->
    b6 an q x ((cs.drop (I.cp (al.take k))).take x.wd) (a.map λl=>(l.1,l.2+I.cp (al.take k)))=b6 w q x ((cs.drop (I.cp (al.take k))).take x.wd) (a.map λl=>(l.1,l.2+I.cp (al.take k))):=by
   intro al cs S a x d h ak ad a_;obtain⟨bb,dF,c2,bg,eW,rfl,eR,eo,eF,fj,dM,iN⟩:=aH.pick al cs S k x h ak;rw[om bb dF c2 _ _ eR (ah.length _ _ _ dM)];exact ih x dF eW _ d dM ad (λb J=>a_ b (eF _ J))
  intro av cs S a d h ad a_;cases av with
  |agg al=>
   simp only[I.sub]at ad;split at ad
   .rename_i x ak;rw[ah]at h;simp only[b6,ak];exact fields al cs S a x d h ak ad a_
   .cases ad
  |tuple al=>
   simp only[I.sub]at ad;split at ad
   .rename_i x ak;rw[ah]at h;simp only[b6,ak];exact fields al cs S a x d h ak ad a_
   .cases ad
  |aE sz xs=>
   simp only[I.sub]at ad;split at ad
   .rename_i x ak;rw[ah]at h;rcases h with⟨rfl,_,rfl⟩|⟨b,cap,cur,e,fr,ck,rfl,ab,ay,aQ,bc,bW,b4,cP,fD,fs,il⟩
    .simp at ak
    .obtain⟨bb,dF,c2,bg,eW,p,eR,eo,eF,fj,dM,iN⟩:=aH.pick xs _ ck k x fD ak;have hl:=ah.length _ _ _ dM;have Gh:k<xs.length:=(List.getElem?_eq_some_iff.1 ak).1;have q7:x.wd=sz:=cP x (mem_of_getElem? ak);have ba:I.cp (xs.take k)=k*sz:=by
      rw[oq _ (λd ad=>cP d (mem_of_mem_take ad))];rw[length_take,Nat.min_eq_left (by omega)]
     obtain⟨mo,jf⟩:∃mo,cur.toList=bb++(dF++(c2++mo)):=by
      refine⟨cur.toList.drop (xs.length*sz),?_⟩;have:=(take_append_drop (xs.length*sz) cur.toList).symm;rw[p]at this;simpa using this
     have gx:jG w b (k*sz) sz=dF:=by
      have:=pJ ay jf
      rwa [eR,ba,hl,q7]at this
     have wk:jG an b (k*sz) sz=dF:=by
      have:=pJ ((a_ b ab).trans ay) jf
      rwa [eR,ba,hl,q7]at this
     simp only[b6,ak,gx,wk];exact ih x dF eW _ d dM ad (λc ae=>a_ c (fs _ (eF _ ae)))
   .cases ad
  |bC x=>
   cases k with
   |succ k=>simp[I.sub]at ad
   |zero=>
    simp only[I.sub]at ad;rw[ah]at h;obtain⟨b,cur,e,fr,ck,rfl,ab,ay,aQ,bc,bW,b4⟩:=h;have hl:=ah.length _ _ _ bc;have gx:jG w b 0 x.wd=cur.toList:=by
     have:=pJ (l:=[]) (m:=cur.toList) (r:=[]) ay (by simp)
     rwa [hl]at this
    have wk:jG an b 0 x.wd=cur.toList:=by
     have:=pJ (l:=[]) (m:=cur.toList) (r:=[]) ((a_ b ab).trans ay) (by simp)
     rwa [hl]at this
    simp only[b6,gx,wk];exact ih x cur.toList ck _ d bc ad (λc ae=>a_ c (bW _ ae))
  |_=>simp[I.sub]at ad
def eG:Value->RJ
 | .agg cs=>cs.toList
 |v=>[v]
def bn:Value->RJ
 | .tuple vs=>vs.toList.flatMap eG
 |v=>eG v
def eS:I->Value->Prop
 | .agg _,v=>∃arr,v= .agg arr
 |_,v=>Value.eh v=true
def b7:I->Value->Prop
 | .tuple ds,v=>∃arr:Array Value,v= .tuple arr/\arr.size=ds.length/\∀(k:Nat) (d:I) (x:Value),ds[k]? =some d->arr[k]? =some x->eS d x/\(∀vs,d≠.tuple vs)/\(eG x).length=d.wd
 |d,v=>eS d v
abbrev aj:=Nat->I
mutual
def ar (w:World) (F:Nat->Prop) (s:aj) (ao:Nat->Value):I->Value->(Nat->Prop)->Prop
 | .hole,_,_=>True
 | .h x q,v,_=>∀d,I.sub q (s x)=some d->d.plain=false->∃bF a,b6 w q (s x) (bn (ao x)) none=some (d,bF,a)/\bn v=bF/\b7 d v
 | .af x q,v,_=>∀d,I.sub q (s x)=some d->I.dt q (s x)=true->∃bF b o,b6 w q (s x) (bn (ao x)) none=some (d,bF,some (b,o))/\v= .pointer (some ⟨b,o,none⟩)
 | .J x k,v,_=>(s x).plain=false->∃b cur e fr,v= .pointer (some ⟨b,k,none⟩)/\F b/\w.heap[b]? =some (.cells cur e fr)/\cur.toList=bn (ao x)
 | .fn f cap,v,_=>∃arr:Array Value,v= .func (.func f) #[] arr/\cE w F s ao cap arr.toList
 | .bool b,v,S=>b7 (.bool b) v/\ah w F (.bool b) (bn v) S
 | .dB,v,S=>b7 .dB v/\ah w F .dB (bn v) S
 | .int k n,v,S=>b7 (.int k n) v/\ah w F (.int k n) (bn v) S
 | .str x,v,S=>b7 (.str x) v/\ah w F (.str x) (bn v) S
 | .cu,v,S=>b7 .cu v/\ah w F .cu (bn v) S
 | .bz,v,S=>b7 .bz v/\ah w F .bz (bn v) S
 | .slice xs,v,S=>b7 (.slice xs) v/\ah w F (.slice xs) (bn v) S
 | .aE sz xs,v,S=>b7 (.aE sz xs) v/\ah w F (.aE sz xs) (bn v) S
 | .ref d,v,S=>b7 (.ref d) v/\ah w F (.ref d) (bn v) S
 | .bC d,v,S=>b7 (.bC d) v/\ah w F (.bC d) (bn v) S
 | .agg d,v,S=>b7 (.agg d) v/\ah w F (.agg d) (bn v) S
 | .tuple d,v,S=>b7 (.tuple d) v/\ah w F (.tuple d) (bn v) S
 | .cf o,v,S=>b7 (.cf o) v/\ah w F (.cf o) (bn v) S
 | .dE f d,v,S=>b7 (.dE f d) v/\ah w F (.dE f d) (bn v) S
def cE (w:World) (F:Nat->Prop) (s:aj) (ao:Nat->Value):RL->RJ->Prop
 |[],vs=>vs=[]
 |d::ds,vs=>∃v hV,vs=v::hV/\ar w F s ao d v (λ_=>False)/\cE w F s ao ds hV
end
def I.tree:I->Bool
 | .hole=>false
 | .h _ _=>false
 | .af _ _=>false
 | .J _ _=>false
 | .fn _ _=>false
 |_=>true
theorem ar.bx {w:World} {F:Nat->Prop} {s:aj} {ao:Nat->Value} {d:I} {v:Value} {S:Nat->Prop} (aI:d.tree=true):
  ar w F s ao d v S↔(b7 d v/\ah w F d (bn v) S):=by
 cases d<;>first|(simp[I.tree]at aI;done)|rw[ar]
theorem eX {q:RG} {av d:I} (h:I.sub q av=some d) (af:d.plain=false\/I.dt q av=true):av.tree=true:=by
 cases q with
 |nil=>
  simp[I.sub]at h;subst h;rcases af with af|af
  .cases av<;>first|rfl|(simp[I.plain]at af)
  .simp[I.dt]at af
 |cons k q=>cases av<;>first|rfl|(simp[I.sub]at h)
theorem wm {d:I} (h:d.plain=false):d.tree=true:=eX (q:=[]) (by simp only[I.sub]) (.inl h)
theorem ar.frame {w an:World} {F a8:Nat->Prop} {s:aj} {ao:Nat->Value} {Sx:Nat->Nat->Prop} (aL:∀b,F b->an.heap[b]? =w.heap[b]?) (Ab:∀b,F b->a8 b)
  (a_:∀x b,Sx x b->an.heap[b]? =w.heap[b]?) (fk:∀x,ar w F s ao (s x) (ao x) (Sx x)):
  ∀(d:I) (v:Value) (S:Nat->Prop),(∀b,S b->an.heap[b]? =w.heap[b]?)->ar w F s ao d v S->ar an a8 s ao d v S:=by
 have ha:∀(x:Nat) (q:RG) (d:I),I.sub q (s x)=some d->(d.plain=false\/I.dt q (s x)=true)->b6 an q (s x) (bn (ao x)) none=b6 w q (s x) (bn (ao x)) none:=by
  intro x q d ad af;have aI:=eX ad af;have:=fk x;rw[ar.bx aI]at this;exact tu q _ _ (Sx x) none d this.2 ad (a_ x)
 have Gi:∀(d:I) (v:Value) (S:Nat->Prop),d.tree=true->(∀b,S b->an.heap[b]? =w.heap[b]?)->ar w F s ao d v S->ar an a8 s ao d v S:=by
  intro d v S aI ot h;rw[ar.bx aI]at h⊢;exact⟨h.1,ah.mono Ab _ _ _ _ (λ_ h=>h) (ah.frame aL _ _ _ ot h.2)⟩
 have step:∀n,(∀(d:I) (v:Value) (S:Nat->Prop),SizeOf.sizeOf d<=n->(∀b,S b->an.heap[b]? =w.heap[b]?)->ar w F s ao d v S->ar an a8 s ao d v S)/\
   (∀(ds:RL) (vs:RJ),SizeOf.sizeOf ds<=n->cE w F s ao ds vs->cE an a8 s ao ds vs):=by
  intro n;induction n with
  |zero=>
   refine⟨λd v S bt=>?_,λds vs bt=>?_⟩
   .cases d<;>simp at bt<;>omega
   .cases ds<;>simp at bt<;>omega
  |succ n ih=>
   refine⟨λd v S bt ot h=>?_,λds vs bt h=>?_⟩
   .cases d with
    |hole=>rw[ar];trivial
    |h x q=>
     rw[ar]at h⊢;intro d ad af;rw[ha x q d ad (.inl af)];exact h d ad af
    |af x q=>
     rw[ar]at h⊢;intro d ad af;rw[ha x q d ad (.inr af)];exact h d ad af
    |J x k=>
     rw[ar]at h⊢;intro af;obtain⟨b,cur,e,fr,U,ab,ay,aQ⟩:=h af;exact⟨b,cur,e,fr,U,Ab b ab,(aL b ab).trans ay,aQ⟩
    |fn f cap=>
     rw[ar]at h⊢;obtain⟨arr,rfl,ae⟩:=h;exact⟨arr,rfl,ih.2 _ _ (by simp at bt;omega) ae⟩
    |_=>exact Gi _ _ _ rfl ot h
   .cases ds with
    |nil=>rw[cE]at h⊢;exact h
    |cons d ds=>
     rw[cE]at h⊢;obtain⟨v,hV,rfl,U,ab⟩:=h;simp at bt;exact⟨v,hV,rfl,ih.1 _ _ _ (by omega) (λ_ h=>h.elim) U,ih.2 _ _ (by omega) ab⟩
 intro d v S ot h;exact(step (SizeOf.sizeOf d)).1 d v S (Nat.le_refl _) ot h
mutual
def bG (x:Nat):I->I
 | .h y q=>if y=x then .hole else .h y q
 | .af y q=>if y=x then .hole else .af y q
 | .J y k=>if y=x then .hole else .J y k
 | .fn f cap=>.fn f (fS x cap)
 |d=>d
def fS (x:Nat):RL->RL
 |[]=>[]
 |d::ds=>bG x d::fS x ds
end
mutual
def bm (x:Nat):I->I
 | .h y q=>if y=x then(if q=[]then .h y q else .hole)else .h y q
 | .af y q=>if y=x then .hole else .af y q
 | .fn f cap=>.fn f (ft x cap)
 |d=>d
def ft (x:Nat):RL->RL
 |[]=>[]
 |d::ds=>bm x d::ft x ds
end
def cd {α:Type} (f:Nat->α) (t:Nat) (v:α):Nat->α:=λu=>if u=t then v else f u
def im (t:Nat) (s:aj):aj:=λu=>bG t (s u)
def fa (t:Nat) (s:aj):aj:=λu=>bm t (s u)
theorem jH {α:Type} (f:Nat->α) (t:Nat) (v:α):cd f t v t=v:=by simp[cd]
theorem gy {α:Type} (f:Nat->α) {t u:Nat} (v:α) (h:u≠t):cd f t v u=f u:=by simp[cd,h]
theorem Gj {t:Nat} {d:I} (h:d.tree=true):bG t d=d:=by cases d<;>first|rfl|(simp[I.tree]at h)
theorem wo {t:Nat} {d:I} (h:d.tree=true):bm t d=d:=by cases d<;>first|rfl|(simp[I.tree]at h)
theorem Gk {t:Nat} {d:I} (h:(bG t d).tree=true):d.tree=true/\bG t d=d:=by
 cases d<;>first|exact⟨rfl,rfl⟩|(simp only[bG]at h;first|(split at h<;>simp[I.tree]at h)|simp[I.tree]at h)
theorem tv {t:Nat} {d:I} (h:(bm t d).tree=true):d.tree=true/\bm t d=d:=by
 cases d<;>first|exact⟨rfl,rfl⟩|(simp only[bm]at h;first|(split at h<;>(try split at h)<;>simp[I.tree]at h)|simp[I.tree]at h)
section
variable {w:World} {F:Nat->Prop} {s aq:aj} {ao gO:Nat->Value} {t:Nat}
theorem ar.bG (eJ:∀x,x≠t->(aq x).tree=true->aq x=s x/\gO x=ao x):∀(n:Nat),
  (∀(d:I) (v:Value) (S:Nat->Prop),SizeOf.sizeOf d<=n->ar w F s ao d v S->ar w F aq gO (ca.bG t d) v S)/\
  (∀(ds:RL) (vs:RJ),SizeOf.sizeOf ds<=n->cE w F s ao ds vs->cE w F aq gO (fS t ds) vs):=by
 intro n;induction n with
 |zero=>
  refine⟨λd v S bt=>?_,λds vs bt=>?_⟩
  .cases d<;>simp at bt<;>omega
  .cases ds<;>simp at bt<;>omega
 |succ n ih=>
  refine⟨λd v S bt h=>?_,λds vs bt h=>?_⟩
  .cases d with
   |hole=>rw[ca.bG.eq_def];simp only;rw[ar];trivial
   |h x q=>
    simp only[ca.bG];split
    .rw[ar];trivial
    .rename_i ak;rw[ar]at h⊢;intro d ad af;obtain⟨aD,aG⟩:=eJ x ak (eX ad (.inl af));rw[aD,aG];rw[aD]at ad;exact h d ad af
   |af x q=>
    simp only[ca.bG];split
    .rw[ar];trivial
    .rename_i ak;rw[ar]at h⊢;intro d ad af;obtain⟨aD,aG⟩:=eJ x ak (eX ad (.inr af));rw[aD,aG];rw[aD]at ad af;exact h d ad af
   |J x k=>
    simp only[ca.bG];split
    .rw[ar];trivial
    .rename_i ak;rw[ar]at h⊢;intro af;obtain⟨aD,aG⟩:=eJ x ak (wm af);rw[aG];rw[aD]at af;exact h af
   |fn f cap=>
    simp only[ca.bG];rw[ar]at h⊢;obtain⟨arr,rfl,ae⟩:=h;exact⟨arr,rfl,ih.2 _ _ (by simp at bt;omega) ae⟩
   |_=>
    rw[Gj (by rfl)];exact(ar.bx (by rfl)).2 ((ar.bx (by rfl)).1 h)
  .cases ds with
   |nil=>rw[fS,cE];rw[cE]at h;exact h
   |cons d ds=>
    rw[fS,cE];rw[cE]at h;obtain⟨v,hV,rfl,U,ab⟩:=h;simp at bt;exact⟨v,hV,rfl,ih.1 _ _ _ (by omega) U,ih.2 _ _ (by omega) ab⟩
theorem ar.bm {an:World} (eJ:∀x,x≠t->(aq x).tree=true->aq x=s x/\gO x=ao x) (gP:gO t=ao t) (dh:(aq t).plain=false->(s t).plain=false/\∀v,b7 (s t) v->b7 (aq t) v)
  (ha:∀x q d,x≠t->I.sub q (s x)=some d->(d.plain=false\/I.dt q (s x)=true)->b6 an q (s x) (bn (ao x)) none=b6 w q (s x) (bn (ao x)) none)
  (aL:∀b,F b->an.heap[b]? =w.heap[b]?):∀(n:Nat),
  (∀(d:I) (v:Value) (S:Nat->Prop),SizeOf.sizeOf d<=n->(∀b,S b->an.heap[b]? =w.heap[b]?)->ar w F s ao d v S->ar an F aq gO (ca.bm t d) v S)/\
  (∀(ds:RL) (vs:RJ),SizeOf.sizeOf ds<=n->cE w F s ao ds vs->cE an F aq gO (ft t ds) vs):=by
 intro n;induction n with
 |zero=>
  refine⟨λd v S bt=>?_,λds vs bt=>?_⟩
  .cases d<;>simp at bt<;>omega
  .cases ds<;>simp at bt<;>omega
 |succ n ih=>
  refine⟨λd v S bt ot h=>?_,λds vs bt h=>?_⟩
  .cases d with
   |hole=>rw[ca.bm.eq_def];simp only;rw[ar];trivial
   |h x q=>
    simp only[ca.bm];split
    .rename_i ak;subst ak;split
     .rename_i b2;subst b2;rw[ar]at h⊢;intro d ad af;simp only[I.sub,some.injEq]at ad;subst ad;obtain⟨ei,b8⟩:=dh af;obtain⟨bF,a,g1,g2,g3⟩:=h (s x) rfl ei;simp only[b6,some.injEq,Prod.mk.injEq]at g1;obtain⟨-,g1,QD⟩:=g1;refine⟨bn (gO x),none,rfl,?_,b8 _ g3⟩;rw[gP,g2,<-g1]
     .rw[ar];trivial
    .rename_i ak;rw[ar]at h⊢;intro d ad af;obtain⟨aD,aG⟩:=eJ x ak (eX ad (.inl af));rw[aD,aG];rw[aD]at ad;rw[ha x q d ak ad (.inl af)];exact h d ad af
   |af x q=>
    simp only[ca.bm];split
    .rw[ar];trivial
    .rename_i ak;rw[ar]at h⊢;intro d ad af;obtain⟨aD,aG⟩:=eJ x ak (eX ad (.inr af));rw[aD,aG];rw[aD]at ad af;rw[ha x q d ak ad (.inr af)];exact h d ad af
   |J x k=>
    simp only[ca.bm];rw[ar]at h⊢;intro af;by_cases ak:x=t
    .subst ak;obtain⟨b,cur,e,fr,U,ab,ay,aQ⟩:=h (dh af).1;exact⟨b,cur,e,fr,U,ab,(aL b ab).trans ay,by rw[gP];exact aQ⟩
    .obtain⟨aD,aG⟩:=eJ x ak (wm af);rw[aD]at af;obtain⟨b,cur,e,fr,U,ab,ay,aQ⟩:=h af;exact⟨b,cur,e,fr,U,ab,(aL b ab).trans ay,by rw[aG];exact aQ⟩
   |fn f cap=>
    simp only[ca.bm];rw[ar]at h⊢;obtain⟨arr,rfl,ae⟩:=h;exact⟨arr,rfl,ih.2 _ _ (by simp at bt;omega) ae⟩
   |_=>
    rw[wo (by rfl)];have aN:=(ar.bx (by rfl)).1 h;exact(ar.bx (by rfl)).2 ⟨aN.1,ah.frame aL _ _ _ ot aN.2⟩
  .cases ds with
   |nil=>rw[ft,cE];rw[cE]at h;exact h
   |cons d ds=>
    rw[ft,cE];rw[cE]at h;obtain⟨v,hV,rfl,U,ab⟩:=h;simp at bt;exact⟨v,hV,rfl,ih.1 _ _ _ (by omega) (λ_ h=>h.elim) U,ih.2 _ _ (by omega) ab⟩
theorem ar.void (eJ:∀x,x≠t->(aq x).tree=true->aq x=s x/\gO x=ao x) (kT:(aq t).plain=true):∀(n:Nat),
  (∀(d:I) (v:Value) (S:Nat->Prop),SizeOf.sizeOf d<=n->ar w F s ao d v S->ar w F aq gO d v S)/\
  (∀(ds:RL) (vs:RJ),SizeOf.sizeOf ds<=n->cE w F s ao ds vs->cE w F aq gO ds vs):=by
 intro n;induction n with
 |zero=>
  refine⟨λd v S bt=>?_,λds vs bt=>?_⟩
  .cases d<;>simp at bt<;>omega
  .cases ds<;>simp at bt<;>omega
 |succ n ih=>
  refine⟨λd v S bt h=>?_,λds vs bt h=>?_⟩
  .cases d with
   |hole=>rw[ar];trivial
   |h x q=>
    rw[ar]at h⊢;intro d ad af;by_cases ak:x=t
    .subst ak;rw[I.wj _ _ _ kT ad]at af;cases af
    .obtain⟨aD,aG⟩:=eJ x ak (eX ad (.inl af));rw[aD,aG];rw[aD]at ad;exact h d ad af
   |af x q=>
    rw[ar]at h⊢;intro d ad af;by_cases ak:x=t
    .subst ak;rw[I.Aa _ _ kT]at af;cases af
    .obtain⟨aD,aG⟩:=eJ x ak (eX ad (.inr af));rw[aD,aG];rw[aD]at ad af;exact h d ad af
   |J x k=>
    rw[ar]at h⊢;intro af;by_cases ak:x=t
    .subst ak;rw[kT]at af;cases af
    .obtain⟨aD,aG⟩:=eJ x ak (wm af);rw[aG];rw[aD]at af;exact h af
   |fn f cap=>
    rw[ar]at h⊢;obtain⟨arr,rfl,ae⟩:=h;exact⟨arr,rfl,ih.2 _ _ (by simp at bt;omega) ae⟩
   |_=>exact(ar.bx (by rfl)).2 ((ar.bx (by rfl)).1 h)
  .cases ds with
   |nil=>rw[cE];rw[cE]at h;exact h
   |cons d ds=>
    rw[cE];rw[cE]at h;obtain⟨v,hV,rfl,U,ab⟩:=h;simp at bt;exact⟨v,hV,rfl,ih.1 _ _ _ (by omega) U,ih.2 _ _ (by omega) ab⟩
end
def wq:Bool:=false
def Out (w w0:World):Prop:=w.output=w0.output/\(wq=true->w0.drawn<=w.drawn)
theorem Out.trans {a b c:World} (h:Out a b) (ab:Out b c):Out a c:=⟨Eq.trans h.1 ab.1,λd=>Nat.le_trans (ab.2 d) (h.2 d)⟩
theorem Out.refl (w:World):Out w w:=⟨rfl,λ_=>Nat.le_refl _⟩
def wt (o:Obj):Prop:=∃aP cs e fr,o= .cells cs e fr/\cs[0]? =some aP/\(aP= .nilIface\/∃wu q_,aP= .iface wu q_)
def tw (o:Obj):Prop:=∃e fr,o= .cells ((range 20).map λi=>Value.int .u64 ((10^i:Nat):Int)).toArray e fr
def tx:List (Nat×(Obj->Prop)):=[(4,wt),(1,tw)]
def gz (w:World) (X:Nat->Prop):Prop:=∀p∈tx,p.1<w.heap.size/\¬X p.1/\∃o,w.heap[p.1]? =some o/\p.2 o
theorem gz.next {w an:World} {X Y:Nat->Prop} (h:gz w X) (R:w.heap.size<=an.heap.size) (J:∀b,b<w.heap.size->¬X b->an.heap[b]? =w.heap[b]?) (hy:∀b,Y b->X b\/w.heap.size<=b):gz an Y:=λp af=>by
 obtain⟨U,ab,o,ay,aQ⟩:=h p af;refine⟨Nat.lt_of_lt_of_le U R,λh=>?_,o,(J _ U ab).trans ay,aQ⟩;rcases hy _ h with h|h
 .exact ab h
 .omega
structure aZ (w0:World) (F0 X F:Nat->Prop) (S:Nat->Nat->Prop) (s:aj) (ao:Nat->Value) (w:World):Prop where
 eK:∀b,F0 b->F b
 eY:∀b,F b->F0 b\/X b\/w0.heap.size<=b
 dk:∀b,F b->b<w.heap.size
 c1:∀t b,S t b->b<w.heap.size
 dN:∀t b,S t b->¬F b
 du:∀t u b,t≠u->S t b->¬S u b
 ck:∀t b,S t b->X b\/w0.heap.size<=b
 b9:∀t,ar w F s ao (s t) (ao t) (S t)
 old:∀b,b<w0.heap.size->¬X b->w.heap[b]? =w0.heap[b]?
 size:w0.heap.size<=w.heap.size
 os:w.os=w0.os
 tape:w.tape=w0.tape
 output:Out w w0
 ef:gz w0 X
section
variable {w0 w an:World} {F0 X F:Nat->Prop} {S:Nat->Nat->Prop} {s:aj} {ao:Nat->Value}
theorem aZ.grow (h:aZ w0 F0 X F S s ao w) (J:∀b,b<w.heap.size->an.heap[b]? =w.heap[b]?) (R:w.heap.size<=an.heap.size)
  (U:an.os=w.os) (ab:an.tape=w.tape) (ay:Out an w):aZ w0 F0 X F S s ao an where
 eK:=h.eK
 eY:=h.eY
 dk:=λb aL=>Nat.lt_of_lt_of_le (h.dk b aL) R
 c1:=λt b aL=>Nat.lt_of_lt_of_le (h.c1 t b aL) R
 dN:=h.dN
 du:=h.du
 ck:=h.ck
 b9:=λt=>ar.frame (Sx:=S) (λb aL=>J b (h.dk b aL)) (λ_ h=>h) (λx b a_=>J b (h.c1 x b a_)) h.b9 _ _ _ (λb a_=>J b (h.c1 t b a_)) (h.b9 t)
 old:=λb cq gQ=>(J b (Nat.lt_of_lt_of_le cq h.size)).trans (h.old b cq gQ)
 size:=Nat.le_trans h.size R
 os:=U.trans h.os
 tape:=ab.trans h.tape
 output:=ay.trans h.output
 ef:=h.ef
def ew (S:Nat->Nat->Prop) (t:Nat) (Sn:Nat->Prop):Nat->Nat->Prop:=λu b=>if u=t then Sn b else S u b
theorem ra (S:Nat->Nat->Prop) (t:Nat) (Sn:Nat->Prop):ew S t Sn t=Sn:=by funext b;simp[ew]
theorem rb (S:Nat->Nat->Prop) {t u:Nat} (Sn:Nat->Prop) (h:u≠t):ew S t Sn u=S u:=by funext b;simp[ew,h]
theorem aZ.tz (h:aZ w0 F0 X F S s ao w) {t:Nat} {d:I} {v:Value} (af:d.plain=true) (ad:ar w F s ao d v (λ_=>False)):
  aZ w0 F0 X F (ew S t (λ_=>False)) (cd s t d) (cd ao t v) w where
 eK:=h.eK
 eY:=h.eY
 dk:=h.dk
 c1:=λu b J=>by simp only[ew]at J;split at J;exact J.elim;exact h.c1 u b J
 dN:=λu b J=>by simp only[ew]at J;split at J;exact J.elim;exact h.dN u b J
 du:=λu x b bT J ak=>by
  simp only[ew]at J ak;split at J
  .exact J.elim
  .split at ak
   .exact ak.elim
   .exact h.du u x b bT J ak
 ck:=λu b J=>by simp only[ew]at J;split at J;exact J.elim;exact h.ck u b J
 b9:=λu=>by
  have eJ:∀x,x≠t->(cd s t d x).tree=true->cd s t d x=s x/\cd ao t v x=ao x:=λx ak _=>⟨gy _ _ ak,gy _ _ ak⟩
  have kT:(cd s t d t).plain=true:=by rw[jH];exact af
  by_cases hu:u=t
  .subst hu;rw[jH,jH,ra];exact(ar.void eJ kT _).1 _ _ _ (Nat.le_refl _) ad
  .rw[gy _ _ hu,gy _ _ hu,rb _ _ hu];exact(ar.void eJ kT _).1 _ _ _ (Nat.le_refl _) (h.b9 u)
 old:=h.old
 size:=h.size
 os:=h.os
 tape:=h.tape
 output:=h.output
 ef:=h.ef
theorem aZ.Ac (h:aZ w0 F0 X F S s ao w) {t:Nat} {d:I} {v:Value} {Sn:Nat->Prop} (ad:d.tree=true) (R:b7 d v) (az:ah w F d (bn v) Sn)
  (cq:∀b,Sn b->b<w.heap.size) (aL:∀b,Sn b->¬F b) (a_:∀u b,u≠t->Sn b->¬S u b) (bj:∀b,Sn b->X b\/w0.heap.size<=b):
  aZ w0 F0 X F (ew S t Sn) (cd (im t s) t d) (cd ao t v) w where
 eK:=h.eK
 eY:=h.eY
 dk:=h.dk
 c1:=λu b J=>by simp only[ew]at J;split at J;exact cq b J;exact h.c1 u b J
 dN:=λu b J=>by simp only[ew]at J;split at J;exact aL b J;exact h.dN u b J
 du:=λu x b bT J ak=>by
  simp only[ew]at J ak;split at J
  .rename_i hu;rw[if_neg (λe=>bT (hu.trans e.symm))]at ak;exact a_ x b (λe=>bT (hu.trans e.symm)) J ak
  .rename_i hu;split at ak
   .exact a_ u b hu ak J
   .exact h.du u x b bT J ak
 ck:=λu b J=>by simp only[ew]at J;split at J;exact bj b J;exact h.ck u b J
 b9:=λu=>by
  have eJ:∀x,x≠t->(cd (im t s) t d x).tree=true->cd (im t s) t d x=s x/\cd ao t v x=ao x:=λx ak aI=>by
   rw[gy _ _ ak]at aI⊢;exact⟨(Gk aI).2,gy _ _ ak⟩
  by_cases hu:u=t
  .subst hu;rw[jH,jH,ra];exact(ar.bx ad).2 ⟨R,az⟩
  .rw[gy _ _ hu,gy _ _ hu,rb _ _ hu];exact(ar.bG eJ _).1 _ _ _ (Nat.le_refl _) (h.b9 u)
 old:=h.old
 size:=h.size
 os:=h.os
 tape:=h.tape
 output:=h.output
 ef:=h.ef
theorem nw (k:Nat) (q:RG) (aV x:I):(∃al gs,x= .agg al/\I.put (k::q) aV x= .agg gs)\/(∃al gs,x= .tuple al/\I.put (k::q) aV x= .tuple gs)\/
  (∃sz xs bM,x= .aE sz xs/\I.put (k::q) aV x= .aE sz bM)\/(∃y z,x= .bC y/\I.put (k::q) aV x= .bC z)\/I.put (k::q) aV x=x:=by
 cases x with
 |agg al=>simp only[I.put];split<;>exact .inl ⟨_,_,rfl,rfl⟩
 |tuple al=>simp only[I.put];split<;>exact .inr (.inl ⟨_,_,rfl,rfl⟩)
 |aE sz al=>simp only[I.put];split<;>exact .inr (.inr (.inl ⟨_,_,_,rfl,rfl⟩))
 |bC y=>cases k<;>exact .inr (.inr (.inr (.inl ⟨_,_,rfl,rfl⟩)))
 |_=>exact .inr (.inr (.inr (.inr rfl)))
theorem Ad {k:Nat} {q:RG} {aV x:I} {v:Value} (h:eS x v):eS (I.put (k::q) aV x) v:=by
 rcases nw k q aV x with⟨al,gs,rfl,e⟩|⟨al,gs,rfl,e⟩|⟨sz,xs,bM,rfl,e⟩|⟨y,z,rfl,e⟩|e<;>rw[e]<;>exact h
theorem Ae {k:Nat} {q:RG} {aV x:I} (h:∀vs,x≠.tuple vs):∀vs,I.put (k::q) aV x≠.tuple vs:=by
 rcases nw k q aV x with⟨al,gs,rfl,e⟩|⟨al,gs,rfl,e⟩|⟨sz,xs,bM,rfl,e⟩|⟨y,z,rfl,e⟩|e<;>rw[e]<;>first|exact h|(intro vs aN;cases aN;done)|exact(h _ rfl).elim
theorem re {k:Nat} {q:RG} {d aV av:I} {v:Value} (h:b7 av v) (ad:I.sub (k::q) av=some d) (U:∀v,eS d v->eS aV v) (ab:(∀vs,d≠.tuple vs)->∀vs,aV≠.tuple vs) (ay:aV.wd=d.wd):
  b7 (I.put (k::q) aV av) v:=by
 cases av with
 |tuple al=>
  simp only[I.sub]at ad;split at ad
  .rename_i x ak;simp only[I.put,ak];simp only[b7]at h⊢;obtain⟨arr,rfl,bt,fk⟩:=h;refine⟨arr,rfl,by simpa using bt,λj e y he hy=>?_⟩;rw[getElem?_set]at he;split at he
   .rename_i wv;subst wv;split at he
    .simp only[some.injEq]at he;subst he;obtain⟨g1,g2,g3⟩:=fk k x y ak hy;refine⟨?_,?_,g3.trans (I.pI q x d aV ad ay).symm⟩
     .cases q with
      |nil=>
       simp only[I.sub,some.injEq]at ad;subst ad;exact U _ g1
      |cons bN q=>exact Ad g1
     .cases q with
      |nil=>
       simp only[I.sub,some.injEq]at ad;subst ad;exact ab g2
      |cons bN q=>exact Ae g2
    .cases he
   .exact fk j e y he hy
  .cases ad
 |agg al=>simp only[I.put];split<;>exact h
 |aE sz al=>simp only[I.put];split<;>exact h
 |bC y=>cases k<;>exact h
 |_=>exact h
theorem wx {d:I} {v:Value} (h:eS d v):eS d.bU v:=by cases d<;>exact h
theorem Af {s:aj} {x:Nat} {q:RG} {d:I} (ad:I.sub q (s x)=some d) (af:d.plain=false):
  (cd (fa x s) x (I.put q d.bU (s x)) x).plain=false->(s x).plain=false/\∀v,b7 (s x) v->b7 (cd (fa x s) x (I.put q d.bU (s x)) x) v:=by
  rw[jH];intro dZ;cases q with
  |nil=>
   exfalso;have:∀d:I,d.bU.plain=true:=by
    intro d;have key:∀n,(∀d:I,SizeOf.sizeOf d<=n->d.bU.plain=true)/\(∀ds:RL,SizeOf.sizeOf ds<=n->I.ee (I.hU ds)=true):=by
     intro n;induction n with
     |zero=>exact⟨λd bt=>by cases d<;>simp at bt<;>omega,λds bt=>by cases ds<;>simp at bt<;>omega⟩
     |succ n ih=>
      refine⟨λd bt=>?_,λds bt=>?_⟩
      .cases d with
       |agg al=>simp only[I.bU,I.plain];exact ih.2 _ (by simp at bt;omega)
       |tuple al=>simp only[I.bU,I.plain];exact ih.2 _ (by simp at bt;omega)
       |_=>rfl
      .cases ds with
       |nil=>rfl
       |cons d ds=>
        simp at bt;simp only[I.hU,I.ee,Bool.and_eq_true];exact⟨ih.1 _ (by omega),ih.2 _ (by omega)⟩
    exact(key _).1 d (Nat.le_refl _)
   simp only[I.put]at dZ;rw[this]at dZ;cases dZ
  |cons k q=>
   refine⟨?_,λv az=>re az ad (λv h=>wx h) (λh vs e=>?_) (I.nv d)⟩
   .cases d_:(s x).plain with
    |false=>rfl
    |true=>rw[I.wj _ _ _ d_ ad]at af;cases af
   .cases d<;>first|(exact h _ rfl)|(simp[I.bU]at e)
theorem aZ.take (h:aZ w0 F0 X F S s ao w) {x:Nat} {q:RG} {d:I} (ad:I.sub q (s x)=some d) (af:d.plain=false):
  ∃(Sn df:Nat->Prop) (bF:RJ) (a:Option (Nat×Nat)),aZ w0 F0 X F (ew S x Sn) (cd (fa x s) x (I.put q d.bU (s x))) ao w/\
   b6 w q (s x) (bn (ao x)) none=some (d,bF,a)/\ah w F d bF df/\(∀b,df b->S x b)/\(∀b,Sn b->S x b)/\(∀b,df b->¬Sn b)/\
   (∀(aV:I) (v:Value) (aB:Nat->Prop),ar w F s ao aV v aB->ar w F (cd (fa x s) x (I.put q d.bU (s x))) ao (ca.bm x aV) v aB):=by
 have aI:=eX ad (.inl af);have ak:=h.b9 x;rw[ar.bx aI]at ak;obtain⟨bF,a,cr,df,g0,g1,g2,g3,g4,g5⟩:=ctx q (s x) (bn (ao x)) (S x) none d ak.2 ad;have gN:ah w F (I.put q d.bU (s x)) (bn (ao x)) cr:=by
  have gm:ah w F d.bU bF (λ_=>False):=ah.bU _ _ _ _ g4;have lC:∀b,(cr b\/False)->cr b:=λb h=>h.elim id False.elim;rcases g5 with⟨l,r,aD,aG,aJ⟩|⟨b,cur,e,fr,l,r,aD,aG,aJ,bp,bJ,bk⟩
  .have:=aJ w _ bF _ (λ_ _=>rfl) (λ_ _=>rfl) (I.nv d) gm (λ_ h=>h.elim);rw[<-aD]at this;exact ah.mono (λ_ h=>h) _ _ _ _ lC this
  .have:=bk w _ bF _ (λ_ _=>rfl) (λ_ _ _=>rfl) (by rw[aJ,<-bJ]) (I.nv d) gm (λ_ h=>h.elim);exact ah.mono (λ_ h=>h) _ _ _ _ lC this
 have Gl:b7 (I.put q d.bU (s x)) (ao x)/\(I.put q d.bU (s x)).tree=true\/I.put q d.bU (s x)= .hole:=by
  cases q with
  |nil=>
   simp only[I.sub,some.injEq]at ad;subst ad;simp only[I.put];cases R:s x with
   |aE sz xs=>right;rfl
   |bC y=>right;rfl
   |cf y=>right;rfl
   |agg al=>left;rw[R]at ak;exact⟨ak.1,rfl⟩
   |tuple al=>
    left;rw[R]at ak;refine⟨?_,rfl⟩;simp only[b7,I.bU]at ak⊢;obtain⟨arr,e,bt,fk⟩:=ak.1;have hl:∀al:RL,I.hU al=al.map I.bU:=by
     intro al;induction al with
     |nil=>rfl
     |cons a al ih=>simp[I.hU,ih]
    refine⟨arr,e,by rw[hl];simpa using bt,λk ej y he hy=>?_⟩;rw[hl,getElem?_map]at he;cases ag:al[k]? with
    |none=>rw[ag]at he;cases he
    |some z=>
     rw[ag]at he;simp only[map_some,some.injEq]at he;subst he;obtain⟨g1,g2,g3⟩:=fk k z y ag hy;refine⟨wx g1,λvs e=>?_,g3.trans (I.nv z).symm⟩;cases z<;>first|(exact g2 _ rfl)|(simp[I.bU]at e)
   |dE _ _=>right;simp[I.bU]
   |_=>rw[R]at af;simp[I.plain]at af
  |cons k q=>
   left;refine⟨re ak.1 ad (λv h=>wx h) (λh vs e=>?_) (I.nv d),?_⟩
   .cases d<;>first|(exact h _ rfl)|(simp[I.bU]at e)
   .rcases nw k q d.bU (s x)with⟨al,gs,aD,e⟩|⟨al,gs,aD,e⟩|⟨sz,xs,bM,aD,e⟩|⟨y,z,aD,e⟩|e<;>rw[e]<;>first|rfl|exact aI
 refine⟨cr,df,bF,a,?_,g0,g4,g2,g1,λb U ab=>g3 b ab U,?_⟩
 rotate_left
 .have eJ:∀y,y≠x->(cd (fa x s) x (I.put q d.bU (s x)) y).tree=true->cd (fa x s) x (I.put q d.bU (s x)) y=s y/\ao y=ao y:=λy hy aI=>by
   rw[gy _ _ hy]at aI⊢;exact⟨(tv aI).2,rfl⟩
  intro aV v aB eP;exact(ar.bm eJ rfl (Af ad af) (λ_ _ _ _ _ _=>rfl) (λ_ _=>rfl) _).1 _ _ _ (Nat.le_refl _) (λ_ _=>rfl) eP
 have eJ:∀y,y≠x->(cd (fa x s) x (I.put q d.bU (s x)) y).tree=true->cd (fa x s) x (I.put q d.bU (s x)) y=s y/\ao y=ao y:=λy hy aI=>by
  rw[gy _ _ hy]at aI⊢;exact⟨(tv aI).2,rfl⟩
 have dh:=Af (s:=s) (x:=x) ad af;constructor;case eK=>exact h.eK
 case eY=>exact h.eY
 case dk=>exact h.dk
 case c1=>exact λu b J=>by simp only[ew]at J;split at J;exact h.c1 x b (g1 b J);exact h.c1 u b J
 case dN=>exact λu b J=>by simp only[ew]at J;split at J;exact h.dN x b (g1 b J);exact h.dN u b J
 case du=>
  intro u y b bT J hy;simp only[ew]at J hy;split at J
  .rename_i hu;rw[if_neg (λe=>bT (hu.trans e.symm))]at hy;exact h.du x y b (λe=>bT (hu.trans e)) (g1 b J) hy
  .rename_i hu;split at hy
   .exact h.du u x b hu J (g1 b hy)
   .exact h.du u y b bT J hy
 case ck=>exact λu b J=>by simp only[ew]at J;split at J;exact h.ck x b (g1 b J);exact h.ck u b J
 case b9=>
  intro u;by_cases hu:u=x
  .subst hu;rw[jH,ra];rcases Gl with⟨aD,aG⟩|e
   .exact(ar.bx aG).2 ⟨aD,gN⟩
   .rw[e,ar];trivial
  .rw[gy _ _ hu,rb _ _ hu];exact(ar.bm eJ rfl dh (λ_ _ _ _ _ _=>rfl) (λ_ _=>rfl) _).1 _ _ _ (Nat.le_refl _) (λ_ _=>rfl) (h.b9 u)
 case old=>exact h.old
 case size=>exact h.size
 case os=>exact h.os
 case tape=>exact h.tape
 case output=>exact h.output
 case ef=>exact h.ef
theorem aZ.store (h:aZ w0 F0 X F S s ao w) {x:Nat} {q:RG} {d aV:I} (ad:I.sub q (s x)=some d) (ae:I.dt q (s x)=true)
  {dG:RJ} {Sn:Nat->Prop} (az:ah w F aV dG Sn) (g_:aV.wd=d.wd)
  (cq:∀b,Sn b->b<w.heap.size) (aL:∀b,Sn b->¬F b) (a_:∀u b,Sn b->¬S u b) (bj:∀b,Sn b->X b\/w0.heap.size<=b):
  ∃(bF:RJ) (b:Nat) (l r:RJ) (cur:Array Value) (e:TypeId) (fr:Nat×Nat),b6 w q (s x) (bn (ao x)) none=some (d,bF,some (b,l.length))/\
   w.heap[b]? =some (.cells cur e fr)/\cur.toList=l++(bF++r)/\jd fr cur.size/\
   ∀an,an.heap[b]? =some (.cells (l++(dG++r)).toArray e fr)->(∀c,c≠b->an.heap[c]? =w.heap[c]?)->an.heap.size=w.heap.size->an.os=w.os->an.tape=w.tape->Out an w->
    ∃aB,aZ w0 F0 X F aB (cd (fa x s) x (I.put q aV (s x))) ao an:=by
 have aI:=eX ad (.inr ae);have ak:=h.b9 x;rw[ar.bx aI]at ak;obtain⟨bF,a,cr,df,g0,g1,g2,g3,g4,g5⟩:=ctx q (s x) (bn (ao x)) (S x) none d ak.2 ad;have Gm:Deep w F q (s x) (bn (ao x)) d bF a cr:=by
  rcases g5 with⟨l,r,aD,aG,aJ⟩|g5
  .exfalso;have hx:∀(q:RG) (av:I) (cs:RJ) (a0:Option (Nat×Nat)) (d:I) (bF:RJ),I.dt q av=true->b6 w q av cs a0=some (d,bF,none)->False:=by
    intro q;induction q with
    |nil=>intro av cs a0 d bF ae;simp[I.dt]at ae
    |cons k q ih=>
     have Ag:∀(q:RG) (av:I) (cs:RJ) (l:Nat×Nat) (d:I) (bF:RJ),b6 w q av cs (some l)=some (d,bF,none)->False:=by
      intro q;induction q with
      |nil=>intro av cs l d bF h;simp[b6]at h
      |cons k q tA=>
       intro av cs l d bF h;cases av with
       |agg al=>rw[b6]at h;split at h;exact tA _ _ _ _ _ h;cases h
       |tuple al=>rw[b6]at h;split at h;exact tA _ _ _ _ _ h;cases h
       |aE sz xs=>simp only[b6]at h;split at h;exact tA _ _ _ _ _ h;cases h
       |bC y=>
        cases k with
        |zero=>rw[b6.eq_def]at h;simp only at h;split at h;exact tA _ _ _ _ _ h;cases h
        |succ k=>rw[show b6 w ((k+1)::q) (.bC y) cs (some l)=none from rfl]at h;cases h
       |_=>simp[b6]at h
     intro av cs a0 d bF ae h;cases av with
     |agg al=>
      simp only[I.dt]at ae;split at ae
      .rename_i y hy;simp only[b6,hy]at h;exact ih _ _ _ _ _ ae h
      .cases ae
     |tuple al=>
      simp only[I.dt]at ae;split at ae
      .rename_i y hy;simp only[b6,hy]at h;exact ih _ _ _ _ _ ae h
      .cases ae
     |aE sz xs=>simp only[b6]at h;split at h;exact Ag _ _ _ _ _ _ h;cases h
     |bC y=>
      cases k with
      |zero=>rw[b6.eq_def]at h;simp only at h;split at h;exact Ag _ _ _ _ _ _ h;cases h
      |succ k=>rw[show b6 w ((k+1)::q) (.bC y) cs a0=none from rfl]at h;cases h
     |_=>simp[I.dt]at ae
   simp only[map_none]at aG;subst aG;exact hx _ _ _ _ _ _ ae g0
  .exact g5
 obtain⟨b,cur,e,fr,l,r,rfl,aG,aJ,bp,bJ,bk⟩:=Gm;refine⟨bF,b,l,r,cur,e,fr,g0,aJ,bJ,bp,?_⟩;intro an iO j9 dm wy wz ou;have ov:S x b:=g1 _ aG;have lD:∀c,F c->an.heap[c]? =w.heap[c]? :=λc ae=>j9 c (by rintro rfl;exact h.dN x _ ov ae);have QE:dG.length=bF.length:=by rw[ah.length _ _ _ az,ah.length _ _ _ g4,g_]
 have gN:=bk an aV dG Sn lD (λc _ bT=>j9 c bT) iO g_
  (ah.frame lD _ _ _ (λc ae=>j9 c (by rintro rfl;exact a_ x _ ae ov)) az) (λc ae lC=>a_ x c ae (g1 _ lC))
 obtain⟨k,fu,rfl⟩:∃k fu,q=k::fu:=by
  cases q with
  |nil=>simp[I.dt]at ae
  |cons k q=>exact⟨k,q,rfl⟩
 have rf:∀v,b7 (s x) v->b7 (I.put (k::fu) aV (s x)) v:=by
  intro v az;rcases nw k fu aV (s x)with⟨al,gs,aD,e⟩|⟨al,gs,aD,e⟩|⟨sz,xs,bM,aD,e⟩|⟨y,z,aD,e⟩|e
  .rw[e];rw[aD]at az;exact az
  ·
   rw[aD]at az ad ae⊢;simp only[I.dt]at ae;split at ae
   .rename_i y hy;simp only[I.put,hy];cases fu with
    |nil=>simp[I.dt]at ae
    |cons bN dx=>
     simp only[b7]at az⊢;obtain⟨arr,rfl,bt,fk⟩:=az;refine⟨arr,rfl,by simpa using bt,λj e iP he ow=>?_⟩;rw[getElem?_set]at he;split at he
     .rename_i wv;subst wv;split at he
      .simp only[some.injEq]at he;subst he;obtain⟨g1,g2,g3⟩:=fk _ y iP hy ow;simp only[I.sub,hy]at ad;exact⟨Ad g1,Ae g2,g3.trans (I.pI (bN::dx) y d aV ad g_).symm⟩
      .cases he
     .exact fk j e iP he ow
   .cases ae
  .rw[e];rw[aD]at az;exact az
  .rw[e];rw[aD]at az;exact az
  .rw[e];exact az
 have Gn:(I.put (k::fu) aV (s x)).tree=true:=by
  rcases nw k fu aV (s x)with⟨al,gs,aD,e⟩|⟨al,gs,aD,e⟩|⟨sz,xs,bM,aD,e⟩|⟨y,z,aD,e⟩|e<;>rw[e]<;>first|rfl|exact aI
 let aq:=cd (fa x s) x (I.put (k::fu) aV (s x))
 have eJ:∀y,y≠x->(aq y).tree=true->aq y=s y/\ao y=ao y:=λy hy aI=>by
  have e:aq y=bm x (s y):=gy _ _ hy;rw[e]at aI⊢;exact⟨(tv aI).2,rfl⟩
 have dh:(aq x).plain=false->(s x).plain=false/\∀v,b7 (s x) v->b7 (aq x) v:=by
  intro _;refine⟨?_,?_⟩
  .cases d_:(s x).plain with
   |false=>rfl
   |true=>rw[I.Aa _ _ d_]at ae;cases ae
  .simp only[aq,jH];exact rf
 refine⟨ew S x (λc=>cr c\/Sn c),?_⟩;constructor;case eK=>exact h.eK
 case eY=>exact h.eY
 case dk=>exact λb J=>by rw[dm];exact h.dk b J
 case c1=>
  intro u c J;rw[dm];simp only[ew]at J;split at J
  .rcases J with J|J
   .exact h.c1 x c (g1 c J)
   .exact cq c J
  .exact h.c1 u c J
 case dN=>
  intro u c J;simp only[ew]at J;split at J
  .rcases J with J|J
   .exact h.dN x c (g1 c J)
   .exact aL c J
  .exact h.dN u c J
 case du=>
  intro u y c bT J hy;simp only[ew]at J hy;split at J
  .rename_i hu;rw[if_neg (λe=>bT (hu.trans e.symm))]at hy;rcases J with J|J
   .exact h.du x y c (λe=>bT (hu.trans e)) (g1 c J) hy
   .exact a_ y c J hy
  .rename_i hu;split at hy
   .rcases hy with hy|hy
    .exact h.du u x c hu J (g1 c hy)
    .exact a_ u c hy J
   .exact h.du u y c bT J hy
 case ck=>
  intro u c J;simp only[ew]at J;split at J
  .rcases J with J|J
   .exact h.ck x c (g1 c J)
   .exact bj c J
  .exact h.ck u c J
 case b9=>
  intro u;by_cases hu:u=x
  .subst hu;rw[jH,ra];exact(ar.bx Gn).2 ⟨rf _ ak.1,gN⟩
  .rw[gy _ _ hu,rb _ _ hu];have bT:∀y c,y≠x->S y c->an.heap[c]? =w.heap[c]? :=λy c hy ae=>j9 c (by rintro rfl;exact h.du y x c hy ae ov);refine(ar.bm eJ rfl dh (λy dx d2 hy eT rh=>?_) lD _).1 _ _ _ (Nat.le_refl _) (λc ae=>bT u c hu ae) (h.b9 u);have ri:=h.b9 y;rw[ar.bx (eX eT rh)]at ri;exact tu dx _ _ _ none d2 ri.2 eT (λc ae=>bT y c hy ae)
 case old=>
  intro c cq gQ;by_cases pK:c=b
  .subst pK;exfalso;rcases h.ck x c ov with gm|gm
   .exact gQ gm
   .omega
  .exact(j9 c pK).trans (h.old c cq gQ)
 case size=>rw[dm];exact h.size
 case os=>exact wy.trans h.os
 case tape=>exact wz.trans h.tape
 case output=>exact ou.trans h.output
 case ef=>exact h.ef
end
end Go.ca
