/- Part of a proof that a law returns true for every input. No condition. -/
import Derived.Test.YtmaepbgkcmjcjafGreatDoorFwA
import Derived.Laws.AppendOwn
import Derived.Calls
namespace Go.eg
open List Option Go.IntKind Nat
inductive DK where
 |mp (es:aya)
 |ki
 |jF (T e:TypeId) (lW:ayc)
inductive I where
 |hole
 |bool (b:Bool)
 |gn
 |int (k:IntKind) (n:Int)
 |str (s:ayc)
 |er
 |bg
 |slice (xs:List I)
 |ag (sz:Nat) (xs:List I)
 |ref (d:I)
 |aS (d:I)
 |agg (aF:List I)
 |tuple (vs:List I)
 |fn (f:FuncId) (cap:List I)
 |h (x:Nat) (q:ayf)
 |ax (x:Nat) (q:ayf)
 |aa (x:Nat) (k:Nat)
 |cc (o:DK)
 deriving Inhabited
abbrev ayk:=List I
abbrev ayj:=List (Nat×I)
mutual
def I.wd:I->Nat
 | .agg aF=>I.e9 aF
 | .tuple aF=>I.e9 aF
 |_=>1
def I.e9:ayk->Nat
 |[]=>0
 |d::ds=>d.wd+I.e9 ds
end
def jv (w:World) (b o:Nat) (cs:ayi):Prop:=∀j c,cs[j]? =some c->w.cell? ⟨b,o+j,none⟩=some c
def pF (fr:Nat×Nat) (n:Nat):Prop:=∀o,o<n->¬(fr.1<=o/\o<fr.2)
theorem pF.le {fr:Nat×Nat} {m n:Nat} (h:pF fr n) (hm:m<=n):pF fr m:=λo bI=>h o (Nat.lt_of_lt_of_le bI hm)
theorem pF.low {fr:Nat×Nat} {n k:Nat} (h:pF fr (n+k)):pF fr n:=h.le (le_add_right _ _)
def Value.hF:Value->Bool
 | .agg _=>false
 | .tuple _=>false
 |_=>true
def I.single:I->Bool
 | .agg _=>false
 | .tuple _=>false
 | .hole=>false
 |_=>true
def oz (w:World):DK->ayi->(Nat->Prop)->Prop
 | .mp es,cs,S=>∃r ms pG,cs=[.map (some r)]/\S r/\w.heap[r]? =some (.map ms pG)/\ms.toList.map (λe=>(e.key,e.val))=es.map (λe=>(.string ⟨⟨e.1⟩⟩,.bool e.2))
 | .ki,cs,_=>cs=[.map none]
 | .jF T e lW,cs,S=>∃b a ys,cs=[.pointer (some ⟨b,0,none⟩)]/\S b/\w.heap[b]? =some (.cells #[a,ys] T (0,0))/\(a= .pointer none\/a= .pointer (some ⟨b,0,none⟩))/\
   ((lW=[]/\ys= .slice none 0 0)\/
     ∃g cap cur,ys= .slice (some ⟨g,0,none⟩) lW.length cap/\S g/\g≠b/\w.heap[g]? =some (.cells cur e (0,0))/\lW.length<=cap/\cap<=maxLen/\cur.size=cap/\
      cur.toList.take lW.length=lW.map λx=>.int .u8 x.toNat)
theorem oz.frame {w aN:World}:∀{o:DK} {cs:ayi} {S:Nat->Prop},(∀b,S b->aN.heap[b]? =w.heap[b]?)->oz w o cs S->oz aN o cs S
 | .mp _,_,_,cj,⟨r,ms,pG,ad,af,aG,bf⟩=>⟨r,ms,pG,ad,af,(cj _ af).trans aG,bf⟩
 | .ki,_,_,_,h=>h
 | .jF _ _ _,_,_,cj,⟨b,a,ys,ad,af,aG,bf,bU⟩=>⟨b,a,ys,ad,af,(cj _ af).trans aG,bf,bU.imp (λh=>h) λ⟨g,cap,cur,wY,i2,i3,i4,i5⟩=>⟨g,cap,cur,wY,i2,i3,(cj _ i2).trans i4,i5⟩⟩
theorem oz.mono {w:World}:∀{o:DK} {cs:ayi} {S a7:Nat->Prop},(∀b,S b->a7 b)->oz w o cs S->oz w o cs a7
 | .mp _,_,_,_,cj,⟨r,ms,pG,ad,af,aG⟩=>⟨r,ms,pG,ad,cj _ af,aG⟩
 | .ki,_,_,_,_,h=>h
 | .jF _ _ _,_,_,_,cj,⟨b,a,ys,ad,af,aG,bf,bU⟩=>⟨b,a,ys,ad,cj _ af,aG,bf,bU.imp (λh=>h) λ⟨g,cap,cur,wY,i2,i3⟩=>⟨g,cap,cur,wY,cj _ i2,i3⟩⟩
theorem oz.one {w:World}:∀{o:DK} {cs:ayi} {S:Nat->Prop},oz w o cs S->∃v,Value.hF v=true/\cs=[v]
 | .mp _,_,_,⟨_,_,_,h,_⟩=>⟨_,rfl,h⟩
 | .ki,_,_,h=>⟨_,rfl,h⟩
 | .jF _ _ _,_,_,⟨_,_,_,h,_⟩=>⟨_,rfl,h⟩
mutual
def aB (w:World) (F:Nat->Prop):I->ayi->(Nat->Prop)->Prop
 | .hole,cs,_=>∃v,Value.hF v=true/\cs=[v]
 | .bool b,cs,_=>cs=[.bool b]
 | .gn,cs,_=>∃b,cs=[.bool b]
 | .int k n,cs,_=>cs=[.int k n]
 | .str s,cs,_=>cs=[.string ⟨⟨s⟩⟩]
 | .er,cs,_=>cs=[.pointer none]
 | .bg,cs,_=>cs=[.slice none 0 0]
 | .slice xs,cs,_=>(xs=[]/\∃a c,cs=[.slice a 0 c]/\c<=maxLen/\(a=none->c=0))\/
   ∃b o cap fo sz,cs=[.slice (some ⟨b,o,none⟩) xs.length cap]/\F b/\xs.length<=cap/\cap<=maxLen/\(∀d∈xs,d.wd=sz)/\
    jv w b o fo/\bt w F xs fo (λ_=>False)
 | .ag sz xs,cs,S=>(xs=[]/\∃a,cs=[.slice a 0 0])\/
   ∃b cap cur e fr a7,cs=[.slice (some ⟨b,0,none⟩) xs.length cap]/\S b/\w.heap[b]? =some (.cells cur e fr)/\pF fr (cur.size+(sz-1))/\
    xs.length<=cap/\cap<=maxLen/\cur.size=cap*sz/\(∀d∈xs,d.wd=sz)/\bt w F xs (cur.toList.take (xs.length*sz)) a7/\(∀c,a7 c->S c)/\¬a7 b
 | .ref d,cs,_=>∃b o fo,cs=[.pointer (some ⟨b,o,none⟩)]/\F b/\jv w b o fo/\aB w F d fo (λ_=>False)
 | .aS d,cs,S=>∃b cur e fr a7,cs=[.pointer (some ⟨b,0,none⟩)]/\S b/\w.heap[b]? =some (.cells cur e fr)/\pF fr cur.size/\
   aB w F d cur.toList a7/\(∀c,a7 c->S c)/\¬a7 b
 | .agg aF,cs,S=>bt w F aF cs S
 | .tuple aF,cs,S=>bt w F aF cs S
 | .fn f caps,cs,_=>∃arr:Array Value,cs=[.func (.func f) #[] arr]/\(∀d∈caps,d.single=true)/\bt w F caps arr.toList (λ_=>False)
 | .h _ _,_,_=>False
 | .ax _ _,_,_=>False
 | .aa _ _,_,_=>False
 | .cc o,cs,S=>oz w o cs S
def bt (w:World) (F:Nat->Prop):ayk->ayi->(Nat->Prop)->Prop
 |[],cs,_=>cs=[]
 |d::ds,cs,S=>∃cr c2 cI eF,cs=cr++c2/\aB w F d cr cI/\bt w F ds c2 eF/\(∀b,cI b->S b)/\(∀b,eF b->S b)/\(∀b,cI b->¬eF b)
end
theorem cell?_of_block {w aN:World} {b:Nat} (h:aN.heap[b]? =w.heap[b]?) (o:Nat):aN.cell? ⟨b,o,none⟩=w.cell? ⟨b,o,none⟩:=by
 simp[World.cell?,h]
theorem jv.frame {w aN:World} {b o:Nat} {cs:ayi} (h:aN.heap[b]? =w.heap[b]?) (aQ:jv w b o cs):jv aN b o cs:=
 λj c ar=>(cell?_of_block h _).trans (aQ j c ar)
mutual
theorem aB.frame {w aN:World} {F:Nat->Prop} (bE:∀b,F b->aN.heap[b]? =w.heap[b]?):
  ∀(d:I) (cs:ayi) (S:Nat->Prop),(∀b,S b->aN.heap[b]? =w.heap[b]?)->aB w F d cs S->aB aN F d cs S
 | .hole,_,_,_,h=>h
 | .bool _,_,_,_,h=>h
 | .gn,_,_,_,h=>h
 | .int _ _,_,_,_,h=>h
 | .str _,_,_,_,h=>h
 | .er,_,_,_,h=>h
 | .bg,_,_,_,h=>h
 | .slice xs,cs,S,cj,h=>by
   rw[aB]at h⊢;rcases h with h|⟨b,o,cap,fo,sz,ad,af,aG,bf,bU,dc,c1⟩
   .exact .inl h
   .exact .inr ⟨b,o,cap,fo,sz,ad,af,aG,bf,bU,dc.frame (bE _ af),bt.frame bE xs _ _ (λ_ h=>h.elim) c1⟩
 | .ag sz xs,cs,S,cj,h=>by
   rw[aB]at h⊢;rcases h with h|⟨b,cap,cur,e,fr,a7,ad,af,aG,bf,bU,dc,c1,g_,iN,k9,oA⟩
   .exact .inl h
   .exact .inr ⟨b,cap,cur,e,fr,a7,ad,af,(cj _ af).trans aG,bf,bU,dc,c1,g_,bt.frame bE xs _ _ (λc ar=>cj _ (k9 _ ar)) iN,k9,oA⟩
 | .ref d,cs,S,cj,h=>by
   rw[aB]at h⊢;obtain⟨b,o,fo,ad,af,aG,bf⟩:=h;exact⟨b,o,fo,ad,af,aG.frame (bE _ af),aB.frame bE d _ _ (λ_ h=>h.elim) bf⟩
 | .aS d,cs,S,cj,h=>by
   rw[aB]at h⊢;obtain⟨b,cur,e,fr,a7,ad,af,aG,bf,bU,dc,c1⟩:=h;exact⟨b,cur,e,fr,a7,ad,af,(cj _ af).trans aG,bf,aB.frame bE d _ _ (λc ar=>cj _ (dc _ ar)) bU,dc,c1⟩
 | .agg aF,cs,S,cj,h=>by rw[aB]at h⊢;exact bt.frame bE aF _ _ cj h
 | .tuple aF,cs,S,cj,h=>by rw[aB]at h⊢;exact bt.frame bE aF _ _ cj h
 | .fn _ caps,cs,S,cj,h=>by
   rw[aB]at h⊢;obtain⟨arr,ad,af,aG⟩:=h;exact⟨arr,ad,af,bt.frame bE caps _ _ (λ_ h=>h.elim) aG⟩
 | .h _ _,_,_,_,h=>h
 | .ax _ _,_,_,_,h=>h
 | .aa _ _,_,_,_,h=>h
 | .cc _,_,_,cj,h=>oz.frame cj h
theorem bt.frame {w aN:World} {F:Nat->Prop} (bE:∀b,F b->aN.heap[b]? =w.heap[b]?):
  ∀(ds:ayk) (cs:ayi) (S:Nat->Prop),(∀b,S b->aN.heap[b]? =w.heap[b]?)->bt w F ds cs S->bt aN F ds cs S
 |[],_,_,_,h=>h
 |d::ds,cs,S,cj,h=>by
  rw[bt]at h⊢;obtain⟨cr,c2,cI,eF,ad,af,aG,bf,bU,dc⟩:=h;exact⟨cr,c2,cI,eF,ad,aB.frame bE d _ _ (λb aa=>cj _ (bf _ aa)) af,bt.frame bE ds _ _ (λb aa=>cj _ (bU _ aa)) aG,bf,bU,dc⟩
end
mutual
theorem aB.mono {w:World} {F ch:Nat->Prop} (bE:∀b,F b->ch b):
  ∀(d:I) (cs:ayi) (S a7:Nat->Prop),(∀b,S b->a7 b)->aB w F d cs S->aB w ch d cs a7
 | .hole,_,_,_,_,h=>h
 | .bool _,_,_,_,_,h=>h
 | .gn,_,_,_,_,h=>h
 | .int _ _,_,_,_,_,h=>h
 | .str _,_,_,_,_,h=>h
 | .er,_,_,_,_,h=>h
 | .bg,_,_,_,_,h=>h
 | .slice xs,cs,S,_,cj,h=>by
   rw[aB]at h⊢;rcases h with h|⟨b,o,cap,fo,sz,ad,af,aG,bf,bU,dc,c1⟩
   .exact .inl h
   .exact .inr ⟨b,o,cap,fo,sz,ad,bE _ af,aG,bf,bU,dc,bt.mono bE xs _ _ _ (λ_ h=>h) c1⟩
 | .ag sz xs,cs,S,_,cj,h=>by
   rw[aB]at h⊢;rcases h with h|⟨b,cap,cur,e,fr,a7,ad,af,aG,bf,bU,dc,c1,g_,iN,k9,oA⟩
   .exact .inl h
   .exact .inr ⟨b,cap,cur,e,fr,a7,ad,cj _ af,aG,bf,bU,dc,c1,g_,bt.mono bE xs _ _ _ (λ_ h=>h) iN,λc ar=>cj _ (k9 _ ar),oA⟩
 | .ref d,cs,S,_,cj,h=>by
   rw[aB]at h⊢;obtain⟨b,o,fo,ad,af,aG,bf⟩:=h;exact⟨b,o,fo,ad,bE _ af,aG,aB.mono bE d _ _ _ (λ_ h=>h) bf⟩
 | .aS d,cs,S,_,cj,h=>by
   rw[aB]at h⊢;obtain⟨b,cur,e,fr,a7,ad,af,aG,bf,bU,dc,c1⟩:=h;exact⟨b,cur,e,fr,a7,ad,cj _ af,aG,bf,aB.mono bE d _ _ _ (λ_ h=>h) bU,λc ar=>cj _ (dc _ ar),c1⟩
 | .agg aF,cs,S,_,cj,h=>by rw[aB]at h⊢;exact bt.mono bE aF _ _ _ cj h
 | .tuple aF,cs,S,_,cj,h=>by rw[aB]at h⊢;exact bt.mono bE aF _ _ _ cj h
 | .fn _ caps,cs,S,_,cj,h=>by
   rw[aB]at h⊢;obtain⟨arr,ad,af,aG⟩:=h;exact⟨arr,ad,af,bt.mono bE caps _ _ _ (λ_ h=>h) aG⟩
 | .h _ _,_,_,_,_,h=>h
 | .ax _ _,_,_,_,_,h=>h
 | .aa _ _,_,_,_,_,h=>h
 | .cc _,_,_,_,cj,h=>oz.mono cj h
theorem bt.mono {w:World} {F ch:Nat->Prop} (bE:∀b,F b->ch b):
  ∀(ds:ayk) (cs:ayi) (S a7:Nat->Prop),(∀b,S b->a7 b)->bt w F ds cs S->bt w ch ds cs a7
 |[],_,_,_,_,h=>h
 |d::ds,cs,S,_,cj,h=>by
  rw[bt]at h⊢;obtain⟨cr,c2,cI,eF,ad,af,aG,bf,bU,dc⟩:=h;exact⟨cr,c2,cI,eF,ad,aB.mono bE d _ _ _ (λ_ h=>h) af,bt.mono bE ds _ _ _ (λ_ h=>h) aG,λb aa=>cj _ (bf _ aa),λb aa=>cj _ (bU _ aa),dc⟩
end
mutual
theorem aB.length {w:World} {F:Nat->Prop}:∀(d:I) (cs:ayi) (S:Nat->Prop),aB w F d cs S->cs.length=d.wd
 | .hole,cs,S,h=>by rw[aB]at h;obtain⟨v,_,rfl⟩:=h;rfl
 | .bool _,cs,S,h=>by rw[aB]at h;subst h;rfl
 | .gn,cs,S,h=>by rw[aB]at h;obtain⟨b,rfl⟩:=h;rfl
 | .int _ _,cs,S,h=>by rw[aB]at h;subst h;rfl
 | .str _,cs,S,h=>by rw[aB]at h;subst h;rfl
 | .er,cs,S,h=>by rw[aB]at h;subst h;rfl
 | .bg,cs,S,h=>by rw[aB]at h;subst h;rfl
 | .slice xs,cs,S,h=>by
   rw[aB]at h;rcases h with⟨_,a,c,rfl,_⟩|⟨b,o,cap,fo,sz,rfl,_⟩<;>rfl
 | .ag sz xs,cs,S,h=>by
   rw[aB]at h;rcases h with⟨_,a,rfl⟩|⟨b,cap,cur,e,fr,a7,rfl,_⟩<;>rfl
 | .ref d,cs,S,h=>by rw[aB]at h;obtain⟨b,o,fo,rfl,_⟩:=h;rfl
 | .aS d,cs,S,h=>by rw[aB]at h;obtain⟨b,o,fo,_,_,rfl,_⟩:=h;rfl
 | .agg aF,cs,S,h=>by rw[aB]at h;exact bt.length aF _ _ h
 | .tuple aF,cs,S,h=>by rw[aB]at h;exact bt.length aF _ _ h
 | .fn _ _,cs,S,h=>by rw[aB]at h;obtain⟨arr,rfl,_⟩:=h;rfl
 | .h _ _,cs,S,h=>by rw[aB]at h;exact h.elim
 | .ax _ _,cs,S,h=>by rw[aB]at h;exact h.elim
 | .aa _ _,cs,S,h=>by rw[aB]at h;exact h.elim
 | .cc _,cs,S,h=>by rw[aB]at h;obtain⟨v,_,rfl⟩:=oz.one h;rfl
theorem bt.length {w:World} {F:Nat->Prop}:∀(ds:ayk) (cs:ayi) (S:Nat->Prop),bt w F ds cs S->cs.length=I.e9 ds
 |[],cs,S,h=>by rw[bt]at h;subst h;rfl
 |d::ds,cs,S,h=>by
  rw[bt]at h;obtain⟨cr,c2,cI,eF,rfl,af,aG,_⟩:=h;rw[length_append,aB.length d _ _ af,bt.length ds _ _ aG,I.e9]
end
mutual
def I.share:I->I
 | .ag _ xs=>.slice (I.shares xs)
 | .aS d=>.ref d.share
 | .slice xs=>.slice (I.shares xs)
 | .ref d=>.ref d.share
 | .agg aF=>.agg (I.shares aF)
 | .tuple aF=>.tuple (I.shares aF)
 | .cc _=>.hole
 |d=>d
def I.shares:ayk->ayk
 |[]=>[]
 |d::ds=>d.share::I.shares ds
end
theorem I.wZ (ds:ayk):I.shares ds=ds.map I.share:=by
 induction ds with
 |nil=>rfl
 |cons d ds ih=>simp[I.shares,ih]
mutual
theorem I.HN:∀d:I,d.share.wd=d.wd
 | .hole=>rfl
 | .bool _=>rfl
 | .gn=>rfl
 | .int _ _=>rfl
 | .str _=>rfl
 | .er=>rfl
 | .bg=>rfl
 | .slice _=>rfl
 | .ag _ _=>rfl
 | .ref _=>rfl
 | .aS _=>rfl
 | .agg aF=>by simp only[I.share,I.wd];exact I.LS aF
 | .tuple aF=>by simp only[I.share,I.wd];exact I.LS aF
 | .fn _ _=>rfl
 | .h _ _=>rfl
 | .ax _ _=>rfl
 | .aa _ _=>rfl
 | .cc _=>rfl
theorem I.LS:∀ds:ayk,I.e9 (I.shares ds)=I.e9 ds
 |[]=>rfl
 |d::ds=>by simp only[I.shares,I.e9];rw[I.HN d,I.LS ds]
end
theorem AG {w:World} {b:Nat} {cur:Array Value} {e:TypeId} {fr:Nat×Nat} (h:w.heap[b]? =some (.cells cur e fr)) (n:Nat):jv w b 0 (cur.toList.take n):=by
 intro j c ar;rw[getElem?_take]at ar;split at ar
 .simp[World.cell?,h];simpa using ar
 .cases ar
mutual
theorem aB.shared {w:World} {F ch:Nat->Prop} (bE:∀b,F b->ch b):
  ∀(d:I) (cs:ayi) (S:Nat->Prop),(∀b,S b->ch b)->aB w F d cs S->aB w ch d.share cs (λ_=>False)
 | .hole,_,_,_,h=>h
 | .bool _,_,_,_,h=>h
 | .gn,_,_,_,h=>h
 | .int _ _,_,_,_,h=>h
 | .str _,_,_,_,h=>h
 | .er,_,_,_,h=>h
 | .bg,_,_,_,h=>h
 | .slice xs,cs,S,cj,h=>by
   rw[I.share,aB];rw[aB]at h;rcases h with⟨rfl,a,c,rfl,ar⟩|⟨b,o,cap,fo,sz,ad,af,aG,bf,bU,dc,c1⟩
   .exact .inl ⟨rfl,a,c,rfl,ar⟩
   .refine .inr ⟨b,o,cap,fo,sz,?_,bE _ af,?_,bf,?_,dc,bt.shared bE xs _ _ (λ_ h=>h.elim) c1⟩
    .simpa [I.wZ]using ad
    .simpa [I.wZ]using aG
    .intro d an;rw[I.wZ]at an;obtain⟨bJ,jh,rfl⟩:=mem_map.1 an;rw[I.HN];exact bU _ jh
 | .ag sz xs,cs,S,cj,h=>by
   rw[I.share,aB];rw[aB]at h;rcases h with⟨rfl,a,rfl⟩|⟨b,cap,cur,e,fr,a7,ad,af,aG,bf,bU,dc,c1,g_,iN,k9,oA⟩
   .exact .inl ⟨rfl,a,0,rfl,zero_le _,λ_=>rfl⟩
   .refine .inr ⟨b,0,cap,_,sz,?_,cj _ af,?_,dc,?_,AG aG _,bt.shared bE xs _ _ (λc ar=>cj _ (k9 _ ar)) iN⟩
    .simpa [I.wZ]using ad
    .simpa [I.wZ]using bU
    .intro d an;rw[I.wZ]at an;obtain⟨bJ,jh,rfl⟩:=mem_map.1 an;rw[I.HN];exact g_ _ jh
 | .ref d,cs,S,cj,h=>by
   rw[I.share,aB];rw[aB]at h;obtain⟨b,o,fo,ad,af,aG,bf⟩:=h;exact⟨b,o,fo,ad,bE _ af,aG,aB.shared bE d _ _ (λ_ h=>h.elim) bf⟩
 | .aS d,cs,S,cj,h=>by
   rw[I.share,aB];rw[aB]at h;obtain⟨b,cur,e,fr,a7,ad,af,aG,bf,bU,dc,c1⟩:=h;refine⟨b,0,cur.toList,ad,cj _ af,?_,aB.shared bE d _ _ (λc ar=>cj _ (dc _ ar)) bU⟩;have:=AG aG cur.toList.length
   rwa [take_length]at this
 | .agg aF,cs,S,cj,h=>by rw[I.share,aB];rw[aB]at h;exact bt.shared bE aF _ _ cj h
 | .tuple aF,cs,S,cj,h=>by rw[I.share,aB];rw[aB]at h;exact bt.shared bE aF _ _ cj h
 | .fn f caps,cs,S,cj,h=>by
   show aB w ch (.fn f caps) cs _;rw[aB]at h⊢;obtain⟨arr,ad,af,aG⟩:=h;exact⟨arr,ad,af,bt.mono bE caps _ _ _ (λ_ h=>h) aG⟩
 | .h _ _,_,_,_,h=>h
 | .ax _ _,_,_,_,h=>h
 | .aa _ _,_,_,_,h=>h
 | .cc _,cs,S,cj,h=>by rw[aB]at h;rw[I.share,aB];exact oz.one h
theorem bt.shared {w:World} {F ch:Nat->Prop} (bE:∀b,F b->ch b):
  ∀(ds:ayk) (cs:ayi) (S:Nat->Prop),(∀b,S b->ch b)->bt w F ds cs S->bt w ch (I.shares ds) cs (λ_=>False)
 |[],_,_,_,h=>h
 |d::ds,cs,S,cj,h=>by
  simp only[I.shares];rw[bt]at h⊢;obtain⟨cr,c2,cI,eF,ad,af,aG,bf,bU,dc⟩:=h;exact⟨cr,c2,_,_,ad,aB.shared bE d _ _ (λb aa=>cj _ (bf _ aa)) af,bt.shared bE ds _ _ (λb aa=>cj _ (bU _ aa)) aG,λ_ h=>h,λ_ h=>h,λ_ h=>h.elim⟩
end
def I.sub:ayf->I->Option I
 |[],d=>some d
 |k::q,.agg aF=>match aF[k]? with
  |some d=>I.sub q d
  |none=>none
 |k::q,.tuple aF=>match aF[k]? with
  |some d=>I.sub q d
  |none=>none
 |i::q,.ag _ xs=>match xs[i]? with
  |some d=>I.sub q d
  |none=>none
 |0::q,.aS d=>I.sub q d
 |_::_,_=>none
def I.put:ayf->I->I->I
 |[],n,_=>n
 |k::q,n,.agg aF=>match aF[k]? with
  |some d=>.agg (aF.set k (I.put q n d))
  |none=>.agg aF
 |k::q,n,.tuple aF=>match aF[k]? with
  |some d=>.tuple (aF.set k (I.put q n d))
  |none=>.tuple aF
 |i::q,n,.ag sz xs=>match xs[i]? with
  |some d=>.ag sz (xs.set i (I.put q n d))
  |none=>.ag sz xs
 |0::q,n,.aS d=>.aS (I.put q n d)
 |_::_,_,d=>d
def qb (w:World) (b o n:Nat):ayi:=(range n).map λj=>(w.cell? ⟨b,o+j,none⟩).getD undef
theorem jv.qb {w:World} {b o:Nat} {cs:ayi} (h:jv w b o cs):qb w b o cs.length=cs:=by
 unfold eg.qb;apply ext_getElem?;intro i;rw[getElem?_map];by_cases aj:i<cs.length
 .have:cs[i]? =some cs[i]:=getElem?_eq_getElem aj;simp[aj,h i _ this]
 .simp[aj]
def et (w:World):ayf->I->ayi->Option (Nat×Nat)->Option (I×ayi×Option (Nat×Nat))
 |[],d,cs,a=>some (d,cs,a)
 |k::q,.agg aF,cs,a=>match aF[k]? with
  |some d=>et w q d ((cs.drop (I.e9 (aF.take k))).take d.wd) (a.map λl=>(l.1,l.2+I.e9 (aF.take k)))
  |none=>none
 |k::q,.tuple aF,cs,a=>match aF[k]? with
  |some d=>et w q d ((cs.drop (I.e9 (aF.take k))).take d.wd) (a.map λl=>(l.1,l.2+I.e9 (aF.take k)))
  |none=>none
 |i::q,.ag sz xs,cs,_=>match xs[i]?,cs with
  |some d,[.slice (some ⟨b,_,_⟩) _ _]=>et w q d (qb w b (i*sz) sz) (some (b,i*sz))
  |_,_=>none
 |0::q,.aS d,cs,_=>match cs with
  |[.pointer (some ⟨b,_,_⟩)]=>et w q d (qb w b 0 d.wd) (some (b,0))
  |_=>none
 |_::_,_,_,_=>none
theorem yt (cr ha c2:ayi) (n m:Nat) (ad:cr.length=n) (af:ha.length=m):((cr++(ha++c2)).drop n).take m=ha:=by
 rw[drop_left' ad,take_left' af]
theorem bt.pick {w:World} {F:Nat->Prop}:∀(ds:ayk) (cs:ayi) (S:Nat->Prop) (k:Nat) (d:I),
  bt w F ds cs S->ds[k]? =some d->∃(cr ha c2:ayi) (cI jw:Nat->Prop),cs=cr++(ha++c2)/\cr.length=I.e9 (ds.take k)/\
   (∀b,cI b->S b)/\(∀b,jw b->S b)/\(∀b,cI b->¬jw b)/\aB w F d ha jw/\
   ∀(aN:World) (bJ:I) (yu:ayi) (a7:Nat->Prop),(∀b,F b->aN.heap[b]? =w.heap[b]?)->(∀b,cI b->aN.heap[b]? =w.heap[b]?)->
    aB aN F bJ yu a7->(∀b,a7 b->¬cI b)->bt aN F (ds.set k bJ) (cr++(yu++c2)) (λb=>cI b\/a7 b)
 |[],_,_,_,_,_,au=>by simp at au
 |x::ds,cs,S,0,d,h,au=>by
  rw[bt]at h;obtain⟨cr,c2,ji,h2,rfl,ad,af,br,aa,kB⟩:=h;simp at au;subst au;refine⟨[],cr,c2,h2,ji,rfl,rfl,aa,br,λb aa br=>kB _ br aa,ad,?_⟩;intro aN bJ yu a7 bE cj an k_;simp only[set_cons_zero,nil_append];rw[bt];exact⟨yu,c2,a7,h2,rfl,an,bt.frame bE _ _ _ cj af,λb h=>.inr h,λb h=>.inl h,λb h=>k_ b h⟩
 |x::ds,cs,S,k+1,d,h,au=>by
  rw[bt]at h;obtain⟨c0,acn,ji,h2,rfl,ad,af,br,aa,kB⟩:=h;simp only[getElem?_cons_succ]at au;have hl:=aB.length _ _ _ ad;obtain⟨cr,ha,c2,cI,jw,rfl,i0,wY,i2,i3,i5,LU⟩:=bt.pick ds acn h2 k d af au;refine⟨c0++cr,ha,c2,λb=>ji b\/cI b,jw,by simp,by simp[I.e9,hl,i0],?_,λb h=>aa _ (i2 _ h),?_,i5,?_⟩
  .rintro b (h|h)
   .exact br _ h
   .exact aa _ (wY _ h)
  .rintro b (h|h) au
   .exact kB _ h (i2 _ au)
   .exact i3 _ h au
  .intro aN bJ yu a7 bE cj an k_;simp only[set_cons_succ];rw[bt];refine⟨c0,cr++(yu++c2),ji,λb=>cI b\/a7 b,by simp,aB.frame bE _ _ _ (λb aa=>cj b (.inl aa)) ad,
    LU aN bJ yu a7 bE (λb aa=>cj b (.inr aa)) an (λb aa ar=>k_ b aa (.inr ar)),λb h=>.inl (.inl h),?_,?_⟩
   .rintro b (h|h)
    .exact .inl (.inr h)
    .exact .inr h
   .rintro b h (bC|bC)
    .exact kB _ h (wY _ bC)
    .exact k_ _ bC (.inl h)
theorem LV:∀(aF:ayk) (k:Nat) (x y:I),aF[k]? =some x->y.wd=x.wd->I.e9 (aF.set k y)=I.e9 aF:=by
 intro aF;induction aF with
 |nil=>intro k x y h;simp at h
 |cons a aF ih=>
  intro k x y h e;cases k with
  |zero=>simp at h;subst h;simp[I.e9,e]
  |succ k=>simp at h;simp[I.e9,ih k x y h e]
theorem yv {sz:Nat}:∀(xs:ayk),(∀d∈xs,d.wd=sz)->I.e9 xs=xs.length*sz
 |[],_=>by simp[I.e9]
 |x::xs,h=>by
  rw[I.e9,h x (by simp),yv xs (λd an=>h d (by simp[an])),length_cons,Nat.add_mul,Nat.one_mul,Nat.add_comm]
theorem I.AH:∀(q:ayf) (av d bJ:I),I.sub q av=some d->bJ.wd=d.wd->(I.put q bJ av).wd=av.wd:=by
 intro q;induction q with
 |nil=>intro av d bJ h e;simp[I.sub]at h;subst h;simpa [I.put]using e
 |cons k q ih=>
  intro av d bJ h e;cases av with
  |agg aF=>
   simp only[I.sub]at h;split at h
   .rename_i x ao;simp only[I.put,ao,I.wd];exact LV _ _ _ _ ao (ih _ _ _ h e)
   .cases h
  |tuple aF=>
   simp only[I.sub]at h;split at h
   .rename_i x ao;simp only[I.put,ao,I.wd];exact LV _ _ _ _ ao (ih _ _ _ h e)
   .cases h
  |ag sz xs=>
   simp only[I.sub]at h;split at h
   .rename_i x ao;simp only[I.put,ao,I.wd]
   .cases h
  |aS x=>
   cases k with
   |zero=>simp only[I.put,I.wd]
   |succ k=>simp[I.sub]at h
  |_=>simp[I.sub]at h
theorem LW {sz:Nat} {xs:ayk} {i:Nat} {y:I} (h:∀d∈xs,d.wd=sz) (hy:y.wd=sz):∀d∈xs.set i y,d.wd=sz:=by
 intro d an;rcases mem_or_eq_of_mem_set an with an|rfl
 .exact h d an
 .exact hy
theorem AJ {w:World} {b:Nat} {cur:Array Value} {e:TypeId} {fr:Nat×Nat} (h:w.heap[b]? =some (.cells cur e fr)) {l m r:ayi} (ar:cur.toList=l++(m++r)):
  qb w b l.length m.length=m:=by
 refine jv.qb (λj c bF=>?_);have eI:j<m.length:=(List.getElem?_eq_some_iff.1 bF).1;have:cur.toList[l.length+j]? =some c:=by
  rw[ar,getElem?_append_right (by omega),getElem?_append_left (by omega)];rw[<-bF];congr 1;omega
 simp[World.cell?,h];simpa using this
def Flat (w:World) (F:Nat->Prop) (q:ayf) (av:I) (cs:ayi) (a:Option (Nat×Nat)) (d:I) (dx:ayi) (dt:Option (Nat×Nat)) (fi:Nat->Prop):Prop:=
 ∃l r:ayi,cs=l++(dx++r)/\dt=a.map (λx=>(x.1,x.2+l.length))/\
  ∀(aN:World) (bJ:I) (hb:ayi) (a7:Nat->Prop),(∀b,F b->aN.heap[b]? =w.heap[b]?)->(∀b,fi b->aN.heap[b]? =w.heap[b]?)->
   bJ.wd=d.wd->aB aN F bJ hb a7->(∀b,a7 b->¬fi b)->aB aN F (I.put q bJ av) (l++(hb++r)) (λb=>fi b\/a7 b)
def Deep (w:World) (F:Nat->Prop) (q:ayf) (av:I) (cs:ayi) (d:I) (dx:ayi) (dt:Option (Nat×Nat)) (fi:Nat->Prop):Prop:=
 ∃(b:Nat) (cur:Array Value) (e:TypeId) (fr:Nat×Nat) (l r:ayi),dt=some (b,l.length)/\fi b/\w.heap[b]? =some (.cells cur e fr)/\pF fr cur.size/\cur.toList=l++(dx++r)/\
  ∀(aN:World) (bJ:I) (hb:ayi) (a7:Nat->Prop),(∀b,F b->aN.heap[b]? =w.heap[b]?)->(∀c,fi c->c≠b->aN.heap[c]? =w.heap[c]?)->
   aN.heap[b]? =some (.cells (l++(hb++r)).toArray e fr)->
   bJ.wd=d.wd->aB aN F bJ hb a7->(∀b,a7 b->¬fi b)->aB aN F (I.put q bJ av) cs (λb=>fi b\/a7 b)
theorem ctx {w:World} {F:Nat->Prop}:∀(q:ayf) (av:I) (cs:ayi) (S:Nat->Prop) (a:Option (Nat×Nat)) (d:I),
  aB w F av cs S->I.sub q av=some d->∃(dx:ayi) (dt:Option (Nat×Nat)) (fi gp:Nat->Prop),et w q av cs a=some (d,dx,dt)/\
   (∀b,fi b->S b)/\(∀b,gp b->S b)/\(∀b,fi b->¬gp b)/\aB w F d dx gp/\(Flat w F q av cs a d dx dt fi\/Deep w F q av cs d dx dt fi):=by
 intro q;induction q with
 |nil=>
  intro av cs S a d h an;simp[I.sub]at an;subst an;refine⟨cs,a,λ_=>False,S,rfl,λ_ h=>h.elim,λ_ h=>h,λ_ h=>h.elim,h,.inl ⟨[],[],by simp,?_,?_⟩⟩
  .cases a<;>simp
  .intro aN bJ hb a7 _ _ hw jh _;simp only[I.put,nil_append,append_nil];exact aB.mono (λ_ h=>h) _ _ _ _ (λb h=>.inr h) jh
 |cons k q ih=>
  have fields:∀(mk:ayk->I) (LX:∀(w:World) (F:Nat->Prop) (aF:ayk) (cs:ayi) (S:Nat->Prop),aB w F (mk aF) cs S=bt w F aF cs S) (aF:ayk) (cs:ayi) (S:Nat->Prop) (a:Option (Nat×Nat)) (x d:I),
    (lX:∀bJ,I.put (k::q) bJ (mk aF)=mk (aF.set k (I.put q bJ x)))->bt w F aF cs S->aF[k]? =some x->I.sub q x=some d->
    ∃(dx:ayi) (dt:Option (Nat×Nat)) (fi gp:Nat->Prop),et w q x ((cs.drop (I.e9 (aF.take k))).take x.wd) (a.map λl=>(l.1,l.2+I.e9 (aF.take k)))=some (d,dx,dt)/\
    (∀b,fi b->S b)/\(∀b,gp b->S b)/\(∀b,fi b->¬gp b)/\aB w F d dx gp/\(Flat w F (k::q) (mk aF) cs a d dx dt fi\/Deep w F (k::q) (mk aF) cs d dx dt fi):=by
   intro mk LX aF cs S a x d lX h ao an;obtain⟨cr,ha,c2,cI,jw,rfl,jj,gT,iO,j2,ho,o4⟩:=bt.pick aF cs S k x h ao;have hl:=aB.length _ _ _ ho;rw[yt cr ha c2 _ _ jj hl];obtain⟨dx,dt,fi,gp,g0,g1,g2,g3,g4,g5⟩:=ih x _ jw (a.map λl=>(l.1,l.2+I.e9 (aF.take k))) d ho an;refine⟨dx,dt,λb=>cI b\/fi b,gp,g0,?_,λb aa=>iO _ (g2 _ aa),?_,g4,?_⟩
   .rintro b (h|h)
    .exact gT _ h
    .exact iO _ (g1 _ h)
   .rintro b (h|h) an
    .exact j2 _ h (g2 _ an)
    .exact g3 _ h an
   .have fU:∀(b:Nat) (a7:Nat->Prop),(cI b\/fi b\/a7 b)->((cI b\/fi b)\/a7 b):=by
     rintro b a7 (aa|aa|aa)
     .exact .inl (.inl aa)
     .exact .inl (.inr aa)
     .exact .inr aa
    rcases g5 with⟨l,r,rfl,aY,aU⟩|⟨b,cur,e,fr,l,r,aP,aY,aU,b4,cM,cl⟩
    .refine .inl ⟨cr++l,r++c2,by simp,?_,?_⟩
     .rw[aY,<-jj];cases a<;>simp[Nat.add_assoc]
     .intro aN bJ hb a7 bE cj hw jh k_;have eh:=aU aN bJ hb a7 bE (λb aa=>cj b (.inr aa)) hw jh (λb aa ar=>k_ b aa (.inr ar));have bc:=o4 aN _ _ _ bE (λb aa=>cj b (.inl aa)) eh (by
       rintro b (aa|aa) ad
       .exact j2 _ ad (g1 _ aa)
       .exact k_ _ aa (.inl ad))
      rw[lX,LX];have:=bt.mono (λ_ h=>h) _ _ _ _ (λb=>fU b a7) bc;simpa using this
    .refine .inr ⟨b,cur,e,fr,l,r,aP,.inr aY,aU,b4,cM,?_⟩;intro aN bJ hb a7 bE cj o5 hw jh k_;have eh:=cl aN bJ hb a7 bE (λc ar=>cj c (.inr ar)) o5 hw jh (λb aa ar=>k_ b aa (.inr ar));have bc:=o4 aN _ _ _ bE (λc ar=>cj c (.inl ar) (by rintro rfl;exact j2 _ ar (g1 _ aY))) eh (by
       rintro b (aa|aa) ad
       .exact j2 _ ad (g1 _ aa)
       .exact k_ _ aa (.inl ad))
     rw[lX,LX];exact bt.mono (λ_ h=>h) _ _ _ _ (λb=>fU b a7) bc
  intro av cs S a d h an;cases av with
  |agg aF=>
   simp only[I.sub]at an;split at an
   .rename_i x ao;rw[aB]at h;have:=fields .agg (λ_ _ _ _ _=>by rw[aB]) aF cs S a x d (λbJ=>by simp only[I.put,ao]) h ao an;simpa only[et,ao]using this
   .cases an
  |tuple aF=>
   simp only[I.sub]at an;split at an
   .rename_i x ao;rw[aB]at h;have:=fields .tuple (λ_ _ _ _ _=>by rw[aB]) aF cs S a x d (λbJ=>by simp only[I.put,ao]) h ao an;simpa only[et,ao]using this
   .cases an
  |ag sz xs=>
   simp only[I.sub]at an;split at an
   .rename_i x ao;rw[aB]at h;rcases h with⟨rfl,_,rfl⟩|⟨b,cap,cur,e,fr,eU,rfl,af,aG,bf,bU,dc,c1,g_,iN,k9,oA⟩
    .simp at ao
    .obtain⟨cr,ha,c2,cI,jw,p,jj,gT,iO,j2,ho,o4⟩:=bt.pick xs _ eU k x iN ao;have hl:=aB.length _ _ _ ho;have aco:k<xs.length:=(List.getElem?_eq_some_iff.1 ao).1;have DL:x.wd=sz:=g_ x (mem_of_getElem? ao);have bI:I.e9 (xs.take k)=k*sz:=by
      rw[yv _ (λd an=>g_ d (mem_of_mem_take an))];rw[length_take,Nat.min_eq_left (by omega)]
     obtain⟨va,pH⟩:∃va,cur.toList=cr++(ha++(c2++va)):=by
      refine⟨cur.toList.drop (xs.length*sz),?_⟩;have:=(take_append_drop (xs.length*sz) cur.toList).symm;rw[p]at this;simpa using this
     have ml:qb w b (k*sz) sz=ha:=by
      have:=AJ aG pH
      rwa [jj,bI,hl,DL]at this
     obtain⟨dx,dt,fi,gp,g0,g1,g2,g3,g4,g5⟩:=ih x _ jw (some (b,k*sz)) d ho an;have lX:∀bJ,I.put (k::q) bJ (.ag sz xs)= .ag sz (xs.set k (I.put q bJ x)):=λbJ=>by simp only[I.put,ao]
     refine⟨dx,dt,λc=>c=b\/cI c\/fi c,gp,?_,?_,λc ar=>k9 _ (iO _ (g2 _ ar)),?_,g4,.inr ?_⟩
     .simp only[et,ao,ml];exact g0
     .rintro c (rfl|h|h)
      .exact af
      .exact k9 _ (gT _ h)
      .exact k9 _ (iO _ (g1 _ h))
     .rintro c (rfl|h|h) an
      .exact oA (iO _ (g2 _ an))
      .exact j2 _ h (g2 _ an)
      .exact g3 _ h an
     .have nc:∀bJ,bJ.wd=d.wd->(I.put q bJ x).wd=sz:=λbJ hw=>(I.AH q x d bJ an hw).trans DL;rcases g5 with⟨l,r,rfl,aY,aU⟩|⟨gL,LY,hp,LZ,l,r,aP,aY,aU,b4,cM,cl⟩
      .refine⟨b,cur,e,fr,cr++l,r++(c2++va),?_,.inl rfl,aG,bf.low,?_,?_⟩
       .rw[aY];simp[jj,bI]
       .rw[pH];simp
       .intro aN bJ hb a7 bE cj o5 hw jh k_;have eh:=aU aN bJ hb a7 bE (λc ar=>cj c (.inr (.inr ar)) (by rintro rfl;exact oA (iO _ (g1 _ ar)))) hw jh (λb aa ar=>k_ b aa (.inr (.inr ar)));have bc:=o4 aN _ _ _ bE (λc ar=>cj c (.inr (.inl ar)) (by rintro rfl;exact oA (gT _ ar))) eh (by
         rintro b (aa|aa) ad
         .exact j2 _ ad (g1 _ aa)
         .exact k_ _ aa (.inr (.inl ad)))
        have DM:=aB.length _ _ _ jh;have DN:=aB.length _ _ _ g4;rw[lX,aB];refine .inr ⟨b,cap,_,e,fr,λb=>cI b\/fi b\/a7 b,by simp,.inl (.inl rfl),o5,?_,by simpa using bU,dc,?_,LW g_ (nc bJ hw),?_,?_,?_⟩
        .have:(cr++l++(hb++(r++(c2++va)))).toArray.size=cur.size:=by
          have:cur.size=cur.toList.length:=by simp
          rw[this,pH];simp[DM,DN,hw]
         rw[this];exact bf
        .rw[<-c1];have:cur.size=cur.toList.length:=by simp
         rw[this,pH];simp[DM,DN,hw]
        .have hlen:(cr++(l++(hb++r)++c2)).length=xs.length*sz:=by
          have:=congrArg length p;rw[length_take,Nat.min_eq_left (by simp[c1];exact mul_le_mul_right _ bU)]at this;rw[this];simp[DM,DN,hw]
         have:(cr++l++(hb++(r++(c2++va))))=(cr++(l++(hb++r)++c2))++va:=by simp
         rw[length_set];simp only[this];rw[take_left' hlen];exact bc
        .rintro c (h|h|h)
         .exact .inl (.inr (.inl h))
         .exact .inl (.inr (.inr h))
         .exact .inr h
        .rintro(h|h|h)
         .exact oA (gT _ h)
         .exact oA (iO _ (g1 _ h))
         .exact k_ _ h (.inl rfl)
      .refine⟨gL,LY,hp,LZ,l,r,aP,.inr (.inr aY),aU,b4,cM,?_⟩;intro aN bJ hb a7 bE cj o5 hw jh k_;have eh:=cl aN bJ hb a7 bE (λc ar d_=>cj c (.inr (.inr ar)) d_) o5 hw jh (λb aa ar=>k_ b aa (.inr (.inr ar)));have d_:∀c,cI c->c≠gL:=by rintro c ar rfl;exact j2 _ ar (g1 _ aY)
       have bc:=o4 aN _ _ _ bE (λc ar=>cj c (.inr (.inl ar)) (d_ c ar)) eh (by
        rintro b (aa|aa) ad
        .exact j2 _ ad (g1 _ aa)
        .exact k_ _ aa (.inr (.inl ad)))
       have L0:b≠gL:=by rintro rfl;exact oA (iO _ (g1 _ aY))
       rw[lX,aB];refine .inr ⟨b,cap,cur,e,fr,λb=>cI b\/fi b\/a7 b,by simp,.inl (.inl rfl),(cj b (.inl rfl) L0).trans aG,bf,by simpa using bU,dc,c1,LW g_ (nc bJ hw),?_,?_,?_⟩
       .rw[length_set,p];exact bc
       .rintro c (h|h|h)
        .exact .inl (.inr (.inl h))
        .exact .inl (.inr (.inr h))
        .exact .inr h
       .rintro(h|h|h)
        .exact oA (gT _ h)
        .exact oA (iO _ (g1 _ h))
        .exact k_ _ h (.inl rfl)
   .cases an
  |aS x=>
   cases k with
   |succ k=>simp[I.sub]at an
   |zero=>
    simp only[I.sub]at an;rw[aB]at h;obtain⟨b,cur,e,fr,eU,rfl,af,aG,bf,bU,dc,c1⟩:=h;have hl:=aB.length _ _ _ bU;have ml:qb w b 0 x.wd=cur.toList:=by
     have:=AJ (l:=[]) (m:=cur.toList) (r:=[]) aG (by simp)
     rwa [hl]at this
    obtain⟨dx,dt,fi,gp,g0,g1,g2,g3,g4,g5⟩:=ih x _ eU (some (b,0)) d bU an;have lX:∀bJ,I.put (0::q) bJ (.aS x)= .aS (I.put q bJ x):=λbJ=>rfl;refine⟨dx,dt,λc=>c=b\/fi c,gp,?_,?_,λc ar=>dc _ (g2 _ ar),?_,g4,.inr ?_⟩
    .simp only[et,ml];exact g0
    .rintro c (rfl|h)
     .exact af
     .exact dc _ (g1 _ h)
    .rintro c (rfl|h) an
     .exact c1 (g2 _ an)
     .exact g3 _ h an
    .rcases g5 with⟨l,r,aP,aY,aU⟩|⟨gL,LY,hp,LZ,l,r,aP,aY,aU,b4,cM,cl⟩
     .refine⟨b,cur,e,fr,l,r,?_,.inl rfl,aG,bf,aP,?_⟩
      .rw[aY];simp
      .intro aN bJ hb a7 bE cj o5 hw jh k_;have eh:=aU aN bJ hb a7 bE (λc ar=>cj c (.inr ar) (by rintro rfl;exact c1 (g1 _ ar))) hw jh (λb aa ar=>k_ b aa (.inr ar));have DM:=aB.length _ _ _ jh;have DN:=aB.length _ _ _ g4;rw[lX,aB];refine⟨b,_,e,fr,λb=>fi b\/a7 b,rfl,.inl (.inl rfl),o5,?_,eh,?_,?_⟩
       .have:(l++(hb++r)).toArray.size=cur.size:=by
         have:cur.size=cur.toList.length:=by simp
         rw[this,aP];simp[DM,DN,hw]
        rw[this];exact bf
       .rintro c (h|h)
        .exact .inl (.inr h)
        .exact .inr h
       .rintro(h|h)
        .exact c1 (g1 _ h)
        .exact k_ _ h (.inl rfl)
     .refine⟨gL,LY,hp,LZ,l,r,aP,.inr aY,aU,b4,cM,?_⟩;intro aN bJ hb a7 bE cj o5 hw jh k_;have eh:=cl aN bJ hb a7 bE (λc ar d_=>cj c (.inr ar) d_) o5 hw jh (λb aa ar=>k_ b aa (.inr ar));have L0:b≠gL:=by rintro rfl;exact c1 (g1 _ aY)
      rw[lX,aB];refine⟨b,cur,e,fr,λb=>fi b\/a7 b,rfl,.inl (.inl rfl),(cj b (.inl rfl) L0).trans aG,bf,eh,?_,?_⟩
      .rintro c (h|h)
       .exact .inl (.inr h)
       .exact .inr h
      .rintro(h|h)
       .exact c1 (g1 _ h)
       .exact k_ _ h (.inl rfl)
  |_=>simp[I.sub]at an
mutual
def I.plain:I->Bool
 | .ag _ _=>false
 | .aS _=>false
 | .cc _=>false
 | .agg aF=>I.e5 aF
 | .tuple aF=>I.e5 aF
 |_=>true
def I.e5:ayk->Bool
 |[]=>true
 |d::ds=>d.plain&&I.e5 ds
end
mutual
def I.dY:I->I
 | .ag _ _=>.hole
 | .aS _=>.hole
 | .cc _=>.hole
 | .agg aF=>.agg (I.nY aF)
 | .tuple aF=>.tuple (I.nY aF)
 |d=>d
def I.nY:ayk->ayk
 |[]=>[]
 |d::ds=>d.dY::I.nY ds
end
mutual
theorem I.w1:∀d:I,d.dY.wd=d.wd
 | .hole=>rfl
 | .bool _=>rfl
 | .gn=>rfl
 | .int _ _=>rfl
 | .str _=>rfl
 | .er=>rfl
 | .bg=>rfl
 | .slice _=>rfl
 | .ag _ _=>rfl
 | .ref _=>rfl
 | .aS _=>rfl
 | .agg aF=>by simp only[I.dY,I.wd];exact I.L1 aF
 | .tuple aF=>by simp only[I.dY,I.wd];exact I.L1 aF
 | .fn _ _=>rfl
 | .h _ _=>rfl
 | .ax _ _=>rfl
 | .aa _ _=>rfl
 | .cc _=>rfl
theorem I.L1:∀ds:ayk,I.e9 (I.nY ds)=I.e9 ds
 |[]=>rfl
 |d::ds=>by simp only[I.nY,I.e9];rw[I.w1 d,I.L1 ds]
end
mutual
theorem aB.dY {w:World} {F:Nat->Prop}:∀(d:I) (cs:ayi) (S a7:Nat->Prop),aB w F d cs S->aB w F d.dY cs a7
 | .hole,_,_,_,h=>h
 | .bool _,_,_,_,h=>h
 | .gn,_,_,_,h=>h
 | .int _ _,_,_,_,h=>h
 | .str _,_,_,_,h=>h
 | .er,_,_,_,h=>h
 | .bg,_,_,_,h=>h
 | .slice xs,cs,S,a7,h=>by
   show aB w F (.slice xs) cs a7;rw[aB]at h⊢;exact h
 | .ag sz xs,cs,S,a7,h=>by
   rw[I.dY,aB];rw[aB]at h;rcases h with⟨_,_,rfl⟩|⟨b,cap,cur,e,fr,eU,rfl,_⟩
   .exact⟨_,rfl,rfl⟩
   .exact⟨_,rfl,rfl⟩
 | .ref d,cs,S,a7,h=>by
   show aB w F (.ref d) cs a7;rw[aB]at h⊢;exact h
 | .aS d,cs,S,a7,h=>by
   rw[I.dY,aB];rw[aB]at h;obtain⟨b,cur,e,fr,eU,rfl,_⟩:=h;exact⟨_,rfl,rfl⟩
 | .agg aF,cs,S,a7,h=>by rw[I.dY,aB];rw[aB]at h;exact bt.dY aF _ _ _ h
 | .tuple aF,cs,S,a7,h=>by rw[I.dY,aB];rw[aB]at h;exact bt.dY aF _ _ _ h
 | .fn _ _,_,_,_,h=>h
 | .h _ _,_,_,_,h=>h
 | .ax _ _,_,_,_,h=>h
 | .aa _ _,_,_,_,h=>h
 | .cc _,_,_,_,h=>by rw[aB]at h;rw[I.dY,aB];exact oz.one h
theorem bt.dY {w:World} {F:Nat->Prop}:∀(ds:ayk) (cs:ayi) (S a7:Nat->Prop),bt w F ds cs S->bt w F (I.nY ds) cs a7
 |[],_,_,_,h=>h
 |d::ds,cs,S,a7,h=>by
  rw[I.nY,bt];rw[bt]at h;obtain⟨cr,c2,cI,eF,ad,af,aG,bf,bU,dc⟩:=h;exact⟨cr,c2,λ_=>False,λ_=>False,ad,aB.dY d _ _ _ af,bt.dY ds _ _ _ aG,λ_ h=>h.elim,λ_ h=>h.elim,λ_ h=>h.elim⟩
end
mutual
theorem aB.plain {w:World} {F:Nat->Prop}:∀(d:I) (cs:ayi) (S a7:Nat->Prop),d.plain=true->aB w F d cs S->aB w F d cs a7
 | .hole,_,_,_,_,h=>h
 | .bool _,_,_,_,_,h=>h
 | .gn,_,_,_,_,h=>h
 | .int _ _,_,_,_,_,h=>h
 | .str _,_,_,_,_,h=>h
 | .er,_,_,_,_,h=>h
 | .bg,_,_,_,_,h=>h
 | .slice xs,cs,S,a7,_,h=>by rw[aB]at h⊢;exact h
 | .ag sz xs,cs,S,a7,ax,h=>by simp[I.plain]at ax
 | .ref d,cs,S,a7,_,h=>by rw[aB]at h⊢;exact h
 | .aS d,cs,S,a7,ax,h=>by simp[I.plain]at ax
 | .agg aF,cs,S,a7,ax,h=>by rw[aB]at h⊢;exact bt.plain aF _ _ _ ax h
 | .tuple aF,cs,S,a7,ax,h=>by rw[aB]at h⊢;exact bt.plain aF _ _ _ ax h
 | .fn _ _,_,_,_,_,h=>h
 | .h _ _,_,_,_,_,h=>h
 | .ax _ _,_,_,_,_,h=>h
 | .aa _ _,_,_,_,_,h=>h
 | .cc _,_,_,_,ax,_=>by simp[I.plain]at ax
theorem bt.plain {w:World} {F:Nat->Prop}:∀(ds:ayk) (cs:ayi) (S a7:Nat->Prop),I.e5 ds=true->bt w F ds cs S->bt w F ds cs a7
 |[],_,_,_,_,h=>h
 |d::ds,cs,S,a7,ax,h=>by
  rw[bt]at h⊢;simp only[I.e5,Bool.and_eq_true]at ax;obtain⟨cr,c2,cI,eF,ad,af,aG,bf,bU,dc⟩:=h;exact⟨cr,c2,λ_=>False,λ_=>False,ad,aB.plain d _ _ _ ax.1 af,bt.plain ds _ _ _ ax.2 aG,λ_ h=>h.elim,λ_ h=>h.elim,λ_ h=>h.elim⟩
end
def I.gC:ayf->I->Bool
 |[],_=>false
 |k::q,.agg aF=>match aF[k]? with
  |some d=>I.gC q d
  |none=>false
 |k::q,.tuple aF=>match aF[k]? with
  |some d=>I.gC q d
  |none=>false
 |_::_,.ag _ _=>true
 |_::_,.aS _=>true
 |_::_,_=>false
theorem HO {aF:ayk} (h:I.e5 aF=true) {k:Nat} {d:I} (au:aF[k]? =some d):d.plain=true:=by
 induction aF generalizing k with
 |nil=>simp at au
 |cons a aF ih=>
  simp only[I.e5,Bool.and_eq_true]at h;cases k with
  |zero=>simp at au;subst au;exact h.1
  |succ k=>simp at au;exact ih h.2 au
theorem I.Ty:∀(q:ayf) (d:I),d.plain=true->I.gC q d=false:=by
 intro q;induction q with
 |nil=>intros;rfl
 |cons k q ih=>
  intro d an;cases d<;>first|rfl|(simp[I.plain]at an;done)|skip
  all_goals
   simp only[I.gC];split
   .rename_i aF x ao;exact ih _ (HO (by simpa [I.plain]using an) ao)
   .rfl
theorem I.L2:∀(q:ayf) (d e:I),d.plain=true->I.sub q d=some e->e.plain=true:=by
 intro q;induction q with
 |nil=>intro d e an h;simp[I.sub]at h;exact h▸an
 |cons k q ih=>
  intro d e an h;cases d<;>first|(simp[I.plain]at an;done)|(simp[I.sub]at h;done)|skip
  all_goals
   simp only[I.sub]at h;split at h
   .rename_i aF x ao;exact ih _ _ (HO (by simpa [I.plain]using an) ao) h
   .cases h
theorem HP {w aN:World} {F:Nat->Prop}:∀(q:ayf) (av:I) (cs:ayi) (S:Nat->Prop) (a:Option (Nat×Nat)) (d:I),
  aB w F av cs S->I.sub q av=some d->(∀b,S b->aN.heap[b]? =w.heap[b]?)->et aN q av cs a=et w q av cs a:=by
 intro q;induction q with
 |nil=>intros;rfl
 |cons k q ih=>
  have fields:∀(aF:ayk) (cs:ayi) (S:Nat->Prop) (a:Option (Nat×Nat)) (x d:I),bt w F aF cs S->aF[k]? =some x->I.sub q x=some d->
    (∀b,S b->aN.heap[b]? =w.heap[b]?)->
    et aN q x ((cs.drop (I.e9 (aF.take k))).take x.wd) (a.map λl=>(l.1,l.2+I.e9 (aF.take k)))=et w q x ((cs.drop (I.e9 (aF.take k))).take x.wd) (a.map λl=>(l.1,l.2+I.e9 (aF.take k))):=by
   intro aF cs S a x d h ao an cj;obtain⟨cr,ha,c2,cI,jw,rfl,jj,gT,iO,j2,ho,o4⟩:=bt.pick aF cs S k x h ao;rw[yt cr ha c2 _ _ jj (aB.length _ _ _ ho)];exact ih x ha jw _ d ho an (λb aa=>cj b (iO _ aa))
  intro av cs S a d h an cj;cases av with
  |agg aF=>
   simp only[I.sub]at an;split at an
   .rename_i x ao;rw[aB]at h;simp only[et,ao];exact fields aF cs S a x d h ao an cj
   .cases an
  |tuple aF=>
   simp only[I.sub]at an;split at an
   .rename_i x ao;rw[aB]at h;simp only[et,ao];exact fields aF cs S a x d h ao an cj
   .cases an
  |ag sz xs=>
   simp only[I.sub]at an;split at an
   .rename_i x ao;rw[aB]at h;rcases h with⟨rfl,_,rfl⟩|⟨b,cap,cur,e,fr,eU,rfl,af,aG,bf,bU,dc,c1,g_,iN,k9,oA⟩
    .simp at ao
    .obtain⟨cr,ha,c2,cI,jw,p,jj,gT,iO,j2,ho,o4⟩:=bt.pick xs _ eU k x iN ao;have hl:=aB.length _ _ _ ho;have aco:k<xs.length:=(List.getElem?_eq_some_iff.1 ao).1;have DL:x.wd=sz:=g_ x (mem_of_getElem? ao);have bI:I.e9 (xs.take k)=k*sz:=by
      rw[yv _ (λd an=>g_ d (mem_of_mem_take an))];rw[length_take,Nat.min_eq_left (by omega)]
     obtain⟨va,pH⟩:∃va,cur.toList=cr++(ha++(c2++va)):=by
      refine⟨cur.toList.drop (xs.length*sz),?_⟩;have:=(take_append_drop (xs.length*sz) cur.toList).symm;rw[p]at this;simpa using this
     have ml:qb w b (k*sz) sz=ha:=by
      have:=AJ aG pH
      rwa [jj,bI,hl,DL]at this
     have L3:qb aN b (k*sz) sz=ha:=by
      have:=AJ ((cj b af).trans aG) pH
      rwa [jj,bI,hl,DL]at this
     simp only[et,ao,ml,L3];exact ih x ha jw _ d ho an (λc ar=>cj c (k9 _ (iO _ ar)))
   .cases an
  |aS x=>
   cases k with
   |succ k=>simp[I.sub]at an
   |zero=>
    simp only[I.sub]at an;rw[aB]at h;obtain⟨b,cur,e,fr,eU,rfl,af,aG,bf,bU,dc,c1⟩:=h;have hl:=aB.length _ _ _ bU;have ml:qb w b 0 x.wd=cur.toList:=by
     have:=AJ (l:=[]) (m:=cur.toList) (r:=[]) aG (by simp)
     rwa [hl]at this
    have L3:qb aN b 0 x.wd=cur.toList:=by
     have:=AJ (l:=[]) (m:=cur.toList) (r:=[]) ((cj b af).trans aG) (by simp)
     rwa [hl]at this
    simp only[et,ml,L3];exact ih x cur.toList eU _ d bU an (λc ar=>cj c (dc _ ar))
  |_=>simp[I.sub]at an
def jx:Value->ayi
 | .agg cs=>cs.toList
 |v=>[v]
def cT:Value->ayi
 | .tuple vs=>vs.toList.flatMap jx
 |v=>jx v
def j3:I->Value->Prop
 | .agg _,v=>∃arr,v= .agg arr
 |_,v=>Value.hF v=true
def eY:I->Value->Prop
 | .tuple ds,v=>∃arr:Array Value,v= .tuple arr/\arr.size=ds.length/\∀(k:Nat) (d:I) (x:Value),ds[k]? =some d->arr[k]? =some x->j3 d x/\(∀vs,d≠.tuple vs)/\(jx x).length=d.wd
 |d,v=>j3 d v
abbrev ak:=Nat->I
mutual
def aO (w:World) (F:Nat->Prop) (s:ak) (aI:Nat->Value):I->Value->(Nat->Prop)->Prop
 | .hole,_,_=>True
 | .h x q,v,_=>∀d,I.sub q (s x)=some d->d.plain=false->∃dx a,et w q (s x) (cT (aI x)) none=some (d,dx,a)/\cT v=dx/\eY d v
 | .ax x q,v,_=>∀d,I.sub q (s x)=some d->I.gC q (s x)=true->∃dx b o,et w q (s x) (cT (aI x)) none=some (d,dx,some (b,o))/\v= .pointer (some ⟨b,o,none⟩)
 | .aa x k,v,_=>(s x).plain=false->∃b cur e fr,v= .pointer (some ⟨b,k,none⟩)/\F b/\w.heap[b]? =some (.cells cur e fr)/\cur.toList=cT (aI x)
 | .fn f cap,v,_=>∃arr:Array Value,v= .func (.func f) #[] arr/\e_ w F s aI cap arr.toList
 | .bool b,v,S=>eY (.bool b) v/\aB w F (.bool b) (cT v) S
 | .gn,v,S=>eY .gn v/\aB w F .gn (cT v) S
 | .int k n,v,S=>eY (.int k n) v/\aB w F (.int k n) (cT v) S
 | .str x,v,S=>eY (.str x) v/\aB w F (.str x) (cT v) S
 | .er,v,S=>eY .er v/\aB w F .er (cT v) S
 | .bg,v,S=>eY .bg v/\aB w F .bg (cT v) S
 | .slice xs,v,S=>eY (.slice xs) v/\aB w F (.slice xs) (cT v) S
 | .ag sz xs,v,S=>eY (.ag sz xs) v/\aB w F (.ag sz xs) (cT v) S
 | .ref d,v,S=>eY (.ref d) v/\aB w F (.ref d) (cT v) S
 | .aS d,v,S=>eY (.aS d) v/\aB w F (.aS d) (cT v) S
 | .agg d,v,S=>eY (.agg d) v/\aB w F (.agg d) (cT v) S
 | .tuple d,v,S=>eY (.tuple d) v/\aB w F (.tuple d) (cT v) S
 | .cc o,v,S=>eY (.cc o) v/\aB w F (.cc o) (cT v) S
def e_ (w:World) (F:Nat->Prop) (s:ak) (aI:Nat->Value):ayk->ayi->Prop
 |[],vs=>vs=[]
 |d::ds,vs=>∃v lY,vs=v::lY/\aO w F s aI d v (λ_=>False)/\e_ w F s aI ds lY
end
def I.tree:I->Bool
 | .hole=>false
 | .h _ _=>false
 | .ax _ _=>false
 | .aa _ _=>false
 | .fn _ _=>false
 |_=>true
theorem aO.dh {w:World} {F:Nat->Prop} {s:ak} {aI:Nat->Value} {d:I} {v:Value} {S:Nat->Prop} (ba:d.tree=true):
  aO w F s aI d v S↔(eY d v/\aB w F d (cT v) S):=by
 cases d<;>first|(simp[I.tree]at ba;done)|rw[aO]
theorem jy {q:ayf} {av d:I} (h:I.sub q av=some d) (ax:d.plain=false\/I.gC q av=true):av.tree=true:=by
 cases q with
 |nil=>
  simp[I.sub]at h;subst h;rcases ax with ax|ax
  .cases av<;>first|rfl|(simp[I.plain]at ax)
  .simp[I.gC]at ax
 |cons k q=>cases av<;>first|rfl|(simp[I.sub]at h)
theorem L4 {d:I} (h:d.plain=false):d.tree=true:=jy (q:=[]) (by simp only[I.sub]) (.inl h)
theorem aO.frame {w aN:World} {F ch:Nat->Prop} {s:ak} {aI:Nat->Value} {Sx:Nat->Nat->Prop} (bE:∀b,F b->aN.heap[b]? =w.heap[b]?) (Tz:∀b,F b->ch b)
  (cj:∀x b,Sx x b->aN.heap[b]? =w.heap[b]?) (nd:∀x,aO w F s aI (s x) (aI x) (Sx x)):
  ∀(d:I) (v:Value) (S:Nat->Prop),(∀b,S b->aN.heap[b]? =w.heap[b]?)->aO w F s aI d v S->aO aN ch s aI d v S:=by
 have nf:∀(x:Nat) (q:ayf) (d:I),I.sub q (s x)=some d->(d.plain=false\/I.gC q (s x)=true)->et aN q (s x) (cT (aI x)) none=et w q (s x) (cT (aI x)) none:=by
  intro x q d an ax;have ba:=jy an ax;have:=nd x;rw[aO.dh ba]at this;exact HP q _ _ (Sx x) none d this.2 an (cj x)
 have acp:∀(d:I) (v:Value) (S:Nat->Prop),d.tree=true->(∀b,S b->aN.heap[b]? =w.heap[b]?)->aO w F s aI d v S->aO aN ch s aI d v S:=by
  intro d v S ba yw h;rw[aO.dh ba]at h⊢;exact⟨h.1,aB.mono Tz _ _ _ _ (λ_ h=>h) (aB.frame bE _ _ _ yw h.2)⟩
 have step:∀n,(∀(d:I) (v:Value) (S:Nat->Prop),SizeOf.sizeOf d<=n->(∀b,S b->aN.heap[b]? =w.heap[b]?)->aO w F s aI d v S->aO aN ch s aI d v S)/\
   (∀(ds:ayk) (vs:ayi),SizeOf.sizeOf ds<=n->e_ w F s aI ds vs->e_ aN ch s aI ds vs):=by
  intro n;induction n with
  |zero=>
   refine⟨λd v S b8=>?_,λds vs b8=>?_⟩
   .cases d<;>simp at b8<;>omega
   .cases ds<;>simp at b8<;>omega
  |succ n ih=>
   refine⟨λd v S b8 yw h=>?_,λds vs b8 h=>?_⟩
   .cases d with
    |hole=>rw[aO];trivial
    |h x q=>
     rw[aO]at h⊢;intro d an ax;rw[nf x q d an (.inl ax)];exact h d an ax
    |ax x q=>
     rw[aO]at h⊢;intro d an ax;rw[nf x q d an (.inr ax)];exact h d an ax
    |aa x k=>
     rw[aO]at h⊢;intro ax;obtain⟨b,cur,e,fr,ad,af,aG,bf⟩:=h ax;exact⟨b,cur,e,fr,ad,Tz b af,(bE b af).trans aG,bf⟩
    |fn f cap=>
     rw[aO]at h⊢;obtain⟨arr,rfl,ar⟩:=h;exact⟨arr,rfl,ih.2 _ _ (by simp at b8;omega) ar⟩
    |_=>exact acp _ _ _ rfl yw h
   .cases ds with
    |nil=>rw[e_]at h⊢;exact h
    |cons d ds=>
     rw[e_]at h⊢;obtain⟨v,lY,rfl,ad,af⟩:=h;simp at b8;exact⟨v,lY,rfl,ih.1 _ _ _ (by omega) (λ_ h=>h.elim) ad,ih.2 _ _ (by omega) af⟩
 intro d v S yw h;exact(step (SizeOf.sizeOf d)).1 d v S (Nat.le_refl _) yw h
mutual
def dy (x:Nat):I->I
 | .h y q=>if y=x then .hole else .h y q
 | .ax y q=>if y=x then .hole else .ax y q
 | .aa y k=>if y=x then .hole else .aa y k
 | .fn f cap=>.fn f (la x cap)
 |d=>d
def la (x:Nat):ayk->ayk
 |[]=>[]
 |d::ds=>dy x d::la x ds
end
mutual
def cJ (x:Nat):I->I
 | .h y q=>if y=x then(if q=[]then .h y q else .hole)else .h y q
 | .ax y q=>if y=x then .hole else .ax y q
 | .fn f cap=>.fn f (kC x cap)
 |d=>d
def kC (x:Nat):ayk->ayk
 |[]=>[]
 |d::ds=>cJ x d::kC x ds
end
def ei {α:Type} (f:Nat->α) (t:Nat) (v:α):Nat->α:=λu=>if u=t then v else f u
def oB (t:Nat) (s:ak):ak:=λu=>dy t (s u)
def jk (t:Nat) (s:ak):ak:=λu=>cJ t (s u)
theorem oC {α:Type} (f:Nat->α) (t:Nat) (v:α):ei f t v t=v:=by simp[ei]
theorem lb {α:Type} (f:Nat->α) {t u:Nat} (v:α) (h:u≠t):ei f t v u=f u:=by simp[ei,h]
theorem acq {t:Nat} {d:I} (h:d.tree=true):dy t d=d:=by cases d<;>first|rfl|(simp[I.tree]at h)
theorem L5 {t:Nat} {d:I} (h:d.tree=true):cJ t d=d:=by cases d<;>first|rfl|(simp[I.tree]at h)
theorem acr {t:Nat} {d:I} (h:(dy t d).tree=true):d.tree=true/\dy t d=d:=by
 cases d<;>first|exact⟨rfl,rfl⟩|(simp only[dy]at h;first|(split at h<;>simp[I.tree]at h)|simp[I.tree]at h)
theorem HQ {t:Nat} {d:I} (h:(cJ t d).tree=true):d.tree=true/\cJ t d=d:=by
 cases d<;>first|exact⟨rfl,rfl⟩|(simp only[cJ]at h;first|(split at h<;>(try split at h)<;>simp[I.tree]at h)|simp[I.tree]at h)
section
variable {w:World} {F:Nat->Prop} {s aH:ak} {aI mI:Nat->Value} {t:Nat}
theorem aO.dy (iA:∀x,x≠t->(aH x).tree=true->aH x=s x/\mI x=aI x):∀(n:Nat),
  (∀(d:I) (v:Value) (S:Nat->Prop),SizeOf.sizeOf d<=n->aO w F s aI d v S->aO w F aH mI (eg.dy t d) v S)/\
  (∀(ds:ayk) (vs:ayi),SizeOf.sizeOf ds<=n->e_ w F s aI ds vs->e_ w F aH mI (la t ds) vs):=by
 intro n;induction n with
 |zero=>
  refine⟨λd v S b8=>?_,λds vs b8=>?_⟩
  .cases d<;>simp at b8<;>omega
  .cases ds<;>simp at b8<;>omega
 |succ n ih=>
  refine⟨λd v S b8 h=>?_,λds vs b8 h=>?_⟩
  .cases d with
   |hole=>rw[eg.dy.eq_def];simp only;rw[aO];trivial
   |h x q=>
    simp only[eg.dy];split
    .rw[aO];trivial
    .rename_i ao;rw[aO]at h⊢;intro d an ax;obtain⟨aP,aY⟩:=iA x ao (jy an (.inl ax));rw[aP,aY];rw[aP]at an;exact h d an ax
   |ax x q=>
    simp only[eg.dy];split
    .rw[aO];trivial
    .rename_i ao;rw[aO]at h⊢;intro d an ax;obtain⟨aP,aY⟩:=iA x ao (jy an (.inr ax));rw[aP,aY];rw[aP]at an ax;exact h d an ax
   |aa x k=>
    simp only[eg.dy];split
    .rw[aO];trivial
    .rename_i ao;rw[aO]at h⊢;intro ax;obtain⟨aP,aY⟩:=iA x ao (L4 ax);rw[aY];rw[aP]at ax;exact h ax
   |fn f cap=>
    simp only[eg.dy];rw[aO]at h⊢;obtain⟨arr,rfl,ar⟩:=h;exact⟨arr,rfl,ih.2 _ _ (by simp at b8;omega) ar⟩
   |_=>
    rw[acq (by rfl)];exact(aO.dh (by rfl)).2 ((aO.dh (by rfl)).1 h)
  .cases ds with
   |nil=>rw[la,e_];rw[e_]at h;exact h
   |cons d ds=>
    rw[la,e_];rw[e_]at h;obtain⟨v,lY,rfl,ad,af⟩:=h;simp at b8;exact⟨v,lY,rfl,ih.1 _ _ _ (by omega) ad,ih.2 _ _ (by omega) af⟩
theorem aO.cJ {aN:World} (iA:∀x,x≠t->(aH x).tree=true->aH x=s x/\mI x=aI x) (ld:mI t=aI t) (o6:(aH t).plain=false->(s t).plain=false/\∀v,eY (s t) v->eY (aH t) v)
  (nf:∀x q d,x≠t->I.sub q (s x)=some d->(d.plain=false\/I.gC q (s x)=true)->et aN q (s x) (cT (aI x)) none=et w q (s x) (cT (aI x)) none)
  (bE:∀b,F b->aN.heap[b]? =w.heap[b]?):∀(n:Nat),
  (∀(d:I) (v:Value) (S:Nat->Prop),SizeOf.sizeOf d<=n->(∀b,S b->aN.heap[b]? =w.heap[b]?)->aO w F s aI d v S->aO aN F aH mI (eg.cJ t d) v S)/\
  (∀(ds:ayk) (vs:ayi),SizeOf.sizeOf ds<=n->e_ w F s aI ds vs->e_ aN F aH mI (kC t ds) vs):=by
 intro n;induction n with
 |zero=>
  refine⟨λd v S b8=>?_,λds vs b8=>?_⟩
  .cases d<;>simp at b8<;>omega
  .cases ds<;>simp at b8<;>omega
 |succ n ih=>
  refine⟨λd v S b8 yw h=>?_,λds vs b8 h=>?_⟩
  .cases d with
   |hole=>rw[eg.cJ.eq_def];simp only;rw[aO];trivial
   |h x q=>
    simp only[eg.cJ];split
    .rename_i ao;subst ao;split
     .rename_i cy;subst cy;rw[aO]at h⊢;intro d an ax;simp only[I.sub,some.injEq]at an;subst an;obtain⟨eh,bc⟩:=o6 ax;obtain⟨dx,a,g1,g2,g3⟩:=h (s x) rfl eh;simp only[et,some.injEq,Prod.mk.injEq]at g1;obtain⟨-,g1,av6⟩:=g1;refine⟨cT (mI x),none,rfl,?_,bc _ g3⟩;rw[ld,g2,<-g1]
     .rw[aO];trivial
    .rename_i ao;rw[aO]at h⊢;intro d an ax;obtain⟨aP,aY⟩:=iA x ao (jy an (.inl ax));rw[aP,aY];rw[aP]at an;rw[nf x q d ao an (.inl ax)];exact h d an ax
   |ax x q=>
    simp only[eg.cJ];split
    .rw[aO];trivial
    .rename_i ao;rw[aO]at h⊢;intro d an ax;obtain⟨aP,aY⟩:=iA x ao (jy an (.inr ax));rw[aP,aY];rw[aP]at an ax;rw[nf x q d ao an (.inr ax)];exact h d an ax
   |aa x k=>
    simp only[eg.cJ];rw[aO]at h⊢;intro ax;by_cases ao:x=t
    .subst ao;obtain⟨b,cur,e,fr,ad,af,aG,bf⟩:=h (o6 ax).1;exact⟨b,cur,e,fr,ad,af,(bE b af).trans aG,by rw[ld];exact bf⟩
    .obtain⟨aP,aY⟩:=iA x ao (L4 ax);rw[aP]at ax;obtain⟨b,cur,e,fr,ad,af,aG,bf⟩:=h ax;exact⟨b,cur,e,fr,ad,af,(bE b af).trans aG,by rw[aY];exact bf⟩
   |fn f cap=>
    simp only[eg.cJ];rw[aO]at h⊢;obtain⟨arr,rfl,ar⟩:=h;exact⟨arr,rfl,ih.2 _ _ (by simp at b8;omega) ar⟩
   |_=>
    rw[L5 (by rfl)];have bC:=(aO.dh (by rfl)).1 h;exact(aO.dh (by rfl)).2 ⟨bC.1,aB.frame bE _ _ _ yw bC.2⟩
  .cases ds with
   |nil=>rw[kC,e_];rw[e_]at h;exact h
   |cons d ds=>
    rw[kC,e_];rw[e_]at h;obtain⟨v,lY,rfl,ad,af⟩:=h;simp at b8;exact⟨v,lY,rfl,ih.1 _ _ _ (by omega) (λ_ h=>h.elim) ad,ih.2 _ _ (by omega) af⟩
theorem aO.void (iA:∀x,x≠t->(aH x).tree=true->aH x=s x/\mI x=aI x) (r8:(aH t).plain=true):∀(n:Nat),
  (∀(d:I) (v:Value) (S:Nat->Prop),SizeOf.sizeOf d<=n->aO w F s aI d v S->aO w F aH mI d v S)/\
  (∀(ds:ayk) (vs:ayi),SizeOf.sizeOf ds<=n->e_ w F s aI ds vs->e_ w F aH mI ds vs):=by
 intro n;induction n with
 |zero=>
  refine⟨λd v S b8=>?_,λds vs b8=>?_⟩
  .cases d<;>simp at b8<;>omega
  .cases ds<;>simp at b8<;>omega
 |succ n ih=>
  refine⟨λd v S b8 h=>?_,λds vs b8 h=>?_⟩
  .cases d with
   |hole=>rw[aO];trivial
   |h x q=>
    rw[aO]at h⊢;intro d an ax;by_cases ao:x=t
    .subst ao;rw[I.L2 _ _ _ r8 an]at ax;cases ax
    .obtain⟨aP,aY⟩:=iA x ao (jy an (.inl ax));rw[aP,aY];rw[aP]at an;exact h d an ax
   |ax x q=>
    rw[aO]at h⊢;intro d an ax;by_cases ao:x=t
    .subst ao;rw[I.Ty _ _ r8]at ax;cases ax
    .obtain⟨aP,aY⟩:=iA x ao (jy an (.inr ax));rw[aP,aY];rw[aP]at an ax;exact h d an ax
   |aa x k=>
    rw[aO]at h⊢;intro ax;by_cases ao:x=t
    .subst ao;rw[r8]at ax;cases ax
    .obtain⟨aP,aY⟩:=iA x ao (L4 ax);rw[aY];rw[aP]at ax;exact h ax
   |fn f cap=>
    rw[aO]at h⊢;obtain⟨arr,rfl,ar⟩:=h;exact⟨arr,rfl,ih.2 _ _ (by simp at b8;omega) ar⟩
   |_=>exact(aO.dh (by rfl)).2 ((aO.dh (by rfl)).1 h)
  .cases ds with
   |nil=>rw[e_];rw[e_]at h;exact h
   |cons d ds=>
    rw[e_];rw[e_]at h;obtain⟨v,lY,rfl,ad,af⟩:=h;simp at b8;exact⟨v,lY,rfl,ih.1 _ _ _ (by omega) ad,ih.2 _ _ (by omega) af⟩
end
def L6:Bool:=false
def Out (w w0:World):Prop:=w.output=w0.output/\(L6=true->w0.drawn<=w.drawn)
theorem Out.trans {a b c:World} (h:Out a b) (af:Out b c):Out a c:=⟨Eq.trans h.1 af.1,λd=>Nat.le_trans (af.2 d) (h.2 d)⟩
theorem Out.refl (w:World):Out w w:=⟨rfl,λ_=>Nat.le_refl _⟩
def L7 (o:Obj):Prop:=∃bu cs e fr,o= .cells cs e fr/\cs[0]? =some bu/\(bu= .nilIface\/∃L8 L9,bu= .iface L8 L9)
def HR (o:Obj):Prop:=∃e fr,o= .cells ((range 20).map λi=>Value.int .u64 ((10^i:Nat):Int)).toArray e fr
def HS:List (Nat×(Obj->Prop)):=[(2,L7),(1,HR)]
def tx (w:World) (X:Nat->Prop):Prop:=∀p∈HS,p.1<w.heap.size/\¬X p.1/\∃o,w.heap[p.1]? =some o/\p.2 o
theorem tx.next {w aN:World} {X Y:Nat->Prop} (h:tx w X) (ab:w.heap.size<=aN.heap.size) (aa:∀b,b<w.heap.size->¬X b->aN.heap[b]? =w.heap[b]?) (hy:∀b,Y b->X b\/w.heap.size<=b):tx aN Y:=λp ax=>by
 obtain⟨ad,af,o,aG,bf⟩:=h p ax;refine⟨Nat.lt_of_lt_of_le ad ab,λh=>?_,o,(aa _ ad af).trans aG,bf⟩;rcases hy _ h with h|h
 .exact af h
 .omega
structure cb (w0:World) (F0 X F:Nat->Prop) (S:Nat->Nat->Prop) (s:ak) (aI:Nat->Value) (w:World):Prop where
 h3:∀b,F0 b->F b
 iB:∀b,F b->F0 b\/X b\/w0.heap.size<=b
 f_:∀b,F b->b<w.heap.size
 fz:∀t b,S t b->b<w.heap.size
 gD:∀t b,S t b->¬F b
 ga:∀t u b,t≠u->S t b->¬S u b
 eU:∀t b,S t b->X b\/w0.heap.size<=b
 el:∀t,aO w F s aI (s t) (aI t) (S t)
 old:∀b,b<w0.heap.size->¬X b->w.heap[b]? =w0.heap[b]?
 size:w0.heap.size<=w.heap.size
 os:w.os=w0.os
 tape:w.tape=w0.tape
 output:Out w w0
 gq:tx w0 X
section
variable {w0 w aN:World} {F0 X F:Nat->Prop} {S:Nat->Nat->Prop} {s:ak} {aI:Nat->Value}
theorem cb.grow (h:cb w0 F0 X F S s aI w) (aa:∀b,b<w.heap.size->aN.heap[b]? =w.heap[b]?) (ab:w.heap.size<=aN.heap.size)
  (ad:aN.os=w.os) (af:aN.tape=w.tape) (aG:Out aN w):cb w0 F0 X F S s aI aN where
 h3:=h.h3
 iB:=h.iB
 f_:=λb bE=>Nat.lt_of_lt_of_le (h.f_ b bE) ab
 fz:=λt b bE=>Nat.lt_of_lt_of_le (h.fz t b bE) ab
 gD:=h.gD
 ga:=h.ga
 eU:=h.eU
 el:=λt=>aO.frame (Sx:=S) (λb bE=>aa b (h.f_ b bE)) (λ_ h=>h) (λx b cj=>aa b (h.fz x b cj)) h.el _ _ _ (λb cj=>aa b (h.fz t b cj)) (h.el t)
 old:=λb eI mJ=>(aa b (Nat.lt_of_lt_of_le eI h.size)).trans (h.old b eI mJ)
 size:=Nat.le_trans h.size ab
 os:=ad.trans h.os
 tape:=af.trans h.tape
 output:=aG.trans h.output
 gq:=h.gq
def hc (S:Nat->Nat->Prop) (t:Nat) (Sn:Nat->Prop):Nat->Nat->Prop:=λu b=>if u=t then Sn b else S u b
theorem DO (S:Nat->Nat->Prop) (t:Nat) (Sn:Nat->Prop):hc S t Sn t=Sn:=by funext b;simp[hc]
theorem DP (S:Nat->Nat->Prop) {t u:Nat} (Sn:Nat->Prop) (h:u≠t):hc S t Sn u=S u:=by funext b;simp[hc,h]
theorem cb.AK (h:cb w0 F0 X F S s aI w) {t:Nat} {d:I} {v:Value} (ax:d.plain=true) (an:aO w F s aI d v (λ_=>False)):
  cb w0 F0 X F (hc S t (λ_=>False)) (ei s t d) (ei aI t v) w where
 h3:=h.h3
 iB:=h.iB
 f_:=h.f_
 fz:=λu b aa=>by simp only[hc]at aa;split at aa;exact aa.elim;exact h.fz u b aa
 gD:=λu b aa=>by simp only[hc]at aa;split at aa;exact aa.elim;exact h.gD u b aa
 ga:=λu x b d_ aa ao=>by
  simp only[hc]at aa ao;split at aa
  .exact aa.elim
  .split at ao
   .exact ao.elim
   .exact h.ga u x b d_ aa ao
 eU:=λu b aa=>by simp only[hc]at aa;split at aa;exact aa.elim;exact h.eU u b aa
 el:=λu=>by
  have iA:∀x,x≠t->(ei s t d x).tree=true->ei s t d x=s x/\ei aI t v x=aI x:=λx ao _=>⟨lb _ _ ao,lb _ _ ao⟩
  have r8:(ei s t d t).plain=true:=by rw[oC];exact ax
  by_cases hu:u=t
  .subst hu;rw[oC,oC,DO];exact(aO.void iA r8 _).1 _ _ _ (Nat.le_refl _) an
  .rw[lb _ _ hu,lb _ _ hu,DP _ _ hu];exact(aO.void iA r8 _).1 _ _ _ (Nat.le_refl _) (h.el u)
 old:=h.old
 size:=h.size
 os:=h.os
 tape:=h.tape
 output:=h.output
 gq:=h.gq
theorem cb.TA (h:cb w0 F0 X F S s aI w) {t:Nat} {d:I} {v:Value} {Sn:Nat->Prop} (an:d.tree=true) (ab:eY d v) (aJ:aB w F d (cT v) Sn)
  (eI:∀b,Sn b->b<w.heap.size) (bE:∀b,Sn b->¬F b) (cj:∀u b,u≠t->Sn b->¬S u b) (a_:∀b,Sn b->X b\/w0.heap.size<=b):
  cb w0 F0 X F (hc S t Sn) (ei (oB t s) t d) (ei aI t v) w where
 h3:=h.h3
 iB:=h.iB
 f_:=h.f_
 fz:=λu b aa=>by simp only[hc]at aa;split at aa;exact eI b aa;exact h.fz u b aa
 gD:=λu b aa=>by simp only[hc]at aa;split at aa;exact bE b aa;exact h.gD u b aa
 ga:=λu x b d_ aa ao=>by
  simp only[hc]at aa ao;split at aa
  .rename_i hu;rw[if_neg (λe=>d_ (hu.trans e.symm))]at ao;exact cj x b (λe=>d_ (hu.trans e.symm)) aa ao
  .rename_i hu;split at ao
   .exact cj u b hu ao aa
   .exact h.ga u x b d_ aa ao
 eU:=λu b aa=>by simp only[hc]at aa;split at aa;exact a_ b aa;exact h.eU u b aa
 el:=λu=>by
  have iA:∀x,x≠t->(ei (oB t s) t d x).tree=true->ei (oB t s) t d x=s x/\ei aI t v x=aI x:=λx ao ba=>by
   rw[lb _ _ ao]at ba⊢;exact⟨(acr ba).2,lb _ _ ao⟩
  by_cases hu:u=t
  .subst hu;rw[oC,oC,DO];exact(aO.dh an).2 ⟨ab,aJ⟩
  .rw[lb _ _ hu,lb _ _ hu,DP _ _ hu];exact(aO.dy iA _).1 _ _ _ (Nat.le_refl _) (h.el u)
 old:=h.old
 size:=h.size
 os:=h.os
 tape:=h.tape
 output:=h.output
 gq:=h.gq
theorem w2 (k:Nat) (q:ayf) (bJ x:I):(∃aF gs,x= .agg aF/\I.put (k::q) bJ x= .agg gs)\/(∃aF gs,x= .tuple aF/\I.put (k::q) bJ x= .tuple gs)\/
  (∃sz xs cP,x= .ag sz xs/\I.put (k::q) bJ x= .ag sz cP)\/(∃y z,x= .aS y/\I.put (k::q) bJ x= .aS z)\/I.put (k::q) bJ x=x:=by
 cases x with
 |agg aF=>simp only[I.put];split<;>exact .inl ⟨_,_,rfl,rfl⟩
 |tuple aF=>simp only[I.put];split<;>exact .inr (.inl ⟨_,_,rfl,rfl⟩)
 |ag sz aF=>simp only[I.put];split<;>exact .inr (.inr (.inl ⟨_,_,_,rfl,rfl⟩))
 |aS y=>cases k<;>exact .inr (.inr (.inr (.inl ⟨_,_,rfl,rfl⟩)))
 |_=>exact .inr (.inr (.inr (.inr rfl)))
theorem TB {k:Nat} {q:ayf} {bJ x:I} {v:Value} (h:j3 x v):j3 (I.put (k::q) bJ x) v:=by
 rcases w2 k q bJ x with⟨aF,gs,rfl,e⟩|⟨aF,gs,rfl,e⟩|⟨sz,xs,cP,rfl,e⟩|⟨y,z,rfl,e⟩|e<;>rw[e]<;>exact h
theorem TC {k:Nat} {q:ayf} {bJ x:I} (h:∀vs,x≠.tuple vs):∀vs,I.put (k::q) bJ x≠.tuple vs:=by
 rcases w2 k q bJ x with⟨aF,gs,rfl,e⟩|⟨aF,gs,rfl,e⟩|⟨sz,xs,cP,rfl,e⟩|⟨y,z,rfl,e⟩|e<;>rw[e]<;>first|exact h|(intro vs bC;cases bC;done)|exact(h _ rfl).elim
theorem DQ {k:Nat} {q:ayf} {d bJ av:I} {v:Value} (h:eY av v) (an:I.sub (k::q) av=some d) (ad:∀v,j3 d v->j3 bJ v) (af:(∀vs,d≠.tuple vs)->∀vs,bJ≠.tuple vs) (aG:bJ.wd=d.wd):
  eY (I.put (k::q) bJ av) v:=by
 cases av with
 |tuple aF=>
  simp only[I.sub]at an;split at an
  .rename_i x ao;simp only[I.put,ao];simp only[eY]at h⊢;obtain⟨arr,rfl,b8,nd⟩:=h;refine⟨arr,rfl,by simpa using b8,λj e y he hy=>?_⟩;rw[getElem?_set]at he;split at he
   .rename_i L_;subst L_;split at he
    .simp only[some.injEq]at he;subst he;obtain⟨g1,g2,g3⟩:=nd k x y ao hy;refine⟨?_,?_,g3.trans (I.AH q x d bJ an aG).symm⟩
     .cases q with
      |nil=>
       simp only[I.sub,some.injEq]at an;subst an;exact ad _ g1
      |cons ct q=>exact TB g1
     .cases q with
      |nil=>
       simp only[I.sub,some.injEq]at an;subst an;exact af g2
      |cons ct q=>exact TC g2
    .cases he
   .exact nd j e y he hy
  .cases an
 |agg aF=>simp only[I.put];split<;>exact h
 |ag sz aF=>simp only[I.put];split<;>exact h
 |aS y=>cases k<;>exact h
 |_=>exact h
theorem Ma {d:I} {v:Value} (h:j3 d v):j3 d.dY v:=by cases d<;>exact h
theorem TD {s:ak} {x:Nat} {q:ayf} {d:I} (an:I.sub q (s x)=some d) (ax:d.plain=false):
  (ei (jk x s) x (I.put q d.dY (s x)) x).plain=false->(s x).plain=false/\∀v,eY (s x) v->eY (ei (jk x s) x (I.put q d.dY (s x)) x) v:=by
  rw[oC];intro fI;cases q with
  |nil=>
   exfalso;have:∀d:I,d.dY.plain=true:=by
    intro d;have key:∀n,(∀d:I,SizeOf.sizeOf d<=n->d.dY.plain=true)/\(∀ds:ayk,SizeOf.sizeOf ds<=n->I.e5 (I.nY ds)=true):=by
     intro n;induction n with
     |zero=>exact⟨λd b8=>by cases d<;>simp at b8<;>omega,λds b8=>by cases ds<;>simp at b8<;>omega⟩
     |succ n ih=>
      refine⟨λd b8=>?_,λds b8=>?_⟩
      .cases d with
       |agg aF=>simp only[I.dY,I.plain];exact ih.2 _ (by simp at b8;omega)
       |tuple aF=>simp only[I.dY,I.plain];exact ih.2 _ (by simp at b8;omega)
       |_=>rfl
      .cases ds with
       |nil=>rfl
       |cons d ds=>
        simp at b8;simp only[I.nY,I.e5,Bool.and_eq_true];exact⟨ih.1 _ (by omega),ih.2 _ (by omega)⟩
    exact(key _).1 d (Nat.le_refl _)
   simp only[I.put]at fI;rw[this]at fI;cases fI
  |cons k q=>
   refine⟨?_,λv aJ=>DQ aJ an (λv h=>Ma h) (λh vs e=>?_) (I.w1 d)⟩
   .cases bR:(s x).plain with
    |false=>rfl
    |true=>rw[I.L2 _ _ _ bR an]at ax;cases ax
   .cases d<;>first|(exact h _ rfl)|(simp[I.dY]at e)
theorem cb.take (h:cb w0 F0 X F S s aI w) {x:Nat} {q:ayf} {d:I} (an:I.sub q (s x)=some d) (ax:d.plain=false):
  ∃(Sn gp:Nat->Prop) (dx:ayi) (a:Option (Nat×Nat)),cb w0 F0 X F (hc S x Sn) (ei (jk x s) x (I.put q d.dY (s x))) aI w/\
   et w q (s x) (cT (aI x)) none=some (d,dx,a)/\aB w F d dx gp/\(∀b,gp b->S x b)/\(∀b,Sn b->S x b)/\(∀b,gp b->¬Sn b)/\
   (∀(bJ:I) (v:Value) (a7:Nat->Prop),aO w F s aI bJ v a7->aO w F (ei (jk x s) x (I.put q d.dY (s x))) aI (eg.cJ x bJ) v a7):=by
 have ba:=jy an (.inl ax);have ao:=h.el x;rw[aO.dh ba]at ao;obtain⟨dx,a,fi,gp,g0,g1,g2,g3,g4,g5⟩:=ctx q (s x) (cT (aI x)) (S x) none d ao.2 an;have lX:aB w F (I.put q d.dY (s x)) (cT (aI x)) fi:=by
  have kj:aB w F d.dY dx (λ_=>False):=aB.dY _ _ _ _ g4;have mK:∀b,(fi b\/False)->fi b:=λb h=>h.elim id False.elim;rcases g5 with⟨l,r,aP,aY,aU⟩|⟨b,cur,e,fr,l,r,aP,aY,aU,b4,cM,cl⟩
  .have:=aU w _ dx _ (λ_ _=>rfl) (λ_ _=>rfl) (I.w1 d) kj (λ_ h=>h.elim);rw[<-aP]at this;exact aB.mono (λ_ h=>h) _ _ _ _ mK this
  .have:=cl w _ dx _ (λ_ _=>rfl) (λ_ _ _=>rfl) (by rw[aU,<-cM]) (I.w1 d) kj (λ_ h=>h.elim);exact aB.mono (λ_ h=>h) _ _ _ _ mK this
 have acs:eY (I.put q d.dY (s x)) (aI x)/\(I.put q d.dY (s x)).tree=true\/I.put q d.dY (s x)= .hole:=by
  cases q with
  |nil=>
   simp only[I.sub,some.injEq]at an;subst an;simp only[I.put];cases ab:s x with
   |ag sz xs=>right;rfl
   |aS y=>right;rfl
   |cc y=>right;rfl
   |agg aF=>left;rw[ab]at ao;exact⟨ao.1,rfl⟩
   |tuple aF=>
    left;rw[ab]at ao;refine⟨?_,rfl⟩;simp only[eY,I.dY]at ao⊢;obtain⟨arr,e,b8,nd⟩:=ao.1;have hl:∀aF:ayk,I.nY aF=aF.map I.dY:=by
     intro aF;induction aF with
     |nil=>rfl
     |cons a aF ih=>simp[I.nY,ih]
    refine⟨arr,e,by rw[hl];simpa using b8,λk hp y he hy=>?_⟩;rw[hl,getElem?_map]at he;cases au:aF[k]? with
    |none=>rw[au]at he;cases he
    |some z=>
     rw[au]at he;simp only[map_some,some.injEq]at he;subst he;obtain⟨g1,g2,g3⟩:=nd k z y au hy;refine⟨Ma g1,λvs e=>?_,g3.trans (I.w1 z).symm⟩;cases z<;>first|(exact g2 _ rfl)|(simp[I.dY]at e)
   |_=>rw[ab]at ax;simp[I.plain]at ax
  |cons k q=>
   left;refine⟨DQ ao.1 an (λv h=>Ma h) (λh vs e=>?_) (I.w1 d),?_⟩
   .cases d<;>first|(exact h _ rfl)|(simp[I.dY]at e)
   .rcases w2 k q d.dY (s x)with⟨aF,gs,aP,e⟩|⟨aF,gs,aP,e⟩|⟨sz,xs,cP,aP,e⟩|⟨y,z,aP,e⟩|e<;>rw[e]<;>first|rfl|exact ba
 refine⟨fi,gp,dx,a,?_,g0,g4,g2,g1,λb ad af=>g3 b af ad,?_⟩
 rotate_left
 .have iA:∀y,y≠x->(ei (jk x s) x (I.put q d.dY (s x)) y).tree=true->ei (jk x s) x (I.put q d.dY (s x)) y=s y/\aI y=aI y:=λy hy ba=>by
   rw[lb _ _ hy]at ba⊢;exact⟨(HQ ba).2,rfl⟩
  intro bJ v a7 jh;exact(aO.cJ iA rfl (TD an ax) (λ_ _ _ _ _ _=>rfl) (λ_ _=>rfl) _).1 _ _ _ (Nat.le_refl _) (λ_ _=>rfl) jh
 have iA:∀y,y≠x->(ei (jk x s) x (I.put q d.dY (s x)) y).tree=true->ei (jk x s) x (I.put q d.dY (s x)) y=s y/\aI y=aI y:=λy hy ba=>by
  rw[lb _ _ hy]at ba⊢;exact⟨(HQ ba).2,rfl⟩
 have o6:=TD (s:=s) (x:=x) an ax;constructor;case h3=>exact h.h3
 case iB=>exact h.iB
 case f_=>exact h.f_
 case fz=>exact λu b aa=>by simp only[hc]at aa;split at aa;exact h.fz x b (g1 b aa);exact h.fz u b aa
 case gD=>exact λu b aa=>by simp only[hc]at aa;split at aa;exact h.gD x b (g1 b aa);exact h.gD u b aa
 case ga=>
  intro u y b d_ aa hy;simp only[hc]at aa hy;split at aa
  .rename_i hu;rw[if_neg (λe=>d_ (hu.trans e.symm))]at hy;exact h.ga x y b (λe=>d_ (hu.trans e)) (g1 b aa) hy
  .rename_i hu;split at hy
   .exact h.ga u x b hu aa (g1 b hy)
   .exact h.ga u y b d_ aa hy
 case eU=>exact λu b aa=>by simp only[hc]at aa;split at aa;exact h.eU x b (g1 b aa);exact h.eU u b aa
 case el=>
  intro u;by_cases hu:u=x
  .subst hu;rw[oC,DO];rcases acs with⟨aP,aY⟩|e
   .exact(aO.dh aY).2 ⟨aP,lX⟩
   .rw[e,aO];trivial
  .rw[lb _ _ hu,DP _ _ hu];exact(aO.cJ iA rfl o6 (λ_ _ _ _ _ _=>rfl) (λ_ _=>rfl) _).1 _ _ _ (Nat.le_refl _) (λ_ _=>rfl) (h.el u)
 case old=>exact h.old
 case size=>exact h.size
 case os=>exact h.os
 case tape=>exact h.tape
 case output=>exact h.output
 case gq=>exact h.gq
theorem cb.store (h:cb w0 F0 X F S s aI w) {x:Nat} {q:ayf} {d bJ:I} (an:I.sub q (s x)=some d) (ar:I.gC q (s x)=true)
  {hb:ayi} {Sn:Nat->Prop} (aJ:aB w F bJ hb Sn) (nc:bJ.wd=d.wd)
  (eI:∀b,Sn b->b<w.heap.size) (bE:∀b,Sn b->¬F b) (cj:∀u b,Sn b->¬S u b) (a_:∀b,Sn b->X b\/w0.heap.size<=b):
  ∃(dx:ayi) (b:Nat) (l r:ayi) (cur:Array Value) (e:TypeId) (fr:Nat×Nat),et w q (s x) (cT (aI x)) none=some (d,dx,some (b,l.length))/\
   w.heap[b]? =some (.cells cur e fr)/\cur.toList=l++(dx++r)/\pF fr cur.size/\
   ∀aN,aN.heap[b]? =some (.cells (l++(hb++r)).toArray e fr)->(∀c,c≠b->aN.heap[c]? =w.heap[c]?)->aN.heap.size=w.heap.size->aN.os=w.os->aN.tape=w.tape->Out aN w->
    ∃a7,cb w0 F0 X F a7 (ei (jk x s) x (I.put q bJ (s x))) aI aN:=by
 have ba:=jy an (.inr ar);have ao:=h.el x;rw[aO.dh ba]at ao;obtain⟨dx,a,fi,gp,g0,g1,g2,g3,g4,g5⟩:=ctx q (s x) (cT (aI x)) (S x) none d ao.2 an;have acu:Deep w F q (s x) (cT (aI x)) d dx a fi:=by
  rcases g5 with⟨l,r,aP,aY,aU⟩|g5
  .exfalso;have nA:∀(q:ayf) (av:I) (cs:ayi) (a0:Option (Nat×Nat)) (d:I) (dx:ayi),I.gC q av=true->et w q av cs a0=some (d,dx,none)->False:=by
    intro q;induction q with
    |nil=>intro av cs a0 d dx ar;simp[I.gC]at ar
    |cons k q ih=>
     have TE:∀(q:ayf) (av:I) (cs:ayi) (l:Nat×Nat) (d:I) (dx:ayi),et w q av cs (some l)=some (d,dx,none)->False:=by
      intro q;induction q with
      |nil=>intro av cs l d dx h;simp[et]at h
      |cons k q AL=>
       intro av cs l d dx h;cases av with
       |agg aF=>rw[et]at h;split at h;exact AL _ _ _ _ _ h;cases h
       |tuple aF=>rw[et]at h;split at h;exact AL _ _ _ _ _ h;cases h
       |ag sz xs=>simp only[et]at h;split at h;exact AL _ _ _ _ _ h;cases h
       |aS y=>
        cases k with
        |zero=>rw[et.eq_def]at h;simp only at h;split at h;exact AL _ _ _ _ _ h;cases h
        |succ k=>rw[show et w ((k+1)::q) (.aS y) cs (some l)=none from rfl]at h;cases h
       |_=>simp[et]at h
     intro av cs a0 d dx ar h;cases av with
     |agg aF=>
      simp only[I.gC]at ar;split at ar
      .rename_i y hy;simp only[et,hy]at h;exact ih _ _ _ _ _ ar h
      .cases ar
     |tuple aF=>
      simp only[I.gC]at ar;split at ar
      .rename_i y hy;simp only[et,hy]at h;exact ih _ _ _ _ _ ar h
      .cases ar
     |ag sz xs=>simp only[et]at h;split at h;exact TE _ _ _ _ _ _ h;cases h
     |aS y=>
      cases k with
      |zero=>rw[et.eq_def]at h;simp only at h;split at h;exact TE _ _ _ _ _ _ h;cases h
      |succ k=>rw[show et w ((k+1)::q) (.aS y) cs a0=none from rfl]at h;cases h
     |_=>simp[I.gC]at ar
   simp only[map_none]at aY;subst aY;exact nA _ _ _ _ _ _ ar g0
  .exact g5
 obtain⟨b,cur,e,fr,l,r,rfl,aY,aU,b4,cM,cl⟩:=acu;refine⟨dx,b,l,r,cur,e,fr,g0,aU,cM,b4,?_⟩;intro aN o5 qU fj Mb Mc yx;have yy:S x b:=g1 _ aY;have tz:∀c,F c->aN.heap[c]? =w.heap[c]? :=λc ar=>qU c (by rintro rfl;exact h.gD x _ yy ar);have av7:hb.length=dx.length:=by rw[aB.length _ _ _ aJ,aB.length _ _ _ g4,nc]
 have lX:=cl aN bJ hb Sn tz (λc _ d_=>qU c d_) o5 nc
  (aB.frame tz _ _ _ (λc ar=>qU c (by rintro rfl;exact cj x _ ar yy)) aJ) (λc ar mK=>cj x c ar (g1 _ mK))
 obtain⟨k,lH,rfl⟩:∃k lH,q=k::lH:=by
  cases q with
  |nil=>simp[I.gC]at ar
  |cons k q=>exact⟨k,q,rfl⟩
 have DR:∀v,eY (s x) v->eY (I.put (k::lH) bJ (s x)) v:=by
  intro v aJ;rcases w2 k lH bJ (s x)with⟨aF,gs,aP,e⟩|⟨aF,gs,aP,e⟩|⟨sz,xs,cP,aP,e⟩|⟨y,z,aP,e⟩|e
  .rw[e];rw[aP]at aJ;exact aJ
  ·
   rw[aP]at aJ an ar⊢;simp only[I.gC]at ar;split at ar
   .rename_i y hy;simp only[I.put,hy];cases lH with
    |nil=>simp[I.gC]at ar
    |cons ct gy=>
     simp only[eY]at aJ⊢;obtain⟨arr,rfl,b8,nd⟩:=aJ;refine⟨arr,rfl,by simpa using b8,λj e nZ he yz=>?_⟩;rw[getElem?_set]at he;split at he
     .rename_i L_;subst L_;split at he
      .simp only[some.injEq]at he;subst he;obtain⟨g1,g2,g3⟩:=nd _ y nZ hy yz;simp only[I.sub,hy]at an;exact⟨TB g1,TC g2,g3.trans (I.AH (ct::gy) y d bJ an nc).symm⟩
      .cases he
     .exact nd j e nZ he yz
   .cases ar
  .rw[e];rw[aP]at aJ;exact aJ
  .rw[e];rw[aP]at aJ;exact aJ
  .rw[e];exact aJ
 have acv:(I.put (k::lH) bJ (s x)).tree=true:=by
  rcases w2 k lH bJ (s x)with⟨aF,gs,aP,e⟩|⟨aF,gs,aP,e⟩|⟨sz,xs,cP,aP,e⟩|⟨y,z,aP,e⟩|e<;>rw[e]<;>first|rfl|exact ba
 let aH:=ei (jk x s) x (I.put (k::lH) bJ (s x))
 have iA:∀y,y≠x->(aH y).tree=true->aH y=s y/\aI y=aI y:=λy hy ba=>by
  have e:aH y=cJ x (s y):=lb _ _ hy;rw[e]at ba⊢;exact⟨(HQ ba).2,rfl⟩
 have o6:(aH x).plain=false->(s x).plain=false/\∀v,eY (s x) v->eY (aH x) v:=by
  intro _;refine⟨?_,?_⟩
  .cases bR:(s x).plain with
   |false=>rfl
   |true=>rw[I.Ty _ _ bR]at ar;cases ar
  .simp only[aH,oC];exact DR
 refine⟨hc S x (λc=>fi c\/Sn c),?_⟩;constructor;case h3=>exact h.h3
 case iB=>exact h.iB
 case f_=>exact λb aa=>by rw[fj];exact h.f_ b aa
 case fz=>
  intro u c aa;rw[fj];simp only[hc]at aa;split at aa
  .rcases aa with aa|aa
   .exact h.fz x c (g1 c aa)
   .exact eI c aa
  .exact h.fz u c aa
 case gD=>
  intro u c aa;simp only[hc]at aa;split at aa
  .rcases aa with aa|aa
   .exact h.gD x c (g1 c aa)
   .exact bE c aa
  .exact h.gD u c aa
 case ga=>
  intro u y c d_ aa hy;simp only[hc]at aa hy;split at aa
  .rename_i hu;rw[if_neg (λe=>d_ (hu.trans e.symm))]at hy;rcases aa with aa|aa
   .exact h.ga x y c (λe=>d_ (hu.trans e)) (g1 c aa) hy
   .exact cj y c aa hy
  .rename_i hu;split at hy
   .rcases hy with hy|hy
    .exact h.ga u x c hu aa (g1 c hy)
    .exact cj u c hy aa
   .exact h.ga u y c d_ aa hy
 case eU=>
  intro u c aa;simp only[hc]at aa;split at aa
  .rcases aa with aa|aa
   .exact h.eU x c (g1 c aa)
   .exact a_ c aa
  .exact h.eU u c aa
 case el=>
  intro u;by_cases hu:u=x
  .subst hu;rw[oC,DO];exact(aO.dh acv).2 ⟨DR _ ao.1,lX⟩
  .rw[lb _ _ hu,DP _ _ hu];have d_:∀y c,y≠x->S y c->aN.heap[c]? =w.heap[c]? :=λy c hy ar=>qU c (by rintro rfl;exact h.ga y x c hy ar yy);refine(aO.cJ iA rfl o6 (λy gy d2 hy hx DS=>?_) tz _).1 _ _ _ (Nat.le_refl _) (λc ar=>d_ u c hu ar) (h.el u);have DT:=h.el y;rw[aO.dh (jy hx DS)]at DT;exact HP gy _ _ _ none d2 DT.2 hx (λc ar=>d_ y c hy ar)
 case old=>
  intro c eI mJ;by_cases AM:c=b
  .subst AM;exfalso;rcases h.eU x c yy with kj|kj
   .exact mJ kj
   .omega
  .exact(qU c AM).trans (h.old c eI mJ)
 case size=>rw[fj];exact h.size
 case os=>exact Mb.trans h.os
 case tape=>exact Mc.trans h.tape
 case output=>exact yx.trans h.output
 case gq=>exact h.gq
end
end Go.eg
