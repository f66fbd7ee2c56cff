/- Part of a proof that a law returns true for every input. No condition. -/
import Derived.Test.YtmaepbgkcmjcjaiGreatDoorFwA
import Derived.Laws.AppendOwn
import Derived.Calls
namespace Go.eg
open List Option Go.IntKind Nat
inductive D1 where
 |mp (es:aza)
 |kc
 |jE (T e:TypeId) (l1:azc)
inductive I where
 |hole
 |bool (b:Bool)
 |gA
 |int (k:IntKind) (n:Int)
 |str (s:azc)
 |eh
 |a8
 |slice (xs:List I)
 |ak (sz:Nat) (xs:List I)
 |ref (d:I)
 |aQ (d:I)
 |agg (aE:List I)
 |tuple (vs:List I)
 |fn (f:FuncId) (cap:List I)
 |h (x:Nat) (q:azf)
 |ay (x:Nat) (q:azf)
 |ab (x:Nat) (k:Nat)
 |b9 (o:D1)
 deriving Inhabited
abbrev azk:=List I
abbrev azj:=List (Nat×I)
mutual
def I.wd:I->Nat
 | .agg aE=>I.eZ aE
 | .tuple aE=>I.eZ aE
 |_=>1
def I.eZ:azk->Nat
 |[]=>0
 |d::ds=>d.wd+I.eZ ds
end
def js (w:World) (b o:Nat) (cs:azi):Prop:=∀j c,cs[j]? =some c->w.cell? ⟨b,o+j,none⟩=some c
def pH (fr:Nat×Nat) (n:Nat):Prop:=∀o,o<n->¬(fr.1<=o/\o<fr.2)
theorem pH.le {fr:Nat×Nat} {m n:Nat} (h:pH fr n) (hm:m<=n):pH fr m:=λo bL=>h o (Nat.lt_of_lt_of_le bL hm)
theorem pH.low {fr:Nat×Nat} {n k:Nat} (h:pH fr (n+k)):pH fr n:=h.le (le_add_right _ _)
def Value.hH:Value->Bool
 | .agg _=>false
 | .tuple _=>false
 |_=>true
def I.single:I->Bool
 | .agg _=>false
 | .tuple _=>false
 | .hole=>false
 |_=>true
def oy (w:World):D1->azi->(Nat->Prop)->Prop
 | .mp es,cs,S=>∃r ms pI,cs=[.map (some r)]/\S r/\w.heap[r]? =some (.map ms pI)/\ms.toList.map (λe=>(e.key,e.val))=es.map (λe=>(.string ⟨⟨e.1⟩⟩,.bool e.2))
 | .kc,cs,_=>cs=[.map none]
 | .jE T e l1,cs,S=>∃b a yJ,cs=[.pointer (some ⟨b,0,none⟩)]/\S b/\w.heap[b]? =some (.cells #[a,yJ] T (0,0))/\(a= .pointer none\/a= .pointer (some ⟨b,0,none⟩))/\
   ((l1=[]/\yJ= .slice none 0 0)\/
     ∃g cap cur,yJ= .slice (some ⟨g,0,none⟩) l1.length cap/\S g/\g≠b/\w.heap[g]? =some (.cells cur e (0,0))/\l1.length<=cap/\cap<=maxLen/\cur.size=cap/\
      cur.toList.take l1.length=l1.map λx=>.int .u8 x.toNat)
theorem oy.frame {w aL:World}:∀{o:D1} {cs:azi} {S:Nat->Prop},(∀b,S b->aL.heap[b]? =w.heap[b]?)->oy w o cs S->oy aL o cs S
 | .mp _,_,_,cj,⟨r,ms,pI,ad,ae,aJ,bh⟩=>⟨r,ms,pI,ad,ae,(cj _ ae).trans aJ,bh⟩
 | .kc,_,_,_,h=>h
 | .jE _ _ _,_,_,cj,⟨b,a,yJ,ad,ae,aJ,bh,b2⟩=>⟨b,a,yJ,ad,ae,(cj _ ae).trans aJ,bh,b2.imp (λh=>h) λ⟨g,cap,cur,xj,i2,i3,i4,i5⟩=>⟨g,cap,cur,xj,i2,i3,(cj _ i2).trans i4,i5⟩⟩
theorem oy.mono {w:World}:∀{o:D1} {cs:azi} {S aZ:Nat->Prop},(∀b,S b->aZ b)->oy w o cs S->oy w o cs aZ
 | .mp _,_,_,_,cj,⟨r,ms,pI,ad,ae,aJ⟩=>⟨r,ms,pI,ad,cj _ ae,aJ⟩
 | .kc,_,_,_,_,h=>h
 | .jE _ _ _,_,_,_,cj,⟨b,a,yJ,ad,ae,aJ,bh,b2⟩=>⟨b,a,yJ,ad,cj _ ae,aJ,bh,b2.imp (λh=>h) λ⟨g,cap,cur,xj,i2,i3⟩=>⟨g,cap,cur,xj,cj _ i2,i3⟩⟩
theorem oy.one {w:World}:∀{o:D1} {cs:azi} {S:Nat->Prop},oy w o cs S->∃v,Value.hH v=true/\cs=[v]
 | .mp _,_,_,⟨_,_,_,h,_⟩=>⟨_,rfl,h⟩
 | .kc,_,_,h=>⟨_,rfl,h⟩
 | .jE _ _ _,_,_,⟨_,_,_,h,_⟩=>⟨_,rfl,h⟩
mutual
def aA (w:World) (F:Nat->Prop):I->azi->(Nat->Prop)->Prop
 | .hole,cs,_=>∃v,Value.hH v=true/\cs=[v]
 | .bool b,cs,_=>cs=[.bool b]
 | .gA,cs,_=>∃b,cs=[.bool b]
 | .int k n,cs,_=>cs=[.int k n]
 | .str s,cs,_=>cs=[.string ⟨⟨s⟩⟩]
 | .eh,cs,_=>cs=[.pointer none]
 | .a8,cs,_=>cs=[.slice none 0 0]
 | .slice xs,cs,_=>(xs=[]/\∃a c,cs=[.slice a 0 c]/\c<=maxLen/\(a=none->c=0))\/
   ∃b o cap e9 sz,cs=[.slice (some ⟨b,o,none⟩) xs.length cap]/\F b/\xs.length<=cap/\cap<=maxLen/\(∀d∈xs,d.wd=sz)/\
    js w b o e9/\bA w F xs e9 (λ_=>False)
 | .ak sz xs,cs,S=>(xs=[]/\∃a,cs=[.slice a 0 0])\/
   ∃b cap cur e fr aZ,cs=[.slice (some ⟨b,0,none⟩) xs.length cap]/\S b/\w.heap[b]? =some (.cells cur e fr)/\pH fr (cur.size+(sz-1))/\
    xs.length<=cap/\cap<=maxLen/\cur.size=cap*sz/\(∀d∈xs,d.wd=sz)/\bA w F xs (cur.toList.take (xs.length*sz)) aZ/\(∀c,aZ c->S c)/\¬aZ b
 | .ref d,cs,_=>∃b o e9,cs=[.pointer (some ⟨b,o,none⟩)]/\F b/\js w b o e9/\aA w F d e9 (λ_=>False)
 | .aQ d,cs,S=>∃b cur e fr aZ,cs=[.pointer (some ⟨b,0,none⟩)]/\S b/\w.heap[b]? =some (.cells cur e fr)/\pH fr cur.size/\
   aA w F d cur.toList aZ/\(∀c,aZ c->S c)/\¬aZ b
 | .agg aE,cs,S=>bA w F aE cs S
 | .tuple aE,cs,S=>bA w F aE cs S
 | .fn f caps,cs,_=>∃arr:Array Value,cs=[.func (.func f) #[] arr]/\(∀d∈caps,d.single=true)/\bA w F caps arr.toList (λ_=>False)
 | .h _ _,_,_=>False
 | .ay _ _,_,_=>False
 | .ab _ _,_,_=>False
 | .b9 o,cs,S=>oy w o cs S
def bA (w:World) (F:Nat->Prop):azk->azi->(Nat->Prop)->Prop
 |[],cs,_=>cs=[]
 |d::ds,cs,S=>∃cA c2 cD eH,cs=cA++c2/\aA w F d cA cD/\bA w F ds c2 eH/\(∀b,cD b->S b)/\(∀b,eH b->S b)/\(∀b,cD b->¬eH b)
end
theorem cell?_of_block {w aL:World} {b:Nat} (h:aL.heap[b]? =w.heap[b]?) (o:Nat):aL.cell? ⟨b,o,none⟩=w.cell? ⟨b,o,none⟩:=by
 simp[World.cell?,h]
theorem js.frame {w aL:World} {b o:Nat} {cs:azi} (h:aL.heap[b]? =w.heap[b]?) (aT:js w b o cs):js aL b o cs:=
 λj c ar=>(cell?_of_block h _).trans (aT j c ar)
mutual
theorem aA.frame {w aL:World} {F:Nat->Prop} (bK:∀b,F b->aL.heap[b]? =w.heap[b]?):
  ∀(d:I) (cs:azi) (S:Nat->Prop),(∀b,S b->aL.heap[b]? =w.heap[b]?)->aA w F d cs S->aA aL F d cs S
 | .hole,_,_,_,h=>h
 | .bool _,_,_,_,h=>h
 | .gA,_,_,_,h=>h
 | .int _ _,_,_,_,h=>h
 | .str _,_,_,_,h=>h
 | .eh,_,_,_,h=>h
 | .a8,_,_,_,h=>h
 | .slice xs,cs,S,cj,h=>by
   rw[aA]at h⊢;rcases h with h|⟨b,o,cap,e9,sz,ad,ae,aJ,bh,b2,dA,dC⟩
   .exact .inl h
   .exact .inr ⟨b,o,cap,e9,sz,ad,ae,aJ,bh,b2,dA.frame (bK _ ae),bA.frame bK xs _ _ (λ_ h=>h.elim) dC⟩
 | .ak sz xs,cs,S,cj,h=>by
   rw[aA]at h⊢;rcases h with h|⟨b,cap,cur,e,fr,aZ,ad,ae,aJ,bh,b2,dA,dC,hI,jF,kB,oz⟩
   .exact .inl h
   .exact .inr ⟨b,cap,cur,e,fr,aZ,ad,ae,(cj _ ae).trans aJ,bh,b2,dA,dC,hI,bA.frame bK xs _ _ (λc ar=>cj _ (kB _ ar)) jF,kB,oz⟩
 | .ref d,cs,S,cj,h=>by
   rw[aA]at h⊢;obtain⟨b,o,e9,ad,ae,aJ,bh⟩:=h;exact⟨b,o,e9,ad,ae,aJ.frame (bK _ ae),aA.frame bK d _ _ (λ_ h=>h.elim) bh⟩
 | .aQ d,cs,S,cj,h=>by
   rw[aA]at h⊢;obtain⟨b,cur,e,fr,aZ,ad,ae,aJ,bh,b2,dA,dC⟩:=h;exact⟨b,cur,e,fr,aZ,ad,ae,(cj _ ae).trans aJ,bh,aA.frame bK d _ _ (λc ar=>cj _ (dA _ ar)) b2,dA,dC⟩
 | .agg aE,cs,S,cj,h=>by rw[aA]at h⊢;exact bA.frame bK aE _ _ cj h
 | .tuple aE,cs,S,cj,h=>by rw[aA]at h⊢;exact bA.frame bK aE _ _ cj h
 | .fn _ caps,cs,S,cj,h=>by
   rw[aA]at h⊢;obtain⟨arr,ad,ae,aJ⟩:=h;exact⟨arr,ad,ae,bA.frame bK caps _ _ (λ_ h=>h.elim) aJ⟩
 | .h _ _,_,_,_,h=>h
 | .ay _ _,_,_,_,h=>h
 | .ab _ _,_,_,_,h=>h
 | .b9 _,_,_,cj,h=>oy.frame cj h
theorem bA.frame {w aL:World} {F:Nat->Prop} (bK:∀b,F b->aL.heap[b]? =w.heap[b]?):
  ∀(ds:azk) (cs:azi) (S:Nat->Prop),(∀b,S b->aL.heap[b]? =w.heap[b]?)->bA w F ds cs S->bA aL F ds cs S
 |[],_,_,_,h=>h
 |d::ds,cs,S,cj,h=>by
  rw[bA]at h⊢;obtain⟨cA,c2,cD,eH,ad,ae,aJ,bh,b2,dA⟩:=h;exact⟨cA,c2,cD,eH,ad,aA.frame bK d _ _ (λb ab=>cj _ (bh _ ab)) ae,bA.frame bK ds _ _ (λb ab=>cj _ (b2 _ ab)) aJ,bh,b2,dA⟩
end
mutual
theorem aA.mono {w:World} {F ct:Nat->Prop} (bK:∀b,F b->ct b):
  ∀(d:I) (cs:azi) (S aZ:Nat->Prop),(∀b,S b->aZ b)->aA w F d cs S->aA w ct d cs aZ
 | .hole,_,_,_,_,h=>h
 | .bool _,_,_,_,_,h=>h
 | .gA,_,_,_,_,h=>h
 | .int _ _,_,_,_,_,h=>h
 | .str _,_,_,_,_,h=>h
 | .eh,_,_,_,_,h=>h
 | .a8,_,_,_,_,h=>h
 | .slice xs,cs,S,_,cj,h=>by
   rw[aA]at h⊢;rcases h with h|⟨b,o,cap,e9,sz,ad,ae,aJ,bh,b2,dA,dC⟩
   .exact .inl h
   .exact .inr ⟨b,o,cap,e9,sz,ad,bK _ ae,aJ,bh,b2,dA,bA.mono bK xs _ _ _ (λ_ h=>h) dC⟩
 | .ak sz xs,cs,S,_,cj,h=>by
   rw[aA]at h⊢;rcases h with h|⟨b,cap,cur,e,fr,aZ,ad,ae,aJ,bh,b2,dA,dC,hI,jF,kB,oz⟩
   .exact .inl h
   .exact .inr ⟨b,cap,cur,e,fr,aZ,ad,cj _ ae,aJ,bh,b2,dA,dC,hI,bA.mono bK xs _ _ _ (λ_ h=>h) jF,λc ar=>cj _ (kB _ ar),oz⟩
 | .ref d,cs,S,_,cj,h=>by
   rw[aA]at h⊢;obtain⟨b,o,e9,ad,ae,aJ,bh⟩:=h;exact⟨b,o,e9,ad,bK _ ae,aJ,aA.mono bK d _ _ _ (λ_ h=>h) bh⟩
 | .aQ d,cs,S,_,cj,h=>by
   rw[aA]at h⊢;obtain⟨b,cur,e,fr,aZ,ad,ae,aJ,bh,b2,dA,dC⟩:=h;exact⟨b,cur,e,fr,aZ,ad,cj _ ae,aJ,bh,aA.mono bK d _ _ _ (λ_ h=>h) b2,λc ar=>cj _ (dA _ ar),dC⟩
 | .agg aE,cs,S,_,cj,h=>by rw[aA]at h⊢;exact bA.mono bK aE _ _ _ cj h
 | .tuple aE,cs,S,_,cj,h=>by rw[aA]at h⊢;exact bA.mono bK aE _ _ _ cj h
 | .fn _ caps,cs,S,_,cj,h=>by
   rw[aA]at h⊢;obtain⟨arr,ad,ae,aJ⟩:=h;exact⟨arr,ad,ae,bA.mono bK caps _ _ _ (λ_ h=>h) aJ⟩
 | .h _ _,_,_,_,_,h=>h
 | .ay _ _,_,_,_,_,h=>h
 | .ab _ _,_,_,_,_,h=>h
 | .b9 _,_,_,_,cj,h=>oy.mono cj h
theorem bA.mono {w:World} {F ct:Nat->Prop} (bK:∀b,F b->ct b):
  ∀(ds:azk) (cs:azi) (S aZ:Nat->Prop),(∀b,S b->aZ b)->bA w F ds cs S->bA w ct ds cs aZ
 |[],_,_,_,_,h=>h
 |d::ds,cs,S,_,cj,h=>by
  rw[bA]at h⊢;obtain⟨cA,c2,cD,eH,ad,ae,aJ,bh,b2,dA⟩:=h;exact⟨cA,c2,cD,eH,ad,aA.mono bK d _ _ _ (λ_ h=>h) ae,bA.mono bK ds _ _ _ (λ_ h=>h) aJ,λb ab=>cj _ (bh _ ab),λb ab=>cj _ (b2 _ ab),dA⟩
end
mutual
theorem aA.length {w:World} {F:Nat->Prop}:∀(d:I) (cs:azi) (S:Nat->Prop),aA w F d cs S->cs.length=d.wd
 | .hole,cs,S,h=>by rw[aA]at h;obtain⟨v,_,rfl⟩:=h;rfl
 | .bool _,cs,S,h=>by rw[aA]at h;subst h;rfl
 | .gA,cs,S,h=>by rw[aA]at h;obtain⟨b,rfl⟩:=h;rfl
 | .int _ _,cs,S,h=>by rw[aA]at h;subst h;rfl
 | .str _,cs,S,h=>by rw[aA]at h;subst h;rfl
 | .eh,cs,S,h=>by rw[aA]at h;subst h;rfl
 | .a8,cs,S,h=>by rw[aA]at h;subst h;rfl
 | .slice xs,cs,S,h=>by
   rw[aA]at h;rcases h with⟨_,a,c,rfl,_⟩|⟨b,o,cap,e9,sz,rfl,_⟩<;>rfl
 | .ak sz xs,cs,S,h=>by
   rw[aA]at h;rcases h with⟨_,a,rfl⟩|⟨b,cap,cur,e,fr,aZ,rfl,_⟩<;>rfl
 | .ref d,cs,S,h=>by rw[aA]at h;obtain⟨b,o,e9,rfl,_⟩:=h;rfl
 | .aQ d,cs,S,h=>by rw[aA]at h;obtain⟨b,o,e9,_,_,rfl,_⟩:=h;rfl
 | .agg aE,cs,S,h=>by rw[aA]at h;exact bA.length aE _ _ h
 | .tuple aE,cs,S,h=>by rw[aA]at h;exact bA.length aE _ _ h
 | .fn _ _,cs,S,h=>by rw[aA]at h;obtain⟨arr,rfl,_⟩:=h;rfl
 | .h _ _,cs,S,h=>by rw[aA]at h;exact h.elim
 | .ay _ _,cs,S,h=>by rw[aA]at h;exact h.elim
 | .ab _ _,cs,S,h=>by rw[aA]at h;exact h.elim
 | .b9 _,cs,S,h=>by rw[aA]at h;obtain⟨v,_,rfl⟩:=oy.one h;rfl
theorem bA.length {w:World} {F:Nat->Prop}:∀(ds:azk) (cs:azi) (S:Nat->Prop),bA w F ds cs S->cs.length=I.eZ ds
 |[],cs,S,h=>by rw[bA]at h;subst h;rfl
 |d::ds,cs,S,h=>by
  rw[bA]at h;obtain⟨cA,c2,cD,eH,rfl,ae,aJ,_⟩:=h;rw[length_append,aA.length d _ _ ae,bA.length ds _ _ aJ,I.eZ]
end
mutual
def I.share:I->I
 | .ak _ xs=>.slice (I.shares xs)
 | .aQ d=>.ref d.share
 | .slice xs=>.slice (I.shares xs)
 | .ref d=>.ref d.share
 | .agg aE=>.agg (I.shares aE)
 | .tuple aE=>.tuple (I.shares aE)
 | .b9 _=>.hole
 |d=>d
def I.shares:azk->azk
 |[]=>[]
 |d::ds=>d.share::I.shares ds
end
theorem I.xk (ds:azk):I.shares ds=ds.map I.share:=by
 induction ds with
 |nil=>rfl
 |cons d ds ih=>simp[I.shares,ih]
mutual
theorem I.HP:∀d:I,d.share.wd=d.wd
 | .hole=>rfl
 | .bool _=>rfl
 | .gA=>rfl
 | .int _ _=>rfl
 | .str _=>rfl
 | .eh=>rfl
 | .a8=>rfl
 | .slice _=>rfl
 | .ak _ _=>rfl
 | .ref _=>rfl
 | .aQ _=>rfl
 | .agg aE=>by simp only[I.share,I.wd];exact I.L_ aE
 | .tuple aE=>by simp only[I.share,I.wd];exact I.L_ aE
 | .fn _ _=>rfl
 | .h _ _=>rfl
 | .ay _ _=>rfl
 | .ab _ _=>rfl
 | .b9 _=>rfl
theorem I.L_:∀ds:azk,I.eZ (I.shares ds)=I.eZ ds
 |[]=>rfl
 |d::ds=>by simp only[I.shares,I.eZ];rw[I.HP d,I.L_ ds]
end
theorem A3 {w:World} {b:Nat} {cur:Array Value} {e:TypeId} {fr:Nat×Nat} (h:w.heap[b]? =some (.cells cur e fr)) (n:Nat):js w b 0 (cur.toList.take n):=by
 intro j c ar;rw[getElem?_take]at ar;split at ar
 .simp[World.cell?,h];simpa using ar
 .cases ar
mutual
theorem aA.shared {w:World} {F ct:Nat->Prop} (bK:∀b,F b->ct b):
  ∀(d:I) (cs:azi) (S:Nat->Prop),(∀b,S b->ct b)->aA w F d cs S->aA w ct d.share cs (λ_=>False)
 | .hole,_,_,_,h=>h
 | .bool _,_,_,_,h=>h
 | .gA,_,_,_,h=>h
 | .int _ _,_,_,_,h=>h
 | .str _,_,_,_,h=>h
 | .eh,_,_,_,h=>h
 | .a8,_,_,_,h=>h
 | .slice xs,cs,S,cj,h=>by
   rw[I.share,aA];rw[aA]at h;rcases h with⟨rfl,a,c,rfl,ar⟩|⟨b,o,cap,e9,sz,ad,ae,aJ,bh,b2,dA,dC⟩
   .exact .inl ⟨rfl,a,c,rfl,ar⟩
   .refine .inr ⟨b,o,cap,e9,sz,?_,bK _ ae,?_,bh,?_,dA,bA.shared bK xs _ _ (λ_ h=>h.elim) dC⟩
    .simpa [I.xk]using ad
    .simpa [I.xk]using aJ
    .intro d ao;rw[I.xk]at ao;obtain⟨bM,i7,rfl⟩:=mem_map.1 ao;rw[I.HP];exact b2 _ i7
 | .ak sz xs,cs,S,cj,h=>by
   rw[I.share,aA];rw[aA]at h;rcases h with⟨rfl,a,rfl⟩|⟨b,cap,cur,e,fr,aZ,ad,ae,aJ,bh,b2,dA,dC,hI,jF,kB,oz⟩
   .exact .inl ⟨rfl,a,0,rfl,zero_le _,λ_=>rfl⟩
   .refine .inr ⟨b,0,cap,_,sz,?_,cj _ ae,?_,dA,?_,A3 aJ _,bA.shared bK xs _ _ (λc ar=>cj _ (kB _ ar)) jF⟩
    .simpa [I.xk]using ad
    .simpa [I.xk]using b2
    .intro d ao;rw[I.xk]at ao;obtain⟨bM,i7,rfl⟩:=mem_map.1 ao;rw[I.HP];exact hI _ i7
 | .ref d,cs,S,cj,h=>by
   rw[I.share,aA];rw[aA]at h;obtain⟨b,o,e9,ad,ae,aJ,bh⟩:=h;exact⟨b,o,e9,ad,bK _ ae,aJ,aA.shared bK d _ _ (λ_ h=>h.elim) bh⟩
 | .aQ d,cs,S,cj,h=>by
   rw[I.share,aA];rw[aA]at h;obtain⟨b,cur,e,fr,aZ,ad,ae,aJ,bh,b2,dA,dC⟩:=h;refine⟨b,0,cur.toList,ad,cj _ ae,?_,aA.shared bK d _ _ (λc ar=>cj _ (dA _ ar)) b2⟩;have:=A3 aJ cur.toList.length
   rwa [take_length]at this
 | .agg aE,cs,S,cj,h=>by rw[I.share,aA];rw[aA]at h;exact bA.shared bK aE _ _ cj h
 | .tuple aE,cs,S,cj,h=>by rw[I.share,aA];rw[aA]at h;exact bA.shared bK aE _ _ cj h
 | .fn f caps,cs,S,cj,h=>by
   show aA w ct (.fn f caps) cs _;rw[aA]at h⊢;obtain⟨arr,ad,ae,aJ⟩:=h;exact⟨arr,ad,ae,bA.mono bK caps _ _ _ (λ_ h=>h) aJ⟩
 | .h _ _,_,_,_,h=>h
 | .ay _ _,_,_,_,h=>h
 | .ab _ _,_,_,_,h=>h
 | .b9 _,cs,S,cj,h=>by rw[aA]at h;rw[I.share,aA];exact oy.one h
theorem bA.shared {w:World} {F ct:Nat->Prop} (bK:∀b,F b->ct b):
  ∀(ds:azk) (cs:azi) (S:Nat->Prop),(∀b,S b->ct b)->bA w F ds cs S->bA w ct (I.shares ds) cs (λ_=>False)
 |[],_,_,_,h=>h
 |d::ds,cs,S,cj,h=>by
  simp only[I.shares];rw[bA]at h⊢;obtain⟨cA,c2,cD,eH,ad,ae,aJ,bh,b2,dA⟩:=h;exact⟨cA,c2,_,_,ad,aA.shared bK d _ _ (λb ab=>cj _ (bh _ ab)) ae,bA.shared bK ds _ _ (λb ab=>cj _ (b2 _ ab)) aJ,λ_ h=>h,λ_ h=>h,λ_ h=>h.elim⟩
end
def I.sub:azf->I->Option I
 |[],d=>some d
 |k::q,.agg aE=>match aE[k]? with
  |some d=>I.sub q d
  |none=>none
 |k::q,.tuple aE=>match aE[k]? with
  |some d=>I.sub q d
  |none=>none
 |i::q,.ak _ xs=>match xs[i]? with
  |some d=>I.sub q d
  |none=>none
 |0::q,.aQ d=>I.sub q d
 |_::_,_=>none
def I.put:azf->I->I->I
 |[],n,_=>n
 |k::q,n,.agg aE=>match aE[k]? with
  |some d=>.agg (aE.set k (I.put q n d))
  |none=>.agg aE
 |k::q,n,.tuple aE=>match aE[k]? with
  |some d=>.tuple (aE.set k (I.put q n d))
  |none=>.tuple aE
 |i::q,n,.ak sz xs=>match xs[i]? with
  |some d=>.ak sz (xs.set i (I.put q n d))
  |none=>.ak sz xs
 |0::q,n,.aQ d=>.aQ (I.put q n d)
 |_::_,_,d=>d
def qd (w:World) (b o n:Nat):azi:=(range n).map λj=>(w.cell? ⟨b,o+j,none⟩).getD undef
theorem js.qd {w:World} {b o:Nat} {cs:azi} (h:js w b o cs):qd w b o cs.length=cs:=by
 unfold eg.qd;apply ext_getElem?;intro i;rw[getElem?_map];by_cases ai:i<cs.length
 .have:cs[i]? =some cs[i]:=getElem?_eq_getElem ai;simp[ai,h i _ this]
 .simp[ai]
def ep (w:World):azf->I->azi->Option (Nat×Nat)->Option (I×azi×Option (Nat×Nat))
 |[],d,cs,a=>some (d,cs,a)
 |k::q,.agg aE,cs,a=>match aE[k]? with
  |some d=>ep w q d ((cs.drop (I.eZ (aE.take k))).take d.wd) (a.map λl=>(l.1,l.2+I.eZ (aE.take k)))
  |none=>none
 |k::q,.tuple aE,cs,a=>match aE[k]? with
  |some d=>ep w q d ((cs.drop (I.eZ (aE.take k))).take d.wd) (a.map λl=>(l.1,l.2+I.eZ (aE.take k)))
  |none=>none
 |i::q,.ak sz xs,cs,_=>match xs[i]?,cs with
  |some d,[.slice (some ⟨b,_,_⟩) _ _]=>ep w q d (qd w b (i*sz) sz) (some (b,i*sz))
  |_,_=>none
 |0::q,.aQ d,cs,_=>match cs with
  |[.pointer (some ⟨b,_,_⟩)]=>ep w q d (qd w b 0 d.wd) (some (b,0))
  |_=>none
 |_::_,_,_,_=>none
theorem yK (cA hc c2:azi) (n m:Nat) (ad:cA.length=n) (ae:hc.length=m):((cA++(hc++c2)).drop n).take m=hc:=by
 rw[drop_left' ad,take_left' ae]
theorem bA.pick {w:World} {F:Nat->Prop}:∀(ds:azk) (cs:azi) (S:Nat->Prop) (k:Nat) (d:I),
  bA w F ds cs S->ds[k]? =some d->∃(cA hc c2:azi) (cD jt:Nat->Prop),cs=cA++(hc++c2)/\cA.length=I.eZ (ds.take k)/\
   (∀b,cD b->S b)/\(∀b,jt b->S b)/\(∀b,cD b->¬jt b)/\aA w F d hc jt/\
   ∀(aL:World) (bM:I) (yL:azi) (aZ:Nat->Prop),(∀b,F b->aL.heap[b]? =w.heap[b]?)->(∀b,cD b->aL.heap[b]? =w.heap[b]?)->
    aA aL F bM yL aZ->(∀b,aZ b->¬cD b)->bA aL F (ds.set k bM) (cA++(yL++c2)) (λb=>cD b\/aZ b)
 |[],_,_,_,_,_,ax=>by simp at ax
 |x::ds,cs,S,0,d,h,ax=>by
  rw[bA]at h;obtain⟨cA,c2,i_,hS,rfl,ad,ae,bl,ab,kC⟩:=h;simp at ax;subst ax;refine⟨[],cA,c2,hS,i_,rfl,rfl,ab,bl,λb ab bl=>kC _ bl ab,ad,?_⟩;intro aL bM yL aZ bK cj ao k_;simp only[set_cons_zero,nil_append];rw[bA];exact⟨yL,c2,aZ,hS,rfl,ao,bA.frame bK _ _ _ cj ae,λb h=>.inr h,λb h=>.inl h,λb h=>k_ b h⟩
 |x::ds,cs,S,k+1,d,h,ax=>by
  rw[bA]at h;obtain⟨c0,acE,i_,hS,rfl,ad,ae,bl,ab,kC⟩:=h;simp only[getElem?_cons_succ]at ax;have aC:=aA.length _ _ _ ad;obtain⟨cA,hc,c2,cD,jt,rfl,i0,xj,i2,i3,i5,Ma⟩:=bA.pick ds acE hS k d ae ax;refine⟨c0++cA,hc,c2,λb=>i_ b\/cD b,jt,by simp,by simp[I.eZ,aC,i0],?_,λb h=>ab _ (i2 _ h),?_,i5,?_⟩
  .rintro b (h|h)
   .exact bl _ h
   .exact ab _ (xj _ h)
  .rintro b (h|h) ax
   .exact kC _ h (i2 _ ax)
   .exact i3 _ h ax
  .intro aL bM yL aZ bK cj ao k_;simp only[set_cons_succ];rw[bA];refine⟨c0,cA++(yL++c2),i_,λb=>cD b\/aZ b,by simp,aA.frame bK _ _ _ (λb ab=>cj b (.inl ab)) ad,
    Ma aL bM yL aZ bK (λb ab=>cj b (.inr ab)) ao (λb ab ar=>k_ b ab (.inr ar)),λb h=>.inl (.inl h),?_,?_⟩
   .rintro b (h|h)
    .exact .inl (.inr h)
    .exact .inr h
   .rintro b h (bD|bD)
    .exact kC _ h (xj _ bD)
    .exact k_ _ bD (.inl h)
theorem Mb:∀(aE:azk) (k:Nat) (x y:I),aE[k]? =some x->y.wd=x.wd->I.eZ (aE.set k y)=I.eZ aE:=by
 intro aE;induction aE with
 |nil=>intro k x y h;simp at h
 |cons a aE ih=>
  intro k x y h e;cases k with
  |zero=>simp at h;subst h;simp[I.eZ,e]
  |succ k=>simp at h;simp[I.eZ,ih k x y h e]
theorem yM {sz:Nat}:∀(xs:azk),(∀d∈xs,d.wd=sz)->I.eZ xs=xs.length*sz
 |[],_=>by simp[I.eZ]
 |x::xs,h=>by
  rw[I.eZ,h x (by simp),yM xs (λd ao=>h d (by simp[ao])),length_cons,Nat.add_mul,Nat.one_mul,Nat.add_comm]
theorem I.A4:∀(q:azf) (av d bM:I),I.sub q av=some d->bM.wd=d.wd->(I.put q bM av).wd=av.wd:=by
 intro q;induction q with
 |nil=>intro av d bM h e;simp[I.sub]at h;subst h;simpa [I.put]using e
 |cons k q ih=>
  intro av d bM h e;cases av with
  |agg aE=>
   simp only[I.sub]at h;split at h
   .rename_i x an;simp only[I.put,an,I.wd];exact Mb _ _ _ _ an (ih _ _ _ h e)
   .cases h
  |tuple aE=>
   simp only[I.sub]at h;split at h
   .rename_i x an;simp only[I.put,an,I.wd];exact Mb _ _ _ _ an (ih _ _ _ h e)
   .cases h
  |ak sz xs=>
   simp only[I.sub]at h;split at h
   .rename_i x an;simp only[I.put,an,I.wd]
   .cases h
  |aQ x=>
   cases k with
   |zero=>simp only[I.put,I.wd]
   |succ k=>simp[I.sub]at h
  |_=>simp[I.sub]at h
theorem Mc {sz:Nat} {xs:azk} {i:Nat} {y:I} (h:∀d∈xs,d.wd=sz) (hy:y.wd=sz):∀d∈xs.set i y,d.wd=sz:=by
 intro d ao;rcases mem_or_eq_of_mem_set ao with ao|rfl
 .exact h d ao
 .exact hy
theorem A5 {w:World} {b:Nat} {cur:Array Value} {e:TypeId} {fr:Nat×Nat} (h:w.heap[b]? =some (.cells cur e fr)) {l m r:azi} (ar:cur.toList=l++(m++r)):
  qd w b l.length m.length=m:=by
 refine js.qd (λj c bJ=>?_);have er:j<m.length:=(List.getElem?_eq_some_iff.1 bJ).1;have:cur.toList[l.length+j]? =some c:=by
  rw[ar,getElem?_append_right (by omega),getElem?_append_left (by omega)];rw[<-bJ];congr 1;omega
 simp[World.cell?,h];simpa using this
def Flat (w:World) (F:Nat->Prop) (q:azf) (av:I) (cs:azi) (a:Option (Nat×Nat)) (d:I) (dv:azi) (dH:Option (Nat×Nat)) (e3:Nat->Prop):Prop:=
 ∃l r:azi,cs=l++(dv++r)/\dH=a.map (λx=>(x.1,x.2+l.length))/\
  ∀(aL:World) (bM:I) (hd:azi) (aZ:Nat->Prop),(∀b,F b->aL.heap[b]? =w.heap[b]?)->(∀b,e3 b->aL.heap[b]? =w.heap[b]?)->
   bM.wd=d.wd->aA aL F bM hd aZ->(∀b,aZ b->¬e3 b)->aA aL F (I.put q bM av) (l++(hd++r)) (λb=>e3 b\/aZ b)
def Deep (w:World) (F:Nat->Prop) (q:azf) (av:I) (cs:azi) (d:I) (dv:azi) (dH:Option (Nat×Nat)) (e3:Nat->Prop):Prop:=
 ∃(b:Nat) (cur:Array Value) (e:TypeId) (fr:Nat×Nat) (l r:azi),dH=some (b,l.length)/\e3 b/\w.heap[b]? =some (.cells cur e fr)/\pH fr cur.size/\cur.toList=l++(dv++r)/\
  ∀(aL:World) (bM:I) (hd:azi) (aZ:Nat->Prop),(∀b,F b->aL.heap[b]? =w.heap[b]?)->(∀c,e3 c->c≠b->aL.heap[c]? =w.heap[c]?)->
   aL.heap[b]? =some (.cells (l++(hd++r)).toArray e fr)->
   bM.wd=d.wd->aA aL F bM hd aZ->(∀b,aZ b->¬e3 b)->aA aL F (I.put q bM av) cs (λb=>e3 b\/aZ b)
theorem ctx {w:World} {F:Nat->Prop}:∀(q:azf) (av:I) (cs:azi) (S:Nat->Prop) (a:Option (Nat×Nat)) (d:I),
  aA w F av cs S->I.sub q av=some d->∃(dv:azi) (dH:Option (Nat×Nat)) (e3 gl:Nat->Prop),ep w q av cs a=some (d,dv,dH)/\
   (∀b,e3 b->S b)/\(∀b,gl b->S b)/\(∀b,e3 b->¬gl b)/\aA w F d dv gl/\(Flat w F q av cs a d dv dH e3\/Deep w F q av cs d dv dH e3):=by
 intro q;induction q with
 |nil=>
  intro av cs S a d h ao;simp[I.sub]at ao;subst ao;refine⟨cs,a,λ_=>False,S,rfl,λ_ h=>h.elim,λ_ h=>h,λ_ h=>h.elim,h,.inl ⟨[],[],by simp,?_,?_⟩⟩
  .cases a<;>simp
  .intro aL bM hd aZ _ _ hw i7 _;simp only[I.put,nil_append,append_nil];exact aA.mono (λ_ h=>h) _ _ _ _ (λb h=>.inr h) i7
 |cons k q ih=>
  have fields:∀(mk:azk->I) (Md:∀(w:World) (F:Nat->Prop) (aE:azk) (cs:azi) (S:Nat->Prop),aA w F (mk aE) cs S=bA w F aE cs S) (aE:azk) (cs:azi) (S:Nat->Prop) (a:Option (Nat×Nat)) (x d:I),
    (l3:∀bM,I.put (k::q) bM (mk aE)=mk (aE.set k (I.put q bM x)))->bA w F aE cs S->aE[k]? =some x->I.sub q x=some d->
    ∃(dv:azi) (dH:Option (Nat×Nat)) (e3 gl:Nat->Prop),ep w q x ((cs.drop (I.eZ (aE.take k))).take x.wd) (a.map λl=>(l.1,l.2+I.eZ (aE.take k)))=some (d,dv,dH)/\
    (∀b,e3 b->S b)/\(∀b,gl b->S b)/\(∀b,e3 b->¬gl b)/\aA w F d dv gl/\(Flat w F (k::q) (mk aE) cs a d dv dH e3\/Deep w F (k::q) (mk aE) cs d dv dH e3):=by
   intro mk Md aE cs S a x d l3 h an ao;obtain⟨cA,hc,c2,cD,jt,rfl,ja,hs,iE,j1,hh,o1⟩:=bA.pick aE cs S k x h an;have aC:=aA.length _ _ _ hh;rw[yK cA hc c2 _ _ ja aC];obtain⟨dv,dH,e3,gl,g0,g1,g2,g3,g4,g5⟩:=ih x _ jt (a.map λl=>(l.1,l.2+I.eZ (aE.take k))) d hh ao;refine⟨dv,dH,λb=>cD b\/e3 b,gl,g0,?_,λb ab=>iE _ (g2 _ ab),?_,g4,?_⟩
   .rintro b (h|h)
    .exact hs _ h
    .exact iE _ (g1 _ h)
   .rintro b (h|h) ao
    .exact j1 _ h (g2 _ ao)
    .exact g3 _ h ao
   .have fX:∀(b:Nat) (aZ:Nat->Prop),(cD b\/e3 b\/aZ b)->((cD b\/e3 b)\/aZ b):=by
     rintro b aZ (ab|ab|ab)
     .exact .inl (.inl ab)
     .exact .inl (.inr ab)
     .exact .inr ab
    rcases g5 with⟨l,r,rfl,aU,aM⟩|⟨b,cur,e,fr,l,r,aO,aU,aM,bT,cv,ck⟩
    .refine .inl ⟨cA++l,r++c2,by simp,?_,?_⟩
     .rw[aU,<-ja];cases a<;>simp[Nat.add_assoc]
     .intro aL bM hd aZ bK cj hw i7 k_;have dU:=aM aL bM hd aZ bK (λb ab=>cj b (.inr ab)) hw i7 (λb ab ar=>k_ b ab (.inr ar));have a_:=o1 aL _ _ _ bK (λb ab=>cj b (.inl ab)) dU (by
       rintro b (ab|ab) ad
       .exact j1 _ ad (g1 _ ab)
       .exact k_ _ ab (.inl ad))
      rw[l3,Md];have:=bA.mono (λ_ h=>h) _ _ _ _ (λb=>fX b aZ) a_;simpa using this
    .refine .inr ⟨b,cur,e,fr,l,r,aO,.inr aU,aM,bT,cv,?_⟩;intro aL bM hd aZ bK cj o2 hw i7 k_;have dU:=ck aL bM hd aZ bK (λc ar=>cj c (.inr ar)) o2 hw i7 (λb ab ar=>k_ b ab (.inr ar));have a_:=o1 aL _ _ _ bK (λc ar=>cj c (.inl ar) (by rintro rfl;exact j1 _ ar (g1 _ aU))) dU (by
       rintro b (ab|ab) ad
       .exact j1 _ ad (g1 _ ab)
       .exact k_ _ ab (.inl ad))
     rw[l3,Md];exact bA.mono (λ_ h=>h) _ _ _ _ (λb=>fX b aZ) a_
  intro av cs S a d h ao;cases av with
  |agg aE=>
   simp only[I.sub]at ao;split at ao
   .rename_i x an;rw[aA]at h;have:=fields .agg (λ_ _ _ _ _=>by rw[aA]) aE cs S a x d (λbM=>by simp only[I.put,an]) h an ao;simpa only[ep,an]using this
   .cases ao
  |tuple aE=>
   simp only[I.sub]at ao;split at ao
   .rename_i x an;rw[aA]at h;have:=fields .tuple (λ_ _ _ _ _=>by rw[aA]) aE cs S a x d (λbM=>by simp only[I.put,an]) h an ao;simpa only[ep,an]using this
   .cases ao
  |ak sz xs=>
   simp only[I.sub]at ao;split at ao
   .rename_i x an;rw[aA]at h;rcases h with⟨rfl,_,rfl⟩|⟨b,cap,cur,e,fr,eR,rfl,ae,aJ,bh,b2,dA,dC,hI,jF,kB,oz⟩
    .simp at an
    .obtain⟨cA,hc,c2,cD,jt,p,ja,hs,iE,j1,hh,o1⟩:=bA.pick xs _ eR k x jF an;have aC:=aA.length _ _ _ hh;have acF:k<xs.length:=(List.getElem?_eq_some_iff.1 an).1;have D2:x.wd=sz:=hI x (mem_of_getElem? an);have bL:I.eZ (xs.take k)=k*sz:=by
      rw[yM _ (λd ao=>hI d (mem_of_mem_take ao))];rw[length_take,Nat.min_eq_left (by omega)]
     obtain⟨vu,pJ⟩:∃vu,cur.toList=cA++(hc++(c2++vu)):=by
      refine⟨cur.toList.drop (xs.length*sz),?_⟩;have:=(take_append_drop (xs.length*sz) cur.toList).symm;rw[p]at this;simpa using this
     have mh:qd w b (k*sz) sz=hc:=by
      have:=A5 aJ pJ
      rwa [ja,bL,aC,D2]at this
     obtain⟨dv,dH,e3,gl,g0,g1,g2,g3,g4,g5⟩:=ih x _ jt (some (b,k*sz)) d hh ao;have l3:∀bM,I.put (k::q) bM (.ak sz xs)= .ak sz (xs.set k (I.put q bM x)):=λbM=>by simp only[I.put,an]
     refine⟨dv,dH,λc=>c=b\/cD c\/e3 c,gl,?_,?_,λc ar=>kB _ (iE _ (g2 _ ar)),?_,g4,.inr ?_⟩
     .simp only[ep,an,mh];exact g0
     .rintro c (rfl|h|h)
      .exact ae
      .exact kB _ (hs _ h)
      .exact kB _ (iE _ (g1 _ h))
     .rintro c (rfl|h|h) ao
      .exact oz (iE _ (g2 _ ao))
      .exact j1 _ h (g2 _ ao)
      .exact g3 _ h ao
     .have nb:∀bM,bM.wd=d.wd->(I.put q bM x).wd=sz:=λbM hw=>(I.A4 q x d bM ao hw).trans D2;rcases g5 with⟨l,r,rfl,aU,aM⟩|⟨gO,Me,hi,Mf,l,r,aO,aU,aM,bT,cv,ck⟩
      .refine⟨b,cur,e,fr,cA++l,r++(c2++vu),?_,.inl rfl,aJ,bh.low,?_,?_⟩
       .rw[aU];simp[ja,bL]
       .rw[pJ];simp
       .intro aL bM hd aZ bK cj o2 hw i7 k_;have dU:=aM aL bM hd aZ bK (λc ar=>cj c (.inr (.inr ar)) (by rintro rfl;exact oz (iE _ (g1 _ ar)))) hw i7 (λb ab ar=>k_ b ab (.inr (.inr ar)));have a_:=o1 aL _ _ _ bK (λc ar=>cj c (.inr (.inl ar)) (by rintro rfl;exact oz (hs _ ar))) dU (by
         rintro b (ab|ab) ad
         .exact j1 _ ad (g1 _ ab)
         .exact k_ _ ab (.inr (.inl ad)))
        have D3:=aA.length _ _ _ i7;have D4:=aA.length _ _ _ g4;rw[l3,aA];refine .inr ⟨b,cap,_,e,fr,λb=>cD b\/e3 b\/aZ b,by simp,.inl (.inl rfl),o2,?_,by simpa using b2,dA,?_,Mc hI (nb bM hw),?_,?_,?_⟩
        .have:(cA++l++(hd++(r++(c2++vu)))).toArray.size=cur.size:=by
          have:cur.size=cur.toList.length:=by simp
          rw[this,pJ];simp[D3,D4,hw]
         rw[this];exact bh
        .rw[<-dC];have:cur.size=cur.toList.length:=by simp
         rw[this,pJ];simp[D3,D4,hw]
        .have hlen:(cA++(l++(hd++r)++c2)).length=xs.length*sz:=by
          have:=congrArg length p;rw[length_take,Nat.min_eq_left (by simp[dC];exact mul_le_mul_right _ b2)]at this;rw[this];simp[D3,D4,hw]
         have:(cA++l++(hd++(r++(c2++vu))))=(cA++(l++(hd++r)++c2))++vu:=by simp
         rw[length_set];simp only[this];rw[take_left' hlen];exact a_
        .rintro c (h|h|h)
         .exact .inl (.inr (.inl h))
         .exact .inl (.inr (.inr h))
         .exact .inr h
        .rintro(h|h|h)
         .exact oz (hs _ h)
         .exact oz (iE _ (g1 _ h))
         .exact k_ _ h (.inl rfl)
      .refine⟨gO,Me,hi,Mf,l,r,aO,.inr (.inr aU),aM,bT,cv,?_⟩;intro aL bM hd aZ bK cj o2 hw i7 k_;have dU:=ck aL bM hd aZ bK (λc ar dV=>cj c (.inr (.inr ar)) dV) o2 hw i7 (λb ab ar=>k_ b ab (.inr (.inr ar)));have dV:∀c,cD c->c≠gO:=by rintro c ar rfl;exact j1 _ ar (g1 _ aU)
       have a_:=o1 aL _ _ _ bK (λc ar=>cj c (.inr (.inl ar)) (dV c ar)) dU (by
        rintro b (ab|ab) ad
        .exact j1 _ ad (g1 _ ab)
        .exact k_ _ ab (.inr (.inl ad)))
       have Mg:b≠gO:=by rintro rfl;exact oz (iE _ (g1 _ aU))
       rw[l3,aA];refine .inr ⟨b,cap,cur,e,fr,λb=>cD b\/e3 b\/aZ b,by simp,.inl (.inl rfl),(cj b (.inl rfl) Mg).trans aJ,bh,by simpa using b2,dA,dC,Mc hI (nb bM hw),?_,?_,?_⟩
       .rw[length_set,p];exact a_
       .rintro c (h|h|h)
        .exact .inl (.inr (.inl h))
        .exact .inl (.inr (.inr h))
        .exact .inr h
       .rintro(h|h|h)
        .exact oz (hs _ h)
        .exact oz (iE _ (g1 _ h))
        .exact k_ _ h (.inl rfl)
   .cases ao
  |aQ x=>
   cases k with
   |succ k=>simp[I.sub]at ao
   |zero=>
    simp only[I.sub]at ao;rw[aA]at h;obtain⟨b,cur,e,fr,eR,rfl,ae,aJ,bh,b2,dA,dC⟩:=h;have aC:=aA.length _ _ _ b2;have mh:qd w b 0 x.wd=cur.toList:=by
     have:=A5 (l:=[]) (m:=cur.toList) (r:=[]) aJ (by simp)
     rwa [aC]at this
    obtain⟨dv,dH,e3,gl,g0,g1,g2,g3,g4,g5⟩:=ih x _ eR (some (b,0)) d b2 ao;have l3:∀bM,I.put (0::q) bM (.aQ x)= .aQ (I.put q bM x):=λbM=>rfl;refine⟨dv,dH,λc=>c=b\/e3 c,gl,?_,?_,λc ar=>dA _ (g2 _ ar),?_,g4,.inr ?_⟩
    .simp only[ep,mh];exact g0
    .rintro c (rfl|h)
     .exact ae
     .exact dA _ (g1 _ h)
    .rintro c (rfl|h) ao
     .exact dC (g2 _ ao)
     .exact g3 _ h ao
    .rcases g5 with⟨l,r,aO,aU,aM⟩|⟨gO,Me,hi,Mf,l,r,aO,aU,aM,bT,cv,ck⟩
     .refine⟨b,cur,e,fr,l,r,?_,.inl rfl,aJ,bh,aO,?_⟩
      .rw[aU];simp
      .intro aL bM hd aZ bK cj o2 hw i7 k_;have dU:=aM aL bM hd aZ bK (λc ar=>cj c (.inr ar) (by rintro rfl;exact dC (g1 _ ar))) hw i7 (λb ab ar=>k_ b ab (.inr ar));have D3:=aA.length _ _ _ i7;have D4:=aA.length _ _ _ g4;rw[l3,aA];refine⟨b,_,e,fr,λb=>e3 b\/aZ b,rfl,.inl (.inl rfl),o2,?_,dU,?_,?_⟩
       .have:(l++(hd++r)).toArray.size=cur.size:=by
         have:cur.size=cur.toList.length:=by simp
         rw[this,aO];simp[D3,D4,hw]
        rw[this];exact bh
       .rintro c (h|h)
        .exact .inl (.inr h)
        .exact .inr h
       .rintro(h|h)
        .exact dC (g1 _ h)
        .exact k_ _ h (.inl rfl)
     .refine⟨gO,Me,hi,Mf,l,r,aO,.inr aU,aM,bT,cv,?_⟩;intro aL bM hd aZ bK cj o2 hw i7 k_;have dU:=ck aL bM hd aZ bK (λc ar dV=>cj c (.inr ar) dV) o2 hw i7 (λb ab ar=>k_ b ab (.inr ar));have Mg:b≠gO:=by rintro rfl;exact dC (g1 _ aU)
      rw[l3,aA];refine⟨b,cur,e,fr,λb=>e3 b\/aZ b,rfl,.inl (.inl rfl),(cj b (.inl rfl) Mg).trans aJ,bh,dU,?_,?_⟩
      .rintro c (h|h)
       .exact .inl (.inr h)
       .exact .inr h
      .rintro(h|h)
       .exact dC (g1 _ h)
       .exact k_ _ h (.inl rfl)
  |_=>simp[I.sub]at ao
mutual
def I.plain:I->Bool
 | .ak _ _=>false
 | .aQ _=>false
 | .b9 _=>false
 | .agg aE=>I.hA aE
 | .tuple aE=>I.hA aE
 |_=>true
def I.hA:azk->Bool
 |[]=>true
 |d::ds=>d.plain&&I.hA ds
end
mutual
def I.dR:I->I
 | .ak _ _=>.hole
 | .aQ _=>.hole
 | .b9 _=>.hole
 | .agg aE=>.agg (I.nS aE)
 | .tuple aE=>.tuple (I.nS aE)
 |d=>d
def I.nS:azk->azk
 |[]=>[]
 |d::ds=>d.dR::I.nS ds
end
mutual
theorem I.xl:∀d:I,d.dR.wd=d.wd
 | .hole=>rfl
 | .bool _=>rfl
 | .gA=>rfl
 | .int _ _=>rfl
 | .str _=>rfl
 | .eh=>rfl
 | .a8=>rfl
 | .slice _=>rfl
 | .ak _ _=>rfl
 | .ref _=>rfl
 | .aQ _=>rfl
 | .agg aE=>by simp only[I.dR,I.wd];exact I.Mh aE
 | .tuple aE=>by simp only[I.dR,I.wd];exact I.Mh aE
 | .fn _ _=>rfl
 | .h _ _=>rfl
 | .ay _ _=>rfl
 | .ab _ _=>rfl
 | .b9 _=>rfl
theorem I.Mh:∀ds:azk,I.eZ (I.nS ds)=I.eZ ds
 |[]=>rfl
 |d::ds=>by simp only[I.nS,I.eZ];rw[I.xl d,I.Mh ds]
end
mutual
theorem aA.dR {w:World} {F:Nat->Prop}:∀(d:I) (cs:azi) (S aZ:Nat->Prop),aA w F d cs S->aA w F d.dR cs aZ
 | .hole,_,_,_,h=>h
 | .bool _,_,_,_,h=>h
 | .gA,_,_,_,h=>h
 | .int _ _,_,_,_,h=>h
 | .str _,_,_,_,h=>h
 | .eh,_,_,_,h=>h
 | .a8,_,_,_,h=>h
 | .slice xs,cs,S,aZ,h=>by
   show aA w F (.slice xs) cs aZ;rw[aA]at h⊢;exact h
 | .ak sz xs,cs,S,aZ,h=>by
   rw[I.dR,aA];rw[aA]at h;rcases h with⟨_,_,rfl⟩|⟨b,cap,cur,e,fr,eR,rfl,_⟩
   .exact⟨_,rfl,rfl⟩
   .exact⟨_,rfl,rfl⟩
 | .ref d,cs,S,aZ,h=>by
   show aA w F (.ref d) cs aZ;rw[aA]at h⊢;exact h
 | .aQ d,cs,S,aZ,h=>by
   rw[I.dR,aA];rw[aA]at h;obtain⟨b,cur,e,fr,eR,rfl,_⟩:=h;exact⟨_,rfl,rfl⟩
 | .agg aE,cs,S,aZ,h=>by rw[I.dR,aA];rw[aA]at h;exact bA.dR aE _ _ _ h
 | .tuple aE,cs,S,aZ,h=>by rw[I.dR,aA];rw[aA]at h;exact bA.dR aE _ _ _ h
 | .fn _ _,_,_,_,h=>h
 | .h _ _,_,_,_,h=>h
 | .ay _ _,_,_,_,h=>h
 | .ab _ _,_,_,_,h=>h
 | .b9 _,_,_,_,h=>by rw[aA]at h;rw[I.dR,aA];exact oy.one h
theorem bA.dR {w:World} {F:Nat->Prop}:∀(ds:azk) (cs:azi) (S aZ:Nat->Prop),bA w F ds cs S->bA w F (I.nS ds) cs aZ
 |[],_,_,_,h=>h
 |d::ds,cs,S,aZ,h=>by
  rw[I.nS,bA];rw[bA]at h;obtain⟨cA,c2,cD,eH,ad,ae,aJ,bh,b2,dA⟩:=h;exact⟨cA,c2,λ_=>False,λ_=>False,ad,aA.dR d _ _ _ ae,bA.dR ds _ _ _ aJ,λ_ h=>h.elim,λ_ h=>h.elim,λ_ h=>h.elim⟩
end
mutual
theorem aA.plain {w:World} {F:Nat->Prop}:∀(d:I) (cs:azi) (S aZ:Nat->Prop),d.plain=true->aA w F d cs S->aA w F d cs aZ
 | .hole,_,_,_,_,h=>h
 | .bool _,_,_,_,_,h=>h
 | .gA,_,_,_,_,h=>h
 | .int _ _,_,_,_,_,h=>h
 | .str _,_,_,_,_,h=>h
 | .eh,_,_,_,_,h=>h
 | .a8,_,_,_,_,h=>h
 | .slice xs,cs,S,aZ,_,h=>by rw[aA]at h⊢;exact h
 | .ak sz xs,cs,S,aZ,ay,h=>by simp[I.plain]at ay
 | .ref d,cs,S,aZ,_,h=>by rw[aA]at h⊢;exact h
 | .aQ d,cs,S,aZ,ay,h=>by simp[I.plain]at ay
 | .agg aE,cs,S,aZ,ay,h=>by rw[aA]at h⊢;exact bA.plain aE _ _ _ ay h
 | .tuple aE,cs,S,aZ,ay,h=>by rw[aA]at h⊢;exact bA.plain aE _ _ _ ay h
 | .fn _ _,_,_,_,_,h=>h
 | .h _ _,_,_,_,_,h=>h
 | .ay _ _,_,_,_,_,h=>h
 | .ab _ _,_,_,_,_,h=>h
 | .b9 _,_,_,_,ay,_=>by simp[I.plain]at ay
theorem bA.plain {w:World} {F:Nat->Prop}:∀(ds:azk) (cs:azi) (S aZ:Nat->Prop),I.hA ds=true->bA w F ds cs S->bA w F ds cs aZ
 |[],_,_,_,_,h=>h
 |d::ds,cs,S,aZ,ay,h=>by
  rw[bA]at h⊢;simp only[I.hA,Bool.and_eq_true]at ay;obtain⟨cA,c2,cD,eH,ad,ae,aJ,bh,b2,dA⟩:=h;exact⟨cA,c2,λ_=>False,λ_=>False,ad,aA.plain d _ _ _ ay.1 ae,bA.plain ds _ _ _ ay.2 aJ,λ_ h=>h.elim,λ_ h=>h.elim,λ_ h=>h.elim⟩
end
def I.gC:azf->I->Bool
 |[],_=>false
 |k::q,.agg aE=>match aE[k]? with
  |some d=>I.gC q d
  |none=>false
 |k::q,.tuple aE=>match aE[k]? with
  |some d=>I.gC q d
  |none=>false
 |_::_,.ak _ _=>true
 |_::_,.aQ _=>true
 |_::_,_=>false
theorem HQ {aE:azk} (h:I.hA aE=true) {k:Nat} {d:I} (ax:aE[k]? =some d):d.plain=true:=by
 induction aE generalizing k with
 |nil=>simp at ax
 |cons a aE ih=>
  simp only[I.hA,Bool.and_eq_true]at h;cases k with
  |zero=>simp at ax;subst ax;exact h.1
  |succ k=>simp at ax;exact ih h.2 ax
theorem I.TK:∀(q:azf) (d:I),d.plain=true->I.gC q d=false:=by
 intro q;induction q with
 |nil=>intros;rfl
 |cons k q ih=>
  intro d ao;cases d<;>first|rfl|(simp[I.plain]at ao;done)|skip
  all_goals
   simp only[I.gC];split
   .rename_i aE x an;exact ih _ (HQ (by simpa [I.plain]using ao) an)
   .rfl
theorem I.Mi:∀(q:azf) (d e:I),d.plain=true->I.sub q d=some e->e.plain=true:=by
 intro q;induction q with
 |nil=>intro d e ao h;simp[I.sub]at h;exact h▸ao
 |cons k q ih=>
  intro d e ao h;cases d<;>first|(simp[I.plain]at ao;done)|(simp[I.sub]at h;done)|skip
  all_goals
   simp only[I.sub]at h;split at h
   .rename_i aE x an;exact ih _ _ (HQ (by simpa [I.plain]using ao) an) h
   .cases h
theorem HR {w aL:World} {F:Nat->Prop}:∀(q:azf) (av:I) (cs:azi) (S:Nat->Prop) (a:Option (Nat×Nat)) (d:I),
  aA w F av cs S->I.sub q av=some d->(∀b,S b->aL.heap[b]? =w.heap[b]?)->ep aL q av cs a=ep w q av cs a:=by
 intro q;induction q with
 |nil=>intros;rfl
 |cons k q ih=>
  have fields:∀(aE:azk) (cs:azi) (S:Nat->Prop) (a:Option (Nat×Nat)) (x d:I),bA w F aE cs S->aE[k]? =some x->I.sub q x=some d->
    (∀b,S b->aL.heap[b]? =w.heap[b]?)->
    ep aL q x ((cs.drop (I.eZ (aE.take k))).take x.wd) (a.map λl=>(l.1,l.2+I.eZ (aE.take k)))=ep w q x ((cs.drop (I.eZ (aE.take k))).take x.wd) (a.map λl=>(l.1,l.2+I.eZ (aE.take k))):=by
   intro aE cs S a x d h an ao cj;obtain⟨cA,hc,c2,cD,jt,rfl,ja,hs,iE,j1,hh,o1⟩:=bA.pick aE cs S k x h an;rw[yK cA hc c2 _ _ ja (aA.length _ _ _ hh)];exact ih x hc jt _ d hh ao (λb ab=>cj b (iE _ ab))
  intro av cs S a d h ao cj;cases av with
  |agg aE=>
   simp only[I.sub]at ao;split at ao
   .rename_i x an;rw[aA]at h;simp only[ep,an];exact fields aE cs S a x d h an ao cj
   .cases ao
  |tuple aE=>
   simp only[I.sub]at ao;split at ao
   .rename_i x an;rw[aA]at h;simp only[ep,an];exact fields aE cs S a x d h an ao cj
   .cases ao
  |ak sz xs=>
   simp only[I.sub]at ao;split at ao
   .rename_i x an;rw[aA]at h;rcases h with⟨rfl,_,rfl⟩|⟨b,cap,cur,e,fr,eR,rfl,ae,aJ,bh,b2,dA,dC,hI,jF,kB,oz⟩
    .simp at an
    .obtain⟨cA,hc,c2,cD,jt,p,ja,hs,iE,j1,hh,o1⟩:=bA.pick xs _ eR k x jF an;have aC:=aA.length _ _ _ hh;have acF:k<xs.length:=(List.getElem?_eq_some_iff.1 an).1;have D2:x.wd=sz:=hI x (mem_of_getElem? an);have bL:I.eZ (xs.take k)=k*sz:=by
      rw[yM _ (λd ao=>hI d (mem_of_mem_take ao))];rw[length_take,Nat.min_eq_left (by omega)]
     obtain⟨vu,pJ⟩:∃vu,cur.toList=cA++(hc++(c2++vu)):=by
      refine⟨cur.toList.drop (xs.length*sz),?_⟩;have:=(take_append_drop (xs.length*sz) cur.toList).symm;rw[p]at this;simpa using this
     have mh:qd w b (k*sz) sz=hc:=by
      have:=A5 aJ pJ
      rwa [ja,bL,aC,D2]at this
     have Mj:qd aL b (k*sz) sz=hc:=by
      have:=A5 ((cj b ae).trans aJ) pJ
      rwa [ja,bL,aC,D2]at this
     simp only[ep,an,mh,Mj];exact ih x hc jt _ d hh ao (λc ar=>cj c (kB _ (iE _ ar)))
   .cases ao
  |aQ x=>
   cases k with
   |succ k=>simp[I.sub]at ao
   |zero=>
    simp only[I.sub]at ao;rw[aA]at h;obtain⟨b,cur,e,fr,eR,rfl,ae,aJ,bh,b2,dA,dC⟩:=h;have aC:=aA.length _ _ _ b2;have mh:qd w b 0 x.wd=cur.toList:=by
     have:=A5 (l:=[]) (m:=cur.toList) (r:=[]) aJ (by simp)
     rwa [aC]at this
    have Mj:qd aL b 0 x.wd=cur.toList:=by
     have:=A5 (l:=[]) (m:=cur.toList) (r:=[]) ((cj b ae).trans aJ) (by simp)
     rwa [aC]at this
    simp only[ep,mh,Mj];exact ih x cur.toList eR _ d b2 ao (λc ar=>cj c (dA _ ar))
  |_=>simp[I.sub]at ao
def jb:Value->azi
 | .agg cs=>cs.toList
 |v=>[v]
def dd:Value->azi
 | .tuple vs=>vs.toList.flatMap jb
 |v=>jb v
def j2:I->Value->Prop
 | .agg _,v=>∃arr,v= .agg arr
 |_,v=>Value.hH v=true
def eK:I->Value->Prop
 | .tuple ds,v=>∃arr:Array Value,v= .tuple arr/\arr.size=ds.length/\∀(k:Nat) (d:I) (x:Value),ds[k]? =some d->arr[k]? =some x->j2 d x/\(∀vs,d≠.tuple vs)/\(jb x).length=d.wd
 |d,v=>j2 d v
abbrev al:=Nat->I
mutual
def aS (w:World) (F:Nat->Prop) (s:al) (aG:Nat->Value):I->Value->(Nat->Prop)->Prop
 | .hole,_,_=>True
 | .h x q,v,_=>∀d,I.sub q (s x)=some d->d.plain=false->∃dv a,ep w q (s x) (dd (aG x)) none=some (d,dv,a)/\dd v=dv/\eK d v
 | .ay x q,v,_=>∀d,I.sub q (s x)=some d->I.gC q (s x)=true->∃dv b o,ep w q (s x) (dd (aG x)) none=some (d,dv,some (b,o))/\v= .pointer (some ⟨b,o,none⟩)
 | .ab x k,v,_=>(s x).plain=false->∃b cur e fr,v= .pointer (some ⟨b,k,none⟩)/\F b/\w.heap[b]? =some (.cells cur e fr)/\cur.toList=dd (aG x)
 | .fn f cap,v,_=>∃arr:Array Value,v= .func (.func f) #[] arr/\fo w F s aG cap arr.toList
 | .bool b,v,S=>eK (.bool b) v/\aA w F (.bool b) (dd v) S
 | .gA,v,S=>eK .gA v/\aA w F .gA (dd v) S
 | .int k n,v,S=>eK (.int k n) v/\aA w F (.int k n) (dd v) S
 | .str x,v,S=>eK (.str x) v/\aA w F (.str x) (dd v) S
 | .eh,v,S=>eK .eh v/\aA w F .eh (dd v) S
 | .a8,v,S=>eK .a8 v/\aA w F .a8 (dd v) S
 | .slice xs,v,S=>eK (.slice xs) v/\aA w F (.slice xs) (dd v) S
 | .ak sz xs,v,S=>eK (.ak sz xs) v/\aA w F (.ak sz xs) (dd v) S
 | .ref d,v,S=>eK (.ref d) v/\aA w F (.ref d) (dd v) S
 | .aQ d,v,S=>eK (.aQ d) v/\aA w F (.aQ d) (dd v) S
 | .agg d,v,S=>eK (.agg d) v/\aA w F (.agg d) (dd v) S
 | .tuple d,v,S=>eK (.tuple d) v/\aA w F (.tuple d) (dd v) S
 | .b9 o,v,S=>eK (.b9 o) v/\aA w F (.b9 o) (dd v) S
def fo (w:World) (F:Nat->Prop) (s:al) (aG:Nat->Value):azk->azi->Prop
 |[],vs=>vs=[]
 |d::ds,vs=>∃v nT,vs=v::nT/\aS w F s aG d v (λ_=>False)/\fo w F s aG ds nT
end
def I.tree:I->Bool
 | .hole=>false
 | .h _ _=>false
 | .ay _ _=>false
 | .ab _ _=>false
 | .fn _ _=>false
 |_=>true
theorem aS.dr {w:World} {F:Nat->Prop} {s:al} {aG:Nat->Value} {d:I} {v:Value} {S:Nat->Prop} (aY:d.tree=true):
  aS w F s aG d v S↔(eK d v/\aA w F d (dd v) S):=by
 cases d<;>first|(simp[I.tree]at aY;done)|rw[aS]
theorem ju {q:azf} {av d:I} (h:I.sub q av=some d) (ay:d.plain=false\/I.gC q av=true):av.tree=true:=by
 cases q with
 |nil=>
  simp[I.sub]at h;subst h;rcases ay with ay|ay
  .cases av<;>first|rfl|(simp[I.plain]at ay)
  .simp[I.gC]at ay
 |cons k q=>cases av<;>first|rfl|(simp[I.sub]at h)
theorem Mk {d:I} (h:d.plain=false):d.tree=true:=ju (q:=[]) (by simp only[I.sub]) (.inl h)
theorem aS.frame {w aL:World} {F ct:Nat->Prop} {s:al} {aG:Nat->Value} {Sx:Nat->Nat->Prop} (bK:∀b,F b->aL.heap[b]? =w.heap[b]?) (TL:∀b,F b->ct b)
  (cj:∀x b,Sx x b->aL.heap[b]? =w.heap[b]?) (mi:∀x,aS w F s aG (s x) (aG x) (Sx x)):
  ∀(d:I) (v:Value) (S:Nat->Prop),(∀b,S b->aL.heap[b]? =w.heap[b]?)->aS w F s aG d v S->aS aL ct s aG d v S:=by
 have nc:∀(x:Nat) (q:azf) (d:I),I.sub q (s x)=some d->(d.plain=false\/I.gC q (s x)=true)->ep aL q (s x) (dd (aG x)) none=ep w q (s x) (dd (aG x)) none:=by
  intro x q d ao ay;have aY:=ju ao ay;have:=mi x;rw[aS.dr aY]at this;exact HR q _ _ (Sx x) none d this.2 ao (cj x)
 have acG:∀(d:I) (v:Value) (S:Nat->Prop),d.tree=true->(∀b,S b->aL.heap[b]? =w.heap[b]?)->aS w F s aG d v S->aS aL ct s aG d v S:=by
  intro d v S aY yN h;rw[aS.dr aY]at h⊢;exact⟨h.1,aA.mono TL _ _ _ _ (λ_ h=>h) (aA.frame bK _ _ _ yN h.2)⟩
 have step:∀n,(∀(d:I) (v:Value) (S:Nat->Prop),SizeOf.sizeOf d<=n->(∀b,S b->aL.heap[b]? =w.heap[b]?)->aS w F s aG d v S->aS aL ct s aG d v S)/\
   (∀(ds:azk) (vs:azi),SizeOf.sizeOf ds<=n->fo w F s aG ds vs->fo aL ct s aG ds vs):=by
  intro n;induction n with
  |zero=>
   refine⟨λd v S cf=>?_,λds vs cf=>?_⟩
   .cases d<;>simp at cf<;>omega
   .cases ds<;>simp at cf<;>omega
  |succ n ih=>
   refine⟨λd v S cf yN h=>?_,λds vs cf h=>?_⟩
   .cases d with
    |hole=>rw[aS];trivial
    |h x q=>
     rw[aS]at h⊢;intro d ao ay;rw[nc x q d ao (.inl ay)];exact h d ao ay
    |ay x q=>
     rw[aS]at h⊢;intro d ao ay;rw[nc x q d ao (.inr ay)];exact h d ao ay
    |ab x k=>
     rw[aS]at h⊢;intro ay;obtain⟨b,cur,e,fr,ad,ae,aJ,bh⟩:=h ay;exact⟨b,cur,e,fr,ad,TL b ae,(bK b ae).trans aJ,bh⟩
    |fn f cap=>
     rw[aS]at h⊢;obtain⟨arr,rfl,ar⟩:=h;exact⟨arr,rfl,ih.2 _ _ (by simp at cf;omega) ar⟩
    |_=>exact acG _ _ _ rfl yN h
   .cases ds with
    |nil=>rw[fo]at h⊢;exact h
    |cons d ds=>
     rw[fo]at h⊢;obtain⟨v,nT,rfl,ad,ae⟩:=h;simp at cf;exact⟨v,nT,rfl,ih.1 _ _ _ (by omega) (λ_ h=>h.elim) ad,ih.2 _ _ (by omega) ae⟩
 intro d v S yN h;exact(step (SizeOf.sizeOf d)).1 d v S (Nat.le_refl _) yN h
mutual
def dw (x:Nat):I->I
 | .h y q=>if y=x then .hole else .h y q
 | .ay y q=>if y=x then .hole else .ay y q
 | .ab y k=>if y=x then .hole else .ab y k
 | .fn f cap=>.fn f (la x cap)
 |d=>d
def la (x:Nat):azk->azk
 |[]=>[]
 |d::ds=>dw x d::la x ds
end
mutual
def cG (x:Nat):I->I
 | .h y q=>if y=x then(if q=[]then .h y q else .hole)else .h y q
 | .ay y q=>if y=x then .hole else .ay y q
 | .fn f cap=>.fn f (kD x cap)
 |d=>d
def kD (x:Nat):azk->azk
 |[]=>[]
 |d::ds=>cG x d::kD x ds
end
def et {α:Type} (f:Nat->α) (t:Nat) (v:α):Nat->α:=λu=>if u=t then v else f u
def oA (t:Nat) (s:al):al:=λu=>dw t (s u)
def jc (t:Nat) (s:al):al:=λu=>cG t (s u)
theorem o3 {α:Type} (f:Nat->α) (t:Nat) (v:α):et f t v t=v:=by simp[et]
theorem lE {α:Type} (f:Nat->α) {t u:Nat} (v:α) (h:u≠t):et f t v u=f u:=by simp[et,h]
theorem acH {t:Nat} {d:I} (h:d.tree=true):dw t d=d:=by cases d<;>first|rfl|(simp[I.tree]at h)
theorem Ml {t:Nat} {d:I} (h:d.tree=true):cG t d=d:=by cases d<;>first|rfl|(simp[I.tree]at h)
theorem acI {t:Nat} {d:I} (h:(dw t d).tree=true):d.tree=true/\dw t d=d:=by
 cases d<;>first|exact⟨rfl,rfl⟩|(simp only[dw]at h;first|(split at h<;>simp[I.tree]at h)|simp[I.tree]at h)
theorem HS {t:Nat} {d:I} (h:(cG t d).tree=true):d.tree=true/\cG t d=d:=by
 cases d<;>first|exact⟨rfl,rfl⟩|(simp only[cG]at h;first|(split at h<;>(try split at h)<;>simp[I.tree]at h)|simp[I.tree]at h)
section
variable {w:World} {F:Nat->Prop} {s aH:al} {aG mH:Nat->Value} {t:Nat}
theorem aS.dw (iP:∀x,x≠t->(aH x).tree=true->aH x=s x/\mH x=aG x):∀(n:Nat),
  (∀(d:I) (v:Value) (S:Nat->Prop),SizeOf.sizeOf d<=n->aS w F s aG d v S->aS w F aH mH (eg.dw t d) v S)/\
  (∀(ds:azk) (vs:azi),SizeOf.sizeOf ds<=n->fo w F s aG ds vs->fo w F aH mH (la t ds) vs):=by
 intro n;induction n with
 |zero=>
  refine⟨λd v S cf=>?_,λds vs cf=>?_⟩
  .cases d<;>simp at cf<;>omega
  .cases ds<;>simp at cf<;>omega
 |succ n ih=>
  refine⟨λd v S cf h=>?_,λds vs cf h=>?_⟩
  .cases d with
   |hole=>rw[eg.dw.eq_def];simp only;rw[aS];trivial
   |h x q=>
    simp only[eg.dw];split
    .rw[aS];trivial
    .rename_i an;rw[aS]at h⊢;intro d ao ay;obtain⟨aO,aU⟩:=iP x an (ju ao (.inl ay));rw[aO,aU];rw[aO]at ao;exact h d ao ay
   |ay x q=>
    simp only[eg.dw];split
    .rw[aS];trivial
    .rename_i an;rw[aS]at h⊢;intro d ao ay;obtain⟨aO,aU⟩:=iP x an (ju ao (.inr ay));rw[aO,aU];rw[aO]at ao ay;exact h d ao ay
   |ab x k=>
    simp only[eg.dw];split
    .rw[aS];trivial
    .rename_i an;rw[aS]at h⊢;intro ay;obtain⟨aO,aU⟩:=iP x an (Mk ay);rw[aU];rw[aO]at ay;exact h ay
   |fn f cap=>
    simp only[eg.dw];rw[aS]at h⊢;obtain⟨arr,rfl,ar⟩:=h;exact⟨arr,rfl,ih.2 _ _ (by simp at cf;omega) ar⟩
   |_=>
    rw[acH (by rfl)];exact(aS.dr (by rfl)).2 ((aS.dr (by rfl)).1 h)
  .cases ds with
   |nil=>rw[la,fo];rw[fo]at h;exact h
   |cons d ds=>
    rw[la,fo];rw[fo]at h;obtain⟨v,nT,rfl,ad,ae⟩:=h;simp at cf;exact⟨v,nT,rfl,ih.1 _ _ _ (by omega) ad,ih.2 _ _ (by omega) ae⟩
theorem aS.cG {aL:World} (iP:∀x,x≠t->(aH x).tree=true->aH x=s x/\mH x=aG x) (lb:mH t=aG t) (mI:(aH t).plain=false->(s t).plain=false/\∀v,eK (s t) v->eK (aH t) v)
  (nc:∀x q d,x≠t->I.sub q (s x)=some d->(d.plain=false\/I.gC q (s x)=true)->ep aL q (s x) (dd (aG x)) none=ep w q (s x) (dd (aG x)) none)
  (bK:∀b,F b->aL.heap[b]? =w.heap[b]?):∀(n:Nat),
  (∀(d:I) (v:Value) (S:Nat->Prop),SizeOf.sizeOf d<=n->(∀b,S b->aL.heap[b]? =w.heap[b]?)->aS w F s aG d v S->aS aL F aH mH (eg.cG t d) v S)/\
  (∀(ds:azk) (vs:azi),SizeOf.sizeOf ds<=n->fo w F s aG ds vs->fo aL F aH mH (kD t ds) vs):=by
 intro n;induction n with
 |zero=>
  refine⟨λd v S cf=>?_,λds vs cf=>?_⟩
  .cases d<;>simp at cf<;>omega
  .cases ds<;>simp at cf<;>omega
 |succ n ih=>
  refine⟨λd v S cf yN h=>?_,λds vs cf h=>?_⟩
  .cases d with
   |hole=>rw[eg.cG.eq_def];simp only;rw[aS];trivial
   |h x q=>
    simp only[eg.cG];split
    .rename_i an;subst an;split
     .rename_i cz;subst cz;rw[aS]at h⊢;intro d ao ay;simp only[I.sub,some.injEq]at ao;subst ao;obtain⟨dU,a_⟩:=mI ay;obtain⟨dv,a,g1,g2,g3⟩:=h (s x) rfl dU;simp only[ep,some.injEq,Prod.mk.injEq]at g1;obtain⟨-,g1,awM⟩:=g1;refine⟨dd (mH x),none,rfl,?_,a_ _ g3⟩;rw[lb,g2,<-g1]
     .rw[aS];trivial
    .rename_i an;rw[aS]at h⊢;intro d ao ay;obtain⟨aO,aU⟩:=iP x an (ju ao (.inl ay));rw[aO,aU];rw[aO]at ao;rw[nc x q d an ao (.inl ay)];exact h d ao ay
   |ay x q=>
    simp only[eg.cG];split
    .rw[aS];trivial
    .rename_i an;rw[aS]at h⊢;intro d ao ay;obtain⟨aO,aU⟩:=iP x an (ju ao (.inr ay));rw[aO,aU];rw[aO]at ao ay;rw[nc x q d an ao (.inr ay)];exact h d ao ay
   |ab x k=>
    simp only[eg.cG];rw[aS]at h⊢;intro ay;by_cases an:x=t
    .subst an;obtain⟨b,cur,e,fr,ad,ae,aJ,bh⟩:=h (mI ay).1;exact⟨b,cur,e,fr,ad,ae,(bK b ae).trans aJ,by rw[lb];exact bh⟩
    .obtain⟨aO,aU⟩:=iP x an (Mk ay);rw[aO]at ay;obtain⟨b,cur,e,fr,ad,ae,aJ,bh⟩:=h ay;exact⟨b,cur,e,fr,ad,ae,(bK b ae).trans aJ,by rw[aU];exact bh⟩
   |fn f cap=>
    simp only[eg.cG];rw[aS]at h⊢;obtain⟨arr,rfl,ar⟩:=h;exact⟨arr,rfl,ih.2 _ _ (by simp at cf;omega) ar⟩
   |_=>
    rw[Ml (by rfl)];have bD:=(aS.dr (by rfl)).1 h;exact(aS.dr (by rfl)).2 ⟨bD.1,aA.frame bK _ _ _ yN bD.2⟩
  .cases ds with
   |nil=>rw[kD,fo];rw[fo]at h;exact h
   |cons d ds=>
    rw[kD,fo];rw[fo]at h;obtain⟨v,nT,rfl,ad,ae⟩:=h;simp at cf;exact⟨v,nT,rfl,ih.1 _ _ _ (by omega) (λ_ h=>h.elim) ad,ih.2 _ _ (by omega) ae⟩
theorem aS.void (iP:∀x,x≠t->(aH x).tree=true->aH x=s x/\mH x=aG x) (si:(aH t).plain=true):∀(n:Nat),
  (∀(d:I) (v:Value) (S:Nat->Prop),SizeOf.sizeOf d<=n->aS w F s aG d v S->aS w F aH mH d v S)/\
  (∀(ds:azk) (vs:azi),SizeOf.sizeOf ds<=n->fo w F s aG ds vs->fo w F aH mH ds vs):=by
 intro n;induction n with
 |zero=>
  refine⟨λd v S cf=>?_,λds vs cf=>?_⟩
  .cases d<;>simp at cf<;>omega
  .cases ds<;>simp at cf<;>omega
 |succ n ih=>
  refine⟨λd v S cf h=>?_,λds vs cf h=>?_⟩
  .cases d with
   |hole=>rw[aS];trivial
   |h x q=>
    rw[aS]at h⊢;intro d ao ay;by_cases an:x=t
    .subst an;rw[I.Mi _ _ _ si ao]at ay;cases ay
    .obtain⟨aO,aU⟩:=iP x an (ju ao (.inl ay));rw[aO,aU];rw[aO]at ao;exact h d ao ay
   |ay x q=>
    rw[aS]at h⊢;intro d ao ay;by_cases an:x=t
    .subst an;rw[I.TK _ _ si]at ay;cases ay
    .obtain⟨aO,aU⟩:=iP x an (ju ao (.inr ay));rw[aO,aU];rw[aO]at ao ay;exact h d ao ay
   |ab x k=>
    rw[aS]at h⊢;intro ay;by_cases an:x=t
    .subst an;rw[si]at ay;cases ay
    .obtain⟨aO,aU⟩:=iP x an (Mk ay);rw[aU];rw[aO]at ay;exact h ay
   |fn f cap=>
    rw[aS]at h⊢;obtain⟨arr,rfl,ar⟩:=h;exact⟨arr,rfl,ih.2 _ _ (by simp at cf;omega) ar⟩
   |_=>exact(aS.dr (by rfl)).2 ((aS.dr (by rfl)).1 h)
  .cases ds with
   |nil=>rw[fo];rw[fo]at h;exact h
   |cons d ds=>
    rw[fo];rw[fo]at h;obtain⟨v,nT,rfl,ad,ae⟩:=h;simp at cf;exact⟨v,nT,rfl,ih.1 _ _ _ (by omega) ad,ih.2 _ _ (by omega) ae⟩
end
def Mm:Bool:=false
def Out (w w0:World):Prop:=w.output=w0.output/\(Mm=true->w0.drawn<=w.drawn)
theorem Out.trans {a b c:World} (h:Out a b) (ae:Out b c):Out a c:=⟨Eq.trans h.1 ae.1,λd=>Nat.le_trans (ae.2 d) (h.2 d)⟩
theorem Out.refl (w:World):Out w w:=⟨rfl,λ_=>Nat.le_refl _⟩
def Mn (o:Obj):Prop:=∃bt cs e fr,o= .cells cs e fr/\cs[0]? =some bt/\(bt= .nilIface\/∃Mo Mp,bt= .iface Mo Mp)
def HT (o:Obj):Prop:=∃e fr,o= .cells ((range 20).map λi=>Value.int .u64 ((10^i:Nat):Int)).toArray e fr
def HU:List (Nat×(Obj->Prop)):=[(2,Mn),(1,HT)]
def tJ (w:World) (X:Nat->Prop):Prop:=∀p∈HU,p.1<w.heap.size/\¬X p.1/\∃o,w.heap[p.1]? =some o/\p.2 o
theorem tJ.next {w aL:World} {X Y:Nat->Prop} (h:tJ w X) (aa:w.heap.size<=aL.heap.size) (ab:∀b,b<w.heap.size->¬X b->aL.heap[b]? =w.heap[b]?) (hy:∀b,Y b->X b\/w.heap.size<=b):tJ aL Y:=λp ay=>by
 obtain⟨ad,ae,o,aJ,bh⟩:=h p ay;refine⟨Nat.lt_of_lt_of_le ad aa,λh=>?_,o,(ab _ ad ae).trans aJ,bh⟩;rcases hy _ h with h|h
 .exact ae h
 .omega
structure cd (w0:World) (F0 X F:Nat->Prop) (S:Nat->Nat->Prop) (s:al) (aG:Nat->Value) (w:World):Prop where
 iQ:∀b,F0 b->F b
 jv:∀b,F b->F0 b\/X b\/w0.heap.size<=b
 gP:∀b,F b->b<w.heap.size
 fS:∀t b,S t b->b<w.heap.size
 hj:∀t b,S t b->¬F b
 gD:∀t u b,t≠u->S t b->¬S u b
 eR:∀t b,S t b->X b\/w0.heap.size<=b
 ey:∀t,aS w F s aG (s t) (aG t) (S t)
 old:∀b,b<w0.heap.size->¬X b->w.heap[b]? =w0.heap[b]?
 size:w0.heap.size<=w.heap.size
 os:w.os=w0.os
 tape:w.tape=w0.tape
 output:Out w w0
 gU:tJ w0 X
section
variable {w0 w aL:World} {F0 X F:Nat->Prop} {S:Nat->Nat->Prop} {s:al} {aG:Nat->Value}
theorem cd.grow (h:cd w0 F0 X F S s aG w) (ab:∀b,b<w.heap.size->aL.heap[b]? =w.heap[b]?) (aa:w.heap.size<=aL.heap.size)
  (ad:aL.os=w.os) (ae:aL.tape=w.tape) (aJ:Out aL w):cd w0 F0 X F S s aG aL where
 iQ:=h.iQ
 jv:=h.jv
 gP:=λb bK=>Nat.lt_of_lt_of_le (h.gP b bK) aa
 fS:=λt b bK=>Nat.lt_of_lt_of_le (h.fS t b bK) aa
 hj:=h.hj
 gD:=h.gD
 eR:=h.eR
 ey:=λt=>aS.frame (Sx:=S) (λb bK=>ab b (h.gP b bK)) (λ_ h=>h) (λx b cj=>ab b (h.fS x b cj)) h.ey _ _ _ (λb cj=>ab b (h.fS t b cj)) (h.ey t)
 old:=λb er mJ=>(ab b (Nat.lt_of_lt_of_le er h.size)).trans (h.old b er mJ)
 size:=Nat.le_trans h.size aa
 os:=ad.trans h.os
 tape:=ae.trans h.tape
 output:=aJ.trans h.output
 gU:=h.gU
def hk (S:Nat->Nat->Prop) (t:Nat) (Sn:Nat->Prop):Nat->Nat->Prop:=λu b=>if u=t then Sn b else S u b
theorem D5 (S:Nat->Nat->Prop) (t:Nat) (Sn:Nat->Prop):hk S t Sn t=Sn:=by funext b;simp[hk]
theorem D6 (S:Nat->Nat->Prop) {t u:Nat} (Sn:Nat->Prop) (h:u≠t):hk S t Sn u=S u:=by funext b;simp[hk,h]
theorem cd.D7 (h:cd w0 F0 X F S s aG w) {t:Nat} {d:I} {v:Value} (ay:d.plain=true) (ao:aS w F s aG d v (λ_=>False)):
  cd w0 F0 X F (hk S t (λ_=>False)) (et s t d) (et aG t v) w where
 iQ:=h.iQ
 jv:=h.jv
 gP:=h.gP
 fS:=λu b ab=>by simp only[hk]at ab;split at ab;exact ab.elim;exact h.fS u b ab
 hj:=λu b ab=>by simp only[hk]at ab;split at ab;exact ab.elim;exact h.hj u b ab
 gD:=λu x b dV ab an=>by
  simp only[hk]at ab an;split at ab
  .exact ab.elim
  .split at an
   .exact an.elim
   .exact h.gD u x b dV ab an
 eR:=λu b ab=>by simp only[hk]at ab;split at ab;exact ab.elim;exact h.eR u b ab
 ey:=λu=>by
  have iP:∀x,x≠t->(et s t d x).tree=true->et s t d x=s x/\et aG t v x=aG x:=λx an _=>⟨lE _ _ an,lE _ _ an⟩
  have si:(et s t d t).plain=true:=by rw[o3];exact ay
  by_cases hu:u=t
  .subst hu;rw[o3,o3,D5];exact(aS.void iP si _).1 _ _ _ (Nat.le_refl _) ao
  .rw[lE _ _ hu,lE _ _ hu,D6 _ _ hu];exact(aS.void iP si _).1 _ _ _ (Nat.le_refl _) (h.ey u)
 old:=h.old
 size:=h.size
 os:=h.os
 tape:=h.tape
 output:=h.output
 gU:=h.gU
theorem cd.TM (h:cd w0 F0 X F S s aG w) {t:Nat} {d:I} {v:Value} {Sn:Nat->Prop} (ao:d.tree=true) (aa:eK d v) (aF:aA w F d (dd v) Sn)
  (er:∀b,Sn b->b<w.heap.size) (bK:∀b,Sn b->¬F b) (cj:∀u b,u≠t->Sn b->¬S u b) (a7:∀b,Sn b->X b\/w0.heap.size<=b):
  cd w0 F0 X F (hk S t Sn) (et (oA t s) t d) (et aG t v) w where
 iQ:=h.iQ
 jv:=h.jv
 gP:=h.gP
 fS:=λu b ab=>by simp only[hk]at ab;split at ab;exact er b ab;exact h.fS u b ab
 hj:=λu b ab=>by simp only[hk]at ab;split at ab;exact bK b ab;exact h.hj u b ab
 gD:=λu x b dV ab an=>by
  simp only[hk]at ab an;split at ab
  .rename_i hu;rw[if_neg (λe=>dV (hu.trans e.symm))]at an;exact cj x b (λe=>dV (hu.trans e.symm)) ab an
  .rename_i hu;split at an
   .exact cj u b hu an ab
   .exact h.gD u x b dV ab an
 eR:=λu b ab=>by simp only[hk]at ab;split at ab;exact a7 b ab;exact h.eR u b ab
 ey:=λu=>by
  have iP:∀x,x≠t->(et (oA t s) t d x).tree=true->et (oA t s) t d x=s x/\et aG t v x=aG x:=λx an aY=>by
   rw[lE _ _ an]at aY⊢;exact⟨(acI aY).2,lE _ _ an⟩
  by_cases hu:u=t
  .subst hu;rw[o3,o3,D5];exact(aS.dr ao).2 ⟨aa,aF⟩
  .rw[lE _ _ hu,lE _ _ hu,D6 _ _ hu];exact(aS.dw iP _).1 _ _ _ (Nat.le_refl _) (h.ey u)
 old:=h.old
 size:=h.size
 os:=h.os
 tape:=h.tape
 output:=h.output
 gU:=h.gU
theorem xm (k:Nat) (q:azf) (bM x:I):(∃aE gs,x= .agg aE/\I.put (k::q) bM x= .agg gs)\/(∃aE gs,x= .tuple aE/\I.put (k::q) bM x= .tuple gs)\/
  (∃sz xs cH,x= .ak sz xs/\I.put (k::q) bM x= .ak sz cH)\/(∃y z,x= .aQ y/\I.put (k::q) bM x= .aQ z)\/I.put (k::q) bM x=x:=by
 cases x with
 |agg aE=>simp only[I.put];split<;>exact .inl ⟨_,_,rfl,rfl⟩
 |tuple aE=>simp only[I.put];split<;>exact .inr (.inl ⟨_,_,rfl,rfl⟩)
 |ak sz aE=>simp only[I.put];split<;>exact .inr (.inr (.inl ⟨_,_,_,rfl,rfl⟩))
 |aQ y=>cases k<;>exact .inr (.inr (.inr (.inl ⟨_,_,rfl,rfl⟩)))
 |_=>exact .inr (.inr (.inr (.inr rfl)))
theorem TN {k:Nat} {q:azf} {bM x:I} {v:Value} (h:j2 x v):j2 (I.put (k::q) bM x) v:=by
 rcases xm k q bM x with⟨aE,gs,rfl,e⟩|⟨aE,gs,rfl,e⟩|⟨sz,xs,cH,rfl,e⟩|⟨y,z,rfl,e⟩|e<;>rw[e]<;>exact h
theorem TO {k:Nat} {q:azf} {bM x:I} (h:∀vs,x≠.tuple vs):∀vs,I.put (k::q) bM x≠.tuple vs:=by
 rcases xm k q bM x with⟨aE,gs,rfl,e⟩|⟨aE,gs,rfl,e⟩|⟨sz,xs,cH,rfl,e⟩|⟨y,z,rfl,e⟩|e<;>rw[e]<;>first|exact h|(intro vs bD;cases bD;done)|exact(h _ rfl).elim
theorem D8 {k:Nat} {q:azf} {d bM av:I} {v:Value} (h:eK av v) (ao:I.sub (k::q) av=some d) (ad:∀v,j2 d v->j2 bM v) (ae:(∀vs,d≠.tuple vs)->∀vs,bM≠.tuple vs) (aJ:bM.wd=d.wd):
  eK (I.put (k::q) bM av) v:=by
 cases av with
 |tuple aE=>
  simp only[I.sub]at ao;split at ao
  .rename_i x an;simp only[I.put,an];simp only[eK]at h⊢;obtain⟨arr,rfl,cf,mi⟩:=h;refine⟨arr,rfl,by simpa using cf,λj e y he hy=>?_⟩;rw[getElem?_set]at he;split at he
   .rename_i Mq;subst Mq;split at he
    .simp only[some.injEq]at he;subst he;obtain⟨g1,g2,g3⟩:=mi k x y an hy;refine⟨?_,?_,g3.trans (I.A4 q x d bM ao aJ).symm⟩
     .cases q with
      |nil=>
       simp only[I.sub,some.injEq]at ao;subst ao;exact ad _ g1
      |cons cK q=>exact TN g1
     .cases q with
      |nil=>
       simp only[I.sub,some.injEq]at ao;subst ao;exact ae g2
      |cons cK q=>exact TO g2
    .cases he
   .exact mi j e y he hy
  .cases ao
 |agg aE=>simp only[I.put];split<;>exact h
 |ak sz aE=>simp only[I.put];split<;>exact h
 |aQ y=>cases k<;>exact h
 |_=>exact h
theorem Mr {d:I} {v:Value} (h:j2 d v):j2 d.dR v:=by cases d<;>exact h
theorem TP {s:al} {x:Nat} {q:azf} {d:I} (ao:I.sub q (s x)=some d) (ay:d.plain=false):
  (et (jc x s) x (I.put q d.dR (s x)) x).plain=false->(s x).plain=false/\∀v,eK (s x) v->eK (et (jc x s) x (I.put q d.dR (s x)) x) v:=by
  rw[o3];intro fI;cases q with
  |nil=>
   exfalso;have:∀d:I,d.dR.plain=true:=by
    intro d;have key:∀n,(∀d:I,SizeOf.sizeOf d<=n->d.dR.plain=true)/\(∀ds:azk,SizeOf.sizeOf ds<=n->I.hA (I.nS ds)=true):=by
     intro n;induction n with
     |zero=>exact⟨λd cf=>by cases d<;>simp at cf<;>omega,λds cf=>by cases ds<;>simp at cf<;>omega⟩
     |succ n ih=>
      refine⟨λd cf=>?_,λds cf=>?_⟩
      .cases d with
       |agg aE=>simp only[I.dR,I.plain];exact ih.2 _ (by simp at cf;omega)
       |tuple aE=>simp only[I.dR,I.plain];exact ih.2 _ (by simp at cf;omega)
       |_=>rfl
      .cases ds with
       |nil=>rfl
       |cons d ds=>
        simp at cf;simp only[I.nS,I.hA,Bool.and_eq_true];exact⟨ih.1 _ (by omega),ih.2 _ (by omega)⟩
    exact(key _).1 d (Nat.le_refl _)
   simp only[I.put]at fI;rw[this]at fI;cases fI
  |cons k q=>
   refine⟨?_,λv aF=>D8 aF ao (λv h=>Mr h) (λh vs e=>?_) (I.xl d)⟩
   .cases b3:(s x).plain with
    |false=>rfl
    |true=>rw[I.Mi _ _ _ b3 ao]at ay;cases ay
   .cases d<;>first|(exact h _ rfl)|(simp[I.dR]at e)
theorem cd.take (h:cd w0 F0 X F S s aG w) {x:Nat} {q:azf} {d:I} (ao:I.sub q (s x)=some d) (ay:d.plain=false):
  ∃(Sn gl:Nat->Prop) (dv:azi) (a:Option (Nat×Nat)),cd w0 F0 X F (hk S x Sn) (et (jc x s) x (I.put q d.dR (s x))) aG w/\
   ep w q (s x) (dd (aG x)) none=some (d,dv,a)/\aA w F d dv gl/\(∀b,gl b->S x b)/\(∀b,Sn b->S x b)/\(∀b,gl b->¬Sn b)/\
   (∀(bM:I) (v:Value) (aZ:Nat->Prop),aS w F s aG bM v aZ->aS w F (et (jc x s) x (I.put q d.dR (s x))) aG (eg.cG x bM) v aZ):=by
 have aY:=ju ao (.inl ay);have an:=h.ey x;rw[aS.dr aY]at an;obtain⟨dv,a,e3,gl,g0,g1,g2,g3,g4,g5⟩:=ctx q (s x) (dd (aG x)) (S x) none d an.2 ao;have l3:aA w F (I.put q d.dR (s x)) (dd (aG x)) e3:=by
  have kU:aA w F d.dR dv (λ_=>False):=aA.dR _ _ _ _ g4;have mK:∀b,(e3 b\/False)->e3 b:=λb h=>h.elim id False.elim;rcases g5 with⟨l,r,aO,aU,aM⟩|⟨b,cur,e,fr,l,r,aO,aU,aM,bT,cv,ck⟩
  .have:=aM w _ dv _ (λ_ _=>rfl) (λ_ _=>rfl) (I.xl d) kU (λ_ h=>h.elim);rw[<-aO]at this;exact aA.mono (λ_ h=>h) _ _ _ _ mK this
  .have:=ck w _ dv _ (λ_ _=>rfl) (λ_ _ _=>rfl) (by rw[aM,<-cv]) (I.xl d) kU (λ_ h=>h.elim);exact aA.mono (λ_ h=>h) _ _ _ _ mK this
 have acJ:eK (I.put q d.dR (s x)) (aG x)/\(I.put q d.dR (s x)).tree=true\/I.put q d.dR (s x)= .hole:=by
  cases q with
  |nil=>
   simp only[I.sub,some.injEq]at ao;subst ao;simp only[I.put];cases aa:s x with
   |ak sz xs=>right;rfl
   |aQ y=>right;rfl
   |b9 y=>right;rfl
   |agg aE=>left;rw[aa]at an;exact⟨an.1,rfl⟩
   |tuple aE=>
    left;rw[aa]at an;refine⟨?_,rfl⟩;simp only[eK,I.dR]at an⊢;obtain⟨arr,e,cf,mi⟩:=an.1;have aC:∀aE:azk,I.nS aE=aE.map I.dR:=by
     intro aE;induction aE with
     |nil=>rfl
     |cons a aE ih=>simp[I.nS,ih]
    refine⟨arr,e,by rw[aC];simpa using cf,λk hi y he hy=>?_⟩;rw[aC,getElem?_map]at he;cases ax:aE[k]? with
    |none=>rw[ax]at he;cases he
    |some z=>
     rw[ax]at he;simp only[map_some,some.injEq]at he;subst he;obtain⟨g1,g2,g3⟩:=mi k z y ax hy;refine⟨Mr g1,λvs e=>?_,g3.trans (I.xl z).symm⟩;cases z<;>first|(exact g2 _ rfl)|(simp[I.dR]at e)
   |_=>rw[aa]at ay;simp[I.plain]at ay
  |cons k q=>
   left;refine⟨D8 an.1 ao (λv h=>Mr h) (λh vs e=>?_) (I.xl d),?_⟩
   .cases d<;>first|(exact h _ rfl)|(simp[I.dR]at e)
   .rcases xm k q d.dR (s x)with⟨aE,gs,aO,e⟩|⟨aE,gs,aO,e⟩|⟨sz,xs,cH,aO,e⟩|⟨y,z,aO,e⟩|e<;>rw[e]<;>first|rfl|exact aY
 refine⟨e3,gl,dv,a,?_,g0,g4,g2,g1,λb ad ae=>g3 b ae ad,?_⟩
 rotate_left
 .have iP:∀y,y≠x->(et (jc x s) x (I.put q d.dR (s x)) y).tree=true->et (jc x s) x (I.put q d.dR (s x)) y=s y/\aG y=aG y:=λy hy aY=>by
   rw[lE _ _ hy]at aY⊢;exact⟨(HS aY).2,rfl⟩
  intro bM v aZ i7;exact(aS.cG iP rfl (TP ao ay) (λ_ _ _ _ _ _=>rfl) (λ_ _=>rfl) _).1 _ _ _ (Nat.le_refl _) (λ_ _=>rfl) i7
 have iP:∀y,y≠x->(et (jc x s) x (I.put q d.dR (s x)) y).tree=true->et (jc x s) x (I.put q d.dR (s x)) y=s y/\aG y=aG y:=λy hy aY=>by
  rw[lE _ _ hy]at aY⊢;exact⟨(HS aY).2,rfl⟩
 have mI:=TP (s:=s) (x:=x) ao ay;constructor;case iQ=>exact h.iQ
 case jv=>exact h.jv
 case gP=>exact h.gP
 case fS=>exact λu b ab=>by simp only[hk]at ab;split at ab;exact h.fS x b (g1 b ab);exact h.fS u b ab
 case hj=>exact λu b ab=>by simp only[hk]at ab;split at ab;exact h.hj x b (g1 b ab);exact h.hj u b ab
 case gD=>
  intro u y b dV ab hy;simp only[hk]at ab hy;split at ab
  .rename_i hu;rw[if_neg (λe=>dV (hu.trans e.symm))]at hy;exact h.gD x y b (λe=>dV (hu.trans e)) (g1 b ab) hy
  .rename_i hu;split at hy
   .exact h.gD u x b hu ab (g1 b hy)
   .exact h.gD u y b dV ab hy
 case eR=>exact λu b ab=>by simp only[hk]at ab;split at ab;exact h.eR x b (g1 b ab);exact h.eR u b ab
 case ey=>
  intro u;by_cases hu:u=x
  .subst hu;rw[o3,D5];rcases acJ with⟨aO,aU⟩|e
   .exact(aS.dr aU).2 ⟨aO,l3⟩
   .rw[e,aS];trivial
  .rw[lE _ _ hu,D6 _ _ hu];exact(aS.cG iP rfl mI (λ_ _ _ _ _ _=>rfl) (λ_ _=>rfl) _).1 _ _ _ (Nat.le_refl _) (λ_ _=>rfl) (h.ey u)
 case old=>exact h.old
 case size=>exact h.size
 case os=>exact h.os
 case tape=>exact h.tape
 case output=>exact h.output
 case gU=>exact h.gU
theorem cd.store (h:cd w0 F0 X F S s aG w) {x:Nat} {q:azf} {d bM:I} (ao:I.sub q (s x)=some d) (ar:I.gC q (s x)=true)
  {hd:azi} {Sn:Nat->Prop} (aF:aA w F bM hd Sn) (nb:bM.wd=d.wd)
  (er:∀b,Sn b->b<w.heap.size) (bK:∀b,Sn b->¬F b) (cj:∀u b,Sn b->¬S u b) (a7:∀b,Sn b->X b\/w0.heap.size<=b):
  ∃(dv:azi) (b:Nat) (l r:azi) (cur:Array Value) (e:TypeId) (fr:Nat×Nat),ep w q (s x) (dd (aG x)) none=some (d,dv,some (b,l.length))/\
   w.heap[b]? =some (.cells cur e fr)/\cur.toList=l++(dv++r)/\pH fr cur.size/\
   ∀aL,aL.heap[b]? =some (.cells (l++(hd++r)).toArray e fr)->(∀c,c≠b->aL.heap[c]? =w.heap[c]?)->aL.heap.size=w.heap.size->aL.os=w.os->aL.tape=w.tape->Out aL w->
    ∃aZ,cd w0 F0 X F aZ (et (jc x s) x (I.put q bM (s x))) aG aL:=by
 have aY:=ju ao (.inr ar);have an:=h.ey x;rw[aS.dr aY]at an;obtain⟨dv,a,e3,gl,g0,g1,g2,g3,g4,g5⟩:=ctx q (s x) (dd (aG x)) (S x) none d an.2 ao;have acK:Deep w F q (s x) (dd (aG x)) d dv a e3:=by
  rcases g5 with⟨l,r,aO,aU,aM⟩|g5
  .exfalso;have nx:∀(q:azf) (av:I) (cs:azi) (a0:Option (Nat×Nat)) (d:I) (dv:azi),I.gC q av=true->ep w q av cs a0=some (d,dv,none)->False:=by
    intro q;induction q with
    |nil=>intro av cs a0 d dv ar;simp[I.gC]at ar
    |cons k q ih=>
     have TQ:∀(q:azf) (av:I) (cs:azi) (l:Nat×Nat) (d:I) (dv:azi),ep w q av cs (some l)=some (d,dv,none)->False:=by
      intro q;induction q with
      |nil=>intro av cs l d dv h;simp[ep]at h
      |cons k q A6=>
       intro av cs l d dv h;cases av with
       |agg aE=>rw[ep]at h;split at h;exact A6 _ _ _ _ _ h;cases h
       |tuple aE=>rw[ep]at h;split at h;exact A6 _ _ _ _ _ h;cases h
       |ak sz xs=>simp only[ep]at h;split at h;exact A6 _ _ _ _ _ h;cases h
       |aQ y=>
        cases k with
        |zero=>rw[ep.eq_def]at h;simp only at h;split at h;exact A6 _ _ _ _ _ h;cases h
        |succ k=>rw[show ep w ((k+1)::q) (.aQ y) cs (some l)=none from rfl]at h;cases h
       |_=>simp[ep]at h
     intro av cs a0 d dv ar h;cases av with
     |agg aE=>
      simp only[I.gC]at ar;split at ar
      .rename_i y hy;simp only[ep,hy]at h;exact ih _ _ _ _ _ ar h
      .cases ar
     |tuple aE=>
      simp only[I.gC]at ar;split at ar
      .rename_i y hy;simp only[ep,hy]at h;exact ih _ _ _ _ _ ar h
      .cases ar
     |ak sz xs=>simp only[ep]at h;split at h;exact TQ _ _ _ _ _ _ h;cases h
     |aQ y=>
      cases k with
      |zero=>rw[ep.eq_def]at h;simp only at h;split at h;exact TQ _ _ _ _ _ _ h;cases h
      |succ k=>rw[show ep w ((k+1)::q) (.aQ y) cs a0=none from rfl]at h;cases h
     |_=>simp[I.gC]at ar
   simp only[map_none]at aU;subst aU;exact nx _ _ _ _ _ _ ar g0
  .exact g5
 obtain⟨b,cur,e,fr,l,r,rfl,aU,aM,bT,cv,ck⟩:=acK;refine⟨dv,b,l,r,cur,e,fr,g0,aM,cv,bT,?_⟩;intro aL o2 qS fg Ms Mt yO;have yP:S x b:=g1 _ aU;have tK:∀c,F c->aL.heap[c]? =w.heap[c]? :=λc ar=>qS c (by rintro rfl;exact h.hj x _ yP ar);have awN:hd.length=dv.length:=by rw[aA.length _ _ _ aF,aA.length _ _ _ g4,nb]
 have l3:=ck aL bM hd Sn tK (λc _ dV=>qS c dV) o2 nb
  (aA.frame tK _ _ _ (λc ar=>qS c (by rintro rfl;exact cj x _ ar yP)) aF) (λc ar mK=>cj x c ar (g1 _ mK))
 obtain⟨k,kE,rfl⟩:∃k kE,q=k::kE:=by
  cases q with
  |nil=>simp[I.gC]at ar
  |cons k q=>exact⟨k,q,rfl⟩
 have D9:∀v,eK (s x) v->eK (I.put (k::kE) bM (s x)) v:=by
  intro v aF;rcases xm k kE bM (s x)with⟨aE,gs,aO,e⟩|⟨aE,gs,aO,e⟩|⟨sz,xs,cH,aO,e⟩|⟨y,z,aO,e⟩|e
  .rw[e];rw[aO]at aF;exact aF
  ·
   rw[aO]at aF ao ar⊢;simp only[I.gC]at ar;split at ar
   .rename_i y hy;simp only[I.put,hy];cases kE with
    |nil=>simp[I.gC]at ar
    |cons cK gE=>
     simp only[eK]at aF⊢;obtain⟨arr,rfl,cf,mi⟩:=aF;refine⟨arr,rfl,by simpa using cf,λj e oB he yQ=>?_⟩;rw[getElem?_set]at he;split at he
     .rename_i Mq;subst Mq;split at he
      .simp only[some.injEq]at he;subst he;obtain⟨g1,g2,g3⟩:=mi _ y oB hy yQ;simp only[I.sub,hy]at ao;exact⟨TN g1,TO g2,g3.trans (I.A4 (cK::gE) y d bM ao nb).symm⟩
      .cases he
     .exact mi j e oB he yQ
   .cases ar
  .rw[e];rw[aO]at aF;exact aF
  .rw[e];rw[aO]at aF;exact aF
  .rw[e];exact aF
 have acL:(I.put (k::kE) bM (s x)).tree=true:=by
  rcases xm k kE bM (s x)with⟨aE,gs,aO,e⟩|⟨aE,gs,aO,e⟩|⟨sz,xs,cH,aO,e⟩|⟨y,z,aO,e⟩|e<;>rw[e]<;>first|rfl|exact aY
 let aH:=et (jc x s) x (I.put (k::kE) bM (s x))
 have iP:∀y,y≠x->(aH y).tree=true->aH y=s y/\aG y=aG y:=λy hy aY=>by
  have e:aH y=cG x (s y):=lE _ _ hy;rw[e]at aY⊢;exact⟨(HS aY).2,rfl⟩
 have mI:(aH x).plain=false->(s x).plain=false/\∀v,eK (s x) v->eK (aH x) v:=by
  intro _;refine⟨?_,?_⟩
  .cases b3:(s x).plain with
   |false=>rfl
   |true=>rw[I.TK _ _ b3]at ar;cases ar
  .simp only[aH,o3];exact D9
 refine⟨hk S x (λc=>e3 c\/Sn c),?_⟩;constructor;case iQ=>exact h.iQ
 case jv=>exact h.jv
 case gP=>exact λb ab=>by rw[fg];exact h.gP b ab
 case fS=>
  intro u c ab;rw[fg];simp only[hk]at ab;split at ab
  .rcases ab with ab|ab
   .exact h.fS x c (g1 c ab)
   .exact er c ab
  .exact h.fS u c ab
 case hj=>
  intro u c ab;simp only[hk]at ab;split at ab
  .rcases ab with ab|ab
   .exact h.hj x c (g1 c ab)
   .exact bK c ab
  .exact h.hj u c ab
 case gD=>
  intro u y c dV ab hy;simp only[hk]at ab hy;split at ab
  .rename_i hu;rw[if_neg (λe=>dV (hu.trans e.symm))]at hy;rcases ab with ab|ab
   .exact h.gD x y c (λe=>dV (hu.trans e)) (g1 c ab) hy
   .exact cj y c ab hy
  .rename_i hu;split at hy
   .rcases hy with hy|hy
    .exact h.gD u x c hu ab (g1 c hy)
    .exact cj u c hy ab
   .exact h.gD u y c dV ab hy
 case eR=>
  intro u c ab;simp only[hk]at ab;split at ab
  .rcases ab with ab|ab
   .exact h.eR x c (g1 c ab)
   .exact a7 c ab
  .exact h.eR u c ab
 case ey=>
  intro u;by_cases hu:u=x
  .subst hu;rw[o3,D5];exact(aS.dr acL).2 ⟨D9 _ an.1,l3⟩
  .rw[lE _ _ hu,D6 _ _ hu];have dV:∀y c,y≠x->S y c->aL.heap[c]? =w.heap[c]? :=λy c hy ar=>qS c (by rintro rfl;exact h.gD y x c hy ar yP);refine(aS.cG iP rfl mI (λy gE d2 hy ht D_=>?_) tK _).1 _ _ _ (Nat.le_refl _) (λc ar=>dV u c hu ar) (h.ey u);have Ea:=h.ey y;rw[aS.dr (ju ht D_)]at Ea;exact HR gE _ _ _ none d2 Ea.2 ht (λc ar=>dV y c hy ar)
 case old=>
  intro c er mJ;by_cases A7:c=b
  .subst A7;exfalso;rcases h.eR x c yP with kU|kU
   .exact mJ kU
   .omega
  .exact(qS c A7).trans (h.old c er mJ)
 case size=>rw[fg];exact h.size
 case os=>exact Ms.trans h.os
 case tape=>exact Mt.trans h.tape
 case output=>exact yO.trans h.output
 case gU=>exact h.gU
end
end Go.eg
