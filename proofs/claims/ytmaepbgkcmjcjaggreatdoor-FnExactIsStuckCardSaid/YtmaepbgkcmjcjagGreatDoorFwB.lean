/- Part of a proof that a law returns true for every input. No condition. -/
import Derived.Test.YtmaepbgkcmjcjagGreatDoorFwA
import Derived.Laws.AppendOwn
import Derived.Calls
namespace Go.ef
open List Option Go.IntKind Nat
inductive Df where
 |mp (es:awY)
 |j2
 |jr (T e:TypeId) (lO:axa)
inductive I where
 |hole
 |bool (b:Bool)
 |gw
 |int (k:IntKind) (n:Int)
 |str (s:axa)
 |en
 |a8
 |slice (xs:List I)
 |aj (sz:Nat) (xs:List I)
 |ref (d:I)
 |aM (d:I)
 |agg (aD:List I)
 |tuple (vs:List I)
 |fn (f:FuncId) (cap:List I)
 |h (x:Nat) (q:axd)
 |ax (x:Nat) (q:axd)
 |ab (x:Nat) (k:Nat)
 |b4 (o:Df)
 deriving Inhabited
abbrev axi:=List I
abbrev axh:=List (Nat×I)
mutual
def I.wd:I->Nat
 | .agg aD=>I.eY aD
 | .tuple aD=>I.eY aD
 |_=>1
def I.eY:axi->Nat
 |[]=>0
 |d::ds=>d.wd+I.eY ds
end
def jc (w:World) (b o:Nat) (cs:axg):Prop:=∀j c,cs[j]? =some c->w.cell? ⟨b,o+j,none⟩=some c
def po (fr:Nat×Nat) (n:Nat):Prop:=∀o,o<n->¬(fr.1<=o/\o<fr.2)
theorem po.le {fr:Nat×Nat} {m n:Nat} (h:po fr n) (hm:m<=n):po fr m:=λo bH=>h o (Nat.lt_of_lt_of_le bH hm)
theorem po.low {fr:Nat×Nat} {n k:Nat} (h:po fr (n+k)):po fr n:=h.le (le_add_right _ _)
def Value.hE:Value->Bool
 | .agg _=>false
 | .tuple _=>false
 |_=>true
def I.single:I->Bool
 | .agg _=>false
 | .tuple _=>false
 | .hole=>false
 |_=>true
def oi (w:World):Df->axg->(Nat->Prop)->Prop
 | .mp es,cs,S=>∃r ms pq,cs=[.map (some r)]/\S r/\w.heap[r]? =some (.map ms pq)/\ms.toList.map (λe=>(e.key,e.val))=es.map (λe=>(.string ⟨⟨e.1⟩⟩,.bool e.2))
 | .j2,cs,_=>cs=[.map none]
 | .jr T e lO,cs,S=>∃b a x8,cs=[.pointer (some ⟨b,0,none⟩)]/\S b/\w.heap[b]? =some (.cells #[a,x8] T (0,0))/\(a= .pointer none\/a= .pointer (some ⟨b,0,none⟩))/\
   ((lO=[]/\x8= .slice none 0 0)\/
     ∃g cap cur,x8= .slice (some ⟨g,0,none⟩) lO.length cap/\S g/\g≠b/\w.heap[g]? =some (.cells cur e (0,0))/\lO.length<=cap/\cap<=maxLen/\cur.size=cap/\
      cur.toList.take lO.length=lO.map λx=>.int .u8 x.toNat)
theorem oi.frame {w aL:World}:∀{o:Df} {cs:axg} {S:Nat->Prop},(∀b,S b->aL.heap[b]? =w.heap[b]?)->oi w o cs S->oi aL o cs S
 | .mp _,_,_,ca,⟨r,ms,pq,ad,ae,aI,bc⟩=>⟨r,ms,pq,ad,ae,(ca _ ae).trans aI,bc⟩
 | .j2,_,_,_,h=>h
 | .jr _ _ _,_,_,ca,⟨b,a,x8,ad,ae,aI,bc,bY⟩=>⟨b,a,x8,ad,ae,(ca _ ae).trans aI,bc,bY.imp (λh=>h) λ⟨g,cap,cur,wE,i2,i3,i4,i5⟩=>⟨g,cap,cur,wE,i2,i3,(ca _ i2).trans i4,i5⟩⟩
theorem oi.mono {w:World}:∀{o:Df} {cs:axg} {S aX:Nat->Prop},(∀b,S b->aX b)->oi w o cs S->oi w o cs aX
 | .mp _,_,_,_,ca,⟨r,ms,pq,ad,ae,aI⟩=>⟨r,ms,pq,ad,ca _ ae,aI⟩
 | .j2,_,_,_,_,h=>h
 | .jr _ _ _,_,_,_,ca,⟨b,a,x8,ad,ae,aI,bc,bY⟩=>⟨b,a,x8,ad,ca _ ae,aI,bc,bY.imp (λh=>h) λ⟨g,cap,cur,wE,i2,i3⟩=>⟨g,cap,cur,wE,ca _ i2,i3⟩⟩
theorem oi.one {w:World}:∀{o:Df} {cs:axg} {S:Nat->Prop},oi w o cs S->∃v,Value.hE v=true/\cs=[v]
 | .mp _,_,_,⟨_,_,_,h,_⟩=>⟨_,rfl,h⟩
 | .j2,_,_,h=>⟨_,rfl,h⟩
 | .jr _ _ _,_,_,⟨_,_,_,h,_⟩=>⟨_,rfl,h⟩
mutual
def aA (w:World) (F:Nat->Prop):I->axg->(Nat->Prop)->Prop
 | .hole,cs,_=>∃v,Value.hE v=true/\cs=[v]
 | .bool b,cs,_=>cs=[.bool b]
 | .gw,cs,_=>∃b,cs=[.bool b]
 | .int k n,cs,_=>cs=[.int k n]
 | .str s,cs,_=>cs=[.string ⟨⟨s⟩⟩]
 | .en,cs,_=>cs=[.pointer none]
 | .a8,cs,_=>cs=[.slice none 0 0]
 | .slice xs,cs,_=>(xs=[]/\∃a c,cs=[.slice a 0 c]/\c<=maxLen/\(a=none->c=0))\/
   ∃b o cap e9 sz,cs=[.slice (some ⟨b,o,none⟩) xs.length cap]/\F b/\xs.length<=cap/\cap<=maxLen/\(∀d∈xs,d.wd=sz)/\
    jc w b o e9/\bx w F xs e9 (λ_=>False)
 | .aj sz xs,cs,S=>(xs=[]/\∃a,cs=[.slice a 0 0])\/
   ∃b cap cur e fr aX,cs=[.slice (some ⟨b,0,none⟩) xs.length cap]/\S b/\w.heap[b]? =some (.cells cur e fr)/\po fr (cur.size+(sz-1))/\
    xs.length<=cap/\cap<=maxLen/\cur.size=cap*sz/\(∀d∈xs,d.wd=sz)/\bx w F xs (cur.toList.take (xs.length*sz)) aX/\(∀c,aX c->S c)/\¬aX b
 | .ref d,cs,_=>∃b o e9,cs=[.pointer (some ⟨b,o,none⟩)]/\F b/\jc w b o e9/\aA w F d e9 (λ_=>False)
 | .aM d,cs,S=>∃b cur e fr aX,cs=[.pointer (some ⟨b,0,none⟩)]/\S b/\w.heap[b]? =some (.cells cur e fr)/\po fr cur.size/\
   aA w F d cur.toList aX/\(∀c,aX c->S c)/\¬aX b
 | .agg aD,cs,S=>bx w F aD cs S
 | .tuple aD,cs,S=>bx w F aD cs S
 | .fn f caps,cs,_=>∃arr:Array Value,cs=[.func (.func f) #[] arr]/\(∀d∈caps,d.single=true)/\bx w F caps arr.toList (λ_=>False)
 | .h _ _,_,_=>False
 | .ax _ _,_,_=>False
 | .ab _ _,_,_=>False
 | .b4 o,cs,S=>oi w o cs S
def bx (w:World) (F:Nat->Prop):axi->axg->(Nat->Prop)->Prop
 |[],cs,_=>cs=[]
 |d::ds,cs,S=>∃cz c2 cA eI,cs=cz++c2/\aA w F d cz cA/\bx w F ds c2 eI/\(∀b,cA b->S b)/\(∀b,eI b->S b)/\(∀b,cA b->¬eI b)
end
theorem cell?_of_block {w aL:World} {b:Nat} (h:aL.heap[b]? =w.heap[b]?) (o:Nat):aL.cell? ⟨b,o,none⟩=w.cell? ⟨b,o,none⟩:=by
 simp[World.cell?,h]
theorem jc.frame {w aL:World} {b o:Nat} {cs:axg} (h:aL.heap[b]? =w.heap[b]?) (aQ:jc w b o cs):jc aL b o cs:=
 λj c ar=>(cell?_of_block h _).trans (aQ j c ar)
mutual
theorem aA.frame {w aL:World} {F:Nat->Prop} (bG:∀b,F b->aL.heap[b]? =w.heap[b]?):
  ∀(d:I) (cs:axg) (S:Nat->Prop),(∀b,S b->aL.heap[b]? =w.heap[b]?)->aA w F d cs S->aA aL F d cs S
 | .hole,_,_,_,h=>h
 | .bool _,_,_,_,h=>h
 | .gw,_,_,_,h=>h
 | .int _ _,_,_,_,h=>h
 | .str _,_,_,_,h=>h
 | .en,_,_,_,h=>h
 | .a8,_,_,_,h=>h
 | .slice xs,cs,S,ca,h=>by
   rw[aA]at h⊢;rcases h with h|⟨b,o,cap,e9,sz,ad,ae,aI,bc,bY,dt,dv⟩
   .exact .inl h
   .exact .inr ⟨b,o,cap,e9,sz,ad,ae,aI,bc,bY,dt.frame (bG _ ae),bx.frame bG xs _ _ (λ_ h=>h.elim) dv⟩
 | .aj sz xs,cs,S,ca,h=>by
   rw[aA]at h⊢;rcases h with h|⟨b,cap,cur,e,fr,aX,ad,ae,aI,bc,bY,dt,dv,hN,j3,kZ,oj⟩
   .exact .inl h
   .exact .inr ⟨b,cap,cur,e,fr,aX,ad,ae,(ca _ ae).trans aI,bc,bY,dt,dv,hN,bx.frame bG xs _ _ (λc ar=>ca _ (kZ _ ar)) j3,kZ,oj⟩
 | .ref d,cs,S,ca,h=>by
   rw[aA]at h⊢;obtain⟨b,o,e9,ad,ae,aI,bc⟩:=h;exact⟨b,o,e9,ad,ae,aI.frame (bG _ ae),aA.frame bG d _ _ (λ_ h=>h.elim) bc⟩
 | .aM d,cs,S,ca,h=>by
   rw[aA]at h⊢;obtain⟨b,cur,e,fr,aX,ad,ae,aI,bc,bY,dt,dv⟩:=h;exact⟨b,cur,e,fr,aX,ad,ae,(ca _ ae).trans aI,bc,aA.frame bG d _ _ (λc ar=>ca _ (dt _ ar)) bY,dt,dv⟩
 | .agg aD,cs,S,ca,h=>by rw[aA]at h⊢;exact bx.frame bG aD _ _ ca h
 | .tuple aD,cs,S,ca,h=>by rw[aA]at h⊢;exact bx.frame bG aD _ _ ca h
 | .fn _ caps,cs,S,ca,h=>by
   rw[aA]at h⊢;obtain⟨arr,ad,ae,aI⟩:=h;exact⟨arr,ad,ae,bx.frame bG caps _ _ (λ_ h=>h.elim) aI⟩
 | .h _ _,_,_,_,h=>h
 | .ax _ _,_,_,_,h=>h
 | .ab _ _,_,_,_,h=>h
 | .b4 _,_,_,ca,h=>oi.frame ca h
theorem bx.frame {w aL:World} {F:Nat->Prop} (bG:∀b,F b->aL.heap[b]? =w.heap[b]?):
  ∀(ds:axi) (cs:axg) (S:Nat->Prop),(∀b,S b->aL.heap[b]? =w.heap[b]?)->bx w F ds cs S->bx aL F ds cs S
 |[],_,_,_,h=>h
 |d::ds,cs,S,ca,h=>by
  rw[bx]at h⊢;obtain⟨cz,c2,cA,eI,ad,ae,aI,bc,bY,dt⟩:=h;exact⟨cz,c2,cA,eI,ad,aA.frame bG d _ _ (λb ab=>ca _ (bc _ ab)) ae,bx.frame bG ds _ _ (λb ab=>ca _ (bY _ ab)) aI,bc,bY,dt⟩
end
mutual
theorem aA.mono {w:World} {F cl:Nat->Prop} (bG:∀b,F b->cl b):
  ∀(d:I) (cs:axg) (S aX:Nat->Prop),(∀b,S b->aX b)->aA w F d cs S->aA w cl d cs aX
 | .hole,_,_,_,_,h=>h
 | .bool _,_,_,_,_,h=>h
 | .gw,_,_,_,_,h=>h
 | .int _ _,_,_,_,_,h=>h
 | .str _,_,_,_,_,h=>h
 | .en,_,_,_,_,h=>h
 | .a8,_,_,_,_,h=>h
 | .slice xs,cs,S,_,ca,h=>by
   rw[aA]at h⊢;rcases h with h|⟨b,o,cap,e9,sz,ad,ae,aI,bc,bY,dt,dv⟩
   .exact .inl h
   .exact .inr ⟨b,o,cap,e9,sz,ad,bG _ ae,aI,bc,bY,dt,bx.mono bG xs _ _ _ (λ_ h=>h) dv⟩
 | .aj sz xs,cs,S,_,ca,h=>by
   rw[aA]at h⊢;rcases h with h|⟨b,cap,cur,e,fr,aX,ad,ae,aI,bc,bY,dt,dv,hN,j3,kZ,oj⟩
   .exact .inl h
   .exact .inr ⟨b,cap,cur,e,fr,aX,ad,ca _ ae,aI,bc,bY,dt,dv,hN,bx.mono bG xs _ _ _ (λ_ h=>h) j3,λc ar=>ca _ (kZ _ ar),oj⟩
 | .ref d,cs,S,_,ca,h=>by
   rw[aA]at h⊢;obtain⟨b,o,e9,ad,ae,aI,bc⟩:=h;exact⟨b,o,e9,ad,bG _ ae,aI,aA.mono bG d _ _ _ (λ_ h=>h) bc⟩
 | .aM d,cs,S,_,ca,h=>by
   rw[aA]at h⊢;obtain⟨b,cur,e,fr,aX,ad,ae,aI,bc,bY,dt,dv⟩:=h;exact⟨b,cur,e,fr,aX,ad,ca _ ae,aI,bc,aA.mono bG d _ _ _ (λ_ h=>h) bY,λc ar=>ca _ (dt _ ar),dv⟩
 | .agg aD,cs,S,_,ca,h=>by rw[aA]at h⊢;exact bx.mono bG aD _ _ _ ca h
 | .tuple aD,cs,S,_,ca,h=>by rw[aA]at h⊢;exact bx.mono bG aD _ _ _ ca h
 | .fn _ caps,cs,S,_,ca,h=>by
   rw[aA]at h⊢;obtain⟨arr,ad,ae,aI⟩:=h;exact⟨arr,ad,ae,bx.mono bG caps _ _ _ (λ_ h=>h) aI⟩
 | .h _ _,_,_,_,_,h=>h
 | .ax _ _,_,_,_,_,h=>h
 | .ab _ _,_,_,_,_,h=>h
 | .b4 _,_,_,_,ca,h=>oi.mono ca h
theorem bx.mono {w:World} {F cl:Nat->Prop} (bG:∀b,F b->cl b):
  ∀(ds:axi) (cs:axg) (S aX:Nat->Prop),(∀b,S b->aX b)->bx w F ds cs S->bx w cl ds cs aX
 |[],_,_,_,_,h=>h
 |d::ds,cs,S,_,ca,h=>by
  rw[bx]at h⊢;obtain⟨cz,c2,cA,eI,ad,ae,aI,bc,bY,dt⟩:=h;exact⟨cz,c2,cA,eI,ad,aA.mono bG d _ _ _ (λ_ h=>h) ae,bx.mono bG ds _ _ _ (λ_ h=>h) aI,λb ab=>ca _ (bc _ ab),λb ab=>ca _ (bY _ ab),dt⟩
end
mutual
theorem aA.length {w:World} {F:Nat->Prop}:∀(d:I) (cs:axg) (S:Nat->Prop),aA w F d cs S->cs.length=d.wd
 | .hole,cs,S,h=>by rw[aA]at h;obtain⟨v,_,rfl⟩:=h;rfl
 | .bool _,cs,S,h=>by rw[aA]at h;subst h;rfl
 | .gw,cs,S,h=>by rw[aA]at h;obtain⟨b,rfl⟩:=h;rfl
 | .int _ _,cs,S,h=>by rw[aA]at h;subst h;rfl
 | .str _,cs,S,h=>by rw[aA]at h;subst h;rfl
 | .en,cs,S,h=>by rw[aA]at h;subst h;rfl
 | .a8,cs,S,h=>by rw[aA]at h;subst h;rfl
 | .slice xs,cs,S,h=>by
   rw[aA]at h;rcases h with⟨_,a,c,rfl,_⟩|⟨b,o,cap,e9,sz,rfl,_⟩<;>rfl
 | .aj sz xs,cs,S,h=>by
   rw[aA]at h;rcases h with⟨_,a,rfl⟩|⟨b,cap,cur,e,fr,aX,rfl,_⟩<;>rfl
 | .ref d,cs,S,h=>by rw[aA]at h;obtain⟨b,o,e9,rfl,_⟩:=h;rfl
 | .aM d,cs,S,h=>by rw[aA]at h;obtain⟨b,o,e9,_,_,rfl,_⟩:=h;rfl
 | .agg aD,cs,S,h=>by rw[aA]at h;exact bx.length aD _ _ h
 | .tuple aD,cs,S,h=>by rw[aA]at h;exact bx.length aD _ _ h
 | .fn _ _,cs,S,h=>by rw[aA]at h;obtain⟨arr,rfl,_⟩:=h;rfl
 | .h _ _,cs,S,h=>by rw[aA]at h;exact h.elim
 | .ax _ _,cs,S,h=>by rw[aA]at h;exact h.elim
 | .ab _ _,cs,S,h=>by rw[aA]at h;exact h.elim
 | .b4 _,cs,S,h=>by rw[aA]at h;obtain⟨v,_,rfl⟩:=oi.one h;rfl
theorem bx.length {w:World} {F:Nat->Prop}:∀(ds:axi) (cs:axg) (S:Nat->Prop),bx w F ds cs S->cs.length=I.eY ds
 |[],cs,S,h=>by rw[bx]at h;subst h;rfl
 |d::ds,cs,S,h=>by
  rw[bx]at h;obtain⟨cz,c2,cA,eI,rfl,ae,aI,_⟩:=h;rw[length_append,aA.length d _ _ ae,bx.length ds _ _ aI,I.eY]
end
mutual
def I.share:I->I
 | .aj _ xs=>.slice (I.shares xs)
 | .aM d=>.ref d.share
 | .slice xs=>.slice (I.shares xs)
 | .ref d=>.ref d.share
 | .agg aD=>.agg (I.shares aD)
 | .tuple aD=>.tuple (I.shares aD)
 | .b4 _=>.hole
 |d=>d
def I.shares:axi->axi
 |[]=>[]
 |d::ds=>d.share::I.shares ds
end
theorem I.wF (ds:axi):I.shares ds=ds.map I.share:=by
 induction ds with
 |nil=>rfl
 |cons d ds ih=>simp[I.shares,ih]
mutual
theorem I.G7:∀d:I,d.share.wd=d.wd
 | .hole=>rfl
 | .bool _=>rfl
 | .gw=>rfl
 | .int _ _=>rfl
 | .str _=>rfl
 | .en=>rfl
 | .a8=>rfl
 | .slice _=>rfl
 | .aj _ _=>rfl
 | .ref _=>rfl
 | .aM _=>rfl
 | .agg aD=>by simp only[I.share,I.wd];exact I.K_ aD
 | .tuple aD=>by simp only[I.share,I.wd];exact I.K_ aD
 | .fn _ _=>rfl
 | .h _ _=>rfl
 | .ax _ _=>rfl
 | .ab _ _=>rfl
 | .b4 _=>rfl
theorem I.K_:∀ds:axi,I.eY (I.shares ds)=I.eY ds
 |[]=>rfl
 |d::ds=>by simp only[I.shares,I.eY];rw[I.G7 d,I.K_ ds]
end
theorem Ao {w:World} {b:Nat} {cur:Array Value} {e:TypeId} {fr:Nat×Nat} (h:w.heap[b]? =some (.cells cur e fr)) (n:Nat):jc w b 0 (cur.toList.take n):=by
 intro j c ar;rw[getElem?_take]at ar;split at ar
 .simp[World.cell?,h];simpa using ar
 .cases ar
mutual
theorem aA.shared {w:World} {F cl:Nat->Prop} (bG:∀b,F b->cl b):
  ∀(d:I) (cs:axg) (S:Nat->Prop),(∀b,S b->cl b)->aA w F d cs S->aA w cl d.share cs (λ_=>False)
 | .hole,_,_,_,h=>h
 | .bool _,_,_,_,h=>h
 | .gw,_,_,_,h=>h
 | .int _ _,_,_,_,h=>h
 | .str _,_,_,_,h=>h
 | .en,_,_,_,h=>h
 | .a8,_,_,_,h=>h
 | .slice xs,cs,S,ca,h=>by
   rw[I.share,aA];rw[aA]at h;rcases h with⟨rfl,a,c,rfl,ar⟩|⟨b,o,cap,e9,sz,ad,ae,aI,bc,bY,dt,dv⟩
   .exact .inl ⟨rfl,a,c,rfl,ar⟩
   .refine .inr ⟨b,o,cap,e9,sz,?_,bG _ ae,?_,bc,?_,dt,bx.shared bG xs _ _ (λ_ h=>h.elim) dv⟩
    .simpa [I.wF]using ad
    .simpa [I.wF]using aI
    .intro d al;rw[I.wF]at al;obtain⟨bI,iS,rfl⟩:=mem_map.1 al;rw[I.G7];exact bY _ iS
 | .aj sz xs,cs,S,ca,h=>by
   rw[I.share,aA];rw[aA]at h;rcases h with⟨rfl,a,rfl⟩|⟨b,cap,cur,e,fr,aX,ad,ae,aI,bc,bY,dt,dv,hN,j3,kZ,oj⟩
   .exact .inl ⟨rfl,a,0,rfl,zero_le _,λ_=>rfl⟩
   .refine .inr ⟨b,0,cap,_,sz,?_,ca _ ae,?_,dt,?_,Ao aI _,bx.shared bG xs _ _ (λc ar=>ca _ (kZ _ ar)) j3⟩
    .simpa [I.wF]using ad
    .simpa [I.wF]using bY
    .intro d al;rw[I.wF]at al;obtain⟨bI,iS,rfl⟩:=mem_map.1 al;rw[I.G7];exact hN _ iS
 | .ref d,cs,S,ca,h=>by
   rw[I.share,aA];rw[aA]at h;obtain⟨b,o,e9,ad,ae,aI,bc⟩:=h;exact⟨b,o,e9,ad,bG _ ae,aI,aA.shared bG d _ _ (λ_ h=>h.elim) bc⟩
 | .aM d,cs,S,ca,h=>by
   rw[I.share,aA];rw[aA]at h;obtain⟨b,cur,e,fr,aX,ad,ae,aI,bc,bY,dt,dv⟩:=h;refine⟨b,0,cur.toList,ad,ca _ ae,?_,aA.shared bG d _ _ (λc ar=>ca _ (dt _ ar)) bY⟩;have:=Ao aI cur.toList.length
   rwa [take_length]at this
 | .agg aD,cs,S,ca,h=>by rw[I.share,aA];rw[aA]at h;exact bx.shared bG aD _ _ ca h
 | .tuple aD,cs,S,ca,h=>by rw[I.share,aA];rw[aA]at h;exact bx.shared bG aD _ _ ca h
 | .fn f caps,cs,S,ca,h=>by
   show aA w cl (.fn f caps) cs _;rw[aA]at h⊢;obtain⟨arr,ad,ae,aI⟩:=h;exact⟨arr,ad,ae,bx.mono bG caps _ _ _ (λ_ h=>h) aI⟩
 | .h _ _,_,_,_,h=>h
 | .ax _ _,_,_,_,h=>h
 | .ab _ _,_,_,_,h=>h
 | .b4 _,cs,S,ca,h=>by rw[aA]at h;rw[I.share,aA];exact oi.one h
theorem bx.shared {w:World} {F cl:Nat->Prop} (bG:∀b,F b->cl b):
  ∀(ds:axi) (cs:axg) (S:Nat->Prop),(∀b,S b->cl b)->bx w F ds cs S->bx w cl (I.shares ds) cs (λ_=>False)
 |[],_,_,_,h=>h
 |d::ds,cs,S,ca,h=>by
  simp only[I.shares];rw[bx]at h⊢;obtain⟨cz,c2,cA,eI,ad,ae,aI,bc,bY,dt⟩:=h;exact⟨cz,c2,_,_,ad,aA.shared bG d _ _ (λb ab=>ca _ (bc _ ab)) ae,bx.shared bG ds _ _ (λb ab=>ca _ (bY _ ab)) aI,λ_ h=>h,λ_ h=>h,λ_ h=>h.elim⟩
end
def I.sub:axd->I->Option I
 |[],d=>some d
 |k::q,.agg aD=>match aD[k]? with
  |some d=>I.sub q d
  |none=>none
 |k::q,.tuple aD=>match aD[k]? with
  |some d=>I.sub q d
  |none=>none
 |i::q,.aj _ xs=>match xs[i]? with
  |some d=>I.sub q d
  |none=>none
 |0::q,.aM d=>I.sub q d
 |_::_,_=>none
def I.put:axd->I->I->I
 |[],n,_=>n
 |k::q,n,.agg aD=>match aD[k]? with
  |some d=>.agg (aD.set k (I.put q n d))
  |none=>.agg aD
 |k::q,n,.tuple aD=>match aD[k]? with
  |some d=>.tuple (aD.set k (I.put q n d))
  |none=>.tuple aD
 |i::q,n,.aj sz xs=>match xs[i]? with
  |some d=>.aj sz (xs.set i (I.put q n d))
  |none=>.aj sz xs
 |0::q,n,.aM d=>.aM (I.put q n d)
 |_::_,_,d=>d
def p1 (w:World) (b o n:Nat):axg:=(range n).map λj=>(w.cell? ⟨b,o+j,none⟩).getD undef
theorem jc.p1 {w:World} {b o:Nat} {cs:axg} (h:jc w b o cs):p1 w b o cs.length=cs:=by
 unfold ef.p1;apply ext_getElem?;intro i;rw[getElem?_map];by_cases ag:i<cs.length
 .have:cs[i]? =some cs[i]:=getElem?_eq_getElem ag;simp[ag,h i _ this]
 .simp[ag]
def er (w:World):axd->I->axg->Option (Nat×Nat)->Option (I×axg×Option (Nat×Nat))
 |[],d,cs,a=>some (d,cs,a)
 |k::q,.agg aD,cs,a=>match aD[k]? with
  |some d=>er w q d ((cs.drop (I.eY (aD.take k))).take d.wd) (a.map λl=>(l.1,l.2+I.eY (aD.take k)))
  |none=>none
 |k::q,.tuple aD,cs,a=>match aD[k]? with
  |some d=>er w q d ((cs.drop (I.eY (aD.take k))).take d.wd) (a.map λl=>(l.1,l.2+I.eY (aD.take k)))
  |none=>none
 |i::q,.aj sz xs,cs,_=>match xs[i]?,cs with
  |some d,[.slice (some ⟨b,_,_⟩) _ _]=>er w q d (p1 w b (i*sz) sz) (some (b,i*sz))
  |_,_=>none
 |0::q,.aM d,cs,_=>match cs with
  |[.pointer (some ⟨b,_,_⟩)]=>er w q d (p1 w b 0 d.wd) (some (b,0))
  |_=>none
 |_::_,_,_,_=>none
theorem x9 (cz gZ c2:axg) (n m:Nat) (ad:cz.length=n) (ae:gZ.length=m):((cz++(gZ++c2)).drop n).take m=gZ:=by
 rw[drop_left' ad,take_left' ae]
theorem bx.pick {w:World} {F:Nat->Prop}:∀(ds:axi) (cs:axg) (S:Nat->Prop) (k:Nat) (d:I),
  bx w F ds cs S->ds[k]? =some d->∃(cz gZ c2:axg) (cA jd:Nat->Prop),cs=cz++(gZ++c2)/\cz.length=I.eY (ds.take k)/\
   (∀b,cA b->S b)/\(∀b,jd b->S b)/\(∀b,cA b->¬jd b)/\aA w F d gZ jd/\
   ∀(aL:World) (bI:I) (x_:axg) (aX:Nat->Prop),(∀b,F b->aL.heap[b]? =w.heap[b]?)->(∀b,cA b->aL.heap[b]? =w.heap[b]?)->
    aA aL F bI x_ aX->(∀b,aX b->¬cA b)->bx aL F (ds.set k bI) (cz++(x_++c2)) (λb=>cA b\/aX b)
 |[],_,_,_,_,_,au=>by simp at au
 |x::ds,cs,S,0,d,h,au=>by
  rw[bx]at h;obtain⟨cz,c2,iT,hO,rfl,ad,ae,bl,ab,kp⟩:=h;simp at au;subst au;refine⟨[],cz,c2,hO,iT,rfl,rfl,ab,bl,λb ab bl=>kp _ bl ab,ad,?_⟩;intro aL bI x_ aX bG ca al k1;simp only[set_cons_zero,nil_append];rw[bx];exact⟨x_,c2,aX,hO,rfl,al,bx.frame bG _ _ _ ca ae,λb h=>.inr h,λb h=>.inl h,λb h=>k1 b h⟩
 |x::ds,cs,S,k+1,d,h,au=>by
  rw[bx]at h;obtain⟨c0,aa3,iT,hO,rfl,ad,ae,bl,ab,kp⟩:=h;simp only[getElem?_cons_succ]at au;have aC:=aA.length _ _ _ ad;obtain⟨cz,gZ,c2,cA,jd,rfl,i0,wE,i2,i3,i5,La⟩:=bx.pick ds aa3 hO k d ae au;refine⟨c0++cz,gZ,c2,λb=>iT b\/cA b,jd,by simp,by simp[I.eY,aC,i0],?_,λb h=>ab _ (i2 _ h),?_,i5,?_⟩
  .rintro b (h|h)
   .exact bl _ h
   .exact ab _ (wE _ h)
  .rintro b (h|h) au
   .exact kp _ h (i2 _ au)
   .exact i3 _ h au
  .intro aL bI x_ aX bG ca al k1;simp only[set_cons_succ];rw[bx];refine⟨c0,cz++(x_++c2),iT,λb=>cA b\/aX b,by simp,aA.frame bG _ _ _ (λb ab=>ca b (.inl ab)) ad,
    La aL bI x_ aX bG (λb ab=>ca b (.inr ab)) al (λb ab ar=>k1 b ab (.inr ar)),λb h=>.inl (.inl h),?_,?_⟩
   .rintro b (h|h)
    .exact .inl (.inr h)
    .exact .inr h
   .rintro b h (bB|bB)
    .exact kp _ h (wE _ bB)
    .exact k1 _ bB (.inl h)
theorem Lb:∀(aD:axi) (k:Nat) (x y:I),aD[k]? =some x->y.wd=x.wd->I.eY (aD.set k y)=I.eY aD:=by
 intro aD;induction aD with
 |nil=>intro k x y h;simp at h
 |cons a aD ih=>
  intro k x y h e;cases k with
  |zero=>simp at h;subst h;simp[I.eY,e]
  |succ k=>simp at h;simp[I.eY,ih k x y h e]
theorem ya {sz:Nat}:∀(xs:axi),(∀d∈xs,d.wd=sz)->I.eY xs=xs.length*sz
 |[],_=>by simp[I.eY]
 |x::xs,h=>by
  rw[I.eY,h x (by simp),ya xs (λd al=>h d (by simp[al])),length_cons,Nat.add_mul,Nat.one_mul,Nat.add_comm]
theorem I.Ap:∀(q:axd) (av d bI:I),I.sub q av=some d->bI.wd=d.wd->(I.put q bI av).wd=av.wd:=by
 intro q;induction q with
 |nil=>intro av d bI h e;simp[I.sub]at h;subst h;simpa [I.put]using e
 |cons k q ih=>
  intro av d bI h e;cases av with
  |agg aD=>
   simp only[I.sub]at h;split at h
   .rename_i x an;simp only[I.put,an,I.wd];exact Lb _ _ _ _ an (ih _ _ _ h e)
   .cases h
  |tuple aD=>
   simp only[I.sub]at h;split at h
   .rename_i x an;simp only[I.put,an,I.wd];exact Lb _ _ _ _ an (ih _ _ _ h e)
   .cases h
  |aj sz xs=>
   simp only[I.sub]at h;split at h
   .rename_i x an;simp only[I.put,an,I.wd]
   .cases h
  |aM x=>
   cases k with
   |zero=>simp only[I.put,I.wd]
   |succ k=>simp[I.sub]at h
  |_=>simp[I.sub]at h
theorem Lc {sz:Nat} {xs:axi} {i:Nat} {y:I} (h:∀d∈xs,d.wd=sz) (hy:y.wd=sz):∀d∈xs.set i y,d.wd=sz:=by
 intro d al;rcases mem_or_eq_of_mem_set al with al|rfl
 .exact h d al
 .exact hy
theorem Aq {w:World} {b:Nat} {cur:Array Value} {e:TypeId} {fr:Nat×Nat} (h:w.heap[b]? =some (.cells cur e fr)) {l m r:axg} (ar:cur.toList=l++(m++r)):
  p1 w b l.length m.length=m:=by
 refine jc.p1 (λj c bE=>?_);have eB:j<m.length:=(List.getElem?_eq_some_iff.1 bE).1;have:cur.toList[l.length+j]? =some c:=by
  rw[ar,getElem?_append_right (by omega),getElem?_append_left (by omega)];rw[<-bE];congr 1;omega
 simp[World.cell?,h];simpa using this
def Flat (w:World) (F:Nat->Prop) (q:axd) (av:I) (cs:axg) (a:Option (Nat×Nat)) (d:I) (dp:axg) (dC:Option (Nat×Nat)) (e5:Nat->Prop):Prop:=
 ∃l r:axg,cs=l++(dp++r)/\dC=a.map (λx=>(x.1,x.2+l.length))/\
  ∀(aL:World) (bI:I) (g_:axg) (aX:Nat->Prop),(∀b,F b->aL.heap[b]? =w.heap[b]?)->(∀b,e5 b->aL.heap[b]? =w.heap[b]?)->
   bI.wd=d.wd->aA aL F bI g_ aX->(∀b,aX b->¬e5 b)->aA aL F (I.put q bI av) (l++(g_++r)) (λb=>e5 b\/aX b)
def Deep (w:World) (F:Nat->Prop) (q:axd) (av:I) (cs:axg) (d:I) (dp:axg) (dC:Option (Nat×Nat)) (e5:Nat->Prop):Prop:=
 ∃(b:Nat) (cur:Array Value) (e:TypeId) (fr:Nat×Nat) (l r:axg),dC=some (b,l.length)/\e5 b/\w.heap[b]? =some (.cells cur e fr)/\po fr cur.size/\cur.toList=l++(dp++r)/\
  ∀(aL:World) (bI:I) (g_:axg) (aX:Nat->Prop),(∀b,F b->aL.heap[b]? =w.heap[b]?)->(∀c,e5 c->c≠b->aL.heap[c]? =w.heap[c]?)->
   aL.heap[b]? =some (.cells (l++(g_++r)).toArray e fr)->
   bI.wd=d.wd->aA aL F bI g_ aX->(∀b,aX b->¬e5 b)->aA aL F (I.put q bI av) cs (λb=>e5 b\/aX b)
theorem ctx {w:World} {F:Nat->Prop}:∀(q:axd) (av:I) (cs:axg) (S:Nat->Prop) (a:Option (Nat×Nat)) (d:I),
  aA w F av cs S->I.sub q av=some d->∃(dp:axg) (dC:Option (Nat×Nat)) (e5 gm:Nat->Prop),er w q av cs a=some (d,dp,dC)/\
   (∀b,e5 b->S b)/\(∀b,gm b->S b)/\(∀b,e5 b->¬gm b)/\aA w F d dp gm/\(Flat w F q av cs a d dp dC e5\/Deep w F q av cs d dp dC e5):=by
 intro q;induction q with
 |nil=>
  intro av cs S a d h al;simp[I.sub]at al;subst al;refine⟨cs,a,λ_=>False,S,rfl,λ_ h=>h.elim,λ_ h=>h,λ_ h=>h.elim,h,.inl ⟨[],[],by simp,?_,?_⟩⟩
  .cases a<;>simp
  .intro aL bI g_ aX _ _ hw iS _;simp only[I.put,nil_append,append_nil];exact aA.mono (λ_ h=>h) _ _ _ _ (λb h=>.inr h) iS
 |cons k q ih=>
  have fields:∀(mk:axi->I) (Ld:∀(w:World) (F:Nat->Prop) (aD:axi) (cs:axg) (S:Nat->Prop),aA w F (mk aD) cs S=bx w F aD cs S) (aD:axi) (cs:axg) (S:Nat->Prop) (a:Option (Nat×Nat)) (x d:I),
    (lP:∀bI,I.put (k::q) bI (mk aD)=mk (aD.set k (I.put q bI x)))->bx w F aD cs S->aD[k]? =some x->I.sub q x=some d->
    ∃(dp:axg) (dC:Option (Nat×Nat)) (e5 gm:Nat->Prop),er w q x ((cs.drop (I.eY (aD.take k))).take x.wd) (a.map λl=>(l.1,l.2+I.eY (aD.take k)))=some (d,dp,dC)/\
    (∀b,e5 b->S b)/\(∀b,gm b->S b)/\(∀b,e5 b->¬gm b)/\aA w F d dp gm/\(Flat w F (k::q) (mk aD) cs a d dp dC e5\/Deep w F (k::q) (mk aD) cs d dp dC e5):=by
   intro mk Ld aD cs S a x d lP h an al;obtain⟨cz,gZ,c2,cA,jd,rfl,iU,hp,iV,kq,hc,oN⟩:=bx.pick aD cs S k x h an;have aC:=aA.length _ _ _ hc;rw[x9 cz gZ c2 _ _ iU aC];obtain⟨dp,dC,e5,gm,g0,g1,g2,g3,g4,g5⟩:=ih x _ jd (a.map λl=>(l.1,l.2+I.eY (aD.take k))) d hc al;refine⟨dp,dC,λb=>cA b\/e5 b,gm,g0,?_,λb ab=>iV _ (g2 _ ab),?_,g4,?_⟩
   .rintro b (h|h)
    .exact hp _ h
    .exact iV _ (g1 _ h)
   .rintro b (h|h) al
    .exact kq _ h (g2 _ al)
    .exact g3 _ h al
   .have fS:∀(b:Nat) (aX:Nat->Prop),(cA b\/e5 b\/aX b)->((cA b\/e5 b)\/aX b):=by
     rintro b aX (ab|ab|ab)
     .exact .inl (.inl ab)
     .exact .inl (.inr ab)
     .exact .inr ab
    rcases g5 with⟨l,r,rfl,aU,aR⟩|⟨b,cur,e,fr,l,r,aN,aU,aR,bW,cM,cg⟩
    .refine .inl ⟨cz++l,r++c2,by simp,?_,?_⟩
     .rw[aU,<-iU];cases a<;>simp[Nat.add_assoc]
     .intro aL bI g_ aX bG ca hw iS k1;have ea:=aR aL bI g_ aX bG (λb ab=>ca b (.inr ab)) hw iS (λb ab ar=>k1 b ab (.inr ar));have bf:=oN aL _ _ _ bG (λb ab=>ca b (.inl ab)) ea (by
       rintro b (ab|ab) ad
       .exact kq _ ad (g1 _ ab)
       .exact k1 _ ab (.inl ad))
      rw[lP,Ld];have:=bx.mono (λ_ h=>h) _ _ _ _ (λb=>fS b aX) bf;simpa using this
    .refine .inr ⟨b,cur,e,fr,l,r,aN,.inr aU,aR,bW,cM,?_⟩;intro aL bI g_ aX bG ca oO hw iS k1;have ea:=cg aL bI g_ aX bG (λc ar=>ca c (.inr ar)) oO hw iS (λb ab ar=>k1 b ab (.inr ar));have bf:=oN aL _ _ _ bG (λc ar=>ca c (.inl ar) (by rintro rfl;exact kq _ ar (g1 _ aU))) ea (by
       rintro b (ab|ab) ad
       .exact kq _ ad (g1 _ ab)
       .exact k1 _ ab (.inl ad))
     rw[lP,Ld];exact bx.mono (λ_ h=>h) _ _ _ _ (λb=>fS b aX) bf
  intro av cs S a d h al;cases av with
  |agg aD=>
   simp only[I.sub]at al;split at al
   .rename_i x an;rw[aA]at h;have:=fields .agg (λ_ _ _ _ _=>by rw[aA]) aD cs S a x d (λbI=>by simp only[I.put,an]) h an al;simpa only[er,an]using this
   .cases al
  |tuple aD=>
   simp only[I.sub]at al;split at al
   .rename_i x an;rw[aA]at h;have:=fields .tuple (λ_ _ _ _ _=>by rw[aA]) aD cs S a x d (λbI=>by simp only[I.put,an]) h an al;simpa only[er,an]using this
   .cases al
  |aj sz xs=>
   simp only[I.sub]at al;split at al
   .rename_i x an;rw[aA]at h;rcases h with⟨rfl,_,rfl⟩|⟨b,cap,cur,e,fr,eS,rfl,ae,aI,bc,bY,dt,dv,hN,j3,kZ,oj⟩
    .simp at an
    .obtain⟨cz,gZ,c2,cA,jd,p,iU,hp,iV,kq,hc,oN⟩:=bx.pick xs _ eS k x j3 an;have aC:=aA.length _ _ _ hc;have aa4:k<xs.length:=(List.getElem?_eq_some_iff.1 an).1;have Dg:x.wd=sz:=hN x (mem_of_getElem? an);have bH:I.eY (xs.take k)=k*sz:=by
      rw[ya _ (λd al=>hN d (mem_of_mem_take al))];rw[length_take,Nat.min_eq_left (by omega)]
     obtain⟨uR,pr⟩:∃uR,cur.toList=cz++(gZ++(c2++uR)):=by
      refine⟨cur.toList.drop (xs.length*sz),?_⟩;have:=(take_append_drop (xs.length*sz) cur.toList).symm;rw[p]at this;simpa using this
     have mc:p1 w b (k*sz) sz=gZ:=by
      have:=Aq aI pr
      rwa [iU,bH,aC,Dg]at this
     obtain⟨dp,dC,e5,gm,g0,g1,g2,g3,g4,g5⟩:=ih x _ jd (some (b,k*sz)) d hc al;have lP:∀bI,I.put (k::q) bI (.aj sz xs)= .aj sz (xs.set k (I.put q bI x)):=λbI=>by simp only[I.put,an]
     refine⟨dp,dC,λc=>c=b\/cA c\/e5 c,gm,?_,?_,λc ar=>kZ _ (iV _ (g2 _ ar)),?_,g4,.inr ?_⟩
     .simp only[er,an,mc];exact g0
     .rintro c (rfl|h|h)
      .exact ae
      .exact kZ _ (hp _ h)
      .exact kZ _ (iV _ (g1 _ h))
     .rintro c (rfl|h|h) al
      .exact oj (iV _ (g2 _ al))
      .exact kq _ h (g2 _ al)
      .exact g3 _ h al
     .have mX:∀bI,bI.wd=d.wd->(I.put q bI x).wd=sz:=λbI hw=>(I.Ap q x d bI al hw).trans Dg;rcases g5 with⟨l,r,rfl,aU,aR⟩|⟨gM,Le,hd,Lf,l,r,aN,aU,aR,bW,cM,cg⟩
      .refine⟨b,cur,e,fr,cz++l,r++(c2++uR),?_,.inl rfl,aI,bc.low,?_,?_⟩
       .rw[aU];simp[iU,bH]
       .rw[pr];simp
       .intro aL bI g_ aX bG ca oO hw iS k1;have ea:=aR aL bI g_ aX bG (λc ar=>ca c (.inr (.inr ar)) (by rintro rfl;exact oj (iV _ (g1 _ ar)))) hw iS (λb ab ar=>k1 b ab (.inr (.inr ar)));have bf:=oN aL _ _ _ bG (λc ar=>ca c (.inr (.inl ar)) (by rintro rfl;exact oj (hp _ ar))) ea (by
         rintro b (ab|ab) ad
         .exact kq _ ad (g1 _ ab)
         .exact k1 _ ab (.inr (.inl ad)))
        have Dh:=aA.length _ _ _ iS;have Di:=aA.length _ _ _ g4;rw[lP,aA];refine .inr ⟨b,cap,_,e,fr,λb=>cA b\/e5 b\/aX b,by simp,.inl (.inl rfl),oO,?_,by simpa using bY,dt,?_,Lc hN (mX bI hw),?_,?_,?_⟩
        .have:(cz++l++(g_++(r++(c2++uR)))).toArray.size=cur.size:=by
          have:cur.size=cur.toList.length:=by simp
          rw[this,pr];simp[Dh,Di,hw]
         rw[this];exact bc
        .rw[<-dv];have:cur.size=cur.toList.length:=by simp
         rw[this,pr];simp[Dh,Di,hw]
        .have hlen:(cz++(l++(g_++r)++c2)).length=xs.length*sz:=by
          have:=congrArg length p;rw[length_take,Nat.min_eq_left (by simp[dv];exact mul_le_mul_right _ bY)]at this;rw[this];simp[Dh,Di,hw]
         have:(cz++l++(g_++(r++(c2++uR))))=(cz++(l++(g_++r)++c2))++uR:=by simp
         rw[length_set];simp only[this];rw[take_left' hlen];exact bf
        .rintro c (h|h|h)
         .exact .inl (.inr (.inl h))
         .exact .inl (.inr (.inr h))
         .exact .inr h
        .rintro(h|h|h)
         .exact oj (hp _ h)
         .exact oj (iV _ (g1 _ h))
         .exact k1 _ h (.inl rfl)
      .refine⟨gM,Le,hd,Lf,l,r,aN,.inr (.inr aU),aR,bW,cM,?_⟩;intro aL bI g_ aX bG ca oO hw iS k1;have ea:=cg aL bI g_ aX bG (λc ar dQ=>ca c (.inr (.inr ar)) dQ) oO hw iS (λb ab ar=>k1 b ab (.inr (.inr ar)));have dQ:∀c,cA c->c≠gM:=by rintro c ar rfl;exact kq _ ar (g1 _ aU)
       have bf:=oN aL _ _ _ bG (λc ar=>ca c (.inr (.inl ar)) (dQ c ar)) ea (by
        rintro b (ab|ab) ad
        .exact kq _ ad (g1 _ ab)
        .exact k1 _ ab (.inr (.inl ad)))
       have Lg:b≠gM:=by rintro rfl;exact oj (iV _ (g1 _ aU))
       rw[lP,aA];refine .inr ⟨b,cap,cur,e,fr,λb=>cA b\/e5 b\/aX b,by simp,.inl (.inl rfl),(ca b (.inl rfl) Lg).trans aI,bc,by simpa using bY,dt,dv,Lc hN (mX bI hw),?_,?_,?_⟩
       .rw[length_set,p];exact bf
       .rintro c (h|h|h)
        .exact .inl (.inr (.inl h))
        .exact .inl (.inr (.inr h))
        .exact .inr h
       .rintro(h|h|h)
        .exact oj (hp _ h)
        .exact oj (iV _ (g1 _ h))
        .exact k1 _ h (.inl rfl)
   .cases al
  |aM x=>
   cases k with
   |succ k=>simp[I.sub]at al
   |zero=>
    simp only[I.sub]at al;rw[aA]at h;obtain⟨b,cur,e,fr,eS,rfl,ae,aI,bc,bY,dt,dv⟩:=h;have aC:=aA.length _ _ _ bY;have mc:p1 w b 0 x.wd=cur.toList:=by
     have:=Aq (l:=[]) (m:=cur.toList) (r:=[]) aI (by simp)
     rwa [aC]at this
    obtain⟨dp,dC,e5,gm,g0,g1,g2,g3,g4,g5⟩:=ih x _ eS (some (b,0)) d bY al;have lP:∀bI,I.put (0::q) bI (.aM x)= .aM (I.put q bI x):=λbI=>rfl;refine⟨dp,dC,λc=>c=b\/e5 c,gm,?_,?_,λc ar=>dt _ (g2 _ ar),?_,g4,.inr ?_⟩
    .simp only[er,mc];exact g0
    .rintro c (rfl|h)
     .exact ae
     .exact dt _ (g1 _ h)
    .rintro c (rfl|h) al
     .exact dv (g2 _ al)
     .exact g3 _ h al
    .rcases g5 with⟨l,r,aN,aU,aR⟩|⟨gM,Le,hd,Lf,l,r,aN,aU,aR,bW,cM,cg⟩
     .refine⟨b,cur,e,fr,l,r,?_,.inl rfl,aI,bc,aN,?_⟩
      .rw[aU];simp
      .intro aL bI g_ aX bG ca oO hw iS k1;have ea:=aR aL bI g_ aX bG (λc ar=>ca c (.inr ar) (by rintro rfl;exact dv (g1 _ ar))) hw iS (λb ab ar=>k1 b ab (.inr ar));have Dh:=aA.length _ _ _ iS;have Di:=aA.length _ _ _ g4;rw[lP,aA];refine⟨b,_,e,fr,λb=>e5 b\/aX b,rfl,.inl (.inl rfl),oO,?_,ea,?_,?_⟩
       .have:(l++(g_++r)).toArray.size=cur.size:=by
         have:cur.size=cur.toList.length:=by simp
         rw[this,aN];simp[Dh,Di,hw]
        rw[this];exact bc
       .rintro c (h|h)
        .exact .inl (.inr h)
        .exact .inr h
       .rintro(h|h)
        .exact dv (g1 _ h)
        .exact k1 _ h (.inl rfl)
     .refine⟨gM,Le,hd,Lf,l,r,aN,.inr aU,aR,bW,cM,?_⟩;intro aL bI g_ aX bG ca oO hw iS k1;have ea:=cg aL bI g_ aX bG (λc ar dQ=>ca c (.inr ar) dQ) oO hw iS (λb ab ar=>k1 b ab (.inr ar));have Lg:b≠gM:=by rintro rfl;exact dv (g1 _ aU)
      rw[lP,aA];refine⟨b,cur,e,fr,λb=>e5 b\/aX b,rfl,.inl (.inl rfl),(ca b (.inl rfl) Lg).trans aI,bc,ea,?_,?_⟩
      .rintro c (h|h)
       .exact .inl (.inr h)
       .exact .inr h
      .rintro(h|h)
       .exact dv (g1 _ h)
       .exact k1 _ h (.inl rfl)
  |_=>simp[I.sub]at al
mutual
def I.plain:I->Bool
 | .aj _ _=>false
 | .aM _=>false
 | .b4 _=>false
 | .agg aD=>I.hz aD
 | .tuple aD=>I.hz aD
 |_=>true
def I.hz:axi->Bool
 |[]=>true
 |d::ds=>d.plain&&I.hz ds
end
mutual
def I.dN:I->I
 | .aj _ _=>.hole
 | .aM _=>.hole
 | .b4 _=>.hole
 | .agg aD=>.agg (I.nN aD)
 | .tuple aD=>.tuple (I.nN aD)
 |d=>d
def I.nN:axi->axi
 |[]=>[]
 |d::ds=>d.dN::I.nN ds
end
mutual
theorem I.wG:∀d:I,d.dN.wd=d.wd
 | .hole=>rfl
 | .bool _=>rfl
 | .gw=>rfl
 | .int _ _=>rfl
 | .str _=>rfl
 | .en=>rfl
 | .a8=>rfl
 | .slice _=>rfl
 | .aj _ _=>rfl
 | .ref _=>rfl
 | .aM _=>rfl
 | .agg aD=>by simp only[I.dN,I.wd];exact I.Lh aD
 | .tuple aD=>by simp only[I.dN,I.wd];exact I.Lh aD
 | .fn _ _=>rfl
 | .h _ _=>rfl
 | .ax _ _=>rfl
 | .ab _ _=>rfl
 | .b4 _=>rfl
theorem I.Lh:∀ds:axi,I.eY (I.nN ds)=I.eY ds
 |[]=>rfl
 |d::ds=>by simp only[I.nN,I.eY];rw[I.wG d,I.Lh ds]
end
mutual
theorem aA.dN {w:World} {F:Nat->Prop}:∀(d:I) (cs:axg) (S aX:Nat->Prop),aA w F d cs S->aA w F d.dN cs aX
 | .hole,_,_,_,h=>h
 | .bool _,_,_,_,h=>h
 | .gw,_,_,_,h=>h
 | .int _ _,_,_,_,h=>h
 | .str _,_,_,_,h=>h
 | .en,_,_,_,h=>h
 | .a8,_,_,_,h=>h
 | .slice xs,cs,S,aX,h=>by
   show aA w F (.slice xs) cs aX;rw[aA]at h⊢;exact h
 | .aj sz xs,cs,S,aX,h=>by
   rw[I.dN,aA];rw[aA]at h;rcases h with⟨_,_,rfl⟩|⟨b,cap,cur,e,fr,eS,rfl,_⟩
   .exact⟨_,rfl,rfl⟩
   .exact⟨_,rfl,rfl⟩
 | .ref d,cs,S,aX,h=>by
   show aA w F (.ref d) cs aX;rw[aA]at h⊢;exact h
 | .aM d,cs,S,aX,h=>by
   rw[I.dN,aA];rw[aA]at h;obtain⟨b,cur,e,fr,eS,rfl,_⟩:=h;exact⟨_,rfl,rfl⟩
 | .agg aD,cs,S,aX,h=>by rw[I.dN,aA];rw[aA]at h;exact bx.dN aD _ _ _ h
 | .tuple aD,cs,S,aX,h=>by rw[I.dN,aA];rw[aA]at h;exact bx.dN aD _ _ _ h
 | .fn _ _,_,_,_,h=>h
 | .h _ _,_,_,_,h=>h
 | .ax _ _,_,_,_,h=>h
 | .ab _ _,_,_,_,h=>h
 | .b4 _,_,_,_,h=>by rw[aA]at h;rw[I.dN,aA];exact oi.one h
theorem bx.dN {w:World} {F:Nat->Prop}:∀(ds:axi) (cs:axg) (S aX:Nat->Prop),bx w F ds cs S->bx w F (I.nN ds) cs aX
 |[],_,_,_,h=>h
 |d::ds,cs,S,aX,h=>by
  rw[I.nN,bx];rw[bx]at h;obtain⟨cz,c2,cA,eI,ad,ae,aI,bc,bY,dt⟩:=h;exact⟨cz,c2,λ_=>False,λ_=>False,ad,aA.dN d _ _ _ ae,bx.dN ds _ _ _ aI,λ_ h=>h.elim,λ_ h=>h.elim,λ_ h=>h.elim⟩
end
mutual
theorem aA.plain {w:World} {F:Nat->Prop}:∀(d:I) (cs:axg) (S aX:Nat->Prop),d.plain=true->aA w F d cs S->aA w F d cs aX
 | .hole,_,_,_,_,h=>h
 | .bool _,_,_,_,_,h=>h
 | .gw,_,_,_,_,h=>h
 | .int _ _,_,_,_,_,h=>h
 | .str _,_,_,_,_,h=>h
 | .en,_,_,_,_,h=>h
 | .a8,_,_,_,_,h=>h
 | .slice xs,cs,S,aX,_,h=>by rw[aA]at h⊢;exact h
 | .aj sz xs,cs,S,aX,ax,h=>by simp[I.plain]at ax
 | .ref d,cs,S,aX,_,h=>by rw[aA]at h⊢;exact h
 | .aM d,cs,S,aX,ax,h=>by simp[I.plain]at ax
 | .agg aD,cs,S,aX,ax,h=>by rw[aA]at h⊢;exact bx.plain aD _ _ _ ax h
 | .tuple aD,cs,S,aX,ax,h=>by rw[aA]at h⊢;exact bx.plain aD _ _ _ ax h
 | .fn _ _,_,_,_,_,h=>h
 | .h _ _,_,_,_,_,h=>h
 | .ax _ _,_,_,_,_,h=>h
 | .ab _ _,_,_,_,_,h=>h
 | .b4 _,_,_,_,ax,_=>by simp[I.plain]at ax
theorem bx.plain {w:World} {F:Nat->Prop}:∀(ds:axi) (cs:axg) (S aX:Nat->Prop),I.hz ds=true->bx w F ds cs S->bx w F ds cs aX
 |[],_,_,_,_,h=>h
 |d::ds,cs,S,aX,ax,h=>by
  rw[bx]at h⊢;simp only[I.hz,Bool.and_eq_true]at ax;obtain⟨cz,c2,cA,eI,ad,ae,aI,bc,bY,dt⟩:=h;exact⟨cz,c2,λ_=>False,λ_=>False,ad,aA.plain d _ _ _ ax.1 ae,bx.plain ds _ _ _ ax.2 aI,λ_ h=>h.elim,λ_ h=>h.elim,λ_ h=>h.elim⟩
end
def I.gD:axd->I->Bool
 |[],_=>false
 |k::q,.agg aD=>match aD[k]? with
  |some d=>I.gD q d
  |none=>false
 |k::q,.tuple aD=>match aD[k]? with
  |some d=>I.gD q d
  |none=>false
 |_::_,.aj _ _=>true
 |_::_,.aM _=>true
 |_::_,_=>false
theorem G8 {aD:axi} (h:I.hz aD=true) {k:Nat} {d:I} (au:aD[k]? =some d):d.plain=true:=by
 induction aD generalizing k with
 |nil=>simp at au
 |cons a aD ih=>
  simp only[I.hz,Bool.and_eq_true]at h;cases k with
  |zero=>simp at au;subst au;exact h.1
  |succ k=>simp at au;exact ih h.2 au
theorem I.Sk:∀(q:axd) (d:I),d.plain=true->I.gD q d=false:=by
 intro q;induction q with
 |nil=>intros;rfl
 |cons k q ih=>
  intro d al;cases d<;>first|rfl|(simp[I.plain]at al;done)|skip
  all_goals
   simp only[I.gD];split
   .rename_i aD x an;exact ih _ (G8 (by simpa [I.plain]using al) an)
   .rfl
theorem I.Li:∀(q:axd) (d e:I),d.plain=true->I.sub q d=some e->e.plain=true:=by
 intro q;induction q with
 |nil=>intro d e al h;simp[I.sub]at h;exact h▸al
 |cons k q ih=>
  intro d e al h;cases d<;>first|(simp[I.plain]at al;done)|(simp[I.sub]at h;done)|skip
  all_goals
   simp only[I.sub]at h;split at h
   .rename_i aD x an;exact ih _ _ (G8 (by simpa [I.plain]using al) an) h
   .cases h
theorem G9 {w aL:World} {F:Nat->Prop}:∀(q:axd) (av:I) (cs:axg) (S:Nat->Prop) (a:Option (Nat×Nat)) (d:I),
  aA w F av cs S->I.sub q av=some d->(∀b,S b->aL.heap[b]? =w.heap[b]?)->er aL q av cs a=er w q av cs a:=by
 intro q;induction q with
 |nil=>intros;rfl
 |cons k q ih=>
  have fields:∀(aD:axi) (cs:axg) (S:Nat->Prop) (a:Option (Nat×Nat)) (x d:I),bx w F aD cs S->aD[k]? =some x->I.sub q x=some d->
    (∀b,S b->aL.heap[b]? =w.heap[b]?)->
    er aL q x ((cs.drop (I.eY (aD.take k))).take x.wd) (a.map λl=>(l.1,l.2+I.eY (aD.take k)))=er w q x ((cs.drop (I.eY (aD.take k))).take x.wd) (a.map λl=>(l.1,l.2+I.eY (aD.take k))):=by
   intro aD cs S a x d h an al ca;obtain⟨cz,gZ,c2,cA,jd,rfl,iU,hp,iV,kq,hc,oN⟩:=bx.pick aD cs S k x h an;rw[x9 cz gZ c2 _ _ iU (aA.length _ _ _ hc)];exact ih x gZ jd _ d hc al (λb ab=>ca b (iV _ ab))
  intro av cs S a d h al ca;cases av with
  |agg aD=>
   simp only[I.sub]at al;split at al
   .rename_i x an;rw[aA]at h;simp only[er,an];exact fields aD cs S a x d h an al ca
   .cases al
  |tuple aD=>
   simp only[I.sub]at al;split at al
   .rename_i x an;rw[aA]at h;simp only[er,an];exact fields aD cs S a x d h an al ca
   .cases al
  |aj sz xs=>
   simp only[I.sub]at al;split at al
   .rename_i x an;rw[aA]at h;rcases h with⟨rfl,_,rfl⟩|⟨b,cap,cur,e,fr,eS,rfl,ae,aI,bc,bY,dt,dv,hN,j3,kZ,oj⟩
    .simp at an
    .obtain⟨cz,gZ,c2,cA,jd,p,iU,hp,iV,kq,hc,oN⟩:=bx.pick xs _ eS k x j3 an;have aC:=aA.length _ _ _ hc;have aa4:k<xs.length:=(List.getElem?_eq_some_iff.1 an).1;have Dg:x.wd=sz:=hN x (mem_of_getElem? an);have bH:I.eY (xs.take k)=k*sz:=by
      rw[ya _ (λd al=>hN d (mem_of_mem_take al))];rw[length_take,Nat.min_eq_left (by omega)]
     obtain⟨uR,pr⟩:∃uR,cur.toList=cz++(gZ++(c2++uR)):=by
      refine⟨cur.toList.drop (xs.length*sz),?_⟩;have:=(take_append_drop (xs.length*sz) cur.toList).symm;rw[p]at this;simpa using this
     have mc:p1 w b (k*sz) sz=gZ:=by
      have:=Aq aI pr
      rwa [iU,bH,aC,Dg]at this
     have Lj:p1 aL b (k*sz) sz=gZ:=by
      have:=Aq ((ca b ae).trans aI) pr
      rwa [iU,bH,aC,Dg]at this
     simp only[er,an,mc,Lj];exact ih x gZ jd _ d hc al (λc ar=>ca c (kZ _ (iV _ ar)))
   .cases al
  |aM x=>
   cases k with
   |succ k=>simp[I.sub]at al
   |zero=>
    simp only[I.sub]at al;rw[aA]at h;obtain⟨b,cur,e,fr,eS,rfl,ae,aI,bc,bY,dt,dv⟩:=h;have aC:=aA.length _ _ _ bY;have mc:p1 w b 0 x.wd=cur.toList:=by
     have:=Aq (l:=[]) (m:=cur.toList) (r:=[]) aI (by simp)
     rwa [aC]at this
    have Lj:p1 aL b 0 x.wd=cur.toList:=by
     have:=Aq (l:=[]) (m:=cur.toList) (r:=[]) ((ca b ae).trans aI) (by simp)
     rwa [aC]at this
    simp only[er,mc,Lj];exact ih x cur.toList eS _ d bY al (λc ar=>ca c (dt _ ar))
  |_=>simp[I.sub]at al
def je:Value->axg
 | .agg cs=>cs.toList
 |v=>[v]
def c8:Value->axg
 | .tuple vs=>vs.toList.flatMap je
 |v=>je v
def jM:I->Value->Prop
 | .agg _,v=>∃arr,v= .agg arr
 |_,v=>Value.hE v=true
def eM:I->Value->Prop
 | .tuple ds,v=>∃arr:Array Value,v= .tuple arr/\arr.size=ds.length/\∀(k:Nat) (d:I) (x:Value),ds[k]? =some d->arr[k]? =some x->jM d x/\(∀vs,d≠.tuple vs)/\(je x).length=d.wd
 |d,v=>jM d v
abbrev ak:=Nat->I
mutual
def aO (w:World) (F:Nat->Prop) (s:ak) (aG:Nat->Value):I->Value->(Nat->Prop)->Prop
 | .hole,_,_=>True
 | .h x q,v,_=>∀d,I.sub q (s x)=some d->d.plain=false->∃dp a,er w q (s x) (c8 (aG x)) none=some (d,dp,a)/\c8 v=dp/\eM d v
 | .ax x q,v,_=>∀d,I.sub q (s x)=some d->I.gD q (s x)=true->∃dp b o,er w q (s x) (c8 (aG x)) none=some (d,dp,some (b,o))/\v= .pointer (some ⟨b,o,none⟩)
 | .ab x k,v,_=>(s x).plain=false->∃b cur e fr,v= .pointer (some ⟨b,k,none⟩)/\F b/\w.heap[b]? =some (.cells cur e fr)/\cur.toList=c8 (aG x)
 | .fn f cap,v,_=>∃arr:Array Value,v= .func (.func f) #[] arr/\fm w F s aG cap arr.toList
 | .bool b,v,S=>eM (.bool b) v/\aA w F (.bool b) (c8 v) S
 | .gw,v,S=>eM .gw v/\aA w F .gw (c8 v) S
 | .int k n,v,S=>eM (.int k n) v/\aA w F (.int k n) (c8 v) S
 | .str x,v,S=>eM (.str x) v/\aA w F (.str x) (c8 v) S
 | .en,v,S=>eM .en v/\aA w F .en (c8 v) S
 | .a8,v,S=>eM .a8 v/\aA w F .a8 (c8 v) S
 | .slice xs,v,S=>eM (.slice xs) v/\aA w F (.slice xs) (c8 v) S
 | .aj sz xs,v,S=>eM (.aj sz xs) v/\aA w F (.aj sz xs) (c8 v) S
 | .ref d,v,S=>eM (.ref d) v/\aA w F (.ref d) (c8 v) S
 | .aM d,v,S=>eM (.aM d) v/\aA w F (.aM d) (c8 v) S
 | .agg d,v,S=>eM (.agg d) v/\aA w F (.agg d) (c8 v) S
 | .tuple d,v,S=>eM (.tuple d) v/\aA w F (.tuple d) (c8 v) S
 | .b4 o,v,S=>eM (.b4 o) v/\aA w F (.b4 o) (c8 v) S
def fm (w:World) (F:Nat->Prop) (s:ak) (aG:Nat->Value):axi->axg->Prop
 |[],vs=>vs=[]
 |d::ds,vs=>∃v nO,vs=v::nO/\aO w F s aG d v (λ_=>False)/\fm w F s aG ds nO
end
def I.tree:I->Bool
 | .hole=>false
 | .h _ _=>false
 | .ax _ _=>false
 | .ab _ _=>false
 | .fn _ _=>false
 |_=>true
theorem aO.dk {w:World} {F:Nat->Prop} {s:ak} {aG:Nat->Value} {d:I} {v:Value} {S:Nat->Prop} (aZ:d.tree=true):
  aO w F s aG d v S↔(eM d v/\aA w F d (c8 v) S):=by
 cases d<;>first|(simp[I.tree]at aZ;done)|rw[aO]
theorem jf {q:axd} {av d:I} (h:I.sub q av=some d) (ax:d.plain=false\/I.gD q av=true):av.tree=true:=by
 cases q with
 |nil=>
  simp[I.sub]at h;subst h;rcases ax with ax|ax
  .cases av<;>first|rfl|(simp[I.plain]at ax)
  .simp[I.gD]at ax
 |cons k q=>cases av<;>first|rfl|(simp[I.sub]at h)
theorem Lk {d:I} (h:d.plain=false):d.tree=true:=jf (q:=[]) (by simp only[I.sub]) (.inl h)
theorem aO.frame {w aL:World} {F cl:Nat->Prop} {s:ak} {aG:Nat->Value} {Sx:Nat->Nat->Prop} (bG:∀b,F b->aL.heap[b]? =w.heap[b]?) (Sl:∀b,F b->cl b)
  (ca:∀x b,Sx x b->aL.heap[b]? =w.heap[b]?) (mY:∀x,aO w F s aG (s x) (aG x) (Sx x)):
  ∀(d:I) (v:Value) (S:Nat->Prop),(∀b,S b->aL.heap[b]? =w.heap[b]?)->aO w F s aG d v S->aO aL cl s aG d v S:=by
 have mZ:∀(x:Nat) (q:axd) (d:I),I.sub q (s x)=some d->(d.plain=false\/I.gD q (s x)=true)->er aL q (s x) (c8 (aG x)) none=er w q (s x) (c8 (aG x)) none:=by
  intro x q d al ax;have aZ:=jf al ax;have:=mY x;rw[aO.dk aZ]at this;exact G9 q _ _ (Sx x) none d this.2 al (ca x)
 have aa5:∀(d:I) (v:Value) (S:Nat->Prop),d.tree=true->(∀b,S b->aL.heap[b]? =w.heap[b]?)->aO w F s aG d v S->aO aL cl s aG d v S:=by
  intro d v S aZ yb h;rw[aO.dk aZ]at h⊢;exact⟨h.1,aA.mono Sl _ _ _ _ (λ_ h=>h) (aA.frame bG _ _ _ yb h.2)⟩
 have step:∀n,(∀(d:I) (v:Value) (S:Nat->Prop),SizeOf.sizeOf d<=n->(∀b,S b->aL.heap[b]? =w.heap[b]?)->aO w F s aG d v S->aO aL cl s aG d v S)/\
   (∀(ds:axi) (vs:axg),SizeOf.sizeOf ds<=n->fm w F s aG ds vs->fm aL cl s aG ds vs):=by
  intro n;induction n with
  |zero=>
   refine⟨λd v S b9=>?_,λds vs b9=>?_⟩
   .cases d<;>simp at b9<;>omega
   .cases ds<;>simp at b9<;>omega
  |succ n ih=>
   refine⟨λd v S b9 yb h=>?_,λds vs b9 h=>?_⟩
   .cases d with
    |hole=>rw[aO];trivial
    |h x q=>
     rw[aO]at h⊢;intro d al ax;rw[mZ x q d al (.inl ax)];exact h d al ax
    |ax x q=>
     rw[aO]at h⊢;intro d al ax;rw[mZ x q d al (.inr ax)];exact h d al ax
    |ab x k=>
     rw[aO]at h⊢;intro ax;obtain⟨b,cur,e,fr,ad,ae,aI,bc⟩:=h ax;exact⟨b,cur,e,fr,ad,Sl b ae,(bG b ae).trans aI,bc⟩
    |fn f cap=>
     rw[aO]at h⊢;obtain⟨arr,rfl,ar⟩:=h;exact⟨arr,rfl,ih.2 _ _ (by simp at b9;omega) ar⟩
    |_=>exact aa5 _ _ _ rfl yb h
   .cases ds with
    |nil=>rw[fm]at h⊢;exact h
    |cons d ds=>
     rw[fm]at h⊢;obtain⟨v,nO,rfl,ad,ae⟩:=h;simp at b9;exact⟨v,nO,rfl,ih.1 _ _ _ (by omega) (λ_ h=>h.elim) ad,ih.2 _ _ (by omega) ae⟩
 intro d v S yb h;exact(step (SizeOf.sizeOf d)).1 d v S (Nat.le_refl _) yb h
mutual
def dq (x:Nat):I->I
 | .h y q=>if y=x then .hole else .h y q
 | .ax y q=>if y=x then .hole else .ax y q
 | .ab y k=>if y=x then .hole else .ab y k
 | .fn f cap=>.fn f (k2 x cap)
 |d=>d
def k2 (x:Nat):axi->axi
 |[]=>[]
 |d::ds=>dq x d::k2 x ds
end
mutual
def cK (x:Nat):I->I
 | .h y q=>if y=x then(if q=[]then .h y q else .hole)else .h y q
 | .ax y q=>if y=x then .hole else .ax y q
 | .fn f cap=>.fn f (kr x cap)
 |d=>d
def kr (x:Nat):axi->axi
 |[]=>[]
 |d::ds=>cK x d::kr x ds
end
def et {α:Type} (f:Nat->α) (t:Nat) (v:α):Nat->α:=λu=>if u=t then v else f u
def om (t:Nat) (s:ak):ak:=λu=>dq t (s u)
def iW (t:Nat) (s:ak):ak:=λu=>cK t (s u)
theorem oP {α:Type} (f:Nat->α) (t:Nat) (v:α):et f t v t=v:=by simp[et]
theorem lp {α:Type} (f:Nat->α) {t u:Nat} (v:α) (h:u≠t):et f t v u=f u:=by simp[et,h]
theorem aa6 {t:Nat} {d:I} (h:d.tree=true):dq t d=d:=by cases d<;>first|rfl|(simp[I.tree]at h)
theorem Ll {t:Nat} {d:I} (h:d.tree=true):cK t d=d:=by cases d<;>first|rfl|(simp[I.tree]at h)
theorem aa7 {t:Nat} {d:I} (h:(dq t d).tree=true):d.tree=true/\dq t d=d:=by
 cases d<;>first|exact⟨rfl,rfl⟩|(simp only[dq]at h;first|(split at h<;>simp[I.tree]at h)|simp[I.tree]at h)
theorem G_ {t:Nat} {d:I} (h:(cK t d).tree=true):d.tree=true/\cK t d=d:=by
 cases d<;>first|exact⟨rfl,rfl⟩|(simp only[cK]at h;first|(split at h<;>(try split at h)<;>simp[I.tree]at h)|simp[I.tree]at h)
section
variable {w:World} {F:Nat->Prop} {s aH:ak} {aG mB:Nat->Value} {t:Nat}
theorem aO.dq (iH:∀x,x≠t->(aH x).tree=true->aH x=s x/\mB x=aG x):∀(n:Nat),
  (∀(d:I) (v:Value) (S:Nat->Prop),SizeOf.sizeOf d<=n->aO w F s aG d v S->aO w F aH mB (ef.dq t d) v S)/\
  (∀(ds:axi) (vs:axg),SizeOf.sizeOf ds<=n->fm w F s aG ds vs->fm w F aH mB (k2 t ds) vs):=by
 intro n;induction n with
 |zero=>
  refine⟨λd v S b9=>?_,λds vs b9=>?_⟩
  .cases d<;>simp at b9<;>omega
  .cases ds<;>simp at b9<;>omega
 |succ n ih=>
  refine⟨λd v S b9 h=>?_,λds vs b9 h=>?_⟩
  .cases d with
   |hole=>rw[ef.dq.eq_def];simp only;rw[aO];trivial
   |h x q=>
    simp only[ef.dq];split
    .rw[aO];trivial
    .rename_i an;rw[aO]at h⊢;intro d al ax;obtain⟨aN,aU⟩:=iH x an (jf al (.inl ax));rw[aN,aU];rw[aN]at al;exact h d al ax
   |ax x q=>
    simp only[ef.dq];split
    .rw[aO];trivial
    .rename_i an;rw[aO]at h⊢;intro d al ax;obtain⟨aN,aU⟩:=iH x an (jf al (.inr ax));rw[aN,aU];rw[aN]at al ax;exact h d al ax
   |ab x k=>
    simp only[ef.dq];split
    .rw[aO];trivial
    .rename_i an;rw[aO]at h⊢;intro ax;obtain⟨aN,aU⟩:=iH x an (Lk ax);rw[aU];rw[aN]at ax;exact h ax
   |fn f cap=>
    simp only[ef.dq];rw[aO]at h⊢;obtain⟨arr,rfl,ar⟩:=h;exact⟨arr,rfl,ih.2 _ _ (by simp at b9;omega) ar⟩
   |_=>
    rw[aa6 (by rfl)];exact(aO.dk (by rfl)).2 ((aO.dk (by rfl)).1 h)
  .cases ds with
   |nil=>rw[k2,fm];rw[fm]at h;exact h
   |cons d ds=>
    rw[k2,fm];rw[fm]at h;obtain⟨v,nO,rfl,ad,ae⟩:=h;simp at b9;exact⟨v,nO,rfl,ih.1 _ _ _ (by omega) ad,ih.2 _ _ (by omega) ae⟩
theorem aO.cK {aL:World} (iH:∀x,x≠t->(aH x).tree=true->aH x=s x/\mB x=aG x) (k3:mB t=aG t) (oQ:(aH t).plain=false->(s t).plain=false/\∀v,eM (s t) v->eM (aH t) v)
  (mZ:∀x q d,x≠t->I.sub q (s x)=some d->(d.plain=false\/I.gD q (s x)=true)->er aL q (s x) (c8 (aG x)) none=er w q (s x) (c8 (aG x)) none)
  (bG:∀b,F b->aL.heap[b]? =w.heap[b]?):∀(n:Nat),
  (∀(d:I) (v:Value) (S:Nat->Prop),SizeOf.sizeOf d<=n->(∀b,S b->aL.heap[b]? =w.heap[b]?)->aO w F s aG d v S->aO aL F aH mB (ef.cK t d) v S)/\
  (∀(ds:axi) (vs:axg),SizeOf.sizeOf ds<=n->fm w F s aG ds vs->fm aL F aH mB (kr t ds) vs):=by
 intro n;induction n with
 |zero=>
  refine⟨λd v S b9=>?_,λds vs b9=>?_⟩
  .cases d<;>simp at b9<;>omega
  .cases ds<;>simp at b9<;>omega
 |succ n ih=>
  refine⟨λd v S b9 yb h=>?_,λds vs b9 h=>?_⟩
  .cases d with
   |hole=>rw[ef.cK.eq_def];simp only;rw[aO];trivial
   |h x q=>
    simp only[ef.cK];split
    .rename_i an;subst an;split
     .rename_i cx;subst cx;rw[aO]at h⊢;intro d al ax;simp only[I.sub,some.injEq]at al;subst al;obtain⟨ea,bf⟩:=oQ ax;obtain⟨dp,a,g1,g2,g3⟩:=h (s x) rfl ea;simp only[er,some.injEq,Prod.mk.injEq]at g1;obtain⟨-,g1,atP⟩:=g1;refine⟨c8 (mB x),none,rfl,?_,bf _ g3⟩;rw[k3,g2,<-g1]
     .rw[aO];trivial
    .rename_i an;rw[aO]at h⊢;intro d al ax;obtain⟨aN,aU⟩:=iH x an (jf al (.inl ax));rw[aN,aU];rw[aN]at al;rw[mZ x q d an al (.inl ax)];exact h d al ax
   |ax x q=>
    simp only[ef.cK];split
    .rw[aO];trivial
    .rename_i an;rw[aO]at h⊢;intro d al ax;obtain⟨aN,aU⟩:=iH x an (jf al (.inr ax));rw[aN,aU];rw[aN]at al ax;rw[mZ x q d an al (.inr ax)];exact h d al ax
   |ab x k=>
    simp only[ef.cK];rw[aO]at h⊢;intro ax;by_cases an:x=t
    .subst an;obtain⟨b,cur,e,fr,ad,ae,aI,bc⟩:=h (oQ ax).1;exact⟨b,cur,e,fr,ad,ae,(bG b ae).trans aI,by rw[k3];exact bc⟩
    .obtain⟨aN,aU⟩:=iH x an (Lk ax);rw[aN]at ax;obtain⟨b,cur,e,fr,ad,ae,aI,bc⟩:=h ax;exact⟨b,cur,e,fr,ad,ae,(bG b ae).trans aI,by rw[aU];exact bc⟩
   |fn f cap=>
    simp only[ef.cK];rw[aO]at h⊢;obtain⟨arr,rfl,ar⟩:=h;exact⟨arr,rfl,ih.2 _ _ (by simp at b9;omega) ar⟩
   |_=>
    rw[Ll (by rfl)];have bB:=(aO.dk (by rfl)).1 h;exact(aO.dk (by rfl)).2 ⟨bB.1,aA.frame bG _ _ _ yb bB.2⟩
  .cases ds with
   |nil=>rw[kr,fm];rw[fm]at h;exact h
   |cons d ds=>
    rw[kr,fm];rw[fm]at h;obtain⟨v,nO,rfl,ad,ae⟩:=h;simp at b9;exact⟨v,nO,rfl,ih.1 _ _ _ (by omega) (λ_ h=>h.elim) ad,ih.2 _ _ (by omega) ae⟩
theorem aO.void (iH:∀x,x≠t->(aH x).tree=true->aH x=s x/\mB x=aG x) (rU:(aH t).plain=true):∀(n:Nat),
  (∀(d:I) (v:Value) (S:Nat->Prop),SizeOf.sizeOf d<=n->aO w F s aG d v S->aO w F aH mB d v S)/\
  (∀(ds:axi) (vs:axg),SizeOf.sizeOf ds<=n->fm w F s aG ds vs->fm w F aH mB ds vs):=by
 intro n;induction n with
 |zero=>
  refine⟨λd v S b9=>?_,λds vs b9=>?_⟩
  .cases d<;>simp at b9<;>omega
  .cases ds<;>simp at b9<;>omega
 |succ n ih=>
  refine⟨λd v S b9 h=>?_,λds vs b9 h=>?_⟩
  .cases d with
   |hole=>rw[aO];trivial
   |h x q=>
    rw[aO]at h⊢;intro d al ax;by_cases an:x=t
    .subst an;rw[I.Li _ _ _ rU al]at ax;cases ax
    .obtain⟨aN,aU⟩:=iH x an (jf al (.inl ax));rw[aN,aU];rw[aN]at al;exact h d al ax
   |ax x q=>
    rw[aO]at h⊢;intro d al ax;by_cases an:x=t
    .subst an;rw[I.Sk _ _ rU]at ax;cases ax
    .obtain⟨aN,aU⟩:=iH x an (jf al (.inr ax));rw[aN,aU];rw[aN]at al ax;exact h d al ax
   |ab x k=>
    rw[aO]at h⊢;intro ax;by_cases an:x=t
    .subst an;rw[rU]at ax;cases ax
    .obtain⟨aN,aU⟩:=iH x an (Lk ax);rw[aU];rw[aN]at ax;exact h ax
   |fn f cap=>
    rw[aO]at h⊢;obtain⟨arr,rfl,ar⟩:=h;exact⟨arr,rfl,ih.2 _ _ (by simp at b9;omega) ar⟩
   |_=>exact(aO.dk (by rfl)).2 ((aO.dk (by rfl)).1 h)
  .cases ds with
   |nil=>rw[fm];rw[fm]at h;exact h
   |cons d ds=>
    rw[fm];rw[fm]at h;obtain⟨v,nO,rfl,ad,ae⟩:=h;simp at b9;exact⟨v,nO,rfl,ih.1 _ _ _ (by omega) ad,ih.2 _ _ (by omega) ae⟩
end
def Lm:Bool:=false
def Out (w w0:World):Prop:=w.output=w0.output/\(Lm=true->w0.drawn<=w.drawn)
theorem Out.trans {a b c:World} (h:Out a b) (ae:Out b c):Out a c:=⟨Eq.trans h.1 ae.1,λd=>Nat.le_trans (ae.2 d) (h.2 d)⟩
theorem Out.refl (w:World):Out w w:=⟨rfl,λ_=>Nat.le_refl _⟩
def Ln (o:Obj):Prop:=∃bw cs e fr,o= .cells cs e fr/\cs[0]? =some bw/\(bw= .nilIface\/∃Lo Lp,bw= .iface Lo Lp)
def Ha (o:Obj):Prop:=∃e fr,o= .cells ((range 20).map λi=>Value.int .u64 ((10^i:Nat):Int)).toArray e fr
def Hb:List (Nat×(Obj->Prop)):=[(2,Ln),(1,Ha)]
def tj (w:World) (X:Nat->Prop):Prop:=∀p∈Hb,p.1<w.heap.size/\¬X p.1/\∃o,w.heap[p.1]? =some o/\p.2 o
theorem tj.next {w aL:World} {X Y:Nat->Prop} (h:tj w X) (aa:w.heap.size<=aL.heap.size) (ab:∀b,b<w.heap.size->¬X b->aL.heap[b]? =w.heap[b]?) (hy:∀b,Y b->X b\/w.heap.size<=b):tj aL Y:=λp ax=>by
 obtain⟨ad,ae,o,aI,bc⟩:=h p ax;refine⟨Nat.lt_of_lt_of_le ad aa,λh=>?_,o,(ab _ ad ae).trans aI,bc⟩;rcases hy _ h with h|h
 .exact ae h
 .omega
structure b8 (w0:World) (F0 X F:Nat->Prop) (S:Nat->Nat->Prop) (s:ak) (aG:Nat->Value) (w:World):Prop where
 iI:∀b,F0 b->F b
 jg:∀b,F b->F0 b\/X b\/w0.heap.size<=b
 gN:∀b,F b->b<w.heap.size
 fN:∀t b,S t b->b<w.heap.size
 hf:∀t b,S t b->¬F b
 gE:∀t u b,t≠u->S t b->¬S u b
 eS:∀t b,S t b->X b\/w0.heap.size<=b
 ew:∀t,aO w F s aG (s t) (aG t) (S t)
 old:∀b,b<w0.heap.size->¬X b->w.heap[b]? =w0.heap[b]?
 size:w0.heap.size<=w.heap.size
 os:w.os=w0.os
 tape:w.tape=w0.tape
 output:Out w w0
 gS:tj w0 X
section
variable {w0 w aL:World} {F0 X F:Nat->Prop} {S:Nat->Nat->Prop} {s:ak} {aG:Nat->Value}
theorem b8.grow (h:b8 w0 F0 X F S s aG w) (ab:∀b,b<w.heap.size->aL.heap[b]? =w.heap[b]?) (aa:w.heap.size<=aL.heap.size)
  (ad:aL.os=w.os) (ae:aL.tape=w.tape) (aI:Out aL w):b8 w0 F0 X F S s aG aL where
 iI:=h.iI
 jg:=h.jg
 gN:=λb bG=>Nat.lt_of_lt_of_le (h.gN b bG) aa
 fN:=λt b bG=>Nat.lt_of_lt_of_le (h.fN t b bG) aa
 hf:=h.hf
 gE:=h.gE
 eS:=h.eS
 ew:=λt=>aO.frame (Sx:=S) (λb bG=>ab b (h.gN b bG)) (λ_ h=>h) (λx b ca=>ab b (h.fN x b ca)) h.ew _ _ _ (λb ca=>ab b (h.fN t b ca)) (h.ew t)
 old:=λb eB mC=>(ab b (Nat.lt_of_lt_of_le eB h.size)).trans (h.old b eB mC)
 size:=Nat.le_trans h.size aa
 os:=ad.trans h.os
 tape:=ae.trans h.tape
 output:=aI.trans h.output
 gS:=h.gS
def hh (S:Nat->Nat->Prop) (t:Nat) (Sn:Nat->Prop):Nat->Nat->Prop:=λu b=>if u=t then Sn b else S u b
theorem Dj (S:Nat->Nat->Prop) (t:Nat) (Sn:Nat->Prop):hh S t Sn t=Sn:=by funext b;simp[hh]
theorem Dk (S:Nat->Nat->Prop) {t u:Nat} (Sn:Nat->Prop) (h:u≠t):hh S t Sn u=S u:=by funext b;simp[hh,h]
theorem b8.Dl (h:b8 w0 F0 X F S s aG w) {t:Nat} {d:I} {v:Value} (ax:d.plain=true) (al:aO w F s aG d v (λ_=>False)):
  b8 w0 F0 X F (hh S t (λ_=>False)) (et s t d) (et aG t v) w where
 iI:=h.iI
 jg:=h.jg
 gN:=h.gN
 fN:=λu b ab=>by simp only[hh]at ab;split at ab;exact ab.elim;exact h.fN u b ab
 hf:=λu b ab=>by simp only[hh]at ab;split at ab;exact ab.elim;exact h.hf u b ab
 gE:=λu x b dQ ab an=>by
  simp only[hh]at ab an;split at ab
  .exact ab.elim
  .split at an
   .exact an.elim
   .exact h.gE u x b dQ ab an
 eS:=λu b ab=>by simp only[hh]at ab;split at ab;exact ab.elim;exact h.eS u b ab
 ew:=λu=>by
  have iH:∀x,x≠t->(et s t d x).tree=true->et s t d x=s x/\et aG t v x=aG x:=λx an _=>⟨lp _ _ an,lp _ _ an⟩
  have rU:(et s t d t).plain=true:=by rw[oP];exact ax
  by_cases hu:u=t
  .subst hu;rw[oP,oP,Dj];exact(aO.void iH rU _).1 _ _ _ (Nat.le_refl _) al
  .rw[lp _ _ hu,lp _ _ hu,Dk _ _ hu];exact(aO.void iH rU _).1 _ _ _ (Nat.le_refl _) (h.ew u)
 old:=h.old
 size:=h.size
 os:=h.os
 tape:=h.tape
 output:=h.output
 gS:=h.gS
theorem b8.Sm (h:b8 w0 F0 X F S s aG w) {t:Nat} {d:I} {v:Value} {Sn:Nat->Prop} (al:d.tree=true) (aa:eM d v) (aE:aA w F d (c8 v) Sn)
  (eB:∀b,Sn b->b<w.heap.size) (bG:∀b,Sn b->¬F b) (ca:∀u b,u≠t->Sn b->¬S u b) (bb:∀b,Sn b->X b\/w0.heap.size<=b):
  b8 w0 F0 X F (hh S t Sn) (et (om t s) t d) (et aG t v) w where
 iI:=h.iI
 jg:=h.jg
 gN:=h.gN
 fN:=λu b ab=>by simp only[hh]at ab;split at ab;exact eB b ab;exact h.fN u b ab
 hf:=λu b ab=>by simp only[hh]at ab;split at ab;exact bG b ab;exact h.hf u b ab
 gE:=λu x b dQ ab an=>by
  simp only[hh]at ab an;split at ab
  .rename_i hu;rw[if_neg (λe=>dQ (hu.trans e.symm))]at an;exact ca x b (λe=>dQ (hu.trans e.symm)) ab an
  .rename_i hu;split at an
   .exact ca u b hu an ab
   .exact h.gE u x b dQ ab an
 eS:=λu b ab=>by simp only[hh]at ab;split at ab;exact bb b ab;exact h.eS u b ab
 ew:=λu=>by
  have iH:∀x,x≠t->(et (om t s) t d x).tree=true->et (om t s) t d x=s x/\et aG t v x=aG x:=λx an aZ=>by
   rw[lp _ _ an]at aZ⊢;exact⟨(aa7 aZ).2,lp _ _ an⟩
  by_cases hu:u=t
  .subst hu;rw[oP,oP,Dj];exact(aO.dk al).2 ⟨aa,aE⟩
  .rw[lp _ _ hu,lp _ _ hu,Dk _ _ hu];exact(aO.dq iH _).1 _ _ _ (Nat.le_refl _) (h.ew u)
 old:=h.old
 size:=h.size
 os:=h.os
 tape:=h.tape
 output:=h.output
 gS:=h.gS
theorem wH (k:Nat) (q:axd) (bI x:I):(∃aD gs,x= .agg aD/\I.put (k::q) bI x= .agg gs)\/(∃aD gs,x= .tuple aD/\I.put (k::q) bI x= .tuple gs)\/
  (∃sz xs cL,x= .aj sz xs/\I.put (k::q) bI x= .aj sz cL)\/(∃y z,x= .aM y/\I.put (k::q) bI x= .aM z)\/I.put (k::q) bI x=x:=by
 cases x with
 |agg aD=>simp only[I.put];split<;>exact .inl ⟨_,_,rfl,rfl⟩
 |tuple aD=>simp only[I.put];split<;>exact .inr (.inl ⟨_,_,rfl,rfl⟩)
 |aj sz aD=>simp only[I.put];split<;>exact .inr (.inr (.inl ⟨_,_,_,rfl,rfl⟩))
 |aM y=>cases k<;>exact .inr (.inr (.inr (.inl ⟨_,_,rfl,rfl⟩)))
 |_=>exact .inr (.inr (.inr (.inr rfl)))
theorem So {k:Nat} {q:axd} {bI x:I} {v:Value} (h:jM x v):jM (I.put (k::q) bI x) v:=by
 rcases wH k q bI x with⟨aD,gs,rfl,e⟩|⟨aD,gs,rfl,e⟩|⟨sz,xs,cL,rfl,e⟩|⟨y,z,rfl,e⟩|e<;>rw[e]<;>exact h
theorem Sp {k:Nat} {q:axd} {bI x:I} (h:∀vs,x≠.tuple vs):∀vs,I.put (k::q) bI x≠.tuple vs:=by
 rcases wH k q bI x with⟨aD,gs,rfl,e⟩|⟨aD,gs,rfl,e⟩|⟨sz,xs,cL,rfl,e⟩|⟨y,z,rfl,e⟩|e<;>rw[e]<;>first|exact h|(intro vs bB;cases bB;done)|exact(h _ rfl).elim
theorem Dm {k:Nat} {q:axd} {d bI av:I} {v:Value} (h:eM av v) (al:I.sub (k::q) av=some d) (ad:∀v,jM d v->jM bI v) (ae:(∀vs,d≠.tuple vs)->∀vs,bI≠.tuple vs) (aI:bI.wd=d.wd):
  eM (I.put (k::q) bI av) v:=by
 cases av with
 |tuple aD=>
  simp only[I.sub]at al;split at al
  .rename_i x an;simp only[I.put,an];simp only[eM]at h⊢;obtain⟨arr,rfl,b9,mY⟩:=h;refine⟨arr,rfl,by simpa using b9,λj e y he hy=>?_⟩;rw[getElem?_set]at he;split at he
   .rename_i Lq;subst Lq;split at he
    .simp only[some.injEq]at he;subst he;obtain⟨g1,g2,g3⟩:=mY k x y an hy;refine⟨?_,?_,g3.trans (I.Ap q x d bI al aI).symm⟩
     .cases q with
      |nil=>
       simp only[I.sub,some.injEq]at al;subst al;exact ad _ g1
      |cons cN q=>exact So g1
     .cases q with
      |nil=>
       simp only[I.sub,some.injEq]at al;subst al;exact ae g2
      |cons cN q=>exact Sp g2
    .cases he
   .exact mY j e y he hy
  .cases al
 |agg aD=>simp only[I.put];split<;>exact h
 |aj sz aD=>simp only[I.put];split<;>exact h
 |aM y=>cases k<;>exact h
 |_=>exact h
theorem Lr {d:I} {v:Value} (h:jM d v):jM d.dN v:=by cases d<;>exact h
theorem Sq {s:ak} {x:Nat} {q:axd} {d:I} (al:I.sub q (s x)=some d) (ax:d.plain=false):
  (et (iW x s) x (I.put q d.dN (s x)) x).plain=false->(s x).plain=false/\∀v,eM (s x) v->eM (et (iW x s) x (I.put q d.dN (s x)) x) v:=by
  rw[oP];intro fA;cases q with
  |nil=>
   exfalso;have:∀d:I,d.dN.plain=true:=by
    intro d;have key:∀n,(∀d:I,SizeOf.sizeOf d<=n->d.dN.plain=true)/\(∀ds:axi,SizeOf.sizeOf ds<=n->I.hz (I.nN ds)=true):=by
     intro n;induction n with
     |zero=>exact⟨λd b9=>by cases d<;>simp at b9<;>omega,λds b9=>by cases ds<;>simp at b9<;>omega⟩
     |succ n ih=>
      refine⟨λd b9=>?_,λds b9=>?_⟩
      .cases d with
       |agg aD=>simp only[I.dN,I.plain];exact ih.2 _ (by simp at b9;omega)
       |tuple aD=>simp only[I.dN,I.plain];exact ih.2 _ (by simp at b9;omega)
       |_=>rfl
      .cases ds with
       |nil=>rfl
       |cons d ds=>
        simp at b9;simp only[I.nN,I.hz,Bool.and_eq_true];exact⟨ih.1 _ (by omega),ih.2 _ (by omega)⟩
    exact(key _).1 d (Nat.le_refl _)
   simp only[I.put]at fA;rw[this]at fA;cases fA
  |cons k q=>
   refine⟨?_,λv aE=>Dm aE al (λv h=>Lr h) (λh vs e=>?_) (I.wG d)⟩
   .cases cc:(s x).plain with
    |false=>rfl
    |true=>rw[I.Li _ _ _ cc al]at ax;cases ax
   .cases d<;>first|(exact h _ rfl)|(simp[I.dN]at e)
theorem b8.take (h:b8 w0 F0 X F S s aG w) {x:Nat} {q:axd} {d:I} (al:I.sub q (s x)=some d) (ax:d.plain=false):
  ∃(Sn gm:Nat->Prop) (dp:axg) (a:Option (Nat×Nat)),b8 w0 F0 X F (hh S x Sn) (et (iW x s) x (I.put q d.dN (s x))) aG w/\
   er w q (s x) (c8 (aG x)) none=some (d,dp,a)/\aA w F d dp gm/\(∀b,gm b->S x b)/\(∀b,Sn b->S x b)/\(∀b,gm b->¬Sn b)/\
   (∀(bI:I) (v:Value) (aX:Nat->Prop),aO w F s aG bI v aX->aO w F (et (iW x s) x (I.put q d.dN (s x))) aG (ef.cK x bI) v aX):=by
 have aZ:=jf al (.inl ax);have an:=h.ew x;rw[aO.dk aZ]at an;obtain⟨dp,a,e5,gm,g0,g1,g2,g3,g4,g5⟩:=ctx q (s x) (c8 (aG x)) (S x) none d an.2 al;have lP:aA w F (I.put q d.dN (s x)) (c8 (aG x)) e5:=by
  have lQ:aA w F d.dN dp (λ_=>False):=aA.dN _ _ _ _ g4;have mD:∀b,(e5 b\/False)->e5 b:=λb h=>h.elim id False.elim;rcases g5 with⟨l,r,aN,aU,aR⟩|⟨b,cur,e,fr,l,r,aN,aU,aR,bW,cM,cg⟩
  .have:=aR w _ dp _ (λ_ _=>rfl) (λ_ _=>rfl) (I.wG d) lQ (λ_ h=>h.elim);rw[<-aN]at this;exact aA.mono (λ_ h=>h) _ _ _ _ mD this
  .have:=cg w _ dp _ (λ_ _=>rfl) (λ_ _ _=>rfl) (by rw[aR,<-cM]) (I.wG d) lQ (λ_ h=>h.elim);exact aA.mono (λ_ h=>h) _ _ _ _ mD this
 have aa8:eM (I.put q d.dN (s x)) (aG x)/\(I.put q d.dN (s x)).tree=true\/I.put q d.dN (s x)= .hole:=by
  cases q with
  |nil=>
   simp only[I.sub,some.injEq]at al;subst al;simp only[I.put];cases aa:s x with
   |aj sz xs=>right;rfl
   |aM y=>right;rfl
   |b4 y=>right;rfl
   |agg aD=>left;rw[aa]at an;exact⟨an.1,rfl⟩
   |tuple aD=>
    left;rw[aa]at an;refine⟨?_,rfl⟩;simp only[eM,I.dN]at an⊢;obtain⟨arr,e,b9,mY⟩:=an.1;have aC:∀aD:axi,I.nN aD=aD.map I.dN:=by
     intro aD;induction aD with
     |nil=>rfl
     |cons a aD ih=>simp[I.nN,ih]
    refine⟨arr,e,by rw[aC];simpa using b9,λk hd y he hy=>?_⟩;rw[aC,getElem?_map]at he;cases au:aD[k]? with
    |none=>rw[au]at he;cases he
    |some z=>
     rw[au]at he;simp only[map_some,some.injEq]at he;subst he;obtain⟨g1,g2,g3⟩:=mY k z y au hy;refine⟨Lr g1,λvs e=>?_,g3.trans (I.wG z).symm⟩;cases z<;>first|(exact g2 _ rfl)|(simp[I.dN]at e)
   |_=>rw[aa]at ax;simp[I.plain]at ax
  |cons k q=>
   left;refine⟨Dm an.1 al (λv h=>Lr h) (λh vs e=>?_) (I.wG d),?_⟩
   .cases d<;>first|(exact h _ rfl)|(simp[I.dN]at e)
   .rcases wH k q d.dN (s x)with⟨aD,gs,aN,e⟩|⟨aD,gs,aN,e⟩|⟨sz,xs,cL,aN,e⟩|⟨y,z,aN,e⟩|e<;>rw[e]<;>first|rfl|exact aZ
 refine⟨e5,gm,dp,a,?_,g0,g4,g2,g1,λb ad ae=>g3 b ae ad,?_⟩
 rotate_left
 .have iH:∀y,y≠x->(et (iW x s) x (I.put q d.dN (s x)) y).tree=true->et (iW x s) x (I.put q d.dN (s x)) y=s y/\aG y=aG y:=λy hy aZ=>by
   rw[lp _ _ hy]at aZ⊢;exact⟨(G_ aZ).2,rfl⟩
  intro bI v aX iS;exact(aO.cK iH rfl (Sq al ax) (λ_ _ _ _ _ _=>rfl) (λ_ _=>rfl) _).1 _ _ _ (Nat.le_refl _) (λ_ _=>rfl) iS
 have iH:∀y,y≠x->(et (iW x s) x (I.put q d.dN (s x)) y).tree=true->et (iW x s) x (I.put q d.dN (s x)) y=s y/\aG y=aG y:=λy hy aZ=>by
  rw[lp _ _ hy]at aZ⊢;exact⟨(G_ aZ).2,rfl⟩
 have oQ:=Sq (s:=s) (x:=x) al ax;constructor;case iI=>exact h.iI
 case jg=>exact h.jg
 case gN=>exact h.gN
 case fN=>exact λu b ab=>by simp only[hh]at ab;split at ab;exact h.fN x b (g1 b ab);exact h.fN u b ab
 case hf=>exact λu b ab=>by simp only[hh]at ab;split at ab;exact h.hf x b (g1 b ab);exact h.hf u b ab
 case gE=>
  intro u y b dQ ab hy;simp only[hh]at ab hy;split at ab
  .rename_i hu;rw[if_neg (λe=>dQ (hu.trans e.symm))]at hy;exact h.gE x y b (λe=>dQ (hu.trans e)) (g1 b ab) hy
  .rename_i hu;split at hy
   .exact h.gE u x b hu ab (g1 b hy)
   .exact h.gE u y b dQ ab hy
 case eS=>exact λu b ab=>by simp only[hh]at ab;split at ab;exact h.eS x b (g1 b ab);exact h.eS u b ab
 case ew=>
  intro u;by_cases hu:u=x
  .subst hu;rw[oP,Dj];rcases aa8 with⟨aN,aU⟩|e
   .exact(aO.dk aU).2 ⟨aN,lP⟩
   .rw[e,aO];trivial
  .rw[lp _ _ hu,Dk _ _ hu];exact(aO.cK iH rfl oQ (λ_ _ _ _ _ _=>rfl) (λ_ _=>rfl) _).1 _ _ _ (Nat.le_refl _) (λ_ _=>rfl) (h.ew u)
 case old=>exact h.old
 case size=>exact h.size
 case os=>exact h.os
 case tape=>exact h.tape
 case output=>exact h.output
 case gS=>exact h.gS
theorem b8.store (h:b8 w0 F0 X F S s aG w) {x:Nat} {q:axd} {d bI:I} (al:I.sub q (s x)=some d) (ar:I.gD q (s x)=true)
  {g_:axg} {Sn:Nat->Prop} (aE:aA w F bI g_ Sn) (mX:bI.wd=d.wd)
  (eB:∀b,Sn b->b<w.heap.size) (bG:∀b,Sn b->¬F b) (ca:∀u b,Sn b->¬S u b) (bb:∀b,Sn b->X b\/w0.heap.size<=b):
  ∃(dp:axg) (b:Nat) (l r:axg) (cur:Array Value) (e:TypeId) (fr:Nat×Nat),er w q (s x) (c8 (aG x)) none=some (d,dp,some (b,l.length))/\
   w.heap[b]? =some (.cells cur e fr)/\cur.toList=l++(dp++r)/\po fr cur.size/\
   ∀aL,aL.heap[b]? =some (.cells (l++(g_++r)).toArray e fr)->(∀c,c≠b->aL.heap[c]? =w.heap[c]?)->aL.heap.size=w.heap.size->aL.os=w.os->aL.tape=w.tape->Out aL w->
    ∃aX,b8 w0 F0 X F aX (et (iW x s) x (I.put q bI (s x))) aG aL:=by
 have aZ:=jf al (.inr ar);have an:=h.ew x;rw[aO.dk aZ]at an;obtain⟨dp,a,e5,gm,g0,g1,g2,g3,g4,g5⟩:=ctx q (s x) (c8 (aG x)) (S x) none d an.2 al;have aa9:Deep w F q (s x) (c8 (aG x)) d dp a e5:=by
  rcases g5 with⟨l,r,aN,aU,aR⟩|g5
  .exfalso;have ns:∀(q:axd) (av:I) (cs:axg) (a0:Option (Nat×Nat)) (d:I) (dp:axg),I.gD q av=true->er w q av cs a0=some (d,dp,none)->False:=by
    intro q;induction q with
    |nil=>intro av cs a0 d dp ar;simp[I.gD]at ar
    |cons k q ih=>
     have Sr:∀(q:axd) (av:I) (cs:axg) (l:Nat×Nat) (d:I) (dp:axg),er w q av cs (some l)=some (d,dp,none)->False:=by
      intro q;induction q with
      |nil=>intro av cs l d dp h;simp[er]at h
      |cons k q Ar=>
       intro av cs l d dp h;cases av with
       |agg aD=>rw[er]at h;split at h;exact Ar _ _ _ _ _ h;cases h
       |tuple aD=>rw[er]at h;split at h;exact Ar _ _ _ _ _ h;cases h
       |aj sz xs=>simp only[er]at h;split at h;exact Ar _ _ _ _ _ h;cases h
       |aM y=>
        cases k with
        |zero=>rw[er.eq_def]at h;simp only at h;split at h;exact Ar _ _ _ _ _ h;cases h
        |succ k=>rw[show er w ((k+1)::q) (.aM y) cs (some l)=none from rfl]at h;cases h
       |_=>simp[er]at h
     intro av cs a0 d dp ar h;cases av with
     |agg aD=>
      simp only[I.gD]at ar;split at ar
      .rename_i y hy;simp only[er,hy]at h;exact ih _ _ _ _ _ ar h
      .cases ar
     |tuple aD=>
      simp only[I.gD]at ar;split at ar
      .rename_i y hy;simp only[er,hy]at h;exact ih _ _ _ _ _ ar h
      .cases ar
     |aj sz xs=>simp only[er]at h;split at h;exact Sr _ _ _ _ _ _ h;cases h
     |aM y=>
      cases k with
      |zero=>rw[er.eq_def]at h;simp only at h;split at h;exact Sr _ _ _ _ _ _ h;cases h
      |succ k=>rw[show er w ((k+1)::q) (.aM y) cs a0=none from rfl]at h;cases h
     |_=>simp[I.gD]at ar
   simp only[map_none]at aU;subst aU;exact ns _ _ _ _ _ _ ar g0
  .exact g5
 obtain⟨b,cur,e,fr,l,r,rfl,aU,aR,bW,cM,cg⟩:=aa9;refine⟨dp,b,l,r,cur,e,fr,g0,aR,cM,bW,?_⟩;intro aL oO qG fg Ls Lt yc;have yd:S x b:=g1 _ aU;have tk:∀c,F c->aL.heap[c]? =w.heap[c]? :=λc ar=>qG c (by rintro rfl;exact h.hf x _ yd ar);have atQ:g_.length=dp.length:=by rw[aA.length _ _ _ aE,aA.length _ _ _ g4,mX]
 have lP:=cg aL bI g_ Sn tk (λc _ dQ=>qG c dQ) oO mX
  (aA.frame tk _ _ _ (λc ar=>qG c (by rintro rfl;exact ca x _ ar yd)) aE) (λc ar mD=>ca x c ar (g1 _ mD))
 obtain⟨k,lq,rfl⟩:∃k lq,q=k::lq:=by
  cases q with
  |nil=>simp[I.gD]at ar
  |cons k q=>exact⟨k,q,rfl⟩
 have Dn:∀v,eM (s x) v->eM (I.put (k::lq) bI (s x)) v:=by
  intro v aE;rcases wH k lq bI (s x)with⟨aD,gs,aN,e⟩|⟨aD,gs,aN,e⟩|⟨sz,xs,cL,aN,e⟩|⟨y,z,aN,e⟩|e
  .rw[e];rw[aN]at aE;exact aE
  ·
   rw[aN]at aE al ar⊢;simp only[I.gD]at ar;split at ar
   .rename_i y hy;simp only[I.put,hy];cases lq with
    |nil=>simp[I.gD]at ar
    |cons cN gO=>
     simp only[eM]at aE⊢;obtain⟨arr,rfl,b9,mY⟩:=aE;refine⟨arr,rfl,by simpa using b9,λj e oo he ye=>?_⟩;rw[getElem?_set]at he;split at he
     .rename_i Lq;subst Lq;split at he
      .simp only[some.injEq]at he;subst he;obtain⟨g1,g2,g3⟩:=mY _ y oo hy ye;simp only[I.sub,hy]at al;exact⟨So g1,Sp g2,g3.trans (I.Ap (cN::gO) y d bI al mX).symm⟩
      .cases he
     .exact mY j e oo he ye
   .cases ar
  .rw[e];rw[aN]at aE;exact aE
  .rw[e];rw[aN]at aE;exact aE
  .rw[e];exact aE
 have aa_:(I.put (k::lq) bI (s x)).tree=true:=by
  rcases wH k lq bI (s x)with⟨aD,gs,aN,e⟩|⟨aD,gs,aN,e⟩|⟨sz,xs,cL,aN,e⟩|⟨y,z,aN,e⟩|e<;>rw[e]<;>first|rfl|exact aZ
 let aH:=et (iW x s) x (I.put (k::lq) bI (s x))
 have iH:∀y,y≠x->(aH y).tree=true->aH y=s y/\aG y=aG y:=λy hy aZ=>by
  have e:aH y=cK x (s y):=lp _ _ hy;rw[e]at aZ⊢;exact⟨(G_ aZ).2,rfl⟩
 have oQ:(aH x).plain=false->(s x).plain=false/\∀v,eM (s x) v->eM (aH x) v:=by
  intro _;refine⟨?_,?_⟩
  .cases cc:(s x).plain with
   |false=>rfl
   |true=>rw[I.Sk _ _ cc]at ar;cases ar
  .simp only[aH,oP];exact Dn
 refine⟨hh S x (λc=>e5 c\/Sn c),?_⟩;constructor;case iI=>exact h.iI
 case jg=>exact h.jg
 case gN=>exact λb ab=>by rw[fg];exact h.gN b ab
 case fN=>
  intro u c ab;rw[fg];simp only[hh]at ab;split at ab
  .rcases ab with ab|ab
   .exact h.fN x c (g1 c ab)
   .exact eB c ab
  .exact h.fN u c ab
 case hf=>
  intro u c ab;simp only[hh]at ab;split at ab
  .rcases ab with ab|ab
   .exact h.hf x c (g1 c ab)
   .exact bG c ab
  .exact h.hf u c ab
 case gE=>
  intro u y c dQ ab hy;simp only[hh]at ab hy;split at ab
  .rename_i hu;rw[if_neg (λe=>dQ (hu.trans e.symm))]at hy;rcases ab with ab|ab
   .exact h.gE x y c (λe=>dQ (hu.trans e)) (g1 c ab) hy
   .exact ca y c ab hy
  .rename_i hu;split at hy
   .rcases hy with hy|hy
    .exact h.gE u x c hu ab (g1 c hy)
    .exact ca u c hy ab
   .exact h.gE u y c dQ ab hy
 case eS=>
  intro u c ab;simp only[hh]at ab;split at ab
  .rcases ab with ab|ab
   .exact h.eS x c (g1 c ab)
   .exact bb c ab
  .exact h.eS u c ab
 case ew=>
  intro u;by_cases hu:u=x
  .subst hu;rw[oP,Dj];exact(aO.dk aa_).2 ⟨Dn _ an.1,lP⟩
  .rw[lp _ _ hu,Dk _ _ hu];have dQ:∀y c,y≠x->S y c->aL.heap[c]? =w.heap[c]? :=λy c hy ar=>qG c (by rintro rfl;exact h.gE y x c hy ar yd);refine(aO.cK iH rfl oQ (λy gO d2 hy hq Dp=>?_) tk _).1 _ _ _ (Nat.le_refl _) (λc ar=>dQ u c hu ar) (h.ew u);have Dq:=h.ew y;rw[aO.dk (jf hq Dp)]at Dq;exact G9 gO _ _ _ none d2 Dq.2 hq (λc ar=>dQ y c hy ar)
 case old=>
  intro c eB mC;by_cases As:c=b
  .subst As;exfalso;rcases h.eS x c yd with lQ|lQ
   .exact mC lQ
   .omega
  .exact(qG c As).trans (h.old c eB mC)
 case size=>rw[fg];exact h.size
 case os=>exact Ls.trans h.os
 case tape=>exact Lt.trans h.tape
 case output=>exact yc.trans h.output
 case gS=>exact h.gS
end
end Go.ef
