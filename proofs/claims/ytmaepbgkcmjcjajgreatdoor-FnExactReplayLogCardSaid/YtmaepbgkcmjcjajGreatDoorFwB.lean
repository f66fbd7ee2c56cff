/- Part of a proof that a law returns true for every input. No condition. -/
import Derived.Test.YtmaepbgkcmjcjajGreatDoorFwA
import Derived.Laws.AppendOwn
import Derived.Calls
namespace Go.ep
open List Option Go.IntKind Nat Or
inductive Ej where
 |mp (es:azo)
 |kv
 |jX (T e:TypeId) (ma:azq)
inductive I where
 |hole
 |bool (b:Bool)
 |gx
 |int (k:IntKind) (n:Int)
 |str (s:azq)
 |eA
 |bf
 |slice (xs:List I)
 |ag (sz:Nat) (xs:List I)
 |ref (d:I)
 |aM (d:I)
 |agg (aF:List I)
 |tuple (vs:List I)
 |fn (f:FuncId) (cap:List I)
 |h (x:Nat) (q:azt)
 |ay (x:Nat) (q:azt)
 |ab (x:Nat) (k:Nat)
 |cj (o:Ej)
 deriving Inhabited
abbrev azy:=List I
abbrev azx:=List (Nat×I)
mutual
def I.wd:I->Nat
 | .agg aF=>I.fc aF
 | .tuple aF=>I.fc aF
 |_=>1
def I.fc:azy->Nat
 |[]=>0
 |d::ds=>d.wd+I.fc ds
end
def jM (w:World) (b o:Nat) (cs:azw):Prop:=∀j c,cs[j]? =some c->w.cell? ⟨b,o+j,none⟩=some c
def pV (fr:Nat×Nat) (n:Nat):Prop:=∀o,o<n->¬(fr.1<=o/\o<fr.2)
theorem pV.le {fr:Nat×Nat} {m n:Nat} (h:pV fr n) (hm:m<=n):pV fr m:=λo bS=>h o (Nat.lt_of_lt_of_le bS hm)
theorem pV.low {fr:Nat×Nat} {n k:Nat} (h:pV fr (n+k)):pV fr n:=h.le (le_add_right _ _)
def Value.hV:Value->Bool
 | .agg _=>false
 | .tuple _=>false
 |_=>true
def I.single:I->Bool
 | .agg _=>false
 | .tuple _=>false
 | .hole=>false
 |_=>true
def oP (w:World):Ej->azw->(Nat->Prop)->Prop
 | .mp es,cs,S=>∃r ms pW,cs=[.map (some r)]/\S r/\w.heap[r]? =some (.map ms pW)/\ms.toList.map (λe=>(e.key,e.val))=es.map (λe=>(.string ⟨⟨e.1⟩⟩,.bool e.2))
 | .kv,cs,_=>cs=[.map none]
 | .jX T e ma,cs,S=>∃b a y0,cs=[.pointer (some ⟨b,0,none⟩)]/\S b/\w.heap[b]? =some (.cells #[a,y0] T (0,0))/\(a= .pointer none\/a= .pointer (some ⟨b,0,none⟩))/\
   ((ma=[]/\y0= .slice none 0 0)\/
     ∃g cap cur,y0= .slice (some ⟨g,0,none⟩) ma.length cap/\S g/\g≠b/\w.heap[g]? =some (.cells cur e (0,0))/\ma.length<=cap/\cap<=maxLen/\cur.size=cap/\
      cur.toList.take ma.length=ma.map λx=>.int .u8 x.toNat)
theorem oP.frame {w aO:World}:∀{o:Ej} {cs:azw} {S:Nat->Prop},(∀b,S b->aO.heap[b]? =w.heap[b]?)->oP w o cs S->oP aO o cs S
 | .mp _,_,_,cn,⟨r,ms,pW,ad,af,aG,bh⟩=>⟨r,ms,pW,ad,af,(cn _ af).trans aG,bh⟩
 | .kv,_,_,_,h=>h
 | .jX _ _ _,_,_,cn,⟨b,a,y0,ad,af,aG,bh,b6⟩=>⟨b,a,y0,ad,af,(cn _ af).trans aG,bh,b6.imp (λh=>h) λ⟨g,cap,cur,xy,i2,i3,i4,i5⟩=>⟨g,cap,cur,xy,i2,i3,(cn _ i2).trans i4,i5⟩⟩
theorem oP.mono {w:World}:∀{o:Ej} {cs:azw} {S a7:Nat->Prop},(∀b,S b->a7 b)->oP w o cs S->oP w o cs a7
 | .mp _,_,_,_,cn,⟨r,ms,pW,ad,af,aG⟩=>⟨r,ms,pW,ad,cn _ af,aG⟩
 | .kv,_,_,_,_,h=>h
 | .jX _ _ _,_,_,_,cn,⟨b,a,y0,ad,af,aG,bh,b6⟩=>⟨b,a,y0,ad,cn _ af,aG,bh,b6.imp (λh=>h) λ⟨g,cap,cur,xy,i2,i3⟩=>⟨g,cap,cur,xy,cn _ i2,i3⟩⟩
theorem oP.one {w:World}:∀{o:Ej} {cs:azw} {S:Nat->Prop},oP w o cs S->∃v,Value.hV v=true/\cs=[v]
 | .mp _,_,_,⟨_,_,_,h,_⟩=>⟨_,rfl,h⟩
 | .kv,_,_,h=>⟨_,rfl,h⟩
 | .jX _ _ _,_,_,⟨_,_,_,h,_⟩=>⟨_,rfl,h⟩
mutual
def aB (w:World) (F:Nat->Prop):I->azw->(Nat->Prop)->Prop
 | .hole,cs,_=>∃v,Value.hV v=true/\cs=[v]
 | .bool b,cs,_=>cs=[.bool b]
 | .gx,cs,_=>∃b,cs=[.bool b]
 | .int k n,cs,_=>cs=[.int k n]
 | .str s,cs,_=>cs=[.string ⟨⟨s⟩⟩]
 | .eA,cs,_=>cs=[.pointer none]
 | .bf,cs,_=>cs=[.slice none 0 0]
 | .slice xs,cs,_=>(xs=[]/\∃a c,cs=[.slice a 0 c]/\c<=maxLen/\(a=none->c=0))\/
   ∃b o cap fv sz,cs=[.slice (some ⟨b,o,none⟩) xs.length cap]/\F b/\xs.length<=cap/\cap<=maxLen/\(∀d∈xs,d.wd=sz)/\
    jM w b o fv/\bz w F xs fv (λ_=>False)
 | .ag sz xs,cs,S=>(xs=[]/\∃a,cs=[.slice a 0 0])\/
   ∃b cap cur e fr a7,cs=[.slice (some ⟨b,0,none⟩) xs.length cap]/\S b/\w.heap[b]? =some (.cells cur e fr)/\pV fr (cur.size+(sz-1))/\
    xs.length<=cap/\cap<=maxLen/\cur.size=cap*sz/\(∀d∈xs,d.wd=sz)/\bz w F xs (cur.toList.take (xs.length*sz)) a7/\(∀c,a7 c->S c)/\¬a7 b
 | .ref d,cs,_=>∃b o fv,cs=[.pointer (some ⟨b,o,none⟩)]/\F b/\jM w b o fv/\aB w F d fv (λ_=>False)
 | .aM d,cs,S=>∃b cur e fr a7,cs=[.pointer (some ⟨b,0,none⟩)]/\S b/\w.heap[b]? =some (.cells cur e fr)/\pV fr cur.size/\
   aB w F d cur.toList a7/\(∀c,a7 c->S c)/\¬a7 b
 | .agg aF,cs,S=>bz w F aF cs S
 | .tuple aF,cs,S=>bz w F aF cs S
 | .fn f caps,cs,_=>∃arr:Array Value,cs=[.func (.func f) #[] arr]/\(∀d∈caps,d.single=true)/\bz w F caps arr.toList (λ_=>False)
 | .h _ _,_,_=>False
 | .ay _ _,_,_=>False
 | .ab _ _,_,_=>False
 | .cj o,cs,S=>oP w o cs S
def bz (w:World) (F:Nat->Prop):azy->azw->(Nat->Prop)->Prop
 |[],cs,_=>cs=[]
 |d::ds,cs,S=>∃ct c2 cT eM,cs=ct++c2/\aB w F d ct cT/\bz w F ds c2 eM/\(∀b,cT b->S b)/\(∀b,eM b->S b)/\(∀b,cT b->¬eM b)
end
theorem cell?_of_block {w aO:World} {b:Nat} (h:aO.heap[b]? =w.heap[b]?) (o:Nat):aO.cell? ⟨b,o,none⟩=w.cell? ⟨b,o,none⟩:=by
 simp[World.cell?,h]
theorem jM.frame {w aO:World} {b o:Nat} {cs:azw} (h:aO.heap[b]? =w.heap[b]?) (aR:jM w b o cs):jM aO b o cs:=
 λj c au=>(cell?_of_block h _).trans (aR j c au)
mutual
theorem aB.frame {w aO:World} {F:Nat->Prop} (bM:∀b,F b->aO.heap[b]? =w.heap[b]?):
  ∀(d:I) (cs:azw) (S:Nat->Prop),(∀b,S b->aO.heap[b]? =w.heap[b]?)->aB w F d cs S->aB aO F d cs S
 | .hole,_,_,_,h=>h
 | .bool _,_,_,_,h=>h
 | .gx,_,_,_,h=>h
 | .int _ _,_,_,_,h=>h
 | .str _,_,_,_,h=>h
 | .eA,_,_,_,h=>h
 | .bf,_,_,_,h=>h
 | .slice xs,cs,S,cn,h=>by
   rw[aB]at h⊢;rcases h with h|⟨b,o,cap,fv,sz,ad,af,aG,bh,b6,dt,dj⟩
   .exact .inl h
   .exact .inr ⟨b,o,cap,fv,sz,ad,af,aG,bh,b6,dt.frame (bM _ af),bz.frame bM xs _ _ (λ_ h=>h.elim) dj⟩
 | .ag sz xs,cs,S,cn,h=>by
   rw[aB]at h⊢;rcases h with h|⟨b,cap,cur,e,fr,a7,ad,af,aG,bh,b6,dt,dj,ho,i6,lq,oQ⟩
   .exact .inl h
   .exact .inr ⟨b,cap,cur,e,fr,a7,ad,af,(cn _ af).trans aG,bh,b6,dt,dj,ho,bz.frame bM xs _ _ (λc au=>cn _ (lq _ au)) i6,lq,oQ⟩
 | .ref d,cs,S,cn,h=>by
   rw[aB]at h⊢;obtain⟨b,o,fv,ad,af,aG,bh⟩:=h;exact⟨b,o,fv,ad,af,aG.frame (bM _ af),aB.frame bM d _ _ (λ_ h=>h.elim) bh⟩
 | .aM d,cs,S,cn,h=>by
   rw[aB]at h⊢;obtain⟨b,cur,e,fr,a7,ad,af,aG,bh,b6,dt,dj⟩:=h;exact⟨b,cur,e,fr,a7,ad,af,(cn _ af).trans aG,bh,aB.frame bM d _ _ (λc au=>cn _ (dt _ au)) b6,dt,dj⟩
 | .agg aF,cs,S,cn,h=>by rw[aB]at h⊢;exact bz.frame bM aF _ _ cn h
 | .tuple aF,cs,S,cn,h=>by rw[aB]at h⊢;exact bz.frame bM aF _ _ cn h
 | .fn _ caps,cs,S,cn,h=>by
   rw[aB]at h⊢;obtain⟨arr,ad,af,aG⟩:=h;exact⟨arr,ad,af,bz.frame bM caps _ _ (λ_ h=>h.elim) aG⟩
 | .h _ _,_,_,_,h=>h
 | .ay _ _,_,_,_,h=>h
 | .ab _ _,_,_,_,h=>h
 | .cj _,_,_,cn,h=>oP.frame cn h
theorem bz.frame {w aO:World} {F:Nat->Prop} (bM:∀b,F b->aO.heap[b]? =w.heap[b]?):
  ∀(ds:azy) (cs:azw) (S:Nat->Prop),(∀b,S b->aO.heap[b]? =w.heap[b]?)->bz w F ds cs S->bz aO F ds cs S
 |[],_,_,_,h=>h
 |d::ds,cs,S,cn,h=>by
  rw[bz]at h⊢;obtain⟨ct,c2,cT,eM,ad,af,aG,bh,b6,dt⟩:=h;exact⟨ct,c2,cT,eM,ad,aB.frame bM d _ _ (λb ab=>cn _ (bh _ ab)) af,bz.frame bM ds _ _ (λb ab=>cn _ (b6 _ ab)) aG,bh,b6,dt⟩
end
mutual
theorem aB.mono {w:World} {F cq:Nat->Prop} (bM:∀b,F b->cq b):
  ∀(d:I) (cs:azw) (S a7:Nat->Prop),(∀b,S b->a7 b)->aB w F d cs S->aB w cq d cs a7
 | .hole,_,_,_,_,h=>h
 | .bool _,_,_,_,_,h=>h
 | .gx,_,_,_,_,h=>h
 | .int _ _,_,_,_,_,h=>h
 | .str _,_,_,_,_,h=>h
 | .eA,_,_,_,_,h=>h
 | .bf,_,_,_,_,h=>h
 | .slice xs,cs,S,_,cn,h=>by
   rw[aB]at h⊢;rcases h with h|⟨b,o,cap,fv,sz,ad,af,aG,bh,b6,dt,dj⟩
   .exact .inl h
   .exact .inr ⟨b,o,cap,fv,sz,ad,bM _ af,aG,bh,b6,dt,bz.mono bM xs _ _ _ (λ_ h=>h) dj⟩
 | .ag sz xs,cs,S,_,cn,h=>by
   rw[aB]at h⊢;rcases h with h|⟨b,cap,cur,e,fr,a7,ad,af,aG,bh,b6,dt,dj,ho,i6,lq,oQ⟩
   .exact .inl h
   .exact .inr ⟨b,cap,cur,e,fr,a7,ad,cn _ af,aG,bh,b6,dt,dj,ho,bz.mono bM xs _ _ _ (λ_ h=>h) i6,λc au=>cn _ (lq _ au),oQ⟩
 | .ref d,cs,S,_,cn,h=>by
   rw[aB]at h⊢;obtain⟨b,o,fv,ad,af,aG,bh⟩:=h;exact⟨b,o,fv,ad,bM _ af,aG,aB.mono bM d _ _ _ (λ_ h=>h) bh⟩
 | .aM d,cs,S,_,cn,h=>by
   rw[aB]at h⊢;obtain⟨b,cur,e,fr,a7,ad,af,aG,bh,b6,dt,dj⟩:=h;exact⟨b,cur,e,fr,a7,ad,cn _ af,aG,bh,aB.mono bM d _ _ _ (λ_ h=>h) b6,λc au=>cn _ (dt _ au),dj⟩
 | .agg aF,cs,S,_,cn,h=>by rw[aB]at h⊢;exact bz.mono bM aF _ _ _ cn h
 | .tuple aF,cs,S,_,cn,h=>by rw[aB]at h⊢;exact bz.mono bM aF _ _ _ cn h
 | .fn _ caps,cs,S,_,cn,h=>by
   rw[aB]at h⊢;obtain⟨arr,ad,af,aG⟩:=h;exact⟨arr,ad,af,bz.mono bM caps _ _ _ (λ_ h=>h) aG⟩
 | .h _ _,_,_,_,_,h=>h
 | .ay _ _,_,_,_,_,h=>h
 | .ab _ _,_,_,_,_,h=>h
 | .cj _,_,_,_,cn,h=>oP.mono cn h
theorem bz.mono {w:World} {F cq:Nat->Prop} (bM:∀b,F b->cq b):
  ∀(ds:azy) (cs:azw) (S a7:Nat->Prop),(∀b,S b->a7 b)->bz w F ds cs S->bz w cq ds cs a7
 |[],_,_,_,_,h=>h
 |d::ds,cs,S,_,cn,h=>by
  rw[bz]at h⊢;obtain⟨ct,c2,cT,eM,ad,af,aG,bh,b6,dt⟩:=h;exact⟨ct,c2,cT,eM,ad,aB.mono bM d _ _ _ (λ_ h=>h) af,bz.mono bM ds _ _ _ (λ_ h=>h) aG,λb ab=>cn _ (bh _ ab),λb ab=>cn _ (b6 _ ab),dt⟩
end
mutual
theorem aB.length {w:World} {F:Nat->Prop}:∀(d:I) (cs:azw) (S:Nat->Prop),aB w F d cs S->cs.length=d.wd
 | .hole,cs,S,h=>by rw[aB]at h;obtain⟨v,_,rfl⟩:=h;rfl
 | .bool _,cs,S,h=>by rw[aB]at h;subst h;rfl
 | .gx,cs,S,h=>by rw[aB]at h;obtain⟨b,rfl⟩:=h;rfl
 | .int _ _,cs,S,h=>by rw[aB]at h;subst h;rfl
 | .str _,cs,S,h=>by rw[aB]at h;subst h;rfl
 | .eA,cs,S,h=>by rw[aB]at h;subst h;rfl
 | .bf,cs,S,h=>by rw[aB]at h;subst h;rfl
 | .slice xs,cs,S,h=>by
   rw[aB]at h;rcases h with⟨_,a,c,rfl,_⟩|⟨b,o,cap,fv,sz,rfl,_⟩<;>rfl
 | .ag sz xs,cs,S,h=>by
   rw[aB]at h;rcases h with⟨_,a,rfl⟩|⟨b,cap,cur,e,fr,a7,rfl,_⟩<;>rfl
 | .ref d,cs,S,h=>by rw[aB]at h;obtain⟨b,o,fv,rfl,_⟩:=h;rfl
 | .aM d,cs,S,h=>by rw[aB]at h;obtain⟨b,o,fv,_,_,rfl,_⟩:=h;rfl
 | .agg aF,cs,S,h=>by rw[aB]at h;exact bz.length aF _ _ h
 | .tuple aF,cs,S,h=>by rw[aB]at h;exact bz.length aF _ _ h
 | .fn _ _,cs,S,h=>by rw[aB]at h;obtain⟨arr,rfl,_⟩:=h;rfl
 | .h _ _,cs,S,h=>by rw[aB]at h;exact h.elim
 | .ay _ _,cs,S,h=>by rw[aB]at h;exact h.elim
 | .ab _ _,cs,S,h=>by rw[aB]at h;exact h.elim
 | .cj _,cs,S,h=>by rw[aB]at h;obtain⟨v,_,rfl⟩:=oP.one h;rfl
theorem bz.length {w:World} {F:Nat->Prop}:∀(ds:azy) (cs:azw) (S:Nat->Prop),bz w F ds cs S->cs.length=I.fc ds
 |[],cs,S,h=>by rw[bz]at h;subst h;rfl
 |d::ds,cs,S,h=>by
  rw[bz]at h;obtain⟨ct,c2,cT,eM,rfl,af,aG,_⟩:=h;rw[length_append,aB.length d _ _ af,bz.length ds _ _ aG,I.fc]
end
mutual
def I.share:I->I
 | .ag _ xs=>.slice (I.shares xs)
 | .aM d=>.ref d.share
 | .slice xs=>.slice (I.shares xs)
 | .ref d=>.ref d.share
 | .agg aF=>.agg (I.shares aF)
 | .tuple aF=>.tuple (I.shares aF)
 | .cj _=>.hole
 |d=>d
def I.shares:azy->azy
 |[]=>[]
 |d::ds=>d.share::I.shares ds
end
theorem I.xz (ds:azy):I.shares ds=ds.map I.share:=by
 induction ds with
 |nil=>rfl
 |cons d ds ih=>simp[I.shares,ih]
mutual
theorem I.Ik:∀d:I,d.share.wd=d.wd
 | .hole=>rfl
 | .bool _=>rfl
 | .gx=>rfl
 | .int _ _=>rfl
 | .str _=>rfl
 | .eA=>rfl
 | .bf=>rfl
 | .slice _=>rfl
 | .ag _ _=>rfl
 | .ref _=>rfl
 | .aM _=>rfl
 | .agg aF=>by simp only[I.share,I.wd];exact I.MB aF
 | .tuple aF=>by simp only[I.share,I.wd];exact I.MB aF
 | .fn _ _=>rfl
 | .h _ _=>rfl
 | .ay _ _=>rfl
 | .ab _ _=>rfl
 | .cj _=>rfl
theorem I.MB:∀ds:azy,I.fc (I.shares ds)=I.fc ds
 |[]=>rfl
 |d::ds=>by simp only[I.shares,I.fc];rw[I.Ik d,I.MB ds]
end
theorem Bm {w:World} {b:Nat} {cur:Array Value} {e:TypeId} {fr:Nat×Nat} (h:w.heap[b]? =some (.cells cur e fr)) (n:Nat):jM w b 0 (cur.toList.take n):=by
 intro j c au;rw[getElem?_take]at au;split at au
 .simp[World.cell?,h];simpa using au
 .cases au
mutual
theorem aB.shared {w:World} {F cq:Nat->Prop} (bM:∀b,F b->cq b):
  ∀(d:I) (cs:azw) (S:Nat->Prop),(∀b,S b->cq b)->aB w F d cs S->aB w cq d.share cs (λ_=>False)
 | .hole,_,_,_,h=>h
 | .bool _,_,_,_,h=>h
 | .gx,_,_,_,h=>h
 | .int _ _,_,_,_,h=>h
 | .str _,_,_,_,h=>h
 | .eA,_,_,_,h=>h
 | .bf,_,_,_,h=>h
 | .slice xs,cs,S,cn,h=>by
   rw[I.share,aB];rw[aB]at h;rcases h with⟨rfl,a,c,rfl,au⟩|⟨b,o,cap,fv,sz,ad,af,aG,bh,b6,dt,dj⟩
   .exact .inl ⟨rfl,a,c,rfl,au⟩
   .refine .inr ⟨b,o,cap,fv,sz,?_,bM _ af,?_,bh,?_,dt,bz.shared bM xs _ _ (λ_ h=>h.elim) dj⟩
    .simpa [I.xz]using ad
    .simpa [I.xz]using aG
    .intro d aq;rw[I.xz]at aq;obtain⟨bT,jy,rfl⟩:=mem_map.1 aq;rw[I.Ik];exact b6 _ jy
 | .ag sz xs,cs,S,cn,h=>by
   rw[I.share,aB];rw[aB]at h;rcases h with⟨rfl,a,rfl⟩|⟨b,cap,cur,e,fr,a7,ad,af,aG,bh,b6,dt,dj,ho,i6,lq,oQ⟩
   .exact .inl ⟨rfl,a,0,rfl,zero_le _,λ_=>rfl⟩
   .refine .inr ⟨b,0,cap,_,sz,?_,cn _ af,?_,dt,?_,Bm aG _,bz.shared bM xs _ _ (λc au=>cn _ (lq _ au)) i6⟩
    .simpa [I.xz]using ad
    .simpa [I.xz]using b6
    .intro d aq;rw[I.xz]at aq;obtain⟨bT,jy,rfl⟩:=mem_map.1 aq;rw[I.Ik];exact ho _ jy
 | .ref d,cs,S,cn,h=>by
   rw[I.share,aB];rw[aB]at h;obtain⟨b,o,fv,ad,af,aG,bh⟩:=h;exact⟨b,o,fv,ad,bM _ af,aG,aB.shared bM d _ _ (λ_ h=>h.elim) bh⟩
 | .aM d,cs,S,cn,h=>by
   rw[I.share,aB];rw[aB]at h;obtain⟨b,cur,e,fr,a7,ad,af,aG,bh,b6,dt,dj⟩:=h;refine⟨b,0,cur.toList,ad,cn _ af,?_,aB.shared bM d _ _ (λc au=>cn _ (dt _ au)) b6⟩;have:=Bm aG cur.toList.length
   rwa [take_length]at this
 | .agg aF,cs,S,cn,h=>by rw[I.share,aB];rw[aB]at h;exact bz.shared bM aF _ _ cn h
 | .tuple aF,cs,S,cn,h=>by rw[I.share,aB];rw[aB]at h;exact bz.shared bM aF _ _ cn h
 | .fn f caps,cs,S,cn,h=>by
   show aB w cq (.fn f caps) cs _;rw[aB]at h⊢;obtain⟨arr,ad,af,aG⟩:=h;exact⟨arr,ad,af,bz.mono bM caps _ _ _ (λ_ h=>h) aG⟩
 | .h _ _,_,_,_,h=>h
 | .ay _ _,_,_,_,h=>h
 | .ab _ _,_,_,_,h=>h
 | .cj _,cs,S,cn,h=>by rw[aB]at h;rw[I.share,aB];exact oP.one h
theorem bz.shared {w:World} {F cq:Nat->Prop} (bM:∀b,F b->cq b):
  ∀(ds:azy) (cs:azw) (S:Nat->Prop),(∀b,S b->cq b)->bz w F ds cs S->bz w cq (I.shares ds) cs (λ_=>False)
 |[],_,_,_,h=>h
 |d::ds,cs,S,cn,h=>by
  simp only[I.shares];rw[bz]at h⊢;obtain⟨ct,c2,cT,eM,ad,af,aG,bh,b6,dt⟩:=h;exact⟨ct,c2,_,_,ad,aB.shared bM d _ _ (λb ab=>cn _ (bh _ ab)) af,bz.shared bM ds _ _ (λb ab=>cn _ (b6 _ ab)) aG,λ_ h=>h,λ_ h=>h,λ_ h=>h.elim⟩
end
def I.sub:azt->I->Option I
 |[],d=>some d
 |k::q,.agg aF=>match aF[k]? with
  |some d=>I.sub q d
  |none=>none
 |k::q,.tuple aF=>match aF[k]? with
  |some d=>I.sub q d
  |none=>none
 |i::q,.ag _ xs=>match xs[i]? with
  |some d=>I.sub q d
  |none=>none
 |0::q,.aM d=>I.sub q d
 |_::_,_=>none
def I.put:azt->I->I->I
 |[],n,_=>n
 |k::q,n,.agg aF=>match aF[k]? with
  |some d=>.agg (aF.set k (I.put q n d))
  |none=>.agg aF
 |k::q,n,.tuple aF=>match aF[k]? with
  |some d=>.tuple (aF.set k (I.put q n d))
  |none=>.tuple aF
 |i::q,n,.ag sz xs=>match xs[i]? with
  |some d=>.ag sz (xs.set i (I.put q n d))
  |none=>.ag sz xs
 |0::q,n,.aM d=>.aM (I.put q n d)
 |_::_,_,d=>d
def qu (w:World) (b o n:Nat):azw:=(range n).map λj=>(w.cell? ⟨b,o+j,none⟩).getD undef
theorem jM.qu {w:World} {b o:Nat} {cs:azw} (h:jM w b o cs):qu w b o cs.length=cs:=by
 unfold ep.qu;apply ext_getElem?;intro i;rw[getElem?_map];by_cases ai:i<cs.length
 .have:cs[i]? =some cs[i]:=getElem?_eq_getElem ai;simp[ai,h i _ this]
 .simp[ai]
def eF (w:World):azt->I->azw->Option (Nat×Nat)->Option (I×azw×Option (Nat×Nat))
 |[],d,cs,a=>some (d,cs,a)
 |k::q,.agg aF,cs,a=>match aF[k]? with
  |some d=>eF w q d ((cs.drop (I.fc (aF.take k))).take d.wd) (a.map λl=>(l.1,l.2+I.fc (aF.take k)))
  |none=>none
 |k::q,.tuple aF,cs,a=>match aF[k]? with
  |some d=>eF w q d ((cs.drop (I.fc (aF.take k))).take d.wd) (a.map λl=>(l.1,l.2+I.fc (aF.take k)))
  |none=>none
 |i::q,.ag sz xs,cs,_=>match xs[i]?,cs with
  |some d,[.slice (some ⟨b,_,_⟩) _ _]=>eF w q d (qu w b (i*sz) sz) (some (b,i*sz))
  |_,_=>none
 |0::q,.aM d,cs,_=>match cs with
  |[.pointer (some ⟨b,_,_⟩)]=>eF w q d (qu w b 0 d.wd) (some (b,0))
  |_=>none
 |_::_,_,_,_=>none
theorem y1 (ct hp c2:azw) (n m:Nat) (ad:ct.length=n) (af:hp.length=m):((ct++(hp++c2)).drop n).take m=hp:=by
 rw[drop_left' ad,take_left' af]
theorem bz.pick {w:World} {F:Nat->Prop}:∀(ds:azy) (cs:azw) (S:Nat->Prop) (k:Nat) (d:I),
  bz w F ds cs S->ds[k]? =some d->∃(ct hp c2:azw) (cT jN:Nat->Prop),cs=ct++(hp++c2)/\ct.length=I.fc (ds.take k)/\
   (∀b,cT b->S b)/\(∀b,jN b->S b)/\(∀b,cT b->¬jN b)/\aB w F d hp jN/\
   ∀(aO:World) (bT:I) (y2:azw) (a7:Nat->Prop),(∀b,F b->aO.heap[b]? =w.heap[b]?)->(∀b,cT b->aO.heap[b]? =w.heap[b]?)->
    aB aO F bT y2 a7->(∀b,a7 b->¬cT b)->bz aO F (ds.set k bT) (ct++(y2++c2)) (λb=>cT b\/a7 b)
 |[],_,_,_,_,_,aw=>by simp at aw
 |x::ds,cs,S,0,d,h,aw=>by
  rw[bz]at h;obtain⟨ct,c2,jz,im,rfl,ad,af,bq,ab,kP⟩:=h;simp at aw;subst aw;refine⟨[],ct,c2,im,jz,rfl,rfl,ab,bq,λb ab bq=>kP _ bq ab,ad,?_⟩;intro aO bT y2 a7 bM cn aq lr;simp only[set_cons_zero,nil_append];rw[bz];exact⟨y2,c2,a7,im,rfl,aq,bz.frame bM _ _ _ cn af,λb h=>.inr h,λb h=>.inl h,λb h=>lr b h⟩
 |x::ds,cs,S,k+1,d,h,aw=>by
  rw[bz]at h;obtain⟨c0,acX,jz,im,rfl,ad,af,bq,ab,kP⟩:=h;simp only[getElem?_cons_succ]at aw;have hl:=aB.length _ _ _ ad;obtain⟨ct,hp,c2,cT,jN,rfl,i0,xy,i2,i3,i5,MC⟩:=bz.pick ds acX im k d af aw;refine⟨c0++ct,hp,c2,λb=>jz b\/cT b,jN,by simp,by simp[I.fc,hl,i0],?_,λb h=>ab _ (i2 _ h),?_,i5,?_⟩
  .rintro b (h|h)
   .exact bq _ h
   .exact ab _ (xy _ h)
  .rintro b (h|h) aw
   .exact kP _ h (i2 _ aw)
   .exact i3 _ h aw
  .intro aO bT y2 a7 bM cn aq lr;simp only[set_cons_succ];rw[bz];refine⟨c0,ct++(y2++c2),jz,λb=>cT b\/a7 b,by simp,aB.frame bM _ _ _ (λb ab=>cn b (.inl ab)) ad,
    MC aO bT y2 a7 bM (λb ab=>cn b (.inr ab)) aq (λb ab au=>lr b ab (.inr au)),λb h=>.inl (.inl h),?_,?_⟩
   .rintro b (h|h)
    .exact .inl (.inr h)
    .exact .inr h
   .rintro b h (bI|bI)
    .exact kP _ h (xy _ bI)
    .exact lr _ bI (.inl h)
theorem MD:∀(aF:azy) (k:Nat) (x y:I),aF[k]? =some x->y.wd=x.wd->I.fc (aF.set k y)=I.fc aF:=by
 intro aF;induction aF with
 |nil=>intro k x y h;simp at h
 |cons a aF ih=>
  intro k x y h e;cases k with
  |zero=>simp at h;subst h;simp[I.fc,e]
  |succ k=>simp at h;simp[I.fc,ih k x y h e]
theorem y3 {sz:Nat}:∀(xs:azy),(∀d∈xs,d.wd=sz)->I.fc xs=xs.length*sz
 |[],_=>by simp[I.fc]
 |x::xs,h=>by
  rw[I.fc,h x (by simp),y3 xs (λd aq=>h d (by simp[aq])),length_cons,Nat.add_mul,Nat.one_mul,Nat.add_comm]
theorem I.Bn:∀(q:azt) (av d bT:I),I.sub q av=some d->bT.wd=d.wd->(I.put q bT av).wd=av.wd:=by
 intro q;induction q with
 |nil=>intro av d bT h e;simp[I.sub]at h;subst h;simpa [I.put]using e
 |cons k q ih=>
  intro av d bT h e;cases av with
  |agg aF=>
   simp only[I.sub]at h;split at h
   .rename_i x ao;simp only[I.put,ao,I.wd];exact MD _ _ _ _ ao (ih _ _ _ h e)
   .cases h
  |tuple aF=>
   simp only[I.sub]at h;split at h
   .rename_i x ao;simp only[I.put,ao,I.wd];exact MD _ _ _ _ ao (ih _ _ _ h e)
   .cases h
  |ag sz xs=>
   simp only[I.sub]at h;split at h
   .rename_i x ao;simp only[I.put,ao,I.wd]
   .cases h
  |aM x=>
   cases k with
   |zero=>simp only[I.put,I.wd]
   |succ k=>simp[I.sub]at h
  |_=>simp[I.sub]at h
theorem ME {sz:Nat} {xs:azy} {i:Nat} {y:I} (h:∀d∈xs,d.wd=sz) (hy:y.wd=sz):∀d∈xs.set i y,d.wd=sz:=by
 intro d aq;rcases mem_or_eq_of_mem_set aq with aq|rfl
 .exact h d aq
 .exact hy
theorem Bo {w:World} {b:Nat} {cur:Array Value} {e:TypeId} {fr:Nat×Nat} (h:w.heap[b]? =some (.cells cur e fr)) {l m r:azw} (au:cur.toList=l++(m++r)):
  qu w b l.length m.length=m:=by
 refine jM.qu (λj c bQ=>?_);have eQ:j<m.length:=(List.getElem?_eq_some_iff.1 bQ).1;have:cur.toList[l.length+j]? =some c:=by
  rw[au,getElem?_append_right (by omega),getElem?_append_left (by omega)];rw[<-bQ];congr 1;omega
 simp[World.cell?,h];simpa using this
def Flat (w:World) (F:Nat->Prop) (q:azt) (av:I) (cs:azw) (a:Option (Nat×Nat)) (d:I) (dH:azw) (dF:Option (Nat×Nat)) (fm:Nat->Prop):Prop:=
 ∃l r:azw,cs=l++(dH++r)/\dF=a.map (λx=>(x.1,x.2+l.length))/\
  ∀(aO:World) (bT:I) (hq:azw) (a7:Nat->Prop),(∀b,F b->aO.heap[b]? =w.heap[b]?)->(∀b,fm b->aO.heap[b]? =w.heap[b]?)->
   bT.wd=d.wd->aB aO F bT hq a7->(∀b,a7 b->¬fm b)->aB aO F (I.put q bT av) (l++(hq++r)) (λb=>fm b\/a7 b)
def Deep (w:World) (F:Nat->Prop) (q:azt) (av:I) (cs:azw) (d:I) (dH:azw) (dF:Option (Nat×Nat)) (fm:Nat->Prop):Prop:=
 ∃(b:Nat) (cur:Array Value) (e:TypeId) (fr:Nat×Nat) (l r:azw),dF=some (b,l.length)/\fm b/\w.heap[b]? =some (.cells cur e fr)/\pV fr cur.size/\cur.toList=l++(dH++r)/\
  ∀(aO:World) (bT:I) (hq:azw) (a7:Nat->Prop),(∀b,F b->aO.heap[b]? =w.heap[b]?)->(∀c,fm c->c≠b->aO.heap[c]? =w.heap[c]?)->
   aO.heap[b]? =some (.cells (l++(hq++r)).toArray e fr)->
   bT.wd=d.wd->aB aO F bT hq a7->(∀b,a7 b->¬fm b)->aB aO F (I.put q bT av) cs (λb=>fm b\/a7 b)
theorem ctx {w:World} {F:Nat->Prop}:∀(q:azt) (av:I) (cs:azw) (S:Nat->Prop) (a:Option (Nat×Nat)) (d:I),
  aB w F av cs S->I.sub q av=some d->∃(dH:azw) (dF:Option (Nat×Nat)) (fm gy:Nat->Prop),eF w q av cs a=some (d,dH,dF)/\
   (∀b,fm b->S b)/\(∀b,gy b->S b)/\(∀b,fm b->¬gy b)/\aB w F d dH gy/\(Flat w F q av cs a d dH dF fm\/Deep w F q av cs d dH dF fm):=by
 intro q;induction q with
 |nil=>
  intro av cs S a d h aq;simp[I.sub]at aq;subst aq;refine⟨cs,a,λ_=>False,S,rfl,λ_ h=>h.elim,λ_ h=>h,λ_ h=>h.elim,h,.inl ⟨[],[],by simp,?_,?_⟩⟩
  .cases a<;>simp
  .intro aO bT hq a7 _ _ hw jy _;simp only[I.put,nil_append,append_nil];exact aB.mono (λ_ h=>h) _ _ _ _ (λb h=>.inr h) jy
 |cons k q ih=>
  have fields:∀(mk:azy->I) (MF:∀(w:World) (F:Nat->Prop) (aF:azy) (cs:azw) (S:Nat->Prop),aB w F (mk aF) cs S=bz w F aF cs S) (aF:azy) (cs:azw) (S:Nat->Prop) (a:Option (Nat×Nat)) (x d:I),
    (mb:∀bT,I.put (k::q) bT (mk aF)=mk (aF.set k (I.put q bT x)))->bz w F aF cs S->aF[k]? =some x->I.sub q x=some d->
    ∃(dH:azw) (dF:Option (Nat×Nat)) (fm gy:Nat->Prop),eF w q x ((cs.drop (I.fc (aF.take k))).take x.wd) (a.map λl=>(l.1,l.2+I.fc (aF.take k)))=some (d,dH,dF)/\
    (∀b,fm b->S b)/\(∀b,gy b->S b)/\(∀b,fm b->¬gy b)/\aB w F d dH gy/\(Flat w F (k::q) (mk aF) cs a d dH dF fm\/Deep w F (k::q) (mk aF) cs d dH dF fm):=by
   intro mk MF aF cs S a x d mb h ao aq;obtain⟨ct,hp,c2,cT,jN,rfl,jA,hc,i7,ki,hD,pf⟩:=bz.pick aF cs S k x h ao;have hl:=aB.length _ _ _ hD;rw[y1 ct hp c2 _ _ jA hl];obtain⟨dH,dF,fm,gy,g0,g1,g2,g3,g4,g5⟩:=ih x _ jN (a.map λl=>(l.1,l.2+I.fc (aF.take k))) d hD aq;refine⟨dH,dF,λb=>cT b\/fm b,gy,g0,?_,λb ab=>i7 _ (g2 _ ab),?_,g4,?_⟩
   .rintro b (h|h)
    .exact hc _ h
    .exact i7 _ (g1 _ h)
   .rintro b (h|h) aq
    .exact ki _ h (g2 _ aq)
    .exact g3 _ h aq
   .have gf:∀(b:Nat) (a7:Nat->Prop),(cT b\/fm b\/a7 b)->((cT b\/fm b)\/a7 b):=by
     rintro b a7 (ab|ab|ab)
     .exact .inl (.inl ab)
     .exact .inl (.inr ab)
     .exact .inr ab
    rcases g5 with⟨l,r,rfl,aW,aS⟩|⟨b,cur,e,fr,l,r,aP,aW,aS,cf,cF,cw⟩
    .refine .inl ⟨ct++l,r++c2,by simp,?_,?_⟩
     .rw[aW,<-jA];cases a<;>simp[Nat.add_assoc]
     .intro aO bT hq a7 bM cn hw jy lr;have en:=aS aO bT hq a7 bM (λb ab=>cn b (.inr ab)) hw jy (λb ab au=>lr b ab (.inr au));have bd:=pf aO _ _ _ bM (λb ab=>cn b (.inl ab)) en (by
       rintro b (ab|ab) ad
       .exact ki _ ad (g1 _ ab)
       .exact lr _ ab (.inl ad))
      rw[mb,MF];have:=bz.mono (λ_ h=>h) _ _ _ _ (λb=>gf b a7) bd;simpa using this
    .refine .inr ⟨b,cur,e,fr,l,r,aP,.inr aW,aS,cf,cF,?_⟩;intro aO bT hq a7 bM cn pg hw jy lr;have en:=cw aO bT hq a7 bM (λc au=>cn c (.inr au)) pg hw jy (λb ab au=>lr b ab (.inr au));have bd:=pf aO _ _ _ bM (λc au=>cn c (.inl au) (by rintro rfl;exact ki _ au (g1 _ aW))) en (by
       rintro b (ab|ab) ad
       .exact ki _ ad (g1 _ ab)
       .exact lr _ ab (.inl ad))
     rw[mb,MF];exact bz.mono (λ_ h=>h) _ _ _ _ (λb=>gf b a7) bd
  intro av cs S a d h aq;cases av with
  |agg aF=>
   simp only[I.sub]at aq;split at aq
   .rename_i x ao;rw[aB]at h;have:=fields .agg (λ_ _ _ _ _=>by rw[aB]) aF cs S a x d (λbT=>by simp only[I.put,ao]) h ao aq;simpa only[eF,ao]using this
   .cases aq
  |tuple aF=>
   simp only[I.sub]at aq;split at aq
   .rename_i x ao;rw[aB]at h;have:=fields .tuple (λ_ _ _ _ _=>by rw[aB]) aF cs S a x d (λbT=>by simp only[I.put,ao]) h ao aq;simpa only[eF,ao]using this
   .cases aq
  |ag sz xs=>
   simp only[I.sub]at aq;split at aq
   .rename_i x ao;rw[aB]at h;rcases h with⟨rfl,_,rfl⟩|⟨b,cap,cur,e,fr,e1,rfl,af,aG,bh,b6,dt,dj,ho,i6,lq,oQ⟩
    .simp at ao
    .obtain⟨ct,hp,c2,cT,jN,p,jA,hc,i7,ki,hD,pf⟩:=bz.pick xs _ e1 k x i6 ao;have hl:=aB.length _ _ _ hD;have acY:k<xs.length:=(List.getElem?_eq_some_iff.1 ao).1;have Ek:x.wd=sz:=ho x (mem_of_getElem? ao);have bS:I.fc (xs.take k)=k*sz:=by
      rw[y3 _ (λd aq=>ho d (mem_of_mem_take aq))];rw[length_take,Nat.min_eq_left (by omega)]
     obtain⟨vF,pX⟩:∃vF,cur.toList=ct++(hp++(c2++vF)):=by
      refine⟨cur.toList.drop (xs.length*sz),?_⟩;have:=(take_append_drop (xs.length*sz) cur.toList).symm;rw[p]at this;simpa using this
     have mB:qu w b (k*sz) sz=hp:=by
      have:=Bo aG pX
      rwa [jA,bS,hl,Ek]at this
     obtain⟨dH,dF,fm,gy,g0,g1,g2,g3,g4,g5⟩:=ih x _ jN (some (b,k*sz)) d hD aq;have mb:∀bT,I.put (k::q) bT (.ag sz xs)= .ag sz (xs.set k (I.put q bT x)):=λbT=>by simp only[I.put,ao]
     refine⟨dH,dF,λc=>c=b\/cT c\/fm c,gy,?_,?_,λc au=>lq _ (i7 _ (g2 _ au)),?_,g4,.inr ?_⟩
     .simp only[eF,ao,mB];exact g0
     .rintro c (rfl|h|h)
      .exact af
      .exact lq _ (hc _ h)
      .exact lq _ (i7 _ (g1 _ h))
     .rintro c (rfl|h|h) aq
      .exact oQ (i7 _ (g2 _ aq))
      .exact ki _ h (g2 _ aq)
      .exact g3 _ h aq
     .have nw:∀bT,bT.wd=d.wd->(I.put q bT x).wd=sz:=λbT hw=>(I.Bn q x d bT aq hw).trans Ek;rcases g5 with⟨l,r,rfl,aW,aS⟩|⟨gW,MG,hE,MH,l,r,aP,aW,aS,cf,cF,cw⟩
      .refine⟨b,cur,e,fr,ct++l,r++(c2++vF),?_,.inl rfl,aG,bh.low,?_,?_⟩
       .rw[aW];simp[jA,bS]
       .rw[pX];simp
       .intro aO bT hq a7 bM cn pg hw jy lr;have en:=aS aO bT hq a7 bM (λc au=>cn c (.inr (.inr au)) (by rintro rfl;exact oQ (i7 _ (g1 _ au)))) hw jy (λb ab au=>lr b ab (.inr (.inr au)));have bd:=pf aO _ _ _ bM (λc au=>cn c (.inr (.inl au)) (by rintro rfl;exact oQ (hc _ au))) en (by
         rintro b (ab|ab) ad
         .exact ki _ ad (g1 _ ab)
         .exact lr _ ab (.inr (.inl ad)))
        have El:=aB.length _ _ _ jy;have Em:=aB.length _ _ _ g4;rw[mb,aB];refine .inr ⟨b,cap,_,e,fr,λb=>cT b\/fm b\/a7 b,by simp,.inl (.inl rfl),pg,?_,by simpa using b6,dt,?_,ME ho (nw bT hw),?_,?_,?_⟩
        .have:(ct++l++(hq++(r++(c2++vF)))).toArray.size=cur.size:=by
          have:cur.size=cur.toList.length:=by simp
          rw[this,pX];simp[El,Em,hw]
         rw[this];exact bh
        .rw[<-dj];have:cur.size=cur.toList.length:=by simp
         rw[this,pX];simp[El,Em,hw]
        .have hlen:(ct++(l++(hq++r)++c2)).length=xs.length*sz:=by
          have:=congrArg length p;rw[length_take,Nat.min_eq_left (by simp[dj];exact mul_le_mul_right _ b6)]at this;rw[this];simp[El,Em,hw]
         have:(ct++l++(hq++(r++(c2++vF))))=(ct++(l++(hq++r)++c2))++vF:=by simp
         rw[length_set];simp only[this];rw[take_left' hlen];exact bd
        .rintro c (h|h|h)
         .exact .inl (.inr (.inl h))
         .exact .inl (.inr (.inr h))
         .exact .inr h
        .rintro(h|h|h)
         .exact oQ (hc _ h)
         .exact oQ (i7 _ (g1 _ h))
         .exact lr _ h (.inl rfl)
      .refine⟨gW,MG,hE,MH,l,r,aP,.inr (.inr aW),aS,cf,cF,?_⟩;intro aO bT hq a7 bM cn pg hw jy lr;have en:=cw aO bT hq a7 bM (λc au eo=>cn c (.inr (.inr au)) eo) pg hw jy (λb ab au=>lr b ab (.inr (.inr au)));have eo:∀c,cT c->c≠gW:=by rintro c au rfl;exact ki _ au (g1 _ aW)
       have bd:=pf aO _ _ _ bM (λc au=>cn c (.inr (.inl au)) (eo c au)) en (by
        rintro b (ab|ab) ad
        .exact ki _ ad (g1 _ ab)
        .exact lr _ ab (.inr (.inl ad)))
       have MI:b≠gW:=by rintro rfl;exact oQ (i7 _ (g1 _ aW))
       rw[mb,aB];refine .inr ⟨b,cap,cur,e,fr,λb=>cT b\/fm b\/a7 b,by simp,.inl (.inl rfl),(cn b (.inl rfl) MI).trans aG,bh,by simpa using b6,dt,dj,ME ho (nw bT hw),?_,?_,?_⟩
       .rw[length_set,p];exact bd
       .rintro c (h|h|h)
        .exact .inl (.inr (.inl h))
        .exact .inl (.inr (.inr h))
        .exact .inr h
       .rintro(h|h|h)
        .exact oQ (hc _ h)
        .exact oQ (i7 _ (g1 _ h))
        .exact lr _ h (.inl rfl)
   .cases aq
  |aM x=>
   cases k with
   |succ k=>simp[I.sub]at aq
   |zero=>
    simp only[I.sub]at aq;rw[aB]at h;obtain⟨b,cur,e,fr,e1,rfl,af,aG,bh,b6,dt,dj⟩:=h;have hl:=aB.length _ _ _ b6;have mB:qu w b 0 x.wd=cur.toList:=by
     have:=Bo (l:=[]) (m:=cur.toList) (r:=[]) aG (by simp)
     rwa [hl]at this
    obtain⟨dH,dF,fm,gy,g0,g1,g2,g3,g4,g5⟩:=ih x _ e1 (some (b,0)) d b6 aq;have mb:∀bT,I.put (0::q) bT (.aM x)= .aM (I.put q bT x):=λbT=>rfl;refine⟨dH,dF,λc=>c=b\/fm c,gy,?_,?_,λc au=>dt _ (g2 _ au),?_,g4,.inr ?_⟩
    .simp only[eF,mB];exact g0
    .rintro c (rfl|h)
     .exact af
     .exact dt _ (g1 _ h)
    .rintro c (rfl|h) aq
     .exact dj (g2 _ aq)
     .exact g3 _ h aq
    .rcases g5 with⟨l,r,aP,aW,aS⟩|⟨gW,MG,hE,MH,l,r,aP,aW,aS,cf,cF,cw⟩
     .refine⟨b,cur,e,fr,l,r,?_,.inl rfl,aG,bh,aP,?_⟩
      .rw[aW];simp
      .intro aO bT hq a7 bM cn pg hw jy lr;have en:=aS aO bT hq a7 bM (λc au=>cn c (.inr au) (by rintro rfl;exact dj (g1 _ au))) hw jy (λb ab au=>lr b ab (.inr au));have El:=aB.length _ _ _ jy;have Em:=aB.length _ _ _ g4;rw[mb,aB];refine⟨b,_,e,fr,λb=>fm b\/a7 b,rfl,.inl (.inl rfl),pg,?_,en,?_,?_⟩
       .have:(l++(hq++r)).toArray.size=cur.size:=by
         have:cur.size=cur.toList.length:=by simp
         rw[this,aP];simp[El,Em,hw]
        rw[this];exact bh
       .rintro c (h|h)
        .exact .inl (.inr h)
        .exact .inr h
       .rintro(h|h)
        .exact dj (g1 _ h)
        .exact lr _ h (.inl rfl)
     .refine⟨gW,MG,hE,MH,l,r,aP,.inr aW,aS,cf,cF,?_⟩;intro aO bT hq a7 bM cn pg hw jy lr;have en:=cw aO bT hq a7 bM (λc au eo=>cn c (.inr au) eo) pg hw jy (λb ab au=>lr b ab (.inr au));have MI:b≠gW:=by rintro rfl;exact dj (g1 _ aW)
      rw[mb,aB];refine⟨b,cur,e,fr,λb=>fm b\/a7 b,rfl,.inl (.inl rfl),(cn b (.inl rfl) MI).trans aG,bh,en,?_,?_⟩
      .rintro c (h|h)
       .exact .inl (.inr h)
       .exact .inr h
      .rintro(h|h)
       .exact dj (g1 _ h)
       .exact lr _ h (.inl rfl)
  |_=>simp[I.sub]at aq
mutual
def I.plain:I->Bool
 | .ag _ _=>false
 | .aM _=>false
 | .cj _=>false
 | .agg aF=>I.e_ aF
 | .tuple aF=>I.e_ aF
 |_=>true
def I.e_:azy->Bool
 |[]=>true
 |d::ds=>d.plain&&I.e_ ds
end
mutual
def I.ej:I->I
 | .ag _ _=>.hole
 | .aM _=>.hole
 | .cj _=>.hole
 | .agg aF=>.agg (I.od aF)
 | .tuple aF=>.tuple (I.od aF)
 |d=>d
def I.od:azy->azy
 |[]=>[]
 |d::ds=>d.ej::I.od ds
end
mutual
theorem I.xA:∀d:I,d.ej.wd=d.wd
 | .hole=>rfl
 | .bool _=>rfl
 | .gx=>rfl
 | .int _ _=>rfl
 | .str _=>rfl
 | .eA=>rfl
 | .bf=>rfl
 | .slice _=>rfl
 | .ag _ _=>rfl
 | .ref _=>rfl
 | .aM _=>rfl
 | .agg aF=>by simp only[I.ej,I.wd];exact I.MJ aF
 | .tuple aF=>by simp only[I.ej,I.wd];exact I.MJ aF
 | .fn _ _=>rfl
 | .h _ _=>rfl
 | .ay _ _=>rfl
 | .ab _ _=>rfl
 | .cj _=>rfl
theorem I.MJ:∀ds:azy,I.fc (I.od ds)=I.fc ds
 |[]=>rfl
 |d::ds=>by simp only[I.od,I.fc];rw[I.xA d,I.MJ ds]
end
mutual
theorem aB.ej {w:World} {F:Nat->Prop}:∀(d:I) (cs:azw) (S a7:Nat->Prop),aB w F d cs S->aB w F d.ej cs a7
 | .hole,_,_,_,h=>h
 | .bool _,_,_,_,h=>h
 | .gx,_,_,_,h=>h
 | .int _ _,_,_,_,h=>h
 | .str _,_,_,_,h=>h
 | .eA,_,_,_,h=>h
 | .bf,_,_,_,h=>h
 | .slice xs,cs,S,a7,h=>by
   show aB w F (.slice xs) cs a7;rw[aB]at h⊢;exact h
 | .ag sz xs,cs,S,a7,h=>by
   rw[I.ej,aB];rw[aB]at h;rcases h with⟨_,_,rfl⟩|⟨b,cap,cur,e,fr,e1,rfl,_⟩
   .exact⟨_,rfl,rfl⟩
   .exact⟨_,rfl,rfl⟩
 | .ref d,cs,S,a7,h=>by
   show aB w F (.ref d) cs a7;rw[aB]at h⊢;exact h
 | .aM d,cs,S,a7,h=>by
   rw[I.ej,aB];rw[aB]at h;obtain⟨b,cur,e,fr,e1,rfl,_⟩:=h;exact⟨_,rfl,rfl⟩
 | .agg aF,cs,S,a7,h=>by rw[I.ej,aB];rw[aB]at h;exact bz.ej aF _ _ _ h
 | .tuple aF,cs,S,a7,h=>by rw[I.ej,aB];rw[aB]at h;exact bz.ej aF _ _ _ h
 | .fn _ _,_,_,_,h=>h
 | .h _ _,_,_,_,h=>h
 | .ay _ _,_,_,_,h=>h
 | .ab _ _,_,_,_,h=>h
 | .cj _,_,_,_,h=>by rw[aB]at h;rw[I.ej,aB];exact oP.one h
theorem bz.ej {w:World} {F:Nat->Prop}:∀(ds:azy) (cs:azw) (S a7:Nat->Prop),bz w F ds cs S->bz w F (I.od ds) cs a7
 |[],_,_,_,h=>h
 |d::ds,cs,S,a7,h=>by
  rw[I.od,bz];rw[bz]at h;obtain⟨ct,c2,cT,eM,ad,af,aG,bh,b6,dt⟩:=h;exact⟨ct,c2,λ_=>False,λ_=>False,ad,aB.ej d _ _ _ af,bz.ej ds _ _ _ aG,λ_ h=>h.elim,λ_ h=>h.elim,λ_ h=>h.elim⟩
end
mutual
theorem aB.plain {w:World} {F:Nat->Prop}:∀(d:I) (cs:azw) (S a7:Nat->Prop),d.plain=true->aB w F d cs S->aB w F d cs a7
 | .hole,_,_,_,_,h=>h
 | .bool _,_,_,_,_,h=>h
 | .gx,_,_,_,_,h=>h
 | .int _ _,_,_,_,_,h=>h
 | .str _,_,_,_,_,h=>h
 | .eA,_,_,_,_,h=>h
 | .bf,_,_,_,_,h=>h
 | .slice xs,cs,S,a7,_,h=>by rw[aB]at h⊢;exact h
 | .ag sz xs,cs,S,a7,ay,h=>by simp[I.plain]at ay
 | .ref d,cs,S,a7,_,h=>by rw[aB]at h⊢;exact h
 | .aM d,cs,S,a7,ay,h=>by simp[I.plain]at ay
 | .agg aF,cs,S,a7,ay,h=>by rw[aB]at h⊢;exact bz.plain aF _ _ _ ay h
 | .tuple aF,cs,S,a7,ay,h=>by rw[aB]at h⊢;exact bz.plain aF _ _ _ ay h
 | .fn _ _,_,_,_,_,h=>h
 | .h _ _,_,_,_,_,h=>h
 | .ay _ _,_,_,_,_,h=>h
 | .ab _ _,_,_,_,_,h=>h
 | .cj _,_,_,_,ay,_=>by simp[I.plain]at ay
theorem bz.plain {w:World} {F:Nat->Prop}:∀(ds:azy) (cs:azw) (S a7:Nat->Prop),I.e_ ds=true->bz w F ds cs S->bz w F ds cs a7
 |[],_,_,_,_,h=>h
 |d::ds,cs,S,a7,ay,h=>by
  rw[bz]at h⊢;simp only[I.e_,Bool.and_eq_true]at ay;obtain⟨ct,c2,cT,eM,ad,af,aG,bh,b6,dt⟩:=h;exact⟨ct,c2,λ_=>False,λ_=>False,ad,aB.plain d _ _ _ ay.1 af,bz.plain ds _ _ _ ay.2 aG,λ_ h=>h.elim,λ_ h=>h.elim,λ_ h=>h.elim⟩
end
def I.gK:azt->I->Bool
 |[],_=>false
 |k::q,.agg aF=>match aF[k]? with
  |some d=>I.gK q d
  |none=>false
 |k::q,.tuple aF=>match aF[k]? with
  |some d=>I.gK q d
  |none=>false
 |_::_,.ag _ _=>true
 |_::_,.aM _=>true
 |_::_,_=>false
theorem Il {aF:azy} (h:I.e_ aF=true) {k:Nat} {d:I} (aw:aF[k]? =some d):d.plain=true:=by
 induction aF generalizing k with
 |nil=>simp at aw
 |cons a aF ih=>
  simp only[I.e_,Bool.and_eq_true]at h;cases k with
  |zero=>simp at aw;subst aw;exact h.1
  |succ k=>simp at aw;exact ih h.2 aw
theorem I.Ub:∀(q:azt) (d:I),d.plain=true->I.gK q d=false:=by
 intro q;induction q with
 |nil=>intros;rfl
 |cons k q ih=>
  intro d aq;cases d<;>first|rfl|(simp[I.plain]at aq;done)|skip
  all_goals
   simp only[I.gK];split
   .rename_i aF x ao;exact ih _ (Il (by simpa [I.plain]using aq) ao)
   .rfl
theorem I.MK:∀(q:azt) (d e:I),d.plain=true->I.sub q d=some e->e.plain=true:=by
 intro q;induction q with
 |nil=>intro d e aq h;simp[I.sub]at h;exact h▸aq
 |cons k q ih=>
  intro d e aq h;cases d<;>first|(simp[I.plain]at aq;done)|(simp[I.sub]at h;done)|skip
  all_goals
   simp only[I.sub]at h;split at h
   .rename_i aF x ao;exact ih _ _ (Il (by simpa [I.plain]using aq) ao) h
   .cases h
theorem Im {w aO:World} {F:Nat->Prop}:∀(q:azt) (av:I) (cs:azw) (S:Nat->Prop) (a:Option (Nat×Nat)) (d:I),
  aB w F av cs S->I.sub q av=some d->(∀b,S b->aO.heap[b]? =w.heap[b]?)->eF aO q av cs a=eF w q av cs a:=by
 intro q;induction q with
 |nil=>intros;rfl
 |cons k q ih=>
  have fields:∀(aF:azy) (cs:azw) (S:Nat->Prop) (a:Option (Nat×Nat)) (x d:I),bz w F aF cs S->aF[k]? =some x->I.sub q x=some d->
    (∀b,S b->aO.heap[b]? =w.heap[b]?)->
    eF aO q x ((cs.drop (I.fc (aF.take k))).take x.wd) (a.map λl=>(l.1,l.2+I.fc (aF.take k)))=eF w q x ((cs.drop (I.fc (aF.take k))).take x.wd) (a.map λl=>(l.1,l.2+I.fc (aF.take k))):=by
   intro aF cs S a x d h ao aq cn;obtain⟨ct,hp,c2,cT,jN,rfl,jA,hc,i7,ki,hD,pf⟩:=bz.pick aF cs S k x h ao;rw[y1 ct hp c2 _ _ jA (aB.length _ _ _ hD)];exact ih x hp jN _ d hD aq (λb ab=>cn b (i7 _ ab))
  intro av cs S a d h aq cn;cases av with
  |agg aF=>
   simp only[I.sub]at aq;split at aq
   .rename_i x ao;rw[aB]at h;simp only[eF,ao];exact fields aF cs S a x d h ao aq cn
   .cases aq
  |tuple aF=>
   simp only[I.sub]at aq;split at aq
   .rename_i x ao;rw[aB]at h;simp only[eF,ao];exact fields aF cs S a x d h ao aq cn
   .cases aq
  |ag sz xs=>
   simp only[I.sub]at aq;split at aq
   .rename_i x ao;rw[aB]at h;rcases h with⟨rfl,_,rfl⟩|⟨b,cap,cur,e,fr,e1,rfl,af,aG,bh,b6,dt,dj,ho,i6,lq,oQ⟩
    .simp at ao
    .obtain⟨ct,hp,c2,cT,jN,p,jA,hc,i7,ki,hD,pf⟩:=bz.pick xs _ e1 k x i6 ao;have hl:=aB.length _ _ _ hD;have acY:k<xs.length:=(List.getElem?_eq_some_iff.1 ao).1;have Ek:x.wd=sz:=ho x (mem_of_getElem? ao);have bS:I.fc (xs.take k)=k*sz:=by
      rw[y3 _ (λd aq=>ho d (mem_of_mem_take aq))];rw[length_take,Nat.min_eq_left (by omega)]
     obtain⟨vF,pX⟩:∃vF,cur.toList=ct++(hp++(c2++vF)):=by
      refine⟨cur.toList.drop (xs.length*sz),?_⟩;have:=(take_append_drop (xs.length*sz) cur.toList).symm;rw[p]at this;simpa using this
     have mB:qu w b (k*sz) sz=hp:=by
      have:=Bo aG pX
      rwa [jA,bS,hl,Ek]at this
     have ML:qu aO b (k*sz) sz=hp:=by
      have:=Bo ((cn b af).trans aG) pX
      rwa [jA,bS,hl,Ek]at this
     simp only[eF,ao,mB,ML];exact ih x hp jN _ d hD aq (λc au=>cn c (lq _ (i7 _ au)))
   .cases aq
  |aM x=>
   cases k with
   |succ k=>simp[I.sub]at aq
   |zero=>
    simp only[I.sub]at aq;rw[aB]at h;obtain⟨b,cur,e,fr,e1,rfl,af,aG,bh,b6,dt,dj⟩:=h;have hl:=aB.length _ _ _ b6;have mB:qu w b 0 x.wd=cur.toList:=by
     have:=Bo (l:=[]) (m:=cur.toList) (r:=[]) aG (by simp)
     rwa [hl]at this
    have ML:qu aO b 0 x.wd=cur.toList:=by
     have:=Bo (l:=[]) (m:=cur.toList) (r:=[]) ((cn b af).trans aG) (by simp)
     rwa [hl]at this
    simp only[eF,mB,ML];exact ih x cur.toList e1 _ d b6 aq (λc au=>cn c (dt _ au))
  |_=>simp[I.sub]at aq
def jO:Value->azw
 | .agg cs=>cs.toList
 |v=>[v]
def dd:Value->azw
 | .tuple vs=>vs.toList.flatMap jO
 |v=>jO v
def kj:I->Value->Prop
 | .agg _,v=>∃arr,v= .agg arr
 |_,v=>Value.hV v=true
def e2:I->Value->Prop
 | .tuple ds,v=>∃arr:Array Value,v= .tuple arr/\arr.size=ds.length/\∀(k:Nat) (d:I) (x:Value),ds[k]? =some d->arr[k]? =some x->kj d x/\(∀vs,d≠.tuple vs)/\(jO x).length=d.wd
 |d,v=>kj d v
abbrev al:=Nat->I
mutual
def aQ (w:World) (F:Nat->Prop) (s:al) (aI:Nat->Value):I->Value->(Nat->Prop)->Prop
 | .hole,_,_=>True
 | .h x q,v,_=>∀d,I.sub q (s x)=some d->d.plain=false->∃dH a,eF w q (s x) (dd (aI x)) none=some (d,dH,a)/\dd v=dH/\e2 d v
 | .ay x q,v,_=>∀d,I.sub q (s x)=some d->I.gK q (s x)=true->∃dH b o,eF w q (s x) (dd (aI x)) none=some (d,dH,some (b,o))/\v= .pointer (some ⟨b,o,none⟩)
 | .ab x k,v,_=>(s x).plain=false->∃b cur e fr,v= .pointer (some ⟨b,k,none⟩)/\F b/\w.heap[b]? =some (.cells cur e fr)/\cur.toList=dd (aI x)
 | .fn f cap,v,_=>∃arr:Array Value,v= .func (.func f) #[] arr/\fe w F s aI cap arr.toList
 | .bool b,v,S=>e2 (.bool b) v/\aB w F (.bool b) (dd v) S
 | .gx,v,S=>e2 .gx v/\aB w F .gx (dd v) S
 | .int k n,v,S=>e2 (.int k n) v/\aB w F (.int k n) (dd v) S
 | .str x,v,S=>e2 (.str x) v/\aB w F (.str x) (dd v) S
 | .eA,v,S=>e2 .eA v/\aB w F .eA (dd v) S
 | .bf,v,S=>e2 .bf v/\aB w F .bf (dd v) S
 | .slice xs,v,S=>e2 (.slice xs) v/\aB w F (.slice xs) (dd v) S
 | .ag sz xs,v,S=>e2 (.ag sz xs) v/\aB w F (.ag sz xs) (dd v) S
 | .ref d,v,S=>e2 (.ref d) v/\aB w F (.ref d) (dd v) S
 | .aM d,v,S=>e2 (.aM d) v/\aB w F (.aM d) (dd v) S
 | .agg d,v,S=>e2 (.agg d) v/\aB w F (.agg d) (dd v) S
 | .tuple d,v,S=>e2 (.tuple d) v/\aB w F (.tuple d) (dd v) S
 | .cj o,v,S=>e2 (.cj o) v/\aB w F (.cj o) (dd v) S
def fe (w:World) (F:Nat->Prop) (s:al) (aI:Nat->Value):azy->azw->Prop
 |[],vs=>vs=[]
 |d::ds,vs=>∃v mc,vs=v::mc/\aQ w F s aI d v (λ_=>False)/\fe w F s aI ds mc
end
def I.tree:I->Bool
 | .hole=>false
 | .h _ _=>false
 | .ay _ _=>false
 | .ab _ _=>false
 | .fn _ _=>false
 |_=>true
theorem aQ.du {w:World} {F:Nat->Prop} {s:al} {aI:Nat->Value} {d:I} {v:Value} {S:Nat->Prop} (a8:d.tree=true):
  aQ w F s aI d v S↔(e2 d v/\aB w F d (dd v) S):=by
 cases d<;>first|(simp[I.tree]at a8;done)|rw[aQ]
theorem jP {q:azt} {av d:I} (h:I.sub q av=some d) (ay:d.plain=false\/I.gK q av=true):av.tree=true:=by
 cases q with
 |nil=>
  simp[I.sub]at h;subst h;rcases ay with ay|ay
  .cases av<;>first|rfl|(simp[I.plain]at ay)
  .simp[I.gK]at ay
 |cons k q=>cases av<;>first|rfl|(simp[I.sub]at h)
theorem MM {d:I} (h:d.plain=false):d.tree=true:=jP (q:=[]) (by simp only[I.sub]) (.inl h)
theorem aQ.frame {w aO:World} {F cq:Nat->Prop} {s:al} {aI:Nat->Value} {Sx:Nat->Nat->Prop} (bM:∀b,F b->aO.heap[b]? =w.heap[b]?) (Uc:∀b,F b->cq b)
  (cn:∀x b,Sx x b->aO.heap[b]? =w.heap[b]?) (mC:∀x,aQ w F s aI (s x) (aI x) (Sx x)):
  ∀(d:I) (v:Value) (S:Nat->Prop),(∀b,S b->aO.heap[b]? =w.heap[b]?)->aQ w F s aI d v S->aQ aO cq s aI d v S:=by
 have nx:∀(x:Nat) (q:azt) (d:I),I.sub q (s x)=some d->(d.plain=false\/I.gK q (s x)=true)->eF aO q (s x) (dd (aI x)) none=eF w q (s x) (dd (aI x)) none:=by
  intro x q d aq ay;have a8:=jP aq ay;have:=mC x;rw[aQ.du a8]at this;exact Im q _ _ (Sx x) none d this.2 aq (cn x)
 have acZ:∀(d:I) (v:Value) (S:Nat->Prop),d.tree=true->(∀b,S b->aO.heap[b]? =w.heap[b]?)->aQ w F s aI d v S->aQ aO cq s aI d v S:=by
  intro d v S a8 y4 h;rw[aQ.du a8]at h⊢;exact⟨h.1,aB.mono Uc _ _ _ _ (λ_ h=>h) (aB.frame bM _ _ _ y4 h.2)⟩
 have step:∀n,(∀(d:I) (v:Value) (S:Nat->Prop),SizeOf.sizeOf d<=n->(∀b,S b->aO.heap[b]? =w.heap[b]?)->aQ w F s aI d v S->aQ aO cq s aI d v S)/\
   (∀(ds:azy) (vs:azw),SizeOf.sizeOf ds<=n->fe w F s aI ds vs->fe aO cq s aI ds vs):=by
  intro n;induction n with
  |zero=>
   refine⟨λd v S cd=>?_,λds vs cd=>?_⟩
   .cases d<;>simp at cd<;>omega
   .cases ds<;>simp at cd<;>omega
  |succ n ih=>
   refine⟨λd v S cd y4 h=>?_,λds vs cd h=>?_⟩
   .cases d with
    |hole=>rw[aQ];trivial
    |h x q=>
     rw[aQ]at h⊢;intro d aq ay;rw[nx x q d aq (.inl ay)];exact h d aq ay
    |ay x q=>
     rw[aQ]at h⊢;intro d aq ay;rw[nx x q d aq (.inr ay)];exact h d aq ay
    |ab x k=>
     rw[aQ]at h⊢;intro ay;obtain⟨b,cur,e,fr,ad,af,aG,bh⟩:=h ay;exact⟨b,cur,e,fr,ad,Uc b af,(bM b af).trans aG,bh⟩
    |fn f cap=>
     rw[aQ]at h⊢;obtain⟨arr,rfl,au⟩:=h;exact⟨arr,rfl,ih.2 _ _ (by simp at cd;omega) au⟩
    |_=>exact acZ _ _ _ rfl y4 h
   .cases ds with
    |nil=>rw[fe]at h⊢;exact h
    |cons d ds=>
     rw[fe]at h⊢;obtain⟨v,mc,rfl,ad,af⟩:=h;simp at cd;exact⟨v,mc,rfl,ih.1 _ _ _ (by omega) (λ_ h=>h.elim) ad,ih.2 _ _ (by omega) af⟩
 intro d v S y4 h;exact(step (SizeOf.sizeOf d)).1 d v S (Nat.le_refl _) y4 h
mutual
def dI (x:Nat):I->I
 | .h y q=>if y=x then .hole else .h y q
 | .ay y q=>if y=x then .hole else .ay y q
 | .ab y k=>if y=x then .hole else .ab y k
 | .fn f cap=>.fn f (lu x cap)
 |d=>d
def lu (x:Nat):azy->azy
 |[]=>[]
 |d::ds=>dI x d::lu x ds
end
mutual
def c1 (x:Nat):I->I
 | .h y q=>if y=x then(if q=[]then .h y q else .hole)else .h y q
 | .ay y q=>if y=x then .hole else .ay y q
 | .fn f cap=>.fn f (kQ x cap)
 |d=>d
def kQ (x:Nat):azy->azy
 |[]=>[]
 |d::ds=>c1 x d::kQ x ds
end
def eu {α:Type} (f:Nat->α) (t:Nat) (v:α):Nat->α:=λu=>if u=t then v else f u
def oR (t:Nat) (s:al):al:=λu=>dI t (s u)
def jB (t:Nat) (s:al):al:=λu=>c1 t (s u)
theorem oS {α:Type} (f:Nat->α) (t:Nat) (v:α):eu f t v t=v:=by simp[eu]
theorem lv {α:Type} (f:Nat->α) {t u:Nat} (v:α) (h:u≠t):eu f t v u=f u:=by simp[eu,h]
theorem ac0 {t:Nat} {d:I} (h:d.tree=true):dI t d=d:=by cases d<;>first|rfl|(simp[I.tree]at h)
theorem MN {t:Nat} {d:I} (h:d.tree=true):c1 t d=d:=by cases d<;>first|rfl|(simp[I.tree]at h)
theorem ac1 {t:Nat} {d:I} (h:(dI t d).tree=true):d.tree=true/\dI t d=d:=by
 cases d<;>first|exact⟨rfl,rfl⟩|(simp only[dI]at h;first|(split at h<;>simp[I.tree]at h)|simp[I.tree]at h)
theorem Io {t:Nat} {d:I} (h:(c1 t d).tree=true):d.tree=true/\c1 t d=d:=by
 cases d<;>first|exact⟨rfl,rfl⟩|(simp only[c1]at h;first|(split at h<;>(try split at h)<;>simp[I.tree]at h)|simp[I.tree]at h)
section
variable {w:World} {F:Nat->Prop} {s aH:al} {aI mY:Nat->Value} {t:Nat}
theorem aQ.dI (iR:∀x,x≠t->(aH x).tree=true->aH x=s x/\mY x=aI x):∀(n:Nat),
  (∀(d:I) (v:Value) (S:Nat->Prop),SizeOf.sizeOf d<=n->aQ w F s aI d v S->aQ w F aH mY (ep.dI t d) v S)/\
  (∀(ds:azy) (vs:azw),SizeOf.sizeOf ds<=n->fe w F s aI ds vs->fe w F aH mY (lu t ds) vs):=by
 intro n;induction n with
 |zero=>
  refine⟨λd v S cd=>?_,λds vs cd=>?_⟩
  .cases d<;>simp at cd<;>omega
  .cases ds<;>simp at cd<;>omega
 |succ n ih=>
  refine⟨λd v S cd h=>?_,λds vs cd h=>?_⟩
  .cases d with
   |hole=>rw[ep.dI.eq_def];simp only;rw[aQ];trivial
   |h x q=>
    simp only[ep.dI];split
    .rw[aQ];trivial
    .rename_i ao;rw[aQ]at h⊢;intro d aq ay;obtain⟨aP,aW⟩:=iR x ao (jP aq (.inl ay));rw[aP,aW];rw[aP]at aq;exact h d aq ay
   |ay x q=>
    simp only[ep.dI];split
    .rw[aQ];trivial
    .rename_i ao;rw[aQ]at h⊢;intro d aq ay;obtain⟨aP,aW⟩:=iR x ao (jP aq (.inr ay));rw[aP,aW];rw[aP]at aq ay;exact h d aq ay
   |ab x k=>
    simp only[ep.dI];split
    .rw[aQ];trivial
    .rename_i ao;rw[aQ]at h⊢;intro ay;obtain⟨aP,aW⟩:=iR x ao (MM ay);rw[aW];rw[aP]at ay;exact h ay
   |fn f cap=>
    simp only[ep.dI];rw[aQ]at h⊢;obtain⟨arr,rfl,au⟩:=h;exact⟨arr,rfl,ih.2 _ _ (by simp at cd;omega) au⟩
   |_=>
    rw[ac0 (by rfl)];exact(aQ.du (by rfl)).2 ((aQ.du (by rfl)).1 h)
  .cases ds with
   |nil=>rw[lu,fe];rw[fe]at h;exact h
   |cons d ds=>
    rw[lu,fe];rw[fe]at h;obtain⟨v,mc,rfl,ad,af⟩:=h;simp at cd;exact⟨v,mc,rfl,ih.1 _ _ _ (by omega) ad,ih.2 _ _ (by omega) af⟩
theorem aQ.c1 {aO:World} (iR:∀x,x≠t->(aH x).tree=true->aH x=s x/\mY x=aI x) (lx:mY t=aI t) (ph:(aH t).plain=false->(s t).plain=false/\∀v,e2 (s t) v->e2 (aH t) v)
  (nx:∀x q d,x≠t->I.sub q (s x)=some d->(d.plain=false\/I.gK q (s x)=true)->eF aO q (s x) (dd (aI x)) none=eF w q (s x) (dd (aI x)) none)
  (bM:∀b,F b->aO.heap[b]? =w.heap[b]?):∀(n:Nat),
  (∀(d:I) (v:Value) (S:Nat->Prop),SizeOf.sizeOf d<=n->(∀b,S b->aO.heap[b]? =w.heap[b]?)->aQ w F s aI d v S->aQ aO F aH mY (ep.c1 t d) v S)/\
  (∀(ds:azy) (vs:azw),SizeOf.sizeOf ds<=n->fe w F s aI ds vs->fe aO F aH mY (kQ t ds) vs):=by
 intro n;induction n with
 |zero=>
  refine⟨λd v S cd=>?_,λds vs cd=>?_⟩
  .cases d<;>simp at cd<;>omega
  .cases ds<;>simp at cd<;>omega
 |succ n ih=>
  refine⟨λd v S cd y4 h=>?_,λds vs cd h=>?_⟩
  .cases d with
   |hole=>rw[ep.c1.eq_def];simp only;rw[aQ];trivial
   |h x q=>
    simp only[ep.c1];split
    .rename_i ao;subst ao;split
     .rename_i c6;subst c6;rw[aQ]at h⊢;intro d aq ay;simp only[I.sub,some.injEq]at aq;subst aq;obtain⟨en,bd⟩:=ph ay;obtain⟨dH,a,g1,g2,g3⟩:=h (s x) rfl en;simp only[eF,some.injEq,Prod.mk.injEq]at g1;obtain⟨-,g1,axe⟩:=g1;refine⟨dd (mY x),none,rfl,?_,bd _ g3⟩;rw[lx,g2,<-g1]
     .rw[aQ];trivial
    .rename_i ao;rw[aQ]at h⊢;intro d aq ay;obtain⟨aP,aW⟩:=iR x ao (jP aq (.inl ay));rw[aP,aW];rw[aP]at aq;rw[nx x q d ao aq (.inl ay)];exact h d aq ay
   |ay x q=>
    simp only[ep.c1];split
    .rw[aQ];trivial
    .rename_i ao;rw[aQ]at h⊢;intro d aq ay;obtain⟨aP,aW⟩:=iR x ao (jP aq (.inr ay));rw[aP,aW];rw[aP]at aq ay;rw[nx x q d ao aq (.inr ay)];exact h d aq ay
   |ab x k=>
    simp only[ep.c1];rw[aQ]at h⊢;intro ay;by_cases ao:x=t
    .subst ao;obtain⟨b,cur,e,fr,ad,af,aG,bh⟩:=h (ph ay).1;exact⟨b,cur,e,fr,ad,af,(bM b af).trans aG,by rw[lx];exact bh⟩
    .obtain⟨aP,aW⟩:=iR x ao (MM ay);rw[aP]at ay;obtain⟨b,cur,e,fr,ad,af,aG,bh⟩:=h ay;exact⟨b,cur,e,fr,ad,af,(bM b af).trans aG,by rw[aW];exact bh⟩
   |fn f cap=>
    simp only[ep.c1];rw[aQ]at h⊢;obtain⟨arr,rfl,au⟩:=h;exact⟨arr,rfl,ih.2 _ _ (by simp at cd;omega) au⟩
   |_=>
    rw[MN (by rfl)];have bI:=(aQ.du (by rfl)).1 h;exact(aQ.du (by rfl)).2 ⟨bI.1,aB.frame bM _ _ _ y4 bI.2⟩
  .cases ds with
   |nil=>rw[kQ,fe];rw[fe]at h;exact h
   |cons d ds=>
    rw[kQ,fe];rw[fe]at h;obtain⟨v,mc,rfl,ad,af⟩:=h;simp at cd;exact⟨v,mc,rfl,ih.1 _ _ _ (by omega) (λ_ h=>h.elim) ad,ih.2 _ _ (by omega) af⟩
theorem aQ.void (iR:∀x,x≠t->(aH x).tree=true->aH x=s x/\mY x=aI x) (sD:(aH t).plain=true):∀(n:Nat),
  (∀(d:I) (v:Value) (S:Nat->Prop),SizeOf.sizeOf d<=n->aQ w F s aI d v S->aQ w F aH mY d v S)/\
  (∀(ds:azy) (vs:azw),SizeOf.sizeOf ds<=n->fe w F s aI ds vs->fe w F aH mY ds vs):=by
 intro n;induction n with
 |zero=>
  refine⟨λd v S cd=>?_,λds vs cd=>?_⟩
  .cases d<;>simp at cd<;>omega
  .cases ds<;>simp at cd<;>omega
 |succ n ih=>
  refine⟨λd v S cd h=>?_,λds vs cd h=>?_⟩
  .cases d with
   |hole=>rw[aQ];trivial
   |h x q=>
    rw[aQ]at h⊢;intro d aq ay;by_cases ao:x=t
    .subst ao;rw[I.MK _ _ _ sD aq]at ay;cases ay
    .obtain⟨aP,aW⟩:=iR x ao (jP aq (.inl ay));rw[aP,aW];rw[aP]at aq;exact h d aq ay
   |ay x q=>
    rw[aQ]at h⊢;intro d aq ay;by_cases ao:x=t
    .subst ao;rw[I.Ub _ _ sD]at ay;cases ay
    .obtain⟨aP,aW⟩:=iR x ao (jP aq (.inr ay));rw[aP,aW];rw[aP]at aq ay;exact h d aq ay
   |ab x k=>
    rw[aQ]at h⊢;intro ay;by_cases ao:x=t
    .subst ao;rw[sD]at ay;cases ay
    .obtain⟨aP,aW⟩:=iR x ao (MM ay);rw[aW];rw[aP]at ay;exact h ay
   |fn f cap=>
    rw[aQ]at h⊢;obtain⟨arr,rfl,au⟩:=h;exact⟨arr,rfl,ih.2 _ _ (by simp at cd;omega) au⟩
   |_=>exact(aQ.du (by rfl)).2 ((aQ.du (by rfl)).1 h)
  .cases ds with
   |nil=>rw[fe];rw[fe]at h;exact h
   |cons d ds=>
    rw[fe];rw[fe]at h;obtain⟨v,mc,rfl,ad,af⟩:=h;simp at cd;exact⟨v,mc,rfl,ih.1 _ _ _ (by omega) ad,ih.2 _ _ (by omega) af⟩
end
def MO:Bool:=false
def Out (w w0:World):Prop:=w.output=w0.output/\(MO=true->w0.drawn<=w.drawn)
theorem Out.trans {a b c:World} (h:Out a b) (af:Out b c):Out a c:=⟨Eq.trans h.1 af.1,λd=>Nat.le_trans (af.2 d) (h.2 d)⟩
theorem Out.refl (w:World):Out w w:=⟨rfl,λ_=>Nat.le_refl _⟩
def MP (o:Obj):Prop:=∃bA cs e fr,o= .cells cs e fr/\cs[0]? =some bA/\(bA= .nilIface\/∃MQ MR,bA= .iface MQ MR)
def Ip (o:Obj):Prop:=∃e fr,o= .cells ((range 20).map λi=>Value.int .u64 ((10^i:Nat):Int)).toArray e fr
def Iq:List (Nat×(Obj->Prop)):=[(2,MP),(1,Ip)]
def ua (w:World) (X:Nat->Prop):Prop:=∀p∈Iq,p.1<w.heap.size/\¬X p.1/\∃o,w.heap[p.1]? =some o/\p.2 o
theorem ua.next {w aO:World} {X Y:Nat->Prop} (h:ua w X) (aa:w.heap.size<=aO.heap.size) (ab:∀b,b<w.heap.size->¬X b->aO.heap[b]? =w.heap[b]?) (hy:∀b,Y b->X b\/w.heap.size<=b):ua aO Y:=λp ay=>by
 obtain⟨ad,af,o,aG,bh⟩:=h p ay;refine⟨Nat.lt_of_lt_of_le ad aa,λh=>?_,o,(ab _ ad af).trans aG,bh⟩;rcases hy _ h with h|h
 .exact af h
 .omega
structure ch (w0:World) (F0 X F:Nat->Prop) (S:Nat->Nat->Prop) (s:al) (aI:Nat->Value) (w:World):Prop where
 iq:∀b,F0 b->F b
 iS:∀b,F b->F0 b\/X b\/w0.heap.size<=b
 gi:∀b,F b->b<w.heap.size
 fG:∀t b,S t b->b<w.heap.size
 gL:∀t b,S t b->¬F b
 gj:∀t u b,t≠u->S t b->¬S u b
 e1:∀t b,S t b->X b\/w0.heap.size<=b
 eB:∀t,aQ w F s aI (s t) (aI t) (S t)
 old:∀b,b<w0.heap.size->¬X b->w.heap[b]? =w0.heap[b]?
 size:w0.heap.size<=w.heap.size
 os:w.os=w0.os
 tape:w.tape=w0.tape
 output:Out w w0
 gz:ua w0 X
section
variable {w0 w aO:World} {F0 X F:Nat->Prop} {S:Nat->Nat->Prop} {s:al} {aI:Nat->Value}
theorem ch.grow (h:ch w0 F0 X F S s aI w) (ab:∀b,b<w.heap.size->aO.heap[b]? =w.heap[b]?) (aa:w.heap.size<=aO.heap.size)
  (ad:aO.os=w.os) (af:aO.tape=w.tape) (aG:Out aO w):ch w0 F0 X F S s aI aO where
 iq:=h.iq
 iS:=h.iS
 gi:=λb bM=>Nat.lt_of_lt_of_le (h.gi b bM) aa
 fG:=λt b bM=>Nat.lt_of_lt_of_le (h.fG t b bM) aa
 gL:=h.gL
 gj:=h.gj
 e1:=h.e1
 eB:=λt=>aQ.frame (Sx:=S) (λb bM=>ab b (h.gi b bM)) (λ_ h=>h) (λx b cn=>ab b (h.fG x b cn)) h.eB _ _ _ (λb cn=>ab b (h.fG t b cn)) (h.eB t)
 old:=λb eQ mZ=>(ab b (Nat.lt_of_lt_of_le eQ h.size)).trans (h.old b eQ mZ)
 size:=Nat.le_trans h.size aa
 os:=ad.trans h.os
 tape:=af.trans h.tape
 output:=aG.trans h.output
 gz:=h.gz
def hr (S:Nat->Nat->Prop) (t:Nat) (Sn:Nat->Prop):Nat->Nat->Prop:=λu b=>if u=t then Sn b else S u b
theorem En (S:Nat->Nat->Prop) (t:Nat) (Sn:Nat->Prop):hr S t Sn t=Sn:=by funext b;simp[hr]
theorem Eo (S:Nat->Nat->Prop) {t u:Nat} (Sn:Nat->Prop) (h:u≠t):hr S t Sn u=S u:=by funext b;simp[hr,h]
theorem ch.Bp (h:ch w0 F0 X F S s aI w) {t:Nat} {d:I} {v:Value} (ay:d.plain=true) (aq:aQ w F s aI d v (λ_=>False)):
  ch w0 F0 X F (hr S t (λ_=>False)) (eu s t d) (eu aI t v) w where
 iq:=h.iq
 iS:=h.iS
 gi:=h.gi
 fG:=λu b ab=>by simp only[hr]at ab;split at ab;exact ab.elim;exact h.fG u b ab
 gL:=λu b ab=>by simp only[hr]at ab;split at ab;exact ab.elim;exact h.gL u b ab
 gj:=λu x b eo ab ao=>by
  simp only[hr]at ab ao;split at ab
  .exact ab.elim
  .split at ao
   .exact ao.elim
   .exact h.gj u x b eo ab ao
 e1:=λu b ab=>by simp only[hr]at ab;split at ab;exact ab.elim;exact h.e1 u b ab
 eB:=λu=>by
  have iR:∀x,x≠t->(eu s t d x).tree=true->eu s t d x=s x/\eu aI t v x=aI x:=λx ao _=>⟨lv _ _ ao,lv _ _ ao⟩
  have sD:(eu s t d t).plain=true:=by rw[oS];exact ay
  by_cases hu:u=t
  .subst hu;rw[oS,oS,En];exact(aQ.void iR sD _).1 _ _ _ (Nat.le_refl _) aq
  .rw[lv _ _ hu,lv _ _ hu,Eo _ _ hu];exact(aQ.void iR sD _).1 _ _ _ (Nat.le_refl _) (h.eB u)
 old:=h.old
 size:=h.size
 os:=h.os
 tape:=h.tape
 output:=h.output
 gz:=h.gz
theorem ch.Ud (h:ch w0 F0 X F S s aI w) {t:Nat} {d:I} {v:Value} {Sn:Nat->Prop} (aq:d.tree=true) (aa:e2 d v) (aJ:aB w F d (dd v) Sn)
  (eQ:∀b,Sn b->b<w.heap.size) (bM:∀b,Sn b->¬F b) (cn:∀u b,u≠t->Sn b->¬S u b) (a_:∀b,Sn b->X b\/w0.heap.size<=b):
  ch w0 F0 X F (hr S t Sn) (eu (oR t s) t d) (eu aI t v) w where
 iq:=h.iq
 iS:=h.iS
 gi:=h.gi
 fG:=λu b ab=>by simp only[hr]at ab;split at ab;exact eQ b ab;exact h.fG u b ab
 gL:=λu b ab=>by simp only[hr]at ab;split at ab;exact bM b ab;exact h.gL u b ab
 gj:=λu x b eo ab ao=>by
  simp only[hr]at ab ao;split at ab
  .rename_i hu;rw[if_neg (λe=>eo (hu.trans e.symm))]at ao;exact cn x b (λe=>eo (hu.trans e.symm)) ab ao
  .rename_i hu;split at ao
   .exact cn u b hu ao ab
   .exact h.gj u x b eo ab ao
 e1:=λu b ab=>by simp only[hr]at ab;split at ab;exact a_ b ab;exact h.e1 u b ab
 eB:=λu=>by
  have iR:∀x,x≠t->(eu (oR t s) t d x).tree=true->eu (oR t s) t d x=s x/\eu aI t v x=aI x:=λx ao a8=>by
   rw[lv _ _ ao]at a8⊢;exact⟨(ac1 a8).2,lv _ _ ao⟩
  by_cases hu:u=t
  .subst hu;rw[oS,oS,En];exact(aQ.du aq).2 ⟨aa,aJ⟩
  .rw[lv _ _ hu,lv _ _ hu,Eo _ _ hu];exact(aQ.dI iR _).1 _ _ _ (Nat.le_refl _) (h.eB u)
 old:=h.old
 size:=h.size
 os:=h.os
 tape:=h.tape
 output:=h.output
 gz:=h.gz
theorem xB (k:Nat) (q:azt) (bT x:I):(∃aF gs,x= .agg aF/\I.put (k::q) bT x= .agg gs)\/(∃aF gs,x= .tuple aF/\I.put (k::q) bT x= .tuple gs)\/
  (∃sz xs c8,x= .ag sz xs/\I.put (k::q) bT x= .ag sz c8)\/(∃y z,x= .aM y/\I.put (k::q) bT x= .aM z)\/I.put (k::q) bT x=x:=by
 cases x with
 |agg aF=>simp only[I.put];split<;>exact .inl ⟨_,_,rfl,rfl⟩
 |tuple aF=>simp only[I.put];split<;>exact .inr (.inl ⟨_,_,rfl,rfl⟩)
 |ag sz aF=>simp only[I.put];split<;>exact .inr (.inr (.inl ⟨_,_,_,rfl,rfl⟩))
 |aM y=>cases k<;>exact .inr (.inr (.inr (.inl ⟨_,_,rfl,rfl⟩)))
 |_=>exact .inr (.inr (.inr (.inr rfl)))
theorem Ue {k:Nat} {q:azt} {bT x:I} {v:Value} (h:kj x v):kj (I.put (k::q) bT x) v:=by
 rcases xB k q bT x with⟨aF,gs,rfl,e⟩|⟨aF,gs,rfl,e⟩|⟨sz,xs,c8,rfl,e⟩|⟨y,z,rfl,e⟩|e<;>rw[e]<;>exact h
theorem Uf {k:Nat} {q:azt} {bT x:I} (h:∀vs,x≠.tuple vs):∀vs,I.put (k::q) bT x≠.tuple vs:=by
 rcases xB k q bT x with⟨aF,gs,rfl,e⟩|⟨aF,gs,rfl,e⟩|⟨sz,xs,c8,rfl,e⟩|⟨y,z,rfl,e⟩|e<;>rw[e]<;>first|exact h|(intro vs bI;cases bI;done)|exact(h _ rfl).elim
theorem Ep {k:Nat} {q:azt} {d bT av:I} {v:Value} (h:e2 av v) (aq:I.sub (k::q) av=some d) (ad:∀v,kj d v->kj bT v) (af:(∀vs,d≠.tuple vs)->∀vs,bT≠.tuple vs) (aG:bT.wd=d.wd):
  e2 (I.put (k::q) bT av) v:=by
 cases av with
 |tuple aF=>
  simp only[I.sub]at aq;split at aq
  .rename_i x ao;simp only[I.put,ao];simp only[e2]at h⊢;obtain⟨arr,rfl,cd,mC⟩:=h;refine⟨arr,rfl,by simpa using cd,λj e y he hy=>?_⟩;rw[getElem?_set]at he;split at he
   .rename_i MS;subst MS;split at he
    .simp only[some.injEq]at he;subst he;obtain⟨g1,g2,g3⟩:=mC k x y ao hy;refine⟨?_,?_,g3.trans (I.Bn q x d bT aq aG).symm⟩
     .cases q with
      |nil=>
       simp only[I.sub,some.injEq]at aq;subst aq;exact ad _ g1
      |cons cu q=>exact Ue g1
     .cases q with
      |nil=>
       simp only[I.sub,some.injEq]at aq;subst aq;exact af g2
      |cons cu q=>exact Uf g2
    .cases he
   .exact mC j e y he hy
  .cases aq
 |agg aF=>simp only[I.put];split<;>exact h
 |ag sz aF=>simp only[I.put];split<;>exact h
 |aM y=>cases k<;>exact h
 |_=>exact h
theorem MT {d:I} {v:Value} (h:kj d v):kj d.ej v:=by cases d<;>exact h
theorem Ug {s:al} {x:Nat} {q:azt} {d:I} (aq:I.sub q (s x)=some d) (ay:d.plain=false):
  (eu (jB x s) x (I.put q d.ej (s x)) x).plain=false->(s x).plain=false/\∀v,e2 (s x) v->e2 (eu (jB x s) x (I.put q d.ej (s x)) x) v:=by
  rw[oS];intro fO;cases q with
  |nil=>
   exfalso;have:∀d:I,d.ej.plain=true:=by
    intro d;have key:∀n,(∀d:I,SizeOf.sizeOf d<=n->d.ej.plain=true)/\(∀ds:azy,SizeOf.sizeOf ds<=n->I.e_ (I.od ds)=true):=by
     intro n;induction n with
     |zero=>exact⟨λd cd=>by cases d<;>simp at cd<;>omega,λds cd=>by cases ds<;>simp at cd<;>omega⟩
     |succ n ih=>
      refine⟨λd cd=>?_,λds cd=>?_⟩
      .cases d with
       |agg aF=>simp only[I.ej,I.plain];exact ih.2 _ (by simp at cd;omega)
       |tuple aF=>simp only[I.ej,I.plain];exact ih.2 _ (by simp at cd;omega)
       |_=>rfl
      .cases ds with
       |nil=>rfl
       |cons d ds=>
        simp at cd;simp only[I.od,I.e_,Bool.and_eq_true];exact⟨ih.1 _ (by omega),ih.2 _ (by omega)⟩
    exact(key _).1 d (Nat.le_refl _)
   simp only[I.put]at fO;rw[this]at fO;cases fO
  |cons k q=>
   refine⟨?_,λv aJ=>Ep aJ aq (λv h=>MT h) (λh vs e=>?_) (I.xA d)⟩
   .cases bU:(s x).plain with
    |false=>rfl
    |true=>rw[I.MK _ _ _ bU aq]at ay;cases ay
   .cases d<;>first|(exact h _ rfl)|(simp[I.ej]at e)
theorem ch.take (h:ch w0 F0 X F S s aI w) {x:Nat} {q:azt} {d:I} (aq:I.sub q (s x)=some d) (ay:d.plain=false):
  ∃(Sn gy:Nat->Prop) (dH:azw) (a:Option (Nat×Nat)),ch w0 F0 X F (hr S x Sn) (eu (jB x s) x (I.put q d.ej (s x))) aI w/\
   eF w q (s x) (dd (aI x)) none=some (d,dH,a)/\aB w F d dH gy/\(∀b,gy b->S x b)/\(∀b,Sn b->S x b)/\(∀b,gy b->¬Sn b)/\
   (∀(bT:I) (v:Value) (a7:Nat->Prop),aQ w F s aI bT v a7->aQ w F (eu (jB x s) x (I.put q d.ej (s x))) aI (ep.c1 x bT) v a7):=by
 have a8:=jP aq (.inl ay);have ao:=h.eB x;rw[aQ.du a8]at ao;obtain⟨dH,a,fm,gy,g0,g1,g2,g3,g4,g5⟩:=ctx q (s x) (dd (aI x)) (S x) none d ao.2 aq;have mb:aB w F (I.put q d.ej (s x)) (dd (aI x)) fm:=by
  have jQ:aB w F d.ej dH (λ_=>False):=aB.ej _ _ _ _ g4;have kx:∀b,(fm b\/False)->fm b:=λb h=>h.elim id False.elim;rcases g5 with⟨l,r,aP,aW,aS⟩|⟨b,cur,e,fr,l,r,aP,aW,aS,cf,cF,cw⟩
  .have:=aS w _ dH _ (λ_ _=>rfl) (λ_ _=>rfl) (I.xA d) jQ (λ_ h=>h.elim);rw[<-aP]at this;exact aB.mono (λ_ h=>h) _ _ _ _ kx this
  .have:=cw w _ dH _ (λ_ _=>rfl) (λ_ _ _=>rfl) (by rw[aS,<-cF]) (I.xA d) jQ (λ_ h=>h.elim);exact aB.mono (λ_ h=>h) _ _ _ _ kx this
 have ac2:e2 (I.put q d.ej (s x)) (aI x)/\(I.put q d.ej (s x)).tree=true\/I.put q d.ej (s x)= .hole:=by
  cases q with
  |nil=>
   simp only[I.sub,some.injEq]at aq;subst aq;simp only[I.put];cases aa:s x with
   |ag sz xs=>right;rfl
   |aM y=>right;rfl
   |cj y=>right;rfl
   |agg aF=>left;rw[aa]at ao;exact⟨ao.1,rfl⟩
   |tuple aF=>
    left;rw[aa]at ao;refine⟨?_,rfl⟩;simp only[e2,I.ej]at ao⊢;obtain⟨arr,e,cd,mC⟩:=ao.1;have hl:∀aF:azy,I.od aF=aF.map I.ej:=by
     intro aF;induction aF with
     |nil=>rfl
     |cons a aF ih=>simp[I.od,ih]
    refine⟨arr,e,by rw[hl];simpa using cd,λk hE y he hy=>?_⟩;rw[hl,getElem?_map]at he;cases aw:aF[k]? with
    |none=>rw[aw]at he;cases he
    |some z=>
     rw[aw]at he;simp only[map_some,some.injEq]at he;subst he;obtain⟨g1,g2,g3⟩:=mC k z y aw hy;refine⟨MT g1,λvs e=>?_,g3.trans (I.xA z).symm⟩;cases z<;>first|(exact g2 _ rfl)|(simp[I.ej]at e)
   |_=>rw[aa]at ay;simp[I.plain]at ay
  |cons k q=>
   left;refine⟨Ep ao.1 aq (λv h=>MT h) (λh vs e=>?_) (I.xA d),?_⟩
   .cases d<;>first|(exact h _ rfl)|(simp[I.ej]at e)
   .rcases xB k q d.ej (s x)with⟨aF,gs,aP,e⟩|⟨aF,gs,aP,e⟩|⟨sz,xs,c8,aP,e⟩|⟨y,z,aP,e⟩|e<;>rw[e]<;>first|rfl|exact a8
 refine⟨fm,gy,dH,a,?_,g0,g4,g2,g1,λb ad af=>g3 b af ad,?_⟩
 rotate_left
 .have iR:∀y,y≠x->(eu (jB x s) x (I.put q d.ej (s x)) y).tree=true->eu (jB x s) x (I.put q d.ej (s x)) y=s y/\aI y=aI y:=λy hy a8=>by
   rw[lv _ _ hy]at a8⊢;exact⟨(Io a8).2,rfl⟩
  intro bT v a7 jy;exact(aQ.c1 iR rfl (Ug aq ay) (λ_ _ _ _ _ _=>rfl) (λ_ _=>rfl) _).1 _ _ _ (Nat.le_refl _) (λ_ _=>rfl) jy
 have iR:∀y,y≠x->(eu (jB x s) x (I.put q d.ej (s x)) y).tree=true->eu (jB x s) x (I.put q d.ej (s x)) y=s y/\aI y=aI y:=λy hy a8=>by
  rw[lv _ _ hy]at a8⊢;exact⟨(Io a8).2,rfl⟩
 have ph:=Ug (s:=s) (x:=x) aq ay;constructor;case iq=>exact h.iq
 case iS=>exact h.iS
 case gi=>exact h.gi
 case fG=>exact λu b ab=>by simp only[hr]at ab;split at ab;exact h.fG x b (g1 b ab);exact h.fG u b ab
 case gL=>exact λu b ab=>by simp only[hr]at ab;split at ab;exact h.gL x b (g1 b ab);exact h.gL u b ab
 case gj=>
  intro u y b eo ab hy;simp only[hr]at ab hy;split at ab
  .rename_i hu;rw[if_neg (λe=>eo (hu.trans e.symm))]at hy;exact h.gj x y b (λe=>eo (hu.trans e)) (g1 b ab) hy
  .rename_i hu;split at hy
   .exact h.gj u x b hu ab (g1 b hy)
   .exact h.gj u y b eo ab hy
 case e1=>exact λu b ab=>by simp only[hr]at ab;split at ab;exact h.e1 x b (g1 b ab);exact h.e1 u b ab
 case eB=>
  intro u;by_cases hu:u=x
  .subst hu;rw[oS,En];rcases ac2 with⟨aP,aW⟩|e
   .exact(aQ.du aW).2 ⟨aP,mb⟩
   .rw[e,aQ];trivial
  .rw[lv _ _ hu,Eo _ _ hu];exact(aQ.c1 iR rfl ph (λ_ _ _ _ _ _=>rfl) (λ_ _=>rfl) _).1 _ _ _ (Nat.le_refl _) (λ_ _=>rfl) (h.eB u)
 case old=>exact h.old
 case size=>exact h.size
 case os=>exact h.os
 case tape=>exact h.tape
 case output=>exact h.output
 case gz=>exact h.gz
theorem ch.store (h:ch w0 F0 X F S s aI w) {x:Nat} {q:azt} {d bT:I} (aq:I.sub q (s x)=some d) (au:I.gK q (s x)=true)
  {hq:azw} {Sn:Nat->Prop} (aJ:aB w F bT hq Sn) (nw:bT.wd=d.wd)
  (eQ:∀b,Sn b->b<w.heap.size) (bM:∀b,Sn b->¬F b) (cn:∀u b,Sn b->¬S u b) (a_:∀b,Sn b->X b\/w0.heap.size<=b):
  ∃(dH:azw) (b:Nat) (l r:azw) (cur:Array Value) (e:TypeId) (fr:Nat×Nat),eF w q (s x) (dd (aI x)) none=some (d,dH,some (b,l.length))/\
   w.heap[b]? =some (.cells cur e fr)/\cur.toList=l++(dH++r)/\pV fr cur.size/\
   ∀aO,aO.heap[b]? =some (.cells (l++(hq++r)).toArray e fr)->(∀c,c≠b->aO.heap[c]? =w.heap[c]?)->aO.heap.size=w.heap.size->aO.os=w.os->aO.tape=w.tape->Out aO w->
    ∃a7,ch w0 F0 X F a7 (eu (jB x s) x (I.put q bT (s x))) aI aO:=by
 have a8:=jP aq (.inr au);have ao:=h.eB x;rw[aQ.du a8]at ao;obtain⟨dH,a,fm,gy,g0,g1,g2,g3,g4,g5⟩:=ctx q (s x) (dd (aI x)) (S x) none d ao.2 aq;have ac3:Deep w F q (s x) (dd (aI x)) d dH a fm:=by
  rcases g5 with⟨l,r,aP,aW,aS⟩|g5
  .exfalso;have nQ:∀(q:azt) (av:I) (cs:azw) (a0:Option (Nat×Nat)) (d:I) (dH:azw),I.gK q av=true->eF w q av cs a0=some (d,dH,none)->False:=by
    intro q;induction q with
    |nil=>intro av cs a0 d dH au;simp[I.gK]at au
    |cons k q ih=>
     have Uh:∀(q:azt) (av:I) (cs:azw) (l:Nat×Nat) (d:I) (dH:azw),eF w q av cs (some l)=some (d,dH,none)->False:=by
      intro q;induction q with
      |nil=>intro av cs l d dH h;simp[eF]at h
      |cons k q Bq=>
       intro av cs l d dH h;cases av with
       |agg aF=>rw[eF]at h;split at h;exact Bq _ _ _ _ _ h;cases h
       |tuple aF=>rw[eF]at h;split at h;exact Bq _ _ _ _ _ h;cases h
       |ag sz xs=>simp only[eF]at h;split at h;exact Bq _ _ _ _ _ h;cases h
       |aM y=>
        cases k with
        |zero=>rw[eF.eq_def]at h;simp only at h;split at h;exact Bq _ _ _ _ _ h;cases h
        |succ k=>rw[show eF w ((k+1)::q) (.aM y) cs (some l)=none from rfl]at h;cases h
       |_=>simp[eF]at h
     intro av cs a0 d dH au h;cases av with
     |agg aF=>
      simp only[I.gK]at au;split at au
      .rename_i y hy;simp only[eF,hy]at h;exact ih _ _ _ _ _ au h
      .cases au
     |tuple aF=>
      simp only[I.gK]at au;split at au
      .rename_i y hy;simp only[eF,hy]at h;exact ih _ _ _ _ _ au h
      .cases au
     |ag sz xs=>simp only[eF]at h;split at h;exact Uh _ _ _ _ _ _ h;cases h
     |aM y=>
      cases k with
      |zero=>rw[eF.eq_def]at h;simp only at h;split at h;exact Uh _ _ _ _ _ _ h;cases h
      |succ k=>rw[show eF w ((k+1)::q) (.aM y) cs a0=none from rfl]at h;cases h
     |_=>simp[I.gK]at au
   simp only[map_none]at aW;subst aW;exact nQ _ _ _ _ _ _ au g0
  .exact g5
 obtain⟨b,cur,e,fr,l,r,rfl,aW,aS,cf,cF,cw⟩:=ac3;refine⟨dH,b,l,r,cur,e,fr,g0,aS,cF,cf,?_⟩;intro aO pg q8 fo MU MV y5;have y6:S x b:=g1 _ aW;have ub:∀c,F c->aO.heap[c]? =w.heap[c]? :=λc au=>q8 c (by rintro rfl;exact h.gL x _ y6 au);have axf:hq.length=dH.length:=by rw[aB.length _ _ _ aJ,aB.length _ _ _ g4,nw]
 have mb:=cw aO bT hq Sn ub (λc _ eo=>q8 c eo) pg nw
  (aB.frame ub _ _ _ (λc au=>q8 c (by rintro rfl;exact cn x _ au y6)) aJ) (λc au kx=>cn x c au (g1 _ kx))
 obtain⟨k,kR,rfl⟩:∃k kR,q=k::kR:=by
  cases q with
  |nil=>simp[I.gK]at au
  |cons k q=>exact⟨k,q,rfl⟩
 have Er:∀v,e2 (s x) v->e2 (I.put (k::kR) bT (s x)) v:=by
  intro v aJ;rcases xB k kR bT (s x)with⟨aF,gs,aP,e⟩|⟨aF,gs,aP,e⟩|⟨sz,xs,c8,aP,e⟩|⟨y,z,aP,e⟩|e
  .rw[e];rw[aP]at aJ;exact aJ
  ·
   rw[aP]at aJ aq au⊢;simp only[I.gK]at au;split at au
   .rename_i y hy;simp only[I.put,hy];cases kR with
    |nil=>simp[I.gK]at au
    |cons cu gX=>
     simp only[e2]at aJ⊢;obtain⟨arr,rfl,cd,mC⟩:=aJ;refine⟨arr,rfl,by simpa using cd,λj e oT he y7=>?_⟩;rw[getElem?_set]at he;split at he
     .rename_i MS;subst MS;split at he
      .simp only[some.injEq]at he;subst he;obtain⟨g1,g2,g3⟩:=mC _ y oT hy y7;simp only[I.sub,hy]at aq;exact⟨Ue g1,Uf g2,g3.trans (I.Bn (cu::gX) y d bT aq nw).symm⟩
      .cases he
     .exact mC j e oT he y7
   .cases au
  .rw[e];rw[aP]at aJ;exact aJ
  .rw[e];rw[aP]at aJ;exact aJ
  .rw[e];exact aJ
 have ac4:(I.put (k::kR) bT (s x)).tree=true:=by
  rcases xB k kR bT (s x)with⟨aF,gs,aP,e⟩|⟨aF,gs,aP,e⟩|⟨sz,xs,c8,aP,e⟩|⟨y,z,aP,e⟩|e<;>rw[e]<;>first|rfl|exact a8
 let aH:=eu (jB x s) x (I.put (k::kR) bT (s x))
 have iR:∀y,y≠x->(aH y).tree=true->aH y=s y/\aI y=aI y:=λy hy a8=>by
  have e:aH y=c1 x (s y):=lv _ _ hy;rw[e]at a8⊢;exact⟨(Io a8).2,rfl⟩
 have ph:(aH x).plain=false->(s x).plain=false/\∀v,e2 (s x) v->e2 (aH x) v:=by
  intro _;refine⟨?_,?_⟩
  .cases bU:(s x).plain with
   |false=>rfl
   |true=>rw[I.Ub _ _ bU]at au;cases au
  .simp only[aH,oS];exact Er
 refine⟨hr S x (λc=>fm c\/Sn c),?_⟩;constructor;case iq=>exact h.iq
 case iS=>exact h.iS
 case gi=>exact λb ab=>by rw[fo];exact h.gi b ab
 case fG=>
  intro u c ab;rw[fo];simp only[hr]at ab;split at ab
  .rcases ab with ab|ab
   .exact h.fG x c (g1 c ab)
   .exact eQ c ab
  .exact h.fG u c ab
 case gL=>
  intro u c ab;simp only[hr]at ab;split at ab
  .rcases ab with ab|ab
   .exact h.gL x c (g1 c ab)
   .exact bM c ab
  .exact h.gL u c ab
 case gj=>
  intro u y c eo ab hy;simp only[hr]at ab hy;split at ab
  .rename_i hu;rw[if_neg (λe=>eo (hu.trans e.symm))]at hy;rcases ab with ab|ab
   .exact h.gj x y c (λe=>eo (hu.trans e)) (g1 c ab) hy
   .exact cn y c ab hy
  .rename_i hu;split at hy
   .rcases hy with hy|hy
    .exact h.gj u x c hu ab (g1 c hy)
    .exact cn u c hy ab
   .exact h.gj u y c eo ab hy
 case e1=>
  intro u c ab;simp only[hr]at ab;split at ab
  .rcases ab with ab|ab
   .exact h.e1 x c (g1 c ab)
   .exact a_ c ab
  .exact h.e1 u c ab
 case eB=>
  intro u;by_cases hu:u=x
  .subst hu;rw[oS,En];exact(aQ.du ac4).2 ⟨Er _ ao.1,mb⟩
  .rw[lv _ _ hu,Eo _ _ hu];have eo:∀y c,y≠x->S y c->aO.heap[c]? =w.heap[c]? :=λy c hy au=>q8 c (by rintro rfl;exact h.gj y x c hy au y6);refine(aQ.c1 iR rfl ph (λy gX d2 hy hP Es=>?_) ub _).1 _ _ _ (Nat.le_refl _) (λc au=>eo u c hu au) (h.eB u);have Et:=h.eB y;rw[aQ.du (jP hP Es)]at Et;exact Im gX _ _ _ none d2 Et.2 hP (λc au=>eo y c hy au)
 case old=>
  intro c eQ mZ;by_cases Br:c=b
  .subst Br;exfalso;rcases h.e1 x c y6 with jQ|jQ
   .exact mZ jQ
   .omega
  .exact(q8 c Br).trans (h.old c eQ mZ)
 case size=>rw[fo];exact h.size
 case os=>exact MU.trans h.os
 case tape=>exact MV.trans h.tape
 case output=>exact y5.trans h.output
 case gz=>exact h.gz
end
end Go.ep
