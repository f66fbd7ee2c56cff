/- Part of a proof that a law returns true for every input. No condition. -/
import Derived.Test.YtlkabaochkgkdaaGreatDoorFwA
import Derived.Laws.AppendOwn
import Derived.Calls
namespace Go.c_
inductive yx where
 |mp (es:List (List UInt8×Bool))
 |sv
 |iN (T e:TypeId) (lT:List UInt8)
inductive I where
 |hole
 |bool (b:Bool)
 |fs
 |int (k:IntKind) (n:Int)
 |str (s:List UInt8)
 |dS
 |bz
 |slice (xs:List I)
 |ao (sz:Nat) (xs:List I)
 |ref (d:I)
 |bh (d:I)
 |agg (az:List I)
 |tuple (vs:List I)
 |fn (f:FuncId) (cap:List I)
 |h (x:Nat) (q:List Nat)
 |au (x:Nat) (q:List Nat)
 |ad (x:Nat) (k:Nat)
 |eD (o:yx)
 deriving Inhabited
mutual
def I.wd:I->Nat
 | .agg az=>I.eJ az
 | .tuple az=>I.eJ az
 |_=>1
def I.eJ:List I->Nat
 |[]=>0
 |d::ds=>d.wd+I.eJ ds
end
def iA (w:World) (b o:Nat) (cs:List Value):Prop:=∀j c,cs[j]? =some c->w.cell? ⟨b,o+j,none⟩=some c
def nD (fr:Nat×Nat) (n:Nat):Prop:=∀o,o<n->¬(fr.1<=o/\o<fr.2)
theorem nD.le {fr:Nat×Nat} {m n:Nat} (h:nD fr n) (hm:m<=n):nD fr m:=λo cy=>h o (Nat.lt_of_lt_of_le cy hm)
theorem nD.low {fr:Nat×Nat} {n k:Nat} (h:nD fr (n+k)):nD fr n:=h.le (Nat.le_add_right _ _)
def Value.ha:Value->Bool
 | .agg _=>false
 | .tuple _=>false
 |_=>true
def I.single:I->Bool
 | .agg _=>false
 | .tuple _=>false
 | .hole=>false
 |_=>true
def mB (w:World):yx->List Value->(Nat->Prop)->Prop
 | .mp es,cs,S=>∃r ms nE,cs=[.map (some r)]/\S r/\w.heap[r]? =some (.map ms nE)/\ms.toList.map (λe=>(e.key,e.val))=es.map (λe=>(.string ⟨⟨e.1⟩⟩,.bool e.2))
 | .sv,cs,_=>cs=[.map none]
 | .iN T e lT,cs,S=>∃b a tK,cs=[.pointer (some ⟨b,0,none⟩)]/\S b/\w.heap[b]? =some (.cells #[a,tK] T (0,0))/\(a= .pointer none\/a= .pointer (some ⟨b,0,none⟩))/\
   ((lT=[]/\tK= .slice none 0 0)\/
     ∃g cap cur,tK= .slice (some ⟨g,0,none⟩) lT.length cap/\S g/\g≠b/\w.heap[g]? =some (.cells cur e (0,0))/\lT.length<=cap/\cap<=maxLen/\cur.size=cap/\
      cur.toList.take lT.length=lT.map λx=>.int .u8 x.toNat)
theorem mB.frame {w aL:World}:∀{o:yx} {cs:List Value} {S:Nat->Prop},(∀b,S b->aL.heap[b]? =w.heap[b]?)->mB w o cs S->mB aL o cs S
 | .mp _,_,_,b8,⟨r,ms,nE,ag,ah,aN,bg⟩=>⟨r,ms,nE,ag,ah,(b8 _ ah).trans aN,bg⟩
 | .sv,_,_,_,h=>h
 | .iN _ _ _,_,_,b8,⟨b,a,tK,ag,ah,aN,bg,bR⟩=>⟨b,a,tK,ag,ah,(b8 _ ah).trans aN,bg,bR.imp (λh=>h) λ⟨g,cap,cur,sw,i2,i3,i4,i5⟩=>⟨g,cap,cur,sw,i2,i3,(b8 _ i2).trans i4,i5⟩⟩
theorem mB.mono {w:World}:∀{o:yx} {cs:List Value} {S aW:Nat->Prop},(∀b,S b->aW b)->mB w o cs S->mB w o cs aW
 | .mp _,_,_,_,b8,⟨r,ms,nE,ag,ah,aN⟩=>⟨r,ms,nE,ag,b8 _ ah,aN⟩
 | .sv,_,_,_,_,h=>h
 | .iN _ _ _,_,_,_,b8,⟨b,a,tK,ag,ah,aN,bg,bR⟩=>⟨b,a,tK,ag,b8 _ ah,aN,bg,bR.imp (λh=>h) λ⟨g,cap,cur,sw,i2,i3⟩=>⟨g,cap,cur,sw,b8 _ i2,i3⟩⟩
theorem mB.one {w:World}:∀{o:yx} {cs:List Value} {S:Nat->Prop},mB w o cs S->∃v,Value.ha v=true/\cs=[v]
 | .mp _,_,_,⟨_,_,_,h,_⟩=>⟨_,rfl,h⟩
 | .sv,_,_,h=>⟨_,rfl,h⟩
 | .iN _ _ _,_,_,⟨_,_,_,h,_⟩=>⟨_,rfl,h⟩
mutual
def ax (w:World) (F:Nat->Prop):I->List Value->(Nat->Prop)->Prop
 | .hole,cs,_=>∃v,Value.ha v=true/\cs=[v]
 | .bool b,cs,_=>cs=[.bool b]
 | .fs,cs,_=>∃b,cs=[.bool b]
 | .int k n,cs,_=>cs=[.int k n]
 | .str s,cs,_=>cs=[.string ⟨⟨s⟩⟩]
 | .dS,cs,_=>cs=[.pointer none]
 | .bz,cs,_=>cs=[.slice none 0 0]
 | .slice xs,cs,_=>(xs=[]/\∃a c,cs=[.slice a 0 c]/\c<=maxLen/\(a=none->c=0))\/
   ∃b o cap eT sz,cs=[.slice (some ⟨b,o,none⟩) xs.length cap]/\F b/\xs.length<=cap/\cap<=maxLen/\(∀d∈xs,d.wd=sz)/\
    iA w b o eT/\bm w F xs eT (λ_=>False)
 | .ao sz xs,cs,S=>(xs=[]/\∃a,cs=[.slice a 0 0])\/
   ∃b cap cur e fr aW,cs=[.slice (some ⟨b,0,none⟩) xs.length cap]/\S b/\w.heap[b]? =some (.cells cur e fr)/\nD fr (cur.size+(sz-1))/\
    xs.length<=cap/\cap<=maxLen/\cur.size=cap*sz/\(∀d∈xs,d.wd=sz)/\bm w F xs (cur.toList.take (xs.length*sz)) aW/\(∀c,aW c->S c)/\¬aW b
 | .ref d,cs,_=>∃b o eT,cs=[.pointer (some ⟨b,o,none⟩)]/\F b/\iA w b o eT/\ax w F d eT (λ_=>False)
 | .bh d,cs,S=>∃b cur e fr aW,cs=[.pointer (some ⟨b,0,none⟩)]/\S b/\w.heap[b]? =some (.cells cur e fr)/\nD fr cur.size/\
   ax w F d cur.toList aW/\(∀c,aW c->S c)/\¬aW b
 | .agg az,cs,S=>bm w F az cs S
 | .tuple az,cs,S=>bm w F az cs S
 | .fn f caps,cs,_=>∃arr:Array Value,cs=[.func (.func f) #[] arr]/\(∀d∈caps,d.single=true)/\bm w F caps arr.toList (λ_=>False)
 | .h _ _,_,_=>False
 | .au _ _,_,_=>False
 | .ad _ _,_,_=>False
 | .eD o,cs,S=>mB w o cs S
def bm (w:World) (F:Nat->Prop):List I->List Value->(Nat->Prop)->Prop
 |[],cs,_=>cs=[]
 |d::ds,cs,S=>∃cv c2 ck eo,cs=cv++c2/\ax w F d cv ck/\bm w F ds c2 eo/\(∀b,ck b->S b)/\(∀b,eo b->S b)/\(∀b,ck b->¬eo b)
end
theorem cell?_of_block {w aL:World} {b:Nat} (h:aL.heap[b]? =w.heap[b]?) (o:Nat):aL.cell? ⟨b,o,none⟩=w.cell? ⟨b,o,none⟩:=by
 simp[World.cell?,h]
theorem iA.frame {w aL:World} {b o:Nat} {cs:List Value} (h:aL.heap[b]? =w.heap[b]?) (aS:iA w b o cs):iA aL b o cs:=
 λj c aq=>(cell?_of_block h _).trans (aS j c aq)
mutual
theorem ax.frame {w aL:World} {F:Nat->Prop} (bL:∀b,F b->aL.heap[b]? =w.heap[b]?):
  ∀(d:I) (cs:List Value) (S:Nat->Prop),(∀b,S b->aL.heap[b]? =w.heap[b]?)->ax w F d cs S->ax aL F d cs S
 | .hole,_,_,_,h=>h
 | .bool _,_,_,_,h=>h
 | .fs,_,_,_,h=>h
 | .int _ _,_,_,_,h=>h
 | .str _,_,_,_,h=>h
 | .dS,_,_,_,h=>h
 | .bz,_,_,_,h=>h
 | .slice xs,cs,S,b8,h=>by
   rw[ax]at h⊢;rcases h with h|⟨b,o,cap,eT,sz,ag,ah,aN,bg,bR,cW,cE⟩
   .exact .inl h
   .exact .inr ⟨b,o,cap,eT,sz,ag,ah,aN,bg,bR,cW.frame (bL _ ah),bm.frame bL xs _ _ (λ_ h=>h.elim) cE⟩
 | .ao sz xs,cs,S,b8,h=>by
   rw[ax]at h⊢;rcases h with h|⟨b,cap,cur,e,fr,aW,ag,ah,aN,bg,bR,cW,cE,fJ,hT,iB,mC⟩
   .exact .inl h
   .exact .inr ⟨b,cap,cur,e,fr,aW,ag,ah,(b8 _ ah).trans aN,bg,bR,cW,cE,fJ,bm.frame bL xs _ _ (λc aq=>b8 _ (iB _ aq)) hT,iB,mC⟩
 | .ref d,cs,S,b8,h=>by
   rw[ax]at h⊢;obtain⟨b,o,eT,ag,ah,aN,bg⟩:=h;exact⟨b,o,eT,ag,ah,aN.frame (bL _ ah),ax.frame bL d _ _ (λ_ h=>h.elim) bg⟩
 | .bh d,cs,S,b8,h=>by
   rw[ax]at h⊢;obtain⟨b,cur,e,fr,aW,ag,ah,aN,bg,bR,cW,cE⟩:=h;exact⟨b,cur,e,fr,aW,ag,ah,(b8 _ ah).trans aN,bg,ax.frame bL d _ _ (λc aq=>b8 _ (cW _ aq)) bR,cW,cE⟩
 | .agg az,cs,S,b8,h=>by rw[ax]at h⊢;exact bm.frame bL az _ _ b8 h
 | .tuple az,cs,S,b8,h=>by rw[ax]at h⊢;exact bm.frame bL az _ _ b8 h
 | .fn _ caps,cs,S,b8,h=>by
   rw[ax]at h⊢;obtain⟨arr,ag,ah,aN⟩:=h;exact⟨arr,ag,ah,bm.frame bL caps _ _ (λ_ h=>h.elim) aN⟩
 | .h _ _,_,_,_,h=>h
 | .au _ _,_,_,_,h=>h
 | .ad _ _,_,_,_,h=>h
 | .eD _,_,_,b8,h=>mB.frame b8 h
theorem bm.frame {w aL:World} {F:Nat->Prop} (bL:∀b,F b->aL.heap[b]? =w.heap[b]?):
  ∀(ds:List I) (cs:List Value) (S:Nat->Prop),(∀b,S b->aL.heap[b]? =w.heap[b]?)->bm w F ds cs S->bm aL F ds cs S
 |[],_,_,_,h=>h
 |d::ds,cs,S,b8,h=>by
  rw[bm]at h⊢;obtain⟨cv,c2,ck,eo,ag,ah,aN,bg,bR,cW⟩:=h;exact⟨cv,c2,ck,eo,ag,ax.frame bL d _ _ (λb ad=>b8 _ (bg _ ad)) ah,bm.frame bL ds _ _ (λb ad=>b8 _ (bR _ ad)) aN,bg,bR,cW⟩
end
mutual
theorem ax.mono {w:World} {F b3:Nat->Prop} (bL:∀b,F b->b3 b):
  ∀(d:I) (cs:List Value) (S aW:Nat->Prop),(∀b,S b->aW b)->ax w F d cs S->ax w b3 d cs aW
 | .hole,_,_,_,_,h=>h
 | .bool _,_,_,_,_,h=>h
 | .fs,_,_,_,_,h=>h
 | .int _ _,_,_,_,_,h=>h
 | .str _,_,_,_,_,h=>h
 | .dS,_,_,_,_,h=>h
 | .bz,_,_,_,_,h=>h
 | .slice xs,cs,S,_,b8,h=>by
   rw[ax]at h⊢;rcases h with h|⟨b,o,cap,eT,sz,ag,ah,aN,bg,bR,cW,cE⟩
   .exact .inl h
   .exact .inr ⟨b,o,cap,eT,sz,ag,bL _ ah,aN,bg,bR,cW,bm.mono bL xs _ _ _ (λ_ h=>h) cE⟩
 | .ao sz xs,cs,S,_,b8,h=>by
   rw[ax]at h⊢;rcases h with h|⟨b,cap,cur,e,fr,aW,ag,ah,aN,bg,bR,cW,cE,fJ,hT,iB,mC⟩
   .exact .inl h
   .exact .inr ⟨b,cap,cur,e,fr,aW,ag,b8 _ ah,aN,bg,bR,cW,cE,fJ,bm.mono bL xs _ _ _ (λ_ h=>h) hT,λc aq=>b8 _ (iB _ aq),mC⟩
 | .ref d,cs,S,_,b8,h=>by
   rw[ax]at h⊢;obtain⟨b,o,eT,ag,ah,aN,bg⟩:=h;exact⟨b,o,eT,ag,bL _ ah,aN,ax.mono bL d _ _ _ (λ_ h=>h) bg⟩
 | .bh d,cs,S,_,b8,h=>by
   rw[ax]at h⊢;obtain⟨b,cur,e,fr,aW,ag,ah,aN,bg,bR,cW,cE⟩:=h;exact⟨b,cur,e,fr,aW,ag,b8 _ ah,aN,bg,ax.mono bL d _ _ _ (λ_ h=>h) bR,λc aq=>b8 _ (cW _ aq),cE⟩
 | .agg az,cs,S,_,b8,h=>by rw[ax]at h⊢;exact bm.mono bL az _ _ _ b8 h
 | .tuple az,cs,S,_,b8,h=>by rw[ax]at h⊢;exact bm.mono bL az _ _ _ b8 h
 | .fn _ caps,cs,S,_,b8,h=>by
   rw[ax]at h⊢;obtain⟨arr,ag,ah,aN⟩:=h;exact⟨arr,ag,ah,bm.mono bL caps _ _ _ (λ_ h=>h) aN⟩
 | .h _ _,_,_,_,_,h=>h
 | .au _ _,_,_,_,_,h=>h
 | .ad _ _,_,_,_,_,h=>h
 | .eD _,_,_,_,b8,h=>mB.mono b8 h
theorem bm.mono {w:World} {F b3:Nat->Prop} (bL:∀b,F b->b3 b):
  ∀(ds:List I) (cs:List Value) (S aW:Nat->Prop),(∀b,S b->aW b)->bm w F ds cs S->bm w b3 ds cs aW
 |[],_,_,_,_,h=>h
 |d::ds,cs,S,_,b8,h=>by
  rw[bm]at h⊢;obtain⟨cv,c2,ck,eo,ag,ah,aN,bg,bR,cW⟩:=h;exact⟨cv,c2,ck,eo,ag,ax.mono bL d _ _ _ (λ_ h=>h) ah,bm.mono bL ds _ _ _ (λ_ h=>h) aN,λb ad=>b8 _ (bg _ ad),λb ad=>b8 _ (bR _ ad),cW⟩
end
mutual
theorem ax.length {w:World} {F:Nat->Prop}:∀(d:I) (cs:List Value) (S:Nat->Prop),ax w F d cs S->cs.length=d.wd
 | .hole,cs,S,h=>by rw[ax]at h;obtain⟨v,_,rfl⟩:=h;rfl
 | .bool _,cs,S,h=>by rw[ax]at h;subst h;rfl
 | .fs,cs,S,h=>by rw[ax]at h;obtain⟨b,rfl⟩:=h;rfl
 | .int _ _,cs,S,h=>by rw[ax]at h;subst h;rfl
 | .str _,cs,S,h=>by rw[ax]at h;subst h;rfl
 | .dS,cs,S,h=>by rw[ax]at h;subst h;rfl
 | .bz,cs,S,h=>by rw[ax]at h;subst h;rfl
 | .slice xs,cs,S,h=>by
   rw[ax]at h;rcases h with⟨_,a,c,rfl,_⟩|⟨b,o,cap,eT,sz,rfl,_⟩<;>rfl
 | .ao sz xs,cs,S,h=>by
   rw[ax]at h;rcases h with⟨_,a,rfl⟩|⟨b,cap,cur,e,fr,aW,rfl,_⟩<;>rfl
 | .ref d,cs,S,h=>by rw[ax]at h;obtain⟨b,o,eT,rfl,_⟩:=h;rfl
 | .bh d,cs,S,h=>by rw[ax]at h;obtain⟨b,o,eT,_,_,rfl,_⟩:=h;rfl
 | .agg az,cs,S,h=>by rw[ax]at h;exact bm.length az _ _ h
 | .tuple az,cs,S,h=>by rw[ax]at h;exact bm.length az _ _ h
 | .fn _ _,cs,S,h=>by rw[ax]at h;obtain⟨arr,rfl,_⟩:=h;rfl
 | .h _ _,cs,S,h=>by rw[ax]at h;exact h.elim
 | .au _ _,cs,S,h=>by rw[ax]at h;exact h.elim
 | .ad _ _,cs,S,h=>by rw[ax]at h;exact h.elim
 | .eD _,cs,S,h=>by rw[ax]at h;obtain⟨v,_,rfl⟩:=mB.one h;rfl
theorem bm.length {w:World} {F:Nat->Prop}:∀(ds:List I) (cs:List Value) (S:Nat->Prop),bm w F ds cs S->cs.length=I.eJ ds
 |[],cs,S,h=>by rw[bm]at h;subst h;rfl
 |d::ds,cs,S,h=>by
  rw[bm]at h;obtain⟨cv,c2,ck,eo,rfl,ah,aN,_⟩:=h;rw[List.length_append,ax.length d _ _ ah,bm.length ds _ _ aN,I.eJ]
end
mutual
def I.share:I->I
 | .ao _ xs=>.slice (I.shares xs)
 | .bh d=>.ref d.share
 | .slice xs=>.slice (I.shares xs)
 | .ref d=>.ref d.share
 | .agg az=>.agg (I.shares az)
 | .tuple az=>.tuple (I.shares az)
 | .eD _=>.hole
 |d=>d
def I.shares:List I->List I
 |[]=>[]
 |d::ds=>d.share::I.shares ds
end
theorem I.tL (ds:List I):I.shares ds=ds.map I.share:=by
 induction ds with
 |nil=>rfl
 |cons d ds ih=>simp[I.shares,ih]
mutual
theorem I.BS:∀d:I,d.share.wd=d.wd
 | .hole=>rfl
 | .bool _=>rfl
 | .fs=>rfl
 | .int _ _=>rfl
 | .str _=>rfl
 | .dS=>rfl
 | .bz=>rfl
 | .slice _=>rfl
 | .ao _ _=>rfl
 | .ref _=>rfl
 | .bh _=>rfl
 | .agg az=>by simp only[I.share,I.wd];exact I.GC az
 | .tuple az=>by simp only[I.share,I.wd];exact I.GC az
 | .fn _ _=>rfl
 | .h _ _=>rfl
 | .au _ _=>rfl
 | .ad _ _=>rfl
 | .eD _=>rfl
theorem I.GC:∀ds:List I,I.eJ (I.shares ds)=I.eJ ds
 |[]=>rfl
 |d::ds=>by simp only[I.shares,I.eJ];rw[I.BS d,I.GC ds]
end
theorem wh {w:World} {b:Nat} {cur:Array Value} {e:TypeId} {fr:Nat×Nat} (h:w.heap[b]? =some (.cells cur e fr)) (n:Nat):iA w b 0 (cur.toList.take n):=by
 intro j c aq;rw[List.getElem?_take]at aq;split at aq
 .simp[World.cell?,h];simpa using aq
 .cases aq
mutual
theorem ax.shared {w:World} {F b3:Nat->Prop} (bL:∀b,F b->b3 b):
  ∀(d:I) (cs:List Value) (S:Nat->Prop),(∀b,S b->b3 b)->ax w F d cs S->ax w b3 d.share cs (λ_=>False)
 | .hole,_,_,_,h=>h
 | .bool _,_,_,_,h=>h
 | .fs,_,_,_,h=>h
 | .int _ _,_,_,_,h=>h
 | .str _,_,_,_,h=>h
 | .dS,_,_,_,h=>h
 | .bz,_,_,_,h=>h
 | .slice xs,cs,S,b8,h=>by
   rw[I.share,ax];rw[ax]at h;rcases h with⟨rfl,a,c,rfl,aq⟩|⟨b,o,cap,eT,sz,ag,ah,aN,bg,bR,cW,cE⟩
   .exact .inl ⟨rfl,a,c,rfl,aq⟩
   .refine .inr ⟨b,o,cap,eT,sz,?_,bL _ ah,?_,bg,?_,cW,bm.shared bL xs _ _ (λ_ h=>h.elim) cE⟩
    .simpa [I.tL]using ag
    .simpa [I.tL]using aN
    .intro d aj;rw[I.tL]at aj;obtain⟨bE,h7,rfl⟩:=List.mem_map.1 aj;rw[I.BS];exact bR _ h7
 | .ao sz xs,cs,S,b8,h=>by
   rw[I.share,ax];rw[ax]at h;rcases h with⟨rfl,a,rfl⟩|⟨b,cap,cur,e,fr,aW,ag,ah,aN,bg,bR,cW,cE,fJ,hT,iB,mC⟩
   .exact .inl ⟨rfl,a,0,rfl,Nat.zero_le _,λ_=>rfl⟩
   .refine .inr ⟨b,0,cap,_,sz,?_,b8 _ ah,?_,cW,?_,wh aN _,bm.shared bL xs _ _ (λc aq=>b8 _ (iB _ aq)) hT⟩
    .simpa [I.tL]using ag
    .simpa [I.tL]using bR
    .intro d aj;rw[I.tL]at aj;obtain⟨bE,h7,rfl⟩:=List.mem_map.1 aj;rw[I.BS];exact fJ _ h7
 | .ref d,cs,S,b8,h=>by
   rw[I.share,ax];rw[ax]at h;obtain⟨b,o,eT,ag,ah,aN,bg⟩:=h;exact⟨b,o,eT,ag,bL _ ah,aN,ax.shared bL d _ _ (λ_ h=>h.elim) bg⟩
 | .bh d,cs,S,b8,h=>by
   rw[I.share,ax];rw[ax]at h;obtain⟨b,cur,e,fr,aW,ag,ah,aN,bg,bR,cW,cE⟩:=h;refine⟨b,0,cur.toList,ag,b8 _ ah,?_,ax.shared bL d _ _ (λc aq=>b8 _ (cW _ aq)) bR⟩;have:=wh aN cur.toList.length
   rwa [List.take_length]at this
 | .agg az,cs,S,b8,h=>by rw[I.share,ax];rw[ax]at h;exact bm.shared bL az _ _ b8 h
 | .tuple az,cs,S,b8,h=>by rw[I.share,ax];rw[ax]at h;exact bm.shared bL az _ _ b8 h
 | .fn f caps,cs,S,b8,h=>by
   show ax w b3 (.fn f caps) cs _;rw[ax]at h⊢;obtain⟨arr,ag,ah,aN⟩:=h;exact⟨arr,ag,ah,bm.mono bL caps _ _ _ (λ_ h=>h) aN⟩
 | .h _ _,_,_,_,h=>h
 | .au _ _,_,_,_,h=>h
 | .ad _ _,_,_,_,h=>h
 | .eD _,cs,S,b8,h=>by rw[ax]at h;rw[I.share,ax];exact mB.one h
theorem bm.shared {w:World} {F b3:Nat->Prop} (bL:∀b,F b->b3 b):
  ∀(ds:List I) (cs:List Value) (S:Nat->Prop),(∀b,S b->b3 b)->bm w F ds cs S->bm w b3 (I.shares ds) cs (λ_=>False)
 |[],_,_,_,h=>h
 |d::ds,cs,S,b8,h=>by
  simp only[I.shares];rw[bm]at h⊢;obtain⟨cv,c2,ck,eo,ag,ah,aN,bg,bR,cW⟩:=h;exact⟨cv,c2,_,_,ag,ax.shared bL d _ _ (λb ad=>b8 _ (bg _ ad)) ah,bm.shared bL ds _ _ (λb ad=>b8 _ (bR _ ad)) aN,λ_ h=>h,λ_ h=>h,λ_ h=>h.elim⟩
end
def I.sub:List Nat->I->Option I
 |[],d=>some d
 |k::q,.agg az=>match az[k]? with
  |some d=>I.sub q d
  |none=>none
 |k::q,.tuple az=>match az[k]? with
  |some d=>I.sub q d
  |none=>none
 |i::q,.ao _ xs=>match xs[i]? with
  |some d=>I.sub q d
  |none=>none
 |0::q,.bh d=>I.sub q d
 |_::_,_=>none
def I.put:List Nat->I->I->I
 |[],n,_=>n
 |k::q,n,.agg az=>match az[k]? with
  |some d=>.agg (az.set k (I.put q n d))
  |none=>.agg az
 |k::q,n,.tuple az=>match az[k]? with
  |some d=>.tuple (az.set k (I.put q n d))
  |none=>.tuple az
 |i::q,n,.ao sz xs=>match xs[i]? with
  |some d=>.ao sz (xs.set i (I.put q n d))
  |none=>.ao sz xs
 |0::q,n,.bh d=>.bh (I.put q n d)
 |_::_,_,d=>d
def oc (w:World) (b o n:Nat):List Value:=(List.range n).map λj=>(w.cell? ⟨b,o+j,none⟩).getD undef
theorem iA.oc {w:World} {b o:Nat} {cs:List Value} (h:iA w b o cs):oc w b o cs.length=cs:=by
 unfold c_.oc;apply List.ext_getElem?;intro i;rw[List.getElem?_map];by_cases an:i<cs.length
 .have:cs[i]? =some cs[i]:=List.getElem?_eq_getElem an;simp[an,h i _ this]
 .simp[an]
def dP (w:World):List Nat->I->List Value->Option (Nat×Nat)->Option (I×List Value×Option (Nat×Nat))
 |[],d,cs,a=>some (d,cs,a)
 |k::q,.agg az,cs,a=>match az[k]? with
  |some d=>dP w q d ((cs.drop (I.eJ (az.take k))).take d.wd) (a.map λl=>(l.1,l.2+I.eJ (az.take k)))
  |none=>none
 |k::q,.tuple az,cs,a=>match az[k]? with
  |some d=>dP w q d ((cs.drop (I.eJ (az.take k))).take d.wd) (a.map λl=>(l.1,l.2+I.eJ (az.take k)))
  |none=>none
 |i::q,.ao sz xs,cs,_=>match xs[i]?,cs with
  |some d,[.slice (some ⟨b,_,_⟩) _ _]=>dP w q d (oc w b (i*sz) sz) (some (b,i*sz))
  |_,_=>none
 |0::q,.bh d,cs,_=>match cs with
  |[.pointer (some ⟨b,_,_⟩)]=>dP w q d (oc w b 0 d.wd) (some (b,0))
  |_=>none
 |_::_,_,_,_=>none
theorem tM (cv gC c2:List Value) (n m:Nat) (ag:cv.length=n) (ah:gC.length=m):((cv++(gC++c2)).drop n).take m=gC:=by
 rw[List.drop_left' ag,List.take_left' ah]
theorem bm.pick {w:World} {F:Nat->Prop}:∀(ds:List I) (cs:List Value) (S:Nat->Prop) (k:Nat) (d:I),
  bm w F ds cs S->ds[k]? =some d->∃(cv gC c2:List Value) (ck iC:Nat->Prop),cs=cv++(gC++c2)/\cv.length=I.eJ (ds.take k)/\
   (∀b,ck b->S b)/\(∀b,iC b->S b)/\(∀b,ck b->¬iC b)/\ax w F d gC iC/\
   ∀(aL:World) (bE:I) (tN:List Value) (aW:Nat->Prop),(∀b,F b->aL.heap[b]? =w.heap[b]?)->(∀b,ck b->aL.heap[b]? =w.heap[b]?)->
    ax aL F bE tN aW->(∀b,aW b->¬ck b)->bm aL F (ds.set k bE) (cv++(tN++c2)) (λb=>ck b\/aW b)
 |[],_,_,_,_,_,ay=>by simp at ay
 |x::ds,cs,S,0,d,h,ay=>by
  rw[bm]at h;obtain⟨cv,c2,ir,hF,rfl,ag,ah,cf,ad,mV⟩:=h;simp at ay;subst ay;refine⟨[],cv,c2,hF,ir,rfl,rfl,ad,cf,λb ad cf=>mV _ cf ad,ag,?_⟩;intro aL bE tN aW bL b8 aj jZ;simp only[List.set_cons_zero,List.nil_append];rw[bm];exact⟨tN,c2,aW,hF,rfl,aj,bm.frame bL _ _ _ b8 ah,λb h=>.inr h,λb h=>.inl h,λb h=>jZ b h⟩
 |x::ds,cs,S,k+1,d,h,ay=>by
  rw[bm]at h;obtain⟨c0,Tv,ir,hF,rfl,ag,ah,cf,ad,mV⟩:=h;simp only[List.getElem?_cons_succ]at ay;have hl:=ax.length _ _ _ ag;obtain⟨cv,gC,c2,ck,iC,rfl,i0,sw,i2,i3,i5,GD⟩:=bm.pick ds Tv hF k d ah ay;refine⟨c0++cv,gC,c2,λb=>ir b\/ck b,iC,by simp,by simp[I.eJ,hl,i0],?_,λb h=>ad _ (i2 _ h),?_,i5,?_⟩
  .rintro b (h|h)
   .exact cf _ h
   .exact ad _ (sw _ h)
  .rintro b (h|h) ay
   .exact mV _ h (i2 _ ay)
   .exact i3 _ h ay
  .intro aL bE tN aW bL b8 aj jZ;simp only[List.set_cons_succ];rw[bm];refine⟨c0,cv++(tN++c2),ir,λb=>ck b\/aW b,by simp,ax.frame bL _ _ _ (λb ad=>b8 b (.inl ad)) ag,
    GD aL bE tN aW bL (λb ad=>b8 b (.inr ad)) aj (λb ad aq=>jZ b ad (.inr aq)),λb h=>.inl (.inl h),?_,?_⟩
   .rintro b (h|h)
    .exact .inl (.inr h)
    .exact .inr h
   .rintro b h (bt|bt)
    .exact mV _ h (sw _ bt)
    .exact jZ _ bt (.inl h)
theorem GF:∀(az:List I) (k:Nat) (x y:I),az[k]? =some x->y.wd=x.wd->I.eJ (az.set k y)=I.eJ az:=by
 intro az;induction az with
 |nil=>intro k x y h;simp at h
 |cons a az ih=>
  intro k x y h e;cases k with
  |zero=>simp at h;subst h;simp[I.eJ,e]
  |succ k=>simp at h;simp[I.eJ,ih k x y h e]
theorem tO {sz:Nat}:∀(xs:List I),(∀d∈xs,d.wd=sz)->I.eJ xs=xs.length*sz
 |[],_=>by simp[I.eJ]
 |x::xs,h=>by
  rw[I.eJ,h x (by simp),tO xs (λd aj=>h d (by simp[aj])),List.length_cons,Nat.add_mul,Nat.one_mul,Nat.add_comm]
theorem I.wi:∀(q:List Nat) (av d bE:I),I.sub q av=some d->bE.wd=d.wd->(I.put q bE av).wd=av.wd:=by
 intro q;induction q with
 |nil=>intro av d bE h e;simp[I.sub]at h;subst h;simpa [I.put]using e
 |cons k q ih=>
  intro av d bE h e;cases av with
  |agg az=>
   simp only[I.sub]at h;split at h
   .rename_i x aw;simp only[I.put,aw,I.wd];exact GF _ _ _ _ aw (ih _ _ _ h e)
   .cases h
  |tuple az=>
   simp only[I.sub]at h;split at h
   .rename_i x aw;simp only[I.put,aw,I.wd];exact GF _ _ _ _ aw (ih _ _ _ h e)
   .cases h
  |ao sz xs=>
   simp only[I.sub]at h;split at h
   .rename_i x aw;simp only[I.put,aw,I.wd]
   .cases h
  |bh x=>
   cases k with
   |zero=>simp only[I.put,I.wd]
   |succ k=>simp[I.sub]at h
  |_=>simp[I.sub]at h
theorem GG {sz:Nat} {xs:List I} {i:Nat} {y:I} (h:∀d∈xs,d.wd=sz) (hy:y.wd=sz):∀d∈xs.set i y,d.wd=sz:=by
 intro d aj;rcases List.mem_or_eq_of_mem_set aj with aj|rfl
 .exact h d aj
 .exact hy
theorem wj {w:World} {b:Nat} {cur:Array Value} {e:TypeId} {fr:Nat×Nat} (h:w.heap[b]? =some (.cells cur e fr)) {l m r:List Value} (aq:cur.toList=l++(m++r)):
  oc w b l.length m.length=m:=by
 refine iA.oc (λj c cH=>?_);have e6:j<m.length:=(List.getElem?_eq_some_iff.1 cH).1;have:cur.toList[l.length+j]? =some c:=by
  rw[aq,List.getElem?_append_right (by omega),List.getElem?_append_left (by omega)];rw[<-cH];congr 1;omega
 simp[World.cell?,h];simpa using this
def Flat (w:World) (F:Nat->Prop) (q:List Nat) (av:I) (cs:List Value) (a:Option (Nat×Nat)) (d:I) (c6:List Value) (c7:Option (Nat×Nat)) (eP:Nat->Prop):Prop:=
 ∃l r:List Value,cs=l++(c6++r)/\c7=a.map (λx=>(x.1,x.2+l.length))/\
  ∀(aL:World) (bE:I) (gD:List Value) (aW:Nat->Prop),(∀b,F b->aL.heap[b]? =w.heap[b]?)->(∀b,eP b->aL.heap[b]? =w.heap[b]?)->
   bE.wd=d.wd->ax aL F bE gD aW->(∀b,aW b->¬eP b)->ax aL F (I.put q bE av) (l++(gD++r)) (λb=>eP b\/aW b)
def Deep (w:World) (F:Nat->Prop) (q:List Nat) (av:I) (cs:List Value) (d:I) (c6:List Value) (c7:Option (Nat×Nat)) (eP:Nat->Prop):Prop:=
 ∃(b:Nat) (cur:Array Value) (e:TypeId) (fr:Nat×Nat) (l r:List Value),c7=some (b,l.length)/\eP b/\w.heap[b]? =some (.cells cur e fr)/\nD fr cur.size/\cur.toList=l++(c6++r)/\
  ∀(aL:World) (bE:I) (gD:List Value) (aW:Nat->Prop),(∀b,F b->aL.heap[b]? =w.heap[b]?)->(∀c,eP c->c≠b->aL.heap[c]? =w.heap[c]?)->
   aL.heap[b]? =some (.cells (l++(gD++r)).toArray e fr)->
   bE.wd=d.wd->ax aL F bE gD aW->(∀b,aW b->¬eP b)->ax aL F (I.put q bE av) cs (λb=>eP b\/aW b)
theorem ctx {w:World} {F:Nat->Prop}:∀(q:List Nat) (av:I) (cs:List Value) (S:Nat->Prop) (a:Option (Nat×Nat)) (d:I),
  ax w F av cs S->I.sub q av=some d->∃(c6:List Value) (c7:Option (Nat×Nat)) (eP fP:Nat->Prop),dP w q av cs a=some (d,c6,c7)/\
   (∀b,eP b->S b)/\(∀b,fP b->S b)/\(∀b,eP b->¬fP b)/\ax w F d c6 fP/\(Flat w F q av cs a d c6 c7 eP\/Deep w F q av cs d c6 c7 eP):=by
 intro q;induction q with
 |nil=>
  intro av cs S a d h aj;simp[I.sub]at aj;subst aj;refine⟨cs,a,λ_=>False,S,rfl,λ_ h=>h.elim,λ_ h=>h,λ_ h=>h.elim,h,.inl ⟨[],[],by simp,?_,?_⟩⟩
  .cases a<;>simp
  .intro aL bE gD aW _ _ hw h7 _;simp only[I.put,List.nil_append,List.append_nil];exact ax.mono (λ_ h=>h) _ _ _ _ (λb h=>.inr h) h7
 |cons k q ih=>
  have fields:∀(mk:List I->I) (GH:∀(w:World) (F:Nat->Prop) (az:List I) (cs:List Value) (S:Nat->Prop),ax w F (mk az) cs S=bm w F az cs S) (az:List I) (cs:List Value) (S:Nat->Prop) (a:Option (Nat×Nat)) (x d:I),
    (k6:∀bE,I.put (k::q) bE (mk az)=mk (az.set k (I.put q bE x)))->bm w F az cs S->az[k]? =some x->I.sub q x=some d->
    ∃(c6:List Value) (c7:Option (Nat×Nat)) (eP fP:Nat->Prop),dP w q x ((cs.drop (I.eJ (az.take k))).take x.wd) (a.map λl=>(l.1,l.2+I.eJ (az.take k)))=some (d,c6,c7)/\
    (∀b,eP b->S b)/\(∀b,fP b->S b)/\(∀b,eP b->¬fP b)/\ax w F d c6 fP/\(Flat w F (k::q) (mk az) cs a d c6 c7 eP\/Deep w F (k::q) (mk az) cs d c6 c7 eP):=by
   intro mk GH az cs S a x d k6 h aw aj;obtain⟨cv,gC,c2,ck,iC,rfl,iu,fY,hU,iD,gO,mW⟩:=bm.pick az cs S k x h aw;have hl:=ax.length _ _ _ gO;rw[tM cv gC c2 _ _ iu hl];obtain⟨c6,c7,eP,fP,g0,g1,g2,g3,g4,g5⟩:=ih x _ iC (a.map λl=>(l.1,l.2+I.eJ (az.take k))) d gO aj;refine⟨c6,c7,λb=>ck b\/eP b,fP,g0,?_,λb ad=>hU _ (g2 _ ad),?_,g4,?_⟩
   .rintro b (h|h)
    .exact fY _ h
    .exact hU _ (g1 _ h)
   .rintro b (h|h) aj
    .exact iD _ h (g2 _ aj)
    .exact g3 _ h aj
   .have fK:∀(b:Nat) (aW:Nat->Prop),(ck b\/eP b\/aW b)->((ck b\/eP b)\/aW b):=by
     rintro b aW (ad|ad|ad)
     .exact .inl (.inl ad)
     .exact .inl (.inr ad)
     .exact .inr ad
    rcases g5 with⟨l,r,rfl,a6,aQ⟩|⟨b,cur,e,fr,l,r,aX,a6,aQ,cC,cF,cc⟩
    .refine .inl ⟨cv++l,r++c2,by simp,?_,?_⟩
     .rw[a6,<-iu];cases a<;>simp[Nat.add_assoc]
     .intro aL bE gD aW bL b8 hw h7 jZ;have ei:=aQ aL bE gD aW bL (λb ad=>b8 b (.inr ad)) hw h7 (λb ad aq=>jZ b ad (.inr aq));have bp:=mW aL _ _ _ bL (λb ad=>b8 b (.inl ad)) ei (by
       rintro b (ad|ad) ag
       .exact iD _ ag (g1 _ ad)
       .exact jZ _ ad (.inl ag))
      rw[k6,GH];have:=bm.mono (λ_ h=>h) _ _ _ _ (λb=>fK b aW) bp;simpa using this
    .refine .inr ⟨b,cur,e,fr,l,r,aX,.inr a6,aQ,cC,cF,?_⟩;intro aL bE gD aW bL b8 mX hw h7 jZ;have ei:=cc aL bE gD aW bL (λc aq=>b8 c (.inr aq)) mX hw h7 (λb ad aq=>jZ b ad (.inr aq));have bp:=mW aL _ _ _ bL (λc aq=>b8 c (.inl aq) (by rintro rfl;exact iD _ aq (g1 _ a6))) ei (by
       rintro b (ad|ad) ag
       .exact iD _ ag (g1 _ ad)
       .exact jZ _ ad (.inl ag))
     rw[k6,GH];exact bm.mono (λ_ h=>h) _ _ _ _ (λb=>fK b aW) bp
  intro av cs S a d h aj;cases av with
  |agg az=>
   simp only[I.sub]at aj;split at aj
   .rename_i x aw;rw[ax]at h;have:=fields .agg (λ_ _ _ _ _=>by rw[ax]) az cs S a x d (λbE=>by simp only[I.put,aw]) h aw aj;simpa only[dP,aw]using this
   .cases aj
  |tuple az=>
   simp only[I.sub]at aj;split at aj
   .rename_i x aw;rw[ax]at h;have:=fields .tuple (λ_ _ _ _ _=>by rw[ax]) az cs S a x d (λbE=>by simp only[I.put,aw]) h aw aj;simpa only[dP,aw]using this
   .cases aj
  |ao sz xs=>
   simp only[I.sub]at aj;split at aj
   .rename_i x aw;rw[ax]at h;rcases h with⟨rfl,_,rfl⟩|⟨b,cap,cur,e,fr,ey,rfl,ah,aN,bg,bR,cW,cE,fJ,hT,iB,mC⟩
    .simp at aw
    .obtain⟨cv,gC,c2,ck,iC,p,iu,fY,hU,iD,gO,mW⟩:=bm.pick xs _ ey k x hT aw;have hl:=ax.length _ _ _ gO;have Tw:k<xs.length:=(List.getElem?_eq_some_iff.1 aw).1;have yy:x.wd=sz:=fJ x (List.mem_of_getElem? aw);have cy:I.eJ (xs.take k)=k*sz:=by
      rw[tO _ (λd aj=>fJ d (List.mem_of_mem_take aj))];rw[List.length_take,Nat.min_eq_left (by omega)]
     obtain⟨rp,mc⟩:∃rp,cur.toList=cv++(gC++(c2++rp)):=by
      refine⟨cur.toList.drop (xs.length*sz),?_⟩;have:=(List.take_append_drop (xs.length*sz) cur.toList).symm;rw[p]at this;simpa using this
     have kI:oc w b (k*sz) sz=gC:=by
      have:=wj aN mc
      rwa [iu,cy,hl,yy]at this
     obtain⟨c6,c7,eP,fP,g0,g1,g2,g3,g4,g5⟩:=ih x _ iC (some (b,k*sz)) d gO aj;have k6:∀bE,I.put (k::q) bE (.ao sz xs)= .ao sz (xs.set k (I.put q bE x)):=λbE=>by simp only[I.put,aw]
     refine⟨c6,c7,λc=>c=b\/ck c\/eP c,fP,?_,?_,λc aq=>iB _ (hU _ (g2 _ aq)),?_,g4,.inr ?_⟩
     .simp only[dP,aw,kI];exact g0
     .rintro c (rfl|h|h)
      .exact ah
      .exact iB _ (fY _ h)
      .exact iB _ (hU _ (g1 _ h))
     .rintro c (rfl|h|h) aj
      .exact mC (hU _ (g2 _ aj))
      .exact iD _ h (g2 _ aj)
      .exact g3 _ h aj
     .have lC:∀bE,bE.wd=d.wd->(I.put q bE x).wd=sz:=λbE hw=>(I.wi q x d bE aj hw).trans yy;rcases g5 with⟨l,r,rfl,a6,aQ⟩|⟨gp,GI,gP,GJ,l,r,aX,a6,aQ,cC,cF,cc⟩
      .refine⟨b,cur,e,fr,cv++l,r++(c2++rp),?_,.inl rfl,aN,bg.low,?_,?_⟩
       .rw[a6];simp[iu,cy]
       .rw[mc];simp
       .intro aL bE gD aW bL b8 mX hw h7 jZ;have ei:=aQ aL bE gD aW bL (λc aq=>b8 c (.inr (.inr aq)) (by rintro rfl;exact mC (hU _ (g1 _ aq)))) hw h7 (λb ad aq=>jZ b ad (.inr (.inr aq)));have bp:=mW aL _ _ _ bL (λc aq=>b8 c (.inr (.inl aq)) (by rintro rfl;exact mC (fY _ aq))) ei (by
         rintro b (ad|ad) ag
         .exact iD _ ag (g1 _ ad)
         .exact jZ _ ad (.inr (.inl ag)))
        have yz:=ax.length _ _ _ h7;have yA:=ax.length _ _ _ g4;rw[k6,ax];refine .inr ⟨b,cap,_,e,fr,λb=>ck b\/eP b\/aW b,by simp,.inl (.inl rfl),mX,?_,by simpa using bR,cW,?_,GG fJ (lC bE hw),?_,?_,?_⟩
        .have:(cv++l++(gD++(r++(c2++rp)))).toArray.size=cur.size:=by
          have:cur.size=cur.toList.length:=by simp
          rw[this,mc];simp[yz,yA,hw]
         rw[this];exact bg
        .rw[<-cE];have:cur.size=cur.toList.length:=by simp
         rw[this,mc];simp[yz,yA,hw]
        .have hlen:(cv++(l++(gD++r)++c2)).length=xs.length*sz:=by
          have:=congrArg List.length p;rw[List.length_take,Nat.min_eq_left (by simp[cE];exact Nat.mul_le_mul_right _ bR)]at this;rw[this];simp[yz,yA,hw]
         have:(cv++l++(gD++(r++(c2++rp))))=(cv++(l++(gD++r)++c2))++rp:=by simp
         rw[List.length_set];simp only[this];rw[List.take_left' hlen];exact bp
        .rintro c (h|h|h)
         .exact .inl (.inr (.inl h))
         .exact .inl (.inr (.inr h))
         .exact .inr h
        .rintro(h|h|h)
         .exact mC (fY _ h)
         .exact mC (hU _ (g1 _ h))
         .exact jZ _ h (.inl rfl)
      .refine⟨gp,GI,gP,GJ,l,r,aX,.inr (.inr a6),aQ,cC,cF,?_⟩;intro aL bE gD aW bL b8 mX hw h7 jZ;have ei:=cc aL bE gD aW bL (λc aq dL=>b8 c (.inr (.inr aq)) dL) mX hw h7 (λb ad aq=>jZ b ad (.inr (.inr aq)));have dL:∀c,ck c->c≠gp:=by rintro c aq rfl;exact iD _ aq (g1 _ a6)
       have bp:=mW aL _ _ _ bL (λc aq=>b8 c (.inr (.inl aq)) (dL c aq)) ei (by
        rintro b (ad|ad) ag
        .exact iD _ ag (g1 _ ad)
        .exact jZ _ ad (.inr (.inl ag)))
       have GK:b≠gp:=by rintro rfl;exact mC (hU _ (g1 _ a6))
       rw[k6,ax];refine .inr ⟨b,cap,cur,e,fr,λb=>ck b\/eP b\/aW b,by simp,.inl (.inl rfl),(b8 b (.inl rfl) GK).trans aN,bg,by simpa using bR,cW,cE,GG fJ (lC bE hw),?_,?_,?_⟩
       .rw[List.length_set,p];exact bp
       .rintro c (h|h|h)
        .exact .inl (.inr (.inl h))
        .exact .inl (.inr (.inr h))
        .exact .inr h
       .rintro(h|h|h)
        .exact mC (fY _ h)
        .exact mC (hU _ (g1 _ h))
        .exact jZ _ h (.inl rfl)
   .cases aj
  |bh x=>
   cases k with
   |succ k=>simp[I.sub]at aj
   |zero=>
    simp only[I.sub]at aj;rw[ax]at h;obtain⟨b,cur,e,fr,ey,rfl,ah,aN,bg,bR,cW,cE⟩:=h;have hl:=ax.length _ _ _ bR;have kI:oc w b 0 x.wd=cur.toList:=by
     have:=wj (l:=[]) (m:=cur.toList) (r:=[]) aN (by simp)
     rwa [hl]at this
    obtain⟨c6,c7,eP,fP,g0,g1,g2,g3,g4,g5⟩:=ih x _ ey (some (b,0)) d bR aj;have k6:∀bE,I.put (0::q) bE (.bh x)= .bh (I.put q bE x):=λbE=>rfl;refine⟨c6,c7,λc=>c=b\/eP c,fP,?_,?_,λc aq=>cW _ (g2 _ aq),?_,g4,.inr ?_⟩
    .simp only[dP,kI];exact g0
    .rintro c (rfl|h)
     .exact ah
     .exact cW _ (g1 _ h)
    .rintro c (rfl|h) aj
     .exact cE (g2 _ aj)
     .exact g3 _ h aj
    .rcases g5 with⟨l,r,aX,a6,aQ⟩|⟨gp,GI,gP,GJ,l,r,aX,a6,aQ,cC,cF,cc⟩
     .refine⟨b,cur,e,fr,l,r,?_,.inl rfl,aN,bg,aX,?_⟩
      .rw[a6];simp
      .intro aL bE gD aW bL b8 mX hw h7 jZ;have ei:=aQ aL bE gD aW bL (λc aq=>b8 c (.inr aq) (by rintro rfl;exact cE (g1 _ aq))) hw h7 (λb ad aq=>jZ b ad (.inr aq));have yz:=ax.length _ _ _ h7;have yA:=ax.length _ _ _ g4;rw[k6,ax];refine⟨b,_,e,fr,λb=>eP b\/aW b,rfl,.inl (.inl rfl),mX,?_,ei,?_,?_⟩
       .have:(l++(gD++r)).toArray.size=cur.size:=by
         have:cur.size=cur.toList.length:=by simp
         rw[this,aX];simp[yz,yA,hw]
        rw[this];exact bg
       .rintro c (h|h)
        .exact .inl (.inr h)
        .exact .inr h
       .rintro(h|h)
        .exact cE (g1 _ h)
        .exact jZ _ h (.inl rfl)
     .refine⟨gp,GI,gP,GJ,l,r,aX,.inr a6,aQ,cC,cF,?_⟩;intro aL bE gD aW bL b8 mX hw h7 jZ;have ei:=cc aL bE gD aW bL (λc aq dL=>b8 c (.inr aq) dL) mX hw h7 (λb ad aq=>jZ b ad (.inr aq));have GK:b≠gp:=by rintro rfl;exact cE (g1 _ a6)
      rw[k6,ax];refine⟨b,cur,e,fr,λb=>eP b\/aW b,rfl,.inl (.inl rfl),(b8 b (.inl rfl) GK).trans aN,bg,ei,?_,?_⟩
      .rintro c (h|h)
       .exact .inl (.inr h)
       .exact .inr h
      .rintro(h|h)
       .exact cE (g1 _ h)
       .exact jZ _ h (.inl rfl)
  |_=>simp[I.sub]at aj
mutual
def I.plain:I->Bool
 | .ao _ _=>false
 | .bh _=>false
 | .eD _=>false
 | .agg az=>I.ef az
 | .tuple az=>I.ef az
 |_=>true
def I.ef:List I->Bool
 |[]=>true
 |d::ds=>d.plain&&I.ef ds
end
mutual
def I.dz:I->I
 | .ao _ _=>.hole
 | .bh _=>.hole
 | .eD _=>.hole
 | .agg az=>.agg (I.me az)
 | .tuple az=>.tuple (I.me az)
 |d=>d
def I.me:List I->List I
 |[]=>[]
 |d::ds=>d.dz::I.me ds
end
mutual
theorem I.sx:∀d:I,d.dz.wd=d.wd
 | .hole=>rfl
 | .bool _=>rfl
 | .fs=>rfl
 | .int _ _=>rfl
 | .str _=>rfl
 | .dS=>rfl
 | .bz=>rfl
 | .slice _=>rfl
 | .ao _ _=>rfl
 | .ref _=>rfl
 | .bh _=>rfl
 | .agg az=>by simp only[I.dz,I.wd];exact I.GL az
 | .tuple az=>by simp only[I.dz,I.wd];exact I.GL az
 | .fn _ _=>rfl
 | .h _ _=>rfl
 | .au _ _=>rfl
 | .ad _ _=>rfl
 | .eD _=>rfl
theorem I.GL:∀ds:List I,I.eJ (I.me ds)=I.eJ ds
 |[]=>rfl
 |d::ds=>by simp only[I.me,I.eJ];rw[I.sx d,I.GL ds]
end
mutual
theorem ax.dz {w:World} {F:Nat->Prop}:∀(d:I) (cs:List Value) (S aW:Nat->Prop),ax w F d cs S->ax w F d.dz cs aW
 | .hole,_,_,_,h=>h
 | .bool _,_,_,_,h=>h
 | .fs,_,_,_,h=>h
 | .int _ _,_,_,_,h=>h
 | .str _,_,_,_,h=>h
 | .dS,_,_,_,h=>h
 | .bz,_,_,_,h=>h
 | .slice xs,cs,S,aW,h=>by
   show ax w F (.slice xs) cs aW;rw[ax]at h⊢;exact h
 | .ao sz xs,cs,S,aW,h=>by
   rw[I.dz,ax];rw[ax]at h;rcases h with⟨_,_,rfl⟩|⟨b,cap,cur,e,fr,ey,rfl,_⟩
   .exact⟨_,rfl,rfl⟩
   .exact⟨_,rfl,rfl⟩
 | .ref d,cs,S,aW,h=>by
   show ax w F (.ref d) cs aW;rw[ax]at h⊢;exact h
 | .bh d,cs,S,aW,h=>by
   rw[I.dz,ax];rw[ax]at h;obtain⟨b,cur,e,fr,ey,rfl,_⟩:=h;exact⟨_,rfl,rfl⟩
 | .agg az,cs,S,aW,h=>by rw[I.dz,ax];rw[ax]at h;exact bm.dz az _ _ _ h
 | .tuple az,cs,S,aW,h=>by rw[I.dz,ax];rw[ax]at h;exact bm.dz az _ _ _ h
 | .fn _ _,_,_,_,h=>h
 | .h _ _,_,_,_,h=>h
 | .au _ _,_,_,_,h=>h
 | .ad _ _,_,_,_,h=>h
 | .eD _,_,_,_,h=>by rw[ax]at h;rw[I.dz,ax];exact mB.one h
theorem bm.dz {w:World} {F:Nat->Prop}:∀(ds:List I) (cs:List Value) (S aW:Nat->Prop),bm w F ds cs S->bm w F (I.me ds) cs aW
 |[],_,_,_,h=>h
 |d::ds,cs,S,aW,h=>by
  rw[I.me,bm];rw[bm]at h;obtain⟨cv,c2,ck,eo,ag,ah,aN,bg,bR,cW⟩:=h;exact⟨cv,c2,λ_=>False,λ_=>False,ag,ax.dz d _ _ _ ah,bm.dz ds _ _ _ aN,λ_ h=>h.elim,λ_ h=>h.elim,λ_ h=>h.elim⟩
end
mutual
theorem ax.plain {w:World} {F:Nat->Prop}:∀(d:I) (cs:List Value) (S aW:Nat->Prop),d.plain=true->ax w F d cs S->ax w F d cs aW
 | .hole,_,_,_,_,h=>h
 | .bool _,_,_,_,_,h=>h
 | .fs,_,_,_,_,h=>h
 | .int _ _,_,_,_,_,h=>h
 | .str _,_,_,_,_,h=>h
 | .dS,_,_,_,_,h=>h
 | .bz,_,_,_,_,h=>h
 | .slice xs,cs,S,aW,_,h=>by rw[ax]at h⊢;exact h
 | .ao sz xs,cs,S,aW,au,h=>by simp[I.plain]at au
 | .ref d,cs,S,aW,_,h=>by rw[ax]at h⊢;exact h
 | .bh d,cs,S,aW,au,h=>by simp[I.plain]at au
 | .agg az,cs,S,aW,au,h=>by rw[ax]at h⊢;exact bm.plain az _ _ _ au h
 | .tuple az,cs,S,aW,au,h=>by rw[ax]at h⊢;exact bm.plain az _ _ _ au h
 | .fn _ _,_,_,_,_,h=>h
 | .h _ _,_,_,_,_,h=>h
 | .au _ _,_,_,_,_,h=>h
 | .ad _ _,_,_,_,_,h=>h
 | .eD _,_,_,_,au,_=>by simp[I.plain]at au
theorem bm.plain {w:World} {F:Nat->Prop}:∀(ds:List I) (cs:List Value) (S aW:Nat->Prop),I.ef ds=true->bm w F ds cs S->bm w F ds cs aW
 |[],_,_,_,_,h=>h
 |d::ds,cs,S,aW,au,h=>by
  rw[bm]at h⊢;simp only[I.ef,Bool.and_eq_true]at au;obtain⟨cv,c2,ck,eo,ag,ah,aN,bg,bR,cW⟩:=h;exact⟨cv,c2,λ_=>False,λ_=>False,ag,ax.plain d _ _ _ au.1 ah,bm.plain ds _ _ _ au.2 aN,λ_ h=>h.elim,λ_ h=>h.elim,λ_ h=>h.elim⟩
end
def I.gd:List Nat->I->Bool
 |[],_=>false
 |k::q,.agg az=>match az[k]? with
  |some d=>I.gd q d
  |none=>false
 |k::q,.tuple az=>match az[k]? with
  |some d=>I.gd q d
  |none=>false
 |_::_,.ao _ _=>true
 |_::_,.bh _=>true
 |_::_,_=>false
theorem BT {az:List I} (h:I.ef az=true) {k:Nat} {d:I} (ay:az[k]? =some d):d.plain=true:=by
 induction az generalizing k with
 |nil=>simp at ay
 |cons a az ih=>
  simp only[I.ef,Bool.and_eq_true]at h;cases k with
  |zero=>simp at ay;subst ay;exact h.1
  |succ k=>simp at ay;exact ih h.2 ay
theorem I.K8:∀(q:List Nat) (d:I),d.plain=true->I.gd q d=false:=by
 intro q;induction q with
 |nil=>intros;rfl
 |cons k q ih=>
  intro d aj;cases d<;>first|rfl|(simp[I.plain]at aj;done)|skip
  all_goals
   simp only[I.gd];split
   .rename_i az x aw;exact ih _ (BT (by simpa [I.plain]using aj) aw)
   .rfl
theorem I.GM:∀(q:List Nat) (d e:I),d.plain=true->I.sub q d=some e->e.plain=true:=by
 intro q;induction q with
 |nil=>intro d e aj h;simp[I.sub]at h;exact h▸aj
 |cons k q ih=>
  intro d e aj h;cases d<;>first|(simp[I.plain]at aj;done)|(simp[I.sub]at h;done)|skip
  all_goals
   simp only[I.sub]at h;split at h
   .rename_i az x aw;exact ih _ _ (BT (by simpa [I.plain]using aj) aw) h
   .cases h
theorem BU {w aL:World} {F:Nat->Prop}:∀(q:List Nat) (av:I) (cs:List Value) (S:Nat->Prop) (a:Option (Nat×Nat)) (d:I),
  ax w F av cs S->I.sub q av=some d->(∀b,S b->aL.heap[b]? =w.heap[b]?)->dP aL q av cs a=dP w q av cs a:=by
 intro q;induction q with
 |nil=>intros;rfl
 |cons k q ih=>
  have fields:∀(az:List I) (cs:List Value) (S:Nat->Prop) (a:Option (Nat×Nat)) (x d:I),bm w F az cs S->az[k]? =some x->I.sub q x=some d->
    (∀b,S b->aL.heap[b]? =w.heap[b]?)->
    dP aL q x ((cs.drop (I.eJ (az.take k))).take x.wd) (a.map λl=>(l.1,l.2+I.eJ (az.take k)))=dP w q x ((cs.drop (I.eJ (az.take k))).take x.wd) (a.map λl=>(l.1,l.2+I.eJ (az.take k))):=by
   intro az cs S a x d h aw aj b8;obtain⟨cv,gC,c2,ck,iC,rfl,iu,fY,hU,iD,gO,mW⟩:=bm.pick az cs S k x h aw;rw[tM cv gC c2 _ _ iu (ax.length _ _ _ gO)];exact ih x gC iC _ d gO aj (λb ad=>b8 b (hU _ ad))
  intro av cs S a d h aj b8;cases av with
  |agg az=>
   simp only[I.sub]at aj;split at aj
   .rename_i x aw;rw[ax]at h;simp only[dP,aw];exact fields az cs S a x d h aw aj b8
   .cases aj
  |tuple az=>
   simp only[I.sub]at aj;split at aj
   .rename_i x aw;rw[ax]at h;simp only[dP,aw];exact fields az cs S a x d h aw aj b8
   .cases aj
  |ao sz xs=>
   simp only[I.sub]at aj;split at aj
   .rename_i x aw;rw[ax]at h;rcases h with⟨rfl,_,rfl⟩|⟨b,cap,cur,e,fr,ey,rfl,ah,aN,bg,bR,cW,cE,fJ,hT,iB,mC⟩
    .simp at aw
    .obtain⟨cv,gC,c2,ck,iC,p,iu,fY,hU,iD,gO,mW⟩:=bm.pick xs _ ey k x hT aw;have hl:=ax.length _ _ _ gO;have Tw:k<xs.length:=(List.getElem?_eq_some_iff.1 aw).1;have yy:x.wd=sz:=fJ x (List.mem_of_getElem? aw);have cy:I.eJ (xs.take k)=k*sz:=by
      rw[tO _ (λd aj=>fJ d (List.mem_of_mem_take aj))];rw[List.length_take,Nat.min_eq_left (by omega)]
     obtain⟨rp,mc⟩:∃rp,cur.toList=cv++(gC++(c2++rp)):=by
      refine⟨cur.toList.drop (xs.length*sz),?_⟩;have:=(List.take_append_drop (xs.length*sz) cur.toList).symm;rw[p]at this;simpa using this
     have kI:oc w b (k*sz) sz=gC:=by
      have:=wj aN mc
      rwa [iu,cy,hl,yy]at this
     have GN:oc aL b (k*sz) sz=gC:=by
      have:=wj ((b8 b ah).trans aN) mc
      rwa [iu,cy,hl,yy]at this
     simp only[dP,aw,kI,GN];exact ih x gC iC _ d gO aj (λc aq=>b8 c (iB _ (hU _ aq)))
   .cases aj
  |bh x=>
   cases k with
   |succ k=>simp[I.sub]at aj
   |zero=>
    simp only[I.sub]at aj;rw[ax]at h;obtain⟨b,cur,e,fr,ey,rfl,ah,aN,bg,bR,cW,cE⟩:=h;have hl:=ax.length _ _ _ bR;have kI:oc w b 0 x.wd=cur.toList:=by
     have:=wj (l:=[]) (m:=cur.toList) (r:=[]) aN (by simp)
     rwa [hl]at this
    have GN:oc aL b 0 x.wd=cur.toList:=by
     have:=wj (l:=[]) (m:=cur.toList) (r:=[]) ((b8 b ah).trans aN) (by simp)
     rwa [hl]at this
    simp only[dP,kI,GN];exact ih x cur.toList ey _ d bR aj (λc aq=>b8 c (cW _ aq))
  |_=>simp[I.sub]at aj
def iv:Value->List Value
 | .agg cs=>cs.toList
 |v=>[v]
def cz:Value->List Value
 | .tuple vs=>vs.toList.flatMap iv
 |v=>iv v
def i7:I->Value->Prop
 | .agg _,v=>∃arr,v= .agg arr
 |_,v=>Value.ha v=true
def eA:I->Value->Prop
 | .tuple ds,v=>∃arr:Array Value,v= .tuple arr/\arr.size=ds.length/\∀(k:Nat) (d:I) (x:Value),ds[k]? =some d->arr[k]? =some x->i7 d x/\(∀vs,d≠.tuple vs)/\(iv x).length=d.wd
 |d,v=>i7 d v
abbrev ar:=Nat->I
mutual
def aO (w:World) (F:Nat->Prop) (s:ar) (aC:Nat->Value):I->Value->(Nat->Prop)->Prop
 | .hole,_,_=>True
 | .h x q,v,_=>∀d,I.sub q (s x)=some d->d.plain=false->∃c6 a,dP w q (s x) (cz (aC x)) none=some (d,c6,a)/\cz v=c6/\eA d v
 | .au x q,v,_=>∀d,I.sub q (s x)=some d->I.gd q (s x)=true->∃c6 b o,dP w q (s x) (cz (aC x)) none=some (d,c6,some (b,o))/\v= .pointer (some ⟨b,o,none⟩)
 | .ad x k,v,_=>(s x).plain=false->∃b cur e fr,v= .pointer (some ⟨b,k,none⟩)/\F b/\w.heap[b]? =some (.cells cur e fr)/\cur.toList=cz (aC x)
 | .fn f cap,v,_=>∃arr:Array Value,v= .func (.func f) #[] arr/\eH w F s aC cap arr.toList
 | .bool b,v,S=>eA (.bool b) v/\ax w F (.bool b) (cz v) S
 | .fs,v,S=>eA .fs v/\ax w F .fs (cz v) S
 | .int k n,v,S=>eA (.int k n) v/\ax w F (.int k n) (cz v) S
 | .str x,v,S=>eA (.str x) v/\ax w F (.str x) (cz v) S
 | .dS,v,S=>eA .dS v/\ax w F .dS (cz v) S
 | .bz,v,S=>eA .bz v/\ax w F .bz (cz v) S
 | .slice xs,v,S=>eA (.slice xs) v/\ax w F (.slice xs) (cz v) S
 | .ao sz xs,v,S=>eA (.ao sz xs) v/\ax w F (.ao sz xs) (cz v) S
 | .ref d,v,S=>eA (.ref d) v/\ax w F (.ref d) (cz v) S
 | .bh d,v,S=>eA (.bh d) v/\ax w F (.bh d) (cz v) S
 | .agg d,v,S=>eA (.agg d) v/\ax w F (.agg d) (cz v) S
 | .tuple d,v,S=>eA (.tuple d) v/\ax w F (.tuple d) (cz v) S
 | .eD o,v,S=>eA (.eD o) v/\ax w F (.eD o) (cz v) S
def eH (w:World) (F:Nat->Prop) (s:ar) (aC:Nat->Value):List I->List Value->Prop
 |[],vs=>vs=[]
 |d::ds,vs=>∃v kp,vs=v::kp/\aO w F s aC d v (λ_=>False)/\eH w F s aC ds kp
end
def I.tree:I->Bool
 | .hole=>false
 | .h _ _=>false
 | .au _ _=>false
 | .ad _ _=>false
 | .fn _ _=>false
 |_=>true
theorem aO.cT {w:World} {F:Nat->Prop} {s:ar} {aC:Nat->Value} {d:I} {v:Value} {S:Nat->Prop} (bj:d.tree=true):
  aO w F s aC d v S↔(eA d v/\ax w F d (cz v) S):=by
 cases d<;>first|(simp[I.tree]at bj;done)|rw[aO]
theorem iE {q:List Nat} {av d:I} (h:I.sub q av=some d) (au:d.plain=false\/I.gd q av=true):av.tree=true:=by
 cases q with
 |nil=>
  simp[I.sub]at h;subst h;rcases au with au|au
  .cases av<;>first|rfl|(simp[I.plain]at au)
  .simp[I.gd]at au
 |cons k q=>cases av<;>first|rfl|(simp[I.sub]at h)
theorem GO {d:I} (h:d.plain=false):d.tree=true:=iE (q:=[]) (by simp only[I.sub]) (.inl h)
theorem aO.frame {w aL:World} {F b3:Nat->Prop} {s:ar} {aC:Nat->Value} {Sx:Nat->Nat->Prop} (bL:∀b,F b->aL.heap[b]? =w.heap[b]?) (K9:∀b,F b->b3 b)
  (b8:∀x b,Sx x b->aL.heap[b]? =w.heap[b]?) (lD:∀x,aO w F s aC (s x) (aC x) (Sx x)):
  ∀(d:I) (v:Value) (S:Nat->Prop),(∀b,S b->aL.heap[b]? =w.heap[b]?)->aO w F s aC d v S->aO aL b3 s aC d v S:=by
 have lE:∀(x:Nat) (q:List Nat) (d:I),I.sub q (s x)=some d->(d.plain=false\/I.gd q (s x)=true)->dP aL q (s x) (cz (aC x)) none=dP w q (s x) (cz (aC x)) none:=by
  intro x q d aj au;have bj:=iE aj au;have:=lD x;rw[aO.cT bj]at this;exact BU q _ _ (Sx x) none d this.2 aj (b8 x)
 have Tx:∀(d:I) (v:Value) (S:Nat->Prop),d.tree=true->(∀b,S b->aL.heap[b]? =w.heap[b]?)->aO w F s aC d v S->aO aL b3 s aC d v S:=by
  intro d v S bj tP h;rw[aO.cT bj]at h⊢;exact⟨h.1,ax.mono K9 _ _ _ _ (λ_ h=>h) (ax.frame bL _ _ _ tP h.2)⟩
 have step:∀n,(∀(d:I) (v:Value) (S:Nat->Prop),SizeOf.sizeOf d<=n->(∀b,S b->aL.heap[b]? =w.heap[b]?)->aO w F s aC d v S->aO aL b3 s aC d v S)/\
   (∀(ds:List I) (vs:List Value),SizeOf.sizeOf ds<=n->eH w F s aC ds vs->eH aL b3 s aC ds vs):=by
  intro n;induction n with
  |zero=>
   refine⟨λd v S cg=>?_,λds vs cg=>?_⟩
   .cases d<;>simp at cg<;>omega
   .cases ds<;>simp at cg<;>omega
  |succ n ih=>
   refine⟨λd v S cg tP h=>?_,λds vs cg h=>?_⟩
   .cases d with
    |hole=>rw[aO];trivial
    |h x q=>
     rw[aO]at h⊢;intro d aj au;rw[lE x q d aj (.inl au)];exact h d aj au
    |au x q=>
     rw[aO]at h⊢;intro d aj au;rw[lE x q d aj (.inr au)];exact h d aj au
    |ad x k=>
     rw[aO]at h⊢;intro au;obtain⟨b,cur,e,fr,ag,ah,aN,bg⟩:=h au;exact⟨b,cur,e,fr,ag,K9 b ah,(bL b ah).trans aN,bg⟩
    |fn f cap=>
     rw[aO]at h⊢;obtain⟨arr,rfl,aq⟩:=h;exact⟨arr,rfl,ih.2 _ _ (by simp at cg;omega) aq⟩
    |_=>exact Tx _ _ _ rfl tP h
   .cases ds with
    |nil=>rw[eH]at h⊢;exact h
    |cons d ds=>
     rw[eH]at h⊢;obtain⟨v,kp,rfl,ag,ah⟩:=h;simp at cg;exact⟨v,kp,rfl,ih.1 _ _ _ (by omega) (λ_ h=>h.elim) ag,ih.2 _ _ (by omega) ah⟩
 intro d v S tP h;exact(step (SizeOf.sizeOf d)).1 d v S (Nat.le_refl _) tP h
mutual
def da (x:Nat):I->I
 | .h y q=>if y=x then .hole else .h y q
 | .au y q=>if y=x then .hole else .au y q
 | .ad y k=>if y=x then .hole else .ad y k
 | .fn f cap=>.fn f (j0 x cap)
 |d=>d
def j0 (x:Nat):List I->List I
 |[]=>[]
 |d::ds=>da x d::j0 x ds
end
mutual
def ct (x:Nat):I->I
 | .h y q=>if y=x then(if q=[]then .h y q else .hole)else .h y q
 | .au y q=>if y=x then .hole else .au y q
 | .fn f cap=>.fn f (jv x cap)
 |d=>d
def jv (x:Nat):List I->List I
 |[]=>[]
 |d::ds=>ct x d::jv x ds
end
def dD {α:Type} (f:Nat->α) (t:Nat) (v:α):Nat->α:=λu=>if u=t then v else f u
def mD (t:Nat) (s:ar):ar:=λu=>da t (s u)
def iO (t:Nat) (s:ar):ar:=λu=>ct t (s u)
theorem mE {α:Type} (f:Nat->α) (t:Nat) (v:α):dD f t v t=v:=by simp[dD]
theorem j1 {α:Type} (f:Nat->α) {t u:Nat} (v:α) (h:u≠t):dD f t v u=f u:=by simp[dD,h]
theorem Ty {t:Nat} {d:I} (h:d.tree=true):da t d=d:=by cases d<;>first|rfl|(simp[I.tree]at h)
theorem GP {t:Nat} {d:I} (h:d.tree=true):ct t d=d:=by cases d<;>first|rfl|(simp[I.tree]at h)
theorem Tz {t:Nat} {d:I} (h:(da t d).tree=true):d.tree=true/\da t d=d:=by
 cases d<;>first|exact⟨rfl,rfl⟩|(simp only[da]at h;first|(split at h<;>simp[I.tree]at h)|simp[I.tree]at h)
theorem BV {t:Nat} {d:I} (h:(ct t d).tree=true):d.tree=true/\ct t d=d:=by
 cases d<;>first|exact⟨rfl,rfl⟩|(simp only[ct]at h;first|(split at h<;>(try split at h)<;>simp[I.tree]at h)|simp[I.tree]at h)
section
variable {w:World} {F:Nat->Prop} {s aB:ar} {aC k7:Nat->Value} {t:Nat}
theorem aO.da (h3:∀x,x≠t->(aB x).tree=true->aB x=s x/\k7 x=aC x):∀(n:Nat),
  (∀(d:I) (v:Value) (S:Nat->Prop),SizeOf.sizeOf d<=n->aO w F s aC d v S->aO w F aB k7 (c_.da t d) v S)/\
  (∀(ds:List I) (vs:List Value),SizeOf.sizeOf ds<=n->eH w F s aC ds vs->eH w F aB k7 (j0 t ds) vs):=by
 intro n;induction n with
 |zero=>
  refine⟨λd v S cg=>?_,λds vs cg=>?_⟩
  .cases d<;>simp at cg<;>omega
  .cases ds<;>simp at cg<;>omega
 |succ n ih=>
  refine⟨λd v S cg h=>?_,λds vs cg h=>?_⟩
  .cases d with
   |hole=>rw[c_.da.eq_def];simp only;rw[aO];trivial
   |h x q=>
    simp only[c_.da];split
    .rw[aO];trivial
    .rename_i aw;rw[aO]at h⊢;intro d aj au;obtain⟨aX,a6⟩:=h3 x aw (iE aj (.inl au));rw[aX,a6];rw[aX]at aj;exact h d aj au
   |au x q=>
    simp only[c_.da];split
    .rw[aO];trivial
    .rename_i aw;rw[aO]at h⊢;intro d aj au;obtain⟨aX,a6⟩:=h3 x aw (iE aj (.inr au));rw[aX,a6];rw[aX]at aj au;exact h d aj au
   |ad x k=>
    simp only[c_.da];split
    .rw[aO];trivial
    .rename_i aw;rw[aO]at h⊢;intro au;obtain⟨aX,a6⟩:=h3 x aw (GO au);rw[a6];rw[aX]at au;exact h au
   |fn f cap=>
    simp only[c_.da];rw[aO]at h⊢;obtain⟨arr,rfl,aq⟩:=h;exact⟨arr,rfl,ih.2 _ _ (by simp at cg;omega) aq⟩
   |_=>
    rw[Ty (by rfl)];exact(aO.cT (by rfl)).2 ((aO.cT (by rfl)).1 h)
  .cases ds with
   |nil=>rw[j0,eH];rw[eH]at h;exact h
   |cons d ds=>
    rw[j0,eH];rw[eH]at h;obtain⟨v,kp,rfl,ag,ah⟩:=h;simp at cg;exact⟨v,kp,rfl,ih.1 _ _ _ (by omega) ag,ih.2 _ _ (by omega) ah⟩
theorem aO.ct {aL:World} (h3:∀x,x≠t->(aB x).tree=true->aB x=s x/\k7 x=aC x) (k8:k7 t=aC t) (mY:(aB t).plain=false->(s t).plain=false/\∀v,eA (s t) v->eA (aB t) v)
  (lE:∀x q d,x≠t->I.sub q (s x)=some d->(d.plain=false\/I.gd q (s x)=true)->dP aL q (s x) (cz (aC x)) none=dP w q (s x) (cz (aC x)) none)
  (bL:∀b,F b->aL.heap[b]? =w.heap[b]?):∀(n:Nat),
  (∀(d:I) (v:Value) (S:Nat->Prop),SizeOf.sizeOf d<=n->(∀b,S b->aL.heap[b]? =w.heap[b]?)->aO w F s aC d v S->aO aL F aB k7 (c_.ct t d) v S)/\
  (∀(ds:List I) (vs:List Value),SizeOf.sizeOf ds<=n->eH w F s aC ds vs->eH aL F aB k7 (jv t ds) vs):=by
 intro n;induction n with
 |zero=>
  refine⟨λd v S cg=>?_,λds vs cg=>?_⟩
  .cases d<;>simp at cg<;>omega
  .cases ds<;>simp at cg<;>omega
 |succ n ih=>
  refine⟨λd v S cg tP h=>?_,λds vs cg h=>?_⟩
  .cases d with
   |hole=>rw[c_.ct.eq_def];simp only;rw[aO];trivial
   |h x q=>
    simp only[c_.ct];split
    .rename_i aw;subst aw;split
     .rename_i cU;subst cU;rw[aO]at h⊢;intro d aj au;simp only[I.sub,Option.some.injEq]at aj;subst aj;obtain⟨ei,bp⟩:=mY au;obtain⟨c6,a,g1,g2,g3⟩:=h (s x) rfl ei;simp only[dP,Option.some.injEq,Prod.mk.injEq]at g1;obtain⟨-,g1,aGT⟩:=g1;refine⟨cz (k7 x),none,rfl,?_,bp _ g3⟩;rw[k8,g2,<-g1]
     .rw[aO];trivial
    .rename_i aw;rw[aO]at h⊢;intro d aj au;obtain⟨aX,a6⟩:=h3 x aw (iE aj (.inl au));rw[aX,a6];rw[aX]at aj;rw[lE x q d aw aj (.inl au)];exact h d aj au
   |au x q=>
    simp only[c_.ct];split
    .rw[aO];trivial
    .rename_i aw;rw[aO]at h⊢;intro d aj au;obtain⟨aX,a6⟩:=h3 x aw (iE aj (.inr au));rw[aX,a6];rw[aX]at aj au;rw[lE x q d aw aj (.inr au)];exact h d aj au
   |ad x k=>
    simp only[c_.ct];rw[aO]at h⊢;intro au;by_cases aw:x=t
    .subst aw;obtain⟨b,cur,e,fr,ag,ah,aN,bg⟩:=h (mY au).1;exact⟨b,cur,e,fr,ag,ah,(bL b ah).trans aN,by rw[k8];exact bg⟩
    .obtain⟨aX,a6⟩:=h3 x aw (GO au);rw[aX]at au;obtain⟨b,cur,e,fr,ag,ah,aN,bg⟩:=h au;exact⟨b,cur,e,fr,ag,ah,(bL b ah).trans aN,by rw[a6];exact bg⟩
   |fn f cap=>
    simp only[c_.ct];rw[aO]at h⊢;obtain⟨arr,rfl,aq⟩:=h;exact⟨arr,rfl,ih.2 _ _ (by simp at cg;omega) aq⟩
   |_=>
    rw[GP (by rfl)];have bt:=(aO.cT (by rfl)).1 h;exact(aO.cT (by rfl)).2 ⟨bt.1,ax.frame bL _ _ _ tP bt.2⟩
  .cases ds with
   |nil=>rw[jv,eH];rw[eH]at h;exact h
   |cons d ds=>
    rw[jv,eH];rw[eH]at h;obtain⟨v,kp,rfl,ag,ah⟩:=h;simp at cg;exact⟨v,kp,rfl,ih.1 _ _ _ (by omega) (λ_ h=>h.elim) ag,ih.2 _ _ (by omega) ah⟩
theorem aO.void (h3:∀x,x≠t->(aB x).tree=true->aB x=s x/\k7 x=aC x) (pG:(aB t).plain=true):∀(n:Nat),
  (∀(d:I) (v:Value) (S:Nat->Prop),SizeOf.sizeOf d<=n->aO w F s aC d v S->aO w F aB k7 d v S)/\
  (∀(ds:List I) (vs:List Value),SizeOf.sizeOf ds<=n->eH w F s aC ds vs->eH w F aB k7 ds vs):=by
 intro n;induction n with
 |zero=>
  refine⟨λd v S cg=>?_,λds vs cg=>?_⟩
  .cases d<;>simp at cg<;>omega
  .cases ds<;>simp at cg<;>omega
 |succ n ih=>
  refine⟨λd v S cg h=>?_,λds vs cg h=>?_⟩
  .cases d with
   |hole=>rw[aO];trivial
   |h x q=>
    rw[aO]at h⊢;intro d aj au;by_cases aw:x=t
    .subst aw;rw[I.GM _ _ _ pG aj]at au;cases au
    .obtain⟨aX,a6⟩:=h3 x aw (iE aj (.inl au));rw[aX,a6];rw[aX]at aj;exact h d aj au
   |au x q=>
    rw[aO]at h⊢;intro d aj au;by_cases aw:x=t
    .subst aw;rw[I.K8 _ _ pG]at au;cases au
    .obtain⟨aX,a6⟩:=h3 x aw (iE aj (.inr au));rw[aX,a6];rw[aX]at aj au;exact h d aj au
   |ad x k=>
    rw[aO]at h⊢;intro au;by_cases aw:x=t
    .subst aw;rw[pG]at au;cases au
    .obtain⟨aX,a6⟩:=h3 x aw (GO au);rw[a6];rw[aX]at au;exact h au
   |fn f cap=>
    rw[aO]at h⊢;obtain⟨arr,rfl,aq⟩:=h;exact⟨arr,rfl,ih.2 _ _ (by simp at cg;omega) aq⟩
   |_=>exact(aO.cT (by rfl)).2 ((aO.cT (by rfl)).1 h)
  .cases ds with
   |nil=>rw[eH];rw[eH]at h;exact h
   |cons d ds=>
    rw[eH];rw[eH]at h;obtain⟨v,kp,rfl,ag,ah⟩:=h;simp at cg;exact⟨v,kp,rfl,ih.1 _ _ _ (by omega) ag,ih.2 _ _ (by omega) ah⟩
end
def GQ:Bool:=false
def Out (w w0:World):Prop:=w.output=w0.output/\(GQ=true->w0.drawn<=w.drawn)
theorem Out.trans {a b c:World} (h:Out a b) (ah:Out b c):Out a c:=⟨Eq.trans h.1 ah.1,λd=>Nat.le_trans (ah.2 d) (h.2 d)⟩
theorem Out.refl (w:World):Out w w:=⟨rfl,λ_=>Nat.le_refl _⟩
def GR (o:Obj):Prop:=∃aP cs e fr,o= .cells cs e fr/\cs[0]? =some aP/\(aP= .nilIface\/∃GS GU,aP= .iface GS GU)
def GV (o:Obj):Prop:=∃e fr,o= .cells ((List.range 20).map λi=>Value.int .u64 ((10^i:Nat):Int)).toArray e fr
def GW:List (Nat×(Obj->Prop)):=[(1,GR),(5,GV)]
def rq (w:World) (X:Nat->Prop):Prop:=∀p∈GW,p.1<w.heap.size/\¬X p.1/\∃o,w.heap[p.1]? =some o/\p.2 o
theorem rq.next {w aL:World} {X Y:Nat->Prop} (h:rq w X) (ae:w.heap.size<=aL.heap.size) (ad:∀b,b<w.heap.size->¬X b->aL.heap[b]? =w.heap[b]?) (hy:∀b,Y b->X b\/w.heap.size<=b):rq aL Y:=λp au=>by
 obtain⟨ag,ah,o,aN,bg⟩:=h p au;refine⟨Nat.lt_of_lt_of_le ag ae,λh=>?_,o,(ad _ ag ah).trans aN,bg⟩;rcases hy _ h with h|h
 .exact ah h
 .omega
structure bU (w0:World) (F0 X F:Nat->Prop) (S:Nat->Nat->Prop) (s:ar) (aC:Nat->Value) (w:World):Prop where
 hG:∀b,F0 b->F b
 h4:∀b,F b->F0 b\/X b\/w0.heap.size<=b
 fy:∀b,F b->b<w.heap.size
 e7:∀t b,S t b->b<w.heap.size
 gf:∀t b,S t b->¬F b
 fz:∀t u b,t≠u->S t b->¬S u b
 ey:∀t b,S t b->X b\/w0.heap.size<=b
 dF:∀t,aO w F s aC (s t) (aC t) (S t)
 old:∀b,b<w0.heap.size->¬X b->w.heap[b]? =w0.heap[b]?
 size:w0.heap.size<=w.heap.size
 os:w.os=w0.os
 tape:w.tape=w0.tape
 output:Out w w0
 hj:rq w0 X
section
variable {w0 w aL:World} {F0 X F:Nat->Prop} {S:Nat->Nat->Prop} {s:ar} {aC:Nat->Value}
theorem bU.grow (h:bU w0 F0 X F S s aC w) (ad:∀b,b<w.heap.size->aL.heap[b]? =w.heap[b]?) (ae:w.heap.size<=aL.heap.size)
  (ag:aL.os=w.os) (ah:aL.tape=w.tape) (aN:Out aL w):bU w0 F0 X F S s aC aL where
 hG:=h.hG
 h4:=h.h4
 fy:=λb bL=>Nat.lt_of_lt_of_le (h.fy b bL) ae
 e7:=λt b bL=>Nat.lt_of_lt_of_le (h.e7 t b bL) ae
 gf:=h.gf
 fz:=h.fz
 ey:=h.ey
 dF:=λt=>aO.frame (Sx:=S) (λb bL=>ad b (h.fy b bL)) (λ_ h=>h) (λx b b8=>ad b (h.e7 x b b8)) h.dF _ _ _ (λb b8=>ad b (h.e7 t b b8)) (h.dF t)
 old:=λb e6 k9=>(ad b (Nat.lt_of_lt_of_le e6 h.size)).trans (h.old b e6 k9)
 size:=Nat.le_trans h.size ae
 os:=ag.trans h.os
 tape:=ah.trans h.tape
 output:=aN.trans h.output
 hj:=h.hj
def gq (S:Nat->Nat->Prop) (t:Nat) (Sn:Nat->Prop):Nat->Nat->Prop:=λu b=>if u=t then Sn b else S u b
theorem yB (S:Nat->Nat->Prop) (t:Nat) (Sn:Nat->Prop):gq S t Sn t=Sn:=by funext b;simp[gq]
theorem yC (S:Nat->Nat->Prop) {t u:Nat} (Sn:Nat->Prop) (h:u≠t):gq S t Sn u=S u:=by funext b;simp[gq,h]
theorem bU.wk (h:bU w0 F0 X F S s aC w) {t:Nat} {d:I} {v:Value} (au:d.plain=true) (aj:aO w F s aC d v (λ_=>False)):
  bU w0 F0 X F (gq S t (λ_=>False)) (dD s t d) (dD aC t v) w where
 hG:=h.hG
 h4:=h.h4
 fy:=h.fy
 e7:=λu b ad=>by simp only[gq]at ad;split at ad;exact ad.elim;exact h.e7 u b ad
 gf:=λu b ad=>by simp only[gq]at ad;split at ad;exact ad.elim;exact h.gf u b ad
 fz:=λu x b dL ad aw=>by
  simp only[gq]at ad aw;split at ad
  .exact ad.elim
  .split at aw
   .exact aw.elim
   .exact h.fz u x b dL ad aw
 ey:=λu b ad=>by simp only[gq]at ad;split at ad;exact ad.elim;exact h.ey u b ad
 dF:=λu=>by
  have h3:∀x,x≠t->(dD s t d x).tree=true->dD s t d x=s x/\dD aC t v x=aC x:=λx aw _=>⟨j1 _ _ aw,j1 _ _ aw⟩
  have pG:(dD s t d t).plain=true:=by rw[mE];exact au
  by_cases hu:u=t
  .subst hu;rw[mE,mE,yB];exact(aO.void h3 pG _).1 _ _ _ (Nat.le_refl _) aj
  .rw[j1 _ _ hu,j1 _ _ hu,yC _ _ hu];exact(aO.void h3 pG _).1 _ _ _ (Nat.le_refl _) (h.dF u)
 old:=h.old
 size:=h.size
 os:=h.os
 tape:=h.tape
 output:=h.output
 hj:=h.hj
theorem bU.K_ (h:bU w0 F0 X F S s aC w) {t:Nat} {d:I} {v:Value} {Sn:Nat->Prop} (aj:d.tree=true) (ae:eA d v) (aT:ax w F d (cz v) Sn)
  (e6:∀b,Sn b->b<w.heap.size) (bL:∀b,Sn b->¬F b) (b8:∀u b,u≠t->Sn b->¬S u b) (ba:∀b,Sn b->X b\/w0.heap.size<=b):
  bU w0 F0 X F (gq S t Sn) (dD (mD t s) t d) (dD aC t v) w where
 hG:=h.hG
 h4:=h.h4
 fy:=h.fy
 e7:=λu b ad=>by simp only[gq]at ad;split at ad;exact e6 b ad;exact h.e7 u b ad
 gf:=λu b ad=>by simp only[gq]at ad;split at ad;exact bL b ad;exact h.gf u b ad
 fz:=λu x b dL ad aw=>by
  simp only[gq]at ad aw;split at ad
  .rename_i hu;rw[if_neg (λe=>dL (hu.trans e.symm))]at aw;exact b8 x b (λe=>dL (hu.trans e.symm)) ad aw
  .rename_i hu;split at aw
   .exact b8 u b hu aw ad
   .exact h.fz u x b dL ad aw
 ey:=λu b ad=>by simp only[gq]at ad;split at ad;exact ba b ad;exact h.ey u b ad
 dF:=λu=>by
  have h3:∀x,x≠t->(dD (mD t s) t d x).tree=true->dD (mD t s) t d x=s x/\dD aC t v x=aC x:=λx aw bj=>by
   rw[j1 _ _ aw]at bj⊢;exact⟨(Tz bj).2,j1 _ _ aw⟩
  by_cases hu:u=t
  .subst hu;rw[mE,mE,yB];exact(aO.cT aj).2 ⟨ae,aT⟩
  .rw[j1 _ _ hu,j1 _ _ hu,yC _ _ hu];exact(aO.da h3 _).1 _ _ _ (Nat.le_refl _) (h.dF u)
 old:=h.old
 size:=h.size
 os:=h.os
 tape:=h.tape
 output:=h.output
 hj:=h.hj
theorem sy (k:Nat) (q:List Nat) (bE x:I):(∃az gs,x= .agg az/\I.put (k::q) bE x= .agg gs)\/(∃az gs,x= .tuple az/\I.put (k::q) bE x= .tuple gs)\/
  (∃sz xs cK,x= .ao sz xs/\I.put (k::q) bE x= .ao sz cK)\/(∃y z,x= .bh y/\I.put (k::q) bE x= .bh z)\/I.put (k::q) bE x=x:=by
 cases x with
 |agg az=>simp only[I.put];split<;>exact .inl ⟨_,_,rfl,rfl⟩
 |tuple az=>simp only[I.put];split<;>exact .inr (.inl ⟨_,_,rfl,rfl⟩)
 |ao sz az=>simp only[I.put];split<;>exact .inr (.inr (.inl ⟨_,_,_,rfl,rfl⟩))
 |bh y=>cases k<;>exact .inr (.inr (.inr (.inl ⟨_,_,rfl,rfl⟩)))
 |_=>exact .inr (.inr (.inr (.inr rfl)))
theorem La {k:Nat} {q:List Nat} {bE x:I} {v:Value} (h:i7 x v):i7 (I.put (k::q) bE x) v:=by
 rcases sy k q bE x with⟨az,gs,rfl,e⟩|⟨az,gs,rfl,e⟩|⟨sz,xs,cK,rfl,e⟩|⟨y,z,rfl,e⟩|e<;>rw[e]<;>exact h
theorem Lb {k:Nat} {q:List Nat} {bE x:I} (h:∀vs,x≠.tuple vs):∀vs,I.put (k::q) bE x≠.tuple vs:=by
 rcases sy k q bE x with⟨az,gs,rfl,e⟩|⟨az,gs,rfl,e⟩|⟨sz,xs,cK,rfl,e⟩|⟨y,z,rfl,e⟩|e<;>rw[e]<;>first|exact h|(intro vs bt;cases bt;done)|exact(h _ rfl).elim
theorem yD {k:Nat} {q:List Nat} {d bE av:I} {v:Value} (h:eA av v) (aj:I.sub (k::q) av=some d) (ag:∀v,i7 d v->i7 bE v) (ah:(∀vs,d≠.tuple vs)->∀vs,bE≠.tuple vs) (aN:bE.wd=d.wd):
  eA (I.put (k::q) bE av) v:=by
 cases av with
 |tuple az=>
  simp only[I.sub]at aj;split at aj
  .rename_i x aw;simp only[I.put,aw];simp only[eA]at h⊢;obtain⟨arr,rfl,cg,lD⟩:=h;refine⟨arr,rfl,by simpa using cg,λj e y he hy=>?_⟩;rw[List.getElem?_set]at he;split at he
   .rename_i GX;subst GX;split at he
    .simp only[Option.some.injEq]at he;subst he;obtain⟨g1,g2,g3⟩:=lD k x y aw hy;refine⟨?_,?_,g3.trans (I.wi q x d bE aj aN).symm⟩
     .cases q with
      |nil=>
       simp only[I.sub,Option.some.injEq]at aj;subst aj;exact ag _ g1
      |cons cw q=>exact La g1
     .cases q with
      |nil=>
       simp only[I.sub,Option.some.injEq]at aj;subst aj;exact ah g2
      |cons cw q=>exact Lb g2
    .cases he
   .exact lD j e y he hy
  .cases aj
 |agg az=>simp only[I.put];split<;>exact h
 |ao sz az=>simp only[I.put];split<;>exact h
 |bh y=>cases k<;>exact h
 |_=>exact h
theorem GY {d:I} {v:Value} (h:i7 d v):i7 d.dz v:=by cases d<;>exact h
theorem Lc {s:ar} {x:Nat} {q:List Nat} {d:I} (aj:I.sub q (s x)=some d) (au:d.plain=false):
  (dD (iO x s) x (I.put q d.dz (s x)) x).plain=false->(s x).plain=false/\∀v,eA (s x) v->eA (dD (iO x s) x (I.put q d.dz (s x)) x) v:=by
  rw[mE];intro gE;cases q with
  |nil=>
   exfalso;have:∀d:I,d.dz.plain=true:=by
    intro d;have key:∀n,(∀d:I,SizeOf.sizeOf d<=n->d.dz.plain=true)/\(∀ds:List I,SizeOf.sizeOf ds<=n->I.ef (I.me ds)=true):=by
     intro n;induction n with
     |zero=>exact⟨λd cg=>by cases d<;>simp at cg<;>omega,λds cg=>by cases ds<;>simp at cg<;>omega⟩
     |succ n ih=>
      refine⟨λd cg=>?_,λds cg=>?_⟩
      .cases d with
       |agg az=>simp only[I.dz,I.plain];exact ih.2 _ (by simp at cg;omega)
       |tuple az=>simp only[I.dz,I.plain];exact ih.2 _ (by simp at cg;omega)
       |_=>rfl
      .cases ds with
       |nil=>rfl
       |cons d ds=>
        simp at cg;simp only[I.me,I.ef,Bool.and_eq_true];exact⟨ih.1 _ (by omega),ih.2 _ (by omega)⟩
    exact(key _).1 d (Nat.le_refl _)
   simp only[I.put]at gE;rw[this]at gE;cases gE
  |cons k q=>
   refine⟨?_,λv aT=>yD aT aj (λv h=>GY h) (λh vs e=>?_) (I.sx d)⟩
   .cases yE:(s x).plain with
    |false=>rfl
    |true=>rw[I.GM _ _ _ yE aj]at au;cases au
   .cases d<;>first|(exact h _ rfl)|(simp[I.dz]at e)
theorem bU.take (h:bU w0 F0 X F S s aC w) {x:Nat} {q:List Nat} {d:I} (aj:I.sub q (s x)=some d) (au:d.plain=false):
  ∃(Sn fP:Nat->Prop) (c6:List Value) (a:Option (Nat×Nat)),bU w0 F0 X F (gq S x Sn) (dD (iO x s) x (I.put q d.dz (s x))) aC w/\
   dP w q (s x) (cz (aC x)) none=some (d,c6,a)/\ax w F d c6 fP/\(∀b,fP b->S x b)/\(∀b,Sn b->S x b)/\(∀b,fP b->¬Sn b)/\
   (∀(bE:I) (v:Value) (aW:Nat->Prop),aO w F s aC bE v aW->aO w F (dD (iO x s) x (I.put q d.dz (s x))) aC (c_.ct x bE) v aW):=by
 have bj:=iE aj (.inl au);have aw:=h.dF x;rw[aO.cT bj]at aw;obtain⟨c6,a,eP,fP,g0,g1,g2,g3,g4,g5⟩:=ctx q (s x) (cz (aC x)) (S x) none d aw.2 aj;have k6:ax w F (I.put q d.dz (s x)) (cz (aC x)) eP:=by
  have gF:ax w F d.dz c6 (λ_=>False):=ax.dz _ _ _ _ g4;have oO:∀b,(eP b\/False)->eP b:=λb h=>h.elim id False.elim;rcases g5 with⟨l,r,aX,a6,aQ⟩|⟨b,cur,e,fr,l,r,aX,a6,aQ,cC,cF,cc⟩
  .have:=aQ w _ c6 _ (λ_ _=>rfl) (λ_ _=>rfl) (I.sx d) gF (λ_ h=>h.elim);rw[<-aX]at this;exact ax.mono (λ_ h=>h) _ _ _ _ oO this
  .have:=cc w _ c6 _ (λ_ _=>rfl) (λ_ _ _=>rfl) (by rw[aQ,<-cF]) (I.sx d) gF (λ_ h=>h.elim);exact ax.mono (λ_ h=>h) _ _ _ _ oO this
 have TA:eA (I.put q d.dz (s x)) (aC x)/\(I.put q d.dz (s x)).tree=true\/I.put q d.dz (s x)= .hole:=by
  cases q with
  |nil=>
   simp only[I.sub,Option.some.injEq]at aj;subst aj;simp only[I.put];cases ae:s x with
   |ao sz xs=>right;rfl
   |bh y=>right;rfl
   |eD y=>right;rfl
   |agg az=>left;rw[ae]at aw;exact⟨aw.1,rfl⟩
   |tuple az=>
    left;rw[ae]at aw;refine⟨?_,rfl⟩;simp only[eA,I.dz]at aw⊢;obtain⟨arr,e,cg,lD⟩:=aw.1;have hl:∀az:List I,I.me az=az.map I.dz:=by
     intro az;induction az with
     |nil=>rfl
     |cons a az ih=>simp[I.me,ih]
    refine⟨arr,e,by rw[hl];simpa using cg,λk gP y he hy=>?_⟩;rw[hl,List.getElem?_map]at he;cases ay:az[k]? with
    |none=>rw[ay]at he;cases he
    |some z=>
     rw[ay]at he;simp only[Option.map_some,Option.some.injEq]at he;subst he;obtain⟨g1,g2,g3⟩:=lD k z y ay hy;refine⟨GY g1,λvs e=>?_,g3.trans (I.sx z).symm⟩;cases z<;>first|(exact g2 _ rfl)|(simp[I.dz]at e)
   |_=>rw[ae]at au;simp[I.plain]at au
  |cons k q=>
   left;refine⟨yD aw.1 aj (λv h=>GY h) (λh vs e=>?_) (I.sx d),?_⟩
   .cases d<;>first|(exact h _ rfl)|(simp[I.dz]at e)
   .rcases sy k q d.dz (s x)with⟨az,gs,aX,e⟩|⟨az,gs,aX,e⟩|⟨sz,xs,cK,aX,e⟩|⟨y,z,aX,e⟩|e<;>rw[e]<;>first|rfl|exact bj
 refine⟨eP,fP,c6,a,?_,g0,g4,g2,g1,λb ag ah=>g3 b ah ag,?_⟩
 rotate_left
 .have h3:∀y,y≠x->(dD (iO x s) x (I.put q d.dz (s x)) y).tree=true->dD (iO x s) x (I.put q d.dz (s x)) y=s y/\aC y=aC y:=λy hy bj=>by
   rw[j1 _ _ hy]at bj⊢;exact⟨(BV bj).2,rfl⟩
  intro bE v aW h7;exact(aO.ct h3 rfl (Lc aj au) (λ_ _ _ _ _ _=>rfl) (λ_ _=>rfl) _).1 _ _ _ (Nat.le_refl _) (λ_ _=>rfl) h7
 have h3:∀y,y≠x->(dD (iO x s) x (I.put q d.dz (s x)) y).tree=true->dD (iO x s) x (I.put q d.dz (s x)) y=s y/\aC y=aC y:=λy hy bj=>by
  rw[j1 _ _ hy]at bj⊢;exact⟨(BV bj).2,rfl⟩
 have mY:=Lc (s:=s) (x:=x) aj au;constructor;case hG=>exact h.hG
 case h4=>exact h.h4
 case fy=>exact h.fy
 case e7=>exact λu b ad=>by simp only[gq]at ad;split at ad;exact h.e7 x b (g1 b ad);exact h.e7 u b ad
 case gf=>exact λu b ad=>by simp only[gq]at ad;split at ad;exact h.gf x b (g1 b ad);exact h.gf u b ad
 case fz=>
  intro u y b dL ad hy;simp only[gq]at ad hy;split at ad
  .rename_i hu;rw[if_neg (λe=>dL (hu.trans e.symm))]at hy;exact h.fz x y b (λe=>dL (hu.trans e)) (g1 b ad) hy
  .rename_i hu;split at hy
   .exact h.fz u x b hu ad (g1 b hy)
   .exact h.fz u y b dL ad hy
 case ey=>exact λu b ad=>by simp only[gq]at ad;split at ad;exact h.ey x b (g1 b ad);exact h.ey u b ad
 case dF=>
  intro u;by_cases hu:u=x
  .subst hu;rw[mE,yB];rcases TA with⟨aX,a6⟩|e
   .exact(aO.cT a6).2 ⟨aX,k6⟩
   .rw[e,aO];trivial
  .rw[j1 _ _ hu,yC _ _ hu];exact(aO.ct h3 rfl mY (λ_ _ _ _ _ _=>rfl) (λ_ _=>rfl) _).1 _ _ _ (Nat.le_refl _) (λ_ _=>rfl) (h.dF u)
 case old=>exact h.old
 case size=>exact h.size
 case os=>exact h.os
 case tape=>exact h.tape
 case output=>exact h.output
 case hj=>exact h.hj
theorem bU.store (h:bU w0 F0 X F S s aC w) {x:Nat} {q:List Nat} {d bE:I} (aj:I.sub q (s x)=some d) (aq:I.gd q (s x)=true)
  {gD:List Value} {Sn:Nat->Prop} (aT:ax w F bE gD Sn) (lC:bE.wd=d.wd)
  (e6:∀b,Sn b->b<w.heap.size) (bL:∀b,Sn b->¬F b) (b8:∀u b,Sn b->¬S u b) (ba:∀b,Sn b->X b\/w0.heap.size<=b):
  ∃(c6:List Value) (b:Nat) (l r:List Value) (cur:Array Value) (e:TypeId) (fr:Nat×Nat),dP w q (s x) (cz (aC x)) none=some (d,c6,some (b,l.length))/\
   w.heap[b]? =some (.cells cur e fr)/\cur.toList=l++(c6++r)/\nD fr cur.size/\
   ∀aL,aL.heap[b]? =some (.cells (l++(gD++r)).toArray e fr)->(∀c,c≠b->aL.heap[c]? =w.heap[c]?)->aL.heap.size=w.heap.size->aL.os=w.os->aL.tape=w.tape->Out aL w->
    ∃aW,bU w0 F0 X F aW (dD (iO x s) x (I.put q bE (s x))) aC aL:=by
 have bj:=iE aj (.inr aq);have aw:=h.dF x;rw[aO.cT bj]at aw;obtain⟨c6,a,eP,fP,g0,g1,g2,g3,g4,g5⟩:=ctx q (s x) (cz (aC x)) (S x) none d aw.2 aj;have TB:Deep w F q (s x) (cz (aC x)) d c6 a eP:=by
  rcases g5 with⟨l,r,aX,a6,aQ⟩|g5
  .exfalso;have lU:∀(q:List Nat) (av:I) (cs:List Value) (a0:Option (Nat×Nat)) (d:I) (c6:List Value),I.gd q av=true->dP w q av cs a0=some (d,c6,none)->False:=by
    intro q;induction q with
    |nil=>intro av cs a0 d c6 aq;simp[I.gd]at aq
    |cons k q ih=>
     have Ld:∀(q:List Nat) (av:I) (cs:List Value) (l:Nat×Nat) (d:I) (c6:List Value),dP w q av cs (some l)=some (d,c6,none)->False:=by
      intro q;induction q with
      |nil=>intro av cs l d c6 h;simp[dP]at h
      |cons k q BW=>
       intro av cs l d c6 h;cases av with
       |agg az=>rw[dP]at h;split at h;exact BW _ _ _ _ _ h;cases h
       |tuple az=>rw[dP]at h;split at h;exact BW _ _ _ _ _ h;cases h
       |ao sz xs=>simp only[dP]at h;split at h;exact BW _ _ _ _ _ h;cases h
       |bh y=>
        cases k with
        |zero=>rw[dP.eq_def]at h;simp only at h;split at h;exact BW _ _ _ _ _ h;cases h
        |succ k=>rw[show dP w ((k+1)::q) (.bh y) cs (some l)=none from rfl]at h;cases h
       |_=>simp[dP]at h
     intro av cs a0 d c6 aq h;cases av with
     |agg az=>
      simp only[I.gd]at aq;split at aq
      .rename_i y hy;simp only[dP,hy]at h;exact ih _ _ _ _ _ aq h
      .cases aq
     |tuple az=>
      simp only[I.gd]at aq;split at aq
      .rename_i y hy;simp only[dP,hy]at h;exact ih _ _ _ _ _ aq h
      .cases aq
     |ao sz xs=>simp only[dP]at h;split at h;exact Ld _ _ _ _ _ _ h;cases h
     |bh y=>
      cases k with
      |zero=>rw[dP.eq_def]at h;simp only at h;split at h;exact Ld _ _ _ _ _ _ h;cases h
      |succ k=>rw[show dP w ((k+1)::q) (.bh y) cs a0=none from rfl]at h;cases h
     |_=>simp[I.gd]at aq
   simp only[Option.map_none]at a6;subst a6;exact lU _ _ _ _ _ _ aq g0
  .exact g5
 obtain⟨b,cur,e,fr,l,r,rfl,a6,aQ,cC,cF,cc⟩:=TB;refine⟨c6,b,l,r,cur,e,fr,g0,aQ,cF,cC,?_⟩;intro aL mX oP eM GZ G0 tQ;have tR:S x b:=g1 _ a6;have qw:∀c,F c->aL.heap[c]? =w.heap[c]? :=λc aq=>oP c (by rintro rfl;exact h.gf x _ tR aq);have aGU:gD.length=c6.length:=by rw[ax.length _ _ _ aT,ax.length _ _ _ g4,lC]
 have k6:=cc aL bE gD Sn qw (λc _ dL=>oP c dL) mX lC
  (ax.frame qw _ _ _ (λc aq=>oP c (by rintro rfl;exact b8 x _ aq tR)) aT) (λc aq oO=>b8 x c aq (g1 _ oO))
 obtain⟨k,jw,rfl⟩:∃k jw,q=k::jw:=by
  cases q with
  |nil=>simp[I.gd]at aq
  |cons k q=>exact⟨k,q,rfl⟩
 have yF:∀v,eA (s x) v->eA (I.put (k::jw) bE (s x)) v:=by
  intro v aT;rcases sy k jw bE (s x)with⟨az,gs,aX,e⟩|⟨az,gs,aX,e⟩|⟨sz,xs,cK,aX,e⟩|⟨y,z,aX,e⟩|e
  .rw[e];rw[aX]at aT;exact aT
  ·
   rw[aX]at aT aj aq⊢;simp only[I.gd]at aq;split at aq
   .rename_i y hy;simp only[I.put,hy];cases jw with
    |nil=>simp[I.gd]at aq
    |cons cw gw=>
     simp only[eA]at aT⊢;obtain⟨arr,rfl,cg,lD⟩:=aT;refine⟨arr,rfl,by simpa using cg,λj e k_ he tS=>?_⟩;rw[List.getElem?_set]at he;split at he
     .rename_i GX;subst GX;split at he
      .simp only[Option.some.injEq]at he;subst he;obtain⟨g1,g2,g3⟩:=lD _ y k_ hy tS;simp only[I.sub,hy]at aj;exact⟨La g1,Lb g2,g3.trans (I.wi (cw::gw) y d bE aj lC).symm⟩
      .cases he
     .exact lD j e k_ he tS
   .cases aq
  .rw[e];rw[aX]at aT;exact aT
  .rw[e];rw[aX]at aT;exact aT
  .rw[e];exact aT
 have TC:(I.put (k::jw) bE (s x)).tree=true:=by
  rcases sy k jw bE (s x)with⟨az,gs,aX,e⟩|⟨az,gs,aX,e⟩|⟨sz,xs,cK,aX,e⟩|⟨y,z,aX,e⟩|e<;>rw[e]<;>first|rfl|exact bj
 let aB:=dD (iO x s) x (I.put (k::jw) bE (s x))
 have h3:∀y,y≠x->(aB y).tree=true->aB y=s y/\aC y=aC y:=λy hy bj=>by
  have e:aB y=ct x (s y):=j1 _ _ hy;rw[e]at bj⊢;exact⟨(BV bj).2,rfl⟩
 have mY:(aB x).plain=false->(s x).plain=false/\∀v,eA (s x) v->eA (aB x) v:=by
  intro _;refine⟨?_,?_⟩
  .cases yE:(s x).plain with
   |false=>rfl
   |true=>rw[I.K8 _ _ yE]at aq;cases aq
  .simp only[aB,mE];exact yF
 refine⟨gq S x (λc=>eP c\/Sn c),?_⟩;constructor;case hG=>exact h.hG
 case h4=>exact h.h4
 case fy=>exact λb ad=>by rw[eM];exact h.fy b ad
 case e7=>
  intro u c ad;rw[eM];simp only[gq]at ad;split at ad
  .rcases ad with ad|ad
   .exact h.e7 x c (g1 c ad)
   .exact e6 c ad
  .exact h.e7 u c ad
 case gf=>
  intro u c ad;simp only[gq]at ad;split at ad
  .rcases ad with ad|ad
   .exact h.gf x c (g1 c ad)
   .exact bL c ad
  .exact h.gf u c ad
 case fz=>
  intro u y c dL ad hy;simp only[gq]at ad hy;split at ad
  .rename_i hu;rw[if_neg (λe=>dL (hu.trans e.symm))]at hy;rcases ad with ad|ad
   .exact h.fz x y c (λe=>dL (hu.trans e)) (g1 c ad) hy
   .exact b8 y c ad hy
  .rename_i hu;split at hy
   .rcases hy with hy|hy
    .exact h.fz u x c hu ad (g1 c hy)
    .exact b8 u c hy ad
   .exact h.fz u y c dL ad hy
 case ey=>
  intro u c ad;simp only[gq]at ad;split at ad
  .rcases ad with ad|ad
   .exact h.ey x c (g1 c ad)
   .exact ba c ad
  .exact h.ey u c ad
 case dF=>
  intro u;by_cases hu:u=x
  .subst hu;rw[mE,yB];exact(aO.cT TC).2 ⟨yF _ aw.1,k6⟩
  .rw[j1 _ _ hu,yC _ _ hu];have dL:∀y c,y≠x->S y c->aL.heap[c]? =w.heap[c]? :=λy c hy aq=>oP c (by rintro rfl;exact h.fz y x c hy aq tR);refine(aO.ct h3 rfl mY (λy gw d2 hy iw yG=>?_) qw _).1 _ _ _ (Nat.le_refl _) (λc aq=>dL u c hu aq) (h.dF u);have yH:=h.dF y;rw[aO.cT (iE iw yG)]at yH;exact BU gw _ _ _ none d2 yH.2 iw (λc aq=>dL y c hy aq)
 case old=>
  intro c e6 k9;by_cases wm:c=b
  .subst wm;exfalso;rcases h.ey x c tR with gF|gF
   .exact k9 gF
   .omega
  .exact(oP c wm).trans (h.old c e6 k9)
 case size=>rw[eM];exact h.size
 case os=>exact GZ.trans h.os
 case tape=>exact G0.trans h.tape
 case output=>exact tQ.trans h.output
 case hj=>exact h.hj
end
end Go.c_
