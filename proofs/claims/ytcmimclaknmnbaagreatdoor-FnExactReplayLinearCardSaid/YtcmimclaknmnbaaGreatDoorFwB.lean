/- Part of a proof that a law returns true for every input. No condition. -/
import Derived.Test.YtcmimclaknmnbaaGreatDoorFwA
import Derived.Laws.AppendOwn
import Derived.Calls
namespace Go.cC
open List Option Go.IntKind Nat Or
inductive zI where
 |mp (es:anP)
 |re
 |hZ (T e:TypeId) (bs:anR)
inductive I where
 |hole
 |bool (b:Bool)
 |fj
 |int (k:IntKind) (n:Int)
 |str (s:anR)
 |dq
 |bd
 |slice (xs:List I)
 |ah (sz:Nat) (xs:List I)
 |ref (d:I)
 |aV (d:I)
 |agg (aC:List I)
 |tuple (vs:List I)
 |fn (f:FuncId) (cap:List I)
 |h (x:Nat) (q:anU)
 |al (x:Nat) (q:anU)
 |R (x:Nat) (k:Nat)
 |cc (o:zI)
 |bm (f:FuncId) (cap:List I)
 |cX (d:I)
 deriving Inhabited
abbrev anZ:=List I
abbrev anY:=List (Nat×I)
mutual
def I.wd:I->Nat
 | .agg aC=>I.dR aC
 | .tuple aC=>I.dR aC
 |_=>1
def I.dR:anZ->Nat
 |[]=>0
 |d::ds=>d.wd+I.dR ds
end
def Rd (w:World) (b o:Nat) (cs:anX):Prop:=∀j c,cs[j]? =some c->w.cell? ⟨b,o+j,none⟩=some c
def lH (fr:Nat×Nat) (n:Nat):Prop:=∀o,o<n->¬(fr.1<=o/\o<fr.2)
theorem lH.le {fr:Nat×Nat} {m n:Nat} (h:lH fr n) (hm:m<=n):lH fr m:=λo a1=>h o (Nat.lt_of_lt_of_le a1 hm)
theorem lH.low {fr:Nat×Nat} {n k:Nat} (h:lH fr (n+k)):lH fr n:=h.le (le_add_right _ _)
def Value.eJ:Value->Bool
 | .agg _=>false
 | .tuple _=>false
 |_=>true
def I.single:I->Bool
 | .agg _=>false
 | .tuple _=>false
 | .hole=>false
 |_=>true
def I.one:I->Bool
 | .agg _=>false
 | .tuple _=>false
 |_=>true
def mN (w:World):zI->anX->(Nat->Prop)->Prop
 | .mp es,cs,S=>∃r ms oe,cs=[.map (some r)]/\S r/\w.heap[r]? =some (.map ms oe)/\ms.toList.map (λe=>(e.key,e.val))=es.map (λe=>(.string ⟨⟨e.1⟩⟩,.bool e.2))
 | .re,cs,_=>cs=[.map none]
 | .hZ T e bs,cs,S=>∃b a u6,cs=[.pointer (some ⟨b,0,none⟩)]/\S b/\w.heap[b]? =some (.cells #[a,u6] T (0,0))/\(a= .pointer none\/a= .pointer (some ⟨b,0,none⟩))/\
   ((bs=[]/\u6= .slice none 0 0)\/
     ∃g cap cur,u6= .slice (some ⟨g,0,none⟩) bs.length cap/\S g/\g≠b/\w.heap[g]? =some (.cells cur e (0,0))/\bs.length<=cap/\cap<=maxLen/\cur.size=cap/\
      cur.toList.take bs.length=bs.map λx=>.int .u8 x.toNat)
theorem mN.frame {w aq:World}:∀{o:zI} {cs:anX} {S:Nat->Prop},(∀b,S b->aq.heap[b]? =w.heap[b]?)->mN w o cs S->mN aq o cs S
 | .mp _,_,_,bE,⟨r,ms,oe,h1,ab,ay,aT⟩=>⟨r,ms,oe,h1,ab,(bE _ ab).trans ay,aT⟩
 | .re,_,_,_,h=>h
 | .hZ _ _ _,_,_,bE,⟨b,a,u6,h1,ab,ay,aT,bp⟩=>⟨b,a,u6,h1,ab,(bE _ ab).trans ay,aT,bp.imp (λh=>h) λ⟨g,cap,cur,tx,i2,i3,i4,i5⟩=>⟨g,cap,cur,tx,i2,i3,(bE _ i2).trans i4,i5⟩⟩
theorem mN.mono {w:World}:∀{o:zI} {cs:anX} {S aJ:Nat->Prop},(∀b,S b->aJ b)->mN w o cs S->mN w o cs aJ
 | .mp _,_,_,_,bE,⟨r,ms,oe,h1,ab,ay⟩=>⟨r,ms,oe,h1,bE _ ab,ay⟩
 | .re,_,_,_,_,h=>h
 | .hZ _ _ _,_,_,_,bE,⟨b,a,u6,h1,ab,ay,aT,bp⟩=>⟨b,a,u6,h1,bE _ ab,ay,aT,bp.imp (λh=>h) λ⟨g,cap,cur,tx,i2,i3⟩=>⟨g,cap,cur,tx,bE _ i2,i3⟩⟩
theorem mN.one {w:World}:∀{o:zI} {cs:anX} {S:Nat->Prop},mN w o cs S->∃v,Value.eJ v=true/\cs=[v]
 | .mp _,_,_,⟨_,_,_,h,_⟩=>⟨_,rfl,h⟩
 | .re,_,_,h=>⟨_,rfl,h⟩
 | .hZ _ _ _,_,_,⟨_,_,_,h,_⟩=>⟨_,rfl,h⟩
mutual
def ar (w:World) (F:Nat->Prop):I->anX->(Nat->Prop)->Prop
 | .hole,cs,_=>∃v,Value.eJ v=true/\cs=[v]
 | .bool b,cs,_=>cs=[.bool b]
 | .fj,cs,_=>∃b,cs=[.bool b]
 | .int k n,cs,_=>cs=[.int k n]
 | .str s,cs,_=>cs=[.string ⟨⟨s⟩⟩]
 | .dq,cs,_=>cs=[.pointer none]
 | .bd,cs,_=>cs=[.slice none 0 0]
 | .slice xs,cs,_=>(xs=[]/\∃a c,cs=[.slice a 0 c]/\c<=maxLen/\(a=none->c=0))\/
   ∃b o cap eh sz,cs=[.slice (some ⟨b,o,none⟩) xs.length cap]/\F b/\xs.length<=cap/\cap<=maxLen/\(∀d∈xs,d.wd=sz)/\
    Rd w b o eh/\aW w F xs eh (λ_=>False)
 | .ah sz xs,cs,S=>(xs=[]/\∃a,cs=[.slice a 0 0])\/
   ∃b cap cur e fr aJ,cs=[.slice (some ⟨b,0,none⟩) xs.length cap]/\S b/\w.heap[b]? =some (.cells cur e fr)/\lH fr (cur.size+(sz-1))/\
    xs.length<=cap/\cap<=maxLen/\cur.size=cap*sz/\(∀d∈xs,d.wd=sz)/\aW w F xs (cur.toList.take (xs.length*sz)) aJ/\(∀c,aJ c->S c)/\¬aJ b
 | .ref d,cs,_=>∃b o eh,cs=[.pointer (some ⟨b,o,none⟩)]/\F b/\Rd w b o eh/\ar w F d eh (λ_=>False)
 | .aV d,cs,S=>∃b cur e fr aJ,cs=[.pointer (some ⟨b,0,none⟩)]/\S b/\w.heap[b]? =some (.cells cur e fr)/\lH fr cur.size/\
   ar w F d cur.toList aJ/\(∀c,aJ c->S c)/\¬aJ b
 | .agg aC,cs,S=>aW w F aC cs S
 | .tuple aC,cs,S=>aW w F aC cs S
 | .fn f caps,cs,_=>∃arr:Array Value,cs=[.func (.func f) #[] arr]/\(∀d∈caps,d.single=true)/\aW w F caps arr.toList (λ_=>False)
 | .h _ _,_,_=>False
 | .al _ _,_,_=>False
 | .R _ _,_,_=>False
 | .cc o,cs,S=>mN w o cs S
 | .bm f caps,cs,S=>∃arr:Array Value,cs=[.func (.func f) #[] arr]/\(∀d∈caps,d.one=true)/\aW w F caps arr.toList S
 | .cX d,cs,S=>∃b v e fr,cs=[.pointer (some ⟨b,0,none⟩)]/\F b/\w.heap[b]? =some (.cells #[v] e fr)/\ar w F d [v] S
def aW (w:World) (F:Nat->Prop):anZ->anX->(Nat->Prop)->Prop
 |[],cs,_=>cs=[]
 |d::ds,cs,S=>∃c1 c2 bR cH,cs=c1++c2/\ar w F d c1 bR/\aW w F ds c2 cH/\(∀b,bR b->S b)/\(∀b,cH b->S b)/\(∀b,bR b->¬cH b)
end
theorem cell?_of_block {w aq:World} {b:Nat} (h:aq.heap[b]? =w.heap[b]?) (o:Nat):aq.cell? ⟨b,o,none⟩=w.cell? ⟨b,o,none⟩:=by
 simp[World.cell?,h]
theorem Rd.frame {w aq:World} {b o:Nat} {cs:anX} (h:aq.heap[b]? =w.heap[b]?) (ax:Rd w b o cs):Rd aq b o cs:=
 λj c ai=>(cell?_of_block h _).trans (ax j c ai)
mutual
theorem ar.frame {w aq:World} {F:Nat->Prop} (a8:∀b,F b->aq.heap[b]? =w.heap[b]?):
  ∀(d:I) (cs:anX) (S:Nat->Prop),(∀b,S b->aq.heap[b]? =w.heap[b]?)->ar w F d cs S->ar aq F d cs S
 | .hole,_,_,_,h=>h
 | .bool _,_,_,_,h=>h
 | .fj,_,_,_,h=>h
 | .int _ _,_,_,_,h=>h
 | .str _,_,_,_,h=>h
 | .dq,_,_,_,h=>h
 | .bd,_,_,_,h=>h
 | .slice xs,cs,S,bE,h=>by
   rw[ar]at h⊢;rcases h with h|⟨b,o,cap,eh,sz,h1,ab,ay,aT,bp,bX,bM⟩
   .exact .inl h
   .exact .inr ⟨b,o,cap,eh,sz,h1,ab,ay,aT,bp,bX.frame (a8 _ ab),aW.frame a8 xs _ _ (λ_ h=>h.elim) bM⟩
 | .ah sz xs,cs,S,bE,h=>by
   rw[ar]at h⊢;rcases h with h|⟨b,cap,cur,e,fr,aJ,h1,ab,ay,aT,bp,bX,bM,dy,hG,gW,lI⟩
   .exact .inl h
   .exact .inr ⟨b,cap,cur,e,fr,aJ,h1,ab,(bE _ ab).trans ay,aT,bp,bX,bM,dy,aW.frame a8 xs _ _ (λc ai=>bE _ (gW _ ai)) hG,gW,lI⟩
 | .ref d,cs,S,bE,h=>by
   rw[ar]at h⊢;obtain⟨b,o,eh,h1,ab,ay,aT⟩:=h;exact⟨b,o,eh,h1,ab,ay.frame (a8 _ ab),ar.frame a8 d _ _ (λ_ h=>h.elim) aT⟩
 | .aV d,cs,S,bE,h=>by
   rw[ar]at h⊢;obtain⟨b,cur,e,fr,aJ,h1,ab,ay,aT,bp,bX,bM⟩:=h;exact⟨b,cur,e,fr,aJ,h1,ab,(bE _ ab).trans ay,aT,ar.frame a8 d _ _ (λc ai=>bE _ (bX _ ai)) bp,bX,bM⟩
 | .agg aC,cs,S,bE,h=>by rw[ar]at h⊢;exact aW.frame a8 aC _ _ bE h
 | .tuple aC,cs,S,bE,h=>by rw[ar]at h⊢;exact aW.frame a8 aC _ _ bE h
 | .fn _ caps,cs,S,bE,h=>by
   rw[ar]at h⊢;obtain⟨arr,h1,ab,ay⟩:=h;exact⟨arr,h1,ab,aW.frame a8 caps _ _ (λ_ h=>h.elim) ay⟩
 | .h _ _,_,_,_,h=>h
 | .al _ _,_,_,_,h=>h
 | .R _ _,_,_,_,h=>h
 | .cc _,_,_,bE,h=>mN.frame bE h
 | .bm _ caps,cs,S,bE,h=>by
   rw[ar]at h⊢;obtain⟨arr,h1,ab,ay⟩:=h;exact⟨arr,h1,ab,aW.frame a8 caps _ _ bE ay⟩
 | .cX d,cs,S,bE,h=>by
   rw[ar]at h⊢;obtain⟨b,v,e,fr,h1,ab,ay,aT⟩:=h;exact⟨b,v,e,fr,h1,ab,(a8 _ ab).trans ay,ar.frame a8 d _ _ bE aT⟩
theorem aW.frame {w aq:World} {F:Nat->Prop} (a8:∀b,F b->aq.heap[b]? =w.heap[b]?):
  ∀(ds:anZ) (cs:anX) (S:Nat->Prop),(∀b,S b->aq.heap[b]? =w.heap[b]?)->aW w F ds cs S->aW aq F ds cs S
 |[],_,_,_,h=>h
 |d::ds,cs,S,bE,h=>by
  rw[aW]at h⊢;obtain⟨c1,c2,bR,cH,h1,ab,ay,aT,bp,bX⟩:=h;exact⟨c1,c2,bR,cH,h1,ar.frame a8 d _ _ (λb R=>bE _ (aT _ R)) ab,aW.frame a8 ds _ _ (λb R=>bE _ (bp _ R)) ay,aT,bp,bX⟩
end
mutual
theorem ar.mono {w:World} {F br:Nat->Prop} (a8:∀b,F b->br b):
  ∀(d:I) (cs:anX) (S aJ:Nat->Prop),(∀b,S b->aJ b)->ar w F d cs S->ar w br d cs aJ
 | .hole,_,_,_,_,h=>h
 | .bool _,_,_,_,_,h=>h
 | .fj,_,_,_,_,h=>h
 | .int _ _,_,_,_,_,h=>h
 | .str _,_,_,_,_,h=>h
 | .dq,_,_,_,_,h=>h
 | .bd,_,_,_,_,h=>h
 | .slice xs,cs,S,_,bE,h=>by
   rw[ar]at h⊢;rcases h with h|⟨b,o,cap,eh,sz,h1,ab,ay,aT,bp,bX,bM⟩
   .exact .inl h
   .exact .inr ⟨b,o,cap,eh,sz,h1,a8 _ ab,ay,aT,bp,bX,aW.mono a8 xs _ _ _ (λ_ h=>h) bM⟩
 | .ah sz xs,cs,S,_,bE,h=>by
   rw[ar]at h⊢;rcases h with h|⟨b,cap,cur,e,fr,aJ,h1,ab,ay,aT,bp,bX,bM,dy,hG,gW,lI⟩
   .exact .inl h
   .exact .inr ⟨b,cap,cur,e,fr,aJ,h1,bE _ ab,ay,aT,bp,bX,bM,dy,aW.mono a8 xs _ _ _ (λ_ h=>h) hG,λc ai=>bE _ (gW _ ai),lI⟩
 | .ref d,cs,S,_,bE,h=>by
   rw[ar]at h⊢;obtain⟨b,o,eh,h1,ab,ay,aT⟩:=h;exact⟨b,o,eh,h1,a8 _ ab,ay,ar.mono a8 d _ _ _ (λ_ h=>h) aT⟩
 | .aV d,cs,S,_,bE,h=>by
   rw[ar]at h⊢;obtain⟨b,cur,e,fr,aJ,h1,ab,ay,aT,bp,bX,bM⟩:=h;exact⟨b,cur,e,fr,aJ,h1,bE _ ab,ay,aT,ar.mono a8 d _ _ _ (λ_ h=>h) bp,λc ai=>bE _ (bX _ ai),bM⟩
 | .agg aC,cs,S,_,bE,h=>by rw[ar]at h⊢;exact aW.mono a8 aC _ _ _ bE h
 | .tuple aC,cs,S,_,bE,h=>by rw[ar]at h⊢;exact aW.mono a8 aC _ _ _ bE h
 | .fn _ caps,cs,S,_,bE,h=>by
   rw[ar]at h⊢;obtain⟨arr,h1,ab,ay⟩:=h;exact⟨arr,h1,ab,aW.mono a8 caps _ _ _ (λ_ h=>h) ay⟩
 | .h _ _,_,_,_,_,h=>h
 | .al _ _,_,_,_,_,h=>h
 | .R _ _,_,_,_,_,h=>h
 | .cc _,_,_,_,bE,h=>mN.mono bE h
 | .bm _ caps,cs,S,_,bE,h=>by
   rw[ar]at h⊢;obtain⟨arr,h1,ab,ay⟩:=h;exact⟨arr,h1,ab,aW.mono a8 caps _ _ _ bE ay⟩
 | .cX d,cs,S,_,bE,h=>by
   rw[ar]at h⊢;obtain⟨b,v,e,fr,h1,ab,ay,aT⟩:=h;exact⟨b,v,e,fr,h1,a8 _ ab,ay,ar.mono a8 d _ _ _ bE aT⟩
theorem aW.mono {w:World} {F br:Nat->Prop} (a8:∀b,F b->br b):
  ∀(ds:anZ) (cs:anX) (S aJ:Nat->Prop),(∀b,S b->aJ b)->aW w F ds cs S->aW w br ds cs aJ
 |[],_,_,_,_,h=>h
 |d::ds,cs,S,_,bE,h=>by
  rw[aW]at h⊢;obtain⟨c1,c2,bR,cH,h1,ab,ay,aT,bp,bX⟩:=h;exact⟨c1,c2,bR,cH,h1,ar.mono a8 d _ _ _ (λ_ h=>h) ab,aW.mono a8 ds _ _ _ (λ_ h=>h) ay,λb R=>bE _ (aT _ R),λb R=>bE _ (bp _ R),bX⟩
end
mutual
theorem ar.length {w:World} {F:Nat->Prop}:∀(d:I) (cs:anX) (S:Nat->Prop),ar w F d cs S->cs.length=d.wd
 | .hole,cs,S,h=>by rw[ar]at h;obtain⟨v,_,rfl⟩:=h;rfl
 | .bool _,cs,S,h=>by rw[ar]at h;subst h;rfl
 | .fj,cs,S,h=>by rw[ar]at h;obtain⟨b,rfl⟩:=h;rfl
 | .int _ _,cs,S,h=>by rw[ar]at h;subst h;rfl
 | .str _,cs,S,h=>by rw[ar]at h;subst h;rfl
 | .dq,cs,S,h=>by rw[ar]at h;subst h;rfl
 | .bd,cs,S,h=>by rw[ar]at h;subst h;rfl
 | .slice xs,cs,S,h=>by
   rw[ar]at h;rcases h with⟨_,a,c,rfl,_⟩|⟨b,o,cap,eh,sz,rfl,_⟩<;>rfl
 | .ah sz xs,cs,S,h=>by
   rw[ar]at h;rcases h with⟨_,a,rfl⟩|⟨b,cap,cur,e,fr,aJ,rfl,_⟩<;>rfl
 | .ref d,cs,S,h=>by rw[ar]at h;obtain⟨b,o,eh,rfl,_⟩:=h;rfl
 | .aV d,cs,S,h=>by rw[ar]at h;obtain⟨b,o,eh,_,_,rfl,_⟩:=h;rfl
 | .agg aC,cs,S,h=>by rw[ar]at h;exact aW.length aC _ _ h
 | .tuple aC,cs,S,h=>by rw[ar]at h;exact aW.length aC _ _ h
 | .fn _ _,cs,S,h=>by rw[ar]at h;obtain⟨arr,rfl,_⟩:=h;rfl
 | .h _ _,cs,S,h=>by rw[ar]at h;exact h.elim
 | .al _ _,cs,S,h=>by rw[ar]at h;exact h.elim
 | .R _ _,cs,S,h=>by rw[ar]at h;exact h.elim
 | .cc _,cs,S,h=>by rw[ar]at h;obtain⟨v,_,rfl⟩:=mN.one h;rfl
 | .bm _ _,cs,S,h=>by rw[ar]at h;obtain⟨arr,rfl,_⟩:=h;rfl
 | .cX _,cs,S,h=>by rw[ar]at h;obtain⟨b,v,e,fr,rfl,_⟩:=h;rfl
theorem aW.length {w:World} {F:Nat->Prop}:∀(ds:anZ) (cs:anX) (S:Nat->Prop),aW w F ds cs S->cs.length=I.dR ds
 |[],cs,S,h=>by rw[aW]at h;subst h;rfl
 |d::ds,cs,S,h=>by
  rw[aW]at h;obtain⟨c1,c2,bR,cH,rfl,ab,ay,_⟩:=h;rw[length_append,ar.length d _ _ ab,aW.length ds _ _ ay,I.dR]
end
mutual
def I.share:I->I
 | .ah _ xs=>.slice (I.shares xs)
 | .aV d=>.ref d.share
 | .slice xs=>.slice (I.shares xs)
 | .ref d=>.ref d.share
 | .agg aC=>.agg (I.shares aC)
 | .tuple aC=>.tuple (I.shares aC)
 | .cc _=>.hole
 | .bm _ _=>.hole
 | .cX _=>.hole
 |d=>d
def I.shares:anZ->anZ
 |[]=>[]
 |d::ds=>d.share::I.shares ds
end
theorem I.tz (ds:anZ):I.shares ds=ds.map I.share:=by
 induction ds with
 |nil=>rfl
 |cons d ds ih=>simp[I.shares,ih]
mutual
theorem I.CT:∀d:I,d.share.wd=d.wd
 | .hole=>rfl
 | .bool _=>rfl
 | .fj=>rfl
 | .int _ _=>rfl
 | .str _=>rfl
 | .dq=>rfl
 | .bd=>rfl
 | .slice _=>rfl
 | .ah _ _=>rfl
 | .ref _=>rfl
 | .aV _=>rfl
 | .agg aC=>by simp only[I.share,I.wd];exact I.Gn aC
 | .tuple aC=>by simp only[I.share,I.wd];exact I.Gn aC
 | .fn _ _=>rfl
 | .h _ _=>rfl
 | .al _ _=>rfl
 | .R _ _=>rfl
 | .cc _=>rfl
 | .bm _ _=>rfl
 | .cX _=>rfl
theorem I.Gn:∀ds:anZ,I.dR (I.shares ds)=I.dR ds
 |[]=>rfl
 |d::ds=>by simp only[I.shares,I.dR];rw[I.CT d,I.Gn ds]
end
theorem xk {w:World} {b:Nat} {cur:Array Value} {e:TypeId} {fr:Nat×Nat} (h:w.heap[b]? =some (.cells cur e fr)) (n:Nat):Rd w b 0 (cur.toList.take n):=by
 intro j c ai;rw[getElem?_take]at ai;split at ai
 .simp[World.cell?,h];simpa using ai
 .cases ai
mutual
theorem ar.shared {w:World} {F br:Nat->Prop} (a8:∀b,F b->br b):
  ∀(d:I) (cs:anX) (S:Nat->Prop),(∀b,S b->br b)->ar w F d cs S->ar w br d.share cs (λ_=>False)
 | .hole,_,_,_,h=>h
 | .bool _,_,_,_,h=>h
 | .fj,_,_,_,h=>h
 | .int _ _,_,_,_,h=>h
 | .str _,_,_,_,h=>h
 | .dq,_,_,_,h=>h
 | .bd,_,_,_,h=>h
 | .slice xs,cs,S,bE,h=>by
   rw[I.share,ar];rw[ar]at h;rcases h with⟨rfl,a,c,rfl,ai⟩|⟨b,o,cap,eh,sz,h1,ab,ay,aT,bp,bX,bM⟩
   .exact .inl ⟨rfl,a,c,rfl,ai⟩
   .refine .inr ⟨b,o,cap,eh,sz,?_,a8 _ ab,?_,aT,?_,bX,aW.shared a8 xs _ _ (λ_ h=>h.elim) bM⟩
    .simpa [I.tz]using h1
    .simpa [I.tz]using ay
    .intro d ae;rw[I.tz]at ae;obtain⟨bf,gq,rfl⟩:=mem_map.1 ae;rw[I.CT];exact bp _ gq
 | .ah sz xs,cs,S,bE,h=>by
   rw[I.share,ar];rw[ar]at h;rcases h with⟨rfl,a,rfl⟩|⟨b,cap,cur,e,fr,aJ,h1,ab,ay,aT,bp,bX,bM,dy,hG,gW,lI⟩
   .exact .inl ⟨rfl,a,0,rfl,zero_le _,λ_=>rfl⟩
   .refine .inr ⟨b,0,cap,_,sz,?_,bE _ ab,?_,bX,?_,xk ay _,aW.shared a8 xs _ _ (λc ai=>bE _ (gW _ ai)) hG⟩
    .simpa [I.tz]using h1
    .simpa [I.tz]using bp
    .intro d ae;rw[I.tz]at ae;obtain⟨bf,gq,rfl⟩:=mem_map.1 ae;rw[I.CT];exact dy _ gq
 | .ref d,cs,S,bE,h=>by
   rw[I.share,ar];rw[ar]at h;obtain⟨b,o,eh,h1,ab,ay,aT⟩:=h;exact⟨b,o,eh,h1,a8 _ ab,ay,ar.shared a8 d _ _ (λ_ h=>h.elim) aT⟩
 | .aV d,cs,S,bE,h=>by
   rw[I.share,ar];rw[ar]at h;obtain⟨b,cur,e,fr,aJ,h1,ab,ay,aT,bp,bX,bM⟩:=h;refine⟨b,0,cur.toList,h1,bE _ ab,?_,ar.shared a8 d _ _ (λc ai=>bE _ (bX _ ai)) bp⟩;have:=xk ay cur.toList.length
   rwa [take_length]at this
 | .agg aC,cs,S,bE,h=>by rw[I.share,ar];rw[ar]at h;exact aW.shared a8 aC _ _ bE h
 | .tuple aC,cs,S,bE,h=>by rw[I.share,ar];rw[ar]at h;exact aW.shared a8 aC _ _ bE h
 | .fn f caps,cs,S,bE,h=>by
   show ar w br (.fn f caps) cs _;rw[ar]at h⊢;obtain⟨arr,h1,ab,ay⟩:=h;exact⟨arr,h1,ab,aW.mono a8 caps _ _ _ (λ_ h=>h) ay⟩
 | .h _ _,_,_,_,h=>h
 | .al _ _,_,_,_,h=>h
 | .R _ _,_,_,_,h=>h
 | .cc _,cs,S,bE,h=>by rw[ar]at h;rw[I.share,ar];exact mN.one h
 | .bm _ _,cs,S,bE,h=>by rw[ar]at h;obtain⟨arr,rfl,_⟩:=h;rw[I.share,ar];exact⟨_,rfl,rfl⟩
 | .cX _,cs,S,bE,h=>by rw[ar]at h;obtain⟨b,v,e,fr,rfl,_⟩:=h;rw[I.share,ar];exact⟨_,rfl,rfl⟩
theorem aW.shared {w:World} {F br:Nat->Prop} (a8:∀b,F b->br b):
  ∀(ds:anZ) (cs:anX) (S:Nat->Prop),(∀b,S b->br b)->aW w F ds cs S->aW w br (I.shares ds) cs (λ_=>False)
 |[],_,_,_,h=>h
 |d::ds,cs,S,bE,h=>by
  simp only[I.shares];rw[aW]at h⊢;obtain⟨c1,c2,bR,cH,h1,ab,ay,aT,bp,bX⟩:=h;exact⟨c1,c2,_,_,h1,ar.shared a8 d _ _ (λb R=>bE _ (aT _ R)) ab,aW.shared a8 ds _ _ (λb R=>bE _ (bp _ R)) ay,λ_ h=>h,λ_ h=>h,λ_ h=>h.elim⟩
end
def I.sub:anU->I->Option I
 |[],d=>some d
 |k::q,.agg aC=>match aC[k]? with
  |some d=>I.sub q d
  |none=>none
 |k::q,.tuple aC=>match aC[k]? with
  |some d=>I.sub q d
  |none=>none
 |i::q,.ah _ xs=>match xs[i]? with
  |some d=>I.sub q d
  |none=>none
 |0::q,.aV d=>I.sub q d
 |_::_,_=>none
def I.put:anU->I->I->I
 |[],n,_=>n
 |k::q,n,.agg aC=>match aC[k]? with
  |some d=>.agg (aC.set k (I.put q n d))
  |none=>.agg aC
 |k::q,n,.tuple aC=>match aC[k]? with
  |some d=>.tuple (aC.set k (I.put q n d))
  |none=>.tuple aC
 |i::q,n,.ah sz xs=>match xs[i]? with
  |some d=>.ah sz (xs.set i (I.put q n d))
  |none=>.ah sz xs
 |0::q,n,.aV d=>.aV (I.put q n d)
 |_::_,_,d=>d
def oT (w:World) (b o n:Nat):anX:=(range n).map λj=>(w.cell? ⟨b,o+j,none⟩).getD undef
theorem Rd.oT {w:World} {b o:Nat} {cs:anX} (h:Rd w b o cs):oT w b o cs.length=cs:=by
 unfold cC.oT;apply ext_getElem?;intro i;rw[getElem?_map];by_cases ak:i<cs.length
 .have:cs[i]? =some cs[i]:=getElem?_eq_getElem ak;simp[ak,h i _ this]
 .simp[ak]
def c6 (w:World):anU->I->anX->Option (Nat×Nat)->Option (I×anX×Option (Nat×Nat))
 |[],d,cs,a=>some (d,cs,a)
 |k::q,.agg aC,cs,a=>match aC[k]? with
  |some d=>c6 w q d ((cs.drop (I.dR (aC.take k))).take d.wd) (a.map λl=>(l.1,l.2+I.dR (aC.take k)))
  |none=>none
 |k::q,.tuple aC,cs,a=>match aC[k]? with
  |some d=>c6 w q d ((cs.drop (I.dR (aC.take k))).take d.wd) (a.map λl=>(l.1,l.2+I.dR (aC.take k)))
  |none=>none
 |i::q,.ah sz xs,cs,_=>match xs[i]?,cs with
  |some d,[.slice (some ⟨b,_,_⟩) _ _]=>c6 w q d (oT w b (i*sz) sz) (some (b,i*sz))
  |_,_=>none
 |0::q,.aV d,cs,_=>match cs with
  |[.pointer (some ⟨b,_,_⟩)]=>c6 w q d (oT w b 0 d.wd) (some (b,0))
  |_=>none
 |_::_,_,_,_=>none
theorem u7 (c1 fB c2:anX) (n m:Nat) (h1:c1.length=n) (ab:fB.length=m):((c1++(fB++c2)).drop n).take m=fB:=by
 rw[drop_left' h1,take_left' ab]
theorem aW.pick {w:World} {F:Nat->Prop}:∀(ds:anZ) (cs:anX) (S:Nat->Prop) (k:Nat) (d:I),
  aW w F ds cs S->ds[k]? =some d->∃(c1 fB c2:anX) (bR hS:Nat->Prop),cs=c1++(fB++c2)/\c1.length=I.dR (ds.take k)/\
   (∀b,bR b->S b)/\(∀b,hS b->S b)/\(∀b,bR b->¬hS b)/\ar w F d fB hS/\
   ∀(aq:World) (bf:I) (u9:anX) (aJ:Nat->Prop),(∀b,F b->aq.heap[b]? =w.heap[b]?)->(∀b,bR b->aq.heap[b]? =w.heap[b]?)->
    ar aq F bf u9 aJ->(∀b,aJ b->¬bR b)->aW aq F (ds.set k bf) (c1++(u9++c2)) (λb=>bR b\/aJ b)
 |[],_,_,_,_,_,hk=>by simp at hk
 |x::ds,cs,S,0,d,h,hk=>by
  rw[aW]at h;obtain⟨c1,c2,hI,gI,rfl,h1,ab,bg,R,nt⟩:=h;simp at hk;subst hk;refine⟨[],c1,c2,gI,hI,rfl,rfl,R,bg,λb R bg=>nt _ bg R,h1,?_⟩;intro aq bf u9 aJ a8 bE ae js;simp only[set_cons_zero,nil_append];rw[aW];exact⟨u9,c2,aJ,gI,rfl,ae,aW.frame a8 _ _ _ bE ab,λb h=>.inr h,λb h=>.inl h,λb h=>js b h⟩
 |x::ds,cs,S,k+1,d,h,hk=>by
  rw[aW]at h;obtain⟨c0,VY,hI,gI,rfl,h1,ab,bg,R,nt⟩:=h;simp only[getElem?_cons_succ]at hk;have hl:=ar.length _ _ _ h1;obtain⟨c1,fB,c2,bR,hS,rfl,i0,tx,i2,i3,i5,Gp⟩:=aW.pick ds VY gI k d ab hk;refine⟨c0++c1,fB,c2,λb=>hI b\/bR b,hS,by simp,by simp[I.dR,hl,i0],?_,λb h=>R _ (i2 _ h),?_,i5,?_⟩
  .rintro b (h|h)
   .exact bg _ h
   .exact R _ (tx _ h)
  .rintro b (h|h) hk
   .exact nt _ h (i2 _ hk)
   .exact i3 _ h hk
  .intro aq bf u9 aJ a8 bE ae js;simp only[set_cons_succ];rw[aW];refine⟨c0,c1++(u9++c2),hI,λb=>bR b\/aJ b,by simp,ar.frame a8 _ _ _ (λb R=>bE b (.inl R)) h1,
    Gp aq bf u9 aJ a8 (λb R=>bE b (.inr R)) ae (λb R ai=>js b R (.inr ai)),λb h=>.inl (.inl h),?_,?_⟩
   .rintro b (h|h)
    .exact .inl (.inr h)
    .exact .inr h
   .rintro b h (bn|bn)
    .exact nt _ h (tx _ bn)
    .exact js _ bn (.inl h)
theorem Gq:∀(aC:anZ) (k:Nat) (x y:I),aC[k]? =some x->y.wd=x.wd->I.dR (aC.set k y)=I.dR aC:=by
 intro aC;induction aC with
 |nil=>intro k x y h;simp at h
 |cons a aC ih=>
  intro k x y h e;cases k with
  |zero=>simp at h;subst h;simp[I.dR,e]
  |succ k=>simp at h;simp[I.dR,ih k x y h e]
theorem u_ {sz:Nat}:∀(xs:anZ),(∀d∈xs,d.wd=sz)->I.dR xs=xs.length*sz
 |[],_=>by simp[I.dR]
 |x::xs,h=>by
  rw[I.dR,h x (by simp),u_ xs (λd ae=>h d (by simp[ae])),length_cons,Nat.add_mul,Nat.one_mul,Nat.add_comm]
theorem I.xl:∀(q:anU) (av d bf:I),I.sub q av=some d->bf.wd=d.wd->(I.put q bf av).wd=av.wd:=by
 intro q;induction q with
 |nil=>intro av d bf h e;simp[I.sub]at h;subst h;simpa [I.put]using e
 |cons k q ih=>
  intro av d bf h e;cases av with
  |agg aC=>
   simp only[I.sub]at h;split at h
   .rename_i x ag;simp only[I.put,ag,I.wd];exact Gq _ _ _ _ ag (ih _ _ _ h e)
   .cases h
  |tuple aC=>
   simp only[I.sub]at h;split at h
   .rename_i x ag;simp only[I.put,ag,I.wd];exact Gq _ _ _ _ ag (ih _ _ _ h e)
   .cases h
  |ah sz xs=>
   simp only[I.sub]at h;split at h
   .rename_i x ag;simp only[I.put,ag,I.wd]
   .cases h
  |aV x=>
   cases k with
   |zero=>simp only[I.put,I.wd]
   |succ k=>simp[I.sub]at h
  |_=>simp[I.sub]at h
theorem Gr {sz:Nat} {xs:anZ} {i:Nat} {y:I} (h:∀d∈xs,d.wd=sz) (hy:y.wd=sz):∀d∈xs.set i y,d.wd=sz:=by
 intro d ae;rcases mem_or_eq_of_mem_set ae with ae|rfl
 .exact h d ae
 .exact hy
theorem xm {w:World} {b:Nat} {cur:Array Value} {e:TypeId} {fr:Nat×Nat} (h:w.heap[b]? =some (.cells cur e fr)) {l m r:anX} (ai:cur.toList=l++(m++r)):
  oT w b l.length m.length=m:=by
 refine Rd.oT (λj c bo=>?_);have cp:j<m.length:=(List.getElem?_eq_some_iff.1 bo).1;have:cur.toList[l.length+j]? =some c:=by
  rw[ai,getElem?_append_right (by omega),getElem?_append_left (by omega)];rw[<-bo];congr 1;omega
 simp[World.cell?,h];simpa using this
def Flat (w:World) (F:Nat->Prop) (q:anU) (av:I) (cs:anX) (a:Option (Nat×Nat)) (d:I) (cx:anX) (bN:Option (Nat×Nat)) (dI:Nat->Prop):Prop:=
 ∃l r:anX,cs=l++(cx++r)/\bN=a.map (λx=>(x.1,x.2+l.length))/\
  ∀(aq:World) (bf:I) (fI:anX) (aJ:Nat->Prop),(∀b,F b->aq.heap[b]? =w.heap[b]?)->(∀b,dI b->aq.heap[b]? =w.heap[b]?)->
   bf.wd=d.wd->ar aq F bf fI aJ->(∀b,aJ b->¬dI b)->ar aq F (I.put q bf av) (l++(fI++r)) (λb=>dI b\/aJ b)
def Deep (w:World) (F:Nat->Prop) (q:anU) (av:I) (cs:anX) (d:I) (cx:anX) (bN:Option (Nat×Nat)) (dI:Nat->Prop):Prop:=
 ∃(b:Nat) (cur:Array Value) (e:TypeId) (fr:Nat×Nat) (l r:anX),bN=some (b,l.length)/\dI b/\w.heap[b]? =some (.cells cur e fr)/\lH fr cur.size/\cur.toList=l++(cx++r)/\
  ∀(aq:World) (bf:I) (fI:anX) (aJ:Nat->Prop),(∀b,F b->aq.heap[b]? =w.heap[b]?)->(∀c,dI c->c≠b->aq.heap[c]? =w.heap[c]?)->
   aq.heap[b]? =some (.cells (l++(fI++r)).toArray e fr)->
   bf.wd=d.wd->ar aq F bf fI aJ->(∀b,aJ b->¬dI b)->ar aq F (I.put q bf av) cs (λb=>dI b\/aJ b)
theorem ctx {w:World} {F:Nat->Prop}:∀(q:anU) (av:I) (cs:anX) (S:Nat->Prop) (a:Option (Nat×Nat)) (d:I),
  ar w F av cs S->I.sub q av=some d->∃(cx:anX) (bN:Option (Nat×Nat)) (dI fg:Nat->Prop),c6 w q av cs a=some (d,cx,bN)/\
   (∀b,dI b->S b)/\(∀b,fg b->S b)/\(∀b,dI b->¬fg b)/\ar w F d cx fg/\(Flat w F q av cs a d cx bN dI\/Deep w F q av cs d cx bN dI):=by
 intro q;induction q with
 |nil=>
  intro av cs S a d h ae;simp[I.sub]at ae;subst ae;refine⟨cs,a,λ_=>False,S,rfl,λ_ h=>h.elim,λ_ h=>h,λ_ h=>h.elim,h,.inl ⟨[],[],by simp,?_,?_⟩⟩
  .cases a<;>simp
  .intro aq bf fI aJ _ _ hw gq _;simp only[I.put,nil_append,append_nil];exact ar.mono (λ_ h=>h) _ _ _ _ (λb h=>.inr h) gq
 |cons k q ih=>
  have fields:∀(mk:anZ->I) (Gs:∀(w:World) (F:Nat->Prop) (aC:anZ) (cs:anX) (S:Nat->Prop),ar w F (mk aC) cs S=aW w F aC cs S) (aC:anZ) (cs:anX) (S:Nat->Prop) (a:Option (Nat×Nat)) (x d:I),
    (j4:∀bf,I.put (k::q) bf (mk aC)=mk (aC.set k (I.put q bf x)))->aW w F aC cs S->aC[k]? =some x->I.sub q x=some d->
    ∃(cx:anX) (bN:Option (Nat×Nat)) (dI fg:Nat->Prop),c6 w q x ((cs.drop (I.dR (aC.take k))).take x.wd) (a.map λl=>(l.1,l.2+I.dR (aC.take k)))=some (d,cx,bN)/\
    (∀b,dI b->S b)/\(∀b,fg b->S b)/\(∀b,dI b->¬fg b)/\ar w F d cx fg/\(Flat w F (k::q) (mk aC) cs a d cx bN dI\/Deep w F (k::q) (mk aC) cs d cx bN dI):=by
   intro mk Gs aC cs S a x d j4 h ag ae;obtain⟨c1,fB,c2,bR,hS,rfl,hJ,eF,fk,hp,fX,nu⟩:=aW.pick aC cs S k x h ag;have hl:=ar.length _ _ _ fX;rw[u7 c1 fB c2 _ _ hJ hl];obtain⟨cx,bN,dI,fg,g0,g1,g2,g3,g4,g5⟩:=ih x _ hS (a.map λl=>(l.1,l.2+I.dR (aC.take k))) d fX ae;refine⟨cx,bN,λb=>bR b\/dI b,fg,g0,?_,λb R=>fk _ (g2 _ R),?_,g4,?_⟩
   .rintro b (h|h)
    .exact eF _ h
    .exact fk _ (g1 _ h)
   .rintro b (h|h) ae
    .exact hp _ h (g2 _ ae)
    .exact g3 _ h ae
   .have eV:∀(b:Nat) (aJ:Nat->Prop),(bR b\/dI b\/aJ b)->((bR b\/dI b)\/aJ b):=by
     rintro b aJ (R|R|R)
     .exact .inl (.inl R)
     .exact .inl (.inr R)
     .exact .inr R
    rcases g5 with⟨l,r,rfl,aM,aP⟩|⟨b,cur,e,fr,l,r,aI,aM,aP,bK,cg,bP⟩
    .refine .inl ⟨c1++l,r++c2,by simp,?_,?_⟩
     .rw[aM,<-hJ];cases a<;>simp[Nat.add_assoc]
     .intro aq bf fI aJ a8 bE hw gq js;have cY:=aP aq bf fI aJ a8 (λb R=>bE b (.inr R)) hw gq (λb R ai=>js b R (.inr ai));have bl:=nu aq _ _ _ a8 (λb R=>bE b (.inl R)) cY (by
       rintro b (R|R) h1
       .exact hp _ h1 (g1 _ R)
       .exact js _ R (.inl h1))
      rw[j4,Gs];have:=aW.mono (λ_ h=>h) _ _ _ _ (λb=>eV b aJ) bl;simpa using this
    .refine .inr ⟨b,cur,e,fr,l,r,aI,.inr aM,aP,bK,cg,?_⟩;intro aq bf fI aJ a8 bE iA hw gq js;have cY:=bP aq bf fI aJ a8 (λc ai=>bE c (.inr ai)) iA hw gq (λb R ai=>js b R (.inr ai));have bl:=nu aq _ _ _ a8 (λc ai=>bE c (.inl ai) (by rintro rfl;exact hp _ ai (g1 _ aM))) cY (by
       rintro b (R|R) h1
       .exact hp _ h1 (g1 _ R)
       .exact js _ R (.inl h1))
     rw[j4,Gs];exact aW.mono (λ_ h=>h) _ _ _ _ (λb=>eV b aJ) bl
  intro av cs S a d h ae;cases av with
  |agg aC=>
   simp only[I.sub]at ae;split at ae
   .rename_i x ag;rw[ar]at h;have:=fields .agg (λ_ _ _ _ _=>by rw[ar]) aC cs S a x d (λbf=>by simp only[I.put,ag]) h ag ae;simpa only[c6,ag]using this
   .cases ae
  |tuple aC=>
   simp only[I.sub]at ae;split at ae
   .rename_i x ag;rw[ar]at h;have:=fields .tuple (λ_ _ _ _ _=>by rw[ar]) aC cs S a x d (λbf=>by simp only[I.put,ag]) h ag ae;simpa only[c6,ag]using this
   .cases ae
  |ah sz xs=>
   simp only[I.sub]at ae;split at ae
   .rename_i x ag;rw[ar]at h;rcases h with⟨rfl,_,rfl⟩|⟨b,cap,cur,e,fr,cR,rfl,ab,ay,aT,bp,bX,bM,dy,hG,gW,lI⟩
    .simp at ag
    .obtain⟨c1,fB,c2,bR,hS,p,hJ,eF,fk,hp,fX,nu⟩:=aW.pick xs _ cR k x hG ag;have hl:=ar.length _ _ _ fX;have VZ:k<xs.length:=(List.getElem?_eq_some_iff.1 ag).1;have zJ:x.wd=sz:=dy x (mem_of_getElem? ag);have a1:I.dR (xs.take k)=k*sz:=by
      rw[u_ _ (λd ae=>dy d (mem_of_mem_take ae))];rw[length_take,Nat.min_eq_left (by omega)]
     obtain⟨so,k5⟩:∃so,cur.toList=c1++(fB++(c2++so)):=by
      refine⟨cur.toList.drop (xs.length*sz),?_⟩;have:=(take_append_drop (xs.length*sz) cur.toList).symm;rw[p]at this;simpa using this
     have jQ:oT w b (k*sz) sz=fB:=by
      have:=xm ay k5
      rwa [hJ,a1,hl,zJ]at this
     obtain⟨cx,bN,dI,fg,g0,g1,g2,g3,g4,g5⟩:=ih x _ hS (some (b,k*sz)) d fX ae;have j4:∀bf,I.put (k::q) bf (.ah sz xs)= .ah sz (xs.set k (I.put q bf x)):=λbf=>by simp only[I.put,ag]
     refine⟨cx,bN,λc=>c=b\/bR c\/dI c,fg,?_,?_,λc ai=>gW _ (fk _ (g2 _ ai)),?_,g4,.inr ?_⟩
     .simp only[c6,ag,jQ];exact g0
     .rintro c (rfl|h|h)
      .exact ab
      .exact gW _ (eF _ h)
      .exact gW _ (fk _ (g1 _ h))
     .rintro c (rfl|h|h) ae
      .exact lI (fk _ (g2 _ ae))
      .exact hp _ h (g2 _ ae)
      .exact g3 _ h ae
     .have k6:∀bf,bf.wd=d.wd->(I.put q bf x).wd=sz:=λbf hw=>(I.xl q x d bf ae hw).trans zJ;rcases g5 with⟨l,r,rfl,aM,aP⟩|⟨e8,Gt,gC,CU,l,r,aI,aM,aP,bK,cg,bP⟩
      .refine⟨b,cur,e,fr,c1++l,r++(c2++so),?_,.inl rfl,ay,aT.low,?_,?_⟩
       .rw[aM];simp[hJ,a1]
       .rw[k5];simp
       .intro aq bf fI aJ a8 bE iA hw gq js;have cY:=aP aq bf fI aJ a8 (λc ai=>bE c (.inr (.inr ai)) (by rintro rfl;exact lI (fk _ (g1 _ ai)))) hw gq (λb R ai=>js b R (.inr (.inr ai)));have bl:=nu aq _ _ _ a8 (λc ai=>bE c (.inr (.inl ai)) (by rintro rfl;exact lI (eF _ ai))) cY (by
         rintro b (R|R) h1
         .exact hp _ h1 (g1 _ R)
         .exact js _ R (.inr (.inl h1)))
        have zK:=ar.length _ _ _ gq;have zL:=ar.length _ _ _ g4;rw[j4,ar];refine .inr ⟨b,cap,_,e,fr,λb=>bR b\/dI b\/aJ b,by simp,.inl (.inl rfl),iA,?_,by simpa using bp,bX,?_,Gr dy (k6 bf hw),?_,?_,?_⟩
        .have:(c1++l++(fI++(r++(c2++so)))).toArray.size=cur.size:=by
          have:cur.size=cur.toList.length:=by simp
          rw[this,k5];simp[zK,zL,hw]
         rw[this];exact aT
        .rw[<-bM];have:cur.size=cur.toList.length:=by simp
         rw[this,k5];simp[zK,zL,hw]
        .have hlen:(c1++(l++(fI++r)++c2)).length=xs.length*sz:=by
          have:=congrArg length p;rw[length_take,Nat.min_eq_left (by simp[bM];exact mul_le_mul_right _ bp)]at this;rw[this];simp[zK,zL,hw]
         have:(c1++l++(fI++(r++(c2++so))))=(c1++(l++(fI++r)++c2))++so:=by simp
         rw[length_set];simp only[this];rw[take_left' hlen];exact bl
        .rintro c (h|h|h)
         .exact .inl (.inr (.inl h))
         .exact .inl (.inr (.inr h))
         .exact .inr h
        .rintro(h|h|h)
         .exact lI (eF _ h)
         .exact lI (fk _ (g1 _ h))
         .exact js _ h (.inl rfl)
      .refine⟨e8,Gt,gC,CU,l,r,aI,.inr (.inr aM),aP,bK,cg,?_⟩;intro aq bf fI aJ a8 bE iA hw gq js;have cY:=bP aq bf fI aJ a8 (λc ai cI=>bE c (.inr (.inr ai)) cI) iA hw gq (λb R ai=>js b R (.inr (.inr ai)));have cI:∀c,bR c->c≠e8:=by rintro c ai rfl;exact hp _ ai (g1 _ aM)
       have bl:=nu aq _ _ _ a8 (λc ai=>bE c (.inr (.inl ai)) (cI c ai)) cY (by
        rintro b (R|R) h1
        .exact hp _ h1 (g1 _ R)
        .exact js _ R (.inr (.inl h1)))
       have Gu:b≠e8:=by rintro rfl;exact lI (fk _ (g1 _ aM))
       rw[j4,ar];refine .inr ⟨b,cap,cur,e,fr,λb=>bR b\/dI b\/aJ b,by simp,.inl (.inl rfl),(bE b (.inl rfl) Gu).trans ay,aT,by simpa using bp,bX,bM,Gr dy (k6 bf hw),?_,?_,?_⟩
       .rw[length_set,p];exact bl
       .rintro c (h|h|h)
        .exact .inl (.inr (.inl h))
        .exact .inl (.inr (.inr h))
        .exact .inr h
       .rintro(h|h|h)
        .exact lI (eF _ h)
        .exact lI (fk _ (g1 _ h))
        .exact js _ h (.inl rfl)
   .cases ae
  |aV x=>
   cases k with
   |succ k=>simp[I.sub]at ae
   |zero=>
    simp only[I.sub]at ae;rw[ar]at h;obtain⟨b,cur,e,fr,cR,rfl,ab,ay,aT,bp,bX,bM⟩:=h;have hl:=ar.length _ _ _ bp;have jQ:oT w b 0 x.wd=cur.toList:=by
     have:=xm (l:=[]) (m:=cur.toList) (r:=[]) ay (by simp)
     rwa [hl]at this
    obtain⟨cx,bN,dI,fg,g0,g1,g2,g3,g4,g5⟩:=ih x _ cR (some (b,0)) d bp ae;have j4:∀bf,I.put (0::q) bf (.aV x)= .aV (I.put q bf x):=λbf=>rfl;refine⟨cx,bN,λc=>c=b\/dI c,fg,?_,?_,λc ai=>bX _ (g2 _ ai),?_,g4,.inr ?_⟩
    .simp only[c6,jQ];exact g0
    .rintro c (rfl|h)
     .exact ab
     .exact bX _ (g1 _ h)
    .rintro c (rfl|h) ae
     .exact bM (g2 _ ae)
     .exact g3 _ h ae
    .rcases g5 with⟨l,r,aI,aM,aP⟩|⟨e8,Gt,gC,CU,l,r,aI,aM,aP,bK,cg,bP⟩
     .refine⟨b,cur,e,fr,l,r,?_,.inl rfl,ay,aT,aI,?_⟩
      .rw[aM];simp
      .intro aq bf fI aJ a8 bE iA hw gq js;have cY:=aP aq bf fI aJ a8 (λc ai=>bE c (.inr ai) (by rintro rfl;exact bM (g1 _ ai))) hw gq (λb R ai=>js b R (.inr ai));have zK:=ar.length _ _ _ gq;have zL:=ar.length _ _ _ g4;rw[j4,ar];refine⟨b,_,e,fr,λb=>dI b\/aJ b,rfl,.inl (.inl rfl),iA,?_,cY,?_,?_⟩
       .have:(l++(fI++r)).toArray.size=cur.size:=by
         have:cur.size=cur.toList.length:=by simp
         rw[this,aI];simp[zK,zL,hw]
        rw[this];exact aT
       .rintro c (h|h)
        .exact .inl (.inr h)
        .exact .inr h
       .rintro(h|h)
        .exact bM (g1 _ h)
        .exact js _ h (.inl rfl)
     .refine⟨e8,Gt,gC,CU,l,r,aI,.inr aM,aP,bK,cg,?_⟩;intro aq bf fI aJ a8 bE iA hw gq js;have cY:=bP aq bf fI aJ a8 (λc ai cI=>bE c (.inr ai) cI) iA hw gq (λb R ai=>js b R (.inr ai));have Gu:b≠e8:=by rintro rfl;exact bM (g1 _ aM)
      rw[j4,ar];refine⟨b,cur,e,fr,λb=>dI b\/aJ b,rfl,.inl (.inl rfl),(bE b (.inl rfl) Gu).trans ay,aT,cY,?_,?_⟩
      .rintro c (h|h)
       .exact .inl (.inr h)
       .exact .inr h
      .rintro(h|h)
       .exact bM (g1 _ h)
       .exact js _ h (.inl rfl)
  |_=>simp[I.sub]at ae
mutual
def I.plain:I->Bool
 | .ah _ _=>false
 | .aV _=>false
 | .cc _=>false
 | .bm _ _=>false
 | .cX _=>false
 | .agg aC=>I.dS aC
 | .tuple aC=>I.dS aC
 |_=>true
def I.dS:anZ->Bool
 |[]=>true
 |d::ds=>d.plain&&I.dS ds
end
mutual
def I.cJ:I->I
 | .ah _ _=>.hole
 | .aV _=>.hole
 | .cc _=>.hole
 | .bm _ _=>.hole
 | .cX _=>.hole
 | .agg aC=>.agg (I.mg aC)
 | .tuple aC=>.tuple (I.mg aC)
 |d=>d
def I.mg:anZ->anZ
 |[]=>[]
 |d::ds=>d.cJ::I.mg ds
end
mutual
theorem I.tA:∀d:I,d.cJ.wd=d.wd
 | .hole=>rfl
 | .bool _=>rfl
 | .fj=>rfl
 | .int _ _=>rfl
 | .str _=>rfl
 | .dq=>rfl
 | .bd=>rfl
 | .slice _=>rfl
 | .ah _ _=>rfl
 | .ref _=>rfl
 | .aV _=>rfl
 | .agg aC=>by simp only[I.cJ,I.wd];exact I.Gv aC
 | .tuple aC=>by simp only[I.cJ,I.wd];exact I.Gv aC
 | .fn _ _=>rfl
 | .h _ _=>rfl
 | .al _ _=>rfl
 | .R _ _=>rfl
 | .cc _=>rfl
 | .bm _ _=>rfl
 | .cX _=>rfl
theorem I.Gv:∀ds:anZ,I.dR (I.mg ds)=I.dR ds
 |[]=>rfl
 |d::ds=>by simp only[I.mg,I.dR];rw[I.tA d,I.Gv ds]
end
mutual
theorem ar.cJ {w:World} {F:Nat->Prop}:∀(d:I) (cs:anX) (S aJ:Nat->Prop),ar w F d cs S->ar w F d.cJ cs aJ
 | .hole,_,_,_,h=>h
 | .bool _,_,_,_,h=>h
 | .fj,_,_,_,h=>h
 | .int _ _,_,_,_,h=>h
 | .str _,_,_,_,h=>h
 | .dq,_,_,_,h=>h
 | .bd,_,_,_,h=>h
 | .slice xs,cs,S,aJ,h=>by
   show ar w F (.slice xs) cs aJ;rw[ar]at h⊢;exact h
 | .ah sz xs,cs,S,aJ,h=>by
   rw[I.cJ,ar];rw[ar]at h;rcases h with⟨_,_,rfl⟩|⟨b,cap,cur,e,fr,cR,rfl,_⟩
   .exact⟨_,rfl,rfl⟩
   .exact⟨_,rfl,rfl⟩
 | .ref d,cs,S,aJ,h=>by
   show ar w F (.ref d) cs aJ;rw[ar]at h⊢;exact h
 | .aV d,cs,S,aJ,h=>by
   rw[I.cJ,ar];rw[ar]at h;obtain⟨b,cur,e,fr,cR,rfl,_⟩:=h;exact⟨_,rfl,rfl⟩
 | .agg aC,cs,S,aJ,h=>by rw[I.cJ,ar];rw[ar]at h;exact aW.cJ aC _ _ _ h
 | .tuple aC,cs,S,aJ,h=>by rw[I.cJ,ar];rw[ar]at h;exact aW.cJ aC _ _ _ h
 | .fn _ _,_,_,_,h=>h
 | .h _ _,_,_,_,h=>h
 | .al _ _,_,_,_,h=>h
 | .R _ _,_,_,_,h=>h
 | .cc _,_,_,_,h=>by rw[ar]at h;rw[I.cJ,ar];exact mN.one h
 | .bm _ _,_,_,_,h=>by rw[ar]at h;obtain⟨arr,rfl,_⟩:=h;rw[I.cJ,ar];exact⟨_,rfl,rfl⟩
 | .cX _,_,_,_,h=>by rw[ar]at h;obtain⟨b,v,e,fr,rfl,_⟩:=h;rw[I.cJ,ar];exact⟨_,rfl,rfl⟩
theorem aW.cJ {w:World} {F:Nat->Prop}:∀(ds:anZ) (cs:anX) (S aJ:Nat->Prop),aW w F ds cs S->aW w F (I.mg ds) cs aJ
 |[],_,_,_,h=>h
 |d::ds,cs,S,aJ,h=>by
  rw[I.mg,aW];rw[aW]at h;obtain⟨c1,c2,bR,cH,h1,ab,ay,aT,bp,bX⟩:=h;exact⟨c1,c2,λ_=>False,λ_=>False,h1,ar.cJ d _ _ _ ab,aW.cJ ds _ _ _ ay,λ_ h=>h.elim,λ_ h=>h.elim,λ_ h=>h.elim⟩
end
mutual
theorem ar.plain {w:World} {F:Nat->Prop}:∀(d:I) (cs:anX) (S aJ:Nat->Prop),d.plain=true->ar w F d cs S->ar w F d cs aJ
 | .hole,_,_,_,_,h=>h
 | .bool _,_,_,_,_,h=>h
 | .fj,_,_,_,_,h=>h
 | .int _ _,_,_,_,_,h=>h
 | .str _,_,_,_,_,h=>h
 | .dq,_,_,_,_,h=>h
 | .bd,_,_,_,_,h=>h
 | .slice xs,cs,S,aJ,_,h=>by rw[ar]at h⊢;exact h
 | .ah sz xs,cs,S,aJ,al,h=>by simp[I.plain]at al
 | .ref d,cs,S,aJ,_,h=>by rw[ar]at h⊢;exact h
 | .aV d,cs,S,aJ,al,h=>by simp[I.plain]at al
 | .agg aC,cs,S,aJ,al,h=>by rw[ar]at h⊢;exact aW.plain aC _ _ _ al h
 | .tuple aC,cs,S,aJ,al,h=>by rw[ar]at h⊢;exact aW.plain aC _ _ _ al h
 | .fn _ _,_,_,_,_,h=>h
 | .h _ _,_,_,_,_,h=>h
 | .al _ _,_,_,_,_,h=>h
 | .R _ _,_,_,_,_,h=>h
 | .cc _,_,_,_,al,_=>by simp[I.plain]at al
 | .bm _ _,_,_,_,al,_=>by simp[I.plain]at al
 | .cX _,_,_,_,al,_=>by simp[I.plain]at al
theorem aW.plain {w:World} {F:Nat->Prop}:∀(ds:anZ) (cs:anX) (S aJ:Nat->Prop),I.dS ds=true->aW w F ds cs S->aW w F ds cs aJ
 |[],_,_,_,_,h=>h
 |d::ds,cs,S,aJ,al,h=>by
  rw[aW]at h⊢;simp only[I.dS,Bool.and_eq_true]at al;obtain⟨c1,c2,bR,cH,h1,ab,ay,aT,bp,bX⟩:=h;exact⟨c1,c2,λ_=>False,λ_=>False,h1,ar.plain d _ _ _ al.1 ab,aW.plain ds _ _ _ al.2 ay,λ_ h=>h.elim,λ_ h=>h.elim,λ_ h=>h.elim⟩
end
def I.fy:anU->I->Bool
 |[],_=>false
 |k::q,.agg aC=>match aC[k]? with
  |some d=>I.fy q d
  |none=>false
 |k::q,.tuple aC=>match aC[k]? with
  |some d=>I.fy q d
  |none=>false
 |_::_,.ah _ _=>true
 |_::_,.aV _=>true
 |_::_,_=>false
theorem CV {aC:anZ} (h:I.dS aC=true) {k:Nat} {d:I} (hk:aC[k]? =some d):d.plain=true:=by
 induction aC generalizing k with
 |nil=>simp at hk
 |cons a aC ih=>
  simp only[I.dS,Bool.and_eq_true]at h;cases k with
  |zero=>simp at hk;subst hk;exact h.1
  |succ k=>simp at hk;exact ih h.2 hk
theorem I.MO:∀(q:anU) (d:I),d.plain=true->I.fy q d=false:=by
 intro q;induction q with
 |nil=>intros;rfl
 |cons k q ih=>
  intro d ae;cases d<;>first|rfl|(simp[I.plain]at ae;done)|skip
  all_goals
   simp only[I.fy];split
   .rename_i aC x ag;exact ih _ (CV (by simpa [I.plain]using ae) ag)
   .rfl
theorem I.Gw:∀(q:anU) (d e:I),d.plain=true->I.sub q d=some e->e.plain=true:=by
 intro q;induction q with
 |nil=>intro d e ae h;simp[I.sub]at h;exact h▸ae
 |cons k q ih=>
  intro d e ae h;cases d<;>first|(simp[I.plain]at ae;done)|(simp[I.sub]at h;done)|skip
  all_goals
   simp only[I.sub]at h;split at h
   .rename_i aC x ag;exact ih _ _ (CV (by simpa [I.plain]using ae) ag) h
   .cases h
theorem CW {w aq:World} {F:Nat->Prop}:∀(q:anU) (av:I) (cs:anX) (S:Nat->Prop) (a:Option (Nat×Nat)) (d:I),
  ar w F av cs S->I.sub q av=some d->(∀b,S b->aq.heap[b]? =w.heap[b]?)->c6 aq q av cs a=c6 w q av cs a:=by
 intro q;induction q with
 |nil=>intros;rfl
 |cons k q ih=>
  have fields:∀(aC:anZ) (cs:anX) (S:Nat->Prop) (a:Option (Nat×Nat)) (x d:I),aW w F aC cs S->aC[k]? =some x->I.sub q x=some d->
    (∀b,S b->aq.heap[b]? =w.heap[b]?)->
    c6 aq q x ((cs.drop (I.dR (aC.take k))).take x.wd) (a.map λl=>(l.1,l.2+I.dR (aC.take k)))=c6 w q x ((cs.drop (I.dR (aC.take k))).take x.wd) (a.map λl=>(l.1,l.2+I.dR (aC.take k))):=by
   intro aC cs S a x d h ag ae bE;obtain⟨c1,fB,c2,bR,hS,rfl,hJ,eF,fk,hp,fX,nu⟩:=aW.pick aC cs S k x h ag;rw[u7 c1 fB c2 _ _ hJ (ar.length _ _ _ fX)];exact ih x fB hS _ d fX ae (λb R=>bE b (fk _ R))
  intro av cs S a d h ae bE;cases av with
  |agg aC=>
   simp only[I.sub]at ae;split at ae
   .rename_i x ag;rw[ar]at h;simp only[c6,ag];exact fields aC cs S a x d h ag ae bE
   .cases ae
  |tuple aC=>
   simp only[I.sub]at ae;split at ae
   .rename_i x ag;rw[ar]at h;simp only[c6,ag];exact fields aC cs S a x d h ag ae bE
   .cases ae
  |ah sz xs=>
   simp only[I.sub]at ae;split at ae
   .rename_i x ag;rw[ar]at h;rcases h with⟨rfl,_,rfl⟩|⟨b,cap,cur,e,fr,cR,rfl,ab,ay,aT,bp,bX,bM,dy,hG,gW,lI⟩
    .simp at ag
    .obtain⟨c1,fB,c2,bR,hS,p,hJ,eF,fk,hp,fX,nu⟩:=aW.pick xs _ cR k x hG ag;have hl:=ar.length _ _ _ fX;have VZ:k<xs.length:=(List.getElem?_eq_some_iff.1 ag).1;have zJ:x.wd=sz:=dy x (mem_of_getElem? ag);have a1:I.dR (xs.take k)=k*sz:=by
      rw[u_ _ (λd ae=>dy d (mem_of_mem_take ae))];rw[length_take,Nat.min_eq_left (by omega)]
     obtain⟨so,k5⟩:∃so,cur.toList=c1++(fB++(c2++so)):=by
      refine⟨cur.toList.drop (xs.length*sz),?_⟩;have:=(take_append_drop (xs.length*sz) cur.toList).symm;rw[p]at this;simpa using this
     have jQ:oT w b (k*sz) sz=fB:=by
      have:=xm ay k5
      rwa [hJ,a1,hl,zJ]at this
     have Gx:oT aq b (k*sz) sz=fB:=by
      have:=xm ((bE b ab).trans ay) k5
      rwa [hJ,a1,hl,zJ]at this
     simp only[c6,ag,jQ,Gx];exact ih x fB hS _ d fX ae (λc ai=>bE c (gW _ (fk _ ai)))
   .cases ae
  |aV x=>
   cases k with
   |succ k=>simp[I.sub]at ae
   |zero=>
    simp only[I.sub]at ae;rw[ar]at h;obtain⟨b,cur,e,fr,cR,rfl,ab,ay,aT,bp,bX,bM⟩:=h;have hl:=ar.length _ _ _ bp;have jQ:oT w b 0 x.wd=cur.toList:=by
     have:=xm (l:=[]) (m:=cur.toList) (r:=[]) ay (by simp)
     rwa [hl]at this
    have Gx:oT aq b 0 x.wd=cur.toList:=by
     have:=xm (l:=[]) (m:=cur.toList) (r:=[]) ((bE b ab).trans ay) (by simp)
     rwa [hl]at this
    simp only[c6,jQ,Gx];exact ih x cur.toList cR _ d bp ae (λc ai=>bE c (bX _ ai))
  |_=>simp[I.sub]at ae
def gX:Value->anX
 | .agg cs=>cs.toList
 |v=>[v]
def bZ:Value->anX
 | .tuple vs=>vs.toList.flatMap gX
 |v=>gX v
def ie:I->Value->Prop
 | .agg _,v=>∃arr,v= .agg arr
 |_,v=>Value.eJ v=true
def c7:I->Value->Prop
 | .tuple ds,v=>∃arr:Array Value,v= .tuple arr/\arr.size=ds.length/\∀(k:Nat) (d:I) (x:Value),ds[k]? =some d->arr[k]? =some x->ie d x/\(∀vs,d≠.tuple vs)/\(gX x).length=d.wd
 |d,v=>ie d v
abbrev an:=Nat->I
mutual
def aF (w:World) (F:Nat->Prop) (s:an) (au:Nat->Value):I->Value->(Nat->Prop)->Prop
 | .hole,_,_=>True
 | .h x q,v,_=>∀d,I.sub q (s x)=some d->d.plain=false->∃cx a,c6 w q (s x) (bZ (au x)) none=some (d,cx,a)/\bZ v=cx/\c7 d v
 | .al x q,v,_=>∀d,I.sub q (s x)=some d->I.fy q (s x)=true->∃cx b o,c6 w q (s x) (bZ (au x)) none=some (d,cx,some (b,o))/\v= .pointer (some ⟨b,o,none⟩)
 | .R x k,v,_=>(s x).plain=false->∃b cur e fr,v= .pointer (some ⟨b,k,none⟩)/\F b/\w.heap[b]? =some (.cells cur e fr)/\cur.toList=bZ (au x)
 | .fn f cap,v,_=>∃arr:Array Value,v= .func (.func f) #[] arr/\cV w F s au cap arr.toList
 | .bool b,v,S=>c7 (.bool b) v/\ar w F (.bool b) (bZ v) S
 | .fj,v,S=>c7 .fj v/\ar w F .fj (bZ v) S
 | .int k n,v,S=>c7 (.int k n) v/\ar w F (.int k n) (bZ v) S
 | .str x,v,S=>c7 (.str x) v/\ar w F (.str x) (bZ v) S
 | .dq,v,S=>c7 .dq v/\ar w F .dq (bZ v) S
 | .bd,v,S=>c7 .bd v/\ar w F .bd (bZ v) S
 | .slice xs,v,S=>c7 (.slice xs) v/\ar w F (.slice xs) (bZ v) S
 | .ah sz xs,v,S=>c7 (.ah sz xs) v/\ar w F (.ah sz xs) (bZ v) S
 | .ref d,v,S=>c7 (.ref d) v/\ar w F (.ref d) (bZ v) S
 | .aV d,v,S=>c7 (.aV d) v/\ar w F (.aV d) (bZ v) S
 | .agg d,v,S=>c7 (.agg d) v/\ar w F (.agg d) (bZ v) S
 | .tuple d,v,S=>c7 (.tuple d) v/\ar w F (.tuple d) (bZ v) S
 | .cc o,v,S=>c7 (.cc o) v/\ar w F (.cc o) (bZ v) S
 | .bm f d,v,S=>c7 (.bm f d) v/\ar w F (.bm f d) (bZ v) S
 | .cX d,v,S=>c7 (.cX d) v/\ar w F (.cX d) (bZ v) S
def cV (w:World) (F:Nat->Prop) (s:an) (au:Nat->Value):anZ->anX->Prop
 |[],vs=>vs=[]
 |d::ds,vs=>∃v eW,vs=v::eW/\aF w F s au d v (λ_=>False)/\cV w F s au ds eW
end
def I.tree:I->Bool
 | .hole=>false
 | .h _ _=>false
 | .al _ _=>false
 | .R _ _=>false
 | .fn _ _=>false
 |_=>true
theorem aF.b_ {w:World} {F:Nat->Prop} {s:an} {au:Nat->Value} {d:I} {v:Value} {S:Nat->Prop} (aL:d.tree=true):
  aF w F s au d v S↔(c7 d v/\ar w F d (bZ v) S):=by
 cases d<;>first|(simp[I.tree]at aL;done)|rw[aF]
theorem hL {q:anU} {av d:I} (h:I.sub q av=some d) (al:d.plain=false\/I.fy q av=true):av.tree=true:=by
 cases q with
 |nil=>
  simp[I.sub]at h;subst h;rcases al with al|al
  .cases av<;>first|rfl|(simp[I.plain]at al)
  .simp[I.fy]at al
 |cons k q=>cases av<;>first|rfl|(simp[I.sub]at h)
theorem Gy {d:I} (h:d.plain=false):d.tree=true:=hL (q:=[]) (by simp only[I.sub]) (.inl h)
theorem aF.frame {w aq:World} {F br:Nat->Prop} {s:an} {au:Nat->Value} {Sx:Nat->Nat->Prop} (a8:∀b,F b->aq.heap[b]? =w.heap[b]?) (MP:∀b,F b->br b)
  (bE:∀x b,Sx x b->aq.heap[b]? =w.heap[b]?) (ja:∀x,aF w F s au (s x) (au x) (Sx x)):
  ∀(d:I) (v:Value) (S:Nat->Prop),(∀b,S b->aq.heap[b]? =w.heap[b]?)->aF w F s au d v S->aF aq br s au d v S:=by
 have k7:∀(x:Nat) (q:anU) (d:I),I.sub q (s x)=some d->(d.plain=false\/I.fy q (s x)=true)->c6 aq q (s x) (bZ (au x)) none=c6 w q (s x) (bZ (au x)) none:=by
  intro x q d ae al;have aL:=hL ae al;have:=ja x;rw[aF.b_ aL]at this;exact CW q _ _ (Sx x) none d this.2 ae (bE x)
 have V0:∀(d:I) (v:Value) (S:Nat->Prop),d.tree=true->(∀b,S b->aq.heap[b]? =w.heap[b]?)->aF w F s au d v S->aF aq br s au d v S:=by
  intro d v S aL va h;rw[aF.b_ aL]at h⊢;exact⟨h.1,ar.mono MP _ _ _ _ (λ_ h=>h) (ar.frame a8 _ _ _ va h.2)⟩
 have step:∀n,(∀(d:I) (v:Value) (S:Nat->Prop),SizeOf.sizeOf d<=n->(∀b,S b->aq.heap[b]? =w.heap[b]?)->aF w F s au d v S->aF aq br s au d v S)/\
   (∀(ds:anZ) (vs:anX),SizeOf.sizeOf ds<=n->cV w F s au ds vs->cV aq br s au ds vs):=by
  intro n;induction n with
  |zero=>
   refine⟨λd v S bC=>?_,λds vs bC=>?_⟩
   .cases d<;>simp at bC<;>omega
   .cases ds<;>simp at bC<;>omega
  |succ n ih=>
   refine⟨λd v S bC va h=>?_,λds vs bC h=>?_⟩
   .cases d with
    |hole=>rw[aF];trivial
    |h x q=>
     rw[aF]at h⊢;intro d ae al;rw[k7 x q d ae (.inl al)];exact h d ae al
    |al x q=>
     rw[aF]at h⊢;intro d ae al;rw[k7 x q d ae (.inr al)];exact h d ae al
    |R x k=>
     rw[aF]at h⊢;intro al;obtain⟨b,cur,e,fr,h1,ab,ay,aT⟩:=h al;exact⟨b,cur,e,fr,h1,MP b ab,(a8 b ab).trans ay,aT⟩
    |fn f cap=>
     rw[aF]at h⊢;obtain⟨arr,rfl,ai⟩:=h;exact⟨arr,rfl,ih.2 _ _ (by simp at bC;omega) ai⟩
    |_=>exact V0 _ _ _ rfl va h
   .cases ds with
    |nil=>rw[cV]at h⊢;exact h
    |cons d ds=>
     rw[cV]at h⊢;obtain⟨v,eW,rfl,h1,ab⟩:=h;simp at bC;exact⟨v,eW,rfl,ih.1 _ _ _ (by omega) (λ_ h=>h.elim) h1,ih.2 _ _ (by omega) ab⟩
 intro d v S va h;exact(step (SizeOf.sizeOf d)).1 d v S (Nat.le_refl _) va h
mutual
def cu (x:Nat):I->I
 | .h y q=>if y=x then .hole else .h y q
 | .al y q=>if y=x then .hole else .al y q
 | .R y k=>if y=x then .hole else .R y k
 | .fn f cap=>.fn f (jt x cap)
 |d=>d
def jt (x:Nat):anZ->anZ
 |[]=>[]
 |d::ds=>cu x d::jt x ds
end
mutual
def b4 (x:Nat):I->I
 | .h y q=>if y=x then(if q=[]then .h y q else .hole)else .h y q
 | .al y q=>if y=x then .hole else .al y q
 | .fn f cap=>.fn f (iP x cap)
 |d=>d
def iP (x:Nat):anZ->anZ
 |[]=>[]
 |d::ds=>b4 x d::iP x ds
end
def cK {α:Type} (f:Nat->α) (t:Nat) (v:α):Nat->α:=λu=>if u=t then v else f u
def k8 (t:Nat) (s:an):an:=λu=>cu t (s u)
def hM (t:Nat) (s:an):an:=λu=>b4 t (s u)
theorem nv {α:Type} (f:Nat->α) (t:Nat) (v:α):cK f t v t=v:=by simp[cK]
theorem ju {α:Type} (f:Nat->α) {t u:Nat} (v:α) (h:u≠t):cK f t v u=f u:=by simp[cK,h]
theorem V1 {t:Nat} {d:I} (h:d.tree=true):cu t d=d:=by cases d<;>first|rfl|(simp[I.tree]at h)
theorem Gz {t:Nat} {d:I} (h:d.tree=true):b4 t d=d:=by cases d<;>first|rfl|(simp[I.tree]at h)
theorem V2 {t:Nat} {d:I} (h:(cu t d).tree=true):d.tree=true/\cu t d=d:=by
 cases d<;>first|exact⟨rfl,rfl⟩|(simp only[cu]at h;first|(split at h<;>simp[I.tree]at h)|simp[I.tree]at h)
theorem CX {t:Nat} {d:I} (h:(b4 t d).tree=true):d.tree=true/\b4 t d=d:=by
 cases d<;>first|exact⟨rfl,rfl⟩|(simp only[b4]at h;first|(split at h<;>(try split at h)<;>simp[I.tree]at h)|simp[I.tree]at h)
section
variable {w:World} {F:Nat->Prop} {s aA:an} {au fJ:Nat->Value} {t:Nat}
theorem aF.cu (gY:∀x,x≠t->(aA x).tree=true->aA x=s x/\fJ x=au x):∀(n:Nat),
  (∀(d:I) (v:Value) (S:Nat->Prop),SizeOf.sizeOf d<=n->aF w F s au d v S->aF w F aA fJ (cC.cu t d) v S)/\
  (∀(ds:anZ) (vs:anX),SizeOf.sizeOf ds<=n->cV w F s au ds vs->cV w F aA fJ (jt t ds) vs):=by
 intro n;induction n with
 |zero=>
  refine⟨λd v S bC=>?_,λds vs bC=>?_⟩
  .cases d<;>simp at bC<;>omega
  .cases ds<;>simp at bC<;>omega
 |succ n ih=>
  refine⟨λd v S bC h=>?_,λds vs bC h=>?_⟩
  .cases d with
   |hole=>rw[cC.cu.eq_def];simp only;rw[aF];trivial
   |h x q=>
    simp only[cC.cu];split
    .rw[aF];trivial
    .rename_i ag;rw[aF]at h⊢;intro d ae al;obtain⟨aI,aM⟩:=gY x ag (hL ae (.inl al));rw[aI,aM];rw[aI]at ae;exact h d ae al
   |al x q=>
    simp only[cC.cu];split
    .rw[aF];trivial
    .rename_i ag;rw[aF]at h⊢;intro d ae al;obtain⟨aI,aM⟩:=gY x ag (hL ae (.inr al));rw[aI,aM];rw[aI]at ae al;exact h d ae al
   |R x k=>
    simp only[cC.cu];split
    .rw[aF];trivial
    .rename_i ag;rw[aF]at h⊢;intro al;obtain⟨aI,aM⟩:=gY x ag (Gy al);rw[aM];rw[aI]at al;exact h al
   |fn f cap=>
    simp only[cC.cu];rw[aF]at h⊢;obtain⟨arr,rfl,ai⟩:=h;exact⟨arr,rfl,ih.2 _ _ (by simp at bC;omega) ai⟩
   |_=>
    rw[V1 (by rfl)];exact(aF.b_ (by rfl)).2 ((aF.b_ (by rfl)).1 h)
  .cases ds with
   |nil=>rw[jt,cV];rw[cV]at h;exact h
   |cons d ds=>
    rw[jt,cV];rw[cV]at h;obtain⟨v,eW,rfl,h1,ab⟩:=h;simp at bC;exact⟨v,eW,rfl,ih.1 _ _ _ (by omega) h1,ih.2 _ _ (by omega) ab⟩
theorem aF.b4 {aq:World} (gY:∀x,x≠t->(aA x).tree=true->aA x=s x/\fJ x=au x) (fK:fJ t=au t) (fO:(aA t).plain=false->(s t).plain=false/\∀v,c7 (s t) v->c7 (aA t) v)
  (k7:∀x q d,x≠t->I.sub q (s x)=some d->(d.plain=false\/I.fy q (s x)=true)->c6 aq q (s x) (bZ (au x)) none=c6 w q (s x) (bZ (au x)) none)
  (a8:∀b,F b->aq.heap[b]? =w.heap[b]?):∀(n:Nat),
  (∀(d:I) (v:Value) (S:Nat->Prop),SizeOf.sizeOf d<=n->(∀b,S b->aq.heap[b]? =w.heap[b]?)->aF w F s au d v S->aF aq F aA fJ (cC.b4 t d) v S)/\
  (∀(ds:anZ) (vs:anX),SizeOf.sizeOf ds<=n->cV w F s au ds vs->cV aq F aA fJ (iP t ds) vs):=by
 intro n;induction n with
 |zero=>
  refine⟨λd v S bC=>?_,λds vs bC=>?_⟩
  .cases d<;>simp at bC<;>omega
  .cases ds<;>simp at bC<;>omega
 |succ n ih=>
  refine⟨λd v S bC va h=>?_,λds vs bC h=>?_⟩
  .cases d with
   |hole=>rw[cC.b4.eq_def];simp only;rw[aF];trivial
   |h x q=>
    simp only[cC.b4];split
    .rename_i ag;subst ag;split
     .rename_i ca;subst ca;rw[aF]at h⊢;intro d ae al;simp only[I.sub,some.injEq]at ae;subst ae;obtain⟨cY,bl⟩:=fO al;obtain⟨cx,a,g1,g2,g3⟩:=h (s x) rfl cY;simp only[c6,some.injEq,Prod.mk.injEq]at g1;obtain⟨-,g1,amb⟩:=g1;refine⟨bZ (fJ x),none,rfl,?_,bl _ g3⟩;rw[fK,g2,<-g1]
     .rw[aF];trivial
    .rename_i ag;rw[aF]at h⊢;intro d ae al;obtain⟨aI,aM⟩:=gY x ag (hL ae (.inl al));rw[aI,aM];rw[aI]at ae;rw[k7 x q d ag ae (.inl al)];exact h d ae al
   |al x q=>
    simp only[cC.b4];split
    .rw[aF];trivial
    .rename_i ag;rw[aF]at h⊢;intro d ae al;obtain⟨aI,aM⟩:=gY x ag (hL ae (.inr al));rw[aI,aM];rw[aI]at ae al;rw[k7 x q d ag ae (.inr al)];exact h d ae al
   |R x k=>
    simp only[cC.b4];rw[aF]at h⊢;intro al;by_cases ag:x=t
    .subst ag;obtain⟨b,cur,e,fr,h1,ab,ay,aT⟩:=h (fO al).1;exact⟨b,cur,e,fr,h1,ab,(a8 b ab).trans ay,by rw[fK];exact aT⟩
    .obtain⟨aI,aM⟩:=gY x ag (Gy al);rw[aI]at al;obtain⟨b,cur,e,fr,h1,ab,ay,aT⟩:=h al;exact⟨b,cur,e,fr,h1,ab,(a8 b ab).trans ay,by rw[aM];exact aT⟩
   |fn f cap=>
    simp only[cC.b4];rw[aF]at h⊢;obtain⟨arr,rfl,ai⟩:=h;exact⟨arr,rfl,ih.2 _ _ (by simp at bC;omega) ai⟩
   |_=>
    rw[Gz (by rfl)];have bn:=(aF.b_ (by rfl)).1 h;exact(aF.b_ (by rfl)).2 ⟨bn.1,ar.frame a8 _ _ _ va bn.2⟩
  .cases ds with
   |nil=>rw[iP,cV];rw[cV]at h;exact h
   |cons d ds=>
    rw[iP,cV];rw[cV]at h;obtain⟨v,eW,rfl,h1,ab⟩:=h;simp at bC;exact⟨v,eW,rfl,ih.1 _ _ _ (by omega) (λ_ h=>h.elim) h1,ih.2 _ _ (by omega) ab⟩
theorem aF.void (gY:∀x,x≠t->(aA x).tree=true->aA x=s x/\fJ x=au x) (qg:(aA t).plain=true):∀(n:Nat),
  (∀(d:I) (v:Value) (S:Nat->Prop),SizeOf.sizeOf d<=n->aF w F s au d v S->aF w F aA fJ d v S)/\
  (∀(ds:anZ) (vs:anX),SizeOf.sizeOf ds<=n->cV w F s au ds vs->cV w F aA fJ ds vs):=by
 intro n;induction n with
 |zero=>
  refine⟨λd v S bC=>?_,λds vs bC=>?_⟩
  .cases d<;>simp at bC<;>omega
  .cases ds<;>simp at bC<;>omega
 |succ n ih=>
  refine⟨λd v S bC h=>?_,λds vs bC h=>?_⟩
  .cases d with
   |hole=>rw[aF];trivial
   |h x q=>
    rw[aF]at h⊢;intro d ae al;by_cases ag:x=t
    .subst ag;rw[I.Gw _ _ _ qg ae]at al;cases al
    .obtain⟨aI,aM⟩:=gY x ag (hL ae (.inl al));rw[aI,aM];rw[aI]at ae;exact h d ae al
   |al x q=>
    rw[aF]at h⊢;intro d ae al;by_cases ag:x=t
    .subst ag;rw[I.MO _ _ qg]at al;cases al
    .obtain⟨aI,aM⟩:=gY x ag (hL ae (.inr al));rw[aI,aM];rw[aI]at ae al;exact h d ae al
   |R x k=>
    rw[aF]at h⊢;intro al;by_cases ag:x=t
    .subst ag;rw[qg]at al;cases al
    .obtain⟨aI,aM⟩:=gY x ag (Gy al);rw[aM];rw[aI]at al;exact h al
   |fn f cap=>
    rw[aF]at h⊢;obtain⟨arr,rfl,ai⟩:=h;exact⟨arr,rfl,ih.2 _ _ (by simp at bC;omega) ai⟩
   |_=>exact(aF.b_ (by rfl)).2 ((aF.b_ (by rfl)).1 h)
  .cases ds with
   |nil=>rw[cV];rw[cV]at h;exact h
   |cons d ds=>
    rw[cV];rw[cV]at h;obtain⟨v,eW,rfl,h1,ab⟩:=h;simp at bC;exact⟨v,eW,rfl,ih.1 _ _ _ (by omega) h1,ih.2 _ _ (by omega) ab⟩
end
def GA:Bool:=false
def Out (w w0:World):Prop:=w.output=w0.output/\(GA=true->w0.drawn<=w.drawn)
theorem Out.trans {a b c:World} (h:Out a b) (ab:Out b c):Out a c:=⟨Eq.trans h.1 ab.1,λd=>Nat.le_trans (ab.2 d) (h.2 d)⟩
theorem Out.refl (w:World):Out w w:=⟨rfl,λ_=>Nat.le_refl _⟩
def GB (o:Obj):Prop:=∃a6 cs e fr,o= .cells cs e fr/\cs[0]? =some a6/\(a6= .nilIface\/∃GC GD,a6= .iface GC GD)
def CY (o:Obj):Prop:=∃e fr,o= .cells ((range 20).map λi=>Value.int .u64 ((10^i:Nat):Int)).toArray e fr
def CZ:List (Nat×(Obj->Prop)):=[(2,GB),(1,CY)]
def rf (w:World) (X:Nat->Prop):Prop:=∀p∈CZ,p.1<w.heap.size/\¬X p.1/\∃o,w.heap[p.1]? =some o/\p.2 o
theorem rf.next {w aq:World} {X Y:Nat->Prop} (h:rf w X) (U:w.heap.size<=aq.heap.size) (R:∀b,b<w.heap.size->¬X b->aq.heap[b]? =w.heap[b]?) (hy:∀b,Y b->X b\/w.heap.size<=b):rf aq Y:=λp al=>by
 obtain⟨h1,ab,o,ay,aT⟩:=h p al;refine⟨Nat.lt_of_lt_of_le h1 U,λh=>?_,o,(R _ h1 ab).trans ay,aT⟩;rcases hy _ h with h|h
 .exact ab h
 .omega
structure bq (w0:World) (F0 X F:Nat->Prop) (S:Nat->Nat->Prop) (s:an) (au:Nat->Value) (w:World):Prop where
 fl:∀b,F0 b->F b
 fL:∀b,F b->F0 b\/X b\/w0.heap.size<=b
 dV:∀b,F b->b<w.heap.size
 dh:∀t b,S t b->b<w.heap.size
 ep:∀t b,S t b->¬F b
 ev:∀t u b,t≠u->S t b->¬S u b
 cR:∀t b,S t b->X b\/w0.heap.size<=b
 cD:∀t,aF w F s au (s t) (au t) (S t)
 old:∀b,b<w0.heap.size->¬X b->w.heap[b]? =w0.heap[b]?
 size:w0.heap.size<=w.heap.size
 os:w.os=w0.os
 tape:w.tape=w0.tape
 output:Out w w0
 e4:rf w0 X
section
variable {w0 w aq:World} {F0 X F:Nat->Prop} {S:Nat->Nat->Prop} {s:an} {au:Nat->Value}
theorem bq.grow (h:bq w0 F0 X F S s au w) (R:∀b,b<w.heap.size->aq.heap[b]? =w.heap[b]?) (U:w.heap.size<=aq.heap.size)
  (h1:aq.os=w.os) (ab:aq.tape=w.tape) (ay:Out aq w):bq w0 F0 X F S s au aq where
 fl:=h.fl
 fL:=h.fL
 dV:=λb a8=>Nat.lt_of_lt_of_le (h.dV b a8) U
 dh:=λt b a8=>Nat.lt_of_lt_of_le (h.dh t b a8) U
 ep:=h.ep
 ev:=h.ev
 cR:=h.cR
 cD:=λt=>aF.frame (Sx:=S) (λb a8=>R b (h.dV b a8)) (λ_ h=>h) (λx b bE=>R b (h.dh x b bE)) h.cD _ _ _ (λb bE=>R b (h.dh t b bE)) (h.cD t)
 old:=λb cp iQ=>(R b (Nat.lt_of_lt_of_le cp h.size)).trans (h.old b cp iQ)
 size:=Nat.le_trans h.size U
 os:=h1.trans h.os
 tape:=ab.trans h.tape
 output:=ay.trans h.output
 e4:=h.e4
def fY (S:Nat->Nat->Prop) (t:Nat) (Sn:Nat->Prop):Nat->Nat->Prop:=λu b=>if u=t then Sn b else S u b
theorem zM (S:Nat->Nat->Prop) (t:Nat) (Sn:Nat->Prop):fY S t Sn t=Sn:=by funext b;simp[fY]
theorem zN (S:Nat->Nat->Prop) {t u:Nat} (Sn:Nat->Prop) (h:u≠t):fY S t Sn u=S u:=by funext b;simp[fY,h]
theorem bq.tB (h:bq w0 F0 X F S s au w) {t:Nat} {d:I} {v:Value} (al:d.plain=true) (ae:aF w F s au d v (λ_=>False)):
  bq w0 F0 X F (fY S t (λ_=>False)) (cK s t d) (cK au t v) w where
 fl:=h.fl
 fL:=h.fL
 dV:=h.dV
 dh:=λu b R=>by simp only[fY]at R;split at R;exact R.elim;exact h.dh u b R
 ep:=λu b R=>by simp only[fY]at R;split at R;exact R.elim;exact h.ep u b R
 ev:=λu x b cI R ag=>by
  simp only[fY]at R ag;split at R
  .exact R.elim
  .split at ag
   .exact ag.elim
   .exact h.ev u x b cI R ag
 cR:=λu b R=>by simp only[fY]at R;split at R;exact R.elim;exact h.cR u b R
 cD:=λu=>by
  have gY:∀x,x≠t->(cK s t d x).tree=true->cK s t d x=s x/\cK au t v x=au x:=λx ag _=>⟨ju _ _ ag,ju _ _ ag⟩
  have qg:(cK s t d t).plain=true:=by rw[nv];exact al
  by_cases hu:u=t
  .subst hu;rw[nv,nv,zM];exact(aF.void gY qg _).1 _ _ _ (Nat.le_refl _) ae
  .rw[ju _ _ hu,ju _ _ hu,zN _ _ hu];exact(aF.void gY qg _).1 _ _ _ (Nat.le_refl _) (h.cD u)
 old:=h.old
 size:=h.size
 os:=h.os
 tape:=h.tape
 output:=h.output
 e4:=h.e4
theorem bq.C0 (h:bq w0 F0 X F S s au w) {t:Nat} {d:I} {v:Value} {Sn:Nat->Prop} (ae:d.tree=true) (U:c7 d v) (aD:ar w F d (bZ v) Sn)
  (cp:∀b,Sn b->b<w.heap.size) (a8:∀b,Sn b->¬F b) (bE:∀u b,u≠t->Sn b->¬S u b) (ba:∀b,Sn b->X b\/w0.heap.size<=b):
  bq w0 F0 X F (fY S t Sn) (cK (k8 t s) t d) (cK au t v) w where
 fl:=h.fl
 fL:=h.fL
 dV:=h.dV
 dh:=λu b R=>by simp only[fY]at R;split at R;exact cp b R;exact h.dh u b R
 ep:=λu b R=>by simp only[fY]at R;split at R;exact a8 b R;exact h.ep u b R
 ev:=λu x b cI R ag=>by
  simp only[fY]at R ag;split at R
  .rename_i hu;rw[if_neg (λe=>cI (hu.trans e.symm))]at ag;exact bE x b (λe=>cI (hu.trans e.symm)) R ag
  .rename_i hu;split at ag
   .exact bE u b hu ag R
   .exact h.ev u x b cI R ag
 cR:=λu b R=>by simp only[fY]at R;split at R;exact ba b R;exact h.cR u b R
 cD:=λu=>by
  have gY:∀x,x≠t->(cK (k8 t s) t d x).tree=true->cK (k8 t s) t d x=s x/\cK au t v x=au x:=λx ag aL=>by
   rw[ju _ _ ag]at aL⊢;exact⟨(V2 aL).2,ju _ _ ag⟩
  by_cases hu:u=t
  .subst hu;rw[nv,nv,zM];exact(aF.b_ ae).2 ⟨U,aD⟩
  .rw[ju _ _ hu,ju _ _ hu,zN _ _ hu];exact(aF.cu gY _).1 _ _ _ (Nat.le_refl _) (h.cD u)
 old:=h.old
 size:=h.size
 os:=h.os
 tape:=h.tape
 output:=h.output
 e4:=h.e4
theorem tC (k:Nat) (q:anU) (bf x:I):(∃aC gs,x= .agg aC/\I.put (k::q) bf x= .agg gs)\/(∃aC gs,x= .tuple aC/\I.put (k::q) bf x= .tuple gs)\/
  (∃sz xs ys,x= .ah sz xs/\I.put (k::q) bf x= .ah sz ys)\/(∃y z,x= .aV y/\I.put (k::q) bf x= .aV z)\/I.put (k::q) bf x=x:=by
 cases x with
 |agg aC=>simp only[I.put];split<;>exact .inl ⟨_,_,rfl,rfl⟩
 |tuple aC=>simp only[I.put];split<;>exact .inr (.inl ⟨_,_,rfl,rfl⟩)
 |ah sz aC=>simp only[I.put];split<;>exact .inr (.inr (.inl ⟨_,_,_,rfl,rfl⟩))
 |aV y=>cases k<;>exact .inr (.inr (.inr (.inl ⟨_,_,rfl,rfl⟩)))
 |_=>exact .inr (.inr (.inr (.inr rfl)))
theorem MQ {k:Nat} {q:anU} {bf x:I} {v:Value} (h:ie x v):ie (I.put (k::q) bf x) v:=by
 rcases tC k q bf x with⟨aC,gs,rfl,e⟩|⟨aC,gs,rfl,e⟩|⟨sz,xs,ys,rfl,e⟩|⟨y,z,rfl,e⟩|e<;>rw[e]<;>exact h
theorem MR {k:Nat} {q:anU} {bf x:I} (h:∀vs,x≠.tuple vs):∀vs,I.put (k::q) bf x≠.tuple vs:=by
 rcases tC k q bf x with⟨aC,gs,rfl,e⟩|⟨aC,gs,rfl,e⟩|⟨sz,xs,ys,rfl,e⟩|⟨y,z,rfl,e⟩|e<;>rw[e]<;>first|exact h|(intro vs bn;cases bn;done)|exact(h _ rfl).elim
theorem zO {k:Nat} {q:anU} {d bf av:I} {v:Value} (h:c7 av v) (ae:I.sub (k::q) av=some d) (h1:∀v,ie d v->ie bf v) (ab:(∀vs,d≠.tuple vs)->∀vs,bf≠.tuple vs) (ay:bf.wd=d.wd):
  c7 (I.put (k::q) bf av) v:=by
 cases av with
 |tuple aC=>
  simp only[I.sub]at ae;split at ae
  .rename_i x ag;simp only[I.put,ag];simp only[c7]at h⊢;obtain⟨arr,rfl,bC,ja⟩:=h;refine⟨arr,rfl,by simpa using bC,λj e y he hy=>?_⟩;rw[getElem?_set]at he;split at he
   .rename_i GF;subst GF;split at he
    .simp only[some.injEq]at he;subst he;obtain⟨g1,g2,g3⟩:=ja k x y ag hy;refine⟨?_,?_,g3.trans (I.xl q x d bf ae ay).symm⟩
     .cases q with
      |nil=>
       simp only[I.sub,some.injEq]at ae;subst ae;exact h1 _ g1
      |cons b2 q=>exact MQ g1
     .cases q with
      |nil=>
       simp only[I.sub,some.injEq]at ae;subst ae;exact ab g2
      |cons b2 q=>exact MR g2
    .cases he
   .exact ja j e y he hy
  .cases ae
 |agg aC=>simp only[I.put];split<;>exact h
 |ah sz aC=>simp only[I.put];split<;>exact h
 |aV y=>cases k<;>exact h
 |_=>exact h
theorem GG {d:I} {v:Value} (h:ie d v):ie d.cJ v:=by cases d<;>exact h
theorem MS {s:an} {x:Nat} {q:anU} {d:I} (ae:I.sub q (s x)=some d) (al:d.plain=false):
  (cK (hM x s) x (I.put q d.cJ (s x)) x).plain=false->(s x).plain=false/\∀v,c7 (s x) v->c7 (cK (hM x s) x (I.put q d.cJ (s x)) x) v:=by
  rw[nv];intro eA;cases q with
  |nil=>
   exfalso;have:∀d:I,d.cJ.plain=true:=by
    intro d;have key:∀n,(∀d:I,SizeOf.sizeOf d<=n->d.cJ.plain=true)/\(∀ds:anZ,SizeOf.sizeOf ds<=n->I.dS (I.mg ds)=true):=by
     intro n;induction n with
     |zero=>exact⟨λd bC=>by cases d<;>simp at bC<;>omega,λds bC=>by cases ds<;>simp at bC<;>omega⟩
     |succ n ih=>
      refine⟨λd bC=>?_,λds bC=>?_⟩
      .cases d with
       |agg aC=>simp only[I.cJ,I.plain];exact ih.2 _ (by simp at bC;omega)
       |tuple aC=>simp only[I.cJ,I.plain];exact ih.2 _ (by simp at bC;omega)
       |_=>rfl
      .cases ds with
       |nil=>rfl
       |cons d ds=>
        simp at bC;simp only[I.mg,I.dS,Bool.and_eq_true];exact⟨ih.1 _ (by omega),ih.2 _ (by omega)⟩
    exact(key _).1 d (Nat.le_refl _)
   simp only[I.put]at eA;rw[this]at eA;cases eA
  |cons k q=>
   refine⟨?_,λv aD=>zO aD ae (λv h=>GG h) (λh vs e=>?_) (I.tA d)⟩
   .cases cb:(s x).plain with
    |false=>rfl
    |true=>rw[I.Gw _ _ _ cb ae]at al;cases al
   .cases d<;>first|(exact h _ rfl)|(simp[I.cJ]at e)
theorem bq.take (h:bq w0 F0 X F S s au w) {x:Nat} {q:anU} {d:I} (ae:I.sub q (s x)=some d) (al:d.plain=false):
  ∃(Sn fg:Nat->Prop) (cx:anX) (a:Option (Nat×Nat)),bq w0 F0 X F (fY S x Sn) (cK (hM x s) x (I.put q d.cJ (s x))) au w/\
   c6 w q (s x) (bZ (au x)) none=some (d,cx,a)/\ar w F d cx fg/\(∀b,fg b->S x b)/\(∀b,Sn b->S x b)/\(∀b,fg b->¬Sn b)/\
   (∀(bf:I) (v:Value) (aJ:Nat->Prop),aF w F s au bf v aJ->aF w F (cK (hM x s) x (I.put q d.cJ (s x))) au (cC.b4 x bf) v aJ):=by
 have aL:=hL ae (.inl al);have ag:=h.cD x;rw[aF.b_ aL]at ag;obtain⟨cx,a,dI,fg,g0,g1,g2,g3,g4,g5⟩:=ctx q (s x) (bZ (au x)) (S x) none d ag.2 ae;have j4:ar w F (I.put q d.cJ (s x)) (bZ (au x)) dI:=by
  have hN:ar w F d.cJ cx (λ_=>False):=ar.cJ _ _ _ _ g4;have og:∀b,(dI b\/False)->dI b:=λb h=>h.elim id False.elim;rcases g5 with⟨l,r,aI,aM,aP⟩|⟨b,cur,e,fr,l,r,aI,aM,aP,bK,cg,bP⟩
  .have:=aP w _ cx _ (λ_ _=>rfl) (λ_ _=>rfl) (I.tA d) hN (λ_ h=>h.elim);rw[<-aI]at this;exact ar.mono (λ_ h=>h) _ _ _ _ og this
  .have:=bP w _ cx _ (λ_ _=>rfl) (λ_ _ _=>rfl) (by rw[aP,<-cg]) (I.tA d) hN (λ_ h=>h.elim);exact ar.mono (λ_ h=>h) _ _ _ _ og this
 have V3:c7 (I.put q d.cJ (s x)) (au x)/\(I.put q d.cJ (s x)).tree=true\/I.put q d.cJ (s x)= .hole:=by
  cases q with
  |nil=>
   simp only[I.sub,some.injEq]at ae;subst ae;simp only[I.put];cases U:s x with
   |ah sz xs=>right;rfl
   |aV y=>right;rfl
   |cc y=>right;rfl
   |agg aC=>left;rw[U]at ag;exact⟨ag.1,rfl⟩
   |tuple aC=>
    left;rw[U]at ag;refine⟨?_,rfl⟩;simp only[c7,I.cJ]at ag⊢;obtain⟨arr,e,bC,ja⟩:=ag.1;have hl:∀aC:anZ,I.mg aC=aC.map I.cJ:=by
     intro aC;induction aC with
     |nil=>rfl
     |cons a aC ih=>simp[I.mg,ih]
    refine⟨arr,e,by rw[hl];simpa using bC,λk gC y he hy=>?_⟩;rw[hl,getElem?_map]at he;cases hk:aC[k]? with
    |none=>rw[hk]at he;cases he
    |some z=>
     rw[hk]at he;simp only[map_some,some.injEq]at he;subst he;obtain⟨g1,g2,g3⟩:=ja k z y hk hy;refine⟨GG g1,λvs e=>?_,g3.trans (I.tA z).symm⟩;cases z<;>first|(exact g2 _ rfl)|(simp[I.cJ]at e)
   |bm _ _=>right;simp[I.cJ]
   |cX _=>right;simp[I.cJ]
   |_=>rw[U]at al;simp[I.plain]at al
  |cons k q=>
   left;refine⟨zO ag.1 ae (λv h=>GG h) (λh vs e=>?_) (I.tA d),?_⟩
   .cases d<;>first|(exact h _ rfl)|(simp[I.cJ]at e)
   .rcases tC k q d.cJ (s x)with⟨aC,gs,aI,e⟩|⟨aC,gs,aI,e⟩|⟨sz,xs,ys,aI,e⟩|⟨y,z,aI,e⟩|e<;>rw[e]<;>first|rfl|exact aL
 refine⟨dI,fg,cx,a,?_,g0,g4,g2,g1,λb h1 ab=>g3 b ab h1,?_⟩
 rotate_left
 .have gY:∀y,y≠x->(cK (hM x s) x (I.put q d.cJ (s x)) y).tree=true->cK (hM x s) x (I.put q d.cJ (s x)) y=s y/\au y=au y:=λy hy aL=>by
   rw[ju _ _ hy]at aL⊢;exact⟨(CX aL).2,rfl⟩
  intro bf v aJ gq;exact(aF.b4 gY rfl (MS ae al) (λ_ _ _ _ _ _=>rfl) (λ_ _=>rfl) _).1 _ _ _ (Nat.le_refl _) (λ_ _=>rfl) gq
 have gY:∀y,y≠x->(cK (hM x s) x (I.put q d.cJ (s x)) y).tree=true->cK (hM x s) x (I.put q d.cJ (s x)) y=s y/\au y=au y:=λy hy aL=>by
  rw[ju _ _ hy]at aL⊢;exact⟨(CX aL).2,rfl⟩
 have fO:=MS (s:=s) (x:=x) ae al;constructor;case fl=>exact h.fl
 case fL=>exact h.fL
 case dV=>exact h.dV
 case dh=>exact λu b R=>by simp only[fY]at R;split at R;exact h.dh x b (g1 b R);exact h.dh u b R
 case ep=>exact λu b R=>by simp only[fY]at R;split at R;exact h.ep x b (g1 b R);exact h.ep u b R
 case ev=>
  intro u y b cI R hy;simp only[fY]at R hy;split at R
  .rename_i hu;rw[if_neg (λe=>cI (hu.trans e.symm))]at hy;exact h.ev x y b (λe=>cI (hu.trans e)) (g1 b R) hy
  .rename_i hu;split at hy
   .exact h.ev u x b hu R (g1 b hy)
   .exact h.ev u y b cI R hy
 case cR=>exact λu b R=>by simp only[fY]at R;split at R;exact h.cR x b (g1 b R);exact h.cR u b R
 case cD=>
  intro u;by_cases hu:u=x
  .subst hu;rw[nv,zM];rcases V3 with⟨aI,aM⟩|e
   .exact(aF.b_ aM).2 ⟨aI,j4⟩
   .rw[e,aF];trivial
  .rw[ju _ _ hu,zN _ _ hu];exact(aF.b4 gY rfl fO (λ_ _ _ _ _ _=>rfl) (λ_ _=>rfl) _).1 _ _ _ (Nat.le_refl _) (λ_ _=>rfl) (h.cD u)
 case old=>exact h.old
 case size=>exact h.size
 case os=>exact h.os
 case tape=>exact h.tape
 case output=>exact h.output
 case e4=>exact h.e4
theorem bq.store (h:bq w0 F0 X F S s au w) {x:Nat} {q:anU} {d bf:I} (ae:I.sub q (s x)=some d) (ai:I.fy q (s x)=true)
  {fI:anX} {Sn:Nat->Prop} (aD:ar w F bf fI Sn) (k6:bf.wd=d.wd)
  (cp:∀b,Sn b->b<w.heap.size) (a8:∀b,Sn b->¬F b) (bE:∀u b,Sn b->¬S u b) (ba:∀b,Sn b->X b\/w0.heap.size<=b):
  ∃(cx:anX) (b:Nat) (l r:anX) (cur:Array Value) (e:TypeId) (fr:Nat×Nat),c6 w q (s x) (bZ (au x)) none=some (d,cx,some (b,l.length))/\
   w.heap[b]? =some (.cells cur e fr)/\cur.toList=l++(cx++r)/\lH fr cur.size/\
   ∀aq,aq.heap[b]? =some (.cells (l++(fI++r)).toArray e fr)->(∀c,c≠b->aq.heap[c]? =w.heap[c]?)->aq.heap.size=w.heap.size->aq.os=w.os->aq.tape=w.tape->Out aq w->
    ∃aJ,bq w0 F0 X F aJ (cK (hM x s) x (I.put q bf (s x))) au aq:=by
 have aL:=hL ae (.inr ai);have ag:=h.cD x;rw[aF.b_ aL]at ag;obtain⟨cx,a,dI,fg,g0,g1,g2,g3,g4,g5⟩:=ctx q (s x) (bZ (au x)) (S x) none d ag.2 ae;have V4:Deep w F q (s x) (bZ (au x)) d cx a dI:=by
  rcases g5 with⟨l,r,aI,aM,aP⟩|g5
  .exfalso;have iR:∀(q:anU) (av:I) (cs:anX) (a0:Option (Nat×Nat)) (d:I) (cx:anX),I.fy q av=true->c6 w q av cs a0=some (d,cx,none)->False:=by
    intro q;induction q with
    |nil=>intro av cs a0 d cx ai;simp[I.fy]at ai
    |cons k q ih=>
     have MT:∀(q:anU) (av:I) (cs:anX) (l:Nat×Nat) (d:I) (cx:anX),c6 w q av cs (some l)=some (d,cx,none)->False:=by
      intro q;induction q with
      |nil=>intro av cs l d cx h;simp[c6]at h
      |cons k q C1=>
       intro av cs l d cx h;cases av with
       |agg aC=>rw[c6]at h;split at h;exact C1 _ _ _ _ _ h;cases h
       |tuple aC=>rw[c6]at h;split at h;exact C1 _ _ _ _ _ h;cases h
       |ah sz xs=>simp only[c6]at h;split at h;exact C1 _ _ _ _ _ h;cases h
       |aV y=>
        cases k with
        |zero=>rw[c6.eq_def]at h;simp only at h;split at h;exact C1 _ _ _ _ _ h;cases h
        |succ k=>rw[show c6 w ((k+1)::q) (.aV y) cs (some l)=none from rfl]at h;cases h
       |_=>simp[c6]at h
     intro av cs a0 d cx ai h;cases av with
     |agg aC=>
      simp only[I.fy]at ai;split at ai
      .rename_i y hy;simp only[c6,hy]at h;exact ih _ _ _ _ _ ai h
      .cases ai
     |tuple aC=>
      simp only[I.fy]at ai;split at ai
      .rename_i y hy;simp only[c6,hy]at h;exact ih _ _ _ _ _ ai h
      .cases ai
     |ah sz xs=>simp only[c6]at h;split at h;exact MT _ _ _ _ _ _ h;cases h
     |aV y=>
      cases k with
      |zero=>rw[c6.eq_def]at h;simp only at h;split at h;exact MT _ _ _ _ _ _ h;cases h
      |succ k=>rw[show c6 w ((k+1)::q) (.aV y) cs a0=none from rfl]at h;cases h
     |_=>simp[I.fy]at ai
   simp only[map_none]at aM;subst aM;exact iR _ _ _ _ _ _ ai g0
  .exact g5
 obtain⟨b,cur,e,fr,l,r,rfl,aM,aP,bK,cg,bP⟩:=V4;refine⟨cx,b,l,r,cur,e,fr,g0,aP,cg,bK,?_⟩;intro aq iA mO dr oU GH vb;have vc:S x b:=g1 _ aM;have rh:∀c,F c->aq.heap[c]? =w.heap[c]? :=λc ai=>mO c (by rintro rfl;exact h.ep x _ vc ai);have amc:fI.length=cx.length:=by rw[ar.length _ _ _ aD,ar.length _ _ _ g4,k6]
 have j4:=bP aq bf fI Sn rh (λc _ cI=>mO c cI) iA k6
  (ar.frame rh _ _ _ (λc ai=>mO c (by rintro rfl;exact bE x _ ai vc)) aD) (λc ai og=>bE x c ai (g1 _ og))
 obtain⟨k,ig,rfl⟩:∃k ig,q=k::ig:=by
  cases q with
  |nil=>simp[I.fy]at ai
  |cons k q=>exact⟨k,q,rfl⟩
 have zP:∀v,c7 (s x) v->c7 (I.put (k::ig) bf (s x)) v:=by
  intro v aD;rcases tC k ig bf (s x)with⟨aC,gs,aI,e⟩|⟨aC,gs,aI,e⟩|⟨sz,xs,ys,aI,e⟩|⟨y,z,aI,e⟩|e
  .rw[e];rw[aI]at aD;exact aD
  ·
   rw[aI]at aD ae ai⊢;simp only[I.fy]at ai;split at ai
   .rename_i y hy;simp only[I.put,hy];cases ig with
    |nil=>simp[I.fy]at ai
    |cons b2 eB=>
     simp only[c7]at aD⊢;obtain⟨arr,rfl,bC,ja⟩:=aD;refine⟨arr,rfl,by simpa using bC,λj e lJ he vd=>?_⟩;rw[getElem?_set]at he;split at he
     .rename_i GF;subst GF;split at he
      .simp only[some.injEq]at he;subst he;obtain⟨g1,g2,g3⟩:=ja _ y lJ hy vd;simp only[I.sub,hy]at ae;exact⟨MQ g1,MR g2,g3.trans (I.xl (b2::eB) y d bf ae k6).symm⟩
      .cases he
     .exact ja j e lJ he vd
   .cases ai
  .rw[e];rw[aI]at aD;exact aD
  .rw[e];rw[aI]at aD;exact aD
  .rw[e];exact aD
 have V5:(I.put (k::ig) bf (s x)).tree=true:=by
  rcases tC k ig bf (s x)with⟨aC,gs,aI,e⟩|⟨aC,gs,aI,e⟩|⟨sz,xs,ys,aI,e⟩|⟨y,z,aI,e⟩|e<;>rw[e]<;>first|rfl|exact aL
 let aA:=cK (hM x s) x (I.put (k::ig) bf (s x))
 have gY:∀y,y≠x->(aA y).tree=true->aA y=s y/\au y=au y:=λy hy aL=>by
  have e:aA y=b4 x (s y):=ju _ _ hy;rw[e]at aL⊢;exact⟨(CX aL).2,rfl⟩
 have fO:(aA x).plain=false->(s x).plain=false/\∀v,c7 (s x) v->c7 (aA x) v:=by
  intro _;refine⟨?_,?_⟩
  .cases cb:(s x).plain with
   |false=>rfl
   |true=>rw[I.MO _ _ cb]at ai;cases ai
  .simp only[aA,nv];exact zP
 refine⟨fY S x (λc=>dI c\/Sn c),?_⟩;constructor;case fl=>exact h.fl
 case fL=>exact h.fL
 case dV=>exact λb R=>by rw[dr];exact h.dV b R
 case dh=>
  intro u c R;rw[dr];simp only[fY]at R;split at R
  .rcases R with R|R
   .exact h.dh x c (g1 c R)
   .exact cp c R
  .exact h.dh u c R
 case ep=>
  intro u c R;simp only[fY]at R;split at R
  .rcases R with R|R
   .exact h.ep x c (g1 c R)
   .exact a8 c R
  .exact h.ep u c R
 case ev=>
  intro u y c cI R hy;simp only[fY]at R hy;split at R
  .rename_i hu;rw[if_neg (λe=>cI (hu.trans e.symm))]at hy;rcases R with R|R
   .exact h.ev x y c (λe=>cI (hu.trans e)) (g1 c R) hy
   .exact bE y c R hy
  .rename_i hu;split at hy
   .rcases hy with hy|hy
    .exact h.ev u x c hu R (g1 c hy)
    .exact bE u c hy R
   .exact h.ev u y c cI R hy
 case cR=>
  intro u c R;simp only[fY]at R;split at R
  .rcases R with R|R
   .exact h.cR x c (g1 c R)
   .exact ba c R
  .exact h.cR u c R
 case cD=>
  intro u;by_cases hu:u=x
  .subst hu;rw[nv,zM];exact(aF.b_ V5).2 ⟨zP _ ag.1,j4⟩
  .rw[ju _ _ hu,zN _ _ hu];have cI:∀y c,y≠x->S y c->aq.heap[c]? =w.heap[c]? :=λy c hy ai=>mO c (by rintro rfl;exact h.ev y x c hy ai vc);refine(aF.b4 gY rfl fO (λy eB d2 hy fP ri=>?_) rh _).1 _ _ _ (Nat.le_refl _) (λc ai=>cI u c hu ai) (h.cD u);have zQ:=h.cD y;rw[aF.b_ (hL fP ri)]at zQ;exact CW eB _ _ _ none d2 zQ.2 fP (λc ai=>cI y c hy ai)
 case old=>
  intro c cp iQ;by_cases tD:c=b
  .subst tD;exfalso;rcases h.cR x c vc with hN|hN
   .exact iQ hN
   .omega
  .exact(mO c tD).trans (h.old c cp iQ)
 case size=>rw[dr];exact h.size
 case os=>exact oU.trans h.os
 case tape=>exact GH.trans h.tape
 case output=>exact vb.trans h.output
 case e4=>exact h.e4
end
end Go.cC
