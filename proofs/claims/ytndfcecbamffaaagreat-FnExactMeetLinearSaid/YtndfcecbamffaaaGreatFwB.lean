/- Part of a proof that a law returns true for every input. No condition. -/
import Derived.Test.YtndfcecbamffaaaGreatFwA
import Derived.Laws.AppendOwn
import Derived.Calls
namespace Go.dD
open List Option Go.IntKind Nat Or
inductive xY where
 |mp (es:gk)
 |h6
 |ix (T e:TypeId) (bs:ahz)
inductive I where
 |hole
 |bool (b:Bool)
 |fo
 |int (k:IntKind) (n:Int)
 |str (s:ahz)
 |dM
 |ah
 |slice (xs:List I)
 |ad (sz:Nat) (xs:List I)
 |ref (d:I)
 |ai (d:I)
 |agg (aG:List I)
 |tuple (vs:List I)
 |fn (f:FuncId) (cap:List I)
 |h (x:Nat) (q:ahC)
 |aw (x:Nat) (q:ahC)
 |U (x:Nat) (k:Nat)
 |dN (o:xY)
 |eQ (f:FuncId) (cap:List I)
 |gC (d:I)
 deriving Inhabited
abbrev ahI:=List I
abbrev ahH:=List (Nat×I)
mutual
def I.wd:I->Nat
 | .agg aG=>I.dO aG
 | .tuple aG=>I.dO aG
 |_=>1
def I.dO:ahI->Nat
 |[]=>0
 |d::ds=>d.wd+I.dO ds
end
def hk (w:World) (b o:Nat) (cs:ahF):Prop:=∀az c,cs[az]? =some c->w.cell? ⟨b,o+az,none⟩=some c
def nm (fr:Nat×Nat) (n:Nat):Prop:=∀o,o<n->¬(fr.1<=o/\o<fr.2)
theorem nm.le {fr:Nat×Nat} {m n:Nat} (h:nm fr n) (hm:m<=n):nm fr m:=λo b_=>h o (Nat.lt_of_lt_of_le b_ hm)
theorem nm.low {fr:Nat×Nat} {n k:Nat} (h:nm fr (n+k)):nm fr n:=h.le (le_add_right _ _)
def Value.fN:Value->Bool
 | .agg _=>false
 | .tuple _=>false
 |_=>true
def I.single:I->Bool
 | .agg _=>false
 | .tuple _=>false
 | .hole=>false
 |_=>true
def I.one:I->Bool
 | .agg _=>false
 | .tuple _=>false
 |_=>true
def mo (w:World):xY->ahF->(Nat->Prop)->Prop
 | .mp es,cs,S=>∃r ms nn,cs=[.map (some r)]/\S r/\w.heap[r]? =some (.map ms nn)/\ms.toList.map (λe=>(e.key,e.val))=es.map (λe=>(.string ⟨⟨e.1⟩⟩,.bool e.2))
 | .h6,cs,_=>cs=[.map none]
 | .ix T e bs,cs,S=>∃b a tR,cs=[.pointer (some ⟨b,0,none⟩)]/\S b/\w.heap[b]? =some (.cells #[a,tR] T (0,0))/\(a= .pointer none\/a= .pointer (some ⟨b,0,none⟩))/\
   ((bs=[]/\tR= .slice none 0 0)\/
     ∃g cap cur,tR= .slice (some ⟨g,0,none⟩) bs.length cap/\S g/\g≠b/\w.heap[g]? =some (.cells cur e (0,0))/\bs.length<=cap/\cap<=maxLen/\cur.size=cap/\
      cur.toList.take bs.length=bs.map λx=>.int .u8 x.toNat)
theorem mo.frame {w aK:World}:∀{o:xY} {cs:ahF} {S:Nat->Prop},(∀b,S b->aK.heap[b]? =w.heap[b]?)->mo w o cs S->mo aK o cs S
 | .mp _,_,_,bN,⟨r,ms,nn,af,ag,aJ,a_⟩=>⟨r,ms,nn,af,ag,(bN _ ag).trans aJ,a_⟩
 | .h6,_,_,_,h=>h
 | .ix _ _ _,_,_,bN,⟨b,a,tR,af,ag,aJ,a_,bC⟩=>⟨b,a,tR,af,ag,(bN _ ag).trans aJ,a_,bC.imp (λh=>h) λ⟨g,cap,cur,sx,pt,tS,DT,xZ⟩=>⟨g,cap,cur,sx,pt,tS,(bN _ pt).trans DT,xZ⟩⟩
theorem mo.mono {w:World}:∀{o:xY} {cs:ahF} {S aS:Nat->Prop},(∀b,S b->aS b)->mo w o cs S->mo w o cs aS
 | .mp _,_,_,_,bN,⟨r,ms,nn,af,ag,aJ⟩=>⟨r,ms,nn,af,bN _ ag,aJ⟩
 | .h6,_,_,_,_,h=>h
 | .ix _ _ _,_,_,_,bN,⟨b,a,tR,af,ag,aJ,a_,bC⟩=>⟨b,a,tR,af,bN _ ag,aJ,a_,bC.imp (λh=>h) λ⟨g,cap,cur,sx,pt,tS⟩=>⟨g,cap,cur,sx,bN _ pt,tS⟩⟩
theorem mo.one {w:World}:∀{o:xY} {cs:ahF} {S:Nat->Prop},mo w o cs S->∃v,Value.fN v=true/\cs=[v]
 | .mp _,_,_,⟨_,_,_,h,_⟩=>⟨_,rfl,h⟩
 | .h6,_,_,h=>⟨_,rfl,h⟩
 | .ix _ _ _,_,_,⟨_,_,_,h,_⟩=>⟨_,rfl,h⟩
mutual
def ay (w:World) (F:Nat->Prop):I->ahF->(Nat->Prop)->Prop
 | .hole,cs,_=>∃v,Value.fN v=true/\cs=[v]
 | .bool b,cs,_=>cs=[.bool b]
 | .fo,cs,_=>∃b,cs=[.bool b]
 | .int k n,cs,_=>cs=[.int k n]
 | .str s,cs,_=>cs=[.string ⟨⟨s⟩⟩]
 | .dM,cs,_=>cs=[.pointer none]
 | .ah,cs,_=>cs=[.slice none 0 0]
 | .slice xs,cs,_=>(xs=[]/\∃a c,cs=[.slice a 0 c]/\c<=maxLen/\(a=none->c=0))\/
   ∃b o cap eA sz,cs=[.slice (some ⟨b,o,none⟩) xs.length cap]/\F b/\xs.length<=cap/\cap<=maxLen/\(∀d∈xs,d.wd=sz)/\
    hk w b o eA/\bh w F xs eA (λ_=>False)
 | .ad sz xs,cs,S=>(xs=[]/\∃a,cs=[.slice a 0 0])\/
   ∃b cap cur e fr aS,cs=[.slice (some ⟨b,0,none⟩) xs.length cap]/\S b/\w.heap[b]? =some (.cells cur e fr)/\nm fr (cur.size+(sz-1))/\
    xs.length<=cap/\cap<=maxLen/\cur.size=cap*sz/\(∀d∈xs,d.wd=sz)/\bh w F xs (cur.toList.take (xs.length*sz)) aS/\(∀c,aS c->S c)/\¬aS b
 | .ref d,cs,_=>∃b o eA,cs=[.pointer (some ⟨b,o,none⟩)]/\F b/\hk w b o eA/\ay w F d eA (λ_=>False)
 | .ai d,cs,S=>∃b cur e fr aS,cs=[.pointer (some ⟨b,0,none⟩)]/\S b/\w.heap[b]? =some (.cells cur e fr)/\nm fr cur.size/\
   ay w F d cur.toList aS/\(∀c,aS c->S c)/\¬aS b
 | .agg aG,cs,S=>bh w F aG cs S
 | .tuple aG,cs,S=>bh w F aG cs S
 | .fn f caps,cs,_=>∃arr:Array Value,cs=[.func (.func f) #[] arr]/\(∀d∈caps,d.single=true)/\bh w F caps arr.toList (λ_=>False)
 | .h _ _,_,_=>False
 | .aw _ _,_,_=>False
 | .U _ _,_,_=>False
 | .dN o,cs,S=>mo w o cs S
 | .eQ f caps,cs,S=>∃arr:Array Value,cs=[.func (.func f) #[] arr]/\(∀d∈caps,d.one=true)/\bh w F caps arr.toList S
 | .gC d,cs,S=>∃b v e fr,cs=[.pointer (some ⟨b,0,none⟩)]/\F b/\w.heap[b]? =some (.cells #[v] e fr)/\ay w F d [v] S
def bh (w:World) (F:Nat->Prop):ahI->ahF->(Nat->Prop)->Prop
 |[],cs,_=>cs=[]
 |d::ds,cs,S=>∃b1 cd ck dq,cs=b1++cd/\ay w F d b1 ck/\bh w F ds cd dq/\(∀b,ck b->S b)/\(∀b,dq b->S b)/\(∀b,ck b->¬dq b)
end
theorem cell?_of_block {w aK:World} {b:Nat} (h:aK.heap[b]? =w.heap[b]?) (o:Nat):aK.cell? ⟨b,o,none⟩=w.cell? ⟨b,o,none⟩:=by
 simp[World.cell?,h]
theorem hk.frame {w aK:World} {b o:Nat} {cs:ahF} (h:aK.heap[b]? =w.heap[b]?) (aV:hk w b o cs):hk aK b o cs:=
 λaz c aC=>(cell?_of_block h _).trans (aV az c aC)
mutual
theorem ay.frame {w aK:World} {F:Nat->Prop} (bm:∀b,F b->aK.heap[b]? =w.heap[b]?):
  ∀(d:I) (cs:ahF) (S:Nat->Prop),(∀b,S b->aK.heap[b]? =w.heap[b]?)->ay w F d cs S->ay aK F d cs S
 | .hole,_,_,_,h=>h
 | .bool _,_,_,_,h=>h
 | .fo,_,_,_,h=>h
 | .int _ _,_,_,_,h=>h
 | .str _,_,_,_,h=>h
 | .dM,_,_,_,h=>h
 | .ah,_,_,_,h=>h
 | .slice xs,cs,S,bN,h=>by
   rw[ay]at h⊢;rcases h with h|⟨b,o,cap,eA,sz,af,ag,aJ,a_,bC,cw,cQ⟩
   .exact .inl h
   .exact .inr ⟨b,o,cap,eA,sz,af,ag,aJ,a_,bC,cw.frame (bm _ ag),bh.frame bm xs _ _ (λ_ h=>h.elim) cQ⟩
 | .ad sz xs,cs,S,bN,h=>by
   rw[ay]at h⊢;rcases h with h|⟨b,cap,cur,e,fr,aS,af,ag,aJ,a_,bC,cw,cQ,e3,jq,jG,mq⟩
   .exact .inl h
   .exact .inr ⟨b,cap,cur,e,fr,aS,af,ag,(bN _ ag).trans aJ,a_,bC,cw,cQ,e3,bh.frame bm xs _ _ (λc aC=>bN _ (jG _ aC)) jq,jG,mq⟩
 | .ref d,cs,S,bN,h=>by
   rw[ay]at h⊢;obtain⟨b,o,eA,af,ag,aJ,a_⟩:=h;exact⟨b,o,eA,af,ag,aJ.frame (bm _ ag),ay.frame bm d _ _ (λ_ h=>h.elim) a_⟩
 | .ai d,cs,S,bN,h=>by
   rw[ay]at h⊢;obtain⟨b,cur,e,fr,aS,af,ag,aJ,a_,bC,cw,cQ⟩:=h;exact⟨b,cur,e,fr,aS,af,ag,(bN _ ag).trans aJ,a_,ay.frame bm d _ _ (λc aC=>bN _ (cw _ aC)) bC,cw,cQ⟩
 | .agg aG,cs,S,bN,h=>by rw[ay]at h⊢;exact bh.frame bm aG _ _ bN h
 | .tuple aG,cs,S,bN,h=>by rw[ay]at h⊢;exact bh.frame bm aG _ _ bN h
 | .fn _ caps,cs,S,bN,h=>by
   rw[ay]at h⊢;obtain⟨arr,af,ag,aJ⟩:=h;exact⟨arr,af,ag,bh.frame bm caps _ _ (λ_ h=>h.elim) aJ⟩
 | .h _ _,_,_,_,h=>h
 | .aw _ _,_,_,_,h=>h
 | .U _ _,_,_,_,h=>h
 | .dN _,_,_,bN,h=>mo.frame bN h
 | .eQ _ caps,cs,S,bN,h=>by
   rw[ay]at h⊢;obtain⟨arr,af,ag,aJ⟩:=h;exact⟨arr,af,ag,bh.frame bm caps _ _ bN aJ⟩
 | .gC d,cs,S,bN,h=>by
   rw[ay]at h⊢;obtain⟨b,v,e,fr,af,ag,aJ,a_⟩:=h;exact⟨b,v,e,fr,af,ag,(bm _ ag).trans aJ,ay.frame bm d _ _ bN a_⟩
theorem bh.frame {w aK:World} {F:Nat->Prop} (bm:∀b,F b->aK.heap[b]? =w.heap[b]?):
  ∀(ds:ahI) (cs:ahF) (S:Nat->Prop),(∀b,S b->aK.heap[b]? =w.heap[b]?)->bh w F ds cs S->bh aK F ds cs S
 |[],_,_,_,h=>h
 |d::ds,cs,S,bN,h=>by
  rw[bh]at h⊢;obtain⟨b1,cd,ck,dq,af,ag,aJ,a_,bC,cw⟩:=h;exact⟨b1,cd,ck,dq,af,ay.frame bm d _ _ (λb U=>bN _ (a_ _ U)) ag,bh.frame bm ds _ _ (λb U=>bN _ (bC _ U)) aJ,a_,bC,cw⟩
end
mutual
theorem ay.mono {w:World} {F bJ:Nat->Prop} (bm:∀b,F b->bJ b):
  ∀(d:I) (cs:ahF) (S aS:Nat->Prop),(∀b,S b->aS b)->ay w F d cs S->ay w bJ d cs aS
 | .hole,_,_,_,_,h=>h
 | .bool _,_,_,_,_,h=>h
 | .fo,_,_,_,_,h=>h
 | .int _ _,_,_,_,_,h=>h
 | .str _,_,_,_,_,h=>h
 | .dM,_,_,_,_,h=>h
 | .ah,_,_,_,_,h=>h
 | .slice xs,cs,S,_,bN,h=>by
   rw[ay]at h⊢;rcases h with h|⟨b,o,cap,eA,sz,af,ag,aJ,a_,bC,cw,cQ⟩
   .exact .inl h
   .exact .inr ⟨b,o,cap,eA,sz,af,bm _ ag,aJ,a_,bC,cw,bh.mono bm xs _ _ _ (λ_ h=>h) cQ⟩
 | .ad sz xs,cs,S,_,bN,h=>by
   rw[ay]at h⊢;rcases h with h|⟨b,cap,cur,e,fr,aS,af,ag,aJ,a_,bC,cw,cQ,e3,jq,jG,mq⟩
   .exact .inl h
   .exact .inr ⟨b,cap,cur,e,fr,aS,af,bN _ ag,aJ,a_,bC,cw,cQ,e3,bh.mono bm xs _ _ _ (λ_ h=>h) jq,λc aC=>bN _ (jG _ aC),mq⟩
 | .ref d,cs,S,_,bN,h=>by
   rw[ay]at h⊢;obtain⟨b,o,eA,af,ag,aJ,a_⟩:=h;exact⟨b,o,eA,af,bm _ ag,aJ,ay.mono bm d _ _ _ (λ_ h=>h) a_⟩
 | .ai d,cs,S,_,bN,h=>by
   rw[ay]at h⊢;obtain⟨b,cur,e,fr,aS,af,ag,aJ,a_,bC,cw,cQ⟩:=h;exact⟨b,cur,e,fr,aS,af,bN _ ag,aJ,a_,ay.mono bm d _ _ _ (λ_ h=>h) bC,λc aC=>bN _ (cw _ aC),cQ⟩
 | .agg aG,cs,S,_,bN,h=>by rw[ay]at h⊢;exact bh.mono bm aG _ _ _ bN h
 | .tuple aG,cs,S,_,bN,h=>by rw[ay]at h⊢;exact bh.mono bm aG _ _ _ bN h
 | .fn _ caps,cs,S,_,bN,h=>by
   rw[ay]at h⊢;obtain⟨arr,af,ag,aJ⟩:=h;exact⟨arr,af,ag,bh.mono bm caps _ _ _ (λ_ h=>h) aJ⟩
 | .h _ _,_,_,_,_,h=>h
 | .aw _ _,_,_,_,_,h=>h
 | .U _ _,_,_,_,_,h=>h
 | .dN _,_,_,_,bN,h=>mo.mono bN h
 | .eQ _ caps,cs,S,_,bN,h=>by
   rw[ay]at h⊢;obtain⟨arr,af,ag,aJ⟩:=h;exact⟨arr,af,ag,bh.mono bm caps _ _ _ bN aJ⟩
 | .gC d,cs,S,_,bN,h=>by
   rw[ay]at h⊢;obtain⟨b,v,e,fr,af,ag,aJ,a_⟩:=h;exact⟨b,v,e,fr,af,bm _ ag,aJ,ay.mono bm d _ _ _ bN a_⟩
theorem bh.mono {w:World} {F bJ:Nat->Prop} (bm:∀b,F b->bJ b):
  ∀(ds:ahI) (cs:ahF) (S aS:Nat->Prop),(∀b,S b->aS b)->bh w F ds cs S->bh w bJ ds cs aS
 |[],_,_,_,_,h=>h
 |d::ds,cs,S,_,bN,h=>by
  rw[bh]at h⊢;obtain⟨b1,cd,ck,dq,af,ag,aJ,a_,bC,cw⟩:=h;exact⟨b1,cd,ck,dq,af,ay.mono bm d _ _ _ (λ_ h=>h) ag,bh.mono bm ds _ _ _ (λ_ h=>h) aJ,λb U=>bN _ (a_ _ U),λb U=>bN _ (bC _ U),cw⟩
end
mutual
theorem ay.length {w:World} {F:Nat->Prop}:∀(d:I) (cs:ahF) (S:Nat->Prop),ay w F d cs S->cs.length=d.wd
 | .hole,cs,S,h=>by rw[ay]at h;obtain⟨v,_,rfl⟩:=h;rfl
 | .bool _,cs,S,h=>by rw[ay]at h;subst h;rfl
 | .fo,cs,S,h=>by rw[ay]at h;obtain⟨b,rfl⟩:=h;rfl
 | .int _ _,cs,S,h=>by rw[ay]at h;subst h;rfl
 | .str _,cs,S,h=>by rw[ay]at h;subst h;rfl
 | .dM,cs,S,h=>by rw[ay]at h;subst h;rfl
 | .ah,cs,S,h=>by rw[ay]at h;subst h;rfl
 | .slice xs,cs,S,h=>by
   rw[ay]at h;rcases h with⟨_,a,c,rfl,_⟩|⟨b,o,cap,eA,sz,rfl,_⟩<;>rfl
 | .ad sz xs,cs,S,h=>by
   rw[ay]at h;rcases h with⟨_,a,rfl⟩|⟨b,cap,cur,e,fr,aS,rfl,_⟩<;>rfl
 | .ref d,cs,S,h=>by rw[ay]at h;obtain⟨b,o,eA,rfl,_⟩:=h;rfl
 | .ai d,cs,S,h=>by rw[ay]at h;obtain⟨b,o,eA,_,_,rfl,_⟩:=h;rfl
 | .agg aG,cs,S,h=>by rw[ay]at h;exact bh.length aG _ _ h
 | .tuple aG,cs,S,h=>by rw[ay]at h;exact bh.length aG _ _ h
 | .fn _ _,cs,S,h=>by rw[ay]at h;obtain⟨arr,rfl,_⟩:=h;rfl
 | .h _ _,cs,S,h=>by rw[ay]at h;exact h.elim
 | .aw _ _,cs,S,h=>by rw[ay]at h;exact h.elim
 | .U _ _,cs,S,h=>by rw[ay]at h;exact h.elim
 | .dN _,cs,S,h=>by rw[ay]at h;obtain⟨v,_,rfl⟩:=mo.one h;rfl
 | .eQ _ _,cs,S,h=>by rw[ay]at h;obtain⟨arr,rfl,_⟩:=h;rfl
 | .gC _,cs,S,h=>by rw[ay]at h;obtain⟨b,v,e,fr,rfl,_⟩:=h;rfl
theorem bh.length {w:World} {F:Nat->Prop}:∀(ds:ahI) (cs:ahF) (S:Nat->Prop),bh w F ds cs S->cs.length=I.dO ds
 |[],cs,S,h=>by rw[bh]at h;subst h;rfl
 |d::ds,cs,S,h=>by
  rw[bh]at h;obtain⟨b1,cd,ck,dq,rfl,ag,aJ,_⟩:=h;rw[length_append,ay.length d _ _ ag,bh.length ds _ _ aJ,I.dO]
end
mutual
def I.share:I->I
 | .ad _ xs=>.slice (I.shares xs)
 | .ai d=>.ref d.share
 | .slice xs=>.slice (I.shares xs)
 | .ref d=>.ref d.share
 | .agg aG=>.agg (I.shares aG)
 | .tuple aG=>.tuple (I.shares aG)
 | .dN _=>.hole
 | .eQ _ _=>.hole
 | .gC _=>.hole
 |d=>d
def I.shares:ahI->ahI
 |[]=>[]
 |d::ds=>d.share::I.shares ds
end
theorem I.sy (ds:ahI):I.shares ds=ds.map I.share:=by
 induction ds with
 |nil=>rfl
 |cons d ds ih=>simp[I.shares,ih]
mutual
theorem I.AN:∀d:I,d.share.wd=d.wd
 | .hole=>rfl
 | .bool _=>rfl
 | .fo=>rfl
 | .int _ _=>rfl
 | .str _=>rfl
 | .dM=>rfl
 | .ah=>rfl
 | .slice _=>rfl
 | .ad _ _=>rfl
 | .ref _=>rfl
 | .ai _=>rfl
 | .agg aG=>by simp only[I.share,I.wd];exact I.DU aG
 | .tuple aG=>by simp only[I.share,I.wd];exact I.DU aG
 | .fn _ _=>rfl
 | .h _ _=>rfl
 | .aw _ _=>rfl
 | .U _ _=>rfl
 | .dN _=>rfl
 | .eQ _ _=>rfl
 | .gC _=>rfl
theorem I.DU:∀ds:ahI,I.dO (I.shares ds)=I.dO ds
 |[]=>rfl
 |d::ds=>by simp only[I.shares,I.dO];rw[I.AN d,I.DU ds]
end
theorem vF {w:World} {b:Nat} {cur:Array Value} {e:TypeId} {fr:Nat×Nat} (h:w.heap[b]? =some (.cells cur e fr)) (n:Nat):hk w b 0 (cur.toList.take n):=by
 intro az c aC;rw[getElem?_take]at aC;split at aC
 .simp[World.cell?,h];simpa using aC
 .cases aC
mutual
theorem ay.shared {w:World} {F bJ:Nat->Prop} (bm:∀b,F b->bJ b):
  ∀(d:I) (cs:ahF) (S:Nat->Prop),(∀b,S b->bJ b)->ay w F d cs S->ay w bJ d.share cs (λ_=>False)
 | .hole,_,_,_,h=>h
 | .bool _,_,_,_,h=>h
 | .fo,_,_,_,h=>h
 | .int _ _,_,_,_,h=>h
 | .str _,_,_,_,h=>h
 | .dM,_,_,_,h=>h
 | .ah,_,_,_,h=>h
 | .slice xs,cs,S,bN,h=>by
   rw[I.share,ay];rw[ay]at h;rcases h with⟨rfl,a,c,rfl,aC⟩|⟨b,o,cap,eA,sz,af,ag,aJ,a_,bC,cw,cQ⟩
   .exact .inl ⟨rfl,a,c,rfl,aC⟩
   .refine .inr ⟨b,o,cap,eA,sz,?_,bm _ ag,?_,a_,?_,cw,bh.shared bm xs _ _ (λ_ h=>h.elim) cQ⟩
    .simpa [I.sy]using af
    .simpa [I.sy]using aJ
    .intro d al;rw[I.sy]at al;obtain⟨bz,hn,rfl⟩:=mem_map.1 al;rw[I.AN];exact bC _ hn
 | .ad sz xs,cs,S,bN,h=>by
   rw[I.share,ay];rw[ay]at h;rcases h with⟨rfl,a,rfl⟩|⟨b,cap,cur,e,fr,aS,af,ag,aJ,a_,bC,cw,cQ,e3,jq,jG,mq⟩
   .exact .inl ⟨rfl,a,0,rfl,zero_le _,λ_=>rfl⟩
   .refine .inr ⟨b,0,cap,_,sz,?_,bN _ ag,?_,cw,?_,vF aJ _,bh.shared bm xs _ _ (λc aC=>bN _ (jG _ aC)) jq⟩
    .simpa [I.sy]using af
    .simpa [I.sy]using bC
    .intro d al;rw[I.sy]at al;obtain⟨bz,hn,rfl⟩:=mem_map.1 al;rw[I.AN];exact e3 _ hn
 | .ref d,cs,S,bN,h=>by
   rw[I.share,ay];rw[ay]at h;obtain⟨b,o,eA,af,ag,aJ,a_⟩:=h;exact⟨b,o,eA,af,bm _ ag,aJ,ay.shared bm d _ _ (λ_ h=>h.elim) a_⟩
 | .ai d,cs,S,bN,h=>by
   rw[I.share,ay];rw[ay]at h;obtain⟨b,cur,e,fr,aS,af,ag,aJ,a_,bC,cw,cQ⟩:=h;refine⟨b,0,cur.toList,af,bN _ ag,?_,ay.shared bm d _ _ (λc aC=>bN _ (cw _ aC)) bC⟩;have:=vF aJ cur.toList.length
   rwa [take_length]at this
 | .agg aG,cs,S,bN,h=>by rw[I.share,ay];rw[ay]at h;exact bh.shared bm aG _ _ bN h
 | .tuple aG,cs,S,bN,h=>by rw[I.share,ay];rw[ay]at h;exact bh.shared bm aG _ _ bN h
 | .fn f caps,cs,S,bN,h=>by
   show ay w bJ (.fn f caps) cs _;rw[ay]at h⊢;obtain⟨arr,af,ag,aJ⟩:=h;exact⟨arr,af,ag,bh.mono bm caps _ _ _ (λ_ h=>h) aJ⟩
 | .h _ _,_,_,_,h=>h
 | .aw _ _,_,_,_,h=>h
 | .U _ _,_,_,_,h=>h
 | .dN _,cs,S,bN,h=>by rw[ay]at h;rw[I.share,ay];exact mo.one h
 | .eQ _ _,cs,S,bN,h=>by rw[ay]at h;obtain⟨arr,rfl,_⟩:=h;rw[I.share,ay];exact⟨_,rfl,rfl⟩
 | .gC _,cs,S,bN,h=>by rw[ay]at h;obtain⟨b,v,e,fr,rfl,_⟩:=h;rw[I.share,ay];exact⟨_,rfl,rfl⟩
theorem bh.shared {w:World} {F bJ:Nat->Prop} (bm:∀b,F b->bJ b):
  ∀(ds:ahI) (cs:ahF) (S:Nat->Prop),(∀b,S b->bJ b)->bh w F ds cs S->bh w bJ (I.shares ds) cs (λ_=>False)
 |[],_,_,_,h=>h
 |d::ds,cs,S,bN,h=>by
  simp only[I.shares];rw[bh]at h⊢;obtain⟨b1,cd,ck,dq,af,ag,aJ,a_,bC,cw⟩:=h;exact⟨b1,cd,_,_,af,ay.shared bm d _ _ (λb U=>bN _ (a_ _ U)) ag,bh.shared bm ds _ _ (λb U=>bN _ (bC _ U)) aJ,λ_ h=>h,λ_ h=>h,λ_ h=>h.elim⟩
end
def I.sub:ahC->I->Option I
 |[],d=>some d
 |k::q,.agg aG=>match aG[k]? with
  |some d=>I.sub q d
  |none=>none
 |k::q,.tuple aG=>match aG[k]? with
  |some d=>I.sub q d
  |none=>none
 |i::q,.ad _ xs=>match xs[i]? with
  |some d=>I.sub q d
  |none=>none
 |0::q,.ai d=>I.sub q d
 |_::_,_=>none
def I.put:ahC->I->I->I
 |[],n,_=>n
 |k::q,n,.agg aG=>match aG[k]? with
  |some d=>.agg (aG.set k (I.put q n d))
  |none=>.agg aG
 |k::q,n,.tuple aG=>match aG[k]? with
  |some d=>.tuple (aG.set k (I.put q n d))
  |none=>.tuple aG
 |i::q,n,.ad sz xs=>match xs[i]? with
  |some d=>.ad sz (xs.set i (I.put q n d))
  |none=>.ad sz xs
 |0::q,n,.ai d=>.ai (I.put q n d)
 |_::_,_,d=>d
def np (w:World) (b o n:Nat):ahF:=(range n).map λaz=>(w.cell? ⟨b,o+az,none⟩).getD undef
theorem hk.np {w:World} {b o:Nat} {cs:ahF} (h:hk w b o cs):np w b o cs.length=cs:=by
 unfold dD.np;apply ext_getElem?;intro i;rw[getElem?_map];by_cases aq:i<cs.length
 .have:cs[i]? =some cs[i]:=getElem?_eq_getElem aq;simp[aq,h i _ this]
 .simp[aq]
def dh (w:World):ahC->I->ahF->Option (Nat×Nat)->Option (I×ahF×Option (Nat×Nat))
 |[],d,cs,a=>some (d,cs,a)
 |k::q,.agg aG,cs,a=>match aG[k]? with
  |some d=>dh w q d ((cs.drop (I.dO (aG.take k))).take d.wd) (a.map λl=>(l.1,l.2+I.dO (aG.take k)))
  |none=>none
 |k::q,.tuple aG,cs,a=>match aG[k]? with
  |some d=>dh w q d ((cs.drop (I.dO (aG.take k))).take d.wd) (a.map λl=>(l.1,l.2+I.dO (aG.take k)))
  |none=>none
 |i::q,.ad sz xs,cs,_=>match xs[i]?,cs with
  |some d,[.slice (some ⟨b,_,_⟩) _ _]=>dh w q d (np w b (i*sz) sz) (some (b,i*sz))
  |_,_=>none
 |0::q,.ai d,cs,_=>match cs with
  |[.pointer (some ⟨b,_,_⟩)]=>dh w q d (np w b 0 d.wd) (some (b,0))
  |_=>none
 |_::_,_,_,_=>none
theorem tT (b1 fO cd:ahF) (n m:Nat) (af:b1.length=n) (ag:fO.length=m):((b1++(fO++cd)).drop n).take m=fO:=by
 rw[drop_left' af,take_left' ag]
theorem bh.pick {w:World} {F:Nat->Prop}:∀(ds:ahI) (cs:ahF) (S:Nat->Prop) (k:Nat) (d:I),
  bh w F ds cs S->ds[k]? =some d->∃(b1 fO cd:ahF) (ck hU:Nat->Prop),cs=b1++(fO++cd)/\b1.length=I.dO (ds.take k)/\
   (∀b,ck b->S b)/\(∀b,hU b->S b)/\(∀b,ck b->¬hU b)/\ay w F d fO hU/\
   ∀(aK:World) (bz:I) (tU:ahF) (aS:Nat->Prop),(∀b,F b->aK.heap[b]? =w.heap[b]?)->(∀b,ck b->aK.heap[b]? =w.heap[b]?)->
    ay aK F bz tU aS->(∀b,aS b->¬ck b)->bh aK F (ds.set k bz) (b1++(tU++cd)) (λb=>ck b\/aS b)
 |[],_,_,_,_,_,au=>by simp at au
 |x::ds,cs,S,0,d,h,au=>by
  rw[bh]at h;obtain⟨b1,cd,hF,gX,rfl,af,ag,bY,U,iY⟩:=h;simp at au;subst au;refine⟨[],b1,cd,gX,hF,rfl,rfl,U,bY,λb U bY=>iY _ bY U,af,?_⟩;intro aK bz tU aS bm bN al jH;simp only[set_cons_zero,nil_append];rw[bh];exact⟨tU,cd,aS,gX,rfl,al,bh.frame bm _ _ _ bN ag,λb h=>.inr h,λb h=>.inl h,λb h=>jH b h⟩
 |x::ds,cs,S,k+1,d,h,au=>by
  rw[bh]at h;obtain⟨mr,Rj,hF,gX,rfl,af,ag,bY,U,iY⟩:=h;simp only[getElem?_cons_succ]at au;have hl:=ay.length _ _ _ af;obtain⟨b1,fO,cd,ck,hU,rfl,Rk,sx,pt,tS,xZ,DV⟩:=bh.pick ds Rj gX k d ag au;refine⟨mr++b1,fO,cd,λb=>hF b\/ck b,hU,by simp,by simp[I.dO,hl,Rk],?_,λb h=>U _ (pt _ h),?_,xZ,?_⟩
  .rintro b (h|h)
   .exact bY _ h
   .exact U _ (sx _ h)
  .rintro b (h|h) au
   .exact iY _ h (pt _ au)
   .exact tS _ h au
  .intro aK bz tU aS bm bN al jH;simp only[set_cons_succ];rw[bh];refine⟨mr,b1++(tU++cd),hF,λb=>ck b\/aS b,by simp,ay.frame bm _ _ _ (λb U=>bN b (.inl U)) af,
    DV aK bz tU aS bm (λb U=>bN b (.inr U)) al (λb U aC=>jH b U (.inr aC)),λb h=>.inl (.inl h),?_,?_⟩
   .rintro b (h|h)
    .exact .inl (.inr h)
    .exact .inr h
   .rintro b h (bO|bO)
    .exact iY _ h (sx _ bO)
    .exact jH _ bO (.inl h)
theorem DW:∀(aG:ahI) (k:Nat) (x y:I),aG[k]? =some x->y.wd=x.wd->I.dO (aG.set k y)=I.dO aG:=by
 intro aG;induction aG with
 |nil=>intro k x y h;simp at h
 |cons a aG ih=>
  intro k x y h e;cases k with
  |zero=>simp at h;subst h;simp[I.dO,e]
  |succ k=>simp at h;simp[I.dO,ih k x y h e]
theorem tV {sz:Nat}:∀(xs:ahI),(∀d∈xs,d.wd=sz)->I.dO xs=xs.length*sz
 |[],_=>by simp[I.dO]
 |x::xs,h=>by
  rw[I.dO,h x (by simp),tV xs (λd al=>h d (by simp[al])),length_cons,Nat.add_mul,Nat.one_mul,Nat.add_comm]
theorem I.vG:∀(q:ahC) (av d bz:I),I.sub q av=some d->bz.wd=d.wd->(I.put q bz av).wd=av.wd:=by
 intro q;induction q with
 |nil=>intro av d bz h e;simp[I.sub]at h;subst h;simpa [I.put]using e
 |cons k q ih=>
  intro av d bz h e;cases av with
  |agg aG=>
   simp only[I.sub]at h;split at h
   .rename_i x aA;simp only[I.put,aA,I.wd];exact DW _ _ _ _ aA (ih _ _ _ h e)
   .cases h
  |tuple aG=>
   simp only[I.sub]at h;split at h
   .rename_i x aA;simp only[I.put,aA,I.wd];exact DW _ _ _ _ aA (ih _ _ _ h e)
   .cases h
  |ad sz xs=>
   simp only[I.sub]at h;split at h
   .rename_i x aA;simp only[I.put,aA,I.wd]
   .cases h
  |ai x=>
   cases k with
   |zero=>simp only[I.put,I.wd]
   |succ k=>simp[I.sub]at h
  |_=>simp[I.sub]at h
theorem DX {sz:Nat} {xs:ahI} {i:Nat} {y:I} (h:∀d∈xs,d.wd=sz) (bu:y.wd=sz):∀d∈xs.set i y,d.wd=sz:=by
 intro d al;rcases mem_or_eq_of_mem_set al with al|rfl
 .exact h d al
 .exact bu
theorem vH {w:World} {b:Nat} {cur:Array Value} {e:TypeId} {fr:Nat×Nat} (h:w.heap[b]? =some (.cells cur e fr)) {l m r:ahF} (aC:cur.toList=l++(m++r)):
  np w b l.length m.length=m:=by
 refine hk.np (λaz c ch=>?_);have en:az<m.length:=(List.getElem?_eq_some_iff.1 ch).1;have:cur.toList[l.length+az]? =some c:=by
  rw[aC,getElem?_append_right (by omega),getElem?_append_left (by omega)];rw[<-ch];congr 1;omega
 simp[World.cell?,h];simpa using this
def Flat (w:World) (F:Nat->Prop) (q:ahC) (av:I) (cs:ahF) (a:Option (Nat×Nat)) (d:I) (cO:ahF) (cj:Option (Nat×Nat)) (ei:Nat->Prop):Prop:=
 ∃l r:ahF,cs=l++(cO++r)/\cj=a.map (λx=>(x.1,x.2+l.length))/\
  ∀(aK:World) (bz:I) (gh:ahF) (aS:Nat->Prop),(∀b,F b->aK.heap[b]? =w.heap[b]?)->(∀b,ei b->aK.heap[b]? =w.heap[b]?)->
   bz.wd=d.wd->ay aK F bz gh aS->(∀b,aS b->¬ei b)->ay aK F (I.put q bz av) (l++(gh++r)) (λb=>ei b\/aS b)
def DY (w:World) (F:Nat->Prop) (q:ahC) (av:I) (cs:ahF) (d:I) (cO:ahF) (cj:Option (Nat×Nat)) (ei:Nat->Prop):Prop:=
 ∃(b:Nat) (cur:Array Value) (e:TypeId) (fr:Nat×Nat) (l r:ahF),cj=some (b,l.length)/\ei b/\w.heap[b]? =some (.cells cur e fr)/\nm fr cur.size/\cur.toList=l++(cO++r)/\
  ∀(aK:World) (bz:I) (gh:ahF) (aS:Nat->Prop),(∀b,F b->aK.heap[b]? =w.heap[b]?)->(∀c,ei c->c≠b->aK.heap[c]? =w.heap[c]?)->
   aK.heap[b]? =some (.cells (l++(gh++r)).toArray e fr)->
   bz.wd=d.wd->ay aK F bz gh aS->(∀b,aS b->¬ei b)->ay aK F (I.put q bz av) cs (λb=>ei b\/aS b)
theorem ctx {w:World} {F:Nat->Prop}:∀(q:ahC) (av:I) (cs:ahF) (S:Nat->Prop) (a:Option (Nat×Nat)) (d:I),
  ay w F av cs S->I.sub q av=some d->∃(cO:ahF) (cj:Option (Nat×Nat)) (ei fy:Nat->Prop),dh w q av cs a=some (d,cO,cj)/\
   (∀b,ei b->S b)/\(∀b,fy b->S b)/\(∀b,ei b->¬fy b)/\ay w F d cO fy/\(Flat w F q av cs a d cO cj ei\/DY w F q av cs d cO cj ei):=by
 intro q;induction q with
 |nil=>
  intro av cs S a d h al;simp[I.sub]at al;subst al;refine⟨cs,a,λ_=>False,S,rfl,λ_ h=>h.elim,λ_ h=>h,λ_ h=>h.elim,h,.inl ⟨[],[],by simp,?_,?_⟩⟩
  .cases a<;>simp
  .intro aK bz gh aS _ _ hw hn _;simp only[I.put,nil_append,append_nil];exact ay.mono (λ_ h=>h) _ _ _ _ (λb h=>.inr h) hn
 |cons k q ih=>
  have fields:∀(mk:ahI->I) (DZ:∀(w:World) (F:Nat->Prop) (aG:ahI) (cs:ahF) (S:Nat->Prop),ay w F (mk aG) cs S=bh w F aG cs S) (aG:ahI) (cs:ahF) (S:Nat->Prop) (a:Option (Nat×Nat)) (x d:I),
    (kO:∀bz,I.put (k::q) bz (mk aG)=mk (aG.set k (I.put q bz x)))->bh w F aG cs S->aG[k]? =some x->I.sub q x=some d->
    ∃(cO:ahF) (cj:Option (Nat×Nat)) (ei fy:Nat->Prop),dh w q x ((cs.drop (I.dO (aG.take k))).take x.wd) (a.map λl=>(l.1,l.2+I.dO (aG.take k)))=some (d,cO,cj)/\
    (∀b,ei b->S b)/\(∀b,fy b->S b)/\(∀b,ei b->¬fy b)/\ay w F d cO fy/\(Flat w F (k::q) (mk aG) cs a d cO cj ei\/DY w F (k::q) (mk aG) cs d cO cj ei):=by
   intro mk DZ aG cs S a x d kO h aA al;obtain⟨b1,fO,cd,ck,hU,rfl,g_,fp,fP,ha,e9,mu⟩:=bh.pick aG cs S k x h aA;have hl:=ay.length _ _ _ e9;rw[tT b1 fO cd _ _ g_ hl];obtain⟨cO,cj,ei,fy,gO,aX,bk,ca,dr,er⟩:=ih x _ hU (a.map λl=>(l.1,l.2+I.dO (aG.take k))) d e9 al;refine⟨cO,cj,λb=>ck b\/ei b,fy,gO,?_,λb U=>fP _ (bk _ U),?_,dr,?_⟩
   .rintro b (h|h)
    .exact fp _ h
    .exact fP _ (aX _ h)
   .rintro b (h|h) al
    .exact ha _ h (bk _ al)
    .exact ca _ h al
   .have fz:∀(b:Nat) (aS:Nat->Prop),(ck b\/ei b\/aS b)->((ck b\/ei b)\/aS b):=by
     rintro b aS (U|U|U)
     .exact .inl (.inl U)
     .exact .inl (.inr U)
     .exact .inr U
    rcases er with⟨l,r,rfl,bc,bb⟩|⟨b,cur,e,fr,l,r,a1,bc,bb,cl,cR,b0⟩
    .refine .inl ⟨b1++l,r++cd,by simp,?_,?_⟩
     .rw[bc,<-g_];cases a<;>simp[Nat.add_assoc]
     .intro aK bz gh aS bm bN hw hn jH;have dZ:=bb aK bz gh aS bm (λb U=>bN b (.inr U)) hw hn (λb U aC=>jH b U (.inr aC));have bD:=mu aK _ _ _ bm (λb U=>bN b (.inl U)) dZ (by
       rintro b (U|U) af
       .exact ha _ af (aX _ U)
       .exact jH _ U (.inl af))
      rw[kO,DZ];have:=bh.mono (λ_ h=>h) _ _ _ _ (λb=>fz b aS) bD;simpa using this
    .refine .inr ⟨b,cur,e,fr,l,r,a1,.inr bc,bb,cl,cR,?_⟩;intro aK bz gh aS bm bN mN hw hn jH;have dZ:=b0 aK bz gh aS bm (λc aC=>bN c (.inr aC)) mN hw hn (λb U aC=>jH b U (.inr aC));have bD:=mu aK _ _ _ bm (λc aC=>bN c (.inl aC) (by rintro rfl;exact ha _ aC (aX _ bc))) dZ (by
       rintro b (U|U) af
       .exact ha _ af (aX _ U)
       .exact jH _ U (.inl af))
     rw[kO,DZ];exact bh.mono (λ_ h=>h) _ _ _ _ (λb=>fz b aS) bD
  intro av cs S a d h al;cases av with
  |agg aG=>
   simp only[I.sub]at al;split at al
   .rename_i x aA;rw[ay]at h;have:=fields .agg (λ_ _ _ _ _=>by rw[ay]) aG cs S a x d (λbz=>by simp only[I.put,aA]) h aA al;simpa only[dh,aA]using this
   .cases al
  |tuple aG=>
   simp only[I.sub]at al;split at al
   .rename_i x aA;rw[ay]at h;have:=fields .tuple (λ_ _ _ _ _=>by rw[ay]) aG cs S a x d (λbz=>by simp only[I.put,aA]) h aA al;simpa only[dh,aA]using this
   .cases al
  |ad sz xs=>
   simp only[I.sub]at al;split at al
   .rename_i x aA;rw[ay]at h;rcases h with⟨rfl,_,rfl⟩|⟨b,cap,cur,e,fr,dI,rfl,ag,aJ,a_,bC,cw,cQ,e3,jq,jG,mq⟩
    .simp at aA
    .obtain⟨b1,fO,cd,ck,hU,p,g_,fp,fP,ha,e9,mu⟩:=bh.pick xs _ dI k x jq aA;have hl:=ay.length _ _ _ e9;have Rl:k<xs.length:=(List.getElem?_eq_some_iff.1 aA).1;have x0:x.wd=sz:=e3 x (mem_of_getElem? aA);have b_:I.dO (xs.take k)=k*sz:=by
      rw[tV _ (λd al=>e3 d (mem_of_mem_take al))];rw[length_take,Nat.min_eq_left (by omega)]
     obtain⟨tl,kP⟩:∃tl,cur.toList=b1++(fO++(cd++tl)):=by
      refine⟨cur.toList.drop (xs.length*sz),?_⟩;have:=(take_append_drop (xs.length*sz) cur.toList).symm;rw[p]at this;simpa using this
     have j0:np w b (k*sz) sz=fO:=by
      have:=vH aJ kP
      rwa [g_,b_,hl,x0]at this
     obtain⟨cO,cj,ei,fy,gO,aX,bk,ca,dr,er⟩:=ih x _ hU (some (b,k*sz)) d e9 al;have kO:∀bz,I.put (k::q) bz (.ad sz xs)= .ad sz (xs.set k (I.put q bz x)):=λbz=>by simp only[I.put,aA]
     refine⟨cO,cj,λc=>c=b\/ck c\/ei c,fy,?_,?_,λc aC=>jG _ (fP _ (bk _ aC)),?_,dr,.inr ?_⟩
     .simp only[dh,aA,j0];exact gO
     .rintro c (rfl|h|h)
      .exact ag
      .exact jG _ (fp _ h)
      .exact jG _ (fP _ (aX _ h))
     .rintro c (rfl|h|h) al
      .exact mq (fP _ (bk _ al))
      .exact ha _ h (bk _ al)
      .exact ca _ h al
     .have kQ:∀bz,bz.wd=d.wd->(I.put q bz x).wd=sz:=λbz hw=>(I.vG q x d bz al hw).trans x0;rcases er with⟨l,r,rfl,bc,bb⟩|⟨ee,D0,dJ,D1,l,r,a1,bc,bb,cl,cR,b0⟩
      .refine⟨b,cur,e,fr,b1++l,r++(cd++tl),?_,.inl rfl,aJ,a_.low,?_,?_⟩
       .rw[bc];simp[g_,b_]
       .rw[kP];simp
       .intro aK bz gh aS bm bN mN hw hn jH;have dZ:=bb aK bz gh aS bm (λc aC=>bN c (.inr (.inr aC)) (by rintro rfl;exact mq (fP _ (aX _ aC)))) hw hn (λb U aC=>jH b U (.inr (.inr aC)));have bD:=mu aK _ _ _ bm (λc aC=>bN c (.inr (.inl aC)) (by rintro rfl;exact mq (fp _ aC))) dZ (by
         rintro b (U|U) af
         .exact ha _ af (aX _ U)
         .exact jH _ U (.inr (.inl af)))
        have x1:=ay.length _ _ _ hn;have x2:=ay.length _ _ _ dr;rw[kO,ay];refine .inr ⟨b,cap,_,e,fr,λb=>ck b\/ei b\/aS b,by simp,.inl (.inl rfl),mN,?_,by simpa using bC,cw,?_,DX e3 (kQ bz hw),?_,?_,?_⟩
        .have:(b1++l++(gh++(r++(cd++tl)))).toArray.size=cur.size:=by
          have:cur.size=cur.toList.length:=by simp
          rw[this,kP];simp[x1,x2,hw]
         rw[this];exact a_
        .rw[<-cQ];have:cur.size=cur.toList.length:=by simp
         rw[this,kP];simp[x1,x2,hw]
        .have hlen:(b1++(l++(gh++r)++cd)).length=xs.length*sz:=by
          have:=congrArg length p;rw[length_take,Nat.min_eq_left (by simp[cQ];exact mul_le_mul_right _ bC)]at this;rw[this];simp[x1,x2,hw]
         have:(b1++l++(gh++(r++(cd++tl))))=(b1++(l++(gh++r)++cd))++tl:=by simp
         rw[length_set];simp only[this];rw[take_left' hlen];exact bD
        .rintro c (h|h|h)
         .exact .inl (.inr (.inl h))
         .exact .inl (.inr (.inr h))
         .exact .inr h
        .rintro(h|h|h)
         .exact mq (fp _ h)
         .exact mq (fP _ (aX _ h))
         .exact jH _ h (.inl rfl)
      .refine⟨ee,D0,dJ,D1,l,r,a1,.inr (.inr bc),bb,cl,cR,?_⟩;intro aK bz gh aS bm bN mN hw hn jH;have dZ:=b0 aK bz gh aS bm (λc aC dG=>bN c (.inr (.inr aC)) dG) mN hw hn (λb U aC=>jH b U (.inr (.inr aC)));have dG:∀c,ck c->c≠ee:=by rintro c aC rfl;exact ha _ aC (aX _ bc)
       have bD:=mu aK _ _ _ bm (λc aC=>bN c (.inr (.inl aC)) (dG c aC)) dZ (by
        rintro b (U|U) af
        .exact ha _ af (aX _ U)
        .exact jH _ U (.inr (.inl af)))
       have x3:b≠ee:=by rintro rfl;exact mq (fP _ (aX _ bc))
       rw[kO,ay];refine .inr ⟨b,cap,cur,e,fr,λb=>ck b\/ei b\/aS b,by simp,.inl (.inl rfl),(bN b (.inl rfl) x3).trans aJ,a_,by simpa using bC,cw,cQ,DX e3 (kQ bz hw),?_,?_,?_⟩
       .rw[length_set,p];exact bD
       .rintro c (h|h|h)
        .exact .inl (.inr (.inl h))
        .exact .inl (.inr (.inr h))
        .exact .inr h
       .rintro(h|h|h)
        .exact mq (fp _ h)
        .exact mq (fP _ (aX _ h))
        .exact jH _ h (.inl rfl)
   .cases al
  |ai x=>
   cases k with
   |succ k=>simp[I.sub]at al
   |zero=>
    simp only[I.sub]at al;rw[ay]at h;obtain⟨b,cur,e,fr,dI,rfl,ag,aJ,a_,bC,cw,cQ⟩:=h;have hl:=ay.length _ _ _ bC;have j0:np w b 0 x.wd=cur.toList:=by
     have:=vH (l:=[]) (m:=cur.toList) (r:=[]) aJ (by simp)
     rwa [hl]at this
    obtain⟨cO,cj,ei,fy,gO,aX,bk,ca,dr,er⟩:=ih x _ dI (some (b,0)) d bC al;have kO:∀bz,I.put (0::q) bz (.ai x)= .ai (I.put q bz x):=λbz=>rfl;refine⟨cO,cj,λc=>c=b\/ei c,fy,?_,?_,λc aC=>cw _ (bk _ aC),?_,dr,.inr ?_⟩
    .simp only[dh,j0];exact gO
    .rintro c (rfl|h)
     .exact ag
     .exact cw _ (aX _ h)
    .rintro c (rfl|h) al
     .exact cQ (bk _ al)
     .exact ca _ h al
    .rcases er with⟨l,r,a1,bc,bb⟩|⟨ee,D0,dJ,D1,l,r,a1,bc,bb,cl,cR,b0⟩
     .refine⟨b,cur,e,fr,l,r,?_,.inl rfl,aJ,a_,a1,?_⟩
      .rw[bc];simp
      .intro aK bz gh aS bm bN mN hw hn jH;have dZ:=bb aK bz gh aS bm (λc aC=>bN c (.inr aC) (by rintro rfl;exact cQ (aX _ aC))) hw hn (λb U aC=>jH b U (.inr aC));have x1:=ay.length _ _ _ hn;have x2:=ay.length _ _ _ dr;rw[kO,ay];refine⟨b,_,e,fr,λb=>ei b\/aS b,rfl,.inl (.inl rfl),mN,?_,dZ,?_,?_⟩
       .have:(l++(gh++r)).toArray.size=cur.size:=by
         have:cur.size=cur.toList.length:=by simp
         rw[this,a1];simp[x1,x2,hw]
        rw[this];exact a_
       .rintro c (h|h)
        .exact .inl (.inr h)
        .exact .inr h
       .rintro(h|h)
        .exact cQ (aX _ h)
        .exact jH _ h (.inl rfl)
     .refine⟨ee,D0,dJ,D1,l,r,a1,.inr bc,bb,cl,cR,?_⟩;intro aK bz gh aS bm bN mN hw hn jH;have dZ:=b0 aK bz gh aS bm (λc aC dG=>bN c (.inr aC) dG) mN hw hn (λb U aC=>jH b U (.inr aC));have x3:b≠ee:=by rintro rfl;exact cQ (aX _ bc)
      rw[kO,ay];refine⟨b,cur,e,fr,λb=>ei b\/aS b,rfl,.inl (.inl rfl),(bN b (.inl rfl) x3).trans aJ,a_,dZ,?_,?_⟩
      .rintro c (h|h)
       .exact .inl (.inr h)
       .exact .inr h
      .rintro(h|h)
       .exact cQ (aX _ h)
       .exact jH _ h (.inl rfl)
  |_=>simp[I.sub]at al
mutual
def I.plain:I->Bool
 | .ad _ _=>false
 | .ai _=>false
 | .dN _=>false
 | .eQ _ _=>false
 | .gC _=>false
 | .agg aG=>I.eY aG
 | .tuple aG=>I.eY aG
 |_=>true
def I.eY:ahI->Bool
 |[]=>true
 |d::ds=>d.plain&&I.eY ds
end
mutual
def I.cZ:I->I
 | .ad _ _=>.hole
 | .ai _=>.hole
 | .dN _=>.hole
 | .eQ _ _=>.hole
 | .gC _=>.hole
 | .agg aG=>.agg (I.lQ aG)
 | .tuple aG=>.tuple (I.lQ aG)
 |d=>d
def I.lQ:ahI->ahI
 |[]=>[]
 |d::ds=>d.cZ::I.lQ ds
end
mutual
theorem I.sA:∀d:I,d.cZ.wd=d.wd
 | .hole=>rfl
 | .bool _=>rfl
 | .fo=>rfl
 | .int _ _=>rfl
 | .str _=>rfl
 | .dM=>rfl
 | .ah=>rfl
 | .slice _=>rfl
 | .ad _ _=>rfl
 | .ref _=>rfl
 | .ai _=>rfl
 | .agg aG=>by simp only[I.cZ,I.wd];exact I.D2 aG
 | .tuple aG=>by simp only[I.cZ,I.wd];exact I.D2 aG
 | .fn _ _=>rfl
 | .h _ _=>rfl
 | .aw _ _=>rfl
 | .U _ _=>rfl
 | .dN _=>rfl
 | .eQ _ _=>rfl
 | .gC _=>rfl
theorem I.D2:∀ds:ahI,I.dO (I.lQ ds)=I.dO ds
 |[]=>rfl
 |d::ds=>by simp only[I.lQ,I.dO];rw[I.sA d,I.D2 ds]
end
mutual
theorem ay.cZ {w:World} {F:Nat->Prop}:∀(d:I) (cs:ahF) (S aS:Nat->Prop),ay w F d cs S->ay w F d.cZ cs aS
 | .hole,_,_,_,h=>h
 | .bool _,_,_,_,h=>h
 | .fo,_,_,_,h=>h
 | .int _ _,_,_,_,h=>h
 | .str _,_,_,_,h=>h
 | .dM,_,_,_,h=>h
 | .ah,_,_,_,h=>h
 | .slice xs,cs,S,aS,h=>by
   show ay w F (.slice xs) cs aS;rw[ay]at h⊢;exact h
 | .ad sz xs,cs,S,aS,h=>by
   rw[I.cZ,ay];rw[ay]at h;rcases h with⟨_,_,rfl⟩|⟨b,cap,cur,e,fr,dI,rfl,_⟩
   .exact⟨_,rfl,rfl⟩
   .exact⟨_,rfl,rfl⟩
 | .ref d,cs,S,aS,h=>by
   show ay w F (.ref d) cs aS;rw[ay]at h⊢;exact h
 | .ai d,cs,S,aS,h=>by
   rw[I.cZ,ay];rw[ay]at h;obtain⟨b,cur,e,fr,dI,rfl,_⟩:=h;exact⟨_,rfl,rfl⟩
 | .agg aG,cs,S,aS,h=>by rw[I.cZ,ay];rw[ay]at h;exact bh.cZ aG _ _ _ h
 | .tuple aG,cs,S,aS,h=>by rw[I.cZ,ay];rw[ay]at h;exact bh.cZ aG _ _ _ h
 | .fn _ _,_,_,_,h=>h
 | .h _ _,_,_,_,h=>h
 | .aw _ _,_,_,_,h=>h
 | .U _ _,_,_,_,h=>h
 | .dN _,_,_,_,h=>by rw[ay]at h;rw[I.cZ,ay];exact mo.one h
 | .eQ _ _,_,_,_,h=>by rw[ay]at h;obtain⟨arr,rfl,_⟩:=h;rw[I.cZ,ay];exact⟨_,rfl,rfl⟩
 | .gC _,_,_,_,h=>by rw[ay]at h;obtain⟨b,v,e,fr,rfl,_⟩:=h;rw[I.cZ,ay];exact⟨_,rfl,rfl⟩
theorem bh.cZ {w:World} {F:Nat->Prop}:∀(ds:ahI) (cs:ahF) (S aS:Nat->Prop),bh w F ds cs S->bh w F (I.lQ ds) cs aS
 |[],_,_,_,h=>h
 |d::ds,cs,S,aS,h=>by
  rw[I.lQ,bh];rw[bh]at h;obtain⟨b1,cd,ck,dq,af,ag,aJ,a_,bC,cw⟩:=h;exact⟨b1,cd,λ_=>False,λ_=>False,af,ay.cZ d _ _ _ ag,bh.cZ ds _ _ _ aJ,λ_ h=>h.elim,λ_ h=>h.elim,λ_ h=>h.elim⟩
end
mutual
theorem ay.plain {w:World} {F:Nat->Prop}:∀(d:I) (cs:ahF) (S aS:Nat->Prop),d.plain=true->ay w F d cs S->ay w F d cs aS
 | .hole,_,_,_,_,h=>h
 | .bool _,_,_,_,_,h=>h
 | .fo,_,_,_,_,h=>h
 | .int _ _,_,_,_,_,h=>h
 | .str _,_,_,_,_,h=>h
 | .dM,_,_,_,_,h=>h
 | .ah,_,_,_,_,h=>h
 | .slice xs,cs,S,aS,_,h=>by rw[ay]at h⊢;exact h
 | .ad sz xs,cs,S,aS,aw,h=>by simp[I.plain]at aw
 | .ref d,cs,S,aS,_,h=>by rw[ay]at h⊢;exact h
 | .ai d,cs,S,aS,aw,h=>by simp[I.plain]at aw
 | .agg aG,cs,S,aS,aw,h=>by rw[ay]at h⊢;exact bh.plain aG _ _ _ aw h
 | .tuple aG,cs,S,aS,aw,h=>by rw[ay]at h⊢;exact bh.plain aG _ _ _ aw h
 | .fn _ _,_,_,_,_,h=>h
 | .h _ _,_,_,_,_,h=>h
 | .aw _ _,_,_,_,_,h=>h
 | .U _ _,_,_,_,_,h=>h
 | .dN _,_,_,_,aw,_=>by simp[I.plain]at aw
 | .eQ _ _,_,_,_,aw,_=>by simp[I.plain]at aw
 | .gC _,_,_,_,aw,_=>by simp[I.plain]at aw
theorem bh.plain {w:World} {F:Nat->Prop}:∀(ds:ahI) (cs:ahF) (S aS:Nat->Prop),I.eY ds=true->bh w F ds cs S->bh w F ds cs aS
 |[],_,_,_,_,h=>h
 |d::ds,cs,S,aS,aw,h=>by
  rw[bh]at h⊢;simp only[I.eY,Bool.and_eq_true]at aw;obtain⟨b1,cd,ck,dq,af,ag,aJ,a_,bC,cw⟩:=h;exact⟨b1,cd,λ_=>False,λ_=>False,af,ay.plain d _ _ _ aw.1 ag,bh.plain ds _ _ _ aw.2 aJ,λ_ h=>h.elim,λ_ h=>h.elim,λ_ h=>h.elim⟩
end
def I.fU:ahC->I->Bool
 |[],_=>false
 |k::q,.agg aG=>match aG[k]? with
  |some d=>I.fU q d
  |none=>false
 |k::q,.tuple aG=>match aG[k]? with
  |some d=>I.fU q d
  |none=>false
 |_::_,.ad _ _=>true
 |_::_,.ai _=>true
 |_::_,_=>false
theorem AO {aG:ahI} (h:I.eY aG=true) {k:Nat} {d:I} (au:aG[k]? =some d):d.plain=true:=by
 induction aG generalizing k with
 |nil=>simp at au
 |cons a aG ih=>
  simp only[I.eY,Bool.and_eq_true]at h;cases k with
  |zero=>simp at au;subst au;exact h.1
  |succ k=>simp at au;exact ih h.2 au
theorem I.JQ:∀(q:ahC) (d:I),d.plain=true->I.fU q d=false:=by
 intro q;induction q with
 |nil=>intros;rfl
 |cons k q ih=>
  intro d al;cases d<;>first|rfl|(simp[I.plain]at al;done)|skip
  all_goals
   simp only[I.fU];split
   .rename_i aG x aA;exact ih _ (AO (by simpa [I.plain]using al) aA)
   .rfl
theorem I.D3:∀(q:ahC) (d e:I),d.plain=true->I.sub q d=some e->e.plain=true:=by
 intro q;induction q with
 |nil=>intro d e al h;simp[I.sub]at h;exact h▸al
 |cons k q ih=>
  intro d e al h;cases d<;>first|(simp[I.plain]at al;done)|(simp[I.sub]at h;done)|skip
  all_goals
   simp only[I.sub]at h;split at h
   .rename_i aG x aA;exact ih _ _ (AO (by simpa [I.plain]using al) aA) h
   .cases h
theorem AP {w aK:World} {F:Nat->Prop}:∀(q:ahC) (av:I) (cs:ahF) (S:Nat->Prop) (a:Option (Nat×Nat)) (d:I),
  ay w F av cs S->I.sub q av=some d->(∀b,S b->aK.heap[b]? =w.heap[b]?)->dh aK q av cs a=dh w q av cs a:=by
 intro q;induction q with
 |nil=>intros;rfl
 |cons k q ih=>
  have fields:∀(aG:ahI) (cs:ahF) (S:Nat->Prop) (a:Option (Nat×Nat)) (x d:I),bh w F aG cs S->aG[k]? =some x->I.sub q x=some d->
    (∀b,S b->aK.heap[b]? =w.heap[b]?)->
    dh aK q x ((cs.drop (I.dO (aG.take k))).take x.wd) (a.map λl=>(l.1,l.2+I.dO (aG.take k)))=dh w q x ((cs.drop (I.dO (aG.take k))).take x.wd) (a.map λl=>(l.1,l.2+I.dO (aG.take k))):=by
   intro aG cs S a x d h aA al bN;obtain⟨b1,fO,cd,ck,hU,rfl,g_,fp,fP,ha,e9,mu⟩:=bh.pick aG cs S k x h aA;rw[tT b1 fO cd _ _ g_ (ay.length _ _ _ e9)];exact ih x fO hU _ d e9 al (λb U=>bN b (fP _ U))
  intro av cs S a d h al bN;cases av with
  |agg aG=>
   simp only[I.sub]at al;split at al
   .rename_i x aA;rw[ay]at h;simp only[dh,aA];exact fields aG cs S a x d h aA al bN
   .cases al
  |tuple aG=>
   simp only[I.sub]at al;split at al
   .rename_i x aA;rw[ay]at h;simp only[dh,aA];exact fields aG cs S a x d h aA al bN
   .cases al
  |ad sz xs=>
   simp only[I.sub]at al;split at al
   .rename_i x aA;rw[ay]at h;rcases h with⟨rfl,_,rfl⟩|⟨b,cap,cur,e,fr,dI,rfl,ag,aJ,a_,bC,cw,cQ,e3,jq,jG,mq⟩
    .simp at aA
    .obtain⟨b1,fO,cd,ck,hU,p,g_,fp,fP,ha,e9,mu⟩:=bh.pick xs _ dI k x jq aA;have hl:=ay.length _ _ _ e9;have Rl:k<xs.length:=(List.getElem?_eq_some_iff.1 aA).1;have x0:x.wd=sz:=e3 x (mem_of_getElem? aA);have b_:I.dO (xs.take k)=k*sz:=by
      rw[tV _ (λd al=>e3 d (mem_of_mem_take al))];rw[length_take,Nat.min_eq_left (by omega)]
     obtain⟨tl,kP⟩:∃tl,cur.toList=b1++(fO++(cd++tl)):=by
      refine⟨cur.toList.drop (xs.length*sz),?_⟩;have:=(take_append_drop (xs.length*sz) cur.toList).symm;rw[p]at this;simpa using this
     have j0:np w b (k*sz) sz=fO:=by
      have:=vH aJ kP
      rwa [g_,b_,hl,x0]at this
     have D4:np aK b (k*sz) sz=fO:=by
      have:=vH ((bN b ag).trans aJ) kP
      rwa [g_,b_,hl,x0]at this
     simp only[dh,aA,j0,D4];exact ih x fO hU _ d e9 al (λc aC=>bN c (jG _ (fP _ aC)))
   .cases al
  |ai x=>
   cases k with
   |succ k=>simp[I.sub]at al
   |zero=>
    simp only[I.sub]at al;rw[ay]at h;obtain⟨b,cur,e,fr,dI,rfl,ag,aJ,a_,bC,cw,cQ⟩:=h;have hl:=ay.length _ _ _ bC;have j0:np w b 0 x.wd=cur.toList:=by
     have:=vH (l:=[]) (m:=cur.toList) (r:=[]) aJ (by simp)
     rwa [hl]at this
    have D4:np aK b 0 x.wd=cur.toList:=by
     have:=vH (l:=[]) (m:=cur.toList) (r:=[]) ((bN b ag).trans aJ) (by simp)
     rwa [hl]at this
    simp only[dh,j0,D4];exact ih x cur.toList dI _ d bC al (λc aC=>bN c (cw _ aC))
  |_=>simp[I.sub]at al
def iy:Value->ahF
 | .agg cs=>cs.toList
 |v=>[v]
def ct:Value->ahF
 | .tuple vs=>vs.toList.flatMap iy
 |v=>iy v
def iN:I->Value->Prop
 | .agg _,v=>∃arr,v= .agg arr
 |_,v=>Value.fN v=true
def dy:I->Value->Prop
 | .tuple ds,v=>∃arr:Array Value,v= .tuple arr/\arr.size=ds.length/\∀(k:Nat) (d:I) (x:Value),ds[k]? =some d->arr[k]? =some x->iN d x/\(∀vs,d≠.tuple vs)/\(iy x).length=d.wd
 |d,v=>iN d v
abbrev ao:=Nat->I
mutual
def aO (w:World) (F:Nat->Prop) (s:ao) (aF:Nat->Value):I->Value->(Nat->Prop)->Prop
 | .hole,_,_=>True
 | .h x q,v,_=>∀d,I.sub q (s x)=some d->d.plain=false->∃cO a,dh w q (s x) (ct (aF x)) none=some (d,cO,a)/\ct v=cO/\dy d v
 | .aw x q,v,_=>∀d,I.sub q (s x)=some d->I.fU q (s x)=true->∃cO b o,dh w q (s x) (ct (aF x)) none=some (d,cO,some (b,o))/\v= .pointer (some ⟨b,o,none⟩)
 | .U x k,v,_=>(s x).plain=false->∃b cur e fr,v= .pointer (some ⟨b,k,none⟩)/\F b/\w.heap[b]? =some (.cells cur e fr)/\cur.toList=ct (aF x)
 | .fn f cap,v,_=>∃arr:Array Value,v= .func (.func f) #[] arr/\ef w F s aF cap arr.toList
 | .bool b,v,S=>dy (.bool b) v/\ay w F (.bool b) (ct v) S
 | .fo,v,S=>dy .fo v/\ay w F .fo (ct v) S
 | .int k n,v,S=>dy (.int k n) v/\ay w F (.int k n) (ct v) S
 | .str x,v,S=>dy (.str x) v/\ay w F (.str x) (ct v) S
 | .dM,v,S=>dy .dM v/\ay w F .dM (ct v) S
 | .ah,v,S=>dy .ah v/\ay w F .ah (ct v) S
 | .slice xs,v,S=>dy (.slice xs) v/\ay w F (.slice xs) (ct v) S
 | .ad sz xs,v,S=>dy (.ad sz xs) v/\ay w F (.ad sz xs) (ct v) S
 | .ref d,v,S=>dy (.ref d) v/\ay w F (.ref d) (ct v) S
 | .ai d,v,S=>dy (.ai d) v/\ay w F (.ai d) (ct v) S
 | .agg d,v,S=>dy (.agg d) v/\ay w F (.agg d) (ct v) S
 | .tuple d,v,S=>dy (.tuple d) v/\ay w F (.tuple d) (ct v) S
 | .dN o,v,S=>dy (.dN o) v/\ay w F (.dN o) (ct v) S
 | .eQ f d,v,S=>dy (.eQ f d) v/\ay w F (.eQ f d) (ct v) S
 | .gC d,v,S=>dy (.gC d) v/\ay w F (.gC d) (ct v) S
def ef (w:World) (F:Nat->Prop) (s:ao) (aF:Nat->Value):ahI->ahF->Prop
 |[],vs=>vs=[]
 |d::ds,vs=>∃v gY,vs=v::gY/\aO w F s aF d v (λ_=>False)/\ef w F s aF ds gY
end
def I.tree:I->Bool
 | .hole=>false
 | .h _ _=>false
 | .aw _ _=>false
 | .U _ _=>false
 | .fn _ _=>false
 |_=>true
theorem aO.cI {w:World} {F:Nat->Prop} {s:ao} {aF:Nat->Value} {d:I} {v:Value} {S:Nat->Prop} (aZ:d.tree=true):
  aO w F s aF d v S↔(dy d v/\ay w F d (ct v) S):=by
 cases d<;>first|(simp[I.tree]at aZ;done)|rw[aO]
theorem h7 {q:ahC} {av d:I} (h:I.sub q av=some d) (aw:d.plain=false\/I.fU q av=true):av.tree=true:=by
 cases q with
 |nil=>
  simp[I.sub]at h;subst h;rcases aw with aw|aw
  .cases av<;>first|rfl|(simp[I.plain]at aw)
  .simp[I.fU]at aw
 |cons k q=>cases av<;>first|rfl|(simp[I.sub]at h)
theorem D5 {d:I} (h:d.plain=false):d.tree=true:=h7 (q:=[]) (by simp only[I.sub]) (.inl h)
theorem aO.frame {w aK:World} {F bJ:Nat->Prop} {s:ao} {aF:Nat->Value} {Sx:Nat->Nat->Prop} (bm:∀b,F b->aK.heap[b]? =w.heap[b]?) (x4:∀b,F b->bJ b)
  (bN:∀x b,Sx x b->aK.heap[b]? =w.heap[b]?) (nr:∀x,aO w F s aF (s x) (aF x) (Sx x)):
  ∀(d:I) (v:Value) (S:Nat->Prop),(∀b,S b->aK.heap[b]? =w.heap[b]?)->aO w F s aF d v S->aO aK bJ s aF d v S:=by
 have kx:∀(x:Nat) (q:ahC) (d:I),I.sub q (s x)=some d->(d.plain=false\/I.fU q (s x)=true)->dh aK q (s x) (ct (aF x)) none=dh w q (s x) (ct (aF x)) none:=by
  intro x q d al aw;have aZ:=h7 al aw;have:=nr x;rw[aO.cI aZ]at this;exact AP q _ _ (Sx x) none d this.2 al (bN x)
 have Rm:∀(d:I) (v:Value) (S:Nat->Prop),d.tree=true->(∀b,S b->aK.heap[b]? =w.heap[b]?)->aO w F s aF d v S->aO aK bJ s aF d v S:=by
  intro d v S aZ tW h;rw[aO.cI aZ]at h⊢;exact⟨h.1,ay.mono x4 _ _ _ _ (λ_ h=>h) (ay.frame bm _ _ _ tW h.2)⟩
 have step:∀n,(∀(d:I) (v:Value) (S:Nat->Prop),SizeOf.sizeOf d<=n->(∀b,S b->aK.heap[b]? =w.heap[b]?)->aO w F s aF d v S->aO aK bJ s aF d v S)/\
   (∀(ds:ahI) (vs:ahF),SizeOf.sizeOf ds<=n->ef w F s aF ds vs->ef aK bJ s aF ds vs):=by
  intro n;induction n with
  |zero=>
   refine⟨λd v S b3=>?_,λds vs b3=>?_⟩
   .cases d<;>simp at b3<;>omega
   .cases ds<;>simp at b3<;>omega
  |succ n ih=>
   refine⟨λd v S b3 tW h=>?_,λds vs b3 h=>?_⟩
   .cases d with
    |hole=>rw[aO];trivial
    |h x q=>
     rw[aO]at h⊢;intro d al aw;rw[kx x q d al (.inl aw)];exact h d al aw
    |aw x q=>
     rw[aO]at h⊢;intro d al aw;rw[kx x q d al (.inr aw)];exact h d al aw
    |U x k=>
     rw[aO]at h⊢;intro aw;obtain⟨b,cur,e,fr,af,ag,aJ,a_⟩:=h aw;exact⟨b,cur,e,fr,af,x4 b ag,(bm b ag).trans aJ,a_⟩
    |fn f cap=>
     rw[aO]at h⊢;obtain⟨arr,rfl,aC⟩:=h;exact⟨arr,rfl,ih.2 _ _ (by simp at b3;omega) aC⟩
    |_=>exact Rm _ _ _ rfl tW h
   .cases ds with
    |nil=>rw[ef]at h⊢;exact h
    |cons d ds=>
     rw[ef]at h⊢;obtain⟨v,gY,rfl,af,ag⟩:=h;simp at b3;exact⟨v,gY,rfl,ih.1 _ _ _ (by omega) (λ_ h=>h.elim) af,ih.2 _ _ (by omega) ag⟩
 intro d v S tW h;exact(step (SizeOf.sizeOf d)).1 d v S (Nat.le_refl _) tW h
mutual
def cT (x:Nat):I->I
 | .h y q=>if y=x then .hole else .h y q
 | .aw y q=>if y=x then .hole else .aw y q
 | .U y k=>if y=x then .hole else .U y k
 | .fn f cap=>.fn f (jI x cap)
 |d=>d
def jI (x:Nat):ahI->ahI
 |[]=>[]
 |d::ds=>cT x d::jI x ds
end
mutual
def cp (x:Nat):I->I
 | .h y q=>if y=x then(if q=[]then .h y q else .hole)else .h y q
 | .aw y q=>if y=x then .hole else .aw y q
 | .fn f cap=>.fn f (i7 x cap)
 |d=>d
def i7 (x:Nat):ahI->ahI
 |[]=>[]
 |d::ds=>cp x d::i7 x ds
end
def cY {α:Type} (f:Nat->α) (t:Nat) (v:α):Nat->α:=λu=>if u=t then v else f u
def kR (t:Nat) (s:ao):ao:=λu=>cT t (s u)
def hV (t:Nat) (s:ao):ao:=λu=>cp t (s u)
theorem mv {α:Type} (f:Nat->α) (t:Nat) (v:α):cY f t v t=v:=by simp[cY]
theorem iz {α:Type} (f:Nat->α) {t u:Nat} (v:α) (h:u≠t):cY f t v u=f u:=by simp[cY,h]
theorem Rn {t:Nat} {d:I} (h:d.tree=true):cT t d=d:=by cases d<;>first|rfl|(simp[I.tree]at h)
theorem D6 {t:Nat} {d:I} (h:d.tree=true):cp t d=d:=by cases d<;>first|rfl|(simp[I.tree]at h)
theorem Ro {t:Nat} {d:I} (h:(cT t d).tree=true):d.tree=true/\cT t d=d:=by
 cases d<;>first|exact⟨rfl,rfl⟩|(simp only[cT]at h;first|(split at h<;>simp[I.tree]at h)|simp[I.tree]at h)
theorem AQ {t:Nat} {d:I} (h:(cp t d).tree=true):d.tree=true/\cp t d=d:=by
 cases d<;>first|exact⟨rfl,rfl⟩|(simp only[cp]at h;first|(split at h<;>(try split at h)<;>simp[I.tree]at h)|simp[I.tree]at h)
section
variable {w:World} {F:Nat->Prop} {s aH:ao} {aF iO:Nat->Value} {t:Nat}
theorem aO.cT (hb:∀x,x≠t->(aH x).tree=true->aH x=s x/\iO x=aF x):∀(n:Nat),
  (∀(d:I) (v:Value) (S:Nat->Prop),SizeOf.sizeOf d<=n->aO w F s aF d v S->aO w F aH iO (dD.cT t d) v S)/\
  (∀(ds:ahI) (vs:ahF),SizeOf.sizeOf ds<=n->ef w F s aF ds vs->ef w F aH iO (jI t ds) vs):=by
 intro n;induction n with
 |zero=>
  refine⟨λd v S b3=>?_,λds vs b3=>?_⟩
  .cases d<;>simp at b3<;>omega
  .cases ds<;>simp at b3<;>omega
 |succ n ih=>
  refine⟨λd v S b3 h=>?_,λds vs b3 h=>?_⟩
  .cases d with
   |hole=>rw[dD.cT.eq_def];simp only;rw[aO];trivial
   |h x q=>
    simp only[dD.cT];split
    .rw[aO];trivial
    .rename_i aA;rw[aO]at h⊢;intro d al aw;obtain⟨a1,bc⟩:=hb x aA (h7 al (.inl aw));rw[a1,bc];rw[a1]at al;exact h d al aw
   |aw x q=>
    simp only[dD.cT];split
    .rw[aO];trivial
    .rename_i aA;rw[aO]at h⊢;intro d al aw;obtain⟨a1,bc⟩:=hb x aA (h7 al (.inr aw));rw[a1,bc];rw[a1]at al aw;exact h d al aw
   |U x k=>
    simp only[dD.cT];split
    .rw[aO];trivial
    .rename_i aA;rw[aO]at h⊢;intro aw;obtain⟨a1,bc⟩:=hb x aA (D5 aw);rw[bc];rw[a1]at aw;exact h aw
   |fn f cap=>
    simp only[dD.cT];rw[aO]at h⊢;obtain⟨arr,rfl,aC⟩:=h;exact⟨arr,rfl,ih.2 _ _ (by simp at b3;omega) aC⟩
   |_=>
    rw[Rn (by rfl)];exact(aO.cI (by rfl)).2 ((aO.cI (by rfl)).1 h)
  .cases ds with
   |nil=>rw[jI,ef];rw[ef]at h;exact h
   |cons d ds=>
    rw[jI,ef];rw[ef]at h;obtain⟨v,gY,rfl,af,ag⟩:=h;simp at b3;exact⟨v,gY,rfl,ih.1 _ _ _ (by omega) af,ih.2 _ _ (by omega) ag⟩
theorem aO.cp {aK:World} (hb:∀x,x≠t->(aH x).tree=true->aH x=s x/\iO x=aF x) (iZ:iO t=aF t) (fQ:(aH t).plain=false->(s t).plain=false/\∀v,dy (s t) v->dy (aH t) v)
  (kx:∀x q d,x≠t->I.sub q (s x)=some d->(d.plain=false\/I.fU q (s x)=true)->dh aK q (s x) (ct (aF x)) none=dh w q (s x) (ct (aF x)) none)
  (bm:∀b,F b->aK.heap[b]? =w.heap[b]?):∀(n:Nat),
  (∀(d:I) (v:Value) (S:Nat->Prop),SizeOf.sizeOf d<=n->(∀b,S b->aK.heap[b]? =w.heap[b]?)->aO w F s aF d v S->aO aK F aH iO (dD.cp t d) v S)/\
  (∀(ds:ahI) (vs:ahF),SizeOf.sizeOf ds<=n->ef w F s aF ds vs->ef aK F aH iO (i7 t ds) vs):=by
 intro n;induction n with
 |zero=>
  refine⟨λd v S b3=>?_,λds vs b3=>?_⟩
  .cases d<;>simp at b3<;>omega
  .cases ds<;>simp at b3<;>omega
 |succ n ih=>
  refine⟨λd v S b3 tW h=>?_,λds vs b3 h=>?_⟩
  .cases d with
   |hole=>rw[dD.cp.eq_def];simp only;rw[aO];trivial
   |h x q=>
    simp only[dD.cp];split
    .rename_i aA;subst aA;split
     .rename_i cM;subst cM;rw[aO]at h⊢;intro d al aw;simp only[I.sub,some.injEq]at al;subst al;obtain⟨dZ,bD⟩:=fQ aw;obtain⟨cO,a,aX,bk,ca⟩:=h (s x) rfl dZ;simp only[dh,some.injEq,Prod.mk.injEq]at aX;obtain⟨-,aX,afU⟩:=aX;refine⟨ct (iO x),none,rfl,?_,bD _ ca⟩;rw[iZ,bk,<-aX]
     .rw[aO];trivial
    .rename_i aA;rw[aO]at h⊢;intro d al aw;obtain⟨a1,bc⟩:=hb x aA (h7 al (.inl aw));rw[a1,bc];rw[a1]at al;rw[kx x q d aA al (.inl aw)];exact h d al aw
   |aw x q=>
    simp only[dD.cp];split
    .rw[aO];trivial
    .rename_i aA;rw[aO]at h⊢;intro d al aw;obtain⟨a1,bc⟩:=hb x aA (h7 al (.inr aw));rw[a1,bc];rw[a1]at al aw;rw[kx x q d aA al (.inr aw)];exact h d al aw
   |U x k=>
    simp only[dD.cp];rw[aO]at h⊢;intro aw;by_cases aA:x=t
    .subst aA;obtain⟨b,cur,e,fr,af,ag,aJ,a_⟩:=h (fQ aw).1;exact⟨b,cur,e,fr,af,ag,(bm b ag).trans aJ,by rw[iZ];exact a_⟩
    .obtain⟨a1,bc⟩:=hb x aA (D5 aw);rw[a1]at aw;obtain⟨b,cur,e,fr,af,ag,aJ,a_⟩:=h aw;exact⟨b,cur,e,fr,af,ag,(bm b ag).trans aJ,by rw[bc];exact a_⟩
   |fn f cap=>
    simp only[dD.cp];rw[aO]at h⊢;obtain⟨arr,rfl,aC⟩:=h;exact⟨arr,rfl,ih.2 _ _ (by simp at b3;omega) aC⟩
   |_=>
    rw[D6 (by rfl)];have bO:=(aO.cI (by rfl)).1 h;exact(aO.cI (by rfl)).2 ⟨bO.1,ay.frame bm _ _ _ tW bO.2⟩
  .cases ds with
   |nil=>rw[i7,ef];rw[ef]at h;exact h
   |cons d ds=>
    rw[i7,ef];rw[ef]at h;obtain⟨v,gY,rfl,af,ag⟩:=h;simp at b3;exact⟨v,gY,rfl,ih.1 _ _ _ (by omega) (λ_ h=>h.elim) af,ih.2 _ _ (by omega) ag⟩
theorem aO.void (hb:∀x,x≠t->(aH x).tree=true->aH x=s x/\iO x=aF x) (pv:(aH t).plain=true):∀(n:Nat),
  (∀(d:I) (v:Value) (S:Nat->Prop),SizeOf.sizeOf d<=n->aO w F s aF d v S->aO w F aH iO d v S)/\
  (∀(ds:ahI) (vs:ahF),SizeOf.sizeOf ds<=n->ef w F s aF ds vs->ef w F aH iO ds vs):=by
 intro n;induction n with
 |zero=>
  refine⟨λd v S b3=>?_,λds vs b3=>?_⟩
  .cases d<;>simp at b3<;>omega
  .cases ds<;>simp at b3<;>omega
 |succ n ih=>
  refine⟨λd v S b3 h=>?_,λds vs b3 h=>?_⟩
  .cases d with
   |hole=>rw[aO];trivial
   |h x q=>
    rw[aO]at h⊢;intro d al aw;by_cases aA:x=t
    .subst aA;rw[I.D3 _ _ _ pv al]at aw;cases aw
    .obtain⟨a1,bc⟩:=hb x aA (h7 al (.inl aw));rw[a1,bc];rw[a1]at al;exact h d al aw
   |aw x q=>
    rw[aO]at h⊢;intro d al aw;by_cases aA:x=t
    .subst aA;rw[I.JQ _ _ pv]at aw;cases aw
    .obtain⟨a1,bc⟩:=hb x aA (h7 al (.inr aw));rw[a1,bc];rw[a1]at al aw;exact h d al aw
   |U x k=>
    rw[aO]at h⊢;intro aw;by_cases aA:x=t
    .subst aA;rw[pv]at aw;cases aw
    .obtain⟨a1,bc⟩:=hb x aA (D5 aw);rw[bc];rw[a1]at aw;exact h aw
   |fn f cap=>
    rw[aO]at h⊢;obtain⟨arr,rfl,aC⟩:=h;exact⟨arr,rfl,ih.2 _ _ (by simp at b3;omega) aC⟩
   |_=>exact(aO.cI (by rfl)).2 ((aO.cI (by rfl)).1 h)
  .cases ds with
   |nil=>rw[ef];rw[ef]at h;exact h
   |cons d ds=>
    rw[ef];rw[ef]at h;obtain⟨v,gY,rfl,af,ag⟩:=h;simp at b3;exact⟨v,gY,rfl,ih.1 _ _ _ (by omega) af,ih.2 _ _ (by omega) ag⟩
end
def Rp:Bool:=false
def Out (w w0:World):Prop:=w.output=w0.output/\(Rp=true->w0.drawn<=w.drawn)
theorem Out.trans {a b c:World} (h:Out a b) (ag:Out b c):Out a c:=⟨Eq.trans h.1 ag.1,λd=>Nat.le_trans (ag.2 d) (h.2 d)⟩
theorem Out.refl (w:World):Out w w:=⟨rfl,λ_=>Nat.le_refl _⟩
def Rq:List (Nat×(Obj->Prop)):=[]
def vI (w:World) (X:Nat->Prop):Prop:=∀p∈Rq,p.1<w.heap.size/\¬X p.1/\∃o,w.heap[p.1]? =some o/\p.2 o
theorem vI.next {w aK:World} {X Y:Nat->Prop} (h:vI w X) (ae:w.heap.size<=aK.heap.size) (U:∀b,b<w.heap.size->¬X b->aK.heap[b]? =w.heap[b]?) (bu:∀b,Y b->X b\/w.heap.size<=b):vI aK Y:=λp aw=>by
 obtain⟨af,ag,o,aJ,a_⟩:=h p aw;refine⟨Nat.lt_of_lt_of_le af ae,λh=>?_,o,(U _ af ag).trans aJ,a_⟩;rcases bu _ h with h|h
 .exact ag h
 .omega
structure bK (w0:World) (F0 X F:Nat->Prop) (S:Nat->Nat->Prop) (s:ao) (aF:Nat->Value) (w:World):Prop where
 g5:∀b,F0 b->F b
 ho:∀b,F b->F0 b\/X b\/w0.heap.size<=b
 fR:∀b,F b->b<w.heap.size
 et:∀t b,S t b->b<w.heap.size
 fS:∀t b,S t b->¬F b
 fe:∀t u b,t≠u->S t b->¬S u b
 dI:∀t b,S t b->X b\/w0.heap.size<=b
 dz:∀t,aO w F s aF (s t) (aF t) (S t)
 old:∀b,b<w0.heap.size->¬X b->w.heap[b]? =w0.heap[b]?
 size:w0.heap.size<=w.heap.size
 os:w.os=w0.os
 tape:w.tape=w0.tape
 output:Out w w0
 hG:vI w0 X
section
variable {w0 w aK:World} {F0 X F:Nat->Prop} {S:Nat->Nat->Prop} {s:ao} {aF:Nat->Value}
theorem bK.grow (h:bK w0 F0 X F S s aF w) (U:∀b,b<w.heap.size->aK.heap[b]? =w.heap[b]?) (ae:w.heap.size<=aK.heap.size)
  (af:aK.os=w.os) (ag:aK.tape=w.tape) (aJ:Out aK w):bK w0 F0 X F S s aF aK where
 g5:=h.g5
 ho:=h.ho
 fR:=λb bm=>Nat.lt_of_lt_of_le (h.fR b bm) ae
 et:=λt b bm=>Nat.lt_of_lt_of_le (h.et t b bm) ae
 fS:=h.fS
 fe:=h.fe
 dI:=h.dI
 dz:=λt=>aO.frame (Sx:=S) (λb bm=>U b (h.fR b bm)) (λ_ h=>h) (λx b bN=>U b (h.et x b bN)) h.dz _ _ _ (λb bN=>U b (h.et t b bN)) (h.dz t)
 old:=λb en j1=>(U b (Nat.lt_of_lt_of_le en h.size)).trans (h.old b en j1)
 size:=Nat.le_trans h.size ae
 os:=af.trans h.os
 tape:=ag.trans h.tape
 output:=aJ.trans h.output
 hG:=h.hG
def gm (S:Nat->Nat->Prop) (t:Nat) (Sn:Nat->Prop):Nat->Nat->Prop:=λu b=>if u=t then Sn b else S u b
theorem x5 (S:Nat->Nat->Prop) (t:Nat) (Sn:Nat->Prop):gm S t Sn t=Sn:=by funext b;simp[gm]
theorem x6 (S:Nat->Nat->Prop) {t u:Nat} (Sn:Nat->Prop) (h:u≠t):gm S t Sn u=S u:=by funext b;simp[gm,h]
theorem bK.rn (h:bK w0 F0 X F S s aF w) {t:Nat} {d:I} {v:Value} (aw:d.plain=true) (al:aO w F s aF d v (λ_=>False)):
  bK w0 F0 X F (gm S t (λ_=>False)) (cY s t d) (cY aF t v) w where
 g5:=h.g5
 ho:=h.ho
 fR:=h.fR
 et:=λu b U=>by simp only[gm]at U;split at U;exact U.elim;exact h.et u b U
 fS:=λu b U=>by simp only[gm]at U;split at U;exact U.elim;exact h.fS u b U
 fe:=λu x b dG U aA=>by
  simp only[gm]at U aA;split at U
  .exact U.elim
  .split at aA
   .exact aA.elim
   .exact h.fe u x b dG U aA
 dI:=λu b U=>by simp only[gm]at U;split at U;exact U.elim;exact h.dI u b U
 dz:=λu=>by
  have hb:∀x,x≠t->(cY s t d x).tree=true->cY s t d x=s x/\cY aF t v x=aF x:=λx aA _=>⟨iz _ _ aA,iz _ _ aA⟩
  have pv:(cY s t d t).plain=true:=by rw[mv];exact aw
  by_cases hu:u=t
  .subst hu;rw[mv,mv,x5];exact(aO.void hb pv _).1 _ _ _ (Nat.le_refl _) al
  .rw[iz _ _ hu,iz _ _ hu,x6 _ _ hu];exact(aO.void hb pv _).1 _ _ _ (Nat.le_refl _) (h.dz u)
 old:=h.old
 size:=h.size
 os:=h.os
 tape:=h.tape
 output:=h.output
 hG:=h.hG
theorem bK.AR (h:bK w0 F0 X F S s aF w) {t:Nat} {d:I} {v:Value} {Sn:Nat->Prop} (al:d.tree=true) (ae:dy d v) (aP:ay w F d (ct v) Sn)
  (en:∀b,Sn b->b<w.heap.size) (bm:∀b,Sn b->¬F b) (bN:∀u b,u≠t->Sn b->¬S u b) (bA:∀b,Sn b->X b\/w0.heap.size<=b):
  bK w0 F0 X F (gm S t Sn) (cY (kR t s) t d) (cY aF t v) w where
 g5:=h.g5
 ho:=h.ho
 fR:=h.fR
 et:=λu b U=>by simp only[gm]at U;split at U;exact en b U;exact h.et u b U
 fS:=λu b U=>by simp only[gm]at U;split at U;exact bm b U;exact h.fS u b U
 fe:=λu x b dG U aA=>by
  simp only[gm]at U aA;split at U
  .rename_i hu;rw[if_neg (λe=>dG (hu.trans e.symm))]at aA;exact bN x b (λe=>dG (hu.trans e.symm)) U aA
  .rename_i hu;split at aA
   .exact bN u b hu aA U
   .exact h.fe u x b dG U aA
 dI:=λu b U=>by simp only[gm]at U;split at U;exact bA b U;exact h.dI u b U
 dz:=λu=>by
  have hb:∀x,x≠t->(cY (kR t s) t d x).tree=true->cY (kR t s) t d x=s x/\cY aF t v x=aF x:=λx aA aZ=>by
   rw[iz _ _ aA]at aZ⊢;exact⟨(Ro aZ).2,iz _ _ aA⟩
  by_cases hu:u=t
  .subst hu;rw[mv,mv,x5];exact(aO.cI al).2 ⟨ae,aP⟩
  .rw[iz _ _ hu,iz _ _ hu,x6 _ _ hu];exact(aO.cT hb _).1 _ _ _ (Nat.le_refl _) (h.dz u)
 old:=h.old
 size:=h.size
 os:=h.os
 tape:=h.tape
 output:=h.output
 hG:=h.hG
theorem sB (k:Nat) (q:ahC) (bz x:I):(∃aG gs,x= .agg aG/\I.put (k::q) bz x= .agg gs)\/(∃aG gs,x= .tuple aG/\I.put (k::q) bz x= .tuple gs)\/
  (∃sz xs cr,x= .ad sz xs/\I.put (k::q) bz x= .ad sz cr)\/(∃y z,x= .ai y/\I.put (k::q) bz x= .ai z)\/I.put (k::q) bz x=x:=by
 cases x with
 |agg aG=>simp only[I.put];split<;>exact .inl ⟨_,_,rfl,rfl⟩
 |tuple aG=>simp only[I.put];split<;>exact .inr (.inl ⟨_,_,rfl,rfl⟩)
 |ad sz aG=>simp only[I.put];split<;>exact .inr (.inr (.inl ⟨_,_,_,rfl,rfl⟩))
 |ai y=>cases k<;>exact .inr (.inr (.inr (.inl ⟨_,_,rfl,rfl⟩)))
 |_=>exact .inr (.inr (.inr (.inr rfl)))
theorem JR {k:Nat} {q:ahC} {bz x:I} {v:Value} (h:iN x v):iN (I.put (k::q) bz x) v:=by
 rcases sB k q bz x with⟨aG,gs,rfl,e⟩|⟨aG,gs,rfl,e⟩|⟨sz,xs,cr,rfl,e⟩|⟨y,z,rfl,e⟩|e<;>rw[e]<;>exact h
theorem JS {k:Nat} {q:ahC} {bz x:I} (h:∀vs,x≠.tuple vs):∀vs,I.put (k::q) bz x≠.tuple vs:=by
 rcases sB k q bz x with⟨aG,gs,rfl,e⟩|⟨aG,gs,rfl,e⟩|⟨sz,xs,cr,rfl,e⟩|⟨y,z,rfl,e⟩|e<;>rw[e]<;>first|exact h|(intro vs bO;cases bO;done)|exact(h _ rfl).elim
theorem x7 {k:Nat} {q:ahC} {d bz av:I} {v:Value} (h:dy av v) (al:I.sub (k::q) av=some d) (af:∀v,iN d v->iN bz v) (ag:(∀vs,d≠.tuple vs)->∀vs,bz≠.tuple vs) (aJ:bz.wd=d.wd):
  dy (I.put (k::q) bz av) v:=by
 cases av with
 |tuple aG=>
  simp only[I.sub]at al;split at al
  .rename_i x aA;simp only[I.put,aA];simp only[dy]at h⊢;obtain⟨arr,rfl,b3,nr⟩:=h;refine⟨arr,rfl,by simpa using b3,λaz e y he bu=>?_⟩;rw[getElem?_set]at he;split at he
   .rename_i D7;subst D7;split at he
    .simp only[some.injEq]at he;subst he;obtain⟨aX,bk,ca⟩:=nr k x y aA bu;refine⟨?_,?_,ca.trans (I.vG q x d bz al aJ).symm⟩
     .cases q with
      |nil=>
       simp only[I.sub,some.injEq]at al;subst al;exact af _ aX
      |cons cK q=>exact JR aX
     .cases q with
      |nil=>
       simp only[I.sub,some.injEq]at al;subst al;exact ag bk
      |cons cK q=>exact JS bk
    .cases he
   .exact nr az e y he bu
  .cases al
 |agg aG=>simp only[I.put];split<;>exact h
 |ad sz aG=>simp only[I.put];split<;>exact h
 |ai y=>cases k<;>exact h
 |_=>exact h
theorem D8 {d:I} {v:Value} (h:iN d v):iN d.cZ v:=by cases d<;>exact h
theorem JT {s:ao} {x:Nat} {q:ahC} {d:I} (al:I.sub q (s x)=some d) (aw:d.plain=false):
  (cY (hV x s) x (I.put q d.cZ (s x)) x).plain=false->(s x).plain=false/\∀v,dy (s x) v->dy (cY (hV x s) x (I.put q d.cZ (s x)) x) v:=by
  rw[mv];intro hc;cases q with
  |nil=>
   exfalso;have:∀d:I,d.cZ.plain=true:=by
    intro d;have key:∀n,(∀d:I,SizeOf.sizeOf d<=n->d.cZ.plain=true)/\(∀ds:ahI,SizeOf.sizeOf ds<=n->I.eY (I.lQ ds)=true):=by
     intro n;induction n with
     |zero=>exact⟨λd b3=>by cases d<;>simp at b3<;>omega,λds b3=>by cases ds<;>simp at b3<;>omega⟩
     |succ n ih=>
      refine⟨λd b3=>?_,λds b3=>?_⟩
      .cases d with
       |agg aG=>simp only[I.cZ,I.plain];exact ih.2 _ (by simp at b3;omega)
       |tuple aG=>simp only[I.cZ,I.plain];exact ih.2 _ (by simp at b3;omega)
       |_=>rfl
      .cases ds with
       |nil=>rfl
       |cons d ds=>
        simp at b3;simp only[I.lQ,I.eY,Bool.and_eq_true];exact⟨ih.1 _ (by omega),ih.2 _ (by omega)⟩
    exact(key _).1 d (Nat.le_refl _)
   simp only[I.put]at hc;rw[this]at hc;cases hc
  |cons k q=>
   refine⟨?_,λv aP=>x7 aP al (λv h=>D8 h) (λh vs e=>?_) (I.sA d)⟩
   .cases cq:(s x).plain with
    |false=>rfl
    |true=>rw[I.D3 _ _ _ cq al]at aw;cases aw
   .cases d<;>first|(exact h _ rfl)|(simp[I.cZ]at e)
theorem bK.take (h:bK w0 F0 X F S s aF w) {x:Nat} {q:ahC} {d:I} (al:I.sub q (s x)=some d) (aw:d.plain=false):
  ∃(Sn fy:Nat->Prop) (cO:ahF) (a:Option (Nat×Nat)),bK w0 F0 X F (gm S x Sn) (cY (hV x s) x (I.put q d.cZ (s x))) aF w/\
   dh w q (s x) (ct (aF x)) none=some (d,cO,a)/\ay w F d cO fy/\(∀b,fy b->S x b)/\(∀b,Sn b->S x b)/\(∀b,fy b->¬Sn b)/\
   (∀(bz:I) (v:Value) (aS:Nat->Prop),aO w F s aF bz v aS->aO w F (cY (hV x s) x (I.put q d.cZ (s x))) aF (dD.cp x bz) v aS):=by
 have aZ:=h7 al (.inl aw);have aA:=h.dz x;rw[aO.cI aZ]at aA;obtain⟨cO,a,ei,fy,gO,aX,bk,ca,dr,er⟩:=ctx q (s x) (ct (aF x)) (S x) none d aA.2 al;have kO:ay w F (I.put q d.cZ (s x)) (ct (aF x)) ei:=by
  have i9:ay w F d.cZ cO (λ_=>False):=ay.cZ _ _ _ _ dr;have nY:∀b,(ei b\/False)->ei b:=λb h=>h.elim id False.elim;rcases er with⟨l,r,a1,bc,bb⟩|⟨b,cur,e,fr,l,r,a1,bc,bb,cl,cR,b0⟩
  .have:=bb w _ cO _ (λ_ _=>rfl) (λ_ _=>rfl) (I.sA d) i9 (λ_ h=>h.elim);rw[<-a1]at this;exact ay.mono (λ_ h=>h) _ _ _ _ nY this
  .have:=b0 w _ cO _ (λ_ _=>rfl) (λ_ _ _=>rfl) (by rw[bb,<-cR]) (I.sA d) i9 (λ_ h=>h.elim);exact ay.mono (λ_ h=>h) _ _ _ _ nY this
 have Rr:dy (I.put q d.cZ (s x)) (aF x)/\(I.put q d.cZ (s x)).tree=true\/I.put q d.cZ (s x)= .hole:=by
  cases q with
  |nil=>
   simp only[I.sub,some.injEq]at al;subst al;simp only[I.put];cases ae:s x with
   |ad sz xs=>right;rfl
   |ai y=>right;rfl
   |dN y=>right;rfl
   |agg aG=>left;rw[ae]at aA;exact⟨aA.1,rfl⟩
   |tuple aG=>
    left;rw[ae]at aA;refine⟨?_,rfl⟩;simp only[dy,I.cZ]at aA⊢;obtain⟨arr,e,b3,nr⟩:=aA.1;have hl:∀aG:ahI,I.lQ aG=aG.map I.cZ:=by
     intro aG;induction aG with
     |nil=>rfl
     |cons a aG ih=>simp[I.lQ,ih]
    refine⟨arr,e,by rw[hl];simpa using b3,λk dJ y he bu=>?_⟩;rw[hl,getElem?_map]at he;cases au:aG[k]? with
    |none=>rw[au]at he;cases he
    |some z=>
     rw[au]at he;simp only[map_some,some.injEq]at he;subst he;obtain⟨aX,bk,ca⟩:=nr k z y au bu;refine⟨D8 aX,λvs e=>?_,ca.trans (I.sA z).symm⟩;cases z<;>first|(exact bk _ rfl)|(simp[I.cZ]at e)
   |eQ _ _=>right;simp[I.cZ]
   |gC _=>right;simp[I.cZ]
   |_=>rw[ae]at aw;simp[I.plain]at aw
  |cons k q=>
   left;refine⟨x7 aA.1 al (λv h=>D8 h) (λh vs e=>?_) (I.sA d),?_⟩
   .cases d<;>first|(exact h _ rfl)|(simp[I.cZ]at e)
   .rcases sB k q d.cZ (s x)with⟨aG,gs,a1,e⟩|⟨aG,gs,a1,e⟩|⟨sz,xs,cr,a1,e⟩|⟨y,z,a1,e⟩|e<;>rw[e]<;>first|rfl|exact aZ
 refine⟨ei,fy,cO,a,?_,gO,dr,bk,aX,λb af ag=>ca b ag af,?_⟩
 rotate_left
 .have hb:∀y,y≠x->(cY (hV x s) x (I.put q d.cZ (s x)) y).tree=true->cY (hV x s) x (I.put q d.cZ (s x)) y=s y/\aF y=aF y:=λy bu aZ=>by
   rw[iz _ _ bu]at aZ⊢;exact⟨(AQ aZ).2,rfl⟩
  intro bz v aS hn;exact(aO.cp hb rfl (JT al aw) (λ_ _ _ _ _ _=>rfl) (λ_ _=>rfl) _).1 _ _ _ (Nat.le_refl _) (λ_ _=>rfl) hn
 have hb:∀y,y≠x->(cY (hV x s) x (I.put q d.cZ (s x)) y).tree=true->cY (hV x s) x (I.put q d.cZ (s x)) y=s y/\aF y=aF y:=λy bu aZ=>by
  rw[iz _ _ bu]at aZ⊢;exact⟨(AQ aZ).2,rfl⟩
 have fQ:=JT (s:=s) (x:=x) al aw;constructor;case g5=>exact h.g5
 case ho=>exact h.ho
 case fR=>exact h.fR
 case et=>exact λu b U=>by simp only[gm]at U;split at U;exact h.et x b (aX b U);exact h.et u b U
 case fS=>exact λu b U=>by simp only[gm]at U;split at U;exact h.fS x b (aX b U);exact h.fS u b U
 case fe=>
  intro u y b dG U bu;simp only[gm]at U bu;split at U
  .rename_i hu;rw[if_neg (λe=>dG (hu.trans e.symm))]at bu;exact h.fe x y b (λe=>dG (hu.trans e)) (aX b U) bu
  .rename_i hu;split at bu
   .exact h.fe u x b hu U (aX b bu)
   .exact h.fe u y b dG U bu
 case dI=>exact λu b U=>by simp only[gm]at U;split at U;exact h.dI x b (aX b U);exact h.dI u b U
 case dz=>
  intro u;by_cases hu:u=x
  .subst hu;rw[mv,x5];rcases Rr with⟨a1,bc⟩|e
   .exact(aO.cI bc).2 ⟨a1,kO⟩
   .rw[e,aO];trivial
  .rw[iz _ _ hu,x6 _ _ hu];exact(aO.cp hb rfl fQ (λ_ _ _ _ _ _=>rfl) (λ_ _=>rfl) _).1 _ _ _ (Nat.le_refl _) (λ_ _=>rfl) (h.dz u)
 case old=>exact h.old
 case size=>exact h.size
 case os=>exact h.os
 case tape=>exact h.tape
 case output=>exact h.output
 case hG=>exact h.hG
theorem bK.store (h:bK w0 F0 X F S s aF w) {x:Nat} {q:ahC} {d bz:I} (al:I.sub q (s x)=some d) (aC:I.fU q (s x)=true)
  {gh:ahF} {Sn:Nat->Prop} (aP:ay w F bz gh Sn) (kQ:bz.wd=d.wd)
  (en:∀b,Sn b->b<w.heap.size) (bm:∀b,Sn b->¬F b) (bN:∀u b,Sn b->¬S u b) (bA:∀b,Sn b->X b\/w0.heap.size<=b):
  ∃(cO:ahF) (b:Nat) (l r:ahF) (cur:Array Value) (e:TypeId) (fr:Nat×Nat),dh w q (s x) (ct (aF x)) none=some (d,cO,some (b,l.length))/\
   w.heap[b]? =some (.cells cur e fr)/\cur.toList=l++(cO++r)/\nm fr cur.size/\
   ∀aK,aK.heap[b]? =some (.cells (l++(gh++r)).toArray e fr)->(∀c,c≠b->aK.heap[c]? =w.heap[c]?)->aK.heap.size=w.heap.size->aK.os=w.os->aK.tape=w.tape->Out aK w->
    ∃aS,bK w0 F0 X F aS (cY (hV x s) x (I.put q bz (s x))) aF aK:=by
 have aZ:=h7 al (.inr aC);have aA:=h.dz x;rw[aO.cI aZ]at aA;obtain⟨cO,a,ei,fy,gO,aX,bk,ca,dr,er⟩:=ctx q (s x) (ct (aF x)) (S x) none d aA.2 al;have Rs:DY w F q (s x) (ct (aF x)) d cO a ei:=by
  rcases er with⟨l,r,a1,bc,bb⟩|er
  .exfalso;have lx:∀(q:ahC) (av:I) (cs:ahF) (j:Option (Nat×Nat)) (d:I) (cO:ahF),I.fU q av=true->dh w q av cs j=some (d,cO,none)->False:=by
    intro q;induction q with
    |nil=>intro av cs j d cO aC;simp[I.fU]at aC
    |cons k q ih=>
     have JU:∀(q:ahC) (av:I) (cs:ahF) (l:Nat×Nat) (d:I) (cO:ahF),dh w q av cs (some l)=some (d,cO,none)->False:=by
      intro q;induction q with
      |nil=>intro av cs l d cO h;simp[dh]at h
      |cons k q sC=>
       intro av cs l d cO h;cases av with
       |agg aG=>rw[dh]at h;split at h;exact sC _ _ _ _ _ h;cases h
       |tuple aG=>rw[dh]at h;split at h;exact sC _ _ _ _ _ h;cases h
       |ad sz xs=>simp only[dh]at h;split at h;exact sC _ _ _ _ _ h;cases h
       |ai y=>
        cases k with
        |zero=>rw[dh.eq_def]at h;simp only at h;split at h;exact sC _ _ _ _ _ h;cases h
        |succ k=>rw[show dh w ((k+1)::q) (.ai y) cs (some l)=none from rfl]at h;cases h
       |_=>simp[dh]at h
     intro av cs j d cO aC h;cases av with
     |agg aG=>
      simp only[I.fU]at aC;split at aC
      .rename_i y bu;simp only[dh,bu]at h;exact ih _ _ _ _ _ aC h
      .cases aC
     |tuple aG=>
      simp only[I.fU]at aC;split at aC
      .rename_i y bu;simp only[dh,bu]at h;exact ih _ _ _ _ _ aC h
      .cases aC
     |ad sz xs=>simp only[dh]at h;split at h;exact JU _ _ _ _ _ _ h;cases h
     |ai y=>
      cases k with
      |zero=>rw[dh.eq_def]at h;simp only at h;split at h;exact JU _ _ _ _ _ _ h;cases h
      |succ k=>rw[show dh w ((k+1)::q) (.ai y) cs j=none from rfl]at h;cases h
     |_=>simp[I.fU]at aC
   simp only[map_none]at bc;subst bc;exact lx _ _ _ _ _ _ aC gO
  .exact er
 obtain⟨b,cur,e,fr,l,r,rfl,bc,bb,cl,cR,b0⟩:=Rs;refine⟨cO,b,l,r,cur,e,fr,gO,bb,cR,cl,?_⟩;intro aK mN oF dR D9 D_ tX;have tY:S x b:=aX _ bc;have qy:∀c,F c->aK.heap[c]? =w.heap[c]? :=λc aC=>oF c (by rintro rfl;exact h.fS x _ tY aC);have afV:gh.length=cO.length:=by rw[ay.length _ _ _ aP,ay.length _ _ _ dr,kQ]
 have kO:=b0 aK bz gh Sn qy (λc _ dG=>oF c dG) mN kQ
  (ay.frame qy _ _ _ (λc aC=>oF c (by rintro rfl;exact bN x _ aC tY)) aP) (λc aC nY=>bN x c aC (aX _ nY))
 obtain⟨k,j2,rfl⟩:∃k j2,q=k::j2:=by
  cases q with
  |nil=>simp[I.fU]at aC
  |cons k q=>exact⟨k,q,rfl⟩
 have x8:∀v,dy (s x) v->dy (I.put (k::j2) bz (s x)) v:=by
  intro v aP;rcases sB k j2 bz (s x)with⟨aG,gs,a1,e⟩|⟨aG,gs,a1,e⟩|⟨sz,xs,cr,a1,e⟩|⟨y,z,a1,e⟩|e
  .rw[e];rw[a1]at aP;exact aP
  ·
   rw[a1]at aP al aC⊢;simp only[I.fU]at aC;split at aC
   .rename_i y bu;simp only[I.put,bu];cases j2 with
    |nil=>simp[I.fU]at aC
    |cons cK fF=>
     simp only[dy]at aP⊢;obtain⟨arr,rfl,b3,nr⟩:=aP;refine⟨arr,rfl,by simpa using b3,λaz e ly he tZ=>?_⟩;rw[getElem?_set]at he;split at he
     .rename_i D7;subst D7;split at he
      .simp only[some.injEq]at he;subst he;obtain⟨aX,bk,ca⟩:=nr _ y ly bu tZ;simp only[I.sub,bu]at al;exact⟨JR aX,JS bk,ca.trans (I.vG (cK::fF) y d bz al kQ).symm⟩
      .cases he
     .exact nr az e ly he tZ
   .cases aC
  .rw[e];rw[a1]at aP;exact aP
  .rw[e];rw[a1]at aP;exact aP
  .rw[e];exact aP
 have Rt:(I.put (k::j2) bz (s x)).tree=true:=by
  rcases sB k j2 bz (s x)with⟨aG,gs,a1,e⟩|⟨aG,gs,a1,e⟩|⟨sz,xs,cr,a1,e⟩|⟨y,z,a1,e⟩|e<;>rw[e]<;>first|rfl|exact aZ
 let aH:=cY (hV x s) x (I.put (k::j2) bz (s x))
 have hb:∀y,y≠x->(aH y).tree=true->aH y=s y/\aF y=aF y:=λy bu aZ=>by
  have e:aH y=cp x (s y):=iz _ _ bu;rw[e]at aZ⊢;exact⟨(AQ aZ).2,rfl⟩
 have fQ:(aH x).plain=false->(s x).plain=false/\∀v,dy (s x) v->dy (aH x) v:=by
  intro _;refine⟨?_,?_⟩
  .cases cq:(s x).plain with
   |false=>rfl
   |true=>rw[I.JQ _ _ cq]at aC;cases aC
  .simp only[aH,mv];exact x8
 refine⟨gm S x (λc=>ei c\/Sn c),?_⟩;constructor;case g5=>exact h.g5
 case ho=>exact h.ho
 case fR=>exact λb U=>by rw[dR];exact h.fR b U
 case et=>
  intro u c U;rw[dR];simp only[gm]at U;split at U
  .rcases U with U|U
   .exact h.et x c (aX c U)
   .exact en c U
  .exact h.et u c U
 case fS=>
  intro u c U;simp only[gm]at U;split at U
  .rcases U with U|U
   .exact h.fS x c (aX c U)
   .exact bm c U
  .exact h.fS u c U
 case fe=>
  intro u y c dG U bu;simp only[gm]at U bu;split at U
  .rename_i hu;rw[if_neg (λe=>dG (hu.trans e.symm))]at bu;rcases U with U|U
   .exact h.fe x y c (λe=>dG (hu.trans e)) (aX c U) bu
   .exact bN y c U bu
  .rename_i hu;split at bu
   .rcases bu with bu|bu
    .exact h.fe u x c hu U (aX c bu)
    .exact bN u c bu U
   .exact h.fe u y c dG U bu
 case dI=>
  intro u c U;simp only[gm]at U;split at U
  .rcases U with U|U
   .exact h.dI x c (aX c U)
   .exact bA c U
  .exact h.dI u c U
 case dz=>
  intro u;by_cases hu:u=x
  .subst hu;rw[mv,x5];exact(aO.cI Rt).2 ⟨x8 _ aA.1,kO⟩
  .rw[iz _ _ hu,x6 _ _ hu];have dG:∀y c,y≠x->S y c->aK.heap[c]? =w.heap[c]? :=λy c bu aC=>oF c (by rintro rfl;exact h.fe y x c bu aC tY);refine(aO.cp hb rfl fQ (λy fF d2 bu iA x9=>?_) qy _).1 _ _ _ (Nat.le_refl _) (λc aC=>dG u c hu aC) (h.dz u);have x_:=h.dz y;rw[aO.cI (h7 iA x9)]at x_;exact AP fF _ _ _ none d2 x_.2 iA (λc aC=>dG y c bu aC)
 case old=>
  intro c en j1;by_cases vJ:c=b
  .subst vJ;exfalso;rcases h.dI x c tY with i9|i9
   .exact j1 i9
   .omega
  .exact(oF c vJ).trans (h.old c en j1)
 case size=>rw[dR];exact h.size
 case os=>exact D9.trans h.os
 case tape=>exact D_.trans h.tape
 case output=>exact tX.trans h.output
 case hG=>exact h.hG
end
end Go.dD
