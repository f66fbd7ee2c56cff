/- Part of a proof that a law returns true for every input. No condition. -/
import Derived.Test.YtndfcecbamffaaaGreatFwA
import Derived.Laws.AppendOwn
import Derived.Calls
namespace Go.cW
open List Option Go.IntKind Nat Or
inductive vO where
 |mp (es:gk)
 |vP
 |gP (T e:TypeId) (jK:nq)
inductive j where
 |hole
 |bool (b:Bool)
 |eF
 |int (k:IntKind) (n:Int)
 |str (s:nq)
 |c8
 |aJ
 |slice (xs:List j)
 |ad (sz:Nat) (xs:List j)
 |ref (d:j)
 |aD (d:j)
 |agg (ar:List j)
 |tuple (vs:List j)
 |fn (f:FuncId) (cap:List j)
 |h (x:Nat) (q:abI)
 |al (x:Nat) (q:abI)
 |J (x:Nat) (k:Nat)
 |dc (o:vO)
 |eU (f:FuncId) (cap:List j)
 |fB (d:j)
 deriving Inhabited
abbrev abN:=List j
abbrev abM:=List (Nat×j)
mutual
def j.wd:j->Nat
 | .agg ar=>j.c6 ar
 | .tuple ar=>j.c6 ar
 |_=>1
def j.c6:abN->Nat
 |[]=>0
 |d::ds=>d.wd+j.c6 ds
end
def Rd (w:World) (b o:Nat) (cs:abL):Prop:=∀au c,cs[au]? =some c->w.cell? ⟨b,o+au,none⟩=some c
def j6 (fr:Nat×Nat) (n:Nat):Prop:=∀o,o<n->¬(fr.1<=o/\o<fr.2)
theorem j6.le {fr:Nat×Nat} {m n:Nat} (h:j6 fr n) (hm:m<=n):j6 fr m:=λo br=>h o (Nat.lt_of_lt_of_le br hm)
theorem j6.low {fr:Nat×Nat} {n k:Nat} (h:j6 fr (n+k)):j6 fr n:=h.le (le_add_right _ _)
def Value.ft:Value->Bool
 | .agg _=>false
 | .tuple _=>false
 |_=>true
def j.single:j->Bool
 | .agg _=>false
 | .tuple _=>false
 | .hole=>false
 |_=>true
def j.one:j->Bool
 | .agg _=>false
 | .tuple _=>false
 |_=>true
def kq (w:World):vO->abL->(Nat->Prop)->Prop
 | .mp es,cs,S=>∃r ms lC,cs=[.map (some r)]/\S r/\w.heap[r]? =some (.map ms lC)/\ms.toList.map (λe=>(e.key,e.val))=es.map (λe=>(.string ⟨⟨e.1⟩⟩,.bool e.2))
 | .vP,cs,_=>cs=[.map none]
 | .gP T e jK,cs,S=>∃b a rF,cs=[.pointer (some ⟨b,0,none⟩)]/\S b/\w.heap[b]? =some (.cells #[a,rF] T (0,0))/\(a= .pointer none\/a= .pointer (some ⟨b,0,none⟩))/\
   ((jK=[]/\rF= .slice none 0 0)\/
     ∃g cap cur,rF= .slice (some ⟨g,0,none⟩) jK.length cap/\S g/\g≠b/\w.heap[g]? =some (.cells cur e (0,0))/\jK.length<=cap/\cap<=maxLen/\cur.size=cap/\
      cur.toList.take jK.length=jK.map λx=>.int .u8 x.toNat)
theorem kq.frame {w ax:World}:∀{o:vO} {cs:abL} {S:Nat->Prop},(∀b,S b->ax.heap[b]? =w.heap[b]?)->kq w o cs S->kq ax o cs S
 | .mp _,_,_,bg,⟨r,ms,lC,R,U,aA,aU⟩=>⟨r,ms,lC,R,U,(bg _ U).trans aA,aU⟩
 | .vP,_,_,_,h=>h
 | .gP _ _ _,_,_,bg,⟨b,a,rF,R,U,aA,aU,bt⟩=>⟨b,a,rF,R,U,(bg _ U).trans aA,aU,bt.imp (λh=>h) λ⟨g,cap,cur,jL,hT,rG,Bh,vQ⟩=>⟨g,cap,cur,jL,hT,rG,(bg _ hT).trans Bh,vQ⟩⟩
theorem kq.mono {w:World}:∀{o:vO} {cs:abL} {S aF:Nat->Prop},(∀b,S b->aF b)->kq w o cs S->kq w o cs aF
 | .mp _,_,_,_,bg,⟨r,ms,lC,R,U,aA⟩=>⟨r,ms,lC,R,bg _ U,aA⟩
 | .vP,_,_,_,_,h=>h
 | .gP _ _ _,_,_,_,bg,⟨b,a,rF,R,U,aA,aU,bt⟩=>⟨b,a,rF,R,bg _ U,aA,aU,bt.imp (λh=>h) λ⟨g,cap,cur,jL,hT,rG⟩=>⟨g,cap,cur,jL,bg _ hT,rG⟩⟩
theorem kq.one {w:World}:∀{o:vO} {cs:abL} {S:Nat->Prop},kq w o cs S->∃v,Value.ft v=true/\cs=[v]
 | .mp _,_,_,⟨_,_,_,h,_⟩=>⟨_,rfl,h⟩
 | .vP,_,_,h=>⟨_,rfl,h⟩
 | .gP _ _ _,_,_,⟨_,_,_,h,_⟩=>⟨_,rfl,h⟩
mutual
def ai (w:World) (F:Nat->Prop):j->abL->(Nat->Prop)->Prop
 | .hole,cs,_=>∃v,Value.ft v=true/\cs=[v]
 | .bool b,cs,_=>cs=[.bool b]
 | .eF,cs,_=>∃b,cs=[.bool b]
 | .int k n,cs,_=>cs=[.int k n]
 | .str s,cs,_=>cs=[.string ⟨⟨s⟩⟩]
 | .c8,cs,_=>cs=[.pointer none]
 | .aJ,cs,_=>cs=[.slice none 0 0]
 | .slice xs,cs,_=>(xs=[]/\∃a c,cs=[.slice a 0 c]/\c<=maxLen/\(a=none->c=0))\/
   ∃b o cap cX sz,cs=[.slice (some ⟨b,o,none⟩) xs.length cap]/\F b/\xs.length<=cap/\cap<=maxLen/\(∀d∈xs,d.wd=sz)/\
    Rd w b o cX/\aS w F xs cX (λ_=>False)
 | .ad sz xs,cs,S=>(xs=[]/\∃a,cs=[.slice a 0 0])\/
   ∃b cap cur e fr aF,cs=[.slice (some ⟨b,0,none⟩) xs.length cap]/\S b/\w.heap[b]? =some (.cells cur e fr)/\j6 fr (cur.size+(sz-1))/\
    xs.length<=cap/\cap<=maxLen/\cur.size=cap*sz/\(∀d∈xs,d.wd=sz)/\aS w F xs (cur.toList.take (xs.length*sz)) aF/\(∀c,aF c->S c)/\¬aF b
 | .ref d,cs,_=>∃b o cX,cs=[.pointer (some ⟨b,o,none⟩)]/\F b/\Rd w b o cX/\ai w F d cX (λ_=>False)
 | .aD d,cs,S=>∃b cur e fr aF,cs=[.pointer (some ⟨b,0,none⟩)]/\S b/\w.heap[b]? =some (.cells cur e fr)/\j6 fr cur.size/\
   ai w F d cur.toList aF/\(∀c,aF c->S c)/\¬aF b
 | .agg ar,cs,S=>aS w F ar cs S
 | .tuple ar,cs,S=>aS w F ar cs S
 | .fn f caps,cs,_=>∃arr:Array Value,cs=[.func (.func f) #[] arr]/\(∀d∈caps,d.single=true)/\aS w F caps arr.toList (λ_=>False)
 | .h _ _,_,_=>False
 | .al _ _,_,_=>False
 | .J _ _,_,_=>False
 | .dc o,cs,S=>kq w o cs S
 | .eU f caps,cs,S=>∃arr:Array Value,cs=[.func (.func f) #[] arr]/\(∀d∈caps,d.one=true)/\aS w F caps arr.toList S
 | .fB d,cs,S=>∃b v e fr,cs=[.pointer (some ⟨b,0,none⟩)]/\F b/\w.heap[b]? =some (.cells #[v] e fr)/\ai w F d [v] S
def aS (w:World) (F:Nat->Prop):abN->abL->(Nat->Prop)->Prop
 |[],cs,_=>cs=[]
 |d::ds,cs,S=>∃bD bH bJ cS,cs=bD++bH/\ai w F d bD bJ/\aS w F ds bH cS/\(∀b,bJ b->S b)/\(∀b,cS b->S b)/\(∀b,bJ b->¬cS b)
end
theorem cell?_of_block {w ax:World} {b:Nat} (h:ax.heap[b]? =w.heap[b]?) (o:Nat):ax.cell? ⟨b,o,none⟩=w.cell? ⟨b,o,none⟩:=by
 simp[World.cell?,h]
theorem Rd.frame {w ax:World} {b o:Nat} {cs:abL} (h:ax.heap[b]? =w.heap[b]?) (aN:Rd w b o cs):Rd ax b o cs:=
 λau c aj=>(cell?_of_block h _).trans (aN au c aj)
mutual
theorem ai.frame {w ax:World} {F:Nat->Prop} (aY:∀b,F b->ax.heap[b]? =w.heap[b]?):
  ∀(d:j) (cs:abL) (S:Nat->Prop),(∀b,S b->ax.heap[b]? =w.heap[b]?)->ai w F d cs S->ai ax F d cs S
 | .hole,_,_,_,h=>h
 | .bool _,_,_,_,h=>h
 | .eF,_,_,_,h=>h
 | .int _ _,_,_,_,h=>h
 | .str _,_,_,_,h=>h
 | .c8,_,_,_,h=>h
 | .aJ,_,_,_,h=>h
 | .slice xs,cs,S,bg,h=>by
   rw[ai]at h⊢;rcases h with h|⟨b,o,cap,cX,sz,R,U,aA,aU,bt,b5,cd⟩
   .exact .inl h
   .exact .inr ⟨b,o,cap,cX,sz,R,U,aA,aU,bt,b5.frame (aY _ U),aS.frame aY xs _ _ (λ_ h=>h.elim) cd⟩
 | .ad sz xs,cs,S,bg,h=>by
   rw[ai]at h⊢;rcases h with h|⟨b,cap,cur,e,fr,aF,R,U,aA,aU,bt,b5,cd,dQ,gQ,gx,iN⟩
   .exact .inl h
   .exact .inr ⟨b,cap,cur,e,fr,aF,R,U,(bg _ U).trans aA,aU,bt,b5,cd,dQ,aS.frame aY xs _ _ (λc aj=>bg _ (gx _ aj)) gQ,gx,iN⟩
 | .ref d,cs,S,bg,h=>by
   rw[ai]at h⊢;obtain⟨b,o,cX,R,U,aA,aU⟩:=h;exact⟨b,o,cX,R,U,aA.frame (aY _ U),ai.frame aY d _ _ (λ_ h=>h.elim) aU⟩
 | .aD d,cs,S,bg,h=>by
   rw[ai]at h⊢;obtain⟨b,cur,e,fr,aF,R,U,aA,aU,bt,b5,cd⟩:=h;exact⟨b,cur,e,fr,aF,R,U,(bg _ U).trans aA,aU,ai.frame aY d _ _ (λc aj=>bg _ (b5 _ aj)) bt,b5,cd⟩
 | .agg ar,cs,S,bg,h=>by rw[ai]at h⊢;exact aS.frame aY ar _ _ bg h
 | .tuple ar,cs,S,bg,h=>by rw[ai]at h⊢;exact aS.frame aY ar _ _ bg h
 | .fn _ caps,cs,S,bg,h=>by
   rw[ai]at h⊢;obtain⟨arr,R,U,aA⟩:=h;exact⟨arr,R,U,aS.frame aY caps _ _ (λ_ h=>h.elim) aA⟩
 | .h _ _,_,_,_,h=>h
 | .al _ _,_,_,_,h=>h
 | .J _ _,_,_,_,h=>h
 | .dc _,_,_,bg,h=>kq.frame bg h
 | .eU _ caps,cs,S,bg,h=>by
   rw[ai]at h⊢;obtain⟨arr,R,U,aA⟩:=h;exact⟨arr,R,U,aS.frame aY caps _ _ bg aA⟩
 | .fB d,cs,S,bg,h=>by
   rw[ai]at h⊢;obtain⟨b,v,e,fr,R,U,aA,aU⟩:=h;exact⟨b,v,e,fr,R,U,(aY _ U).trans aA,ai.frame aY d _ _ bg aU⟩
theorem aS.frame {w ax:World} {F:Nat->Prop} (aY:∀b,F b->ax.heap[b]? =w.heap[b]?):
  ∀(ds:abN) (cs:abL) (S:Nat->Prop),(∀b,S b->ax.heap[b]? =w.heap[b]?)->aS w F ds cs S->aS ax F ds cs S
 |[],_,_,_,h=>h
 |d::ds,cs,S,bg,h=>by
  rw[aS]at h⊢;obtain⟨bD,bH,bJ,cS,R,U,aA,aU,bt,b5⟩:=h;exact⟨bD,bH,bJ,cS,R,ai.frame aY d _ _ (λb J=>bg _ (aU _ J)) U,aS.frame aY ds _ _ (λb J=>bg _ (bt _ J)) aA,aU,bt,b5⟩
end
mutual
theorem ai.mono {w:World} {F bC:Nat->Prop} (aY:∀b,F b->bC b):
  ∀(d:j) (cs:abL) (S aF:Nat->Prop),(∀b,S b->aF b)->ai w F d cs S->ai w bC d cs aF
 | .hole,_,_,_,_,h=>h
 | .bool _,_,_,_,_,h=>h
 | .eF,_,_,_,_,h=>h
 | .int _ _,_,_,_,_,h=>h
 | .str _,_,_,_,_,h=>h
 | .c8,_,_,_,_,h=>h
 | .aJ,_,_,_,_,h=>h
 | .slice xs,cs,S,_,bg,h=>by
   rw[ai]at h⊢;rcases h with h|⟨b,o,cap,cX,sz,R,U,aA,aU,bt,b5,cd⟩
   .exact .inl h
   .exact .inr ⟨b,o,cap,cX,sz,R,aY _ U,aA,aU,bt,b5,aS.mono aY xs _ _ _ (λ_ h=>h) cd⟩
 | .ad sz xs,cs,S,_,bg,h=>by
   rw[ai]at h⊢;rcases h with h|⟨b,cap,cur,e,fr,aF,R,U,aA,aU,bt,b5,cd,dQ,gQ,gx,iN⟩
   .exact .inl h
   .exact .inr ⟨b,cap,cur,e,fr,aF,R,bg _ U,aA,aU,bt,b5,cd,dQ,aS.mono aY xs _ _ _ (λ_ h=>h) gQ,λc aj=>bg _ (gx _ aj),iN⟩
 | .ref d,cs,S,_,bg,h=>by
   rw[ai]at h⊢;obtain⟨b,o,cX,R,U,aA,aU⟩:=h;exact⟨b,o,cX,R,aY _ U,aA,ai.mono aY d _ _ _ (λ_ h=>h) aU⟩
 | .aD d,cs,S,_,bg,h=>by
   rw[ai]at h⊢;obtain⟨b,cur,e,fr,aF,R,U,aA,aU,bt,b5,cd⟩:=h;exact⟨b,cur,e,fr,aF,R,bg _ U,aA,aU,ai.mono aY d _ _ _ (λ_ h=>h) bt,λc aj=>bg _ (b5 _ aj),cd⟩
 | .agg ar,cs,S,_,bg,h=>by rw[ai]at h⊢;exact aS.mono aY ar _ _ _ bg h
 | .tuple ar,cs,S,_,bg,h=>by rw[ai]at h⊢;exact aS.mono aY ar _ _ _ bg h
 | .fn _ caps,cs,S,_,bg,h=>by
   rw[ai]at h⊢;obtain⟨arr,R,U,aA⟩:=h;exact⟨arr,R,U,aS.mono aY caps _ _ _ (λ_ h=>h) aA⟩
 | .h _ _,_,_,_,_,h=>h
 | .al _ _,_,_,_,_,h=>h
 | .J _ _,_,_,_,_,h=>h
 | .dc _,_,_,_,bg,h=>kq.mono bg h
 | .eU _ caps,cs,S,_,bg,h=>by
   rw[ai]at h⊢;obtain⟨arr,R,U,aA⟩:=h;exact⟨arr,R,U,aS.mono aY caps _ _ _ bg aA⟩
 | .fB d,cs,S,_,bg,h=>by
   rw[ai]at h⊢;obtain⟨b,v,e,fr,R,U,aA,aU⟩:=h;exact⟨b,v,e,fr,R,aY _ U,aA,ai.mono aY d _ _ _ bg aU⟩
theorem aS.mono {w:World} {F bC:Nat->Prop} (aY:∀b,F b->bC b):
  ∀(ds:abN) (cs:abL) (S aF:Nat->Prop),(∀b,S b->aF b)->aS w F ds cs S->aS w bC ds cs aF
 |[],_,_,_,_,h=>h
 |d::ds,cs,S,_,bg,h=>by
  rw[aS]at h⊢;obtain⟨bD,bH,bJ,cS,R,U,aA,aU,bt,b5⟩:=h;exact⟨bD,bH,bJ,cS,R,ai.mono aY d _ _ _ (λ_ h=>h) U,aS.mono aY ds _ _ _ (λ_ h=>h) aA,λb J=>bg _ (aU _ J),λb J=>bg _ (bt _ J),b5⟩
end
mutual
theorem ai.length {w:World} {F:Nat->Prop}:∀(d:j) (cs:abL) (S:Nat->Prop),ai w F d cs S->cs.length=d.wd
 | .hole,cs,S,h=>by rw[ai]at h;obtain⟨v,_,rfl⟩:=h;rfl
 | .bool _,cs,S,h=>by rw[ai]at h;subst h;rfl
 | .eF,cs,S,h=>by rw[ai]at h;obtain⟨b,rfl⟩:=h;rfl
 | .int _ _,cs,S,h=>by rw[ai]at h;subst h;rfl
 | .str _,cs,S,h=>by rw[ai]at h;subst h;rfl
 | .c8,cs,S,h=>by rw[ai]at h;subst h;rfl
 | .aJ,cs,S,h=>by rw[ai]at h;subst h;rfl
 | .slice xs,cs,S,h=>by
   rw[ai]at h;rcases h with⟨_,a,c,rfl,_⟩|⟨b,o,cap,cX,sz,rfl,_⟩<;>rfl
 | .ad sz xs,cs,S,h=>by
   rw[ai]at h;rcases h with⟨_,a,rfl⟩|⟨b,cap,cur,e,fr,aF,rfl,_⟩<;>rfl
 | .ref d,cs,S,h=>by rw[ai]at h;obtain⟨b,o,cX,rfl,_⟩:=h;rfl
 | .aD d,cs,S,h=>by rw[ai]at h;obtain⟨b,o,cX,_,_,rfl,_⟩:=h;rfl
 | .agg ar,cs,S,h=>by rw[ai]at h;exact aS.length ar _ _ h
 | .tuple ar,cs,S,h=>by rw[ai]at h;exact aS.length ar _ _ h
 | .fn _ _,cs,S,h=>by rw[ai]at h;obtain⟨arr,rfl,_⟩:=h;rfl
 | .h _ _,cs,S,h=>by rw[ai]at h;exact h.elim
 | .al _ _,cs,S,h=>by rw[ai]at h;exact h.elim
 | .J _ _,cs,S,h=>by rw[ai]at h;exact h.elim
 | .dc _,cs,S,h=>by rw[ai]at h;obtain⟨v,_,rfl⟩:=kq.one h;rfl
 | .eU _ _,cs,S,h=>by rw[ai]at h;obtain⟨arr,rfl,_⟩:=h;rfl
 | .fB _,cs,S,h=>by rw[ai]at h;obtain⟨b,v,e,fr,rfl,_⟩:=h;rfl
theorem aS.length {w:World} {F:Nat->Prop}:∀(ds:abN) (cs:abL) (S:Nat->Prop),aS w F ds cs S->cs.length=j.c6 ds
 |[],cs,S,h=>by rw[aS]at h;subst h;rfl
 |d::ds,cs,S,h=>by
  rw[aS]at h;obtain⟨bD,bH,bJ,cS,rfl,U,aA,_⟩:=h;rw[length_append,ai.length d _ _ U,aS.length ds _ _ aA,j.c6]
end
mutual
def j.share:j->j
 | .ad _ xs=>.slice (j.shares xs)
 | .aD d=>.ref d.share
 | .slice xs=>.slice (j.shares xs)
 | .ref d=>.ref d.share
 | .agg ar=>.agg (j.shares ar)
 | .tuple ar=>.tuple (j.shares ar)
 | .dc _=>.hole
 | .eU _ _=>.hole
 | .fB _=>.hole
 |d=>d
def j.shares:abN->abN
 |[]=>[]
 |d::ds=>d.share::j.shares ds
end
theorem j.qB (ds:abN):j.shares ds=ds.map j.share:=by
 induction ds with
 |nil=>rfl
 |cons d ds ih=>simp[j.shares,ih]
mutual
theorem j.yx:∀d:j,d.share.wd=d.wd
 | .hole=>rfl
 | .bool _=>rfl
 | .eF=>rfl
 | .int _ _=>rfl
 | .str _=>rfl
 | .c8=>rfl
 | .aJ=>rfl
 | .slice _=>rfl
 | .ad _ _=>rfl
 | .ref _=>rfl
 | .aD _=>rfl
 | .agg ar=>by simp only[j.share,j.wd];exact j.Bi ar
 | .tuple ar=>by simp only[j.share,j.wd];exact j.Bi ar
 | .fn _ _=>rfl
 | .h _ _=>rfl
 | .al _ _=>rfl
 | .J _ _=>rfl
 | .dc _=>rfl
 | .eU _ _=>rfl
 | .fB _=>rfl
theorem j.Bi:∀ds:abN,j.c6 (j.shares ds)=j.c6 ds
 |[]=>rfl
 |d::ds=>by simp only[j.shares,j.c6];rw[j.yx d,j.Bi ds]
end
theorem tE {w:World} {b:Nat} {cur:Array Value} {e:TypeId} {fr:Nat×Nat} (h:w.heap[b]? =some (.cells cur e fr)) (n:Nat):Rd w b 0 (cur.toList.take n):=by
 intro au c aj;rw[getElem?_take]at aj;split at aj
 .simp[World.cell?,h];simpa using aj
 .cases aj
mutual
theorem ai.shared {w:World} {F bC:Nat->Prop} (aY:∀b,F b->bC b):
  ∀(d:j) (cs:abL) (S:Nat->Prop),(∀b,S b->bC b)->ai w F d cs S->ai w bC d.share cs (λ_=>False)
 | .hole,_,_,_,h=>h
 | .bool _,_,_,_,h=>h
 | .eF,_,_,_,h=>h
 | .int _ _,_,_,_,h=>h
 | .str _,_,_,_,h=>h
 | .c8,_,_,_,h=>h
 | .aJ,_,_,_,h=>h
 | .slice xs,cs,S,bg,h=>by
   rw[j.share,ai];rw[ai]at h;rcases h with⟨rfl,a,c,rfl,aj⟩|⟨b,o,cap,cX,sz,R,U,aA,aU,bt,b5,cd⟩
   .exact .inl ⟨rfl,a,c,rfl,aj⟩
   .refine .inr ⟨b,o,cap,cX,sz,?_,aY _ U,?_,aU,?_,b5,aS.shared aY xs _ _ (λ_ h=>h.elim) cd⟩
    .simpa [j.qB]using R
    .simpa [j.qB]using aA
    .intro d ae;rw[j.qB]at ae;obtain⟨bb,gj,rfl⟩:=mem_map.1 ae;rw[j.yx];exact bt _ gj
 | .ad sz xs,cs,S,bg,h=>by
   rw[j.share,ai];rw[ai]at h;rcases h with⟨rfl,a,rfl⟩|⟨b,cap,cur,e,fr,aF,R,U,aA,aU,bt,b5,cd,dQ,gQ,gx,iN⟩
   .exact .inl ⟨rfl,a,0,rfl,zero_le _,λ_=>rfl⟩
   .refine .inr ⟨b,0,cap,_,sz,?_,bg _ U,?_,b5,?_,tE aA _,aS.shared aY xs _ _ (λc aj=>bg _ (gx _ aj)) gQ⟩
    .simpa [j.qB]using R
    .simpa [j.qB]using bt
    .intro d ae;rw[j.qB]at ae;obtain⟨bb,gj,rfl⟩:=mem_map.1 ae;rw[j.yx];exact dQ _ gj
 | .ref d,cs,S,bg,h=>by
   rw[j.share,ai];rw[ai]at h;obtain⟨b,o,cX,R,U,aA,aU⟩:=h;exact⟨b,o,cX,R,aY _ U,aA,ai.shared aY d _ _ (λ_ h=>h.elim) aU⟩
 | .aD d,cs,S,bg,h=>by
   rw[j.share,ai];rw[ai]at h;obtain⟨b,cur,e,fr,aF,R,U,aA,aU,bt,b5,cd⟩:=h;refine⟨b,0,cur.toList,R,bg _ U,?_,ai.shared aY d _ _ (λc aj=>bg _ (b5 _ aj)) bt⟩;have:=tE aA cur.toList.length
   rwa [take_length]at this
 | .agg ar,cs,S,bg,h=>by rw[j.share,ai];rw[ai]at h;exact aS.shared aY ar _ _ bg h
 | .tuple ar,cs,S,bg,h=>by rw[j.share,ai];rw[ai]at h;exact aS.shared aY ar _ _ bg h
 | .fn f caps,cs,S,bg,h=>by
   show ai w bC (.fn f caps) cs _;rw[ai]at h⊢;obtain⟨arr,R,U,aA⟩:=h;exact⟨arr,R,U,aS.mono aY caps _ _ _ (λ_ h=>h) aA⟩
 | .h _ _,_,_,_,h=>h
 | .al _ _,_,_,_,h=>h
 | .J _ _,_,_,_,h=>h
 | .dc _,cs,S,bg,h=>by rw[ai]at h;rw[j.share,ai];exact kq.one h
 | .eU _ _,cs,S,bg,h=>by rw[ai]at h;obtain⟨arr,rfl,_⟩:=h;rw[j.share,ai];exact⟨_,rfl,rfl⟩
 | .fB _,cs,S,bg,h=>by rw[ai]at h;obtain⟨b,v,e,fr,rfl,_⟩:=h;rw[j.share,ai];exact⟨_,rfl,rfl⟩
theorem aS.shared {w:World} {F bC:Nat->Prop} (aY:∀b,F b->bC b):
  ∀(ds:abN) (cs:abL) (S:Nat->Prop),(∀b,S b->bC b)->aS w F ds cs S->aS w bC (j.shares ds) cs (λ_=>False)
 |[],_,_,_,h=>h
 |d::ds,cs,S,bg,h=>by
  simp only[j.shares];rw[aS]at h⊢;obtain⟨bD,bH,bJ,cS,R,U,aA,aU,bt,b5⟩:=h;exact⟨bD,bH,_,_,R,ai.shared aY d _ _ (λb J=>bg _ (aU _ J)) U,aS.shared aY ds _ _ (λb J=>bg _ (bt _ J)) aA,λ_ h=>h,λ_ h=>h,λ_ h=>h.elim⟩
end
def j.sub:abI->j->Option j
 |[],d=>some d
 |k::q,.agg ar=>match ar[k]? with
  |some d=>j.sub q d
  |none=>none
 |k::q,.tuple ar=>match ar[k]? with
  |some d=>j.sub q d
  |none=>none
 |i::q,.ad _ xs=>match xs[i]? with
  |some d=>j.sub q d
  |none=>none
 |0::q,.aD d=>j.sub q d
 |_::_,_=>none
def j.put:abI->j->j->j
 |[],n,_=>n
 |k::q,n,.agg ar=>match ar[k]? with
  |some d=>.agg (ar.set k (j.put q n d))
  |none=>.agg ar
 |k::q,n,.tuple ar=>match ar[k]? with
  |some d=>.tuple (ar.set k (j.put q n d))
  |none=>.tuple ar
 |i::q,n,.ad sz xs=>match xs[i]? with
  |some d=>.ad sz (xs.set i (j.put q n d))
  |none=>.ad sz xs
 |0::q,n,.aD d=>.aD (j.put q n d)
 |_::_,_,d=>d
def jj (w:World) (b o n:Nat):abL:=(range n).map λau=>(w.cell? ⟨b,o+au,none⟩).getD undef
theorem Rd.jj {w:World} {b o:Nat} {cs:abL} (h:Rd w b o cs):jj w b o cs.length=cs:=by
 unfold cW.jj;apply ext_getElem?;intro i;rw[getElem?_map];by_cases aw:i<cs.length
 .have:cs[i]? =some cs[i]:=getElem?_eq_getElem aw;simp[aw,h i _ this]
 .simp[aw]
def cb (w:World):abI->j->abL->Option (Nat×Nat)->Option (j×abL×Option (Nat×Nat))
 |[],d,cs,a=>some (d,cs,a)
 |k::q,.agg ar,cs,a=>match ar[k]? with
  |some d=>cb w q d ((cs.drop (j.c6 (ar.take k))).take d.wd) (a.map λl=>(l.1,l.2+j.c6 (ar.take k)))
  |none=>none
 |k::q,.tuple ar,cs,a=>match ar[k]? with
  |some d=>cb w q d ((cs.drop (j.c6 (ar.take k))).take d.wd) (a.map λl=>(l.1,l.2+j.c6 (ar.take k)))
  |none=>none
 |i::q,.ad sz xs,cs,_=>match xs[i]?,cs with
  |some d,[.slice (some ⟨b,_,_⟩) _ _]=>cb w q d (jj w b (i*sz) sz) (some (b,i*sz))
  |_,_=>none
 |0::q,.aD d,cs,_=>match cs with
  |[.pointer (some ⟨b,_,_⟩)]=>cb w q d (jj w b 0 d.wd) (some (b,0))
  |_=>none
 |_::_,_,_,_=>none
theorem mQ (bD dz bH:abL) (n m:Nat) (R:bD.length=n) (U:dz.length=m):((bD++(dz++bH)).drop n).take m=dz:=by
 rw[drop_left' R,take_left' U]
theorem aS.pick {w:World} {F:Nat->Prop}:∀(ds:abN) (cs:abL) (S:Nat->Prop) (k:Nat) (d:j),
  aS w F ds cs S->ds[k]? =some d->∃(bD dz bH:abL) (bJ fJ:Nat->Prop),cs=bD++(dz++bH)/\bD.length=j.c6 (ds.take k)/\
   (∀b,bJ b->S b)/\(∀b,fJ b->S b)/\(∀b,bJ b->¬fJ b)/\ai w F d dz fJ/\
   ∀(ax:World) (bb:j) (rH:abL) (aF:Nat->Prop),(∀b,F b->ax.heap[b]? =w.heap[b]?)->(∀b,bJ b->ax.heap[b]? =w.heap[b]?)->
    ai ax F bb rH aF->(∀b,aF b->¬bJ b)->aS ax F (ds.set k bb) (bD++(rH++bH)) (λb=>bJ b\/aF b)
 |[],_,_,_,_,_,ak=>by simp at ak
 |x::ds,cs,S,0,d,h,ak=>by
  rw[aS]at h;obtain⟨bD,bH,gC,fK,rfl,R,U,b8,J,jM⟩:=h;simp at ak;subst ak;refine⟨[],bD,bH,fK,gC,rfl,rfl,J,b8,λb J b8=>jM _ b8 J,R,?_⟩;intro ax bb rH aF aY bg ae hU;simp only[set_cons_zero,nil_append];rw[aS];exact⟨rH,bH,aF,fK,rfl,ae,aS.frame aY _ _ _ bg U,λb h=>.inr h,λb h=>.inl h,λb h=>hU b h⟩
 |x::ds,cs,S,k+1,d,h,ak=>by
  rw[aS]at h;obtain⟨h7,NL,gC,fK,rfl,R,U,b8,J,jM⟩:=h;simp only[getElem?_cons_succ]at ak;have hl:=ai.length _ _ _ R;obtain⟨bD,dz,bH,bJ,fJ,rfl,NM,jL,hT,rG,vQ,Bj⟩:=aS.pick ds NL fK k d U ak;refine⟨h7++bD,dz,bH,λb=>gC b\/bJ b,fJ,by simp,by simp[j.c6,hl,NM],?_,λb h=>J _ (hT _ h),?_,vQ,?_⟩
  .rintro b (h|h)
   .exact b8 _ h
   .exact J _ (jL _ h)
  .rintro b (h|h) ak
   .exact jM _ h (hT _ ak)
   .exact rG _ h ak
  .intro ax bb rH aF aY bg ae hU;simp only[set_cons_succ];rw[aS];refine⟨h7,bD++(rH++bH),gC,λb=>bJ b\/aF b,by simp,ai.frame aY _ _ _ (λb J=>bg b (.inl J)) R,
    Bj ax bb rH aF aY (λb J=>bg b (.inr J)) ae (λb J aj=>hU b J (.inr aj)),λb h=>.inl (.inl h),?_,?_⟩
   .rintro b (h|h)
    .exact .inl (.inr h)
    .exact .inr h
   .rintro b h (bz|bz)
    .exact jM _ h (jL _ bz)
    .exact hU _ bz (.inl h)
theorem Bk:∀(ar:abN) (k:Nat) (x y:j),ar[k]? =some x->y.wd=x.wd->j.c6 (ar.set k y)=j.c6 ar:=by
 intro ar;induction ar with
 |nil=>intro k x y h;simp at h
 |cons a ar ih=>
  intro k x y h e;cases k with
  |zero=>simp at h;subst h;simp[j.c6,e]
  |succ k=>simp at h;simp[j.c6,ih k x y h e]
theorem pP {sz:Nat}:∀(xs:abN),(∀d∈xs,d.wd=sz)->j.c6 xs=xs.length*sz
 |[],_=>by simp[j.c6]
 |x::xs,h=>by
  rw[j.c6,h x (by simp),pP xs (λd ae=>h d (by simp[ae])),length_cons,Nat.add_mul,Nat.one_mul,Nat.add_comm]
theorem j.tF:∀(q:abI) (av d bb:j),j.sub q av=some d->bb.wd=d.wd->(j.put q bb av).wd=av.wd:=by
 intro q;induction q with
 |nil=>intro av d bb h e;simp[j.sub]at h;subst h;simpa [j.put]using e
 |cons k q ih=>
  intro av d bb h e;cases av with
  |agg ar=>
   simp only[j.sub]at h;split at h
   .rename_i x ag;simp only[j.put,ag,j.wd];exact Bk _ _ _ _ ag (ih _ _ _ h e)
   .cases h
  |tuple ar=>
   simp only[j.sub]at h;split at h
   .rename_i x ag;simp only[j.put,ag,j.wd];exact Bk _ _ _ _ ag (ih _ _ _ h e)
   .cases h
  |ad sz xs=>
   simp only[j.sub]at h;split at h
   .rename_i x ag;simp only[j.put,ag,j.wd]
   .cases h
  |aD x=>
   cases k with
   |zero=>simp only[j.put,j.wd]
   |succ k=>simp[j.sub]at h
  |_=>simp[j.sub]at h
theorem Bl {sz:Nat} {xs:abN} {i:Nat} {y:j} (h:∀d∈xs,d.wd=sz) (bh:y.wd=sz):∀d∈xs.set i y,d.wd=sz:=by
 intro d ae;rcases mem_or_eq_of_mem_set ae with ae|rfl
 .exact h d ae
 .exact bh
theorem mR {w:World} {b:Nat} {cur:Array Value} {e:TypeId} {fr:Nat×Nat} (h:w.heap[b]? =some (.cells cur e fr)) {l m r:abL} (aj:cur.toList=l++(m++r)):
  jj w b l.length m.length=m:=by
 refine Rd.jj (λau c bN=>?_);have cB:au<m.length:=(List.getElem?_eq_some_iff.1 bN).1;have:cur.toList[l.length+au]? =some c:=by
  rw[aj,getElem?_append_right (by omega),getElem?_append_left (by omega)];rw[<-bN];congr 1;omega
 simp[World.cell?,h];simpa using this
def Flat (w:World) (F:Nat->Prop) (q:abI) (av:j) (cs:abL) (a:Option (Nat×Nat)) (d:j) (b0:abL) (b3:Option (Nat×Nat)) (dj:Nat->Prop):Prop:=
 ∃l r:abL,cs=l++(b0++r)/\b3=a.map (λx=>(x.1,x.2+l.length))/\
  ∀(ax:World) (bb:j) (e4:abL) (aF:Nat->Prop),(∀b,F b->ax.heap[b]? =w.heap[b]?)->(∀b,dj b->ax.heap[b]? =w.heap[b]?)->
   bb.wd=d.wd->ai ax F bb e4 aF->(∀b,aF b->¬dj b)->ai ax F (j.put q bb av) (l++(e4++r)) (λb=>dj b\/aF b)
def Deep (w:World) (F:Nat->Prop) (q:abI) (av:j) (cs:abL) (d:j) (b0:abL) (b3:Option (Nat×Nat)) (dj:Nat->Prop):Prop:=
 ∃(b:Nat) (cur:Array Value) (e:TypeId) (fr:Nat×Nat) (l r:abL),b3=some (b,l.length)/\dj b/\w.heap[b]? =some (.cells cur e fr)/\j6 fr cur.size/\cur.toList=l++(b0++r)/\
  ∀(ax:World) (bb:j) (e4:abL) (aF:Nat->Prop),(∀b,F b->ax.heap[b]? =w.heap[b]?)->(∀c,dj c->c≠b->ax.heap[c]? =w.heap[c]?)->
   ax.heap[b]? =some (.cells (l++(e4++r)).toArray e fr)->
   bb.wd=d.wd->ai ax F bb e4 aF->(∀b,aF b->¬dj b)->ai ax F (j.put q bb av) cs (λb=>dj b\/aF b)
theorem ctx {w:World} {F:Nat->Prop}:∀(q:abI) (av:j) (cs:abL) (S:Nat->Prop) (a:Option (Nat×Nat)) (d:j),
  ai w F av cs S->j.sub q av=some d->∃(b0:abL) (b3:Option (Nat×Nat)) (dj ej:Nat->Prop),cb w q av cs a=some (d,b0,b3)/\
   (∀b,dj b->S b)/\(∀b,ej b->S b)/\(∀b,dj b->¬ej b)/\ai w F d b0 ej/\(Flat w F q av cs a d b0 b3 dj\/Deep w F q av cs d b0 b3 dj):=by
 intro q;induction q with
 |nil=>
  intro av cs S a d h ae;simp[j.sub]at ae;subst ae;refine⟨cs,a,λ_=>False,S,rfl,λ_ h=>h.elim,λ_ h=>h,λ_ h=>h.elim,h,.inl ⟨[],[],by simp,?_,?_⟩⟩
  .cases a<;>simp
  .intro ax bb e4 aF _ _ hw gj _;simp only[j.put,nil_append,append_nil];exact ai.mono (λ_ h=>h) _ _ _ _ (λb h=>.inr h) gj
 |cons k q ih=>
  have fields:∀(mk:abN->j) (Bm:∀(w:World) (F:Nat->Prop) (ar:abN) (cs:abL) (S:Nat->Prop),ai w F (mk ar) cs S=aS w F ar cs S) (ar:abN) (cs:abL) (S:Nat->Prop) (a:Option (Nat×Nat)) (x d:j),
    (hV:∀bb,j.put (k::q) bb (mk ar)=mk (ar.set k (j.put q bb x)))->aS w F ar cs S->ar[k]? =some x->j.sub q x=some d->
    ∃(b0:abL) (b3:Option (Nat×Nat)) (dj ej:Nat->Prop),cb w q x ((cs.drop (j.c6 (ar.take k))).take x.wd) (a.map λl=>(l.1,l.2+j.c6 (ar.take k)))=some (d,b0,b3)/\
    (∀b,dj b->S b)/\(∀b,ej b->S b)/\(∀b,dj b->¬ej b)/\ai w F d b0 ej/\(Flat w F (k::q) (mk ar) cs a d b0 b3 dj\/Deep w F (k::q) (mk ar) cs d b0 b3 dj):=by
   intro mk Bm ar cs S a x d hV h ag ae;obtain⟨bD,dz,bH,bJ,fJ,rfl,eN,dX,eG,fY,dw,h8⟩:=aS.pick ar cs S k x h ag;have hl:=ai.length _ _ _ dw;rw[mQ bD dz bH _ _ eN hl];obtain⟨b0,b3,dj,ej,e9,aQ,a2,bQ,c4,dR⟩:=ih x _ fJ (a.map λl=>(l.1,l.2+j.c6 (ar.take k))) d dw ae;refine⟨b0,b3,λb=>bJ b\/dj b,ej,e9,?_,λb J=>eG _ (a2 _ J),?_,c4,?_⟩
   .rintro b (h|h)
    .exact dX _ h
    .exact eG _ (aQ _ h)
   .rintro b (h|h) ae
    .exact fY _ h (a2 _ ae)
    .exact bQ _ h ae
   .have eH:∀(b:Nat) (aF:Nat->Prop),(bJ b\/dj b\/aF b)->((bJ b\/dj b)\/aF b):=by
     rintro b aF (J|J|J)
     .exact .inl (.inl J)
     .exact .inl (.inr J)
     .exact .inr J
    rcases dR with⟨l,r,rfl,aV,a1⟩|⟨b,cur,e,fr,l,r,aK,aV,a1,b6,cH,bT⟩
    .refine .inl ⟨bD++l,r++bH,by simp,?_,?_⟩
     .rw[aV,<-eN];cases a<;>simp[Nat.add_assoc]
     .intro ax bb e4 aF aY bg hw gj hU;have dK:=a1 ax bb e4 aF aY (λb J=>bg b (.inr J)) hw gj (λb J aj=>hU b J (.inr aj));have bL:=h8 ax _ _ _ aY (λb J=>bg b (.inl J)) dK (by
       rintro b (J|J) R
       .exact fY _ R (aQ _ J)
       .exact hU _ J (.inl R))
      rw[hV,Bm];have:=aS.mono (λ_ h=>h) _ _ _ _ (λb=>eH b aF) bL;simpa using this
    .refine .inr ⟨b,cur,e,fr,l,r,aK,.inr aV,a1,b6,cH,?_⟩;intro ax bb e4 aF aY bg kS hw gj hU;have dK:=bT ax bb e4 aF aY (λc aj=>bg c (.inr aj)) kS hw gj (λb J aj=>hU b J (.inr aj));have bL:=h8 ax _ _ _ aY (λc aj=>bg c (.inl aj) (by rintro rfl;exact fY _ aj (aQ _ aV))) dK (by
       rintro b (J|J) R
       .exact fY _ R (aQ _ J)
       .exact hU _ J (.inl R))
     rw[hV,Bm];exact aS.mono (λ_ h=>h) _ _ _ _ (λb=>eH b aF) bL
  intro av cs S a d h ae;cases av with
  |agg ar=>
   simp only[j.sub]at ae;split at ae
   .rename_i x ag;rw[ai]at h;have:=fields .agg (λ_ _ _ _ _=>by rw[ai]) ar cs S a x d (λbb=>by simp only[j.put,ag]) h ag ae;simpa only[cb,ag]using this
   .cases ae
  |tuple ar=>
   simp only[j.sub]at ae;split at ae
   .rename_i x ag;rw[ai]at h;have:=fields .tuple (λ_ _ _ _ _=>by rw[ai]) ar cs S a x d (λbb=>by simp only[j.put,ag]) h ag ae;simpa only[cb,ag]using this
   .cases ae
  |ad sz xs=>
   simp only[j.sub]at ae;split at ae
   .rename_i x ag;rw[ai]at h;rcases h with⟨rfl,_,rfl⟩|⟨b,cap,cur,e,fr,cN,rfl,U,aA,aU,bt,b5,cd,dQ,gQ,gx,iN⟩
    .simp at ag
    .obtain⟨bD,dz,bH,bJ,fJ,p,eN,dX,eG,fY,dw,h8⟩:=aS.pick xs _ cN k x gQ ag;have hl:=ai.length _ _ _ dw;have Bn:k<xs.length:=(List.getElem?_eq_some_iff.1 ag).1;have oM:x.wd=sz:=dQ x (mem_of_getElem? ag);have br:j.c6 (xs.take k)=k*sz:=by
      rw[pP _ (λd ae=>dQ d (mem_of_mem_take ae))];rw[length_take,Nat.min_eq_left (by omega)]
     obtain⟨kT,iv⟩:∃kT,cur.toList=bD++(dz++(bH++kT)):=by
      refine⟨cur.toList.drop (xs.length*sz),?_⟩;have:=(take_append_drop (xs.length*sz) cur.toList).symm;rw[p]at this;simpa using this
     have gR:jj w b (k*sz) sz=dz:=by
      have:=mR aA iv
      rwa [eN,br,hl,oM]at this
     obtain⟨b0,b3,dj,ej,e9,aQ,a2,bQ,c4,dR⟩:=ih x _ fJ (some (b,k*sz)) d dw ae;have hV:∀bb,j.put (k::q) bb (.ad sz xs)= .ad sz (xs.set k (j.put q bb x)):=λbb=>by simp only[j.put,ag]
     refine⟨b0,b3,λc=>c=b\/bJ c\/dj c,ej,?_,?_,λc aj=>gx _ (eG _ (a2 _ aj)),?_,c4,.inr ?_⟩
     .simp only[cb,ag,gR];exact e9
     .rintro c (rfl|h|h)
      .exact U
      .exact gx _ (dX _ h)
      .exact gx _ (eG _ (aQ _ h))
     .rintro c (rfl|h|h) ae
      .exact iN (eG _ (a2 _ ae))
      .exact fY _ h (a2 _ ae)
      .exact bQ _ h ae
     .have jk:∀bb,bb.wd=d.wd->(j.put q bb x).wd=sz:=λbb hw=>(j.tF q x d bb ae hw).trans oM;rcases dR with⟨l,r,rfl,aV,a1⟩|⟨eI,Bo,dY,Bp,l,r,aK,aV,a1,b6,cH,bT⟩
      .refine⟨b,cur,e,fr,bD++l,r++(bH++kT),?_,.inl rfl,aA,aU.low,?_,?_⟩
       .rw[aV];simp[eN,br]
       .rw[iv];simp
       .intro ax bb e4 aF aY bg kS hw gj hU;have dK:=a1 ax bb e4 aF aY (λc aj=>bg c (.inr (.inr aj)) (by rintro rfl;exact iN (eG _ (aQ _ aj)))) hw gj (λb J aj=>hU b J (.inr (.inr aj)));have bL:=h8 ax _ _ _ aY (λc aj=>bg c (.inr (.inl aj)) (by rintro rfl;exact iN (dX _ aj))) dK (by
         rintro b (J|J) R
         .exact fY _ R (aQ _ J)
         .exact hU _ J (.inr (.inl R)))
        have vR:=ai.length _ _ _ gj;have vS:=ai.length _ _ _ c4;rw[hV,ai];refine .inr ⟨b,cap,_,e,fr,λb=>bJ b\/dj b\/aF b,by simp,.inl (.inl rfl),kS,?_,by simpa using bt,b5,?_,Bl dQ (jk bb hw),?_,?_,?_⟩
        .have:(bD++l++(e4++(r++(bH++kT)))).toArray.size=cur.size:=by
          have:cur.size=cur.toList.length:=by simp
          rw[this,iv];simp[vR,vS,hw]
         rw[this];exact aU
        .rw[<-cd];have:cur.size=cur.toList.length:=by simp
         rw[this,iv];simp[vR,vS,hw]
        .have hlen:(bD++(l++(e4++r)++bH)).length=xs.length*sz:=by
          have:=congrArg length p;rw[length_take,Nat.min_eq_left (by simp[cd];exact mul_le_mul_right _ bt)]at this;rw[this];simp[vR,vS,hw]
         have:(bD++l++(e4++(r++(bH++kT))))=(bD++(l++(e4++r)++bH))++kT:=by simp
         rw[length_set];simp only[this];rw[take_left' hlen];exact bL
        .rintro c (h|h|h)
         .exact .inl (.inr (.inl h))
         .exact .inl (.inr (.inr h))
         .exact .inr h
        .rintro(h|h|h)
         .exact iN (dX _ h)
         .exact iN (eG _ (aQ _ h))
         .exact hU _ h (.inl rfl)
      .refine⟨eI,Bo,dY,Bp,l,r,aK,.inr (.inr aV),a1,b6,cH,?_⟩;intro ax bb e4 aF aY bg kS hw gj hU;have dK:=bT ax bb e4 aF aY (λc aj cO=>bg c (.inr (.inr aj)) cO) kS hw gj (λb J aj=>hU b J (.inr (.inr aj)));have cO:∀c,bJ c->c≠eI:=by rintro c aj rfl;exact fY _ aj (aQ _ aV)
       have bL:=h8 ax _ _ _ aY (λc aj=>bg c (.inr (.inl aj)) (cO c aj)) dK (by
        rintro b (J|J) R
        .exact fY _ R (aQ _ J)
        .exact hU _ J (.inr (.inl R)))
       have Bq:b≠eI:=by rintro rfl;exact iN (eG _ (aQ _ aV))
       rw[hV,ai];refine .inr ⟨b,cap,cur,e,fr,λb=>bJ b\/dj b\/aF b,by simp,.inl (.inl rfl),(bg b (.inl rfl) Bq).trans aA,aU,by simpa using bt,b5,cd,Bl dQ (jk bb hw),?_,?_,?_⟩
       .rw[length_set,p];exact bL
       .rintro c (h|h|h)
        .exact .inl (.inr (.inl h))
        .exact .inl (.inr (.inr h))
        .exact .inr h
       .rintro(h|h|h)
        .exact iN (dX _ h)
        .exact iN (eG _ (aQ _ h))
        .exact hU _ h (.inl rfl)
   .cases ae
  |aD x=>
   cases k with
   |succ k=>simp[j.sub]at ae
   |zero=>
    simp only[j.sub]at ae;rw[ai]at h;obtain⟨b,cur,e,fr,cN,rfl,U,aA,aU,bt,b5,cd⟩:=h;have hl:=ai.length _ _ _ bt;have gR:jj w b 0 x.wd=cur.toList:=by
     have:=mR (l:=[]) (m:=cur.toList) (r:=[]) aA (by simp)
     rwa [hl]at this
    obtain⟨b0,b3,dj,ej,e9,aQ,a2,bQ,c4,dR⟩:=ih x _ cN (some (b,0)) d bt ae;have hV:∀bb,j.put (0::q) bb (.aD x)= .aD (j.put q bb x):=λbb=>rfl;refine⟨b0,b3,λc=>c=b\/dj c,ej,?_,?_,λc aj=>b5 _ (a2 _ aj),?_,c4,.inr ?_⟩
    .simp only[cb,gR];exact e9
    .rintro c (rfl|h)
     .exact U
     .exact b5 _ (aQ _ h)
    .rintro c (rfl|h) ae
     .exact cd (a2 _ ae)
     .exact bQ _ h ae
    .rcases dR with⟨l,r,aK,aV,a1⟩|⟨eI,Bo,dY,Bp,l,r,aK,aV,a1,b6,cH,bT⟩
     .refine⟨b,cur,e,fr,l,r,?_,.inl rfl,aA,aU,aK,?_⟩
      .rw[aV];simp
      .intro ax bb e4 aF aY bg kS hw gj hU;have dK:=a1 ax bb e4 aF aY (λc aj=>bg c (.inr aj) (by rintro rfl;exact cd (aQ _ aj))) hw gj (λb J aj=>hU b J (.inr aj));have vR:=ai.length _ _ _ gj;have vS:=ai.length _ _ _ c4;rw[hV,ai];refine⟨b,_,e,fr,λb=>dj b\/aF b,rfl,.inl (.inl rfl),kS,?_,dK,?_,?_⟩
       .have:(l++(e4++r)).toArray.size=cur.size:=by
         have:cur.size=cur.toList.length:=by simp
         rw[this,aK];simp[vR,vS,hw]
        rw[this];exact aU
       .rintro c (h|h)
        .exact .inl (.inr h)
        .exact .inr h
       .rintro(h|h)
        .exact cd (aQ _ h)
        .exact hU _ h (.inl rfl)
     .refine⟨eI,Bo,dY,Bp,l,r,aK,.inr aV,a1,b6,cH,?_⟩;intro ax bb e4 aF aY bg kS hw gj hU;have dK:=bT ax bb e4 aF aY (λc aj cO=>bg c (.inr aj) cO) kS hw gj (λb J aj=>hU b J (.inr aj));have Bq:b≠eI:=by rintro rfl;exact cd (aQ _ aV)
      rw[hV,ai];refine⟨b,cur,e,fr,λb=>dj b\/aF b,rfl,.inl (.inl rfl),(bg b (.inl rfl) Bq).trans aA,aU,dK,?_,?_⟩
      .rintro c (h|h)
       .exact .inl (.inr h)
       .exact .inr h
      .rintro(h|h)
       .exact cd (aQ _ h)
       .exact hU _ h (.inl rfl)
  |_=>simp[j.sub]at ae
mutual
def j.plain:j->Bool
 | .ad _ _=>false
 | .aD _=>false
 | .dc _=>false
 | .eU _ _=>false
 | .fB _=>false
 | .agg ar=>j.dF ar
 | .tuple ar=>j.dF ar
 |_=>true
def j.dF:abN->Bool
 |[]=>true
 |d::ds=>d.plain&&j.dF ds
end
mutual
def j.cf:j->j
 | .ad _ _=>.hole
 | .aD _=>.hole
 | .dc _=>.hole
 | .eU _ _=>.hole
 | .fB _=>.hole
 | .agg ar=>.agg (j.g9 ar)
 | .tuple ar=>.tuple (j.g9 ar)
 |d=>d
def j.g9:abN->abN
 |[]=>[]
 |d::ds=>d.cf::j.g9 ds
end
mutual
theorem j.oN:∀d:j,d.cf.wd=d.wd
 | .hole=>rfl
 | .bool _=>rfl
 | .eF=>rfl
 | .int _ _=>rfl
 | .str _=>rfl
 | .c8=>rfl
 | .aJ=>rfl
 | .slice _=>rfl
 | .ad _ _=>rfl
 | .ref _=>rfl
 | .aD _=>rfl
 | .agg ar=>by simp only[j.cf,j.wd];exact j.yy ar
 | .tuple ar=>by simp only[j.cf,j.wd];exact j.yy ar
 | .fn _ _=>rfl
 | .h _ _=>rfl
 | .al _ _=>rfl
 | .J _ _=>rfl
 | .dc _=>rfl
 | .eU _ _=>rfl
 | .fB _=>rfl
theorem j.yy:∀ds:abN,j.c6 (j.g9 ds)=j.c6 ds
 |[]=>rfl
 |d::ds=>by simp only[j.g9,j.c6];rw[j.oN d,j.yy ds]
end
mutual
theorem ai.cf {w:World} {F:Nat->Prop}:∀(d:j) (cs:abL) (S aF:Nat->Prop),ai w F d cs S->ai w F d.cf cs aF
 | .hole,_,_,_,h=>h
 | .bool _,_,_,_,h=>h
 | .eF,_,_,_,h=>h
 | .int _ _,_,_,_,h=>h
 | .str _,_,_,_,h=>h
 | .c8,_,_,_,h=>h
 | .aJ,_,_,_,h=>h
 | .slice xs,cs,S,aF,h=>by
   show ai w F (.slice xs) cs aF;rw[ai]at h⊢;exact h
 | .ad sz xs,cs,S,aF,h=>by
   rw[j.cf,ai];rw[ai]at h;rcases h with⟨_,_,rfl⟩|⟨b,cap,cur,e,fr,cN,rfl,_⟩
   .exact⟨_,rfl,rfl⟩
   .exact⟨_,rfl,rfl⟩
 | .ref d,cs,S,aF,h=>by
   show ai w F (.ref d) cs aF;rw[ai]at h⊢;exact h
 | .aD d,cs,S,aF,h=>by
   rw[j.cf,ai];rw[ai]at h;obtain⟨b,cur,e,fr,cN,rfl,_⟩:=h;exact⟨_,rfl,rfl⟩
 | .agg ar,cs,S,aF,h=>by rw[j.cf,ai];rw[ai]at h;exact aS.cf ar _ _ _ h
 | .tuple ar,cs,S,aF,h=>by rw[j.cf,ai];rw[ai]at h;exact aS.cf ar _ _ _ h
 | .fn _ _,_,_,_,h=>h
 | .h _ _,_,_,_,h=>h
 | .al _ _,_,_,_,h=>h
 | .J _ _,_,_,_,h=>h
 | .dc _,_,_,_,h=>by rw[ai]at h;rw[j.cf,ai];exact kq.one h
 | .eU _ _,_,_,_,h=>by rw[ai]at h;obtain⟨arr,rfl,_⟩:=h;rw[j.cf,ai];exact⟨_,rfl,rfl⟩
 | .fB _,_,_,_,h=>by rw[ai]at h;obtain⟨b,v,e,fr,rfl,_⟩:=h;rw[j.cf,ai];exact⟨_,rfl,rfl⟩
theorem aS.cf {w:World} {F:Nat->Prop}:∀(ds:abN) (cs:abL) (S aF:Nat->Prop),aS w F ds cs S->aS w F (j.g9 ds) cs aF
 |[],_,_,_,h=>h
 |d::ds,cs,S,aF,h=>by
  rw[j.g9,aS];rw[aS]at h;obtain⟨bD,bH,bJ,cS,R,U,aA,aU,bt,b5⟩:=h;exact⟨bD,bH,λ_=>False,λ_=>False,R,ai.cf d _ _ _ U,aS.cf ds _ _ _ aA,λ_ h=>h.elim,λ_ h=>h.elim,λ_ h=>h.elim⟩
end
mutual
theorem ai.plain {w:World} {F:Nat->Prop}:∀(d:j) (cs:abL) (S aF:Nat->Prop),d.plain=true->ai w F d cs S->ai w F d cs aF
 | .hole,_,_,_,_,h=>h
 | .bool _,_,_,_,_,h=>h
 | .eF,_,_,_,_,h=>h
 | .int _ _,_,_,_,_,h=>h
 | .str _,_,_,_,_,h=>h
 | .c8,_,_,_,_,h=>h
 | .aJ,_,_,_,_,h=>h
 | .slice xs,cs,S,aF,_,h=>by rw[ai]at h⊢;exact h
 | .ad sz xs,cs,S,aF,al,h=>by simp[j.plain]at al
 | .ref d,cs,S,aF,_,h=>by rw[ai]at h⊢;exact h
 | .aD d,cs,S,aF,al,h=>by simp[j.plain]at al
 | .agg ar,cs,S,aF,al,h=>by rw[ai]at h⊢;exact aS.plain ar _ _ _ al h
 | .tuple ar,cs,S,aF,al,h=>by rw[ai]at h⊢;exact aS.plain ar _ _ _ al h
 | .fn _ _,_,_,_,_,h=>h
 | .h _ _,_,_,_,_,h=>h
 | .al _ _,_,_,_,_,h=>h
 | .J _ _,_,_,_,_,h=>h
 | .dc _,_,_,_,al,_=>by simp[j.plain]at al
 | .eU _ _,_,_,_,al,_=>by simp[j.plain]at al
 | .fB _,_,_,_,al,_=>by simp[j.plain]at al
theorem aS.plain {w:World} {F:Nat->Prop}:∀(ds:abN) (cs:abL) (S aF:Nat->Prop),j.dF ds=true->aS w F ds cs S->aS w F ds cs aF
 |[],_,_,_,_,h=>h
 |d::ds,cs,S,aF,al,h=>by
  rw[aS]at h⊢;simp only[j.dF,Bool.and_eq_true]at al;obtain⟨bD,bH,bJ,cS,R,U,aA,aU,bt,b5⟩:=h;exact⟨bD,bH,λ_=>False,λ_=>False,R,ai.plain d _ _ _ al.1 U,aS.plain ds _ _ _ al.2 aA,λ_ h=>h.elim,λ_ h=>h.elim,λ_ h=>h.elim⟩
end
def j.dG:abI->j->Bool
 |[],_=>false
 |k::q,.agg ar=>match ar[k]? with
  |some d=>j.dG q d
  |none=>false
 |k::q,.tuple ar=>match ar[k]? with
  |some d=>j.dG q d
  |none=>false
 |_::_,.ad _ _=>true
 |_::_,.aD _=>true
 |_::_,_=>false
theorem vT {ar:abN} (h:j.dF ar=true) {k:Nat} {d:j} (ak:ar[k]? =some d):d.plain=true:=by
 induction ar generalizing k with
 |nil=>simp at ak
 |cons a ar ih=>
  simp only[j.dF,Bool.and_eq_true]at h;cases k with
  |zero=>simp at ak;subst ak;exact h.1
  |succ k=>simp at ak;exact ih h.2 ak
theorem j.GR:∀(q:abI) (d:j),d.plain=true->j.dG q d=false:=by
 intro q;induction q with
 |nil=>intros;rfl
 |cons k q ih=>
  intro d ae;cases d<;>first|rfl|(simp[j.plain]at ae;done)|skip
  all_goals
   simp only[j.dG];split
   .rename_i ar x ag;exact ih _ (vT (by simpa [j.plain]using ae) ag)
   .rfl
theorem j.Br:∀(q:abI) (d e:j),d.plain=true->j.sub q d=some e->e.plain=true:=by
 intro q;induction q with
 |nil=>intro d e ae h;simp[j.sub]at h;exact h▸ae
 |cons k q ih=>
  intro d e ae h;cases d<;>first|(simp[j.plain]at ae;done)|(simp[j.sub]at h;done)|skip
  all_goals
   simp only[j.sub]at h;split at h
   .rename_i ar x ag;exact ih _ _ (vT (by simpa [j.plain]using ae) ag) h
   .cases h
theorem yz {w ax:World} {F:Nat->Prop}:∀(q:abI) (av:j) (cs:abL) (S:Nat->Prop) (a:Option (Nat×Nat)) (d:j),
  ai w F av cs S->j.sub q av=some d->(∀b,S b->ax.heap[b]? =w.heap[b]?)->cb ax q av cs a=cb w q av cs a:=by
 intro q;induction q with
 |nil=>intros;rfl
 |cons k q ih=>
  have fields:∀(ar:abN) (cs:abL) (S:Nat->Prop) (a:Option (Nat×Nat)) (x d:j),aS w F ar cs S->ar[k]? =some x->j.sub q x=some d->
    (∀b,S b->ax.heap[b]? =w.heap[b]?)->
    cb ax q x ((cs.drop (j.c6 (ar.take k))).take x.wd) (a.map λl=>(l.1,l.2+j.c6 (ar.take k)))=cb w q x ((cs.drop (j.c6 (ar.take k))).take x.wd) (a.map λl=>(l.1,l.2+j.c6 (ar.take k))):=by
   intro ar cs S a x d h ag ae bg;obtain⟨bD,dz,bH,bJ,fJ,rfl,eN,dX,eG,fY,dw,h8⟩:=aS.pick ar cs S k x h ag;rw[mQ bD dz bH _ _ eN (ai.length _ _ _ dw)];exact ih x dz fJ _ d dw ae (λb J=>bg b (eG _ J))
  intro av cs S a d h ae bg;cases av with
  |agg ar=>
   simp only[j.sub]at ae;split at ae
   .rename_i x ag;rw[ai]at h;simp only[cb,ag];exact fields ar cs S a x d h ag ae bg
   .cases ae
  |tuple ar=>
   simp only[j.sub]at ae;split at ae
   .rename_i x ag;rw[ai]at h;simp only[cb,ag];exact fields ar cs S a x d h ag ae bg
   .cases ae
  |ad sz xs=>
   simp only[j.sub]at ae;split at ae
   .rename_i x ag;rw[ai]at h;rcases h with⟨rfl,_,rfl⟩|⟨b,cap,cur,e,fr,cN,rfl,U,aA,aU,bt,b5,cd,dQ,gQ,gx,iN⟩
    .simp at ag
    .obtain⟨bD,dz,bH,bJ,fJ,p,eN,dX,eG,fY,dw,h8⟩:=aS.pick xs _ cN k x gQ ag;have hl:=ai.length _ _ _ dw;have Bn:k<xs.length:=(List.getElem?_eq_some_iff.1 ag).1;have oM:x.wd=sz:=dQ x (mem_of_getElem? ag);have br:j.c6 (xs.take k)=k*sz:=by
      rw[pP _ (λd ae=>dQ d (mem_of_mem_take ae))];rw[length_take,Nat.min_eq_left (by omega)]
     obtain⟨kT,iv⟩:∃kT,cur.toList=bD++(dz++(bH++kT)):=by
      refine⟨cur.toList.drop (xs.length*sz),?_⟩;have:=(take_append_drop (xs.length*sz) cur.toList).symm;rw[p]at this;simpa using this
     have gR:jj w b (k*sz) sz=dz:=by
      have:=mR aA iv
      rwa [eN,br,hl,oM]at this
     have rI:jj ax b (k*sz) sz=dz:=by
      have:=mR ((bg b U).trans aA) iv
      rwa [eN,br,hl,oM]at this
     simp only[cb,ag,gR,rI];exact ih x dz fJ _ d dw ae (λc aj=>bg c (gx _ (eG _ aj)))
   .cases ae
  |aD x=>
   cases k with
   |succ k=>simp[j.sub]at ae
   |zero=>
    simp only[j.sub]at ae;rw[ai]at h;obtain⟨b,cur,e,fr,cN,rfl,U,aA,aU,bt,b5,cd⟩:=h;have hl:=ai.length _ _ _ bt;have gR:jj w b 0 x.wd=cur.toList:=by
     have:=mR (l:=[]) (m:=cur.toList) (r:=[]) aA (by simp)
     rwa [hl]at this
    have rI:jj ax b 0 x.wd=cur.toList:=by
     have:=mR (l:=[]) (m:=cur.toList) (r:=[]) ((bg b U).trans aA) (by simp)
     rwa [hl]at this
    simp only[cb,gR,rI];exact ih x cur.toList cN _ d bt ae (λc aj=>bg c (b5 _ aj))
  |_=>simp[j.sub]at ae
def gS:Value->abL
 | .agg cs=>cs.toList
 |v=>[v]
def bR:Value->abL
 | .tuple vs=>vs.toList.flatMap gS
 |v=>gS v
def g_:j->Value->Prop
 | .agg _,v=>∃arr,v= .agg arr
 |_,v=>Value.ft v=true
def c0:j->Value->Prop
 | .tuple ds,v=>∃arr:Array Value,v= .tuple arr/\arr.size=ds.length/\∀(k:Nat) (d:j) (x:Value),ds[k]? =some d->arr[k]? =some x->g_ d x/\(∀vs,d≠.tuple vs)/\(gS x).length=d.wd
 |d,v=>g_ d v
abbrev ah:=Nat->j
mutual
def aB (w:World) (F:Nat->Prop) (s:ah) (ao:Nat->Value):j->Value->(Nat->Prop)->Prop
 | .hole,_,_=>True
 | .h x q,v,_=>∀d,j.sub q (s x)=some d->d.plain=false->∃b0 a,cb w q (s x) (bR (ao x)) none=some (d,b0,a)/\bR v=b0/\c0 d v
 | .al x q,v,_=>∀d,j.sub q (s x)=some d->j.dG q (s x)=true->∃b0 b o,cb w q (s x) (bR (ao x)) none=some (d,b0,some (b,o))/\v= .pointer (some ⟨b,o,none⟩)
 | .J x k,v,_=>(s x).plain=false->∃b cur e fr,v= .pointer (some ⟨b,k,none⟩)/\F b/\w.heap[b]? =some (.cells cur e fr)/\cur.toList=bR (ao x)
 | .fn f cap,v,_=>∃arr:Array Value,v= .func (.func f) #[] arr/\dk w F s ao cap arr.toList
 | .bool b,v,S=>c0 (.bool b) v/\ai w F (.bool b) (bR v) S
 | .eF,v,S=>c0 .eF v/\ai w F .eF (bR v) S
 | .int k n,v,S=>c0 (.int k n) v/\ai w F (.int k n) (bR v) S
 | .str x,v,S=>c0 (.str x) v/\ai w F (.str x) (bR v) S
 | .c8,v,S=>c0 .c8 v/\ai w F .c8 (bR v) S
 | .aJ,v,S=>c0 .aJ v/\ai w F .aJ (bR v) S
 | .slice xs,v,S=>c0 (.slice xs) v/\ai w F (.slice xs) (bR v) S
 | .ad sz xs,v,S=>c0 (.ad sz xs) v/\ai w F (.ad sz xs) (bR v) S
 | .ref d,v,S=>c0 (.ref d) v/\ai w F (.ref d) (bR v) S
 | .aD d,v,S=>c0 (.aD d) v/\ai w F (.aD d) (bR v) S
 | .agg d,v,S=>c0 (.agg d) v/\ai w F (.agg d) (bR v) S
 | .tuple d,v,S=>c0 (.tuple d) v/\ai w F (.tuple d) (bR v) S
 | .dc o,v,S=>c0 (.dc o) v/\ai w F (.dc o) (bR v) S
 | .eU f d,v,S=>c0 (.eU f d) v/\ai w F (.eU f d) (bR v) S
 | .fB d,v,S=>c0 (.fB d) v/\ai w F (.fB d) (bR v) S
def dk (w:World) (F:Nat->Prop) (s:ah) (ao:Nat->Value):abN->abL->Prop
 |[],vs=>vs=[]
 |d::ds,vs=>∃v iw,vs=v::iw/\aB w F s ao d v (λ_=>False)/\dk w F s ao ds iw
end
def j.tree:j->Bool
 | .hole=>false
 | .h _ _=>false
 | .al _ _=>false
 | .J _ _=>false
 | .fn _ _=>false
 |_=>true
theorem aB.b4 {w:World} {F:Nat->Prop} {s:ah} {ao:Nat->Value} {d:j} {v:Value} {S:Nat->Prop} (aL:d.tree=true):
  aB w F s ao d v S↔(c0 d v/\ai w F d (bR v) S):=by
 cases d<;>first|(simp[j.tree]at aL;done)|rw[aB]
theorem fQ {q:abI} {av d:j} (h:j.sub q av=some d) (al:d.plain=false\/j.dG q av=true):av.tree=true:=by
 cases q with
 |nil=>
  simp[j.sub]at h;subst h;rcases al with al|al
  .cases av<;>first|rfl|(simp[j.plain]at al)
  .simp[j.dG]at al
 |cons k q=>cases av<;>first|rfl|(simp[j.sub]at h)
theorem Bs {d:j} (h:d.plain=false):d.tree=true:=fQ (q:=[]) (by simp only[j.sub]) (.inl h)
theorem aB.frame {w ax:World} {F bC:Nat->Prop} {s:ah} {ao:Nat->Value} {Sx:Nat->Nat->Prop} (aY:∀b,F b->ax.heap[b]? =w.heap[b]?) (GS:∀b,F b->bC b)
  (bg:∀x b,Sx x b->ax.heap[b]? =w.heap[b]?) (mS:∀x,aB w F s ao (s x) (ao x) (Sx x)):
  ∀(d:j) (v:Value) (S:Nat->Prop),(∀b,S b->ax.heap[b]? =w.heap[b]?)->aB w F s ao d v S->aB ax bC s ao d v S:=by
 have ha:∀(x:Nat) (q:abI) (d:j),j.sub q (s x)=some d->(d.plain=false\/j.dG q (s x)=true)->cb ax q (s x) (bR (ao x)) none=cb w q (s x) (bR (ao x)) none:=by
  intro x q d ae al;have aL:=fQ ae al;have:=mS x;rw[aB.b4 aL]at this;exact yz q _ _ (Sx x) none d this.2 ae (bg x)
 have nH:∀(d:j) (v:Value) (S:Nat->Prop),d.tree=true->(∀b,S b->ax.heap[b]? =w.heap[b]?)->aB w F s ao d v S->aB ax bC s ao d v S:=by
  intro d v S aL rJ h;rw[aB.b4 aL]at h⊢;exact⟨h.1,ai.mono GS _ _ _ _ (λ_ h=>h) (ai.frame aY _ _ _ rJ h.2)⟩
 have step:∀n,(∀(d:j) (v:Value) (S:Nat->Prop),SizeOf.sizeOf d<=n->(∀b,S b->ax.heap[b]? =w.heap[b]?)->aB w F s ao d v S->aB ax bC s ao d v S)/\
   (∀(ds:abN) (vs:abL),SizeOf.sizeOf ds<=n->dk w F s ao ds vs->dk ax bC s ao ds vs):=by
  intro n;induction n with
  |zero=>
   refine⟨λd v S bA=>?_,λds vs bA=>?_⟩
   .cases d<;>simp at bA<;>omega
   .cases ds<;>simp at bA<;>omega
  |succ n ih=>
   refine⟨λd v S bA rJ h=>?_,λds vs bA h=>?_⟩
   .cases d with
    |hole=>rw[aB];trivial
    |h x q=>
     rw[aB]at h⊢;intro d ae al;rw[ha x q d ae (.inl al)];exact h d ae al
    |al x q=>
     rw[aB]at h⊢;intro d ae al;rw[ha x q d ae (.inr al)];exact h d ae al
    |J x k=>
     rw[aB]at h⊢;intro al;obtain⟨b,cur,e,fr,R,U,aA,aU⟩:=h al;exact⟨b,cur,e,fr,R,GS b U,(aY b U).trans aA,aU⟩
    |fn f cap=>
     rw[aB]at h⊢;obtain⟨arr,rfl,aj⟩:=h;exact⟨arr,rfl,ih.2 _ _ (by simp at bA;omega) aj⟩
    |_=>exact nH _ _ _ rfl rJ h
   .cases ds with
    |nil=>rw[dk]at h⊢;exact h
    |cons d ds=>
     rw[dk]at h⊢;obtain⟨v,iw,rfl,R,U⟩:=h;simp at bA;exact⟨v,iw,rfl,ih.1 _ _ _ (by omega) (λ_ h=>h.elim) R,ih.2 _ _ (by omega) U⟩
 intro d v S rJ h;exact(step (SizeOf.sizeOf d)).1 d v S (Nat.le_refl _) rJ h
mutual
def ch (x:Nat):j->j
 | .h y q=>if y=x then .hole else .h y q
 | .al y q=>if y=x then .hole else .al y q
 | .J y k=>if y=x then .hole else .J y k
 | .fn f cap=>.fn f (hW x cap)
 |d=>d
def hW (x:Nat):abN->abN
 |[]=>[]
 |d::ds=>ch x d::hW x ds
end
mutual
def bV (x:Nat):j->j
 | .h y q=>if y=x then(if q=[]then .h y q else .hole)else .h y q
 | .al y q=>if y=x then .hole else .al y q
 | .fn f cap=>.fn f (hv x cap)
 |d=>d
def hv (x:Nat):abN->abN
 |[]=>[]
 |d::ds=>bV x d::hv x ds
end
def ck {α:Type} (f:Nat->α) (t:Nat) (v:α):Nat->α:=λu=>if u=t then v else f u
def kr (t:Nat) (s:ah):ah:=λu=>ch t (s u)
def e_ (t:Nat) (s:ah):ah:=λu=>bV t (s u)
theorem ks {α:Type} (f:Nat->α) (t:Nat) (v:α):ck f t v t=v:=by simp[ck]
theorem hX {α:Type} (f:Nat->α) {t u:Nat} (v:α) (h:u≠t):ck f t v u=f u:=by simp[ck,h]
theorem NN {t:Nat} {d:j} (h:d.tree=true):ch t d=d:=by cases d<;>first|rfl|(simp[j.tree]at h)
theorem Bt {t:Nat} {d:j} (h:d.tree=true):bV t d=d:=by cases d<;>first|rfl|(simp[j.tree]at h)
theorem NO {t:Nat} {d:j} (h:(ch t d).tree=true):d.tree=true/\ch t d=d:=by
 cases d<;>first|exact⟨rfl,rfl⟩|(simp only[ch]at h;first|(split at h<;>simp[j.tree]at h)|simp[j.tree]at h)
theorem yA {t:Nat} {d:j} (h:(bV t d).tree=true):d.tree=true/\bV t d=d:=by
 cases d<;>first|exact⟨rfl,rfl⟩|(simp only[bV]at h;first|(split at h<;>(try split at h)<;>simp[j.tree]at h)|simp[j.tree]at h)
section
variable {w:World} {F:Nat->Prop} {s aq:ah} {ao gT:Nat->Value} {t:Nat}
theorem aB.ch (fZ:∀x,x≠t->(aq x).tree=true->aq x=s x/\gT x=ao x):∀(n:Nat),
  (∀(d:j) (v:Value) (S:Nat->Prop),SizeOf.sizeOf d<=n->aB w F s ao d v S->aB w F aq gT (cW.ch t d) v S)/\
  (∀(ds:abN) (vs:abL),SizeOf.sizeOf ds<=n->dk w F s ao ds vs->dk w F aq gT (hW t ds) vs):=by
 intro n;induction n with
 |zero=>
  refine⟨λd v S bA=>?_,λds vs bA=>?_⟩
  .cases d<;>simp at bA<;>omega
  .cases ds<;>simp at bA<;>omega
 |succ n ih=>
  refine⟨λd v S bA h=>?_,λds vs bA h=>?_⟩
  .cases d with
   |hole=>rw[cW.ch.eq_def];simp only;rw[aB];trivial
   |h x q=>
    simp only[cW.ch];split
    .rw[aB];trivial
    .rename_i ag;rw[aB]at h⊢;intro d ae al;obtain⟨aK,aV⟩:=fZ x ag (fQ ae (.inl al));rw[aK,aV];rw[aK]at ae;exact h d ae al
   |al x q=>
    simp only[cW.ch];split
    .rw[aB];trivial
    .rename_i ag;rw[aB]at h⊢;intro d ae al;obtain⟨aK,aV⟩:=fZ x ag (fQ ae (.inr al));rw[aK,aV];rw[aK]at ae al;exact h d ae al
   |J x k=>
    simp only[cW.ch];split
    .rw[aB];trivial
    .rename_i ag;rw[aB]at h⊢;intro al;obtain⟨aK,aV⟩:=fZ x ag (Bs al);rw[aV];rw[aK]at al;exact h al
   |fn f cap=>
    simp only[cW.ch];rw[aB]at h⊢;obtain⟨arr,rfl,aj⟩:=h;exact⟨arr,rfl,ih.2 _ _ (by simp at bA;omega) aj⟩
   |_=>
    rw[NN (by rfl)];exact(aB.b4 (by rfl)).2 ((aB.b4 (by rfl)).1 h)
  .cases ds with
   |nil=>rw[hW,dk];rw[dk]at h;exact h
   |cons d ds=>
    rw[hW,dk];rw[dk]at h;obtain⟨v,iw,rfl,R,U⟩:=h;simp at bA;exact⟨v,iw,rfl,ih.1 _ _ _ (by omega) R,ih.2 _ _ (by omega) U⟩
theorem aB.bV {ax:World} (fZ:∀x,x≠t->(aq x).tree=true->aq x=s x/\gT x=ao x) (fg:gT t=ao t) (eV:(aq t).plain=false->(s t).plain=false/\∀v,c0 (s t) v->c0 (aq t) v)
  (ha:∀x q d,x≠t->j.sub q (s x)=some d->(d.plain=false\/j.dG q (s x)=true)->cb ax q (s x) (bR (ao x)) none=cb w q (s x) (bR (ao x)) none)
  (aY:∀b,F b->ax.heap[b]? =w.heap[b]?):∀(n:Nat),
  (∀(d:j) (v:Value) (S:Nat->Prop),SizeOf.sizeOf d<=n->(∀b,S b->ax.heap[b]? =w.heap[b]?)->aB w F s ao d v S->aB ax F aq gT (cW.bV t d) v S)/\
  (∀(ds:abN) (vs:abL),SizeOf.sizeOf ds<=n->dk w F s ao ds vs->dk ax F aq gT (hv t ds) vs):=by
 intro n;induction n with
 |zero=>
  refine⟨λd v S bA=>?_,λds vs bA=>?_⟩
  .cases d<;>simp at bA<;>omega
  .cases ds<;>simp at bA<;>omega
 |succ n ih=>
  refine⟨λd v S bA rJ h=>?_,λds vs bA h=>?_⟩
  .cases d with
   |hole=>rw[cW.bV.eq_def];simp only;rw[aB];trivial
   |h x q=>
    simp only[cW.bV];split
    .rename_i ag;subst ag;split
     .rename_i cp;subst cp;rw[aB]at h⊢;intro d ae al;simp only[j.sub,some.injEq]at ae;subst ae;obtain⟨dK,bL⟩:=eV al;obtain⟨b0,a,aQ,a2,bQ⟩:=h (s x) rfl dK;simp only[cb,some.injEq,Prod.mk.injEq]at aQ;obtain⟨-,aQ,aag⟩:=aQ;refine⟨bR (gT x),none,rfl,?_,bL _ bQ⟩;rw[fg,a2,<-aQ]
     .rw[aB];trivial
    .rename_i ag;rw[aB]at h⊢;intro d ae al;obtain⟨aK,aV⟩:=fZ x ag (fQ ae (.inl al));rw[aK,aV];rw[aK]at ae;rw[ha x q d ag ae (.inl al)];exact h d ae al
   |al x q=>
    simp only[cW.bV];split
    .rw[aB];trivial
    .rename_i ag;rw[aB]at h⊢;intro d ae al;obtain⟨aK,aV⟩:=fZ x ag (fQ ae (.inr al));rw[aK,aV];rw[aK]at ae al;rw[ha x q d ag ae (.inr al)];exact h d ae al
   |J x k=>
    simp only[cW.bV];rw[aB]at h⊢;intro al;by_cases ag:x=t
    .subst ag;obtain⟨b,cur,e,fr,R,U,aA,aU⟩:=h (eV al).1;exact⟨b,cur,e,fr,R,U,(aY b U).trans aA,by rw[fg];exact aU⟩
    .obtain⟨aK,aV⟩:=fZ x ag (Bs al);rw[aK]at al;obtain⟨b,cur,e,fr,R,U,aA,aU⟩:=h al;exact⟨b,cur,e,fr,R,U,(aY b U).trans aA,by rw[aV];exact aU⟩
   |fn f cap=>
    simp only[cW.bV];rw[aB]at h⊢;obtain⟨arr,rfl,aj⟩:=h;exact⟨arr,rfl,ih.2 _ _ (by simp at bA;omega) aj⟩
   |_=>
    rw[Bt (by rfl)];have bz:=(aB.b4 (by rfl)).1 h;exact(aB.b4 (by rfl)).2 ⟨bz.1,ai.frame aY _ _ _ rJ bz.2⟩
  .cases ds with
   |nil=>rw[hv,dk];rw[dk]at h;exact h
   |cons d ds=>
    rw[hv,dk];rw[dk]at h;obtain⟨v,iw,rfl,R,U⟩:=h;simp at bA;exact⟨v,iw,rfl,ih.1 _ _ _ (by omega) (λ_ h=>h.elim) R,ih.2 _ _ (by omega) U⟩
theorem aB.void (fZ:∀x,x≠t->(aq x).tree=true->aq x=s x/\gT x=ao x) (l8:(aq t).plain=true):∀(n:Nat),
  (∀(d:j) (v:Value) (S:Nat->Prop),SizeOf.sizeOf d<=n->aB w F s ao d v S->aB w F aq gT d v S)/\
  (∀(ds:abN) (vs:abL),SizeOf.sizeOf ds<=n->dk w F s ao ds vs->dk w F aq gT ds vs):=by
 intro n;induction n with
 |zero=>
  refine⟨λd v S bA=>?_,λds vs bA=>?_⟩
  .cases d<;>simp at bA<;>omega
  .cases ds<;>simp at bA<;>omega
 |succ n ih=>
  refine⟨λd v S bA h=>?_,λds vs bA h=>?_⟩
  .cases d with
   |hole=>rw[aB];trivial
   |h x q=>
    rw[aB]at h⊢;intro d ae al;by_cases ag:x=t
    .subst ag;rw[j.Br _ _ _ l8 ae]at al;cases al
    .obtain⟨aK,aV⟩:=fZ x ag (fQ ae (.inl al));rw[aK,aV];rw[aK]at ae;exact h d ae al
   |al x q=>
    rw[aB]at h⊢;intro d ae al;by_cases ag:x=t
    .subst ag;rw[j.GR _ _ l8]at al;cases al
    .obtain⟨aK,aV⟩:=fZ x ag (fQ ae (.inr al));rw[aK,aV];rw[aK]at ae al;exact h d ae al
   |J x k=>
    rw[aB]at h⊢;intro al;by_cases ag:x=t
    .subst ag;rw[l8]at al;cases al
    .obtain⟨aK,aV⟩:=fZ x ag (Bs al);rw[aV];rw[aK]at al;exact h al
   |fn f cap=>
    rw[aB]at h⊢;obtain⟨arr,rfl,aj⟩:=h;exact⟨arr,rfl,ih.2 _ _ (by simp at bA;omega) aj⟩
   |_=>exact(aB.b4 (by rfl)).2 ((aB.b4 (by rfl)).1 h)
  .cases ds with
   |nil=>rw[dk];rw[dk]at h;exact h
   |cons d ds=>
    rw[dk];rw[dk]at h;obtain⟨v,iw,rfl,R,U⟩:=h;simp at bA;exact⟨v,iw,rfl,ih.1 _ _ _ (by omega) R,ih.2 _ _ (by omega) U⟩
end
def GU:Bool:=false
def Out (w w0:World):Prop:=w.output=w0.output/\(GU=true->w0.drawn<=w.drawn)
theorem Out.trans {a b c:World} (h:Out a b) (U:Out b c):Out a c:=⟨Eq.trans h.1 U.1,λd=>Nat.le_trans (U.2 d) (h.2 d)⟩
theorem Out.refl (w:World):Out w w:=⟨rfl,λ_=>Nat.le_refl _⟩
def NP:List (Nat×(Obj->Prop)):=[]
def tG (w:World) (X:Nat->Prop):Prop:=∀p∈NP,p.1<w.heap.size/\¬X p.1/\∃o,w.heap[p.1]? =some o/\p.2 o
theorem tG.next {w ax:World} {X Y:Nat->Prop} (h:tG w X) (I:w.heap.size<=ax.heap.size) (J:∀b,b<w.heap.size->¬X b->ax.heap[b]? =w.heap[b]?) (bh:∀b,Y b->X b\/w.heap.size<=b):tG ax Y:=λp al=>by
 obtain⟨R,U,o,aA,aU⟩:=h p al;refine⟨Nat.lt_of_lt_of_le R I,λh=>?_,o,(J _ R U).trans aA,aU⟩;rcases bh _ h with h|h
 .exact U h
 .omega
structure bu (w0:World) (F0 X F:Nat->Prop) (S:Nat->Nat->Prop) (s:ah) (ao:Nat->Value) (w:World):Prop where
 fR:∀b,F0 b->F b
 gl:∀b,F b->F0 b\/X b\/w0.heap.size<=b
 eu:∀b,F b->b<w.heap.size
 dD:∀t b,S t b->b<w.heap.size
 eW:∀t b,S t b->¬F b
 ev:∀t u b,t≠u->S t b->¬S u b
 cN:∀t b,S t b->X b\/w0.heap.size<=b
 cK:∀t,aB w F s ao (s t) (ao t) (S t)
 old:∀b,b<w0.heap.size->¬X b->w.heap[b]? =w0.heap[b]?
 size:w0.heap.size<=w.heap.size
 os:w.os=w0.os
 tape:w.tape=w0.tape
 output:Out w w0
 fL:tG w0 X
section
variable {w0 w ax:World} {F0 X F:Nat->Prop} {S:Nat->Nat->Prop} {s:ah} {ao:Nat->Value}
theorem bu.grow (h:bu w0 F0 X F S s ao w) (J:∀b,b<w.heap.size->ax.heap[b]? =w.heap[b]?) (I:w.heap.size<=ax.heap.size)
  (R:ax.os=w.os) (U:ax.tape=w.tape) (aA:Out ax w):bu w0 F0 X F S s ao ax where
 fR:=h.fR
 gl:=h.gl
 eu:=λb aY=>Nat.lt_of_lt_of_le (h.eu b aY) I
 dD:=λt b aY=>Nat.lt_of_lt_of_le (h.dD t b aY) I
 eW:=h.eW
 ev:=h.ev
 cN:=h.cN
 cK:=λt=>aB.frame (Sx:=S) (λb aY=>J b (h.eu b aY)) (λ_ h=>h) (λx b bg=>J b (h.dD x b bg)) h.cK _ _ _ (λb bg=>J b (h.dD t b bg)) (h.cK t)
 old:=λb cB ix=>(J b (Nat.lt_of_lt_of_le cB h.size)).trans (h.old b cB ix)
 size:=Nat.le_trans h.size I
 os:=R.trans h.os
 tape:=U.trans h.tape
 output:=aA.trans h.output
 fL:=h.fL
def fy (S:Nat->Nat->Prop) (t:Nat) (Sn:Nat->Prop):Nat->Nat->Prop:=λu b=>if u=t then Sn b else S u b
theorem vU (S:Nat->Nat->Prop) (t:Nat) (Sn:Nat->Prop):fy S t Sn t=Sn:=by funext b;simp[fy]
theorem vV (S:Nat->Nat->Prop) {t u:Nat} (Sn:Nat->Prop) (h:u≠t):fy S t Sn u=S u:=by funext b;simp[fy,h]
theorem bu.tH (h:bu w0 F0 X F S s ao w) {t:Nat} {d:j} {v:Value} (al:d.plain=true) (ae:aB w F s ao d v (λ_=>False)):
  bu w0 F0 X F (fy S t (λ_=>False)) (ck s t d) (ck ao t v) w where
 fR:=h.fR
 gl:=h.gl
 eu:=h.eu
 dD:=λu b J=>by simp only[fy]at J;split at J;exact J.elim;exact h.dD u b J
 eW:=λu b J=>by simp only[fy]at J;split at J;exact J.elim;exact h.eW u b J
 ev:=λu x b cO J ag=>by
  simp only[fy]at J ag;split at J
  .exact J.elim
  .split at ag
   .exact ag.elim
   .exact h.ev u x b cO J ag
 cN:=λu b J=>by simp only[fy]at J;split at J;exact J.elim;exact h.cN u b J
 cK:=λu=>by
  have fZ:∀x,x≠t->(ck s t d x).tree=true->ck s t d x=s x/\ck ao t v x=ao x:=λx ag _=>⟨hX _ _ ag,hX _ _ ag⟩
  have l8:(ck s t d t).plain=true:=by rw[ks];exact al
  by_cases hu:u=t
  .subst hu;rw[ks,ks,vU];exact(aB.void fZ l8 _).1 _ _ _ (Nat.le_refl _) ae
  .rw[hX _ _ hu,hX _ _ hu,vV _ _ hu];exact(aB.void fZ l8 _).1 _ _ _ (Nat.le_refl _) (h.cK u)
 old:=h.old
 size:=h.size
 os:=h.os
 tape:=h.tape
 output:=h.output
 fL:=h.fL
theorem bu.GV (h:bu w0 F0 X F S s ao w) {t:Nat} {d:j} {v:Value} {Sn:Nat->Prop} (ae:d.tree=true) (I:c0 d v) (ay:ai w F d (bR v) Sn)
  (cB:∀b,Sn b->b<w.heap.size) (aY:∀b,Sn b->¬F b) (bg:∀u b,u≠t->Sn b->¬S u b) (bq:∀b,Sn b->X b\/w0.heap.size<=b):
  bu w0 F0 X F (fy S t Sn) (ck (kr t s) t d) (ck ao t v) w where
 fR:=h.fR
 gl:=h.gl
 eu:=h.eu
 dD:=λu b J=>by simp only[fy]at J;split at J;exact cB b J;exact h.dD u b J
 eW:=λu b J=>by simp only[fy]at J;split at J;exact aY b J;exact h.eW u b J
 ev:=λu x b cO J ag=>by
  simp only[fy]at J ag;split at J
  .rename_i hu;rw[if_neg (λe=>cO (hu.trans e.symm))]at ag;exact bg x b (λe=>cO (hu.trans e.symm)) J ag
  .rename_i hu;split at ag
   .exact bg u b hu ag J
   .exact h.ev u x b cO J ag
 cN:=λu b J=>by simp only[fy]at J;split at J;exact bq b J;exact h.cN u b J
 cK:=λu=>by
  have fZ:∀x,x≠t->(ck (kr t s) t d x).tree=true->ck (kr t s) t d x=s x/\ck ao t v x=ao x:=λx ag aL=>by
   rw[hX _ _ ag]at aL⊢;exact⟨(NO aL).2,hX _ _ ag⟩
  by_cases hu:u=t
  .subst hu;rw[ks,ks,vU];exact(aB.b4 ae).2 ⟨I,ay⟩
  .rw[hX _ _ hu,hX _ _ hu,vV _ _ hu];exact(aB.ch fZ _).1 _ _ _ (Nat.le_refl _) (h.cK u)
 old:=h.old
 size:=h.size
 os:=h.os
 tape:=h.tape
 output:=h.output
 fL:=h.fL
theorem qC (k:Nat) (q:abI) (bb x:j):(∃ar gs,x= .agg ar/\j.put (k::q) bb x= .agg gs)\/(∃ar gs,x= .tuple ar/\j.put (k::q) bb x= .tuple gs)\/
  (∃sz xs bO,x= .ad sz xs/\j.put (k::q) bb x= .ad sz bO)\/(∃y z,x= .aD y/\j.put (k::q) bb x= .aD z)\/j.put (k::q) bb x=x:=by
 cases x with
 |agg ar=>simp only[j.put];split<;>exact .inl ⟨_,_,rfl,rfl⟩
 |tuple ar=>simp only[j.put];split<;>exact .inr (.inl ⟨_,_,rfl,rfl⟩)
 |ad sz ar=>simp only[j.put];split<;>exact .inr (.inr (.inl ⟨_,_,_,rfl,rfl⟩))
 |aD y=>cases k<;>exact .inr (.inr (.inr (.inl ⟨_,_,rfl,rfl⟩)))
 |_=>exact .inr (.inr (.inr (.inr rfl)))
theorem GW {k:Nat} {q:abI} {bb x:j} {v:Value} (h:g_ x v):g_ (j.put (k::q) bb x) v:=by
 rcases qC k q bb x with⟨ar,gs,rfl,e⟩|⟨ar,gs,rfl,e⟩|⟨sz,xs,bO,rfl,e⟩|⟨y,z,rfl,e⟩|e<;>rw[e]<;>exact h
theorem GX {k:Nat} {q:abI} {bb x:j} (h:∀vs,x≠.tuple vs):∀vs,j.put (k::q) bb x≠.tuple vs:=by
 rcases qC k q bb x with⟨ar,gs,rfl,e⟩|⟨ar,gs,rfl,e⟩|⟨sz,xs,bO,rfl,e⟩|⟨y,z,rfl,e⟩|e<;>rw[e]<;>first|exact h|(intro vs bz;cases bz;done)|exact(h _ rfl).elim
theorem vW {k:Nat} {q:abI} {d bb av:j} {v:Value} (h:c0 av v) (ae:j.sub (k::q) av=some d) (R:∀v,g_ d v->g_ bb v) (U:(∀vs,d≠.tuple vs)->∀vs,bb≠.tuple vs) (aA:bb.wd=d.wd):
  c0 (j.put (k::q) bb av) v:=by
 cases av with
 |tuple ar=>
  simp only[j.sub]at ae;split at ae
  .rename_i x ag;simp only[j.put,ag];simp only[c0]at h⊢;obtain⟨arr,rfl,bA,mS⟩:=h;refine⟨arr,rfl,by simpa using bA,λau e y he bh=>?_⟩;rw[getElem?_set]at he;split at he
   .rename_i vX;subst vX;split at he
    .simp only[some.injEq]at he;subst he;obtain⟨aQ,a2,bQ⟩:=mS k x y ag bh;refine⟨?_,?_,bQ.trans (j.tF q x d bb ae aA).symm⟩
     .cases q with
      |nil=>
       simp only[j.sub,some.injEq]at ae;subst ae;exact R _ aQ
      |cons cc q=>exact GW aQ
     .cases q with
      |nil=>
       simp only[j.sub,some.injEq]at ae;subst ae;exact U a2
      |cons cc q=>exact GX a2
    .cases he
   .exact mS au e y he bh
  .cases ae
 |agg ar=>simp only[j.put];split<;>exact h
 |ad sz ar=>simp only[j.put];split<;>exact h
 |aD y=>cases k<;>exact h
 |_=>exact h
theorem Bu {d:j} {v:Value} (h:g_ d v):g_ d.cf v:=by cases d<;>exact h
theorem GY {s:ah} {x:Nat} {q:abI} {d:j} (ae:j.sub q (s x)=some d) (al:d.plain=false):
  (ck (e_ x s) x (j.put q d.cf (s x)) x).plain=false->(s x).plain=false/\∀v,c0 (s x) v->c0 (ck (e_ x s) x (j.put q d.cf (s x)) x) v:=by
  rw[ks];intro f_;cases q with
  |nil=>
   exfalso;have:∀d:j,d.cf.plain=true:=by
    intro d;have key:∀n,(∀d:j,SizeOf.sizeOf d<=n->d.cf.plain=true)/\(∀ds:abN,SizeOf.sizeOf ds<=n->j.dF (j.g9 ds)=true):=by
     intro n;induction n with
     |zero=>exact⟨λd bA=>by cases d<;>simp at bA<;>omega,λds bA=>by cases ds<;>simp at bA<;>omega⟩
     |succ n ih=>
      refine⟨λd bA=>?_,λds bA=>?_⟩
      .cases d with
       |agg ar=>simp only[j.cf,j.plain];exact ih.2 _ (by simp at bA;omega)
       |tuple ar=>simp only[j.cf,j.plain];exact ih.2 _ (by simp at bA;omega)
       |_=>rfl
      .cases ds with
       |nil=>rfl
       |cons d ds=>
        simp at bA;simp only[j.g9,j.dF,Bool.and_eq_true];exact⟨ih.1 _ (by omega),ih.2 _ (by omega)⟩
    exact(key _).1 d (Nat.le_refl _)
   simp only[j.put]at f_;rw[this]at f_;cases f_
  |cons k q=>
   refine⟨?_,λv ay=>vW ay ae (λv h=>Bu h) (λh vs e=>?_) (j.oN d)⟩
   .cases cx:(s x).plain with
    |false=>rfl
    |true=>rw[j.Br _ _ _ cx ae]at al;cases al
   .cases d<;>first|(exact h _ rfl)|(simp[j.cf]at e)
theorem bu.take (h:bu w0 F0 X F S s ao w) {x:Nat} {q:abI} {d:j} (ae:j.sub q (s x)=some d) (al:d.plain=false):
  ∃(Sn ej:Nat->Prop) (b0:abL) (a:Option (Nat×Nat)),bu w0 F0 X F (fy S x Sn) (ck (e_ x s) x (j.put q d.cf (s x))) ao w/\
   cb w q (s x) (bR (ao x)) none=some (d,b0,a)/\ai w F d b0 ej/\(∀b,ej b->S x b)/\(∀b,Sn b->S x b)/\(∀b,ej b->¬Sn b)/\
   (∀(bb:j) (v:Value) (aF:Nat->Prop),aB w F s ao bb v aF->aB w F (ck (e_ x s) x (j.put q d.cf (s x))) ao (cW.bV x bb) v aF):=by
 have aL:=fQ ae (.inl al);have ag:=h.cK x;rw[aB.b4 aL]at ag;obtain⟨b0,a,dj,ej,e9,aQ,a2,bQ,c4,dR⟩:=ctx q (s x) (bR (ao x)) (S x) none d ag.2 ae;have hV:ai w F (j.put q d.cf (s x)) (bR (ao x)) dj:=by
  have lD:ai w F d.cf b0 (λ_=>False):=ai.cf _ _ _ _ c4;have iO:∀b,(dj b\/False)->dj b:=λb h=>h.elim id False.elim;rcases dR with⟨l,r,aK,aV,a1⟩|⟨b,cur,e,fr,l,r,aK,aV,a1,b6,cH,bT⟩
  .have:=a1 w _ b0 _ (λ_ _=>rfl) (λ_ _=>rfl) (j.oN d) lD (λ_ h=>h.elim);rw[<-aK]at this;exact ai.mono (λ_ h=>h) _ _ _ _ iO this
  .have:=bT w _ b0 _ (λ_ _=>rfl) (λ_ _ _=>rfl) (by rw[a1,<-cH]) (j.oN d) lD (λ_ h=>h.elim);exact ai.mono (λ_ h=>h) _ _ _ _ iO this
 have NQ:c0 (j.put q d.cf (s x)) (ao x)/\(j.put q d.cf (s x)).tree=true\/j.put q d.cf (s x)= .hole:=by
  cases q with
  |nil=>
   simp only[j.sub,some.injEq]at ae;subst ae;simp only[j.put];cases I:s x with
   |ad sz xs=>right;rfl
   |aD y=>right;rfl
   |dc y=>right;rfl
   |agg ar=>left;rw[I]at ag;exact⟨ag.1,rfl⟩
   |tuple ar=>
    left;rw[I]at ag;refine⟨?_,rfl⟩;simp only[c0,j.cf]at ag⊢;obtain⟨arr,e,bA,mS⟩:=ag.1;have hl:∀ar:abN,j.g9 ar=ar.map j.cf:=by
     intro ar;induction ar with
     |nil=>rfl
     |cons a ar ih=>simp[j.g9,ih]
    refine⟨arr,e,by rw[hl];simpa using bA,λk dY y he bh=>?_⟩;rw[hl,getElem?_map]at he;cases ak:ar[k]? with
    |none=>rw[ak]at he;cases he
    |some z=>
     rw[ak]at he;simp only[map_some,some.injEq]at he;subst he;obtain⟨aQ,a2,bQ⟩:=mS k z y ak bh;refine⟨Bu aQ,λvs e=>?_,bQ.trans (j.oN z).symm⟩;cases z<;>first|(exact a2 _ rfl)|(simp[j.cf]at e)
   |eU _ _=>right;simp[j.cf]
   |fB _=>right;simp[j.cf]
   |_=>rw[I]at al;simp[j.plain]at al
  |cons k q=>
   left;refine⟨vW ag.1 ae (λv h=>Bu h) (λh vs e=>?_) (j.oN d),?_⟩
   .cases d<;>first|(exact h _ rfl)|(simp[j.cf]at e)
   .rcases qC k q d.cf (s x)with⟨ar,gs,aK,e⟩|⟨ar,gs,aK,e⟩|⟨sz,xs,bO,aK,e⟩|⟨y,z,aK,e⟩|e<;>rw[e]<;>first|rfl|exact aL
 refine⟨dj,ej,b0,a,?_,e9,c4,a2,aQ,λb R U=>bQ b U R,?_⟩
 rotate_left
 .have fZ:∀y,y≠x->(ck (e_ x s) x (j.put q d.cf (s x)) y).tree=true->ck (e_ x s) x (j.put q d.cf (s x)) y=s y/\ao y=ao y:=λy bh aL=>by
   rw[hX _ _ bh]at aL⊢;exact⟨(yA aL).2,rfl⟩
  intro bb v aF gj;exact(aB.bV fZ rfl (GY ae al) (λ_ _ _ _ _ _=>rfl) (λ_ _=>rfl) _).1 _ _ _ (Nat.le_refl _) (λ_ _=>rfl) gj
 have fZ:∀y,y≠x->(ck (e_ x s) x (j.put q d.cf (s x)) y).tree=true->ck (e_ x s) x (j.put q d.cf (s x)) y=s y/\ao y=ao y:=λy bh aL=>by
  rw[hX _ _ bh]at aL⊢;exact⟨(yA aL).2,rfl⟩
 have eV:=GY (s:=s) (x:=x) ae al;constructor;case fR=>exact h.fR
 case gl=>exact h.gl
 case eu=>exact h.eu
 case dD=>exact λu b J=>by simp only[fy]at J;split at J;exact h.dD x b (aQ b J);exact h.dD u b J
 case eW=>exact λu b J=>by simp only[fy]at J;split at J;exact h.eW x b (aQ b J);exact h.eW u b J
 case ev=>
  intro u y b cO J bh;simp only[fy]at J bh;split at J
  .rename_i hu;rw[if_neg (λe=>cO (hu.trans e.symm))]at bh;exact h.ev x y b (λe=>cO (hu.trans e)) (aQ b J) bh
  .rename_i hu;split at bh
   .exact h.ev u x b hu J (aQ b bh)
   .exact h.ev u y b cO J bh
 case cN=>exact λu b J=>by simp only[fy]at J;split at J;exact h.cN x b (aQ b J);exact h.cN u b J
 case cK=>
  intro u;by_cases hu:u=x
  .subst hu;rw[ks,vU];rcases NQ with⟨aK,aV⟩|e
   .exact(aB.b4 aV).2 ⟨aK,hV⟩
   .rw[e,aB];trivial
  .rw[hX _ _ hu,vV _ _ hu];exact(aB.bV fZ rfl eV (λ_ _ _ _ _ _=>rfl) (λ_ _=>rfl) _).1 _ _ _ (Nat.le_refl _) (λ_ _=>rfl) (h.cK u)
 case old=>exact h.old
 case size=>exact h.size
 case os=>exact h.os
 case tape=>exact h.tape
 case output=>exact h.output
 case fL=>exact h.fL
theorem bu.store (h:bu w0 F0 X F S s ao w) {x:Nat} {q:abI} {d bb:j} (ae:j.sub q (s x)=some d) (aj:j.dG q (s x)=true)
  {e4:abL} {Sn:Nat->Prop} (ay:ai w F bb e4 Sn) (jk:bb.wd=d.wd)
  (cB:∀b,Sn b->b<w.heap.size) (aY:∀b,Sn b->¬F b) (bg:∀u b,Sn b->¬S u b) (bq:∀b,Sn b->X b\/w0.heap.size<=b):
  ∃(b0:abL) (b:Nat) (l r:abL) (cur:Array Value) (e:TypeId) (fr:Nat×Nat),cb w q (s x) (bR (ao x)) none=some (d,b0,some (b,l.length))/\
   w.heap[b]? =some (.cells cur e fr)/\cur.toList=l++(b0++r)/\j6 fr cur.size/\
   ∀ax,ax.heap[b]? =some (.cells (l++(e4++r)).toArray e fr)->(∀c,c≠b->ax.heap[c]? =w.heap[c]?)->ax.heap.size=w.heap.size->ax.os=w.os->ax.tape=w.tape->Out ax w->
    ∃aF,bu w0 F0 X F aF (ck (e_ x s) x (j.put q bb (s x))) ao ax:=by
 have aL:=fQ ae (.inr aj);have ag:=h.cK x;rw[aB.b4 aL]at ag;obtain⟨b0,a,dj,ej,e9,aQ,a2,bQ,c4,dR⟩:=ctx q (s x) (bR (ao x)) (S x) none d ag.2 ae;have NR:Deep w F q (s x) (bR (ao x)) d b0 a dj:=by
  rcases dR with⟨l,r,aK,aV,a1⟩|dR
  .exfalso;have i4:∀(q:abI) (av:j) (cs:abL) (a0:Option (Nat×Nat)) (d:j) (b0:abL),j.dG q av=true->cb w q av cs a0=some (d,b0,none)->False:=by
    intro q;induction q with
    |nil=>intro av cs a0 d b0 aj;simp[j.dG]at aj
    |cons k q ih=>
     have GZ:∀(q:abI) (av:j) (cs:abL) (l:Nat×Nat) (d:j) (b0:abL),cb w q av cs (some l)=some (d,b0,none)->False:=by
      intro q;induction q with
      |nil=>intro av cs l d b0 h;simp[cb]at h
      |cons k q yB=>
       intro av cs l d b0 h;cases av with
       |agg ar=>rw[cb]at h;split at h;exact yB _ _ _ _ _ h;cases h
       |tuple ar=>rw[cb]at h;split at h;exact yB _ _ _ _ _ h;cases h
       |ad sz xs=>simp only[cb]at h;split at h;exact yB _ _ _ _ _ h;cases h
       |aD y=>
        cases k with
        |zero=>rw[cb.eq_def]at h;simp only at h;split at h;exact yB _ _ _ _ _ h;cases h
        |succ k=>rw[show cb w ((k+1)::q) (.aD y) cs (some l)=none from rfl]at h;cases h
       |_=>simp[cb]at h
     intro av cs a0 d b0 aj h;cases av with
     |agg ar=>
      simp only[j.dG]at aj;split at aj
      .rename_i y bh;simp only[cb,bh]at h;exact ih _ _ _ _ _ aj h
      .cases aj
     |tuple ar=>
      simp only[j.dG]at aj;split at aj
      .rename_i y bh;simp only[cb,bh]at h;exact ih _ _ _ _ _ aj h
      .cases aj
     |ad sz xs=>simp only[cb]at h;split at h;exact GZ _ _ _ _ _ _ h;cases h
     |aD y=>
      cases k with
      |zero=>rw[cb.eq_def]at h;simp only at h;split at h;exact GZ _ _ _ _ _ _ h;cases h
      |succ k=>rw[show cb w ((k+1)::q) (.aD y) cs a0=none from rfl]at h;cases h
     |_=>simp[j.dG]at aj
   simp only[map_none]at aV;subst aV;exact i4 _ _ _ _ _ _ aj e9
  .exact dR
 obtain⟨b,cur,e,fr,l,r,rfl,aV,a1,b6,cH,bT⟩:=NR;refine⟨b0,b,l,r,cur,e,fr,e9,a1,cH,b6,?_⟩;intro ax kS lE cT Bv Bw rK;have rL:S x b:=aQ _ aV;have oO:∀c,F c->ax.heap[c]? =w.heap[c]? :=λc aj=>lE c (by rintro rfl;exact h.eW x _ rL aj);have G0:e4.length=b0.length:=by rw[ai.length _ _ _ ay,ai.length _ _ _ c4,jk]
 have hV:=bT ax bb e4 Sn oO (λc _ cO=>lE c cO) kS jk
  (ai.frame oO _ _ _ (λc aj=>lE c (by rintro rfl;exact bg x _ aj rL)) ay) (λc aj iO=>bg x c aj (aQ _ iO))
 obtain⟨k,h9,rfl⟩:∃k h9,q=k::h9:=by
  cases q with
  |nil=>simp[j.dG]at aj
  |cons k q=>exact⟨k,q,rfl⟩
 have vY:∀v,c0 (s x) v->c0 (j.put (k::h9) bb (s x)) v:=by
  intro v ay;rcases qC k h9 bb (s x)with⟨ar,gs,aK,e⟩|⟨ar,gs,aK,e⟩|⟨sz,xs,bO,aK,e⟩|⟨y,z,aK,e⟩|e
  .rw[e];rw[aK]at ay;exact ay
  ·
   rw[aK]at ay ae aj⊢;simp only[j.dG]at aj;split at aj
   .rename_i y bh;simp only[j.put,bh];cases h9 with
    |nil=>simp[j.dG]at aj
    |cons cc fC=>
     simp only[c0]at ay⊢;obtain⟨arr,rfl,bA,mS⟩:=ay;refine⟨arr,rfl,by simpa using bA,λau e iy he pQ=>?_⟩;rw[getElem?_set]at he;split at he
     .rename_i vX;subst vX;split at he
      .simp only[some.injEq]at he;subst he;obtain⟨aQ,a2,bQ⟩:=mS _ y iy bh pQ;simp only[j.sub,bh]at ae;exact⟨GW aQ,GX a2,bQ.trans (j.tF (cc::fC) y d bb ae jk).symm⟩
      .cases he
     .exact mS au e iy he pQ
   .cases aj
  .rw[e];rw[aK]at ay;exact ay
  .rw[e];rw[aK]at ay;exact ay
  .rw[e];exact ay
 have NS:(j.put (k::h9) bb (s x)).tree=true:=by
  rcases qC k h9 bb (s x)with⟨ar,gs,aK,e⟩|⟨ar,gs,aK,e⟩|⟨sz,xs,bO,aK,e⟩|⟨y,z,aK,e⟩|e<;>rw[e]<;>first|rfl|exact aL
 let aq:=ck (e_ x s) x (j.put (k::h9) bb (s x))
 have fZ:∀y,y≠x->(aq y).tree=true->aq y=s y/\ao y=ao y:=λy bh aL=>by
  have e:aq y=bV x (s y):=hX _ _ bh;rw[e]at aL⊢;exact⟨(yA aL).2,rfl⟩
 have eV:(aq x).plain=false->(s x).plain=false/\∀v,c0 (s x) v->c0 (aq x) v:=by
  intro _;refine⟨?_,?_⟩
  .cases cx:(s x).plain with
   |false=>rfl
   |true=>rw[j.GR _ _ cx]at aj;cases aj
  .simp only[aq,ks];exact vY
 refine⟨fy S x (λc=>dj c\/Sn c),?_⟩;constructor;case fR=>exact h.fR
 case gl=>exact h.gl
 case eu=>exact λb J=>by rw[cT];exact h.eu b J
 case dD=>
  intro u c J;rw[cT];simp only[fy]at J;split at J
  .rcases J with J|J
   .exact h.dD x c (aQ c J)
   .exact cB c J
  .exact h.dD u c J
 case eW=>
  intro u c J;simp only[fy]at J;split at J
  .rcases J with J|J
   .exact h.eW x c (aQ c J)
   .exact aY c J
  .exact h.eW u c J
 case ev=>
  intro u y c cO J bh;simp only[fy]at J bh;split at J
  .rename_i hu;rw[if_neg (λe=>cO (hu.trans e.symm))]at bh;rcases J with J|J
   .exact h.ev x y c (λe=>cO (hu.trans e)) (aQ c J) bh
   .exact bg y c J bh
  .rename_i hu;split at bh
   .rcases bh with bh|bh
    .exact h.ev u x c hu J (aQ c bh)
    .exact bg u c bh J
   .exact h.ev u y c cO J bh
 case cN=>
  intro u c J;simp only[fy]at J;split at J
  .rcases J with J|J
   .exact h.cN x c (aQ c J)
   .exact bq c J
  .exact h.cN u c J
 case cK=>
  intro u;by_cases hu:u=x
  .subst hu;rw[ks,vU];exact(aB.b4 NS).2 ⟨vY _ ag.1,hV⟩
  .rw[hX _ _ hu,vV _ _ hu];have cO:∀y c,y≠x->S y c->ax.heap[c]? =w.heap[c]? :=λy c bh aj=>lE c (by rintro rfl;exact h.ev y x c bh aj rL);refine(aB.bV fZ rfl eV (λy fC d2 bh gU vZ=>?_) oO _).1 _ _ _ (Nat.le_refl _) (λc aj=>cO u c hu aj) (h.cK u);have v7:=h.cK y;rw[aB.b4 (fQ gU vZ)]at v7;exact yz fC _ _ _ none d2 v7.2 gU (λc aj=>cO y c bh aj)
 case old=>
  intro c cB ix;by_cases qD:c=b
  .subst qD;exfalso;rcases h.cN x c rL with lD|lD
   .exact ix lD
   .omega
  .exact(lE c qD).trans (h.old c cB ix)
 case size=>rw[cT];exact h.size
 case os=>exact Bv.trans h.os
 case tape=>exact Bw.trans h.tape
 case output=>exact rK.trans h.output
 case fL=>exact h.fL
end
end Go.cW
