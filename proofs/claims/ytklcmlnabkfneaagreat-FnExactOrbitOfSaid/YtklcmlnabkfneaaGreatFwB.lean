/- Part of a proof that a law returns true for every input. No condition. -/
import Derived.Test.YtklcmlnabkfneaaGreatFwA
import Derived.Laws.AppendOwn
import Derived.Calls
namespace Go.de
open List Option Go.IntKind Nat Or
inductive w8 where
 |mp (es:alM)
 |w9
 |iM (T e:TypeId) (k1:alO)
inductive I where
 |hole
 |bool (b:Bool)
 |fm
 |int (k:IntKind) (n:Int)
 |str (s:alO)
 |dC
 |bd
 |slice (xs:List I)
 |ag (sz:Nat) (xs:List I)
 |ref (d:I)
 |bf (d:I)
 |agg (aE:List I)
 |tuple (vs:List I)
 |fn (f:FuncId) (cap:List I)
 |h (x:Nat) (q:alR)
 |aq (x:Nat) (q:alR)
 |R (x:Nat) (k:Nat)
 |dS (o:w8)
 |fJ (f:FuncId) (cap:List I)
 deriving Inhabited
abbrev alW:=List I
abbrev alV:=List (Nat×I)
mutual
def I.wd:I->Nat
 | .agg aE=>I.ef aE
 | .tuple aE=>I.ef aE
 |_=>1
def I.ef:alW->Nat
 |[]=>0
 |d::ds=>d.wd+I.ef ds
end
def Rd (w:World) (b o:Nat) (cs:alU):Prop:=∀j c,cs[j]? =some c->w.cell? ⟨b,o+j,none⟩=some c
def k2 (fr:Nat×Nat) (n:Nat):Prop:=∀o,o<n->¬(fr.1<=o/\o<fr.2)
theorem k2.le {fr:Nat×Nat} {m n:Nat} (h:k2 fr n) (hm:m<=n):k2 fr m:=λo bE=>h o (Nat.lt_of_lt_of_le bE hm)
theorem k2.low {fr:Nat×Nat} {n k:Nat} (h:k2 fr (n+k)):k2 fr n:=h.le (le_add_right _ _)
def Value.fK:Value->Bool
 | .agg _=>false
 | .tuple _=>false
 |_=>true
def I.single:I->Bool
 | .agg _=>false
 | .tuple _=>false
 | .hole=>false
 |_=>true
def I.one:I->Bool
 | .agg _=>false
 | .tuple _=>false
 |_=>true
def lP (w:World):w8->alU->(Nat->Prop)->Prop
 | .mp es,cs,S=>∃r ms mG,cs=[.map (some r)]/\S r/\w.heap[r]? =some (.map ms mG)/\ms.toList.map (λe=>(e.key,e.val))=es.map (λe=>(.string ⟨⟨e.1⟩⟩,.bool e.2))
 | .w9,cs,_=>cs=[.map none]
 | .iM T e k1,cs,S=>∃b a sU,cs=[.pointer (some ⟨b,0,none⟩)]/\S b/\w.heap[b]? =some (.cells #[a,sU] T (0,0))/\(a= .pointer none\/a= .pointer (some ⟨b,0,none⟩))/\
   ((k1=[]/\sU= .slice none 0 0)\/
     ∃g cap cur,sU= .slice (some ⟨g,0,none⟩) k1.length cap/\S g/\g≠b/\w.heap[g]? =some (.cells cur e (0,0))/\k1.length<=cap/\cap<=maxLen/\cur.size=cap/\
      cur.toList.take k1.length=k1.map λx=>.int .u8 x.toNat)
theorem lP.frame {w aF:World}:∀{o:w8} {cs:alU} {S:Nat->Prop},(∀b,S b->aF.heap[b]? =w.heap[b]?)->lP w o cs S->lP aF o cs S
 | .mp _,_,_,bK,⟨r,ms,mG,ab,ae,az,a6⟩=>⟨r,ms,mG,ab,ae,(bK _ ae).trans az,a6⟩
 | .w9,_,_,_,h=>h
 | .iM _ _ _,_,_,bK,⟨b,a,sU,ab,ae,az,a6,bF⟩=>⟨b,a,sU,ab,ae,(bK _ ae).trans az,a6,bF.imp (λh=>h) λ⟨g,cap,cur,nQ,i2,i3,i4,i5⟩=>⟨g,cap,cur,nQ,i2,i3,(bK _ i2).trans i4,i5⟩⟩
theorem lP.mono {w:World}:∀{o:w8} {cs:alU} {S aN:Nat->Prop},(∀b,S b->aN b)->lP w o cs S->lP w o cs aN
 | .mp _,_,_,_,bK,⟨r,ms,mG,ab,ae,az⟩=>⟨r,ms,mG,ab,bK _ ae,az⟩
 | .w9,_,_,_,_,h=>h
 | .iM _ _ _,_,_,_,bK,⟨b,a,sU,ab,ae,az,a6,bF⟩=>⟨b,a,sU,ab,bK _ ae,az,a6,bF.imp (λh=>h) λ⟨g,cap,cur,nQ,i2,i3⟩=>⟨g,cap,cur,nQ,bK _ i2,i3⟩⟩
theorem lP.one {w:World}:∀{o:w8} {cs:alU} {S:Nat->Prop},lP w o cs S->∃v,Value.fK v=true/\cs=[v]
 | .mp _,_,_,⟨_,_,_,h,_⟩=>⟨_,rfl,h⟩
 | .w9,_,_,h=>⟨_,rfl,h⟩
 | .iM _ _ _,_,_,⟨_,_,_,h,_⟩=>⟨_,rfl,h⟩
mutual
def ar (w:World) (F:Nat->Prop):I->alU->(Nat->Prop)->Prop
 | .hole,cs,_=>∃v,Value.fK v=true/\cs=[v]
 | .bool b,cs,_=>cs=[.bool b]
 | .fm,cs,_=>∃b,cs=[.bool b]
 | .int k n,cs,_=>cs=[.int k n]
 | .str s,cs,_=>cs=[.string ⟨⟨s⟩⟩]
 | .dC,cs,_=>cs=[.pointer none]
 | .bd,cs,_=>cs=[.slice none 0 0]
 | .slice xs,cs,_=>(xs=[]/\∃a c,cs=[.slice a 0 c]/\c<=maxLen/\(a=none->c=0))\/
   ∃b o cap eA sz,cs=[.slice (some ⟨b,o,none⟩) xs.length cap]/\F b/\xs.length<=cap/\cap<=maxLen/\(∀d∈xs,d.wd=sz)/\
    Rd w b o eA/\a1 w F xs eA (λ_=>False)
 | .ag sz xs,cs,S=>(xs=[]/\∃a,cs=[.slice a 0 0])\/
   ∃b cap cur e fr aN,cs=[.slice (some ⟨b,0,none⟩) xs.length cap]/\S b/\w.heap[b]? =some (.cells cur e fr)/\k2 fr (cur.size+(sz-1))/\
    xs.length<=cap/\cap<=maxLen/\cur.size=cap*sz/\(∀d∈xs,d.wd=sz)/\a1 w F xs (cur.toList.take (xs.length*sz)) aN/\(∀c,aN c->S c)/\¬aN b
 | .ref d,cs,_=>∃b o eA,cs=[.pointer (some ⟨b,o,none⟩)]/\F b/\Rd w b o eA/\ar w F d eA (λ_=>False)
 | .bf d,cs,S=>∃b cur e fr aN,cs=[.pointer (some ⟨b,0,none⟩)]/\S b/\w.heap[b]? =some (.cells cur e fr)/\k2 fr cur.size/\
   ar w F d cur.toList aN/\(∀c,aN c->S c)/\¬aN b
 | .agg aE,cs,S=>a1 w F aE cs S
 | .tuple aE,cs,S=>a1 w F aE cs S
 | .fn f caps,cs,_=>∃arr:Array Value,cs=[.func (.func f) #[] arr]/\(∀d∈caps,d.single=true)/\a1 w F caps arr.toList (λ_=>False)
 | .h _ _,_,_=>False
 | .aq _ _,_,_=>False
 | .R _ _,_,_=>False
 | .dS o,cs,S=>lP w o cs S
 | .fJ f caps,cs,S=>∃arr:Array Value,cs=[.func (.func f) #[] arr]/\(∀d∈caps,d.one=true)/\a1 w F caps arr.toList S
def a1 (w:World) (F:Nat->Prop):alW->alU->(Nat->Prop)->Prop
 |[],cs,_=>cs=[]
 |d::ds,cs,S=>∃c1 c2 b5 dg,cs=c1++c2/\ar w F d c1 b5/\a1 w F ds c2 dg/\(∀b,b5 b->S b)/\(∀b,dg b->S b)/\(∀b,b5 b->¬dg b)
end
theorem cell?_of_block {w aF:World} {b:Nat} (h:aF.heap[b]? =w.heap[b]?) (o:Nat):aF.cell? ⟨b,o,none⟩=w.cell? ⟨b,o,none⟩:=by
 simp[World.cell?,h]
theorem Rd.frame {w aF:World} {b o:Nat} {cs:alU} (h:aF.heap[b]? =w.heap[b]?) (aM:Rd w b o cs):Rd aF b o cs:=
 λj c an=>(cell?_of_block h _).trans (aM j c an)
mutual
theorem ar.frame {w aF:World} {F:Nat->Prop} (bh:∀b,F b->aF.heap[b]? =w.heap[b]?):
  ∀(d:I) (cs:alU) (S:Nat->Prop),(∀b,S b->aF.heap[b]? =w.heap[b]?)->ar w F d cs S->ar aF F d cs S
 | .hole,_,_,_,h=>h
 | .bool _,_,_,_,h=>h
 | .fm,_,_,_,h=>h
 | .int _ _,_,_,_,h=>h
 | .str _,_,_,_,h=>h
 | .dC,_,_,_,h=>h
 | .bd,_,_,_,h=>h
 | .slice xs,cs,S,bK,h=>by
   rw[ar]at h⊢;rcases h with h|⟨b,o,cap,eA,sz,ab,ae,az,a6,bF,cP,cB⟩
   .exact .inl h
   .exact .inr ⟨b,o,cap,eA,sz,ab,ae,az,a6,bF,cP.frame (bh _ ae),a1.frame bh xs _ _ (λ_ h=>h.elim) cB⟩
 | .ag sz xs,cs,S,bK,h=>by
   rw[ar]at h⊢;rcases h with h|⟨b,cap,cur,e,fr,aN,ab,ae,az,a6,bF,cP,cB,fS,iE,iT,k3⟩
   .exact .inl h
   .exact .inr ⟨b,cap,cur,e,fr,aN,ab,ae,(bK _ ae).trans az,a6,bF,cP,cB,fS,a1.frame bh xs _ _ (λc an=>bK _ (iT _ an)) iE,iT,k3⟩
 | .ref d,cs,S,bK,h=>by
   rw[ar]at h⊢;obtain⟨b,o,eA,ab,ae,az,a6⟩:=h;exact⟨b,o,eA,ab,ae,az.frame (bh _ ae),ar.frame bh d _ _ (λ_ h=>h.elim) a6⟩
 | .bf d,cs,S,bK,h=>by
   rw[ar]at h⊢;obtain⟨b,cur,e,fr,aN,ab,ae,az,a6,bF,cP,cB⟩:=h;exact⟨b,cur,e,fr,aN,ab,ae,(bK _ ae).trans az,a6,ar.frame bh d _ _ (λc an=>bK _ (cP _ an)) bF,cP,cB⟩
 | .agg aE,cs,S,bK,h=>by rw[ar]at h⊢;exact a1.frame bh aE _ _ bK h
 | .tuple aE,cs,S,bK,h=>by rw[ar]at h⊢;exact a1.frame bh aE _ _ bK h
 | .fn _ caps,cs,S,bK,h=>by
   rw[ar]at h⊢;obtain⟨arr,ab,ae,az⟩:=h;exact⟨arr,ab,ae,a1.frame bh caps _ _ (λ_ h=>h.elim) az⟩
 | .h _ _,_,_,_,h=>h
 | .aq _ _,_,_,_,h=>h
 | .R _ _,_,_,_,h=>h
 | .dS _,_,_,bK,h=>lP.frame bK h
 | .fJ _ caps,cs,S,bK,h=>by
   rw[ar]at h⊢;obtain⟨arr,ab,ae,az⟩:=h;exact⟨arr,ab,ae,a1.frame bh caps _ _ bK az⟩
theorem a1.frame {w aF:World} {F:Nat->Prop} (bh:∀b,F b->aF.heap[b]? =w.heap[b]?):
  ∀(ds:alW) (cs:alU) (S:Nat->Prop),(∀b,S b->aF.heap[b]? =w.heap[b]?)->a1 w F ds cs S->a1 aF F ds cs S
 |[],_,_,_,h=>h
 |d::ds,cs,S,bK,h=>by
  rw[a1]at h⊢;obtain⟨c1,c2,b5,dg,ab,ae,az,a6,bF,cP⟩:=h;exact⟨c1,c2,b5,dg,ab,ar.frame bh d _ _ (λb R=>bK _ (a6 _ R)) ae,a1.frame bh ds _ _ (λb R=>bK _ (bF _ R)) az,a6,bF,cP⟩
end
mutual
theorem ar.mono {w:World} {F bO:Nat->Prop} (bh:∀b,F b->bO b):
  ∀(d:I) (cs:alU) (S aN:Nat->Prop),(∀b,S b->aN b)->ar w F d cs S->ar w bO d cs aN
 | .hole,_,_,_,_,h=>h
 | .bool _,_,_,_,_,h=>h
 | .fm,_,_,_,_,h=>h
 | .int _ _,_,_,_,_,h=>h
 | .str _,_,_,_,_,h=>h
 | .dC,_,_,_,_,h=>h
 | .bd,_,_,_,_,h=>h
 | .slice xs,cs,S,_,bK,h=>by
   rw[ar]at h⊢;rcases h with h|⟨b,o,cap,eA,sz,ab,ae,az,a6,bF,cP,cB⟩
   .exact .inl h
   .exact .inr ⟨b,o,cap,eA,sz,ab,bh _ ae,az,a6,bF,cP,a1.mono bh xs _ _ _ (λ_ h=>h) cB⟩
 | .ag sz xs,cs,S,_,bK,h=>by
   rw[ar]at h⊢;rcases h with h|⟨b,cap,cur,e,fr,aN,ab,ae,az,a6,bF,cP,cB,fS,iE,iT,k3⟩
   .exact .inl h
   .exact .inr ⟨b,cap,cur,e,fr,aN,ab,bK _ ae,az,a6,bF,cP,cB,fS,a1.mono bh xs _ _ _ (λ_ h=>h) iE,λc an=>bK _ (iT _ an),k3⟩
 | .ref d,cs,S,_,bK,h=>by
   rw[ar]at h⊢;obtain⟨b,o,eA,ab,ae,az,a6⟩:=h;exact⟨b,o,eA,ab,bh _ ae,az,ar.mono bh d _ _ _ (λ_ h=>h) a6⟩
 | .bf d,cs,S,_,bK,h=>by
   rw[ar]at h⊢;obtain⟨b,cur,e,fr,aN,ab,ae,az,a6,bF,cP,cB⟩:=h;exact⟨b,cur,e,fr,aN,ab,bK _ ae,az,a6,ar.mono bh d _ _ _ (λ_ h=>h) bF,λc an=>bK _ (cP _ an),cB⟩
 | .agg aE,cs,S,_,bK,h=>by rw[ar]at h⊢;exact a1.mono bh aE _ _ _ bK h
 | .tuple aE,cs,S,_,bK,h=>by rw[ar]at h⊢;exact a1.mono bh aE _ _ _ bK h
 | .fn _ caps,cs,S,_,bK,h=>by
   rw[ar]at h⊢;obtain⟨arr,ab,ae,az⟩:=h;exact⟨arr,ab,ae,a1.mono bh caps _ _ _ (λ_ h=>h) az⟩
 | .h _ _,_,_,_,_,h=>h
 | .aq _ _,_,_,_,_,h=>h
 | .R _ _,_,_,_,_,h=>h
 | .dS _,_,_,_,bK,h=>lP.mono bK h
 | .fJ _ caps,cs,S,_,bK,h=>by
   rw[ar]at h⊢;obtain⟨arr,ab,ae,az⟩:=h;exact⟨arr,ab,ae,a1.mono bh caps _ _ _ bK az⟩
theorem a1.mono {w:World} {F bO:Nat->Prop} (bh:∀b,F b->bO b):
  ∀(ds:alW) (cs:alU) (S aN:Nat->Prop),(∀b,S b->aN b)->a1 w F ds cs S->a1 w bO ds cs aN
 |[],_,_,_,_,h=>h
 |d::ds,cs,S,_,bK,h=>by
  rw[a1]at h⊢;obtain⟨c1,c2,b5,dg,ab,ae,az,a6,bF,cP⟩:=h;exact⟨c1,c2,b5,dg,ab,ar.mono bh d _ _ _ (λ_ h=>h) ae,a1.mono bh ds _ _ _ (λ_ h=>h) az,λb R=>bK _ (a6 _ R),λb R=>bK _ (bF _ R),cP⟩
end
mutual
theorem ar.length {w:World} {F:Nat->Prop}:∀(d:I) (cs:alU) (S:Nat->Prop),ar w F d cs S->cs.length=d.wd
 | .hole,cs,S,h=>by rw[ar]at h;obtain⟨v,_,rfl⟩:=h;rfl
 | .bool _,cs,S,h=>by rw[ar]at h;subst h;rfl
 | .fm,cs,S,h=>by rw[ar]at h;obtain⟨b,rfl⟩:=h;rfl
 | .int _ _,cs,S,h=>by rw[ar]at h;subst h;rfl
 | .str _,cs,S,h=>by rw[ar]at h;subst h;rfl
 | .dC,cs,S,h=>by rw[ar]at h;subst h;rfl
 | .bd,cs,S,h=>by rw[ar]at h;subst h;rfl
 | .slice xs,cs,S,h=>by
   rw[ar]at h;rcases h with⟨_,a,c,rfl,_⟩|⟨b,o,cap,eA,sz,rfl,_⟩<;>rfl
 | .ag sz xs,cs,S,h=>by
   rw[ar]at h;rcases h with⟨_,a,rfl⟩|⟨b,cap,cur,e,fr,aN,rfl,_⟩<;>rfl
 | .ref d,cs,S,h=>by rw[ar]at h;obtain⟨b,o,eA,rfl,_⟩:=h;rfl
 | .bf d,cs,S,h=>by rw[ar]at h;obtain⟨b,o,eA,_,_,rfl,_⟩:=h;rfl
 | .agg aE,cs,S,h=>by rw[ar]at h;exact a1.length aE _ _ h
 | .tuple aE,cs,S,h=>by rw[ar]at h;exact a1.length aE _ _ h
 | .fn _ _,cs,S,h=>by rw[ar]at h;obtain⟨arr,rfl,_⟩:=h;rfl
 | .h _ _,cs,S,h=>by rw[ar]at h;exact h.elim
 | .aq _ _,cs,S,h=>by rw[ar]at h;exact h.elim
 | .R _ _,cs,S,h=>by rw[ar]at h;exact h.elim
 | .dS _,cs,S,h=>by rw[ar]at h;obtain⟨v,_,rfl⟩:=lP.one h;rfl
 | .fJ _ _,cs,S,h=>by rw[ar]at h;obtain⟨arr,rfl,_⟩:=h;rfl
theorem a1.length {w:World} {F:Nat->Prop}:∀(ds:alW) (cs:alU) (S:Nat->Prop),a1 w F ds cs S->cs.length=I.ef ds
 |[],cs,S,h=>by rw[a1]at h;subst h;rfl
 |d::ds,cs,S,h=>by
  rw[a1]at h;obtain⟨c1,c2,b5,dg,rfl,ae,az,_⟩:=h;rw[length_append,ar.length d _ _ ae,a1.length ds _ _ az,I.ef]
end
mutual
def I.share:I->I
 | .ag _ xs=>.slice (I.shares xs)
 | .bf d=>.ref d.share
 | .slice xs=>.slice (I.shares xs)
 | .ref d=>.ref d.share
 | .agg aE=>.agg (I.shares aE)
 | .tuple aE=>.tuple (I.shares aE)
 | .dS _=>.hole
 | .fJ _ _=>.hole
 |d=>d
def I.shares:alW->alW
 |[]=>[]
 |d::ds=>d.share::I.shares ds
end
theorem I.sV (ds:alW):I.shares ds=ds.map I.share:=by
 induction ds with
 |nil=>rfl
 |cons d ds ih=>simp[I.shares,ih]
mutual
theorem I.AM:∀d:I,d.share.wd=d.wd
 | .hole=>rfl
 | .bool _=>rfl
 | .fm=>rfl
 | .int _ _=>rfl
 | .str _=>rfl
 | .dC=>rfl
 | .bd=>rfl
 | .slice _=>rfl
 | .ag _ _=>rfl
 | .ref _=>rfl
 | .bf _=>rfl
 | .agg aE=>by simp only[I.share,I.wd];exact I.Ea aE
 | .tuple aE=>by simp only[I.share,I.wd];exact I.Ea aE
 | .fn _ _=>rfl
 | .h _ _=>rfl
 | .aq _ _=>rfl
 | .R _ _=>rfl
 | .dS _=>rfl
 | .fJ _ _=>rfl
theorem I.Ea:∀ds:alW,I.ef (I.shares ds)=I.ef ds
 |[]=>rfl
 |d::ds=>by simp only[I.shares,I.ef];rw[I.AM d,I.Ea ds]
end
theorem uF {w:World} {b:Nat} {cur:Array Value} {e:TypeId} {fr:Nat×Nat} (h:w.heap[b]? =some (.cells cur e fr)) (n:Nat):Rd w b 0 (cur.toList.take n):=by
 intro j c an;rw[getElem?_take]at an;split at an
 .simp[World.cell?,h];simpa using an
 .cases an
mutual
theorem ar.shared {w:World} {F bO:Nat->Prop} (bh:∀b,F b->bO b):
  ∀(d:I) (cs:alU) (S:Nat->Prop),(∀b,S b->bO b)->ar w F d cs S->ar w bO d.share cs (λ_=>False)
 | .hole,_,_,_,h=>h
 | .bool _,_,_,_,h=>h
 | .fm,_,_,_,h=>h
 | .int _ _,_,_,_,h=>h
 | .str _,_,_,_,h=>h
 | .dC,_,_,_,h=>h
 | .bd,_,_,_,h=>h
 | .slice xs,cs,S,bK,h=>by
   rw[I.share,ar];rw[ar]at h;rcases h with⟨rfl,a,c,rfl,an⟩|⟨b,o,cap,eA,sz,ab,ae,az,a6,bF,cP,cB⟩
   .exact .inl ⟨rfl,a,c,rfl,an⟩
   .refine .inr ⟨b,o,cap,eA,sz,?_,bh _ ae,?_,a6,?_,cP,a1.shared bh xs _ _ (λ_ h=>h.elim) cB⟩
    .simpa [I.sV]using ab
    .simpa [I.sV]using az
    .intro d ai;rw[I.sV]at ai;obtain⟨bg,hb,rfl⟩:=mem_map.1 ai;rw[I.AM];exact bF _ hb
 | .ag sz xs,cs,S,bK,h=>by
   rw[I.share,ar];rw[ar]at h;rcases h with⟨rfl,a,rfl⟩|⟨b,cap,cur,e,fr,aN,ab,ae,az,a6,bF,cP,cB,fS,iE,iT,k3⟩
   .exact .inl ⟨rfl,a,0,rfl,zero_le _,λ_=>rfl⟩
   .refine .inr ⟨b,0,cap,_,sz,?_,bK _ ae,?_,cP,?_,uF az _,a1.shared bh xs _ _ (λc an=>bK _ (iT _ an)) iE⟩
    .simpa [I.sV]using ab
    .simpa [I.sV]using bF
    .intro d ai;rw[I.sV]at ai;obtain⟨bg,hb,rfl⟩:=mem_map.1 ai;rw[I.AM];exact fS _ hb
 | .ref d,cs,S,bK,h=>by
   rw[I.share,ar];rw[ar]at h;obtain⟨b,o,eA,ab,ae,az,a6⟩:=h;exact⟨b,o,eA,ab,bh _ ae,az,ar.shared bh d _ _ (λ_ h=>h.elim) a6⟩
 | .bf d,cs,S,bK,h=>by
   rw[I.share,ar];rw[ar]at h;obtain⟨b,cur,e,fr,aN,ab,ae,az,a6,bF,cP,cB⟩:=h;refine⟨b,0,cur.toList,ab,bK _ ae,?_,ar.shared bh d _ _ (λc an=>bK _ (cP _ an)) bF⟩;have:=uF az cur.toList.length
   rwa [take_length]at this
 | .agg aE,cs,S,bK,h=>by rw[I.share,ar];rw[ar]at h;exact a1.shared bh aE _ _ bK h
 | .tuple aE,cs,S,bK,h=>by rw[I.share,ar];rw[ar]at h;exact a1.shared bh aE _ _ bK h
 | .fn f caps,cs,S,bK,h=>by
   show ar w bO (.fn f caps) cs _;rw[ar]at h⊢;obtain⟨arr,ab,ae,az⟩:=h;exact⟨arr,ab,ae,a1.mono bh caps _ _ _ (λ_ h=>h) az⟩
 | .h _ _,_,_,_,h=>h
 | .aq _ _,_,_,_,h=>h
 | .R _ _,_,_,_,h=>h
 | .dS _,cs,S,bK,h=>by rw[ar]at h;rw[I.share,ar];exact lP.one h
 | .fJ _ _,cs,S,bK,h=>by rw[ar]at h;obtain⟨arr,rfl,_⟩:=h;rw[I.share,ar];exact⟨_,rfl,rfl⟩
theorem a1.shared {w:World} {F bO:Nat->Prop} (bh:∀b,F b->bO b):
  ∀(ds:alW) (cs:alU) (S:Nat->Prop),(∀b,S b->bO b)->a1 w F ds cs S->a1 w bO (I.shares ds) cs (λ_=>False)
 |[],_,_,_,h=>h
 |d::ds,cs,S,bK,h=>by
  simp only[I.shares];rw[a1]at h⊢;obtain⟨c1,c2,b5,dg,ab,ae,az,a6,bF,cP⟩:=h;exact⟨c1,c2,_,_,ab,ar.shared bh d _ _ (λb R=>bK _ (a6 _ R)) ae,a1.shared bh ds _ _ (λb R=>bK _ (bF _ R)) az,λ_ h=>h,λ_ h=>h,λ_ h=>h.elim⟩
end
def I.sub:alR->I->Option I
 |[],d=>some d
 |k::q,.agg aE=>match aE[k]? with
  |some d=>I.sub q d
  |none=>none
 |k::q,.tuple aE=>match aE[k]? with
  |some d=>I.sub q d
  |none=>none
 |i::q,.ag _ xs=>match xs[i]? with
  |some d=>I.sub q d
  |none=>none
 |0::q,.bf d=>I.sub q d
 |_::_,_=>none
def I.put:alR->I->I->I
 |[],n,_=>n
 |k::q,n,.agg aE=>match aE[k]? with
  |some d=>.agg (aE.set k (I.put q n d))
  |none=>.agg aE
 |k::q,n,.tuple aE=>match aE[k]? with
  |some d=>.tuple (aE.set k (I.put q n d))
  |none=>.tuple aE
 |i::q,n,.ag sz xs=>match xs[i]? with
  |some d=>.ag sz (xs.set i (I.put q n d))
  |none=>.ag sz xs
 |0::q,n,.bf d=>.bf (I.put q n d)
 |_::_,_,d=>d
def nh (w:World) (b o n:Nat):alU:=(range n).map λj=>(w.cell? ⟨b,o+j,none⟩).getD undef
theorem Rd.nh {w:World} {b o:Nat} {cs:alU} (h:Rd w b o cs):nh w b o cs.length=cs:=by
 unfold de.nh;apply ext_getElem?;intro i;rw[getElem?_map];by_cases ao:i<cs.length
 .have:cs[i]? =some cs[i]:=getElem?_eq_getElem ao;simp[ao,h i _ this]
 .simp[ao]
def du (w:World):alR->I->alU->Option (Nat×Nat)->Option (I×alU×Option (Nat×Nat))
 |[],d,cs,a=>some (d,cs,a)
 |k::q,.agg aE,cs,a=>match aE[k]? with
  |some d=>du w q d ((cs.drop (I.ef (aE.take k))).take d.wd) (a.map λl=>(l.1,l.2+I.ef (aE.take k)))
  |none=>none
 |k::q,.tuple aE,cs,a=>match aE[k]? with
  |some d=>du w q d ((cs.drop (I.ef (aE.take k))).take d.wd) (a.map λl=>(l.1,l.2+I.ef (aE.take k)))
  |none=>none
 |i::q,.ag sz xs,cs,_=>match xs[i]?,cs with
  |some d,[.slice (some ⟨b,_,_⟩) _ _]=>du w q d (nh w b (i*sz) sz) (some (b,i*sz))
  |_,_=>none
 |0::q,.bf d,cs,_=>match cs with
  |[.pointer (some ⟨b,_,_⟩)]=>du w q d (nh w b 0 d.wd) (some (b,0))
  |_=>none
 |_::_,_,_,_=>none
theorem sW (c1 fG c2:alU) (n m:Nat) (ab:c1.length=n) (ae:fG.length=m):((c1++(fG++c2)).drop n).take m=fG:=by
 rw[drop_left' ab,take_left' ae]
theorem a1.pick {w:World} {F:Nat->Prop}:∀(ds:alW) (cs:alU) (S:Nat->Prop) (k:Nat) (d:I),
  a1 w F ds cs S->ds[k]? =some d->∃(c1 fG c2:alU) (b5 hZ:Nat->Prop),cs=c1++(fG++c2)/\c1.length=I.ef (ds.take k)/\
   (∀b,b5 b->S b)/\(∀b,hZ b->S b)/\(∀b,b5 b->¬hZ b)/\ar w F d fG hZ/\
   ∀(aF:World) (bg:I) (sX:alU) (aN:Nat->Prop),(∀b,F b->aF.heap[b]? =w.heap[b]?)->(∀b,b5 b->aF.heap[b]? =w.heap[b]?)->
    ar aF F bg sX aN->(∀b,aN b->¬b5 b)->a1 aF F (ds.set k bg) (c1++(sX++c2)) (λb=>b5 b\/aN b)
 |[],_,_,_,_,_,ax=>by simp at ax
 |x::ds,cs,S,0,d,h,ax=>by
  rw[a1]at h;obtain⟨c1,c2,hE,gL,rfl,ab,ae,cg,R,ma⟩:=h;simp at ax;subst ax;refine⟨[],c1,c2,gL,hE,rfl,rfl,R,cg,λb R cg=>ma _ cg R,ab,?_⟩;intro aF bg sX aN bh bK ai jc;simp only[set_cons_zero,nil_append];rw[a1];exact⟨sX,c2,aN,gL,rfl,ai,a1.frame bh _ _ _ bK ae,λb h=>.inr h,λb h=>.inl h,λb h=>jc b h⟩
 |x::ds,cs,S,k+1,d,h,ax=>by
  rw[a1]at h;obtain⟨ni,RH,hE,gL,rfl,ab,ae,cg,R,ma⟩:=h;simp only[getElem?_cons_succ]at ax;have hl:=ar.length _ _ _ ab;obtain⟨c1,fG,c2,b5,hZ,rfl,i0,nQ,i2,i3,i5,Eb⟩:=a1.pick ds RH gL k d ae ax;refine⟨ni++c1,fG,c2,λb=>hE b\/b5 b,hZ,by simp,by simp[I.ef,hl,i0],?_,λb h=>R _ (i2 _ h),?_,i5,?_⟩
  .rintro b (h|h)
   .exact cg _ h
   .exact R _ (nQ _ h)
  .rintro b (h|h) ax
   .exact ma _ h (i2 _ ax)
   .exact i3 _ h ax
  .intro aF bg sX aN bh bK ai jc;simp only[set_cons_succ];rw[a1];refine⟨ni,c1++(sX++c2),hE,λb=>b5 b\/aN b,by simp,ar.frame bh _ _ _ (λb R=>bK b (.inl R)) ab,
    Eb aF bg sX aN bh (λb R=>bK b (.inr R)) ai (λb R an=>jc b R (.inr an)),λb h=>.inl (.inl h),?_,?_⟩
   .rintro b (h|h)
    .exact .inl (.inr h)
    .exact .inr h
   .rintro b h (bC|bC)
    .exact ma _ h (nQ _ bC)
    .exact jc _ bC (.inl h)
theorem Ec:∀(aE:alW) (k:Nat) (x y:I),aE[k]? =some x->y.wd=x.wd->I.ef (aE.set k y)=I.ef aE:=by
 intro aE;induction aE with
 |nil=>intro k x y h;simp at h
 |cons a aE ih=>
  intro k x y h e;cases k with
  |zero=>simp at h;subst h;simp[I.ef,e]
  |succ k=>simp at h;simp[I.ef,ih k x y h e]
theorem sY {sz:Nat}:∀(xs:alW),(∀d∈xs,d.wd=sz)->I.ef xs=xs.length*sz
 |[],_=>by simp[I.ef]
 |x::xs,h=>by
  rw[I.ef,h x (by simp),sY xs (λd ai=>h d (by simp[ai])),length_cons,Nat.add_mul,Nat.one_mul,Nat.add_comm]
theorem I.uG:∀(q:alR) (av d bg:I),I.sub q av=some d->bg.wd=d.wd->(I.put q bg av).wd=av.wd:=by
 intro q;induction q with
 |nil=>intro av d bg h e;simp[I.sub]at h;subst h;simpa [I.put]using e
 |cons k q ih=>
  intro av d bg h e;cases av with
  |agg aE=>
   simp only[I.sub]at h;split at h
   .rename_i x au;simp only[I.put,au,I.wd];exact Ec _ _ _ _ au (ih _ _ _ h e)
   .cases h
  |tuple aE=>
   simp only[I.sub]at h;split at h
   .rename_i x au;simp only[I.put,au,I.wd];exact Ec _ _ _ _ au (ih _ _ _ h e)
   .cases h
  |ag sz xs=>
   simp only[I.sub]at h;split at h
   .rename_i x au;simp only[I.put,au,I.wd]
   .cases h
  |bf x=>
   cases k with
   |zero=>simp only[I.put,I.wd]
   |succ k=>simp[I.sub]at h
  |_=>simp[I.sub]at h
theorem Ed {sz:Nat} {xs:alW} {i:Nat} {y:I} (h:∀d∈xs,d.wd=sz) (bb:y.wd=sz):∀d∈xs.set i y,d.wd=sz:=by
 intro d ai;rcases mem_or_eq_of_mem_set ai with ai|rfl
 .exact h d ai
 .exact bb
theorem uH {w:World} {b:Nat} {cur:Array Value} {e:TypeId} {fr:Nat×Nat} (h:w.heap[b]? =some (.cells cur e fr)) {l m r:alU} (an:cur.toList=l++(m++r)):
  nh w b l.length m.length=m:=by
 refine Rd.nh (λj c bm=>?_);have dv:j<m.length:=(List.getElem?_eq_some_iff.1 bm).1;have:cur.toList[l.length+j]? =some c:=by
  rw[an,getElem?_append_right (by omega),getElem?_append_left (by omega)];rw[<-bm];congr 1;omega
 simp[World.cell?,h];simpa using this
def Flat (w:World) (F:Nat->Prop) (q:alR) (av:I) (cs:alU) (a:Option (Nat×Nat)) (d:I) (cQ:alU) (cL:Option (Nat×Nat)) (eh:Nat->Prop):Prop:=
 ∃l r:alU,cs=l++(cQ++r)/\cL=a.map (λx=>(x.1,x.2+l.length))/\
  ∀(aF:World) (bg:I) (fT:alU) (aN:Nat->Prop),(∀b,F b->aF.heap[b]? =w.heap[b]?)->(∀b,eh b->aF.heap[b]? =w.heap[b]?)->
   bg.wd=d.wd->ar aF F bg fT aN->(∀b,aN b->¬eh b)->ar aF F (I.put q bg av) (l++(fT++r)) (λb=>eh b\/aN b)
def Deep (w:World) (F:Nat->Prop) (q:alR) (av:I) (cs:alU) (d:I) (cQ:alU) (cL:Option (Nat×Nat)) (eh:Nat->Prop):Prop:=
 ∃(b:Nat) (cur:Array Value) (e:TypeId) (fr:Nat×Nat) (l r:alU),cL=some (b,l.length)/\eh b/\w.heap[b]? =some (.cells cur e fr)/\k2 fr cur.size/\cur.toList=l++(cQ++r)/\
  ∀(aF:World) (bg:I) (fT:alU) (aN:Nat->Prop),(∀b,F b->aF.heap[b]? =w.heap[b]?)->(∀c,eh c->c≠b->aF.heap[c]? =w.heap[c]?)->
   aF.heap[b]? =some (.cells (l++(fT++r)).toArray e fr)->
   bg.wd=d.wd->ar aF F bg fT aN->(∀b,aN b->¬eh b)->ar aF F (I.put q bg av) cs (λb=>eh b\/aN b)
theorem ctx {w:World} {F:Nat->Prop}:∀(q:alR) (av:I) (cs:alU) (S:Nat->Prop) (a:Option (Nat×Nat)) (d:I),
  ar w F av cs S->I.sub q av=some d->∃(cQ:alU) (cL:Option (Nat×Nat)) (eh fo:Nat->Prop),du w q av cs a=some (d,cQ,cL)/\
   (∀b,eh b->S b)/\(∀b,fo b->S b)/\(∀b,eh b->¬fo b)/\ar w F d cQ fo/\(Flat w F q av cs a d cQ cL eh\/Deep w F q av cs d cQ cL eh):=by
 intro q;induction q with
 |nil=>
  intro av cs S a d h ai;simp[I.sub]at ai;subst ai;refine⟨cs,a,λ_=>False,S,rfl,λ_ h=>h.elim,λ_ h=>h,λ_ h=>h.elim,h,.inl ⟨[],[],by simp,?_,?_⟩⟩
  .cases a<;>simp
  .intro aF bg fT aN _ _ hw hb _;simp only[I.put,nil_append,append_nil];exact ar.mono (λ_ h=>h) _ _ _ _ (λb h=>.inr h) hb
 |cons k q ih=>
  have fields:∀(mk:alW->I) (Ee:∀(w:World) (F:Nat->Prop) (aE:alW) (cs:alU) (S:Nat->Prop),ar w F (mk aE) cs S=a1 w F aE cs S) (aE:alW) (cs:alU) (S:Nat->Prop) (a:Option (Nat×Nat)) (x d:I),
    (jH:∀bg,I.put (k::q) bg (mk aE)=mk (aE.set k (I.put q bg x)))->a1 w F aE cs S->aE[k]? =some x->I.sub q x=some d->
    ∃(cQ:alU) (cL:Option (Nat×Nat)) (eh fo:Nat->Prop),du w q x ((cs.drop (I.ef (aE.take k))).take x.wd) (a.map λl=>(l.1,l.2+I.ef (aE.take k)))=some (d,cQ,cL)/\
    (∀b,eh b->S b)/\(∀b,fo b->S b)/\(∀b,eh b->¬fo b)/\ar w F d cQ fo/\(Flat w F (k::q) (mk aE) cs a d cQ cL eh\/Deep w F (k::q) (mk aE) cs d cQ cL eh):=by
   intro mk Ee aE cs S a x d jH h au ai;obtain⟨c1,fG,c2,b5,hZ,rfl,hF,fL,hn,h6,fZ,mb⟩:=a1.pick aE cs S k x h au;have hl:=ar.length _ _ _ fZ;rw[sW c1 fG c2 _ _ hF hl];obtain⟨cQ,cL,eh,fo,g0,g1,g2,g3,g4,g5⟩:=ih x _ hZ (a.map λl=>(l.1,l.2+I.ef (aE.take k))) d fZ ai;refine⟨cQ,cL,λb=>b5 b\/eh b,fo,g0,?_,λb R=>hn _ (g2 _ R),?_,g4,?_⟩
   .rintro b (h|h)
    .exact fL _ h
    .exact hn _ (g1 _ h)
   .rintro b (h|h) ai
    .exact h6 _ h (g2 _ ai)
    .exact g3 _ h ai
   .have fj:∀(b:Nat) (aN:Nat->Prop),(b5 b\/eh b\/aN b)->((b5 b\/eh b)\/aN b):=by
     rintro b aN (R|R|R)
     .exact .inl (.inl R)
     .exact .inl (.inr R)
     .exact .inr R
    rcases g5 with⟨l,r,rfl,aV,aW⟩|⟨b,cur,e,fr,l,r,aR,aV,aW,cm,cC,b7⟩
    .refine .inl ⟨c1++l,r++c2,by simp,?_,?_⟩
     .rw[aV,<-hF];cases a<;>simp[Nat.add_assoc]
     .intro aF bg fT aN bh bK hw hb jc;have di:=aW aF bg fT aN bh (λb R=>bK b (.inr R)) hw hb (λb R an=>jc b R (.inr an));have aZ:=mb aF _ _ _ bh (λb R=>bK b (.inl R)) di (by
       rintro b (R|R) ab
       .exact h6 _ ab (g1 _ R)
       .exact jc _ R (.inl ab))
      rw[jH,Ee];have:=a1.mono (λ_ h=>h) _ _ _ _ (λb=>fj b aN) aZ;simpa using this
    .refine .inr ⟨b,cur,e,fr,l,r,aR,.inr aV,aW,cm,cC,?_⟩;intro aF bg fT aN bh bK ll hw hb jc;have di:=b7 aF bg fT aN bh (λc an=>bK c (.inr an)) ll hw hb (λb R an=>jc b R (.inr an));have aZ:=mb aF _ _ _ bh (λc an=>bK c (.inl an) (by rintro rfl;exact h6 _ an (g1 _ aV))) di (by
       rintro b (R|R) ab
       .exact h6 _ ab (g1 _ R)
       .exact jc _ R (.inl ab))
     rw[jH,Ee];exact a1.mono (λ_ h=>h) _ _ _ _ (λb=>fj b aN) aZ
  intro av cs S a d h ai;cases av with
  |agg aE=>
   simp only[I.sub]at ai;split at ai
   .rename_i x au;rw[ar]at h;have:=fields .agg (λ_ _ _ _ _=>by rw[ar]) aE cs S a x d (λbg=>by simp only[I.put,au]) h au ai;simpa only[du,au]using this
   .cases ai
  |tuple aE=>
   simp only[I.sub]at ai;split at ai
   .rename_i x au;rw[ar]at h;have:=fields .tuple (λ_ _ _ _ _=>by rw[ar]) aE cs S a x d (λbg=>by simp only[I.put,au]) h au ai;simpa only[du,au]using this
   .cases ai
  |ag sz xs=>
   simp only[I.sub]at ai;split at ai
   .rename_i x au;rw[ar]at h;rcases h with⟨rfl,_,rfl⟩|⟨b,cap,cur,e,fr,dx,rfl,ae,az,a6,bF,cP,cB,fS,iE,iT,k3⟩
    .simp at au
    .obtain⟨c1,fG,c2,b5,hZ,p,hF,fL,hn,h6,fZ,mb⟩:=a1.pick xs _ dx k x iE au;have hl:=ar.length _ _ _ fZ;have RI:k<xs.length:=(List.getElem?_eq_some_iff.1 au).1;have w_:x.wd=sz:=fS x (mem_of_getElem? au);have bE:I.ef (xs.take k)=k*sz:=by
      rw[sY _ (λd ai=>fS d (mem_of_mem_take ai))];rw[length_take,Nat.min_eq_left (by omega)]
     obtain⟨qK,mH⟩:∃qK,cur.toList=c1++(fG++(c2++qK)):=by
      refine⟨cur.toList.drop (xs.length*sz),?_⟩;have:=(take_append_drop (xs.length*sz) cur.toList).symm;rw[p]at this;simpa using this
     have j2:nh w b (k*sz) sz=fG:=by
      have:=uH az mH
      rwa [hF,bE,hl,w_]at this
     obtain⟨cQ,cL,eh,fo,g0,g1,g2,g3,g4,g5⟩:=ih x _ hZ (some (b,k*sz)) d fZ ai;have jH:∀bg,I.put (k::q) bg (.ag sz xs)= .ag sz (xs.set k (I.put q bg x)):=λbg=>by simp only[I.put,au]
     refine⟨cQ,cL,λc=>c=b\/b5 c\/eh c,fo,?_,?_,λc an=>iT _ (hn _ (g2 _ an)),?_,g4,.inr ?_⟩
     .simp only[du,au,j2];exact g0
     .rintro c (rfl|h|h)
      .exact ae
      .exact iT _ (fL _ h)
      .exact iT _ (hn _ (g1 _ h))
     .rintro c (rfl|h|h) ai
      .exact k3 (hn _ (g2 _ ai))
      .exact h6 _ h (g2 _ ai)
      .exact g3 _ h ai
     .have kG:∀bg,bg.wd=d.wd->(I.put q bg x).wd=sz:=λbg hw=>(I.uG q x d bg ai hw).trans w_;rcases g5 with⟨l,r,rfl,aV,aW⟩|⟨fH,Ef,f_,Eg,l,r,aR,aV,aW,cm,cC,b7⟩
      .refine⟨b,cur,e,fr,c1++l,r++(c2++qK),?_,.inl rfl,az,a6.low,?_,?_⟩
       .rw[aV];simp[hF,bE]
       .rw[mH];simp
       .intro aF bg fT aN bh bK ll hw hb jc;have di:=aW aF bg fT aN bh (λc an=>bK c (.inr (.inr an)) (by rintro rfl;exact k3 (hn _ (g1 _ an)))) hw hb (λb R an=>jc b R (.inr (.inr an)));have aZ:=mb aF _ _ _ bh (λc an=>bK c (.inr (.inl an)) (by rintro rfl;exact k3 (fL _ an))) di (by
         rintro b (R|R) ab
         .exact h6 _ ab (g1 _ R)
         .exact jc _ R (.inr (.inl ab)))
        have xa:=ar.length _ _ _ hb;have xb:=ar.length _ _ _ g4;rw[jH,ar];refine .inr ⟨b,cap,_,e,fr,λb=>b5 b\/eh b\/aN b,by simp,.inl (.inl rfl),ll,?_,by simpa using bF,cP,?_,Ed fS (kG bg hw),?_,?_,?_⟩
        .have:(c1++l++(fT++(r++(c2++qK)))).toArray.size=cur.size:=by
          have:cur.size=cur.toList.length:=by simp
          rw[this,mH];simp[xa,xb,hw]
         rw[this];exact a6
        .rw[<-cB];have:cur.size=cur.toList.length:=by simp
         rw[this,mH];simp[xa,xb,hw]
        .have hlen:(c1++(l++(fT++r)++c2)).length=xs.length*sz:=by
          have:=congrArg length p;rw[length_take,Nat.min_eq_left (by simp[cB];exact mul_le_mul_right _ bF)]at this;rw[this];simp[xa,xb,hw]
         have:(c1++l++(fT++(r++(c2++qK))))=(c1++(l++(fT++r)++c2))++qK:=by simp
         rw[length_set];simp only[this];rw[take_left' hlen];exact aZ
        .rintro c (h|h|h)
         .exact .inl (.inr (.inl h))
         .exact .inl (.inr (.inr h))
         .exact .inr h
        .rintro(h|h|h)
         .exact k3 (fL _ h)
         .exact k3 (hn _ (g1 _ h))
         .exact jc _ h (.inl rfl)
      .refine⟨fH,Ef,f_,Eg,l,r,aR,.inr (.inr aV),aW,cm,cC,?_⟩;intro aF bg fT aN bh bK ll hw hb jc;have di:=b7 aF bg fT aN bh (λc an cY=>bK c (.inr (.inr an)) cY) ll hw hb (λb R an=>jc b R (.inr (.inr an)));have cY:∀c,b5 c->c≠fH:=by rintro c an rfl;exact h6 _ an (g1 _ aV)
       have aZ:=mb aF _ _ _ bh (λc an=>bK c (.inr (.inl an)) (cY c an)) di (by
        rintro b (R|R) ab
        .exact h6 _ ab (g1 _ R)
        .exact jc _ R (.inr (.inl ab)))
       have Eh:b≠fH:=by rintro rfl;exact k3 (hn _ (g1 _ aV))
       rw[jH,ar];refine .inr ⟨b,cap,cur,e,fr,λb=>b5 b\/eh b\/aN b,by simp,.inl (.inl rfl),(bK b (.inl rfl) Eh).trans az,a6,by simpa using bF,cP,cB,Ed fS (kG bg hw),?_,?_,?_⟩
       .rw[length_set,p];exact aZ
       .rintro c (h|h|h)
        .exact .inl (.inr (.inl h))
        .exact .inl (.inr (.inr h))
        .exact .inr h
       .rintro(h|h|h)
        .exact k3 (fL _ h)
        .exact k3 (hn _ (g1 _ h))
        .exact jc _ h (.inl rfl)
   .cases ai
  |bf x=>
   cases k with
   |succ k=>simp[I.sub]at ai
   |zero=>
    simp only[I.sub]at ai;rw[ar]at h;obtain⟨b,cur,e,fr,dx,rfl,ae,az,a6,bF,cP,cB⟩:=h;have hl:=ar.length _ _ _ bF;have j2:nh w b 0 x.wd=cur.toList:=by
     have:=uH (l:=[]) (m:=cur.toList) (r:=[]) az (by simp)
     rwa [hl]at this
    obtain⟨cQ,cL,eh,fo,g0,g1,g2,g3,g4,g5⟩:=ih x _ dx (some (b,0)) d bF ai;have jH:∀bg,I.put (0::q) bg (.bf x)= .bf (I.put q bg x):=λbg=>rfl;refine⟨cQ,cL,λc=>c=b\/eh c,fo,?_,?_,λc an=>cP _ (g2 _ an),?_,g4,.inr ?_⟩
    .simp only[du,j2];exact g0
    .rintro c (rfl|h)
     .exact ae
     .exact cP _ (g1 _ h)
    .rintro c (rfl|h) ai
     .exact cB (g2 _ ai)
     .exact g3 _ h ai
    .rcases g5 with⟨l,r,aR,aV,aW⟩|⟨fH,Ef,f_,Eg,l,r,aR,aV,aW,cm,cC,b7⟩
     .refine⟨b,cur,e,fr,l,r,?_,.inl rfl,az,a6,aR,?_⟩
      .rw[aV];simp
      .intro aF bg fT aN bh bK ll hw hb jc;have di:=aW aF bg fT aN bh (λc an=>bK c (.inr an) (by rintro rfl;exact cB (g1 _ an))) hw hb (λb R an=>jc b R (.inr an));have xa:=ar.length _ _ _ hb;have xb:=ar.length _ _ _ g4;rw[jH,ar];refine⟨b,_,e,fr,λb=>eh b\/aN b,rfl,.inl (.inl rfl),ll,?_,di,?_,?_⟩
       .have:(l++(fT++r)).toArray.size=cur.size:=by
         have:cur.size=cur.toList.length:=by simp
         rw[this,aR];simp[xa,xb,hw]
        rw[this];exact a6
       .rintro c (h|h)
        .exact .inl (.inr h)
        .exact .inr h
       .rintro(h|h)
        .exact cB (g1 _ h)
        .exact jc _ h (.inl rfl)
     .refine⟨fH,Ef,f_,Eg,l,r,aR,.inr aV,aW,cm,cC,?_⟩;intro aF bg fT aN bh bK ll hw hb jc;have di:=b7 aF bg fT aN bh (λc an cY=>bK c (.inr an) cY) ll hw hb (λb R an=>jc b R (.inr an));have Eh:b≠fH:=by rintro rfl;exact cB (g1 _ aV)
      rw[jH,ar];refine⟨b,cur,e,fr,λb=>eh b\/aN b,rfl,.inl (.inl rfl),(bK b (.inl rfl) Eh).trans az,a6,di,?_,?_⟩
      .rintro c (h|h)
       .exact .inl (.inr h)
       .exact .inr h
      .rintro(h|h)
       .exact cB (g1 _ h)
       .exact jc _ h (.inl rfl)
  |_=>simp[I.sub]at ai
mutual
def I.plain:I->Bool
 | .ag _ _=>false
 | .bf _=>false
 | .dS _=>false
 | .fJ _ _=>false
 | .agg aE=>I.eg aE
 | .tuple aE=>I.eg aE
 |_=>true
def I.eg:alW->Bool
 |[]=>true
 |d::ds=>d.plain&&I.eg ds
end
mutual
def I.c_:I->I
 | .ag _ _=>.hole
 | .bf _=>.hole
 | .dS _=>.hole
 | .fJ _ _=>.hole
 | .agg aE=>.agg (I.ln aE)
 | .tuple aE=>.tuple (I.ln aE)
 |d=>d
def I.ln:alW->alW
 |[]=>[]
 |d::ds=>d.c_::I.ln ds
end
mutual
theorem I.rQ:∀d:I,d.c_.wd=d.wd
 | .hole=>rfl
 | .bool _=>rfl
 | .fm=>rfl
 | .int _ _=>rfl
 | .str _=>rfl
 | .dC=>rfl
 | .bd=>rfl
 | .slice _=>rfl
 | .ag _ _=>rfl
 | .ref _=>rfl
 | .bf _=>rfl
 | .agg aE=>by simp only[I.c_,I.wd];exact I.Ei aE
 | .tuple aE=>by simp only[I.c_,I.wd];exact I.Ei aE
 | .fn _ _=>rfl
 | .h _ _=>rfl
 | .aq _ _=>rfl
 | .R _ _=>rfl
 | .dS _=>rfl
 | .fJ _ _=>rfl
theorem I.Ei:∀ds:alW,I.ef (I.ln ds)=I.ef ds
 |[]=>rfl
 |d::ds=>by simp only[I.ln,I.ef];rw[I.rQ d,I.Ei ds]
end
mutual
theorem ar.c_ {w:World} {F:Nat->Prop}:∀(d:I) (cs:alU) (S aN:Nat->Prop),ar w F d cs S->ar w F d.c_ cs aN
 | .hole,_,_,_,h=>h
 | .bool _,_,_,_,h=>h
 | .fm,_,_,_,h=>h
 | .int _ _,_,_,_,h=>h
 | .str _,_,_,_,h=>h
 | .dC,_,_,_,h=>h
 | .bd,_,_,_,h=>h
 | .slice xs,cs,S,aN,h=>by
   show ar w F (.slice xs) cs aN;rw[ar]at h⊢;exact h
 | .ag sz xs,cs,S,aN,h=>by
   rw[I.c_,ar];rw[ar]at h;rcases h with⟨_,_,rfl⟩|⟨b,cap,cur,e,fr,dx,rfl,_⟩
   .exact⟨_,rfl,rfl⟩
   .exact⟨_,rfl,rfl⟩
 | .ref d,cs,S,aN,h=>by
   show ar w F (.ref d) cs aN;rw[ar]at h⊢;exact h
 | .bf d,cs,S,aN,h=>by
   rw[I.c_,ar];rw[ar]at h;obtain⟨b,cur,e,fr,dx,rfl,_⟩:=h;exact⟨_,rfl,rfl⟩
 | .agg aE,cs,S,aN,h=>by rw[I.c_,ar];rw[ar]at h;exact a1.c_ aE _ _ _ h
 | .tuple aE,cs,S,aN,h=>by rw[I.c_,ar];rw[ar]at h;exact a1.c_ aE _ _ _ h
 | .fn _ _,_,_,_,h=>h
 | .h _ _,_,_,_,h=>h
 | .aq _ _,_,_,_,h=>h
 | .R _ _,_,_,_,h=>h
 | .dS _,_,_,_,h=>by rw[ar]at h;rw[I.c_,ar];exact lP.one h
 | .fJ _ _,_,_,_,h=>by rw[ar]at h;obtain⟨arr,rfl,_⟩:=h;rw[I.c_,ar];exact⟨_,rfl,rfl⟩
theorem a1.c_ {w:World} {F:Nat->Prop}:∀(ds:alW) (cs:alU) (S aN:Nat->Prop),a1 w F ds cs S->a1 w F (I.ln ds) cs aN
 |[],_,_,_,h=>h
 |d::ds,cs,S,aN,h=>by
  rw[I.ln,a1];rw[a1]at h;obtain⟨c1,c2,b5,dg,ab,ae,az,a6,bF,cP⟩:=h;exact⟨c1,c2,λ_=>False,λ_=>False,ab,ar.c_ d _ _ _ ae,a1.c_ ds _ _ _ az,λ_ h=>h.elim,λ_ h=>h.elim,λ_ h=>h.elim⟩
end
mutual
theorem ar.plain {w:World} {F:Nat->Prop}:∀(d:I) (cs:alU) (S aN:Nat->Prop),d.plain=true->ar w F d cs S->ar w F d cs aN
 | .hole,_,_,_,_,h=>h
 | .bool _,_,_,_,_,h=>h
 | .fm,_,_,_,_,h=>h
 | .int _ _,_,_,_,_,h=>h
 | .str _,_,_,_,_,h=>h
 | .dC,_,_,_,_,h=>h
 | .bd,_,_,_,_,h=>h
 | .slice xs,cs,S,aN,_,h=>by rw[ar]at h⊢;exact h
 | .ag sz xs,cs,S,aN,aq,h=>by simp[I.plain]at aq
 | .ref d,cs,S,aN,_,h=>by rw[ar]at h⊢;exact h
 | .bf d,cs,S,aN,aq,h=>by simp[I.plain]at aq
 | .agg aE,cs,S,aN,aq,h=>by rw[ar]at h⊢;exact a1.plain aE _ _ _ aq h
 | .tuple aE,cs,S,aN,aq,h=>by rw[ar]at h⊢;exact a1.plain aE _ _ _ aq h
 | .fn _ _,_,_,_,_,h=>h
 | .h _ _,_,_,_,_,h=>h
 | .aq _ _,_,_,_,_,h=>h
 | .R _ _,_,_,_,_,h=>h
 | .dS _,_,_,_,aq,_=>by simp[I.plain]at aq
 | .fJ _ _,_,_,_,aq,_=>by simp[I.plain]at aq
theorem a1.plain {w:World} {F:Nat->Prop}:∀(ds:alW) (cs:alU) (S aN:Nat->Prop),I.eg ds=true->a1 w F ds cs S->a1 w F ds cs aN
 |[],_,_,_,_,h=>h
 |d::ds,cs,S,aN,aq,h=>by
  rw[a1]at h⊢;simp only[I.eg,Bool.and_eq_true]at aq;obtain⟨c1,c2,b5,dg,ab,ae,az,a6,bF,cP⟩:=h;exact⟨c1,c2,λ_=>False,λ_=>False,ab,ar.plain d _ _ _ aq.1 ae,a1.plain ds _ _ _ aq.2 az,λ_ h=>h.elim,λ_ h=>h.elim,λ_ h=>h.elim⟩
end
def I.fD:alR->I->Bool
 |[],_=>false
 |k::q,.agg aE=>match aE[k]? with
  |some d=>I.fD q d
  |none=>false
 |k::q,.tuple aE=>match aE[k]? with
  |some d=>I.fD q d
  |none=>false
 |_::_,.ag _ _=>true
 |_::_,.bf _=>true
 |_::_,_=>false
theorem AN {aE:alW} (h:I.eg aE=true) {k:Nat} {d:I} (ax:aE[k]? =some d):d.plain=true:=by
 induction aE generalizing k with
 |nil=>simp at ax
 |cons a aE ih=>
  simp only[I.eg,Bool.and_eq_true]at h;cases k with
  |zero=>simp at ax;subst ax;exact h.1
  |succ k=>simp at ax;exact ih h.2 ax
theorem I.Kp:∀(q:alR) (d:I),d.plain=true->I.fD q d=false:=by
 intro q;induction q with
 |nil=>intros;rfl
 |cons k q ih=>
  intro d ai;cases d<;>first|rfl|(simp[I.plain]at ai;done)|skip
  all_goals
   simp only[I.fD];split
   .rename_i aE x au;exact ih _ (AN (by simpa [I.plain]using ai) au)
   .rfl
theorem I.Ej:∀(q:alR) (d e:I),d.plain=true->I.sub q d=some e->e.plain=true:=by
 intro q;induction q with
 |nil=>intro d e ai h;simp[I.sub]at h;exact h▸ai
 |cons k q ih=>
  intro d e ai h;cases d<;>first|(simp[I.plain]at ai;done)|(simp[I.sub]at h;done)|skip
  all_goals
   simp only[I.sub]at h;split at h
   .rename_i aE x au;exact ih _ _ (AN (by simpa [I.plain]using ai) au) h
   .cases h
theorem AO {w aF:World} {F:Nat->Prop}:∀(q:alR) (av:I) (cs:alU) (S:Nat->Prop) (a:Option (Nat×Nat)) (d:I),
  ar w F av cs S->I.sub q av=some d->(∀b,S b->aF.heap[b]? =w.heap[b]?)->du aF q av cs a=du w q av cs a:=by
 intro q;induction q with
 |nil=>intros;rfl
 |cons k q ih=>
  have fields:∀(aE:alW) (cs:alU) (S:Nat->Prop) (a:Option (Nat×Nat)) (x d:I),a1 w F aE cs S->aE[k]? =some x->I.sub q x=some d->
    (∀b,S b->aF.heap[b]? =w.heap[b]?)->
    du aF q x ((cs.drop (I.ef (aE.take k))).take x.wd) (a.map λl=>(l.1,l.2+I.ef (aE.take k)))=du w q x ((cs.drop (I.ef (aE.take k))).take x.wd) (a.map λl=>(l.1,l.2+I.ef (aE.take k))):=by
   intro aE cs S a x d h au ai bK;obtain⟨c1,fG,c2,b5,hZ,rfl,hF,fL,hn,h6,fZ,mb⟩:=a1.pick aE cs S k x h au;rw[sW c1 fG c2 _ _ hF (ar.length _ _ _ fZ)];exact ih x fG hZ _ d fZ ai (λb R=>bK b (hn _ R))
  intro av cs S a d h ai bK;cases av with
  |agg aE=>
   simp only[I.sub]at ai;split at ai
   .rename_i x au;rw[ar]at h;simp only[du,au];exact fields aE cs S a x d h au ai bK
   .cases ai
  |tuple aE=>
   simp only[I.sub]at ai;split at ai
   .rename_i x au;rw[ar]at h;simp only[du,au];exact fields aE cs S a x d h au ai bK
   .cases ai
  |ag sz xs=>
   simp only[I.sub]at ai;split at ai
   .rename_i x au;rw[ar]at h;rcases h with⟨rfl,_,rfl⟩|⟨b,cap,cur,e,fr,dx,rfl,ae,az,a6,bF,cP,cB,fS,iE,iT,k3⟩
    .simp at au
    .obtain⟨c1,fG,c2,b5,hZ,p,hF,fL,hn,h6,fZ,mb⟩:=a1.pick xs _ dx k x iE au;have hl:=ar.length _ _ _ fZ;have RI:k<xs.length:=(List.getElem?_eq_some_iff.1 au).1;have w_:x.wd=sz:=fS x (mem_of_getElem? au);have bE:I.ef (xs.take k)=k*sz:=by
      rw[sY _ (λd ai=>fS d (mem_of_mem_take ai))];rw[length_take,Nat.min_eq_left (by omega)]
     obtain⟨qK,mH⟩:∃qK,cur.toList=c1++(fG++(c2++qK)):=by
      refine⟨cur.toList.drop (xs.length*sz),?_⟩;have:=(take_append_drop (xs.length*sz) cur.toList).symm;rw[p]at this;simpa using this
     have j2:nh w b (k*sz) sz=fG:=by
      have:=uH az mH
      rwa [hF,bE,hl,w_]at this
     have Ek:nh aF b (k*sz) sz=fG:=by
      have:=uH ((bK b ae).trans az) mH
      rwa [hF,bE,hl,w_]at this
     simp only[du,au,j2,Ek];exact ih x fG hZ _ d fZ ai (λc an=>bK c (iT _ (hn _ an)))
   .cases ai
  |bf x=>
   cases k with
   |succ k=>simp[I.sub]at ai
   |zero=>
    simp only[I.sub]at ai;rw[ar]at h;obtain⟨b,cur,e,fr,dx,rfl,ae,az,a6,bF,cP,cB⟩:=h;have hl:=ar.length _ _ _ bF;have j2:nh w b 0 x.wd=cur.toList:=by
     have:=uH (l:=[]) (m:=cur.toList) (r:=[]) az (by simp)
     rwa [hl]at this
    have Ek:nh aF b 0 x.wd=cur.toList:=by
     have:=uH (l:=[]) (m:=cur.toList) (r:=[]) ((bK b ae).trans az) (by simp)
     rwa [hl]at this
    simp only[du,j2,Ek];exact ih x cur.toList dx _ d bF ai (λc an=>bK c (cP _ an))
  |_=>simp[I.sub]at ai
def iu:Value->alU
 | .agg cs=>cs.toList
 |v=>[v]
def cj:Value->alU
 | .tuple vs=>vs.toList.flatMap iu
 |v=>iu v
def iv:I->Value->Prop
 | .agg _,v=>∃arr,v= .agg arr
 |_,v=>Value.fK v=true
def dD:I->Value->Prop
 | .tuple ds,v=>∃arr:Array Value,v= .tuple arr/\arr.size=ds.length/\∀(k:Nat) (d:I) (x:Value),ds[k]? =some d->arr[k]? =some x->iv d x/\(∀vs,d≠.tuple vs)/\(iu x).length=d.wd
 |d,v=>iv d v
abbrev aw:=Nat->I
mutual
def aH (w:World) (F:Nat->Prop) (s:aw) (aC:Nat->Value):I->Value->(Nat->Prop)->Prop
 | .hole,_,_=>True
 | .h x q,v,_=>∀d,I.sub q (s x)=some d->d.plain=false->∃cQ a,du w q (s x) (cj (aC x)) none=some (d,cQ,a)/\cj v=cQ/\dD d v
 | .aq x q,v,_=>∀d,I.sub q (s x)=some d->I.fD q (s x)=true->∃cQ b o,du w q (s x) (cj (aC x)) none=some (d,cQ,some (b,o))/\v= .pointer (some ⟨b,o,none⟩)
 | .R x k,v,_=>(s x).plain=false->∃b cur e fr,v= .pointer (some ⟨b,k,none⟩)/\F b/\w.heap[b]? =some (.cells cur e fr)/\cur.toList=cj (aC x)
 | .fn f cap,v,_=>∃arr:Array Value,v= .func (.func f) #[] arr/\d_ w F s aC cap arr.toList
 | .bool b,v,S=>dD (.bool b) v/\ar w F (.bool b) (cj v) S
 | .fm,v,S=>dD .fm v/\ar w F .fm (cj v) S
 | .int k n,v,S=>dD (.int k n) v/\ar w F (.int k n) (cj v) S
 | .str x,v,S=>dD (.str x) v/\ar w F (.str x) (cj v) S
 | .dC,v,S=>dD .dC v/\ar w F .dC (cj v) S
 | .bd,v,S=>dD .bd v/\ar w F .bd (cj v) S
 | .slice xs,v,S=>dD (.slice xs) v/\ar w F (.slice xs) (cj v) S
 | .ag sz xs,v,S=>dD (.ag sz xs) v/\ar w F (.ag sz xs) (cj v) S
 | .ref d,v,S=>dD (.ref d) v/\ar w F (.ref d) (cj v) S
 | .bf d,v,S=>dD (.bf d) v/\ar w F (.bf d) (cj v) S
 | .agg d,v,S=>dD (.agg d) v/\ar w F (.agg d) (cj v) S
 | .tuple d,v,S=>dD (.tuple d) v/\ar w F (.tuple d) (cj v) S
 | .dS o,v,S=>dD (.dS o) v/\ar w F (.dS o) (cj v) S
 | .fJ f d,v,S=>dD (.fJ f d) v/\ar w F (.fJ f d) (cj v) S
def d_ (w:World) (F:Nat->Prop) (s:aw) (aC:Nat->Value):alW->alU->Prop
 |[],vs=>vs=[]
 |d::ds,vs=>∃v jI,vs=v::jI/\aH w F s aC d v (λ_=>False)/\d_ w F s aC ds jI
end
def I.tree:I->Bool
 | .hole=>false
 | .h _ _=>false
 | .aq _ _=>false
 | .R _ _=>false
 | .fn _ _=>false
 |_=>true
theorem aH.cv {w:World} {F:Nat->Prop} {s:aw} {aC:Nat->Value} {d:I} {v:Value} {S:Nat->Prop} (a8:d.tree=true):
  aH w F s aC d v S↔(dD d v/\ar w F d (cj v) S):=by
 cases d<;>first|(simp[I.tree]at a8;done)|rw[aH]
theorem h0 {q:alR} {av d:I} (h:I.sub q av=some d) (aq:d.plain=false\/I.fD q av=true):av.tree=true:=by
 cases q with
 |nil=>
  simp[I.sub]at h;subst h;rcases aq with aq|aq
  .cases av<;>first|rfl|(simp[I.plain]at aq)
  .simp[I.fD]at aq
 |cons k q=>cases av<;>first|rfl|(simp[I.sub]at h)
theorem El {d:I} (h:d.plain=false):d.tree=true:=h0 (q:=[]) (by simp only[I.sub]) (.inl h)
theorem aH.frame {w aF:World} {F bO:Nat->Prop} {s:aw} {aC:Nat->Value} {Sx:Nat->Nat->Prop} (bh:∀b,F b->aF.heap[b]? =w.heap[b]?) (Kq:∀b,F b->bO b)
  (bK:∀x b,Sx x b->aF.heap[b]? =w.heap[b]?) (jv:∀x,aH w F s aC (s x) (aC x) (Sx x)):
  ∀(d:I) (v:Value) (S:Nat->Prop),(∀b,S b->aF.heap[b]? =w.heap[b]?)->aH w F s aC d v S->aH aF bO s aC d v S:=by
 have kH:∀(x:Nat) (q:alR) (d:I),I.sub q (s x)=some d->(d.plain=false\/I.fD q (s x)=true)->du aF q (s x) (cj (aC x)) none=du w q (s x) (cj (aC x)) none:=by
  intro x q d ai aq;have a8:=h0 ai aq;have:=jv x;rw[aH.cv a8]at this;exact AO q _ _ (Sx x) none d this.2 ai (bK x)
 have RJ:∀(d:I) (v:Value) (S:Nat->Prop),d.tree=true->(∀b,S b->aF.heap[b]? =w.heap[b]?)->aH w F s aC d v S->aH aF bO s aC d v S:=by
  intro d v S a8 sZ h;rw[aH.cv a8]at h⊢;exact⟨h.1,ar.mono Kq _ _ _ _ (λ_ h=>h) (ar.frame bh _ _ _ sZ h.2)⟩
 have step:∀n,(∀(d:I) (v:Value) (S:Nat->Prop),SizeOf.sizeOf d<=n->(∀b,S b->aF.heap[b]? =w.heap[b]?)->aH w F s aC d v S->aH aF bO s aC d v S)/\
   (∀(ds:alW) (vs:alU),SizeOf.sizeOf ds<=n->d_ w F s aC ds vs->d_ aF bO s aC ds vs):=by
  intro n;induction n with
  |zero=>
   refine⟨λd v S bZ=>?_,λds vs bZ=>?_⟩
   .cases d<;>simp at bZ<;>omega
   .cases ds<;>simp at bZ<;>omega
  |succ n ih=>
   refine⟨λd v S bZ sZ h=>?_,λds vs bZ h=>?_⟩
   .cases d with
    |hole=>rw[aH];trivial
    |h x q=>
     rw[aH]at h⊢;intro d ai aq;rw[kH x q d ai (.inl aq)];exact h d ai aq
    |aq x q=>
     rw[aH]at h⊢;intro d ai aq;rw[kH x q d ai (.inr aq)];exact h d ai aq
    |R x k=>
     rw[aH]at h⊢;intro aq;obtain⟨b,cur,e,fr,ab,ae,az,a6⟩:=h aq;exact⟨b,cur,e,fr,ab,Kq b ae,(bh b ae).trans az,a6⟩
    |fn f cap=>
     rw[aH]at h⊢;obtain⟨arr,rfl,an⟩:=h;exact⟨arr,rfl,ih.2 _ _ (by simp at bZ;omega) an⟩
    |_=>exact RJ _ _ _ rfl sZ h
   .cases ds with
    |nil=>rw[d_]at h⊢;exact h
    |cons d ds=>
     rw[d_]at h⊢;obtain⟨v,jI,rfl,ab,ae⟩:=h;simp at bZ;exact⟨v,jI,rfl,ih.1 _ _ _ (by omega) (λ_ h=>h.elim) ab,ih.2 _ _ (by omega) ae⟩
 intro d v S sZ h;exact(step (SizeOf.sizeOf d)).1 d v S (Nat.le_refl _) sZ h
mutual
def cR (x:Nat):I->I
 | .h y q=>if y=x then .hole else .h y q
 | .aq y q=>if y=x then .hole else .aq y q
 | .R y k=>if y=x then .hole else .R y k
 | .fn f cap=>.fn f (jd x cap)
 |d=>d
def jd (x:Nat):alW->alW
 |[]=>[]
 |d::ds=>cR x d::jd x ds
end
mutual
def cb (x:Nat):I->I
 | .h y q=>if y=x then(if q=[]then .h y q else .hole)else .h y q
 | .aq y q=>if y=x then .hole else .aq y q
 | .fn f cap=>.fn f (iN x cap)
 |d=>d
def iN (x:Nat):alW->alW
 |[]=>[]
 |d::ds=>cb x d::iN x ds
end
def dq {α:Type} (f:Nat->α) (t:Nat) (v:α):Nat->α:=λu=>if u=t then v else f u
def lQ (t:Nat) (s:aw):aw:=λu=>cR t (s u)
def h7 (t:Nat) (s:aw):aw:=λu=>cb t (s u)
theorem lR {α:Type} (f:Nat->α) (t:Nat) (v:α):dq f t v t=v:=by simp[dq]
theorem je {α:Type} (f:Nat->α) {t u:Nat} (v:α) (h:u≠t):dq f t v u=f u:=by simp[dq,h]
theorem RK {t:Nat} {d:I} (h:d.tree=true):cR t d=d:=by cases d<;>first|rfl|(simp[I.tree]at h)
theorem Em {t:Nat} {d:I} (h:d.tree=true):cb t d=d:=by cases d<;>first|rfl|(simp[I.tree]at h)
theorem RL {t:Nat} {d:I} (h:(cR t d).tree=true):d.tree=true/\cR t d=d:=by
 cases d<;>first|exact⟨rfl,rfl⟩|(simp only[cR]at h;first|(split at h<;>simp[I.tree]at h)|simp[I.tree]at h)
theorem AP {t:Nat} {d:I} (h:(cb t d).tree=true):d.tree=true/\cb t d=d:=by
 cases d<;>first|exact⟨rfl,rfl⟩|(simp only[cb]at h;first|(split at h<;>(try split at h)<;>simp[I.tree]at h)|simp[I.tree]at h)
section
variable {w:World} {F:Nat->Prop} {s aB:aw} {aC hG:Nat->Value} {t:Nat}
theorem aH.cR (hc:∀x,x≠t->(aB x).tree=true->aB x=s x/\hG x=aC x):∀(n:Nat),
  (∀(d:I) (v:Value) (S:Nat->Prop),SizeOf.sizeOf d<=n->aH w F s aC d v S->aH w F aB hG (de.cR t d) v S)/\
  (∀(ds:alW) (vs:alU),SizeOf.sizeOf ds<=n->d_ w F s aC ds vs->d_ w F aB hG (jd t ds) vs):=by
 intro n;induction n with
 |zero=>
  refine⟨λd v S bZ=>?_,λds vs bZ=>?_⟩
  .cases d<;>simp at bZ<;>omega
  .cases ds<;>simp at bZ<;>omega
 |succ n ih=>
  refine⟨λd v S bZ h=>?_,λds vs bZ h=>?_⟩
  .cases d with
   |hole=>rw[de.cR.eq_def];simp only;rw[aH];trivial
   |h x q=>
    simp only[de.cR];split
    .rw[aH];trivial
    .rename_i au;rw[aH]at h⊢;intro d ai aq;obtain⟨aR,aV⟩:=hc x au (h0 ai (.inl aq));rw[aR,aV];rw[aR]at ai;exact h d ai aq
   |aq x q=>
    simp only[de.cR];split
    .rw[aH];trivial
    .rename_i au;rw[aH]at h⊢;intro d ai aq;obtain⟨aR,aV⟩:=hc x au (h0 ai (.inr aq));rw[aR,aV];rw[aR]at ai aq;exact h d ai aq
   |R x k=>
    simp only[de.cR];split
    .rw[aH];trivial
    .rename_i au;rw[aH]at h⊢;intro aq;obtain⟨aR,aV⟩:=hc x au (El aq);rw[aV];rw[aR]at aq;exact h aq
   |fn f cap=>
    simp only[de.cR];rw[aH]at h⊢;obtain⟨arr,rfl,an⟩:=h;exact⟨arr,rfl,ih.2 _ _ (by simp at bZ;omega) an⟩
   |_=>
    rw[RK (by rfl)];exact(aH.cv (by rfl)).2 ((aH.cv (by rfl)).1 h)
  .cases ds with
   |nil=>rw[jd,d_];rw[d_]at h;exact h
   |cons d ds=>
    rw[jd,d_];rw[d_]at h;obtain⟨v,jI,rfl,ab,ae⟩:=h;simp at bZ;exact⟨v,jI,rfl,ih.1 _ _ _ (by omega) ab,ih.2 _ _ (by omega) ae⟩
theorem aH.cb {aF:World} (hc:∀x,x≠t->(aB x).tree=true->aB x=s x/\hG x=aC x) (iO:hG t=aC t) (fU:(aB t).plain=false->(s t).plain=false/\∀v,dD (s t) v->dD (aB t) v)
  (kH:∀x q d,x≠t->I.sub q (s x)=some d->(d.plain=false\/I.fD q (s x)=true)->du aF q (s x) (cj (aC x)) none=du w q (s x) (cj (aC x)) none)
  (bh:∀b,F b->aF.heap[b]? =w.heap[b]?):∀(n:Nat),
  (∀(d:I) (v:Value) (S:Nat->Prop),SizeOf.sizeOf d<=n->(∀b,S b->aF.heap[b]? =w.heap[b]?)->aH w F s aC d v S->aH aF F aB hG (de.cb t d) v S)/\
  (∀(ds:alW) (vs:alU),SizeOf.sizeOf ds<=n->d_ w F s aC ds vs->d_ aF F aB hG (iN t ds) vs):=by
 intro n;induction n with
 |zero=>
  refine⟨λd v S bZ=>?_,λds vs bZ=>?_⟩
  .cases d<;>simp at bZ<;>omega
  .cases ds<;>simp at bZ<;>omega
 |succ n ih=>
  refine⟨λd v S bZ sZ h=>?_,λds vs bZ h=>?_⟩
  .cases d with
   |hole=>rw[de.cb.eq_def];simp only;rw[aH];trivial
   |h x q=>
    simp only[de.cb];split
    .rename_i au;subst au;split
     .rename_i b1;subst b1;rw[aH]at h⊢;intro d ai aq;simp only[I.sub,some.injEq]at ai;subst ai;obtain⟨di,aZ⟩:=fU aq;obtain⟨cQ,a,g1,g2,g3⟩:=h (s x) rfl di;simp only[du,some.injEq,Prod.mk.injEq]at g1;obtain⟨-,g1,ajJ⟩:=g1;refine⟨cj (hG x),none,rfl,?_,aZ _ g3⟩;rw[iO,g2,<-g1]
     .rw[aH];trivial
    .rename_i au;rw[aH]at h⊢;intro d ai aq;obtain⟨aR,aV⟩:=hc x au (h0 ai (.inl aq));rw[aR,aV];rw[aR]at ai;rw[kH x q d au ai (.inl aq)];exact h d ai aq
   |aq x q=>
    simp only[de.cb];split
    .rw[aH];trivial
    .rename_i au;rw[aH]at h⊢;intro d ai aq;obtain⟨aR,aV⟩:=hc x au (h0 ai (.inr aq));rw[aR,aV];rw[aR]at ai aq;rw[kH x q d au ai (.inr aq)];exact h d ai aq
   |R x k=>
    simp only[de.cb];rw[aH]at h⊢;intro aq;by_cases au:x=t
    .subst au;obtain⟨b,cur,e,fr,ab,ae,az,a6⟩:=h (fU aq).1;exact⟨b,cur,e,fr,ab,ae,(bh b ae).trans az,by rw[iO];exact a6⟩
    .obtain⟨aR,aV⟩:=hc x au (El aq);rw[aR]at aq;obtain⟨b,cur,e,fr,ab,ae,az,a6⟩:=h aq;exact⟨b,cur,e,fr,ab,ae,(bh b ae).trans az,by rw[aV];exact a6⟩
   |fn f cap=>
    simp only[de.cb];rw[aH]at h⊢;obtain⟨arr,rfl,an⟩:=h;exact⟨arr,rfl,ih.2 _ _ (by simp at bZ;omega) an⟩
   |_=>
    rw[Em (by rfl)];have bC:=(aH.cv (by rfl)).1 h;exact(aH.cv (by rfl)).2 ⟨bC.1,ar.frame bh _ _ _ sZ bC.2⟩
  .cases ds with
   |nil=>rw[iN,d_];rw[d_]at h;exact h
   |cons d ds=>
    rw[iN,d_];rw[d_]at h;obtain⟨v,jI,rfl,ab,ae⟩:=h;simp at bZ;exact⟨v,jI,rfl,ih.1 _ _ _ (by omega) (λ_ h=>h.elim) ab,ih.2 _ _ (by omega) ae⟩
theorem aH.void (hc:∀x,x≠t->(aB x).tree=true->aB x=s x/\hG x=aC x) (oz:(aB t).plain=true):∀(n:Nat),
  (∀(d:I) (v:Value) (S:Nat->Prop),SizeOf.sizeOf d<=n->aH w F s aC d v S->aH w F aB hG d v S)/\
  (∀(ds:alW) (vs:alU),SizeOf.sizeOf ds<=n->d_ w F s aC ds vs->d_ w F aB hG ds vs):=by
 intro n;induction n with
 |zero=>
  refine⟨λd v S bZ=>?_,λds vs bZ=>?_⟩
  .cases d<;>simp at bZ<;>omega
  .cases ds<;>simp at bZ<;>omega
 |succ n ih=>
  refine⟨λd v S bZ h=>?_,λds vs bZ h=>?_⟩
  .cases d with
   |hole=>rw[aH];trivial
   |h x q=>
    rw[aH]at h⊢;intro d ai aq;by_cases au:x=t
    .subst au;rw[I.Ej _ _ _ oz ai]at aq;cases aq
    .obtain⟨aR,aV⟩:=hc x au (h0 ai (.inl aq));rw[aR,aV];rw[aR]at ai;exact h d ai aq
   |aq x q=>
    rw[aH]at h⊢;intro d ai aq;by_cases au:x=t
    .subst au;rw[I.Kp _ _ oz]at aq;cases aq
    .obtain⟨aR,aV⟩:=hc x au (h0 ai (.inr aq));rw[aR,aV];rw[aR]at ai aq;exact h d ai aq
   |R x k=>
    rw[aH]at h⊢;intro aq;by_cases au:x=t
    .subst au;rw[oz]at aq;cases aq
    .obtain⟨aR,aV⟩:=hc x au (El aq);rw[aV];rw[aR]at aq;exact h aq
   |fn f cap=>
    rw[aH]at h⊢;obtain⟨arr,rfl,an⟩:=h;exact⟨arr,rfl,ih.2 _ _ (by simp at bZ;omega) an⟩
   |_=>exact(aH.cv (by rfl)).2 ((aH.cv (by rfl)).1 h)
  .cases ds with
   |nil=>rw[d_];rw[d_]at h;exact h
   |cons d ds=>
    rw[d_];rw[d_]at h;obtain⟨v,jI,rfl,ab,ae⟩:=h;simp at bZ;exact⟨v,jI,rfl,ih.1 _ _ _ (by omega) ab,ih.2 _ _ (by omega) ae⟩
end
def rR:Bool:=true
def Out (w w0:World):Prop:=w.output=w0.output/\(rR=true->w0.drawn<=w.drawn)
theorem Out.trans {a b c:World} (h:Out a b) (ae:Out b c):Out a c:=⟨Eq.trans h.1 ae.1,λd=>Nat.le_trans (ae.2 d) (h.2 d)⟩
theorem Out.refl (w:World):Out w w:=⟨rfl,λ_=>Nat.le_refl _⟩
def En:List (Nat×(Obj->Prop)):=[]
def uI (w:World) (X:Nat->Prop):Prop:=∀p∈En,p.1<w.heap.size/\¬X p.1/\∃o,w.heap[p.1]? =some o/\p.2 o
theorem uI.next {w aF:World} {X Y:Nat->Prop} (h:uI w X) (ad:w.heap.size<=aF.heap.size) (R:∀b,b<w.heap.size->¬X b->aF.heap[b]? =w.heap[b]?) (bb:∀b,Y b->X b\/w.heap.size<=b):uI aF Y:=λp aq=>by
 obtain⟨ab,ae,o,az,a6⟩:=h p aq;refine⟨Nat.lt_of_lt_of_le ab ad,λh=>?_,o,(R _ ab ae).trans az,a6⟩;rcases bb _ h with h|h
 .exact ae h
 .omega
structure bD (w0:World) (F0 X F:Nat->Prop) (S:Nat->Nat->Prop) (s:aw) (aC:Nat->Value) (w:World):Prop where
 gm:∀b,F0 b->F b
 gC:∀b,F b->F0 b\/X b\/w0.heap.size<=b
 eQ:∀b,F b->b<w.heap.size
 dW:∀t b,S t b->b<w.heap.size
 fb:∀t b,S t b->¬F b
 e_:∀t u b,t≠u->S t b->¬S u b
 dx:∀t b,S t b->X b\/w0.heap.size<=b
 dp:∀t,aH w F s aC (s t) (aC t) (S t)
 old:∀b,b<w0.heap.size->¬X b->w.heap[b]? =w0.heap[b]?
 size:w0.heap.size<=w.heap.size
 os:w.os=w0.os
 tape:w.tape=w0.tape
 output:Out w w0
 gn:uI w0 X
section
variable {w0 w aF:World} {F0 X F:Nat->Prop} {S:Nat->Nat->Prop} {s:aw} {aC:Nat->Value}
theorem bD.grow (h:bD w0 F0 X F S s aC w) (R:∀b,b<w.heap.size->aF.heap[b]? =w.heap[b]?) (ad:w.heap.size<=aF.heap.size)
  (ab:aF.os=w.os) (ae:aF.tape=w.tape) (az:Out aF w):bD w0 F0 X F S s aC aF where
 gm:=h.gm
 gC:=h.gC
 eQ:=λb bh=>Nat.lt_of_lt_of_le (h.eQ b bh) ad
 dW:=λt b bh=>Nat.lt_of_lt_of_le (h.dW t b bh) ad
 fb:=h.fb
 e_:=h.e_
 dx:=h.dx
 dp:=λt=>aH.frame (Sx:=S) (λb bh=>R b (h.eQ b bh)) (λ_ h=>h) (λx b bK=>R b (h.dW x b bK)) h.dp _ _ _ (λb bK=>R b (h.dW t b bK)) (h.dp t)
 old:=λb dv jJ=>(R b (Nat.lt_of_lt_of_le dv h.size)).trans (h.old b dv jJ)
 size:=Nat.le_trans h.size ad
 os:=ab.trans h.os
 tape:=ae.trans h.tape
 output:=az.trans h.output
 gn:=h.gn
def fV (S:Nat->Nat->Prop) (t:Nat) (Sn:Nat->Prop):Nat->Nat->Prop:=λu b=>if u=t then Sn b else S u b
theorem xc (S:Nat->Nat->Prop) (t:Nat) (Sn:Nat->Prop):fV S t Sn t=Sn:=by funext b;simp[fV]
theorem xd (S:Nat->Nat->Prop) {t u:Nat} (Sn:Nat->Prop) (h:u≠t):fV S t Sn u=S u:=by funext b;simp[fV,h]
theorem bD.uJ (h:bD w0 F0 X F S s aC w) {t:Nat} {d:I} {v:Value} (aq:d.plain=true) (ai:aH w F s aC d v (λ_=>False)):
  bD w0 F0 X F (fV S t (λ_=>False)) (dq s t d) (dq aC t v) w where
 gm:=h.gm
 gC:=h.gC
 eQ:=h.eQ
 dW:=λu b R=>by simp only[fV]at R;split at R;exact R.elim;exact h.dW u b R
 fb:=λu b R=>by simp only[fV]at R;split at R;exact R.elim;exact h.fb u b R
 e_:=λu x b cY R au=>by
  simp only[fV]at R au;split at R
  .exact R.elim
  .split at au
   .exact au.elim
   .exact h.e_ u x b cY R au
 dx:=λu b R=>by simp only[fV]at R;split at R;exact R.elim;exact h.dx u b R
 dp:=λu=>by
  have hc:∀x,x≠t->(dq s t d x).tree=true->dq s t d x=s x/\dq aC t v x=aC x:=λx au _=>⟨je _ _ au,je _ _ au⟩
  have oz:(dq s t d t).plain=true:=by rw[lR];exact aq
  by_cases hu:u=t
  .subst hu;rw[lR,lR,xc];exact(aH.void hc oz _).1 _ _ _ (Nat.le_refl _) ai
  .rw[je _ _ hu,je _ _ hu,xd _ _ hu];exact(aH.void hc oz _).1 _ _ _ (Nat.le_refl _) (h.dp u)
 old:=h.old
 size:=h.size
 os:=h.os
 tape:=h.tape
 output:=h.output
 gn:=h.gn
theorem bD.Kr (h:bD w0 F0 X F S s aC w) {t:Nat} {d:I} {v:Value} {Sn:Nat->Prop} (ai:d.tree=true) (ad:dD d v) (aJ:ar w F d (cj v) Sn)
  (dv:∀b,Sn b->b<w.heap.size) (bh:∀b,Sn b->¬F b) (bK:∀u b,u≠t->Sn b->¬S u b) (aX:∀b,Sn b->X b\/w0.heap.size<=b):
  bD w0 F0 X F (fV S t Sn) (dq (lQ t s) t d) (dq aC t v) w where
 gm:=h.gm
 gC:=h.gC
 eQ:=h.eQ
 dW:=λu b R=>by simp only[fV]at R;split at R;exact dv b R;exact h.dW u b R
 fb:=λu b R=>by simp only[fV]at R;split at R;exact bh b R;exact h.fb u b R
 e_:=λu x b cY R au=>by
  simp only[fV]at R au;split at R
  .rename_i hu;rw[if_neg (λe=>cY (hu.trans e.symm))]at au;exact bK x b (λe=>cY (hu.trans e.symm)) R au
  .rename_i hu;split at au
   .exact bK u b hu au R
   .exact h.e_ u x b cY R au
 dx:=λu b R=>by simp only[fV]at R;split at R;exact aX b R;exact h.dx u b R
 dp:=λu=>by
  have hc:∀x,x≠t->(dq (lQ t s) t d x).tree=true->dq (lQ t s) t d x=s x/\dq aC t v x=aC x:=λx au a8=>by
   rw[je _ _ au]at a8⊢;exact⟨(RL a8).2,je _ _ au⟩
  by_cases hu:u=t
  .subst hu;rw[lR,lR,xc];exact(aH.cv ai).2 ⟨ad,aJ⟩
  .rw[je _ _ hu,je _ _ hu,xd _ _ hu];exact(aH.cR hc _).1 _ _ _ (Nat.le_refl _) (h.dp u)
 old:=h.old
 size:=h.size
 os:=h.os
 tape:=h.tape
 output:=h.output
 gn:=h.gn
theorem rS (k:Nat) (q:alR) (bg x:I):(∃aE gs,x= .agg aE/\I.put (k::q) bg x= .agg gs)\/(∃aE gs,x= .tuple aE/\I.put (k::q) bg x= .tuple gs)\/
  (∃sz xs ys,x= .ag sz xs/\I.put (k::q) bg x= .ag sz ys)\/(∃y z,x= .bf y/\I.put (k::q) bg x= .bf z)\/I.put (k::q) bg x=x:=by
 cases x with
 |agg aE=>simp only[I.put];split<;>exact .inl ⟨_,_,rfl,rfl⟩
 |tuple aE=>simp only[I.put];split<;>exact .inr (.inl ⟨_,_,rfl,rfl⟩)
 |ag sz aE=>simp only[I.put];split<;>exact .inr (.inr (.inl ⟨_,_,_,rfl,rfl⟩))
 |bf y=>cases k<;>exact .inr (.inr (.inr (.inl ⟨_,_,rfl,rfl⟩)))
 |_=>exact .inr (.inr (.inr (.inr rfl)))
theorem Ks {k:Nat} {q:alR} {bg x:I} {v:Value} (h:iv x v):iv (I.put (k::q) bg x) v:=by
 rcases rS k q bg x with⟨aE,gs,rfl,e⟩|⟨aE,gs,rfl,e⟩|⟨sz,xs,ys,rfl,e⟩|⟨y,z,rfl,e⟩|e<;>rw[e]<;>exact h
theorem Kt {k:Nat} {q:alR} {bg x:I} (h:∀vs,x≠.tuple vs):∀vs,I.put (k::q) bg x≠.tuple vs:=by
 rcases rS k q bg x with⟨aE,gs,rfl,e⟩|⟨aE,gs,rfl,e⟩|⟨sz,xs,ys,rfl,e⟩|⟨y,z,rfl,e⟩|e<;>rw[e]<;>first|exact h|(intro vs bC;cases bC;done)|exact(h _ rfl).elim
theorem xe {k:Nat} {q:alR} {d bg av:I} {v:Value} (h:dD av v) (ai:I.sub (k::q) av=some d) (ab:∀v,iv d v->iv bg v) (ae:(∀vs,d≠.tuple vs)->∀vs,bg≠.tuple vs) (az:bg.wd=d.wd):
  dD (I.put (k::q) bg av) v:=by
 cases av with
 |tuple aE=>
  simp only[I.sub]at ai;split at ai
  .rename_i x au;simp only[I.put,au];simp only[dD]at h⊢;obtain⟨arr,rfl,bZ,jv⟩:=h;refine⟨arr,rfl,by simpa using bZ,λj e y he bb=>?_⟩;rw[getElem?_set]at he;split at he
   .rename_i Eo;subst Eo;split at he
    .simp only[some.injEq]at he;subst he;obtain⟨g1,g2,g3⟩:=jv k x y au bb;refine⟨?_,?_,g3.trans (I.uG q x d bg ai az).symm⟩
     .cases q with
      |nil=>
       simp only[I.sub,some.injEq]at ai;subst ai;exact ab _ g1
      |cons cc q=>exact Ks g1
     .cases q with
      |nil=>
       simp only[I.sub,some.injEq]at ai;subst ai;exact ae g2
      |cons cc q=>exact Kt g2
    .cases he
   .exact jv j e y he bb
  .cases ai
 |agg aE=>simp only[I.put];split<;>exact h
 |ag sz aE=>simp only[I.put];split<;>exact h
 |bf y=>cases k<;>exact h
 |_=>exact h
theorem Ep {d:I} {v:Value} (h:iv d v):iv d.c_ v:=by cases d<;>exact h
theorem Ku {s:aw} {x:Nat} {q:alR} {d:I} (ai:I.sub q (s x)=some d) (aq:d.plain=false):
  (dq (h7 x s) x (I.put q d.c_ (s x)) x).plain=false->(s x).plain=false/\∀v,dD (s x) v->dD (dq (h7 x s) x (I.put q d.c_ (s x)) x) v:=by
  rw[lR];intro fI;cases q with
  |nil=>
   exfalso;have:∀d:I,d.c_.plain=true:=by
    intro d;have key:∀n,(∀d:I,SizeOf.sizeOf d<=n->d.c_.plain=true)/\(∀ds:alW,SizeOf.sizeOf ds<=n->I.eg (I.ln ds)=true):=by
     intro n;induction n with
     |zero=>exact⟨λd bZ=>by cases d<;>simp at bZ<;>omega,λds bZ=>by cases ds<;>simp at bZ<;>omega⟩
     |succ n ih=>
      refine⟨λd bZ=>?_,λds bZ=>?_⟩
      .cases d with
       |agg aE=>simp only[I.c_,I.plain];exact ih.2 _ (by simp at bZ;omega)
       |tuple aE=>simp only[I.c_,I.plain];exact ih.2 _ (by simp at bZ;omega)
       |_=>rfl
      .cases ds with
       |nil=>rfl
       |cons d ds=>
        simp at bZ;simp only[I.ln,I.eg,Bool.and_eq_true];exact⟨ih.1 _ (by omega),ih.2 _ (by omega)⟩
    exact(key _).1 d (Nat.le_refl _)
   simp only[I.put]at fI;rw[this]at fI;cases fI
  |cons k q=>
   refine⟨?_,λv aJ=>xe aJ ai (λv h=>Ep h) (λh vs e=>?_) (I.rQ d)⟩
   .cases bJ:(s x).plain with
    |false=>rfl
    |true=>rw[I.Ej _ _ _ bJ ai]at aq;cases aq
   .cases d<;>first|(exact h _ rfl)|(simp[I.c_]at e)
theorem bD.take (h:bD w0 F0 X F S s aC w) {x:Nat} {q:alR} {d:I} (ai:I.sub q (s x)=some d) (aq:d.plain=false):
  ∃(Sn fo:Nat->Prop) (cQ:alU) (a:Option (Nat×Nat)),bD w0 F0 X F (fV S x Sn) (dq (h7 x s) x (I.put q d.c_ (s x))) aC w/\
   du w q (s x) (cj (aC x)) none=some (d,cQ,a)/\ar w F d cQ fo/\(∀b,fo b->S x b)/\(∀b,Sn b->S x b)/\(∀b,fo b->¬Sn b)/\
   (∀(bg:I) (v:Value) (aN:Nat->Prop),aH w F s aC bg v aN->aH w F (dq (h7 x s) x (I.put q d.c_ (s x))) aC (de.cb x bg) v aN):=by
 have a8:=h0 ai (.inl aq);have au:=h.dp x;rw[aH.cv a8]at au;obtain⟨cQ,a,eh,fo,g0,g1,g2,g3,g4,g5⟩:=ctx q (s x) (cj (aC x)) (S x) none d au.2 ai;have jH:ar w F (I.put q d.c_ (s x)) (cj (aC x)) eh:=by
  have lo:ar w F d.c_ cQ (λ_=>False):=ar.c_ _ _ _ _ g4;have nR:∀b,(eh b\/False)->eh b:=λb h=>h.elim id False.elim;rcases g5 with⟨l,r,aR,aV,aW⟩|⟨b,cur,e,fr,l,r,aR,aV,aW,cm,cC,b7⟩
  .have:=aW w _ cQ _ (λ_ _=>rfl) (λ_ _=>rfl) (I.rQ d) lo (λ_ h=>h.elim);rw[<-aR]at this;exact ar.mono (λ_ h=>h) _ _ _ _ nR this
  .have:=b7 w _ cQ _ (λ_ _=>rfl) (λ_ _ _=>rfl) (by rw[aW,<-cC]) (I.rQ d) lo (λ_ h=>h.elim);exact ar.mono (λ_ h=>h) _ _ _ _ nR this
 have RM:dD (I.put q d.c_ (s x)) (aC x)/\(I.put q d.c_ (s x)).tree=true\/I.put q d.c_ (s x)= .hole:=by
  cases q with
  |nil=>
   simp only[I.sub,some.injEq]at ai;subst ai;simp only[I.put];cases ad:s x with
   |ag sz xs=>right;rfl
   |bf y=>right;rfl
   |dS y=>right;rfl
   |agg aE=>left;rw[ad]at au;exact⟨au.1,rfl⟩
   |tuple aE=>
    left;rw[ad]at au;refine⟨?_,rfl⟩;simp only[dD,I.c_]at au⊢;obtain⟨arr,e,bZ,jv⟩:=au.1;have hl:∀aE:alW,I.ln aE=aE.map I.c_:=by
     intro aE;induction aE with
     |nil=>rfl
     |cons a aE ih=>simp[I.ln,ih]
    refine⟨arr,e,by rw[hl];simpa using bZ,λk f_ y he bb=>?_⟩;rw[hl,getElem?_map]at he;cases ax:aE[k]? with
    |none=>rw[ax]at he;cases he
    |some z=>
     rw[ax]at he;simp only[map_some,some.injEq]at he;subst he;obtain⟨g1,g2,g3⟩:=jv k z y ax bb;refine⟨Ep g1,λvs e=>?_,g3.trans (I.rQ z).symm⟩;cases z<;>first|(exact g2 _ rfl)|(simp[I.c_]at e)
   |fJ _ _=>right;simp[I.c_]
   |_=>rw[ad]at aq;simp[I.plain]at aq
  |cons k q=>
   left;refine⟨xe au.1 ai (λv h=>Ep h) (λh vs e=>?_) (I.rQ d),?_⟩
   .cases d<;>first|(exact h _ rfl)|(simp[I.c_]at e)
   .rcases rS k q d.c_ (s x)with⟨aE,gs,aR,e⟩|⟨aE,gs,aR,e⟩|⟨sz,xs,ys,aR,e⟩|⟨y,z,aR,e⟩|e<;>rw[e]<;>first|rfl|exact a8
 refine⟨eh,fo,cQ,a,?_,g0,g4,g2,g1,λb ab ae=>g3 b ae ab,?_⟩
 rotate_left
 .have hc:∀y,y≠x->(dq (h7 x s) x (I.put q d.c_ (s x)) y).tree=true->dq (h7 x s) x (I.put q d.c_ (s x)) y=s y/\aC y=aC y:=λy bb a8=>by
   rw[je _ _ bb]at a8⊢;exact⟨(AP a8).2,rfl⟩
  intro bg v aN hb;exact(aH.cb hc rfl (Ku ai aq) (λ_ _ _ _ _ _=>rfl) (λ_ _=>rfl) _).1 _ _ _ (Nat.le_refl _) (λ_ _=>rfl) hb
 have hc:∀y,y≠x->(dq (h7 x s) x (I.put q d.c_ (s x)) y).tree=true->dq (h7 x s) x (I.put q d.c_ (s x)) y=s y/\aC y=aC y:=λy bb a8=>by
  rw[je _ _ bb]at a8⊢;exact⟨(AP a8).2,rfl⟩
 have fU:=Ku (s:=s) (x:=x) ai aq;constructor;case gm=>exact h.gm
 case gC=>exact h.gC
 case eQ=>exact h.eQ
 case dW=>exact λu b R=>by simp only[fV]at R;split at R;exact h.dW x b (g1 b R);exact h.dW u b R
 case fb=>exact λu b R=>by simp only[fV]at R;split at R;exact h.fb x b (g1 b R);exact h.fb u b R
 case e_=>
  intro u y b cY R bb;simp only[fV]at R bb;split at R
  .rename_i hu;rw[if_neg (λe=>cY (hu.trans e.symm))]at bb;exact h.e_ x y b (λe=>cY (hu.trans e)) (g1 b R) bb
  .rename_i hu;split at bb
   .exact h.e_ u x b hu R (g1 b bb)
   .exact h.e_ u y b cY R bb
 case dx=>exact λu b R=>by simp only[fV]at R;split at R;exact h.dx x b (g1 b R);exact h.dx u b R
 case dp=>
  intro u;by_cases hu:u=x
  .subst hu;rw[lR,xc];rcases RM with⟨aR,aV⟩|e
   .exact(aH.cv aV).2 ⟨aR,jH⟩
   .rw[e,aH];trivial
  .rw[je _ _ hu,xd _ _ hu];exact(aH.cb hc rfl fU (λ_ _ _ _ _ _=>rfl) (λ_ _=>rfl) _).1 _ _ _ (Nat.le_refl _) (λ_ _=>rfl) (h.dp u)
 case old=>exact h.old
 case size=>exact h.size
 case os=>exact h.os
 case tape=>exact h.tape
 case output=>exact h.output
 case gn=>exact h.gn
theorem bD.store (h:bD w0 F0 X F S s aC w) {x:Nat} {q:alR} {d bg:I} (ai:I.sub q (s x)=some d) (an:I.fD q (s x)=true)
  {fT:alU} {Sn:Nat->Prop} (aJ:ar w F bg fT Sn) (kG:bg.wd=d.wd)
  (dv:∀b,Sn b->b<w.heap.size) (bh:∀b,Sn b->¬F b) (bK:∀u b,Sn b->¬S u b) (aX:∀b,Sn b->X b\/w0.heap.size<=b):
  ∃(cQ:alU) (b:Nat) (l r:alU) (cur:Array Value) (e:TypeId) (fr:Nat×Nat),du w q (s x) (cj (aC x)) none=some (d,cQ,some (b,l.length))/\
   w.heap[b]? =some (.cells cur e fr)/\cur.toList=l++(cQ++r)/\k2 fr cur.size/\
   ∀aF,aF.heap[b]? =some (.cells (l++(fT++r)).toArray e fr)->(∀c,c≠b->aF.heap[c]? =w.heap[c]?)->aF.heap.size=w.heap.size->aF.os=w.os->aF.tape=w.tape->Out aF w->
    ∃aN,bD w0 F0 X F aN (dq (h7 x s) x (I.put q bg (s x))) aC aF:=by
 have a8:=h0 ai (.inr an);have au:=h.dp x;rw[aH.cv a8]at au;obtain⟨cQ,a,eh,fo,g0,g1,g2,g3,g4,g5⟩:=ctx q (s x) (cj (aC x)) (S x) none d au.2 ai;have RN:Deep w F q (s x) (cj (aC x)) d cQ a eh:=by
  rcases g5 with⟨l,r,aR,aV,aW⟩|g5
  .exfalso;have lS:∀(q:alR) (av:I) (cs:alU) (a0:Option (Nat×Nat)) (d:I) (cQ:alU),I.fD q av=true->du w q av cs a0=some (d,cQ,none)->False:=by
    intro q;induction q with
    |nil=>intro av cs a0 d cQ an;simp[I.fD]at an
    |cons k q ih=>
     have Kv:∀(q:alR) (av:I) (cs:alU) (l:Nat×Nat) (d:I) (cQ:alU),du w q av cs (some l)=some (d,cQ,none)->False:=by
      intro q;induction q with
      |nil=>intro av cs l d cQ h;simp[du]at h
      |cons k q AQ=>
       intro av cs l d cQ h;cases av with
       |agg aE=>rw[du]at h;split at h;exact AQ _ _ _ _ _ h;cases h
       |tuple aE=>rw[du]at h;split at h;exact AQ _ _ _ _ _ h;cases h
       |ag sz xs=>simp only[du]at h;split at h;exact AQ _ _ _ _ _ h;cases h
       |bf y=>
        cases k with
        |zero=>rw[du.eq_def]at h;simp only at h;split at h;exact AQ _ _ _ _ _ h;cases h
        |succ k=>rw[show du w ((k+1)::q) (.bf y) cs (some l)=none from rfl]at h;cases h
       |_=>simp[du]at h
     intro av cs a0 d cQ an h;cases av with
     |agg aE=>
      simp only[I.fD]at an;split at an
      .rename_i y bb;simp only[du,bb]at h;exact ih _ _ _ _ _ an h
      .cases an
     |tuple aE=>
      simp only[I.fD]at an;split at an
      .rename_i y bb;simp only[du,bb]at h;exact ih _ _ _ _ _ an h
      .cases an
     |ag sz xs=>simp only[du]at h;split at h;exact Kv _ _ _ _ _ _ h;cases h
     |bf y=>
      cases k with
      |zero=>rw[du.eq_def]at h;simp only at h;split at h;exact Kv _ _ _ _ _ _ h;cases h
      |succ k=>rw[show du w ((k+1)::q) (.bf y) cs a0=none from rfl]at h;cases h
     |_=>simp[I.fD]at an
   simp only[map_none]at aV;subst aV;exact lS _ _ _ _ _ _ an g0
  .exact g5
 obtain⟨b,cur,e,fr,l,r,rfl,aV,aW,cm,cC,b7⟩:=RN;refine⟨cQ,b,l,r,cur,e,fr,g0,aW,cC,cm,?_⟩;intro aF ll lT ea Er Es s0;have s3:S x b:=g1 _ aV;have pH:∀c,F c->aF.heap[c]? =w.heap[c]? :=λc an=>lT c (by rintro rfl;exact h.fb x _ s3 an);have ajK:fT.length=cQ.length:=by rw[ar.length _ _ _ aJ,ar.length _ _ _ g4,kG]
 have jH:=b7 aF bg fT Sn pH (λc _ cY=>lT c cY) ll kG
  (ar.frame pH _ _ _ (λc an=>lT c (by rintro rfl;exact bK x _ an s3)) aJ) (λc an nR=>bK x c an (g1 _ nR))
 obtain⟨k,iU,rfl⟩:∃k iU,q=k::iU:=by
  cases q with
  |nil=>simp[I.fD]at an
  |cons k q=>exact⟨k,q,rfl⟩
 have xf:∀v,dD (s x) v->dD (I.put (k::iU) bg (s x)) v:=by
  intro v aJ;rcases rS k iU bg (s x)with⟨aE,gs,aR,e⟩|⟨aE,gs,aR,e⟩|⟨sz,xs,ys,aR,e⟩|⟨y,z,aR,e⟩|e
  .rw[e];rw[aR]at aJ;exact aJ
  ·
   rw[aR]at aJ ai an⊢;simp only[I.fD]at an;split at an
   .rename_i y bb;simp only[I.put,bb];cases iU with
    |nil=>simp[I.fD]at an
    |cons cc gD=>
     simp only[dD]at aJ⊢;obtain⟨arr,rfl,bZ,jv⟩:=aJ;refine⟨arr,rfl,by simpa using bZ,λj e lU he s4=>?_⟩;rw[getElem?_set]at he;split at he
     .rename_i Eo;subst Eo;split at he
      .simp only[some.injEq]at he;subst he;obtain⟨g1,g2,g3⟩:=jv _ y lU bb s4;simp only[I.sub,bb]at ai;exact⟨Ks g1,Kt g2,g3.trans (I.uG (cc::gD) y d bg ai kG).symm⟩
      .cases he
     .exact jv j e lU he s4
   .cases an
  .rw[e];rw[aR]at aJ;exact aJ
  .rw[e];rw[aR]at aJ;exact aJ
  .rw[e];exact aJ
 have RO:(I.put (k::iU) bg (s x)).tree=true:=by
  rcases rS k iU bg (s x)with⟨aE,gs,aR,e⟩|⟨aE,gs,aR,e⟩|⟨sz,xs,ys,aR,e⟩|⟨y,z,aR,e⟩|e<;>rw[e]<;>first|rfl|exact a8
 let aB:=dq (h7 x s) x (I.put (k::iU) bg (s x))
 have hc:∀y,y≠x->(aB y).tree=true->aB y=s y/\aC y=aC y:=λy bb a8=>by
  have e:aB y=cb x (s y):=je _ _ bb;rw[e]at a8⊢;exact⟨(AP a8).2,rfl⟩
 have fU:(aB x).plain=false->(s x).plain=false/\∀v,dD (s x) v->dD (aB x) v:=by
  intro _;refine⟨?_,?_⟩
  .cases bJ:(s x).plain with
   |false=>rfl
   |true=>rw[I.Kp _ _ bJ]at an;cases an
  .simp only[aB,lR];exact xf
 refine⟨fV S x (λc=>eh c\/Sn c),?_⟩;constructor;case gm=>exact h.gm
 case gC=>exact h.gC
 case eQ=>exact λb R=>by rw[ea];exact h.eQ b R
 case dW=>
  intro u c R;rw[ea];simp only[fV]at R;split at R
  .rcases R with R|R
   .exact h.dW x c (g1 c R)
   .exact dv c R
  .exact h.dW u c R
 case fb=>
  intro u c R;simp only[fV]at R;split at R
  .rcases R with R|R
   .exact h.fb x c (g1 c R)
   .exact bh c R
  .exact h.fb u c R
 case e_=>
  intro u y c cY R bb;simp only[fV]at R bb;split at R
  .rename_i hu;rw[if_neg (λe=>cY (hu.trans e.symm))]at bb;rcases R with R|R
   .exact h.e_ x y c (λe=>cY (hu.trans e)) (g1 c R) bb
   .exact bK y c R bb
  .rename_i hu;split at bb
   .rcases bb with bb|bb
    .exact h.e_ u x c hu R (g1 c bb)
    .exact bK u c bb R
   .exact h.e_ u y c cY R bb
 case dx=>
  intro u c R;simp only[fV]at R;split at R
  .rcases R with R|R
   .exact h.dx x c (g1 c R)
   .exact aX c R
  .exact h.dx u c R
 case dp=>
  intro u;by_cases hu:u=x
  .subst hu;rw[lR,xc];exact(aH.cv RO).2 ⟨xf _ au.1,jH⟩
  .rw[je _ _ hu,xd _ _ hu];have cY:∀y c,y≠x->S y c->aF.heap[c]? =w.heap[c]? :=λy c bb an=>lT c (by rintro rfl;exact h.e_ y x c bb an s3);refine(aH.cb hc rfl fU (λy gD d2 bb hx uK=>?_) pH _).1 _ _ _ (Nat.le_refl _) (λc an=>cY u c hu an) (h.dp u);have xg:=h.dp y;rw[aH.cv (h0 hx uK)]at xg;exact AO gD _ _ _ none d2 xg.2 hx (λc an=>cY y c bb an)
 case old=>
  intro c dv jJ;by_cases rT:c=b
  .subst rT;exfalso;rcases h.dx x c s3 with lo|lo
   .exact jJ lo
   .omega
  .exact(lT c rT).trans (h.old c dv jJ)
 case size=>rw[ea];exact h.size
 case os=>exact Er.trans h.os
 case tape=>exact Es.trans h.tape
 case output=>exact s0.trans h.output
 case gn=>exact h.gn
end
end Go.de
