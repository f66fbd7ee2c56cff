/- Part of a proof that a law returns true for every input. No condition. -/
import Derived.Test.YtmaepbgkcmjcjahGreatDoorFwA
import Derived.Laws.AppendOwn
import Derived.Calls
namespace Go.ei
open List Option Go.IntKind Nat Or
inductive Et where
 |mp (es:aza)
 |ky
 |jR (T e:TypeId) (l9:azc)
inductive I where
 |hole
 |bool (b:Bool)
 |gu
 |int (k:IntKind) (n:Int)
 |str (s:azc)
 |ez
 |bd
 |slice (xs:List I)
 |ae (sz:Nat) (xs:List I)
 |ref (d:I)
 |aM (d:I)
 |agg (aG:List I)
 |tuple (vs:List I)
 |fn (f:FuncId) (cap:List I)
 |h (x:Nat) (q:azf)
 |ax (x:Nat) (q:azf)
 |ab (x:Nat) (k:Nat)
 |ck (o:Et)
 deriving Inhabited
abbrev azk:=List I
abbrev azj:=List (Nat×I)
mutual
def I.wd:I->Nat
 | .agg aG=>I.e9 aG
 | .tuple aG=>I.e9 aG
 |_=>1
def I.e9:azk->Nat
 |[]=>0
 |d::ds=>d.wd+I.e9 ds
end
def jD (w:World) (b o:Nat) (cs:azi):Prop:=∀j c,cs[j]? =some c->w.cell? ⟨b,o+j,none⟩=some c
def pZ (fr:Nat×Nat) (n:Nat):Prop:=∀o,o<n->¬(fr.1<=o/\o<fr.2)
theorem pZ.le {fr:Nat×Nat} {m n:Nat} (h:pZ fr n) (hm:m<=n):pZ fr m:=λo bO=>h o (Nat.lt_of_lt_of_le bO hm)
theorem pZ.low {fr:Nat×Nat} {n k:Nat} (h:pZ fr (n+k)):pZ fr n:=h.le (le_add_right _ _)
def Value.hO:Value->Bool
 | .agg _=>false
 | .tuple _=>false
 |_=>true
def I.single:I->Bool
 | .agg _=>false
 | .tuple _=>false
 | .hole=>false
 |_=>true
def oS (w:World):Et->azi->(Nat->Prop)->Prop
 | .mp es,cs,S=>∃r ms p0,cs=[.map (some r)]/\S r/\w.heap[r]? =some (.map ms p0)/\ms.toList.map (λe=>(e.key,e.val))=es.map (λe=>(.string ⟨⟨e.1⟩⟩,.bool e.2))
 | .ky,cs,_=>cs=[.map none]
 | .jR T e l9,cs,S=>∃b a y6,cs=[.pointer (some ⟨b,0,none⟩)]/\S b/\w.heap[b]? =some (.cells #[a,y6] T (0,0))/\(a= .pointer none\/a= .pointer (some ⟨b,0,none⟩))/\
   ((l9=[]/\y6= .slice none 0 0)\/
     ∃g cap cur,y6= .slice (some ⟨g,0,none⟩) l9.length cap/\S g/\g≠b/\w.heap[g]? =some (.cells cur e (0,0))/\l9.length<=cap/\cap<=maxLen/\cur.size=cap/\
      cur.toList.take l9.length=l9.map λx=>.int .u8 x.toNat)
theorem oS.frame {w aP:World}:∀{o:Et} {cs:azi} {S:Nat->Prop},(∀b,S b->aP.heap[b]? =w.heap[b]?)->oS w o cs S->oS aP o cs S
 | .mp _,_,_,cq,⟨r,ms,p0,ad,ag,aD,bh⟩=>⟨r,ms,p0,ad,ag,(cq _ ag).trans aD,bh⟩
 | .ky,_,_,_,h=>h
 | .jR _ _ _,_,_,cq,⟨b,a,y6,ad,ag,aD,bh,b1⟩=>⟨b,a,y6,ad,ag,(cq _ ag).trans aD,bh,b1.imp (λh=>h) λ⟨g,cap,cur,xy,i2,i3,i4,i5⟩=>⟨g,cap,cur,xy,i2,i3,(cq _ i2).trans i4,i5⟩⟩
theorem oS.mono {w:World}:∀{o:Et} {cs:azi} {S a_:Nat->Prop},(∀b,S b->a_ b)->oS w o cs S->oS w o cs a_
 | .mp _,_,_,_,cq,⟨r,ms,p0,ad,ag,aD⟩=>⟨r,ms,p0,ad,cq _ ag,aD⟩
 | .ky,_,_,_,_,h=>h
 | .jR _ _ _,_,_,_,cq,⟨b,a,y6,ad,ag,aD,bh,b1⟩=>⟨b,a,y6,ad,cq _ ag,aD,bh,b1.imp (λh=>h) λ⟨g,cap,cur,xy,i2,i3⟩=>⟨g,cap,cur,xy,cq _ i2,i3⟩⟩
theorem oS.one {w:World}:∀{o:Et} {cs:azi} {S:Nat->Prop},oS w o cs S->∃v,Value.hO v=true/\cs=[v]
 | .mp _,_,_,⟨_,_,_,h,_⟩=>⟨_,rfl,h⟩
 | .ky,_,_,h=>⟨_,rfl,h⟩
 | .jR _ _ _,_,_,⟨_,_,_,h,_⟩=>⟨_,rfl,h⟩
mutual
def az (w:World) (F:Nat->Prop):I->azi->(Nat->Prop)->Prop
 | .hole,cs,_=>∃v,Value.hO v=true/\cs=[v]
 | .bool b,cs,_=>cs=[.bool b]
 | .gu,cs,_=>∃b,cs=[.bool b]
 | .int k n,cs,_=>cs=[.int k n]
 | .str s,cs,_=>cs=[.string ⟨⟨s⟩⟩]
 | .ez,cs,_=>cs=[.pointer none]
 | .bd,cs,_=>cs=[.slice none 0 0]
 | .slice xs,cs,_=>(xs=[]/\∃a c,cs=[.slice a 0 c]/\c<=maxLen/\(a=none->c=0))\/
   ∃b o cap fp sz,cs=[.slice (some ⟨b,o,none⟩) xs.length cap]/\F b/\xs.length<=cap/\cap<=maxLen/\(∀d∈xs,d.wd=sz)/\
    jD w b o fp/\bA w F xs fp (λ_=>False)
 | .ae sz xs,cs,S=>(xs=[]/\∃a,cs=[.slice a 0 0])\/
   ∃b cap cur e fr a_,cs=[.slice (some ⟨b,0,none⟩) xs.length cap]/\S b/\w.heap[b]? =some (.cells cur e fr)/\pZ fr (cur.size+(sz-1))/\
    xs.length<=cap/\cap<=maxLen/\cur.size=cap*sz/\(∀d∈xs,d.wd=sz)/\bA w F xs (cur.toList.take (xs.length*sz)) a_/\(∀c,a_ c->S c)/\¬a_ b
 | .ref d,cs,_=>∃b o fp,cs=[.pointer (some ⟨b,o,none⟩)]/\F b/\jD w b o fp/\az w F d fp (λ_=>False)
 | .aM d,cs,S=>∃b cur e fr a_,cs=[.pointer (some ⟨b,0,none⟩)]/\S b/\w.heap[b]? =some (.cells cur e fr)/\pZ fr cur.size/\
   az w F d cur.toList a_/\(∀c,a_ c->S c)/\¬a_ b
 | .agg aG,cs,S=>bA w F aG cs S
 | .tuple aG,cs,S=>bA w F aG cs S
 | .fn f caps,cs,_=>∃arr:Array Value,cs=[.func (.func f) #[] arr]/\(∀d∈caps,d.single=true)/\bA w F caps arr.toList (λ_=>False)
 | .h _ _,_,_=>False
 | .ax _ _,_,_=>False
 | .ab _ _,_,_=>False
 | .ck o,cs,S=>oS w o cs S
def bA (w:World) (F:Nat->Prop):azk->azi->(Nat->Prop)->Prop
 |[],cs,_=>cs=[]
 |d::ds,cs,S=>∃cx c2 cO eJ,cs=cx++c2/\az w F d cx cO/\bA w F ds c2 eJ/\(∀b,cO b->S b)/\(∀b,eJ b->S b)/\(∀b,cO b->¬eJ b)
end
theorem cell?_of_block {w aP:World} {b:Nat} (h:aP.heap[b]? =w.heap[b]?) (o:Nat):aP.cell? ⟨b,o,none⟩=w.cell? ⟨b,o,none⟩:=by
 simp[World.cell?,h]
theorem jD.frame {w aP:World} {b o:Nat} {cs:azi} (h:aP.heap[b]? =w.heap[b]?) (aS:jD w b o cs):jD aP b o cs:=
 λj c au=>(cell?_of_block h _).trans (aS j c au)
mutual
theorem az.frame {w aP:World} {F:Nat->Prop} (bJ:∀b,F b->aP.heap[b]? =w.heap[b]?):
  ∀(d:I) (cs:azi) (S:Nat->Prop),(∀b,S b->aP.heap[b]? =w.heap[b]?)->az w F d cs S->az aP F d cs S
 | .hole,_,_,_,h=>h
 | .bool _,_,_,_,h=>h
 | .gu,_,_,_,h=>h
 | .int _ _,_,_,_,h=>h
 | .str _,_,_,_,h=>h
 | .ez,_,_,_,h=>h
 | .bd,_,_,_,h=>h
 | .slice xs,cs,S,cq,h=>by
   rw[az]at h⊢;rcases h with h|⟨b,o,cap,fp,sz,ad,ag,aD,bh,b1,du,di⟩
   .exact .inl h
   .exact .inr ⟨b,o,cap,fp,sz,ad,ag,aD,bh,b1,du.frame (bJ _ ag),bA.frame bJ xs _ _ (λ_ h=>h.elim) di⟩
 | .ae sz xs,cs,S,cq,h=>by
   rw[az]at h⊢;rcases h with h|⟨b,cap,cur,e,fr,a_,ad,ag,aD,bh,b1,du,di,hi,iV,lh,oT⟩
   .exact .inl h
   .exact .inr ⟨b,cap,cur,e,fr,a_,ad,ag,(cq _ ag).trans aD,bh,b1,du,di,hi,bA.frame bJ xs _ _ (λc au=>cq _ (lh _ au)) iV,lh,oT⟩
 | .ref d,cs,S,cq,h=>by
   rw[az]at h⊢;obtain⟨b,o,fp,ad,ag,aD,bh⟩:=h;exact⟨b,o,fp,ad,ag,aD.frame (bJ _ ag),az.frame bJ d _ _ (λ_ h=>h.elim) bh⟩
 | .aM d,cs,S,cq,h=>by
   rw[az]at h⊢;obtain⟨b,cur,e,fr,a_,ad,ag,aD,bh,b1,du,di⟩:=h;exact⟨b,cur,e,fr,a_,ad,ag,(cq _ ag).trans aD,bh,az.frame bJ d _ _ (λc au=>cq _ (du _ au)) b1,du,di⟩
 | .agg aG,cs,S,cq,h=>by rw[az]at h⊢;exact bA.frame bJ aG _ _ cq h
 | .tuple aG,cs,S,cq,h=>by rw[az]at h⊢;exact bA.frame bJ aG _ _ cq h
 | .fn _ caps,cs,S,cq,h=>by
   rw[az]at h⊢;obtain⟨arr,ad,ag,aD⟩:=h;exact⟨arr,ad,ag,bA.frame bJ caps _ _ (λ_ h=>h.elim) aD⟩
 | .h _ _,_,_,_,h=>h
 | .ax _ _,_,_,_,h=>h
 | .ab _ _,_,_,_,h=>h
 | .ck _,_,_,cq,h=>oS.frame cq h
theorem bA.frame {w aP:World} {F:Nat->Prop} (bJ:∀b,F b->aP.heap[b]? =w.heap[b]?):
  ∀(ds:azk) (cs:azi) (S:Nat->Prop),(∀b,S b->aP.heap[b]? =w.heap[b]?)->bA w F ds cs S->bA aP F ds cs S
 |[],_,_,_,h=>h
 |d::ds,cs,S,cq,h=>by
  rw[bA]at h⊢;obtain⟨cx,c2,cO,eJ,ad,ag,aD,bh,b1,du⟩:=h;exact⟨cx,c2,cO,eJ,ad,az.frame bJ d _ _ (λb ab=>cq _ (bh _ ab)) ag,bA.frame bJ ds _ _ (λb ab=>cq _ (b1 _ ab)) aD,bh,b1,du⟩
end
mutual
theorem az.mono {w:World} {F cn:Nat->Prop} (bJ:∀b,F b->cn b):
  ∀(d:I) (cs:azi) (S a_:Nat->Prop),(∀b,S b->a_ b)->az w F d cs S->az w cn d cs a_
 | .hole,_,_,_,_,h=>h
 | .bool _,_,_,_,_,h=>h
 | .gu,_,_,_,_,h=>h
 | .int _ _,_,_,_,_,h=>h
 | .str _,_,_,_,_,h=>h
 | .ez,_,_,_,_,h=>h
 | .bd,_,_,_,_,h=>h
 | .slice xs,cs,S,_,cq,h=>by
   rw[az]at h⊢;rcases h with h|⟨b,o,cap,fp,sz,ad,ag,aD,bh,b1,du,di⟩
   .exact .inl h
   .exact .inr ⟨b,o,cap,fp,sz,ad,bJ _ ag,aD,bh,b1,du,bA.mono bJ xs _ _ _ (λ_ h=>h) di⟩
 | .ae sz xs,cs,S,_,cq,h=>by
   rw[az]at h⊢;rcases h with h|⟨b,cap,cur,e,fr,a_,ad,ag,aD,bh,b1,du,di,hi,iV,lh,oT⟩
   .exact .inl h
   .exact .inr ⟨b,cap,cur,e,fr,a_,ad,cq _ ag,aD,bh,b1,du,di,hi,bA.mono bJ xs _ _ _ (λ_ h=>h) iV,λc au=>cq _ (lh _ au),oT⟩
 | .ref d,cs,S,_,cq,h=>by
   rw[az]at h⊢;obtain⟨b,o,fp,ad,ag,aD,bh⟩:=h;exact⟨b,o,fp,ad,bJ _ ag,aD,az.mono bJ d _ _ _ (λ_ h=>h) bh⟩
 | .aM d,cs,S,_,cq,h=>by
   rw[az]at h⊢;obtain⟨b,cur,e,fr,a_,ad,ag,aD,bh,b1,du,di⟩:=h;exact⟨b,cur,e,fr,a_,ad,cq _ ag,aD,bh,az.mono bJ d _ _ _ (λ_ h=>h) b1,λc au=>cq _ (du _ au),di⟩
 | .agg aG,cs,S,_,cq,h=>by rw[az]at h⊢;exact bA.mono bJ aG _ _ _ cq h
 | .tuple aG,cs,S,_,cq,h=>by rw[az]at h⊢;exact bA.mono bJ aG _ _ _ cq h
 | .fn _ caps,cs,S,_,cq,h=>by
   rw[az]at h⊢;obtain⟨arr,ad,ag,aD⟩:=h;exact⟨arr,ad,ag,bA.mono bJ caps _ _ _ (λ_ h=>h) aD⟩
 | .h _ _,_,_,_,_,h=>h
 | .ax _ _,_,_,_,_,h=>h
 | .ab _ _,_,_,_,_,h=>h
 | .ck _,_,_,_,cq,h=>oS.mono cq h
theorem bA.mono {w:World} {F cn:Nat->Prop} (bJ:∀b,F b->cn b):
  ∀(ds:azk) (cs:azi) (S a_:Nat->Prop),(∀b,S b->a_ b)->bA w F ds cs S->bA w cn ds cs a_
 |[],_,_,_,_,h=>h
 |d::ds,cs,S,_,cq,h=>by
  rw[bA]at h⊢;obtain⟨cx,c2,cO,eJ,ad,ag,aD,bh,b1,du⟩:=h;exact⟨cx,c2,cO,eJ,ad,az.mono bJ d _ _ _ (λ_ h=>h) ag,bA.mono bJ ds _ _ _ (λ_ h=>h) aD,λb ab=>cq _ (bh _ ab),λb ab=>cq _ (b1 _ ab),du⟩
end
mutual
theorem az.length {w:World} {F:Nat->Prop}:∀(d:I) (cs:azi) (S:Nat->Prop),az w F d cs S->cs.length=d.wd
 | .hole,cs,S,h=>by rw[az]at h;obtain⟨v,_,rfl⟩:=h;rfl
 | .bool _,cs,S,h=>by rw[az]at h;subst h;rfl
 | .gu,cs,S,h=>by rw[az]at h;obtain⟨b,rfl⟩:=h;rfl
 | .int _ _,cs,S,h=>by rw[az]at h;subst h;rfl
 | .str _,cs,S,h=>by rw[az]at h;subst h;rfl
 | .ez,cs,S,h=>by rw[az]at h;subst h;rfl
 | .bd,cs,S,h=>by rw[az]at h;subst h;rfl
 | .slice xs,cs,S,h=>by
   rw[az]at h;rcases h with⟨_,a,c,rfl,_⟩|⟨b,o,cap,fp,sz,rfl,_⟩<;>rfl
 | .ae sz xs,cs,S,h=>by
   rw[az]at h;rcases h with⟨_,a,rfl⟩|⟨b,cap,cur,e,fr,a_,rfl,_⟩<;>rfl
 | .ref d,cs,S,h=>by rw[az]at h;obtain⟨b,o,fp,rfl,_⟩:=h;rfl
 | .aM d,cs,S,h=>by rw[az]at h;obtain⟨b,o,fp,_,_,rfl,_⟩:=h;rfl
 | .agg aG,cs,S,h=>by rw[az]at h;exact bA.length aG _ _ h
 | .tuple aG,cs,S,h=>by rw[az]at h;exact bA.length aG _ _ h
 | .fn _ _,cs,S,h=>by rw[az]at h;obtain⟨arr,rfl,_⟩:=h;rfl
 | .h _ _,cs,S,h=>by rw[az]at h;exact h.elim
 | .ax _ _,cs,S,h=>by rw[az]at h;exact h.elim
 | .ab _ _,cs,S,h=>by rw[az]at h;exact h.elim
 | .ck _,cs,S,h=>by rw[az]at h;obtain⟨v,_,rfl⟩:=oS.one h;rfl
theorem bA.length {w:World} {F:Nat->Prop}:∀(ds:azk) (cs:azi) (S:Nat->Prop),bA w F ds cs S->cs.length=I.e9 ds
 |[],cs,S,h=>by rw[bA]at h;subst h;rfl
 |d::ds,cs,S,h=>by
  rw[bA]at h;obtain⟨cx,c2,cO,eJ,rfl,ag,aD,_⟩:=h;rw[length_append,az.length d _ _ ag,bA.length ds _ _ aD,I.e9]
end
mutual
def I.share:I->I
 | .ae _ xs=>.slice (I.shares xs)
 | .aM d=>.ref d.share
 | .slice xs=>.slice (I.shares xs)
 | .ref d=>.ref d.share
 | .agg aG=>.agg (I.shares aG)
 | .tuple aG=>.tuple (I.shares aG)
 | .ck _=>.hole
 |d=>d
def I.shares:azk->azk
 |[]=>[]
 |d::ds=>d.share::I.shares ds
end
theorem I.xz (ds:azk):I.shares ds=ds.map I.share:=by
 induction ds with
 |nil=>rfl
 |cons d ds ih=>simp[I.shares,ih]
mutual
theorem I.Iy:∀d:I,d.share.wd=d.wd
 | .hole=>rfl
 | .bool _=>rfl
 | .gu=>rfl
 | .int _ _=>rfl
 | .str _=>rfl
 | .ez=>rfl
 | .bd=>rfl
 | .slice _=>rfl
 | .ae _ _=>rfl
 | .ref _=>rfl
 | .aM _=>rfl
 | .agg aG=>by simp only[I.share,I.wd];exact I.Mx aG
 | .tuple aG=>by simp only[I.share,I.wd];exact I.Mx aG
 | .fn _ _=>rfl
 | .h _ _=>rfl
 | .ax _ _=>rfl
 | .ab _ _=>rfl
 | .ck _=>rfl
theorem I.Mx:∀ds:azk,I.e9 (I.shares ds)=I.e9 ds
 |[]=>rfl
 |d::ds=>by simp only[I.shares,I.e9];rw[I.Iy d,I.Mx ds]
end
theorem Bv {w:World} {b:Nat} {cur:Array Value} {e:TypeId} {fr:Nat×Nat} (h:w.heap[b]? =some (.cells cur e fr)) (n:Nat):jD w b 0 (cur.toList.take n):=by
 intro j c au;rw[getElem?_take]at au;split at au
 .simp[World.cell?,h];simpa using au
 .cases au
mutual
theorem az.shared {w:World} {F cn:Nat->Prop} (bJ:∀b,F b->cn b):
  ∀(d:I) (cs:azi) (S:Nat->Prop),(∀b,S b->cn b)->az w F d cs S->az w cn d.share cs (λ_=>False)
 | .hole,_,_,_,h=>h
 | .bool _,_,_,_,h=>h
 | .gu,_,_,_,h=>h
 | .int _ _,_,_,_,h=>h
 | .str _,_,_,_,h=>h
 | .ez,_,_,_,h=>h
 | .bd,_,_,_,h=>h
 | .slice xs,cs,S,cq,h=>by
   rw[I.share,az];rw[az]at h;rcases h with⟨rfl,a,c,rfl,au⟩|⟨b,o,cap,fp,sz,ad,ag,aD,bh,b1,du,di⟩
   .exact .inl ⟨rfl,a,c,rfl,au⟩
   .refine .inr ⟨b,o,cap,fp,sz,?_,bJ _ ag,?_,bh,?_,du,bA.shared bJ xs _ _ (λ_ h=>h.elim) di⟩
    .simpa [I.xz]using ad
    .simpa [I.xz]using aD
    .intro d ao;rw[I.xz]at ao;obtain⟨bM,jo,rfl⟩:=mem_map.1 ao;rw[I.Iy];exact b1 _ jo
 | .ae sz xs,cs,S,cq,h=>by
   rw[I.share,az];rw[az]at h;rcases h with⟨rfl,a,rfl⟩|⟨b,cap,cur,e,fr,a_,ad,ag,aD,bh,b1,du,di,hi,iV,lh,oT⟩
   .exact .inl ⟨rfl,a,0,rfl,zero_le _,λ_=>rfl⟩
   .refine .inr ⟨b,0,cap,_,sz,?_,cq _ ag,?_,du,?_,Bv aD _,bA.shared bJ xs _ _ (λc au=>cq _ (lh _ au)) iV⟩
    .simpa [I.xz]using ad
    .simpa [I.xz]using b1
    .intro d ao;rw[I.xz]at ao;obtain⟨bM,jo,rfl⟩:=mem_map.1 ao;rw[I.Iy];exact hi _ jo
 | .ref d,cs,S,cq,h=>by
   rw[I.share,az];rw[az]at h;obtain⟨b,o,fp,ad,ag,aD,bh⟩:=h;exact⟨b,o,fp,ad,bJ _ ag,aD,az.shared bJ d _ _ (λ_ h=>h.elim) bh⟩
 | .aM d,cs,S,cq,h=>by
   rw[I.share,az];rw[az]at h;obtain⟨b,cur,e,fr,a_,ad,ag,aD,bh,b1,du,di⟩:=h;refine⟨b,0,cur.toList,ad,cq _ ag,?_,az.shared bJ d _ _ (λc au=>cq _ (du _ au)) b1⟩;have:=Bv aD cur.toList.length
   rwa [take_length]at this
 | .agg aG,cs,S,cq,h=>by rw[I.share,az];rw[az]at h;exact bA.shared bJ aG _ _ cq h
 | .tuple aG,cs,S,cq,h=>by rw[I.share,az];rw[az]at h;exact bA.shared bJ aG _ _ cq h
 | .fn f caps,cs,S,cq,h=>by
   show az w cn (.fn f caps) cs _;rw[az]at h⊢;obtain⟨arr,ad,ag,aD⟩:=h;exact⟨arr,ad,ag,bA.mono bJ caps _ _ _ (λ_ h=>h) aD⟩
 | .h _ _,_,_,_,h=>h
 | .ax _ _,_,_,_,h=>h
 | .ab _ _,_,_,_,h=>h
 | .ck _,cs,S,cq,h=>by rw[az]at h;rw[I.share,az];exact oS.one h
theorem bA.shared {w:World} {F cn:Nat->Prop} (bJ:∀b,F b->cn b):
  ∀(ds:azk) (cs:azi) (S:Nat->Prop),(∀b,S b->cn b)->bA w F ds cs S->bA w cn (I.shares ds) cs (λ_=>False)
 |[],_,_,_,h=>h
 |d::ds,cs,S,cq,h=>by
  simp only[I.shares];rw[bA]at h⊢;obtain⟨cx,c2,cO,eJ,ad,ag,aD,bh,b1,du⟩:=h;exact⟨cx,c2,_,_,ad,az.shared bJ d _ _ (λb ab=>cq _ (bh _ ab)) ag,bA.shared bJ ds _ _ (λb ab=>cq _ (b1 _ ab)) aD,λ_ h=>h,λ_ h=>h,λ_ h=>h.elim⟩
end
def I.sub:azf->I->Option I
 |[],d=>some d
 |k::q,.agg aG=>match aG[k]? with
  |some d=>I.sub q d
  |none=>none
 |k::q,.tuple aG=>match aG[k]? with
  |some d=>I.sub q d
  |none=>none
 |i::q,.ae _ xs=>match xs[i]? with
  |some d=>I.sub q d
  |none=>none
 |0::q,.aM d=>I.sub q d
 |_::_,_=>none
def I.put:azf->I->I->I
 |[],n,_=>n
 |k::q,n,.agg aG=>match aG[k]? with
  |some d=>.agg (aG.set k (I.put q n d))
  |none=>.agg aG
 |k::q,n,.tuple aG=>match aG[k]? with
  |some d=>.tuple (aG.set k (I.put q n d))
  |none=>.tuple aG
 |i::q,n,.ae sz xs=>match xs[i]? with
  |some d=>.ae sz (xs.set i (I.put q n d))
  |none=>.ae sz xs
 |0::q,n,.aM d=>.aM (I.put q n d)
 |_::_,_,d=>d
def qC (w:World) (b o n:Nat):azi:=(range n).map λj=>(w.cell? ⟨b,o+j,none⟩).getD undef
theorem jD.qC {w:World} {b o:Nat} {cs:azi} (h:jD w b o cs):qC w b o cs.length=cs:=by
 unfold ei.qC;apply ext_getElem?;intro i;rw[getElem?_map];by_cases ai:i<cs.length
 .have:cs[i]? =some cs[i]:=getElem?_eq_getElem ai;simp[ai,h i _ this]
 .simp[ai]
def eA (w:World):azf->I->azi->Option (Nat×Nat)->Option (I×azi×Option (Nat×Nat))
 |[],d,cs,a=>some (d,cs,a)
 |k::q,.agg aG,cs,a=>match aG[k]? with
  |some d=>eA w q d ((cs.drop (I.e9 (aG.take k))).take d.wd) (a.map λl=>(l.1,l.2+I.e9 (aG.take k)))
  |none=>none
 |k::q,.tuple aG,cs,a=>match aG[k]? with
  |some d=>eA w q d ((cs.drop (I.e9 (aG.take k))).take d.wd) (a.map λl=>(l.1,l.2+I.e9 (aG.take k)))
  |none=>none
 |i::q,.ae sz xs,cs,_=>match xs[i]?,cs with
  |some d,[.slice (some ⟨b,_,_⟩) _ _]=>eA w q d (qC w b (i*sz) sz) (some (b,i*sz))
  |_,_=>none
 |0::q,.aM d,cs,_=>match cs with
  |[.pointer (some ⟨b,_,_⟩)]=>eA w q d (qC w b 0 d.wd) (some (b,0))
  |_=>none
 |_::_,_,_,_=>none
theorem y7 (cx hj c2:azi) (n m:Nat) (ad:cx.length=n) (ag:hj.length=m):((cx++(hj++c2)).drop n).take m=hj:=by
 rw[drop_left' ad,take_left' ag]
theorem bA.pick {w:World} {F:Nat->Prop}:∀(ds:azk) (cs:azi) (S:Nat->Prop) (k:Nat) (d:I),
  bA w F ds cs S->ds[k]? =some d->∃(cx hj c2:azi) (cO jE:Nat->Prop),cs=cx++(hj++c2)/\cx.length=I.e9 (ds.take k)/\
   (∀b,cO b->S b)/\(∀b,jE b->S b)/\(∀b,cO b->¬jE b)/\az w F d hj jE/\
   ∀(aP:World) (bM:I) (y8:azi) (a_:Nat->Prop),(∀b,F b->aP.heap[b]? =w.heap[b]?)->(∀b,cO b->aP.heap[b]? =w.heap[b]?)->
    az aP F bM y8 a_->(∀b,a_ b->¬cO b)->bA aP F (ds.set k bM) (cx++(y8++c2)) (λb=>cO b\/a_ b)
 |[],_,_,_,_,_,aw=>by simp at aw
 |x::ds,cs,S,0,d,h,aw=>by
  rw[bA]at h;obtain⟨cx,c2,jq,h9,rfl,ad,ag,bo,ab,kK⟩:=h;simp at aw;subst aw;refine⟨[],cx,c2,h9,jq,rfl,rfl,ab,bo,λb ab bo=>kK _ bo ab,ad,?_⟩;intro aP bM y8 a_ bJ cq ao lj;simp only[set_cons_zero,nil_append];rw[bA];exact⟨y8,c2,a_,h9,rfl,ao,bA.frame bJ _ _ _ cq ag,λb h=>.inr h,λb h=>.inl h,λb h=>lj b h⟩
 |x::ds,cs,S,k+1,d,h,aw=>by
  rw[bA]at h;obtain⟨c0,ac0,jq,h9,rfl,ad,ag,bo,ab,kK⟩:=h;simp only[getElem?_cons_succ]at aw;have hl:=az.length _ _ _ ad;obtain⟨cx,hj,c2,cO,jE,rfl,i0,xy,i2,i3,i5,My⟩:=bA.pick ds ac0 h9 k d ag aw;refine⟨c0++cx,hj,c2,λb=>jq b\/cO b,jE,by simp,by simp[I.e9,hl,i0],?_,λb h=>ab _ (i2 _ h),?_,i5,?_⟩
  .rintro b (h|h)
   .exact bo _ h
   .exact ab _ (xy _ h)
  .rintro b (h|h) aw
   .exact kK _ h (i2 _ aw)
   .exact i3 _ h aw
  .intro aP bM y8 a_ bJ cq ao lj;simp only[set_cons_succ];rw[bA];refine⟨c0,cx++(y8++c2),jq,λb=>cO b\/a_ b,by simp,az.frame bJ _ _ _ (λb ab=>cq b (.inl ab)) ad,
    My aP bM y8 a_ bJ (λb ab=>cq b (.inr ab)) ao (λb ab au=>lj b ab (.inr au)),λb h=>.inl (.inl h),?_,?_⟩
   .rintro b (h|h)
    .exact .inl (.inr h)
    .exact .inr h
   .rintro b h (bF|bF)
    .exact kK _ h (xy _ bF)
    .exact lj _ bF (.inl h)
theorem Mz:∀(aG:azk) (k:Nat) (x y:I),aG[k]? =some x->y.wd=x.wd->I.e9 (aG.set k y)=I.e9 aG:=by
 intro aG;induction aG with
 |nil=>intro k x y h;simp at h
 |cons a aG ih=>
  intro k x y h e;cases k with
  |zero=>simp at h;subst h;simp[I.e9,e]
  |succ k=>simp at h;simp[I.e9,ih k x y h e]
theorem y9 {sz:Nat}:∀(xs:azk),(∀d∈xs,d.wd=sz)->I.e9 xs=xs.length*sz
 |[],_=>by simp[I.e9]
 |x::xs,h=>by
  rw[I.e9,h x (by simp),y9 xs (λd ao=>h d (by simp[ao])),length_cons,Nat.add_mul,Nat.one_mul,Nat.add_comm]
theorem I.Bw:∀(q:azf) (av d bM:I),I.sub q av=some d->bM.wd=d.wd->(I.put q bM av).wd=av.wd:=by
 intro q;induction q with
 |nil=>intro av d bM h e;simp[I.sub]at h;subst h;simpa [I.put]using e
 |cons k q ih=>
  intro av d bM h e;cases av with
  |agg aG=>
   simp only[I.sub]at h;split at h
   .rename_i x aq;simp only[I.put,aq,I.wd];exact Mz _ _ _ _ aq (ih _ _ _ h e)
   .cases h
  |tuple aG=>
   simp only[I.sub]at h;split at h
   .rename_i x aq;simp only[I.put,aq,I.wd];exact Mz _ _ _ _ aq (ih _ _ _ h e)
   .cases h
  |ae sz xs=>
   simp only[I.sub]at h;split at h
   .rename_i x aq;simp only[I.put,aq,I.wd]
   .cases h
  |aM x=>
   cases k with
   |zero=>simp only[I.put,I.wd]
   |succ k=>simp[I.sub]at h
  |_=>simp[I.sub]at h
theorem MA {sz:Nat} {xs:azk} {i:Nat} {y:I} (h:∀d∈xs,d.wd=sz) (hy:y.wd=sz):∀d∈xs.set i y,d.wd=sz:=by
 intro d ao;rcases mem_or_eq_of_mem_set ao with ao|rfl
 .exact h d ao
 .exact hy
theorem Bx {w:World} {b:Nat} {cur:Array Value} {e:TypeId} {fr:Nat×Nat} (h:w.heap[b]? =some (.cells cur e fr)) {l m r:azi} (au:cur.toList=l++(m++r)):
  qC w b l.length m.length=m:=by
 refine jD.qC (λj c bG=>?_);have eN:j<m.length:=(List.getElem?_eq_some_iff.1 bG).1;have:cur.toList[l.length+j]? =some c:=by
  rw[au,getElem?_append_right (by omega),getElem?_append_left (by omega)];rw[<-bG];congr 1;omega
 simp[World.cell?,h];simpa using this
def Flat (w:World) (F:Nat->Prop) (q:azf) (av:I) (cs:azi) (a:Option (Nat×Nat)) (d:I) (dK:azi) (dI:Option (Nat×Nat)) (fj:Nat->Prop):Prop:=
 ∃l r:azi,cs=l++(dK++r)/\dI=a.map (λx=>(x.1,x.2+l.length))/\
  ∀(aP:World) (bM:I) (hk:azi) (a_:Nat->Prop),(∀b,F b->aP.heap[b]? =w.heap[b]?)->(∀b,fj b->aP.heap[b]? =w.heap[b]?)->
   bM.wd=d.wd->az aP F bM hk a_->(∀b,a_ b->¬fj b)->az aP F (I.put q bM av) (l++(hk++r)) (λb=>fj b\/a_ b)
def Deep (w:World) (F:Nat->Prop) (q:azf) (av:I) (cs:azi) (d:I) (dK:azi) (dI:Option (Nat×Nat)) (fj:Nat->Prop):Prop:=
 ∃(b:Nat) (cur:Array Value) (e:TypeId) (fr:Nat×Nat) (l r:azi),dI=some (b,l.length)/\fj b/\w.heap[b]? =some (.cells cur e fr)/\pZ fr cur.size/\cur.toList=l++(dK++r)/\
  ∀(aP:World) (bM:I) (hk:azi) (a_:Nat->Prop),(∀b,F b->aP.heap[b]? =w.heap[b]?)->(∀c,fj c->c≠b->aP.heap[c]? =w.heap[c]?)->
   aP.heap[b]? =some (.cells (l++(hk++r)).toArray e fr)->
   bM.wd=d.wd->az aP F bM hk a_->(∀b,a_ b->¬fj b)->az aP F (I.put q bM av) cs (λb=>fj b\/a_ b)
theorem ctx {w:World} {F:Nat->Prop}:∀(q:azf) (av:I) (cs:azi) (S:Nat->Prop) (a:Option (Nat×Nat)) (d:I),
  az w F av cs S->I.sub q av=some d->∃(dK:azi) (dI:Option (Nat×Nat)) (fj gv:Nat->Prop),eA w q av cs a=some (d,dK,dI)/\
   (∀b,fj b->S b)/\(∀b,gv b->S b)/\(∀b,fj b->¬gv b)/\az w F d dK gv/\(Flat w F q av cs a d dK dI fj\/Deep w F q av cs d dK dI fj):=by
 intro q;induction q with
 |nil=>
  intro av cs S a d h ao;simp[I.sub]at ao;subst ao;refine⟨cs,a,λ_=>False,S,rfl,λ_ h=>h.elim,λ_ h=>h,λ_ h=>h.elim,h,.inl ⟨[],[],by simp,?_,?_⟩⟩
  .cases a<;>simp
  .intro aP bM hk a_ _ _ hw jo _;simp only[I.put,nil_append,append_nil];exact az.mono (λ_ h=>h) _ _ _ _ (λb h=>.inr h) jo
 |cons k q ih=>
  have fields:∀(mk:azk->I) (MB:∀(w:World) (F:Nat->Prop) (aG:azk) (cs:azi) (S:Nat->Prop),az w F (mk aG) cs S=bA w F aG cs S) (aG:azk) (cs:azi) (S:Nat->Prop) (a:Option (Nat×Nat)) (x d:I),
    (l_:∀bM,I.put (k::q) bM (mk aG)=mk (aG.set k (I.put q bM x)))->bA w F aG cs S->aG[k]? =some x->I.sub q x=some d->
    ∃(dK:azi) (dI:Option (Nat×Nat)) (fj gv:Nat->Prop),eA w q x ((cs.drop (I.e9 (aG.take k))).take x.wd) (a.map λl=>(l.1,l.2+I.e9 (aG.take k)))=some (d,dK,dI)/\
    (∀b,fj b->S b)/\(∀b,gv b->S b)/\(∀b,fj b->¬gv b)/\az w F d dK gv/\(Flat w F (k::q) (mk aG) cs a d dK dI fj\/Deep w F (k::q) (mk aG) cs d dK dI fj):=by
   intro mk MB aG cs S a x d l_ h aq ao;obtain⟨cx,hj,c2,cO,jE,rfl,jr,gY,ix,kh,hr,pn⟩:=bA.pick aG cs S k x h aq;have hl:=az.length _ _ _ hr;rw[y7 cx hj c2 _ _ jr hl];obtain⟨dK,dI,fj,gv,g0,g1,g2,g3,g4,g5⟩:=ih x _ jE (a.map λl=>(l.1,l.2+I.e9 (aG.take k))) d hr ao;refine⟨dK,dI,λb=>cO b\/fj b,gv,g0,?_,λb ab=>ix _ (g2 _ ab),?_,g4,?_⟩
   .rintro b (h|h)
    .exact gY _ h
    .exact ix _ (g1 _ h)
   .rintro b (h|h) ao
    .exact kh _ h (g2 _ ao)
    .exact g3 _ h ao
   .have f_:∀(b:Nat) (a_:Nat->Prop),(cO b\/fj b\/a_ b)->((cO b\/fj b)\/a_ b):=by
     rintro b a_ (ab|ab|ab)
     .exact .inl (.inl ab)
     .exact .inl (.inr ab)
     .exact .inr ab
    rcases g5 with⟨l,r,rfl,aW,aU⟩|⟨b,cur,e,fr,l,r,aR,aW,aU,cc,cZ,cv⟩
    .refine .inl ⟨cx++l,r++c2,by simp,?_,?_⟩
     .rw[aW,<-jr];cases a<;>simp[Nat.add_assoc]
     .intro aP bM hk a_ bJ cq hw jo lj;have ek:=aU aP bM hk a_ bJ (λb ab=>cq b (.inr ab)) hw jo (λb ab au=>lj b ab (.inr au));have bf:=pn aP _ _ _ bJ (λb ab=>cq b (.inl ab)) ek (by
       rintro b (ab|ab) ad
       .exact kh _ ad (g1 _ ab)
       .exact lj _ ab (.inl ad))
      rw[l_,MB];have:=bA.mono (λ_ h=>h) _ _ _ _ (λb=>f_ b a_) bf;simpa using this
    .refine .inr ⟨b,cur,e,fr,l,r,aR,.inr aW,aU,cc,cZ,?_⟩;intro aP bM hk a_ bJ cq po hw jo lj;have ek:=cv aP bM hk a_ bJ (λc au=>cq c (.inr au)) po hw jo (λb ab au=>lj b ab (.inr au));have bf:=pn aP _ _ _ bJ (λc au=>cq c (.inl au) (by rintro rfl;exact kh _ au (g1 _ aW))) ek (by
       rintro b (ab|ab) ad
       .exact kh _ ad (g1 _ ab)
       .exact lj _ ab (.inl ad))
     rw[l_,MB];exact bA.mono (λ_ h=>h) _ _ _ _ (λb=>f_ b a_) bf
  intro av cs S a d h ao;cases av with
  |agg aG=>
   simp only[I.sub]at ao;split at ao
   .rename_i x aq;rw[az]at h;have:=fields .agg (λ_ _ _ _ _=>by rw[az]) aG cs S a x d (λbM=>by simp only[I.put,aq]) h aq ao;simpa only[eA,aq]using this
   .cases ao
  |tuple aG=>
   simp only[I.sub]at ao;split at ao
   .rename_i x aq;rw[az]at h;have:=fields .tuple (λ_ _ _ _ _=>by rw[az]) aG cs S a x d (λbM=>by simp only[I.put,aq]) h aq ao;simpa only[eA,aq]using this
   .cases ao
  |ae sz xs=>
   simp only[I.sub]at ao;split at ao
   .rename_i x aq;rw[az]at h;rcases h with⟨rfl,_,rfl⟩|⟨b,cap,cur,e,fr,eX,rfl,ag,aD,bh,b1,du,di,hi,iV,lh,oT⟩
    .simp at aq
    .obtain⟨cx,hj,c2,cO,jE,p,jr,gY,ix,kh,hr,pn⟩:=bA.pick xs _ eX k x iV aq;have hl:=az.length _ _ _ hr;have ac1:k<xs.length:=(List.getElem?_eq_some_iff.1 aq).1;have Eu:x.wd=sz:=hi x (mem_of_getElem? aq);have bO:I.e9 (xs.take k)=k*sz:=by
      rw[y9 _ (λd ao=>hi d (mem_of_mem_take ao))];rw[length_take,Nat.min_eq_left (by omega)]
     obtain⟨vL,p1⟩:∃vL,cur.toList=cx++(hj++(c2++vL)):=by
      refine⟨cur.toList.drop (xs.length*sz),?_⟩;have:=(take_append_drop (xs.length*sz) cur.toList).symm;rw[p]at this;simpa using this
     have mB:qC w b (k*sz) sz=hj:=by
      have:=Bx aD p1
      rwa [jr,bO,hl,Eu]at this
     obtain⟨dK,dI,fj,gv,g0,g1,g2,g3,g4,g5⟩:=ih x _ jE (some (b,k*sz)) d hr ao;have l_:∀bM,I.put (k::q) bM (.ae sz xs)= .ae sz (xs.set k (I.put q bM x)):=λbM=>by simp only[I.put,aq]
     refine⟨dK,dI,λc=>c=b\/cO c\/fj c,gv,?_,?_,λc au=>lh _ (ix _ (g2 _ au)),?_,g4,.inr ?_⟩
     .simp only[eA,aq,mB];exact g0
     .rintro c (rfl|h|h)
      .exact ag
      .exact lh _ (gY _ h)
      .exact lh _ (ix _ (g1 _ h))
     .rintro c (rfl|h|h) ao
      .exact oT (ix _ (g2 _ ao))
      .exact kh _ h (g2 _ ao)
      .exact g3 _ h ao
     .have nu:∀bM,bM.wd=d.wd->(I.put q bM x).wd=sz:=λbM hw=>(I.Bw q x d bM ao hw).trans Eu;rcases g5 with⟨l,r,rfl,aW,aU⟩|⟨gV,MC,hs,MD,l,r,aR,aW,aU,cc,cZ,cv⟩
      .refine⟨b,cur,e,fr,cx++l,r++(c2++vL),?_,.inl rfl,aD,bh.low,?_,?_⟩
       .rw[aW];simp[jr,bO]
       .rw[p1];simp
       .intro aP bM hk a_ bJ cq po hw jo lj;have ek:=aU aP bM hk a_ bJ (λc au=>cq c (.inr (.inr au)) (by rintro rfl;exact oT (ix _ (g1 _ au)))) hw jo (λb ab au=>lj b ab (.inr (.inr au)));have bf:=pn aP _ _ _ bJ (λc au=>cq c (.inr (.inl au)) (by rintro rfl;exact oT (gY _ au))) ek (by
         rintro b (ab|ab) ad
         .exact kh _ ad (g1 _ ab)
         .exact lj _ ab (.inr (.inl ad)))
        have Ev:=az.length _ _ _ jo;have Ew:=az.length _ _ _ g4;rw[l_,az];refine .inr ⟨b,cap,_,e,fr,λb=>cO b\/fj b\/a_ b,by simp,.inl (.inl rfl),po,?_,by simpa using b1,du,?_,MA hi (nu bM hw),?_,?_,?_⟩
        .have:(cx++l++(hk++(r++(c2++vL)))).toArray.size=cur.size:=by
          have:cur.size=cur.toList.length:=by simp
          rw[this,p1];simp[Ev,Ew,hw]
         rw[this];exact bh
        .rw[<-di];have:cur.size=cur.toList.length:=by simp
         rw[this,p1];simp[Ev,Ew,hw]
        .have hlen:(cx++(l++(hk++r)++c2)).length=xs.length*sz:=by
          have:=congrArg length p;rw[length_take,Nat.min_eq_left (by simp[di];exact mul_le_mul_right _ b1)]at this;rw[this];simp[Ev,Ew,hw]
         have:(cx++l++(hk++(r++(c2++vL))))=(cx++(l++(hk++r)++c2))++vL:=by simp
         rw[length_set];simp only[this];rw[take_left' hlen];exact bf
        .rintro c (h|h|h)
         .exact .inl (.inr (.inl h))
         .exact .inl (.inr (.inr h))
         .exact .inr h
        .rintro(h|h|h)
         .exact oT (gY _ h)
         .exact oT (ix _ (g1 _ h))
         .exact lj _ h (.inl rfl)
      .refine⟨gV,MC,hs,MD,l,r,aR,.inr (.inr aW),aU,cc,cZ,?_⟩;intro aP bM hk a_ bJ cq po hw jo lj;have ek:=cv aP bM hk a_ bJ (λc au eb=>cq c (.inr (.inr au)) eb) po hw jo (λb ab au=>lj b ab (.inr (.inr au)));have eb:∀c,cO c->c≠gV:=by rintro c au rfl;exact kh _ au (g1 _ aW)
       have bf:=pn aP _ _ _ bJ (λc au=>cq c (.inr (.inl au)) (eb c au)) ek (by
        rintro b (ab|ab) ad
        .exact kh _ ad (g1 _ ab)
        .exact lj _ ab (.inr (.inl ad)))
       have ME:b≠gV:=by rintro rfl;exact oT (ix _ (g1 _ aW))
       rw[l_,az];refine .inr ⟨b,cap,cur,e,fr,λb=>cO b\/fj b\/a_ b,by simp,.inl (.inl rfl),(cq b (.inl rfl) ME).trans aD,bh,by simpa using b1,du,di,MA hi (nu bM hw),?_,?_,?_⟩
       .rw[length_set,p];exact bf
       .rintro c (h|h|h)
        .exact .inl (.inr (.inl h))
        .exact .inl (.inr (.inr h))
        .exact .inr h
       .rintro(h|h|h)
        .exact oT (gY _ h)
        .exact oT (ix _ (g1 _ h))
        .exact lj _ h (.inl rfl)
   .cases ao
  |aM x=>
   cases k with
   |succ k=>simp[I.sub]at ao
   |zero=>
    simp only[I.sub]at ao;rw[az]at h;obtain⟨b,cur,e,fr,eX,rfl,ag,aD,bh,b1,du,di⟩:=h;have hl:=az.length _ _ _ b1;have mB:qC w b 0 x.wd=cur.toList:=by
     have:=Bx (l:=[]) (m:=cur.toList) (r:=[]) aD (by simp)
     rwa [hl]at this
    obtain⟨dK,dI,fj,gv,g0,g1,g2,g3,g4,g5⟩:=ih x _ eX (some (b,0)) d b1 ao;have l_:∀bM,I.put (0::q) bM (.aM x)= .aM (I.put q bM x):=λbM=>rfl;refine⟨dK,dI,λc=>c=b\/fj c,gv,?_,?_,λc au=>du _ (g2 _ au),?_,g4,.inr ?_⟩
    .simp only[eA,mB];exact g0
    .rintro c (rfl|h)
     .exact ag
     .exact du _ (g1 _ h)
    .rintro c (rfl|h) ao
     .exact di (g2 _ ao)
     .exact g3 _ h ao
    .rcases g5 with⟨l,r,aR,aW,aU⟩|⟨gV,MC,hs,MD,l,r,aR,aW,aU,cc,cZ,cv⟩
     .refine⟨b,cur,e,fr,l,r,?_,.inl rfl,aD,bh,aR,?_⟩
      .rw[aW];simp
      .intro aP bM hk a_ bJ cq po hw jo lj;have ek:=aU aP bM hk a_ bJ (λc au=>cq c (.inr au) (by rintro rfl;exact di (g1 _ au))) hw jo (λb ab au=>lj b ab (.inr au));have Ev:=az.length _ _ _ jo;have Ew:=az.length _ _ _ g4;rw[l_,az];refine⟨b,_,e,fr,λb=>fj b\/a_ b,rfl,.inl (.inl rfl),po,?_,ek,?_,?_⟩
       .have:(l++(hk++r)).toArray.size=cur.size:=by
         have:cur.size=cur.toList.length:=by simp
         rw[this,aR];simp[Ev,Ew,hw]
        rw[this];exact bh
       .rintro c (h|h)
        .exact .inl (.inr h)
        .exact .inr h
       .rintro(h|h)
        .exact di (g1 _ h)
        .exact lj _ h (.inl rfl)
     .refine⟨gV,MC,hs,MD,l,r,aR,.inr aW,aU,cc,cZ,?_⟩;intro aP bM hk a_ bJ cq po hw jo lj;have ek:=cv aP bM hk a_ bJ (λc au eb=>cq c (.inr au) eb) po hw jo (λb ab au=>lj b ab (.inr au));have ME:b≠gV:=by rintro rfl;exact di (g1 _ aW)
      rw[l_,az];refine⟨b,cur,e,fr,λb=>fj b\/a_ b,rfl,.inl (.inl rfl),(cq b (.inl rfl) ME).trans aD,bh,ek,?_,?_⟩
      .rintro c (h|h)
       .exact .inl (.inr h)
       .exact .inr h
      .rintro(h|h)
       .exact di (g1 _ h)
       .exact lj _ h (.inl rfl)
  |_=>simp[I.sub]at ao
mutual
def I.plain:I->Bool
 | .ae _ _=>false
 | .aM _=>false
 | .ck _=>false
 | .agg aG=>I.e6 aG
 | .tuple aG=>I.e6 aG
 |_=>true
def I.e6:azk->Bool
 |[]=>true
 |d::ds=>d.plain&&I.e6 ds
end
mutual
def I.ee:I->I
 | .ae _ _=>.hole
 | .aM _=>.hole
 | .ck _=>.hole
 | .agg aG=>.agg (I.od aG)
 | .tuple aG=>.tuple (I.od aG)
 |d=>d
def I.od:azk->azk
 |[]=>[]
 |d::ds=>d.ee::I.od ds
end
mutual
theorem I.xA:∀d:I,d.ee.wd=d.wd
 | .hole=>rfl
 | .bool _=>rfl
 | .gu=>rfl
 | .int _ _=>rfl
 | .str _=>rfl
 | .ez=>rfl
 | .bd=>rfl
 | .slice _=>rfl
 | .ae _ _=>rfl
 | .ref _=>rfl
 | .aM _=>rfl
 | .agg aG=>by simp only[I.ee,I.wd];exact I.MF aG
 | .tuple aG=>by simp only[I.ee,I.wd];exact I.MF aG
 | .fn _ _=>rfl
 | .h _ _=>rfl
 | .ax _ _=>rfl
 | .ab _ _=>rfl
 | .ck _=>rfl
theorem I.MF:∀ds:azk,I.e9 (I.od ds)=I.e9 ds
 |[]=>rfl
 |d::ds=>by simp only[I.od,I.e9];rw[I.xA d,I.MF ds]
end
mutual
theorem az.ee {w:World} {F:Nat->Prop}:∀(d:I) (cs:azi) (S a_:Nat->Prop),az w F d cs S->az w F d.ee cs a_
 | .hole,_,_,_,h=>h
 | .bool _,_,_,_,h=>h
 | .gu,_,_,_,h=>h
 | .int _ _,_,_,_,h=>h
 | .str _,_,_,_,h=>h
 | .ez,_,_,_,h=>h
 | .bd,_,_,_,h=>h
 | .slice xs,cs,S,a_,h=>by
   show az w F (.slice xs) cs a_;rw[az]at h⊢;exact h
 | .ae sz xs,cs,S,a_,h=>by
   rw[I.ee,az];rw[az]at h;rcases h with⟨_,_,rfl⟩|⟨b,cap,cur,e,fr,eX,rfl,_⟩
   .exact⟨_,rfl,rfl⟩
   .exact⟨_,rfl,rfl⟩
 | .ref d,cs,S,a_,h=>by
   show az w F (.ref d) cs a_;rw[az]at h⊢;exact h
 | .aM d,cs,S,a_,h=>by
   rw[I.ee,az];rw[az]at h;obtain⟨b,cur,e,fr,eX,rfl,_⟩:=h;exact⟨_,rfl,rfl⟩
 | .agg aG,cs,S,a_,h=>by rw[I.ee,az];rw[az]at h;exact bA.ee aG _ _ _ h
 | .tuple aG,cs,S,a_,h=>by rw[I.ee,az];rw[az]at h;exact bA.ee aG _ _ _ h
 | .fn _ _,_,_,_,h=>h
 | .h _ _,_,_,_,h=>h
 | .ax _ _,_,_,_,h=>h
 | .ab _ _,_,_,_,h=>h
 | .ck _,_,_,_,h=>by rw[az]at h;rw[I.ee,az];exact oS.one h
theorem bA.ee {w:World} {F:Nat->Prop}:∀(ds:azk) (cs:azi) (S a_:Nat->Prop),bA w F ds cs S->bA w F (I.od ds) cs a_
 |[],_,_,_,h=>h
 |d::ds,cs,S,a_,h=>by
  rw[I.od,bA];rw[bA]at h;obtain⟨cx,c2,cO,eJ,ad,ag,aD,bh,b1,du⟩:=h;exact⟨cx,c2,λ_=>False,λ_=>False,ad,az.ee d _ _ _ ag,bA.ee ds _ _ _ aD,λ_ h=>h.elim,λ_ h=>h.elim,λ_ h=>h.elim⟩
end
mutual
theorem az.plain {w:World} {F:Nat->Prop}:∀(d:I) (cs:azi) (S a_:Nat->Prop),d.plain=true->az w F d cs S->az w F d cs a_
 | .hole,_,_,_,_,h=>h
 | .bool _,_,_,_,_,h=>h
 | .gu,_,_,_,_,h=>h
 | .int _ _,_,_,_,_,h=>h
 | .str _,_,_,_,_,h=>h
 | .ez,_,_,_,_,h=>h
 | .bd,_,_,_,_,h=>h
 | .slice xs,cs,S,a_,_,h=>by rw[az]at h⊢;exact h
 | .ae sz xs,cs,S,a_,ax,h=>by simp[I.plain]at ax
 | .ref d,cs,S,a_,_,h=>by rw[az]at h⊢;exact h
 | .aM d,cs,S,a_,ax,h=>by simp[I.plain]at ax
 | .agg aG,cs,S,a_,ax,h=>by rw[az]at h⊢;exact bA.plain aG _ _ _ ax h
 | .tuple aG,cs,S,a_,ax,h=>by rw[az]at h⊢;exact bA.plain aG _ _ _ ax h
 | .fn _ _,_,_,_,_,h=>h
 | .h _ _,_,_,_,_,h=>h
 | .ax _ _,_,_,_,_,h=>h
 | .ab _ _,_,_,_,_,h=>h
 | .ck _,_,_,_,ax,_=>by simp[I.plain]at ax
theorem bA.plain {w:World} {F:Nat->Prop}:∀(ds:azk) (cs:azi) (S a_:Nat->Prop),I.e6 ds=true->bA w F ds cs S->bA w F ds cs a_
 |[],_,_,_,_,h=>h
 |d::ds,cs,S,a_,ax,h=>by
  rw[bA]at h⊢;simp only[I.e6,Bool.and_eq_true]at ax;obtain⟨cx,c2,cO,eJ,ad,ag,aD,bh,b1,du⟩:=h;exact⟨cx,c2,λ_=>False,λ_=>False,ad,az.plain d _ _ _ ax.1 ag,bA.plain ds _ _ _ ax.2 aD,λ_ h=>h.elim,λ_ h=>h.elim,λ_ h=>h.elim⟩
end
def I.gM:azf->I->Bool
 |[],_=>false
 |k::q,.agg aG=>match aG[k]? with
  |some d=>I.gM q d
  |none=>false
 |k::q,.tuple aG=>match aG[k]? with
  |some d=>I.gM q d
  |none=>false
 |_::_,.ae _ _=>true
 |_::_,.aM _=>true
 |_::_,_=>false
theorem Iz {aG:azk} (h:I.e6 aG=true) {k:Nat} {d:I} (aw:aG[k]? =some d):d.plain=true:=by
 induction aG generalizing k with
 |nil=>simp at aw
 |cons a aG ih=>
  simp only[I.e6,Bool.and_eq_true]at h;cases k with
  |zero=>simp at aw;subst aw;exact h.1
  |succ k=>simp at aw;exact ih h.2 aw
theorem I.Ur:∀(q:azf) (d:I),d.plain=true->I.gM q d=false:=by
 intro q;induction q with
 |nil=>intros;rfl
 |cons k q ih=>
  intro d ao;cases d<;>first|rfl|(simp[I.plain]at ao;done)|skip
  all_goals
   simp only[I.gM];split
   .rename_i aG x aq;exact ih _ (Iz (by simpa [I.plain]using ao) aq)
   .rfl
theorem I.MG:∀(q:azf) (d e:I),d.plain=true->I.sub q d=some e->e.plain=true:=by
 intro q;induction q with
 |nil=>intro d e ao h;simp[I.sub]at h;exact h▸ao
 |cons k q ih=>
  intro d e ao h;cases d<;>first|(simp[I.plain]at ao;done)|(simp[I.sub]at h;done)|skip
  all_goals
   simp only[I.sub]at h;split at h
   .rename_i aG x aq;exact ih _ _ (Iz (by simpa [I.plain]using ao) aq) h
   .cases h
theorem IA {w aP:World} {F:Nat->Prop}:∀(q:azf) (av:I) (cs:azi) (S:Nat->Prop) (a:Option (Nat×Nat)) (d:I),
  az w F av cs S->I.sub q av=some d->(∀b,S b->aP.heap[b]? =w.heap[b]?)->eA aP q av cs a=eA w q av cs a:=by
 intro q;induction q with
 |nil=>intros;rfl
 |cons k q ih=>
  have fields:∀(aG:azk) (cs:azi) (S:Nat->Prop) (a:Option (Nat×Nat)) (x d:I),bA w F aG cs S->aG[k]? =some x->I.sub q x=some d->
    (∀b,S b->aP.heap[b]? =w.heap[b]?)->
    eA aP q x ((cs.drop (I.e9 (aG.take k))).take x.wd) (a.map λl=>(l.1,l.2+I.e9 (aG.take k)))=eA w q x ((cs.drop (I.e9 (aG.take k))).take x.wd) (a.map λl=>(l.1,l.2+I.e9 (aG.take k))):=by
   intro aG cs S a x d h aq ao cq;obtain⟨cx,hj,c2,cO,jE,rfl,jr,gY,ix,kh,hr,pn⟩:=bA.pick aG cs S k x h aq;rw[y7 cx hj c2 _ _ jr (az.length _ _ _ hr)];exact ih x hj jE _ d hr ao (λb ab=>cq b (ix _ ab))
  intro av cs S a d h ao cq;cases av with
  |agg aG=>
   simp only[I.sub]at ao;split at ao
   .rename_i x aq;rw[az]at h;simp only[eA,aq];exact fields aG cs S a x d h aq ao cq
   .cases ao
  |tuple aG=>
   simp only[I.sub]at ao;split at ao
   .rename_i x aq;rw[az]at h;simp only[eA,aq];exact fields aG cs S a x d h aq ao cq
   .cases ao
  |ae sz xs=>
   simp only[I.sub]at ao;split at ao
   .rename_i x aq;rw[az]at h;rcases h with⟨rfl,_,rfl⟩|⟨b,cap,cur,e,fr,eX,rfl,ag,aD,bh,b1,du,di,hi,iV,lh,oT⟩
    .simp at aq
    .obtain⟨cx,hj,c2,cO,jE,p,jr,gY,ix,kh,hr,pn⟩:=bA.pick xs _ eX k x iV aq;have hl:=az.length _ _ _ hr;have ac1:k<xs.length:=(List.getElem?_eq_some_iff.1 aq).1;have Eu:x.wd=sz:=hi x (mem_of_getElem? aq);have bO:I.e9 (xs.take k)=k*sz:=by
      rw[y9 _ (λd ao=>hi d (mem_of_mem_take ao))];rw[length_take,Nat.min_eq_left (by omega)]
     obtain⟨vL,p1⟩:∃vL,cur.toList=cx++(hj++(c2++vL)):=by
      refine⟨cur.toList.drop (xs.length*sz),?_⟩;have:=(take_append_drop (xs.length*sz) cur.toList).symm;rw[p]at this;simpa using this
     have mB:qC w b (k*sz) sz=hj:=by
      have:=Bx aD p1
      rwa [jr,bO,hl,Eu]at this
     have MH:qC aP b (k*sz) sz=hj:=by
      have:=Bx ((cq b ag).trans aD) p1
      rwa [jr,bO,hl,Eu]at this
     simp only[eA,aq,mB,MH];exact ih x hj jE _ d hr ao (λc au=>cq c (lh _ (ix _ au)))
   .cases ao
  |aM x=>
   cases k with
   |succ k=>simp[I.sub]at ao
   |zero=>
    simp only[I.sub]at ao;rw[az]at h;obtain⟨b,cur,e,fr,eX,rfl,ag,aD,bh,b1,du,di⟩:=h;have hl:=az.length _ _ _ b1;have mB:qC w b 0 x.wd=cur.toList:=by
     have:=Bx (l:=[]) (m:=cur.toList) (r:=[]) aD (by simp)
     rwa [hl]at this
    have MH:qC aP b 0 x.wd=cur.toList:=by
     have:=Bx (l:=[]) (m:=cur.toList) (r:=[]) ((cq b ag).trans aD) (by simp)
     rwa [hl]at this
    simp only[eA,mB,MH];exact ih x cur.toList eX _ d b1 ao (λc au=>cq c (du _ au))
  |_=>simp[I.sub]at ao
def jF:Value->azi
 | .agg cs=>cs.toList
 |v=>[v]
def c_:Value->azi
 | .tuple vs=>vs.toList.flatMap jF
 |v=>jF v
def ki:I->Value->Prop
 | .agg _,v=>∃arr,v= .agg arr
 |_,v=>Value.hO v=true
def eY:I->Value->Prop
 | .tuple ds,v=>∃arr:Array Value,v= .tuple arr/\arr.size=ds.length/\∀(k:Nat) (d:I) (x:Value),ds[k]? =some d->arr[k]? =some x->ki d x/\(∀vs,d≠.tuple vs)/\(jF x).length=d.wd
 |d,v=>ki d v
abbrev al:=Nat->I
mutual
def aQ (w:World) (F:Nat->Prop) (s:al) (aH:Nat->Value):I->Value->(Nat->Prop)->Prop
 | .hole,_,_=>True
 | .h x q,v,_=>∀d,I.sub q (s x)=some d->d.plain=false->∃dK a,eA w q (s x) (c_ (aH x)) none=some (d,dK,a)/\c_ v=dK/\eY d v
 | .ax x q,v,_=>∀d,I.sub q (s x)=some d->I.gM q (s x)=true->∃dK b o,eA w q (s x) (c_ (aH x)) none=some (d,dK,some (b,o))/\v= .pointer (some ⟨b,o,none⟩)
 | .ab x k,v,_=>(s x).plain=false->∃b cur e fr,v= .pointer (some ⟨b,k,none⟩)/\F b/\w.heap[b]? =some (.cells cur e fr)/\cur.toList=c_ (aH x)
 | .fn f cap,v,_=>∃arr:Array Value,v= .func (.func f) #[] arr/\e_ w F s aH cap arr.toList
 | .bool b,v,S=>eY (.bool b) v/\az w F (.bool b) (c_ v) S
 | .gu,v,S=>eY .gu v/\az w F .gu (c_ v) S
 | .int k n,v,S=>eY (.int k n) v/\az w F (.int k n) (c_ v) S
 | .str x,v,S=>eY (.str x) v/\az w F (.str x) (c_ v) S
 | .ez,v,S=>eY .ez v/\az w F .ez (c_ v) S
 | .bd,v,S=>eY .bd v/\az w F .bd (c_ v) S
 | .slice xs,v,S=>eY (.slice xs) v/\az w F (.slice xs) (c_ v) S
 | .ae sz xs,v,S=>eY (.ae sz xs) v/\az w F (.ae sz xs) (c_ v) S
 | .ref d,v,S=>eY (.ref d) v/\az w F (.ref d) (c_ v) S
 | .aM d,v,S=>eY (.aM d) v/\az w F (.aM d) (c_ v) S
 | .agg d,v,S=>eY (.agg d) v/\az w F (.agg d) (c_ v) S
 | .tuple d,v,S=>eY (.tuple d) v/\az w F (.tuple d) (c_ v) S
 | .ck o,v,S=>eY (.ck o) v/\az w F (.ck o) (c_ v) S
def e_ (w:World) (F:Nat->Prop) (s:al) (aH:Nat->Value):azk->azi->Prop
 |[],vs=>vs=[]
 |d::ds,vs=>∃v ma,vs=v::ma/\aQ w F s aH d v (λ_=>False)/\e_ w F s aH ds ma
end
def I.tree:I->Bool
 | .hole=>false
 | .h _ _=>false
 | .ax _ _=>false
 | .ab _ _=>false
 | .fn _ _=>false
 |_=>true
theorem aQ.dx {w:World} {F:Nat->Prop} {s:al} {aH:Nat->Value} {d:I} {v:Value} {S:Nat->Prop} (bb:d.tree=true):
  aQ w F s aH d v S↔(eY d v/\az w F d (c_ v) S):=by
 cases d<;>first|(simp[I.tree]at bb;done)|rw[aQ]
theorem jG {q:azf} {av d:I} (h:I.sub q av=some d) (ax:d.plain=false\/I.gM q av=true):av.tree=true:=by
 cases q with
 |nil=>
  simp[I.sub]at h;subst h;rcases ax with ax|ax
  .cases av<;>first|rfl|(simp[I.plain]at ax)
  .simp[I.gM]at ax
 |cons k q=>cases av<;>first|rfl|(simp[I.sub]at h)
theorem MI {d:I} (h:d.plain=false):d.tree=true:=jG (q:=[]) (by simp only[I.sub]) (.inl h)
theorem aQ.frame {w aP:World} {F cn:Nat->Prop} {s:al} {aH:Nat->Value} {Sx:Nat->Nat->Prop} (bJ:∀b,F b->aP.heap[b]? =w.heap[b]?) (Us:∀b,F b->cn b)
  (cq:∀x b,Sx x b->aP.heap[b]? =w.heap[b]?) (nv:∀x,aQ w F s aH (s x) (aH x) (Sx x)):
  ∀(d:I) (v:Value) (S:Nat->Prop),(∀b,S b->aP.heap[b]? =w.heap[b]?)->aQ w F s aH d v S->aQ aP cn s aH d v S:=by
 have nw:∀(x:Nat) (q:azf) (d:I),I.sub q (s x)=some d->(d.plain=false\/I.gM q (s x)=true)->eA aP q (s x) (c_ (aH x)) none=eA w q (s x) (c_ (aH x)) none:=by
  intro x q d ao ax;have bb:=jG ao ax;have:=nv x;rw[aQ.dx bb]at this;exact IA q _ _ (Sx x) none d this.2 ao (cq x)
 have ac2:∀(d:I) (v:Value) (S:Nat->Prop),d.tree=true->(∀b,S b->aP.heap[b]? =w.heap[b]?)->aQ w F s aH d v S->aQ aP cn s aH d v S:=by
  intro d v S bb y_ h;rw[aQ.dx bb]at h⊢;exact⟨h.1,az.mono Us _ _ _ _ (λ_ h=>h) (az.frame bJ _ _ _ y_ h.2)⟩
 have step:∀n,(∀(d:I) (v:Value) (S:Nat->Prop),SizeOf.sizeOf d<=n->(∀b,S b->aP.heap[b]? =w.heap[b]?)->aQ w F s aH d v S->aQ aP cn s aH d v S)/\
   (∀(ds:azk) (vs:azi),SizeOf.sizeOf ds<=n->e_ w F s aH ds vs->e_ aP cn s aH ds vs):=by
  intro n;induction n with
  |zero=>
   refine⟨λd v S cf=>?_,λds vs cf=>?_⟩
   .cases d<;>simp at cf<;>omega
   .cases ds<;>simp at cf<;>omega
  |succ n ih=>
   refine⟨λd v S cf y_ h=>?_,λds vs cf h=>?_⟩
   .cases d with
    |hole=>rw[aQ];trivial
    |h x q=>
     rw[aQ]at h⊢;intro d ao ax;rw[nw x q d ao (.inl ax)];exact h d ao ax
    |ax x q=>
     rw[aQ]at h⊢;intro d ao ax;rw[nw x q d ao (.inr ax)];exact h d ao ax
    |ab x k=>
     rw[aQ]at h⊢;intro ax;obtain⟨b,cur,e,fr,ad,ag,aD,bh⟩:=h ax;exact⟨b,cur,e,fr,ad,Us b ag,(bJ b ag).trans aD,bh⟩
    |fn f cap=>
     rw[aQ]at h⊢;obtain⟨arr,rfl,au⟩:=h;exact⟨arr,rfl,ih.2 _ _ (by simp at cf;omega) au⟩
    |_=>exact ac2 _ _ _ rfl y_ h
   .cases ds with
    |nil=>rw[e_]at h⊢;exact h
    |cons d ds=>
     rw[e_]at h⊢;obtain⟨v,ma,rfl,ad,ag⟩:=h;simp at cf;exact⟨v,ma,rfl,ih.1 _ _ _ (by omega) (λ_ h=>h.elim) ad,ih.2 _ _ (by omega) ag⟩
 intro d v S y_ h;exact(step (SizeOf.sizeOf d)).1 d v S (Nat.le_refl _) y_ h
mutual
def dL (x:Nat):I->I
 | .h y q=>if y=x then .hole else .h y q
 | .ax y q=>if y=x then .hole else .ax y q
 | .ab y k=>if y=x then .hole else .ab y k
 | .fn f cap=>.fn f (lk x cap)
 |d=>d
def lk (x:Nat):azk->azk
 |[]=>[]
 |d::ds=>dL x d::lk x ds
end
mutual
def cW (x:Nat):I->I
 | .h y q=>if y=x then(if q=[]then .h y q else .hole)else .h y q
 | .ax y q=>if y=x then .hole else .ax y q
 | .fn f cap=>.fn f (kL x cap)
 |d=>d
def kL (x:Nat):azk->azk
 |[]=>[]
 |d::ds=>cW x d::kL x ds
end
def el {α:Type} (f:Nat->α) (t:Nat) (v:α):Nat->α:=λu=>if u=t then v else f u
def oU (t:Nat) (s:al):al:=λu=>dL t (s u)
def js (t:Nat) (s:al):al:=λu=>cW t (s u)
theorem oV {α:Type} (f:Nat->α) (t:Nat) (v:α):el f t v t=v:=by simp[el]
theorem ll {α:Type} (f:Nat->α) {t u:Nat} (v:α) (h:u≠t):el f t v u=f u:=by simp[el,h]
theorem ac3 {t:Nat} {d:I} (h:d.tree=true):dL t d=d:=by cases d<;>first|rfl|(simp[I.tree]at h)
theorem MJ {t:Nat} {d:I} (h:d.tree=true):cW t d=d:=by cases d<;>first|rfl|(simp[I.tree]at h)
theorem ac4 {t:Nat} {d:I} (h:(dL t d).tree=true):d.tree=true/\dL t d=d:=by
 cases d<;>first|exact⟨rfl,rfl⟩|(simp only[dL]at h;first|(split at h<;>simp[I.tree]at h)|simp[I.tree]at h)
theorem IB {t:Nat} {d:I} (h:(cW t d).tree=true):d.tree=true/\cW t d=d:=by
 cases d<;>first|exact⟨rfl,rfl⟩|(simp only[cW]at h;first|(split at h<;>(try split at h)<;>simp[I.tree]at h)|simp[I.tree]at h)
section
variable {w:World} {F:Nat->Prop} {s aE:al} {aH mS:Nat->Value} {t:Nat}
theorem aQ.dL (iK:∀x,x≠t->(aE x).tree=true->aE x=s x/\mS x=aH x):∀(n:Nat),
  (∀(d:I) (v:Value) (S:Nat->Prop),SizeOf.sizeOf d<=n->aQ w F s aH d v S->aQ w F aE mS (ei.dL t d) v S)/\
  (∀(ds:azk) (vs:azi),SizeOf.sizeOf ds<=n->e_ w F s aH ds vs->e_ w F aE mS (lk t ds) vs):=by
 intro n;induction n with
 |zero=>
  refine⟨λd v S cf=>?_,λds vs cf=>?_⟩
  .cases d<;>simp at cf<;>omega
  .cases ds<;>simp at cf<;>omega
 |succ n ih=>
  refine⟨λd v S cf h=>?_,λds vs cf h=>?_⟩
  .cases d with
   |hole=>rw[ei.dL.eq_def];simp only;rw[aQ];trivial
   |h x q=>
    simp only[ei.dL];split
    .rw[aQ];trivial
    .rename_i aq;rw[aQ]at h⊢;intro d ao ax;obtain⟨aR,aW⟩:=iK x aq (jG ao (.inl ax));rw[aR,aW];rw[aR]at ao;exact h d ao ax
   |ax x q=>
    simp only[ei.dL];split
    .rw[aQ];trivial
    .rename_i aq;rw[aQ]at h⊢;intro d ao ax;obtain⟨aR,aW⟩:=iK x aq (jG ao (.inr ax));rw[aR,aW];rw[aR]at ao ax;exact h d ao ax
   |ab x k=>
    simp only[ei.dL];split
    .rw[aQ];trivial
    .rename_i aq;rw[aQ]at h⊢;intro ax;obtain⟨aR,aW⟩:=iK x aq (MI ax);rw[aW];rw[aR]at ax;exact h ax
   |fn f cap=>
    simp only[ei.dL];rw[aQ]at h⊢;obtain⟨arr,rfl,au⟩:=h;exact⟨arr,rfl,ih.2 _ _ (by simp at cf;omega) au⟩
   |_=>
    rw[ac3 (by rfl)];exact(aQ.dx (by rfl)).2 ((aQ.dx (by rfl)).1 h)
  .cases ds with
   |nil=>rw[lk,e_];rw[e_]at h;exact h
   |cons d ds=>
    rw[lk,e_];rw[e_]at h;obtain⟨v,ma,rfl,ad,ag⟩:=h;simp at cf;exact⟨v,ma,rfl,ih.1 _ _ _ (by omega) ad,ih.2 _ _ (by omega) ag⟩
theorem aQ.cW {aP:World} (iK:∀x,x≠t->(aE x).tree=true->aE x=s x/\mS x=aH x) (ln:mS t=aH t) (oe:(aE t).plain=false->(s t).plain=false/\∀v,eY (s t) v->eY (aE t) v)
  (nw:∀x q d,x≠t->I.sub q (s x)=some d->(d.plain=false\/I.gM q (s x)=true)->eA aP q (s x) (c_ (aH x)) none=eA w q (s x) (c_ (aH x)) none)
  (bJ:∀b,F b->aP.heap[b]? =w.heap[b]?):∀(n:Nat),
  (∀(d:I) (v:Value) (S:Nat->Prop),SizeOf.sizeOf d<=n->(∀b,S b->aP.heap[b]? =w.heap[b]?)->aQ w F s aH d v S->aQ aP F aE mS (ei.cW t d) v S)/\
  (∀(ds:azk) (vs:azi),SizeOf.sizeOf ds<=n->e_ w F s aH ds vs->e_ aP F aE mS (kL t ds) vs):=by
 intro n;induction n with
 |zero=>
  refine⟨λd v S cf=>?_,λds vs cf=>?_⟩
  .cases d<;>simp at cf<;>omega
  .cases ds<;>simp at cf<;>omega
 |succ n ih=>
  refine⟨λd v S cf y_ h=>?_,λds vs cf h=>?_⟩
  .cases d with
   |hole=>rw[ei.cW.eq_def];simp only;rw[aQ];trivial
   |h x q=>
    simp only[ei.cW];split
    .rename_i aq;subst aq;split
     .rename_i cE;subst cE;rw[aQ]at h⊢;intro d ao ax;simp only[I.sub,some.injEq]at ao;subst ao;obtain⟨ek,bf⟩:=oe ax;obtain⟨dK,a,g1,g2,g3⟩:=h (s x) rfl ek;simp only[eA,some.injEq,Prod.mk.injEq]at g1;obtain⟨-,g1,awX⟩:=g1;refine⟨c_ (mS x),none,rfl,?_,bf _ g3⟩;rw[ln,g2,<-g1]
     .rw[aQ];trivial
    .rename_i aq;rw[aQ]at h⊢;intro d ao ax;obtain⟨aR,aW⟩:=iK x aq (jG ao (.inl ax));rw[aR,aW];rw[aR]at ao;rw[nw x q d aq ao (.inl ax)];exact h d ao ax
   |ax x q=>
    simp only[ei.cW];split
    .rw[aQ];trivial
    .rename_i aq;rw[aQ]at h⊢;intro d ao ax;obtain⟨aR,aW⟩:=iK x aq (jG ao (.inr ax));rw[aR,aW];rw[aR]at ao ax;rw[nw x q d aq ao (.inr ax)];exact h d ao ax
   |ab x k=>
    simp only[ei.cW];rw[aQ]at h⊢;intro ax;by_cases aq:x=t
    .subst aq;obtain⟨b,cur,e,fr,ad,ag,aD,bh⟩:=h (oe ax).1;exact⟨b,cur,e,fr,ad,ag,(bJ b ag).trans aD,by rw[ln];exact bh⟩
    .obtain⟨aR,aW⟩:=iK x aq (MI ax);rw[aR]at ax;obtain⟨b,cur,e,fr,ad,ag,aD,bh⟩:=h ax;exact⟨b,cur,e,fr,ad,ag,(bJ b ag).trans aD,by rw[aW];exact bh⟩
   |fn f cap=>
    simp only[ei.cW];rw[aQ]at h⊢;obtain⟨arr,rfl,au⟩:=h;exact⟨arr,rfl,ih.2 _ _ (by simp at cf;omega) au⟩
   |_=>
    rw[MJ (by rfl)];have bF:=(aQ.dx (by rfl)).1 h;exact(aQ.dx (by rfl)).2 ⟨bF.1,az.frame bJ _ _ _ y_ bF.2⟩
  .cases ds with
   |nil=>rw[kL,e_];rw[e_]at h;exact h
   |cons d ds=>
    rw[kL,e_];rw[e_]at h;obtain⟨v,ma,rfl,ad,ag⟩:=h;simp at cf;exact⟨v,ma,rfl,ih.1 _ _ _ (by omega) (λ_ h=>h.elim) ad,ih.2 _ _ (by omega) ag⟩
theorem aQ.void (iK:∀x,x≠t->(aE x).tree=true->aE x=s x/\mS x=aH x) (qD:(aE t).plain=true):∀(n:Nat),
  (∀(d:I) (v:Value) (S:Nat->Prop),SizeOf.sizeOf d<=n->aQ w F s aH d v S->aQ w F aE mS d v S)/\
  (∀(ds:azk) (vs:azi),SizeOf.sizeOf ds<=n->e_ w F s aH ds vs->e_ w F aE mS ds vs):=by
 intro n;induction n with
 |zero=>
  refine⟨λd v S cf=>?_,λds vs cf=>?_⟩
  .cases d<;>simp at cf<;>omega
  .cases ds<;>simp at cf<;>omega
 |succ n ih=>
  refine⟨λd v S cf h=>?_,λds vs cf h=>?_⟩
  .cases d with
   |hole=>rw[aQ];trivial
   |h x q=>
    rw[aQ]at h⊢;intro d ao ax;by_cases aq:x=t
    .subst aq;rw[I.MG _ _ _ qD ao]at ax;cases ax
    .obtain⟨aR,aW⟩:=iK x aq (jG ao (.inl ax));rw[aR,aW];rw[aR]at ao;exact h d ao ax
   |ax x q=>
    rw[aQ]at h⊢;intro d ao ax;by_cases aq:x=t
    .subst aq;rw[I.Ur _ _ qD]at ax;cases ax
    .obtain⟨aR,aW⟩:=iK x aq (jG ao (.inr ax));rw[aR,aW];rw[aR]at ao ax;exact h d ao ax
   |ab x k=>
    rw[aQ]at h⊢;intro ax;by_cases aq:x=t
    .subst aq;rw[qD]at ax;cases ax
    .obtain⟨aR,aW⟩:=iK x aq (MI ax);rw[aW];rw[aR]at ax;exact h ax
   |fn f cap=>
    rw[aQ]at h⊢;obtain⟨arr,rfl,au⟩:=h;exact⟨arr,rfl,ih.2 _ _ (by simp at cf;omega) au⟩
   |_=>exact(aQ.dx (by rfl)).2 ((aQ.dx (by rfl)).1 h)
  .cases ds with
   |nil=>rw[e_];rw[e_]at h;exact h
   |cons d ds=>
    rw[e_];rw[e_]at h;obtain⟨v,ma,rfl,ad,ag⟩:=h;simp at cf;exact⟨v,ma,rfl,ih.1 _ _ _ (by omega) ad,ih.2 _ _ (by omega) ag⟩
end
def MK:Bool:=false
def Out (w w0:World):Prop:=w.output=w0.output/\(MK=true->w0.drawn<=w.drawn)
theorem Out.trans {a b c:World} (h:Out a b) (ag:Out b c):Out a c:=⟨Eq.trans h.1 ag.1,λd=>Nat.le_trans (ag.2 d) (h.2 d)⟩
theorem Out.refl (w:World):Out w w:=⟨rfl,λ_=>Nat.le_refl _⟩
def ML (o:Obj):Prop:=∃bx cs e fr,o= .cells cs e fr/\cs[0]? =some bx/\(bx= .nilIface\/∃MM MN,bx= .iface MM MN)
def IC (o:Obj):Prop:=∃e fr,o= .cells ((range 20).map λi=>Value.int .u64 ((10^i:Nat):Int)).toArray e fr
def ID:List (Nat×(Obj->Prop)):=[(2,ML),(1,IC)]
def uf (w:World) (X:Nat->Prop):Prop:=∀p∈ID,p.1<w.heap.size/\¬X p.1/\∃o,w.heap[p.1]? =some o/\p.2 o
theorem uf.next {w aP:World} {X Y:Nat->Prop} (h:uf w X) (aa:w.heap.size<=aP.heap.size) (ab:∀b,b<w.heap.size->¬X b->aP.heap[b]? =w.heap[b]?) (hy:∀b,Y b->X b\/w.heap.size<=b):uf aP Y:=λp ax=>by
 obtain⟨ad,ag,o,aD,bh⟩:=h p ax;refine⟨Nat.lt_of_lt_of_le ad aa,λh=>?_,o,(ab _ ad ag).trans aD,bh⟩;rcases hy _ h with h|h
 .exact ag h
 .omega
structure cj (w0:World) (F0 X F:Nat->Prop) (S:Nat->Nat->Prop) (s:al) (aH:Nat->Value) (w:World):Prop where
 h_:∀b,F0 b->F b
 iL:∀b,F b->F0 b\/X b\/w0.heap.size<=b
 gg:∀b,F b->b<w.heap.size
 fB:∀t b,S t b->b<w.heap.size
 gN:∀t b,S t b->¬F b
 gh:∀t u b,t≠u->S t b->¬S u b
 eX:∀t b,S t b->X b\/w0.heap.size<=b
 eu:∀t,aQ w F s aH (s t) (aH t) (S t)
 old:∀b,b<w0.heap.size->¬X b->w.heap[b]? =w0.heap[b]?
 size:w0.heap.size<=w.heap.size
 os:w.os=w0.os
 tape:w.tape=w0.tape
 output:Out w w0
 gw:uf w0 X
section
variable {w0 w aP:World} {F0 X F:Nat->Prop} {S:Nat->Nat->Prop} {s:al} {aH:Nat->Value}
theorem cj.grow (h:cj w0 F0 X F S s aH w) (ab:∀b,b<w.heap.size->aP.heap[b]? =w.heap[b]?) (aa:w.heap.size<=aP.heap.size)
  (ad:aP.os=w.os) (ag:aP.tape=w.tape) (aD:Out aP w):cj w0 F0 X F S s aH aP where
 h_:=h.h_
 iL:=h.iL
 gg:=λb bJ=>Nat.lt_of_lt_of_le (h.gg b bJ) aa
 fB:=λt b bJ=>Nat.lt_of_lt_of_le (h.fB t b bJ) aa
 gN:=h.gN
 gh:=h.gh
 eX:=h.eX
 eu:=λt=>aQ.frame (Sx:=S) (λb bJ=>ab b (h.gg b bJ)) (λ_ h=>h) (λx b cq=>ab b (h.fB x b cq)) h.eu _ _ _ (λb cq=>ab b (h.fB t b cq)) (h.eu t)
 old:=λb eN mT=>(ab b (Nat.lt_of_lt_of_le eN h.size)).trans (h.old b eN mT)
 size:=Nat.le_trans h.size aa
 os:=ad.trans h.os
 tape:=ag.trans h.tape
 output:=aD.trans h.output
 gw:=h.gw
def hn (S:Nat->Nat->Prop) (t:Nat) (Sn:Nat->Prop):Nat->Nat->Prop:=λu b=>if u=t then Sn b else S u b
theorem Ex (S:Nat->Nat->Prop) (t:Nat) (Sn:Nat->Prop):hn S t Sn t=Sn:=by funext b;simp[hn]
theorem Ey (S:Nat->Nat->Prop) {t u:Nat} (Sn:Nat->Prop) (h:u≠t):hn S t Sn u=S u:=by funext b;simp[hn,h]
theorem cj.Bz (h:cj w0 F0 X F S s aH w) {t:Nat} {d:I} {v:Value} (ax:d.plain=true) (ao:aQ w F s aH d v (λ_=>False)):
  cj w0 F0 X F (hn S t (λ_=>False)) (el s t d) (el aH t v) w where
 h_:=h.h_
 iL:=h.iL
 gg:=h.gg
 fB:=λu b ab=>by simp only[hn]at ab;split at ab;exact ab.elim;exact h.fB u b ab
 gN:=λu b ab=>by simp only[hn]at ab;split at ab;exact ab.elim;exact h.gN u b ab
 gh:=λu x b eb ab aq=>by
  simp only[hn]at ab aq;split at ab
  .exact ab.elim
  .split at aq
   .exact aq.elim
   .exact h.gh u x b eb ab aq
 eX:=λu b ab=>by simp only[hn]at ab;split at ab;exact ab.elim;exact h.eX u b ab
 eu:=λu=>by
  have iK:∀x,x≠t->(el s t d x).tree=true->el s t d x=s x/\el aH t v x=aH x:=λx aq _=>⟨ll _ _ aq,ll _ _ aq⟩
  have qD:(el s t d t).plain=true:=by rw[oV];exact ax
  by_cases hu:u=t
  .subst hu;rw[oV,oV,Ex];exact(aQ.void iK qD _).1 _ _ _ (Nat.le_refl _) ao
  .rw[ll _ _ hu,ll _ _ hu,Ey _ _ hu];exact(aQ.void iK qD _).1 _ _ _ (Nat.le_refl _) (h.eu u)
 old:=h.old
 size:=h.size
 os:=h.os
 tape:=h.tape
 output:=h.output
 gw:=h.gw
theorem cj.Ut (h:cj w0 F0 X F S s aH w) {t:Nat} {d:I} {v:Value} {Sn:Nat->Prop} (ao:d.tree=true) (aa:eY d v) (aF:az w F d (c_ v) Sn)
  (eN:∀b,Sn b->b<w.heap.size) (bJ:∀b,Sn b->¬F b) (cq:∀u b,u≠t->Sn b->¬S u b) (bc:∀b,Sn b->X b\/w0.heap.size<=b):
  cj w0 F0 X F (hn S t Sn) (el (oU t s) t d) (el aH t v) w where
 h_:=h.h_
 iL:=h.iL
 gg:=h.gg
 fB:=λu b ab=>by simp only[hn]at ab;split at ab;exact eN b ab;exact h.fB u b ab
 gN:=λu b ab=>by simp only[hn]at ab;split at ab;exact bJ b ab;exact h.gN u b ab
 gh:=λu x b eb ab aq=>by
  simp only[hn]at ab aq;split at ab
  .rename_i hu;rw[if_neg (λe=>eb (hu.trans e.symm))]at aq;exact cq x b (λe=>eb (hu.trans e.symm)) ab aq
  .rename_i hu;split at aq
   .exact cq u b hu aq ab
   .exact h.gh u x b eb ab aq
 eX:=λu b ab=>by simp only[hn]at ab;split at ab;exact bc b ab;exact h.eX u b ab
 eu:=λu=>by
  have iK:∀x,x≠t->(el (oU t s) t d x).tree=true->el (oU t s) t d x=s x/\el aH t v x=aH x:=λx aq bb=>by
   rw[ll _ _ aq]at bb⊢;exact⟨(ac4 bb).2,ll _ _ aq⟩
  by_cases hu:u=t
  .subst hu;rw[oV,oV,Ex];exact(aQ.dx ao).2 ⟨aa,aF⟩
  .rw[ll _ _ hu,ll _ _ hu,Ey _ _ hu];exact(aQ.dL iK _).1 _ _ _ (Nat.le_refl _) (h.eu u)
 old:=h.old
 size:=h.size
 os:=h.os
 tape:=h.tape
 output:=h.output
 gw:=h.gw
theorem xB (k:Nat) (q:azf) (bM x:I):(∃aG gs,x= .agg aG/\I.put (k::q) bM x= .agg gs)\/(∃aG gs,x= .tuple aG/\I.put (k::q) bM x= .tuple gs)\/
  (∃sz xs c1,x= .ae sz xs/\I.put (k::q) bM x= .ae sz c1)\/(∃y z,x= .aM y/\I.put (k::q) bM x= .aM z)\/I.put (k::q) bM x=x:=by
 cases x with
 |agg aG=>simp only[I.put];split<;>exact .inl ⟨_,_,rfl,rfl⟩
 |tuple aG=>simp only[I.put];split<;>exact .inr (.inl ⟨_,_,rfl,rfl⟩)
 |ae sz aG=>simp only[I.put];split<;>exact .inr (.inr (.inl ⟨_,_,_,rfl,rfl⟩))
 |aM y=>cases k<;>exact .inr (.inr (.inr (.inl ⟨_,_,rfl,rfl⟩)))
 |_=>exact .inr (.inr (.inr (.inr rfl)))
theorem Uu {k:Nat} {q:azf} {bM x:I} {v:Value} (h:ki x v):ki (I.put (k::q) bM x) v:=by
 rcases xB k q bM x with⟨aG,gs,rfl,e⟩|⟨aG,gs,rfl,e⟩|⟨sz,xs,c1,rfl,e⟩|⟨y,z,rfl,e⟩|e<;>rw[e]<;>exact h
theorem Uv {k:Nat} {q:azf} {bM x:I} (h:∀vs,x≠.tuple vs):∀vs,I.put (k::q) bM x≠.tuple vs:=by
 rcases xB k q bM x with⟨aG,gs,rfl,e⟩|⟨aG,gs,rfl,e⟩|⟨sz,xs,c1,rfl,e⟩|⟨y,z,rfl,e⟩|e<;>rw[e]<;>first|exact h|(intro vs bF;cases bF;done)|exact(h _ rfl).elim
theorem Ez {k:Nat} {q:azf} {d bM av:I} {v:Value} (h:eY av v) (ao:I.sub (k::q) av=some d) (ad:∀v,ki d v->ki bM v) (ag:(∀vs,d≠.tuple vs)->∀vs,bM≠.tuple vs) (aD:bM.wd=d.wd):
  eY (I.put (k::q) bM av) v:=by
 cases av with
 |tuple aG=>
  simp only[I.sub]at ao;split at ao
  .rename_i x aq;simp only[I.put,aq];simp only[eY]at h⊢;obtain⟨arr,rfl,cf,nv⟩:=h;refine⟨arr,rfl,by simpa using cf,λj e y he hy=>?_⟩;rw[getElem?_set]at he;split at he
   .rename_i MO;subst MO;split at he
    .simp only[some.injEq]at he;subst he;obtain⟨g1,g2,g3⟩:=nv k x y aq hy;refine⟨?_,?_,g3.trans (I.Bw q x d bM ao aD).symm⟩
     .cases q with
      |nil=>
       simp only[I.sub,some.injEq]at ao;subst ao;exact ad _ g1
      |cons cu q=>exact Uu g1
     .cases q with
      |nil=>
       simp only[I.sub,some.injEq]at ao;subst ao;exact ag g2
      |cons cu q=>exact Uv g2
    .cases he
   .exact nv j e y he hy
  .cases ao
 |agg aG=>simp only[I.put];split<;>exact h
 |ae sz aG=>simp only[I.put];split<;>exact h
 |aM y=>cases k<;>exact h
 |_=>exact h
theorem MP {d:I} {v:Value} (h:ki d v):ki d.ee v:=by cases d<;>exact h
theorem Uw {s:al} {x:Nat} {q:azf} {d:I} (ao:I.sub q (s x)=some d) (ax:d.plain=false):
  (el (js x s) x (I.put q d.ee (s x)) x).plain=false->(s x).plain=false/\∀v,eY (s x) v->eY (el (js x s) x (I.put q d.ee (s x)) x) v:=by
  rw[oV];intro fO;cases q with
  |nil=>
   exfalso;have:∀d:I,d.ee.plain=true:=by
    intro d;have key:∀n,(∀d:I,SizeOf.sizeOf d<=n->d.ee.plain=true)/\(∀ds:azk,SizeOf.sizeOf ds<=n->I.e6 (I.od ds)=true):=by
     intro n;induction n with
     |zero=>exact⟨λd cf=>by cases d<;>simp at cf<;>omega,λds cf=>by cases ds<;>simp at cf<;>omega⟩
     |succ n ih=>
      refine⟨λd cf=>?_,λds cf=>?_⟩
      .cases d with
       |agg aG=>simp only[I.ee,I.plain];exact ih.2 _ (by simp at cf;omega)
       |tuple aG=>simp only[I.ee,I.plain];exact ih.2 _ (by simp at cf;omega)
       |_=>rfl
      .cases ds with
       |nil=>rfl
       |cons d ds=>
        simp at cf;simp only[I.od,I.e6,Bool.and_eq_true];exact⟨ih.1 _ (by omega),ih.2 _ (by omega)⟩
    exact(key _).1 d (Nat.le_refl _)
   simp only[I.put]at fO;rw[this]at fO;cases fO
  |cons k q=>
   refine⟨?_,λv aF=>Ez aF ao (λv h=>MP h) (λh vs e=>?_) (I.xA d)⟩
   .cases bP:(s x).plain with
    |false=>rfl
    |true=>rw[I.MG _ _ _ bP ao]at ax;cases ax
   .cases d<;>first|(exact h _ rfl)|(simp[I.ee]at e)
theorem cj.take (h:cj w0 F0 X F S s aH w) {x:Nat} {q:azf} {d:I} (ao:I.sub q (s x)=some d) (ax:d.plain=false):
  ∃(Sn gv:Nat->Prop) (dK:azi) (a:Option (Nat×Nat)),cj w0 F0 X F (hn S x Sn) (el (js x s) x (I.put q d.ee (s x))) aH w/\
   eA w q (s x) (c_ (aH x)) none=some (d,dK,a)/\az w F d dK gv/\(∀b,gv b->S x b)/\(∀b,Sn b->S x b)/\(∀b,gv b->¬Sn b)/\
   (∀(bM:I) (v:Value) (a_:Nat->Prop),aQ w F s aH bM v a_->aQ w F (el (js x s) x (I.put q d.ee (s x))) aH (ei.cW x bM) v a_):=by
 have bb:=jG ao (.inl ax);have aq:=h.eu x;rw[aQ.dx bb]at aq;obtain⟨dK,a,fj,gv,g0,g1,g2,g3,g4,g5⟩:=ctx q (s x) (c_ (aH x)) (S x) none d aq.2 ao;have l_:az w F (I.put q d.ee (s x)) (c_ (aH x)) fj:=by
  have kz:az w F d.ee dK (λ_=>False):=az.ee _ _ _ _ g4;have kA:∀b,(fj b\/False)->fj b:=λb h=>h.elim id False.elim;rcases g5 with⟨l,r,aR,aW,aU⟩|⟨b,cur,e,fr,l,r,aR,aW,aU,cc,cZ,cv⟩
  .have:=aU w _ dK _ (λ_ _=>rfl) (λ_ _=>rfl) (I.xA d) kz (λ_ h=>h.elim);rw[<-aR]at this;exact az.mono (λ_ h=>h) _ _ _ _ kA this
  .have:=cv w _ dK _ (λ_ _=>rfl) (λ_ _ _=>rfl) (by rw[aU,<-cZ]) (I.xA d) kz (λ_ h=>h.elim);exact az.mono (λ_ h=>h) _ _ _ _ kA this
 have ac5:eY (I.put q d.ee (s x)) (aH x)/\(I.put q d.ee (s x)).tree=true\/I.put q d.ee (s x)= .hole:=by
  cases q with
  |nil=>
   simp only[I.sub,some.injEq]at ao;subst ao;simp only[I.put];cases aa:s x with
   |ae sz xs=>right;rfl
   |aM y=>right;rfl
   |ck y=>right;rfl
   |agg aG=>left;rw[aa]at aq;exact⟨aq.1,rfl⟩
   |tuple aG=>
    left;rw[aa]at aq;refine⟨?_,rfl⟩;simp only[eY,I.ee]at aq⊢;obtain⟨arr,e,cf,nv⟩:=aq.1;have hl:∀aG:azk,I.od aG=aG.map I.ee:=by
     intro aG;induction aG with
     |nil=>rfl
     |cons a aG ih=>simp[I.od,ih]
    refine⟨arr,e,by rw[hl];simpa using cf,λk hs y he hy=>?_⟩;rw[hl,getElem?_map]at he;cases aw:aG[k]? with
    |none=>rw[aw]at he;cases he
    |some z=>
     rw[aw]at he;simp only[map_some,some.injEq]at he;subst he;obtain⟨g1,g2,g3⟩:=nv k z y aw hy;refine⟨MP g1,λvs e=>?_,g3.trans (I.xA z).symm⟩;cases z<;>first|(exact g2 _ rfl)|(simp[I.ee]at e)
   |_=>rw[aa]at ax;simp[I.plain]at ax
  |cons k q=>
   left;refine⟨Ez aq.1 ao (λv h=>MP h) (λh vs e=>?_) (I.xA d),?_⟩
   .cases d<;>first|(exact h _ rfl)|(simp[I.ee]at e)
   .rcases xB k q d.ee (s x)with⟨aG,gs,aR,e⟩|⟨aG,gs,aR,e⟩|⟨sz,xs,c1,aR,e⟩|⟨y,z,aR,e⟩|e<;>rw[e]<;>first|rfl|exact bb
 refine⟨fj,gv,dK,a,?_,g0,g4,g2,g1,λb ad ag=>g3 b ag ad,?_⟩
 rotate_left
 .have iK:∀y,y≠x->(el (js x s) x (I.put q d.ee (s x)) y).tree=true->el (js x s) x (I.put q d.ee (s x)) y=s y/\aH y=aH y:=λy hy bb=>by
   rw[ll _ _ hy]at bb⊢;exact⟨(IB bb).2,rfl⟩
  intro bM v a_ jo;exact(aQ.cW iK rfl (Uw ao ax) (λ_ _ _ _ _ _=>rfl) (λ_ _=>rfl) _).1 _ _ _ (Nat.le_refl _) (λ_ _=>rfl) jo
 have iK:∀y,y≠x->(el (js x s) x (I.put q d.ee (s x)) y).tree=true->el (js x s) x (I.put q d.ee (s x)) y=s y/\aH y=aH y:=λy hy bb=>by
  rw[ll _ _ hy]at bb⊢;exact⟨(IB bb).2,rfl⟩
 have oe:=Uw (s:=s) (x:=x) ao ax;constructor;case h_=>exact h.h_
 case iL=>exact h.iL
 case gg=>exact h.gg
 case fB=>exact λu b ab=>by simp only[hn]at ab;split at ab;exact h.fB x b (g1 b ab);exact h.fB u b ab
 case gN=>exact λu b ab=>by simp only[hn]at ab;split at ab;exact h.gN x b (g1 b ab);exact h.gN u b ab
 case gh=>
  intro u y b eb ab hy;simp only[hn]at ab hy;split at ab
  .rename_i hu;rw[if_neg (λe=>eb (hu.trans e.symm))]at hy;exact h.gh x y b (λe=>eb (hu.trans e)) (g1 b ab) hy
  .rename_i hu;split at hy
   .exact h.gh u x b hu ab (g1 b hy)
   .exact h.gh u y b eb ab hy
 case eX=>exact λu b ab=>by simp only[hn]at ab;split at ab;exact h.eX x b (g1 b ab);exact h.eX u b ab
 case eu=>
  intro u;by_cases hu:u=x
  .subst hu;rw[oV,Ex];rcases ac5 with⟨aR,aW⟩|e
   .exact(aQ.dx aW).2 ⟨aR,l_⟩
   .rw[e,aQ];trivial
  .rw[ll _ _ hu,Ey _ _ hu];exact(aQ.cW iK rfl oe (λ_ _ _ _ _ _=>rfl) (λ_ _=>rfl) _).1 _ _ _ (Nat.le_refl _) (λ_ _=>rfl) (h.eu u)
 case old=>exact h.old
 case size=>exact h.size
 case os=>exact h.os
 case tape=>exact h.tape
 case output=>exact h.output
 case gw=>exact h.gw
theorem cj.store (h:cj w0 F0 X F S s aH w) {x:Nat} {q:azf} {d bM:I} (ao:I.sub q (s x)=some d) (au:I.gM q (s x)=true)
  {hk:azi} {Sn:Nat->Prop} (aF:az w F bM hk Sn) (nu:bM.wd=d.wd)
  (eN:∀b,Sn b->b<w.heap.size) (bJ:∀b,Sn b->¬F b) (cq:∀u b,Sn b->¬S u b) (bc:∀b,Sn b->X b\/w0.heap.size<=b):
  ∃(dK:azi) (b:Nat) (l r:azi) (cur:Array Value) (e:TypeId) (fr:Nat×Nat),eA w q (s x) (c_ (aH x)) none=some (d,dK,some (b,l.length))/\
   w.heap[b]? =some (.cells cur e fr)/\cur.toList=l++(dK++r)/\pZ fr cur.size/\
   ∀aP,aP.heap[b]? =some (.cells (l++(hk++r)).toArray e fr)->(∀c,c≠b->aP.heap[c]? =w.heap[c]?)->aP.heap.size=w.heap.size->aP.os=w.os->aP.tape=w.tape->Out aP w->
    ∃a_,cj w0 F0 X F a_ (el (js x s) x (I.put q bM (s x))) aH aP:=by
 have bb:=jG ao (.inr au);have aq:=h.eu x;rw[aQ.dx bb]at aq;obtain⟨dK,a,fj,gv,g0,g1,g2,g3,g4,g5⟩:=ctx q (s x) (c_ (aH x)) (S x) none d aq.2 ao;have ac6:Deep w F q (s x) (c_ (aH x)) d dK a fj:=by
  rcases g5 with⟨l,r,aR,aW,aU⟩|g5
  .exfalso;have nS:∀(q:azf) (av:I) (cs:azi) (a0:Option (Nat×Nat)) (d:I) (dK:azi),I.gM q av=true->eA w q av cs a0=some (d,dK,none)->False:=by
    intro q;induction q with
    |nil=>intro av cs a0 d dK au;simp[I.gM]at au
    |cons k q ih=>
     have Ux:∀(q:azf) (av:I) (cs:azi) (l:Nat×Nat) (d:I) (dK:azi),eA w q av cs (some l)=some (d,dK,none)->False:=by
      intro q;induction q with
      |nil=>intro av cs l d dK h;simp[eA]at h
      |cons k q BA=>
       intro av cs l d dK h;cases av with
       |agg aG=>rw[eA]at h;split at h;exact BA _ _ _ _ _ h;cases h
       |tuple aG=>rw[eA]at h;split at h;exact BA _ _ _ _ _ h;cases h
       |ae sz xs=>simp only[eA]at h;split at h;exact BA _ _ _ _ _ h;cases h
       |aM y=>
        cases k with
        |zero=>rw[eA.eq_def]at h;simp only at h;split at h;exact BA _ _ _ _ _ h;cases h
        |succ k=>rw[show eA w ((k+1)::q) (.aM y) cs (some l)=none from rfl]at h;cases h
       |_=>simp[eA]at h
     intro av cs a0 d dK au h;cases av with
     |agg aG=>
      simp only[I.gM]at au;split at au
      .rename_i y hy;simp only[eA,hy]at h;exact ih _ _ _ _ _ au h
      .cases au
     |tuple aG=>
      simp only[I.gM]at au;split at au
      .rename_i y hy;simp only[eA,hy]at h;exact ih _ _ _ _ _ au h
      .cases au
     |ae sz xs=>simp only[eA]at h;split at h;exact Ux _ _ _ _ _ _ h;cases h
     |aM y=>
      cases k with
      |zero=>rw[eA.eq_def]at h;simp only at h;split at h;exact Ux _ _ _ _ _ _ h;cases h
      |succ k=>rw[show eA w ((k+1)::q) (.aM y) cs a0=none from rfl]at h;cases h
     |_=>simp[I.gM]at au
   simp only[map_none]at aW;subst aW;exact nS _ _ _ _ _ _ au g0
  .exact g5
 obtain⟨b,cur,e,fr,l,r,rfl,aW,aU,cc,cZ,cv⟩:=ac6;refine⟨dK,b,l,r,cur,e,fr,g0,aU,cZ,cc,?_⟩;intro aP po ru fa MQ MR za;have zb:S x b:=g1 _ aW;have ug:∀c,F c->aP.heap[c]? =w.heap[c]? :=λc au=>ru c (by rintro rfl;exact h.gN x _ zb au);have awY:hk.length=dK.length:=by rw[az.length _ _ _ aF,az.length _ _ _ g4,nu]
 have l_:=cv aP bM hk Sn ug (λc _ eb=>ru c eb) po nu
  (az.frame ug _ _ _ (λc au=>ru c (by rintro rfl;exact cq x _ au zb)) aF) (λc au kA=>cq x c au (g1 _ kA))
 obtain⟨k,lP,rfl⟩:∃k lP,q=k::lP:=by
  cases q with
  |nil=>simp[I.gM]at au
  |cons k q=>exact⟨k,q,rfl⟩
 have EA:∀v,eY (s x) v->eY (I.put (k::lP) bM (s x)) v:=by
  intro v aF;rcases xB k lP bM (s x)with⟨aG,gs,aR,e⟩|⟨aG,gs,aR,e⟩|⟨sz,xs,c1,aR,e⟩|⟨y,z,aR,e⟩|e
  .rw[e];rw[aR]at aF;exact aF
  ·
   rw[aR]at aF ao au⊢;simp only[I.gM]at au;split at au
   .rename_i y hy;simp only[I.put,hy];cases lP with
    |nil=>simp[I.gM]at au
    |cons cu gx=>
     simp only[eY]at aF⊢;obtain⟨arr,rfl,cf,nv⟩:=aF;refine⟨arr,rfl,by simpa using cf,λj e oW he zc=>?_⟩;rw[getElem?_set]at he;split at he
     .rename_i MO;subst MO;split at he
      .simp only[some.injEq]at he;subst he;obtain⟨g1,g2,g3⟩:=nv _ y oW hy zc;simp only[I.sub,hy]at ao;exact⟨Uu g1,Uv g2,g3.trans (I.Bw (cu::gx) y d bM ao nu).symm⟩
      .cases he
     .exact nv j e oW he zc
   .cases au
  .rw[e];rw[aR]at aF;exact aF
  .rw[e];rw[aR]at aF;exact aF
  .rw[e];exact aF
 have ac7:(I.put (k::lP) bM (s x)).tree=true:=by
  rcases xB k lP bM (s x)with⟨aG,gs,aR,e⟩|⟨aG,gs,aR,e⟩|⟨sz,xs,c1,aR,e⟩|⟨y,z,aR,e⟩|e<;>rw[e]<;>first|rfl|exact bb
 let aE:=el (js x s) x (I.put (k::lP) bM (s x))
 have iK:∀y,y≠x->(aE y).tree=true->aE y=s y/\aH y=aH y:=λy hy bb=>by
  have e:aE y=cW x (s y):=ll _ _ hy;rw[e]at bb⊢;exact⟨(IB bb).2,rfl⟩
 have oe:(aE x).plain=false->(s x).plain=false/\∀v,eY (s x) v->eY (aE x) v:=by
  intro _;refine⟨?_,?_⟩
  .cases bP:(s x).plain with
   |false=>rfl
   |true=>rw[I.Ur _ _ bP]at au;cases au
  .simp only[aE,oV];exact EA
 refine⟨hn S x (λc=>fj c\/Sn c),?_⟩;constructor;case h_=>exact h.h_
 case iL=>exact h.iL
 case gg=>exact λb ab=>by rw[fa];exact h.gg b ab
 case fB=>
  intro u c ab;rw[fa];simp only[hn]at ab;split at ab
  .rcases ab with ab|ab
   .exact h.fB x c (g1 c ab)
   .exact eN c ab
  .exact h.fB u c ab
 case gN=>
  intro u c ab;simp only[hn]at ab;split at ab
  .rcases ab with ab|ab
   .exact h.gN x c (g1 c ab)
   .exact bJ c ab
  .exact h.gN u c ab
 case gh=>
  intro u y c eb ab hy;simp only[hn]at ab hy;split at ab
  .rename_i hu;rw[if_neg (λe=>eb (hu.trans e.symm))]at hy;rcases ab with ab|ab
   .exact h.gh x y c (λe=>eb (hu.trans e)) (g1 c ab) hy
   .exact cq y c ab hy
  .rename_i hu;split at hy
   .rcases hy with hy|hy
    .exact h.gh u x c hu ab (g1 c hy)
    .exact cq u c hy ab
   .exact h.gh u y c eb ab hy
 case eX=>
  intro u c ab;simp only[hn]at ab;split at ab
  .rcases ab with ab|ab
   .exact h.eX x c (g1 c ab)
   .exact bc c ab
  .exact h.eX u c ab
 case eu=>
  intro u;by_cases hu:u=x
  .subst hu;rw[oV,Ex];exact(aQ.dx ac7).2 ⟨EA _ aq.1,l_⟩
  .rw[ll _ _ hu,Ey _ _ hu];have eb:∀y c,y≠x->S y c->aP.heap[c]? =w.heap[c]? :=λy c hy au=>ru c (by rintro rfl;exact h.gh y x c hy au zb);refine(aQ.cW iK rfl oe (λy gx d2 hy hE EB=>?_) ug _).1 _ _ _ (Nat.le_refl _) (λc au=>eb u c hu au) (h.eu u);have EC:=h.eu y;rw[aQ.dx (jG hE EB)]at EC;exact IA gx _ _ _ none d2 EC.2 hE (λc au=>eb y c hy au)
 case old=>
  intro c eN mT;by_cases BB:c=b
  .subst BB;exfalso;rcases h.eX x c zb with kz|kz
   .exact mT kz
   .omega
  .exact(ru c BB).trans (h.old c eN mT)
 case size=>rw[fa];exact h.size
 case os=>exact MQ.trans h.os
 case tape=>exact MR.trans h.tape
 case output=>exact za.trans h.output
 case gw=>exact h.gw
end
end Go.ei
