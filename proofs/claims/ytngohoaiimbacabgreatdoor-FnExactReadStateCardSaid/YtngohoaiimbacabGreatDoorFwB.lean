/- Part of a proof that a law returns true for every input. No condition. -/
import Derived.Test.YtngohoaiimbacabGreatDoorFwA
import Derived.Laws.AppendOwn
import Derived.Calls
namespace Go.c_
open List Option Go.IntKind Nat Or
inductive wc where
 |mp (es:gk)
 |q1
 |hL (T e:TypeId) (kQ:aht)
inductive I where
 |hole
 |bool (b:Bool)
 |fw
 |int (k:IntKind) (n:Int)
 |str (s:aht)
 |dr
 |bf
 |slice (xs:List I)
 |ao (sz:Nat) (xs:List I)
 |ref (d:I)
 |a1 (d:I)
 |agg (az:List I)
 |tuple (vs:List I)
 |fn (f:FuncId) (cap:List I)
 |h (x:Nat) (q:ahw)
 |an (x:Nat) (q:ahw)
 |R (x:Nat) (k:Nat)
 |dK (o:wc)
 |fD (f:FuncId) (cap:List I)
 deriving Inhabited
abbrev ahB:=List I
abbrev ahA:=List (Nat×I)
mutual
def I.wd:I->Nat
 | .agg az=>I.dT az
 | .tuple az=>I.dT az
 |_=>1
def I.dT:ahB->Nat
 |[]=>0
 |d::ds=>d.wd+I.dT ds
end
def hE (w:World) (b o:Nat) (cs:ahz):Prop:=∀j c,cs[j]? =some c->w.cell? ⟨b,o+j,none⟩=some c
def mo (fr:Nat×Nat) (n:Nat):Prop:=∀o,o<n->¬(fr.1<=o/\o<fr.2)
theorem mo.le {fr:Nat×Nat} {m n:Nat} (h:mo fr n) (hm:m<=n):mo fr m:=λo b1=>h o (Nat.lt_of_lt_of_le b1 hm)
theorem mo.low {fr:Nat×Nat} {n k:Nat} (h:mo fr (n+k)):mo fr n:=h.le (le_add_right _ _)
def Value.fY:Value->Bool
 | .agg _=>false
 | .tuple _=>false
 |_=>true
def I.single:I->Bool
 | .agg _=>false
 | .tuple _=>false
 | .hole=>false
 |_=>true
def I.one:I->Bool
 | .agg _=>false
 | .tuple _=>false
 |_=>true
def lI (w:World):wc->ahz->(Nat->Prop)->Prop
 | .mp es,cs,S=>∃r ms mq,cs=[.map (some r)]/\S r/\w.heap[r]? =some (.map ms mq)/\ms.toList.map (λe=>(e.key,e.val))=es.map (λe=>(.string ⟨⟨e.1⟩⟩,.bool e.2))
 | .q1,cs,_=>cs=[.map none]
 | .hL T e kQ,cs,S=>∃b a se,cs=[.pointer (some ⟨b,0,none⟩)]/\S b/\w.heap[b]? =some (.cells #[a,se] T (0,0))/\(a= .pointer none\/a= .pointer (some ⟨b,0,none⟩))/\
   ((kQ=[]/\se= .slice none 0 0)\/
     ∃g cap cur,se= .slice (some ⟨g,0,none⟩) kQ.length cap/\S g/\g≠b/\w.heap[g]? =some (.cells cur e (0,0))/\kQ.length<=cap/\cap<=maxLen/\cur.size=cap/\
      cur.toList.take kQ.length=kQ.map λx=>.int .u8 x.toNat)
theorem lI.frame {w aD:World}:∀{o:wc} {cs:ahz} {S:Nat->Prop},(∀b,S b->aD.heap[b]? =w.heap[b]?)->lI w o cs S->lI aD o cs S
 | .mp _,_,_,bK,⟨r,ms,mq,ab,ad,aC,aW⟩=>⟨r,ms,mq,ab,ad,(bK _ ad).trans aC,aW⟩
 | .q1,_,_,_,h=>h
 | .hL _ _ _,_,_,bK,⟨b,a,se,ab,ad,aC,aW,bu⟩=>⟨b,a,se,ab,ad,(bK _ ad).trans aC,aW,bu.imp (λh=>h) λ⟨g,cap,cur,q2,i2,i3,i4,i5⟩=>⟨g,cap,cur,q2,i2,i3,(bK _ i2).trans i4,i5⟩⟩
theorem lI.mono {w:World}:∀{o:wc} {cs:ahz} {S aN:Nat->Prop},(∀b,S b->aN b)->lI w o cs S->lI w o cs aN
 | .mp _,_,_,_,bK,⟨r,ms,mq,ab,ad,aC⟩=>⟨r,ms,mq,ab,bK _ ad,aC⟩
 | .q1,_,_,_,_,h=>h
 | .hL _ _ _,_,_,_,bK,⟨b,a,se,ab,ad,aC,aW,bu⟩=>⟨b,a,se,ab,bK _ ad,aC,aW,bu.imp (λh=>h) λ⟨g,cap,cur,q2,i2,i3⟩=>⟨g,cap,cur,q2,bK _ i2,i3⟩⟩
theorem lI.one {w:World}:∀{o:wc} {cs:ahz} {S:Nat->Prop},lI w o cs S->∃v,Value.fY v=true/\cs=[v]
 | .mp _,_,_,⟨_,_,_,h,_⟩=>⟨_,rfl,h⟩
 | .q1,_,_,h=>⟨_,rfl,h⟩
 | .hL _ _ _,_,_,⟨_,_,_,h,_⟩=>⟨_,rfl,h⟩
mutual
def au (w:World) (F:Nat->Prop):I->ahz->(Nat->Prop)->Prop
 | .hole,cs,_=>∃v,Value.fY v=true/\cs=[v]
 | .bool b,cs,_=>cs=[.bool b]
 | .fw,cs,_=>∃b,cs=[.bool b]
 | .int k n,cs,_=>cs=[.int k n]
 | .str s,cs,_=>cs=[.string ⟨⟨s⟩⟩]
 | .dr,cs,_=>cs=[.pointer none]
 | .bf,cs,_=>cs=[.slice none 0 0]
 | .slice xs,cs,_=>(xs=[]/\∃a c,cs=[.slice a 0 c]/\c<=maxLen/\(a=none->c=0))\/
   ∃b o cap eh sz,cs=[.slice (some ⟨b,o,none⟩) xs.length cap]/\F b/\xs.length<=cap/\cap<=maxLen/\(∀d∈xs,d.wd=sz)/\
    hE w b o eh/\aZ w F xs eh (λ_=>False)
 | .ao sz xs,cs,S=>(xs=[]/\∃a,cs=[.slice a 0 0])\/
   ∃b cap cur e fr aN,cs=[.slice (some ⟨b,0,none⟩) xs.length cap]/\S b/\w.heap[b]? =some (.cells cur e fr)/\mo fr (cur.size+(sz-1))/\
    xs.length<=cap/\cap<=maxLen/\cur.size=cap*sz/\(∀d∈xs,d.wd=sz)/\aZ w F xs (cur.toList.take (xs.length*sz)) aN/\(∀c,aN c->S c)/\¬aN b
 | .ref d,cs,_=>∃b o eh,cs=[.pointer (some ⟨b,o,none⟩)]/\F b/\hE w b o eh/\au w F d eh (λ_=>False)
 | .a1 d,cs,S=>∃b cur e fr aN,cs=[.pointer (some ⟨b,0,none⟩)]/\S b/\w.heap[b]? =some (.cells cur e fr)/\mo fr cur.size/\
   au w F d cur.toList aN/\(∀c,aN c->S c)/\¬aN b
 | .agg az,cs,S=>aZ w F az cs S
 | .tuple az,cs,S=>aZ w F az cs S
 | .fn f caps,cs,_=>∃arr:Array Value,cs=[.func (.func f) #[] arr]/\(∀d∈caps,d.single=true)/\aZ w F caps arr.toList (λ_=>False)
 | .h _ _,_,_=>False
 | .an _ _,_,_=>False
 | .R _ _,_,_=>False
 | .dK o,cs,S=>lI w o cs S
 | .fD f caps,cs,S=>∃arr:Array Value,cs=[.func (.func f) #[] arr]/\(∀d∈caps,d.one=true)/\aZ w F caps arr.toList S
def aZ (w:World) (F:Nat->Prop):ahB->ahz->(Nat->Prop)->Prop
 |[],cs,_=>cs=[]
 |d::ds,cs,S=>∃b2 c2 b3 dh,cs=b2++c2/\au w F d b2 b3/\aZ w F ds c2 dh/\(∀b,b3 b->S b)/\(∀b,dh b->S b)/\(∀b,b3 b->¬dh b)
end
theorem cell?_of_block {w aD:World} {b:Nat} (h:aD.heap[b]? =w.heap[b]?) (o:Nat):aD.cell? ⟨b,o,none⟩=w.cell? ⟨b,o,none⟩:=by
 simp[World.cell?,h]
theorem hE.frame {w aD:World} {b o:Nat} {cs:ahz} (h:aD.heap[b]? =w.heap[b]?) (aH:hE w b o cs):hE aD b o cs:=
 λj c ai=>(cell?_of_block h _).trans (aH j c ai)
mutual
theorem au.frame {w aD:World} {F:Nat->Prop} (a8:∀b,F b->aD.heap[b]? =w.heap[b]?):
  ∀(d:I) (cs:ahz) (S:Nat->Prop),(∀b,S b->aD.heap[b]? =w.heap[b]?)->au w F d cs S->au aD F d cs S
 | .hole,_,_,_,h=>h
 | .bool _,_,_,_,h=>h
 | .fw,_,_,_,h=>h
 | .int _ _,_,_,_,h=>h
 | .str _,_,_,_,h=>h
 | .dr,_,_,_,h=>h
 | .bf,_,_,_,h=>h
 | .slice xs,cs,S,bK,h=>by
   rw[au]at h⊢;rcases h with h|⟨b,o,cap,eh,sz,ab,ad,aC,aW,bu,cy,cl⟩
   .exact .inl h
   .exact .inr ⟨b,o,cap,eh,sz,ab,ad,aC,aW,bu,cy.frame (a8 _ ad),aZ.frame a8 xs _ _ (λ_ h=>h.elim) cl⟩
 | .ao sz xs,cs,S,bK,h=>by
   rw[au]at h⊢;rcases h with h|⟨b,cap,cur,e,fr,aN,ab,ad,aC,aW,bu,cy,cl,fM,h9,iS,lJ⟩
   .exact .inl h
   .exact .inr ⟨b,cap,cur,e,fr,aN,ab,ad,(bK _ ad).trans aC,aW,bu,cy,cl,fM,aZ.frame a8 xs _ _ (λc ai=>bK _ (iS _ ai)) h9,iS,lJ⟩
 | .ref d,cs,S,bK,h=>by
   rw[au]at h⊢;obtain⟨b,o,eh,ab,ad,aC,aW⟩:=h;exact⟨b,o,eh,ab,ad,aC.frame (a8 _ ad),au.frame a8 d _ _ (λ_ h=>h.elim) aW⟩
 | .a1 d,cs,S,bK,h=>by
   rw[au]at h⊢;obtain⟨b,cur,e,fr,aN,ab,ad,aC,aW,bu,cy,cl⟩:=h;exact⟨b,cur,e,fr,aN,ab,ad,(bK _ ad).trans aC,aW,au.frame a8 d _ _ (λc ai=>bK _ (cy _ ai)) bu,cy,cl⟩
 | .agg az,cs,S,bK,h=>by rw[au]at h⊢;exact aZ.frame a8 az _ _ bK h
 | .tuple az,cs,S,bK,h=>by rw[au]at h⊢;exact aZ.frame a8 az _ _ bK h
 | .fn _ caps,cs,S,bK,h=>by
   rw[au]at h⊢;obtain⟨arr,ab,ad,aC⟩:=h;exact⟨arr,ab,ad,aZ.frame a8 caps _ _ (λ_ h=>h.elim) aC⟩
 | .h _ _,_,_,_,h=>h
 | .an _ _,_,_,_,h=>h
 | .R _ _,_,_,_,h=>h
 | .dK _,_,_,bK,h=>lI.frame bK h
 | .fD _ caps,cs,S,bK,h=>by
   rw[au]at h⊢;obtain⟨arr,ab,ad,aC⟩:=h;exact⟨arr,ab,ad,aZ.frame a8 caps _ _ bK aC⟩
theorem aZ.frame {w aD:World} {F:Nat->Prop} (a8:∀b,F b->aD.heap[b]? =w.heap[b]?):
  ∀(ds:ahB) (cs:ahz) (S:Nat->Prop),(∀b,S b->aD.heap[b]? =w.heap[b]?)->aZ w F ds cs S->aZ aD F ds cs S
 |[],_,_,_,h=>h
 |d::ds,cs,S,bK,h=>by
  rw[aZ]at h⊢;obtain⟨b2,c2,b3,dh,ab,ad,aC,aW,bu,cy⟩:=h;exact⟨b2,c2,b3,dh,ab,au.frame a8 d _ _ (λb R=>bK _ (aW _ R)) ad,aZ.frame a8 ds _ _ (λb R=>bK _ (bu _ R)) aC,aW,bu,cy⟩
end
mutual
theorem au.mono {w:World} {F bE:Nat->Prop} (a8:∀b,F b->bE b):
  ∀(d:I) (cs:ahz) (S aN:Nat->Prop),(∀b,S b->aN b)->au w F d cs S->au w bE d cs aN
 | .hole,_,_,_,_,h=>h
 | .bool _,_,_,_,_,h=>h
 | .fw,_,_,_,_,h=>h
 | .int _ _,_,_,_,_,h=>h
 | .str _,_,_,_,_,h=>h
 | .dr,_,_,_,_,h=>h
 | .bf,_,_,_,_,h=>h
 | .slice xs,cs,S,_,bK,h=>by
   rw[au]at h⊢;rcases h with h|⟨b,o,cap,eh,sz,ab,ad,aC,aW,bu,cy,cl⟩
   .exact .inl h
   .exact .inr ⟨b,o,cap,eh,sz,ab,a8 _ ad,aC,aW,bu,cy,aZ.mono a8 xs _ _ _ (λ_ h=>h) cl⟩
 | .ao sz xs,cs,S,_,bK,h=>by
   rw[au]at h⊢;rcases h with h|⟨b,cap,cur,e,fr,aN,ab,ad,aC,aW,bu,cy,cl,fM,h9,iS,lJ⟩
   .exact .inl h
   .exact .inr ⟨b,cap,cur,e,fr,aN,ab,bK _ ad,aC,aW,bu,cy,cl,fM,aZ.mono a8 xs _ _ _ (λ_ h=>h) h9,λc ai=>bK _ (iS _ ai),lJ⟩
 | .ref d,cs,S,_,bK,h=>by
   rw[au]at h⊢;obtain⟨b,o,eh,ab,ad,aC,aW⟩:=h;exact⟨b,o,eh,ab,a8 _ ad,aC,au.mono a8 d _ _ _ (λ_ h=>h) aW⟩
 | .a1 d,cs,S,_,bK,h=>by
   rw[au]at h⊢;obtain⟨b,cur,e,fr,aN,ab,ad,aC,aW,bu,cy,cl⟩:=h;exact⟨b,cur,e,fr,aN,ab,bK _ ad,aC,aW,au.mono a8 d _ _ _ (λ_ h=>h) bu,λc ai=>bK _ (cy _ ai),cl⟩
 | .agg az,cs,S,_,bK,h=>by rw[au]at h⊢;exact aZ.mono a8 az _ _ _ bK h
 | .tuple az,cs,S,_,bK,h=>by rw[au]at h⊢;exact aZ.mono a8 az _ _ _ bK h
 | .fn _ caps,cs,S,_,bK,h=>by
   rw[au]at h⊢;obtain⟨arr,ab,ad,aC⟩:=h;exact⟨arr,ab,ad,aZ.mono a8 caps _ _ _ (λ_ h=>h) aC⟩
 | .h _ _,_,_,_,_,h=>h
 | .an _ _,_,_,_,_,h=>h
 | .R _ _,_,_,_,_,h=>h
 | .dK _,_,_,_,bK,h=>lI.mono bK h
 | .fD _ caps,cs,S,_,bK,h=>by
   rw[au]at h⊢;obtain⟨arr,ab,ad,aC⟩:=h;exact⟨arr,ab,ad,aZ.mono a8 caps _ _ _ bK aC⟩
theorem aZ.mono {w:World} {F bE:Nat->Prop} (a8:∀b,F b->bE b):
  ∀(ds:ahB) (cs:ahz) (S aN:Nat->Prop),(∀b,S b->aN b)->aZ w F ds cs S->aZ w bE ds cs aN
 |[],_,_,_,_,h=>h
 |d::ds,cs,S,_,bK,h=>by
  rw[aZ]at h⊢;obtain⟨b2,c2,b3,dh,ab,ad,aC,aW,bu,cy⟩:=h;exact⟨b2,c2,b3,dh,ab,au.mono a8 d _ _ _ (λ_ h=>h) ad,aZ.mono a8 ds _ _ _ (λ_ h=>h) aC,λb R=>bK _ (aW _ R),λb R=>bK _ (bu _ R),cy⟩
end
mutual
theorem au.length {w:World} {F:Nat->Prop}:∀(d:I) (cs:ahz) (S:Nat->Prop),au w F d cs S->cs.length=d.wd
 | .hole,cs,S,h=>by rw[au]at h;obtain⟨v,_,rfl⟩:=h;rfl
 | .bool _,cs,S,h=>by rw[au]at h;subst h;rfl
 | .fw,cs,S,h=>by rw[au]at h;obtain⟨b,rfl⟩:=h;rfl
 | .int _ _,cs,S,h=>by rw[au]at h;subst h;rfl
 | .str _,cs,S,h=>by rw[au]at h;subst h;rfl
 | .dr,cs,S,h=>by rw[au]at h;subst h;rfl
 | .bf,cs,S,h=>by rw[au]at h;subst h;rfl
 | .slice xs,cs,S,h=>by
   rw[au]at h;rcases h with⟨_,a,c,rfl,_⟩|⟨b,o,cap,eh,sz,rfl,_⟩<;>rfl
 | .ao sz xs,cs,S,h=>by
   rw[au]at h;rcases h with⟨_,a,rfl⟩|⟨b,cap,cur,e,fr,aN,rfl,_⟩<;>rfl
 | .ref d,cs,S,h=>by rw[au]at h;obtain⟨b,o,eh,rfl,_⟩:=h;rfl
 | .a1 d,cs,S,h=>by rw[au]at h;obtain⟨b,o,eh,_,_,rfl,_⟩:=h;rfl
 | .agg az,cs,S,h=>by rw[au]at h;exact aZ.length az _ _ h
 | .tuple az,cs,S,h=>by rw[au]at h;exact aZ.length az _ _ h
 | .fn _ _,cs,S,h=>by rw[au]at h;obtain⟨arr,rfl,_⟩:=h;rfl
 | .h _ _,cs,S,h=>by rw[au]at h;exact h.elim
 | .an _ _,cs,S,h=>by rw[au]at h;exact h.elim
 | .R _ _,cs,S,h=>by rw[au]at h;exact h.elim
 | .dK _,cs,S,h=>by rw[au]at h;obtain⟨v,_,rfl⟩:=lI.one h;rfl
 | .fD _ _,cs,S,h=>by rw[au]at h;obtain⟨arr,rfl,_⟩:=h;rfl
theorem aZ.length {w:World} {F:Nat->Prop}:∀(ds:ahB) (cs:ahz) (S:Nat->Prop),aZ w F ds cs S->cs.length=I.dT ds
 |[],cs,S,h=>by rw[aZ]at h;subst h;rfl
 |d::ds,cs,S,h=>by
  rw[aZ]at h;obtain⟨b2,c2,b3,dh,rfl,ad,aC,_⟩:=h;rw[length_append,au.length d _ _ ad,aZ.length ds _ _ aC,I.dT]
end
mutual
def I.share:I->I
 | .ao _ xs=>.slice (I.shares xs)
 | .a1 d=>.ref d.share
 | .slice xs=>.slice (I.shares xs)
 | .ref d=>.ref d.share
 | .agg az=>.agg (I.shares az)
 | .tuple az=>.tuple (I.shares az)
 | .dK _=>.hole
 | .fD _ _=>.hole
 |d=>d
def I.shares:ahB->ahB
 |[]=>[]
 |d::ds=>d.share::I.shares ds
end
theorem I.sf (ds:ahB):I.shares ds=ds.map I.share:=by
 induction ds with
 |nil=>rfl
 |cons d ds ih=>simp[I.shares,ih]
mutual
theorem I.zq:∀d:I,d.share.wd=d.wd
 | .hole=>rfl
 | .bool _=>rfl
 | .fw=>rfl
 | .int _ _=>rfl
 | .str _=>rfl
 | .dr=>rfl
 | .bf=>rfl
 | .slice _=>rfl
 | .ao _ _=>rfl
 | .ref _=>rfl
 | .a1 _=>rfl
 | .agg az=>by simp only[I.share,I.wd];exact I.CY az
 | .tuple az=>by simp only[I.share,I.wd];exact I.CY az
 | .fn _ _=>rfl
 | .h _ _=>rfl
 | .an _ _=>rfl
 | .R _ _=>rfl
 | .dK _=>rfl
 | .fD _ _=>rfl
theorem I.CY:∀ds:ahB,I.dT (I.shares ds)=I.dT ds
 |[]=>rfl
 |d::ds=>by simp only[I.shares,I.dT];rw[I.zq d,I.CY ds]
end
theorem ud {w:World} {b:Nat} {cur:Array Value} {e:TypeId} {fr:Nat×Nat} (h:w.heap[b]? =some (.cells cur e fr)) (n:Nat):hE w b 0 (cur.toList.take n):=by
 intro j c ai;rw[getElem?_take]at ai;split at ai
 .simp[World.cell?,h];simpa using ai
 .cases ai
mutual
theorem au.shared {w:World} {F bE:Nat->Prop} (a8:∀b,F b->bE b):
  ∀(d:I) (cs:ahz) (S:Nat->Prop),(∀b,S b->bE b)->au w F d cs S->au w bE d.share cs (λ_=>False)
 | .hole,_,_,_,h=>h
 | .bool _,_,_,_,h=>h
 | .fw,_,_,_,h=>h
 | .int _ _,_,_,_,h=>h
 | .str _,_,_,_,h=>h
 | .dr,_,_,_,h=>h
 | .bf,_,_,_,h=>h
 | .slice xs,cs,S,bK,h=>by
   rw[I.share,au];rw[au]at h;rcases h with⟨rfl,a,c,rfl,ai⟩|⟨b,o,cap,eh,sz,ab,ad,aC,aW,bu,cy,cl⟩
   .exact .inl ⟨rfl,a,c,rfl,ai⟩
   .refine .inr ⟨b,o,cap,eh,sz,?_,a8 _ ad,?_,aW,?_,cy,aZ.shared a8 xs _ _ (λ_ h=>h.elim) cl⟩
    .simpa [I.sf]using ab
    .simpa [I.sf]using aC
    .intro d ae;rw[I.sf]at ae;obtain⟨bp,gV,rfl⟩:=mem_map.1 ae;rw[I.zq];exact bu _ gV
 | .ao sz xs,cs,S,bK,h=>by
   rw[I.share,au];rw[au]at h;rcases h with⟨rfl,a,rfl⟩|⟨b,cap,cur,e,fr,aN,ab,ad,aC,aW,bu,cy,cl,fM,h9,iS,lJ⟩
   .exact .inl ⟨rfl,a,0,rfl,zero_le _,λ_=>rfl⟩
   .refine .inr ⟨b,0,cap,_,sz,?_,bK _ ad,?_,cy,?_,ud aC _,aZ.shared a8 xs _ _ (λc ai=>bK _ (iS _ ai)) h9⟩
    .simpa [I.sf]using ab
    .simpa [I.sf]using bu
    .intro d ae;rw[I.sf]at ae;obtain⟨bp,gV,rfl⟩:=mem_map.1 ae;rw[I.zq];exact fM _ gV
 | .ref d,cs,S,bK,h=>by
   rw[I.share,au];rw[au]at h;obtain⟨b,o,eh,ab,ad,aC,aW⟩:=h;exact⟨b,o,eh,ab,a8 _ ad,aC,au.shared a8 d _ _ (λ_ h=>h.elim) aW⟩
 | .a1 d,cs,S,bK,h=>by
   rw[I.share,au];rw[au]at h;obtain⟨b,cur,e,fr,aN,ab,ad,aC,aW,bu,cy,cl⟩:=h;refine⟨b,0,cur.toList,ab,bK _ ad,?_,au.shared a8 d _ _ (λc ai=>bK _ (cy _ ai)) bu⟩;have:=ud aC cur.toList.length
   rwa [take_length]at this
 | .agg az,cs,S,bK,h=>by rw[I.share,au];rw[au]at h;exact aZ.shared a8 az _ _ bK h
 | .tuple az,cs,S,bK,h=>by rw[I.share,au];rw[au]at h;exact aZ.shared a8 az _ _ bK h
 | .fn f caps,cs,S,bK,h=>by
   show au w bE (.fn f caps) cs _;rw[au]at h⊢;obtain⟨arr,ab,ad,aC⟩:=h;exact⟨arr,ab,ad,aZ.mono a8 caps _ _ _ (λ_ h=>h) aC⟩
 | .h _ _,_,_,_,h=>h
 | .an _ _,_,_,_,h=>h
 | .R _ _,_,_,_,h=>h
 | .dK _,cs,S,bK,h=>by rw[au]at h;rw[I.share,au];exact lI.one h
 | .fD _ _,cs,S,bK,h=>by rw[au]at h;obtain⟨arr,rfl,_⟩:=h;rw[I.share,au];exact⟨_,rfl,rfl⟩
theorem aZ.shared {w:World} {F bE:Nat->Prop} (a8:∀b,F b->bE b):
  ∀(ds:ahB) (cs:ahz) (S:Nat->Prop),(∀b,S b->bE b)->aZ w F ds cs S->aZ w bE (I.shares ds) cs (λ_=>False)
 |[],_,_,_,h=>h
 |d::ds,cs,S,bK,h=>by
  simp only[I.shares];rw[aZ]at h⊢;obtain⟨b2,c2,b3,dh,ab,ad,aC,aW,bu,cy⟩:=h;exact⟨b2,c2,_,_,ab,au.shared a8 d _ _ (λb R=>bK _ (aW _ R)) ad,aZ.shared a8 ds _ _ (λb R=>bK _ (bu _ R)) aC,λ_ h=>h,λ_ h=>h,λ_ h=>h.elim⟩
end
def I.sub:ahw->I->Option I
 |[],d=>some d
 |k::q,.agg az=>match az[k]? with
  |some d=>I.sub q d
  |none=>none
 |k::q,.tuple az=>match az[k]? with
  |some d=>I.sub q d
  |none=>none
 |i::q,.ao _ xs=>match xs[i]? with
  |some d=>I.sub q d
  |none=>none
 |0::q,.a1 d=>I.sub q d
 |_::_,_=>none
def I.put:ahw->I->I->I
 |[],n,_=>n
 |k::q,n,.agg az=>match az[k]? with
  |some d=>.agg (az.set k (I.put q n d))
  |none=>.agg az
 |k::q,n,.tuple az=>match az[k]? with
  |some d=>.tuple (az.set k (I.put q n d))
  |none=>.tuple az
 |i::q,n,.ao sz xs=>match xs[i]? with
  |some d=>.ao sz (xs.set i (I.put q n d))
  |none=>.ao sz xs
 |0::q,n,.a1 d=>.a1 (I.put q n d)
 |_::_,_,d=>d
def mN (w:World) (b o n:Nat):ahz:=(range n).map λj=>(w.cell? ⟨b,o+j,none⟩).getD undef
theorem hE.mN {w:World} {b o:Nat} {cs:ahz} (h:hE w b o cs):mN w b o cs.length=cs:=by
 unfold c_.mN;apply ext_getElem?;intro i;rw[getElem?_map];by_cases ak:i<cs.length
 .have:cs[i]? =some cs[i]:=getElem?_eq_getElem ak;simp[ak,h i _ this]
 .simp[ak]
def dc (w:World):ahw->I->ahz->Option (Nat×Nat)->Option (I×ahz×Option (Nat×Nat))
 |[],d,cs,a=>some (d,cs,a)
 |k::q,.agg az,cs,a=>match az[k]? with
  |some d=>dc w q d ((cs.drop (I.dT (az.take k))).take d.wd) (a.map λl=>(l.1,l.2+I.dT (az.take k)))
  |none=>none
 |k::q,.tuple az,cs,a=>match az[k]? with
  |some d=>dc w q d ((cs.drop (I.dT (az.take k))).take d.wd) (a.map λl=>(l.1,l.2+I.dT (az.take k)))
  |none=>none
 |i::q,.ao sz xs,cs,_=>match xs[i]?,cs with
  |some d,[.slice (some ⟨b,_,_⟩) _ _]=>dc w q d (mN w b (i*sz) sz) (some (b,i*sz))
  |_,_=>none
 |0::q,.a1 d,cs,_=>match cs with
  |[.pointer (some ⟨b,_,_⟩)]=>dc w q d (mN w b 0 d.wd) (some (b,0))
  |_=>none
 |_::_,_,_,_=>none
theorem sg (b2 fN c2:ahz) (n m:Nat) (ab:b2.length=n) (ad:fN.length=m):((b2++(fN++c2)).drop n).take m=fN:=by
 rw[drop_left' ab,take_left' ad]
theorem aZ.pick {w:World} {F:Nat->Prop}:∀(ds:ahB) (cs:ahz) (S:Nat->Prop) (k:Nat) (d:I),
  aZ w F ds cs S->ds[k]? =some d->∃(b2 fN c2:ahz) (b3 hF:Nat->Prop),cs=b2++(fN++c2)/\b2.length=I.dT (ds.take k)/\
   (∀b,b3 b->S b)/\(∀b,hF b->S b)/\(∀b,b3 b->¬hF b)/\au w F d fN hF/\
   ∀(aD:World) (bp:I) (si:ahz) (aN:Nat->Prop),(∀b,F b->aD.heap[b]? =w.heap[b]?)->(∀b,b3 b->aD.heap[b]? =w.heap[b]?)->
    au aD F bp si aN->(∀b,aN b->¬b3 b)->aZ aD F (ds.set k bp) (b2++(si++c2)) (λb=>b3 b\/aN b)
 |[],_,_,_,_,_,aq=>by simp at aq
 |x::ds,cs,S,0,d,h,aq=>by
  rw[aZ]at h;obtain⟨b2,c2,hq,gx,rfl,ab,ad,bM,R,l6⟩:=h;simp at aq;subst aq;refine⟨[],b2,c2,gx,hq,rfl,rfl,R,bM,λb R bM=>l6 _ bM R,ab,?_⟩;intro aD bp si aN a8 bK ae iT;simp only[set_cons_zero,nil_append];rw[aZ];exact⟨si,c2,aN,gx,rfl,ae,aZ.frame a8 _ _ _ bK ad,λb h=>.inr h,λb h=>.inl h,λb h=>iT b h⟩
 |x::ds,cs,S,k+1,d,h,aq=>by
  rw[aZ]at h;obtain⟨c0,Qc,hq,gx,rfl,ab,ad,bM,R,l6⟩:=h;simp only[getElem?_cons_succ]at aq;have hl:=au.length _ _ _ ab;obtain⟨b2,fN,c2,b3,hF,rfl,i0,q2,i2,i3,i5,CZ⟩:=aZ.pick ds Qc gx k d ad aq;refine⟨c0++b2,fN,c2,λb=>hq b\/b3 b,hF,by simp,by simp[I.dT,hl,i0],?_,λb h=>R _ (i2 _ h),?_,i5,?_⟩
  .rintro b (h|h)
   .exact bM _ h
   .exact R _ (q2 _ h)
  .rintro b (h|h) aq
   .exact l6 _ h (i2 _ aq)
   .exact i3 _ h aq
  .intro aD bp si aN a8 bK ae iT;simp only[set_cons_succ];rw[aZ];refine⟨c0,b2++(si++c2),hq,λb=>b3 b\/aN b,by simp,au.frame a8 _ _ _ (λb R=>bK b (.inl R)) ab,
    CZ aD bp si aN a8 (λb R=>bK b (.inr R)) ae (λb R ai=>iT b R (.inr ai)),λb h=>.inl (.inl h),?_,?_⟩
   .rintro b (h|h)
    .exact .inl (.inr h)
    .exact .inr h
   .rintro b h (bc|bc)
    .exact l6 _ h (q2 _ bc)
    .exact iT _ bc (.inl h)
theorem C0:∀(az:ahB) (k:Nat) (x y:I),az[k]? =some x->y.wd=x.wd->I.dT (az.set k y)=I.dT az:=by
 intro az;induction az with
 |nil=>intro k x y h;simp at h
 |cons a az ih=>
  intro k x y h e;cases k with
  |zero=>simp at h;subst h;simp[I.dT,e]
  |succ k=>simp at h;simp[I.dT,ih k x y h e]
theorem sj {sz:Nat}:∀(xs:ahB),(∀d∈xs,d.wd=sz)->I.dT xs=xs.length*sz
 |[],_=>by simp[I.dT]
 |x::xs,h=>by
  rw[I.dT,h x (by simp),sj xs (λd ae=>h d (by simp[ae])),length_cons,Nat.add_mul,Nat.one_mul,Nat.add_comm]
theorem I.ue:∀(q:ahw) (av d bp:I),I.sub q av=some d->bp.wd=d.wd->(I.put q bp av).wd=av.wd:=by
 intro q;induction q with
 |nil=>intro av d bp h e;simp[I.sub]at h;subst h;simpa [I.put]using e
 |cons k q ih=>
  intro av d bp h e;cases av with
  |agg az=>
   simp only[I.sub]at h;split at h
   .rename_i x ar;simp only[I.put,ar,I.wd];exact C0 _ _ _ _ ar (ih _ _ _ h e)
   .cases h
  |tuple az=>
   simp only[I.sub]at h;split at h
   .rename_i x ar;simp only[I.put,ar,I.wd];exact C0 _ _ _ _ ar (ih _ _ _ h e)
   .cases h
  |ao sz xs=>
   simp only[I.sub]at h;split at h
   .rename_i x ar;simp only[I.put,ar,I.wd]
   .cases h
  |a1 x=>
   cases k with
   |zero=>simp only[I.put,I.wd]
   |succ k=>simp[I.sub]at h
  |_=>simp[I.sub]at h
theorem C1 {sz:Nat} {xs:ahB} {i:Nat} {y:I} (h:∀d∈xs,d.wd=sz) (hy:y.wd=sz):∀d∈xs.set i y,d.wd=sz:=by
 intro d ae;rcases mem_or_eq_of_mem_set ae with ae|rfl
 .exact h d ae
 .exact hy
theorem uf {w:World} {b:Nat} {cur:Array Value} {e:TypeId} {fr:Nat×Nat} (h:w.heap[b]? =some (.cells cur e fr)) {l m r:ahz} (ai:cur.toList=l++(m++r)):
  mN w b l.length m.length=m:=by
 refine hE.mN (λj c bQ=>?_);have ei:j<m.length:=(List.getElem?_eq_some_iff.1 bQ).1;have:cur.toList[l.length+j]? =some c:=by
  rw[ai,getElem?_append_right (by omega),getElem?_append_left (by omega)];rw[<-bQ];congr 1;omega
 simp[World.cell?,h];simpa using this
def Flat (w:World) (F:Nat->Prop) (q:ahw) (av:I) (cs:ahz) (a:Option (Nat×Nat)) (d:I) (cD:ahz) (cB:Option (Nat×Nat)) (dW:Nat->Prop):Prop:=
 ∃l r:ahz,cs=l++(cD++r)/\cB=a.map (λx=>(x.1,x.2+l.length))/\
  ∀(aD:World) (bp:I) (fO:ahz) (aN:Nat->Prop),(∀b,F b->aD.heap[b]? =w.heap[b]?)->(∀b,dW b->aD.heap[b]? =w.heap[b]?)->
   bp.wd=d.wd->au aD F bp fO aN->(∀b,aN b->¬dW b)->au aD F (I.put q bp av) (l++(fO++r)) (λb=>dW b\/aN b)
def Deep (w:World) (F:Nat->Prop) (q:ahw) (av:I) (cs:ahz) (d:I) (cD:ahz) (cB:Option (Nat×Nat)) (dW:Nat->Prop):Prop:=
 ∃(b:Nat) (cur:Array Value) (e:TypeId) (fr:Nat×Nat) (l r:ahz),cB=some (b,l.length)/\dW b/\w.heap[b]? =some (.cells cur e fr)/\mo fr cur.size/\cur.toList=l++(cD++r)/\
  ∀(aD:World) (bp:I) (fO:ahz) (aN:Nat->Prop),(∀b,F b->aD.heap[b]? =w.heap[b]?)->(∀c,dW c->c≠b->aD.heap[c]? =w.heap[c]?)->
   aD.heap[b]? =some (.cells (l++(fO++r)).toArray e fr)->
   bp.wd=d.wd->au aD F bp fO aN->(∀b,aN b->¬dW b)->au aD F (I.put q bp av) cs (λb=>dW b\/aN b)
theorem ctx {w:World} {F:Nat->Prop}:∀(q:ahw) (av:I) (cs:ahz) (S:Nat->Prop) (a:Option (Nat×Nat)) (d:I),
  au w F av cs S->I.sub q av=some d->∃(cD:ahz) (cB:Option (Nat×Nat)) (dW e5:Nat->Prop),dc w q av cs a=some (d,cD,cB)/\
   (∀b,dW b->S b)/\(∀b,e5 b->S b)/\(∀b,dW b->¬e5 b)/\au w F d cD e5/\(Flat w F q av cs a d cD cB dW\/Deep w F q av cs d cD cB dW):=by
 intro q;induction q with
 |nil=>
  intro av cs S a d h ae;simp[I.sub]at ae;subst ae;refine⟨cs,a,λ_=>False,S,rfl,λ_ h=>h.elim,λ_ h=>h,λ_ h=>h.elim,h,.inl ⟨[],[],by simp,?_,?_⟩⟩
  .cases a<;>simp
  .intro aD bp fO aN _ _ hw gV _;simp only[I.put,nil_append,append_nil];exact au.mono (λ_ h=>h) _ _ _ _ (λb h=>.inr h) gV
 |cons k q ih=>
  have fields:∀(mk:ahB->I) (C2:∀(w:World) (F:Nat->Prop) (az:ahB) (cs:ahz) (S:Nat->Prop),au w F (mk az) cs S=aZ w F az cs S) (az:ahB) (cs:ahz) (S:Nat->Prop) (a:Option (Nat×Nat)) (x d:I),
    (j8:∀bp,I.put (k::q) bp (mk az)=mk (az.set k (I.put q bp x)))->aZ w F az cs S->az[k]? =some x->I.sub q x=some d->
    ∃(cD:ahz) (cB:Option (Nat×Nat)) (dW e5:Nat->Prop),dc w q x ((cs.drop (I.dT (az.take k))).take x.wd) (a.map λl=>(l.1,l.2+I.dT (az.take k)))=some (d,cD,cB)/\
    (∀b,dW b->S b)/\(∀b,e5 b->S b)/\(∀b,dW b->¬e5 b)/\au w F d cD e5/\(Flat w F (k::q) (mk az) cs a d cD cB dW\/Deep w F (k::q) (mk az) cs d cD cB dW):=by
   intro mk C2 az cs S a x d j8 h ar ae;obtain⟨b2,fN,c2,b3,hF,rfl,hr,fl,gJ,h3,fU,l7⟩:=aZ.pick az cs S k x h ar;have hl:=au.length _ _ _ fU;rw[sg b2 fN c2 _ _ hr hl];obtain⟨cD,cB,dW,e5,g0,g1,g2,g3,g4,g5⟩:=ih x _ hF (a.map λl=>(l.1,l.2+I.dT (az.take k))) d fU ae;refine⟨cD,cB,λb=>b3 b\/dW b,e5,g0,?_,λb R=>gJ _ (g2 _ R),?_,g4,?_⟩
   .rintro b (h|h)
    .exact fl _ h
    .exact gJ _ (g1 _ h)
   .rintro b (h|h) ae
    .exact h3 _ h (g2 _ ae)
    .exact g3 _ h ae
   .have e2:∀(b:Nat) (aN:Nat->Prop),(b3 b\/dW b\/aN b)->((b3 b\/dW b)\/aN b):=by
     rintro b aN (R|R|R)
     .exact .inl (.inl R)
     .exact .inl (.inr R)
     .exact .inr R
    rcases g5 with⟨l,r,rfl,aT,aR⟩|⟨b,cur,e,fr,l,r,aP,aT,aR,b4,cz,bV⟩
    .refine .inl ⟨b2++l,r++c2,by simp,?_,?_⟩
     .rw[aT,<-hr];cases a<;>simp[Nat.add_assoc]
     .intro aD bp fO aN a8 bK hw gV iT;have dm:=aR aD bp fO aN a8 (λb R=>bK b (.inr R)) hw gV (λb R ai=>iT b R (.inr ai));have a7:=l7 aD _ _ _ a8 (λb R=>bK b (.inl R)) dm (by
       rintro b (R|R) ab
       .exact h3 _ ab (g1 _ R)
       .exact iT _ R (.inl ab))
      rw[j8,C2];have:=aZ.mono (λ_ h=>h) _ _ _ _ (λb=>e2 b aN) a7;simpa using this
    .refine .inr ⟨b,cur,e,fr,l,r,aP,.inr aT,aR,b4,cz,?_⟩;intro aD bp fO aN a8 bK lb hw gV iT;have dm:=bV aD bp fO aN a8 (λc ai=>bK c (.inr ai)) lb hw gV (λb R ai=>iT b R (.inr ai));have a7:=l7 aD _ _ _ a8 (λc ai=>bK c (.inl ai) (by rintro rfl;exact h3 _ ai (g1 _ aT))) dm (by
       rintro b (R|R) ab
       .exact h3 _ ab (g1 _ R)
       .exact iT _ R (.inl ab))
     rw[j8,C2];exact aZ.mono (λ_ h=>h) _ _ _ _ (λb=>e2 b aN) a7
  intro av cs S a d h ae;cases av with
  |agg az=>
   simp only[I.sub]at ae;split at ae
   .rename_i x ar;rw[au]at h;have:=fields .agg (λ_ _ _ _ _=>by rw[au]) az cs S a x d (λbp=>by simp only[I.put,ar]) h ar ae;simpa only[dc,ar]using this
   .cases ae
  |tuple az=>
   simp only[I.sub]at ae;split at ae
   .rename_i x ar;rw[au]at h;have:=fields .tuple (λ_ _ _ _ _=>by rw[au]) az cs S a x d (λbp=>by simp only[I.put,ar]) h ar ae;simpa only[dc,ar]using this
   .cases ae
  |ao sz xs=>
   simp only[I.sub]at ae;split at ae
   .rename_i x ar;rw[au]at h;rcases h with⟨rfl,_,rfl⟩|⟨b,cap,cur,e,fr,dy,rfl,ad,aC,aW,bu,cy,cl,fM,h9,iS,lJ⟩
    .simp at ar
    .obtain⟨b2,fN,c2,b3,hF,p,hr,fl,gJ,h3,fU,l7⟩:=aZ.pick xs _ dy k x h9 ar;have hl:=au.length _ _ _ fU;have Qd:k<xs.length:=(List.getElem?_eq_some_iff.1 ar).1;have we:x.wd=sz:=fM x (mem_of_getElem? ar);have b1:I.dT (xs.take k)=k*sz:=by
      rw[sj _ (λd ae=>fM d (mem_of_mem_take ae))];rw[length_take,Nat.min_eq_left (by omega)]
     obtain⟨p7,mr⟩:∃p7,cur.toList=b2++(fN++(c2++p7)):=by
      refine⟨cur.toList.drop (xs.length*sz),?_⟩;have:=(take_append_drop (xs.length*sz) cur.toList).symm;rw[p]at this;simpa using this
     have jN:mN w b (k*sz) sz=fN:=by
      have:=uf aC mr
      rwa [hr,b1,hl,we]at this
     obtain⟨cD,cB,dW,e5,g0,g1,g2,g3,g4,g5⟩:=ih x _ hF (some (b,k*sz)) d fU ae;have j8:∀bp,I.put (k::q) bp (.ao sz xs)= .ao sz (xs.set k (I.put q bp x)):=λbp=>by simp only[I.put,ar]
     refine⟨cD,cB,λc=>c=b\/b3 c\/dW c,e5,?_,?_,λc ai=>iS _ (gJ _ (g2 _ ai)),?_,g4,.inr ?_⟩
     .simp only[dc,ar,jN];exact g0
     .rintro c (rfl|h|h)
      .exact ad
      .exact iS _ (fl _ h)
      .exact iS _ (gJ _ (g1 _ h))
     .rintro c (rfl|h|h) ae
      .exact lJ (gJ _ (g2 _ ae))
      .exact h3 _ h (g2 _ ae)
      .exact g3 _ h ae
     .have jO:∀bp,bp.wd=d.wd->(I.put q bp x).wd=sz:=λbp hw=>(I.ue q x d bp ae hw).trans we;rcases g5 with⟨l,r,rfl,aT,aR⟩|⟨ff,C3,fV,C4,l,r,aP,aT,aR,b4,cz,bV⟩
      .refine⟨b,cur,e,fr,b2++l,r++(c2++p7),?_,.inl rfl,aC,aW.low,?_,?_⟩
       .rw[aT];simp[hr,b1]
       .rw[mr];simp
       .intro aD bp fO aN a8 bK lb hw gV iT;have dm:=aR aD bp fO aN a8 (λc ai=>bK c (.inr (.inr ai)) (by rintro rfl;exact lJ (gJ _ (g1 _ ai)))) hw gV (λb R ai=>iT b R (.inr (.inr ai)));have a7:=l7 aD _ _ _ a8 (λc ai=>bK c (.inr (.inl ai)) (by rintro rfl;exact lJ (fl _ ai))) dm (by
         rintro b (R|R) ab
         .exact h3 _ ab (g1 _ R)
         .exact iT _ R (.inr (.inl ab)))
        have wg:=au.length _ _ _ gV;have wh:=au.length _ _ _ g4;rw[j8,au];refine .inr ⟨b,cap,_,e,fr,λb=>b3 b\/dW b\/aN b,by simp,.inl (.inl rfl),lb,?_,by simpa using bu,cy,?_,C1 fM (jO bp hw),?_,?_,?_⟩
        .have:(b2++l++(fO++(r++(c2++p7)))).toArray.size=cur.size:=by
          have:cur.size=cur.toList.length:=by simp
          rw[this,mr];simp[wg,wh,hw]
         rw[this];exact aW
        .rw[<-cl];have:cur.size=cur.toList.length:=by simp
         rw[this,mr];simp[wg,wh,hw]
        .have hlen:(b2++(l++(fO++r)++c2)).length=xs.length*sz:=by
          have:=congrArg length p;rw[length_take,Nat.min_eq_left (by simp[cl];exact mul_le_mul_right _ bu)]at this;rw[this];simp[wg,wh,hw]
         have:(b2++l++(fO++(r++(c2++p7))))=(b2++(l++(fO++r)++c2))++p7:=by simp
         rw[length_set];simp only[this];rw[take_left' hlen];exact a7
        .rintro c (h|h|h)
         .exact .inl (.inr (.inl h))
         .exact .inl (.inr (.inr h))
         .exact .inr h
        .rintro(h|h|h)
         .exact lJ (fl _ h)
         .exact lJ (gJ _ (g1 _ h))
         .exact iT _ h (.inl rfl)
      .refine⟨ff,C3,fV,C4,l,r,aP,.inr (.inr aT),aR,b4,cz,?_⟩;intro aD bp fO aN a8 bK lb hw gV iT;have dm:=bV aD bp fO aN a8 (λc ai cO=>bK c (.inr (.inr ai)) cO) lb hw gV (λb R ai=>iT b R (.inr (.inr ai)));have cO:∀c,b3 c->c≠ff:=by rintro c ai rfl;exact h3 _ ai (g1 _ aT)
       have a7:=l7 aD _ _ _ a8 (λc ai=>bK c (.inr (.inl ai)) (cO c ai)) dm (by
        rintro b (R|R) ab
        .exact h3 _ ab (g1 _ R)
        .exact iT _ R (.inr (.inl ab)))
       have C5:b≠ff:=by rintro rfl;exact lJ (gJ _ (g1 _ aT))
       rw[j8,au];refine .inr ⟨b,cap,cur,e,fr,λb=>b3 b\/dW b\/aN b,by simp,.inl (.inl rfl),(bK b (.inl rfl) C5).trans aC,aW,by simpa using bu,cy,cl,C1 fM (jO bp hw),?_,?_,?_⟩
       .rw[length_set,p];exact a7
       .rintro c (h|h|h)
        .exact .inl (.inr (.inl h))
        .exact .inl (.inr (.inr h))
        .exact .inr h
       .rintro(h|h|h)
        .exact lJ (fl _ h)
        .exact lJ (gJ _ (g1 _ h))
        .exact iT _ h (.inl rfl)
   .cases ae
  |a1 x=>
   cases k with
   |succ k=>simp[I.sub]at ae
   |zero=>
    simp only[I.sub]at ae;rw[au]at h;obtain⟨b,cur,e,fr,dy,rfl,ad,aC,aW,bu,cy,cl⟩:=h;have hl:=au.length _ _ _ bu;have jN:mN w b 0 x.wd=cur.toList:=by
     have:=uf (l:=[]) (m:=cur.toList) (r:=[]) aC (by simp)
     rwa [hl]at this
    obtain⟨cD,cB,dW,e5,g0,g1,g2,g3,g4,g5⟩:=ih x _ dy (some (b,0)) d bu ae;have j8:∀bp,I.put (0::q) bp (.a1 x)= .a1 (I.put q bp x):=λbp=>rfl;refine⟨cD,cB,λc=>c=b\/dW c,e5,?_,?_,λc ai=>cy _ (g2 _ ai),?_,g4,.inr ?_⟩
    .simp only[dc,jN];exact g0
    .rintro c (rfl|h)
     .exact ad
     .exact cy _ (g1 _ h)
    .rintro c (rfl|h) ae
     .exact cl (g2 _ ae)
     .exact g3 _ h ae
    .rcases g5 with⟨l,r,aP,aT,aR⟩|⟨ff,C3,fV,C4,l,r,aP,aT,aR,b4,cz,bV⟩
     .refine⟨b,cur,e,fr,l,r,?_,.inl rfl,aC,aW,aP,?_⟩
      .rw[aT];simp
      .intro aD bp fO aN a8 bK lb hw gV iT;have dm:=aR aD bp fO aN a8 (λc ai=>bK c (.inr ai) (by rintro rfl;exact cl (g1 _ ai))) hw gV (λb R ai=>iT b R (.inr ai));have wg:=au.length _ _ _ gV;have wh:=au.length _ _ _ g4;rw[j8,au];refine⟨b,_,e,fr,λb=>dW b\/aN b,rfl,.inl (.inl rfl),lb,?_,dm,?_,?_⟩
       .have:(l++(fO++r)).toArray.size=cur.size:=by
         have:cur.size=cur.toList.length:=by simp
         rw[this,aP];simp[wg,wh,hw]
        rw[this];exact aW
       .rintro c (h|h)
        .exact .inl (.inr h)
        .exact .inr h
       .rintro(h|h)
        .exact cl (g1 _ h)
        .exact iT _ h (.inl rfl)
     .refine⟨ff,C3,fV,C4,l,r,aP,.inr aT,aR,b4,cz,?_⟩;intro aD bp fO aN a8 bK lb hw gV iT;have dm:=bV aD bp fO aN a8 (λc ai cO=>bK c (.inr ai) cO) lb hw gV (λb R ai=>iT b R (.inr ai));have C5:b≠ff:=by rintro rfl;exact cl (g1 _ aT)
      rw[j8,au];refine⟨b,cur,e,fr,λb=>dW b\/aN b,rfl,.inl (.inl rfl),(bK b (.inl rfl) C5).trans aC,aW,dm,?_,?_⟩
      .rintro c (h|h)
       .exact .inl (.inr h)
       .exact .inr h
      .rintro(h|h)
       .exact cl (g1 _ h)
       .exact iT _ h (.inl rfl)
  |_=>simp[I.sub]at ae
mutual
def I.plain:I->Bool
 | .ao _ _=>false
 | .a1 _=>false
 | .dK _=>false
 | .fD _ _=>false
 | .agg az=>I.dU az
 | .tuple az=>I.dU az
 |_=>true
def I.dU:ahB->Bool
 |[]=>true
 |d::ds=>d.plain&&I.dU ds
end
mutual
def I.cS:I->I
 | .ao _ _=>.hole
 | .a1 _=>.hole
 | .dK _=>.hole
 | .fD _ _=>.hole
 | .agg az=>.agg (I.ld az)
 | .tuple az=>.tuple (I.ld az)
 |d=>d
def I.ld:ahB->ahB
 |[]=>[]
 |d::ds=>d.cS::I.ld ds
end
mutual
theorem I.q3:∀d:I,d.cS.wd=d.wd
 | .hole=>rfl
 | .bool _=>rfl
 | .fw=>rfl
 | .int _ _=>rfl
 | .str _=>rfl
 | .dr=>rfl
 | .bf=>rfl
 | .slice _=>rfl
 | .ao _ _=>rfl
 | .ref _=>rfl
 | .a1 _=>rfl
 | .agg az=>by simp only[I.cS,I.wd];exact I.C6 az
 | .tuple az=>by simp only[I.cS,I.wd];exact I.C6 az
 | .fn _ _=>rfl
 | .h _ _=>rfl
 | .an _ _=>rfl
 | .R _ _=>rfl
 | .dK _=>rfl
 | .fD _ _=>rfl
theorem I.C6:∀ds:ahB,I.dT (I.ld ds)=I.dT ds
 |[]=>rfl
 |d::ds=>by simp only[I.ld,I.dT];rw[I.q3 d,I.C6 ds]
end
mutual
theorem au.cS {w:World} {F:Nat->Prop}:∀(d:I) (cs:ahz) (S aN:Nat->Prop),au w F d cs S->au w F d.cS cs aN
 | .hole,_,_,_,h=>h
 | .bool _,_,_,_,h=>h
 | .fw,_,_,_,h=>h
 | .int _ _,_,_,_,h=>h
 | .str _,_,_,_,h=>h
 | .dr,_,_,_,h=>h
 | .bf,_,_,_,h=>h
 | .slice xs,cs,S,aN,h=>by
   show au w F (.slice xs) cs aN;rw[au]at h⊢;exact h
 | .ao sz xs,cs,S,aN,h=>by
   rw[I.cS,au];rw[au]at h;rcases h with⟨_,_,rfl⟩|⟨b,cap,cur,e,fr,dy,rfl,_⟩
   .exact⟨_,rfl,rfl⟩
   .exact⟨_,rfl,rfl⟩
 | .ref d,cs,S,aN,h=>by
   show au w F (.ref d) cs aN;rw[au]at h⊢;exact h
 | .a1 d,cs,S,aN,h=>by
   rw[I.cS,au];rw[au]at h;obtain⟨b,cur,e,fr,dy,rfl,_⟩:=h;exact⟨_,rfl,rfl⟩
 | .agg az,cs,S,aN,h=>by rw[I.cS,au];rw[au]at h;exact aZ.cS az _ _ _ h
 | .tuple az,cs,S,aN,h=>by rw[I.cS,au];rw[au]at h;exact aZ.cS az _ _ _ h
 | .fn _ _,_,_,_,h=>h
 | .h _ _,_,_,_,h=>h
 | .an _ _,_,_,_,h=>h
 | .R _ _,_,_,_,h=>h
 | .dK _,_,_,_,h=>by rw[au]at h;rw[I.cS,au];exact lI.one h
 | .fD _ _,_,_,_,h=>by rw[au]at h;obtain⟨arr,rfl,_⟩:=h;rw[I.cS,au];exact⟨_,rfl,rfl⟩
theorem aZ.cS {w:World} {F:Nat->Prop}:∀(ds:ahB) (cs:ahz) (S aN:Nat->Prop),aZ w F ds cs S->aZ w F (I.ld ds) cs aN
 |[],_,_,_,h=>h
 |d::ds,cs,S,aN,h=>by
  rw[I.ld,aZ];rw[aZ]at h;obtain⟨b2,c2,b3,dh,ab,ad,aC,aW,bu,cy⟩:=h;exact⟨b2,c2,λ_=>False,λ_=>False,ab,au.cS d _ _ _ ad,aZ.cS ds _ _ _ aC,λ_ h=>h.elim,λ_ h=>h.elim,λ_ h=>h.elim⟩
end
mutual
theorem au.plain {w:World} {F:Nat->Prop}:∀(d:I) (cs:ahz) (S aN:Nat->Prop),d.plain=true->au w F d cs S->au w F d cs aN
 | .hole,_,_,_,_,h=>h
 | .bool _,_,_,_,_,h=>h
 | .fw,_,_,_,_,h=>h
 | .int _ _,_,_,_,_,h=>h
 | .str _,_,_,_,_,h=>h
 | .dr,_,_,_,_,h=>h
 | .bf,_,_,_,_,h=>h
 | .slice xs,cs,S,aN,_,h=>by rw[au]at h⊢;exact h
 | .ao sz xs,cs,S,aN,an,h=>by simp[I.plain]at an
 | .ref d,cs,S,aN,_,h=>by rw[au]at h⊢;exact h
 | .a1 d,cs,S,aN,an,h=>by simp[I.plain]at an
 | .agg az,cs,S,aN,an,h=>by rw[au]at h⊢;exact aZ.plain az _ _ _ an h
 | .tuple az,cs,S,aN,an,h=>by rw[au]at h⊢;exact aZ.plain az _ _ _ an h
 | .fn _ _,_,_,_,_,h=>h
 | .h _ _,_,_,_,_,h=>h
 | .an _ _,_,_,_,_,h=>h
 | .R _ _,_,_,_,_,h=>h
 | .dK _,_,_,_,an,_=>by simp[I.plain]at an
 | .fD _ _,_,_,_,an,_=>by simp[I.plain]at an
theorem aZ.plain {w:World} {F:Nat->Prop}:∀(ds:ahB) (cs:ahz) (S aN:Nat->Prop),I.dU ds=true->aZ w F ds cs S->aZ w F ds cs aN
 |[],_,_,_,_,h=>h
 |d::ds,cs,S,aN,an,h=>by
  rw[aZ]at h⊢;simp only[I.dU,Bool.and_eq_true]at an;obtain⟨b2,c2,b3,dh,ab,ad,aC,aW,bu,cy⟩:=h;exact⟨b2,c2,λ_=>False,λ_=>False,ab,au.plain d _ _ _ an.1 ad,aZ.plain ds _ _ _ an.2 aC,λ_ h=>h.elim,λ_ h=>h.elim,λ_ h=>h.elim⟩
end
def I.fm:ahw->I->Bool
 |[],_=>false
 |k::q,.agg az=>match az[k]? with
  |some d=>I.fm q d
  |none=>false
 |k::q,.tuple az=>match az[k]? with
  |some d=>I.fm q d
  |none=>false
 |_::_,.ao _ _=>true
 |_::_,.a1 _=>true
 |_::_,_=>false
theorem zr {az:ahB} (h:I.dU az=true) {k:Nat} {d:I} (aq:az[k]? =some d):d.plain=true:=by
 induction az generalizing k with
 |nil=>simp at aq
 |cons a az ih=>
  simp only[I.dU,Bool.and_eq_true]at h;cases k with
  |zero=>simp at aq;subst aq;exact h.1
  |succ k=>simp at aq;exact ih h.2 aq
theorem I.I1:∀(q:ahw) (d:I),d.plain=true->I.fm q d=false:=by
 intro q;induction q with
 |nil=>intros;rfl
 |cons k q ih=>
  intro d ae;cases d<;>first|rfl|(simp[I.plain]at ae;done)|skip
  all_goals
   simp only[I.fm];split
   .rename_i az x ar;exact ih _ (zr (by simpa [I.plain]using ae) ar)
   .rfl
theorem I.C7:∀(q:ahw) (d e:I),d.plain=true->I.sub q d=some e->e.plain=true:=by
 intro q;induction q with
 |nil=>intro d e ae h;simp[I.sub]at h;exact h▸ae
 |cons k q ih=>
  intro d e ae h;cases d<;>first|(simp[I.plain]at ae;done)|(simp[I.sub]at h;done)|skip
  all_goals
   simp only[I.sub]at h;split at h
   .rename_i az x ar;exact ih _ _ (zr (by simpa [I.plain]using ae) ar) h
   .cases h
theorem zs {w aD:World} {F:Nat->Prop}:∀(q:ahw) (av:I) (cs:ahz) (S:Nat->Prop) (a:Option (Nat×Nat)) (d:I),
  au w F av cs S->I.sub q av=some d->(∀b,S b->aD.heap[b]? =w.heap[b]?)->dc aD q av cs a=dc w q av cs a:=by
 intro q;induction q with
 |nil=>intros;rfl
 |cons k q ih=>
  have fields:∀(az:ahB) (cs:ahz) (S:Nat->Prop) (a:Option (Nat×Nat)) (x d:I),aZ w F az cs S->az[k]? =some x->I.sub q x=some d->
    (∀b,S b->aD.heap[b]? =w.heap[b]?)->
    dc aD q x ((cs.drop (I.dT (az.take k))).take x.wd) (a.map λl=>(l.1,l.2+I.dT (az.take k)))=dc w q x ((cs.drop (I.dT (az.take k))).take x.wd) (a.map λl=>(l.1,l.2+I.dT (az.take k))):=by
   intro az cs S a x d h ar ae bK;obtain⟨b2,fN,c2,b3,hF,rfl,hr,fl,gJ,h3,fU,l7⟩:=aZ.pick az cs S k x h ar;rw[sg b2 fN c2 _ _ hr (au.length _ _ _ fU)];exact ih x fN hF _ d fU ae (λb R=>bK b (gJ _ R))
  intro av cs S a d h ae bK;cases av with
  |agg az=>
   simp only[I.sub]at ae;split at ae
   .rename_i x ar;rw[au]at h;simp only[dc,ar];exact fields az cs S a x d h ar ae bK
   .cases ae
  |tuple az=>
   simp only[I.sub]at ae;split at ae
   .rename_i x ar;rw[au]at h;simp only[dc,ar];exact fields az cs S a x d h ar ae bK
   .cases ae
  |ao sz xs=>
   simp only[I.sub]at ae;split at ae
   .rename_i x ar;rw[au]at h;rcases h with⟨rfl,_,rfl⟩|⟨b,cap,cur,e,fr,dy,rfl,ad,aC,aW,bu,cy,cl,fM,h9,iS,lJ⟩
    .simp at ar
    .obtain⟨b2,fN,c2,b3,hF,p,hr,fl,gJ,h3,fU,l7⟩:=aZ.pick xs _ dy k x h9 ar;have hl:=au.length _ _ _ fU;have Qd:k<xs.length:=(List.getElem?_eq_some_iff.1 ar).1;have we:x.wd=sz:=fM x (mem_of_getElem? ar);have b1:I.dT (xs.take k)=k*sz:=by
      rw[sj _ (λd ae=>fM d (mem_of_mem_take ae))];rw[length_take,Nat.min_eq_left (by omega)]
     obtain⟨p7,mr⟩:∃p7,cur.toList=b2++(fN++(c2++p7)):=by
      refine⟨cur.toList.drop (xs.length*sz),?_⟩;have:=(take_append_drop (xs.length*sz) cur.toList).symm;rw[p]at this;simpa using this
     have jN:mN w b (k*sz) sz=fN:=by
      have:=uf aC mr
      rwa [hr,b1,hl,we]at this
     have C8:mN aD b (k*sz) sz=fN:=by
      have:=uf ((bK b ad).trans aC) mr
      rwa [hr,b1,hl,we]at this
     simp only[dc,ar,jN,C8];exact ih x fN hF _ d fU ae (λc ai=>bK c (iS _ (gJ _ ai)))
   .cases ae
  |a1 x=>
   cases k with
   |succ k=>simp[I.sub]at ae
   |zero=>
    simp only[I.sub]at ae;rw[au]at h;obtain⟨b,cur,e,fr,dy,rfl,ad,aC,aW,bu,cy,cl⟩:=h;have hl:=au.length _ _ _ bu;have jN:mN w b 0 x.wd=cur.toList:=by
     have:=uf (l:=[]) (m:=cur.toList) (r:=[]) aC (by simp)
     rwa [hl]at this
    have C8:mN aD b 0 x.wd=cur.toList:=by
     have:=uf (l:=[]) (m:=cur.toList) (r:=[]) ((bK b ad).trans aC) (by simp)
     rwa [hl]at this
    simp only[dc,jN,C8];exact ih x cur.toList dy _ d bu ae (λc ai=>bK c (cy _ ai))
  |_=>simp[I.sub]at ae
def hs:Value->ahz
 | .agg cs=>cs.toList
 |v=>[v]
def b8:Value->ahz
 | .tuple vs=>vs.toList.flatMap hs
 |v=>hs v
def h4:I->Value->Prop
 | .agg _,v=>∃arr,v= .agg arr
 |_,v=>Value.fY v=true
def dz:I->Value->Prop
 | .tuple ds,v=>∃arr:Array Value,v= .tuple arr/\arr.size=ds.length/\∀(k:Nat) (d:I) (x:Value),ds[k]? =some d->arr[k]? =some x->h4 d x/\(∀vs,d≠.tuple vs)/\(hs x).length=d.wd
 |d,v=>h4 d v
abbrev aw:=Nat->I
mutual
def aF (w:World) (F:Nat->Prop) (s:aw) (ay:Nat->Value):I->Value->(Nat->Prop)->Prop
 | .hole,_,_=>True
 | .h x q,v,_=>∀d,I.sub q (s x)=some d->d.plain=false->∃cD a,dc w q (s x) (b8 (ay x)) none=some (d,cD,a)/\b8 v=cD/\dz d v
 | .an x q,v,_=>∀d,I.sub q (s x)=some d->I.fm q (s x)=true->∃cD b o,dc w q (s x) (b8 (ay x)) none=some (d,cD,some (b,o))/\v= .pointer (some ⟨b,o,none⟩)
 | .R x k,v,_=>(s x).plain=false->∃b cur e fr,v= .pointer (some ⟨b,k,none⟩)/\F b/\w.heap[b]? =some (.cells cur e fr)/\cur.toList=b8 (ay x)
 | .fn f cap,v,_=>∃arr:Array Value,v= .func (.func f) #[] arr/\dP w F s ay cap arr.toList
 | .bool b,v,S=>dz (.bool b) v/\au w F (.bool b) (b8 v) S
 | .fw,v,S=>dz .fw v/\au w F .fw (b8 v) S
 | .int k n,v,S=>dz (.int k n) v/\au w F (.int k n) (b8 v) S
 | .str x,v,S=>dz (.str x) v/\au w F (.str x) (b8 v) S
 | .dr,v,S=>dz .dr v/\au w F .dr (b8 v) S
 | .bf,v,S=>dz .bf v/\au w F .bf (b8 v) S
 | .slice xs,v,S=>dz (.slice xs) v/\au w F (.slice xs) (b8 v) S
 | .ao sz xs,v,S=>dz (.ao sz xs) v/\au w F (.ao sz xs) (b8 v) S
 | .ref d,v,S=>dz (.ref d) v/\au w F (.ref d) (b8 v) S
 | .a1 d,v,S=>dz (.a1 d) v/\au w F (.a1 d) (b8 v) S
 | .agg d,v,S=>dz (.agg d) v/\au w F (.agg d) (b8 v) S
 | .tuple d,v,S=>dz (.tuple d) v/\au w F (.tuple d) (b8 v) S
 | .dK o,v,S=>dz (.dK o) v/\au w F (.dK o) (b8 v) S
 | .fD f d,v,S=>dz (.fD f d) v/\au w F (.fD f d) (b8 v) S
def dP (w:World) (F:Nat->Prop) (s:aw) (ay:Nat->Value):ahB->ahz->Prop
 |[],vs=>vs=[]
 |d::ds,vs=>∃v jB,vs=v::jB/\aF w F s ay d v (λ_=>False)/\dP w F s ay ds jB
end
def I.tree:I->Bool
 | .hole=>false
 | .h _ _=>false
 | .an _ _=>false
 | .R _ _=>false
 | .fn _ _=>false
 |_=>true
theorem aF.cr {w:World} {F:Nat->Prop} {s:aw} {ay:Nat->Value} {d:I} {v:Value} {S:Nat->Prop} (aY:d.tree=true):
  aF w F s ay d v S↔(dz d v/\au w F d (b8 v) S):=by
 cases d<;>first|(simp[I.tree]at aY;done)|rw[aF]
theorem hG {q:ahw} {av d:I} (h:I.sub q av=some d) (an:d.plain=false\/I.fm q av=true):av.tree=true:=by
 cases q with
 |nil=>
  simp[I.sub]at h;subst h;rcases an with an|an
  .cases av<;>first|rfl|(simp[I.plain]at an)
  .simp[I.fm]at an
 |cons k q=>cases av<;>first|rfl|(simp[I.sub]at h)
theorem C9 {d:I} (h:d.plain=false):d.tree=true:=hG (q:=[]) (by simp only[I.sub]) (.inl h)
theorem aF.frame {w aD:World} {F bE:Nat->Prop} {s:aw} {ay:Nat->Value} {Sx:Nat->Nat->Prop} (a8:∀b,F b->aD.heap[b]? =w.heap[b]?) (I2:∀b,F b->bE b)
  (bK:∀x b,Sx x b->aD.heap[b]? =w.heap[b]?) (ks:∀x,aF w F s ay (s x) (ay x) (Sx x)):
  ∀(d:I) (v:Value) (S:Nat->Prop),(∀b,S b->aD.heap[b]? =w.heap[b]?)->aF w F s ay d v S->aF aD bE s ay d v S:=by
 have kt:∀(x:Nat) (q:ahw) (d:I),I.sub q (s x)=some d->(d.plain=false\/I.fm q (s x)=true)->dc aD q (s x) (b8 (ay x)) none=dc w q (s x) (b8 (ay x)) none:=by
  intro x q d ae an;have aY:=hG ae an;have:=ks x;rw[aF.cr aY]at this;exact zs q _ _ (Sx x) none d this.2 ae (bK x)
 have Qe:∀(d:I) (v:Value) (S:Nat->Prop),d.tree=true->(∀b,S b->aD.heap[b]? =w.heap[b]?)->aF w F s ay d v S->aF aD bE s ay d v S:=by
  intro d v S aY sk h;rw[aF.cr aY]at h⊢;exact⟨h.1,au.mono I2 _ _ _ _ (λ_ h=>h) (au.frame a8 _ _ _ sk h.2)⟩
 have step:∀n,(∀(d:I) (v:Value) (S:Nat->Prop),SizeOf.sizeOf d<=n->(∀b,S b->aD.heap[b]? =w.heap[b]?)->aF w F s ay d v S->aF aD bE s ay d v S)/\
   (∀(ds:ahB) (vs:ahz),SizeOf.sizeOf ds<=n->dP w F s ay ds vs->dP aD bE s ay ds vs):=by
  intro n;induction n with
  |zero=>
   refine⟨λd v S bR=>?_,λds vs bR=>?_⟩
   .cases d<;>simp at bR<;>omega
   .cases ds<;>simp at bR<;>omega
  |succ n ih=>
   refine⟨λd v S bR sk h=>?_,λds vs bR h=>?_⟩
   .cases d with
    |hole=>rw[aF];trivial
    |h x q=>
     rw[aF]at h⊢;intro d ae an;rw[kt x q d ae (.inl an)];exact h d ae an
    |an x q=>
     rw[aF]at h⊢;intro d ae an;rw[kt x q d ae (.inr an)];exact h d ae an
    |R x k=>
     rw[aF]at h⊢;intro an;obtain⟨b,cur,e,fr,ab,ad,aC,aW⟩:=h an;exact⟨b,cur,e,fr,ab,I2 b ad,(a8 b ad).trans aC,aW⟩
    |fn f cap=>
     rw[aF]at h⊢;obtain⟨arr,rfl,ai⟩:=h;exact⟨arr,rfl,ih.2 _ _ (by simp at bR;omega) ai⟩
    |_=>exact Qe _ _ _ rfl sk h
   .cases ds with
    |nil=>rw[dP]at h⊢;exact h
    |cons d ds=>
     rw[dP]at h⊢;obtain⟨v,jB,rfl,ab,ad⟩:=h;simp at bR;exact⟨v,jB,rfl,ih.1 _ _ _ (by omega) (λ_ h=>h.elim) ab,ih.2 _ _ (by omega) ad⟩
 intro d v S sk h;exact(step (SizeOf.sizeOf d)).1 d v S (Nat.le_refl _) sk h
mutual
def cE (x:Nat):I->I
 | .h y q=>if y=x then .hole else .h y q
 | .an y q=>if y=x then .hole else .an y q
 | .R y k=>if y=x then .hole else .R y k
 | .fn f cap=>.fn f (iU x cap)
 |d=>d
def iU (x:Nat):ahB->ahB
 |[]=>[]
 |d::ds=>cE x d::iU x ds
end
mutual
def b6 (x:Nat):I->I
 | .h y q=>if y=x then(if q=[]then .h y q else .hole)else .h y q
 | .an y q=>if y=x then .hole else .an y q
 | .fn f cap=>.fn f (im x cap)
 |d=>d
def im (x:Nat):ahB->ahB
 |[]=>[]
 |d::ds=>b6 x d::im x ds
end
def da {α:Type} (f:Nat->α) (t:Nat) (v:α):Nat->α:=λu=>if u=t then v else f u
def lK (t:Nat) (s:aw):aw:=λu=>cE t (s u)
def hM (t:Nat) (s:aw):aw:=λu=>b6 t (s u)
theorem lL {α:Type} (f:Nat->α) (t:Nat) (v:α):da f t v t=v:=by simp[da]
theorem iV {α:Type} (f:Nat->α) {t u:Nat} (v:α) (h:u≠t):da f t v u=f u:=by simp[da,h]
theorem Qf {t:Nat} {d:I} (h:d.tree=true):cE t d=d:=by cases d<;>first|rfl|(simp[I.tree]at h)
theorem C_ {t:Nat} {d:I} (h:d.tree=true):b6 t d=d:=by cases d<;>first|rfl|(simp[I.tree]at h)
theorem Qg {t:Nat} {d:I} (h:(cE t d).tree=true):d.tree=true/\cE t d=d:=by
 cases d<;>first|exact⟨rfl,rfl⟩|(simp only[cE]at h;first|(split at h<;>simp[I.tree]at h)|simp[I.tree]at h)
theorem zt {t:Nat} {d:I} (h:(b6 t d).tree=true):d.tree=true/\b6 t d=d:=by
 cases d<;>first|exact⟨rfl,rfl⟩|(simp only[b6]at h;first|(split at h<;>(try split at h)<;>simp[I.tree]at h)|simp[I.tree]at h)
section
variable {w:World} {F:Nat->Prop} {s aA:aw} {ay j9:Nat->Value} {t:Nat}
theorem aF.cE (gS:∀x,x≠t->(aA x).tree=true->aA x=s x/\j9 x=ay x):∀(n:Nat),
  (∀(d:I) (v:Value) (S:Nat->Prop),SizeOf.sizeOf d<=n->aF w F s ay d v S->aF w F aA j9 (c_.cE t d) v S)/\
  (∀(ds:ahB) (vs:ahz),SizeOf.sizeOf ds<=n->dP w F s ay ds vs->dP w F aA j9 (iU t ds) vs):=by
 intro n;induction n with
 |zero=>
  refine⟨λd v S bR=>?_,λds vs bR=>?_⟩
  .cases d<;>simp at bR<;>omega
  .cases ds<;>simp at bR<;>omega
 |succ n ih=>
  refine⟨λd v S bR h=>?_,λds vs bR h=>?_⟩
  .cases d with
   |hole=>rw[c_.cE.eq_def];simp only;rw[aF];trivial
   |h x q=>
    simp only[c_.cE];split
    .rw[aF];trivial
    .rename_i ar;rw[aF]at h⊢;intro d ae an;obtain⟨aP,aT⟩:=gS x ar (hG ae (.inl an));rw[aP,aT];rw[aP]at ae;exact h d ae an
   |an x q=>
    simp only[c_.cE];split
    .rw[aF];trivial
    .rename_i ar;rw[aF]at h⊢;intro d ae an;obtain⟨aP,aT⟩:=gS x ar (hG ae (.inr an));rw[aP,aT];rw[aP]at ae an;exact h d ae an
   |R x k=>
    simp only[c_.cE];split
    .rw[aF];trivial
    .rename_i ar;rw[aF]at h⊢;intro an;obtain⟨aP,aT⟩:=gS x ar (C9 an);rw[aT];rw[aP]at an;exact h an
   |fn f cap=>
    simp only[c_.cE];rw[aF]at h⊢;obtain⟨arr,rfl,ai⟩:=h;exact⟨arr,rfl,ih.2 _ _ (by simp at bR;omega) ai⟩
   |_=>
    rw[Qf (by rfl)];exact(aF.cr (by rfl)).2 ((aF.cr (by rfl)).1 h)
  .cases ds with
   |nil=>rw[iU,dP];rw[dP]at h;exact h
   |cons d ds=>
    rw[iU,dP];rw[dP]at h;obtain⟨v,jB,rfl,ab,ad⟩:=h;simp at bR;exact⟨v,jB,rfl,ih.1 _ _ _ (by omega) ab,ih.2 _ _ (by omega) ad⟩
theorem aF.b6 {aD:World} (gS:∀x,x≠t->(aA x).tree=true->aA x=s x/\j9 x=ay x) (iq:j9 t=ay t) (fo:(aA t).plain=false->(s t).plain=false/\∀v,dz (s t) v->dz (aA t) v)
  (kt:∀x q d,x≠t->I.sub q (s x)=some d->(d.plain=false\/I.fm q (s x)=true)->dc aD q (s x) (b8 (ay x)) none=dc w q (s x) (b8 (ay x)) none)
  (a8:∀b,F b->aD.heap[b]? =w.heap[b]?):∀(n:Nat),
  (∀(d:I) (v:Value) (S:Nat->Prop),SizeOf.sizeOf d<=n->(∀b,S b->aD.heap[b]? =w.heap[b]?)->aF w F s ay d v S->aF aD F aA j9 (c_.b6 t d) v S)/\
  (∀(ds:ahB) (vs:ahz),SizeOf.sizeOf ds<=n->dP w F s ay ds vs->dP aD F aA j9 (im t ds) vs):=by
 intro n;induction n with
 |zero=>
  refine⟨λd v S bR=>?_,λds vs bR=>?_⟩
  .cases d<;>simp at bR<;>omega
  .cases ds<;>simp at bR<;>omega
 |succ n ih=>
  refine⟨λd v S bR sk h=>?_,λds vs bR h=>?_⟩
  .cases d with
   |hole=>rw[c_.b6.eq_def];simp only;rw[aF];trivial
   |h x q=>
    simp only[c_.b6];split
    .rename_i ar;subst ar;split
     .rename_i b_;subst b_;rw[aF]at h⊢;intro d ae an;simp only[I.sub,some.injEq]at ae;subst ae;obtain⟨dm,a7⟩:=fo an;obtain⟨cD,a,g1,g2,g3⟩:=h (s x) rfl dm;simp only[dc,some.injEq,Prod.mk.injEq]at g1;obtain⟨-,g1,afK⟩:=g1;refine⟨b8 (j9 x),none,rfl,?_,a7 _ g3⟩;rw[iq,g2,<-g1]
     .rw[aF];trivial
    .rename_i ar;rw[aF]at h⊢;intro d ae an;obtain⟨aP,aT⟩:=gS x ar (hG ae (.inl an));rw[aP,aT];rw[aP]at ae;rw[kt x q d ar ae (.inl an)];exact h d ae an
   |an x q=>
    simp only[c_.b6];split
    .rw[aF];trivial
    .rename_i ar;rw[aF]at h⊢;intro d ae an;obtain⟨aP,aT⟩:=gS x ar (hG ae (.inr an));rw[aP,aT];rw[aP]at ae an;rw[kt x q d ar ae (.inr an)];exact h d ae an
   |R x k=>
    simp only[c_.b6];rw[aF]at h⊢;intro an;by_cases ar:x=t
    .subst ar;obtain⟨b,cur,e,fr,ab,ad,aC,aW⟩:=h (fo an).1;exact⟨b,cur,e,fr,ab,ad,(a8 b ad).trans aC,by rw[iq];exact aW⟩
    .obtain⟨aP,aT⟩:=gS x ar (C9 an);rw[aP]at an;obtain⟨b,cur,e,fr,ab,ad,aC,aW⟩:=h an;exact⟨b,cur,e,fr,ab,ad,(a8 b ad).trans aC,by rw[aT];exact aW⟩
   |fn f cap=>
    simp only[c_.b6];rw[aF]at h⊢;obtain⟨arr,rfl,ai⟩:=h;exact⟨arr,rfl,ih.2 _ _ (by simp at bR;omega) ai⟩
   |_=>
    rw[C_ (by rfl)];have bc:=(aF.cr (by rfl)).1 h;exact(aF.cr (by rfl)).2 ⟨bc.1,au.frame a8 _ _ _ sk bc.2⟩
  .cases ds with
   |nil=>rw[im,dP];rw[dP]at h;exact h
   |cons d ds=>
    rw[im,dP];rw[dP]at h;obtain⟨v,jB,rfl,ab,ad⟩:=h;simp at bR;exact⟨v,jB,rfl,ih.1 _ _ _ (by omega) (λ_ h=>h.elim) ab,ih.2 _ _ (by omega) ad⟩
theorem aF.void (gS:∀x,x≠t->(aA x).tree=true->aA x=s x/\j9 x=ay x) (n9:(aA t).plain=true):∀(n:Nat),
  (∀(d:I) (v:Value) (S:Nat->Prop),SizeOf.sizeOf d<=n->aF w F s ay d v S->aF w F aA j9 d v S)/\
  (∀(ds:ahB) (vs:ahz),SizeOf.sizeOf ds<=n->dP w F s ay ds vs->dP w F aA j9 ds vs):=by
 intro n;induction n with
 |zero=>
  refine⟨λd v S bR=>?_,λds vs bR=>?_⟩
  .cases d<;>simp at bR<;>omega
  .cases ds<;>simp at bR<;>omega
 |succ n ih=>
  refine⟨λd v S bR h=>?_,λds vs bR h=>?_⟩
  .cases d with
   |hole=>rw[aF];trivial
   |h x q=>
    rw[aF]at h⊢;intro d ae an;by_cases ar:x=t
    .subst ar;rw[I.C7 _ _ _ n9 ae]at an;cases an
    .obtain⟨aP,aT⟩:=gS x ar (hG ae (.inl an));rw[aP,aT];rw[aP]at ae;exact h d ae an
   |an x q=>
    rw[aF]at h⊢;intro d ae an;by_cases ar:x=t
    .subst ar;rw[I.I1 _ _ n9]at an;cases an
    .obtain⟨aP,aT⟩:=gS x ar (hG ae (.inr an));rw[aP,aT];rw[aP]at ae an;exact h d ae an
   |R x k=>
    rw[aF]at h⊢;intro an;by_cases ar:x=t
    .subst ar;rw[n9]at an;cases an
    .obtain⟨aP,aT⟩:=gS x ar (C9 an);rw[aT];rw[aP]at an;exact h an
   |fn f cap=>
    rw[aF]at h⊢;obtain⟨arr,rfl,ai⟩:=h;exact⟨arr,rfl,ih.2 _ _ (by simp at bR;omega) ai⟩
   |_=>exact(aF.cr (by rfl)).2 ((aF.cr (by rfl)).1 h)
  .cases ds with
   |nil=>rw[dP];rw[dP]at h;exact h
   |cons d ds=>
    rw[dP];rw[dP]at h;obtain⟨v,jB,rfl,ab,ad⟩:=h;simp at bR;exact⟨v,jB,rfl,ih.1 _ _ _ (by omega) ab,ih.2 _ _ (by omega) ad⟩
end
def wi:Bool:=false
def Out (w w0:World):Prop:=w.output=w0.output/\(wi=true->w0.drawn<=w.drawn)
theorem Out.trans {a b c:World} (h:Out a b) (ad:Out b c):Out a c:=⟨Eq.trans h.1 ad.1,λd=>Nat.le_trans (ad.2 d) (h.2 d)⟩
theorem Out.refl (w:World):Out w w:=⟨rfl,λ_=>Nat.le_refl _⟩
def Da (o:Obj):Prop:=∃bj cs e fr,o= .cells cs e fr/\cs[0]? =some bj/\(bj= .nilIface\/∃Db Dc,bj= .iface Db Dc)
def zu (o:Obj):Prop:=∃e fr,o= .cells ((range 20).map λi=>Value.int .u64 ((10^i:Nat):Int)).toArray e fr
def zv:List (Nat×(Obj->Prop)):=[(1,Da),(5,zu)]
def o2 (w:World) (X:Nat->Prop):Prop:=∀p∈zv,p.1<w.heap.size/\¬X p.1/\∃o,w.heap[p.1]? =some o/\p.2 o
theorem o2.next {w aD:World} {X Y:Nat->Prop} (h:o2 w X) (U:w.heap.size<=aD.heap.size) (R:∀b,b<w.heap.size->¬X b->aD.heap[b]? =w.heap[b]?) (hy:∀b,Y b->X b\/w.heap.size<=b):o2 aD Y:=λp an=>by
 obtain⟨ab,ad,o,aC,aW⟩:=h p an;refine⟨Nat.lt_of_lt_of_le ab U,λh=>?_,o,(R _ ab ad).trans aC,aW⟩;rcases hy _ h with h|h
 .exact ad h
 .omega
structure bx (w0:World) (F0 X F:Nat->Prop) (S:Nat->Nat->Prop) (s:aw) (ay:Nat->Value) (w:World):Prop where
 gq:∀b,F0 b->F b
 gK:∀b,F b->F0 b\/X b\/w0.heap.size<=b
 eK:∀b,F b->b<w.heap.size
 et:∀t b,S t b->b<w.heap.size
 fg:∀t b,S t b->¬F b
 eT:∀t u b,t≠u->S t b->¬S u b
 dy:∀t b,S t b->X b\/w0.heap.size<=b
 cW:∀t,aF w F s ay (s t) (ay t) (S t)
 old:∀b,b<w0.heap.size->¬X b->w.heap[b]? =w0.heap[b]?
 size:w0.heap.size<=w.heap.size
 os:w.os=w0.os
 tape:w.tape=w0.tape
 output:Out w w0
 fW:o2 w0 X
section
variable {w0 w aD:World} {F0 X F:Nat->Prop} {S:Nat->Nat->Prop} {s:aw} {ay:Nat->Value}
theorem bx.grow (h:bx w0 F0 X F S s ay w) (R:∀b,b<w.heap.size->aD.heap[b]? =w.heap[b]?) (U:w.heap.size<=aD.heap.size)
  (ab:aD.os=w.os) (ad:aD.tape=w.tape) (aC:Out aD w):bx w0 F0 X F S s ay aD where
 gq:=h.gq
 gK:=h.gK
 eK:=λb a8=>Nat.lt_of_lt_of_le (h.eK b a8) U
 et:=λt b a8=>Nat.lt_of_lt_of_le (h.et t b a8) U
 fg:=h.fg
 eT:=h.eT
 dy:=h.dy
 cW:=λt=>aF.frame (Sx:=S) (λb a8=>R b (h.eK b a8)) (λ_ h=>h) (λx b bK=>R b (h.et x b bK)) h.cW _ _ _ (λb bK=>R b (h.et t b bK)) (h.cW t)
 old:=λb ei j_=>(R b (Nat.lt_of_lt_of_le ei h.size)).trans (h.old b ei j_)
 size:=Nat.le_trans h.size U
 os:=ab.trans h.os
 tape:=ad.trans h.tape
 output:=aC.trans h.output
 fW:=h.fW
def fP (S:Nat->Nat->Prop) (t:Nat) (Sn:Nat->Prop):Nat->Nat->Prop:=λu b=>if u=t then Sn b else S u b
theorem wj (S:Nat->Nat->Prop) (t:Nat) (Sn:Nat->Prop):fP S t Sn t=Sn:=by funext b;simp[fP]
theorem wk (S:Nat->Nat->Prop) {t u:Nat} (Sn:Nat->Prop) (h:u≠t):fP S t Sn u=S u:=by funext b;simp[fP,h]
theorem bx.ug (h:bx w0 F0 X F S s ay w) {t:Nat} {d:I} {v:Value} (an:d.plain=true) (ae:aF w F s ay d v (λ_=>False)):
  bx w0 F0 X F (fP S t (λ_=>False)) (da s t d) (da ay t v) w where
 gq:=h.gq
 gK:=h.gK
 eK:=h.eK
 et:=λu b R=>by simp only[fP]at R;split at R;exact R.elim;exact h.et u b R
 fg:=λu b R=>by simp only[fP]at R;split at R;exact R.elim;exact h.fg u b R
 eT:=λu x b cO R ar=>by
  simp only[fP]at R ar;split at R
  .exact R.elim
  .split at ar
   .exact ar.elim
   .exact h.eT u x b cO R ar
 dy:=λu b R=>by simp only[fP]at R;split at R;exact R.elim;exact h.dy u b R
 cW:=λu=>by
  have gS:∀x,x≠t->(da s t d x).tree=true->da s t d x=s x/\da ay t v x=ay x:=λx ar _=>⟨iV _ _ ar,iV _ _ ar⟩
  have n9:(da s t d t).plain=true:=by rw[lL];exact an
  by_cases hu:u=t
  .subst hu;rw[lL,lL,wj];exact(aF.void gS n9 _).1 _ _ _ (Nat.le_refl _) ae
  .rw[iV _ _ hu,iV _ _ hu,wk _ _ hu];exact(aF.void gS n9 _).1 _ _ _ (Nat.le_refl _) (h.cW u)
 old:=h.old
 size:=h.size
 os:=h.os
 tape:=h.tape
 output:=h.output
 fW:=h.fW
theorem bx.I3 (h:bx w0 F0 X F S s ay w) {t:Nat} {d:I} {v:Value} {Sn:Nat->Prop} (ae:d.tree=true) (U:dz d v) (aI:au w F d (b8 v) Sn)
  (ei:∀b,Sn b->b<w.heap.size) (a8:∀b,Sn b->¬F b) (bK:∀u b,u≠t->Sn b->¬S u b) (aV:∀b,Sn b->X b\/w0.heap.size<=b):
  bx w0 F0 X F (fP S t Sn) (da (lK t s) t d) (da ay t v) w where
 gq:=h.gq
 gK:=h.gK
 eK:=h.eK
 et:=λu b R=>by simp only[fP]at R;split at R;exact ei b R;exact h.et u b R
 fg:=λu b R=>by simp only[fP]at R;split at R;exact a8 b R;exact h.fg u b R
 eT:=λu x b cO R ar=>by
  simp only[fP]at R ar;split at R
  .rename_i hu;rw[if_neg (λe=>cO (hu.trans e.symm))]at ar;exact bK x b (λe=>cO (hu.trans e.symm)) R ar
  .rename_i hu;split at ar
   .exact bK u b hu ar R
   .exact h.eT u x b cO R ar
 dy:=λu b R=>by simp only[fP]at R;split at R;exact aV b R;exact h.dy u b R
 cW:=λu=>by
  have gS:∀x,x≠t->(da (lK t s) t d x).tree=true->da (lK t s) t d x=s x/\da ay t v x=ay x:=λx ar aY=>by
   rw[iV _ _ ar]at aY⊢;exact⟨(Qg aY).2,iV _ _ ar⟩
  by_cases hu:u=t
  .subst hu;rw[lL,lL,wj];exact(aF.cr ae).2 ⟨U,aI⟩
  .rw[iV _ _ hu,iV _ _ hu,wk _ _ hu];exact(aF.cE gS _).1 _ _ _ (Nat.le_refl _) (h.cW u)
 old:=h.old
 size:=h.size
 os:=h.os
 tape:=h.tape
 output:=h.output
 fW:=h.fW
theorem q4 (k:Nat) (q:ahw) (bp x:I):(∃az gs,x= .agg az/\I.put (k::q) bp x= .agg gs)\/(∃az gs,x= .tuple az/\I.put (k::q) bp x= .tuple gs)\/
  (∃sz xs bm,x= .ao sz xs/\I.put (k::q) bp x= .ao sz bm)\/(∃y z,x= .a1 y/\I.put (k::q) bp x= .a1 z)\/I.put (k::q) bp x=x:=by
 cases x with
 |agg az=>simp only[I.put];split<;>exact .inl ⟨_,_,rfl,rfl⟩
 |tuple az=>simp only[I.put];split<;>exact .inr (.inl ⟨_,_,rfl,rfl⟩)
 |ao sz az=>simp only[I.put];split<;>exact .inr (.inr (.inl ⟨_,_,_,rfl,rfl⟩))
 |a1 y=>cases k<;>exact .inr (.inr (.inr (.inl ⟨_,_,rfl,rfl⟩)))
 |_=>exact .inr (.inr (.inr (.inr rfl)))
theorem I4 {k:Nat} {q:ahw} {bp x:I} {v:Value} (h:h4 x v):h4 (I.put (k::q) bp x) v:=by
 rcases q4 k q bp x with⟨az,gs,rfl,e⟩|⟨az,gs,rfl,e⟩|⟨sz,xs,bm,rfl,e⟩|⟨y,z,rfl,e⟩|e<;>rw[e]<;>exact h
theorem I5 {k:Nat} {q:ahw} {bp x:I} (h:∀vs,x≠.tuple vs):∀vs,I.put (k::q) bp x≠.tuple vs:=by
 rcases q4 k q bp x with⟨az,gs,rfl,e⟩|⟨az,gs,rfl,e⟩|⟨sz,xs,bm,rfl,e⟩|⟨y,z,rfl,e⟩|e<;>rw[e]<;>first|exact h|(intro vs bc;cases bc;done)|exact(h _ rfl).elim
theorem wm {k:Nat} {q:ahw} {d bp av:I} {v:Value} (h:dz av v) (ae:I.sub (k::q) av=some d) (ab:∀v,h4 d v->h4 bp v) (ad:(∀vs,d≠.tuple vs)->∀vs,bp≠.tuple vs) (aC:bp.wd=d.wd):
  dz (I.put (k::q) bp av) v:=by
 cases av with
 |tuple az=>
  simp only[I.sub]at ae;split at ae
  .rename_i x ar;simp only[I.put,ar];simp only[dz]at h⊢;obtain⟨arr,rfl,bR,ks⟩:=h;refine⟨arr,rfl,by simpa using bR,λj e y he hy=>?_⟩;rw[getElem?_set]at he;split at he
   .rename_i Dd;subst Dd;split at he
    .simp only[some.injEq]at he;subst he;obtain⟨g1,g2,g3⟩:=ks k x y ar hy;refine⟨?_,?_,g3.trans (I.ue q x d bp ae aC).symm⟩
     .cases q with
      |nil=>
       simp only[I.sub,some.injEq]at ae;subst ae;exact ab _ g1
      |cons cc q=>exact I4 g1
     .cases q with
      |nil=>
       simp only[I.sub,some.injEq]at ae;subst ae;exact ad g2
      |cons cc q=>exact I5 g2
    .cases he
   .exact ks j e y he hy
  .cases ae
 |agg az=>simp only[I.put];split<;>exact h
 |ao sz az=>simp only[I.put];split<;>exact h
 |a1 y=>cases k<;>exact h
 |_=>exact h
theorem De {d:I} {v:Value} (h:h4 d v):h4 d.cS v:=by cases d<;>exact h
theorem I6 {s:aw} {x:Nat} {q:ahw} {d:I} (ae:I.sub q (s x)=some d) (an:d.plain=false):
  (da (hM x s) x (I.put q d.cS (s x)) x).plain=false->(s x).plain=false/\∀v,dz (s x) v->dz (da (hM x s) x (I.put q d.cS (s x)) x) v:=by
  rw[lL];intro fy;cases q with
  |nil=>
   exfalso;have:∀d:I,d.cS.plain=true:=by
    intro d;have key:∀n,(∀d:I,SizeOf.sizeOf d<=n->d.cS.plain=true)/\(∀ds:ahB,SizeOf.sizeOf ds<=n->I.dU (I.ld ds)=true):=by
     intro n;induction n with
     |zero=>exact⟨λd bR=>by cases d<;>simp at bR<;>omega,λds bR=>by cases ds<;>simp at bR<;>omega⟩
     |succ n ih=>
      refine⟨λd bR=>?_,λds bR=>?_⟩
      .cases d with
       |agg az=>simp only[I.cS,I.plain];exact ih.2 _ (by simp at bR;omega)
       |tuple az=>simp only[I.cS,I.plain];exact ih.2 _ (by simp at bR;omega)
       |_=>rfl
      .cases ds with
       |nil=>rfl
       |cons d ds=>
        simp at bR;simp only[I.ld,I.dU,Bool.and_eq_true];exact⟨ih.1 _ (by omega),ih.2 _ (by omega)⟩
    exact(key _).1 d (Nat.le_refl _)
   simp only[I.put]at fy;rw[this]at fy;cases fy
  |cons k q=>
   refine⟨?_,λv aI=>wm aI ae (λv h=>De h) (λh vs e=>?_) (I.q3 d)⟩
   .cases bZ:(s x).plain with
    |false=>rfl
    |true=>rw[I.C7 _ _ _ bZ ae]at an;cases an
   .cases d<;>first|(exact h _ rfl)|(simp[I.cS]at e)
theorem bx.take (h:bx w0 F0 X F S s ay w) {x:Nat} {q:ahw} {d:I} (ae:I.sub q (s x)=some d) (an:d.plain=false):
  ∃(Sn e5:Nat->Prop) (cD:ahz) (a:Option (Nat×Nat)),bx w0 F0 X F (fP S x Sn) (da (hM x s) x (I.put q d.cS (s x))) ay w/\
   dc w q (s x) (b8 (ay x)) none=some (d,cD,a)/\au w F d cD e5/\(∀b,e5 b->S x b)/\(∀b,Sn b->S x b)/\(∀b,e5 b->¬Sn b)/\
   (∀(bp:I) (v:Value) (aN:Nat->Prop),aF w F s ay bp v aN->aF w F (da (hM x s) x (I.put q d.cS (s x))) ay (c_.b6 x bp) v aN):=by
 have aY:=hG ae (.inl an);have ar:=h.cW x;rw[aF.cr aY]at ar;obtain⟨cD,a,dW,e5,g0,g1,g2,g3,g4,g5⟩:=ctx q (s x) (b8 (ay x)) (S x) none d ar.2 ae;have j8:au w F (I.put q d.cS (s x)) (b8 (ay x)) dW:=by
  have gy:au w F d.cS cD (λ_=>False):=au.cS _ _ _ _ g4;have nr:∀b,(dW b\/False)->dW b:=λb h=>h.elim id False.elim;rcases g5 with⟨l,r,aP,aT,aR⟩|⟨b,cur,e,fr,l,r,aP,aT,aR,b4,cz,bV⟩
  .have:=aR w _ cD _ (λ_ _=>rfl) (λ_ _=>rfl) (I.q3 d) gy (λ_ h=>h.elim);rw[<-aP]at this;exact au.mono (λ_ h=>h) _ _ _ _ nr this
  .have:=bV w _ cD _ (λ_ _=>rfl) (λ_ _ _=>rfl) (by rw[aR,<-cz]) (I.q3 d) gy (λ_ h=>h.elim);exact au.mono (λ_ h=>h) _ _ _ _ nr this
 have Qh:dz (I.put q d.cS (s x)) (ay x)/\(I.put q d.cS (s x)).tree=true\/I.put q d.cS (s x)= .hole:=by
  cases q with
  |nil=>
   simp only[I.sub,some.injEq]at ae;subst ae;simp only[I.put];cases U:s x with
   |ao sz xs=>right;rfl
   |a1 y=>right;rfl
   |dK y=>right;rfl
   |agg az=>left;rw[U]at ar;exact⟨ar.1,rfl⟩
   |tuple az=>
    left;rw[U]at ar;refine⟨?_,rfl⟩;simp only[dz,I.cS]at ar⊢;obtain⟨arr,e,bR,ks⟩:=ar.1;have hl:∀az:ahB,I.ld az=az.map I.cS:=by
     intro az;induction az with
     |nil=>rfl
     |cons a az ih=>simp[I.ld,ih]
    refine⟨arr,e,by rw[hl];simpa using bR,λk fV y he hy=>?_⟩;rw[hl,getElem?_map]at he;cases aq:az[k]? with
    |none=>rw[aq]at he;cases he
    |some z=>
     rw[aq]at he;simp only[map_some,some.injEq]at he;subst he;obtain⟨g1,g2,g3⟩:=ks k z y aq hy;refine⟨De g1,λvs e=>?_,g3.trans (I.q3 z).symm⟩;cases z<;>first|(exact g2 _ rfl)|(simp[I.cS]at e)
   |fD _ _=>right;simp[I.cS]
   |_=>rw[U]at an;simp[I.plain]at an
  |cons k q=>
   left;refine⟨wm ar.1 ae (λv h=>De h) (λh vs e=>?_) (I.q3 d),?_⟩
   .cases d<;>first|(exact h _ rfl)|(simp[I.cS]at e)
   .rcases q4 k q d.cS (s x)with⟨az,gs,aP,e⟩|⟨az,gs,aP,e⟩|⟨sz,xs,bm,aP,e⟩|⟨y,z,aP,e⟩|e<;>rw[e]<;>first|rfl|exact aY
 refine⟨dW,e5,cD,a,?_,g0,g4,g2,g1,λb ab ad=>g3 b ad ab,?_⟩
 rotate_left
 .have gS:∀y,y≠x->(da (hM x s) x (I.put q d.cS (s x)) y).tree=true->da (hM x s) x (I.put q d.cS (s x)) y=s y/\ay y=ay y:=λy hy aY=>by
   rw[iV _ _ hy]at aY⊢;exact⟨(zt aY).2,rfl⟩
  intro bp v aN gV;exact(aF.b6 gS rfl (I6 ae an) (λ_ _ _ _ _ _=>rfl) (λ_ _=>rfl) _).1 _ _ _ (Nat.le_refl _) (λ_ _=>rfl) gV
 have gS:∀y,y≠x->(da (hM x s) x (I.put q d.cS (s x)) y).tree=true->da (hM x s) x (I.put q d.cS (s x)) y=s y/\ay y=ay y:=λy hy aY=>by
  rw[iV _ _ hy]at aY⊢;exact⟨(zt aY).2,rfl⟩
 have fo:=I6 (s:=s) (x:=x) ae an;constructor;case gq=>exact h.gq
 case gK=>exact h.gK
 case eK=>exact h.eK
 case et=>exact λu b R=>by simp only[fP]at R;split at R;exact h.et x b (g1 b R);exact h.et u b R
 case fg=>exact λu b R=>by simp only[fP]at R;split at R;exact h.fg x b (g1 b R);exact h.fg u b R
 case eT=>
  intro u y b cO R hy;simp only[fP]at R hy;split at R
  .rename_i hu;rw[if_neg (λe=>cO (hu.trans e.symm))]at hy;exact h.eT x y b (λe=>cO (hu.trans e)) (g1 b R) hy
  .rename_i hu;split at hy
   .exact h.eT u x b hu R (g1 b hy)
   .exact h.eT u y b cO R hy
 case dy=>exact λu b R=>by simp only[fP]at R;split at R;exact h.dy x b (g1 b R);exact h.dy u b R
 case cW=>
  intro u;by_cases hu:u=x
  .subst hu;rw[lL,wj];rcases Qh with⟨aP,aT⟩|e
   .exact(aF.cr aT).2 ⟨aP,j8⟩
   .rw[e,aF];trivial
  .rw[iV _ _ hu,wk _ _ hu];exact(aF.b6 gS rfl fo (λ_ _ _ _ _ _=>rfl) (λ_ _=>rfl) _).1 _ _ _ (Nat.le_refl _) (λ_ _=>rfl) (h.cW u)
 case old=>exact h.old
 case size=>exact h.size
 case os=>exact h.os
 case tape=>exact h.tape
 case output=>exact h.output
 case fW=>exact h.fW
theorem bx.store (h:bx w0 F0 X F S s ay w) {x:Nat} {q:ahw} {d bp:I} (ae:I.sub q (s x)=some d) (ai:I.fm q (s x)=true)
  {fO:ahz} {Sn:Nat->Prop} (aI:au w F bp fO Sn) (jO:bp.wd=d.wd)
  (ei:∀b,Sn b->b<w.heap.size) (a8:∀b,Sn b->¬F b) (bK:∀u b,Sn b->¬S u b) (aV:∀b,Sn b->X b\/w0.heap.size<=b):
  ∃(cD:ahz) (b:Nat) (l r:ahz) (cur:Array Value) (e:TypeId) (fr:Nat×Nat),dc w q (s x) (b8 (ay x)) none=some (d,cD,some (b,l.length))/\
   w.heap[b]? =some (.cells cur e fr)/\cur.toList=l++(cD++r)/\mo fr cur.size/\
   ∀aD,aD.heap[b]? =some (.cells (l++(fO++r)).toArray e fr)->(∀c,c≠b->aD.heap[c]? =w.heap[c]?)->aD.heap.size=w.heap.size->aD.os=w.os->aD.tape=w.tape->Out aD w->
    ∃aN,bx w0 F0 X F aN (da (hM x s) x (I.put q bp (s x))) ay aD:=by
 have aY:=hG ae (.inr ai);have ar:=h.cW x;rw[aF.cr aY]at ar;obtain⟨cD,a,dW,e5,g0,g1,g2,g3,g4,g5⟩:=ctx q (s x) (b8 (ay x)) (S x) none d ar.2 ae;have Qi:Deep w F q (s x) (b8 (ay x)) d cD a dW:=by
  rcases g5 with⟨l,r,aP,aT,aR⟩|g5
  .exfalso;have jC:∀(q:ahw) (av:I) (cs:ahz) (a0:Option (Nat×Nat)) (d:I) (cD:ahz),I.fm q av=true->dc w q av cs a0=some (d,cD,none)->False:=by
    intro q;induction q with
    |nil=>intro av cs a0 d cD ai;simp[I.fm]at ai
    |cons k q ih=>
     have I7:∀(q:ahw) (av:I) (cs:ahz) (l:Nat×Nat) (d:I) (cD:ahz),dc w q av cs (some l)=some (d,cD,none)->False:=by
      intro q;induction q with
      |nil=>intro av cs l d cD h;simp[dc]at h
      |cons k q zw=>
       intro av cs l d cD h;cases av with
       |agg az=>rw[dc]at h;split at h;exact zw _ _ _ _ _ h;cases h
       |tuple az=>rw[dc]at h;split at h;exact zw _ _ _ _ _ h;cases h
       |ao sz xs=>simp only[dc]at h;split at h;exact zw _ _ _ _ _ h;cases h
       |a1 y=>
        cases k with
        |zero=>rw[dc.eq_def]at h;simp only at h;split at h;exact zw _ _ _ _ _ h;cases h
        |succ k=>rw[show dc w ((k+1)::q) (.a1 y) cs (some l)=none from rfl]at h;cases h
       |_=>simp[dc]at h
     intro av cs a0 d cD ai h;cases av with
     |agg az=>
      simp only[I.fm]at ai;split at ai
      .rename_i y hy;simp only[dc,hy]at h;exact ih _ _ _ _ _ ai h
      .cases ai
     |tuple az=>
      simp only[I.fm]at ai;split at ai
      .rename_i y hy;simp only[dc,hy]at h;exact ih _ _ _ _ _ ai h
      .cases ai
     |ao sz xs=>simp only[dc]at h;split at h;exact I7 _ _ _ _ _ _ h;cases h
     |a1 y=>
      cases k with
      |zero=>rw[dc.eq_def]at h;simp only at h;split at h;exact I7 _ _ _ _ _ _ h;cases h
      |succ k=>rw[show dc w ((k+1)::q) (.a1 y) cs a0=none from rfl]at h;cases h
     |_=>simp[I.fm]at ai
   simp only[map_none]at aT;subst aT;exact jC _ _ _ _ _ _ ai g0
  .exact g5
 obtain⟨b,cur,e,fr,l,r,rfl,aT,aR,b4,cz,bV⟩:=Qi;refine⟨cD,b,l,r,cur,e,fr,g0,aR,cz,b4,?_⟩;intro aD lb ns eJ Df Dg sl;have sn:S x b:=g1 _ aT;have o3:∀c,F c->aD.heap[c]? =w.heap[c]? :=λc ai=>ns c (by rintro rfl;exact h.fg x _ sn ai);have afL:fO.length=cD.length:=by rw[au.length _ _ _ aI,au.length _ _ _ g4,jO]
 have j8:=bV aD bp fO Sn o3 (λc _ cO=>ns c cO) lb jO
  (au.frame o3 _ _ _ (λc ai=>ns c (by rintro rfl;exact bK x _ ai sn)) aI) (λc ai nr=>bK x c ai (g1 _ nr))
 obtain⟨k,jl,rfl⟩:∃k jl,q=k::jl:=by
  cases q with
  |nil=>simp[I.fm]at ai
  |cons k q=>exact⟨k,q,rfl⟩
 have wo:∀v,dz (s x) v->dz (I.put (k::jl) bp (s x)) v:=by
  intro v aI;rcases q4 k jl bp (s x)with⟨az,gs,aP,e⟩|⟨az,gs,aP,e⟩|⟨sz,xs,bm,aP,e⟩|⟨y,z,aP,e⟩|e
  .rw[e];rw[aP]at aI;exact aI
  ·
   rw[aP]at aI ae ai⊢;simp only[I.fm]at ai;split at ai
   .rename_i y hy;simp only[I.put,hy];cases jl with
    |nil=>simp[I.fm]at ai
    |cons cc fp=>
     simp only[dz]at aI⊢;obtain⟨arr,rfl,bR,ks⟩:=aI;refine⟨arr,rfl,by simpa using bR,λj e jD he n_=>?_⟩;rw[getElem?_set]at he;split at he
     .rename_i Dd;subst Dd;split at he
      .simp only[some.injEq]at he;subst he;obtain⟨g1,g2,g3⟩:=ks _ y jD hy n_;simp only[I.sub,hy]at ae;exact⟨I4 g1,I5 g2,g3.trans (I.ue (cc::fp) y d bp ae jO).symm⟩
      .cases he
     .exact ks j e jD he n_
   .cases ai
  .rw[e];rw[aP]at aI;exact aI
  .rw[e];rw[aP]at aI;exact aI
  .rw[e];exact aI
 have Qj:(I.put (k::jl) bp (s x)).tree=true:=by
  rcases q4 k jl bp (s x)with⟨az,gs,aP,e⟩|⟨az,gs,aP,e⟩|⟨sz,xs,bm,aP,e⟩|⟨y,z,aP,e⟩|e<;>rw[e]<;>first|rfl|exact aY
 let aA:=da (hM x s) x (I.put (k::jl) bp (s x))
 have gS:∀y,y≠x->(aA y).tree=true->aA y=s y/\ay y=ay y:=λy hy aY=>by
  have e:aA y=b6 x (s y):=iV _ _ hy;rw[e]at aY⊢;exact⟨(zt aY).2,rfl⟩
 have fo:(aA x).plain=false->(s x).plain=false/\∀v,dz (s x) v->dz (aA x) v:=by
  intro _;refine⟨?_,?_⟩
  .cases bZ:(s x).plain with
   |false=>rfl
   |true=>rw[I.I1 _ _ bZ]at ai;cases ai
  .simp only[aA,lL];exact wo
 refine⟨fP S x (λc=>dW c\/Sn c),?_⟩;constructor;case gq=>exact h.gq
 case gK=>exact h.gK
 case eK=>exact λb R=>by rw[eJ];exact h.eK b R
 case et=>
  intro u c R;rw[eJ];simp only[fP]at R;split at R
  .rcases R with R|R
   .exact h.et x c (g1 c R)
   .exact ei c R
  .exact h.et u c R
 case fg=>
  intro u c R;simp only[fP]at R;split at R
  .rcases R with R|R
   .exact h.fg x c (g1 c R)
   .exact a8 c R
  .exact h.fg u c R
 case eT=>
  intro u y c cO R hy;simp only[fP]at R hy;split at R
  .rename_i hu;rw[if_neg (λe=>cO (hu.trans e.symm))]at hy;rcases R with R|R
   .exact h.eT x y c (λe=>cO (hu.trans e)) (g1 c R) hy
   .exact bK y c R hy
  .rename_i hu;split at hy
   .rcases hy with hy|hy
    .exact h.eT u x c hu R (g1 c hy)
    .exact bK u c hy R
   .exact h.eT u y c cO R hy
 case dy=>
  intro u c R;simp only[fP]at R;split at R
  .rcases R with R|R
   .exact h.dy x c (g1 c R)
   .exact aV c R
  .exact h.dy u c R
 case cW=>
  intro u;by_cases hu:u=x
  .subst hu;rw[lL,wj];exact(aF.cr Qj).2 ⟨wo _ ar.1,j8⟩
  .rw[iV _ _ hu,wk _ _ hu];have cO:∀y c,y≠x->S y c->aD.heap[c]? =w.heap[c]? :=λy c hy ai=>ns c (by rintro rfl;exact h.eT y x c hy ai sn);refine(aF.b6 gS rfl fo (λy fp d2 hy hN wq=>?_) o3 _).1 _ _ _ (Nat.le_refl _) (λc ai=>cO u c hu ai) (h.cW u);have wt:=h.cW y;rw[aF.cr (hG hN wq)]at wt;exact zs fp _ _ _ none d2 wt.2 hN (λc ai=>cO y c hy ai)
 case old=>
  intro c ei j_;by_cases uh:c=b
  .subst uh;exfalso;rcases h.dy x c sn with gy|gy
   .exact j_ gy
   .omega
  .exact(ns c uh).trans (h.old c ei j_)
 case size=>rw[eJ];exact h.size
 case os=>exact Df.trans h.os
 case tape=>exact Dg.trans h.tape
 case output=>exact sl.trans h.output
 case fW=>exact h.fW
end
end Go.c_
