/- Part of a proof that a law returns true for every input. No condition. -/
import Derived.Test.YtndfcecbamffaaaGreatDoorFwA
import Derived.Laws.AppendOwn
import Derived.Calls
namespace Go.cG
open List Option Go.IntKind Nat Or
inductive vN where
 |mp (es:gk)
 |rZ
 |gW (T e:TypeId) (bs:aca)
inductive j where
 |hole
 |bool (b:Bool)
 |eT
 |int (k:IntKind) (n:Int)
 |str (s:aca)
 |c6
 |bc
 |slice (xs:List j)
 |ao (sz:Nat) (xs:List j)
 |ref (d:j)
 |aV (d:j)
 |agg (ar:List j)
 |tuple (vs:List j)
 |fn (f:FuncId) (cap:List j)
 |h (x:Nat) (q:ace)
 |ai (x:Nat) (q:ace)
 |I (x:Nat) (k:Nat)
 |b3 (o:vN)
 |a8 (f:FuncId) (cap:List j)
 |cH (d:j)
 deriving Inhabited
abbrev acj:=List j
abbrev aci:=List (Nat×j)
mutual
def j.wd:j->Nat
 | .agg ar=>j.di ar
 | .tuple ar=>j.di ar
 |_=>1
def j.di:acj->Nat
 |[]=>0
 |d::ds=>d.wd+j.di ds
end
def gJ (w:World) (b o:Nat) (cs:ach):Prop:=∀aB c,cs[aB]? =some c->w.cell? ⟨b,o+aB,none⟩=some c
def l8 (fr:Nat×Nat) (n:Nat):Prop:=∀o,o<n->¬(fr.1<=o/\o<fr.2)
theorem l8.le {fr:Nat×Nat} {m n:Nat} (h:l8 fr n) (hm:m<=n):l8 fr m:=λo a_=>h o (Nat.lt_of_lt_of_le a_ hm)
theorem l8.low {fr:Nat×Nat} {n k:Nat} (h:l8 fr (n+k)):l8 fr n:=h.le (le_add_right _ _)
def Value.ej:Value->Bool
 | .agg _=>false
 | .tuple _=>false
 |_=>true
def j.single:j->Bool
 | .agg _=>false
 | .tuple _=>false
 | .hole=>false
 |_=>true
def j.one:j->Bool
 | .agg _=>false
 | .tuple _=>false
 |_=>true
def k4 (w:World):vN->ach->(Nat->Prop)->Prop
 | .mp es,cs,S=>∃r ms l9,cs=[.map (some r)]/\S r/\w.heap[r]? =some (.map ms l9)/\ms.toList.map (λe=>(e.key,e.val))=es.map (λe=>(.string ⟨⟨e.1⟩⟩,.bool e.2))
 | .rZ,cs,_=>cs=[.map none]
 | .gW T e bs,cs,S=>∃b a r0,cs=[.pointer (some ⟨b,0,none⟩)]/\S b/\w.heap[b]? =some (.cells #[a,r0] T (0,0))/\(a= .pointer none\/a= .pointer (some ⟨b,0,none⟩))/\
   ((bs=[]/\r0= .slice none 0 0)\/
     ∃g cap cur,r0= .slice (some ⟨g,0,none⟩) bs.length cap/\S g/\g≠b/\w.heap[g]? =some (.cells cur e (0,0))/\bs.length<=cap/\cap<=maxLen/\cur.size=cap/\
      cur.toList.take bs.length=bs.map λx=>.int .u8 x.toNat)
theorem k4.frame {w au:World}:∀{o:vN} {cs:ach} {S:Nat->Prop},(∀b,S b->au.heap[b]? =w.heap[b]?)->k4 w o cs S->k4 au o cs S
 | .mp _,_,_,bI,⟨r,ms,l9,R,U,aw,aQ⟩=>⟨r,ms,l9,R,U,(bI _ U).trans aw,aQ⟩
 | .rZ,_,_,_,h=>h
 | .gW _ _ _,_,_,bI,⟨b,a,r0,R,U,aw,aQ,bk⟩=>⟨b,a,r0,R,U,(bI _ U).trans aw,aQ,bk.imp (λh=>h) λ⟨g,cap,cur,qQ,i2,i3,i4,i5⟩=>⟨g,cap,cur,qQ,i2,i3,(bI _ i2).trans i4,i5⟩⟩
theorem k4.mono {w:World}:∀{o:vN} {cs:ach} {S aG:Nat->Prop},(∀b,S b->aG b)->k4 w o cs S->k4 w o cs aG
 | .mp _,_,_,_,bI,⟨r,ms,l9,R,U,aw⟩=>⟨r,ms,l9,R,bI _ U,aw⟩
 | .rZ,_,_,_,_,h=>h
 | .gW _ _ _,_,_,_,bI,⟨b,a,r0,R,U,aw,aQ,bk⟩=>⟨b,a,r0,R,bI _ U,aw,aQ,bk.imp (λh=>h) λ⟨g,cap,cur,qQ,i2,i3⟩=>⟨g,cap,cur,qQ,bI _ i2,i3⟩⟩
theorem k4.one {w:World}:∀{o:vN} {cs:ach} {S:Nat->Prop},k4 w o cs S->∃v,Value.ej v=true/\cs=[v]
 | .mp _,_,_,⟨_,_,_,h,_⟩=>⟨_,rfl,h⟩
 | .rZ,_,_,h=>⟨_,rfl,h⟩
 | .gW _ _ _,_,_,⟨_,_,_,h,_⟩=>⟨_,rfl,h⟩
mutual
def al (w:World) (F:Nat->Prop):j->ach->(Nat->Prop)->Prop
 | .hole,cs,_=>∃v,Value.ej v=true/\cs=[v]
 | .bool b,cs,_=>cs=[.bool b]
 | .eT,cs,_=>∃b,cs=[.bool b]
 | .int k n,cs,_=>cs=[.int k n]
 | .str s,cs,_=>cs=[.string ⟨⟨s⟩⟩]
 | .c6,cs,_=>cs=[.pointer none]
 | .bc,cs,_=>cs=[.slice none 0 0]
 | .slice xs,cs,_=>(xs=[]/\∃a c,cs=[.slice a 0 c]/\c<=maxLen/\(a=none->c=0))\/
   ∃b o cap dC sz,cs=[.slice (some ⟨b,o,none⟩) xs.length cap]/\F b/\xs.length<=cap/\cap<=maxLen/\(∀d∈xs,d.wd=sz)/\
    gJ w b o dC/\aT w F xs dC (λ_=>False)
 | .ao sz xs,cs,S=>(xs=[]/\∃a,cs=[.slice a 0 0])\/
   ∃b cap cur e fr aG,cs=[.slice (some ⟨b,0,none⟩) xs.length cap]/\S b/\w.heap[b]? =some (.cells cur e fr)/\l8 fr (cur.size+(sz-1))/\
    xs.length<=cap/\cap<=maxLen/\cur.size=cap*sz/\(∀d∈xs,d.wd=sz)/\aT w F xs (cur.toList.take (xs.length*sz)) aG/\(∀c,aG c->S c)/\¬aG b
 | .ref d,cs,_=>∃b o dC,cs=[.pointer (some ⟨b,o,none⟩)]/\F b/\gJ w b o dC/\al w F d dC (λ_=>False)
 | .aV d,cs,S=>∃b cur e fr aG,cs=[.pointer (some ⟨b,0,none⟩)]/\S b/\w.heap[b]? =some (.cells cur e fr)/\l8 fr cur.size/\
   al w F d cur.toList aG/\(∀c,aG c->S c)/\¬aG b
 | .agg ar,cs,S=>aT w F ar cs S
 | .tuple ar,cs,S=>aT w F ar cs S
 | .fn f caps,cs,_=>∃arr:Array Value,cs=[.func (.func f) #[] arr]/\(∀d∈caps,d.single=true)/\aT w F caps arr.toList (λ_=>False)
 | .h _ _,_,_=>False
 | .ai _ _,_,_=>False
 | .I _ _,_,_=>False
 | .b3 o,cs,S=>k4 w o cs S
 | .a8 f caps,cs,S=>∃arr:Array Value,cs=[.func (.func f) #[] arr]/\(∀d∈caps,d.one=true)/\aT w F caps arr.toList S
 | .cH d,cs,S=>∃b v e fr,cs=[.pointer (some ⟨b,0,none⟩)]/\F b/\w.heap[b]? =some (.cells #[v] e fr)/\al w F d [v] S
def aT (w:World) (F:Nat->Prop):acj->ach->(Nat->Prop)->Prop
 |[],cs,_=>cs=[]
 |d::ds,cs,S=>∃bK bJ bT cI,cs=bK++bJ/\al w F d bK bT/\aT w F ds bJ cI/\(∀b,bT b->S b)/\(∀b,cI b->S b)/\(∀b,bT b->¬cI b)
end
theorem cell?_of_block {w au:World} {b:Nat} (h:au.heap[b]? =w.heap[b]?) (o:Nat):au.cell? ⟨b,o,none⟩=w.cell? ⟨b,o,none⟩:=by
 simp[World.cell?,h]
theorem gJ.frame {w au:World} {b o:Nat} {cs:ach} (h:au.heap[b]? =w.heap[b]?) (aD:gJ w b o cs):gJ au b o cs:=
 λaB c aj=>(cell?_of_block h _).trans (aD aB c aj)
mutual
theorem al.frame {w au:World} {F:Nat->Prop} (aZ:∀b,F b->au.heap[b]? =w.heap[b]?):
  ∀(d:j) (cs:ach) (S:Nat->Prop),(∀b,S b->au.heap[b]? =w.heap[b]?)->al w F d cs S->al au F d cs S
 | .hole,_,_,_,h=>h
 | .bool _,_,_,_,h=>h
 | .eT,_,_,_,h=>h
 | .int _ _,_,_,_,h=>h
 | .str _,_,_,_,h=>h
 | .c6,_,_,_,h=>h
 | .bc,_,_,_,h=>h
 | .slice xs,cs,S,bI,h=>by
   rw[al]at h⊢;rcases h with h|⟨b,o,cap,dC,sz,R,U,aw,aQ,bk,bS,bL⟩
   .exact .inl h
   .exact .inr ⟨b,o,cap,dC,sz,R,U,aw,aQ,bk,bS.frame (aZ _ U),aT.frame aZ xs _ _ (λ_ h=>h.elim) bL⟩
 | .ao sz xs,cs,S,bI,h=>by
   rw[al]at h⊢;rcases h with h|⟨b,cap,cur,e,fr,aG,R,U,aw,aQ,bk,bS,bL,da,hR,gu,k5⟩
   .exact .inl h
   .exact .inr ⟨b,cap,cur,e,fr,aG,R,U,(bI _ U).trans aw,aQ,bk,bS,bL,da,aT.frame aZ xs _ _ (λc aj=>bI _ (gu _ aj)) hR,gu,k5⟩
 | .ref d,cs,S,bI,h=>by
   rw[al]at h⊢;obtain⟨b,o,dC,R,U,aw,aQ⟩:=h;exact⟨b,o,dC,R,U,aw.frame (aZ _ U),al.frame aZ d _ _ (λ_ h=>h.elim) aQ⟩
 | .aV d,cs,S,bI,h=>by
   rw[al]at h⊢;obtain⟨b,cur,e,fr,aG,R,U,aw,aQ,bk,bS,bL⟩:=h;exact⟨b,cur,e,fr,aG,R,U,(bI _ U).trans aw,aQ,al.frame aZ d _ _ (λc aj=>bI _ (bS _ aj)) bk,bS,bL⟩
 | .agg ar,cs,S,bI,h=>by rw[al]at h⊢;exact aT.frame aZ ar _ _ bI h
 | .tuple ar,cs,S,bI,h=>by rw[al]at h⊢;exact aT.frame aZ ar _ _ bI h
 | .fn _ caps,cs,S,bI,h=>by
   rw[al]at h⊢;obtain⟨arr,R,U,aw⟩:=h;exact⟨arr,R,U,aT.frame aZ caps _ _ (λ_ h=>h.elim) aw⟩
 | .h _ _,_,_,_,h=>h
 | .ai _ _,_,_,_,h=>h
 | .I _ _,_,_,_,h=>h
 | .b3 _,_,_,bI,h=>k4.frame bI h
 | .a8 _ caps,cs,S,bI,h=>by
   rw[al]at h⊢;obtain⟨arr,R,U,aw⟩:=h;exact⟨arr,R,U,aT.frame aZ caps _ _ bI aw⟩
 | .cH d,cs,S,bI,h=>by
   rw[al]at h⊢;obtain⟨b,v,e,fr,R,U,aw,aQ⟩:=h;exact⟨b,v,e,fr,R,U,(aZ _ U).trans aw,al.frame aZ d _ _ bI aQ⟩
theorem aT.frame {w au:World} {F:Nat->Prop} (aZ:∀b,F b->au.heap[b]? =w.heap[b]?):
  ∀(ds:acj) (cs:ach) (S:Nat->Prop),(∀b,S b->au.heap[b]? =w.heap[b]?)->aT w F ds cs S->aT au F ds cs S
 |[],_,_,_,h=>h
 |d::ds,cs,S,bI,h=>by
  rw[aT]at h⊢;obtain⟨bK,bJ,bT,cI,R,U,aw,aQ,bk,bS⟩:=h;exact⟨bK,bJ,bT,cI,R,al.frame aZ d _ _ (λb I=>bI _ (aQ _ I)) U,aT.frame aZ ds _ _ (λb I=>bI _ (bk _ I)) aw,aQ,bk,bS⟩
end
mutual
theorem al.mono {w:World} {F bh:Nat->Prop} (aZ:∀b,F b->bh b):
  ∀(d:j) (cs:ach) (S aG:Nat->Prop),(∀b,S b->aG b)->al w F d cs S->al w bh d cs aG
 | .hole,_,_,_,_,h=>h
 | .bool _,_,_,_,_,h=>h
 | .eT,_,_,_,_,h=>h
 | .int _ _,_,_,_,_,h=>h
 | .str _,_,_,_,_,h=>h
 | .c6,_,_,_,_,h=>h
 | .bc,_,_,_,_,h=>h
 | .slice xs,cs,S,_,bI,h=>by
   rw[al]at h⊢;rcases h with h|⟨b,o,cap,dC,sz,R,U,aw,aQ,bk,bS,bL⟩
   .exact .inl h
   .exact .inr ⟨b,o,cap,dC,sz,R,aZ _ U,aw,aQ,bk,bS,aT.mono aZ xs _ _ _ (λ_ h=>h) bL⟩
 | .ao sz xs,cs,S,_,bI,h=>by
   rw[al]at h⊢;rcases h with h|⟨b,cap,cur,e,fr,aG,R,U,aw,aQ,bk,bS,bL,da,hR,gu,k5⟩
   .exact .inl h
   .exact .inr ⟨b,cap,cur,e,fr,aG,R,bI _ U,aw,aQ,bk,bS,bL,da,aT.mono aZ xs _ _ _ (λ_ h=>h) hR,λc aj=>bI _ (gu _ aj),k5⟩
 | .ref d,cs,S,_,bI,h=>by
   rw[al]at h⊢;obtain⟨b,o,dC,R,U,aw,aQ⟩:=h;exact⟨b,o,dC,R,aZ _ U,aw,al.mono aZ d _ _ _ (λ_ h=>h) aQ⟩
 | .aV d,cs,S,_,bI,h=>by
   rw[al]at h⊢;obtain⟨b,cur,e,fr,aG,R,U,aw,aQ,bk,bS,bL⟩:=h;exact⟨b,cur,e,fr,aG,R,bI _ U,aw,aQ,al.mono aZ d _ _ _ (λ_ h=>h) bk,λc aj=>bI _ (bS _ aj),bL⟩
 | .agg ar,cs,S,_,bI,h=>by rw[al]at h⊢;exact aT.mono aZ ar _ _ _ bI h
 | .tuple ar,cs,S,_,bI,h=>by rw[al]at h⊢;exact aT.mono aZ ar _ _ _ bI h
 | .fn _ caps,cs,S,_,bI,h=>by
   rw[al]at h⊢;obtain⟨arr,R,U,aw⟩:=h;exact⟨arr,R,U,aT.mono aZ caps _ _ _ (λ_ h=>h) aw⟩
 | .h _ _,_,_,_,_,h=>h
 | .ai _ _,_,_,_,_,h=>h
 | .I _ _,_,_,_,_,h=>h
 | .b3 _,_,_,_,bI,h=>k4.mono bI h
 | .a8 _ caps,cs,S,_,bI,h=>by
   rw[al]at h⊢;obtain⟨arr,R,U,aw⟩:=h;exact⟨arr,R,U,aT.mono aZ caps _ _ _ bI aw⟩
 | .cH d,cs,S,_,bI,h=>by
   rw[al]at h⊢;obtain⟨b,v,e,fr,R,U,aw,aQ⟩:=h;exact⟨b,v,e,fr,R,aZ _ U,aw,al.mono aZ d _ _ _ bI aQ⟩
theorem aT.mono {w:World} {F bh:Nat->Prop} (aZ:∀b,F b->bh b):
  ∀(ds:acj) (cs:ach) (S aG:Nat->Prop),(∀b,S b->aG b)->aT w F ds cs S->aT w bh ds cs aG
 |[],_,_,_,_,h=>h
 |d::ds,cs,S,_,bI,h=>by
  rw[aT]at h⊢;obtain⟨bK,bJ,bT,cI,R,U,aw,aQ,bk,bS⟩:=h;exact⟨bK,bJ,bT,cI,R,al.mono aZ d _ _ _ (λ_ h=>h) U,aT.mono aZ ds _ _ _ (λ_ h=>h) aw,λb I=>bI _ (aQ _ I),λb I=>bI _ (bk _ I),bS⟩
end
mutual
theorem al.length {w:World} {F:Nat->Prop}:∀(d:j) (cs:ach) (S:Nat->Prop),al w F d cs S->cs.length=d.wd
 | .hole,cs,S,h=>by rw[al]at h;obtain⟨v,_,rfl⟩:=h;rfl
 | .bool _,cs,S,h=>by rw[al]at h;subst h;rfl
 | .eT,cs,S,h=>by rw[al]at h;obtain⟨b,rfl⟩:=h;rfl
 | .int _ _,cs,S,h=>by rw[al]at h;subst h;rfl
 | .str _,cs,S,h=>by rw[al]at h;subst h;rfl
 | .c6,cs,S,h=>by rw[al]at h;subst h;rfl
 | .bc,cs,S,h=>by rw[al]at h;subst h;rfl
 | .slice xs,cs,S,h=>by
   rw[al]at h;rcases h with⟨_,a,c,rfl,_⟩|⟨b,o,cap,dC,sz,rfl,_⟩<;>rfl
 | .ao sz xs,cs,S,h=>by
   rw[al]at h;rcases h with⟨_,a,rfl⟩|⟨b,cap,cur,e,fr,aG,rfl,_⟩<;>rfl
 | .ref d,cs,S,h=>by rw[al]at h;obtain⟨b,o,dC,rfl,_⟩:=h;rfl
 | .aV d,cs,S,h=>by rw[al]at h;obtain⟨b,o,dC,_,_,rfl,_⟩:=h;rfl
 | .agg ar,cs,S,h=>by rw[al]at h;exact aT.length ar _ _ h
 | .tuple ar,cs,S,h=>by rw[al]at h;exact aT.length ar _ _ h
 | .fn _ _,cs,S,h=>by rw[al]at h;obtain⟨arr,rfl,_⟩:=h;rfl
 | .h _ _,cs,S,h=>by rw[al]at h;exact h.elim
 | .ai _ _,cs,S,h=>by rw[al]at h;exact h.elim
 | .I _ _,cs,S,h=>by rw[al]at h;exact h.elim
 | .b3 _,cs,S,h=>by rw[al]at h;obtain⟨v,_,rfl⟩:=k4.one h;rfl
 | .a8 _ _,cs,S,h=>by rw[al]at h;obtain⟨arr,rfl,_⟩:=h;rfl
 | .cH _,cs,S,h=>by rw[al]at h;obtain⟨b,v,e,fr,rfl,_⟩:=h;rfl
theorem aT.length {w:World} {F:Nat->Prop}:∀(ds:acj) (cs:ach) (S:Nat->Prop),aT w F ds cs S->cs.length=j.di ds
 |[],cs,S,h=>by rw[aT]at h;subst h;rfl
 |d::ds,cs,S,h=>by
  rw[aT]at h;obtain⟨bK,bJ,bT,cI,rfl,U,aw,_⟩:=h;rw[length_append,al.length d _ _ U,aT.length ds _ _ aw,j.di]
end
mutual
def j.share:j->j
 | .ao _ xs=>.slice (j.shares xs)
 | .aV d=>.ref d.share
 | .slice xs=>.slice (j.shares xs)
 | .ref d=>.ref d.share
 | .agg ar=>.agg (j.shares ar)
 | .tuple ar=>.tuple (j.shares ar)
 | .b3 _=>.hole
 | .a8 _ _=>.hole
 | .cH _=>.hole
 |d=>d
def j.shares:acj->acj
 |[]=>[]
 |d::ds=>d.share::j.shares ds
end
theorem j.qR (ds:acj):j.shares ds=ds.map j.share:=by
 induction ds with
 |nil=>rfl
 |cons d ds ih=>simp[j.shares,ih]
mutual
theorem j.yz:∀d:j,d.share.wd=d.wd
 | .hole=>rfl
 | .bool _=>rfl
 | .eT=>rfl
 | .int _ _=>rfl
 | .str _=>rfl
 | .c6=>rfl
 | .bc=>rfl
 | .slice _=>rfl
 | .ao _ _=>rfl
 | .ref _=>rfl
 | .aV _=>rfl
 | .agg ar=>by simp only[j.share,j.wd];exact j.Br ar
 | .tuple ar=>by simp only[j.share,j.wd];exact j.Br ar
 | .fn _ _=>rfl
 | .h _ _=>rfl
 | .ai _ _=>rfl
 | .I _ _=>rfl
 | .b3 _=>rfl
 | .a8 _ _=>rfl
 | .cH _=>rfl
theorem j.Br:∀ds:acj,j.di (j.shares ds)=j.di ds
 |[]=>rfl
 |d::ds=>by simp only[j.shares,j.di];rw[j.yz d,j.Br ds]
end
theorem tN {w:World} {b:Nat} {cur:Array Value} {e:TypeId} {fr:Nat×Nat} (h:w.heap[b]? =some (.cells cur e fr)) (n:Nat):gJ w b 0 (cur.toList.take n):=by
 intro aB c aj;rw[getElem?_take]at aj;split at aj
 .simp[World.cell?,h];simpa using aj
 .cases aj
mutual
theorem al.shared {w:World} {F bh:Nat->Prop} (aZ:∀b,F b->bh b):
  ∀(d:j) (cs:ach) (S:Nat->Prop),(∀b,S b->bh b)->al w F d cs S->al w bh d.share cs (λ_=>False)
 | .hole,_,_,_,h=>h
 | .bool _,_,_,_,h=>h
 | .eT,_,_,_,h=>h
 | .int _ _,_,_,_,h=>h
 | .str _,_,_,_,h=>h
 | .c6,_,_,_,h=>h
 | .bc,_,_,_,h=>h
 | .slice xs,cs,S,bI,h=>by
   rw[j.share,al];rw[al]at h;rcases h with⟨rfl,a,c,rfl,aj⟩|⟨b,o,cap,dC,sz,R,U,aw,aQ,bk,bS,bL⟩
   .exact .inl ⟨rfl,a,c,rfl,aj⟩
   .refine .inr ⟨b,o,cap,dC,sz,?_,aZ _ U,?_,aQ,?_,bS,aT.shared aZ xs _ _ (λ_ h=>h.elim) bL⟩
    .simpa [j.qR]using R
    .simpa [j.qR]using aw
    .intro d ad;rw[j.qR]at ad;obtain⟨bd,fQ,rfl⟩:=mem_map.1 ad;rw[j.yz];exact bk _ fQ
 | .ao sz xs,cs,S,bI,h=>by
   rw[j.share,al];rw[al]at h;rcases h with⟨rfl,a,rfl⟩|⟨b,cap,cur,e,fr,aG,R,U,aw,aQ,bk,bS,bL,da,hR,gu,k5⟩
   .exact .inl ⟨rfl,a,0,rfl,zero_le _,λ_=>rfl⟩
   .refine .inr ⟨b,0,cap,_,sz,?_,bI _ U,?_,bS,?_,tN aw _,aT.shared aZ xs _ _ (λc aj=>bI _ (gu _ aj)) hR⟩
    .simpa [j.qR]using R
    .simpa [j.qR]using bk
    .intro d ad;rw[j.qR]at ad;obtain⟨bd,fQ,rfl⟩:=mem_map.1 ad;rw[j.yz];exact da _ fQ
 | .ref d,cs,S,bI,h=>by
   rw[j.share,al];rw[al]at h;obtain⟨b,o,dC,R,U,aw,aQ⟩:=h;exact⟨b,o,dC,R,aZ _ U,aw,al.shared aZ d _ _ (λ_ h=>h.elim) aQ⟩
 | .aV d,cs,S,bI,h=>by
   rw[j.share,al];rw[al]at h;obtain⟨b,cur,e,fr,aG,R,U,aw,aQ,bk,bS,bL⟩:=h;refine⟨b,0,cur.toList,R,bI _ U,?_,al.shared aZ d _ _ (λc aj=>bI _ (bS _ aj)) bk⟩;have:=tN aw cur.toList.length
   rwa [take_length]at this
 | .agg ar,cs,S,bI,h=>by rw[j.share,al];rw[al]at h;exact aT.shared aZ ar _ _ bI h
 | .tuple ar,cs,S,bI,h=>by rw[j.share,al];rw[al]at h;exact aT.shared aZ ar _ _ bI h
 | .fn f caps,cs,S,bI,h=>by
   show al w bh (.fn f caps) cs _;rw[al]at h⊢;obtain⟨arr,R,U,aw⟩:=h;exact⟨arr,R,U,aT.mono aZ caps _ _ _ (λ_ h=>h) aw⟩
 | .h _ _,_,_,_,h=>h
 | .ai _ _,_,_,_,h=>h
 | .I _ _,_,_,_,h=>h
 | .b3 _,cs,S,bI,h=>by rw[al]at h;rw[j.share,al];exact k4.one h
 | .a8 _ _,cs,S,bI,h=>by rw[al]at h;obtain⟨arr,rfl,_⟩:=h;rw[j.share,al];exact⟨_,rfl,rfl⟩
 | .cH _,cs,S,bI,h=>by rw[al]at h;obtain⟨b,v,e,fr,rfl,_⟩:=h;rw[j.share,al];exact⟨_,rfl,rfl⟩
theorem aT.shared {w:World} {F bh:Nat->Prop} (aZ:∀b,F b->bh b):
  ∀(ds:acj) (cs:ach) (S:Nat->Prop),(∀b,S b->bh b)->aT w F ds cs S->aT w bh (j.shares ds) cs (λ_=>False)
 |[],_,_,_,h=>h
 |d::ds,cs,S,bI,h=>by
  simp only[j.shares];rw[aT]at h⊢;obtain⟨bK,bJ,bT,cI,R,U,aw,aQ,bk,bS⟩:=h;exact⟨bK,bJ,_,_,R,al.shared aZ d _ _ (λb I=>bI _ (aQ _ I)) U,aT.shared aZ ds _ _ (λb I=>bI _ (bk _ I)) aw,λ_ h=>h,λ_ h=>h,λ_ h=>h.elim⟩
end
def j.sub:ace->j->Option j
 |[],d=>some d
 |k::q,.agg ar=>match ar[k]? with
  |some d=>j.sub q d
  |none=>none
 |k::q,.tuple ar=>match ar[k]? with
  |some d=>j.sub q d
  |none=>none
 |i::q,.ao _ xs=>match xs[i]? with
  |some d=>j.sub q d
  |none=>none
 |0::q,.aV d=>j.sub q d
 |_::_,_=>none
def j.put:ace->j->j->j
 |[],n,_=>n
 |k::q,n,.agg ar=>match ar[k]? with
  |some d=>.agg (ar.set k (j.put q n d))
  |none=>.agg ar
 |k::q,n,.tuple ar=>match ar[k]? with
  |some d=>.tuple (ar.set k (j.put q n d))
  |none=>.tuple ar
 |i::q,n,.ao sz xs=>match xs[i]? with
  |some d=>.ao sz (xs.set i (j.put q n d))
  |none=>.ao sz xs
 |0::q,n,.aV d=>.aV (j.put q n d)
 |_::_,_,d=>d
def mG (w:World) (b o n:Nat):ach:=(range n).map λaB=>(w.cell? ⟨b,o+aB,none⟩).getD undef
theorem gJ.mG {w:World} {b o:Nat} {cs:ach} (h:gJ w b o cs):mG w b o cs.length=cs:=by
 unfold cG.mG;apply ext_getElem?;intro i;rw[getElem?_map];by_cases ax:i<cs.length
 .have:cs[i]? =some cs[i]:=getElem?_eq_getElem ax;simp[ax,h i _ this]
 .simp[ax]
def cM (w:World):ace->j->ach->Option (Nat×Nat)->Option (j×ach×Option (Nat×Nat))
 |[],d,cs,a=>some (d,cs,a)
 |k::q,.agg ar,cs,a=>match ar[k]? with
  |some d=>cM w q d ((cs.drop (j.di (ar.take k))).take d.wd) (a.map λl=>(l.1,l.2+j.di (ar.take k)))
  |none=>none
 |k::q,.tuple ar,cs,a=>match ar[k]? with
  |some d=>cM w q d ((cs.drop (j.di (ar.take k))).take d.wd) (a.map λl=>(l.1,l.2+j.di (ar.take k)))
  |none=>none
 |i::q,.ao sz xs,cs,_=>match xs[i]?,cs with
  |some d,[.slice (some ⟨b,_,_⟩) _ _]=>cM w q d (mG w b (i*sz) sz) (some (b,i*sz))
  |_,_=>none
 |0::q,.aV d,cs,_=>match cs with
  |[.pointer (some ⟨b,_,_⟩)]=>cM w q d (mG w b 0 d.wd) (some (b,0))
  |_=>none
 |_::_,_,_,_=>none
theorem r1 (bK e6 bJ:ach) (n m:Nat) (R:bK.length=n) (U:e6.length=m):((bK++(e6++bJ)).drop n).take m=e6:=by
 rw[drop_left' R,take_left' U]
theorem aT.pick {w:World} {F:Nat->Prop}:∀(ds:acj) (cs:ach) (S:Nat->Prop) (k:Nat) (d:j),
  aT w F ds cs S->ds[k]? =some d->∃(bK e6 bJ:ach) (bT gU:Nat->Prop),cs=bK++(e6++bJ)/\bK.length=j.di (ds.take k)/\
   (∀b,bT b->S b)/\(∀b,gU b->S b)/\(∀b,bT b->¬gU b)/\al w F d e6 gU/\
   ∀(au:World) (bd:j) (r2:ach) (aG:Nat->Prop),(∀b,F b->au.heap[b]? =w.heap[b]?)->(∀b,bT b->au.heap[b]? =w.heap[b]?)->
    al au F bd r2 aG->(∀b,aG b->¬bT b)->aT au F (ds.set k bd) (bK++(r2++bJ)) (λb=>bT b\/aG b)
 |[],_,_,_,_,_,ak=>by simp at ak
 |x::ds,cs,S,0,d,h,ak=>by
  rw[aT]at h;obtain⟨bK,bJ,gK,fR,rfl,R,U,bx,I,ly⟩:=h;simp at ak;subst ak;refine⟨[],bK,bJ,fR,gK,rfl,rfl,I,bx,λb I bx=>ly _ bx I,R,?_⟩;intro au bd r2 aG aZ bI ad h9;simp only[set_cons_zero,nil_append];rw[aT];exact⟨r2,bJ,aG,fR,rfl,ad,aT.frame aZ _ _ _ bI U,λb h=>.inr h,λb h=>.inl h,λb h=>h9 b h⟩
 |x::ds,cs,S,k+1,d,h,ak=>by
  rw[aT]at h;obtain⟨n5,NX,gK,fR,rfl,R,U,bx,I,ly⟩:=h;simp only[getElem?_cons_succ]at ak;have hl:=al.length _ _ _ R;obtain⟨bK,e6,bJ,bT,gU,rfl,i0,qQ,i2,i3,i5,Bs⟩:=aT.pick ds NX fR k d U ak;refine⟨n5++bK,e6,bJ,λb=>gK b\/bT b,gU,by simp,by simp[j.di,hl,i0],?_,λb h=>I _ (i2 _ h),?_,i5,?_⟩
  .rintro b (h|h)
   .exact bx _ h
   .exact I _ (qQ _ h)
  .rintro b (h|h) ak
   .exact ly _ h (i2 _ ak)
   .exact i3 _ h ak
  .intro au bd r2 aG aZ bI ad h9;simp only[set_cons_succ];rw[aT];refine⟨n5,bK++(r2++bJ),gK,λb=>bT b\/aG b,by simp,al.frame aZ _ _ _ (λb I=>bI b (.inl I)) R,
    Bs au bd r2 aG aZ (λb I=>bI b (.inr I)) ad (λb I aj=>h9 b I (.inr aj)),λb h=>.inl (.inl h),?_,?_⟩
   .rintro b (h|h)
    .exact .inl (.inr h)
    .exact .inr h
   .rintro b h (bC|bC)
    .exact ly _ h (qQ _ bC)
    .exact h9 _ bC (.inl h)
theorem Bt:∀(ar:acj) (k:Nat) (x y:j),ar[k]? =some x->y.wd=x.wd->j.di (ar.set k y)=j.di ar:=by
 intro ar;induction ar with
 |nil=>intro k x y h;simp at h
 |cons a ar ih=>
  intro k x y h e;cases k with
  |zero=>simp at h;subst h;simp[j.di,e]
  |succ k=>simp at h;simp[j.di,ih k x y h e]
theorem r3 {sz:Nat}:∀(xs:acj),(∀d∈xs,d.wd=sz)->j.di xs=xs.length*sz
 |[],_=>by simp[j.di]
 |x::xs,h=>by
  rw[j.di,h x (by simp),r3 xs (λd ad=>h d (by simp[ad])),length_cons,Nat.add_mul,Nat.one_mul,Nat.add_comm]
theorem j.tO:∀(q:ace) (av d bd:j),j.sub q av=some d->bd.wd=d.wd->(j.put q bd av).wd=av.wd:=by
 intro q;induction q with
 |nil=>intro av d bd h e;simp[j.sub]at h;subst h;simpa [j.put]using e
 |cons k q ih=>
  intro av d bd h e;cases av with
  |agg ar=>
   simp only[j.sub]at h;split at h
   .rename_i x ae;simp only[j.put,ae,j.wd];exact Bt _ _ _ _ ae (ih _ _ _ h e)
   .cases h
  |tuple ar=>
   simp only[j.sub]at h;split at h
   .rename_i x ae;simp only[j.put,ae,j.wd];exact Bt _ _ _ _ ae (ih _ _ _ h e)
   .cases h
  |ao sz xs=>
   simp only[j.sub]at h;split at h
   .rename_i x ae;simp only[j.put,ae,j.wd]
   .cases h
  |aV x=>
   cases k with
   |zero=>simp only[j.put,j.wd]
   |succ k=>simp[j.sub]at h
  |_=>simp[j.sub]at h
theorem Bu {sz:Nat} {xs:acj} {i:Nat} {y:j} (h:∀d∈xs,d.wd=sz) (a6:y.wd=sz):∀d∈xs.set i y,d.wd=sz:=by
 intro d ad;rcases mem_or_eq_of_mem_set ad with ad|rfl
 .exact h d ad
 .exact a6
theorem tP {w:World} {b:Nat} {cur:Array Value} {e:TypeId} {fr:Nat×Nat} (h:w.heap[b]? =some (.cells cur e fr)) {l m r:ach} (aj:cur.toList=l++(m++r)):
  mG w b l.length m.length=m:=by
 refine gJ.mG (λaB c cp=>?_);have cW:aB<m.length:=(List.getElem?_eq_some_iff.1 cp).1;have:cur.toList[l.length+aB]? =some c:=by
  rw[aj,getElem?_append_right (by omega),getElem?_append_left (by omega)];rw[<-cp];congr 1;omega
 simp[World.cell?,h];simpa using this
def Flat (w:World) (F:Nat->Prop) (q:ace) (av:j) (cs:ach) (a:Option (Nat×Nat)) (d:j) (cn:ach) (bG:Option (Nat×Nat)) (dd:Nat->Prop):Prop:=
 ∃l r:ach,cs=l++(cn++r)/\bG=a.map (λx=>(x.1,x.2+l.length))/\
  ∀(au:World) (bd:j) (eZ:ach) (aG:Nat->Prop),(∀b,F b->au.heap[b]? =w.heap[b]?)->(∀b,dd b->au.heap[b]? =w.heap[b]?)->
   bd.wd=d.wd->al au F bd eZ aG->(∀b,aG b->¬dd b)->al au F (j.put q bd av) (l++(eZ++r)) (λb=>dd b\/aG b)
def Deep (w:World) (F:Nat->Prop) (q:ace) (av:j) (cs:ach) (d:j) (cn:ach) (bG:Option (Nat×Nat)) (dd:Nat->Prop):Prop:=
 ∃(b:Nat) (cur:Array Value) (e:TypeId) (fr:Nat×Nat) (l r:ach),bG=some (b,l.length)/\dd b/\w.heap[b]? =some (.cells cur e fr)/\l8 fr cur.size/\cur.toList=l++(cn++r)/\
  ∀(au:World) (bd:j) (eZ:ach) (aG:Nat->Prop),(∀b,F b->au.heap[b]? =w.heap[b]?)->(∀c,dd c->c≠b->au.heap[c]? =w.heap[c]?)->
   au.heap[b]? =some (.cells (l++(eZ++r)).toArray e fr)->
   bd.wd=d.wd->al au F bd eZ aG->(∀b,aG b->¬dd b)->al au F (j.put q bd av) cs (λb=>dd b\/aG b)
theorem ctx {w:World} {F:Nat->Prop}:∀(q:ace) (av:j) (cs:ach) (S:Nat->Prop) (a:Option (Nat×Nat)) (d:j),
  al w F av cs S->j.sub q av=some d->∃(cn:ach) (bG:Option (Nat×Nat)) (dd eG:Nat->Prop),cM w q av cs a=some (d,cn,bG)/\
   (∀b,dd b->S b)/\(∀b,eG b->S b)/\(∀b,dd b->¬eG b)/\al w F d cn eG/\(Flat w F q av cs a d cn bG dd\/Deep w F q av cs d cn bG dd):=by
 intro q;induction q with
 |nil=>
  intro av cs S a d h ad;simp[j.sub]at ad;subst ad;refine⟨cs,a,λ_=>False,S,rfl,λ_ h=>h.elim,λ_ h=>h,λ_ h=>h.elim,h,.inl ⟨[],[],by simp,?_,?_⟩⟩
  .cases a<;>simp
  .intro au bd eZ aG _ _ hw fQ _;simp only[j.put,nil_append,append_nil];exact al.mono (λ_ h=>h) _ _ _ _ (λb h=>.inr h) fQ
 |cons k q ih=>
  have fields:∀(mk:acj->j) (Bv:∀(w:World) (F:Nat->Prop) (ar:acj) (cs:ach) (S:Nat->Prop),al w F (mk ar) cs S=aT w F ar cs S) (ar:acj) (cs:ach) (S:Nat->Prop) (a:Option (Nat×Nat)) (x d:j),
    (js:∀bd,j.put (k::q) bd (mk ar)=mk (ar.set k (j.put q bd x)))->aT w F ar cs S->ar[k]? =some x->j.sub q x=some d->
    ∃(cn:ach) (bG:Option (Nat×Nat)) (dd eG:Nat->Prop),cM w q x ((cs.drop (j.di (ar.take k))).take x.wd) (a.map λl=>(l.1,l.2+j.di (ar.take k)))=some (d,cn,bG)/\
    (∀b,dd b->S b)/\(∀b,eG b->S b)/\(∀b,dd b->¬eG b)/\al w F d cn eG/\(Flat w F (k::q) (mk ar) cs a d cn bG dd\/Deep w F (k::q) (mk ar) cs d cn bG dd):=by
   intro mk Bv ar cs S a x d js h ae ad;obtain⟨bK,e6,bJ,bT,gU,rfl,gL,e0,f_,gA,fe,lz⟩:=aT.pick ar cs S k x h ae;have hl:=al.length _ _ _ fe;rw[r1 bK e6 bJ _ _ gL hl];obtain⟨cn,bG,dd,eG,g0,g1,g2,g3,g4,g5⟩:=ih x _ gU (a.map λl=>(l.1,l.2+j.di (ar.take k))) d fe ad;refine⟨cn,bG,λb=>bT b\/dd b,eG,g0,?_,λb I=>f_ _ (g2 _ I),?_,g4,?_⟩
   .rintro b (h|h)
    .exact e0 _ h
    .exact f_ _ (g1 _ h)
   .rintro b (h|h) ad
    .exact gA _ h (g2 _ ad)
    .exact g3 _ h ad
   .have ef:∀(b:Nat) (aG:Nat->Prop),(bT b\/dd b\/aG b)->((bT b\/dd b)\/aG b):=by
     rintro b aG (I|I|I)
     .exact .inl (.inl I)
     .exact .inl (.inr I)
     .exact .inr I
    rcases g5 with⟨l,r,rfl,aN,aP⟩|⟨b,cur,e,fr,l,r,aH,aN,aP,bQ,b_,bM⟩
    .refine .inl ⟨bK++l,r++bJ,by simp,?_,?_⟩
     .rw[aN,<-gL];cases a<;>simp[Nat.add_assoc]
     .intro au bd eZ aG aZ bI hw fQ h9;have cQ:=aP au bd eZ aG aZ (λb I=>bI b (.inr I)) hw fQ (λb I aj=>h9 b I (.inr aj));have bl:=lz au _ _ _ aZ (λb I=>bI b (.inl I)) cQ (by
       rintro b (I|I) R
       .exact gA _ R (g1 _ I)
       .exact h9 _ I (.inl R))
      rw[js,Bv];have:=aT.mono (λ_ h=>h) _ _ _ _ (λb=>ef b aG) bl;simpa using this
    .refine .inr ⟨b,cur,e,fr,l,r,aH,.inr aN,aP,bQ,b_,?_⟩;intro au bd eZ aG aZ bI hS hw fQ h9;have cQ:=bM au bd eZ aG aZ (λc aj=>bI c (.inr aj)) hS hw fQ (λb I aj=>h9 b I (.inr aj));have bl:=lz au _ _ _ aZ (λc aj=>bI c (.inl aj) (by rintro rfl;exact gA _ aj (g1 _ aN))) cQ (by
       rintro b (I|I) R
       .exact gA _ R (g1 _ I)
       .exact h9 _ I (.inl R))
     rw[js,Bv];exact aT.mono (λ_ h=>h) _ _ _ _ (λb=>ef b aG) bl
  intro av cs S a d h ad;cases av with
  |agg ar=>
   simp only[j.sub]at ad;split at ad
   .rename_i x ae;rw[al]at h;have:=fields .agg (λ_ _ _ _ _=>by rw[al]) ar cs S a x d (λbd=>by simp only[j.put,ae]) h ae ad;simpa only[cM,ae]using this
   .cases ad
  |tuple ar=>
   simp only[j.sub]at ad;split at ad
   .rename_i x ae;rw[al]at h;have:=fields .tuple (λ_ _ _ _ _=>by rw[al]) ar cs S a x d (λbd=>by simp only[j.put,ae]) h ae ad;simpa only[cM,ae]using this
   .cases ad
  |ao sz xs=>
   simp only[j.sub]at ad;split at ad
   .rename_i x ae;rw[al]at h;rcases h with⟨rfl,_,rfl⟩|⟨b,cap,cur,e,fr,cS,rfl,U,aw,aQ,bk,bS,bL,da,hR,gu,k5⟩
    .simp at ae
    .obtain⟨bK,e6,bJ,bT,gU,p,gL,e0,f_,gA,fe,lz⟩:=aT.pick xs _ cS k x hR ae;have hl:=al.length _ _ _ fe;have NY:k<xs.length:=(List.getElem?_eq_some_iff.1 ae).1;have vO:x.wd=sz:=da x (mem_of_getElem? ae);have a_:j.di (xs.take k)=k*sz:=by
      rw[r3 _ (λd ad=>da d (mem_of_mem_take ad))];rw[length_take,Nat.min_eq_left (by omega)]
     obtain⟨pY,jM⟩:∃pY,cur.toList=bK++(e6++(bJ++pY)):=by
      refine⟨cur.toList.drop (xs.length*sz),?_⟩;have:=(take_append_drop (xs.length*sz) cur.toList).symm;rw[p]at this;simpa using this
     have iy:mG w b (k*sz) sz=e6:=by
      have:=tP aw jM
      rwa [gL,a_,hl,vO]at this
     obtain⟨cn,bG,dd,eG,g0,g1,g2,g3,g4,g5⟩:=ih x _ gU (some (b,k*sz)) d fe ad;have js:∀bd,j.put (k::q) bd (.ao sz xs)= .ao sz (xs.set k (j.put q bd x)):=λbd=>by simp only[j.put,ae]
     refine⟨cn,bG,λc=>c=b\/bT c\/dd c,eG,?_,?_,λc aj=>gu _ (f_ _ (g2 _ aj)),?_,g4,.inr ?_⟩
     .simp only[cM,ae,iy];exact g0
     .rintro c (rfl|h|h)
      .exact U
      .exact gu _ (e0 _ h)
      .exact gu _ (f_ _ (g1 _ h))
     .rintro c (rfl|h|h) ad
      .exact k5 (f_ _ (g2 _ ad))
      .exact gA _ h (g2 _ ad)
      .exact g3 _ h ad
     .have jN:∀bd,bd.wd=d.wd->(j.put q bd x).wd=sz:=λbd hw=>(j.tO q x d bd ad hw).trans vO;rcases g5 with⟨l,r,rfl,aN,aP⟩|⟨eA,Bw,fH,yA,l,r,aH,aN,aP,bQ,b_,bM⟩
      .refine⟨b,cur,e,fr,bK++l,r++(bJ++pY),?_,.inl rfl,aw,aQ.low,?_,?_⟩
       .rw[aN];simp[gL,a_]
       .rw[jM];simp
       .intro au bd eZ aG aZ bI hS hw fQ h9;have cQ:=aP au bd eZ aG aZ (λc aj=>bI c (.inr (.inr aj)) (by rintro rfl;exact k5 (f_ _ (g1 _ aj)))) hw fQ (λb I aj=>h9 b I (.inr (.inr aj)));have bl:=lz au _ _ _ aZ (λc aj=>bI c (.inr (.inl aj)) (by rintro rfl;exact k5 (e0 _ aj))) cQ (by
         rintro b (I|I) R
         .exact gA _ R (g1 _ I)
         .exact h9 _ I (.inr (.inl R)))
        have vP:=al.length _ _ _ fQ;have vQ:=al.length _ _ _ g4;rw[js,al];refine .inr ⟨b,cap,_,e,fr,λb=>bT b\/dd b\/aG b,by simp,.inl (.inl rfl),hS,?_,by simpa using bk,bS,?_,Bu da (jN bd hw),?_,?_,?_⟩
        .have:(bK++l++(eZ++(r++(bJ++pY)))).toArray.size=cur.size:=by
          have:cur.size=cur.toList.length:=by simp
          rw[this,jM];simp[vP,vQ,hw]
         rw[this];exact aQ
        .rw[<-bL];have:cur.size=cur.toList.length:=by simp
         rw[this,jM];simp[vP,vQ,hw]
        .have hlen:(bK++(l++(eZ++r)++bJ)).length=xs.length*sz:=by
          have:=congrArg length p;rw[length_take,Nat.min_eq_left (by simp[bL];exact mul_le_mul_right _ bk)]at this;rw[this];simp[vP,vQ,hw]
         have:(bK++l++(eZ++(r++(bJ++pY))))=(bK++(l++(eZ++r)++bJ))++pY:=by simp
         rw[length_set];simp only[this];rw[take_left' hlen];exact bl
        .rintro c (h|h|h)
         .exact .inl (.inr (.inl h))
         .exact .inl (.inr (.inr h))
         .exact .inr h
        .rintro(h|h|h)
         .exact k5 (e0 _ h)
         .exact k5 (f_ _ (g1 _ h))
         .exact h9 _ h (.inl rfl)
      .refine⟨eA,Bw,fH,yA,l,r,aH,.inr (.inr aN),aP,bQ,b_,?_⟩;intro au bd eZ aG aZ bI hS hw fQ h9;have cQ:=bM au bd eZ aG aZ (λc aj c9=>bI c (.inr (.inr aj)) c9) hS hw fQ (λb I aj=>h9 b I (.inr (.inr aj)));have c9:∀c,bT c->c≠eA:=by rintro c aj rfl;exact gA _ aj (g1 _ aN)
       have bl:=lz au _ _ _ aZ (λc aj=>bI c (.inr (.inl aj)) (c9 c aj)) cQ (by
        rintro b (I|I) R
        .exact gA _ R (g1 _ I)
        .exact h9 _ I (.inr (.inl R)))
       have Bx:b≠eA:=by rintro rfl;exact k5 (f_ _ (g1 _ aN))
       rw[js,al];refine .inr ⟨b,cap,cur,e,fr,λb=>bT b\/dd b\/aG b,by simp,.inl (.inl rfl),(bI b (.inl rfl) Bx).trans aw,aQ,by simpa using bk,bS,bL,Bu da (jN bd hw),?_,?_,?_⟩
       .rw[length_set,p];exact bl
       .rintro c (h|h|h)
        .exact .inl (.inr (.inl h))
        .exact .inl (.inr (.inr h))
        .exact .inr h
       .rintro(h|h|h)
        .exact k5 (e0 _ h)
        .exact k5 (f_ _ (g1 _ h))
        .exact h9 _ h (.inl rfl)
   .cases ad
  |aV x=>
   cases k with
   |succ k=>simp[j.sub]at ad
   |zero=>
    simp only[j.sub]at ad;rw[al]at h;obtain⟨b,cur,e,fr,cS,rfl,U,aw,aQ,bk,bS,bL⟩:=h;have hl:=al.length _ _ _ bk;have iy:mG w b 0 x.wd=cur.toList:=by
     have:=tP (l:=[]) (m:=cur.toList) (r:=[]) aw (by simp)
     rwa [hl]at this
    obtain⟨cn,bG,dd,eG,g0,g1,g2,g3,g4,g5⟩:=ih x _ cS (some (b,0)) d bk ad;have js:∀bd,j.put (0::q) bd (.aV x)= .aV (j.put q bd x):=λbd=>rfl;refine⟨cn,bG,λc=>c=b\/dd c,eG,?_,?_,λc aj=>bS _ (g2 _ aj),?_,g4,.inr ?_⟩
    .simp only[cM,iy];exact g0
    .rintro c (rfl|h)
     .exact U
     .exact bS _ (g1 _ h)
    .rintro c (rfl|h) ad
     .exact bL (g2 _ ad)
     .exact g3 _ h ad
    .rcases g5 with⟨l,r,aH,aN,aP⟩|⟨eA,Bw,fH,yA,l,r,aH,aN,aP,bQ,b_,bM⟩
     .refine⟨b,cur,e,fr,l,r,?_,.inl rfl,aw,aQ,aH,?_⟩
      .rw[aN];simp
      .intro au bd eZ aG aZ bI hS hw fQ h9;have cQ:=aP au bd eZ aG aZ (λc aj=>bI c (.inr aj) (by rintro rfl;exact bL (g1 _ aj))) hw fQ (λb I aj=>h9 b I (.inr aj));have vP:=al.length _ _ _ fQ;have vQ:=al.length _ _ _ g4;rw[js,al];refine⟨b,_,e,fr,λb=>dd b\/aG b,rfl,.inl (.inl rfl),hS,?_,cQ,?_,?_⟩
       .have:(l++(eZ++r)).toArray.size=cur.size:=by
         have:cur.size=cur.toList.length:=by simp
         rw[this,aH];simp[vP,vQ,hw]
        rw[this];exact aQ
       .rintro c (h|h)
        .exact .inl (.inr h)
        .exact .inr h
       .rintro(h|h)
        .exact bL (g1 _ h)
        .exact h9 _ h (.inl rfl)
     .refine⟨eA,Bw,fH,yA,l,r,aH,.inr aN,aP,bQ,b_,?_⟩;intro au bd eZ aG aZ bI hS hw fQ h9;have cQ:=bM au bd eZ aG aZ (λc aj c9=>bI c (.inr aj) c9) hS hw fQ (λb I aj=>h9 b I (.inr aj));have Bx:b≠eA:=by rintro rfl;exact bL (g1 _ aN)
      rw[js,al];refine⟨b,cur,e,fr,λb=>dd b\/aG b,rfl,.inl (.inl rfl),(bI b (.inl rfl) Bx).trans aw,aQ,cQ,?_,?_⟩
      .rintro c (h|h)
       .exact .inl (.inr h)
       .exact .inr h
      .rintro(h|h)
       .exact bL (g1 _ h)
       .exact h9 _ h (.inl rfl)
  |_=>simp[j.sub]at ad
mutual
def j.plain:j->Bool
 | .ao _ _=>false
 | .aV _=>false
 | .b3 _=>false
 | .a8 _ _=>false
 | .cH _=>false
 | .agg ar=>j.dj ar
 | .tuple ar=>j.dj ar
 |_=>true
def j.dj:acj->Bool
 |[]=>true
 |d::ds=>d.plain&&j.dj ds
end
mutual
def j.cv:j->j
 | .ao _ _=>.hole
 | .aV _=>.hole
 | .b3 _=>.hole
 | .a8 _ _=>.hole
 | .cH _=>.hole
 | .agg ar=>.agg (j.kA ar)
 | .tuple ar=>.tuple (j.kA ar)
 |d=>d
def j.kA:acj->acj
 |[]=>[]
 |d::ds=>d.cv::j.kA ds
end
mutual
theorem j.qS:∀d:j,d.cv.wd=d.wd
 | .hole=>rfl
 | .bool _=>rfl
 | .eT=>rfl
 | .int _ _=>rfl
 | .str _=>rfl
 | .c6=>rfl
 | .bc=>rfl
 | .slice _=>rfl
 | .ao _ _=>rfl
 | .ref _=>rfl
 | .aV _=>rfl
 | .agg ar=>by simp only[j.cv,j.wd];exact j.Bz ar
 | .tuple ar=>by simp only[j.cv,j.wd];exact j.Bz ar
 | .fn _ _=>rfl
 | .h _ _=>rfl
 | .ai _ _=>rfl
 | .I _ _=>rfl
 | .b3 _=>rfl
 | .a8 _ _=>rfl
 | .cH _=>rfl
theorem j.Bz:∀ds:acj,j.di (j.kA ds)=j.di ds
 |[]=>rfl
 |d::ds=>by simp only[j.kA,j.di];rw[j.qS d,j.Bz ds]
end
mutual
theorem al.cv {w:World} {F:Nat->Prop}:∀(d:j) (cs:ach) (S aG:Nat->Prop),al w F d cs S->al w F d.cv cs aG
 | .hole,_,_,_,h=>h
 | .bool _,_,_,_,h=>h
 | .eT,_,_,_,h=>h
 | .int _ _,_,_,_,h=>h
 | .str _,_,_,_,h=>h
 | .c6,_,_,_,h=>h
 | .bc,_,_,_,h=>h
 | .slice xs,cs,S,aG,h=>by
   show al w F (.slice xs) cs aG;rw[al]at h⊢;exact h
 | .ao sz xs,cs,S,aG,h=>by
   rw[j.cv,al];rw[al]at h;rcases h with⟨_,_,rfl⟩|⟨b,cap,cur,e,fr,cS,rfl,_⟩
   .exact⟨_,rfl,rfl⟩
   .exact⟨_,rfl,rfl⟩
 | .ref d,cs,S,aG,h=>by
   show al w F (.ref d) cs aG;rw[al]at h⊢;exact h
 | .aV d,cs,S,aG,h=>by
   rw[j.cv,al];rw[al]at h;obtain⟨b,cur,e,fr,cS,rfl,_⟩:=h;exact⟨_,rfl,rfl⟩
 | .agg ar,cs,S,aG,h=>by rw[j.cv,al];rw[al]at h;exact aT.cv ar _ _ _ h
 | .tuple ar,cs,S,aG,h=>by rw[j.cv,al];rw[al]at h;exact aT.cv ar _ _ _ h
 | .fn _ _,_,_,_,h=>h
 | .h _ _,_,_,_,h=>h
 | .ai _ _,_,_,_,h=>h
 | .I _ _,_,_,_,h=>h
 | .b3 _,_,_,_,h=>by rw[al]at h;rw[j.cv,al];exact k4.one h
 | .a8 _ _,_,_,_,h=>by rw[al]at h;obtain⟨arr,rfl,_⟩:=h;rw[j.cv,al];exact⟨_,rfl,rfl⟩
 | .cH _,_,_,_,h=>by rw[al]at h;obtain⟨b,v,e,fr,rfl,_⟩:=h;rw[j.cv,al];exact⟨_,rfl,rfl⟩
theorem aT.cv {w:World} {F:Nat->Prop}:∀(ds:acj) (cs:ach) (S aG:Nat->Prop),aT w F ds cs S->aT w F (j.kA ds) cs aG
 |[],_,_,_,h=>h
 |d::ds,cs,S,aG,h=>by
  rw[j.kA,aT];rw[aT]at h;obtain⟨bK,bJ,bT,cI,R,U,aw,aQ,bk,bS⟩:=h;exact⟨bK,bJ,λ_=>False,λ_=>False,R,al.cv d _ _ _ U,aT.cv ds _ _ _ aw,λ_ h=>h.elim,λ_ h=>h.elim,λ_ h=>h.elim⟩
end
mutual
theorem al.plain {w:World} {F:Nat->Prop}:∀(d:j) (cs:ach) (S aG:Nat->Prop),d.plain=true->al w F d cs S->al w F d cs aG
 | .hole,_,_,_,_,h=>h
 | .bool _,_,_,_,_,h=>h
 | .eT,_,_,_,_,h=>h
 | .int _ _,_,_,_,_,h=>h
 | .str _,_,_,_,_,h=>h
 | .c6,_,_,_,_,h=>h
 | .bc,_,_,_,_,h=>h
 | .slice xs,cs,S,aG,_,h=>by rw[al]at h⊢;exact h
 | .ao sz xs,cs,S,aG,ai,h=>by simp[j.plain]at ai
 | .ref d,cs,S,aG,_,h=>by rw[al]at h⊢;exact h
 | .aV d,cs,S,aG,ai,h=>by simp[j.plain]at ai
 | .agg ar,cs,S,aG,ai,h=>by rw[al]at h⊢;exact aT.plain ar _ _ _ ai h
 | .tuple ar,cs,S,aG,ai,h=>by rw[al]at h⊢;exact aT.plain ar _ _ _ ai h
 | .fn _ _,_,_,_,_,h=>h
 | .h _ _,_,_,_,_,h=>h
 | .ai _ _,_,_,_,_,h=>h
 | .I _ _,_,_,_,_,h=>h
 | .b3 _,_,_,_,ai,_=>by simp[j.plain]at ai
 | .a8 _ _,_,_,_,ai,_=>by simp[j.plain]at ai
 | .cH _,_,_,_,ai,_=>by simp[j.plain]at ai
theorem aT.plain {w:World} {F:Nat->Prop}:∀(ds:acj) (cs:ach) (S aG:Nat->Prop),j.dj ds=true->aT w F ds cs S->aT w F ds cs aG
 |[],_,_,_,_,h=>h
 |d::ds,cs,S,aG,ai,h=>by
  rw[aT]at h⊢;simp only[j.dj,Bool.and_eq_true]at ai;obtain⟨bK,bJ,bT,cI,R,U,aw,aQ,bk,bS⟩:=h;exact⟨bK,bJ,λ_=>False,λ_=>False,R,al.plain d _ _ _ ai.1 U,aT.plain ds _ _ _ ai.2 aw,λ_ h=>h.elim,λ_ h=>h.elim,λ_ h=>h.elim⟩
end
def j.eP:ace->j->Bool
 |[],_=>false
 |k::q,.agg ar=>match ar[k]? with
  |some d=>j.eP q d
  |none=>false
 |k::q,.tuple ar=>match ar[k]? with
  |some d=>j.eP q d
  |none=>false
 |_::_,.ao _ _=>true
 |_::_,.aV _=>true
 |_::_,_=>false
theorem yB {ar:acj} (h:j.dj ar=true) {k:Nat} {d:j} (ak:ar[k]? =some d):d.plain=true:=by
 induction ar generalizing k with
 |nil=>simp at ak
 |cons a ar ih=>
  simp only[j.dj,Bool.and_eq_true]at h;cases k with
  |zero=>simp at ak;subst ak;exact h.1
  |succ k=>simp at ak;exact ih h.2 ak
theorem j.GH:∀(q:ace) (d:j),d.plain=true->j.eP q d=false:=by
 intro q;induction q with
 |nil=>intros;rfl
 |cons k q ih=>
  intro d ad;cases d<;>first|rfl|(simp[j.plain]at ad;done)|skip
  all_goals
   simp only[j.eP];split
   .rename_i ar x ae;exact ih _ (yB (by simpa [j.plain]using ad) ae)
   .rfl
theorem j.BA:∀(q:ace) (d e:j),d.plain=true->j.sub q d=some e->e.plain=true:=by
 intro q;induction q with
 |nil=>intro d e ad h;simp[j.sub]at h;exact h▸ad
 |cons k q ih=>
  intro d e ad h;cases d<;>first|(simp[j.plain]at ad;done)|(simp[j.sub]at h;done)|skip
  all_goals
   simp only[j.sub]at h;split at h
   .rename_i ar x ae;exact ih _ _ (yB (by simpa [j.plain]using ad) ae) h
   .cases h
theorem yC {w au:World} {F:Nat->Prop}:∀(q:ace) (av:j) (cs:ach) (S:Nat->Prop) (a:Option (Nat×Nat)) (d:j),
  al w F av cs S->j.sub q av=some d->(∀b,S b->au.heap[b]? =w.heap[b]?)->cM au q av cs a=cM w q av cs a:=by
 intro q;induction q with
 |nil=>intros;rfl
 |cons k q ih=>
  have fields:∀(ar:acj) (cs:ach) (S:Nat->Prop) (a:Option (Nat×Nat)) (x d:j),aT w F ar cs S->ar[k]? =some x->j.sub q x=some d->
    (∀b,S b->au.heap[b]? =w.heap[b]?)->
    cM au q x ((cs.drop (j.di (ar.take k))).take x.wd) (a.map λl=>(l.1,l.2+j.di (ar.take k)))=cM w q x ((cs.drop (j.di (ar.take k))).take x.wd) (a.map λl=>(l.1,l.2+j.di (ar.take k))):=by
   intro ar cs S a x d h ae ad bI;obtain⟨bK,e6,bJ,bT,gU,rfl,gL,e0,f_,gA,fe,lz⟩:=aT.pick ar cs S k x h ae;rw[r1 bK e6 bJ _ _ gL (al.length _ _ _ fe)];exact ih x e6 gU _ d fe ad (λb I=>bI b (f_ _ I))
  intro av cs S a d h ad bI;cases av with
  |agg ar=>
   simp only[j.sub]at ad;split at ad
   .rename_i x ae;rw[al]at h;simp only[cM,ae];exact fields ar cs S a x d h ae ad bI
   .cases ad
  |tuple ar=>
   simp only[j.sub]at ad;split at ad
   .rename_i x ae;rw[al]at h;simp only[cM,ae];exact fields ar cs S a x d h ae ad bI
   .cases ad
  |ao sz xs=>
   simp only[j.sub]at ad;split at ad
   .rename_i x ae;rw[al]at h;rcases h with⟨rfl,_,rfl⟩|⟨b,cap,cur,e,fr,cS,rfl,U,aw,aQ,bk,bS,bL,da,hR,gu,k5⟩
    .simp at ae
    .obtain⟨bK,e6,bJ,bT,gU,p,gL,e0,f_,gA,fe,lz⟩:=aT.pick xs _ cS k x hR ae;have hl:=al.length _ _ _ fe;have NY:k<xs.length:=(List.getElem?_eq_some_iff.1 ae).1;have vO:x.wd=sz:=da x (mem_of_getElem? ae);have a_:j.di (xs.take k)=k*sz:=by
      rw[r3 _ (λd ad=>da d (mem_of_mem_take ad))];rw[length_take,Nat.min_eq_left (by omega)]
     obtain⟨pY,jM⟩:∃pY,cur.toList=bK++(e6++(bJ++pY)):=by
      refine⟨cur.toList.drop (xs.length*sz),?_⟩;have:=(take_append_drop (xs.length*sz) cur.toList).symm;rw[p]at this;simpa using this
     have iy:mG w b (k*sz) sz=e6:=by
      have:=tP aw jM
      rwa [gL,a_,hl,vO]at this
     have BB:mG au b (k*sz) sz=e6:=by
      have:=tP ((bI b U).trans aw) jM
      rwa [gL,a_,hl,vO]at this
     simp only[cM,ae,iy,BB];exact ih x e6 gU _ d fe ad (λc aj=>bI c (gu _ (f_ _ aj)))
   .cases ad
  |aV x=>
   cases k with
   |succ k=>simp[j.sub]at ad
   |zero=>
    simp only[j.sub]at ad;rw[al]at h;obtain⟨b,cur,e,fr,cS,rfl,U,aw,aQ,bk,bS,bL⟩:=h;have hl:=al.length _ _ _ bk;have iy:mG w b 0 x.wd=cur.toList:=by
     have:=tP (l:=[]) (m:=cur.toList) (r:=[]) aw (by simp)
     rwa [hl]at this
    have BB:mG au b 0 x.wd=cur.toList:=by
     have:=tP (l:=[]) (m:=cur.toList) (r:=[]) ((bI b U).trans aw) (by simp)
     rwa [hl]at this
    simp only[cM,iy,BB];exact ih x cur.toList cS _ d bk ad (λc aj=>bI c (bS _ aj))
  |_=>simp[j.sub]at ad
def gM:Value->ach
 | .agg cs=>cs.toList
 |v=>[v]
def bZ:Value->ach
 | .tuple vs=>vs.toList.flatMap gM
 |v=>gM v
def hh:j->Value->Prop
 | .agg _,v=>∃arr,v= .agg arr
 |_,v=>Value.ej v=true
def cU:j->Value->Prop
 | .tuple ds,v=>∃arr:Array Value,v= .tuple arr/\arr.size=ds.length/\∀(k:Nat) (d:j) (x:Value),ds[k]? =some d->arr[k]? =some x->hh d x/\(∀vs,d≠.tuple vs)/\(gM x).length=d.wd
 |d,v=>hh d v
abbrev ag:=Nat->j
mutual
def az (w:World) (F:Nat->Prop) (s:ag) (an:Nat->Value):j->Value->(Nat->Prop)->Prop
 | .hole,_,_=>True
 | .h x q,v,_=>∀d,j.sub q (s x)=some d->d.plain=false->∃cn a,cM w q (s x) (bZ (an x)) none=some (d,cn,a)/\bZ v=cn/\cU d v
 | .ai x q,v,_=>∀d,j.sub q (s x)=some d->j.eP q (s x)=true->∃cn b o,cM w q (s x) (bZ (an x)) none=some (d,cn,some (b,o))/\v= .pointer (some ⟨b,o,none⟩)
 | .I x k,v,_=>(s x).plain=false->∃b cur e fr,v= .pointer (some ⟨b,k,none⟩)/\F b/\w.heap[b]? =some (.cells cur e fr)/\cur.toList=bZ (an x)
 | .fn f cap,v,_=>∃arr:Array Value,v= .func (.func f) #[] arr/\cJ w F s an cap arr.toList
 | .bool b,v,S=>cU (.bool b) v/\al w F (.bool b) (bZ v) S
 | .eT,v,S=>cU .eT v/\al w F .eT (bZ v) S
 | .int k n,v,S=>cU (.int k n) v/\al w F (.int k n) (bZ v) S
 | .str x,v,S=>cU (.str x) v/\al w F (.str x) (bZ v) S
 | .c6,v,S=>cU .c6 v/\al w F .c6 (bZ v) S
 | .bc,v,S=>cU .bc v/\al w F .bc (bZ v) S
 | .slice xs,v,S=>cU (.slice xs) v/\al w F (.slice xs) (bZ v) S
 | .ao sz xs,v,S=>cU (.ao sz xs) v/\al w F (.ao sz xs) (bZ v) S
 | .ref d,v,S=>cU (.ref d) v/\al w F (.ref d) (bZ v) S
 | .aV d,v,S=>cU (.aV d) v/\al w F (.aV d) (bZ v) S
 | .agg d,v,S=>cU (.agg d) v/\al w F (.agg d) (bZ v) S
 | .tuple d,v,S=>cU (.tuple d) v/\al w F (.tuple d) (bZ v) S
 | .b3 o,v,S=>cU (.b3 o) v/\al w F (.b3 o) (bZ v) S
 | .a8 f d,v,S=>cU (.a8 f d) v/\al w F (.a8 f d) (bZ v) S
 | .cH d,v,S=>cU (.cH d) v/\al w F (.cH d) (bZ v) S
def cJ (w:World) (F:Nat->Prop) (s:ag) (an:Nat->Value):acj->ach->Prop
 |[],vs=>vs=[]
 |d::ds,vs=>∃v eg,vs=v::eg/\az w F s an d v (λ_=>False)/\cJ w F s an ds eg
end
def j.tree:j->Bool
 | .hole=>false
 | .h _ _=>false
 | .ai _ _=>false
 | .I _ _=>false
 | .fn _ _=>false
 |_=>true
theorem az.b8 {w:World} {F:Nat->Prop} {s:ag} {an:Nat->Value} {d:j} {v:Value} {S:Nat->Prop} (aK:d.tree=true):
  az w F s an d v S↔(cU d v/\al w F d (bZ v) S):=by
 cases d<;>first|(simp[j.tree]at aK;done)|rw[az]
theorem gN {q:ace} {av d:j} (h:j.sub q av=some d) (ai:d.plain=false\/j.eP q av=true):av.tree=true:=by
 cases q with
 |nil=>
  simp[j.sub]at h;subst h;rcases ai with ai|ai
  .cases av<;>first|rfl|(simp[j.plain]at ai)
  .simp[j.eP]at ai
 |cons k q=>cases av<;>first|rfl|(simp[j.sub]at h)
theorem BC {d:j} (h:d.plain=false):d.tree=true:=gN (q:=[]) (by simp only[j.sub]) (.inl h)
theorem az.frame {w au:World} {F bh:Nat->Prop} {s:ag} {an:Nat->Value} {Sx:Nat->Nat->Prop} (aZ:∀b,F b->au.heap[b]? =w.heap[b]?) (GI:∀b,F b->bh b)
  (bI:∀x b,Sx x b->au.heap[b]? =w.heap[b]?) (l_:∀x,az w F s an (s x) (an x) (Sx x)):
  ∀(d:j) (v:Value) (S:Nat->Prop),(∀b,S b->au.heap[b]? =w.heap[b]?)->az w F s an d v S->az au bh s an d v S:=by
 have jO:∀(x:Nat) (q:ace) (d:j),j.sub q (s x)=some d->(d.plain=false\/j.eP q (s x)=true)->cM au q (s x) (bZ (an x)) none=cM w q (s x) (bZ (an x)) none:=by
  intro x q d ad ai;have aK:=gN ad ai;have:=l_ x;rw[az.b8 aK]at this;exact yC q _ _ (Sx x) none d this.2 ad (bI x)
 have NZ:∀(d:j) (v:Value) (S:Nat->Prop),d.tree=true->(∀b,S b->au.heap[b]? =w.heap[b]?)->az w F s an d v S->az au bh s an d v S:=by
  intro d v S aK r4 h;rw[az.b8 aK]at h⊢;exact⟨h.1,al.mono GI _ _ _ _ (λ_ h=>h) (al.frame aZ _ _ _ r4 h.2)⟩
 have step:∀n,(∀(d:j) (v:Value) (S:Nat->Prop),SizeOf.sizeOf d<=n->(∀b,S b->au.heap[b]? =w.heap[b]?)->az w F s an d v S->az au bh s an d v S)/\
   (∀(ds:acj) (vs:ach),SizeOf.sizeOf ds<=n->cJ w F s an ds vs->cJ au bh s an ds vs):=by
  intro n;induction n with
  |zero=>
   refine⟨λd v S bD=>?_,λds vs bD=>?_⟩
   .cases d<;>simp at bD<;>omega
   .cases ds<;>simp at bD<;>omega
  |succ n ih=>
   refine⟨λd v S bD r4 h=>?_,λds vs bD h=>?_⟩
   .cases d with
    |hole=>rw[az];trivial
    |h x q=>
     rw[az]at h⊢;intro d ad ai;rw[jO x q d ad (.inl ai)];exact h d ad ai
    |ai x q=>
     rw[az]at h⊢;intro d ad ai;rw[jO x q d ad (.inr ai)];exact h d ad ai
    |I x k=>
     rw[az]at h⊢;intro ai;obtain⟨b,cur,e,fr,R,U,aw,aQ⟩:=h ai;exact⟨b,cur,e,fr,R,GI b U,(aZ b U).trans aw,aQ⟩
    |fn f cap=>
     rw[az]at h⊢;obtain⟨arr,rfl,aj⟩:=h;exact⟨arr,rfl,ih.2 _ _ (by simp at bD;omega) aj⟩
    |_=>exact NZ _ _ _ rfl r4 h
   .cases ds with
    |nil=>rw[cJ]at h⊢;exact h
    |cons d ds=>
     rw[cJ]at h⊢;obtain⟨v,eg,rfl,R,U⟩:=h;simp at bD;exact⟨v,eg,rfl,ih.1 _ _ _ (by omega) (λ_ h=>h.elim) R,ih.2 _ _ (by omega) U⟩
 intro d v S r4 h;exact(step (SizeOf.sizeOf d)).1 d v S (Nat.le_refl _) r4 h
mutual
def cj (x:Nat):j->j
 | .h y q=>if y=x then .hole else .h y q
 | .ai y q=>if y=x then .hole else .ai y q
 | .I y k=>if y=x then .hole else .I y k
 | .fn f cap=>.fn f (h_ x cap)
 |d=>d
def h_ (x:Nat):acj->acj
 |[]=>[]
 |d::ds=>cj x d::h_ x ds
end
mutual
def bU (x:Nat):j->j
 | .h y q=>if y=x then(if q=[]then .h y q else .hole)else .h y q
 | .ai y q=>if y=x then .hole else .ai y q
 | .fn f cap=>.fn f (hH x cap)
 |d=>d
def hH (x:Nat):acj->acj
 |[]=>[]
 |d::ds=>bU x d::hH x ds
end
def cw {α:Type} (f:Nat->α) (t:Nat) (v:α):Nat->α:=λu=>if u=t then v else f u
def jP (t:Nat) (s:ag):ag:=λu=>cj t (s u)
def gO (t:Nat) (s:ag):ag:=λu=>bU t (s u)
theorem lA {α:Type} (f:Nat->α) (t:Nat) (v:α):cw f t v t=v:=by simp[cw]
theorem ia {α:Type} (f:Nat->α) {t u:Nat} (v:α) (h:u≠t):cw f t v u=f u:=by simp[cw,h]
theorem N0 {t:Nat} {d:j} (h:d.tree=true):cj t d=d:=by cases d<;>first|rfl|(simp[j.tree]at h)
theorem BD {t:Nat} {d:j} (h:d.tree=true):bU t d=d:=by cases d<;>first|rfl|(simp[j.tree]at h)
theorem N1 {t:Nat} {d:j} (h:(cj t d).tree=true):d.tree=true/\cj t d=d:=by
 cases d<;>first|exact⟨rfl,rfl⟩|(simp only[cj]at h;first|(split at h<;>simp[j.tree]at h)|simp[j.tree]at h)
theorem yD {t:Nat} {d:j} (h:(bU t d).tree=true):d.tree=true/\bU t d=d:=by
 cases d<;>first|exact⟨rfl,rfl⟩|(simp only[bU]at h;first|(split at h<;>(try split at h)<;>simp[j.tree]at h)|simp[j.tree]at h)
section
variable {w:World} {F:Nat->Prop} {s aq:ag} {an gP:Nat->Value} {t:Nat}
theorem az.cj (gj:∀x,x≠t->(aq x).tree=true->aq x=s x/\gP x=an x):∀(n:Nat),
  (∀(d:j) (v:Value) (S:Nat->Prop),SizeOf.sizeOf d<=n->az w F s an d v S->az w F aq gP (cG.cj t d) v S)/\
  (∀(ds:acj) (vs:ach),SizeOf.sizeOf ds<=n->cJ w F s an ds vs->cJ w F aq gP (h_ t ds) vs):=by
 intro n;induction n with
 |zero=>
  refine⟨λd v S bD=>?_,λds vs bD=>?_⟩
  .cases d<;>simp at bD<;>omega
  .cases ds<;>simp at bD<;>omega
 |succ n ih=>
  refine⟨λd v S bD h=>?_,λds vs bD h=>?_⟩
  .cases d with
   |hole=>rw[cG.cj.eq_def];simp only;rw[az];trivial
   |h x q=>
    simp only[cG.cj];split
    .rw[az];trivial
    .rename_i ae;rw[az]at h⊢;intro d ad ai;obtain⟨aH,aN⟩:=gj x ae (gN ad (.inl ai));rw[aH,aN];rw[aH]at ad;exact h d ad ai
   |ai x q=>
    simp only[cG.cj];split
    .rw[az];trivial
    .rename_i ae;rw[az]at h⊢;intro d ad ai;obtain⟨aH,aN⟩:=gj x ae (gN ad (.inr ai));rw[aH,aN];rw[aH]at ad ai;exact h d ad ai
   |I x k=>
    simp only[cG.cj];split
    .rw[az];trivial
    .rename_i ae;rw[az]at h⊢;intro ai;obtain⟨aH,aN⟩:=gj x ae (BC ai);rw[aN];rw[aH]at ai;exact h ai
   |fn f cap=>
    simp only[cG.cj];rw[az]at h⊢;obtain⟨arr,rfl,aj⟩:=h;exact⟨arr,rfl,ih.2 _ _ (by simp at bD;omega) aj⟩
   |_=>
    rw[N0 (by rfl)];exact(az.b8 (by rfl)).2 ((az.b8 (by rfl)).1 h)
  .cases ds with
   |nil=>rw[h_,cJ];rw[cJ]at h;exact h
   |cons d ds=>
    rw[h_,cJ];rw[cJ]at h;obtain⟨v,eg,rfl,R,U⟩:=h;simp at bD;exact⟨v,eg,rfl,ih.1 _ _ _ (by omega) R,ih.2 _ _ (by omega) U⟩
theorem az.bU {au:World} (gj:∀x,x≠t->(aq x).tree=true->aq x=s x/\gP x=an x) (e1:gP t=an t) (e7:(aq t).plain=false->(s t).plain=false/\∀v,cU (s t) v->cU (aq t) v)
  (jO:∀x q d,x≠t->j.sub q (s x)=some d->(d.plain=false\/j.eP q (s x)=true)->cM au q (s x) (bZ (an x)) none=cM w q (s x) (bZ (an x)) none)
  (aZ:∀b,F b->au.heap[b]? =w.heap[b]?):∀(n:Nat),
  (∀(d:j) (v:Value) (S:Nat->Prop),SizeOf.sizeOf d<=n->(∀b,S b->au.heap[b]? =w.heap[b]?)->az w F s an d v S->az au F aq gP (cG.bU t d) v S)/\
  (∀(ds:acj) (vs:ach),SizeOf.sizeOf ds<=n->cJ w F s an ds vs->cJ au F aq gP (hH t ds) vs):=by
 intro n;induction n with
 |zero=>
  refine⟨λd v S bD=>?_,λds vs bD=>?_⟩
  .cases d<;>simp at bD<;>omega
  .cases ds<;>simp at bD<;>omega
 |succ n ih=>
  refine⟨λd v S bD r4 h=>?_,λds vs bD h=>?_⟩
  .cases d with
   |hole=>rw[cG.bU.eq_def];simp only;rw[az];trivial
   |h x q=>
    simp only[cG.bU];split
    .rename_i ae;subst ae;split
     .rename_i cb;subst cb;rw[az]at h⊢;intro d ad ai;simp only[j.sub,some.injEq]at ad;subst ad;obtain⟨cQ,bl⟩:=e7 ai;obtain⟨cn,a,g1,g2,g3⟩:=h (s x) rfl cQ;simp only[cM,some.injEq,Prod.mk.injEq]at g1;obtain⟨-,g1,aaJ⟩:=g1;refine⟨bZ (gP x),none,rfl,?_,bl _ g3⟩;rw[e1,g2,<-g1]
     .rw[az];trivial
    .rename_i ae;rw[az]at h⊢;intro d ad ai;obtain⟨aH,aN⟩:=gj x ae (gN ad (.inl ai));rw[aH,aN];rw[aH]at ad;rw[jO x q d ae ad (.inl ai)];exact h d ad ai
   |ai x q=>
    simp only[cG.bU];split
    .rw[az];trivial
    .rename_i ae;rw[az]at h⊢;intro d ad ai;obtain⟨aH,aN⟩:=gj x ae (gN ad (.inr ai));rw[aH,aN];rw[aH]at ad ai;rw[jO x q d ae ad (.inr ai)];exact h d ad ai
   |I x k=>
    simp only[cG.bU];rw[az]at h⊢;intro ai;by_cases ae:x=t
    .subst ae;obtain⟨b,cur,e,fr,R,U,aw,aQ⟩:=h (e7 ai).1;exact⟨b,cur,e,fr,R,U,(aZ b U).trans aw,by rw[e1];exact aQ⟩
    .obtain⟨aH,aN⟩:=gj x ae (BC ai);rw[aH]at ai;obtain⟨b,cur,e,fr,R,U,aw,aQ⟩:=h ai;exact⟨b,cur,e,fr,R,U,(aZ b U).trans aw,by rw[aN];exact aQ⟩
   |fn f cap=>
    simp only[cG.bU];rw[az]at h⊢;obtain⟨arr,rfl,aj⟩:=h;exact⟨arr,rfl,ih.2 _ _ (by simp at bD;omega) aj⟩
   |_=>
    rw[BD (by rfl)];have bC:=(az.b8 (by rfl)).1 h;exact(az.b8 (by rfl)).2 ⟨bC.1,al.frame aZ _ _ _ r4 bC.2⟩
  .cases ds with
   |nil=>rw[hH,cJ];rw[cJ]at h;exact h
   |cons d ds=>
    rw[hH,cJ];rw[cJ]at h;obtain⟨v,eg,rfl,R,U⟩:=h;simp at bD;exact⟨v,eg,rfl,ih.1 _ _ _ (by omega) (λ_ h=>h.elim) R,ih.2 _ _ (by omega) U⟩
theorem az.void (gj:∀x,x≠t->(aq x).tree=true->aq x=s x/\gP x=an x) (n6:(aq t).plain=true):∀(n:Nat),
  (∀(d:j) (v:Value) (S:Nat->Prop),SizeOf.sizeOf d<=n->az w F s an d v S->az w F aq gP d v S)/\
  (∀(ds:acj) (vs:ach),SizeOf.sizeOf ds<=n->cJ w F s an ds vs->cJ w F aq gP ds vs):=by
 intro n;induction n with
 |zero=>
  refine⟨λd v S bD=>?_,λds vs bD=>?_⟩
  .cases d<;>simp at bD<;>omega
  .cases ds<;>simp at bD<;>omega
 |succ n ih=>
  refine⟨λd v S bD h=>?_,λds vs bD h=>?_⟩
  .cases d with
   |hole=>rw[az];trivial
   |h x q=>
    rw[az]at h⊢;intro d ad ai;by_cases ae:x=t
    .subst ae;rw[j.BA _ _ _ n6 ad]at ai;cases ai
    .obtain⟨aH,aN⟩:=gj x ae (gN ad (.inl ai));rw[aH,aN];rw[aH]at ad;exact h d ad ai
   |ai x q=>
    rw[az]at h⊢;intro d ad ai;by_cases ae:x=t
    .subst ae;rw[j.GH _ _ n6]at ai;cases ai
    .obtain⟨aH,aN⟩:=gj x ae (gN ad (.inr ai));rw[aH,aN];rw[aH]at ad ai;exact h d ad ai
   |I x k=>
    rw[az]at h⊢;intro ai;by_cases ae:x=t
    .subst ae;rw[n6]at ai;cases ai
    .obtain⟨aH,aN⟩:=gj x ae (BC ai);rw[aN];rw[aH]at ai;exact h ai
   |fn f cap=>
    rw[az]at h⊢;obtain⟨arr,rfl,aj⟩:=h;exact⟨arr,rfl,ih.2 _ _ (by simp at bD;omega) aj⟩
   |_=>exact(az.b8 (by rfl)).2 ((az.b8 (by rfl)).1 h)
  .cases ds with
   |nil=>rw[cJ];rw[cJ]at h;exact h
   |cons d ds=>
    rw[cJ];rw[cJ]at h;obtain⟨v,eg,rfl,R,U⟩:=h;simp at bD;exact⟨v,eg,rfl,ih.1 _ _ _ (by omega) R,ih.2 _ _ (by omega) U⟩
end
def BE:Bool:=false
def Out (w w0:World):Prop:=w.output=w0.output/\(BE=true->w0.drawn<=w.drawn)
theorem Out.trans {a b c:World} (h:Out a b) (U:Out b c):Out a c:=⟨Eq.trans h.1 U.1,λd=>Nat.le_trans (U.2 d) (h.2 d)⟩
theorem Out.refl (w:World):Out w w:=⟨rfl,λ_=>Nat.le_refl _⟩
def N2:List (Nat×(Obj->Prop)):=[]
def tQ (w:World) (X:Nat->Prop):Prop:=∀p∈N2,p.1<w.heap.size/\¬X p.1/\∃o,w.heap[p.1]? =some o/\p.2 o
theorem tQ.next {w au:World} {X Y:Nat->Prop} (h:tQ w X) (J:w.heap.size<=au.heap.size) (I:∀b,b<w.heap.size->¬X b->au.heap[b]? =w.heap[b]?) (a6:∀b,Y b->X b\/w.heap.size<=b):tQ au Y:=λp ai=>by
 obtain⟨R,U,o,aw,aQ⟩:=h p ai;refine⟨Nat.lt_of_lt_of_le R J,λh=>?_,o,(I _ R U).trans aw,aQ⟩;rcases a6 _ h with h|h
 .exact U h
 .omega
structure bm (w0:World) (F0 X F:Nat->Prop) (S:Nat->Nat->Prop) (s:ag) (an:Nat->Value) (w:World):Prop where
 ff:∀b,F0 b->F b
 fI:∀b,F b->F0 b\/X b\/w0.heap.size<=b
 dP:∀b,F b->b<w.heap.size
 dt:∀t b,S t b->b<w.heap.size
 eh:∀t b,S t b->¬F b
 dW:∀t u b,t≠u->S t b->¬S u b
 cS:∀t b,S t b->X b\/w0.heap.size<=b
 cz:∀t,az w F s an (s t) (an t) (S t)
 old:∀b,b<w0.heap.size->¬X b->w.heap[b]? =w0.heap[b]?
 size:w0.heap.size<=w.heap.size
 os:w.os=w0.os
 tape:w.tape=w0.tape
 output:Out w w0
 fu:tQ w0 X
section
variable {w0 w au:World} {F0 X F:Nat->Prop} {S:Nat->Nat->Prop} {s:ag} {an:Nat->Value}
theorem bm.grow (h:bm w0 F0 X F S s an w) (I:∀b,b<w.heap.size->au.heap[b]? =w.heap[b]?) (J:w.heap.size<=au.heap.size)
  (R:au.os=w.os) (U:au.tape=w.tape) (aw:Out au w):bm w0 F0 X F S s an au where
 ff:=h.ff
 fI:=h.fI
 dP:=λb aZ=>Nat.lt_of_lt_of_le (h.dP b aZ) J
 dt:=λt b aZ=>Nat.lt_of_lt_of_le (h.dt t b aZ) J
 eh:=h.eh
 dW:=h.dW
 cS:=h.cS
 cz:=λt=>az.frame (Sx:=S) (λb aZ=>I b (h.dP b aZ)) (λ_ h=>h) (λx b bI=>I b (h.dt x b bI)) h.cz _ _ _ (λb bI=>I b (h.dt t b bI)) (h.cz t)
 old:=λb cW ib=>(I b (Nat.lt_of_lt_of_le cW h.size)).trans (h.old b cW ib)
 size:=Nat.le_trans h.size J
 os:=R.trans h.os
 tape:=U.trans h.tape
 output:=aw.trans h.output
 fu:=h.fu
def fg (S:Nat->Nat->Prop) (t:Nat) (Sn:Nat->Prop):Nat->Nat->Prop:=λu b=>if u=t then Sn b else S u b
theorem vR (S:Nat->Nat->Prop) (t:Nat) (Sn:Nat->Prop):fg S t Sn t=Sn:=by funext b;simp[fg]
theorem vS (S:Nat->Nat->Prop) {t u:Nat} (Sn:Nat->Prop) (h:u≠t):fg S t Sn u=S u:=by funext b;simp[fg,h]
theorem bm.qT (h:bm w0 F0 X F S s an w) {t:Nat} {d:j} {v:Value} (ai:d.plain=true) (ad:az w F s an d v (λ_=>False)):
  bm w0 F0 X F (fg S t (λ_=>False)) (cw s t d) (cw an t v) w where
 ff:=h.ff
 fI:=h.fI
 dP:=h.dP
 dt:=λu b I=>by simp only[fg]at I;split at I;exact I.elim;exact h.dt u b I
 eh:=λu b I=>by simp only[fg]at I;split at I;exact I.elim;exact h.eh u b I
 dW:=λu x b c9 I ae=>by
  simp only[fg]at I ae;split at I
  .exact I.elim
  .split at ae
   .exact ae.elim
   .exact h.dW u x b c9 I ae
 cS:=λu b I=>by simp only[fg]at I;split at I;exact I.elim;exact h.cS u b I
 cz:=λu=>by
  have gj:∀x,x≠t->(cw s t d x).tree=true->cw s t d x=s x/\cw an t v x=an x:=λx ae _=>⟨ia _ _ ae,ia _ _ ae⟩
  have n6:(cw s t d t).plain=true:=by rw[lA];exact ai
  by_cases hu:u=t
  .subst hu;rw[lA,lA,vR];exact(az.void gj n6 _).1 _ _ _ (Nat.le_refl _) ad
  .rw[ia _ _ hu,ia _ _ hu,vS _ _ hu];exact(az.void gj n6 _).1 _ _ _ (Nat.le_refl _) (h.cz u)
 old:=h.old
 size:=h.size
 os:=h.os
 tape:=h.tape
 output:=h.output
 fu:=h.fu
theorem bm.yE (h:bm w0 F0 X F S s an w) {t:Nat} {d:j} {v:Value} {Sn:Nat->Prop} (ad:d.tree=true) (J:cU d v) (aE:al w F d (bZ v) Sn)
  (cW:∀b,Sn b->b<w.heap.size) (aZ:∀b,Sn b->¬F b) (bI:∀u b,u≠t->Sn b->¬S u b) (bg:∀b,Sn b->X b\/w0.heap.size<=b):
  bm w0 F0 X F (fg S t Sn) (cw (jP t s) t d) (cw an t v) w where
 ff:=h.ff
 fI:=h.fI
 dP:=h.dP
 dt:=λu b I=>by simp only[fg]at I;split at I;exact cW b I;exact h.dt u b I
 eh:=λu b I=>by simp only[fg]at I;split at I;exact aZ b I;exact h.eh u b I
 dW:=λu x b c9 I ae=>by
  simp only[fg]at I ae;split at I
  .rename_i hu;rw[if_neg (λe=>c9 (hu.trans e.symm))]at ae;exact bI x b (λe=>c9 (hu.trans e.symm)) I ae
  .rename_i hu;split at ae
   .exact bI u b hu ae I
   .exact h.dW u x b c9 I ae
 cS:=λu b I=>by simp only[fg]at I;split at I;exact bg b I;exact h.cS u b I
 cz:=λu=>by
  have gj:∀x,x≠t->(cw (jP t s) t d x).tree=true->cw (jP t s) t d x=s x/\cw an t v x=an x:=λx ae aK=>by
   rw[ia _ _ ae]at aK⊢;exact⟨(N1 aK).2,ia _ _ ae⟩
  by_cases hu:u=t
  .subst hu;rw[lA,lA,vR];exact(az.b8 ad).2 ⟨J,aE⟩
  .rw[ia _ _ hu,ia _ _ hu,vS _ _ hu];exact(az.cj gj _).1 _ _ _ (Nat.le_refl _) (h.cz u)
 old:=h.old
 size:=h.size
 os:=h.os
 tape:=h.tape
 output:=h.output
 fu:=h.fu
theorem qU (k:Nat) (q:ace) (bd x:j):(∃ar gs,x= .agg ar/\j.put (k::q) bd x= .agg gs)\/(∃ar gs,x= .tuple ar/\j.put (k::q) bd x= .tuple gs)\/
  (∃sz xs b0,x= .ao sz xs/\j.put (k::q) bd x= .ao sz b0)\/(∃y z,x= .aV y/\j.put (k::q) bd x= .aV z)\/j.put (k::q) bd x=x:=by
 cases x with
 |agg ar=>simp only[j.put];split<;>exact .inl ⟨_,_,rfl,rfl⟩
 |tuple ar=>simp only[j.put];split<;>exact .inr (.inl ⟨_,_,rfl,rfl⟩)
 |ao sz ar=>simp only[j.put];split<;>exact .inr (.inr (.inl ⟨_,_,_,rfl,rfl⟩))
 |aV y=>cases k<;>exact .inr (.inr (.inr (.inl ⟨_,_,rfl,rfl⟩)))
 |_=>exact .inr (.inr (.inr (.inr rfl)))
theorem GJ {k:Nat} {q:ace} {bd x:j} {v:Value} (h:hh x v):hh (j.put (k::q) bd x) v:=by
 rcases qU k q bd x with⟨ar,gs,rfl,e⟩|⟨ar,gs,rfl,e⟩|⟨sz,xs,b0,rfl,e⟩|⟨y,z,rfl,e⟩|e<;>rw[e]<;>exact h
theorem GK {k:Nat} {q:ace} {bd x:j} (h:∀vs,x≠.tuple vs):∀vs,j.put (k::q) bd x≠.tuple vs:=by
 rcases qU k q bd x with⟨ar,gs,rfl,e⟩|⟨ar,gs,rfl,e⟩|⟨sz,xs,b0,rfl,e⟩|⟨y,z,rfl,e⟩|e<;>rw[e]<;>first|exact h|(intro vs bC;cases bC;done)|exact(h _ rfl).elim
theorem vT {k:Nat} {q:ace} {d bd av:j} {v:Value} (h:cU av v) (ad:j.sub (k::q) av=some d) (R:∀v,hh d v->hh bd v) (U:(∀vs,d≠.tuple vs)->∀vs,bd≠.tuple vs) (aw:bd.wd=d.wd):
  cU (j.put (k::q) bd av) v:=by
 cases av with
 |tuple ar=>
  simp only[j.sub]at ad;split at ad
  .rename_i x ae;simp only[j.put,ae];simp only[cU]at h⊢;obtain⟨arr,rfl,bD,l_⟩:=h;refine⟨arr,rfl,by simpa using bD,λaB e y he a6=>?_⟩;rw[getElem?_set]at he;split at he
   .rename_i BF;subst BF;split at he
    .simp only[some.injEq]at he;subst he;obtain⟨g1,g2,g3⟩:=l_ k x y ae a6;refine⟨?_,?_,g3.trans (j.tO q x d bd ad aw).symm⟩
     .cases q with
      |nil=>
       simp only[j.sub,some.injEq]at ad;subst ad;exact R _ g1
      |cons b1 q=>exact GJ g1
     .cases q with
      |nil=>
       simp only[j.sub,some.injEq]at ad;subst ad;exact U g2
      |cons b1 q=>exact GK g2
    .cases he
   .exact l_ aB e y he a6
  .cases ad
 |agg ar=>simp only[j.put];split<;>exact h
 |ao sz ar=>simp only[j.put];split<;>exact h
 |aV y=>cases k<;>exact h
 |_=>exact h
theorem BG {d:j} {v:Value} (h:hh d v):hh d.cv v:=by cases d<;>exact h
theorem GL {s:ag} {x:Nat} {q:ace} {d:j} (ad:j.sub q (s x)=some d) (ai:d.plain=false):
  (cw (gO x s) x (j.put q d.cv (s x)) x).plain=false->(s x).plain=false/\∀v,cU (s x) v->cU (cw (gO x s) x (j.put q d.cv (s x)) x) v:=by
  rw[lA];intro dQ;cases q with
  |nil=>
   exfalso;have:∀d:j,d.cv.plain=true:=by
    intro d;have key:∀n,(∀d:j,SizeOf.sizeOf d<=n->d.cv.plain=true)/\(∀ds:acj,SizeOf.sizeOf ds<=n->j.dj (j.kA ds)=true):=by
     intro n;induction n with
     |zero=>exact⟨λd bD=>by cases d<;>simp at bD<;>omega,λds bD=>by cases ds<;>simp at bD<;>omega⟩
     |succ n ih=>
      refine⟨λd bD=>?_,λds bD=>?_⟩
      .cases d with
       |agg ar=>simp only[j.cv,j.plain];exact ih.2 _ (by simp at bD;omega)
       |tuple ar=>simp only[j.cv,j.plain];exact ih.2 _ (by simp at bD;omega)
       |_=>rfl
      .cases ds with
       |nil=>rfl
       |cons d ds=>
        simp at bD;simp only[j.kA,j.dj,Bool.and_eq_true];exact⟨ih.1 _ (by omega),ih.2 _ (by omega)⟩
    exact(key _).1 d (Nat.le_refl _)
   simp only[j.put]at dQ;rw[this]at dQ;cases dQ
  |cons k q=>
   refine⟨?_,λv aE=>vT aE ad (λv h=>BG h) (λh vs e=>?_) (j.qS d)⟩
   .cases cx:(s x).plain with
    |false=>rfl
    |true=>rw[j.BA _ _ _ cx ad]at ai;cases ai
   .cases d<;>first|(exact h _ rfl)|(simp[j.cv]at e)
theorem bm.take (h:bm w0 F0 X F S s an w) {x:Nat} {q:ace} {d:j} (ad:j.sub q (s x)=some d) (ai:d.plain=false):
  ∃(Sn eG:Nat->Prop) (cn:ach) (a:Option (Nat×Nat)),bm w0 F0 X F (fg S x Sn) (cw (gO x s) x (j.put q d.cv (s x))) an w/\
   cM w q (s x) (bZ (an x)) none=some (d,cn,a)/\al w F d cn eG/\(∀b,eG b->S x b)/\(∀b,Sn b->S x b)/\(∀b,eG b->¬Sn b)/\
   (∀(bd:j) (v:Value) (aG:Nat->Prop),az w F s an bd v aG->az w F (cw (gO x s) x (j.put q d.cv (s x))) an (cG.bU x bd) v aG):=by
 have aK:=gN ad (.inl ai);have ae:=h.cz x;rw[az.b8 aK]at ae;obtain⟨cn,a,dd,eG,g0,g1,g2,g3,g4,g5⟩:=ctx q (s x) (bZ (an x)) (S x) none d ae.2 ad;have js:al w F (j.put q d.cv (s x)) (bZ (an x)) dd:=by
  have j5:al w F d.cv cn (λ_=>False):=al.cv _ _ _ _ g4;have ma:∀b,(dd b\/False)->dd b:=λb h=>h.elim id False.elim;rcases g5 with⟨l,r,aH,aN,aP⟩|⟨b,cur,e,fr,l,r,aH,aN,aP,bQ,b_,bM⟩
  .have:=aP w _ cn _ (λ_ _=>rfl) (λ_ _=>rfl) (j.qS d) j5 (λ_ h=>h.elim);rw[<-aH]at this;exact al.mono (λ_ h=>h) _ _ _ _ ma this
  .have:=bM w _ cn _ (λ_ _=>rfl) (λ_ _ _=>rfl) (by rw[aP,<-b_]) (j.qS d) j5 (λ_ h=>h.elim);exact al.mono (λ_ h=>h) _ _ _ _ ma this
 have N3:cU (j.put q d.cv (s x)) (an x)/\(j.put q d.cv (s x)).tree=true\/j.put q d.cv (s x)= .hole:=by
  cases q with
  |nil=>
   simp only[j.sub,some.injEq]at ad;subst ad;simp only[j.put];cases J:s x with
   |ao sz xs=>right;rfl
   |aV y=>right;rfl
   |b3 y=>right;rfl
   |agg ar=>left;rw[J]at ae;exact⟨ae.1,rfl⟩
   |tuple ar=>
    left;rw[J]at ae;refine⟨?_,rfl⟩;simp only[cU,j.cv]at ae⊢;obtain⟨arr,e,bD,l_⟩:=ae.1;have hl:∀ar:acj,j.kA ar=ar.map j.cv:=by
     intro ar;induction ar with
     |nil=>rfl
     |cons a ar ih=>simp[j.kA,ih]
    refine⟨arr,e,by rw[hl];simpa using bD,λk fH y he a6=>?_⟩;rw[hl,getElem?_map]at he;cases ak:ar[k]? with
    |none=>rw[ak]at he;cases he
    |some z=>
     rw[ak]at he;simp only[map_some,some.injEq]at he;subst he;obtain⟨g1,g2,g3⟩:=l_ k z y ak a6;refine⟨BG g1,λvs e=>?_,g3.trans (j.qS z).symm⟩;cases z<;>first|(exact g2 _ rfl)|(simp[j.cv]at e)
   |a8 _ _=>right;simp[j.cv]
   |cH _=>right;simp[j.cv]
   |_=>rw[J]at ai;simp[j.plain]at ai
  |cons k q=>
   left;refine⟨vT ae.1 ad (λv h=>BG h) (λh vs e=>?_) (j.qS d),?_⟩
   .cases d<;>first|(exact h _ rfl)|(simp[j.cv]at e)
   .rcases qU k q d.cv (s x)with⟨ar,gs,aH,e⟩|⟨ar,gs,aH,e⟩|⟨sz,xs,b0,aH,e⟩|⟨y,z,aH,e⟩|e<;>rw[e]<;>first|rfl|exact aK
 refine⟨dd,eG,cn,a,?_,g0,g4,g2,g1,λb R U=>g3 b U R,?_⟩
 rotate_left
 .have gj:∀y,y≠x->(cw (gO x s) x (j.put q d.cv (s x)) y).tree=true->cw (gO x s) x (j.put q d.cv (s x)) y=s y/\an y=an y:=λy a6 aK=>by
   rw[ia _ _ a6]at aK⊢;exact⟨(yD aK).2,rfl⟩
  intro bd v aG fQ;exact(az.bU gj rfl (GL ad ai) (λ_ _ _ _ _ _=>rfl) (λ_ _=>rfl) _).1 _ _ _ (Nat.le_refl _) (λ_ _=>rfl) fQ
 have gj:∀y,y≠x->(cw (gO x s) x (j.put q d.cv (s x)) y).tree=true->cw (gO x s) x (j.put q d.cv (s x)) y=s y/\an y=an y:=λy a6 aK=>by
  rw[ia _ _ a6]at aK⊢;exact⟨(yD aK).2,rfl⟩
 have e7:=GL (s:=s) (x:=x) ad ai;constructor;case ff=>exact h.ff
 case fI=>exact h.fI
 case dP=>exact h.dP
 case dt=>exact λu b I=>by simp only[fg]at I;split at I;exact h.dt x b (g1 b I);exact h.dt u b I
 case eh=>exact λu b I=>by simp only[fg]at I;split at I;exact h.eh x b (g1 b I);exact h.eh u b I
 case dW=>
  intro u y b c9 I a6;simp only[fg]at I a6;split at I
  .rename_i hu;rw[if_neg (λe=>c9 (hu.trans e.symm))]at a6;exact h.dW x y b (λe=>c9 (hu.trans e)) (g1 b I) a6
  .rename_i hu;split at a6
   .exact h.dW u x b hu I (g1 b a6)
   .exact h.dW u y b c9 I a6
 case cS=>exact λu b I=>by simp only[fg]at I;split at I;exact h.cS x b (g1 b I);exact h.cS u b I
 case cz=>
  intro u;by_cases hu:u=x
  .subst hu;rw[lA,vR];rcases N3 with⟨aH,aN⟩|e
   .exact(az.b8 aN).2 ⟨aH,js⟩
   .rw[e,az];trivial
  .rw[ia _ _ hu,vS _ _ hu];exact(az.bU gj rfl e7 (λ_ _ _ _ _ _=>rfl) (λ_ _=>rfl) _).1 _ _ _ (Nat.le_refl _) (λ_ _=>rfl) (h.cz u)
 case old=>exact h.old
 case size=>exact h.size
 case os=>exact h.os
 case tape=>exact h.tape
 case output=>exact h.output
 case fu=>exact h.fu
theorem bm.store (h:bm w0 F0 X F S s an w) {x:Nat} {q:ace} {d bd:j} (ad:j.sub q (s x)=some d) (aj:j.eP q (s x)=true)
  {eZ:ach} {Sn:Nat->Prop} (aE:al w F bd eZ Sn) (jN:bd.wd=d.wd)
  (cW:∀b,Sn b->b<w.heap.size) (aZ:∀b,Sn b->¬F b) (bI:∀u b,Sn b->¬S u b) (bg:∀b,Sn b->X b\/w0.heap.size<=b):
  ∃(cn:ach) (b:Nat) (l r:ach) (cur:Array Value) (e:TypeId) (fr:Nat×Nat),cM w q (s x) (bZ (an x)) none=some (d,cn,some (b,l.length))/\
   w.heap[b]? =some (.cells cur e fr)/\cur.toList=l++(cn++r)/\l8 fr cur.size/\
   ∀au,au.heap[b]? =some (.cells (l++(eZ++r)).toArray e fr)->(∀c,c≠b->au.heap[c]? =w.heap[c]?)->au.heap.size=w.heap.size->au.os=w.os->au.tape=w.tape->Out au w->
    ∃aG,bm w0 F0 X F aG (cw (gO x s) x (j.put q bd (s x))) an au:=by
 have aK:=gN ad (.inr aj);have ae:=h.cz x;rw[az.b8 aK]at ae;obtain⟨cn,a,dd,eG,g0,g1,g2,g3,g4,g5⟩:=ctx q (s x) (bZ (an x)) (S x) none d ae.2 ad;have N4:Deep w F q (s x) (bZ (an x)) d cn a dd:=by
  rcases g5 with⟨l,r,aH,aN,aP⟩|g5
  .exfalso;have ic:∀(q:ace) (av:j) (cs:ach) (a0:Option (Nat×Nat)) (d:j) (cn:ach),j.eP q av=true->cM w q av cs a0=some (d,cn,none)->False:=by
    intro q;induction q with
    |nil=>intro av cs a0 d cn aj;simp[j.eP]at aj
    |cons k q ih=>
     have GM:∀(q:ace) (av:j) (cs:ach) (l:Nat×Nat) (d:j) (cn:ach),cM w q av cs (some l)=some (d,cn,none)->False:=by
      intro q;induction q with
      |nil=>intro av cs l d cn h;simp[cM]at h
      |cons k q yF=>
       intro av cs l d cn h;cases av with
       |agg ar=>rw[cM]at h;split at h;exact yF _ _ _ _ _ h;cases h
       |tuple ar=>rw[cM]at h;split at h;exact yF _ _ _ _ _ h;cases h
       |ao sz xs=>simp only[cM]at h;split at h;exact yF _ _ _ _ _ h;cases h
       |aV y=>
        cases k with
        |zero=>rw[cM.eq_def]at h;simp only at h;split at h;exact yF _ _ _ _ _ h;cases h
        |succ k=>rw[show cM w ((k+1)::q) (.aV y) cs (some l)=none from rfl]at h;cases h
       |_=>simp[cM]at h
     intro av cs a0 d cn aj h;cases av with
     |agg ar=>
      simp only[j.eP]at aj;split at aj
      .rename_i y a6;simp only[cM,a6]at h;exact ih _ _ _ _ _ aj h
      .cases aj
     |tuple ar=>
      simp only[j.eP]at aj;split at aj
      .rename_i y a6;simp only[cM,a6]at h;exact ih _ _ _ _ _ aj h
      .cases aj
     |ao sz xs=>simp only[cM]at h;split at h;exact GM _ _ _ _ _ _ h;cases h
     |aV y=>
      cases k with
      |zero=>rw[cM.eq_def]at h;simp only at h;split at h;exact GM _ _ _ _ _ _ h;cases h
      |succ k=>rw[show cM w ((k+1)::q) (.aV y) cs a0=none from rfl]at h;cases h
     |_=>simp[j.eP]at aj
   simp only[map_none]at aN;subst aN;exact ic _ _ _ _ _ _ aj g0
  .exact g5
 obtain⟨b,cur,e,fr,l,r,rfl,aN,aP,bQ,b_,bM⟩:=N4;refine⟨cn,b,l,r,cur,e,fr,g0,aP,b_,bQ,?_⟩;intro au hS nw dm BH BI r5;have r6:S x b:=g1 _ aN;have oZ:∀c,F c->au.heap[c]? =w.heap[c]? :=λc aj=>nw c (by rintro rfl;exact h.eh x _ r6 aj);have aaK:eZ.length=cn.length:=by rw[al.length _ _ _ aE,al.length _ _ _ g4,jN]
 have js:=bM au bd eZ Sn oZ (λc _ c9=>nw c c9) hS jN
  (al.frame oZ _ _ _ (λc aj=>nw c (by rintro rfl;exact bI x _ aj r6)) aE) (λc aj ma=>bI x c aj (g1 _ ma))
 obtain⟨k,iz,rfl⟩:∃k iz,q=k::iz:=by
  cases q with
  |nil=>simp[j.eP]at aj
  |cons k q=>exact⟨k,q,rfl⟩
 have vU:∀v,cU (s x) v->cU (j.put (k::iz) bd (s x)) v:=by
  intro v aE;rcases qU k iz bd (s x)with⟨ar,gs,aH,e⟩|⟨ar,gs,aH,e⟩|⟨sz,xs,b0,aH,e⟩|⟨y,z,aH,e⟩|e
  .rw[e];rw[aH]at aE;exact aE
  ·
   rw[aH]at aE ad aj⊢;simp only[j.eP]at aj;split at aj
   .rename_i y a6;simp only[j.put,a6];cases iz with
    |nil=>simp[j.eP]at aj
    |cons b1 eu=>
     simp only[cU]at aE⊢;obtain⟨arr,rfl,bD,l_⟩:=aE;refine⟨arr,rfl,by simpa using bD,λaB e j6 he r7=>?_⟩;rw[getElem?_set]at he;split at he
     .rename_i BF;subst BF;split at he
      .simp only[some.injEq]at he;subst he;obtain⟨g1,g2,g3⟩:=l_ _ y j6 a6 r7;simp only[j.sub,a6]at ad;exact⟨GJ g1,GK g2,g3.trans (j.tO (b1::eu) y d bd ad jN).symm⟩
      .cases he
     .exact l_ aB e j6 he r7
   .cases aj
  .rw[e];rw[aH]at aE;exact aE
  .rw[e];rw[aH]at aE;exact aE
  .rw[e];exact aE
 have N5:(j.put (k::iz) bd (s x)).tree=true:=by
  rcases qU k iz bd (s x)with⟨ar,gs,aH,e⟩|⟨ar,gs,aH,e⟩|⟨sz,xs,b0,aH,e⟩|⟨y,z,aH,e⟩|e<;>rw[e]<;>first|rfl|exact aK
 let aq:=cw (gO x s) x (j.put (k::iz) bd (s x))
 have gj:∀y,y≠x->(aq y).tree=true->aq y=s y/\an y=an y:=λy a6 aK=>by
  have e:aq y=bU x (s y):=ia _ _ a6;rw[e]at aK⊢;exact⟨(yD aK).2,rfl⟩
 have e7:(aq x).plain=false->(s x).plain=false/\∀v,cU (s x) v->cU (aq x) v:=by
  intro _;refine⟨?_,?_⟩
  .cases cx:(s x).plain with
   |false=>rfl
   |true=>rw[j.GH _ _ cx]at aj;cases aj
  .simp only[aq,lA];exact vU
 refine⟨fg S x (λc=>dd c\/Sn c),?_⟩;constructor;case ff=>exact h.ff
 case fI=>exact h.fI
 case dP=>exact λb I=>by rw[dm];exact h.dP b I
 case dt=>
  intro u c I;rw[dm];simp only[fg]at I;split at I
  .rcases I with I|I
   .exact h.dt x c (g1 c I)
   .exact cW c I
  .exact h.dt u c I
 case eh=>
  intro u c I;simp only[fg]at I;split at I
  .rcases I with I|I
   .exact h.eh x c (g1 c I)
   .exact aZ c I
  .exact h.eh u c I
 case dW=>
  intro u y c c9 I a6;simp only[fg]at I a6;split at I
  .rename_i hu;rw[if_neg (λe=>c9 (hu.trans e.symm))]at a6;rcases I with I|I
   .exact h.dW x y c (λe=>c9 (hu.trans e)) (g1 c I) a6
   .exact bI y c I a6
  .rename_i hu;split at a6
   .rcases a6 with a6|a6
    .exact h.dW u x c hu I (g1 c a6)
    .exact bI u c a6 I
   .exact h.dW u y c c9 I a6
 case cS=>
  intro u c I;simp only[fg]at I;split at I
  .rcases I with I|I
   .exact h.cS x c (g1 c I)
   .exact bg c I
  .exact h.cS u c I
 case cz=>
  intro u;by_cases hu:u=x
  .subst hu;rw[lA,vR];exact(az.b8 N5).2 ⟨vU _ ae.1,js⟩
  .rw[ia _ _ hu,vS _ _ hu];have c9:∀y c,y≠x->S y c->au.heap[c]? =w.heap[c]? :=λy c a6 aj=>nw c (by rintro rfl;exact h.dW y x c a6 aj r6);refine(az.bU gj rfl e7 (λy eu d2 a6 fJ vV=>?_) oZ _).1 _ _ _ (Nat.le_refl _) (λc aj=>c9 u c hu aj) (h.cz u);have vW:=h.cz y;rw[az.b8 (gN fJ vV)]at vW;exact yC eu _ _ _ none d2 vW.2 fJ (λc aj=>c9 y c a6 aj)
 case old=>
  intro c cW ib;by_cases tR:c=b
  .subst tR;exfalso;rcases h.cS x c r6 with j5|j5
   .exact ib j5
   .omega
  .exact(nw c tR).trans (h.old c cW ib)
 case size=>rw[dm];exact h.size
 case os=>exact BH.trans h.os
 case tape=>exact BI.trans h.tape
 case output=>exact r5.trans h.output
 case fu=>exact h.fu
end
end Go.cG
